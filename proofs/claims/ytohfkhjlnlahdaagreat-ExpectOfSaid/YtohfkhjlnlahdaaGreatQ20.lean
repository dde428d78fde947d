/- Part of the proof. -/
import Derived.Test.YtohfkhjlnlahdaaGreatQ04
import Derived.Maps.OwnSet
import Derived.Maps.OwnOps
import Derived.Test.YtohfkhjlnlahdaaGreatQ06
import Derived.Laws.StructEq
import Derived.Test.YtohfkhjlnlahdaaGreatQ19
set_option linter.all false
namespace Go.Proofs.YtohfkhjlnlahdaaGreat
open Go.RowKit Go.BigFrame
structure RBox (w:World) (rb:Nat) (sv cv tv:Value) (r:RolD):Prop where
 hb:w.heap[rb]?=some (.cells #[.string r.name,sv,cv,tv] 87 (0,0))
 h3:Rl3 w sv cv tv r
theorem RBox.frm {w w':World} {rb:Nat} {E a G:Value} {r:RolD} (h:RBox w rb E a G r) (A:Frm [] w w'):RBox w' rb E a G r:=⟨A.at h.hb (by simp),h.h3.frm A⟩
theorem RBox.lt {w:World} {rb:Nat} {A a E:Value} {r:RolD} (h:RBox w rb A a E r):rb<w.heap.size:=lt_of_block h.hb
theorem RBox.cells {w:World} {rb:Nat} {A h E:Value} {r:RolD} (a:RBox w rb A h E r):w.cell? ⟨rb,0,none⟩=some (.string r.name)∧w.cell? ⟨rb,1,none⟩=some A∧w.cell? ⟨rb,2,none⟩=some h∧w.cell? ⟨rb,3,none⟩=some E:=
 ⟨ae a.hb 0,ae a.hb 1,ae a.hb 2,ae a.hb 3⟩
theorem RBox.val {w:World} {rb:Nat} {h a A:Value} {r:RolD} (E:RBox w rb h a A r):RlV w (.agg #[.string r.name,h,a,A]) r:=⟨h,a,A,rfl,E.h3⟩
set_option maxHeartbeats 2000000 in
set_option maxRecDepth 100000 in
theorem lV (rb:Nat) (i:Nat) (r:RolD) (ad an af:Value) (x:CtrD) (w:World) (R:RBox w rb ad an af r) (aw:r.ctrs.length≤1000) (ab:r.ctrs[i]?=some x) :
  Calls Tryz.prog 204 #[.int .i64 i,.pointer (some ⟨rb,0,none⟩)] w (Ret (.bool (bZ r i x)) (Frm [] w)):=by
 obtain⟨ao,cap,e,al⟩:=R.h3.ctrs
 subst e
 obtain⟨b,o,rfl,c0,ax⟩:=al i x ab
 have aC:=R.lt
 have aB:=aI c0
 have av:(i:Int)<(r.ctrs.length:Int):=by have:=ag ab;omega
 obtain⟨n,U⟩:∃ n,r.ctrs.length=n:=⟨_,rfl⟩
 have K:Hid (Frm [] w (w.alloc (.cells #[.string x.name,.int .i64 x.lim] 244))):=vi ((Frm.refl _ _).alloc _)
 rw[U] at aw av
 obtain⟨ay,az,ap,aA⟩:=R.cells
 rw[U] at ap
 have ai:=vi R
 have V:Hid (∀ A,Frm [] (w.alloc (.cells #[.string x.name,.int .i64 x.lim] 244)) A→A.cell? ⟨rb,0,none⟩=some (.string r.name)∧A.cell? ⟨rb,1,none⟩=some ad∧A.cell? ⟨rb,2,none⟩=some (.slice (some ⟨b,o,none⟩) n cap)∧A.cell? ⟨rb,3,none⟩=some af ∧
   A.cell? ⟨w.heap.size,0,none⟩=some (.string x.name)∧A.cell? ⟨w.heap.size,1,none⟩=some (.int .i64 x.lim)):=vi fun A S=>by
  obtain⟨aq,ar,aj,au⟩:=(ai.out.frm (K.out.trans S)).cells
  rw[U] at aj
  exact⟨aq,ar,aj,au,S.keep (ae (heap_alloc_new w _) 0),S.keep (ae (heap_alloc_new w _) 1)⟩
 have O:Hid (∀ A,Frm [] (w.alloc (.cells #[.string x.name,.int .i64 x.lim] 244)) A→Calls Tryz.prog 205 #[.agg #[.string r.name,ad,.slice (some ⟨b,o,none⟩) n cap,af],.string x.name] A (Ret (.int .i64 (bL r.ctrs x.name)) (Frm [] A))):=vi fun A S=>by
  rw[← U]
  exact gM _ r x.name A (ai.out.frm (K.out.trans S)).val (by omega)
 obtain⟨q,ak⟩:∃ q,bL r.ctrs x.name=q:=⟨_,rfl⟩
 unfold bZ
 rw[ak] at O ⊢
 clear R al ab U ak
 cases h1:aL x.name with
 | false =>
   have I:=vi (dy x.name (w.alloc (.cells #[.string x.name,.int .i64 x.lim] 244)))
   rw[h1] at I
   clear h1
   go_enter Tryz.func204,Tryz.ntmps204
   go_wp2_with (first
    | (go_at_call 165;go_must (refine I.out.mono ?_;rintro e J ⟨rfl,a⟩;have am:=vi (K.out.trans a);clear a)))
   go_ret
   exact⟨rfl,am.out⟩
 | true =>
   have I:=vi (dy x.name (w.alloc (.cells #[.string x.name,.int .i64 x.lim] 244)))
   rw[h1] at I
   clear h1
   by_cases h2:q<(i:Int)
   ·rw[decide_eq_true h2]
    go_enter Tryz.func204,Tryz.ntmps204
    go_wp2_with (first
     | (go_at_call 165;go_must (refine I.out.mono ?_;rintro e J ⟨rfl,a⟩;obtain⟨W,X,Y,aa,G,H⟩:=V.out J a;have E:=vi a;clear a))
     | (go_at_call 205;go_must (refine(O.out _ E.out).mono ?_;rintro e ah ⟨rfl,h⟩;have N:=vi (K.out.trans (E.out.trans h));clear h)))
    go_ret
    exact⟨rfl,N.out⟩
   ·rw[decide_eq_false h2]
    by_cases h3:x.lim<1
    ·rw[decide_eq_true h3]
     go_enter Tryz.func204,Tryz.ntmps204
     go_wp2_with (first
      | (go_at_call 165;go_must (refine I.out.mono ?_;rintro e J ⟨rfl,a⟩;obtain⟨W,X,Y,aa,G,H⟩:=V.out J a;have E:=vi a;clear a))
      | (go_at_call 205;go_must (refine(O.out _ E.out).mono ?_;rintro e ah ⟨rfl,h⟩;replace G:=h.keep G;replace H:=h.keep H;have N:=vi (K.out.trans (E.out.trans h));clear h)))
     go_ret
     exact⟨rfl,N.out⟩
    ·rw[decide_eq_false h3]
     by_cases h4:1000<x.lim
     ·rw[decide_eq_true h4]
      go_enter Tryz.func204,Tryz.ntmps204
      go_wp2_with (first
       | (go_at_call 165;go_must (refine I.out.mono ?_;rintro e J ⟨rfl,a⟩;obtain⟨W,X,Y,aa,G,H⟩:=V.out J a;have E:=vi a;clear a))
       | (go_at_call 205;go_must (refine(O.out _ E.out).mono ?_;rintro e ah ⟨rfl,h⟩;replace G:=h.keep G;replace H:=h.keep H;have N:=vi (K.out.trans (E.out.trans h));clear h)))
      go_ret
      exact⟨rfl,N.out⟩
     ·rw[decide_eq_false h4]
      go_enter Tryz.func204,Tryz.ntmps204
      go_wp2_with (first
       | (go_at_call 165;go_must (refine I.out.mono ?_;rintro e J ⟨rfl,a⟩;obtain⟨W,X,Y,aa,G,H⟩:=V.out J a;have E:=vi a;clear a))
       | (go_at_call 205;go_must (refine(O.out _ E.out).mono ?_;rintro e ah ⟨rfl,h⟩;replace G:=h.keep G;replace H:=h.keep H;have N:=vi (K.out.trans (E.out.trans h));clear h)))
      go_ret
      exact⟨by simp;omega,N.out⟩
set_option maxHeartbeats 2000000 in
set_option maxRecDepth 100000 in
theorem lW (rb:Nat) (i:Nat) (r:RolD) (aw ab af:Value) (x:StD) (w:World) (R:RBox w rb aw ab af r) (av:r.sts.length≤1000) (ad:r.sts[i]?=some x) :
  Calls Tryz.prog 206 #[.int .i64 i,.pointer (some ⟨rb,0,none⟩)] w (Ret (.bool (dn r i x)) (Frm [] w)):=by
 obtain⟨ao,cap,e,al⟩:=R.h3.sts
 subst e
 obtain⟨b,o,rfl,c0,ax,ay⟩:=al i x ad
 have aD:=R.lt
 have aC:=aI c0
 have au:(i:Int)<(r.sts.length:Int):=by have:=ag ad;omega
 obtain⟨n,U⟩:∃ n,r.sts.length=n:=⟨_,rfl⟩
 have K:Hid (Frm [] w (w.alloc (.cells #[.string x.name,.bool x.fin,.int .i64 x.wait] 206))):=vi ((Frm.refl _ _).alloc _)
 rw[U] at av au
 obtain⟨az,an,aA,aB⟩:=R.cells
 rw[U] at an
 have ai:=vi R
 have V:Hid (∀ A,Frm [] (w.alloc (.cells #[.string x.name,.bool x.fin,.int .i64 x.wait] 206)) A→A.cell? ⟨rb,0,none⟩=some (.string r.name)∧A.cell? ⟨rb,1,none⟩=some (.slice (some ⟨b,o,none⟩) n cap)∧A.cell? ⟨rb,2,none⟩=some ab∧A.cell? ⟨rb,3,none⟩=some af ∧
   A.cell? ⟨w.heap.size,0,none⟩=some (.string x.name)∧A.cell? ⟨w.heap.size,2,none⟩=some (.int .i64 x.wait)):=vi fun A S=>by
  obtain⟨ap,aj,aq,ar⟩:=(ai.out.frm (K.out.trans S)).cells
  rw[U] at aj
  exact⟨ap,aj,aq,ar,S.keep (ae (heap_alloc_new w _) 0),S.keep (ae (heap_alloc_new w _) 2)⟩
 have O:Hid (∀ A,Frm [] (w.alloc (.cells #[.string x.name,.bool x.fin,.int .i64 x.wait] 206)) A→Calls Tryz.prog 207 #[.agg #[.string r.name,.slice (some ⟨b,o,none⟩) n cap,ab,af],.string x.name] A (Ret (.int .i64 (bK r x.name)) (Frm [] A))):=vi fun A S=>by
  rw[← U]
  exact gx _ r x.name A (ai.out.frm (K.out.trans S)).val (by omega)
 obtain⟨q,ak⟩:∃ q,bK r x.name=q:=⟨_,rfl⟩
 unfold dn
 rw[ak] at O ⊢
 clear R al ad U ak
 cases h1:aL x.name with
 | false =>
   have I:=vi (dy x.name (w.alloc (.cells #[.string x.name,.bool x.fin,.int .i64 x.wait] 206)))
   rw[h1] at I
   clear h1
   go_enter Tryz.func206,Tryz.ntmps206
   go_wp2_with (first
    | (go_at_call 165;go_must (refine I.out.mono ?_;rintro e J ⟨rfl,a⟩;have am:=vi (K.out.trans a);clear a)))
   go_ret
   exact⟨rfl,am.out⟩
 | true =>
   have I:=vi (dy x.name (w.alloc (.cells #[.string x.name,.bool x.fin,.int .i64 x.wait] 206)))
   rw[h1] at I
   clear h1
   by_cases h2:q<(i:Int)
   ·rw[decide_eq_true h2]
    go_enter Tryz.func206,Tryz.ntmps206
    go_wp2_with (first
     | (go_at_call 165;go_must (refine I.out.mono ?_;rintro e J ⟨rfl,a⟩;obtain⟨W,X,Y,aa,G,H⟩:=V.out J a;have E:=vi a;clear a))
     | (go_at_call 207;go_must (refine(O.out _ E.out).mono ?_;rintro e ah ⟨rfl,h⟩;have N:=vi (K.out.trans (E.out.trans h));clear h)))
    go_ret
    exact⟨rfl,N.out⟩
   ·rw[decide_eq_false h2]
    by_cases h3:x.wait<0
    ·rw[decide_eq_true h3]
     go_enter Tryz.func206,Tryz.ntmps206
     go_wp2_with (first
      | (go_at_call 165;go_must (refine I.out.mono ?_;rintro e J ⟨rfl,a⟩;obtain⟨W,X,Y,aa,G,H⟩:=V.out J a;have E:=vi a;clear a))
      | (go_at_call 207;go_must (refine(O.out _ E.out).mono ?_;rintro e ah ⟨rfl,h⟩;replace G:=h.keep G;replace H:=h.keep H;have N:=vi (K.out.trans (E.out.trans h));clear h)))
     go_ret
     exact⟨rfl,N.out⟩
    ·rw[decide_eq_false h3]
     by_cases h4:1048576<x.wait
     ·rw[decide_eq_true h4]
      go_enter Tryz.func206,Tryz.ntmps206
      go_wp2_with (first
       | (go_at_call 165;go_must (refine I.out.mono ?_;rintro e J ⟨rfl,a⟩;obtain⟨W,X,Y,aa,G,H⟩:=V.out J a;have E:=vi a;clear a))
       | (go_at_call 207;go_must (refine(O.out _ E.out).mono ?_;rintro e ah ⟨rfl,h⟩;replace G:=h.keep G;replace H:=h.keep H;have N:=vi (K.out.trans (E.out.trans h));clear h)))
      go_ret
      exact⟨rfl,N.out⟩
     ·rw[decide_eq_false h4]
      go_enter Tryz.func206,Tryz.ntmps206
      go_wp2_with (first
       | (go_at_call 165;go_must (refine I.out.mono ?_;rintro e J ⟨rfl,a⟩;obtain⟨W,X,Y,aa,G,H⟩:=V.out J a;have E:=vi a;clear a))
       | (go_at_call 207;go_must (refine(O.out _ E.out).mono ?_;rintro e ah ⟨rfl,h⟩;replace G:=h.keep G;replace H:=h.keep H;have N:=vi (K.out.trans (E.out.trans h));clear h)))
      go_ret
      exact⟨by simp;omega,N.out⟩
end Go.Proofs.YtohfkhjlnlahdaaGreat
