/- Part of the proof. -/
import Derived.Test.YtohfkhjlnlahdaaGreatQ04
import Derived.Test.YtohfkhjlnlahdaaGreatQ22
import Derived.Test.YtohfkhjlnlahdaaGreatQ25
set_option linter.all false
namespace Go.Proofs.YtohfkhjlnlahdaaGreat
open Go.RowKit Go.BigFrame
structure SmR (r:RolD):Prop where
 s:r.sts.length≤100
 c:r.ctrs.length≤100
 t:r.steps.length≤100
 k:∀ x∈r.steps,gL x.kind
 m:∀ x∈r.steps,x.msg.size≤1000∧x.peer.size≤1000
theorem Tryz.call_rCheck1 (args:Array Value) (w:World):(callFunc 204 args).run Tryz.prog w=.ok (.enter 204 args) w:=by kernel_rfl
theorem Tryz.call_rCheck2 (args:Array Value) (w:World):(callFunc 206 args).run Tryz.prog w=.ok (.enter 206 args) w:=by kernel_rfl
theorem Tryz.call_rCheck3 (args:Array Value) (w:World):(callFunc 208 args).run Tryz.prog w=.ok (.enter 208 args) w:=by kernel_rfl
set_option maxRecDepth 100000 in
theorem m9 (rb i:Nat) (r:RolD) (K J N:Value) (x:StpD) (w:World) (A:RBox w rb K J N r) (h:r.steps[i]?=some x) (a:SmR r) (G:∀ c∈r.ctrs,1≤c.lim∧c.lim≤1000) :
  Calls Tryz.prog 208 #[.int .i64 i,.pointer (some ⟨rb,0,none⟩)] w (Ret (.bool (!aY r i x)) (Frm [] w)):=by
 have C:=vi (kQ _ r i x w A.val h (a.k x (List.mem_of_getElem? h)) ⟨a.t,a.s,a.c⟩ G (a.m x (List.mem_of_getElem? h)))
 have H:=vi A.hb
 obtain⟨b,hb⟩:∃ b,aY r i x=b:=⟨_,rfl⟩
 rw[hb] at C ⊢
 clear A hb h a G
 go_enter Tryz.func208,Tryz.ntmps208
 go_wp2_with (first
  | (refine af rfl 87 _ rfl _ rfl _ 87 H.out _ Tryz.underlying87 rfl (by kernel_rfl) ?_)
  | (go_at_call 209;go_must (refine C.out.mono ?_;rintro e O ⟨rfl,E⟩;have I:=vi E;clear E)))
 go_ret
 exact⟨rfl,I.out⟩
set_option maxHeartbeats 2000000 in
set_option maxRecDepth 100000 in
theorem nL (v:Value) (r:RolD) (w:World) (aP:RlV w v r) (X:SmR r):Calls Tryz.prog 166 #[v] w (aU fun u w'=>∃ i,u=.tuple #[.int .i64 i,.int .i64 (cF r)]∧Frm [] w w'):=by
 obtain⟨a0,aW,a1,rfl,aj⟩:=aP
 obtain⟨aq,av,aN,-⟩:=id aj.sts
 obtain⟨ac,au,aM,-⟩:=id aj.ctrs
 obtain⟨ar,aw,aO,-⟩:=id aj.steps
 subst aN;subst aM;subst aO
 obtain⟨J,ab⟩:∃ J,w.alloc (.cells #[.string r.name,.slice aq r.sts.length av,.slice ac r.ctrs.length au,.slice ar r.steps.length aw] 87)=J:=⟨_,rfl⟩
 have H:Frm [] w J:=by rw[← ab];exact(Frm.refl _ _).alloc _
 have ae:Hid (RBox J w.heap.size (.slice aq r.sts.length av) (.slice ac r.ctrs.length au) (.slice ar r.steps.length aw) r):=vi ⟨by rw[← ab];exact heap_alloc_new _ _,aj.frm H⟩
 have ag:=vi H
 have aJ:=vi X
 have ad:=vi (dy r.name J)
 have R:Hid (∀ a,Frm [] J a→Calls Tryz.prog 203 #[.int .i64 r.ctrs.length,.int .i64 0,.int .i64 4,.func (.func 204) #[] #[.pointer (some ⟨w.heap.size,0,none⟩)]] a (Ret (.int .i64 (mR r)) (Frm [] a))):=vi fun a aa =>
  jg 204 #[.pointer (some ⟨w.heap.size,0,none⟩)] r.ctrs.length 0 4 _ a (by have:=X.c;omega) Tryz.call_rCheck1 fun ai i am _ ak=>lV w.heap.size i r _ _ _ _ ai (ae.out.frm (aa.trans ak)) (by have:=X.c;omega) (bf am)
 have V:Hid (∀ a,Frm [] J a→Calls Tryz.prog 203 #[.int .i64 r.sts.length,.int .i64 1,.int .i64 24,.func (.func 206) #[] #[.pointer (some ⟨w.heap.size,0,none⟩)]] a (Ret (.int .i64 (tJ r)) (Frm [] a))):=vi fun a aa =>
  jg 206 #[.pointer (some ⟨w.heap.size,0,none⟩)] r.sts.length 1 24 _ a (by have:=X.s;omega) Tryz.call_rCheck2 fun ai i am _ ak=>lW w.heap.size i r _ _ _ _ ai (ae.out.frm (aa.trans ak)) (by have:=X.s;omega) (bf am)
 have S:Hid (mR r<0→∀ a,Frm [] J a→Calls Tryz.prog 203 #[.int .i64 r.steps.length,.int .i64 0,.int .i64 80,.func (.func 208) #[] #[.pointer (some ⟨w.heap.size,0,none⟩)]] a (Ret (.int .i64 (tK r)) (Frm [] a))):=vi fun aQ a aa =>
  jg 208 #[.pointer (some ⟨w.heap.size,0,none⟩)] r.steps.length 0 80 _ a (by have:=X.t;omega) Tryz.call_rCheck3 fun ai i am _ ak=>m9 w.heap.size i r _ _ _ _ ai (ae.out.frm (aa.trans ak)) (bf am) X (si aQ).2
 obtain⟨aK,aA,aB,aC⟩:=ae.out.cells
 have I:Hid (∀ a,Frm [] J a→a.cell? ⟨w.heap.size,0,none⟩=some (.string r.name)∧a.cell? ⟨w.heap.size,1,none⟩=some (.slice aq r.sts.length av)∧a.cell? ⟨w.heap.size,2,none⟩=some (.slice ac r.ctrs.length au)∧a.cell? ⟨w.heap.size,3,none⟩=some (.slice ar r.steps.length aw)):=vi fun a aa=>(ae.out.frm aa).cells
 rw[ux]
 obtain⟨aI,aD⟩:∃ q,aL r.name=q:=⟨_,rfl⟩
 obtain⟨aR,aE⟩:∃ q,mR r=q:=⟨_,rfl⟩
 obtain⟨aS,aF⟩:∃ q,tJ r=q:=⟨_,rfl⟩
 obtain⟨aT,aG⟩:∃ q,tK r=q:=⟨_,rfl⟩
 obtain⟨aX,ax⟩:∃ n,r.sts.length=n:=⟨_,rfl⟩
 obtain⟨aY,ay⟩:∃ n,r.ctrs.length=n:=⟨_,rfl⟩
 obtain⟨aZ,az⟩:∃ n,r.steps.length=n:=⟨_,rfl⟩
 rw[aD] at ad ⊢;rw[aE] at R S ⊢;rw[aF] at V ⊢;rw[aG] at S ⊢
 rw[ax] at V I aA ab;rw[ay] at R I aB ab;rw[az] at S I aC ab
 rw[ax,ay,az]
 have ah:=vi ab
 clear aj H X aD aE aF aG ax ay az ab ae aJ aK aA aB aC
 by_cases h0:aI=false
 ·subst h0
  rw[if_pos rfl]
  obtain⟨h,A,E,G⟩:=I.out J (Frm.refl _ _)
  go_enter Tryz.func166,Tryz.ntmps166
  go_wp2_with (first
   | (refine aH rfl 87 _ rfl _ rfl ?_;rw[ah.out])
   | (go_at_call 165;go_must (refine ad.out.mono ?_;rintro e Y ⟨rfl,H⟩;have K:=vi H;clear H)))
  go_ret2
  exact⟨_,rfl,_,rfl,ag.out.trans K.out⟩
 ·obtain rfl:aI=true:=by simpa using h0
  rw[if_neg h0]
  clear h0
  by_cases h1:0≤aR
  ·rw[if_pos h1]
   obtain⟨h,A,E,G⟩:=I.out J (Frm.refl _ _)
   go_enter Tryz.func166,Tryz.ntmps166
   go_wp2_with (first
    | (refine aH rfl 87 _ rfl _ rfl ?_;rw[ah.out])
    | (go_at_call 165;go_must (refine ad.out.mono ?_;rintro e Y ⟨rfl,H⟩;have K:=vi H;clear h A E G;obtain⟨h,A,E,G⟩:=I.out Y H;clear H))
    | (go_at_call 203;go_must (refine(R.out _ K.out).mono ?_;clear R;rintro e af ⟨rfl,O⟩;have N:=vi (K.out.trans O);clear O)))
   go_ret2
   exact⟨_,rfl,_,rfl,ag.out.trans N.out⟩
  ·rw[if_neg h1]
   have S:=vi (S.out (by omega))
   by_cases h2:0≤aS
   ·rw[if_pos h2]
    obtain⟨h,A,E,G⟩:=I.out J (Frm.refl _ _)
    go_enter Tryz.func166,Tryz.ntmps166
    go_wp2_with (first
     | (refine aH rfl 87 _ rfl _ rfl ?_;rw[ah.out])
     | (go_at_call 165;go_must (refine ad.out.mono ?_;rintro e Y ⟨rfl,H⟩;have K:=vi H;clear h A E G;obtain⟨h,A,E,G⟩:=I.out Y H;clear H))
     | (go_at_call 203;go_must (first
      | (refine(R.out _ K.out).mono ?_;clear R;rintro e af ⟨rfl,O⟩;have N:=vi (K.out.trans O);clear h A E G;obtain⟨h,A,E,G⟩:=I.out af N.out;clear O)
      | (refine(V.out _ N.out).mono ?_;clear V;rintro e an ⟨rfl,W⟩;have U:=vi (N.out.trans W);clear W))))
    go_ret2
    exact⟨_,rfl,_,rfl,ag.out.trans U.out⟩
   ·rw[if_neg h2]
    by_cases h4:0≤aT
    ·rw[if_pos h4]
     obtain⟨h,A,E,G⟩:=I.out J (Frm.refl _ _)
     go_enter Tryz.func166,Tryz.ntmps166
     go_wp2_with (first
      | (refine aH rfl 87 _ rfl _ rfl ?_;rw[ah.out])
      | (go_at_call 165;go_must (refine ad.out.mono ?_;rintro e Y ⟨rfl,H⟩;have K:=vi H;clear h A E G;obtain⟨h,A,E,G⟩:=I.out Y H;clear H))
      | (go_at_call 203;go_must (first
       | (refine(R.out _ K.out).mono ?_;clear R;rintro e af ⟨rfl,O⟩;have N:=vi (K.out.trans O);clear h A E G;obtain⟨h,A,E,G⟩:=I.out af N.out;clear O)
       | (refine(V.out _ N.out).mono ?_;clear V;rintro e an ⟨rfl,W⟩;have U:=vi (N.out.trans W);clear h A E G;obtain⟨h,A,E,G⟩:=I.out an U.out;clear W)
       | (refine(S.out _ U.out).mono ?_;clear S;rintro e aV ⟨rfl,al⟩;have ap:=vi (U.out.trans al);clear al))))
     go_ret2
     exact⟨_,rfl,_,rfl,ag.out.trans ap.out⟩
    ·rw[if_neg h4]
     obtain⟨h,A,E,G⟩:=I.out J (Frm.refl _ _)
     go_enter Tryz.func166,Tryz.ntmps166
     go_wp2_with (first
      | (refine aH rfl 87 _ rfl _ rfl ?_;rw[ah.out])
      | (go_at_call 165;go_must (refine ad.out.mono ?_;rintro e Y ⟨rfl,H⟩;have K:=vi H;clear h A E G;obtain⟨h,A,E,G⟩:=I.out Y H;clear H))
      | (go_at_call 203;go_must (first
       | (refine(R.out _ K.out).mono ?_;clear R;rintro e af ⟨rfl,O⟩;have N:=vi (K.out.trans O);clear h A E G;obtain⟨h,A,E,G⟩:=I.out af N.out;clear O)
       | (refine(V.out _ N.out).mono ?_;clear V;rintro e an ⟨rfl,W⟩;have U:=vi (N.out.trans W);clear h A E G;obtain⟨h,A,E,G⟩:=I.out an U.out;clear W)
       | (refine(S.out _ U.out).mono ?_;clear S;rintro e aV ⟨rfl,al⟩;have ap:=vi (U.out.trans al);clear al))))
     go_ret2
     exact⟨_,rfl,_,rfl,ag.out.trans ap.out⟩
end Go.Proofs.YtohfkhjlnlahdaaGreat
