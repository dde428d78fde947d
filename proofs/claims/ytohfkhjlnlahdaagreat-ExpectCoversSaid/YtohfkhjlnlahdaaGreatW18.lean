/- Part of the proof. -/
import Derived.Maps.OwnSet
import Derived.Maps.OwnOps
import Derived.Test.YtohfkhjlnlahdaaGreatW15
import Derived.Laws.StructEq
import Derived.Test.YtohfkhjlnlahdaaGreatW17
set_option linter.all false
namespace Go.Proofs.YtohfkhjlnlahdaaGreat
open Go.RowKit Go.BigFrame
structure RBox (w:World) (rb:Nat) (sv cv tv:Value) (r:RolD):Prop where
 hb:w.heap[rb]?=some (.cells #[.string r.name,sv,cv,tv] 87 (0,0))
 h3:Rl3 w sv cv tv r
theorem RBox.frm {w w':World} {rb:Nat} {sv cv tv:Value} {r:RolD} (h:RBox w rb sv cv tv r) (hf:Frm [] w w'):RBox w' rb sv cv tv r:=⟨hf.at h.hb (by simp),h.h3.frm hf⟩
theorem RBox.lt {w:World} {rb:Nat} {sv cv tv:Value} {r:RolD} (h:RBox w rb sv cv tv r):rb < w.heap.size:=lt_of_block h.hb
theorem RBox.cells {w:World} {rb:Nat} {sv cv tv:Value} {r:RolD} (h:RBox w rb sv cv tv r):w.cell? ⟨rb,0,none⟩=some (.string r.name)∧w.cell? ⟨rb,1,none⟩=some sv∧w.cell? ⟨rb,2,none⟩=some cv∧w.cell? ⟨rb,3,none⟩=some tv:=
 ⟨cell_of h.hb 0,cell_of h.hb 1,cell_of h.hb 2,cell_of h.hb 3⟩
theorem RBox.val {w:World} {rb:Nat} {sv cv tv:Value} {r:RolD} (h:RBox w rb sv cv tv r):RlV w (.agg #[.string r.name,sv,cv,tv]) r:=⟨sv,cv,tv,rfl,h.h3⟩
set_option maxHeartbeats 2000000 in
set_option maxRecDepth 100000 in
theorem rCheck1_any (rb:Nat) (i:Nat) (r:RolD) (sv cv tv:Value) (x:CtrD) (w:World) (h:RBox w rb sv cv tv r) (hl:r.ctrs.length≤1000) (hx:r.ctrs[i]?=some x) :
  Calls Tryz.prog 204 #[.int .i64 i,.pointer (some ⟨rb,0,none⟩)] w (Ret (.bool (ctrBad r i x)) (Frm [] w)):=by
 obtain⟨ao,cap,e,hxs⟩:=h.h3.ctrs
 subst e
 obtain⟨b,o,rfl,c0,c1⟩:=hxs i x hx
 have hlt:=h.lt
 have hblt:=cell_lt c0
 have hil:(i:Int) < (r.ctrs.length:Int):=by have:=lt_of_some hx;omega
 obtain⟨n,hn⟩:∃ n,r.ctrs.length=n:=⟨_,rfl⟩
 have HF0:Hid (Frm [] w (w.alloc (.cells #[.string x.name,.int .i64 x.lim] 244))):=Lib.hid ((Frm.refl _ _).alloc _)
 rw[hn] at hl hil
 obtain⟨d0,d1,d2,d3⟩:=h.cells
 rw[hn] at d2
 have HR:=Lib.hid h
 have HA:Hid (∀ V,Frm [] (w.alloc (.cells #[.string x.name,.int .i64 x.lim] 244)) V→V.cell? ⟨rb,0,none⟩=some (.string r.name)∧V.cell? ⟨rb,1,none⟩=some sv∧V.cell? ⟨rb,2,none⟩=some (.slice (some ⟨b,o,none⟩) n cap)∧V.cell? ⟨rb,3,none⟩=some tv ∧
   V.cell? ⟨w.heap.size,0,none⟩=some (.string x.name)∧V.cell? ⟨w.heap.size,1,none⟩=some (.int .i64 x.lim)):=Lib.hid fun V hf=>by
  obtain⟨e0,e1,e2,e3⟩:=(HR.out.frm (HF0.out.trans hf)).cells
  rw[hn] at e2
  exact⟨e0,e1,e2,e3,hf.keep (cell_of (heap_alloc_new w _) 0),hf.keep (cell_of (heap_alloc_new w _) 1)⟩
 have CC:Hid (∀ V,Frm [] (w.alloc (.cells #[.string x.name,.int .i64 x.lim] 244)) V→Calls Tryz.prog 205 #[.agg #[.string r.name,sv,.slice (some ⟨b,o,none⟩) n cap,tv],.string x.name] V (Ret (.int .i64 (ctrIx r.ctrs x.name)) (Frm [] V))):=Lib.hid fun V hf=>by
  rw[← hn]
  exact rCounter_any _ r x.name V (HR.out.frm (HF0.out.trans hf)).val (by omega)
 obtain⟨q,hq⟩:∃ q,ctrIx r.ctrs x.name=q:=⟨_,rfl⟩
 unfold ctrBad
 rw[hq] at CC ⊢
 clear h hxs hx hn hq
 cases h1:nameB x.name with
 | false =>
   have C1:=Lib.hid (rName_any x.name (w.alloc (.cells #[.string x.name,.int .i64 x.lim] 244)))
   rw[h1] at C1
   clear h1
   go_enter Tryz.func204,Tryz.ntmps204
   go_wp2_with (first
    | (go_at_call 165;go_must (refine C1.out.mono ?_;rintro e w1 ⟨rfl,hf1⟩;have HF1:=Lib.hid (HF0.out.trans hf1);clear hf1)))
   go_ret
   exact⟨rfl,HF1.out⟩
 | true =>
   have C1:=Lib.hid (rName_any x.name (w.alloc (.cells #[.string x.name,.int .i64 x.lim] 244)))
   rw[h1] at C1
   clear h1
   by_cases h2:q < (i:Int)
   ·rw[decide_eq_true h2]
    go_enter Tryz.func204,Tryz.ntmps204
    go_wp2_with (first
     | (go_at_call 165;go_must (refine C1.out.mono ?_;rintro e w1 ⟨rfl,hf1⟩;obtain⟨a0,a1,a2,a3,a4,a5⟩:=HA.out w1 hf1;have HG1:=Lib.hid hf1;clear hf1))
     | (go_at_call 205;go_must (refine(CC.out _ HG1.out).mono ?_;rintro e w2 ⟨rfl,hf2⟩;have HF2:=Lib.hid (HF0.out.trans (HG1.out.trans hf2));clear hf2)))
    go_ret
    exact⟨rfl,HF2.out⟩
   ·rw[decide_eq_false h2]
    by_cases h3:x.lim < 1
    ·rw[decide_eq_true h3]
     go_enter Tryz.func204,Tryz.ntmps204
     go_wp2_with (first
      | (go_at_call 165;go_must (refine C1.out.mono ?_;rintro e w1 ⟨rfl,hf1⟩;obtain⟨a0,a1,a2,a3,a4,a5⟩:=HA.out w1 hf1;have HG1:=Lib.hid hf1;clear hf1))
      | (go_at_call 205;go_must (refine(CC.out _ HG1.out).mono ?_;rintro e w2 ⟨rfl,hf2⟩;replace a4:=hf2.keep a4;replace a5:=hf2.keep a5;have HF2:=Lib.hid (HF0.out.trans (HG1.out.trans hf2));clear hf2)))
     go_ret
     exact⟨rfl,HF2.out⟩
    ·rw[decide_eq_false h3]
     by_cases h4:1000 < x.lim
     ·rw[decide_eq_true h4]
      go_enter Tryz.func204,Tryz.ntmps204
      go_wp2_with (first
       | (go_at_call 165;go_must (refine C1.out.mono ?_;rintro e w1 ⟨rfl,hf1⟩;obtain⟨a0,a1,a2,a3,a4,a5⟩:=HA.out w1 hf1;have HG1:=Lib.hid hf1;clear hf1))
       | (go_at_call 205;go_must (refine(CC.out _ HG1.out).mono ?_;rintro e w2 ⟨rfl,hf2⟩;replace a4:=hf2.keep a4;replace a5:=hf2.keep a5;have HF2:=Lib.hid (HF0.out.trans (HG1.out.trans hf2));clear hf2)))
      go_ret
      exact⟨rfl,HF2.out⟩
     ·rw[decide_eq_false h4]
      go_enter Tryz.func204,Tryz.ntmps204
      go_wp2_with (first
       | (go_at_call 165;go_must (refine C1.out.mono ?_;rintro e w1 ⟨rfl,hf1⟩;obtain⟨a0,a1,a2,a3,a4,a5⟩:=HA.out w1 hf1;have HG1:=Lib.hid hf1;clear hf1))
       | (go_at_call 205;go_must (refine(CC.out _ HG1.out).mono ?_;rintro e w2 ⟨rfl,hf2⟩;replace a4:=hf2.keep a4;replace a5:=hf2.keep a5;have HF2:=Lib.hid (HF0.out.trans (HG1.out.trans hf2));clear hf2)))
      go_ret
      exact⟨by simp;omega,HF2.out⟩
set_option maxHeartbeats 2000000 in
set_option maxRecDepth 100000 in
theorem rCheck2_any (rb:Nat) (i:Nat) (r:RolD) (sv cv tv:Value) (x:StD) (w:World) (h:RBox w rb sv cv tv r) (hl:r.sts.length≤1000) (hx:r.sts[i]?=some x) :
  Calls Tryz.prog 206 #[.int .i64 i,.pointer (some ⟨rb,0,none⟩)] w (Ret (.bool (stBad r i x)) (Frm [] w)):=by
 obtain⟨ao,cap,e,hxs⟩:=h.h3.sts
 subst e
 obtain⟨b,o,rfl,c0,c1,c2⟩:=hxs i x hx
 have hlt:=h.lt
 have hblt:=cell_lt c0
 have hil:(i:Int) < (r.sts.length:Int):=by have:=lt_of_some hx;omega
 obtain⟨n,hn⟩:∃ n,r.sts.length=n:=⟨_,rfl⟩
 have HF0:Hid (Frm [] w (w.alloc (.cells #[.string x.name,.bool x.fin,.int .i64 x.wait] 206))):=Lib.hid ((Frm.refl _ _).alloc _)
 rw[hn] at hl hil
 obtain⟨d0,d1,d2,d3⟩:=h.cells
 rw[hn] at d1
 have HR:=Lib.hid h
 have HA:Hid (∀ V,Frm [] (w.alloc (.cells #[.string x.name,.bool x.fin,.int .i64 x.wait] 206)) V→V.cell? ⟨rb,0,none⟩=some (.string r.name)∧V.cell? ⟨rb,1,none⟩=some (.slice (some ⟨b,o,none⟩) n cap)∧V.cell? ⟨rb,2,none⟩=some cv∧V.cell? ⟨rb,3,none⟩=some tv ∧
   V.cell? ⟨w.heap.size,0,none⟩=some (.string x.name)∧V.cell? ⟨w.heap.size,2,none⟩=some (.int .i64 x.wait)):=Lib.hid fun V hf=>by
  obtain⟨e0,e1,e2,e3⟩:=(HR.out.frm (HF0.out.trans hf)).cells
  rw[hn] at e1
  exact⟨e0,e1,e2,e3,hf.keep (cell_of (heap_alloc_new w _) 0),hf.keep (cell_of (heap_alloc_new w _) 2)⟩
 have CC:Hid (∀ V,Frm [] (w.alloc (.cells #[.string x.name,.bool x.fin,.int .i64 x.wait] 206)) V→Calls Tryz.prog 207 #[.agg #[.string r.name,.slice (some ⟨b,o,none⟩) n cap,cv,tv],.string x.name] V (Ret (.int .i64 (stIx r x.name)) (Frm [] V))):=Lib.hid fun V hf=>by
  rw[← hn]
  exact rState_any _ r x.name V (HR.out.frm (HF0.out.trans hf)).val (by omega)
 obtain⟨q,hq⟩:∃ q,stIx r x.name=q:=⟨_,rfl⟩
 unfold stBad
 rw[hq] at CC ⊢
 clear h hxs hx hn hq
 cases h1:nameB x.name with
 | false =>
   have C1:=Lib.hid (rName_any x.name (w.alloc (.cells #[.string x.name,.bool x.fin,.int .i64 x.wait] 206)))
   rw[h1] at C1
   clear h1
   go_enter Tryz.func206,Tryz.ntmps206
   go_wp2_with (first
    | (go_at_call 165;go_must (refine C1.out.mono ?_;rintro e w1 ⟨rfl,hf1⟩;have HF1:=Lib.hid (HF0.out.trans hf1);clear hf1)))
   go_ret
   exact⟨rfl,HF1.out⟩
 | true =>
   have C1:=Lib.hid (rName_any x.name (w.alloc (.cells #[.string x.name,.bool x.fin,.int .i64 x.wait] 206)))
   rw[h1] at C1
   clear h1
   by_cases h2:q < (i:Int)
   ·rw[decide_eq_true h2]
    go_enter Tryz.func206,Tryz.ntmps206
    go_wp2_with (first
     | (go_at_call 165;go_must (refine C1.out.mono ?_;rintro e w1 ⟨rfl,hf1⟩;obtain⟨a0,a1,a2,a3,a4,a5⟩:=HA.out w1 hf1;have HG1:=Lib.hid hf1;clear hf1))
     | (go_at_call 207;go_must (refine(CC.out _ HG1.out).mono ?_;rintro e w2 ⟨rfl,hf2⟩;have HF2:=Lib.hid (HF0.out.trans (HG1.out.trans hf2));clear hf2)))
    go_ret
    exact⟨rfl,HF2.out⟩
   ·rw[decide_eq_false h2]
    by_cases h3:x.wait < 0
    ·rw[decide_eq_true h3]
     go_enter Tryz.func206,Tryz.ntmps206
     go_wp2_with (first
      | (go_at_call 165;go_must (refine C1.out.mono ?_;rintro e w1 ⟨rfl,hf1⟩;obtain⟨a0,a1,a2,a3,a4,a5⟩:=HA.out w1 hf1;have HG1:=Lib.hid hf1;clear hf1))
      | (go_at_call 207;go_must (refine(CC.out _ HG1.out).mono ?_;rintro e w2 ⟨rfl,hf2⟩;replace a4:=hf2.keep a4;replace a5:=hf2.keep a5;have HF2:=Lib.hid (HF0.out.trans (HG1.out.trans hf2));clear hf2)))
     go_ret
     exact⟨rfl,HF2.out⟩
    ·rw[decide_eq_false h3]
     by_cases h4:1048576 < x.wait
     ·rw[decide_eq_true h4]
      go_enter Tryz.func206,Tryz.ntmps206
      go_wp2_with (first
       | (go_at_call 165;go_must (refine C1.out.mono ?_;rintro e w1 ⟨rfl,hf1⟩;obtain⟨a0,a1,a2,a3,a4,a5⟩:=HA.out w1 hf1;have HG1:=Lib.hid hf1;clear hf1))
       | (go_at_call 207;go_must (refine(CC.out _ HG1.out).mono ?_;rintro e w2 ⟨rfl,hf2⟩;replace a4:=hf2.keep a4;replace a5:=hf2.keep a5;have HF2:=Lib.hid (HF0.out.trans (HG1.out.trans hf2));clear hf2)))
      go_ret
      exact⟨rfl,HF2.out⟩
     ·rw[decide_eq_false h4]
      go_enter Tryz.func206,Tryz.ntmps206
      go_wp2_with (first
       | (go_at_call 165;go_must (refine C1.out.mono ?_;rintro e w1 ⟨rfl,hf1⟩;obtain⟨a0,a1,a2,a3,a4,a5⟩:=HA.out w1 hf1;have HG1:=Lib.hid hf1;clear hf1))
       | (go_at_call 207;go_must (refine(CC.out _ HG1.out).mono ?_;rintro e w2 ⟨rfl,hf2⟩;replace a4:=hf2.keep a4;replace a5:=hf2.keep a5;have HF2:=Lib.hid (HF0.out.trans (HG1.out.trans hf2));clear hf2)))
      go_ret
      exact⟨by simp;omega,HF2.out⟩
end Go.Proofs.YtohfkhjlnlahdaaGreat
