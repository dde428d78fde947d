/- ClockRuns: the walk. -/
import Derived.Test.YtdhkcjjcgpkkgaaTurn
namespace Go.Proofs.Ytdhkcjjcgpkkgaa
open Go.RowKit Go.Maps Go.BigFrame Go.Shelf

attribute [local go_sem] Oper.semAt_some
/-- a function's end, no mark -/
theorem leaves_none {P : Program} {fn : Func} {tmps : Array Value} {R : Ending → World → Prop} {w : World}
    (h : ∃ v, (results fn tmps).run P w = .ok v w ∧ R (.returned v) w) : LeavesInM Fence.wide 3 P fn tmps R [] .returning w := h
/-- a function's end, two marks -/
theorem leaves_two {P : Program} {fn : Func} {tmps : Array Value} {R : Ending → World → Prop} {D D' : Nat} {w : World} (hK : w.heap[D]? = some (.deferred (some []))) (hK' : w.heap[D']? = some (.deferred (some []))) (hne : D ≠ D')
    (h : ∃ v, (results fn tmps).run P ((w.putObj D (.deferred none)).putObj D' (.deferred none)) = .ok v ((w.putObj D (.deferred none)).putObj D' (.deferred none)) ∧ R (.returned v) ((w.putObj D (.deferred none)).putObj D' (.deferred none))) :
    LeavesInM Fence.wide 3 P fn tmps R [{ target := .collected D, args := #[] }, { target := .collected D', args := #[] }] .returning w :=
  ⟨by simp, .inl ⟨_, _, rfl, run_takeDeferred hK, by simp, .inl ⟨_, _, rfl, run_takeDeferred ((World.putObj_heap_other (Ne.symm hne)).trans hK'), h⟩⟩⟩
/-- the box of the result is there -/
theorem res_box {w w' : World} {many : Int} (h : Frm [] ((w.alloc (.cells #[.int .i64 many] 3)).alloc (.cells #[.bool false] 4)) w') : w'.heap[w.heap.size + 1]? = some (.cells #[.bool false] 4 (0, 0)) :=
  h.at (by have := heap_alloc_new (w.alloc (.cells #[.int .i64 many] 3)) (.cells #[.bool false] 4); rwa [World.size_alloc] at this) (by simp)
theorem many_box {w w' : World} {many : Int} (h : Frm [] ((w.alloc (.cells #[.int .i64 many] 3)).alloc (.cells #[.bool false] 4)) w') : w'.heap[w.heap.size]? = some (.cells #[.int .i64 many] 3 (0, 0)) :=
  h.at (alloc_at (heap_alloc_new _ _)) (by simp)
set_option maxHeartbeats 4000000 in
set_option maxRecDepth 100000 in
theorem runs_many (ao : Option Addr) (n cap : Nat) (many : Int) (w : World) (hn : 80 < n) : Calls Try.prog 6 #[.slice ao n cap, .int .i64 many] w (Ret (.bool true) (Frm [] w)) := by
  have hn' : (80 : Int) < n := by omega
  refine calls_of_marks Try.func6 rfl ?_
  simp only [Try.ntmps6, List.size_toArray, List.length_cons, List.length_nil, Nat.reduceAdd, Nat.reduceSub, Array.replicate_succ, Array.replicate_zero, List.push_toArray, List.append_toArray, List.nil_append, List.cons_append]
  go_wp2_with (first | (go_at_call 8; go_must (refine (known_any _).mono ?_; rintro e w' ⟨rfl, hf⟩; have HF := Lib.hid hf; have c4 := cell_of (res_box hf) 0; have f4 := free_of (res_box hf) 0; clear hf)))
  have hc := cell_of (block_setCell (res_box HF.out) 0 (.bool true)) 0
  have hf8 : Frm [] w (w'.setCell ⟨w.heap.size + 1, 0, none⟩ (.bool true)) := ((((Frm.refl _ _).alloc _).alloc _).trans HF.out).setCell _ (.inr (by simp)) _
  generalize w'.setCell ⟨w.heap.size + 1, 0, none⟩ (.bool true) = Wf at hc hf8 ⊢
  refine leaves_none ⟨.bool true, ?_, rfl, hf8⟩
  clear hf8 c4 f4
  simp [results, Try.results6, go_sem, hc]
/-- a statement that ends behind itself -/
theorem wp_fence {P : Program} {c : Code} {id : Nat} {K : Act → World → Prop} {Q : Exit → Act → World → Prop} {a : Act} {w : World} (h : c.wp P (Exit.inBlock id (Exit.then K (fun _ _ _ => False))) a w) : c.wp P (Exit.inBlock id (Exit.then K Q)) a w := by
  refine wp_mono h fun e a w hq => ?_
  cases e with
  | exit i =>
    simp only [Exit.inBlock] at hq ⊢
    split at hq
    · rename_i hi; rw [if_pos hi]; exact hq
    · exact hq.elim
  | normal => exact hq
  | _ => exact False.elim hq
/-- while the timers are stopped -/
def SI (w5 : World) (cb : Nat) (now : Int) (F : List Nat) (wr : World) : Prop := ∃ D', ClkTo w5 cb now D' 80 F wr
theorem SI.stop {w5 wr : World} {cb : Nat} {now : Int} {F : List Nat} (h : SI w5 cb now F wr) (i : Int) : Calls Try.prog 18 #[.pointer (some ⟨cb, 0, none⟩), .int .i64 i] wr (RetV fun _ w' => SI w5 cb now F w') := by
  obtain ⟨D', F', h1, h2, h3⟩ := h
  exact (stop_any cb now D' 80 F' i wr h1).mono fun e w' ⟨he, hr⟩ => ⟨_, he, _, @ClkTo.trans _ _ _ _ now _ D' _ 80 _ _ _ h2 h3 hr⟩
theorem SI.start {w5 wr : World} {cb : Nat} {now : Int} {F : List Nat} (h : SI w5 cb now F wr) (t k : Int) : Calls Try.prog 12 #[.pointer (some ⟨cb, 0, none⟩), .int .i64 t, .int .i64 k] wr (RetV fun _ w' => Frm F w5 w') := by
  obtain ⟨D', F', h1, h2, h3⟩ := h
  exact (start_any cb now D' 80 F' t k wr h1 (by omega)).mono fun e w' ⟨he, hr⟩ => ⟨_, he, by
    obtain ⟨F2, -, k2, -⟩ := @ClkTo.trans _ _ _ _ now _ D' _ 80 _ _ _ h2 h3 hr
    exact k2⟩
section
variable {w W0 wr w5 w6 : World} {F : List Nat} {rb bx : Nat} {now : Int} {D : DMap} {sv : Value}
theorem turn_fr (h1 : Frm [] W0 wr) (h2 : Frm [] wr w5) (h3 : Frm F w5 w6) (h4 : ∀ x ∈ F, W0.heap.size ≤ x) (o : Obj) : Frm [] W0 (w6.alloc o) := ((h1.trans h2).then h3 (fun x hx => .inr (h4 x hx))).alloc _
theorem turn_old {o : Obj} (h0 : Frm [] w W0) (h1 : Frm [] W0 wr) (h2 : Frm [] wr w5) (h3 : Frm F w5 w6) (h4 : ∀ x ∈ F, W0.heap.size ≤ x) : Frm [] w (w6.alloc o) := h0.trans (turn_fr h1 h2 h3 h4 o)
theorem turn_mb {o o1 : Obj} {k : Nat} (h0 : W0.heap[k]? = some o1) (h1 : Frm [] W0 wr) (h2 : Frm [] wr w5) (h3 : Frm F w5 w6) (h4 : ∀ x ∈ F, W0.heap.size ≤ x) : (w6.alloc o).heap[k]? = some o1 := (turn_fr h1 h2 h3 h4 o).at h0 (by simp)
theorem turn_rc {o o1 : Obj} {k : Nat} (h0 : wr.heap[k]? = some o1) (h2 : Frm [] wr w5) (h3 : Frm F w5 w6) (h4 : k ∉ F) : (w6.alloc o).heap[k]? = some o1 := ((h3.alloc o).at (h2.at h0 (by simp)) h4)
theorem turn_rr {o : Obj} {cb N : Nat} {L : List (Int × Int)} (h : RunR bx sv L w5 ∧ Frm [] wr w5 ∧ wr.heap.size ≤ bx ∧ ∀ j, sv.ownBlock = some j → wr.heap.size ≤ j) (h3 : Frm F w5 w6) (hc : Clk wr cb now D N F) : RunR bx sv L (w6.alloc o) := by
  obtain ⟨⟨r1, r2⟩, -, r3, r4⟩ := h
  exact ⟨(h3.alloc o).at r1 (fun hx => by have := hc.lt _ hx; omega), (h3.alloc o).owns r2 (fun k hk hx => by have := hc.lt _ hx; have := r4 k hk; omega)⟩
end
/-- the end -/
theorem runs_end {w V Y w9 Wb : World} {rb bx b11 D1 D2 : Nat} {sv : Value} {now many T : Int} {D : DMap} {o : Obj} {fn : Func} {tmps : Array Value} (hf : fn.results = #[.cell 4 4]) (ht : tmps.getD 4 undef = .pointer (some ⟨w.heap.size + 1, 0, none⟩))
    (hx : TF w rb bx sv now D many b11 T V) (h7 : Frm [] V Y) (h9 : Frm [] (Y.alloc o) w9) (h1 : V.heap[D1]? = some (.deferred (some []))) (h2 : V.heap[D2]? = some (.deferred (some []))) (l1 : w.heap.size + 2 ≤ D1) (l2 : D1 < Wb.heap.size) (l3 : Wb.heap.size + 2 ≤ D2) :
    LeavesInM Fence.wide 3 Try.prog fn tmps (Ret (.bool true) (Frm [] w)) [{ target := .collected D2, args := #[] }, { target := .collected D1, args := #[] }] .returning (w9.setCell ⟨w.heap.size + 1, 0, none⟩ (.bool true)) := by
  have hV : Frm [] V w9 := (h7.alloc o).trans h9
  have hs := hV.at hx.rs (by simp)
  have k1 : (w9.setCell ⟨w.heap.size + 1, 0, none⟩ (.bool true)).heap[D1]? = some (.deferred (some [])) := setCell_at (hV.at h1 (by simp)) (by simp; omega) _
  have k2 : (w9.setCell ⟨w.heap.size + 1, 0, none⟩ (.bool true)).heap[D2]? = some (.deferred (some [])) := setCell_at (hV.at h2 (by simp)) (by simp; omega) _
  have ks := block_setCell hs 0 (.bool true)
  have hf8 : Frm [] w (w9.setCell ⟨w.heap.size + 1, 0, none⟩ (.bool true)) := (hx.old.trans hV).setCell _ (.inr (by simp)) _
  refine leaves_two k2 k1 (by omega) ⟨.bool true, ?_, rfl, (hf8.then (Frm.putObj _ D2 _) (by intro x hx; simp at hx; right; omega)).then (Frm.putObj _ D1 _) (by intro x hx; simp at hx; right; omega)⟩
  have hc : (((w9.setCell ⟨w.heap.size + 1, 0, none⟩ (.bool true)).putObj D2 (.deferred none)).putObj D1 (.deferred none)).cell? ⟨w.heap.size + 1, 0, none⟩ = some (.bool true) :=
    (cell_of ((Frm.putObj _ D1 _).at ((Frm.putObj _ D2 _).at ks (by simp; omega)) (by simp; omega)) 0).trans rfl
  generalize ((w9.setCell ⟨w.heap.size + 1, 0, none⟩ (.bool true)).putObj D2 (.deferred none)).putObj D1 (.deferred none) = Wf at hc
  have ht' : tmps[4]?.getD undef = .pointer (some ⟨w.heap.size + 1, 0, none⟩) := by simpa using ht
  simp [results, hf, go_sem, hc, ht']
set_option maxHeartbeats 4000000 in
set_option maxRecDepth 100000 in
theorem runs_any (ao : Option Addr) (n cap : Nat) (many : Int) (w : World) (h : Acts w ao n) : Calls Try.prog 6 #[.slice ao n cap, .int .i64 many] w (Ret (.bool true) (Frm [] w)) := by
  by_cases hn : 80 < n
  · exact runs_many ao n cap many w hn
  · have hn' : ¬ (80 : Int) < n := by omega
    have HA := Lib.hid h
    have HN := Lib.hid hn
    clear h hn
    refine calls_of_marks Try.func6 rfl ?_
    simp only [Try.ntmps6, List.size_toArray, List.length_cons, List.length_nil, Nat.reduceAdd, Nat.reduceSub, Array.replicate_succ, Array.replicate_zero, List.push_toArray, List.append_toArray, List.nil_append, List.cons_append]
    go_wp2_with (first
      | (go_at_call 9; go_must (refine (refNew_any _).mono ?_; rintro e w2 ⟨rfl, hf⟩; have HF := Lib.hid hf; clear hf))
      | (refine wpList_alloc_row rfl 30 rfl Z30 257 Try.info30z ?_)
      | (refine wpList_store_row rfl 30 _ _ rfl _ _ _ 30 rfl rfl (heap_alloc_new _ _) (refA_Z30 _ _) (refA_info _ _) (refA_one _ _) ?_; intro w4 hb4 hf4))
    obtain ⟨W0, hW0⟩ : ∃ W0, W0 = (w.alloc (Obj.cells #[Value.int IntKind.i64 many] 3)).alloc (Obj.cells #[Value.bool false] 4) := ⟨_, rfl⟩
    have hWs : W0.heap.size = w.heap.size + 1 + 1 := by rw [hW0]; simp
    have HB0 : Hid (Frm [] w W0 ∧ W0.heap[w.heap.size]? = some (.cells #[.int .i64 many] 3 (0, 0)) ∧ W0.heap[w.heap.size + 1]? = some (.cells #[.bool false] 4 (0, 0))) := by
      rw [hW0]; exact ⟨((Frm.refl _ _).alloc _).alloc _, many_box (Frm.refl _ _), res_box (Frm.refl _ _)⟩
    have HA0 := Lib.hid (HA.out.frm HB0.out.1)
    have HF1 : Hid (Frm [] (W0.alloc (Obj.cells #[Value.int IntKind.i64 0, Value.map none, Value.slice none 0 0] 27)) w2) := by rw [hW0]; exact HF.out
    have HP := Lib.hid (PLInv.start HF1.out hf4 hb4)
    have HWS := Lib.hid hWs
    clear hf4 hb4 hW0 HA HF
    simp only [show w.heap.size + 1 + 1 = W0.heap.size from HWS.out.symm]
    clear hWs
    go_loopw [7, 8] (fun s7 s8 wr => s7 = .bool true ∧ ∃ i : Nat, s8 = .int .i64 i ∧ i ≤ n ∧ PLInv W0 W0.heap.size w2.heap.size i wr) (fun _ s8 _ => n - (RowKit.intOf s8).toNat)
    case atStart => exact ⟨rfl, 0, rfl, Nat.zero_le _, HP.out⟩
    case round =>
      clear HP
      obtain ⟨rfl, i, rfl, hi, hinv⟩ := hrel
      have hi' : (i : Int) ≤ n := by omega
      have HI := Lib.hid hi
      clear hi
      by_cases hin : i < n
      · have hlt : (i : Int) < n := by omega
        have HIN := Lib.hid hin
        obtain ⟨b, o, what, tm, ti, rfl, ha⟩ := HA0.out i hin
        obtain ⟨now, D, F, p1, p2, p3, p4, p5, p6⟩ := hinv
        have P1 := Lib.hid p1; have P2 := Lib.hid p2; have P3 := Lib.hid p3; have P4 := Lib.hid p4; have P5 := Lib.hid p5; have P6 := Lib.hid p6
        have HA1 := Lib.hid (show ActAt b o i what tm ti W0 from ha)
        have HS : Hid (ActAt b o i what tm ti wr.drew) := Lib.hid ((ActAt.frm ha p3).frm (Frm.refl [] wr).drew)
        have HAL : Hid (∀ x ∈ F, W0.heap.size ≤ x) := Lib.hid p4
        clear ha p1 p2 p3 p4 p5 p6 hin
        go_upto_region 9 with (fail)
        refine wp_fence ?_
        refine wp_region_held_drew (S := ActAt b o i what tm ti) (by kernel_rfl) HS.out (fun _ => ?_)
        refine wpAnyH_take (i := 1) (v := .slice (some ⟨b, o, none⟩) n cap) rfl (by kernel_rfl) (by kernel_rfl) (by kernel_rfl) (fun _ _ _ h => h) (Or.inl ⟨by rfl, fun w' hS => ?_⟩) HS.out ?_
        · go_simp
        try simp only [Act.put, List.setIfInBounds_toArray]
        refine wpAnyH_take (i := 2) (v := .int .i64 i) rfl (by kernel_rfl) (by kernel_rfl) (by kernel_rfl) (fun _ _ _ h => h) (Or.inl ⟨by rfl, fun w' hS => ?_⟩) HS.out ?_
        · go_simp
        try simp only [Act.put]
        refine wpAnyH_take (i := 3) (v := .pointer (some ⟨b, o + i * 3, none⟩)) rfl (by kernel_rfl) (by kernel_rfl) (by kernel_rfl) (fun _ _ _ h => h) (Or.inl ⟨by rfl, fun w' hS => ?_⟩) HS.out ?_
        · go_simp
        try simp only [Act.put]
        refine wpAnyH_take (i := 4) (v := .agg #[.int .i64 what, .int .i64 tm, .int .i64 ti]) rfl (by kernel_rfl) (by kernel_rfl) (by kernel_rfl) (fun _ _ _ h => h) (Or.inl ⟨by rfl, fun w' hS => ?_⟩) HS.out ?_
        · obtain ⟨e0, e1, e2⟩ := hS
          go_simp
        try simp only [Act.put]
        refine wpAnyH_ready (rs := [0]) (by kernel_rfl) (by simp) (AllReadyH.cons rfl (fun K hK => ?_) AllReadyH.nil)
        rw [if_pos (by rfl)]
        refine wp_load_rowTo rfl (((Frm.refl [] wr).drew).at P2.out (by simp)) Try.underlying30 rfl (refA_info _ _) rfl ?_
        refine hK.out _ _ HS.out (fun _ => ?_)
        clear hK K
        try simp only [Act.put]
        refine wpAnyH_ready (rs := [5]) (by kernel_rfl) (by simp) (AllReadyH.cons rfl (fun K hK => ?_) AllReadyH.nil)
        go_simp
        refine (do_any W0.heap.size now D i F what tm ti wr.drew (P1.out.frm (Frm.refl [] wr).drew (by simp)) (by have := HI.out; have := HN.out; omega)).mono ?_
        rintro e w5 ⟨rfl, hto⟩
        have HT := Lib.hid hto
        clear hto
        have HS := Lib.hid (HA1.out.call P3.out P4.out HT.out)
        have HB := Lib.hid (PLInv.cell P2.out P5.out HT.out)
        refine hK.out _ _ HS.out (fun _ => ?_)
        clear hK K
        try simp only [Act.put, List.setIfInBounds_toArray, List.set_cons_zero, List.set_cons_succ]
        refine wpAnyH_take (i := 6) (v := .tuple #[.agg (refA (actNow now what ti) (actD now D what tm ti)), .bool true]) rfl (by kernel_rfl) (by kernel_rfl) (by kernel_rfl) (fun _ _ _ h => h) (Or.inl ⟨by rfl, fun w' hS => ?_⟩) HS.out ?_
        · go_simp
        try simp only [Act.put, List.setIfInBounds_toArray]
        refine wpAnyH_take (i := 7) (v := .agg (refA (actNow now what ti) (actD now D what tm ti))) rfl (by kernel_rfl) (by kernel_rfl) (by kernel_rfl) (fun _ _ _ h => h) (Or.inl ⟨by rfl, fun w' hS => ?_⟩) HS.out ?_
        · go_simp
        try simp only [Act.put]
        refine wpAnyH_take (i := 8) (v := .bool true) rfl (by kernel_rfl) (by kernel_rfl) (by kernel_rfl) (fun _ _ _ h => h) (Or.inl ⟨by rfl, fun w' hS => ?_⟩) HS.out ?_
        · go_simp
        try simp only [Act.put]
        refine wpAnyH_ready (rs := [9]) (by kernel_rfl) (by simp) (AllReadyH.cons rfl (fun K hK => ?_) AllReadyH.nil)
        rw [if_pos (by rfl)]
        refine wp_store_rowTo 30 _ _ rfl _ (refA (actNow now what ti) (actD now D what tm ti)) _ 30 rfl rfl HB.out (refA_same _ _ _ _) (refA_info _ _) (refA_one _ _) ?_
        intro w6 hb6 hf6
        have HN6 := Lib.hid (PLInv.next P2.out P3.out P4.out P5.out P6.out HT.out hf6 hb6)
        have HS : Hid (ActAt b o i what tm ti w6) := by
          obtain ⟨_, _, _, _, _, q, _⟩ := HN6.out
          exact HA1.out.frm q
        clear hf6 hb6
        refine hK.out _ _ HS.out (fun _ => ?_)
        clear hK K
        try simp only [Act.put]
        refine wpAnyH_ready (rs := [10]) (by kernel_rfl) (by simp) (AllReadyH.cons rfl (fun K hK => ?_) AllReadyH.nil)
        go_simp
        refine hK.out _ _ HS.out (fun _ => ?_)
        clear hK K
        try simp only [Act.put, List.setIfInBounds_toArray, List.set_cons_zero, List.set_cons_succ]
        refine wpAnyH_done (by kernel_rfl) ?_ _
        go_wp2_with fail
        have hi1 := HIN.out
        exact ⟨⟨rfl, i + 1, by simp, hi1, HN6.out⟩, by simp [RowKit.intOf]; omega⟩
      · obtain rfl : i = n := by have := HI.out; omega
        obtain ⟨now, D, F, p1, p2, p3, p4, p5, p6⟩ := hinv
        have P1 := Lib.hid p1; have P2 := Lib.hid p2; have P3 := Lib.hid p3; have P4 := Lib.hid p4; have P5 := Lib.hid p5; have P6 := Lib.hid p6
        clear p1 p2 p3 p4 p5 p6 hin
        have hqf := eql_func
        go_wp2_with (first | (go_at_call 17; go_must (refine (running_any _ _ _ _ _ _ P1.out).mono ?_; rintro e w5 ⟨v, rfl, bx, sv, rfl, hr⟩; have HR := Lib.hid hr; clear hr)))
        have HC5 := Lib.hid (Clk.mono (P1.out.frm HR.out.2.1 (by simp)) (show i ≤ 80 by have := HN.out; omega))
        have HSI : Hid (SI w5 W0.heap.size now F w5) := ⟨D, HC5.out.to⟩
        go_loopw [10] (fun s10 wx => ∃ j : Nat, s10 = .int .i64 j ∧ j ≤ 256 ∧ SI w5 W0.heap.size now F wx) (fun s10 _ => 256 - (RowKit.intOf s10).toNat)
        case atStart => exact ⟨0, rfl, by omega, HSI.out⟩
        case round =>
          clear HSI
          obtain ⟨j, rfl, hj, hsi⟩ := hrel
          have HS := Lib.hid hsi
          clear hsi
          by_cases hj2 : j < 256
          · have hj3 : (j : Int) < 256 := by omega
            go_wp2_with (first | (go_at_call 18; go_must (refine (HS.out.stop _).mono ?_; rintro e wy ⟨v, rfl, hr⟩; have HS2 := Lib.hid hr; clear hr)))
            exact ⟨⟨j + 1, by simp, hj2, HS2.out⟩, by simp [RowKit.intOf]; omega⟩
          · have hj3 : ¬ (j : Int) < 256 := by omega
            go_wp2_with (first | (go_at_call 12; go_must (refine (HS.out.start _ _).mono ?_; rintro e w6 ⟨v, rfl, hr⟩; have HS2 := Lib.hid hr; clear hr)))
            have HX := Lib.hid (TF.mk (b11 := w6.heap.size) (T := 0) (many := many) (sv := sv) (bx := bx) (rb := w2.heap.size) (now := now) (D := D) (w := w) (W := w6.alloc (.cells #[.int .i64 0] 3)) (turn_old HB0.out.1 P3.out HR.out.2.1 HS2.out P4.out) (turn_rc P2.out HR.out.2.1 HS2.out P5.out) (turn_rr HR.out HS2.out P1.out) (turn_mb HB0.out.2.1 P3.out HR.out.2.1 HS2.out P4.out) (turn_mb HB0.out.2.2 P3.out HR.out.2.1 HS2.out P4.out) (heap_alloc_new _ _))
            have HG := Lib.hid P1.out.good
            have HMB : Hid (w.heap.size < w6.heap.size) := Lib.hid (Nat.lt_of_lt_of_le (lt_of_block HB0.out.2.1) (by have := P3.out.size; have := HR.out.2.1.size; have := HS2.out.size; omega))
            clear HC5 HS HS2 HR P1 P2 P3 P4 P5 P6 HI HA0 HF1 HB0 HWS HN
            obtain ⟨W, hW⟩ : ∃ W, W = w6.alloc (.cells #[.int .i64 0] 3) := ⟨_, rfl⟩
            obtain ⟨b11, hb11⟩ : ∃ b, b = w6.heap.size := ⟨_, rfl⟩
            rw [← hW, ← hb11] at HX ⊢
            have HL : Hid (w.heap.size < W.heap.size ∧ b11 < W.heap.size) := Lib.hid (by rw [hW, hb11]; simp; have := HMB.out; omega)
            clear hW hb11 HMB
            refine wp_loop_rounds 3 ?_
            rw [rounds_succ]
            have c11 := cell_of HX.out.tb 0
            go_wp2
            refine wp_rangeList rfl (enters_of Try.func36 (by kernel_rfl) rfl) (run_iter bx sv (entsOf D (keysOf D)) (by rw [ents_length]; have := cntK_le D 256; unfold cnt; omega)) (fun _ => rfl)
              (TurnI W 0 many) (TurnX W 0 many) (fun _ _ _ h hb => h.bk hb (by simp; omega)) (fun _ _ _ _ h hb => h.bk hb (by simp; omega)) (fun _ _ h => (h.tf HX.out).rr) (TurnI.start W 0 many) ?_ ?_ ?_
            · intro l pre x rest Wr hxs hI hl hlr
              obtain ⟨tn, rfl, ht1, ht2, ht3⟩ := ents_split HG.out hxs
              have hpl := pre_le hxs
              have hcnt : cnt D ≤ 256 := cntK_le D 256
              have HI := Lib.hid hI
              clear hI hlr hl hxs c11
              gi_wp2
              refine ⟨KB.refl _, fun Wq hbk _ => ?_⟩
              have HI2 := Lib.hid (HI.out.bk hbk (by simp; omega))
              have HT2 := Lib.hid (HI2.out.tf HX.out)
              have c11 := cell_of HT2.out.tb 0
              have c12 := cell_of HI2.out.kb 0
              have c13 := cell_of HI2.out.lb 0
              have crc := (cell_of HT2.out.rc (1 + tn)).trans (refA_at now D tn ht1)
              have f12 := free_of HI2.out.kb 0
              have f13 := free_of HI2.out.lb 0
              have ht1' : (tn : Int) < 256 := by omega
              obtain ⟨kb3, fr3, k3, l3⟩ := step_frm HI2.out (dueV D tn, (tn : Int)) (k := (pre.length : Int) + 1) rfl
              have HT3 := Lib.hid (HX.out.frm fr3 (by simp))
              have HKB := Lib.hid kb3; have HFR := Lib.hid fr3; have HK3 := Lib.hid k3; have HL3 := Lib.hid l3
              have s11 := cell_of HT3.out.tb 0
              have smb := cell_of HT3.out.mb 0
              have s12 := cell_of k3 0
              simp only [stepW, List.length_append, List.length_cons, List.length_nil] at s11 smb s12
              clear hbk kb3 fr3 k3 l3
              rcases Int.lt_or_le ((pre.length : Int) + 1) many with hm | hm
              · gi_wp2
                exact ⟨HKB.out, HFR.out, HK3.out, HL3.out, fun _ => .inr (by simp; omega)⟩
              · gi_wp2
                refine ⟨HKB.out, rfl, HFR.out, HK3.out, rfl, ?_⟩
                have := HI2.out.go rfl
                simp
                rcases this with h | h
                · subst h; simp at hm ⊢; omega
                · omega
            · intro D1 Va hD hI hK
              have HX3a := Lib.hid (hI.tf HX.out)
              have hcl : ((entsOf D (keysOf D)).length : Int) = cnt D := by rw [ents_length]
              have hkb := hI.kb
              rw [hcl] at hkb
              have hgo := hI.go rfl
              rw [hcl] at hgo
              obtain ⟨cn, hcn⟩ : ∃ cn : Int, (cnt D : Int) = cn := ⟨_, rfl⟩
              rw [hcn] at hkb hgo
              have hmin : min cn (max 1 many) = cn := by
                have h0 : entsOf D (keysOf D) = [] → cn = 0 := fun h => by rw [← hcn, ← ents_length, h]; rfl
                rcases hgo with h | h
                · rw [h0 h]; omega
                · omega
              obtain ⟨kk, hkk⟩ : ∃ kk : Int, kk = cn := ⟨_, rfl⟩
              have hmin2 : min cn (max 1 many) = kk := by rw [hmin, hkk]
              rw [← hkk] at hkb
              have HDa := Lib.hid (show W.heap.size + 2 ≤ D1 by simpa using hD); have HKa := Lib.hid hK; have HKBa := Lib.hid hkb
              clear hD hI hK hkb hgo hcl hmin hkk c11
              have c11 := cell_of HX3a.out.tb 0
              have c12 := cell_of HKBa.out 0
              have cmb := cell_of HX3a.out.mb 0
              go_upto_region 31 with (first
                | (refine wpList_load_whole rfl 30 _ rfl _ rfl _ 30 HX3a.out.rc _ Try.underlying30 rfl (refA_info _ _) ?_)
                | (go_at_call 19; go_must (refine (refLen_any now D Va HG.out).mono ?_; rintro e Ya ⟨rfl, hf⟩; have HFa := Lib.hid hf; have d11 := hf.keep c11; have d12 := hf.keep c12; have dmb := hf.keep cmb; clear hf)))
              try simp only [hcn]
              clear hcn c11 c12 cmb
              go_wp2
              obtain ⟨Wb, hWb⟩ : ∃ Wb, Wb = Ya.alloc (.cells #[.int .i64 1] 3) := ⟨_, rfl⟩
              obtain ⟨bb, hbb⟩ : ∃ b, b = Ya.heap.size := ⟨_, rfl⟩
              have HXb : Hid (TF w w2.heap.size bx sv now D many bb 1 Wb) := by
                have h := HX3a.out.frm (HFa.out.alloc (.cells #[.int .i64 1] 3)) (by simp)
                rw [hWb, hbb]
                exact ⟨h.old, h.rc, h.rr, h.mb, h.rs, heap_alloc_new _ _⟩
              have HP : Hid (Wb.heap[D1]? = some (.deferred (some []))) := by rw [hWb]; exact (HFa.out.alloc _).at HKa.out (by simp)
              have HL : Hid (w.heap.size + 2 ≤ D1) := Lib.hid (by have := HDa.out; have := HX.out.old.size; omega)
              have HLD : Hid (D1 < Wb.heap.size) := Lib.hid (lt_of_block HP.out)
              rw [← hWb, ← hbb]
              clear hWb hbb HX3a HFa HKa HKBa HDa d11 d12 dmb hmin2
              rw [rounds_succ]
              have c11 := cell_of HXb.out.tb 0
              go_wp2
              refine wp_rangeList rfl (enters_of Try.func36 (by kernel_rfl) rfl) (run_iter bx sv (entsOf D (keysOf D)) (by rw [ents_length]; have := cntK_le D 256; unfold cnt; omega)) (fun _ => rfl)
                (TurnI Wb 1 many) (TurnX Wb 1 many) (fun _ _ _ h hb => h.bk hb (by simp; omega)) (fun _ _ _ _ h hb => h.bk hb (by simp; omega)) (fun _ _ h => (h.tf HXb.out).rr) (TurnI.start Wb 1 many) ?_ ?_ ?_
              · intro l pre x rest Wr hxs hI hl hlr
                obtain ⟨tn, rfl, ht1, ht2, ht3⟩ := ents_split HG.out hxs
                have hpl := pre_le hxs
                have hcnt : cnt D ≤ 256 := cntK_le D 256
                have HI := Lib.hid hI
                clear hI hlr hl hxs c11
                gi_wp2
                refine ⟨KB.refl _, fun Wq hbk _ => ?_⟩
                have HI2 := Lib.hid (HI.out.bk hbk (by simp; omega))
                have HT2 := Lib.hid (HI2.out.tf HXb.out)
                have c11 := cell_of HT2.out.tb 0
                have c12 := cell_of HI2.out.kb 0
                have c13 := cell_of HI2.out.lb 0
                have crc := (cell_of HT2.out.rc (1 + tn)).trans (refA_at now D tn ht1)
                have f12 := free_of HI2.out.kb 0
                have f13 := free_of HI2.out.lb 0
                have ht1' : (tn : Int) < 256 := by omega
                obtain ⟨kb3, fr3, k3, l3⟩ := step_frm HI2.out (dueV D tn, (tn : Int)) (k := (pre.length : Int) + 1) rfl
                have HT3 := Lib.hid (HXb.out.frm fr3 (by simp))
                have HKB := Lib.hid kb3; have HFR := Lib.hid fr3; have HK3 := Lib.hid k3; have HL3 := Lib.hid l3
                have s11 := cell_of HT3.out.tb 0
                have smb := cell_of HT3.out.mb 0
                have s12 := cell_of k3 0
                simp only [stepW, List.length_append, List.length_cons, List.length_nil] at s11 smb s12
                clear hbk kb3 fr3 k3 l3
                gi_wp2
                exact ⟨HKB.out, HFR.out, HK3.out, HL3.out, fun h => by omega⟩
              · intro D2 Vb hD hI hK
                have HX3b := Lib.hid (hI.tf HXb.out)
                have hcl : ((entsOf D (keysOf D)).length : Int) = cnt D := by rw [ents_length]
                have hkb := hI.kb
                rw [hcl] at hkb
                obtain ⟨cn, hcn⟩ : ∃ cn : Int, (cnt D : Int) = cn := ⟨_, rfl⟩
                rw [hcn] at hkb
                have HDb := Lib.hid (show Wb.heap.size + 2 ≤ D2 by simpa using hD); have HKb := Lib.hid hK; have HKBb := Lib.hid hkb
                have HPb : Hid (Vb.heap[D1]? = some (.deferred (some []))) := Lib.hid (hI.fr.at HP.out (by simp; have := HLD.out; omega))
                clear hD hI hK hkb hcl c11
                have c11 := cell_of HX3b.out.tb 0
                have c12 := cell_of HKBb.out 0
                have cmb := cell_of HX3b.out.mb 0
                go_upto_region 31 with (first
                  | (refine wpList_load_whole rfl 30 _ rfl _ rfl _ 30 HX3b.out.rc _ Try.underlying30 rfl (refA_info _ _) ?_)
                  | (go_at_call 19; go_must (refine (refLen_any now D Vb HG.out).mono ?_; rintro e Yb ⟨rfl, hf⟩; have HFb := Lib.hid hf; have d11 := hf.keep c11; have d12 := hf.keep c12; have dmb := hf.keep cmb; clear hf)))
                try simp only [hcn]
                clear hcn c11 c12 cmb
                go_wp2
                rw [rounds_succ]
                go_wp2_with (go_at_call 8; go_must (refine (known_any _).mono ?_; rintro e w9 ⟨rfl, hf⟩; have HF9 := Lib.hid hf; have c4 := cell_of (hf.at ((HFb.out.alloc _).at HX3b.out.rs (by simp)) (by simp)) 0; have f4 := free_of (hf.at ((HFb.out.alloc _).at HX3b.out.rs (by simp)) (by simp)) 0; clear hf))
                exact runs_end rfl rfl HX3b.out HFb.out HF9.out HPb.out HKb.out HL.out HLD.out HDb.out
              · intro D2 c pre x rest Vb hxs hD hX hK
                exact absurd hX.tz (by decide)
            · intro D1 c pre x rest Va hxs hD hX hK
              obtain rfl := hX.co
              have HX3a := Lib.hid (hX.tf HX.out)
              have hpl := pre_le hxs
              have hkb := hX.kb
              have hmxx := hX.mx
              obtain ⟨kk, hkk⟩ : ∃ kk : Int, ((pre ++ [(x : Int × Int)]).length : Int) = kk := ⟨_, rfl⟩
              rw [hkk] at hkb hmxx
              obtain ⟨cn, hcn⟩ : ∃ cn : Int, (cnt D : Int) = cn := ⟨_, rfl⟩
              have hle : kk ≤ cn := by rw [← hkk, ← hcn]; simp; omega
              have hmin2 : min cn (max 1 many) = kk := by rw [← hmxx]; omega
              have HDa := Lib.hid (show W.heap.size + 2 ≤ D1 by simpa using hD); have HKa := Lib.hid hK; have HKBa := Lib.hid hkb
              clear hD hX hK hkb hmxx hle hkk hpl hxs c11
              have c11 := cell_of HX3a.out.tb 0
              have c12 := cell_of HKBa.out 0
              have cmb := cell_of HX3a.out.mb 0
              go_upto_region 31 with (first
                | (refine wpList_load_whole rfl 30 _ rfl _ rfl _ 30 HX3a.out.rc _ Try.underlying30 rfl (refA_info _ _) ?_)
                | (go_at_call 19; go_must (refine (refLen_any now D Va HG.out).mono ?_; rintro e Ya ⟨rfl, hf⟩; have HFa := Lib.hid hf; have d11 := hf.keep c11; have d12 := hf.keep c12; have dmb := hf.keep cmb; clear hf)))
              try simp only [hcn]
              clear hcn c11 c12 cmb
              go_wp2
              obtain ⟨Wb, hWb⟩ : ∃ Wb, Wb = Ya.alloc (.cells #[.int .i64 1] 3) := ⟨_, rfl⟩
              obtain ⟨bb, hbb⟩ : ∃ b, b = Ya.heap.size := ⟨_, rfl⟩
              have HXb : Hid (TF w w2.heap.size bx sv now D many bb 1 Wb) := by
                have h := HX3a.out.frm (HFa.out.alloc (.cells #[.int .i64 1] 3)) (by simp)
                rw [hWb, hbb]
                exact ⟨h.old, h.rc, h.rr, h.mb, h.rs, heap_alloc_new _ _⟩
              have HP : Hid (Wb.heap[D1]? = some (.deferred (some []))) := by rw [hWb]; exact (HFa.out.alloc _).at HKa.out (by simp)
              have HL : Hid (w.heap.size + 2 ≤ D1) := Lib.hid (by have := HDa.out; have := HX.out.old.size; omega)
              have HLD : Hid (D1 < Wb.heap.size) := Lib.hid (lt_of_block HP.out)
              rw [← hWb, ← hbb]
              clear hWb hbb HX3a HFa HKa HKBa HDa d11 d12 dmb hmin2
              rw [rounds_succ]
              have c11 := cell_of HXb.out.tb 0
              go_wp2
              refine wp_rangeList rfl (enters_of Try.func36 (by kernel_rfl) rfl) (run_iter bx sv (entsOf D (keysOf D)) (by rw [ents_length]; have := cntK_le D 256; unfold cnt; omega)) (fun _ => rfl)
                (TurnI Wb 1 many) (TurnX Wb 1 many) (fun _ _ _ h hb => h.bk hb (by simp; omega)) (fun _ _ _ _ h hb => h.bk hb (by simp; omega)) (fun _ _ h => (h.tf HXb.out).rr) (TurnI.start Wb 1 many) ?_ ?_ ?_
              · intro l pre x rest Wr hxs hI hl hlr
                obtain ⟨tn, rfl, ht1, ht2, ht3⟩ := ents_split HG.out hxs
                have hpl := pre_le hxs
                have hcnt : cnt D ≤ 256 := cntK_le D 256
                have HI := Lib.hid hI
                clear hI hlr hl hxs c11
                gi_wp2
                refine ⟨KB.refl _, fun Wq hbk _ => ?_⟩
                have HI2 := Lib.hid (HI.out.bk hbk (by simp; omega))
                have HT2 := Lib.hid (HI2.out.tf HXb.out)
                have c11 := cell_of HT2.out.tb 0
                have c12 := cell_of HI2.out.kb 0
                have c13 := cell_of HI2.out.lb 0
                have crc := (cell_of HT2.out.rc (1 + tn)).trans (refA_at now D tn ht1)
                have f12 := free_of HI2.out.kb 0
                have f13 := free_of HI2.out.lb 0
                have ht1' : (tn : Int) < 256 := by omega
                obtain ⟨kb3, fr3, k3, l3⟩ := step_frm HI2.out (dueV D tn, (tn : Int)) (k := (pre.length : Int) + 1) rfl
                have HT3 := Lib.hid (HXb.out.frm fr3 (by simp))
                have HKB := Lib.hid kb3; have HFR := Lib.hid fr3; have HK3 := Lib.hid k3; have HL3 := Lib.hid l3
                have s11 := cell_of HT3.out.tb 0
                have smb := cell_of HT3.out.mb 0
                have s12 := cell_of k3 0
                simp only [stepW, List.length_append, List.length_cons, List.length_nil] at s11 smb s12
                clear hbk kb3 fr3 k3 l3
                gi_wp2
                exact ⟨HKB.out, HFR.out, HK3.out, HL3.out, fun h => by omega⟩
              · intro D2 Vb hD hI hK
                have HX3b := Lib.hid (hI.tf HXb.out)
                have hcl : ((entsOf D (keysOf D)).length : Int) = cnt D := by rw [ents_length]
                have hkb := hI.kb
                rw [hcl] at hkb
                obtain ⟨cn, hcn⟩ : ∃ cn : Int, (cnt D : Int) = cn := ⟨_, rfl⟩
                rw [hcn] at hkb
                have HDb := Lib.hid (show Wb.heap.size + 2 ≤ D2 by simpa using hD); have HKb := Lib.hid hK; have HKBb := Lib.hid hkb
                have HPb : Hid (Vb.heap[D1]? = some (.deferred (some []))) := Lib.hid (hI.fr.at HP.out (by simp; have := HLD.out; omega))
                clear hD hI hK hkb hcl c11
                have c11 := cell_of HX3b.out.tb 0
                have c12 := cell_of HKBb.out 0
                have cmb := cell_of HX3b.out.mb 0
                go_upto_region 31 with (first
                  | (refine wpList_load_whole rfl 30 _ rfl _ rfl _ 30 HX3b.out.rc _ Try.underlying30 rfl (refA_info _ _) ?_)
                  | (go_at_call 19; go_must (refine (refLen_any now D Vb HG.out).mono ?_; rintro e Yb ⟨rfl, hf⟩; have HFb := Lib.hid hf; have d11 := hf.keep c11; have d12 := hf.keep c12; have dmb := hf.keep cmb; clear hf)))
                try simp only [hcn]
                clear hcn c11 c12 cmb
                go_wp2
                rw [rounds_succ]
                go_wp2_with (go_at_call 8; go_must (refine (known_any _).mono ?_; rintro e w9 ⟨rfl, hf⟩; have HF9 := Lib.hid hf; have c4 := cell_of (hf.at ((HFb.out.alloc _).at HX3b.out.rs (by simp)) (by simp)) 0; have f4 := free_of (hf.at ((HFb.out.alloc _).at HX3b.out.rs (by simp)) (by simp)) 0; clear hf))
                exact runs_end rfl rfl HX3b.out HFb.out HF9.out HPb.out HKb.out HL.out HLD.out HDb.out
              · intro D2 c pre x rest Vb hxs hD hX hK
                exact absurd hX.tz (by decide)
end Go.Proofs.Ytdhkcjjcgpkkgaa
