/- ClockPlays: the loop over the calls. -/
import Derived.Test.YtdhkcjjcgpkkgaaDoAny
import Derived.Test.YtdhkcjjcgpkkgaaKnown
import Derived.Test.YtdhkcjjcgpkkgaaActs
namespace Go.Proofs.Ytdhkcjjcgpkkgaa
open Go.RowKit Go.Maps Go.BigFrame

theorem wp_load_rowTo {P : Program} {o : Oper} {a : Act} {w : World} {K : Act → World → Prop} {Q : Exit → Act → World → Prop} {ty : TypeId} {x : Operand} (ho : o.op = .load ty x) {b : Nat} {A : Array Value} {t : TypeId} (hb : w.heap[b]? = some (.cells A t (0, 0)))
    {d : TypeDesc} (hu : P.underlying ty = some d) (hd : (match d with | .struct _ | .array _ _ => true | _ => false) = true) (hi : (P.info? ty).map (·.size) = some A.size)
    (hx : a.eval x = .pointer (some ⟨b, 0, none⟩)) (h : K (a.put o.dst (.agg A)) w) : o.wp P a w K Q := by
  unfold Oper.wp
  rw [run_load_rowAt ho hb hu hd hi hx]
  exact h
/-- the cells of call i -/
def ActAt (b o i : Nat) (what tm ti : Int) (w : World) : Prop :=
  w.cell? ⟨b, o + i * 3, none⟩ = some (.int .i64 what) ∧ w.cell? ⟨b, o + i * 3 + 1, none⟩ = some (.int .i64 tm) ∧ w.cell? ⟨b, o + i * 3 + 2, none⟩ = some (.int .i64 ti)
theorem ActAt.frm {b o i : Nat} {what tm ti : Int} {w w' : World} (h : ActAt b o i what tm ti w) (hf : Frm [] w w') : ActAt b o i what tm ti w' := ⟨hf.keep h.1, hf.keep h.2.1, hf.keep h.2.2⟩
/-- behind i rounds -/
def PLInv (w : World) (cb rb i : Nat) (wr : World) : Prop :=
  ∃ now D F, Clk wr cb now D i F ∧ wr.heap[rb]? = some (.cells (refA now D) 30 (0, 0)) ∧ Frm [] w wr ∧ (∀ x ∈ F, w.heap.size ≤ x) ∧ rb ∉ F ∧ w.heap.size ≤ rb
theorem PLInv.start {w w2 w4 : World} (h1 : Frm [] (w.alloc (.cells #[.int .i64 0, .map none, .slice none 0 0] 27)) w2) (h2 : Frm [w2.heap.size] (w2.alloc (.cells Z30 30)) w4)
    (h3 : w4.heap[w2.heap.size]? = some (.cells (refA 0 D0) 30 (0, 0))) : PLInv w w.heap.size w2.heap.size 0 w4 := by
  have hs : w.heap.size + 1 ≤ w2.heap.size := by have := h1.size; simpa using this
  have h4 : Frm [] w2 w4 := ((Frm.refl [] w2).alloc _).then h2 (by intro x hx; simp at hx; right; omega)
  refine ⟨0, D0, [w.heap.size], ((Clk.zero (heap_alloc_new w _)).frm h1 (by simp)).frm h4 (by simp), h3, (((Frm.refl [] w).alloc _).trans h1).trans h4, by simp, ?_, by omega⟩
  simp; omega

theorem PLInv.next {w wr w5 w6 : World} {cb rb i : Nat} {now now' : Int} {D D' : DMap} {F : List Nat} (h2 : wr.heap[rb]? = some (.cells (refA now D) 30 (0, 0))) (h3 : Frm [] w wr) (h4 : ∀ x ∈ F, w.heap.size ≤ x) (h5 : rb ∉ F) (h6 : w.heap.size ≤ rb)
    (hc : ClkTo wr.drew cb now' D' (i + 1) F w5) (hf : Frm [rb] w5 w6) (hb : w6.heap[rb]? = some (.cells (refA now' D') 30 (0, 0))) : PLInv w cb rb (i + 1) w6 := by
  obtain ⟨F', k1, k2, k3⟩ := hc
  have hlt := lt_of_block h2
  have hs := h3.size
  have k3' : ∀ x ∈ F', x ∈ F ∨ wr.heap.size ≤ x := k3
  have hn : rb ∉ F' := fun hx => by
    rcases k3' rb hx with h | h
    · exact h5 h
    · omega
  refine ⟨now', D', F', k1.frm hf (fun x hx hy => hn (by simp at hy; exact hy ▸ hx)), hb, ?_, fun x hx => ?_, hn, h6⟩
  · exact (((h3.trans ((Frm.refl [] wr).drew)).then k2 (fun x hx => .inr (h4 x hx))).then hf (by intro x hx; simp at hx; right; omega))
  · rcases k3' x hx with h | h
    · exact h4 x h
    · omega
theorem ActAt.call {w wr w5 : World} {b o i cb N : Nat} {what tm ti now : Int} {D : DMap} {F : List Nat} (ha : ActAt b o i what tm ti w) (h3 : Frm [] w wr) (h4 : ∀ x ∈ F, w.heap.size ≤ x) (hc : ClkTo wr.drew cb now D N F w5) : ActAt b o i what tm ti w5 := by
  obtain ⟨F', k1, k2, k3⟩ := hc
  exact ha.frm ((h3.trans ((Frm.refl [] wr).drew)).then k2 (fun x hx => .inr (h4 x hx)))
theorem PLInv.cell {wr w5 : World} {cb rb N : Nat} {now now' : Int} {D D' : DMap} {F : List Nat} (h2 : wr.heap[rb]? = some (.cells (refA now D) 30 (0, 0))) (h5 : rb ∉ F) (hc : ClkTo wr.drew cb now' D' N F w5) : w5.heap[rb]? = some (.cells (refA now D) 30 (0, 0)) := by
  obtain ⟨F', k1, k2, k3⟩ := hc
  exact k2.at (((Frm.refl [] wr).drew).at h2 (by simp)) h5
set_option maxHeartbeats 4000000 in
set_option maxRecDepth 100000 in
theorem plays_any (ao : Option Addr) (n cap : Nat) (w : World) (h : Acts w ao n) : Calls Try.prog 3 #[.slice ao n cap] w (Ret (.bool true) (Frm [] w)) := by
  by_cases hn : 80 < n
  · clear h
    have hn' : (80 : Int) < n := by omega
    go_enter Try.func3, Try.ntmps3
    go_wp2_with (first | (go_at_call 8; go_must (refine (known_any _).mono ?_; rintro e w' ⟨rfl, hf⟩; have HF := Lib.hid hf; clear hf)))
    go_ret
    exact ⟨rfl, HF.out⟩
  · have hn' : ¬ (80 : Int) < n := by omega
    have HA := Lib.hid h
    have HN := Lib.hid hn
    clear h hn
    go_enter Try.func3, Try.ntmps3
    go_wp2_with (first
      | (go_at_call 9; go_must (refine (refNew_any _).mono ?_; rintro e w2 ⟨rfl, hf⟩; have HF := Lib.hid hf; clear hf))
      | (refine wpList_alloc_row rfl 30 rfl Z30 257 Try.info30z ?_)
      | (refine wpList_store_row rfl 30 _ _ rfl _ _ _ 30 rfl rfl (heap_alloc_new _ _) (refA_Z30 _ _) (refA_info _ _) (refA_one _ _) ?_; intro w4 hb4 hf4))
    have HP := Lib.hid (PLInv.start HF.out hf4 hb4)
    clear hf4 hb4
    go_loopw [5, 6] (fun s5 s6 wr => s5 = .bool true ∧ ∃ i : Nat, s6 = .int .i64 i ∧ i ≤ n ∧ PLInv w w.heap.size w2.heap.size i wr) (fun _ s6 _ => n - (intOf s6).toNat)
    case atStart => exact ⟨rfl, 0, rfl, Nat.zero_le _, HP.out⟩
    case round =>
      clear HP
      obtain ⟨rfl, i, rfl, hi, hinv⟩ := hrel
      have hi' : (i : Int) ≤ n := by omega
      have HI := Lib.hid hi
      clear hi
      by_cases hin : i < n
      · have hlt : (i : Int) < n := by omega
        have HIN := Lib.hid hin
        obtain ⟨b, o, what, tm, ti, rfl, ha⟩ := HA.out i hin
        obtain ⟨now, D, F, p1, p2, p3, p4, p5, p6⟩ := hinv
        have P1 := Lib.hid p1; have P2 := Lib.hid p2; have P3 := Lib.hid p3; have P4 := Lib.hid p4; have P5 := Lib.hid p5; have P6 := Lib.hid p6
        have HA0 := Lib.hid (show ActAt b o i what tm ti w from ha)
        have HS : Hid (ActAt b o i what tm ti wr.drew) := Lib.hid ((ActAt.frm ha p3).frm (Frm.refl [] wr).drew)
        have HAL : Hid (∀ x ∈ F, w.heap.size ≤ x) := Lib.hid p4
        clear ha p1 p2 p3 p4 p5 p6 hin
        go_upto_region 9 with (fail)
        refine wp_region_held_drew (S := ActAt b o i what tm ti) (by kernel_rfl) HS.out (fun _ => ?_)
        refine wpAnyH_take (i := 1) (v := .slice (some ⟨b, o, none⟩) n cap) rfl (by kernel_rfl) (by kernel_rfl) (by kernel_rfl) (fun _ _ _ h => h) (Or.inl ⟨by rfl, fun w' hS => ?_⟩) HS.out ?_
        · go_simp
        try simp only [Act.put, List.setIfInBounds_toArray]
        refine wpAnyH_take (i := 2) (v := .int .i64 i) rfl (by kernel_rfl) (by kernel_rfl) (by kernel_rfl) (fun _ _ _ h => h) (Or.inl ⟨by rfl, fun w' hS => ?_⟩) HS.out ?_
        · go_simp
        try simp only [Act.put]
        refine wpAnyH_take (i := 3) (v := .pointer (some ⟨b, o + i * 3, none⟩)) rfl (by kernel_rfl) (by kernel_rfl) (by kernel_rfl) (fun _ _ _ h => h) (Or.inl ⟨by rfl, fun w' hS => ?_⟩) HS.out ?_
        · go_simp
        try simp only [Act.put]
        refine wpAnyH_take (i := 4) (v := .agg #[.int .i64 what, .int .i64 tm, .int .i64 ti]) rfl (by kernel_rfl) (by kernel_rfl) (by kernel_rfl) (fun _ _ _ h => h) (Or.inl ⟨by rfl, fun w' hS => ?_⟩) HS.out ?_
        · obtain ⟨e0, e1, e2⟩ := hS
          go_simp
        try simp only [Act.put]
        refine wpAnyH_ready (rs := [0]) (by kernel_rfl) (by simp) (AllReadyH.cons rfl (fun K hK => ?_) AllReadyH.nil)
        rw [if_pos (by rfl)]
        refine wp_load_rowTo rfl (((Frm.refl [] wr).drew).at P2.out (by simp)) Try.underlying30 rfl (refA_info _ _) rfl ?_
        refine hK.out _ _ HS.out (fun _ => ?_)
        clear hK K
        try simp only [Act.put]
        refine wpAnyH_ready (rs := [5]) (by kernel_rfl) (by simp) (AllReadyH.cons rfl (fun K hK => ?_) AllReadyH.nil)
        go_simp
        refine (do_any w.heap.size now D i F what tm ti wr.drew (P1.out.frm (Frm.refl [] wr).drew (by simp)) (by have := HI.out; have := HN.out; omega)).mono ?_
        rintro e w5 ⟨rfl, hto⟩
        have HT := Lib.hid hto
        clear hto
        have HS := Lib.hid (HA0.out.call P3.out P4.out HT.out)
        have HB := Lib.hid (PLInv.cell P2.out P5.out HT.out)
        refine hK.out _ _ HS.out (fun _ => ?_)
        clear hK K
        try simp only [Act.put, List.setIfInBounds_toArray, List.set_cons_zero, List.set_cons_succ]
        refine wpAnyH_take (i := 6) (v := .tuple #[.agg (refA (actNow now what ti) (actD now D what tm ti)), .bool true]) rfl (by kernel_rfl) (by kernel_rfl) (by kernel_rfl) (fun _ _ _ h => h) (Or.inl ⟨by rfl, fun w' hS => ?_⟩) HS.out ?_
        · go_simp
        try simp only [Act.put, List.setIfInBounds_toArray]
        refine wpAnyH_take (i := 7) (v := .agg (refA (actNow now what ti) (actD now D what tm ti))) rfl (by kernel_rfl) (by kernel_rfl) (by kernel_rfl) (fun _ _ _ h => h) (Or.inl ⟨by rfl, fun w' hS => ?_⟩) HS.out ?_
        · go_simp
        try simp only [Act.put]
        refine wpAnyH_take (i := 8) (v := .bool true) rfl (by kernel_rfl) (by kernel_rfl) (by kernel_rfl) (fun _ _ _ h => h) (Or.inl ⟨by rfl, fun w' hS => ?_⟩) HS.out ?_
        · go_simp
        try simp only [Act.put]
        refine wpAnyH_ready (rs := [9]) (by kernel_rfl) (by simp) (AllReadyH.cons rfl (fun K hK => ?_) AllReadyH.nil)
        rw [if_pos (by rfl)]
        refine wp_store_rowTo 30 _ _ rfl _ (refA (actNow now what ti) (actD now D what tm ti)) _ 30 rfl rfl HB.out (refA_same _ _ _ _) (refA_info _ _) (refA_one _ _) ?_
        intro w6 hb6 hf6
        have HN6 := Lib.hid (PLInv.next P2.out P3.out P4.out P5.out P6.out HT.out hf6 hb6)
        have HS : Hid (ActAt b o i what tm ti w6) := by
          obtain ⟨_, _, _, _, _, q, _⟩ := HN6.out
          exact HA0.out.frm q
        clear hf6 hb6
        refine hK.out _ _ HS.out (fun _ => ?_)
        clear hK K
        try simp only [Act.put]
        refine wpAnyH_ready (rs := [10]) (by kernel_rfl) (by simp) (AllReadyH.cons rfl (fun K hK => ?_) AllReadyH.nil)
        go_simp
        refine hK.out _ _ HS.out (fun _ => ?_)
        clear hK K
        try simp only [Act.put, List.setIfInBounds_toArray, List.set_cons_zero, List.set_cons_succ]
        refine wpAnyH_done (by kernel_rfl) ?_ _
        go_wp2_with fail
        have hi1 := HIN.out
        exact ⟨⟨rfl, i + 1, by simp, hi1, HN6.out⟩, by simp [intOf]; omega⟩
      · have hge : (n : Int) ≤ i := by omega
        have hlt : ¬ (i : Int) < n := by omega
        obtain ⟨_, _, _, _, _, p3, _⟩ := hinv
        have P3 := Lib.hid p3
        clear p3 hin
        go_wp2_with (first | (go_at_call 8; go_must (refine (known_any _).mono ?_; rintro e w' ⟨rfl, hf⟩; have HK := Lib.hid hf; clear hf)))
        go_ret
        exact ⟨rfl, P3.out.trans HK.out⟩
end Go.Proofs.Ytdhkcjjcgpkkgaa
