import Derived.Test.YtdhkcjjcgpkkgaaLawA
import Derived.Deep.RegionHeld3
namespace Go.Proofs.Ytdhkcjjcgpkkgaa
open Go.RowKit Go.Maps Go.BigFrame

theorem refA_same (n m : Int) (D E : DMap) : (refA n D).size = (refA m E).size := by rw [refA_size, refA_size]
theorem Ints.nil (w : World) : Ints w (.slice none 0 0) [] := World.ownsRow_nil _ _ _ _
theorem Ints.frm {w w' : World} {v : Value} {l : List Int} {F : List Nat} (h : Ints w v l) (hf : Frm F w w') (hn : ∀ k, v.ownBlock = some k → k ∉ F) : Ints w' v l := hf.owns h hn

/-- the boxes of 'do': the reference's clock, the call, the result -/
theorem boxed3 {w W : World} {A X : Array Value} (hW : W = ((w.alloc (.cells A 30)).alloc (.cells X 36)).alloc (.cells Z30 30)) :
    Frm [] w W ∧ W.heap[w.heap.size]? = some (.cells A 30 (0, 0)) ∧ W.heap[w.heap.size + 1]? = some (.cells X 36 (0, 0)) ∧ W.heap[w.heap.size + 2]? = some (.cells Z30 30 (0, 0)) ∧ W.heap.size = w.heap.size + 3 := by
  subst hW
  refine ⟨(((Frm.refl _ _).alloc _).alloc _).alloc _, alloc_at (alloc_at (heap_alloc_new _ _)), ?_, ?_, by simp⟩
  · have := heap_alloc_new (w.alloc (.cells A 30)) (.cells X 36)
    exact alloc_at (by simpa using this)
  · have := heap_alloc_new ((w.alloc (.cells A 30)).alloc (.cells X 36)) (.cells Z30 30)
    simpa using this
/-- the state ahead of the last statement of 'do' -/
def DoMid (w : World) (cb : Nat) (now : Int) (D : DMap) (N : Nat) (F : List Nat) (what tm ti : Int) (w3 : World) : Prop :=
  ∃ F3, Clk w3 cb now D N F3 ∧ Frm F w w3 ∧ (∀ x ∈ F3, x ∈ F ∨ w.heap.size + 3 ≤ x) ∧ (∀ x ∈ F, x < w.heap.size) ∧ w3.heap[w.heap.size]? = some (.cells (refA now D) 30 (0, 0)) ∧
    w3.heap[w.heap.size + 1]? = some (.cells #[.int .i64 what, .int .i64 tm, .int .i64 ti] 36 (0, 0)) ∧ w3.heap[w.heap.size + 2]? = some (.cells Z30 30 (0, 0))
/-- behind a call on the clock and one on the reference, and the store of the reference's new clock -/
theorem DoMid.of {w W w1 w2 w3 : World} {cb : Nat} {now now' : Int} {D D' : DMap} {N' : Nat} {F : List Nat} {what tm ti : Int} (hlt : ∀ x ∈ F, x < w.heap.size)
    (hB : Frm [] w W ∧ W.heap[w.heap.size]? = some (.cells (refA now D) 30 (0, 0)) ∧ W.heap[w.heap.size + 1]? = some (.cells #[.int .i64 what, .int .i64 tm, .int .i64 ti] 36 (0, 0)) ∧ W.heap[w.heap.size + 2]? = some (.cells Z30 30 (0, 0)) ∧ W.heap.size = w.heap.size + 3)
    (h1 : ClkTo W cb now' D' N' F w1) (h2 : Frm [] w1 w2) (h3 : Frm [w.heap.size] w2 w3) (hb : w3.heap[w.heap.size]? = some (.cells (refA now' D') 30 (0, 0))) : DoMid w cb now' D' N' F what tm ti w3 := by
  obtain ⟨F3, k1, k2, k3⟩ := h1
  obtain ⟨b1, b2, b3, b4, b5⟩ := hB
  have hF3 : ∀ x ∈ F3, x ∈ F ∨ w.heap.size + 3 ≤ x := fun x hx => by
    rcases k3 x hx with h | h
    · exact .inl h
    · right; omega
  have hn : ∀ x ∈ F3, x ∉ [w.heap.size] := fun x hx hy => by
    simp at hy
    rcases hF3 x hx with h | h
    · have := hlt x h; omega
    · omega
  refine ⟨F3, (k1.frm h2 (by simp)).frm h3 hn, (((b1.mono (by simp)).trans k2).then h2 (by simp)).then h3 (by intro x hx; simp at hx; right; omega), hF3, hlt, hb, ?_, ?_⟩
  · exact h3.at (h2.at (k2.at b3 (fun hx => by have := hlt _ hx; omega)) (by simp)) (by simp)
  · exact h3.at (h2.at (k2.at b4 (fun hx => by have := hlt _ hx; omega)) (by simp)) (by simp)
theorem DoMid.cell {w w3 w' : World} {cb : Nat} {now : Int} {D : DMap} {N : Nat} {F F3 : List Nat} (hF3 : ∀ x ∈ F3, x ∈ F ∨ w.heap.size + 3 ≤ x) (hlt : ∀ x ∈ F, x < w.heap.size) {k : Nat} (hk : k < 3) {o : Obj}
    (h : w3.heap[w.heap.size + k]? = some o) (hc : ClkTo w3 cb now D N F3 w') : w'.heap[w.heap.size + k]? = some o := by
  obtain ⟨_, _, h2, _⟩ := hc
  exact h2.at h (fun hx => by
    rcases hF3 _ hx with h | h
    · have := hlt _ h; omega
    · omega)
theorem DoMid.end {w w3 w4 w5 : World} {cb : Nat} {now : Int} {D : DMap} {N : Nat} {F F3 : List Nat} (h2 : Frm F w w3) (hF3 : ∀ x ∈ F3, x ∈ F ∨ w.heap.size + 3 ≤ x) (hlt : ∀ x ∈ F, x < w.heap.size)
    (hc : ClkTo w3 cb now D N F3 w4) (h5 : Frm [w.heap.size + 2] w4 w5) (hs : w.heap.size + 3 ≤ w3.heap.size) : ClkTo w cb now D N F w5 := by
  obtain ⟨F4, k1, k2, k3⟩ := hc
  have hF4 : ∀ x ∈ F4, x ∈ F ∨ w.heap.size + 3 ≤ x := fun x hx => by
    rcases k3 x hx with h | h
    · exact hF3 x h
    · right; omega
  refine ⟨F4, k1.frm h5 (fun x hx hy => ?_), (h2.then k2 (fun x hx => (hF3 x hx).imp id (fun h => by omega))).then h5 (by intro x hx; simp at hx; right; omega), fun x hx => (hF4 x hx).imp id (fun h => by omega)⟩
  simp at hy
  rcases hF4 x hx with h | h
  · have := hlt x h; omega
  · omega
/-- what holds behind every operation of the last statement -/
def DoS (w w3 : World) (cb : Nat) (now : Int) (D : DMap) (N : Nat) (F3 : List Nat) (w' : World) : Prop :=
  ∃ F4 C, Clk w' cb now D N F4 ∧ Frm ((w.heap.size + 2) :: F3) w3 w' ∧ (∀ x ∈ F4, x ∈ F3 ∨ w3.heap.size ≤ x) ∧ w'.heap[w.heap.size + 2]? = some (.cells C 30 (0, 0)) ∧ C.size = 257
section
variable {w w3 w' w2 : World} {cb : Nat} {now : Int} {D : DMap} {N : Nat} {F F3 F4 : List Nat}
theorem DoS.at (hF3 : ∀ x ∈ F3, x ∈ F ∨ w.heap.size + 3 ≤ x) (hlt : ∀ x ∈ F, x < w.heap.size) {k : Nat} (hk : k < 2) {o : Obj}
    (h : w3.heap[w.heap.size + k]? = some o) (hS : DoS w w3 cb now D N F3 w') : w'.heap[w.heap.size + k]? = some o := by
  obtain ⟨F4, C, _, h2, _⟩ := hS
  refine h2.at h (fun hx => ?_)
  rcases List.mem_cons.1 hx with h | h
  · omega
  · rcases hF3 _ h with h | h
    · have := hlt _ h; omega
    · omega
theorem DoS.call (hF3 : ∀ x ∈ F3, x ∈ F ∨ w.heap.size + 3 ≤ x) (hlt : ∀ x ∈ F, x < w.heap.size) (hs : w.heap.size + 3 ≤ w3.heap.size)
    (h2 : Frm ((w.heap.size + 2) :: F3) w3 w') (h3 : ∀ x ∈ F4, x ∈ F3 ∨ w3.heap.size ≤ x) {C : Array Value} (h4 : w'.heap[w.heap.size + 2]? = some (.cells C 30 (0, 0))) (h5 : C.size = 257)
    (k : ClkTo w' cb now D N F4 w2) : DoS w w3 cb now D N F3 w2 := by
  obtain ⟨F5, k1, k2, k3⟩ := k
  have hg : w3.heap.size ≤ w'.heap.size := h2.size
  refine ⟨F5, C, k1, h2.then k2 (fun x hx => ?_), fun x hx => ?_, k2.at h4 (fun hx => ?_), h5⟩
  · exact (h3 x hx).imp (List.mem_cons_of_mem _) id
  · rcases k3 x hx with h | h
    · exact h3 x h
    · right; omega
  · rcases h3 _ hx with h | h
    · rcases hF3 _ h with h | h
      · have := hlt _ h; omega
      · omega
    · omega
theorem DoS.store (hF3 : ∀ x ∈ F3, x ∈ F ∨ w.heap.size + 3 ≤ x) (hlt : ∀ x ∈ F, x < w.heap.size) (hs : w.heap.size + 3 ≤ w3.heap.size)
    (hS : DoS w w3 cb now D N F3 w') (hf : Frm [w.heap.size + 2] w' w2) {A : Array Value} (hb : w2.heap[w.heap.size + 2]? = some (.cells A 30 (0, 0))) (hA : A.size = 257) : DoS w w3 cb now D N F3 w2 := by
  obtain ⟨F4, C, h1, h2, h3, _, _⟩ := hS
  refine ⟨F4, A, h1.frm hf (fun x hx hy => ?_), h2.then hf (fun x hx => ?_), h3, hb, hA⟩
  · simp at hy
    rcases h3 _ hx with h | h
    · rcases hF3 _ h with h | h
      · have := hlt _ h; omega
      · omega
    · omega
  · simp at hx; left; simp [hx]
theorem DoS.end (h2 : Frm F w w3) (hF3 : ∀ x ∈ F3, x ∈ F ∨ w.heap.size + 3 ≤ x) (hs : w.heap.size + 3 ≤ w3.heap.size) (hS : DoS w w3 cb now D N F3 w') : ClkTo w cb now D N F w' := by
  obtain ⟨F4, C, h1, h4, h3, _, _⟩ := hS
  refine ⟨F4, h1, h2.then h4 (fun x hx => ?_), fun x hx => ?_⟩
  · rcases List.mem_cons.1 hx with h | h
    · right; omega
    · exact (hF3 x h).imp id (fun h => by omega)
  · rcases h3 x hx with h | h
    · exact (hF3 x h).imp id (fun h => by omega)
    · right; omega
end
section
variable {P : Program} {o : Oper} {a : Act} {w : World}
theorem run_load_rowAt {ty : TypeId} {x : Operand} (ho : o.op = .load ty x) {b : Nat} {A : Array Value} {t : TypeId} (hb : w.heap[b]? = some (.cells A t (0, 0)))
    {d : TypeDesc} (hu : P.underlying ty = some d) (hd : (match d with | .struct _ | .array _ _ => true | _ => false) = true) (hi : (P.info? ty).map (·.size) = some A.size)
    (hx : a.eval x = .pointer (some ⟨b, 0, none⟩)) : (execOp a.eval o).run P w = .ok (.value (.agg A)) w := by
  unfold execOp
  simp only [ho, hx, Instr.loadAt, Instr.sureAddr, Sem.run_bind, Sem.run_pure, Result.andThen_ok, run_loadVar_row w b t ty A (0, 0) d hb hu hd hi]
theorem wp_store_rowTo {K : Act → World → Prop} {Q : Exit → Act → World → Prop} (ty : TypeId) (x y : Operand) (ho : o.op = .store ty x y) (b : Nat) (A C : Array Value) (t : TypeId) (hx : a.eval x = .pointer (some ⟨b, 0, none⟩)) (hy : a.eval y = .agg A)
    (hb : w.heap[b]? = some (.cells C t (0, 0))) (hs : A.size = C.size) (hi : (P.info? ty).map (·.size) = some A.size) (h1 : A.all (·.oneCell') = true)
    (h : ∀ w', w'.heap[b]? = some (.cells A t (0, 0)) → Frm [b] w w' → K (a.put o.dst undef) w') : o.wp P a w K Q := by
  have hw := setCells_whole hb A hs
  refine wp_store_mid ty x y ho b 0 A hx hy (fun j hj => ⟨?_, ?_⟩) hi h1 (h _ hw.1 hw.2)
  · rw [Nat.zero_add, cell_of hb]; simp [show j < C.size by omega]
  · rw [Nat.zero_add]; exact free_of hb j
end


set_option maxHeartbeats 4000000 in
set_option maxRecDepth 100000 in
theorem do_start (cb : Nat) (now : Int) (D : DMap) (N : Nat) (F : List Nat) (what tm ti : Int) (w : World) (h : Clk w cb now D N F) (hN : N ≤ 900000) (hw : what = 0 ∨ what = 1) :
    Calls Try.prog 10 #[.pointer (some ⟨cb, 0, none⟩), .agg (refA now D), .agg #[.int .i64 what, .int .i64 tm, .int .i64 ti]] w (Ret (.tuple #[.agg (refA now (startD now D tm ti)), .bool true]) (ClkTo w cb now (startD now D tm ti) (N + 1) F)) := by
  have HG := Lib.hid h.good
  have HLT := Lib.hid h.lt
  obtain ⟨W, hW⟩ : ∃ W, ((w.alloc (.cells (refA now D) 30)).alloc (.cells #[.int .i64 what, .int .i64 tm, .int .i64 ti] 36)).alloc (.cells Z30 30) = W := ⟨_, rfl⟩
  have HB := Lib.hid (boxed3 hW.symm)
  have HW := Lib.hid hW
  have HC := Lib.hid (h.frm HB.out.1 (by simp))
  have x0 := cell_of HB.out.2.2.1 0
  have x1 := cell_of HB.out.2.2.1 1
  have x2 := cell_of HB.out.2.2.1 2
  clear hW h
  have hww : (what == 0) = true ∨ ((what == 0) = false ∧ (what == 1) = true) := by
    rcases hw with rfl | rfl
    · left; rfl
    · right; exact ⟨rfl, rfl⟩
  clear hw
  generalize he : startE now tm ti = er
  generalize hd : startD now D tm ti = D2
  have HE := Lib.hid he; have HD := Lib.hid hd
  clear he hd
  rcases hww with hw | ⟨hw, hw2⟩
  all_goals
    go_enter Try.func10, Try.ntmps10
    go_upto_region 18 with (first
      | (refine wpList_box_row rfl 30 _ rfl (refA now D) rfl ?_)
      | (refine wpList_alloc_row rfl 30 rfl Z30 257 Try.info30z ?_; rw [HW.out])
      | (refine wpList_load_whole rfl 30 _ rfl _ rfl _ 30 HB1.out _ Try.underlying30 rfl (refA_info _ _) ?_)
      | (refine wpList_store_row rfl 30 _ _ rfl _ _ _ 30 rfl rfl HB2.out (refA_same _ _ _ _) (refA_info _ _) (refA_one _ _) ?_; intro w3 hb3 hf3)
      | (go_at_call 12; go_must (refine (start_any cb now D N F tm ti _ HC.out (by omega)).mono ?_; rintro e w1 ⟨rfl, hto⟩; rw [HE.out]; rw [HD.out] at hto; have HTO := Lib.hid hto; have HB1 : Hid (w1.heap[w.heap.size]? = some (.cells (refA now D) 30 (0, 0))) := (by obtain ⟨_, _, q, _⟩ := hto; exact q.at HB.out.2.1 (fun hx => by have := HLT.out _ hx; omega)); have q1 := (cell_of (show w1.heap[w.heap.size + 1]? = _ from (by obtain ⟨_, _, q, _⟩ := hto; exact q.at HB.out.2.2.1 (fun hx => by have := HLT.out _ hx; omega))) 1); have q2 := (cell_of (show w1.heap[w.heap.size + 1]? = _ from (by obtain ⟨_, _, q, _⟩ := hto; exact q.at HB.out.2.2.1 (fun hx => by have := HLT.out _ hx; omega))) 2); clear hto))
      | (go_at_call 24; go_must (refine (refStart_any now D tm ti _ HG.out).mono ?_; rintro e w2 ⟨rfl, hf2⟩; rw [HE.out, HD.out]; have HF2 := Lib.hid hf2; have HB2 := Lib.hid (hf2.at HB1.out (by simp)); clear hf2)))
    have HM : Hid (DoMid w cb now D2 (N + 1) F what tm ti w3) := Lib.hid (DoMid.of HLT.out HB.out HTO.out HF2.out hf3 hb3)
    clear hb3 hf3 HTO HF2 HB1 HB2 HB HC HW x0 x1 x2 q1 q2
    obtain ⟨F3, m1, m2, m3, m4, m5, m6, m7⟩ := HM.out
    have M1 := Lib.hid m1; have M2 := Lib.hid m2; have M3 := Lib.hid m3; have M4 := Lib.hid m4
    have M5 := Lib.hid (fun w' (hc : DoS w w3 cb now D2 (N + 1) F3 w') => DoS.at (k := 0) m3 m4 (by omega) m5 hc)
    have M6 := Lib.hid (fun w' (hc : DoS w w3 cb now D2 (N + 1) F3 w') => (cell_of (DoS.at (k := 1) m3 m4 (by omega) m6 hc) 1))
    have MS : Hid (w.heap.size + 3 ≤ w3.heap.size) := by have := lt_of_block m7; show _ ≤ _; omega
    have HS : Hid (DoS w w3 cb now D2 (N + 1) F3 w3.drew) := Lib.hid ⟨F3, Z30, m1.frm ((Frm.refl [] _).drew) (by simp), (Frm.refl _ _).drew, fun x hx => .inl hx, ((Frm.refl [] w3).drew).at m7 (by simp), Z30_size⟩
    clear m1 m2 m3 m4 m5 m6 m7 HM
    refine wp_region_held_drew (S := DoS w w3 cb now D2 (N + 1) F3) (by kernel_rfl) HS.out (fun _ => ?_)
    refine wpAnyH_take (i := 0) (v := .agg (refA now D2)) rfl (by kernel_rfl) (by kernel_rfl) (by kernel_rfl) (fun _ _ _ h => h) (Or.inl ⟨by rfl, fun w' hS => ?_⟩) HS.out ?_
    · exact run_load_rowAt rfl (M5.out w' hS) Try.underlying30 rfl (refA_info _ _) (by rfl)
    try simp only [Act.put, List.setIfInBounds_toArray]
    refine wpAnyH_take (i := 1) (v := .int .i64 er) rfl (by kernel_rfl) (by kernel_rfl) (by kernel_rfl) (fun _ _ _ h => h) (Or.inl ⟨by rfl, fun w' hS => ?_⟩) HS.out ?_
    · go_simp
    try simp only [Act.put]
    refine wpAnyH_take (i := 3) (v := .int .i64 er) rfl (by kernel_rfl) (by kernel_rfl) (by kernel_rfl) (fun _ _ _ h => h) (Or.inl ⟨by rfl, fun w' hS => ?_⟩) HS.out ?_
    · go_simp
    try simp only [Act.put]
    refine wpAnyH_ready (rs := [2]) (by kernel_rfl) (by simp) (AllReadyH.cons rfl (fun K hK => ?_) AllReadyH.nil)
    go_simp
    refine (num_any er _).mono ?_
    rintro e w4 ⟨rfl, rfl⟩
    refine hK.out _ _ HS.out (fun _ => ?_)
    clear hK K
    try simp only [Act.put, List.setIfInBounds_toArray, List.set_cons_zero, List.set_cons_succ]
    refine wpAnyH_take (i := 4) (v := .bool true) rfl (by kernel_rfl) (by kernel_rfl) (by kernel_rfl) (fun _ _ _ h => h) (Or.inl ⟨by rfl, fun w' hS => ?_⟩) HS.out ?_
    · go_simp
    try simp only [Act.put, List.setIfInBounds_toArray]
    refine wpAnyH_take (i := 5) (v := .bool true) rfl (by kernel_rfl) (by kernel_rfl) (by kernel_rfl) (fun _ _ _ h => h) (Or.inl ⟨by rfl, fun w' hS => ?_⟩) HS.out ?_
    · go_simp
    try simp only [Act.put]
    refine wpAnyH_take (i := 6) (v := .pointer (some ⟨cb, 0, none⟩)) rfl (by kernel_rfl) (by kernel_rfl) (by kernel_rfl) (fun _ _ _ h => h) (Or.inl ⟨by rfl, fun w' hS => ?_⟩) HS.out ?_
    · go_simp
    try simp only [Act.put]
    refine wpAnyH_take (i := 7) (v := .agg (refA now D2)) rfl (by kernel_rfl) (by kernel_rfl) (by kernel_rfl) (fun _ _ _ h => h) (Or.inl ⟨by rfl, fun w' hS => ?_⟩) HS.out ?_
    · exact run_load_rowAt rfl (M5.out w' hS) Try.underlying30 rfl (refA_info _ _) (by rfl)
    try simp only [Act.put]
    refine wpAnyH_take (i := 8) (v := .pointer (some ⟨w.heap.size + 1, 1, none⟩)) rfl (by kernel_rfl) (by kernel_rfl) (by kernel_rfl) (fun _ _ _ h => h) (Or.inl ⟨by rfl, fun w' hS => ?_⟩) HS.out ?_
    · go_simp
    try simp only [Act.put]
    refine wpAnyH_take (i := 9) (v := .int .i64 tm) rfl (by kernel_rfl) (by kernel_rfl) (by kernel_rfl) (fun _ _ _ h => h) (Or.inl ⟨by rfl, fun w' hS => ?_⟩) HS.out ?_
    · have e0 := M6.out w' hS
      go_simp
    try simp only [Act.put]
    refine wpAnyH_ready (rs := [10]) (by kernel_rfl) (by simp) (AllReadyH.cons rfl (fun K hK => ?_) AllReadyH.nil)
    go_simp
    obtain ⟨F4, C4, s1, s2, s3, s4, s5⟩ := HS.out
    have HQ := Lib.hid (fun w2 (k : ClkTo _ cb now D2 (N + 1) F4 w2) => DoS.call M3.out M4.out MS.out s2 s3 s4 s5 k)
    refine (agrees_any cb now D2 (N + 1) F4 tm _ s1 (by omega)).mono ?_
    rintro e w4 ⟨rfl, hc⟩
    have HS := Lib.hid (HQ.out _ hc)
    clear hc HQ s1 s2 s3 s4 s5
    refine hK.out _ _ HS.out (fun _ => ?_)
    clear hK K
    try simp only [Act.put, List.setIfInBounds_toArray, List.set_cons_zero, List.set_cons_succ]
    refine wpAnyH_take (i := 11) (v := .bool true) rfl (by kernel_rfl) (by kernel_rfl) (by kernel_rfl) (fun _ _ _ h => h) (Or.inl ⟨by rfl, fun w' hS => ?_⟩) HS.out ?_
    · go_simp
    try simp only [Act.put, List.setIfInBounds_toArray]
    refine wpAnyH_ready (rs := [12]) (by kernel_rfl) (by simp) (AllReadyH.cons rfl (fun K hK => ?_) AllReadyH.nil)
    rw [if_pos (by rfl)]
    obtain ⟨F4, C4, s1, s2, s3, s4, s5⟩ := HS.out
    refine wp_store_rowTo 30 _ _ rfl _ (refA now D2) C4 30 rfl rfl s4 (by rw [s5, refA_size]) (refA_info _ _) (refA_one _ _) ?_
    intro w5 hb5 hf5
    have HS := Lib.hid (DoS.store M3.out M4.out MS.out HS.out hf5 hb5 (refA_size _ _))
    have HB5 := Lib.hid hb5
    clear hb5 hf5 s1 s2 s3 s4 s5
    refine hK.out _ _ HS.out (fun _ => ?_)
    clear hK K
    try simp only [Act.put]
    refine wpAnyH_ready (rs := [13]) (by kernel_rfl) (by simp) (AllReadyH.cons rfl (fun K hK => ?_) AllReadyH.nil)
    go_simp
    refine hK.out _ _ HS.out (fun _ => ?_)
    clear hK K
    try simp only [Act.put, List.setIfInBounds_toArray, List.set_cons_zero, List.set_cons_succ]
    refine wpAnyH_done (by kernel_rfl) ?_ _
    go_wp2_with fail
    exact bodyPost_ret (v := .tuple #[.agg (refA now D2), .bool true]) (results_row2 rfl rfl rfl HB5.out (refA_size _ _)) rfl ⟨rfl, DoS.end M2.out M3.out MS.out HS.out⟩

end Go.Proofs.Ytdhkcjjcgpkkgaa
