import Derived.Test.YtdhkcjjcgpkkgaaRef
namespace Go.Proofs.Ytdhkcjjcgpkkgaa
open Go.RowKit Go.Maps

theorem boxed {w W : World} {A : Array Value} (hW : W = (w.alloc (.cells A 30)).alloc (.cells Z30 30)) :
    Frm [] w W ∧ W.heap[w.heap.size]? = some (.cells A 30 (0, 0)) ∧ W.heap[w.heap.size + 1]? = some (.cells Z30 30 (0, 0)) := by
  subst hW
  refine ⟨((Frm.refl _ _).alloc _).alloc _, alloc_at (heap_alloc_new _ _), ?_⟩
  have := heap_alloc_new (w.alloc (.cells A 30)) (.cells Z30 30)
  simpa using this
theorem okN_cases (t : Int) : (okN t = false ∧ (t < 0 ∨ (decide (t < 0) = false ∧ 255 < t))) ∨ (okN t = true ∧ 0 ≤ t ∧ t < 256 ∧ decide (t < 0) = false ∧ decide (255 < t) = false) := by
  by_cases h0 : t < 0
  · left; exact ⟨by simp [okN]; omega, .inl h0⟩
  · by_cases h1 : 255 < t
    · left; exact ⟨by simp [okN]; omega, .inr ⟨by simpa using h0, h1⟩⟩
    · right; exact ⟨by simp [okN]; omega, by omega, by omega, by simpa using h0, by simpa using h1⟩


set_option maxHeartbeats 1000000 in
set_option maxRecDepth 100000 in
theorem refStart_any (now : Int) (D : DMap) (t k : Int) (w : World) (hg : Good now D) :
    Calls Try.prog 24 #[.agg (refA now D), .int .i64 t, .int .i64 k] w (Ret (.tuple #[.agg (refA now (startD now D t k)), .int .i64 (startE now t k)]) (Frm [] w)) := by
  obtain ⟨W, hW⟩ : ∃ W, (w.alloc (.cells (refA now D) 30)).alloc (.cells Z30 30) = W := ⟨_, rfl⟩
  have HB := Lib.hid (boxed hW.symm)
  have HW := Lib.hid hW
  clear hW
  have HG := Lib.hid hg
  have hn1 := hg.1
  have hn2 : now ≤ 1099511627776 := hg.2.1
  clear hg
  rcases okN_cases t with ⟨hok, h⟩ | ⟨hok, h0, h1, h2, h3⟩
  · have e1 : startE now t k = 2 := by simp [startE, hok]
    have e2 : startD now D t k = D := by simp [startD, e1]
    rw [e1, e2]
    clear e1 e2 hok
    rcases h with h | ⟨h, h'⟩
    all_goals
      go_enter Try.func24, Try.ntmps24
      go_wp2_with (first
        | (refine wpList_box_row rfl 30 _ rfl (refA now D) rfl ?_)
        | (refine wpList_alloc_row rfl 30 rfl Z30 257 Try.info30z ?_; rw [HW.out])
        | (refine wpList_load_whole rfl 30 _ rfl _ rfl _ 30 HB.out.2.1 _ Try.underlying30 rfl (refA_info _ _) ?_)
        | (refine wpList_store_row rfl 30 _ _ rfl _ _ _ 30 rfl rfl HB.out.2.2 (refA_Z30 _ _) (refA_info _ _) (refA_one _ _) ?_; intro w2 hb2 hf2))
      exact bodyPost_ret (v := .tuple #[.agg (refA now D), .int .i64 2]) (results_row2 rfl rfl rfl hb2 (refA_size _ _)) rfl ⟨rfl, HB.out.1.then hf2 (by intro x hx; simp at hx; right; omega)⟩
  · have c0 := cell_of HB.out.2.1 0
    rw [refA_zero] at c0
    by_cases hr : k < 0 ∨ maxT - now < k
    · have e1 : startE now t k = 3 := by simp [startE, hok, hr]
      have e2 : startD now D t k = D := by simp [startD, e1]
      rw [e1, e2]
      clear e1 e2 hok
      have hr' : (k < 0) ∨ (decide (k < 0) = false ∧ 1099511627776 - now < k) := by
        by_cases h : k < 0
        · exact .inl h
        · right; exact ⟨by simpa using h, by unfold maxT at hr; omega⟩
      clear hr
      rcases hr' with hr | ⟨hr, hr2⟩
      all_goals
        go_enter Try.func24, Try.ntmps24
        go_wp2_with (first
        | (refine wpList_box_row rfl 30 _ rfl (refA now D) rfl ?_)
        | (refine wpList_alloc_row rfl 30 rfl Z30 257 Try.info30z ?_; rw [HW.out])
        | (refine wpList_load_whole rfl 30 _ rfl _ rfl _ 30 HB.out.2.1 _ Try.underlying30 rfl (refA_info _ _) ?_)
        | (refine wpList_store_row rfl 30 _ _ rfl _ _ _ 30 rfl rfl HB.out.2.2 (refA_Z30 _ _) (refA_info _ _) (refA_one _ _) ?_; intro w2 hb2 hf2))
        exact bodyPost_ret (v := .tuple #[.agg (refA now D), .int .i64 3]) (results_row2 rfl rfl rfl hb2 (refA_size _ _)) rfl ⟨rfl, HB.out.1.then hf2 (by intro x hx; simp at hx; right; omega)⟩
    · have e1 : startE now t k = 0 := by simp [startE, hok, hr]
      have e2 : startD now D t k = upd D t (some (now + k)) := by simp [startD, e1]
      rw [e1, e2]
      have k0 : 0 ≤ k := by omega
      have k1 : k ≤ 1099511627776 - now := by unfold maxT at hr; omega
      have k0' : decide (k < 0) = false := by simp; omega
      have k1' : decide (1099511627776 - now < k) = false := by simp; omega
      obtain ⟨i, rfl⟩ : ∃ i : Nat, t = i := ⟨t.toNat, by omega⟩
      have hi : i < 256 := by omega
      have ci := cell_of HB.out.2.1 (1 + i)
      rw [refA_at now D i hi] at ci
      have fi := free_of HB.out.2.1 (1 + i)
      have HS := Lib.hid (refA_setDue now D i (some (now + k)) hi)
      have HB2 : Hid ((W.setCell ⟨w.heap.size, 1 + i, none⟩ (.int .i64 (now + k))).heap[w.heap.size]? = some (.cells (refA now (upd D i (some (now + k)))) 30 (0, 0))) := by
        have := block_setCell HB.out.2.1 (1 + i) (.int .i64 (now + k))
        rw [show (Value.int .i64 (now + k)) = .int .i64 ((some (now + k)).getD (-1)) from rfl, HS.out] at this
        exact this
      have HR2 : Hid ((W.setCell ⟨w.heap.size, 1 + i, none⟩ (.int .i64 (now + k))).heap[w.heap.size + 1]? = some (.cells Z30 30 (0, 0))) := setCell_at (p := ⟨w.heap.size, _, none⟩) HB.out.2.2 (by simp) _
      have HF2 : Hid (Frm [w.heap.size] W (W.setCell ⟨w.heap.size, 1 + i, none⟩ (.int .i64 (now + k)))) := (Frm.refl _ _).setCell _ (.inl (by simp)) _
      clear e1 e2 hok hr
      go_enter Try.func24, Try.ntmps24
      go_wp2_with (first
        | (refine wpList_box_row rfl 30 _ rfl (refA now D) rfl ?_)
        | (refine wpList_alloc_row rfl 30 rfl Z30 257 Try.info30z ?_; rw [HW.out])
        | (refine wpList_load_whole rfl 30 _ rfl _ rfl _ 30 HB2.out _ Try.underlying30 rfl (refA_info _ _) ?_)
        | (refine wpList_store_row rfl 30 _ _ rfl _ _ _ 30 rfl rfl HR2.out (refA_Z30 _ _) (refA_info _ _) (refA_one _ _) ?_; intro w2 hb2 hf2))
      exact bodyPost_ret (v := .tuple #[.agg (refA now (upd D i (some (now + k)))), .int .i64 0]) (results_row2 rfl rfl rfl hb2 (refA_size _ _)) rfl ⟨rfl, (HB.out.1.then HF2.out (by intro x hx; simp at hx; right; omega)).then hf2 (by intro x hx; simp at hx; right; omega)⟩

set_option maxHeartbeats 1000000 in
set_option maxRecDepth 100000 in
theorem refStop_any (now : Int) (D : DMap) (t : Int) (w : World) (hg : Good now D) :
    Calls Try.prog 25 #[.agg (refA now D), .int .i64 t] w (Ret (.tuple #[.agg (refA now (stopD D t)), .int .i64 (leftE D t)]) (Frm [] w)) := by
  obtain ⟨W, hW⟩ : ∃ W, (w.alloc (.cells (refA now D) 30)).alloc (.cells Z30 30) = W := ⟨_, rfl⟩
  have HB := Lib.hid (boxed hW.symm)
  have HW := Lib.hid hW
  clear hW
  have HG := Lib.hid hg
  have hn1 := hg.1
  have hn2 : now ≤ 1099511627776 := hg.2.1
  rcases okN_cases t with ⟨hok, h⟩ | ⟨hok, h0, h1, h2, h3⟩
  · have e1 : leftE D t = 2 := by simp [leftE, hok]
    have e2 : stopD D t = D := by simp [stopD, e1]
    rw [e1, e2]
    clear e1 e2 hok hg
    rcases h with h | ⟨h, h'⟩
    all_goals
      go_enter Try.func25, Try.ntmps25
      go_wp2_with (first
        | (refine wpList_box_row rfl 30 _ rfl (refA now D) rfl ?_)
        | (refine wpList_alloc_row rfl 30 rfl Z30 257 Try.info30z ?_; rw [HW.out])
        | (refine wpList_load_whole rfl 30 _ rfl _ rfl _ 30 HB.out.2.1 _ Try.underlying30 rfl (refA_info _ _) ?_)
        | (refine wpList_store_row rfl 30 _ _ rfl _ _ _ 30 rfl rfl HB.out.2.2 (refA_Z30 _ _) (refA_info _ _) (refA_one _ _) ?_; intro w2 hb2 hf2))
      exact bodyPost_ret (v := .tuple #[.agg (refA now D), .int .i64 2]) (results_row2 rfl rfl rfl hb2 (refA_size _ _)) rfl ⟨rfl, HB.out.1.then hf2 (by intro x hx; simp at hx; right; omega)⟩
  · obtain ⟨i, rfl⟩ : ∃ i : Nat, t = i := ⟨t.toNat, by omega⟩
    have hi : i < 256 := by omega
    have ci := cell_of HB.out.2.1 (1 + i)
    rw [refA_at now D i hi] at ci
    have fi := free_of HB.out.2.1 (1 + i)
    have hneg := dueV_neg hg i
    generalize dueV D i = x at ci hneg
    by_cases hx : x < 0
    · have hd := hneg.1 hx
      have e1 : leftE D i = 9 := by simp [leftE, hok, hd]
      have e2 : stopD D i = D := by simp [stopD, e1]
      rw [e1, e2]
      clear e1 e2 hok hg hd hneg
      go_enter Try.func25, Try.ntmps25
      go_wp2_with (first
        | (refine wpList_box_row rfl 30 _ rfl (refA now D) rfl ?_)
        | (refine wpList_alloc_row rfl 30 rfl Z30 257 Try.info30z ?_; rw [HW.out])
        | (refine wpList_load_whole rfl 30 _ rfl _ rfl _ 30 HB.out.2.1 _ Try.underlying30 rfl (refA_info _ _) ?_)
        | (refine wpList_store_row rfl 30 _ _ rfl _ _ _ 30 rfl rfl HB.out.2.2 (refA_Z30 _ _) (refA_info _ _) (refA_one _ _) ?_; intro w2 hb2 hf2))
      exact bodyPost_ret (v := .tuple #[.agg (refA now D), .int .i64 9]) (results_row2 rfl rfl rfl hb2 (refA_size _ _)) rfl ⟨rfl, HB.out.1.then hf2 (by intro x hx; simp at hx; right; omega)⟩
    · obtain ⟨d, hd⟩ : ∃ d, D (i : Int) = some d := by
        cases h : D (i : Int) with
        | none => exact absurd (hneg.2 h) hx
        | some d => exact ⟨d, rfl⟩
      have e1 : leftE D i = 0 := by simp [leftE, hok, hd]
      have e2 : stopD D i = upd D i none := by simp [stopD, e1]
      rw [e1, e2]
      have HS := Lib.hid (refA_setDue now D i none hi)
      have HB2 : Hid ((W.setCell ⟨w.heap.size, 1 + i, none⟩ (.int .i64 (-1))).heap[w.heap.size]? = some (.cells (refA now (upd D i none)) 30 (0, 0))) := by
        have := block_setCell HB.out.2.1 (1 + i) (.int .i64 (-1))
        rw [show (Value.int .i64 (-1)) = .int .i64 ((none : Option Int).getD (-1)) from rfl, HS.out] at this
        exact this
      have HR2 : Hid ((W.setCell ⟨w.heap.size, 1 + i, none⟩ (.int .i64 (-1))).heap[w.heap.size + 1]? = some (.cells Z30 30 (0, 0))) := setCell_at (p := ⟨w.heap.size, _, none⟩) HB.out.2.2 (by simp) _
      have HF2 : Hid (Frm [w.heap.size] W (W.setCell ⟨w.heap.size, 1 + i, none⟩ (.int .i64 (-1)))) := (Frm.refl _ _).setCell _ (.inl (by simp)) _
      clear e1 e2 hok hg hd hneg
      go_enter Try.func25, Try.ntmps25
      go_wp2_with (first
        | (refine wpList_box_row rfl 30 _ rfl (refA now D) rfl ?_)
        | (refine wpList_alloc_row rfl 30 rfl Z30 257 Try.info30z ?_; rw [HW.out])
        | (refine wpList_load_whole rfl 30 _ rfl _ rfl _ 30 HB2.out _ Try.underlying30 rfl (refA_info _ _) ?_)
        | (refine wpList_store_row rfl 30 _ _ rfl _ _ _ 30 rfl rfl HR2.out (refA_Z30 _ _) (refA_info _ _) (refA_one _ _) ?_; intro w2 hb2 hf2))
      exact bodyPost_ret (v := .tuple #[.agg (refA now (upd D i none)), .int .i64 0]) (results_row2 rfl rfl rfl hb2 (refA_size _ _)) rfl ⟨rfl, (HB.out.1.then HF2.out (by intro x hx; simp at hx; right; omega)).then hf2 (by intro x hx; simp at hx; right; omega)⟩

set_option maxHeartbeats 1000000 in
set_option maxRecDepth 100000 in
theorem refLeft_any (now : Int) (D : DMap) (t : Int) (w : World) (hg : Good now D) :
    Calls Try.prog 33 #[.agg (refA now D), .int .i64 t] w (Ret (.tuple #[.int .i64 (leftV now D t), .int .i64 (leftE D t)]) (Frm [] w)) := by
  obtain ⟨W, hW⟩ : ∃ W, w.alloc (.cells (refA now D) 30) = W := ⟨_, rfl⟩
  have HB : Hid (Frm [] w W ∧ W.heap[w.heap.size]? = some (.cells (refA now D) 30 (0, 0))) := by rw [← hW]; exact ⟨(Frm.refl _ _).alloc _, heap_alloc_new _ _⟩
  have HW := Lib.hid hW
  clear hW
  have HG := Lib.hid hg
  have hn1 := hg.1
  have hn2 : now ≤ 1099511627776 := hg.2.1
  rcases okN_cases t with ⟨hok, h⟩ | ⟨hok, h0, h1, h2, h3⟩
  · have e1 : leftE D t = 2 := by simp [leftE, hok]
    have e2 : leftV now D t = 0 := by simp [leftV, e1]
    rw [e1, e2]
    clear e1 e2 hok hg
    rcases h with h | ⟨h, h'⟩
    all_goals
      go_enter Try.func33, Try.ntmps33
      go_wp2_with (first | (refine wpList_box_row rfl 30 _ rfl (refA now D) rfl ?_; rw [HW.out]))
      go_ret2
      exact ⟨rfl, HB.out.1⟩
  · obtain ⟨i, rfl⟩ : ∃ i : Nat, t = i := ⟨t.toNat, by omega⟩
    have hi : i < 256 := by omega
    have ci := cell_of HB.out.2 (1 + i)
    rw [refA_at now D i hi] at ci
    have c0 := cell_of HB.out.2 0
    rw [refA_zero] at c0
    have hneg := dueV_neg hg i
    have hbd := dueV_bd hg i
    have hvd : ∀ d, D (i : Int) = some d → dueV D i = d := fun d h => by simp [dueV, h]
    generalize dueV D i = x at ci hneg hbd hvd
    have hb1 := hbd.1
    have hb2 : x ≤ 1099511627776 := hbd.2
    by_cases hx : x < 0
    · have hd := hneg.1 hx
      have e1 : leftE D i = 9 := by simp [leftE, hok, hd]
      have e2 : leftV now D i = 0 := by simp [leftV, e1]
      rw [e1, e2]
      clear e1 e2 hok hg hd hneg hbd hvd
      go_enter Try.func33, Try.ntmps33
      go_wp2_with (first | (refine wpList_box_row rfl 30 _ rfl (refA now D) rfl ?_; rw [HW.out]))
      go_ret2
      exact ⟨rfl, HB.out.1⟩
    · obtain ⟨d, hd⟩ : ∃ d, D (i : Int) = some d := by
        cases h : D (i : Int) with
        | none => exact absurd (hneg.2 h) hx
        | some d => exact ⟨d, rfl⟩
      have e0 := hvd d hd
      subst e0
      have e1 : leftE D i = 0 := by simp [leftE, hok, hd]
      have e2 : leftV now D i = x - now := by simp [leftV, e1, hd]
      rw [e1, e2]
      have hx2 : 0 ≤ x := by omega
      clear e1 e2 hok hg hd hneg hbd hvd
      go_enter Try.func33, Try.ntmps33
      go_wp2_with (first | (refine wpList_box_row rfl 30 _ rfl (refA now D) rfl ?_; rw [HW.out]))
      go_region
      go_wp2
      go_ret2
      exact ⟨rfl, HB.out.1.drew⟩

set_option maxHeartbeats 1000000 in
set_option maxRecDepth 100000 in
theorem refLen_any (now : Int) (D : DMap) (w : World) (hg : Good now D) :
    Calls Try.prog 19 #[.agg (refA now D)] w (Ret (.int .i64 (cnt D)) (Frm [] w)) := by
  obtain ⟨W, hW⟩ : ∃ W, w.alloc (.cells (refA now D) 30) = W := ⟨_, rfl⟩
  have HB : Hid (Frm [] w W ∧ W.heap[w.heap.size]? = some (.cells (refA now D) 30 (0, 0))) := by rw [← hW]; exact ⟨(Frm.refl _ _).alloc _, heap_alloc_new _ _⟩
  have HW := Lib.hid hW
  clear hW
  have HG := Lib.hid hg
  have hn1 := hg.1
  have hn2 : now ≤ 1099511627776 := hg.2.1
  clear hg
  go_enter Try.func19, Try.ntmps19
  go_wp2_with (first | (refine wpList_box_row rfl 30 _ rfl (refA now D) rfl ?_; rw [HW.out]))
  go_loop [3, 4] (fun n i => ∃ k : Nat, k ≤ 256 ∧ i = .int .i64 k ∧ n = .int .i64 (cntK D k)) (fun _ i => 256 - (intOf i).toNat)
  case atStart => exact ⟨0, by omega, rfl, rfl⟩
  case round =>
    obtain ⟨k, hk, rfl, rfl⟩ := hrel
    have hle := cntK_le D k
    by_cases hlt : k < 256
    · have ci := cell_of HB.out.2 (1 + k)
      rw [refA_at now D k hlt] at ci
      have hneg := dueV_neg HG.out k
      have HC : Hid (cntK D (k + 1) = cntK D k + if (D k).isSome then 1 else 0) := rfl
      generalize dueV D k = x at ci hneg
      by_cases hx : x < 0
      · have HD := Lib.hid (hneg.1 hx)
        clear hneg
        go_wp2
        go_round
        case rel => exact ⟨k + 1, by omega, by go_num, by rw [HC.out, HD.out]; rfl⟩
        case measure => simp [intOf]; omega
      · have HD : Hid ((D (k : Int)).isSome = true) := by
          show _ = _
          cases h : D (k : Int) with
          | none => exact absurd (hneg.2 h) hx
          | some d => rfl
        clear hneg
        go_wp2
        go_round
        case rel => exact ⟨k + 1, by omega, by go_num, by rw [HC.out, HD.out]; go_num⟩
        case measure => simp [intOf]; omega
    · obtain rfl : k = 256 := by omega
      go_wp2
      go_ret
      exact ⟨rfl, HB.out.1⟩

end Go.Proofs.Ytdhkcjjcgpkkgaa
