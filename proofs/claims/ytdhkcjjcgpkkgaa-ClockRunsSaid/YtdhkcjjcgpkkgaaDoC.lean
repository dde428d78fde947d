import Derived.Test.YtdhkcjjcgpkkgaaDoB
namespace Go.Proofs.Ytdhkcjjcgpkkgaa
open Go.RowKit Go.Maps Go.BigFrame


theorem fire_len : ∀ (f : Nat) (D : DMap) (now : Int), (fire f D now).1.length ≤ f
  | 0, D, _ => by simp [fire]
  | f + 1, D, now => by
    unfold fire
    split
    · simp
    · split
      · rename_i x _ _
        have := fire_len f (upd D x.2 none) now
        simp; exact this
      · simp
/-- behind both calls of Advance: what 'do' holds -/
structure AdvTo (w W : World) (cb : Nat) (n2 : Int) (D2 : DMap) (N : Nat) (F : List Nat) (now : Int) (D : DMap) (rb : Nat) (v v2 : Value) (out : List Int) (w3 : World) : Prop where
  clk : ∃ w1, ClkTo W cb n2 D2 (N + 1) F w1 ∧ Frm [] w1 w3
  rb : w3.heap[rb]? = some (.cells (refA now D) 30 (0, 0))
  i1 : Ints w3 v out
  i2 : Ints w3 v2 out
  len : out.length ≤ 1000
theorem AdvTo.of {w W w1 w2 w3 : World} {cb : Nat} {n now : Int} {D : DMap} {N : Nat} {F : List Nat} {rb : Nat} {v v2 : Value} {out2 : List Int} {o : Obj} (hA : AEnd W cb n D N F v w1) (hb : w2.heap[rb]? = some (.cells (refA now D) 30 (0, 0)))
    (h0 : out2 = (fire 257 D n).1) (h1 : w2.ownsRow w1.heap.size 3 1 v2 out2.length (out2.map (Value.int .i64))) (h2 : Frm [] w1 w2) (h3 : Frm [w2.heap.size] (w2.alloc o) w3) :
    AdvTo w W cb n (fire 257 D n).2 N F now D rb v v2 (fire 257 D n).1 w3 := by
  obtain ⟨F1, out, k1, k2, k3, rfl, k5, k6⟩ := hA
  subst h0
  have h4 : Frm [] w2 w3 := ((Frm.refl [] w2).alloc o).then h3 (by intro x hx; simp at hx; right; omega)
  exact ⟨⟨w1, ⟨F1, k1.mono (Nat.le_succ N), k2, k3⟩, h2.then h4 (by simp)⟩, h4.at hb (by simp), ((Ints.of_own k5).frm h2 (by simp)).frm h4 (by simp), (Ints.of_own h1).frm h4 (by simp), Nat.le_trans (fire_len _ _ _) (by omega)⟩
theorem AdvTo.err {w W w2 w3 : World} {cb : Nat} {now : Int} {D : DMap} {N : Nat} {F : List Nat} {rb : Nat} {o : Obj} (hC : Clk W cb now D N F) (hb : w2.heap[rb]? = some (.cells (refA now D) 30 (0, 0)))
    (h2 : Frm [] W w2) (h3 : Frm [w2.heap.size] (w2.alloc o) w3) : AdvTo w W cb now D N F now D rb (.slice none 0 0) (.slice none 0 0) [] w3 := by
  have h4 : Frm [] w2 w3 := ((Frm.refl [] w2).alloc o).then h3 (by intro x hx; simp at hx; right; omega)
  exact ⟨⟨W, (hC.mono (Nat.le_succ N)).to, h2.then h4 (by simp)⟩, h4.at hb (by simp), Ints.nil _, Ints.nil _, by simp⟩
theorem AdvTo.mid {w W w3 w4 w5 : World} {cb : Nat} {n2 now : Int} {D2 D : DMap} {N : Nat} {F : List Nat} {what tm ti : Int} {v v2 : Value} {out : List Int} (hlt : ∀ x ∈ F, x < w.heap.size)
    (hB : Frm [] w W ∧ W.heap[w.heap.size]? = some (.cells (refA now D) 30 (0, 0)) ∧ W.heap[w.heap.size + 1]? = some (.cells #[.int .i64 what, .int .i64 tm, .int .i64 ti] 36 (0, 0)) ∧ W.heap[w.heap.size + 2]? = some (.cells Z30 30 (0, 0)) ∧ W.heap.size = w.heap.size + 3)
    (hT : AdvTo w W cb n2 D2 N F now D w.heap.size v v2 out w3) (h4 : Frm [] w3 w4) (h5 : Frm [w.heap.size] w4 w5) (hb : w5.heap[w.heap.size]? = some (.cells (refA n2 D2) 30 (0, 0))) : DoMid w cb n2 D2 (N + 1) F what tm ti w5 := by
  obtain ⟨w1, k1, k2⟩ := hT.clk
  exact DoMid.of hlt hB k1 (k2.then h4 (by simp)) h5 hb


set_option maxHeartbeats 4000000 in
set_option maxRecDepth 100000 in
theorem do_adv3 (cb : Nat) (now : Int) (D : DMap) (N : Nat) (F : List Nat) (what tm ti : Int) (w : World) (h : Clk w cb now D N F) (hN : N ≤ 900000) (hw : what = 3) (ht : ti ≤ maxT) :
    Calls Try.prog 10 #[.pointer (some ⟨cb, 0, none⟩), .agg (refA now D), .agg #[.int .i64 what, .int .i64 tm, .int .i64 ti]] w (Ret (.tuple #[.agg (refA (advNow now (ti)) (fire 257 D (advNow now (ti))).2), .bool true]) (ClkTo w cb (advNow now (ti)) (fire 257 D (advNow now (ti))).2 (N + 1) F)) := by
  have HG := Lib.hid h.good
  have HLT := Lib.hid h.lt
  obtain ⟨W, hW⟩ : ∃ W, ((w.alloc (.cells (refA now D) 30)).alloc (.cells #[.int .i64 what, .int .i64 tm, .int .i64 ti] 36)).alloc (.cells Z30 30) = W := ⟨_, rfl⟩
  have HB := Lib.hid (boxed3 hW.symm)
  have HW := Lib.hid hW
  have HC := Lib.hid (h.frm HB.out.1 (by simp))
  have x0 := cell_of HB.out.2.2.1 0
  have x1 := cell_of HB.out.2.2.1 1
  have x2 := cell_of HB.out.2.2.1 2
  clear hW h
  have hg := HG.out
  have hn0 : 0 ≤ now := hg.1
  have hn1 : now ≤ 1099511627776 := hg.2.1
  clear hg
  subst hw
  generalize hN2 : advNow now (ti) = n2
  generalize hD2 : (fire 257 D n2).2 = D2
  have HN2 := Lib.hid hN2; have HD2 := Lib.hid hD2; have HT := Lib.hid ht
  clear hN2 hD2 ht
  all_goals
    go_enter Try.func10, Try.ntmps10
    go_upto_region 18 with (first
      | (refine wpList_box_row rfl 30 _ rfl (refA now D) rfl ?_)
      | (refine wpList_alloc_row rfl 30 rfl Z30 257 Try.info30z ?_; rw [HW.out])
      | (refine wpList_load_whole rfl 30 _ rfl _ rfl _ 30 HB1.out _ Try.underlying30 rfl (refA_info _ _) ?_)
      | (refine wpList_load_whole rfl 30 _ rfl _ rfl _ 30 HB4.out _ Try.underlying30 rfl (refA_info _ _) ?_)
      | (refine wpList_alloc_row rfl 30 rfl Z30 257 Try.info30z ?_)
      | (refine wpList_store_row rfl 30 _ _ rfl _ _ _ 30 rfl rfl HBB.out (refA_same _ _ _ _) (refA_info _ _) (refA_one _ _) ?_; intro w5 hb5 hf5)
      | (refine wpList_store_row rfl 30 _ _ rfl _ _ _ 30 rfl rfl (heap_alloc_new _ _) (refA_Z30 _ _) (refA_info _ _) (refA_one _ _) ?_; intro w3 hb3 hf3; have HT3 := Lib.hid (AdvTo.of (w := w) HE.out HB2.out HR0.out HR1.out HR2.out hf3); rw [HD2.out] at HT3; have HB3 := Lib.hid hb3; clear hb3 hf3)
      | (go_at_call 14; go_must (refine (advance_any cb now D N F (ti) _ HC.out (by omega) HT.out).mono ?_; rintro e w1 ⟨_, rfl, v, rfl, hend⟩; rw [HN2.out] at hend; have HE := Lib.hid hend; have HB1 : Hid (w1.heap[w.heap.size]? = some (.cells (refA now D) 30 (0, 0))) := (by obtain ⟨_, _, _, q, _⟩ := hend; exact q.at HB.out.2.1 (fun hx => by have := HLT.out _ hx; omega)); clear hend))
      | (go_at_call 26; go_must (refine (refAdvance_any now D (ti) _ HG.out HT.out).mono ?_; rintro e w2 ⟨_, rfl, v2, out2, rfl, hr0, hr1, hr2⟩; rw [HN2.out] at hr0 ⊢; rw [HD2.out]; have HR0 := Lib.hid hr0; have HR1 := Lib.hid hr1; have HR2 := Lib.hid hr2; have HB2 := Lib.hid (hr2.at HB1.out (by simp)); clear hr0 hr1 hr2))
      | (go_at_call 15; go_must (refine (same_any _ _ _ _ HT3.out.i1 HT3.out.i2 HT3.out.len).mono ?_; rintro e w4 ⟨rfl, hf4⟩; have HF4 := Lib.hid hf4; have HB4 := Lib.hid (hf4.at HB3.out (by simp)); have HBB := Lib.hid (hf4.at HT3.out.rb (by simp)); clear hf4)))
    have HM : Hid (DoMid w cb n2 D2 (N + 1) F 3 tm ti w5) := Lib.hid (AdvTo.mid HLT.out HB.out HT3.out HF4.out hf5 hb5)
    obtain ⟨w3, rfl⟩ : ∃ w3, w3 = w5 := ⟨_, rfl⟩
    clear hb5 hf5
    obtain ⟨F3, m1, m2, m3, m4, m5, m6, m7⟩ := HM.out
    have M1 := Lib.hid m1; have M2 := Lib.hid m2; have M3 := Lib.hid m3; have M4 := Lib.hid m4
    have M5 := Lib.hid (fun w' (hc : DoS w w3 cb n2 D2 (N + 1) F3 w') => DoS.at (k := 0) m3 m4 (by omega) m5 hc)
    have M6 := Lib.hid (fun w' (hc : DoS w w3 cb n2 D2 (N + 1) F3 w') => (cell_of (DoS.at (k := 1) m3 m4 (by omega) m6 hc) 1))
    have MS : Hid (w.heap.size + 3 ≤ w3.heap.size) := by have := lt_of_block m7; show _ ≤ _; omega
    have HS : Hid (DoS w w3 cb n2 D2 (N + 1) F3 w3.drew) := Lib.hid ⟨F3, Z30, m1.frm ((Frm.refl [] _).drew) (by simp), (Frm.refl _ _).drew, fun x hx => .inl hx, ((Frm.refl [] w3).drew).at m7 (by simp), Z30_size⟩
    clear m1 m2 m3 m4 m5 m6 m7 HM
    refine wp_region_held_drew (S := DoS w w3 cb n2 D2 (N + 1) F3) (by kernel_rfl) HS.out (fun _ => ?_)
    refine wpAnyH_take (i := 0) (v := .agg (refA n2 D2)) rfl (by kernel_rfl) (by kernel_rfl) (by kernel_rfl) (fun _ _ _ h => h) (Or.inl ⟨by rfl, fun w' hS => ?_⟩) HS.out ?_
    · exact run_load_rowAt rfl (M5.out w' hS) Try.underlying30 rfl (refA_info _ _) (by rfl)
    try simp only [Act.put, List.setIfInBounds_toArray]
    refine wpAnyH_take (i := 1) (v := .int .i64 0) rfl (by kernel_rfl) (by kernel_rfl) (by kernel_rfl) (fun _ _ _ h => h) (Or.inl ⟨by rfl, fun w' hS => ?_⟩) HS.out ?_
    · go_simp
    try simp only [Act.put]
    refine wpAnyH_take (i := 3) (v := .int .i64 0) rfl (by kernel_rfl) (by kernel_rfl) (by kernel_rfl) (fun _ _ _ h => h) (Or.inl ⟨by rfl, fun w' hS => ?_⟩) HS.out ?_
    · go_simp
    try simp only [Act.put]
    refine wpAnyH_ready (rs := [2]) (by kernel_rfl) (by simp) (AllReadyH.cons rfl (fun K hK => ?_) AllReadyH.nil)
    go_simp
    refine (num_any 0 _).mono ?_
    rintro e w4 ⟨rfl, rfl⟩
    refine hK.out _ _ HS.out (fun _ => ?_)
    clear hK K
    try simp only [Act.put, List.setIfInBounds_toArray, List.set_cons_zero, List.set_cons_succ]
    refine wpAnyH_take (i := 4) (v := .bool true) rfl (by kernel_rfl) (by kernel_rfl) (by kernel_rfl) (fun _ _ _ h => h) (Or.inl ⟨by rfl, fun w' hS => ?_⟩) HS.out ?_
    · go_simp
    try simp only [Act.put, List.setIfInBounds_toArray]
    refine wpAnyH_take (i := 5) (v := .bool true) rfl (by kernel_rfl) (by kernel_rfl) (by kernel_rfl) (fun _ _ _ h => h) (Or.inl ⟨by rfl, fun w' hS => ?_⟩) HS.out ?_
    · go_simp
    try simp only [Act.put]
    refine wpAnyH_take (i := 6) (v := .pointer (some ⟨cb, 0, none⟩)) rfl (by kernel_rfl) (by kernel_rfl) (by kernel_rfl) (fun _ _ _ h => h) (Or.inl ⟨by rfl, fun w' hS => ?_⟩) HS.out ?_
    · go_simp
    try simp only [Act.put]
    refine wpAnyH_take (i := 7) (v := .agg (refA n2 D2)) rfl (by kernel_rfl) (by kernel_rfl) (by kernel_rfl) (fun _ _ _ h => h) (Or.inl ⟨by rfl, fun w' hS => ?_⟩) HS.out ?_
    · exact run_load_rowAt rfl (M5.out w' hS) Try.underlying30 rfl (refA_info _ _) (by rfl)
    try simp only [Act.put]
    refine wpAnyH_take (i := 8) (v := .pointer (some ⟨w.heap.size + 1, 1, none⟩)) rfl (by kernel_rfl) (by kernel_rfl) (by kernel_rfl) (fun _ _ _ h => h) (Or.inl ⟨by rfl, fun w' hS => ?_⟩) HS.out ?_
    · go_simp
    try simp only [Act.put]
    refine wpAnyH_take (i := 9) (v := .int .i64 tm) rfl (by kernel_rfl) (by kernel_rfl) (by kernel_rfl) (fun _ _ _ h => h) (Or.inl ⟨by rfl, fun w' hS => ?_⟩) HS.out ?_
    · have e0 := M6.out w' hS
      go_simp
    try simp only [Act.put]
    refine wpAnyH_ready (rs := [10]) (by kernel_rfl) (by simp) (AllReadyH.cons rfl (fun K hK => ?_) AllReadyH.nil)
    go_simp
    obtain ⟨F4, C4, s1, s2, s3, s4, s5⟩ := HS.out
    have HQ := Lib.hid (fun w2 (k : ClkTo _ cb n2 D2 (N + 1) F4 w2) => DoS.call M3.out M4.out MS.out s2 s3 s4 s5 k)
    refine (agrees_any cb n2 D2 (N + 1) F4 tm _ s1 (by omega)).mono ?_
    rintro e w4 ⟨rfl, hc⟩
    have HS := Lib.hid (HQ.out _ hc)
    clear hc HQ s1 s2 s3 s4 s5
    refine hK.out _ _ HS.out (fun _ => ?_)
    clear hK K
    try simp only [Act.put, List.setIfInBounds_toArray, List.set_cons_zero, List.set_cons_succ]
    refine wpAnyH_take (i := 11) (v := .bool true) rfl (by kernel_rfl) (by kernel_rfl) (by kernel_rfl) (fun _ _ _ h => h) (Or.inl ⟨by rfl, fun w' hS => ?_⟩) HS.out ?_
    · go_simp
    try simp only [Act.put, List.setIfInBounds_toArray]
    refine wpAnyH_ready (rs := [12]) (by kernel_rfl) (by simp) (AllReadyH.cons rfl (fun K hK => ?_) AllReadyH.nil)
    rw [if_pos (by rfl)]
    obtain ⟨F4, C4, s1, s2, s3, s4, s5⟩ := HS.out
    refine wp_store_rowTo 30 _ _ rfl _ (refA n2 D2) C4 30 rfl rfl s4 (by rw [s5, refA_size]) (refA_info _ _) (refA_one _ _) ?_
    intro w5 hb5 hf5
    have HS := Lib.hid (DoS.store M3.out M4.out MS.out HS.out hf5 hb5 (refA_size _ _))
    have HB5 := Lib.hid hb5
    clear hb5 hf5 s1 s2 s3 s4 s5
    refine hK.out _ _ HS.out (fun _ => ?_)
    clear hK K
    try simp only [Act.put]
    refine wpAnyH_ready (rs := [13]) (by kernel_rfl) (by simp) (AllReadyH.cons rfl (fun K hK => ?_) AllReadyH.nil)
    go_simp
    refine hK.out _ _ HS.out (fun _ => ?_)
    clear hK K
    try simp only [Act.put, List.setIfInBounds_toArray, List.set_cons_zero, List.set_cons_succ]
    refine wpAnyH_done (by kernel_rfl) ?_ _
    go_wp2_with fail
    exact bodyPost_ret (v := .tuple #[.agg (refA n2 D2), .bool true]) (results_row2 rfl rfl rfl HB5.out (refA_size _ _)) rfl ⟨rfl, DoS.end M2.out M3.out MS.out HS.out⟩


set_option maxHeartbeats 4000000 in
set_option maxRecDepth 100000 in
theorem do_adv4 (cb : Nat) (now : Int) (D : DMap) (N : Nat) (F : List Nat) (what tm ti : Int) (w : World) (h : Clk w cb now D N F) (hN : N ≤ 900000) (hw : what = 4) (ht : ti ≤ maxT) :
    Calls Try.prog 10 #[.pointer (some ⟨cb, 0, none⟩), .agg (refA now D), .agg #[.int .i64 what, .int .i64 tm, .int .i64 ti]] w (Ret (.tuple #[.agg (refA (advNow now (ti)) (fire 257 D (advNow now (ti))).2), .bool true]) (ClkTo w cb (advNow now (ti)) (fire 257 D (advNow now (ti))).2 (N + 1) F)) := by
  have HG := Lib.hid h.good
  have HLT := Lib.hid h.lt
  obtain ⟨W, hW⟩ : ∃ W, ((w.alloc (.cells (refA now D) 30)).alloc (.cells #[.int .i64 what, .int .i64 tm, .int .i64 ti] 36)).alloc (.cells Z30 30) = W := ⟨_, rfl⟩
  have HB := Lib.hid (boxed3 hW.symm)
  have HW := Lib.hid hW
  have HC := Lib.hid (h.frm HB.out.1 (by simp))
  have x0 := cell_of HB.out.2.2.1 0
  have x1 := cell_of HB.out.2.2.1 1
  have x2 := cell_of HB.out.2.2.1 2
  clear hW h
  have hg := HG.out
  have hn0 : 0 ≤ now := hg.1
  have hn1 : now ≤ 1099511627776 := hg.2.1
  clear hg
  subst hw
  generalize hN2 : advNow now (ti) = n2
  generalize hD2 : (fire 257 D n2).2 = D2
  have HN2 := Lib.hid hN2; have HD2 := Lib.hid hD2; have HT := Lib.hid ht
  clear hN2 hD2 ht
  all_goals
    go_enter Try.func10, Try.ntmps10
    go_upto_region 18 with (first
      | (refine wpList_box_row rfl 30 _ rfl (refA now D) rfl ?_)
      | (refine wpList_alloc_row rfl 30 rfl Z30 257 Try.info30z ?_; rw [HW.out])
      | (refine wpList_load_whole rfl 30 _ rfl _ rfl _ 30 HB1.out _ Try.underlying30 rfl (refA_info _ _) ?_)
      | (refine wpList_load_whole rfl 30 _ rfl _ rfl _ 30 HB4.out _ Try.underlying30 rfl (refA_info _ _) ?_)
      | (refine wpList_alloc_row rfl 30 rfl Z30 257 Try.info30z ?_)
      | (refine wpList_store_row rfl 30 _ _ rfl _ _ _ 30 rfl rfl HBB.out (refA_same _ _ _ _) (refA_info _ _) (refA_one _ _) ?_; intro w5 hb5 hf5)
      | (refine wpList_store_row rfl 30 _ _ rfl _ _ _ 30 rfl rfl (heap_alloc_new _ _) (refA_Z30 _ _) (refA_info _ _) (refA_one _ _) ?_; intro w3 hb3 hf3; have HT3 := Lib.hid (AdvTo.of (w := w) HE.out HB2.out HR0.out HR1.out HR2.out hf3); rw [HD2.out] at HT3; have HB3 := Lib.hid hb3; clear hb3 hf3)
      | (go_at_call 14; go_must (refine (advance_any cb now D N F (ti) _ HC.out (by omega) HT.out).mono ?_; rintro e w1 ⟨_, rfl, v, rfl, hend⟩; rw [HN2.out] at hend; have HE := Lib.hid hend; have HB1 : Hid (w1.heap[w.heap.size]? = some (.cells (refA now D) 30 (0, 0))) := (by obtain ⟨_, _, _, q, _⟩ := hend; exact q.at HB.out.2.1 (fun hx => by have := HLT.out _ hx; omega)); clear hend))
      | (go_at_call 26; go_must (refine (refAdvance_any now D (ti) _ HG.out HT.out).mono ?_; rintro e w2 ⟨_, rfl, v2, out2, rfl, hr0, hr1, hr2⟩; rw [HN2.out] at hr0 ⊢; rw [HD2.out]; have HR0 := Lib.hid hr0; have HR1 := Lib.hid hr1; have HR2 := Lib.hid hr2; have HB2 := Lib.hid (hr2.at HB1.out (by simp)); clear hr0 hr1 hr2))
      | (go_at_call 15; go_must (refine (same_any _ _ _ _ HT3.out.i1 HT3.out.i2 HT3.out.len).mono ?_; rintro e w4 ⟨rfl, hf4⟩; have HF4 := Lib.hid hf4; have HB4 := Lib.hid (hf4.at HB3.out (by simp)); have HBB := Lib.hid (hf4.at HT3.out.rb (by simp)); clear hf4)))
    have HM : Hid (DoMid w cb n2 D2 (N + 1) F 4 tm ti w5) := Lib.hid (AdvTo.mid HLT.out HB.out HT3.out HF4.out hf5 hb5)
    obtain ⟨w3, rfl⟩ : ∃ w3, w3 = w5 := ⟨_, rfl⟩
    clear hb5 hf5
    obtain ⟨F3, m1, m2, m3, m4, m5, m6, m7⟩ := HM.out
    have M1 := Lib.hid m1; have M2 := Lib.hid m2; have M3 := Lib.hid m3; have M4 := Lib.hid m4
    have M5 := Lib.hid (fun w' (hc : DoS w w3 cb n2 D2 (N + 1) F3 w') => DoS.at (k := 0) m3 m4 (by omega) m5 hc)
    have M6 := Lib.hid (fun w' (hc : DoS w w3 cb n2 D2 (N + 1) F3 w') => (cell_of (DoS.at (k := 1) m3 m4 (by omega) m6 hc) 1))
    have MS : Hid (w.heap.size + 3 ≤ w3.heap.size) := by have := lt_of_block m7; show _ ≤ _; omega
    have HS : Hid (DoS w w3 cb n2 D2 (N + 1) F3 w3.drew) := Lib.hid ⟨F3, Z30, m1.frm ((Frm.refl [] _).drew) (by simp), (Frm.refl _ _).drew, fun x hx => .inl hx, ((Frm.refl [] w3).drew).at m7 (by simp), Z30_size⟩
    clear m1 m2 m3 m4 m5 m6 m7 HM
    refine wp_region_held_drew (S := DoS w w3 cb n2 D2 (N + 1) F3) (by kernel_rfl) HS.out (fun _ => ?_)
    refine wpAnyH_take (i := 0) (v := .agg (refA n2 D2)) rfl (by kernel_rfl) (by kernel_rfl) (by kernel_rfl) (fun _ _ _ h => h) (Or.inl ⟨by rfl, fun w' hS => ?_⟩) HS.out ?_
    · exact run_load_rowAt rfl (M5.out w' hS) Try.underlying30 rfl (refA_info _ _) (by rfl)
    try simp only [Act.put, List.setIfInBounds_toArray]
    refine wpAnyH_take (i := 1) (v := .int .i64 0) rfl (by kernel_rfl) (by kernel_rfl) (by kernel_rfl) (fun _ _ _ h => h) (Or.inl ⟨by rfl, fun w' hS => ?_⟩) HS.out ?_
    · go_simp
    try simp only [Act.put]
    refine wpAnyH_take (i := 3) (v := .int .i64 0) rfl (by kernel_rfl) (by kernel_rfl) (by kernel_rfl) (fun _ _ _ h => h) (Or.inl ⟨by rfl, fun w' hS => ?_⟩) HS.out ?_
    · go_simp
    try simp only [Act.put]
    refine wpAnyH_ready (rs := [2]) (by kernel_rfl) (by simp) (AllReadyH.cons rfl (fun K hK => ?_) AllReadyH.nil)
    go_simp
    refine (num_any 0 _).mono ?_
    rintro e w4 ⟨rfl, rfl⟩
    refine hK.out _ _ HS.out (fun _ => ?_)
    clear hK K
    try simp only [Act.put, List.setIfInBounds_toArray, List.set_cons_zero, List.set_cons_succ]
    refine wpAnyH_take (i := 4) (v := .bool true) rfl (by kernel_rfl) (by kernel_rfl) (by kernel_rfl) (fun _ _ _ h => h) (Or.inl ⟨by rfl, fun w' hS => ?_⟩) HS.out ?_
    · go_simp
    try simp only [Act.put, List.setIfInBounds_toArray]
    refine wpAnyH_take (i := 5) (v := .bool true) rfl (by kernel_rfl) (by kernel_rfl) (by kernel_rfl) (fun _ _ _ h => h) (Or.inl ⟨by rfl, fun w' hS => ?_⟩) HS.out ?_
    · go_simp
    try simp only [Act.put]
    refine wpAnyH_take (i := 6) (v := .pointer (some ⟨cb, 0, none⟩)) rfl (by kernel_rfl) (by kernel_rfl) (by kernel_rfl) (fun _ _ _ h => h) (Or.inl ⟨by rfl, fun w' hS => ?_⟩) HS.out ?_
    · go_simp
    try simp only [Act.put]
    refine wpAnyH_take (i := 7) (v := .agg (refA n2 D2)) rfl (by kernel_rfl) (by kernel_rfl) (by kernel_rfl) (fun _ _ _ h => h) (Or.inl ⟨by rfl, fun w' hS => ?_⟩) HS.out ?_
    · exact run_load_rowAt rfl (M5.out w' hS) Try.underlying30 rfl (refA_info _ _) (by rfl)
    try simp only [Act.put]
    refine wpAnyH_take (i := 8) (v := .pointer (some ⟨w.heap.size + 1, 1, none⟩)) rfl (by kernel_rfl) (by kernel_rfl) (by kernel_rfl) (fun _ _ _ h => h) (Or.inl ⟨by rfl, fun w' hS => ?_⟩) HS.out ?_
    · go_simp
    try simp only [Act.put]
    refine wpAnyH_take (i := 9) (v := .int .i64 tm) rfl (by kernel_rfl) (by kernel_rfl) (by kernel_rfl) (fun _ _ _ h => h) (Or.inl ⟨by rfl, fun w' hS => ?_⟩) HS.out ?_
    · have e0 := M6.out w' hS
      go_simp
    try simp only [Act.put]
    refine wpAnyH_ready (rs := [10]) (by kernel_rfl) (by simp) (AllReadyH.cons rfl (fun K hK => ?_) AllReadyH.nil)
    go_simp
    obtain ⟨F4, C4, s1, s2, s3, s4, s5⟩ := HS.out
    have HQ := Lib.hid (fun w2 (k : ClkTo _ cb n2 D2 (N + 1) F4 w2) => DoS.call M3.out M4.out MS.out s2 s3 s4 s5 k)
    refine (agrees_any cb n2 D2 (N + 1) F4 tm _ s1 (by omega)).mono ?_
    rintro e w4 ⟨rfl, hc⟩
    have HS := Lib.hid (HQ.out _ hc)
    clear hc HQ s1 s2 s3 s4 s5
    refine hK.out _ _ HS.out (fun _ => ?_)
    clear hK K
    try simp only [Act.put, List.setIfInBounds_toArray, List.set_cons_zero, List.set_cons_succ]
    refine wpAnyH_take (i := 11) (v := .bool true) rfl (by kernel_rfl) (by kernel_rfl) (by kernel_rfl) (fun _ _ _ h => h) (Or.inl ⟨by rfl, fun w' hS => ?_⟩) HS.out ?_
    · go_simp
    try simp only [Act.put, List.setIfInBounds_toArray]
    refine wpAnyH_ready (rs := [12]) (by kernel_rfl) (by simp) (AllReadyH.cons rfl (fun K hK => ?_) AllReadyH.nil)
    rw [if_pos (by rfl)]
    obtain ⟨F4, C4, s1, s2, s3, s4, s5⟩ := HS.out
    refine wp_store_rowTo 30 _ _ rfl _ (refA n2 D2) C4 30 rfl rfl s4 (by rw [s5, refA_size]) (refA_info _ _) (refA_one _ _) ?_
    intro w5 hb5 hf5
    have HS := Lib.hid (DoS.store M3.out M4.out MS.out HS.out hf5 hb5 (refA_size _ _))
    have HB5 := Lib.hid hb5
    clear hb5 hf5 s1 s2 s3 s4 s5
    refine hK.out _ _ HS.out (fun _ => ?_)
    clear hK K
    try simp only [Act.put]
    refine wpAnyH_ready (rs := [13]) (by kernel_rfl) (by simp) (AllReadyH.cons rfl (fun K hK => ?_) AllReadyH.nil)
    go_simp
    refine hK.out _ _ HS.out (fun _ => ?_)
    clear hK K
    try simp only [Act.put, List.setIfInBounds_toArray, List.set_cons_zero, List.set_cons_succ]
    refine wpAnyH_done (by kernel_rfl) ?_ _
    go_wp2_with fail
    exact bodyPost_ret (v := .tuple #[.agg (refA n2 D2), .bool true]) (results_row2 rfl rfl rfl HB5.out (refA_size _ _)) rfl ⟨rfl, DoS.end M2.out M3.out MS.out HS.out⟩

end Go.Proofs.Ytdhkcjjcgpkkgaa
