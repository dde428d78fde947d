import Derived.Test.YtdhkcjjcgpkkgaaRefC
namespace Go.Proofs.Ytdhkcjjcgpkkgaa
open Go.RowKit Go.Maps

/-- what the reference's Advance hands back -/
def REnd (w : World) (now : Int) (D : DMap) (r : Value) (w' : World) : Prop :=
  ∃ v out, r = .tuple #[.agg (refA now (fire 257 D now).2), v, .int .i64 0] ∧ out = (fire 257 D now).1 ∧ w'.ownsRow w.heap.size 3 1 v out.length (out.map (Value.int .i64)) ∧ Frm [] w w'
/-- the state at a round of the reference's Advance -/
def RInv (W : World) (rb : Nat) (now : Int) (D : DMap) (g : Nat) (v : Value) (n : Int) (wr : World) : Prop :=
  ∃ D1 out, wr.heap[rb]? = some (.cells (refA now D1) 30 (0, 0)) ∧ n = numI (firstOf D1) ∧ wr.ownsRow W.heap.size 3 1 v out.length (out.map (Value.int .i64)) ∧ Good now D1 ∧ Frm [rb] W wr ∧
    fire 257 D now = (out ++ (fire g D1 now).1, (fire g D1 now).2) ∧ cnt D1 < g ∧ out.length + g ≤ 257
theorem RInv.next {W wr wa wd w1 : World} {rb : Nat} {now : Int} {D : DMap} {g : Nat} {v v' : Value} {D1 : DMap} {out : List Int} {x : Int × Int} {t : Nat}
    (h0 : rb < W.heap.size) (h1 : wr.heap[rb]? = some (.cells (refA now D1) 30 (0, 0))) (hg : Good now D1) (hx : firstOf D1 = some x) (hxt : x.2 = (t : Int)) (ht : t < 256) (hle : x.1 ≤ now) (h5 : Frm [rb] W wr)
    (h6 : fire 257 D now = (out ++ (fire (g + 1) D1 now).1, (fire (g + 1) D1 now).2)) (hc : cnt D1 < g + 1) (hl : out.length + (g + 1) ≤ 257)
    (hv : ∀ k, v.ownBlock = some k → W.heap.size ≤ k) (ho : wa.ownsRow W.heap.size 3 1 v' (out.length + 1) (out.map (Value.int .i64) ++ [.int .i64 x.2])) (hwa : Frm v.ownBlock.toList wr wa)
    (hwd : wd = wa.setCell ⟨rb, 1 + t, none⟩ (.int .i64 (-1))) (hw1 : Frm [] wd w1) : RInv W rb now D g v' (numI (firstOf (upd D1 x.2 none))) w1 := by
  have hrb : rb ∉ v.ownBlock.toList := fun hx => by simp at hx; have := hv _ hx; omega
  have hba := hwa.at h1 hrb
  have hbd : wd.heap[rb]? = some (.cells (refA now (upd D1 x.2 none)) 30 (0, 0)) := by
    have := block_setCell hba (1 + t) (.int .i64 (-1))
    rw [show (Value.int .i64 (-1)) = .int .i64 ((none : Option Int).getD (-1)) from rfl, refA_setDue now D1 t none ht, ← hxt] at this
    rw [hwd]; exact this
  have hfd : Frm [rb] wa wd := by rw [hwd]; exact (Frm.refl _ _).setCell _ (.inl (by simp)) _
  have hne : ∀ k, v'.ownBlock = some k → k ∉ [rb] := fun k hk hx => by simp at hx; have := ownBlock_ge ho hk; omega
  have hcd := cnt_del hg (firstOf_some hg hx).1
  refine ⟨upd D1 x.2 none, out ++ [x.2], hw1.at hbd (by simp), rfl, ?_, hg.del _, ?_, ?_, by omega, by simp; omega⟩
  · have := hw1.owns (hfd.owns ho hne) (by simp)
    simpa using this
  · exact ((h5.then hwa (fun y hy => by simp at hy; right; exact hv y hy)).trans hfd).then hw1 (by simp)
  · rw [h6, fire_hit hx hle]; simp
theorem RInv.fin {w W wr w2 w3 : World} {rb : Nat} {now : Int} {D : DMap} {g : Nat} {v : Value} {D1 : DMap} {out : List Int} (hF : Frm [] w W) (hrb : w.heap.size ≤ rb)
    (h3 : wr.ownsRow W.heap.size 3 1 v out.length (out.map (Value.int .i64))) (h5 : Frm [rb] W wr) (h6 : fire 257 D now = (out ++ (fire g D1 now).1, (fire g D1 now).2)) (h7 : fire g D1 now = ([], D1))
    (hq : Frm [] wr w2) (hf : Frm [rb + 1] w2 w3) (hlt : rb + 1 < W.heap.size) : REnd w now D (.tuple #[.agg (refA now D1), v, .int .i64 0]) w3 := by
  rw [h7] at h6
  refine ⟨v, out, by rw [h6], by rw [h6]; simp, ?_, ?_⟩
  · have ho := hf.owns (hq.owns h3 (by simp)) (fun k hk hx => by simp at hx; have := ownBlock_ge h3 hk; omega)
    obtain ⟨e1, e2⟩ := ho
    refine ⟨e1, e2.imp id fun ⟨g, cap, cur, q1, q2, q3⟩ => ⟨g, cap, cur, q1, by have := hF.size; omega, q3⟩⟩
  · exact ((hF.then h5 (by intro x hx; simp at hx; right; omega)).then hq (by simp)).then hf (by intro x hx; simp at hx; right; omega)

set_option maxHeartbeats 1000000 in
set_option maxRecDepth 100000 in
theorem refAdvance_err (now : Int) (D : DMap) (t : Int) (w : World) (ht : maxT < t) :
    Calls Try.prog 26 #[.agg (refA now D), .int .i64 t] w (Ret (.tuple #[.agg (refA now D), .slice none 0 0, .int .i64 3]) (Frm [] w)) := by
  obtain ⟨W, hW⟩ : ∃ W, (w.alloc (.cells (refA now D) 30)).alloc (.cells Z30 30) = W := ⟨_, rfl⟩
  have HB := Lib.hid (boxed hW.symm)
  have HW := Lib.hid hW
  clear hW
  have h : 1099511627776 < t := ht
  clear ht
  go_enter Try.func26, Try.ntmps26
  go_wp2_with (first
    | (refine wpList_box_row rfl 30 _ rfl (refA now D) rfl ?_)
    | (refine wpList_alloc_row rfl 30 rfl Z30 257 Try.info30z ?_; rw [HW.out])
    | (refine wpList_load_whole rfl 30 _ rfl _ rfl _ 30 HB.out.2.1 _ Try.underlying30 rfl (refA_info _ _) ?_)
    | (refine wpList_store_row rfl 30 _ _ rfl _ _ _ 30 rfl rfl HB.out.2.2 (refA_Z30 _ _) (refA_info _ _) (refA_one _ _) ?_; intro w2 hb2 hf2))
  exact bodyPost_ret (v := .tuple #[.agg (refA now D), .slice none 0 0, .int .i64 3]) (results_row3 rfl rfl rfl rfl hb2 (refA_size _ _)) rfl ⟨rfl, HB.out.1.then hf2 (by intro x hx; simp at hx; right; omega)⟩

set_option maxHeartbeats 4000000 in
set_option maxRecDepth 100000 in
theorem refAdvance_any (now : Int) (D : DMap) (t : Int) (w : World) (hg : Good now D) (ht : t ≤ maxT) :
    Calls Try.prog 26 #[.agg (refA now D), .int .i64 t] w (RetV (REnd w (advNow now t) D)) := by
  obtain ⟨W, hW⟩ : ∃ W, (w.alloc (.cells (refA now D) 30)).alloc (.cells Z30 30) = W := ⟨_, rfl⟩
  have HB := Lib.hid (boxed hW.symm)
  have HW := Lib.hid hW
  have HWs : Hid (W.heap.size = w.heap.size + 2) := by show _ = _; rw [← hW]; simp
  clear hW
  have hnw : (now < t ∧ advNow now t = t) ∨ (t ≤ now ∧ advNow now t = now) := by
    unfold advNow; rw [if_neg (by omega)]
    by_cases h : now < t
    · left; simp [h]
    · right; simp [h]; omega
  have HAL := Lib.hid (advNow_le hg.2.1 ht)
  have HD0 := Lib.hid (show cnt D < 257 by have := cntK_le D 256; unfold cnt; omega)
  have HGN : Hid (Good (advNow now t) D) := ⟨by have := HAL.out.1; have := hg.1; omega, HAL.out.2, hg.2.2⟩
  have ht2 : t ≤ 1099511627776 := ht
  have c0 := cell_of HB.out.2.1 0
  rw [refA_zero] at c0
  have f0 := free_of HB.out.2.1 0
  generalize advNow now t = nw at *
  -- the world once the time is set
  have HW1 : Hid (∀ W1, (W1 = W.setCell ⟨w.heap.size, 0, none⟩ (.int .i64 nw) ∨ (W1 = W ∧ nw = now)) → Frm [] w W1 ∧ W1.heap.size = w.heap.size + 2 ∧ W1.heap[w.heap.size]? = some (.cells (refA nw D) 30 (0, 0)) ∧ W1.heap[w.heap.size + 1]? = some (.cells Z30 30 (0, 0))) := by
    rintro W1 (rfl | ⟨rfl, rfl⟩)
    · have hf : Frm [w.heap.size] W (W.setCell ⟨w.heap.size, 0, none⟩ (.int .i64 nw)) := (Frm.refl _ _).setCell _ (.inl (by simp)) _
      refine ⟨HB.out.1.then hf (by intro x hx; simp at hx; right; omega), by rw [← HWs.out]; simp, ?_, hf.at HB.out.2.2 (by simp)⟩
      have := block_setCell HB.out.2.1 0 (.int .i64 nw)
      rwa [refA_setNow] at this
    · exact ⟨HB.out.1, HWs.out, HB.out.2.1, HB.out.2.2⟩
  obtain ⟨i0, hi, hz0, hz1, hz2⟩ := info_parts Try.info3
  clear hg
  rcases hnw with ⟨hlt, hnw⟩ | ⟨hge, hnw⟩
  · obtain ⟨W1, hW1⟩ : ∃ W1, W.setCell ⟨w.heap.size, 0, none⟩ (.int .i64 t) = W1 := ⟨_, rfl⟩
    have H1 := Lib.hid (HW1.out W1 (.inl (by rw [← hW1, hnw])))
    have HW2 := Lib.hid hW1
    clear hW1 hnw HW1
    go_enter Try.func26, Try.ntmps26
    go_wp2_with (first
      | (refine wpList_box_row rfl 30 _ rfl (refA now D) rfl ?_)
      | (refine wpList_alloc_row rfl 30 rfl Z30 257 Try.info30z ?_; rw [HW.out])
      | (rw [HW2.out]; refine wpList_load_whole rfl 30 _ rfl _ rfl _ 30 H1.out.2.2.1 _ Try.underlying30 rfl (refA_info _ _) ?_)
      | (go_at_call 32; go_must (refine (refFirst_any _ _ _ HGN.out).mono ?_; rintro e w3 ⟨rfl, hf3⟩)))
    have HI : Hid (RInv W1 w.heap.size nw D 257 (.slice none 0 0) (numI (firstOf D)) w3) :=
      ⟨D, [], hf3.at H1.out.2.2.1 (by simp), rfl, World.ownsRow_nil _ _ _ _, HGN.out, hf3.mono (by simp), by simp, HD0.out, by simp⟩
    clear hf3 c0 f0
    go_loopg [7, 8] 257 (fun g s7 s8 wr => ∃ n, s8 = .int .i64 n ∧ RInv W1 w.heap.size nw D g s7 n wr)
    case atStart => exact ⟨_, rfl, HI.out⟩
    case round =>
      obtain ⟨n, rfl, hinv⟩ := hrel
      obtain ⟨D1, out, k1, rfl, k3, k4, k5, k6, k7, k8⟩ := hinv
      obtain ⟨g, rfl⟩ : ∃ g, gk = g + 1 := ⟨gk - 1, by omega⟩
      have kz := k5.at H1.out.2.2.2 (by simp)
      have hlt : w.heap.size + 1 < W1.heap.size := by have := H1.out.2.1; omega
      cases hfo : firstOf D1 with
      | none =>
        rw [show numI none = (-1 : Int) from rfl]
        have hd : decide ((0 : Int) ≤ -1) = false := rfl
        have HEND := Lib.hid (fun w2 w3 hq hf => RInv.fin (w2 := w2) (w3 := w3) H1.out.1 (Nat.le_refl _) k3 k5 k6 (fire_none hfo) hq hf hlt)
        have HK1 := Lib.hid k1; have HKZ := Lib.hid kz
        have hq : Frm [] wr wr := Frm.refl _ _
        clear k1 k3 k4 k5 k6 k7 k8 kz hfo hq
        go_wp2_with fail
        go_quiet (fail)
        obtain ⟨wq, hwq⟩ : ∃ wq, wr.drewN nq = wq := ⟨_, rfl⟩
        have HQ : Hid (Frm [] wr wq) := by rw [← hwq]; exact (Frm.refl _ _).drewN _
        rw [hwq]
        clear hwq
        go_wp2_with (first
          | (refine wpList_load_whole rfl 30 _ rfl _ rfl _ 30 (HQ.out.at HK1.out (by simp)) _ Try.underlying30 rfl (refA_info _ _) ?_)
          | (refine wpList_store_row rfl 30 _ _ rfl _ _ _ 30 rfl rfl (HQ.out.at HKZ.out (by simp)) (refA_Z30 _ _) (refA_info _ _) (refA_one _ _) ?_; intro w2 hb2 hf2))
        exact bodyPost_ret (v := .tuple #[.agg (refA nw D1), u7, .int .i64 0]) (results_row3 rfl rfl rfl rfl hb2 (refA_size _ _)) rfl ⟨_, rfl, HEND.out _ _ HQ.out hf2⟩
      | some x =>
        obtain ⟨⟨t1, ht1, hxt, hdt⟩, _⟩ := scan_some hfo
        have hnum : numI (some x) = (t1 : Int) := hxt
        rw [hnum]
        have ct := cell_of k1 (1 + t1)
        rw [refA_at nw D1 t1 ht1] at ct
        have hdv : dueV D1 t1 = x.1 := by simp [dueV, hdt]
        rw [hdv] at ct
        have cz := cell_of k1 0
        rw [refA_zero] at cz
        have ft := free_of k1 (1 + t1)
        have hxb := k4.2.2 _ _ hdt
        have hx0 : 0 ≤ x.1 := hxb.2.2.1
        have HON : Hid (out.length ≤ 257) := by show _ ≤ _; omega
        have ht0 : (0 : Int) ≤ (t1 : Int) := by omega
        have ht2' : (t1 : Int) < 256 := by omega
        by_cases hle : x.1 ≤ nw
        · have HT := Lib.hid hxt; have HFO := Lib.hid hfo
          have K1 := Lib.hid k1; have K3 := Lib.hid k3; have K4 := Lib.hid k4; have K5 := Lib.hid k5; have K6 := Lib.hid k6; have K7 := Lib.hid k7; have K8 := Lib.hid k8; have HLT := Lib.hid hlt
          clear k1 k3 k4 k5 k6 k7 k8 kz hfo hxt hdt hnum hdv hxb hlt
          go_wp2_with fail
          go_quiet (fail)
          obtain ⟨wq, hwq⟩ : ∃ wq, wr.drewN nq = wq := ⟨_, rfl⟩
          have HQ : Hid (Frm [] wr wq) := by rw [← hwq]; exact (Frm.refl _ _).drewN _
          rw [hwq]
          have HOQ := Lib.hid (HQ.out.owns K3.out (by simp))
          have HSQ : Hid (W1.heap.size ≤ wq.heap.size) := by have := K5.out.size; have := HQ.out.size; show _ ≤ _; omega
          clear hwq ct cz ft
          go_wp2_with (first
            | (at_builtin; refine wpList_append_own_at _ rfl _ _ 38 rfl W1.heap.size 3 i0 (.int .i64 0) 1 8 Try.underlying38 hi hz0 hz1 hz2 rfl (by decide) _ _ _ rfl (HOQ.out.alloc _) ⟨wq.heap.size, 0, none⟩ 1 1 [.int .i64 t1] rfl rfl (cell_one_new _ _ _) (ints_oneCell .i64 [(t1 : Int)]) (by have := HON.out; unfold maxLen; omega) (by have := HON.out; omega) (by have := HSQ.out; simp; omega) ?_; intro v' wa hown' hgrow hnil hloc; have hwa : Frm u7.ownBlock.toList wr wa := ((HQ.out.mono (by simp)).alloc _).grown hgrow (by intro k hk; left; exact Option.mem_toList.2 hk); have hba := hwa.at K1.out (fun hx => by simp at hx; have := ownBlock_ge K3.out hx; have := HLT.out; omega); have cta := (cell_of hba (1 + t1)).trans (refA_at nw D1 t1 ht1); have fta := free_of hba (1 + t1); have HWA := Lib.hid hwa; have HOW := Lib.hid hown'; have HBD : Hid ((wa.setCell ⟨w.heap.size, 1 + t1, none⟩ (.int .i64 (-1))).heap[w.heap.size]? = some (.cells (refA nw (upd D1 t1 none)) 30 (0, 0))) := (block_setCell hba (1 + t1) (.int .i64 (-1))).trans (congrArg (fun A => some (Obj.cells A 30)) (refA_setDue nw D1 t1 none ht1)); clear hwa hba hown' hgrow hnil hloc)
            | (refine wpList_load_whole rfl 30 _ rfl _ rfl _ 30 HBD.out _ Try.underlying30 rfl (refA_info _ _) ?_)
            | (go_at_call 32; go_must (refine (refFirst_any _ _ _ (K4.out.del _)).mono ?_; rintro e w3 ⟨rfl, hf3⟩)))
          go_roundg g
          case measure => omega
          case rel => exact ⟨_, by rw [← HT.out], RInv.next (by have := HLT.out; omega) K1.out K4.out HFO.out HT.out ht1 hle K5.out K6.out K7.out K8.out (fun k hk => ownBlock_ge K3.out hk) (by rw [HT.out]; exact HOW.out) HWA.out rfl hf3⟩
        · have hl2 : decide (x.1 ≤ nw) = false := by simpa using hle
          have hl3 : nw < x.1 := by omega
          have HEND := Lib.hid (fun w2 w3 hq hf => RInv.fin (w2 := w2) (w3 := w3) H1.out.1 (Nat.le_refl _) k3 k5 k6 (fire_late hfo hle) hq hf hlt)
          have HK1 := Lib.hid k1; have HKZ := Lib.hid kz
          clear k1 k3 k4 k5 k6 k7 k8 kz hfo hxt hdt hnum hdv hxb hlt hle
          go_wp2_with fail
          go_quiet (fail)
          obtain ⟨wq, hwq⟩ : ∃ wq, wr.drewN nq = wq := ⟨_, rfl⟩
          have HQ : Hid (Frm [] wr wq) := by rw [← hwq]; exact (Frm.refl _ _).drewN _
          rw [hwq]
          clear hwq
          go_wp2_with (first
            | (refine wpList_load_whole rfl 30 _ rfl _ rfl _ 30 (HQ.out.at HK1.out (by simp)) _ Try.underlying30 rfl (refA_info _ _) ?_)
            | (refine wpList_store_row rfl 30 _ _ rfl _ _ _ 30 rfl rfl (HQ.out.at HKZ.out (by simp)) (refA_Z30 _ _) (refA_info _ _) (refA_one _ _) ?_; intro w2 hb2 hf2))
          exact bodyPost_ret (v := .tuple #[.agg (refA nw D1), u7, .int .i64 0]) (results_row3 rfl rfl rfl rfl hb2 (refA_size _ _)) rfl ⟨_, rfl, HEND.out _ _ HQ.out hf2⟩
  · have H1 := Lib.hid (HW1.out W (.inr ⟨rfl, hnw⟩))
    have HGO : Hid (Good now D) := by rw [← hnw]; exact HGN.out
    clear hnw HW1
    go_enter Try.func26, Try.ntmps26
    go_wp2_with (first
      | (refine wpList_box_row rfl 30 _ rfl (refA now D) rfl ?_)
      | (refine wpList_alloc_row rfl 30 rfl Z30 257 Try.info30z ?_; rw [HW.out])
      | (refine wpList_load_whole rfl 30 _ rfl _ rfl _ 30 HB.out.2.1 _ Try.underlying30 rfl (refA_info _ _) ?_)
      | (go_at_call 32; go_must (refine (refFirst_any _ _ _ HGO.out).mono ?_; rintro e w3 ⟨rfl, hf3⟩)))
    have HI : Hid (RInv W w.heap.size nw D 257 (.slice none 0 0) (numI (firstOf D)) w3) :=
      ⟨D, [], hf3.at H1.out.2.2.1 (by simp), rfl, World.ownsRow_nil _ _ _ _, HGN.out, hf3.mono (by simp), by simp, HD0.out, by simp⟩
    clear hf3 c0 f0
    go_loopg [7, 8] 257 (fun g s7 s8 wr => ∃ n, s8 = .int .i64 n ∧ RInv W w.heap.size nw D g s7 n wr)
    case atStart => exact ⟨_, rfl, HI.out⟩
    case round =>
      obtain ⟨n, rfl, hinv⟩ := hrel
      obtain ⟨D1, out, k1, rfl, k3, k4, k5, k6, k7, k8⟩ := hinv
      obtain ⟨g, rfl⟩ : ∃ g, gk = g + 1 := ⟨gk - 1, by omega⟩
      have kz := k5.at H1.out.2.2.2 (by simp)
      have hlt : w.heap.size + 1 < W.heap.size := by have := H1.out.2.1; omega
      cases hfo : firstOf D1 with
      | none =>
        rw [show numI none = (-1 : Int) from rfl]
        have hd : decide ((0 : Int) ≤ -1) = false := rfl
        have HEND := Lib.hid (fun w2 w3 hq hf => RInv.fin (w2 := w2) (w3 := w3) H1.out.1 (Nat.le_refl _) k3 k5 k6 (fire_none hfo) hq hf hlt)
        have HK1 := Lib.hid k1; have HKZ := Lib.hid kz
        have hq : Frm [] wr wr := Frm.refl _ _
        clear k1 k3 k4 k5 k6 k7 k8 kz hfo hq
        go_wp2_with fail
        go_quiet (fail)
        obtain ⟨wq, hwq⟩ : ∃ wq, wr.drewN nq = wq := ⟨_, rfl⟩
        have HQ : Hid (Frm [] wr wq) := by rw [← hwq]; exact (Frm.refl _ _).drewN _
        rw [hwq]
        clear hwq
        go_wp2_with (first
          | (refine wpList_load_whole rfl 30 _ rfl _ rfl _ 30 (HQ.out.at HK1.out (by simp)) _ Try.underlying30 rfl (refA_info _ _) ?_)
          | (refine wpList_store_row rfl 30 _ _ rfl _ _ _ 30 rfl rfl (HQ.out.at HKZ.out (by simp)) (refA_Z30 _ _) (refA_info _ _) (refA_one _ _) ?_; intro w2 hb2 hf2))
        exact bodyPost_ret (v := .tuple #[.agg (refA nw D1), u7, .int .i64 0]) (results_row3 rfl rfl rfl rfl hb2 (refA_size _ _)) rfl ⟨_, rfl, HEND.out _ _ HQ.out hf2⟩
      | some x =>
        obtain ⟨⟨t1, ht1, hxt, hdt⟩, _⟩ := scan_some hfo
        have hnum : numI (some x) = (t1 : Int) := hxt
        rw [hnum]
        have ct := cell_of k1 (1 + t1)
        rw [refA_at nw D1 t1 ht1] at ct
        have hdv : dueV D1 t1 = x.1 := by simp [dueV, hdt]
        rw [hdv] at ct
        have cz := cell_of k1 0
        rw [refA_zero] at cz
        have ft := free_of k1 (1 + t1)
        have hxb := k4.2.2 _ _ hdt
        have hx0 : 0 ≤ x.1 := hxb.2.2.1
        have HON : Hid (out.length ≤ 257) := by show _ ≤ _; omega
        have ht0 : (0 : Int) ≤ (t1 : Int) := by omega
        have ht2' : (t1 : Int) < 256 := by omega
        by_cases hle : x.1 ≤ nw
        · have HT := Lib.hid hxt; have HFO := Lib.hid hfo
          have K1 := Lib.hid k1; have K3 := Lib.hid k3; have K4 := Lib.hid k4; have K5 := Lib.hid k5; have K6 := Lib.hid k6; have K7 := Lib.hid k7; have K8 := Lib.hid k8; have HLT := Lib.hid hlt
          clear k1 k3 k4 k5 k6 k7 k8 kz hfo hxt hdt hnum hdv hxb hlt
          go_wp2_with fail
          go_quiet (fail)
          obtain ⟨wq, hwq⟩ : ∃ wq, wr.drewN nq = wq := ⟨_, rfl⟩
          have HQ : Hid (Frm [] wr wq) := by rw [← hwq]; exact (Frm.refl _ _).drewN _
          rw [hwq]
          have HOQ := Lib.hid (HQ.out.owns K3.out (by simp))
          have HSQ : Hid (W.heap.size ≤ wq.heap.size) := by have := K5.out.size; have := HQ.out.size; show _ ≤ _; omega
          clear hwq ct cz ft
          go_wp2_with (first
            | (at_builtin; refine wpList_append_own_at _ rfl _ _ 38 rfl W.heap.size 3 i0 (.int .i64 0) 1 8 Try.underlying38 hi hz0 hz1 hz2 rfl (by decide) _ _ _ rfl (HOQ.out.alloc _) ⟨wq.heap.size, 0, none⟩ 1 1 [.int .i64 t1] rfl rfl (cell_one_new _ _ _) (ints_oneCell .i64 [(t1 : Int)]) (by have := HON.out; unfold maxLen; omega) (by have := HON.out; omega) (by have := HSQ.out; simp; omega) ?_; intro v' wa hown' hgrow hnil hloc; have hwa : Frm u7.ownBlock.toList wr wa := ((HQ.out.mono (by simp)).alloc _).grown hgrow (by intro k hk; left; exact Option.mem_toList.2 hk); have hba := hwa.at K1.out (fun hx => by simp at hx; have := ownBlock_ge K3.out hx; have := HLT.out; omega); have cta := (cell_of hba (1 + t1)).trans (refA_at nw D1 t1 ht1); have fta := free_of hba (1 + t1); have HWA := Lib.hid hwa; have HOW := Lib.hid hown'; have HBD : Hid ((wa.setCell ⟨w.heap.size, 1 + t1, none⟩ (.int .i64 (-1))).heap[w.heap.size]? = some (.cells (refA nw (upd D1 t1 none)) 30 (0, 0))) := (block_setCell hba (1 + t1) (.int .i64 (-1))).trans (congrArg (fun A => some (Obj.cells A 30)) (refA_setDue nw D1 t1 none ht1)); clear hwa hba hown' hgrow hnil hloc)
            | (refine wpList_load_whole rfl 30 _ rfl _ rfl _ 30 HBD.out _ Try.underlying30 rfl (refA_info _ _) ?_)
            | (go_at_call 32; go_must (refine (refFirst_any _ _ _ (K4.out.del _)).mono ?_; rintro e w3 ⟨rfl, hf3⟩)))
          go_roundg g
          case measure => omega
          case rel => exact ⟨_, by rw [← HT.out], RInv.next (by have := HLT.out; omega) K1.out K4.out HFO.out HT.out ht1 hle K5.out K6.out K7.out K8.out (fun k hk => ownBlock_ge K3.out hk) (by rw [HT.out]; exact HOW.out) HWA.out rfl hf3⟩
        · have hl2 : decide (x.1 ≤ nw) = false := by simpa using hle
          have hl3 : nw < x.1 := by omega
          have HEND := Lib.hid (fun w2 w3 hq hf => RInv.fin (w2 := w2) (w3 := w3) H1.out.1 (Nat.le_refl _) k3 k5 k6 (fire_late hfo hle) hq hf hlt)
          have HK1 := Lib.hid k1; have HKZ := Lib.hid kz
          clear k1 k3 k4 k5 k6 k7 k8 kz hfo hxt hdt hnum hdv hxb hlt hle
          go_wp2_with fail
          go_quiet (fail)
          obtain ⟨wq, hwq⟩ : ∃ wq, wr.drewN nq = wq := ⟨_, rfl⟩
          have HQ : Hid (Frm [] wr wq) := by rw [← hwq]; exact (Frm.refl _ _).drewN _
          rw [hwq]
          clear hwq
          go_wp2_with (first
            | (refine wpList_load_whole rfl 30 _ rfl _ rfl _ 30 (HQ.out.at HK1.out (by simp)) _ Try.underlying30 rfl (refA_info _ _) ?_)
            | (refine wpList_store_row rfl 30 _ _ rfl _ _ _ 30 rfl rfl (HQ.out.at HKZ.out (by simp)) (refA_Z30 _ _) (refA_info _ _) (refA_one _ _) ?_; intro w2 hb2 hf2))
          exact bodyPost_ret (v := .tuple #[.agg (refA nw D1), u7, .int .i64 0]) (results_row3 rfl rfl rfl rfl hb2 (refA_size _ _)) rfl ⟨_, rfl, HEND.out _ _ HQ.out hf2⟩
end Go.Proofs.Ytdhkcjjcgpkkgaa
