import Derived.Test.YtdhkcjjcgpkkgaaRefB
namespace Go.Proofs.Ytdhkcjjcgpkkgaa
open Go.RowKit Go.Maps

def numI : Option (Int × Int) → Int
  | none => -1
  | some x => x.2
theorem scan_succ_none {D : DMap} {k : Nat} (h : D (k : Int) = none) : scan D (k + 1) = scan D k := by simp [scan, h]
theorem scan_succ_first {D : DMap} {k : Nat} {d : Int} (h : D (k : Int) = some d) (h2 : scan D k = none) : scan D (k + 1) = some (d, (k : Int)) := by simp [scan, h, h2]
theorem scan_succ_lt {D : DMap} {k : Nat} {d : Int} {x : Int × Int} (h : D (k : Int) = some d) (h2 : scan D k = some x) (hl : d < x.1) : scan D (k + 1) = some (d, (k : Int)) := by simp [scan, h, h2, hl]
theorem scan_succ_ge {D : DMap} {k : Nat} {d : Int} {x : Int × Int} (h : D (k : Int) = some d) (h2 : scan D k = some x) (hl : ¬ d < x.1) : scan D (k + 1) = some x := by simp [scan, h, h2, hl]

set_option maxHeartbeats 2000000 in
set_option maxRecDepth 100000 in
theorem refFirst_any (now : Int) (D : DMap) (w : World) (hg : Good now D) :
    Calls Try.prog 32 #[.agg (refA now D)] w (Ret (.int .i64 (numI (firstOf D))) (Frm [] w)) := by
  obtain ⟨W, hW⟩ : ∃ W, w.alloc (.cells (refA now D) 30) = W := ⟨_, rfl⟩
  have HB : Hid (Frm [] w W ∧ W.heap[w.heap.size]? = some (.cells (refA now D) 30 (0, 0))) := by rw [← hW]; exact ⟨(Frm.refl _ _).alloc _, heap_alloc_new _ _⟩
  have HW := Lib.hid hW
  clear hW
  have HG := Lib.hid hg
  clear hg
  go_enter Try.func32, Try.ntmps32
  go_wp2_with (first | (refine wpList_box_row rfl 30 _ rfl (refA now D) rfl ?_; rw [HW.out]))
  go_loopw [3, 4] (fun n i wr => ∃ k : Nat, k ≤ 256 ∧ i = .int .i64 k ∧ n = .int .i64 (numI (scan D k)) ∧ Frm [] W wr) (fun _ i _ => 256 - (intOf i).toNat)
  case atStart => exact ⟨0, by omega, rfl, rfl, Frm.refl _ _⟩
  case round =>
    obtain ⟨k, hk, rfl, rfl, hf⟩ := hrel
    by_cases hlt : k < 256
    · have hb := hf.at HB.out.2 (by simp)
      have ci := cell_of hb (1 + k)
      rw [refA_at now D k hlt] at ci
      have hneg := dueV_neg HG.out k
      have hvd : ∀ d, D (k : Int) = some d → dueV D k = d := fun d h => by simp [dueV, h]
      have HF := Lib.hid hf
      cases hd : D (k : Int) with
      | none =>
        have hx := hneg.2 hd
        have HE := Lib.hid (scan_succ_none hd)
        generalize dueV D k = x at ci hx
        have hx2 : decide (0 ≤ x) = false := by simp; omega
        have HE2 : Hid (numI (scan D (k + 1)) = numI (scan D k)) := by show _ = _; rw [HE.out]
        generalize numI (scan D k) = n at *
        clear hneg hvd hd hf hb
        go_wp2_with fail
        go_quiet (fail)
        go_wp2
        go_roundw
        case rel => exact ⟨k + 1, by omega, by go_num, by rw [HE2.out], HF.out.drewN _⟩
        case measure => simp [intOf]; omega
      | some d =>
        have hx := hvd d hd
        rw [hx] at ci
        have hd0 : 0 ≤ d := by
          have := (HG.out.2.2 _ _ hd).2.2.1; omega
        cases hs : scan D k with
        | none =>
          rw [show numI none = (-1 : Int) from rfl]
          have hm1 : decide ((-1 : Int) < 0) = true := rfl
          have HE := Lib.hid (scan_succ_first hd hs)
          clear hneg hvd hd hf hb hx hs
          go_wp2_with fail
          go_quiet (fail)
          go_wp2
          go_roundw
          case rel => exact ⟨k + 1, by omega, by go_num, by rw [HE.out]; rfl, HF.out.drewN _⟩
          case measure => simp [intOf]; omega
        | some x =>
          obtain ⟨⟨t, ht, hxt, hdt⟩, _⟩ := scan_some hs
          have ct := cell_of hb (1 + t)
          rw [refA_at now D t (by omega)] at ct
          have : dueV D t = x.1 := by simp [dueV, hdt]
          rw [this] at ct
          have ht0 : 0 ≤ (t : Int) := by omega
          have ht1 : (t : Int) < 256 := by omega
          have hnum : numI (some x) = (t : Int) := hxt
          rw [hnum]
          have htd : decide ((t : Int) < 0) = false := by simp
          by_cases hl : d < x.1
          · have HE := Lib.hid (scan_succ_lt hd hs hl)
            clear hneg hvd hd hf hb hx hs hxt hdt this hnum
            go_wp2_with fail
            go_quiet (fail)
            go_wp2
            go_roundw
            case rel => exact ⟨k + 1, by omega, by go_num, by rw [HE.out]; rfl, HF.out.drewN _⟩
            case measure => simp [intOf]; omega
          · have HE := Lib.hid (scan_succ_ge hd hs hl)
            have HN := Lib.hid hnum
            have hl2 : decide (d < x.1) = false := by simpa using hl
            clear hneg hvd hd hf hb hx hs hxt hdt this hnum
            go_wp2_with fail
            go_quiet (fail)
            go_wp2
            go_roundw
            case rel => exact ⟨k + 1, by omega, by go_num, by rw [HE.out, HN.out], HF.out.drewN _⟩
            case measure => simp [intOf]; omega
    · obtain rfl : k = 256 := by omega
      have HF := Lib.hid hf
      clear hf
      go_wp2
      go_ret
      exact ⟨rfl, HB.out.1.trans HF.out⟩
end Go.Proofs.Ytdhkcjjcgpkkgaa
