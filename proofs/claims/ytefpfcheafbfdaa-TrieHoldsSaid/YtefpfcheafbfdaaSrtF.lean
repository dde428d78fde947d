/- Sorting bytes: order2, median, medianAdjacent, choosePivot. Sorting bytes: choosePivot. -/
import Derived.Test.YtefpfcheafbfdaaSrt
import Derived.Deep.CutRange
namespace Go.Proofs.Ytefpfcheafbfdaa
open Go.RowKit Go.Maps Go.BigFrame Go.Sort

/-- the cell that counts swaps -/
def SW (w : World) (m s : Nat) : Prop := w.heap[m]? = some (.cells #[.int .i64 s] 3 (0, 0))
theorem SR.frmM {w w' : World} {g cap m : Nat} {d : Array UInt8} (h : SR w g cap d) (hf : Frm [m] w w') (hm : g ≠ m) : SR w' g cap d := by
  obtain ⟨cur, h1, h2⟩ := h
  exact ⟨cur, hf.at h1 (by simpa using hm), h2⟩
set_option maxHeartbeats 1000000 in
theorem ord2_any (g cap m s : Nat) (d : Array UInt8) (a b : Nat) (w : World) (h : SR w g cap d) (hm : SW w m s) (hs : s ≤ 100) (ha : a < d.size) (hb : b < d.size) (_hn : d.size ≤ 1000) :
    Calls Try.prog 88 #[.slice (some ⟨g, 0, none⟩) d.size cap, .int .i64 a, .int .i64 b, .pointer (some ⟨m, 0, none⟩)] w (Ret (.tuple #[.int .i64 (order2 lt8 d a b s).1, .int .i64 (order2 lt8 d a b s).2.1]) (fun w' => SW w' m (order2 lt8 d a b s).2.2 ∧ Frm [m] w w')) := by
  obtain ⟨n, hn0⟩ : ∃ n, d.size = n := ⟨_, rfl⟩
  have HM := Lib.hid hm
  have hb1 : (b : Int) < (n : Int) := by omega
  have hb2 : (a : Int) < (n : Int) := by omega
  have cc := h.cell (j := b) (by omega)
  have cd := h.cell (j := a) (by omega)
  rw [hn0] at ha hb _hn ⊢
  obtain ⟨x, hx⟩ : ∃ x, d[b]! = x := ⟨_, rfl⟩
  obtain ⟨y, hy⟩ : ∃ y, d[a]! = y := ⟨_, rfl⟩
  rw [hx] at cc
  rw [hy] at cd
  obtain ⟨lb, hlb⟩ : ∃ lb, lt8 x y = lb := ⟨_, rfl⟩
  have CL := less_q x y
  rw [hlb] at CL
  unfold u8 at cc cd CL
  have cm := cell_of hm 0
  have fm := free_of hm 0
  have hr : order2 lt8 d a b s = if lb = true then (b, a, s + 1) else (a, b, s) := by
    unfold order2
    rw [hx, hy, hlb]
  rw [hr]
  clear h hm hx hy hlb hr hn0
  go_enter Try.func88, Try.ntmps88
  go_wp2
  go_upto_region 1 with fail
  go_quiet ((go_at_call 78; exact Calls.quiet_of_same (CL _)))
  obtain ⟨w2, hw2⟩ : ∃ w2, w.drewN nq = w2 := ⟨_, rfl⟩
  have HD2 : Hid (Frm [] w w2) := Lib.hid (by rw [← hw2]; exact (Frm.refl [] w).drewN _)
  have HM2 : Hid (SW w2 m s) := Lib.hid (HD2.out.at HM.out (by simp))
  rw [hw2]
  clear hw2 CL cc cd cm fm
  have cm := cell_of HM2.out 0
  have fm := free_of HM2.out 0
  cases lb with
  | true =>
    go_wp2
    go_ret2
    exact ⟨rfl, block_setCell HM2.out _ _, (HD2.out.mono (by simp)).setCell _ (.inl (by simp)) _⟩
  | false =>
    go_wp2
    go_ret2
    exact ⟨rfl, HM2.out, HD2.out.mono (by simp)⟩
theorem ord2_facts (d : Array UInt8) (a b s n : Nat) (ha : a < n) (hb : b < n) : (order2 lt8 d a b s).1 < n ∧ (order2 lt8 d a b s).2.1 < n ∧ (order2 lt8 d a b s).2.2 ≤ s + 1 := by
  unfold order2
  split
  · exact ⟨hb, ha, Nat.le_refl _⟩
  · exact ⟨ha, hb, by simp⟩
set_option maxHeartbeats 1000000 in
theorem med_any (g cap m s : Nat) (d : Array UInt8) (a b c : Nat) (w : World) (h : SR w g cap d) (hm : SW w m s) (hgm : g ≠ m) (hs : s ≤ 50) (ha : a < d.size) (hb : b < d.size) (hc : c < d.size) (hn : d.size ≤ 1000) :
    Calls Try.prog 87 #[.slice (some ⟨g, 0, none⟩) d.size cap, .int .i64 a, .int .i64 b, .int .i64 c, .pointer (some ⟨m, 0, none⟩)] w (Ret (.int .i64 (median lt8 d a b c s).1) (fun w' => SW w' m (median lt8 d a b c s).2 ∧ Frm [m] w w')) := by
  obtain ⟨x1, y1, s1, h1⟩ : ∃ x1 y1 s1, order2 lt8 d a b s = (x1, y1, s1) := ⟨_, _, _, rfl⟩
  obtain ⟨x2, y2, s2, h2⟩ : ∃ x2 y2 s2, order2 lt8 d y1 c s1 = (x2, y2, s2) := ⟨_, _, _, rfl⟩
  obtain ⟨x3, y3, s3, h3⟩ : ∃ x3 y3 s3, order2 lt8 d x1 x2 s2 = (x3, y3, s3) := ⟨_, _, _, rfl⟩
  have e1 : (median lt8 d a b c s).1 = y3 := by unfold median; simp only [h1, h2, h3]
  have e2 : (median lt8 d a b c s).2 = s3 := by unfold median; simp only [h1, h2, h3]
  have f1 := ord2_facts d a b s d.size ha hb
  rw [h1] at f1
  have f2 := ord2_facts d y1 c s1 d.size f1.2.1 hc
  rw [h2] at f2
  have C1 := Lib.hid (ord2_any g cap m s d a b w h hm (by omega) ha hb hn)
  have C2 : Hid (∀ W, SR W g cap d → SW W m s1 → _) := Lib.hid (fun W hW hmW => ord2_any g cap m s1 d y1 c W hW hmW (by simp only at f1; omega) f1.2.1 hc hn)
  have C3 : Hid (∀ W, SR W g cap d → SW W m s2 → _) := Lib.hid (fun W hW hmW => ord2_any g cap m s2 d x1 x2 W hW hmW (by simp only at f1 f2; omega) f1.1 f2.1 hn)
  rw [h1] at C1
  rw [h2] at C2
  rw [h3] at C3
  rw [e1, e2]
  obtain ⟨n, hn0⟩ : ∃ n, d.size = n := ⟨_, rfl⟩
  rw [hn0] at C1 C2 C3 ⊢
  have HS := Lib.hid h
  clear h hm h1 h2 h3 e1 e2 f1 f2 ha hb hc hn hn0
  go_enter Try.func87, Try.ntmps87
  go_wp2_with (go_at_call 88; first
    | (refine C1.out.mono ?_; clear C1; rintro e w1 ⟨rfl, hm1, hf1⟩; have HM1 := Lib.hid hm1; have HF1 := Lib.hid hf1; clear hm1 hf1; have HS1 := Lib.hid (HS.out.frmM HF1.out hgm))
    | (refine (C2.out w1 HS1.out HM1.out).mono ?_; clear C2; rintro e w2 ⟨rfl, hm2, hf2⟩; have HM2 := Lib.hid hm2; have HF2 := Lib.hid hf2; clear hm2 hf2; have HS2 := Lib.hid (HS1.out.frmM HF2.out hgm))
    | (refine (C3.out w2 HS2.out HM2.out).mono ?_; clear C3; rintro e w3 ⟨rfl, hm3, hf3⟩; have HM3 := Lib.hid hm3; have HF3 := Lib.hid hf3; clear hm3 hf3))
  go_ret
  exact ⟨rfl, HM3.out, (HF1.out.trans HF2.out).trans HF3.out⟩
theorem med_facts (d : Array UInt8) (a b c s n : Nat) (ha : a < n) (hb : b < n) (hc : c < n) : (median lt8 d a b c s).1 < n ∧ (median lt8 d a b c s).2 ≤ s + 3 := by
  unfold median
  have f1 := ord2_facts d a b s n ha hb
  have f2 := ord2_facts d (order2 lt8 d a b s).2.1 c (order2 lt8 d a b s).2.2 n f1.2.1 hc
  have f3 := ord2_facts d (order2 lt8 d a b s).1 (order2 lt8 d (order2 lt8 d a b s).2.1 c (order2 lt8 d a b s).2.2).1 (order2 lt8 d (order2 lt8 d a b s).2.1 c (order2 lt8 d a b s).2.2).2.2 n f1.1 f2.1
  refine ⟨f3.2.1, ?_⟩
  have := f3.2.2; have := f2.2.2; have := f1.2.2
  simp only
  omega
theorem adj_any (g cap m s : Nat) (d : Array UInt8) (a : Nat) (w : World) (h : SR w g cap d) (hm : SW w m s) (hgm : g ≠ m) (hs : s ≤ 50) (h1 : 1 ≤ a) (ha : a + 1 < d.size) (hn : d.size ≤ 1000) :
    Calls Try.prog 86 #[.slice (some ⟨g, 0, none⟩) d.size cap, .int .i64 a, .pointer (some ⟨m, 0, none⟩)] w (Ret (.int .i64 (medianAdjacent lt8 d a s).1) (fun w' => SW w' m (medianAdjacent lt8 d a s).2 ∧ Frm [m] w w')) := by
  have C := Lib.hid (med_any g cap m s d (a - 1) a (a + 1) w h hm hgm hs (by omega) (by omega) ha hn)
  have e1 : ((a - 1 : Nat) : Int) = (a : Int) - 1 := by omega
  have e2 : ((a + 1 : Nat) : Int) = (a : Int) + 1 := by omega
  rw [e1, e2] at C
  unfold medianAdjacent
  obtain ⟨n, hn0⟩ : ∃ n, d.size = n := ⟨_, rfl⟩
  rw [hn0] at C ⊢
  have hb : (a : Int) + 1 ≤ 1000 := by omega
  clear h hm e1 e2 ha hn hn0
  go_enter Try.func86, Try.ntmps86
  go_wp2_with (go_at_call 87; go_must (refine C.out.mono ?_; clear C; rintro e w1 ⟨rfl, h1⟩; have H1 := Lib.hid h1; clear h1))
  go_ret
  exact ⟨rfl, H1.out⟩
end Go.Proofs.Ytefpfcheafbfdaa
namespace Go.Proofs.Ytefpfcheafbfdaa
open Go.RowKit Go.Maps Go.BigFrame Go.Sort

def hintN : Hint → Nat
  | .unknown => 0
  | .increasing => 1
  | .decreasing => 2
/-- the pivot and the swaps, before the hint is told -/
def pivS (d : Array UInt8) (a l q : Nat) : Nat × Nat :=
  if 8 ≤ l then
    if 50 ≤ l then
      median lt8 d (medianAdjacent lt8 d (a + q) 0).1 (medianAdjacent lt8 d (a + q * 2) (medianAdjacent lt8 d (a + q) 0).2).1 (medianAdjacent lt8 d (a + q * 3) (medianAdjacent lt8 d (a + q * 2) (medianAdjacent lt8 d (a + q) 0).2).2).1 (medianAdjacent lt8 d (a + q * 3) (medianAdjacent lt8 d (a + q * 2) (medianAdjacent lt8 d (a + q) 0).2).2).2
    else median lt8 d (a + q) (a + q * 2) (a + q * 3) 0
  else (a + q * 2, 0)
theorem pivS_eq (d : Array UInt8) (a b l q : Nat) (hl : b - a = l) (hq : l / 4 = q) : choosePivot lt8 d a b = ((pivS d a l q).1, if (pivS d a l q).2 = 0 then .increasing else if (pivS d a l q).2 = 12 then .decreasing else .unknown) := by
  unfold choosePivot pivS
  simp only [hl, hq, ge_iff_le, Nat.mul_one]
theorem adj_facts (d : Array UInt8) (a s n : Nat) (h1 : 1 ≤ a) (ha : a + 1 < n) : (medianAdjacent lt8 d a s).1 < n ∧ (medianAdjacent lt8 d a s).2 ≤ s + 3 := by
  unfold medianAdjacent
  exact med_facts d _ _ _ s n (by omega) (by omega) ha
set_option maxHeartbeats 1000000 in
theorem piv_any (g cap : Nat) (d : Array UInt8) (a b : Nat) (w : World) (h : SR w g cap d) (hab : a < b) (hb : b ≤ d.size) (hn : d.size ≤ 1000) :
    Calls Try.prog 75 #[.slice (some ⟨g, 0, none⟩) d.size cap, .int .i64 a, .int .i64 b] w (Ret (.tuple #[.int .i64 (choosePivot lt8 d a b).1, .int .i64 (hintN (choosePivot lt8 d a b).2)]) (Frm [] w)) := by
  obtain ⟨l, hl⟩ : ∃ l, b - a = l := ⟨_, rfl⟩
  obtain ⟨q, hq⟩ : ∃ q, l / 4 = q := ⟨_, rfl⟩
  rw [pivS_eq d a b l q hl hq]
  have e1 : (b : Int) - (a : Int) = (l : Int) := by omega
  have e2 : (l : Int) / 4 = (q : Int) := by omega
  obtain ⟨p, s, hps⟩ : ∃ p s, pivS d a l q = (p, s) := ⟨_, _, rfl⟩
  rw [hps]
  have HPS := Lib.hid hps
  have hw0 : SR (w.alloc (.cells #[.int .i64 0] 3)) g cap d := h.frm0 ((Frm.refl [] w).alloc _)
  have hm0 : SW (w.alloc (.cells #[.int .i64 0] 3)) w.heap.size 0 := by
    show (w.heap.push _)[w.heap.size]? = _
    exact Array.getElem?_push_size
  have hgm : g ≠ w.heap.size := by
    obtain ⟨cur, h1, -⟩ := h
    have := lt_of_block h1
    omega
  have hF0 : Frm [w.heap.size] w (w.alloc (.cells #[.int .i64 0] 3)) := (Frm.refl _ w).alloc _
  have hq3 : a + q * 3 + 1 ≤ b := by omega
  obtain ⟨n, hn0⟩ : ∃ n, d.size = n := ⟨_, rfl⟩
  have HN := Lib.hid hn0
  have HW0 := Lib.hid hw0; have HM0 := Lib.hid hm0; have HF0 := Lib.hid hF0
  rw [hn0] at hb hn ⊢
  clear h hps hw0 hm0 hF0 hn0
  go_enter Try.func75, Try.ntmps75
  go_upto_if 32 with fail
  obtain ⟨m, hm⟩ : ∃ m, m = w.heap.size := ⟨_, rfl⟩
  obtain ⟨W, hW⟩ : ∃ W, W = w.alloc (.cells #[.int .i64 0] 3) := ⟨_, rfl⟩
  rw [← hm, ← hW] at HM0 HF0
  rw [← hm] at hgm
  rw [← hW] at HW0
  rw [← hm, ← hW]
  have HMW : Hid (w.heap.size ≤ m) := Lib.hid (by omega)
  clear hm hW
  go_cut [10, 11, 12, 32] from 33 to 48 (fun _ s11 _ _ wx => s11 = .int .i64 p ∧ SW wx m s ∧ Frm [m] w wx)
  case first =>
    by_cases h8 : 8 ≤ l
    · have h8' : (8 : Int) ≤ (l : Int) := by omega
      by_cases h50 : 50 ≤ l
      · have h50' : (50 : Int) ≤ (l : Int) := by omega
        obtain ⟨x1, s1, h1⟩ : ∃ x1 s1, medianAdjacent lt8 d (a + q) 0 = (x1, s1) := ⟨_, _, rfl⟩
        obtain ⟨x2, s2, h2⟩ : ∃ x2 s2, medianAdjacent lt8 d (a + q * 2) s1 = (x2, s2) := ⟨_, _, rfl⟩
        obtain ⟨x3, s3, h3⟩ : ∃ x3 s3, medianAdjacent lt8 d (a + q * 3) s2 = (x3, s3) := ⟨_, _, rfl⟩
        have hp : median lt8 d x1 x2 x3 s3 = (p, s) := by
          have := HPS.out
          unfold pivS at this
          rw [if_pos h8, if_pos h50] at this
          simpa only [h1, h2, h3] using this
        have f1 := adj_facts d (a + q) 0 n (by omega) (by omega)
        have f2 := adj_facts d (a + q * 2) s1 n (by omega) (by omega)
        have f3 := adj_facts d (a + q * 3) s2 n (by omega) (by omega)
        rw [h1] at f1
        rw [h2] at f2
        rw [h3] at f3
        simp only at f1 f2 f3
        have C1 := Lib.hid (adj_any g cap m 0 d (a + q) W HW0.out HM0.out hgm (by omega) (by omega) (by rw [HN.out]; omega) (by rw [HN.out]; exact hn))
        have C2 := Lib.hid (fun W2 hW2 hM2 => adj_any g cap m s1 d (a + q * 2) W2 hW2 hM2 hgm (by omega) (by omega) (by rw [HN.out]; omega) (by rw [HN.out]; exact hn))
        have C3 := Lib.hid (fun W2 hW2 hM2 => adj_any g cap m s2 d (a + q * 3) W2 hW2 hM2 hgm (by omega) (by omega) (by rw [HN.out]; omega) (by rw [HN.out]; exact hn))
        have C4 := Lib.hid (fun W2 hW2 hM2 => med_any g cap m s3 d x1 x2 x3 W2 hW2 hM2 hgm (by omega) (by rw [HN.out]; omega) (by rw [HN.out]; omega) (by rw [HN.out]; omega) (by rw [HN.out]; exact hn))
        rw [h1, HN.out] at C1
        rw [h2, HN.out] at C2
        rw [h3, HN.out] at C3
        rw [hp, HN.out] at C4
        push_cast at C1 C2 C3
        clear h1 h2 h3 hp f1 f2 f3
        go_wp2_with (first
          | (go_at_call 86; first
            | (refine C1.out.mono ?_; clear C1; rintro e w1 ⟨rfl, hm1, hf1⟩; have HM1 := Lib.hid hm1; have HF1 := Lib.hid hf1; clear hm1 hf1; have HS1 := Lib.hid (HW0.out.frmM HF1.out hgm))
            | (refine (C2.out w1 HS1.out HM1.out).mono ?_; clear C2; rintro e w2 ⟨rfl, hm2, hf2⟩; have HM2 := Lib.hid hm2; have HF2 := Lib.hid hf2; clear hm2 hf2; have HS2 := Lib.hid (HS1.out.frmM HF2.out hgm))
            | (refine (C3.out w2 HS2.out HM2.out).mono ?_; clear C3; rintro e w3 ⟨rfl, hm3, hf3⟩; have HM3 := Lib.hid hm3; have HF3 := Lib.hid hf3; clear hm3 hf3; have HS3 := Lib.hid (HS2.out.frmM HF3.out hgm)))
          | (go_at_call 87; refine (C4.out w3 HS3.out HM3.out).mono ?_; clear C4; rintro e w4 ⟨rfl, hm4, hf4⟩; have HM4 := Lib.hid hm4; have HF4 := Lib.hid hf4; clear hm4 hf4))
        go_meet
        exact ⟨rfl, HM4.out, (((HF0.out.trans HF1.out).trans HF2.out).trans HF3.out).trans HF4.out⟩
      · have h50' : ¬ (50 : Int) ≤ (l : Int) := by omega
        have hp : median lt8 d (a + q) (a + q * 2) (a + q * 3) 0 = (p, s) := by
          have := HPS.out
          unfold pivS at this
          rw [if_pos h8, if_neg h50] at this
          exact this
        have C4 := Lib.hid (med_any g cap m 0 d (a + q) (a + q * 2) (a + q * 3) W HW0.out HM0.out hgm (by omega) (by rw [HN.out]; omega) (by rw [HN.out]; omega) (by rw [HN.out]; omega) (by rw [HN.out]; exact hn))
        rw [hp, HN.out] at C4
        push_cast at C4
        clear hp
        go_wp2_with (go_at_call 87; refine C4.out.mono ?_; clear C4; rintro e w4 ⟨rfl, hm4, hf4⟩; have HM4 := Lib.hid hm4; have HF4 := Lib.hid hf4; clear hm4 hf4)
        go_meet
        exact ⟨rfl, HM4.out, HF0.out.trans HF4.out⟩
    · have h8' : ¬ (8 : Int) ≤ (l : Int) := by omega
      have hp : (a + q * 2, 0) = (p, s) := by
        have := HPS.out
        unfold pivS at this
        rw [if_neg h8] at this
        exact this
      obtain ⟨rfl, rfl⟩ := Prod.mk.inj hp
      clear hp
      go_wp2
      go_meet
      exact ⟨by push_cast; rfl, HM0.out, HF0.out⟩
  case rest =>
    obtain ⟨rfl, hm, hf⟩ := hcut
    have HF : Hid (Frm [] w wc) := Lib.hid (hf.mono (by intro x hx; simp at hx; subst hx; exact .inr HMW.out))
    have cm := cell_of hm 0
    clear hm hf
    by_cases h0 : s = 0
    · subst h0
      go_wp2
      go_ret2
      exact ⟨rfl, HF.out⟩
    · have h0' : ((s : Int) == 0) = false := by simpa using h0
      have h0'' : ¬ (s : Int) = 0 := by omega
      have HH0 := Lib.hid h0
      clear h0
      by_cases h12 : s = 12
      · subst h12
        go_wp2
        go_ret2
        exact ⟨rfl, HF.out⟩
      · have h12' : ((s : Int) == 12) = false := by rw [beq_eq_false_iff_ne]; omega
        have h12'' : ¬ (s : Int) = 12 := by omega
        have HH12 := Lib.hid h12
        clear h12
        go_wp2
        go_ret2
        exact ⟨rfl, HF.out⟩
end Go.Proofs.Ytefpfcheafbfdaa
