/- Sorting bytes: pdqsort. The walk began as gen_sort4.py's print. slices.Sort of bytes. -/
import Derived.Test.YtefpfcheafbfdaaSrtB
import Derived.Test.YtefpfcheafbfdaaSrtD
import Derived.Test.YtefpfcheafbfdaaSrtE
import Derived.Test.YtefpfcheafbfdaaSrtF
import Derived.Test.YtefpfcheafbfdaaSrtH
import Derived.Sort.Walk13a
namespace Go.Proofs.Ytefpfcheafbfdaa
open Go.RowKit Go.Maps Go.BigFrame Go.Sort

theorem size_sd : ∀ (j : Nat) (e : Array UInt8), (shiftDown lt8 j e).size = e.size
  | 0, _ => rfl
  | j + 1, e => by
    rw [shiftDown]
    split
    · rfl
    · rw [size_sd j, size_swp8]
theorem size_su (b : Nat) : ∀ (m j : Nat) (e : Array UInt8), b - j ≤ m → (shiftUp lt8 b j e).size = e.size
  | 0, j, e, h => by rw [shiftUp, if_neg (by omega)]
  | m + 1, j, e, h => by
    rw [shiftUp]
    split
    · split
      · rfl
      · rw [size_su b m _ _ (by omega), size_swp8]
    · rfl
theorem size_pi (a b : Nat) : ∀ (s i : Nat) (e : Array UInt8), (partialIns lt8 a b s i e).1.size = e.size
  | 0, _, _ => rfl
  | s + 1, i, e => by
    unfold partialIns
    simp only
    split
    · rfl
    · split
      · rfl
      · rw [size_pi a b s]
        split
        · rw [size_su _ _ _ _ (Nat.le_refl _)]
          split
          · rw [size_sd, size_swp8]
          · rw [size_swp8]
        · split
          · rw [size_sd, size_swp8]
          · rw [size_swp8]
theorem size_pins (d : Array UInt8) (a b : Nat) : (partialInsertionSort lt8 d a b).1.size = d.size := size_pi a b 5 (a + 1) d
theorem partEq_range (d : Array UInt8) (a b p : Nat) (hap : a ≤ p) (hpb : p < b) (hb : b ≤ d.size) : a < (partitionEqual lt8 d a b p).1 ∧ (partitionEqual lt8 d a b p).1 ≤ b ∧ (partitionEqual lt8 d a b p).2.size = d.size := by
  have := partEqLoop_spec lt8 a b _ (a + 1) (b - 1) (swp d a p) (Nat.le_refl _) (by omega) (by omega) (by omega) (by rw [size_swp8]; exact hb) (fun t h1 h2 => by omega) (fun t h1 h2 => by omega)
  exact ⟨this.1, this.2.1, this.2.2.1.1.trans (size_swp8 _ _ _)⟩
theorem rd_pi (d : Array UInt8) (a b limit : Nat) (wb wp : Bool) : (rd lt8 d a b limit wb wp).pi = if (wb && wp && decide ((rd lt8 d a b limit wb wp).hint = .increasing)) = true then partialInsertionSort lt8 (rd lt8 d a b limit wb wp).d2 a b else ((rd lt8 d a b limit wb wp).d2, false) := rfl
theorem pdq_go {d d3 : Array UInt8} {a b limit p2 lim1 : Nat} {wb wp pb : Bool} (h12 : ¬ b - a ≤ 12) (h0 : ¬ limit = 0) (hpi : (rd lt8 d a b limit wb wp).pi = (d3, pb)) (hp : (rd lt8 d a b limit wb wp).pivot = p2) (hl : (rd lt8 d a b limit wb wp).lim = lim1) :
    pdq lt8 d a b limit wb wp = if pb = true then d3 else if (decide (a > 0) && !lt8 d3[a - 1]! d3[p2]!) = true then (if a < (partitionEqual lt8 d3 a b p2).1 ∧ (partitionEqual lt8 d3 a b p2).1 ≤ b then pdq lt8 (partitionEqual lt8 d3 a b p2).2 (partitionEqual lt8 d3 a b p2).1 b lim1 wb wp else (partitionEqual lt8 d3 a b p2).2) else (if a ≤ (partition lt8 d3 a b p2).1 ∧ (partition lt8 d3 a b p2).1 < b then (if (partition lt8 d3 a b p2).1 - a < b - (partition lt8 d3 a b p2).1 then pdq lt8 (pdq lt8 (partition lt8 d3 a b p2).2.2 a (partition lt8 d3 a b p2).1 lim1 true true) ((partition lt8 d3 a b p2).1 + 1) b lim1 (decide ((partition lt8 d3 a b p2).1 - a ≥ (b - a) / 8)) (partition lt8 d3 a b p2).2.1 else pdq lt8 (pdq lt8 (partition lt8 d3 a b p2).2.2 ((partition lt8 d3 a b p2).1 + 1) b lim1 true true) a (partition lt8 d3 a b p2).1 lim1 (decide (b - (partition lt8 d3 a b p2).1 ≥ (b - a) / 8)) (partition lt8 d3 a b p2).2.1) else (partition lt8 d3 a b p2).2.2) := by
  rw [pdq_unfold, if_neg h12, if_neg h0, hpi, hp, hl]
def PdqP (m : Nat) : Prop := ∀ (g cap : Nat) (d : Array UInt8) (a b lim : Nat) (w : World), b - a ≤ m → SR w g cap d → a ≤ b → b ≤ d.size → lim ≤ 64 → d.size ≤ 1000 →
  Calls Try.prog 70 #[.slice (some ⟨g, 0, none⟩) d.size cap, .int .i64 a, .int .i64 b, .int .i64 lim] w (Ret (.tuple #[]) fun w' => (pdq lt8 d a b lim true true).size = d.size ∧ SrtTo g cap (pdq lt8 d a b lim true true) w w')
set_option maxHeartbeats 4000000 in
set_option maxRecDepth 100000 in
theorem pdq_step (m : Nat) (IH : ∀ k, k < m → PdqP k) : PdqP m := by
  intro g cap d a b lim w hm h hab hb hlim hn
  obtain ⟨n, hn0⟩ : ∃ n, d.size = n := ⟨_, rfl⟩
  have HEZ := Lib.hid hn0; have HS0 := Lib.hid h
  rw [hn0] at hb hn ⊢
  obtain ⟨R, hR⟩ : ∃ R, pdq lt8 d a b lim true true = R := ⟨_, rfl⟩
  rw [hR]
  have HR := Lib.hid hR
  clear h hR hn0
  go_enter Try.func70, Try.ntmps70
  go_wp2
  go_loopw [1, 2, 3, 8, 9] (fun s1 s2 s3 s8 s9 wr => ∃ (u v lim : Nat) (wb wp : Bool) (e : Array UInt8), s1 = .int .i64 u ∧ s2 = .int .i64 v ∧ s3 = .int .i64 lim ∧ s8 = .bool wb ∧ s9 = .bool wp ∧ u ≤ v ∧ v ≤ n ∧ a ≤ u ∧ v ≤ b ∧ lim ≤ 64 ∧ e.size = n ∧ pdq lt8 e u v lim wb wp = R ∧ SR wr g cap e ∧ Frm [g] w wr) (fun s1 s2 _ _ _ _ => (intOf s2 - intOf s1).toNat)
  case atStart => exact ⟨a, b, lim, true, true, d, rfl, rfl, rfl, rfl, rfl, hab, hb, Nat.le_refl _, Nat.le_refl _, hlim, HEZ.out, HR.out, HS0.out, Frm.refl _ _⟩
  case round =>
    clear HEZ HS0 HR hlim
    clear lim
    obtain ⟨u, v, lim, wb, wp, e, rfl, rfl, rfl, rfl, rfl, huv, hvn, hau, hvb, hlm, hez, ho, hs, hf⟩ := hrel
    have HO := Lib.hid ho; have HS := Lib.hid hs; have HF := Lib.hid hf; have HEZ := Lib.hid hez
    clear ho hs hf hez
    obtain ⟨L, hL⟩ : ∃ L, v - u = L := ⟨_, rfl⟩
    have hLi : (v : Int) - (u : Int) = (L : Int) := by omega
    by_cases h12 : v - u ≤ 12
    · have h12' : (L : Int) ≤ 12 := by omega
      have hR : insertionSort lt8 e u v = R := by rw [← HO.out, pdq_small h12]
      have hRs : R.size = n := by rw [← hR]; exact (insertionSort_holds swo8 e u v huv (by rw [HEZ.out]; omega)).1.1.trans HEZ.out
      have CV : Hid (Calls Try.prog 72 #[.slice (some ⟨g, 0, none⟩) n cap, .int .i64 u, .int .i64 v] wr (Ret (.tuple #[]) (SrtTo g cap R wr))) := Lib.hid (by
        have := ins_any g cap e u v wr HS.out (by rw [HEZ.out]; omega) huv (by rw [HEZ.out]; exact hn)
        rw [hR, HEZ.out] at this
        exact this)
      have HRS := Lib.hid hRs
      clear hR hRs
      go_wp2_with (go_at_call 72; go_must (refine CV.out.mono ?_; clear CV; rintro e4 w5 ⟨rfl, hs5, hf5⟩; have HS5 := Lib.hid hs5; have HF5 := Lib.hid hf5; clear hs5 hf5))
      go_end0
      exact ⟨rfl, HRS.out, HS5.out, HF.out.trans HF5.out⟩
    · have h12' : ¬ (L : Int) ≤ 12 := by omega
      by_cases h0 : lim = 0
      · have hR : heapSort lt8 e u v = R := by rw [← HO.out, pdq_heap h12 h0]
        have hRs : R.size = n := by rw [← hR]; exact (heapSort_holds swo8 e u v huv (by rw [HEZ.out]; omega)).1.1.trans HEZ.out
        have CV : Hid (Calls Try.prog 73 #[.slice (some ⟨g, 0, none⟩) n cap, .int .i64 u, .int .i64 v] wr (Ret (.tuple #[]) (SrtTo g cap R wr))) := Lib.hid (by
          have := heap_any g cap e u v wr HS.out (by rw [HEZ.out]; omega) (by omega) (by rw [HEZ.out]; exact hn)
          rw [hR, HEZ.out] at this
          exact this)
        have HRS := Lib.hid hRs
        subst h0
        clear hR hRs HO
        go_wp2_with (go_at_call 73; go_must (refine CV.out.mono ?_; clear CV; rintro e4 w5 ⟨rfl, hs5, hf5⟩; have HS5 := Lib.hid hs5; have HF5 := Lib.hid hf5; clear hs5 hf5))
        go_end0
        exact ⟨rfl, HRS.out, HS5.out, HF.out.trans HF5.out⟩
      · have h0' : ((lim : Int) == 0) = false := by rw [beq_eq_false_iff_ne]; omega
        have h0'' : ¬ (lim : Int) = 0 := by omega
        obtain ⟨d1, hd1⟩ : ∃ d1, (rd lt8 e u v lim wb wp).d1 = d1 := ⟨_, rfl⟩
        obtain ⟨lim1, hlim⟩ : ∃ lim1, (rd lt8 e u v lim wb wp).lim = lim1 := ⟨_, rfl⟩
        have HD1 := Lib.hid hd1; have HLIM := Lib.hid hlim
        have hs1 : d1.size = n := by
          rw [← hd1]
          cases wb with
          | true => exact HEZ.out
          | false => exact (breakPatterns_holds e u v (by omega) (by rw [HEZ.out]; omega)).1.trans HEZ.out
        have hlm1 : lim1 ≤ 64 := by rw [← hlim]; exact Nat.le_trans rd_lim_le hlm
        clear hd1 hlim
        go_upto_if 35 with fail
        go_cut [3, 35] from 36 to 41 (fun s3 _ wx => s3 = .int .i64 lim1 ∧ SR wx g cap d1 ∧ Frm [g] wr wx)
        case first =>
          cases wb with
          | true =>
            obtain rfl : e = d1 := HD1.out
            obtain rfl : lim = lim1 := HLIM.out
            go_wp2
            go_meet
            exact ⟨rfl, HS.out, Frm.refl _ _⟩
          | false =>
            have hd1 : breakPatterns e u v = d1 := HD1.out
            have hl1 : lim - 1 = lim1 := HLIM.out
            have hl2 : (lim : Int) - 1 = (lim1 : Int) := by omega
            have CV : Hid (Calls Try.prog 74 #[.slice (some ⟨g, 0, none⟩) n cap, .int .i64 u, .int .i64 v] wr (Ret (.tuple #[]) (SrtTo g cap d1 wr))) := Lib.hid (by
              have := brk_go g cap e u v (v - u) wr HS.out (by rw [HEZ.out]; omega) (by omega) (by omega) (by rw [HEZ.out]; exact hn)
              rw [hd1, HEZ.out] at this
              exact this)
            clear hd1 hl1
            go_wp2_with (go_at_call 74; go_must (refine CV.out.mono ?_; clear CV; rintro e4 w5 ⟨rfl, hs5, hf5⟩; have HS5 := Lib.hid hs5; have HF5 := Lib.hid hf5; clear hs5 hf5))
            go_meet
            exact ⟨rfl, HS5.out, HF5.out⟩
        case rest =>
          obtain ⟨w1, hw1⟩ : ∃ w1, w1 = wc := ⟨_, rfl⟩
          subst hw1
          obtain ⟨rfl, hs5, hf5⟩ := hcut
          have HS1 := Lib.hid hs5; have HF1 := Lib.hid (HF.out.trans hf5)
          clear hs5 hf5 HS HF HEZ
          have hpr := choosePivot_holds lt8 d1 u v (by omega)
          obtain ⟨p, h, hph⟩ : ∃ p h, choosePivot lt8 d1 u v = (p, h) := ⟨_, _, rfl⟩
          rw [hph] at hpr
          simp only at hpr
          obtain ⟨hpa, hpb⟩ := hpr
          obtain ⟨d2, hd2⟩ : ∃ d2, (if h = .decreasing then reverseRange d1 u v else d1) = d2 := ⟨_, rfl⟩
          obtain ⟨p2, hp2⟩ : ∃ p2, (if h = .decreasing then (v - 1) - (p - u) else p) = p2 := ⟨_, rfl⟩
          obtain ⟨h2, hh2⟩ : ∃ h2, (if h = .decreasing then Hint.increasing else h) = h2 := ⟨_, rfl⟩
          have hs2 : d2.size = n := by rw [← hd2]; split; exact (reverseRange_holds d1 u v (by omega) (by rw [hs1]; omega)).1.trans hs1; exact hs1
          have hp2r : u ≤ p2 ∧ p2 < v := by rw [← hp2]; split <;> omega
          obtain ⟨hp2a, hp2b⟩ := hp2r
          have HD2 : Hid ((rd lt8 e u v lim wb wp).d2 = d2 ∧ (rd lt8 e u v lim wb wp).pivot = p2 ∧ (rd lt8 e u v lim wb wp).hint = h2) := Lib.hid (by
            have hc : (rd lt8 e u v lim wb wp).c = (p, h) := by rw [rd_c, HD1.out, hph]
            by_cases hd : h = .decreasing
            · have := rd_dec (lt := lt8) (d := e) (a := u) (b := v) (limit := lim) (wb := wb) (wp := wp) (by rw [hc]; exact hd)
              rw [if_pos hd] at hd2 hp2 hh2
              rw [this.1, this.2.1, this.2.2, HD1.out, hc, hd2, hp2, hh2]
              exact ⟨rfl, rfl, rfl⟩
            · have := rd_not (lt := lt8) (d := e) (a := u) (b := v) (limit := lim) (wb := wb) (wp := wp) (by rw [hc]; exact hd)
              rw [if_neg hd] at hd2 hp2 hh2
              rw [this.1, this.2.1, this.2.2, HD1.out, hc]
              exact ⟨hd2, hp2, hh2⟩)
          have CV : Hid (Calls Try.prog 75 #[.slice (some ⟨g, 0, none⟩) n cap, .int .i64 u, .int .i64 v] w1 (Ret (.tuple #[.int .i64 p, .int .i64 (hintN h)]) (Frm [] w1))) := Lib.hid (by
            have := piv_any g cap d1 u v w1 HS1.out (by omega) (by rw [hs1]; omega) (by rw [hs1]; exact hn)
            rw [hph, hs1] at this
            exact this)
          have HDD := Lib.hid hd2; have HPP := Lib.hid hp2; have HHH := Lib.hid hh2
          clear hph hd2 hp2 hh2 HD1
          go_upto_if 50 with (go_at_call 75; go_must (refine CV.out.mono ?_; clear CV; rintro e4 w4 ⟨rfl, hf4⟩; have HFV := Lib.hid hf4; clear hf4))
          have HS1 := Lib.hid (HS1.out.frm0 HFV.out)
          have HF1 := Lib.hid (HF1.out.then HFV.out (by simp))
          clear HFV
          go_cut [11, 12, 50] from 51 to 60 (fun s11 s12 _ wx => s11 = .int .i64 p2 ∧ s12 = .int .i64 (hintN h2) ∧ SR wx g cap d2 ∧ Frm [g] w4 wx)
          case first =>
            cases h with
            | decreasing =>
              have hd2 : reverseRange d1 u v = d2 := HDD.out
              have hp2 : (v - 1) - (p - u) = p2 := HPP.out
              have hh2 : Hint.increasing = h2 := HHH.out
              subst hh2
              have hp3 : (v : Int) - 1 - ((p : Int) - (u : Int)) = (p2 : Int) := by omega
              have CV : Hid (Calls Try.prog 76 #[.slice (some ⟨g, 0, none⟩) n cap, .int .i64 u, .int .i64 v] w4 (Ret (.tuple #[]) (SrtTo g cap d2 w4))) := Lib.hid (by
                have := rev_any g cap d1 u v w4 HS1.out (by rw [hs1]; omega) (by omega) (by rw [hs1]; exact hn)
                rw [hd2, hs1] at this
                exact this)
              clear hd2 hp2
              unfold hintN
              go_wp2_with (go_at_call 76; go_must (refine CV.out.mono ?_; clear CV; rintro e4 w5 ⟨rfl, hs5, hf5⟩; have HS5 := Lib.hid hs5; have HF5 := Lib.hid hf5; clear hs5 hf5))
              go_meet
              exact ⟨rfl, rfl, HS5.out, HF5.out⟩
            | increasing =>
              obtain rfl : p = p2 := HPP.out
              obtain rfl : d1 = d2 := HDD.out
              obtain rfl : Hint.increasing = h2 := HHH.out
              unfold hintN
              go_wp2
              go_meet
              exact ⟨rfl, rfl, HS1.out, Frm.refl _ _⟩
            | unknown =>
              obtain rfl : p = p2 := HPP.out
              obtain rfl : d1 = d2 := HDD.out
              obtain rfl : Hint.unknown = h2 := HHH.out
              unfold hintN
              go_wp2
              go_meet
              exact ⟨rfl, rfl, HS1.out, Frm.refl _ _⟩
          case rest =>
            obtain ⟨w2, hw2⟩ : ∃ w2, w2 = wc := ⟨_, rfl⟩
            subst hw2
            obtain ⟨rfl, rfl, hs5, hf5⟩ := hcut
            have HS2 := Lib.hid hs5; have HF2 := Lib.hid (HF1.out.trans hf5)
            clear hs5 hf5 HS1 HF1
            obtain ⟨hv, hhv⟩ : ∃ hv, hintN h = hv := ⟨_, rfl⟩
            rw [hhv]
            clear hhv
            go_upto_region 15 with fail
            go_cut [68] from 61 to 68 (fun s68 wx => s68 = .bool (wb && wp && decide (h2 = .increasing)) ∧ wx = w2)
            case first =>
              cases h2 <;> cases wb <;> cases wp <;> (unfold hintN; go_wp2; go_meet; exact ⟨rfl, rfl⟩)
            case rest =>
              obtain ⟨rfl, hwc⟩ := hcut
              rw [hwc]
              obtain ⟨d3, pb, hd3⟩ : ∃ d3 pb, (if (wb && wp && decide (h2 = .increasing)) = true then partialInsertionSort lt8 d2 u v else (d2, false)) = (d3, pb) := ⟨_, _, rfl⟩
              have hs3 : d3.size = n := by
                have : (d3, pb).1.size = d2.size := by rw [← hd3]; split; exact size_pins _ _ _; rfl
                exact this.trans hs2
              have HEZ3 := Lib.hid hs3
              have HRA : Hid ((if pb = true then d3 else if (decide (u > 0) && !lt8 d3[u - 1]! d3[p2]!) = true then (if u < (partitionEqual lt8 d3 u v p2).1 ∧ (partitionEqual lt8 d3 u v p2).1 ≤ v then pdq lt8 (partitionEqual lt8 d3 u v p2).2 (partitionEqual lt8 d3 u v p2).1 v lim1 wb wp else (partitionEqual lt8 d3 u v p2).2) else (if u ≤ (partition lt8 d3 u v p2).1 ∧ (partition lt8 d3 u v p2).1 < v then (if (partition lt8 d3 u v p2).1 - u < v - (partition lt8 d3 u v p2).1 then pdq lt8 (pdq lt8 (partition lt8 d3 u v p2).2.2 u (partition lt8 d3 u v p2).1 lim1 true true) ((partition lt8 d3 u v p2).1 + 1) v lim1 (decide ((partition lt8 d3 u v p2).1 - u ≥ (v - u) / 8)) (partition lt8 d3 u v p2).2.1 else pdq lt8 (pdq lt8 (partition lt8 d3 u v p2).2.2 ((partition lt8 d3 u v p2).1 + 1) v lim1 true true) u (partition lt8 d3 u v p2).1 lim1 (decide (v - (partition lt8 d3 u v p2).1 ≥ (v - u) / 8)) (partition lt8 d3 u v p2).2.1) else (partition lt8 d3 u v p2).2.2)) = R) := Lib.hid (by
                have := HO.out
                rw [pdq_go h12 h0 (d3 := d3) (pb := pb) (p2 := p2) (lim1 := lim1) (by rw [rd_pi, HD2.out.1, HD2.out.2.2]; exact hd3) HD2.out.2.1 HLIM.out] at this
                exact this)
              obtain ⟨k, hk⟩ : ∃ k, u - 1 = k := ⟨_, rfl⟩
              have HK := Lib.hid hk
              clear hk
              have HD3 := Lib.hid hd3
              clear hd3 HO HD2 HLIM
              go_upto_if 68 with fail
              go_cut [68] from 69 to 72 (fun _ wx => SR wx g cap d3 ∧ Frm [g] w2 wx ∧ pb = false)
              case first =>
                cases hb3 : (wb && wp && decide (h2 = .increasing)) with
                | true =>
                  have hd3 : partialInsertionSort lt8 d2 u v = (d3, pb) := by have := HD3.out; rwa [if_pos hb3] at this
                  have CI : Hid (Calls Try.prog 77 #[.slice (some ⟨g, 0, none⟩) n cap, .int .i64 u, .int .i64 v] w2 (Ret (.bool pb) (SrtTo g cap d3 w2))) := Lib.hid (by
                    have := pins_any g cap d2 u v w2 HS2.out (by rw [hs2]; omega) (by omega) (by rw [hs2]; exact hn)
                    rw [hs2, hd3] at this
                    exact this)
                  clear hd3 HD3
                  cases pb with
                  | true =>
                    have hR : d3 = R := by have := HRA.out; rwa [if_pos rfl] at this
                    subst hR
                    go_wp2_with (go_at_call 77; go_must (refine CI.out.mono ?_; clear CI; rintro e4 w4 ⟨rfl, hs5, hf5⟩; have HS4 := Lib.hid hs5; have HF4 := Lib.hid (HF2.out.trans hf5); clear hs5 hf5))
                    go_end0
                    exact ⟨rfl, hs3, HS4.out, HF4.out⟩
                  | false =>
                    go_wp2_with (go_at_call 77; go_must (refine CI.out.mono ?_; clear CI; rintro e4 w4 ⟨rfl, hs5, hf5⟩; have HS4 := Lib.hid hs5; have HF4 := Lib.hid hf5; clear hs5 hf5))
                    go_meet
                    exact ⟨HS4.out, HF4.out, by trivial⟩
                | false =>
                  have hd3 : (d2, false) = (d3, pb) := by have := HD3.out; rwa [if_neg (by rw [hb3]; simp)] at this
                  obtain ⟨rfl, rfl⟩ := Prod.mk.inj hd3
                  clear hd3 HD3
                  go_wp2
                  go_meet
                  exact ⟨HS2.out, Frm.refl _ _, by trivial⟩
              case rest =>
                obtain ⟨w3, hw3⟩ : ∃ w3, w3 = wc := ⟨_, rfl⟩
                subst hw3
                have HS3 := Lib.hid hcut.1; have HF3 := Lib.hid (HF2.out.trans hcut.2.1)
                obtain rfl : pb = false := hcut.2.2
                clear hcut HS2 HF2
                have HRB : Hid ((if (decide (0 < u) && !lt8 d3[k]! d3[p2]!) = true then (if u < (partitionEqual lt8 d3 u v p2).1 ∧ (partitionEqual lt8 d3 u v p2).1 ≤ v then pdq lt8 (partitionEqual lt8 d3 u v p2).2 (partitionEqual lt8 d3 u v p2).1 v lim1 wb wp else (partitionEqual lt8 d3 u v p2).2) else (if u ≤ (partition lt8 d3 u v p2).1 ∧ (partition lt8 d3 u v p2).1 < v then (if (partition lt8 d3 u v p2).1 - u < v - (partition lt8 d3 u v p2).1 then pdq lt8 (pdq lt8 (partition lt8 d3 u v p2).2.2 u (partition lt8 d3 u v p2).1 lim1 true true) ((partition lt8 d3 u v p2).1 + 1) v lim1 (decide ((partition lt8 d3 u v p2).1 - u ≥ (v - u) / 8)) (partition lt8 d3 u v p2).2.1 else pdq lt8 (pdq lt8 (partition lt8 d3 u v p2).2.2 ((partition lt8 d3 u v p2).1 + 1) v lim1 true true) u (partition lt8 d3 u v p2).1 lim1 (decide (v - (partition lt8 d3 u v p2).1 ≥ (v - u) / 8)) (partition lt8 d3 u v p2).2.1) else (partition lt8 d3 u v p2).2.2)) = R) := Lib.hid (by
                  have := HRA.out
                  rw [if_neg (by simp), HK.out] at this
                  exact this)
                clear HRA
                go_upto_region 17 with fail
                go_cut [87] from 73 to 87 (fun s wx => ∃ lb : Bool, s = .bool lb ∧ (decide (0 < u) && !lt8 d3[k]! d3[p2]!) = lb ∧ Frm [] w3 wx)
                case first =>
                  by_cases h2 : 0 < u
                  · have h2' : (0 : Int) < (u : Int) := by omega
                    have hd2 : decide ((0 : Int) < (u : Int)) = true := by simpa using h2'
                    have hd3 : decide (0 < u) = true := by simpa using h2
                    have hk2 := HK.out
                    have e1k : IntKind.i64.wrap ((u : Int) - 1) = (k : Int) := by rw [IntWalk.i64_in _ (by omega)]; omega
                    have e2k : (u : Int) - 1 = (k : Int) := by omega
                    clear hk2
                    have hb1 : (k : Int) < (n : Int) := by omega
                    have hb2 : (p2 : Int) < (n : Int) := by omega
                    have cc := HS3.out.cell (j := k) (by rw [HEZ3.out]; omega)
                    have cd := HS3.out.cell (j := p2) (by rw [HEZ3.out]; omega)
                    obtain ⟨x, hx⟩ : ∃ x, d3[k]! = x := ⟨_, rfl⟩
                    obtain ⟨y, hy⟩ : ∃ y, d3[p2]! = y := ⟨_, rfl⟩
                    rw [hx] at cc
                    rw [hy] at cd
                    obtain ⟨lb, hlb⟩ : ∃ lb, lt8 x y = lb := ⟨_, rfl⟩
                    have CL := less_q x y
                    rw [hlb] at CL
                    unfold _root_.Go.Proofs.Ytefpfcheafbfdaa.u8 at cc cd CL
                    have HX := Lib.hid hx; have HY := Lib.hid hy; have HLB := Lib.hid hlb; have H2 := Lib.hid h2
                    clear hx hy hlb h2
                    go_quiet ((go_at_call 78; exact Calls.quiet_of_same (CL _)))
                    go_wp2
                    go_meet
                    exact ⟨!lb, rfl, by rw [HX.out, HY.out, HLB.out, decide_eq_true H2.out]; rfl, (Frm.refl [] w3).drewN _⟩
                  · have h2' : ¬ (0 : Int) < (u : Int) := by omega
                    have hd2 : decide ((0 : Int) < (u : Int)) = false := by simpa using h2'
                    have hd3 : decide (0 < u) = false := by simpa using h2
                    have H2 := Lib.hid h2
                    clear h2
                    go_quiet (fail)
                    go_wp2
                    go_meet
                    exact ⟨false, rfl, by rw [decide_eq_false H2.out]; rfl, (Frm.refl [] w3).drewN _⟩
                case rest =>
                  obtain ⟨lb, rfl, hlb, hfc⟩ := hcut
                  have HFC := Lib.hid hfc; have HLB := Lib.hid hlb
                  have HSC := Lib.hid (HS3.out.frm0 hfc)
                  clear hlb hfc
                  have HFC := Lib.hid (HF3.out.then HFC.out (by simp))
                  cases lb with
                  | true =>
                    have hmm := partEq_range d3 u v p2 hp2a hp2b (by rw [hs3]; omega)
                    have CP : Hid (Calls Try.prog 79 #[.slice (some ⟨g, 0, none⟩) n cap, .int .i64 u, .int .i64 v, .int .i64 p2] wc (Ret (.int .i64 (partitionEqual lt8 d3 u v p2).1) (SrtTo g cap (partitionEqual lt8 d3 u v p2).2 wc))) := Lib.hid (by
                      have := partEq_any g cap d3 u v p2 wc HSC.out (by rw [hs3]; omega) hp2a hp2b (by rw [hs3]; exact hn)
                      rw [hs3] at this
                      exact this)
                    have hR1 : (if u < (partitionEqual lt8 d3 u v p2).1 ∧ (partitionEqual lt8 d3 u v p2).1 ≤ v then pdq lt8 (partitionEqual lt8 d3 u v p2).2 (partitionEqual lt8 d3 u v p2).1 v lim1 wb wp else (partitionEqual lt8 d3 u v p2).2) = R := by
                      have := HRB.out
                      rw [if_pos HLB.out] at this
                      exact this
                    obtain ⟨mid, d4, hmad⟩ : ∃ mid d4, partitionEqual lt8 d3 u v p2 = (mid, d4) := ⟨_, _, rfl⟩
                    rw [hmad] at hmm CP hR1
                    simp only at hmm CP hR1
                    obtain ⟨hm1, hm2, hs4⟩ := hmm
                    have hs4' : d4.size = n := hs4.trans hs3
                    rw [if_pos ⟨hm1, hm2⟩] at hR1
                    have HR1 := Lib.hid hR1
                    clear hmad HRB HLB hR1 hs4
                    go_wp2_with (go_at_call 79; go_must (refine CP.out.mono ?_; clear CP; rintro e4 w4 ⟨rfl, hs5, hf5⟩; have HS4 := Lib.hid hs5; have HF4 := Lib.hid (HFC.out.trans hf5); clear hs5 hf5))
                    exact ⟨⟨mid, v, lim1, wb, wp, d4, rfl, rfl, rfl, rfl, rfl, by omega, by omega, by omega, by omega, by omega, hs4', HR1.out, HS4.out, HF4.out⟩, by simp [intOf]; omega⟩
                  | false =>
                    have hpt := partition_holds lt8 swo8 d3 u v p2 hp2a hp2b (by rw [hs3]; omega)
                    have CP : Hid (Calls Try.prog 80 #[.slice (some ⟨g, 0, none⟩) n cap, .int .i64 u, .int .i64 v, .int .i64 p2] wc (Ret (.tuple #[.int .i64 (partition lt8 d3 u v p2).1, .bool (partition lt8 d3 u v p2).2.1]) (SrtTo g cap (partition lt8 d3 u v p2).2.2 wc))) := Lib.hid (by
                      have := part_any g cap d3 u v p2 wc HSC.out (by rw [hs3]; omega) hp2a hp2b (by rw [hs3]; exact hn)
                      rw [hs3] at this
                      exact this)
                    have hR1 : (if u ≤ (partition lt8 d3 u v p2).1 ∧ (partition lt8 d3 u v p2).1 < v then (if (partition lt8 d3 u v p2).1 - u < v - (partition lt8 d3 u v p2).1 then pdq lt8 (pdq lt8 (partition lt8 d3 u v p2).2.2 u (partition lt8 d3 u v p2).1 lim1 true true) ((partition lt8 d3 u v p2).1 + 1) v lim1 (decide ((partition lt8 d3 u v p2).1 - u ≥ (v - u) / 8)) (partition lt8 d3 u v p2).2.1 else pdq lt8 (pdq lt8 (partition lt8 d3 u v p2).2.2 ((partition lt8 d3 u v p2).1 + 1) v lim1 true true) u (partition lt8 d3 u v p2).1 lim1 (decide (v - (partition lt8 d3 u v p2).1 ≥ (v - u) / 8)) (partition lt8 d3 u v p2).2.1) else (partition lt8 d3 u v p2).2.2) = R := by
                      have := HRB.out
                      rw [if_neg (by rw [HLB.out]; simp)] at this
                      exact this
                    obtain ⟨mid, ap, d4, hmad⟩ : ∃ mid ap d4, partition lt8 d3 u v p2 = (mid, ap, d4) := ⟨_, _, _, rfl⟩
                    rw [hmad] at hpt CP hR1
                    simp only at hpt CP hR1
                    obtain ⟨hm1, hm2, hperm, -, -⟩ := hpt
                    have hs4 : d4.size = n := hperm.1.trans hs3
                    rw [if_pos ⟨hm1, hm2⟩] at hR1
                    obtain ⟨t8, ht8⟩ : ∃ t8, (v - u) / 8 = t8 := ⟨_, rfl⟩
                    have ht8i : ((L : Int)) / 8 = (t8 : Int) := by omega
                    clear hmad hperm HRB HLB
                    go_upto_if 113 with (go_at_call 80; go_must (refine CP.out.mono ?_; clear CP; rintro e4 w4 ⟨rfl, hs5, hf5⟩; have HS4 := Lib.hid hs5; have HF4 := Lib.hid (HFC.out.trans hf5); clear hs5 hf5))
                    by_cases hlr : mid - u < v - mid
                    · have hlr' : ((mid : Int) - (u : Int)) < ((v : Int) - (mid : Int)) := by omega
                      have hR2 : pdq lt8 (pdq lt8 d4 u mid lim1 true true) (mid + 1) v lim1 (decide (mid - u ≥ (v - u) / 8)) ap = R := by rw [if_pos hlr] at hR1; exact hR1
                      obtain ⟨d5, hd5⟩ : ∃ d5, pdq lt8 d4 u mid lim1 true true = d5 := ⟨_, rfl⟩
                      rw [hd5] at hR2
                      have HR2 := Lib.hid hR2
                      have CR : Hid (∀ W, SR W g cap d4 → Calls Try.prog 70 #[.slice (some ⟨g, 0, none⟩) n cap, .int .i64 u, .int .i64 mid, .int .i64 lim1] W (Ret (.tuple #[]) fun w' => d5.size = n ∧ SrtTo g cap d5 W w')) := Lib.hid fun W hW => by
                        have := IH (mid - u) (by omega) g cap d4 u mid lim1 W (Nat.le_refl _) hW (by omega) (by rw [hs4]; omega) (by omega) (by rw [hs4]; exact hn)
                        rw [hd5, hs4] at this
                        exact this
                      obtain ⟨wb2, hwb2⟩ : ∃ wb2, decide (mid - u ≥ (v - u) / 8) = wb2 := ⟨_, rfl⟩
                      rw [hwb2] at HR2
                      have hwb3 : decide ((t8 : Int) ≤ (mid : Int) - (u : Int)) = wb2 := by rw [← hwb2]; congr 1; rw [ge_iff_le, eq_iff_iff]; omega
                      have HRB := Lib.hid (show mid < v from hm2)
                      clear hR1 hR2 hd5 hwb2
                      go_wp2_with (go_at_call 70; go_must (refine (CR.out _ HS4.out).mono ?_; clear CR; rintro e5 w5 ⟨rfl, hz5, hs5, hf5⟩; have HZ5 := Lib.hid hz5; have HS5 := Lib.hid hs5; have HF5 := Lib.hid hf5; clear hz5 hs5 hf5))
                      exact ⟨⟨mid + 1, v, lim1, wb2, ap, d5, by push_cast; rfl, rfl, rfl, rfl, rfl, by omega, by omega, by omega, by omega, by omega, HZ5.out, HR2.out, HS5.out, HF4.out.trans HF5.out⟩, by simp [intOf]; omega⟩
                    · have hlr' : ¬ ((mid : Int) - (u : Int)) < ((v : Int) - (mid : Int)) := by omega
                      have hR2 : pdq lt8 (pdq lt8 d4 (mid + 1) v lim1 true true) u mid lim1 (decide (v - mid ≥ (v - u) / 8)) ap = R := by rw [if_neg hlr] at hR1; exact hR1
                      obtain ⟨d5, hd5⟩ : ∃ d5, pdq lt8 d4 (mid + 1) v lim1 true true = d5 := ⟨_, rfl⟩
                      rw [hd5] at hR2
                      have HR2 := Lib.hid hR2
                      have CR : Hid (∀ W, SR W g cap d4 → Calls Try.prog 70 #[.slice (some ⟨g, 0, none⟩) n cap, .int .i64 ((mid : Int) + 1), .int .i64 v, .int .i64 lim1] W (Ret (.tuple #[]) fun w' => d5.size = n ∧ SrtTo g cap d5 W w')) := Lib.hid fun W hW => by
                        have := IH (v - (mid + 1)) (by omega) g cap d4 (mid + 1) v lim1 W (Nat.le_refl _) hW (by omega) (by rw [hs4]; omega) (by omega) (by rw [hs4]; exact hn)
                        rw [hd5, hs4] at this
                        push_cast at this
                        exact this
                      obtain ⟨wb2, hwb2⟩ : ∃ wb2, decide (v - mid ≥ (v - u) / 8) = wb2 := ⟨_, rfl⟩
                      rw [hwb2] at HR2
                      have hwb3 : decide ((t8 : Int) ≤ (v : Int) - (mid : Int)) = wb2 := by rw [← hwb2]; congr 1; rw [ge_iff_le, eq_iff_iff]; omega
                      clear hR1 hR2 hd5 hwb2
                      go_wp2_with (go_at_call 70; go_must (refine (CR.out _ HS4.out).mono ?_; clear CR; rintro e5 w5 ⟨rfl, hz5, hs5, hf5⟩; have HZ5 := Lib.hid hz5; have HS5 := Lib.hid hs5; have HF5 := Lib.hid hf5; clear hz5 hs5 hf5))
                      exact ⟨⟨u, mid, lim1, wb2, ap, d5, rfl, rfl, rfl, rfl, rfl, by omega, by omega, by omega, by omega, by omega, HZ5.out, HR2.out, HS5.out, HF4.out.trans HF5.out⟩, by simp [intOf]; omega⟩
theorem pdq_all : ∀ m, PdqP m := fun m => Nat.strongRecOn m pdq_step

end Go.Proofs.Ytefpfcheafbfdaa
namespace Go.Proofs.Ytefpfcheafbfdaa
open Go.RowKit Go.Maps Go.BigFrame Go.Sort

theorem own_SR {w : World} {base : Nat} {v : Value} {l : List UInt8} (h : w.ownsRow base 5 1 v l.length (l.map u8)) :
    (v = .slice none 0 0 ∧ l = []) ∨ ∃ g cap, v = .slice (some ⟨g, 0, none⟩) l.length cap ∧ base ≤ g ∧ cap ≤ maxLen ∧ SR w g cap l.toArray := by
  rcases h.2 with ⟨rfl, h2⟩ | ⟨g, cap, cur, rfl, hg, hh, h3, h4, h5, h6⟩
  · exact .inl ⟨rfl, List.length_eq_zero_iff.1 h2⟩
  · refine .inr ⟨g, cap, rfl, hg, h4, cur, hh, by omega, by simpa using h3, fun j hj => ?_⟩
    have hj' : j < l.length := by simpa using hj
    have hc : (cur.toList.take (l.length * 1))[j]? = (l.map u8)[j]? := by rw [h6]
    rw [List.getElem?_take_of_lt (by omega), List.getElem?_map, List.getElem?_eq_getElem hj'] at hc
    rw [← Array.getElem?_toList, hc]
    simp [hj']
theorem SR_own {w : World} {base g cap : Nat} {d : Array UInt8} (h : SR w g cap d) (hb : base ≤ g) (hc : cap ≤ maxLen) : w.ownsRow base 5 1 (.slice (some ⟨g, 0, none⟩) d.size cap) d.size (d.toList.map u8) := by
  obtain ⟨cur, h1, h2, h3, h4⟩ := h
  refine ⟨by simp, .inr ⟨g, cap, cur, rfl, hb, h1, h3, hc, by omega, ?_⟩⟩
  refine List.ext_getElem? fun j => ?_
  by_cases hj : j < d.size
  · rw [List.getElem?_take_of_lt (by omega), Array.getElem?_toList, h4 j hj, List.getElem?_map, Array.getElem?_toList]
    simp [hj]
  · rw [List.getElem?_eq_none (by simp; omega), List.getElem?_eq_none (by simp; omega)]
theorem blen_any (n : Nat) (hn : n < 4611686018427387904) (w : World) : Calls Try.prog 71 #[.int .u64 n] w fun e w' => e = .returned (.int .i64 (bitsLen n : Nat)) ∧ w' = w := by
  have L := Try.npotA
  have h := Any.bits_Len (SlLaysF0.n15.bits (P := Try.prog) (ρ := Try.npotA_ren) { L with }) (n : Int) w (by omega) (by omega)
  rwa [Int.toNat_natCast, bitLen_eq _ (by omega)] at h
theorem ins_nil (w : World) : Calls Try.prog 72 #[.slice none 0 0, .int .i64 0, .int .i64 0] w (Ret (.tuple #[]) (w = ·)) := by
  go_enter Try.func72, Try.ntmps72
  go_wp2
  go_loopw [6] (fun s6 wr => s6 = .int .i64 1 ∧ wr = w) (fun _ _ => 0)
  case atStart => exact ⟨rfl, rfl⟩
  case round =>
    obtain ⟨rfl, rfl⟩ := hrel
    go_wp2
    go_end0
    exact ⟨rfl, rfl⟩
theorem pdq_nil (w : World) : Calls Try.prog 70 #[.slice none 0 0, .int .i64 0, .int .i64 0, .int .i64 0] w (Ret (.tuple #[]) (w = ·)) := by
  have C := Lib.hid (ins_nil w)
  go_enter Try.func70, Try.ntmps70
  go_wp2
  go_loopw [1, 2, 3, 8, 9] (fun s1 s2 s3 s8 s9 wr => s1 = .int .i64 0 ∧ s2 = .int .i64 0 ∧ s3 = .int .i64 0 ∧ s8 = .bool true ∧ s9 = .bool true ∧ wr = w) (fun _ _ _ _ _ _ => 0)
  case atStart => exact ⟨rfl, rfl, rfl, rfl, rfl, rfl⟩
  case round =>
    obtain ⟨rfl, rfl, rfl, rfl, rfl, rfl⟩ := hrel
    go_wp2_with (go_at_call 72; go_must (refine C.out.mono ?_; rintro e w' ⟨rfl, rfl⟩))
    go_end0
    exact ⟨rfl, rfl⟩
theorem sort_nil (w : World) : Calls Try.prog 66 #[.slice none 0 0] w (Ret (.tuple #[]) (w = ·)) := by
  have C := Lib.hid (pdq_nil w)
  have CB : Hid (Calls Try.prog 71 #[.int .u64 0] w fun e w' => e = .returned (.int .i64 0) ∧ w' = w) := Lib.hid (blen_any 0 (by omega) w)
  go_enter Try.func66, Try.ntmps66
  go_wp2_with (first
    | (go_at_call 71; go_must (refine CB.out.mono ?_; rintro e w' ⟨rfl, rfl⟩))
    | (go_at_call 70; go_must (refine C.out.mono ?_; rintro e w' ⟨rfl, rfl⟩)))
  go_end0
  exact ⟨rfl, rfl⟩
theorem sort_row (g cap : Nat) (d : Array UInt8) (w : World) (h : SR w g cap d) (hn : d.size ≤ 1000) : Calls Try.prog 66 #[.slice (some ⟨g, 0, none⟩) d.size cap] w (Ret (.tuple #[]) fun w' => (sort lt8 d).size = d.size ∧ SrtTo g cap (sort lt8 d) w w') := by
  have hl : bitsLen d.size ≤ 62 := (bitsLen_le_iff _ 62).2 (by omega)
  have CP := Lib.hid (pdq_all d.size g cap d 0 d.size (bitsLen d.size) w (Nat.sub_le _ _) h (Nat.zero_le _) (Nat.le_refl _) (by omega) hn)
  have CB := Lib.hid (blen_any d.size (by omega) w)
  unfold sort
  obtain ⟨R, hR⟩ : ∃ R, pdq lt8 d 0 d.size (bitsLen d.size) true true = R := ⟨_, rfl⟩
  rw [hR] at CP ⊢
  obtain ⟨bl, hbl⟩ : ∃ bl, bitsLen d.size = bl := ⟨_, rfl⟩
  rw [hbl] at CP CB hl
  obtain ⟨n, hn0⟩ : ∃ n, d.size = n := ⟨_, rfl⟩
  rw [hn0] at CP CB hn ⊢
  have e1 : IntKind.u64.wrap (n : Int) = n := by simp [IntKind.wrap, IntKind.bits, IntKind.signed]; omega
  clear h hR hbl hn0
  go_enter Try.func66, Try.ntmps66
  go_wp2_with (first
    | (go_at_call 71; go_must (refine CB.out.mono ?_; clear CB; rintro e w' ⟨rfl, rfl⟩))
    | (go_at_call 70; go_must (refine CP.out.mono ?_; clear CP; rintro e w1 ⟨rfl, h1⟩; have H1 := Lib.hid h1; clear h1)))
  go_end0
  exact ⟨rfl, H1.out⟩
/-- what is sorted is the one sorted list -/
theorem sort_list (l : List UInt8) : (sort lt8 l.toArray).toList.Perm l ∧ (sort lt8 l.toArray).toList.Pairwise (fun a b => a ≤ b) := by
  obtain ⟨h1, h2⟩ := sort_sorts lt8 swo8 l.toArray
  obtain ⟨h3, h4, h5⟩ := h1
  have hsz : l.toArray.size = l.length := by simp
  rw [hsz] at h2 h5
  have hs : (sort lt8 l.toArray).size = l.length := by rw [h3, hsz]
  constructor
  · have e1 : (sort lt8 l.toArray).extract 0 l.length = sort lt8 l.toArray := by rw [← hs]; simp
    have e2 : l.toArray.extract 0 l.length = l.toArray := by rw [← hsz]; simp
    rw [e1, e2] at h5
    simpa using h5
  · rw [List.pairwise_iff_getElem]
    intro i j hi hj hij
    have hj' : j < l.length := by rw [← hs]; simpa using hj
    have hi' : i < (sort lt8 l.toArray).size := by simpa using hi
    have hj2 : j < (sort lt8 l.toArray).size := by simpa using hj
    have := h2 i j (Nat.zero_le _) hij hj'
    rw [getElem!_pos (sort lt8 l.toArray) i hi', getElem!_pos (sort lt8 l.toArray) j hj2] at this
    have h6 : ¬ (sort lt8 l.toArray)[j] < (sort lt8 l.toArray)[i] := of_decide_eq_false this
    exact UInt8.not_lt.1 h6
end Go.Proofs.Ytefpfcheafbfdaa
