/- Sorting bytes: reverseRange, partialInsertionSort. The walks began as gen_sort2.py's print. -/
import Derived.Test.YtefpfcheafbfdaaSrt
import Derived.Deep.CutRange
namespace Go.Proofs.Ytefpfcheafbfdaa
open Go.RowKit Go.Maps Go.BigFrame Go.Sort

theorem sc_go {e : Array UInt8} {b i k : Nat} (hk : k + 1 = i) (h : i < b) (hp : (!lt8 e[i]! e[k]!) = true) : scanSorted lt8 e b i = scanSorted lt8 e b (i + 1) := by
  conv => lhs; rw [scanSorted]
  have hi : i - 1 = k := by omega
  rw [hi, if_pos (by rw [hp, decide_eq_true h]; rfl)]
theorem sc_stop {e : Array UInt8} {b i k : Nat} (hk : k + 1 = i) (h : (decide (i < b) && !lt8 e[i]! e[k]!) = false) : scanSorted lt8 e b i = i := by
  have hi : i - 1 = k := by omega
  rw [scanSorted, hi, if_neg (by rw [h]; simp)]
theorem sd_go {e : Array UInt8} {j k : Nat} (hk : k + 1 = j) (h : lt8 e[j]! e[k]! = true) : shiftDown lt8 j e = shiftDown lt8 k (swp e j k) := by
  subst hk
  rw [shiftDown, h, if_neg (by simp)]
theorem sd_stop {e : Array UInt8} {j k : Nat} (hk : k + 1 = j) (h : lt8 e[j]! e[k]! = false) : shiftDown lt8 j e = e := by
  subst hk
  rw [shiftDown, h, if_pos (by simp)]
theorem su_go {e : Array UInt8} {b j k : Nat} (hk : k + 1 = j) (hj : j < b) (h : lt8 e[j]! e[k]! = true) : shiftUp lt8 b j e = shiftUp lt8 b (j + 1) (swp e j k) := by
  have hi : j - 1 = k := by omega
  conv => lhs; rw [shiftUp]
  rw [if_pos hj, hi, h, if_neg (by simp)]
theorem su_stop {e : Array UInt8} {b j k : Nat} (hk : k + 1 = j) (hj : j < b) (h : lt8 e[j]! e[k]! = false) : shiftUp lt8 b j e = e := by
  have hi : j - 1 = k := by omega
  rw [shiftUp, if_pos hj, hi, h, if_pos (by simp)]
theorem pi_step {e : Array UInt8} {a b s i I k : Nat} (hk : k + 1 = I) (hI : scanSorted lt8 e b i = I) : partialIns lt8 a b (s + 1) i e =
    if I = b then (e, true) else if b - a < 50 then (e, false) else partialIns lt8 a b s I (if 2 ≤ b - I then shiftUp lt8 b (I + 1) (if 2 ≤ I - a then shiftDown lt8 k (swp e I k) else swp e I k) else (if 2 ≤ I - a then shiftDown lt8 k (swp e I k) else swp e I k)) := by
  have hi : I - 1 = k := by omega
  conv => lhs; unfold partialIns
  simp only [hI, hi, ge_iff_le]
set_option maxHeartbeats 4000000 in
set_option maxRecDepth 100000 in
theorem rev_any (g cap : Nat) (d : Array UInt8) (a b : Nat) (w : World) (h : SR w g cap d) (hb : b ≤ d.size) (hab : a < b) (hn : d.size ≤ 1000) : Calls Try.prog 76 #[.slice (some ⟨g, 0, none⟩) d.size cap, .int .i64 a, .int .i64 b] w (Ret (.tuple #[]) (SrtTo g cap (reverseRange d a b) w)) := by
  obtain ⟨n, hn0⟩ : ∃ n, d.size = n := ⟨_, rfl⟩
  have HEZ := Lib.hid hn0; have HS0 := Lib.hid h
  rw [hn0] at hb hn ⊢
  obtain ⟨R, hR⟩ : ∃ R, reverseRange d a b = R := ⟨_, rfl⟩
  rw [hR]
  unfold reverseRange at hR
  have HR := Lib.hid hR
  clear h hR hn0
  go_enter Try.func76, Try.ntmps76
  go_wp2
  go_loopw [6, 7] (fun s6 s7 wr => ∃ (i j : Nat) (e : Array UInt8), s6 = .int .i64 i ∧ s7 = .int .i64 j ∧ i ≤ n ∧ j < n ∧ e.size = n ∧ reverseLoop i j e = R ∧ SR wr g cap e ∧ Frm [g] w wr) (fun s6 s7 _ => (intOf s7 - intOf s6).toNat)
  case atStart => exact ⟨a, b - 1, d, rfl, by congr 1; omega, by omega, by omega, HEZ.out, HR.out, HS0.out, Frm.refl _ _⟩
  case round =>
    clear HEZ HS0 HR
    obtain ⟨i, j, e, rfl, rfl, hin, hjn, hez, ho, hs, hf⟩ := hrel
    have HO := Lib.hid ho; have HS := Lib.hid hs; have HF := Lib.hid hf; have HEZ := Lib.hid hez
    clear ho hs hf hez
    by_cases hij : i < j
    · have hij' : (i : Int) < (j : Int) := by omega
      have hne : i ≠ j := by omega
      have hne' : j ≠ i := by omega
      have HO2 : Hid (reverseLoop (i + 1) (j - 1) (swp e i j) = R) := Lib.hid (by
        have := HO.out
        unfold reverseLoop at this
        rwa [if_pos hij] at this)
      have hk0 : ((j - 1 : Nat) : Int) = (j : Int) - 1 := by omega
      have hb1 : (i : Int) < (n : Int) := by omega
      have hb2 : (j : Int) < (n : Int) := by omega
      have cc := HS.out.cell (j := i) (by rw [HEZ.out]; omega)
      have cd := HS.out.cell (j := j) (by rw [HEZ.out]; omega)
      obtain ⟨x, hx⟩ : ∃ x, e[i]! = x := ⟨_, rfl⟩
      obtain ⟨y, hy⟩ : ∃ y, e[j]! = y := ⟨_, rfl⟩
      rw [hx] at cc
      rw [hy] at cd
      have fa := HS.out.free i
      have fb := HS.out.free j
      have hsw := HS.out.swap (i := i) (j := j) (by rw [HEZ.out]; omega) (by rw [HEZ.out]; omega)
      rw [hx, hy] at hsw
      unfold _root_.Go.Proofs.Ytefpfcheafbfdaa.u8 at cc cd
      have HSW := Lib.hid hsw
      clear hx hy hsw
      go_upto_region 3 with fail
      go_region
      clear cc cd fa fb hb1 hb2
      go_wp2
      exact ⟨⟨i + 1, j - 1, swp e i j, by push_cast; rfl, by congr 1; omega, by omega, by omega, by rw [size_swp8]; exact HEZ.out, HO2.out, HSW.out.1.frm0 (Frm.refl [] _).drew, (HF.out.trans HSW.out.2).drew⟩, by simp [intOf]; omega⟩
    · have hij' : ¬ (i : Int) < (j : Int) := by omega
      have hR : e = R := by
        have := HO.out
        unfold reverseLoop at this
        rwa [if_neg hij] at this
      subst hR
      go_wp2
      go_end0
      exact ⟨rfl, HS.out, HF.out⟩
set_option maxHeartbeats 4000000 in
set_option maxRecDepth 100000 in
theorem pins_any (g cap : Nat) (d : Array UInt8) (a b : Nat) (w : World) (h : SR w g cap d) (hb : b ≤ d.size) (hab : a < b) (hn : d.size ≤ 1000) : Calls Try.prog 77 #[.slice (some ⟨g, 0, none⟩) d.size cap, .int .i64 a, .int .i64 b] w (Ret (.bool (partialInsertionSort lt8 d a b).2) (SrtTo g cap (partialInsertionSort lt8 d a b).1 w)) := by
  obtain ⟨n, hn0⟩ : ∃ n, d.size = n := ⟨_, rfl⟩
  have HEZ := Lib.hid hn0; have HS0 := Lib.hid h
  rw [hn0] at hb hn ⊢
  obtain ⟨RD, Rb, hR⟩ : ∃ RD Rb, partialInsertionSort lt8 d a b = (RD, Rb) := ⟨_, _, rfl⟩
  rw [hR]
  unfold partialInsertionSort at hR
  have HR := Lib.hid hR
  clear h hR hn0
  go_enter Try.func77, Try.ntmps77
  go_wp2
  go_loopw [7, 8] (fun s7 s8 wr => ∃ (s t i : Nat) (e : Array UInt8), s7 = .int .i64 i ∧ s8 = .int .i64 t ∧ Hid (t + s = 5) ∧ t ≤ 5 ∧ a < i ∧ i ≤ b ∧ e.size = n ∧ partialIns lt8 a b s i e = (RD, Rb) ∧ SR wr g cap e ∧ Frm [g] w wr) (fun _ s8 _ => (5 - intOf s8).toNat)
  case atStart => exact ⟨5, 0, a + 1, d, by push_cast; rfl, rfl, Lib.hid rfl, by omega, by omega, by omega, HEZ.out, HR.out, HS0.out, Frm.refl _ _⟩
  case round =>
    clear HEZ HS0 HR
    obtain ⟨s, t, i, e, rfl, rfl, HT, ht5, hai, hib, hez, ho, hs, hf⟩ := hrel
    obtain ⟨w1, hw1⟩ : ∃ w1, w1 = wr := ⟨_, rfl⟩
    subst hw1
    have HO := Lib.hid ho; have HS := Lib.hid hs; have HF2 := Lib.hid hf; have HEZ := Lib.hid hez
    clear ho hs hf hez
    cases s with
    | zero =>
      have h5 : ¬ (t : Int) < 5 := by have := HT.out; omega
      have hR : (e, false) = (RD, Rb) := HO.out
      obtain ⟨rfl, rfl⟩ := Prod.mk.inj hR
      clear hR
      go_wp2
      go_ret
      exact ⟨rfl, HS.out, HF2.out⟩
    | succ s =>
      have h5 : (t : Int) < 5 := by have := HT.out; omega
      have h5d : decide ((t : Int) < 5) = true := by simpa using h5
      obtain ⟨I2, hI2⟩ : ∃ I2, scanSorted lt8 e b i = I2 := ⟨_, rfl⟩
      have HID := Lib.hid hI2
      clear hI2
      go_wp2
      go_loopw [7] (fun s7 wi => ∃ i2 : Nat, s7 = .int .i64 i2 ∧ i ≤ i2 ∧ i2 ≤ b ∧ scanSorted lt8 e b i2 = I2 ∧ SR wi g cap e ∧ Frm [g] w1 wi) (fun s7 _ => n + 1 - (intOf s7).toNat)
      case atStart => exact ⟨i, rfl, Nat.le_refl _, by omega, HID.out, HS.out, Frm.refl _ _⟩
      case round =>
        clear HS
        obtain ⟨i2, rfl, hii, hi2b, hI2, hs, hfx⟩ := hrel
        have HI2 := Lib.hid hI2; have HS := Lib.hid hs; have HFX := Lib.hid hfx
        clear hI2 hs hfx
        obtain ⟨k0, hk0⟩ : ∃ k0, k0 + 1 = i2 := ⟨i2 - 1, by omega⟩
        have e1 : IntKind.i64.wrap ((i2 : Int) - 1) = (k0 : Int) := by rw [IntWalk.i64_in _ (by omega)]; omega
        have e2 : (i2 : Int) - 1 = (k0 : Int) := by omega
        go_upto_region 5 with fail
        go_cut [32] from 17 to 32 (fun s wx => ∃ lb : Bool, s = .bool lb ∧ (decide (i2 < b) && !lt8 e[i2]! e[k0]!) = lb ∧ Frm [] wr wx)
        case first =>
          by_cases h2 : i2 < b
          · have h2' : (i2 : Int) < (b : Int) := by omega
            have hd2 : decide ((i2 : Int) < (b : Int)) = true := by simpa using h2'
            have hd3 : decide (i2 < b) = true := by simpa using h2
            have hb1 : (i2 : Int) < (n : Int) := by omega
            have hb2 : (k0 : Int) < (n : Int) := by omega
            have cc := HS.out.cell (j := i2) (by rw [HEZ.out]; omega)
            have cd := HS.out.cell (j := k0) (by rw [HEZ.out]; omega)
            obtain ⟨x, hx⟩ : ∃ x, e[i2]! = x := ⟨_, rfl⟩
            obtain ⟨y, hy⟩ : ∃ y, e[k0]! = y := ⟨_, rfl⟩
            rw [hx] at cc
            rw [hy] at cd
            obtain ⟨lb, hlb⟩ : ∃ lb, lt8 x y = lb := ⟨_, rfl⟩
            have CL := less_q x y
            rw [hlb] at CL
            unfold _root_.Go.Proofs.Ytefpfcheafbfdaa.u8 at cc cd CL
            have HX := Lib.hid hx; have HY := Lib.hid hy; have HLB := Lib.hid hlb; have H2 := Lib.hid h2
            clear hx hy hlb h2
            go_quiet ((go_at_call 78; exact Calls.quiet_of_same (CL _)))
            go_wp2
            go_meet
            exact ⟨!lb, rfl, by rw [HX.out, HY.out, HLB.out, decide_eq_true H2.out]; rfl, (Frm.refl [] wr).drewN _⟩
          · have h2' : ¬ (i2 : Int) < (b : Int) := by omega
            have hd2 : decide ((i2 : Int) < (b : Int)) = false := by simpa using h2'
            have hd3 : decide (i2 < b) = false := by simpa using h2
            have H2 := Lib.hid h2
            clear h2
            go_quiet (fail)
            go_wp2
            go_meet
            exact ⟨false, rfl, by rw [decide_eq_false H2.out]; rfl, (Frm.refl [] wr).drewN _⟩
        case rest =>
          obtain ⟨lb, rfl, hlb, hfc⟩ := hcut
          have HFC := Lib.hid hfc; have HLB := Lib.hid hlb
          have HSC := Lib.hid (HS.out.frm0 hfc)
          clear hlb hfc
          cases lb with
          | true =>
            obtain ⟨hij, HP⟩ : i2 < b ∧ Hid ((!lt8 e[i2]! e[k0]!) = true) := by
              have := HLB.out
              rw [Bool.and_eq_true, decide_eq_true_eq] at this
              exact ⟨this.1, Lib.hid this.2⟩
            clear HLB
            have HU2 : Hid (scanSorted lt8 e b (i2 + 1) = I2) := Lib.hid (by
              have := HI2.out
              rwa [sc_go hk0 hij HP.out] at this)
            go_wp2
            exact ⟨⟨i2 + 1, by push_cast; rfl, by omega, by omega, HU2.out, HSC.out, HFX.out.then HFC.out (by simp)⟩, by simp [intOf]; omega⟩
          | false =>
            have HI2 : Hid (scanSorted lt8 e b i = i2) := Lib.hid (by
              have := HI2.out
              rw [sc_stop hk0 HLB.out] at this
              rw [HID.out, this])
            clear HLB HID
            by_cases hib2 : i2 = b
            · have hib3 : (i2 : Int) = (b : Int) := by omega
              have hR : (e, true) = (RD, Rb) := by
                have := HO.out
                rw [pi_step hk0 HI2.out, if_pos hib2] at this
                exact this
              obtain ⟨rfl, rfl⟩ := Prod.mk.inj hR
              clear hR
              subst hib2
              clear hib3
              go_wp2
              go_ret
              exact ⟨rfl, HSC.out, (HF2.out.trans HFX.out).then HFC.out (by simp)⟩
            · have hib3 : ¬ (i2 : Int) = (b : Int) := by omega
              have hib4 : ((i2 : Int) == (b : Int)) = false := beq_eq_false_iff_ne.mpr hib3
              have hib5 : (i2 == b) = false := by simpa using hib2
              by_cases h50 : b - a < 50
              · have h50' : (b : Int) - (a : Int) < 50 := by omega
                have hR : (e, false) = (RD, Rb) := by
                  have := HO.out
                  rw [pi_step hk0 HI2.out, if_neg hib2, if_pos h50] at this
                  exact this
                obtain ⟨rfl, rfl⟩ := Prod.mk.inj hR
                clear hR
                go_wp2
                go_ret
                exact ⟨rfl, HSC.out, (HF2.out.trans HFX.out).then HFC.out (by simp)⟩
              · have h50' : ¬ (b : Int) - (a : Int) < 50 := by omega
                have HP : Hid (partialIns lt8 a b s i2 (if 2 ≤ b - i2 then shiftUp lt8 b (i2 + 1) (if 2 ≤ i2 - a then shiftDown lt8 k0 (swp e i2 k0) else swp e i2 k0) else (if 2 ≤ i2 - a then shiftDown lt8 k0 (swp e i2 k0) else swp e i2 k0)) = (RD, Rb)) := Lib.hid (by
                  have := HO.out
                  rw [pi_step hk0 HI2.out, if_neg hib2, if_neg h50] at this
                  exact this)
                go_upto_region 11 with fail
                go_cut [] from 42 to 57 (fun wx => SR wx g cap (swp e i2 k0) ∧ Frm [g] wc wx)
                case first =>
                  by_cases hij : i2 = k0
                  · omega
                  · have hij2 : k0 ≠ i2 := fun h => hij h.symm
                    have hb1 : (i2 : Int) < (n : Int) := by omega
                    have hb2 : (k0 : Int) < (n : Int) := by omega
                    have cc := HSC.out.cell (j := i2) (by rw [HEZ.out]; omega)
                    have cd := HSC.out.cell (j := k0) (by rw [HEZ.out]; omega)
                    obtain ⟨x, hx⟩ : ∃ x, e[i2]! = x := ⟨_, rfl⟩
                    obtain ⟨y, hy⟩ : ∃ y, e[k0]! = y := ⟨_, rfl⟩
                    rw [hx] at cc
                    rw [hy] at cd
                    have fa := HSC.out.free i2
                    have fb := HSC.out.free k0
                    have hsw := HSC.out.swap (i := i2) (j := k0) (by rw [HEZ.out]; omega) (by rw [HEZ.out]; omega)
                    rw [hx, hy] at hsw
                    unfold _root_.Go.Proofs.Ytefpfcheafbfdaa.u8 at cc cd
                    have HSW := Lib.hid hsw
                    clear hx hy hsw
                    go_region
                    go_wp2
                    go_meet
                    exact ⟨HSW.out.1.frm0 (Frm.refl [] _).drew, HSW.out.2.drew⟩
                case rest =>
                  have HSS := Lib.hid hcut.1; have HFS := Lib.hid hcut.2
                  have HEZS : Hid ((swp e i2 k0).size = n) := Lib.hid (by rw [size_swp8]; exact HEZ.out)
                  clear hcut
                  obtain ⟨w3, hw3⟩ : ∃ w3, w3 = wc := ⟨_, rfl⟩
                  subst hw3
                  have HFW : Hid (Frm [g] w w3) := Lib.hid (((HF2.out.trans HFX.out).then HFC.out (by simp)).trans HFS.out)
                  have HSS3 := HSS
                  clear HSS HFS HFC HSC HFX HF2 HS HEZ HO HI2
                  go_upto_if 61 with fail
                  go_cut [9, 61] from 62 to 94 (fun _ _ wx => SR wx g cap (if 2 ≤ i2 - a then shiftDown lt8 k0 (swp e i2 k0) else swp e i2 k0) ∧ (if 2 ≤ i2 - a then shiftDown lt8 k0 (swp e i2 k0) else swp e i2 k0).size = n ∧ Frm [g] w3 wx)
                  case first =>
                    by_cases h2 : 2 ≤ i2 - a
                    · have h2' : (2 : Int) ≤ (i2 : Int) - (a : Int) := by omega
                      obtain ⟨R1, hR1⟩ : ∃ R1, shiftDown lt8 k0 (swp e i2 k0) = R1 := ⟨_, rfl⟩
                      have HI := Lib.hid (show (if 2 ≤ i2 - a then shiftDown lt8 k0 (swp e i2 k0) else swp e i2 k0) = R1 by rw [if_pos h2]; exact hR1)
                      have HR1 := Lib.hid hR1
                      clear hR1 HP
                      go_wp2
                      go_loopw [9] (fun s9 wj => ∃ (j : Nat) (e2 : Array UInt8), s9 = .int .i64 j ∧ j < i2 ∧ e2.size = n ∧ shiftDown lt8 j e2 = R1 ∧ SR wj g cap e2 ∧ Frm [g] w3 wj) (fun s9 _ => (intOf s9).toNat)
                      case atStart => exact ⟨k0, swp e i2 k0, rfl, by omega, HEZS.out, HR1.out, HSS3.out, Frm.refl _ _⟩
                      case round =>
                        clear HSS3 HR1
                        obtain ⟨j, e2, rfl, hij, hez2, hr2, hs, hfx⟩ := hrel
                        have HR1 := Lib.hid hr2; have HS := Lib.hid hs; have HFX := Lib.hid hfx; have HEZ2 := Lib.hid hez2
                        clear hr2 hs hfx hez2
                        by_cases hj1 : 1 ≤ j
                        · have hj1' : (1 : Int) ≤ (j : Int) := by omega
                          obtain ⟨k, hk⟩ : ∃ k, k + 1 = j := ⟨j - 1, by omega⟩
                          have e1 : IntKind.i64.wrap ((j : Int) - 1) = (k : Int) := by rw [IntWalk.i64_in _ (by omega)]; omega
                          have e2' : (j : Int) - 1 = (k : Int) := by omega
                          have hne : j ≠ k := by omega
                          have hne' : k ≠ j := by omega
                          have hb1 : (j : Int) < (n : Int) := by omega
                          have hb2 : (k : Int) < (n : Int) := by omega
                          have cc := HS.out.cell (j := j) (by rw [HEZ2.out]; omega)
                          have cd := HS.out.cell (j := k) (by rw [HEZ2.out]; omega)
                          obtain ⟨x, hx⟩ : ∃ x, e2[j]! = x := ⟨_, rfl⟩
                          obtain ⟨y, hy⟩ : ∃ y, e2[k]! = y := ⟨_, rfl⟩
                          rw [hx] at cc
                          rw [hy] at cd
                          obtain ⟨lb, hlb⟩ : ∃ lb, lt8 x y = lb := ⟨_, rfl⟩
                          have CL := less_q x y
                          rw [hlb] at CL
                          unfold _root_.Go.Proofs.Ytefpfcheafbfdaa.u8 at cc cd CL
                          have HLB : Hid (lt8 e2[j]! e2[k]! = lb) := Lib.hid (by rw [hx, hy]; exact hlb)
                          clear hx hy hlb
                          go_upto_region 16 with fail
                          go_quiet ((go_at_call 78; exact Calls.quiet_of_same (CL _)))
                          obtain ⟨w2, hw2⟩ : ∃ w2, wr.drewN nq = w2 := ⟨_, rfl⟩
                          have HD2 : Hid (Frm [] wr w2) := Lib.hid (by rw [← hw2]; exact (Frm.refl [] wr).drewN _)
                          rw [hw2]
                          have HS3 := Lib.hid (HS.out.frm0 HD2.out)
                          clear hw2 CL cc cd hb1 hb2
                          cases lb with
                          | true =>
                            have HU : Hid (shiftDown lt8 k (swp e2 j k) = R1) := Lib.hid (by
                              have := HR1.out
                              rwa [sd_go hk HLB.out] at this)
                            have hb1 : (j : Int) < (n : Int) := by omega
                            have hb2 : (k : Int) < (n : Int) := by omega
                            have cc := HS3.out.cell (j := j) (by rw [HEZ2.out]; omega)
                            have cd := HS3.out.cell (j := k) (by rw [HEZ2.out]; omega)
                            obtain ⟨x, hx⟩ : ∃ x, e2[j]! = x := ⟨_, rfl⟩
                            obtain ⟨y, hy⟩ : ∃ y, e2[k]! = y := ⟨_, rfl⟩
                            rw [hx] at cc
                            rw [hy] at cd
                            have fa := HS3.out.free j
                            have fb := HS3.out.free k
                            have hsw := HS3.out.swap (i := j) (j := k) (by rw [HEZ2.out]; omega) (by rw [HEZ2.out]; omega)
                            rw [hx, hy] at hsw
                            unfold _root_.Go.Proofs.Ytefpfcheafbfdaa.u8 at cc cd
                            have HSW := Lib.hid hsw
                            clear hx hy hsw
                            go_upto_region 17 with fail
                            go_region
                            clear cc cd fa fb hb1 hb2
                            go_wp2
                            exact ⟨⟨k, swp e2 j k, rfl, by omega, by rw [size_swp8]; exact HEZ2.out, HU.out, HSW.out.1.frm0 (Frm.refl [] _).drew, ((HFX.out.then HD2.out (by simp)).trans HSW.out.2).drew⟩, by simp [intOf]; omega⟩
                          | false =>
                            have HU : e2 = R1 := by
                              have := HR1.out
                              rwa [sd_stop hk HLB.out] at this
                            go_wp2
                            go_meet
                            exact ⟨by rw [HI.out, ← HU]; exact HS3.out, by rw [HI.out, ← HU]; exact HEZ2.out, HFX.out.then HD2.out (by simp)⟩
                        · have hj1' : ¬ (1 : Int) ≤ (j : Int) := by omega
                          have HU : e2 = R1 := by
                            have := HR1.out
                            obtain rfl : j = 0 := by omega
                            exact this
                          go_wp2
                          go_meet
                          exact ⟨by rw [HI.out, ← HU]; exact HS.out, by rw [HI.out, ← HU]; exact HEZ2.out, HFX.out⟩
                    · have h2' : ¬ (2 : Int) ≤ (i2 : Int) - (a : Int) := by omega
                      have HI := Lib.hid (show (if 2 ≤ i2 - a then shiftDown lt8 k0 (swp e i2 k0) else swp e i2 k0) = swp e i2 k0 from if_neg h2)
                      go_wp2
                      go_meet
                      exact ⟨by rw [HI.out]; exact HSS3.out, by rw [HI.out]; exact HEZS.out, Frm.refl _ _⟩
                  case rest =>
                    obtain ⟨w3, hw3⟩ : ∃ w3, w3 = wc := ⟨_, rfl⟩
                    subst hw3
                    have HS3 := Lib.hid hcut.1; have HE3 := Lib.hid hcut.2.1; have HFW3 := Lib.hid (HFW.out.trans hcut.2.2)
                    clear hcut HSS3 HFW
                    obtain ⟨e3, he3⟩ : ∃ e3, (if 2 ≤ i2 - a then shiftDown lt8 k0 (swp e i2 k0) else swp e i2 k0) = e3 := ⟨_, rfl⟩
                    rw [he3] at HS3 HE3 HP
                    clear he3
                    by_cases h2 : 2 ≤ b - i2
                    · have h2' : (2 : Int) ≤ (b : Int) - (i2 : Int) := by omega
                      obtain ⟨R2, hR2⟩ : ∃ R2, shiftUp lt8 b (i2 + 1) e3 = R2 := ⟨_, rfl⟩
                      have HP : Hid (partialIns lt8 a b s i2 R2 = (RD, Rb)) := Lib.hid (by have := HP.out; rwa [if_pos h2, hR2] at this)
                      have HR2 := Lib.hid hR2
                      clear hR2
                      go_wp2
                      go_loopw [10] (fun s10 wj => ∃ (j : Nat) (e2 : Array UInt8), s10 = .int .i64 j ∧ i2 < j ∧ j ≤ b ∧ e2.size = n ∧ shiftUp lt8 b j e2 = R2 ∧ SR wj g cap e2 ∧ Frm [g] w3 wj) (fun s10 _ => n + 1 - (intOf s10).toNat)
                      case atStart => exact ⟨i2 + 1, e3, by push_cast; rfl, by omega, by omega, HE3.out, HR2.out, HS3.out, Frm.refl _ _⟩
                      case round =>
                        clear HS3 HR2 HE3
                        obtain ⟨j, e2, rfl, hij, hjb, hez2, hr2, hs, hfx⟩ := hrel
                        have HR2 := Lib.hid hr2; have HS := Lib.hid hs; have HFX := Lib.hid hfx; have HEZ2 := Lib.hid hez2
                        clear hr2 hs hfx hez2
                        by_cases hjlt : j < b
                        · have hjlt' : (j : Int) < (b : Int) := by omega
                          obtain ⟨k, hk⟩ : ∃ k, k + 1 = j := ⟨j - 1, by omega⟩
                          have e1 : IntKind.i64.wrap ((j : Int) - 1) = (k : Int) := by rw [IntWalk.i64_in _ (by omega)]; omega
                          have e2' : (j : Int) - 1 = (k : Int) := by omega
                          have hne : j ≠ k := by omega
                          have hne' : k ≠ j := by omega
                          have hb1 : (j : Int) < (n : Int) := by omega
                          have hb2 : (k : Int) < (n : Int) := by omega
                          have cc := HS.out.cell (j := j) (by rw [HEZ2.out]; omega)
                          have cd := HS.out.cell (j := k) (by rw [HEZ2.out]; omega)
                          obtain ⟨x, hx⟩ : ∃ x, e2[j]! = x := ⟨_, rfl⟩
                          obtain ⟨y, hy⟩ : ∃ y, e2[k]! = y := ⟨_, rfl⟩
                          rw [hx] at cc
                          rw [hy] at cd
                          obtain ⟨lb, hlb⟩ : ∃ lb, lt8 x y = lb := ⟨_, rfl⟩
                          have CL := less_q x y
                          rw [hlb] at CL
                          unfold _root_.Go.Proofs.Ytefpfcheafbfdaa.u8 at cc cd CL
                          have HLB : Hid (lt8 e2[j]! e2[k]! = lb) := Lib.hid (by rw [hx, hy]; exact hlb)
                          clear hx hy hlb
                          go_upto_region 22 with fail
                          go_quiet ((go_at_call 78; exact Calls.quiet_of_same (CL _)))
                          obtain ⟨w2, hw2⟩ : ∃ w2, wr.drewN nq = w2 := ⟨_, rfl⟩
                          have HD2 : Hid (Frm [] wr w2) := Lib.hid (by rw [← hw2]; exact (Frm.refl [] wr).drewN _)
                          rw [hw2]
                          have HS3 := Lib.hid (HS.out.frm0 HD2.out)
                          clear hw2 CL cc cd hb1 hb2
                          cases lb with
                          | true =>
                            have HU : Hid (shiftUp lt8 b (j + 1) (swp e2 j k) = R2) := Lib.hid (by
                              have := HR2.out
                              rwa [su_go hk hjlt HLB.out] at this)
                            have hb1 : (j : Int) < (n : Int) := by omega
                            have hb2 : (k : Int) < (n : Int) := by omega
                            have cc := HS3.out.cell (j := j) (by rw [HEZ2.out]; omega)
                            have cd := HS3.out.cell (j := k) (by rw [HEZ2.out]; omega)
                            obtain ⟨x, hx⟩ : ∃ x, e2[j]! = x := ⟨_, rfl⟩
                            obtain ⟨y, hy⟩ : ∃ y, e2[k]! = y := ⟨_, rfl⟩
                            rw [hx] at cc
                            rw [hy] at cd
                            have fa := HS3.out.free j
                            have fb := HS3.out.free k
                            have hsw := HS3.out.swap (i := j) (j := k) (by rw [HEZ2.out]; omega) (by rw [HEZ2.out]; omega)
                            rw [hx, hy] at hsw
                            unfold _root_.Go.Proofs.Ytefpfcheafbfdaa.u8 at cc cd
                            have HSW := Lib.hid hsw
                            clear hx hy hsw
                            go_upto_region 23 with fail
                            go_region
                            clear cc cd fa fb hb1 hb2
                            go_wp2
                            exact ⟨⟨j + 1, swp e2 j k, by push_cast; rfl, by omega, by omega, by rw [size_swp8]; exact HEZ2.out, HU.out, HSW.out.1.frm0 (Frm.refl [] _).drew, ((HFX.out.then HD2.out (by simp)).trans HSW.out.2).drew⟩, by simp [intOf]; omega⟩
                          | false =>
                            have HU : e2 = R2 := by
                              have := HR2.out
                              rwa [su_stop hk hjlt HLB.out] at this
                            go_wp2
                            exact ⟨⟨s, t + 1, i2, e2, rfl, by push_cast; rfl, Lib.hid (by have := HT.out; omega), by have := HT.out; omega, by omega, by omega, HEZ2.out, by rw [HU]; exact HP.out, HS3.out, HFW3.out.trans (HFX.out.then HD2.out (by simp))⟩, by simp [intOf]; have := HT.out; omega⟩
                        · have hjlt' : ¬ (j : Int) < (b : Int) := by omega
                          have HU : e2 = R2 := by
                            have := HR2.out
                            unfold shiftUp at this
                            rwa [if_neg hjlt] at this
                          go_wp2
                          exact ⟨⟨s, t + 1, i2, e2, rfl, by push_cast; rfl, Lib.hid (by have := HT.out; omega), by have := HT.out; omega, by omega, by omega, HEZ2.out, by rw [HU]; exact HP.out, HS.out, HFW3.out.trans HFX.out⟩, by simp [intOf]; have := HT.out; omega⟩
                    · have h2' : ¬ (2 : Int) ≤ (b : Int) - (i2 : Int) := by omega
                      have HP : Hid (partialIns lt8 a b s i2 e3 = (RD, Rb)) := Lib.hid (by have := HP.out; rwa [if_neg h2] at this)
                      go_wp2
                      exact ⟨⟨s, t + 1, i2, e3, rfl, by push_cast; rfl, Lib.hid (by have := HT.out; omega), by have := HT.out; omega, by omega, by omega, HE3.out, HP.out, HS3.out, HFW3.out⟩, by simp [intOf]; have := HT.out; omega⟩
end Go.Proofs.Ytefpfcheafbfdaa

