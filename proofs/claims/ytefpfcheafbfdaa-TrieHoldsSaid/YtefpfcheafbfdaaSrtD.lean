/- Sorting bytes: partitionEqual, partition. The walks began as gen_sort.py's print. -/
import Derived.Test.YtefpfcheafbfdaaSrt
import Derived.Deep.CutRange
namespace Go.Proofs.Ytefpfcheafbfdaa
open Go.RowKit Go.Maps Go.BigFrame Go.Sort

theorem up_go {p : UInt8 → Bool} {e : Array UInt8} {i j : Nat} (h : i ≤ j) (hp : p e[i]! = true) : scanUp p e j i = scanUp p e j (i + 1) := by
  conv => lhs; rw [scanUp]
  rw [if_pos (by rw [hp, decide_eq_true h]; rfl)]
theorem up_stop {p : UInt8 → Bool} {e : Array UInt8} {i j : Nat} (h : (decide (i ≤ j) && p e[i]!) = false) : scanUp p e j i = i := by
  rw [scanUp, if_neg (by rw [h]; simp)]
theorem down_go {p : UInt8 → Bool} {e : Array UInt8} {i k : Nat} (h : i ≤ k + 1) (hp : p e[k + 1]! = true) : scanDown p e i (k + 1) = scanDown p e i k := by
  conv => lhs; rw [scanDown]
  rw [if_pos (by rw [hp, decide_eq_true h]; rfl)]
theorem down_stop {p : UInt8 → Bool} {e : Array UInt8} {i j : Nat} (_ : 0 < i) (h : (decide (i ≤ j) && p e[j]!) = false) : scanDown p e i j = j := by
  cases j with
  | zero => rfl
  | succ k => rw [scanDown, if_neg (by rw [h]; simp)]
theorem partEq_step {a i j I J : Nat} {e : Array UInt8} (hI : scanUp (fun x => !lt8 e[a]! x) e j i = I) (hJ : scanDown (fun x => lt8 e[a]! x) e I j = J) : partEqLoop lt8 a i j e = if J < I then (I, e) else partEqLoop lt8 a (I + 1) (J - 1) (swp e I J) := by
  rw [partEqLoop_eq, hI, hJ]
theorem part_step {a i j I J : Nat} {e : Array UInt8} (hI : scanUp (fun x => lt8 x e[a]!) e j i = I) (hJ : scanDown (fun x => !lt8 x e[a]!) e I j = J) : partLoop lt8 a i j e = if J < I then (J, e) else partLoop lt8 a (I + 1) (J - 1) (swp e I J) := by
  rw [partLoop_eq, hI, hJ]
theorem part_eq {a b pv I J : Nat} {d d1 : Array UInt8} (h1 : swp d a pv = d1) (hI : scanUp (fun x => lt8 x d1[a]!) d1 (b - 1) (a + 1) = I) (hJ : scanDown (fun x => !lt8 x d1[a]!) d1 I (b - 1) = J) : partition lt8 d a b pv = if J < I then (J, true, swp d1 J a) else ((partLoop lt8 a (I + 1) (J - 1) (swp d1 I J)).1, false, swp (partLoop lt8 a (I + 1) (J - 1) (swp d1 I J)).2 (partLoop lt8 a (I + 1) (J - 1) (swp d1 I J)).1 a) := by
  unfold partition
  simp only [h1, hI, hJ]
set_option maxHeartbeats 4000000 in
set_option maxRecDepth 100000 in
theorem partEq_any (g cap : Nat) (d : Array UInt8) (a b pv : Nat) (w : World) (h : SR w g cap d) (hb : b ≤ d.size) (hap : a ≤ pv) (hpb : pv < b) (hn : d.size ≤ 1000) : Calls Try.prog 79 #[.slice (some ⟨g, 0, none⟩) d.size cap, .int .i64 a, .int .i64 b, .int .i64 pv] w (Ret (.int .i64 (partitionEqual lt8 d a b pv).1) (SrtTo g cap (partitionEqual lt8 d a b pv).2 w)) := by
  obtain ⟨n, hn0⟩ : ∃ n, d.size = n := ⟨_, rfl⟩
  have HEZ := Lib.hid hn0; have HS0 := Lib.hid h
  rw [hn0] at hb hn ⊢
  obtain ⟨Rm, RD, hR⟩ : ∃ Rm RD, partitionEqual lt8 d a b pv = (Rm, RD) := ⟨_, _, rfl⟩
  rw [hR]
  unfold partitionEqual at hR
  have HR := Lib.hid hR
  clear h hR hn0
  go_enter Try.func79, Try.ntmps79
  go_wp2
  go_upto_region 1 with fail
  go_cut [] from 11 to 24 (fun wx => SR wx g cap (swp d a pv) ∧ Frm [g] w wx)
  case first =>
    by_cases hij : a = pv
    · subst hij
      have hb1 : (a : Int) < (n : Int) := by omega
      have cc := HS0.out.cell (j := a) (by rw [HEZ.out]; omega)
      obtain ⟨x, hx⟩ : ∃ x, d[a]! = x := ⟨_, rfl⟩
      rw [hx] at cc
      have fa := HS0.out.free a
      have hsw := HS0.out.swap (i := a) (j := a) (by rw [HEZ.out]; omega) (by rw [HEZ.out]; omega)
      rw [hx] at hsw
      unfold _root_.Go.Proofs.Ytefpfcheafbfdaa.u8 at cc
      have HSW := Lib.hid hsw
      clear hx hsw
      go_region
      go_wp2
      go_meet
      exact ⟨HSW.out.1.frm0 (Frm.refl [] _).drew, HSW.out.2.drew⟩
    · have hij2 : pv ≠ a := fun h => hij h.symm
      have hb1 : (a : Int) < (n : Int) := by omega
      have hb2 : (pv : Int) < (n : Int) := by omega
      have cc := HS0.out.cell (j := a) (by rw [HEZ.out]; omega)
      have cd := HS0.out.cell (j := pv) (by rw [HEZ.out]; omega)
      obtain ⟨x, hx⟩ : ∃ x, d[a]! = x := ⟨_, rfl⟩
      obtain ⟨y, hy⟩ : ∃ y, d[pv]! = y := ⟨_, rfl⟩
      rw [hx] at cc
      rw [hy] at cd
      have fa := HS0.out.free a
      have fb := HS0.out.free pv
      have hsw := HS0.out.swap (i := a) (j := pv) (by rw [HEZ.out]; omega) (by rw [HEZ.out]; omega)
      rw [hx, hy] at hsw
      unfold _root_.Go.Proofs.Ytefpfcheafbfdaa.u8 at cc cd
      have HSW := Lib.hid hsw
      clear hx hy hsw
      go_region
      go_wp2
      go_meet
      exact ⟨HSW.out.1.frm0 (Frm.refl [] _).drew, HSW.out.2.drew⟩
  case rest =>
    have HSS := Lib.hid hcut.1; have HFS := Lib.hid hcut.2
    have HEZS : Hid ((swp d a pv).size = n) := Lib.hid (by rw [size_swp8]; exact HEZ.out)
    clear hcut
    go_wp2
    go_loopw [9, 10] (fun s9 s10 wr => ∃ (i j : Nat) (e : Array UInt8), s9 = .int .i64 i ∧ s10 = .int .i64 j ∧ a < i ∧ i ≤ b ∧ a ≤ j ∧ j < b ∧ e.size = n ∧ partEqLoop lt8 a i j e = (Rm, RD) ∧ SR wr g cap e ∧ Frm [g] w wr) (fun s9 s10 _ => (intOf s10 + 1 - intOf s9).toNat)
    case atStart => exact ⟨a + 1, b - 1, swp d a pv, by push_cast; rfl, by congr 1; omega, by omega, by omega, by omega, by omega, HEZS.out, HR.out, HSS.out, HFS.out⟩
    case round =>
      clear HSS HFS HEZS HR HEZ
      obtain ⟨i, j, e, rfl, rfl, hai, hib, haj, hjb, hez, ho, hs, hf⟩ := hrel
      obtain ⟨w1, hw1⟩ : ∃ w1, w1 = wr := ⟨_, rfl⟩
      subst hw1
      have HO := Lib.hid ho; have HS := Lib.hid hs; have HF2 := Lib.hid hf; have HEZ := Lib.hid hez
      clear ho hs hf hez
      obtain ⟨I2, hI2⟩ : ∃ I2, scanUp (fun x => !lt8 e[a]! x) e j i = I2 := ⟨_, rfl⟩
      have HID := Lib.hid hI2
      clear hI2
      go_wp2
      go_loopw [9] (fun s9 wi => ∃ i2 : Nat, s9 = .int .i64 i2 ∧ i ≤ i2 ∧ i2 ≤ b ∧ scanUp (fun x => !lt8 e[a]! x) e j i2 = I2 ∧ SR wi g cap e ∧ Frm [g] w1 wi) (fun s9 _ => n + 1 - (intOf s9).toNat)
      case atStart => exact ⟨i, rfl, Nat.le_refl _, by omega, HID.out, HS.out, Frm.refl _ _⟩
      case round =>
        clear HS
        obtain ⟨i2, rfl, hii, hi2b, hI2, hs, hfx⟩ := hrel
        have HI2 := Lib.hid hI2; have HS := Lib.hid hs; have HFX := Lib.hid hfx
        clear hI2 hs hfx
        go_upto_region 3 with fail
        go_cut [43] from 29 to 43 (fun s wx => ∃ lb : Bool, s = .bool lb ∧ (decide (i2 ≤ j) && !lt8 e[a]! e[i2]!) = lb ∧ Frm [] wr wx)
        case first =>
          by_cases h2 : i2 ≤ j
          · have h2' : (i2 : Int) ≤ (j : Int) := by omega
            have hd2 : decide ((i2 : Int) ≤ (j : Int)) = true := by simpa using h2'
            have hd3 : decide (i2 ≤ j) = true := by simpa using h2
            have hb1 : (a : Int) < (n : Int) := by omega
            have hb2 : (i2 : Int) < (n : Int) := by omega
            have cc := HS.out.cell (j := a) (by rw [HEZ.out]; omega)
            have cd := HS.out.cell (j := i2) (by rw [HEZ.out]; omega)
            obtain ⟨x, hx⟩ : ∃ x, e[a]! = x := ⟨_, rfl⟩
            obtain ⟨y, hy⟩ : ∃ y, e[i2]! = y := ⟨_, rfl⟩
            rw [hx] at cc
            rw [hy] at cd
            obtain ⟨lb, hlb⟩ : ∃ lb, lt8 x y = lb := ⟨_, rfl⟩
            have CL := less_q x y
            rw [hlb] at CL
            unfold _root_.Go.Proofs.Ytefpfcheafbfdaa.u8 at cc cd CL
            have HX := Lib.hid hx; have HY := Lib.hid hy; have HLB := Lib.hid hlb; have H2 := Lib.hid h2
            clear hx hy hlb h2
            go_quiet ((go_at_call 78; exact Calls.quiet_of_same (CL _)))
            go_wp2
            go_meet
            exact ⟨!lb, rfl, by rw [HX.out, HY.out, HLB.out, decide_eq_true H2.out]; rfl, (Frm.refl [] wr).drewN _⟩
          · have h2' : ¬ (i2 : Int) ≤ (j : Int) := by omega
            have hd2 : decide ((i2 : Int) ≤ (j : Int)) = false := by simpa using h2'
            have hd3 : decide (i2 ≤ j) = false := by simpa using h2
            have H2 := Lib.hid h2
            clear h2
            go_quiet (fail)
            go_wp2
            go_meet
            exact ⟨false, rfl, by rw [decide_eq_false H2.out]; rfl, (Frm.refl [] wr).drewN _⟩
        case rest =>
          obtain ⟨lb, rfl, hlb, hfc⟩ := hcut
          have HFC := Lib.hid hfc; have HLB := Lib.hid hlb
          have HSC := Lib.hid (HS.out.frm0 hfc)
          clear hlb hfc
          cases lb with
          | true =>
            obtain ⟨hij, HP⟩ : i2 ≤ j ∧ Hid ((!lt8 e[a]! e[i2]!) = true) := by
              have := HLB.out
              rw [Bool.and_eq_true, decide_eq_true_eq] at this
              exact ⟨this.1, Lib.hid this.2⟩
            clear HLB
            have HU2 : Hid (scanUp (fun x => !lt8 e[a]! x) e j (i2 + 1) = I2) := Lib.hid (by
              have := HI2.out
              rwa [up_go hij HP.out] at this)
            go_wp2
            exact ⟨⟨i2 + 1, by push_cast; rfl, by omega, by omega, HU2.out, HSC.out, HFX.out.then HFC.out (by simp)⟩, by simp [intOf]; omega⟩
          | false =>
            have HI2 : Hid (scanUp (fun x => !lt8 e[a]! x) e j i = i2) := Lib.hid (by
              have := HI2.out
              rw [up_stop HLB.out] at this
              rw [HID.out, this])
            clear HLB HID
            obtain ⟨J2, hJ2⟩ : ∃ J2, scanDown (fun x => lt8 e[a]! x) e i2 j = J2 := ⟨_, rfl⟩
            have HJD := Lib.hid hJ2
            have HSX := HSC
            have HFX2 : Hid (Frm [g] w1 wc) := Lib.hid (HFX.out.then HFC.out (by simp))
            clear hJ2
            go_wp2
            go_loopw [10] (fun s10 wj => ∃ j2 : Nat, s10 = .int .i64 j2 ∧ a ≤ j2 ∧ j2 ≤ j ∧ scanDown (fun x => lt8 e[a]! x) e i2 j2 = J2 ∧ SR wj g cap e ∧ Frm [g] w1 wj) (fun s10 _ => (intOf s10).toNat)
            case atStart => exact ⟨j, rfl, by omega, Nat.le_refl _, HJD.out, HSX.out, HFX2.out⟩
            case round =>
              clear HSX HFX2 HFX HFC HSC
              obtain ⟨j2, rfl, haj2, hj2, hJ2, hs, hfx⟩ := hrel
              have HJ2 := Lib.hid hJ2; have HS := Lib.hid hs; have HFX := Lib.hid hfx
              clear hJ2 hs hfx
              go_upto_region 5 with fail
              go_cut [59] from 46 to 59 (fun s wx => ∃ lb : Bool, s = .bool lb ∧ (decide (i2 ≤ j2) && lt8 e[a]! e[j2]!) = lb ∧ Frm [] wr wx)
              case first =>
                by_cases h2 : i2 ≤ j2
                · have h2' : (i2 : Int) ≤ (j2 : Int) := by omega
                  have hd2 : decide ((i2 : Int) ≤ (j2 : Int)) = true := by simpa using h2'
                  have hd3 : decide (i2 ≤ j2) = true := by simpa using h2
                  have hb1 : (a : Int) < (n : Int) := by omega
                  have hb2 : (j2 : Int) < (n : Int) := by omega
                  have cc := HS.out.cell (j := a) (by rw [HEZ.out]; omega)
                  have cd := HS.out.cell (j := j2) (by rw [HEZ.out]; omega)
                  obtain ⟨x, hx⟩ : ∃ x, e[a]! = x := ⟨_, rfl⟩
                  obtain ⟨y, hy⟩ : ∃ y, e[j2]! = y := ⟨_, rfl⟩
                  rw [hx] at cc
                  rw [hy] at cd
                  obtain ⟨lb, hlb⟩ : ∃ lb, lt8 x y = lb := ⟨_, rfl⟩
                  have CL := less_q x y
                  rw [hlb] at CL
                  unfold _root_.Go.Proofs.Ytefpfcheafbfdaa.u8 at cc cd CL
                  have HX := Lib.hid hx; have HY := Lib.hid hy; have HLB := Lib.hid hlb; have H2 := Lib.hid h2
                  clear hx hy hlb h2
                  go_quiet ((go_at_call 78; exact Calls.quiet_of_same (CL _)))
                  go_wp2
                  go_meet
                  exact ⟨lb, rfl, by rw [HX.out, HY.out, HLB.out, decide_eq_true H2.out]; rfl, (Frm.refl [] wr).drewN _⟩
                · have h2' : ¬ (i2 : Int) ≤ (j2 : Int) := by omega
                  have hd2 : decide ((i2 : Int) ≤ (j2 : Int)) = false := by simpa using h2'
                  have hd3 : decide (i2 ≤ j2) = false := by simpa using h2
                  have H2 := Lib.hid h2
                  clear h2
                  go_quiet (fail)
                  go_wp2
                  go_meet
                  exact ⟨false, rfl, by rw [decide_eq_false H2.out]; rfl, (Frm.refl [] wr).drewN _⟩
              case rest =>
                obtain ⟨lb, rfl, hlb, hfc⟩ := hcut
                have HFC := Lib.hid hfc; have HLB := Lib.hid hlb
                have HSC := Lib.hid (HS.out.frm0 hfc)
                clear hlb hfc
                cases lb with
                | true =>
                  obtain ⟨hij, HP⟩ : i2 ≤ j2 ∧ Hid (lt8 e[a]! e[j2]! = true) := by
                    have := HLB.out
                    rw [Bool.and_eq_true, decide_eq_true_eq] at this
                    exact ⟨this.1, Lib.hid this.2⟩
                  clear HLB
                  obtain ⟨k, hk⟩ : ∃ k, k + 1 = j2 := ⟨j2 - 1, by omega⟩
                  have HD2 : Hid (scanDown (fun x => lt8 e[a]! x) e i2 k = J2) := Lib.hid (by
                    have := HJ2.out
                    subst hk
                    rwa [down_go hij HP.out] at this)
                  have hki : (j2 : Int) - 1 = (k : Int) := by omega
                  go_wp2
                  exact ⟨⟨k, rfl, by omega, by omega, HD2.out, HSC.out, HFX.out.then HFC.out (by simp)⟩, by simp [intOf]; omega⟩
                | false =>
                  have HJ2 : Hid (scanDown (fun x => lt8 e[a]! x) e i2 j = j2) := Lib.hid (by
                    have := HJ2.out
                    rw [down_stop (by omega) HLB.out] at this
                    rw [HJD.out, this])
                  clear HLB HJD
                  by_cases hji : j2 < i2
                  · have hji' : (j2 : Int) < (i2 : Int) := by omega
                    have hR : (i2, e) = (Rm, RD) := by
                      have := HO.out
                      rw [partEq_step HI2.out HJ2.out, if_pos hji] at this
                      exact this
                    obtain ⟨rfl, rfl⟩ := Prod.mk.inj hR
                    clear hji
                    go_wp2
                    go_ret
                    exact ⟨rfl, HSC.out, (HF2.out.trans HFX.out).then HFC.out (by simp)⟩
                  · have hji' : ¬ (j2 : Int) < (i2 : Int) := by omega
                    go_upto_region 8 with fail
                    go_cut [] from 65 to 78 (fun wx => SR wx g cap (swp e i2 j2) ∧ Frm [g] wc wx)
                    case first =>
                      by_cases hij : i2 = j2
                      · subst hij
                        have hb1 : (i2 : Int) < (n : Int) := by omega
                        have cc := HSC.out.cell (j := i2) (by rw [HEZ.out]; omega)
                        obtain ⟨x, hx⟩ : ∃ x, e[i2]! = x := ⟨_, rfl⟩
                        rw [hx] at cc
                        have fa := HSC.out.free i2
                        have hsw := HSC.out.swap (i := i2) (j := i2) (by rw [HEZ.out]; omega) (by rw [HEZ.out]; omega)
                        rw [hx] at hsw
                        unfold _root_.Go.Proofs.Ytefpfcheafbfdaa.u8 at cc
                        have HSW := Lib.hid hsw
                        clear hx hsw
                        go_region
                        go_wp2
                        go_meet
                        exact ⟨HSW.out.1.frm0 (Frm.refl [] _).drew, HSW.out.2.drew⟩
                      · have hij2 : j2 ≠ i2 := fun h => hij h.symm
                        have hb1 : (i2 : Int) < (n : Int) := by omega
                        have hb2 : (j2 : Int) < (n : Int) := by omega
                        have cc := HSC.out.cell (j := i2) (by rw [HEZ.out]; omega)
                        have cd := HSC.out.cell (j := j2) (by rw [HEZ.out]; omega)
                        obtain ⟨x, hx⟩ : ∃ x, e[i2]! = x := ⟨_, rfl⟩
                        obtain ⟨y, hy⟩ : ∃ y, e[j2]! = y := ⟨_, rfl⟩
                        rw [hx] at cc
                        rw [hy] at cd
                        have fa := HSC.out.free i2
                        have fb := HSC.out.free j2
                        have hsw := HSC.out.swap (i := i2) (j := j2) (by rw [HEZ.out]; omega) (by rw [HEZ.out]; omega)
                        rw [hx, hy] at hsw
                        unfold _root_.Go.Proofs.Ytefpfcheafbfdaa.u8 at cc cd
                        have HSW := Lib.hid hsw
                        clear hx hy hsw
                        go_region
                        go_wp2
                        go_meet
                        exact ⟨HSW.out.1.frm0 (Frm.refl [] _).drew, HSW.out.2.drew⟩
                    case rest =>
                      have HSS := Lib.hid hcut.1; have HFS := Lib.hid hcut.2
                      have HEZS : Hid ((swp e i2 j2).size = n) := Lib.hid (by rw [size_swp8]; exact HEZ.out)
                      clear hcut
                      have HO2 : Hid (partEqLoop lt8 a (i2 + 1) (j2 - 1) (swp e i2 j2) = (Rm, RD)) := Lib.hid (by
                        have := HO.out
                        rw [partEq_step HI2.out HJ2.out, if_neg hji] at this
                        exact this)
                      have hj0 : 1 ≤ j2 := by omega
                      have hk0 : ((j2 - 1 : Nat) : Int) = (j2 : Int) - 1 := by omega
                      go_wp2
                      exact ⟨⟨i2 + 1, j2 - 1, swp e i2 j2, by push_cast; rfl, by congr 1; omega, by omega, by omega, by omega, by omega, HEZS.out, HO2.out, HSS.out, ((HF2.out.trans HFX.out).then HFC.out (by simp)).trans HFS.out⟩, by simp [intOf]; omega⟩
set_option maxHeartbeats 4000000 in
set_option maxRecDepth 100000 in
theorem part_any (g cap : Nat) (d : Array UInt8) (a b pv : Nat) (w : World) (h : SR w g cap d) (hb : b ≤ d.size) (hap : a ≤ pv) (hpb : pv < b) (hn : d.size ≤ 1000) : Calls Try.prog 80 #[.slice (some ⟨g, 0, none⟩) d.size cap, .int .i64 a, .int .i64 b, .int .i64 pv] w (Ret (.tuple #[.int .i64 (partition lt8 d a b pv).1, .bool (partition lt8 d a b pv).2.1]) (SrtTo g cap (partition lt8 d a b pv).2.2 w)) := by
  obtain ⟨n, hn0⟩ : ∃ n, d.size = n := ⟨_, rfl⟩
  have HEZ := Lib.hid hn0; have HS0 := Lib.hid h
  rw [hn0] at hb hn ⊢
  obtain ⟨Rm, Rb, RD, hR⟩ : ∃ Rm Rb RD, partition lt8 d a b pv = (Rm, Rb, RD) := ⟨_, _, _, rfl⟩
  rw [hR]
  have HR := Lib.hid hR
  clear h hR hn0
  go_enter Try.func80, Try.ntmps80
  go_wp2
  go_upto_region 1 with fail
  go_cut [] from 12 to 25 (fun wx => SR wx g cap (swp d a pv) ∧ Frm [g] w wx)
  case first =>
    by_cases hij : a = pv
    · subst hij
      have hb1 : (a : Int) < (n : Int) := by omega
      have cc := HS0.out.cell (j := a) (by rw [HEZ.out]; omega)
      obtain ⟨x, hx⟩ : ∃ x, d[a]! = x := ⟨_, rfl⟩
      rw [hx] at cc
      have fa := HS0.out.free a
      have hsw := HS0.out.swap (i := a) (j := a) (by rw [HEZ.out]; omega) (by rw [HEZ.out]; omega)
      rw [hx] at hsw
      unfold _root_.Go.Proofs.Ytefpfcheafbfdaa.u8 at cc
      have HSW := Lib.hid hsw
      clear hx hsw
      go_region
      go_wp2
      go_meet
      exact ⟨HSW.out.1.frm0 (Frm.refl [] _).drew, HSW.out.2.drew⟩
    · have hij2 : pv ≠ a := fun h => hij h.symm
      have hb1 : (a : Int) < (n : Int) := by omega
      have hb2 : (pv : Int) < (n : Int) := by omega
      have cc := HS0.out.cell (j := a) (by rw [HEZ.out]; omega)
      have cd := HS0.out.cell (j := pv) (by rw [HEZ.out]; omega)
      obtain ⟨x, hx⟩ : ∃ x, d[a]! = x := ⟨_, rfl⟩
      obtain ⟨y, hy⟩ : ∃ y, d[pv]! = y := ⟨_, rfl⟩
      rw [hx] at cc
      rw [hy] at cd
      have fa := HS0.out.free a
      have fb := HS0.out.free pv
      have hsw := HS0.out.swap (i := a) (j := pv) (by rw [HEZ.out]; omega) (by rw [HEZ.out]; omega)
      rw [hx, hy] at hsw
      unfold _root_.Go.Proofs.Ytefpfcheafbfdaa.u8 at cc cd
      have HSW := Lib.hid hsw
      clear hx hy hsw
      go_region
      go_wp2
      go_meet
      exact ⟨HSW.out.1.frm0 (Frm.refl [] _).drew, HSW.out.2.drew⟩
  case rest =>
    have HSS := Lib.hid hcut.1; have HFS := Lib.hid hcut.2
    have HEZS : Hid ((swp d a pv).size = n) := Lib.hid (by rw [size_swp8]; exact HEZ.out)
    clear hcut
    obtain ⟨d1, hd1⟩ : ∃ d1, swp d a pv = d1 := ⟨_, rfl⟩
    rw [hd1] at HEZS HSS
    have HD1 := Lib.hid hd1
    have HF2 := HFS
    clear hd1 HFS HEZ
    have HEZ := HEZS
    have HSX0 := HSS
    clear HEZS HSS
    obtain ⟨w1, hw1⟩ : ∃ w1, w1 = wc := ⟨_, rfl⟩
    subst hw1
    have hbi : ((b - 1 : Nat) : Int) = (b : Int) - 1 := by omega
    obtain ⟨I2, hI2⟩ : ∃ I2, scanUp (fun x => lt8 x d1[a]!) d1 (b - 1) (a + 1) = I2 := ⟨_, rfl⟩
    have HID := Lib.hid hI2
    clear hI2
    go_wp2
    go_loopw [10] (fun s10 wi => ∃ i2 : Nat, s10 = .int .i64 i2 ∧ (a + 1) ≤ i2 ∧ i2 ≤ b ∧ scanUp (fun x => lt8 x d1[a]!) d1 (b - 1) i2 = I2 ∧ SR wi g cap d1 ∧ Frm [g] w1 wi) (fun s10 _ => n + 1 - (intOf s10).toNat)
    case atStart => exact ⟨(a + 1), by push_cast; rfl, Nat.le_refl _, by omega, HID.out, HSX0.out, Frm.refl _ _⟩
    case round =>
      clear HSX0
      obtain ⟨i2, rfl, hii, hi2b, hI2, hs, hfx⟩ := hrel
      have HI2 := Lib.hid hI2; have HS := Lib.hid hs; have HFX := Lib.hid hfx
      clear hI2 hs hfx
      go_upto_region 3 with fail
      go_cut [43] from 30 to 43 (fun s wx => ∃ lb : Bool, s = .bool lb ∧ (decide (i2 ≤ (b - 1)) && lt8 d1[i2]! d1[a]!) = lb ∧ Frm [] wr wx)
      case first =>
        by_cases h2 : i2 ≤ (b - 1)
        · have h2' : (i2 : Int) ≤ ((b - 1) : Int) := by omega
          have hd2 : decide ((i2 : Int) ≤ ((b - 1) : Int)) = true := by simpa using h2'
          have hd3 : decide (i2 ≤ (b - 1)) = true := by simpa using h2
          have hb1 : (i2 : Int) < (n : Int) := by omega
          have hb2 : (a : Int) < (n : Int) := by omega
          have cc := HS.out.cell (j := i2) (by rw [HEZ.out]; omega)
          have cd := HS.out.cell (j := a) (by rw [HEZ.out]; omega)
          obtain ⟨x, hx⟩ : ∃ x, d1[i2]! = x := ⟨_, rfl⟩
          obtain ⟨y, hy⟩ : ∃ y, d1[a]! = y := ⟨_, rfl⟩
          rw [hx] at cc
          rw [hy] at cd
          obtain ⟨lb, hlb⟩ : ∃ lb, lt8 x y = lb := ⟨_, rfl⟩
          have CL := less_q x y
          rw [hlb] at CL
          unfold _root_.Go.Proofs.Ytefpfcheafbfdaa.u8 at cc cd CL
          have HX := Lib.hid hx; have HY := Lib.hid hy; have HLB := Lib.hid hlb; have H2 := Lib.hid h2
          clear hx hy hlb h2
          go_quiet ((go_at_call 78; exact Calls.quiet_of_same (CL _)))
          go_wp2
          go_meet
          exact ⟨lb, rfl, by rw [HX.out, HY.out, HLB.out, decide_eq_true H2.out]; rfl, (Frm.refl [] wr).drewN _⟩
        · have h2' : ¬ (i2 : Int) ≤ ((b - 1) : Int) := by omega
          have hd2 : decide ((i2 : Int) ≤ ((b - 1) : Int)) = false := by simpa using h2'
          have hd3 : decide (i2 ≤ (b - 1)) = false := by simpa using h2
          have H2 := Lib.hid h2
          clear h2
          go_quiet (fail)
          go_wp2
          go_meet
          exact ⟨false, rfl, by rw [decide_eq_false H2.out]; rfl, (Frm.refl [] wr).drewN _⟩
      case rest =>
        obtain ⟨lb, rfl, hlb, hfc⟩ := hcut
        have HFC := Lib.hid hfc; have HLB := Lib.hid hlb
        have HSC := Lib.hid (HS.out.frm0 hfc)
        clear hlb hfc
        cases lb with
        | true =>
          obtain ⟨hij, HP⟩ : i2 ≤ (b - 1) ∧ Hid (lt8 d1[i2]! d1[a]! = true) := by
            have := HLB.out
            rw [Bool.and_eq_true, decide_eq_true_eq] at this
            exact ⟨this.1, Lib.hid this.2⟩
          clear HLB
          have HU2 : Hid (scanUp (fun x => lt8 x d1[a]!) d1 (b - 1) (i2 + 1) = I2) := Lib.hid (by
            have := HI2.out
            rwa [up_go hij HP.out] at this)
          go_wp2
          exact ⟨⟨i2 + 1, by push_cast; rfl, by omega, by omega, HU2.out, HSC.out, HFX.out.then HFC.out (by simp)⟩, by simp [intOf]; omega⟩
        | false =>
          have HI2 : Hid (scanUp (fun x => lt8 x d1[a]!) d1 (b - 1) (a + 1) = i2) := Lib.hid (by
            have := HI2.out
            rw [up_stop HLB.out] at this
            rw [HID.out, this])
          clear HLB HID
          obtain ⟨J2, hJ2⟩ : ∃ J2, scanDown (fun x => !lt8 x d1[a]!) d1 i2 (b - 1) = J2 := ⟨_, rfl⟩
          have HJD := Lib.hid hJ2
          have HSX := HSC
          have HFX2 : Hid (Frm [g] w1 wc) := Lib.hid (HFX.out.then HFC.out (by simp))
          clear hJ2
          go_wp2
          go_loopw [11] (fun s11 wj => ∃ j2 : Nat, s11 = .int .i64 j2 ∧ a ≤ j2 ∧ j2 ≤ (b - 1) ∧ scanDown (fun x => !lt8 x d1[a]!) d1 i2 j2 = J2 ∧ SR wj g cap d1 ∧ Frm [g] w1 wj) (fun s11 _ => (intOf s11).toNat)
          case atStart => exact ⟨(b - 1), by congr 1; omega, by omega, Nat.le_refl _, HJD.out, HSX.out, HFX2.out⟩
          case round =>
            clear HSX HFX2 HFX HFC HSC
            obtain ⟨j2, rfl, haj2, hj2, hJ2, hs, hfx⟩ := hrel
            have HJ2 := Lib.hid hJ2; have HS := Lib.hid hs; have HFX := Lib.hid hfx
            clear hJ2 hs hfx
            go_upto_region 5 with fail
            go_cut [60] from 46 to 60 (fun s wx => ∃ lb : Bool, s = .bool lb ∧ (decide (i2 ≤ j2) && !lt8 d1[j2]! d1[a]!) = lb ∧ Frm [] wr wx)
            case first =>
              by_cases h2 : i2 ≤ j2
              · have h2' : (i2 : Int) ≤ (j2 : Int) := by omega
                have hd2 : decide ((i2 : Int) ≤ (j2 : Int)) = true := by simpa using h2'
                have hd3 : decide (i2 ≤ j2) = true := by simpa using h2
                have hb1 : (j2 : Int) < (n : Int) := by omega
                have hb2 : (a : Int) < (n : Int) := by omega
                have cc := HS.out.cell (j := j2) (by rw [HEZ.out]; omega)
                have cd := HS.out.cell (j := a) (by rw [HEZ.out]; omega)
                obtain ⟨x, hx⟩ : ∃ x, d1[j2]! = x := ⟨_, rfl⟩
                obtain ⟨y, hy⟩ : ∃ y, d1[a]! = y := ⟨_, rfl⟩
                rw [hx] at cc
                rw [hy] at cd
                obtain ⟨lb, hlb⟩ : ∃ lb, lt8 x y = lb := ⟨_, rfl⟩
                have CL := less_q x y
                rw [hlb] at CL
                unfold _root_.Go.Proofs.Ytefpfcheafbfdaa.u8 at cc cd CL
                have HX := Lib.hid hx; have HY := Lib.hid hy; have HLB := Lib.hid hlb; have H2 := Lib.hid h2
                clear hx hy hlb h2
                go_quiet ((go_at_call 78; exact Calls.quiet_of_same (CL _)))
                go_wp2
                go_meet
                exact ⟨!lb, rfl, by rw [HX.out, HY.out, HLB.out, decide_eq_true H2.out]; rfl, (Frm.refl [] wr).drewN _⟩
              · have h2' : ¬ (i2 : Int) ≤ (j2 : Int) := by omega
                have hd2 : decide ((i2 : Int) ≤ (j2 : Int)) = false := by simpa using h2'
                have hd3 : decide (i2 ≤ j2) = false := by simpa using h2
                have H2 := Lib.hid h2
                clear h2
                go_quiet (fail)
                go_wp2
                go_meet
                exact ⟨false, rfl, by rw [decide_eq_false H2.out]; rfl, (Frm.refl [] wr).drewN _⟩
            case rest =>
              obtain ⟨lb, rfl, hlb, hfc⟩ := hcut
              have HFC := Lib.hid hfc; have HLB := Lib.hid hlb
              have HSC := Lib.hid (HS.out.frm0 hfc)
              clear hlb hfc
              cases lb with
              | true =>
                obtain ⟨hij, HP⟩ : i2 ≤ j2 ∧ Hid ((!lt8 d1[j2]! d1[a]!) = true) := by
                  have := HLB.out
                  rw [Bool.and_eq_true, decide_eq_true_eq] at this
                  exact ⟨this.1, Lib.hid this.2⟩
                clear HLB
                obtain ⟨k, hk⟩ : ∃ k, k + 1 = j2 := ⟨j2 - 1, by omega⟩
                have HD2 : Hid (scanDown (fun x => !lt8 x d1[a]!) d1 i2 k = J2) := Lib.hid (by
                  have := HJ2.out
                  subst hk
                  rwa [down_go hij HP.out] at this)
                have hki : (j2 : Int) - 1 = (k : Int) := by omega
                go_wp2
                exact ⟨⟨k, rfl, by omega, by omega, HD2.out, HSC.out, HFX.out.then HFC.out (by simp)⟩, by simp [intOf]; omega⟩
              | false =>
                have HJ2 : Hid (scanDown (fun x => !lt8 x d1[a]!) d1 i2 (b - 1) = j2) := Lib.hid (by
                  have := HJ2.out
                  rw [down_stop (by omega) HLB.out] at this
                  rw [HJD.out, this])
                clear HLB HJD
                have HFW : Hid (Frm [g] w wc) := Lib.hid ((HF2.out.trans HFX.out).then HFC.out (by simp))
                by_cases hji : j2 < i2
                · have hji' : (j2 : Int) < (i2 : Int) := by omega
                  have hR : (j2, true, swp d1 j2 a) = (Rm, Rb, RD) := by
                    have := HR.out
                    rw [part_eq HD1.out HI2.out HJ2.out, if_pos hji] at this
                    exact this
                  obtain ⟨rfl, hR2⟩ := Prod.mk.inj hR
                  obtain ⟨rfl, rfl⟩ := Prod.mk.inj hR2
                  clear hR hR2
                  go_wp2
                  go_upto_region 8 with fail
                  go_cut [] from 66 to 79 (fun wx => SR wx g cap (swp d1 j2 a) ∧ Frm [g] wc wx)
                  case first =>
                    by_cases hij : j2 = a
                    · subst hij
                      have hb1 : (j2 : Int) < (n : Int) := by omega
                      have cc := HSC.out.cell (j := j2) (by rw [HEZ.out]; omega)
                      obtain ⟨x, hx⟩ : ∃ x, d1[j2]! = x := ⟨_, rfl⟩
                      rw [hx] at cc
                      have fa := HSC.out.free j2
                      have hsw := HSC.out.swap (i := j2) (j := j2) (by rw [HEZ.out]; omega) (by rw [HEZ.out]; omega)
                      rw [hx] at hsw
                      unfold _root_.Go.Proofs.Ytefpfcheafbfdaa.u8 at cc
                      have HSW := Lib.hid hsw
                      clear hx hsw
                      go_region
                      go_wp2
                      go_meet
                      exact ⟨HSW.out.1.frm0 (Frm.refl [] _).drew, HSW.out.2.drew⟩
                    · have hij2 : a ≠ j2 := fun h => hij h.symm
                      have hb1 : (j2 : Int) < (n : Int) := by omega
                      have hb2 : (a : Int) < (n : Int) := by omega
                      have cc := HSC.out.cell (j := j2) (by rw [HEZ.out]; omega)
                      have cd := HSC.out.cell (j := a) (by rw [HEZ.out]; omega)
                      obtain ⟨x, hx⟩ : ∃ x, d1[j2]! = x := ⟨_, rfl⟩
                      obtain ⟨y, hy⟩ : ∃ y, d1[a]! = y := ⟨_, rfl⟩
                      rw [hx] at cc
                      rw [hy] at cd
                      have fa := HSC.out.free j2
                      have fb := HSC.out.free a
                      have hsw := HSC.out.swap (i := j2) (j := a) (by rw [HEZ.out]; omega) (by rw [HEZ.out]; omega)
                      rw [hx, hy] at hsw
                      unfold _root_.Go.Proofs.Ytefpfcheafbfdaa.u8 at cc cd
                      have HSW := Lib.hid hsw
                      clear hx hy hsw
                      go_region
                      go_wp2
                      go_meet
                      exact ⟨HSW.out.1.frm0 (Frm.refl [] _).drew, HSW.out.2.drew⟩
                  case rest =>
                    have HSS := Lib.hid hcut.1; have HFS := Lib.hid hcut.2
                    have HEZS : Hid ((swp d1 j2 a).size = n) := Lib.hid (by rw [size_swp8]; exact HEZ.out)
                    clear hcut
                    go_wp2
                    go_ret2
                    exact ⟨rfl, HSS.out, HFW.out.trans HFS.out⟩
                · have hji' : ¬ (j2 : Int) < (i2 : Int) := by omega
                  obtain ⟨Lm, LD, hL⟩ : ∃ Lm LD, partLoop lt8 a (i2 + 1) (j2 - 1) (swp d1 i2 j2) = (Lm, LD) := ⟨_, _, rfl⟩
                  have hR : (Lm, false, swp LD Lm a) = (Rm, Rb, RD) := by
                    have := HR.out
                    rw [part_eq HD1.out HI2.out HJ2.out, if_neg hji, hL] at this
                    exact this
                  obtain ⟨rfl, hR2⟩ := Prod.mk.inj hR
                  obtain ⟨rfl, rfl⟩ := Prod.mk.inj hR2
                  have HL := Lib.hid hL
                  clear hR hR2 hL HR
                  have hj0 : 1 ≤ j2 := by omega
                  have hk0 : ((j2 - 1 : Nat) : Int) = (j2 : Int) - 1 := by omega
                  go_wp2
                  go_upto_region 10 with fail
                  go_cut [] from 81 to 94 (fun wx => SR wx g cap (swp d1 i2 j2) ∧ Frm [g] wc wx)
                  case first =>
                    by_cases hij : i2 = j2
                    · subst hij
                      have hb1 : (i2 : Int) < (n : Int) := by omega
                      have cc := HSC.out.cell (j := i2) (by rw [HEZ.out]; omega)
                      obtain ⟨x, hx⟩ : ∃ x, d1[i2]! = x := ⟨_, rfl⟩
                      rw [hx] at cc
                      have fa := HSC.out.free i2
                      have hsw := HSC.out.swap (i := i2) (j := i2) (by rw [HEZ.out]; omega) (by rw [HEZ.out]; omega)
                      rw [hx] at hsw
                      unfold _root_.Go.Proofs.Ytefpfcheafbfdaa.u8 at cc
                      have HSW := Lib.hid hsw
                      clear hx hsw
                      go_region
                      go_wp2
                      go_meet
                      exact ⟨HSW.out.1.frm0 (Frm.refl [] _).drew, HSW.out.2.drew⟩
                    · have hij2 : j2 ≠ i2 := fun h => hij h.symm
                      have hb1 : (i2 : Int) < (n : Int) := by omega
                      have hb2 : (j2 : Int) < (n : Int) := by omega
                      have cc := HSC.out.cell (j := i2) (by rw [HEZ.out]; omega)
                      have cd := HSC.out.cell (j := j2) (by rw [HEZ.out]; omega)
                      obtain ⟨x, hx⟩ : ∃ x, d1[i2]! = x := ⟨_, rfl⟩
                      obtain ⟨y, hy⟩ : ∃ y, d1[j2]! = y := ⟨_, rfl⟩
                      rw [hx] at cc
                      rw [hy] at cd
                      have fa := HSC.out.free i2
                      have fb := HSC.out.free j2
                      have hsw := HSC.out.swap (i := i2) (j := j2) (by rw [HEZ.out]; omega) (by rw [HEZ.out]; omega)
                      rw [hx, hy] at hsw
                      unfold _root_.Go.Proofs.Ytefpfcheafbfdaa.u8 at cc cd
                      have HSW := Lib.hid hsw
                      clear hx hy hsw
                      go_region
                      go_wp2
                      go_meet
                      exact ⟨HSW.out.1.frm0 (Frm.refl [] _).drew, HSW.out.2.drew⟩
                  case rest =>
                    have HSS := Lib.hid hcut.1; have HFS := Lib.hid hcut.2
                    have HEZS : Hid ((swp d1 i2 j2).size = n) := Lib.hid (by rw [size_swp8]; exact HEZ.out)
                    clear hcut
                    go_wp2
                    go_loopw [10, 11] (fun s10 s11 wr => ∃ (i j : Nat) (e : Array UInt8), s10 = .int .i64 i ∧ s11 = .int .i64 j ∧ a < i ∧ i ≤ b ∧ a ≤ j ∧ j < b ∧ e.size = n ∧ partLoop lt8 a i j e = (Lm, LD) ∧ SR wr g cap e ∧ Frm [g] w wr) (fun s10 s11 _ => (intOf s11 + 1 - intOf s10).toNat)
                    case atStart => exact ⟨i2 + 1, j2 - 1, swp d1 i2 j2, by push_cast; rfl, by congr 1; omega, by omega, by omega, by omega, by omega, HEZS.out, HL.out, HSS.out, HFW.out.trans HFS.out⟩
                    case round =>
                      clear HSS HFS HEZS HL HEZ HSC HFC HFX HF2 HFW HI2 HJ2
                      clear hii hi2b haj2 hj2 hji hji' hj0 hk0
                      obtain ⟨i, j, e, rfl, rfl, hai, hib, haj, hjb, hez, ho, hs, hf⟩ := hrel
                      obtain ⟨w1, hw1⟩ : ∃ w1, w1 = wr := ⟨_, rfl⟩
                      subst hw1
                      have HO := Lib.hid ho; have HS := Lib.hid hs; have HF2 := Lib.hid hf; have HEZ := Lib.hid hez
                      clear ho hs hf hez
                      obtain ⟨I2, hI2⟩ : ∃ I2, scanUp (fun x => lt8 x e[a]!) e j i = I2 := ⟨_, rfl⟩
                      have HID := Lib.hid hI2
                      clear hI2
                      go_wp2
                      go_loopw [10] (fun s10 wi => ∃ i2 : Nat, s10 = .int .i64 i2 ∧ i ≤ i2 ∧ i2 ≤ b ∧ scanUp (fun x => lt8 x e[a]!) e j i2 = I2 ∧ SR wi g cap e ∧ Frm [g] w1 wi) (fun s10 _ => n + 1 - (intOf s10).toNat)
                      case atStart => exact ⟨i, rfl, Nat.le_refl _, by omega, HID.out, HS.out, Frm.refl _ _⟩
                      case round =>
                        clear HS
                        obtain ⟨i2, rfl, hii, hi2b, hI2, hs, hfx⟩ := hrel
                        have HI2 := Lib.hid hI2; have HS := Lib.hid hs; have HFX := Lib.hid hfx
                        clear hI2 hs hfx
                        go_upto_region 13 with fail
                        go_cut [112] from 99 to 112 (fun s wx => ∃ lb : Bool, s = .bool lb ∧ (decide (i2 ≤ j) && lt8 e[i2]! e[a]!) = lb ∧ Frm [] wr wx)
                        case first =>
                          by_cases h2 : i2 ≤ j
                          · have h2' : (i2 : Int) ≤ (j : Int) := by omega
                            have hd2 : decide ((i2 : Int) ≤ (j : Int)) = true := by simpa using h2'
                            have hd3 : decide (i2 ≤ j) = true := by simpa using h2
                            have hb1 : (i2 : Int) < (n : Int) := by omega
                            have hb2 : (a : Int) < (n : Int) := by omega
                            have cc := HS.out.cell (j := i2) (by rw [HEZ.out]; omega)
                            have cd := HS.out.cell (j := a) (by rw [HEZ.out]; omega)
                            obtain ⟨x, hx⟩ : ∃ x, e[i2]! = x := ⟨_, rfl⟩
                            obtain ⟨y, hy⟩ : ∃ y, e[a]! = y := ⟨_, rfl⟩
                            rw [hx] at cc
                            rw [hy] at cd
                            obtain ⟨lb, hlb⟩ : ∃ lb, lt8 x y = lb := ⟨_, rfl⟩
                            have CL := less_q x y
                            rw [hlb] at CL
                            unfold _root_.Go.Proofs.Ytefpfcheafbfdaa.u8 at cc cd CL
                            have HX := Lib.hid hx; have HY := Lib.hid hy; have HLB := Lib.hid hlb; have H2 := Lib.hid h2
                            clear hx hy hlb h2
                            go_quiet ((go_at_call 78; exact Calls.quiet_of_same (CL _)))
                            go_wp2
                            go_meet
                            exact ⟨lb, rfl, by rw [HX.out, HY.out, HLB.out, decide_eq_true H2.out]; rfl, (Frm.refl [] wr).drewN _⟩
                          · have h2' : ¬ (i2 : Int) ≤ (j : Int) := by omega
                            have hd2 : decide ((i2 : Int) ≤ (j : Int)) = false := by simpa using h2'
                            have hd3 : decide (i2 ≤ j) = false := by simpa using h2
                            have H2 := Lib.hid h2
                            clear h2
                            go_quiet (fail)
                            go_wp2
                            go_meet
                            exact ⟨false, rfl, by rw [decide_eq_false H2.out]; rfl, (Frm.refl [] wr).drewN _⟩
                        case rest =>
                          obtain ⟨lb, rfl, hlb, hfc⟩ := hcut
                          have HFC := Lib.hid hfc; have HLB := Lib.hid hlb
                          have HSC := Lib.hid (HS.out.frm0 hfc)
                          clear hlb hfc
                          cases lb with
                          | true =>
                            obtain ⟨hij, HP⟩ : i2 ≤ j ∧ Hid (lt8 e[i2]! e[a]! = true) := by
                              have := HLB.out
                              rw [Bool.and_eq_true, decide_eq_true_eq] at this
                              exact ⟨this.1, Lib.hid this.2⟩
                            clear HLB
                            have HU2 : Hid (scanUp (fun x => lt8 x e[a]!) e j (i2 + 1) = I2) := Lib.hid (by
                              have := HI2.out
                              rwa [up_go hij HP.out] at this)
                            go_wp2
                            exact ⟨⟨i2 + 1, by push_cast; rfl, by omega, by omega, HU2.out, HSC.out, HFX.out.then HFC.out (by simp)⟩, by simp [intOf]; omega⟩
                          | false =>
                            have HI2 : Hid (scanUp (fun x => lt8 x e[a]!) e j i = i2) := Lib.hid (by
                              have := HI2.out
                              rw [up_stop HLB.out] at this
                              rw [HID.out, this])
                            clear HLB HID
                            obtain ⟨J2, hJ2⟩ : ∃ J2, scanDown (fun x => !lt8 x e[a]!) e i2 j = J2 := ⟨_, rfl⟩
                            have HJD := Lib.hid hJ2
                            have HSX := HSC
                            have HFX2 : Hid (Frm [g] w1 wc) := Lib.hid (HFX.out.then HFC.out (by simp))
                            clear hJ2
                            go_wp2
                            go_loopw [11] (fun s11 wj => ∃ j2 : Nat, s11 = .int .i64 j2 ∧ a ≤ j2 ∧ j2 ≤ j ∧ scanDown (fun x => !lt8 x e[a]!) e i2 j2 = J2 ∧ SR wj g cap e ∧ Frm [g] w1 wj) (fun s11 _ => (intOf s11).toNat)
                            case atStart => exact ⟨j, rfl, by omega, Nat.le_refl _, HJD.out, HSX.out, HFX2.out⟩
                            case round =>
                              clear HSX HFX2 HFX HFC HSC
                              obtain ⟨j2, rfl, haj2, hj2, hJ2, hs, hfx⟩ := hrel
                              have HJ2 := Lib.hid hJ2; have HS := Lib.hid hs; have HFX := Lib.hid hfx
                              clear hJ2 hs hfx
                              go_upto_region 15 with fail
                              go_cut [129] from 115 to 129 (fun s wx => ∃ lb : Bool, s = .bool lb ∧ (decide (i2 ≤ j2) && !lt8 e[j2]! e[a]!) = lb ∧ Frm [] wr wx)
                              case first =>
                                by_cases h2 : i2 ≤ j2
                                · have h2' : (i2 : Int) ≤ (j2 : Int) := by omega
                                  have hd2 : decide ((i2 : Int) ≤ (j2 : Int)) = true := by simpa using h2'
                                  have hd3 : decide (i2 ≤ j2) = true := by simpa using h2
                                  have hb1 : (j2 : Int) < (n : Int) := by omega
                                  have hb2 : (a : Int) < (n : Int) := by omega
                                  have cc := HS.out.cell (j := j2) (by rw [HEZ.out]; omega)
                                  have cd := HS.out.cell (j := a) (by rw [HEZ.out]; omega)
                                  obtain ⟨x, hx⟩ : ∃ x, e[j2]! = x := ⟨_, rfl⟩
                                  obtain ⟨y, hy⟩ : ∃ y, e[a]! = y := ⟨_, rfl⟩
                                  rw [hx] at cc
                                  rw [hy] at cd
                                  obtain ⟨lb, hlb⟩ : ∃ lb, lt8 x y = lb := ⟨_, rfl⟩
                                  have CL := less_q x y
                                  rw [hlb] at CL
                                  unfold _root_.Go.Proofs.Ytefpfcheafbfdaa.u8 at cc cd CL
                                  have HX := Lib.hid hx; have HY := Lib.hid hy; have HLB := Lib.hid hlb; have H2 := Lib.hid h2
                                  clear hx hy hlb h2
                                  go_quiet ((go_at_call 78; exact Calls.quiet_of_same (CL _)))
                                  go_wp2
                                  go_meet
                                  exact ⟨!lb, rfl, by rw [HX.out, HY.out, HLB.out, decide_eq_true H2.out]; rfl, (Frm.refl [] wr).drewN _⟩
                                · have h2' : ¬ (i2 : Int) ≤ (j2 : Int) := by omega
                                  have hd2 : decide ((i2 : Int) ≤ (j2 : Int)) = false := by simpa using h2'
                                  have hd3 : decide (i2 ≤ j2) = false := by simpa using h2
                                  have H2 := Lib.hid h2
                                  clear h2
                                  go_quiet (fail)
                                  go_wp2
                                  go_meet
                                  exact ⟨false, rfl, by rw [decide_eq_false H2.out]; rfl, (Frm.refl [] wr).drewN _⟩
                              case rest =>
                                obtain ⟨lb, rfl, hlb, hfc⟩ := hcut
                                have HFC := Lib.hid hfc; have HLB := Lib.hid hlb
                                have HSC := Lib.hid (HS.out.frm0 hfc)
                                clear hlb hfc
                                cases lb with
                                | true =>
                                  obtain ⟨hij, HP⟩ : i2 ≤ j2 ∧ Hid ((!lt8 e[j2]! e[a]!) = true) := by
                                    have := HLB.out
                                    rw [Bool.and_eq_true, decide_eq_true_eq] at this
                                    exact ⟨this.1, Lib.hid this.2⟩
                                  clear HLB
                                  obtain ⟨k, hk⟩ : ∃ k, k + 1 = j2 := ⟨j2 - 1, by omega⟩
                                  have HD2 : Hid (scanDown (fun x => !lt8 x e[a]!) e i2 k = J2) := Lib.hid (by
                                    have := HJ2.out
                                    subst hk
                                    rwa [down_go hij HP.out] at this)
                                  have hki : (j2 : Int) - 1 = (k : Int) := by omega
                                  go_wp2
                                  exact ⟨⟨k, rfl, by omega, by omega, HD2.out, HSC.out, HFX.out.then HFC.out (by simp)⟩, by simp [intOf]; omega⟩
                                | false =>
                                  have HJ2 : Hid (scanDown (fun x => !lt8 x e[a]!) e i2 j = j2) := Lib.hid (by
                                    have := HJ2.out
                                    rw [down_stop (by omega) HLB.out] at this
                                    rw [HJD.out, this])
                                  clear HLB HJD
                                  by_cases hji : j2 < i2
                                  · have hji' : (j2 : Int) < (i2 : Int) := by omega
                                    have hR : (j2, e) = (Lm, LD) := by
                                      have := HO.out
                                      rw [part_step HI2.out HJ2.out, if_pos hji] at this
                                      exact this
                                    obtain ⟨rfl, rfl⟩ := Prod.mk.inj hR
                                    clear hR
                                    have HFW : Hid (Frm [g] w wc) := Lib.hid ((HF2.out.trans HFX.out).then HFC.out (by simp))
                                    go_wp2
                                    go_upto_region 21 with fail
                                    go_cut [] from 153 to 166 (fun wx => SR wx g cap (swp e j2 a) ∧ Frm [g] wc wx)
                                    case first =>
                                      by_cases hij : j2 = a
                                      · subst hij
                                        have hb1 : (j2 : Int) < (n : Int) := by omega
                                        have cc := HSC.out.cell (j := j2) (by rw [HEZ.out]; omega)
                                        obtain ⟨x, hx⟩ : ∃ x, e[j2]! = x := ⟨_, rfl⟩
                                        rw [hx] at cc
                                        have fa := HSC.out.free j2
                                        have hsw := HSC.out.swap (i := j2) (j := j2) (by rw [HEZ.out]; omega) (by rw [HEZ.out]; omega)
                                        rw [hx] at hsw
                                        unfold _root_.Go.Proofs.Ytefpfcheafbfdaa.u8 at cc
                                        have HSW := Lib.hid hsw
                                        clear hx hsw
                                        go_region
                                        go_wp2
                                        go_meet
                                        exact ⟨HSW.out.1.frm0 (Frm.refl [] _).drew, HSW.out.2.drew⟩
                                      · have hij2 : a ≠ j2 := fun h => hij h.symm
                                        have hb1 : (j2 : Int) < (n : Int) := by omega
                                        have hb2 : (a : Int) < (n : Int) := by omega
                                        have cc := HSC.out.cell (j := j2) (by rw [HEZ.out]; omega)
                                        have cd := HSC.out.cell (j := a) (by rw [HEZ.out]; omega)
                                        obtain ⟨x, hx⟩ : ∃ x, e[j2]! = x := ⟨_, rfl⟩
                                        obtain ⟨y, hy⟩ : ∃ y, e[a]! = y := ⟨_, rfl⟩
                                        rw [hx] at cc
                                        rw [hy] at cd
                                        have fa := HSC.out.free j2
                                        have fb := HSC.out.free a
                                        have hsw := HSC.out.swap (i := j2) (j := a) (by rw [HEZ.out]; omega) (by rw [HEZ.out]; omega)
                                        rw [hx, hy] at hsw
                                        unfold _root_.Go.Proofs.Ytefpfcheafbfdaa.u8 at cc cd
                                        have HSW := Lib.hid hsw
                                        clear hx hy hsw
                                        go_region
                                        go_wp2
                                        go_meet
                                        exact ⟨HSW.out.1.frm0 (Frm.refl [] _).drew, HSW.out.2.drew⟩
                                    case rest =>
                                      have HSS := Lib.hid hcut.1; have HFS := Lib.hid hcut.2
                                      have HEZS : Hid ((swp e j2 a).size = n) := Lib.hid (by rw [size_swp8]; exact HEZ.out)
                                      clear hcut
                                      go_wp2
                                      go_ret2
                                      exact ⟨rfl, HSS.out, HFW.out.trans HFS.out⟩
                                  · have hji' : ¬ (j2 : Int) < (i2 : Int) := by omega
                                    go_upto_region 18 with fail
                                    go_cut [] from 132 to 145 (fun wx => SR wx g cap (swp e i2 j2) ∧ Frm [g] wc wx)
                                    case first =>
                                      by_cases hij : i2 = j2
                                      · subst hij
                                        have hb1 : (i2 : Int) < (n : Int) := by omega
                                        have cc := HSC.out.cell (j := i2) (by rw [HEZ.out]; omega)
                                        obtain ⟨x, hx⟩ : ∃ x, e[i2]! = x := ⟨_, rfl⟩
                                        rw [hx] at cc
                                        have fa := HSC.out.free i2
                                        have hsw := HSC.out.swap (i := i2) (j := i2) (by rw [HEZ.out]; omega) (by rw [HEZ.out]; omega)
                                        rw [hx] at hsw
                                        unfold _root_.Go.Proofs.Ytefpfcheafbfdaa.u8 at cc
                                        have HSW := Lib.hid hsw
                                        clear hx hsw
                                        go_region
                                        go_wp2
                                        go_meet
                                        exact ⟨HSW.out.1.frm0 (Frm.refl [] _).drew, HSW.out.2.drew⟩
                                      · have hij2 : j2 ≠ i2 := fun h => hij h.symm
                                        have hb1 : (i2 : Int) < (n : Int) := by omega
                                        have hb2 : (j2 : Int) < (n : Int) := by omega
                                        have cc := HSC.out.cell (j := i2) (by rw [HEZ.out]; omega)
                                        have cd := HSC.out.cell (j := j2) (by rw [HEZ.out]; omega)
                                        obtain ⟨x, hx⟩ : ∃ x, e[i2]! = x := ⟨_, rfl⟩
                                        obtain ⟨y, hy⟩ : ∃ y, e[j2]! = y := ⟨_, rfl⟩
                                        rw [hx] at cc
                                        rw [hy] at cd
                                        have fa := HSC.out.free i2
                                        have fb := HSC.out.free j2
                                        have hsw := HSC.out.swap (i := i2) (j := j2) (by rw [HEZ.out]; omega) (by rw [HEZ.out]; omega)
                                        rw [hx, hy] at hsw
                                        unfold _root_.Go.Proofs.Ytefpfcheafbfdaa.u8 at cc cd
                                        have HSW := Lib.hid hsw
                                        clear hx hy hsw
                                        go_region
                                        go_wp2
                                        go_meet
                                        exact ⟨HSW.out.1.frm0 (Frm.refl [] _).drew, HSW.out.2.drew⟩
                                    case rest =>
                                      have HSS := Lib.hid hcut.1; have HFS := Lib.hid hcut.2
                                      have HEZS : Hid ((swp e i2 j2).size = n) := Lib.hid (by rw [size_swp8]; exact HEZ.out)
                                      clear hcut
                                      have HO2 : Hid (partLoop lt8 a (i2 + 1) (j2 - 1) (swp e i2 j2) = (Lm, LD)) := Lib.hid (by
                                        have := HO.out
                                        rw [part_step HI2.out HJ2.out, if_neg hji] at this
                                        exact this)
                                      have hj0 : 1 ≤ j2 := by omega
                                      have hk0 : ((j2 - 1 : Nat) : Int) = (j2 : Int) - 1 := by omega
                                      go_wp2
                                      exact ⟨⟨i2 + 1, j2 - 1, swp e i2 j2, by push_cast; rfl, by congr 1; omega, by omega, by omega, by omega, by omega, HEZS.out, HO2.out, HSS.out, ((HF2.out.trans HFX.out).then HFC.out (by simp)).trans HFS.out⟩, by simp [intOf]; omega⟩
end Go.Proofs.Ytefpfcheafbfdaa

