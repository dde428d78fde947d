/- Sorting bytes: siftDown. Sorting bytes: heapSort. -/
import Derived.Test.YtefpfcheafbfdaaSrt
import Derived.Deep.CutRange
namespace Go.Proofs.Ytefpfcheafbfdaa
open Go.RowKit Go.Maps Go.BigFrame Go.Sort

theorem sift_step {hi first root c : Nat} (e : Array UInt8) (hc : 2 * root + 1 = c) (hch : ¬ hi ≤ c) : siftDown lt8 hi first root e =
    (if c + 1 < hi && lt8 e[first + c]! e[first + c + 1]! then
      (if !lt8 e[first + root]! e[first + (c + 1)]! then e else siftDown lt8 hi first (c + 1) (swp e (first + root) (first + (c + 1))))
      else if !lt8 e[first + root]! e[first + c]! then e else siftDown lt8 hi first c (swp e (first + root) (first + c))) := by
  subst hc
  conv => lhs; unfold siftDown
  rw [dif_neg (by omega)]
  by_cases h2 : 2 * root + 1 + 1 < hi
  · by_cases h3 : lt8 e[first + (2 * root + 1)]! e[first + (2 * root + 1) + 1]! = true
    · have h4 : (decide (2 * root + 1 + 1 < hi) && lt8 e[first + (2 * root + 1)]! e[first + (2 * root + 1) + 1]!) = true := by rw [h3, decide_eq_true h2]; rfl
      rw [if_pos h4, if_pos h4, dif_pos h2]
    · have h4 : ¬ (decide (2 * root + 1 + 1 < hi) && lt8 e[first + (2 * root + 1)]! e[first + (2 * root + 1) + 1]!) = true := by rw [decide_eq_true h2, Bool.true_and]; exact h3
      rw [if_neg h4, if_neg h4]
  · have h4 : ¬ (decide (2 * root + 1 + 1 < hi) && lt8 e[first + (2 * root + 1)]! e[first + (2 * root + 1) + 1]!) = true := by rw [decide_eq_false h2]; simp
    rw [if_neg h4, if_neg h4]
set_option maxHeartbeats 2000000 in
set_option maxRecDepth 100000 in
theorem sift_any (g cap : Nat) (d : Array UInt8) (lo hi first : Nat) (w : World) (h : SR w g cap d) (hb : first + hi ≤ d.size) (hlo : lo ≤ hi) (hn : d.size ≤ 1000) : Calls Try.prog 83 #[.slice (some ⟨g, 0, none⟩) d.size cap, .int .i64 lo, .int .i64 hi, .int .i64 first] w (Ret (.tuple #[]) (SrtTo g cap (siftDown lt8 hi first lo d) w)) := by
  obtain ⟨n, hn0⟩ : ∃ n, d.size = n := ⟨_, rfl⟩
  have H0 : Hid (d.size = n ∧ SR w g cap d) := Lib.hid ⟨hn0, h⟩
  rw [hn0] at hb hn ⊢
  obtain ⟨R, hR⟩ : ∃ R, siftDown lt8 hi first lo d = R := ⟨_, rfl⟩
  rw [hR]
  have HR := Lib.hid hR
  clear h hR hn0
  go_enter Try.func83, Try.ntmps83
  go_wp2
  go_loopw [8] (fun s8 wr => ∃ (root : Nat) (e : Array UInt8), s8 = .int .i64 root ∧ root ≤ hi ∧ e.size = n ∧ siftDown lt8 hi first root e = R ∧ SR wr g cap e ∧ Frm [g] w wr) (fun s8 _ => hi - (intOf s8).toNat)
  case atStart => exact ⟨lo, d, rfl, hlo, H0.out.1, HR.out, H0.out.2, Frm.refl _ _⟩
  case round =>
    clear H0 HR
    obtain ⟨root, e, rfl, hrt, hez, ho, hs, hf⟩ := hrel
    have HO := Lib.hid ho; have HS := Lib.hid hs; have HF := Lib.hid hf; have HEZ := Lib.hid hez
    clear ho hs hf hez
    obtain ⟨c, hc⟩ : ∃ c, 2 * root + 1 = c := ⟨_, rfl⟩
    have e1 : 2 * (root : Int) + 1 = (c : Int) := by omega
    have HC := Lib.hid hc
    have hc3 : c ≤ 2 * 1000 + 1 := by omega
    by_cases hch : hi ≤ c
    · have hch' : (hi : Int) ≤ (c : Int) := by omega
      have hR : e = R := by
        have := HO.out
        unfold siftDown at this
        rwa [dif_pos (by omega)] at this
      subst hR
      clear hc
      go_wp2
      go_end0
      exact ⟨rfl, HS.out, HF.out⟩
    · have hch' : ¬ (hi : Int) ≤ (c : Int) := by omega
      have hO : (if c + 1 < hi && lt8 e[first + c]! e[first + c + 1]! then
          (if !lt8 e[first + root]! e[first + (c + 1)]! then e else siftDown lt8 hi first (c + 1) (swp e (first + root) (first + (c + 1))))
          else if !lt8 e[first + root]! e[first + c]! then e else siftDown lt8 hi first c (swp e (first + root) (first + c))) = R := by
        rw [← sift_step e hc hch]; exact HO.out
      have HO2 := Lib.hid hO
      clear hO HO hc
      go_upto_region 3 with fail
      go_cut [36] from 11 to 75 (fun s36 wx => ∃ lb : Bool, s36 = .bool lb ∧ (decide (c + 1 < hi) && lt8 e[first + c]! e[first + c + 1]!) = lb ∧ Frm [] wr wx)
      case first =>
        obtain ⟨fc, hfc⟩ : ∃ fc, first + c = fc := ⟨_, rfl⟩
        obtain ⟨fd, hfd⟩ : ∃ fd, first + c + 1 = fd := ⟨_, rfl⟩
        have HFC := Lib.hid hfc; have HFD := Lib.hid hfd
        have g1 : IntKind.i64.wrap ((first : Int) + (c : Int)) = (fc : Int) := by rw [IntWalk.i64_in _ (by omega)]; omega
        have g2 : IntKind.i64.wrap ((fc : Int) + 1) = (fd : Int) := by rw [IntWalk.i64_in _ (by omega)]; omega
        have g3 : IntKind.i64.wrap ((c : Int) + 1) = (c : Int) + 1 := IntWalk.i64_in _ (by omega)
        by_cases h2 : c + 1 < hi
        · have h2' : (c : Int) + 1 < (hi : Int) := by omega
          have hd2 : decide ((c : Int) + 1 < (hi : Int)) = true := by simpa using h2'
          have hb1 : (fc : Int) < (n : Int) := by omega
          have hb2 : (fd : Int) < (n : Int) := by omega
          have cc := HS.out.cell (j := fc) (by rw [HEZ.out]; omega)
          have cd := HS.out.cell (j := fd) (by rw [HEZ.out]; omega)
          obtain ⟨x, hx⟩ : ∃ x, e[fc]! = x := ⟨_, rfl⟩
          obtain ⟨y, hy⟩ : ∃ y, e[fd]! = y := ⟨_, rfl⟩
          rw [hx] at cc
          rw [hy] at cd
          obtain ⟨lb, hlb⟩ : ∃ lb, lt8 x y = lb := ⟨_, rfl⟩
          have CL := less_q x y
          rw [hlb] at CL
          unfold _root_.Go.Proofs.Ytefpfcheafbfdaa.u8 at cc cd CL
          have HX := Lib.hid hx; have HY := Lib.hid hy; have HLB := Lib.hid hlb; have H2 := Lib.hid h2
          clear hx hy hlb hfc hfd h2
          go_quiet ((go_at_call 78; exact Calls.quiet_of_same (CL _)))
          go_wp2
          go_meet
          exact ⟨lb, rfl, by rw [HFD.out, HFC.out, HX.out, HY.out, HLB.out, decide_eq_true H2.out]; rfl, (Frm.refl [] wr).drewN _⟩
        · have h2' : ¬ (c : Int) + 1 < (hi : Int) := by omega
          have hd2 : decide ((c : Int) + 1 < (hi : Int)) = false := by simpa using h2'
          have H2 := Lib.hid h2
          clear hfc hfd h2
          go_quiet (fail)
          go_wp2
          go_meet
          exact ⟨false, rfl, by rw [decide_eq_false H2.out]; rfl, (Frm.refl [] wr).drewN _⟩
      case rest =>
        obtain ⟨lb, rfl, hlb, hfc⟩ := hcut
        have hR0 := HO2.out
        rw [hlb] at hR0
        have HFC := Lib.hid hfc
        have HS2 := Lib.hid (HS.out.frm0 hfc)
        cases lb with
        | true =>
          obtain ⟨c', hc'⟩ : ∃ c', c + 1 = c' := ⟨_, rfl⟩
          have hrc : root < c' := by have := HC.out; omega
          have hch2 : c' < hi := by simp only [Bool.and_eq_true, decide_eq_true_eq] at hlb; omega
          have hR : (if !lt8 e[first + root]! e[first + c']! then e else siftDown lt8 hi first c' (swp e (first + root) (first + c'))) = R := by
            rw [← hc']
            simpa using hR0
          have HR := Lib.hid hR
          have hci : ((c : Int) + 1) = (c' : Int) := by omega
          clear hlb hR0 hc'
          
          
          obtain ⟨fr, hfr⟩ : ∃ fr, first + root = fr := ⟨_, rfl⟩
          obtain ⟨fc, hfc2⟩ : ∃ fc, first + c' = fc := ⟨_, rfl⟩
          have HFR := Lib.hid hfr; have HFC2 := Lib.hid hfc2
          have g1 : IntKind.i64.wrap ((first : Int) + (c' : Int)) = (fc : Int) := by rw [IntWalk.i64_in _ (by omega)]; omega
          have g2 : IntKind.i64.wrap ((first : Int) + (root : Int)) = (fr : Int) := by rw [IntWalk.i64_in _ (by omega)]; omega
          have g3 : (first : Int) + (c' : Int) = (fc : Int) := by omega
          have g4 : (first : Int) + (root : Int) = (fr : Int) := by omega
          have hb1 : (fc : Int) < (n : Int) := by omega
          have hb2 : (fr : Int) < (n : Int) := by omega
          have cc := HS2.out.cell (j := fr) (by rw [HEZ.out]; omega)
          have cd := HS2.out.cell (j := fc) (by rw [HEZ.out]; omega)
          obtain ⟨x, hx⟩ : ∃ x, e[fr]! = x := ⟨_, rfl⟩
          obtain ⟨y, hy⟩ : ∃ y, e[fc]! = y := ⟨_, rfl⟩
          rw [hx] at cc
          rw [hy] at cd
          obtain ⟨lb, hlb⟩ : ∃ lb, lt8 x y = lb := ⟨_, rfl⟩
          have CL := less_q x y
          rw [hlb] at CL
          unfold _root_.Go.Proofs.Ytefpfcheafbfdaa.u8 at cc cd CL
          have HX := Lib.hid hx; have HY := Lib.hid hy; have HLB := Lib.hid hlb
          have HB1 : Hid (fr < n ∧ fc < n) := Lib.hid (by omega)
          clear hx hy hlb hfr hfc hfc2 hR
          go_upto_region 5 with fail
          go_quiet ((go_at_call 78; exact Calls.quiet_of_same (CL _)))
          obtain ⟨w2, hw2⟩ : ∃ w2, wc.drewN nq = w2 := ⟨_, rfl⟩
          have HD2 : Hid (Frm [] wc w2) := Lib.hid (by rw [← hw2]; exact (Frm.refl [] wc).drewN _)
          rw [hw2]
          have cc := HD2.out.keep cc
          have cd := HD2.out.keep cd
          have HS3 := Lib.hid (HS2.out.frm0 HD2.out)
          have fk := HS3.out.free fr
          have fj := HS3.out.free fc
          clear hw2 CL
          cases lb with
          | true =>
            go_upto_region 6 with fail
            go_region
            have hsw := HS3.out.swap (i := fr) (j := fc) (by rw [HEZ.out]; exact HB1.out.1) (by rw [HEZ.out]; exact HB1.out.2)
            rw [HX.out, HY.out] at hsw
            have HSW := Lib.hid hsw
            clear hsw cc cd fk fj
            go_wp2
            refine ⟨⟨c', swp e fr fc, rfl, by omega, by rw [size_swp8]; exact HEZ.out, ?_, HSW.out.1.frm0 (Frm.refl [] _).drew, (((HF.out.then HFC.out (by simp)).then HD2.out (by simp)).trans HSW.out.2).drew⟩, by simp [intOf]; omega⟩
            have := HR.out
            rw [HFR.out, HFC2.out, HX.out, HY.out, HLB.out, if_neg (by simp)] at this
            exact this
          | false =>
            go_wp2
            go_end0
            have := HR.out
            rw [HFR.out, HFC2.out, HX.out, HY.out, HLB.out, if_pos (by rfl)] at this
            subst this
            exact ⟨rfl, HS3.out, (HF.out.then HFC.out (by simp)).then HD2.out (by simp)⟩
        | false =>
          obtain ⟨c', hc'⟩ : ∃ c', c = c' := ⟨_, rfl⟩
          have hrc : root < c' := by have := HC.out; omega
          have hch2 : c' < hi := by omega
          have hR : (if !lt8 e[first + root]! e[first + c']! then e else siftDown lt8 hi first c' (swp e (first + root) (first + c'))) = R := by
            rw [← hc']
            simpa using hR0
          have HR := Lib.hid hR
          have hci : ((c : Int)) = (c' : Int) := by omega
          clear hlb hR0 hc'
          obtain rfl : c' = c := by omega
          clear hci
          obtain ⟨fr, hfr⟩ : ∃ fr, first + root = fr := ⟨_, rfl⟩
          obtain ⟨fc, hfc2⟩ : ∃ fc, first + c' = fc := ⟨_, rfl⟩
          have HFR := Lib.hid hfr; have HFC2 := Lib.hid hfc2
          have g1 : IntKind.i64.wrap ((first : Int) + (c' : Int)) = (fc : Int) := by rw [IntWalk.i64_in _ (by omega)]; omega
          have g2 : IntKind.i64.wrap ((first : Int) + (root : Int)) = (fr : Int) := by rw [IntWalk.i64_in _ (by omega)]; omega
          have g3 : (first : Int) + (c' : Int) = (fc : Int) := by omega
          have g4 : (first : Int) + (root : Int) = (fr : Int) := by omega
          have hb1 : (fc : Int) < (n : Int) := by omega
          have hb2 : (fr : Int) < (n : Int) := by omega
          have cc := HS2.out.cell (j := fr) (by rw [HEZ.out]; omega)
          have cd := HS2.out.cell (j := fc) (by rw [HEZ.out]; omega)
          obtain ⟨x, hx⟩ : ∃ x, e[fr]! = x := ⟨_, rfl⟩
          obtain ⟨y, hy⟩ : ∃ y, e[fc]! = y := ⟨_, rfl⟩
          rw [hx] at cc
          rw [hy] at cd
          obtain ⟨lb, hlb⟩ : ∃ lb, lt8 x y = lb := ⟨_, rfl⟩
          have CL := less_q x y
          rw [hlb] at CL
          unfold _root_.Go.Proofs.Ytefpfcheafbfdaa.u8 at cc cd CL
          have HX := Lib.hid hx; have HY := Lib.hid hy; have HLB := Lib.hid hlb
          have HB1 : Hid (fr < n ∧ fc < n) := Lib.hid (by omega)
          clear hx hy hlb hfr hfc hfc2 hR
          go_upto_region 5 with fail
          go_quiet ((go_at_call 78; exact Calls.quiet_of_same (CL _)))
          obtain ⟨w2, hw2⟩ : ∃ w2, wc.drewN nq = w2 := ⟨_, rfl⟩
          have HD2 : Hid (Frm [] wc w2) := Lib.hid (by rw [← hw2]; exact (Frm.refl [] wc).drewN _)
          rw [hw2]
          have cc := HD2.out.keep cc
          have cd := HD2.out.keep cd
          have HS3 := Lib.hid (HS2.out.frm0 HD2.out)
          have fk := HS3.out.free fr
          have fj := HS3.out.free fc
          clear hw2 CL
          cases lb with
          | true =>
            go_upto_region 6 with fail
            go_region
            have hsw := HS3.out.swap (i := fr) (j := fc) (by rw [HEZ.out]; exact HB1.out.1) (by rw [HEZ.out]; exact HB1.out.2)
            rw [HX.out, HY.out] at hsw
            have HSW := Lib.hid hsw
            clear hsw cc cd fk fj
            go_wp2
            refine ⟨⟨c', swp e fr fc, rfl, by omega, by rw [size_swp8]; exact HEZ.out, ?_, HSW.out.1.frm0 (Frm.refl [] _).drew, (((HF.out.then HFC.out (by simp)).then HD2.out (by simp)).trans HSW.out.2).drew⟩, by simp [intOf]; omega⟩
            have := HR.out
            rw [HFR.out, HFC2.out, HX.out, HY.out, HLB.out, if_neg (by simp)] at this
            exact this
          | false =>
            go_wp2
            go_end0
            have := HR.out
            rw [HFR.out, HFC2.out, HX.out, HY.out, HLB.out, if_pos (by rfl)] at this
            subst this
            exact ⟨rfl, HS3.out, (HF.out.then HFC.out (by simp)).then HD2.out (by simp)⟩
theorem size_sift (hi first : Nat) : ∀ (m root : Nat) (e : Array UInt8), hi - root ≤ m → (siftDown lt8 hi first root e).size = e.size
  | 0, root, e, hm => by unfold siftDown; rw [dif_pos (by omega)]
  | m + 1, root, e, hm => by
    by_cases h : hi ≤ 2 * root + 1
    · unfold siftDown; rw [dif_pos (by omega)]
    · rw [sift_step e rfl h]
      have ih := fun r e' (h : hi - r ≤ m) => size_sift hi first m r e' h
      split
      · split
        · rfl
        · rw [ih _ _ (by omega), size_swp8]
      · split
        · rfl
        · rw [ih _ _ (by omega), size_swp8]
end Go.Proofs.Ytefpfcheafbfdaa
namespace Go.Proofs.Ytefpfcheafbfdaa
open Go.RowKit Go.Maps Go.BigFrame Go.Sort

set_option maxHeartbeats 2000000 in
set_option maxRecDepth 100000 in
theorem heap_any (g cap : Nat) (d : Array UInt8) (a b : Nat) (w : World) (h : SR w g cap d) (hb : b ≤ d.size) (hab : a < b) (hn : d.size ≤ 1000) : Calls Try.prog 73 #[.slice (some ⟨g, 0, none⟩) d.size cap, .int .i64 a, .int .i64 b] w (Ret (.tuple #[]) (SrtTo g cap (heapSort lt8 d a b) w)) := by
  obtain ⟨n, hn0⟩ : ∃ n, d.size = n := ⟨_, rfl⟩
  have H0 : Hid (d.size = n ∧ SR w g cap d) := Lib.hid ⟨hn0, h⟩
  rw [hn0] at hb hn ⊢
  obtain ⟨R, hR⟩ : ∃ R, heapSort lt8 d a b = R := ⟨_, rfl⟩
  rw [hR]
  unfold heapSort at hR
  obtain ⟨hi, hhi⟩ : ∃ hi, b - a = hi := ⟨_, rfl⟩
  rw [hhi] at hR
  have e1 : (b : Int) - (a : Int) = (hi : Int) := by omega
  have hi1 : 1 ≤ hi := by omega
  have hib : a + hi ≤ n := by omega
  obtain ⟨E1, hE1⟩ : ∃ E1, heapBuild lt8 hi a ((hi - 1) / 2 + 1) d = E1 := ⟨_, rfl⟩
  rw [hE1] at hR
  have HR := Lib.hid hR; have HE1 := Lib.hid hE1
  obtain ⟨k0, hk0⟩ : ∃ k0, (hi - 1) / 2 = k0 := ⟨_, rfl⟩
  rw [hk0] at HE1
  have e2 : Hid (((hi : Int) - 1) / 2 = (k0 : Int)) := Lib.hid (by omega)
  have hk0l : k0 < hi := by omega
  clear h hR hn0 hhi hE1 hk0
  go_enter Try.func73, Try.ntmps73
  go_wp2
  go_loopw [9] (fun s9 wr => ∃ (k : Nat) (e : Array UInt8), s9 = .int .i64 ((k : Int) - 1) ∧ k ≤ hi ∧ e.size = n ∧ heapBuild lt8 hi a k e = E1 ∧ SR wr g cap e ∧ Frm [g] w wr) (fun s9 _ => (intOf s9 + 1).toNat)
  case atStart => exact ⟨k0 + 1, d, by congr 1; have := e2.out; omega, by omega, H0.out.1, HE1.out, H0.out.2, Frm.refl _ _⟩
  case round =>
    clear H0 HE1
    obtain ⟨k, e, rfl, hk, hez, hE, hs, hf⟩ := hrel
    have HE := Lib.hid hE; have HS := Lib.hid hs; have HF := Lib.hid hf; have HEZ := Lib.hid hez
    clear hE hs hf hez
    cases k with
    | zero =>
      have hneg : ¬ (0 : Int) ≤ ((0 : Nat) : Int) - 1 := by omega
      have hE2 : e = E1 := by simpa [heapBuild] using HE.out
      subst hE2
      go_wp2
      go_loopw [10] (fun s10 wi => ∃ (k : Nat) (e' : Array UInt8), s10 = .int .i64 ((k : Int) - 1) ∧ k ≤ hi ∧ e'.size = n ∧ heapPop lt8 a k e' = R ∧ SR wi g cap e' ∧ Frm [g] w wi) (fun s10 _ => (intOf s10 + 1).toNat)
      case atStart => exact ⟨hi, e, rfl, Nat.le_refl _, HEZ.out, HR.out, HS.out, HF.out⟩
      case round =>
        obtain ⟨k, e', rfl, hk2, hez2, hE2, hs2, hf2⟩ := hrel
        have HE2 := Lib.hid hE2; have HS2 := Lib.hid hs2; have HF2 := Lib.hid hf2; have HEZ2 := Lib.hid hez2
        clear hE2 hs2 hf2 hez2
        cases k with
        | zero =>
          have hneg : ¬ (0 : Int) ≤ ((0 : Nat) : Int) - 1 := by omega
          have hR2 : e' = R := by simpa [heapPop] using HE2.out
          subst hR2
          go_wp2
          go_end0
          exact ⟨rfl, HS2.out, HF2.out⟩
        | succ k =>
          rcases Nat.eq_zero_or_pos k with rfl | hkp
          · have ek : ((0 + 1 : Nat) : Int) - 1 = 0 := rfl
            rw [ek]
            have hb2 : (a : Int) < (n : Int) := by omega
            have ca := HS2.out.cell (j := a) (by rw [HEZ2.out]; omega)
            have fa := HS2.out.free a
            have hsw := HS2.out.swap (i := a) (j := a) (by rw [HEZ2.out]; omega) (by rw [HEZ2.out]; omega)
            obtain ⟨x, hx⟩ : ∃ x, e'[a]! = x := ⟨_, rfl⟩
            rw [hx] at ca hsw
            unfold _root_.Go.Proofs.Ytefpfcheafbfdaa.u8 at ca
            have HSW := Lib.hid hsw
            have HPop : Hid (heapPop lt8 a 0 (siftDown lt8 0 a 0 (swp e' a a)) = R) := Lib.hid (by have := HE2.out; unfold heapPop at this; exact this)
            have CS : Hid (∀ W, SR W g cap (swp e' a a) → Calls Try.prog 83 #[.slice (some ⟨g, 0, none⟩) n cap, .int .i64 0, .int .i64 0, .int .i64 a] W (Ret (.tuple #[]) (SrtTo g cap (siftDown lt8 0 a 0 (swp e' a a)) W))) := Lib.hid fun W hs => by
              have := sift_any g cap (swp e' a a) 0 0 a W hs (by rw [size_swp8, HEZ2.out]; omega) (Nat.zero_le _) (by rw [size_swp8, HEZ2.out]; exact hn)
              rw [size_swp8, HEZ2.out] at this
              exact this
            have g1 : IntKind.i64.wrap (a : Int) = (a : Int) := IntWalk.i64_in _ (by omega)
            clear hx hsw ek
            go_upto_region 10 with fail
            go_region
            clear ca fa g1
            go_wp2_with (go_at_call 83; go_must (refine (CS.out _ (HSW.out.1.frm0 (Frm.refl [] _).drew)).mono ?_; clear CS; rintro e5 w5 ⟨rfl, h5⟩; have H5 := Lib.hid h5; clear h5))
            exact ⟨⟨0, siftDown lt8 0 a 0 (swp e' a a), rfl, Nat.zero_le _, by rw [size_sift _ _ _ _ _ (Nat.le_refl _), size_swp8]; exact HEZ2.out, HPop.out, H5.out.1, ((HF2.out.trans HSW.out.2).drew).trans H5.out.2⟩, by simp [intOf]⟩
          · have ek : ((k + 1 : Nat) : Int) - 1 = (k : Int) := by omega
            rw [ek]
            obtain ⟨f, hf⟩ : ∃ f, a + k = f := ⟨_, rfl⟩
            have e3 : (a : Int) + (k : Int) = (f : Int) := by omega
            have haf : a ≠ f := by omega
            have hfa' : f ≠ a := by omega
            have hb1 : (f : Int) < (n : Int) := by omega
            have hb2 : (a : Int) < (n : Int) := by omega
            have ca := HS2.out.cell (j := a) (by rw [HEZ2.out]; omega)
            have cf := HS2.out.cell (j := f) (by rw [HEZ2.out]; omega)
            have fa := HS2.out.free a
            have ff := HS2.out.free f
            have hsw := HS2.out.swap (i := a) (j := f) (by rw [HEZ2.out]; omega) (by rw [HEZ2.out]; omega)
            obtain ⟨x, hx⟩ : ∃ x, e'[a]! = x := ⟨_, rfl⟩
            obtain ⟨y, hy⟩ : ∃ y, e'[f]! = y := ⟨_, rfl⟩
            rw [hx] at ca
            rw [hy] at cf
            rw [hx, hy] at hsw
            unfold _root_.Go.Proofs.Ytefpfcheafbfdaa.u8 at ca cf
            have HSW := Lib.hid hsw
            have HPop : Hid (heapPop lt8 a k (siftDown lt8 k a 0 (swp e' a f)) = R) := Lib.hid (by have := HE2.out; unfold heapPop at this; rwa [hf] at this)
            have CS : Hid (∀ W, SR W g cap (swp e' a f) → Calls Try.prog 83 #[.slice (some ⟨g, 0, none⟩) n cap, .int .i64 0, .int .i64 k, .int .i64 a] W (Ret (.tuple #[]) (SrtTo g cap (siftDown lt8 k a 0 (swp e' a f)) W))) := Lib.hid fun W hs => by
              have := sift_any g cap (swp e' a f) 0 k a W hs (by rw [size_swp8, HEZ2.out]; omega) (Nat.zero_le _) (by rw [size_swp8, HEZ2.out]; exact hn)
              rw [size_swp8, HEZ2.out] at this
              exact this
            have HK2 := Lib.hid hk2
            have g1 : IntKind.i64.wrap (f : Int) = (f : Int) := IntWalk.i64_in _ (by omega)
            clear hx hy hsw hf ek hk2
            go_upto_region 10 with fail
            go_region
            clear ca cf fa ff g1 e3
            have hk5 : (k : Int) ≤ 2000 := by have := HK2.out; omega
            go_wp2_with (go_at_call 83; go_must (refine (CS.out _ (HSW.out.1.frm0 (Frm.refl [] _).drew)).mono ?_; clear CS; rintro e5 w5 ⟨rfl, h5⟩; have H5 := Lib.hid h5; clear h5))
            exact ⟨⟨k, siftDown lt8 k a 0 (swp e' a f), rfl, by have := HK2.out; omega, by rw [size_sift _ _ _ _ _ (Nat.le_refl _), size_swp8]; exact HEZ2.out, HPop.out, H5.out.1, ((HF2.out.trans HSW.out.2).drew).trans H5.out.2⟩, by simp [intOf]⟩
    | succ k =>
      have ek : ((k + 1 : Nat) : Int) - 1 = (k : Int) := by omega
      rw [ek]
      have CS : Hid (Calls Try.prog 83 #[.slice (some ⟨g, 0, none⟩) n cap, .int .i64 k, .int .i64 hi, .int .i64 a] wr (Ret (.tuple #[]) (SrtTo g cap (siftDown lt8 hi a k e) wr))) := Lib.hid (by
        have := sift_any g cap e k hi a wr HS.out (by rw [HEZ.out]; omega) (by omega) (by rw [HEZ.out]; exact hn)
        rw [HEZ.out] at this
        exact this)
      have HB : Hid (heapBuild lt8 hi a k (siftDown lt8 hi a k e) = E1) := Lib.hid (by have := HE.out; unfold heapBuild at this; exact this)
      have HK2 := Lib.hid hk
      have hk3 : (k : Int) ≤ 2000 := by omega
      clear ek hk
      go_wp2_with (go_at_call 83; go_must (refine CS.out.mono ?_; clear CS; rintro e5 w5 ⟨rfl, h5⟩; have H5 := Lib.hid h5; clear h5))
      exact ⟨⟨k, siftDown lt8 hi a k e, rfl, by have := HK2.out; omega, by rw [size_sift _ _ _ _ _ (Nat.le_refl _)]; exact HEZ.out, HB.out, H5.out.1, HF.out.trans H5.out.2⟩, by simp [intOf]⟩
end Go.Proofs.Ytefpfcheafbfdaa
