/- Sorting bytes: breakPatterns. The walk began as gen_sort3.py's print. -/
import Derived.Test.YtefpfcheafbfdaaSrtF
import Derived.Test.YtefpfcheafbfdaaLays
import Derived.Sort.LotD5
import Derived.Shelf.SlSortCmp.Xorshift
namespace Go.Proofs.Ytefpfcheafbfdaa
open Go.RowKit Go.Maps Go.BigFrame Go.Sort

/-- the cell of the random generator -/
def RN (w : World) (m : Nat) (r : UInt64) : Prop := w.heap[m]? = some (.cells #[.int .u64 r.toNat] 112 (0, 0))
theorem xor_any (rb ro X : Nat) (hX : X < 18446744073709551616) (w : World) (hc : w.cell? ⟨rb, ro, none⟩ = some (.int .u64 X)) (hf : w.frozen? ⟨rb, ro, none⟩ = false) :
    Calls Try.prog 85 #[.pointer (some ⟨rb, ro, none⟩)] w fun e w' => e = .returned (.int .u64 (xorNextN X : Nat)) ∧ w' = (w.setCell ⟨rb, ro, none⟩ (.int .u64 (xorNextN X : Nat))).drewN 3 :=
  AnyF.xorshift_Next Try.xorA rb ro X hX w hc hf
theorem npot_any (n : Nat) (hn : n < 4611686018427387904) (w : World) : Calls Try.prog 84 #[.int .i64 n] w fun e w' => e = .returned (.int .u64 ((1 <<< bitsLen n : Nat) : Int)) ∧ w' = w :=
  AnyF.nextPowerOfTwo Try.npotA n hn w
/-- so many rounds, from this index -/
def bpR (a L M : Nat) : Nat → Nat → UInt64 × Array UInt8 → UInt64 × Array UInt8
  | 0, _, st => st
  | k + 1, i, st => bpR a L M k (i + 1) (breakStep a L M st i)
theorem brk_eq (d : Array UInt8) (a b L : Nat) (h : a + L = b) (h8 : 8 ≤ L) : breakPatterns d a b = (bpR a L (1 <<< bitsLen L) 3 (a + L / 4 * 2 - 1) (UInt64.ofNat L, d)).2 := by
  have e : b - a = L := by omega
  unfold breakPatterns
  simp only [e, ge_iff_le]
  rw [if_pos h8]
  rfl
theorem bp_step (a L M k i : Nat) (r : UInt64) (e : Array UInt8) (f : Nat) (h : breakStep a L M (r, e) i = (xorNext r, swp e i f)) : (bpR a L M (k + 1) i (r, e)).2 = (bpR a L M k (i + 1) (xorNext r, swp e i f)).2 := by
  rw [bpR, h]
theorem bp_zero (a L M i : Nat) (r : UInt64) (e : Array UInt8) : (bpR a L M 0 i (r, e)).2 = e := rfl
attribute [local irreducible] bpR breakStep
set_option maxHeartbeats 4000000 in
set_option maxRecDepth 100000 in
theorem brk_go (g cap : Nat) (d : Array UInt8) (a b L : Nat) (w : World) (h : SR w g cap d) (hb : b ≤ d.size) (hab : a + L = b) (h8 : 8 ≤ L) (hn : d.size ≤ 1000) : Calls Try.prog 74 #[.slice (some ⟨g, 0, none⟩) d.size cap, .int .i64 a, .int .i64 b] w (Ret (.tuple #[]) (SrtTo g cap (breakPatterns d a b) w)) := by
  rw [brk_eq d a b L hab h8]
  obtain ⟨q, hq⟩ : ∃ q, L / 4 * 2 = q := ⟨_, rfl⟩
  obtain ⟨M, hM⟩ : ∃ M : Nat, M = 1 <<< bitsLen L := ⟨_, rfl⟩
  have hM1 : 1 ≤ M := by rw [hM, Nat.one_shiftLeft]; exact Nat.two_pow_pos _
  have hM2 : M ≤ 2 * L := by rw [hM, Nat.one_shiftLeft]; exact two_pow_bitsLen_le (by omega)
  have HNP := Lib.hid (npot_any L (by omega))
  rw [← hM] at HNP ⊢
  rw [hq]
  obtain ⟨n, hn0⟩ : ∃ n, d.size = n := ⟨_, rfl⟩
  have HEZ0 := Lib.hid hn0
  rw [hn0] at hb hn ⊢
  obtain ⟨R, hR⟩ : ∃ R, (bpR a L M 3 (a + q - 1) (UInt64.ofNat L, d)).2 = R := ⟨_, rfl⟩
  rw [hR]
  have HR0 := Lib.hid hR
  have hw0 : SR (w.alloc (.cells #[.int .u64 L] 112)) g cap d := h.frm0 ((Frm.refl [] w).alloc _)
  have hm0 : RN (w.alloc (.cells #[.int .u64 L] 112)) w.heap.size (UInt64.ofNat L) := by
    have e : (UInt64.ofNat L).toNat = L := by simp; omega
    unfold RN
    rw [e]
    show (w.heap.push _)[w.heap.size]? = _
    exact Array.getElem?_push_size
  have hgm : g ≠ w.heap.size := by
    obtain ⟨cur, h1, -⟩ := h
    have := lt_of_block h1
    omega
  have HW0 := Lib.hid hw0; have HM0 := Lib.hid hm0
  have HF0 : Hid (Frm [g, w.heap.size] w (w.alloc (.cells #[.int .u64 L] 112))) := Lib.hid ((Frm.refl _ w).alloc _)
  have e1 : (b : Int) - (a : Int) = (L : Int) := by omega
  have e2 : (L : Int) / 4 * 2 = (q : Int) := by omega
  have hq1 : 4 ≤ q := by omega
  have hqL : 2 * q ≤ L := by omega
  clear h hM hn0 hR hw0 hm0 hq
  go_enter Try.func74, Try.ntmps74
  go_upto_region 3 with fail
  obtain ⟨m, hm⟩ : ∃ m, m = w.heap.size := ⟨_, rfl⟩
  obtain ⟨W, hW⟩ : ∃ W, W = w.alloc (.cells #[.int .u64 L] 112) := ⟨_, rfl⟩
  rw [← hm, ← hW] at HM0 HF0
  rw [← hm] at hgm
  rw [← hW] at HW0
  rw [← hm, ← hW]
  have HMW : Hid (w.heap.size ≤ m) := Lib.hid (by omega)
  clear hm hW
  go_wp2_with (go_at_call 84; go_must (refine (HNP.out _).mono ?_; clear HNP; rintro e w1 ⟨rfl, rfl⟩))
  go_loopw [9] (fun s9 wr => ∃ (k i : Nat) (r : UInt64) (e : Array UInt8), s9 = .int .i64 i ∧ i + k = a + q + 2 ∧ e.size = n ∧ (bpR a L M k i (r, e)).2 = R ∧ SR wr g cap e ∧ RN wr m r ∧ Frm [g, m] w wr) (fun s9 _ => (a + q + 2) - (intOf s9).toNat)
  case atStart => exact ⟨3, a + q - 1, UInt64.ofNat L, d, congrArg (Value.int .i64) (by omega), by omega, HEZ0.out, HR0.out, HW0.out, HM0.out, HF0.out⟩
  case round =>
    clear HEZ0 HR0 HW0 HM0 HF0
    obtain ⟨k, i, r, e, rfl, hik, hez, hr, hs, hrn, hf⟩ := hrel
    have HR := Lib.hid hr; have HS := Lib.hid hs; have HRN := Lib.hid hrn; have HF := Lib.hid hf; have HEZ := Lib.hid hez
    clear hr hs hrn hf hez
    cases k with
    | zero =>
      have hlt : ¬ (i : Int) ≤ (a : Int) + (q : Int) + 1 := by omega
      have hR : e = R := by rw [← HR.out, bp_zero]
      subst hR
      go_wp2
      go_end0
      exact ⟨rfl, HS.out, HF.out.mono (by intro x hx; simp at hx; rcases hx with rfl | rfl; exact .inl (by simp); exact .inr HMW.out)⟩
    | succ k =>
      have hlt : (i : Int) ≤ (a : Int) + (q : Int) + 1 := by omega
      obtain ⟨R', hR'⟩ : ∃ R' : Nat, R' = xorNextN r.toNat := ⟨_, rfl⟩
      have lR' : R' < 18446744073709551616 := by rw [hR']; exact xorNextN_lt _ r.toNat_lt
      have eR' : (xorNext r).toNat = R' := by rw [xorNext_toNat, hR']
      obtain ⟨O, hO⟩ : ∃ O : Nat, O = R' &&& (M - 1) := ⟨_, rfl⟩
      have lO : O ≤ M - 1 := by rw [hO]; exact Nat.and_le_right
      have eAnd : bits .and .u64 (R' : Int) ((M : Int) - 1) = (O : Int) := by
        rw [show ((M : Int) - 1) = ((M - 1 : Nat) : Int) by omega, bits_and_u64_nat _ _ lR' (by omega), hO]
      obtain ⟨o, ho⟩ : ∃ o, (if O ≥ L then O - L else O) = o := ⟨_, rfl⟩
      have hoL : o < L := by rw [← ho]; split <;> omega
      obtain ⟨f, hf⟩ : ∃ f, a + o = f := ⟨_, rfl⟩
      have HO : Hid (breakStep a L M (r, e) i = (xorNext r, swp e i f)) := Lib.hid (by
        unfold breakStep
        simp only [eR', ← hO, ho, hf])
      have CX : Hid (Calls Try.prog 85 #[.pointer (some ⟨m, 0, none⟩)] wr fun e w' => e = .returned (.int .u64 (R' : Int)) ∧ w' = (wr.setCell ⟨m, 0, none⟩ (.int .u64 (R' : Int))).drewN 3) := Lib.hid (by
        rw [hR']
        exact xor_any m 0 r.toNat r.toNat_lt wr (cell_of HRN.out 0) (free_of HRN.out 0))
      have HM2 : Hid (RN ((wr.setCell ⟨m, 0, none⟩ (.int .u64 (R' : Int))).drewN 3) m (xorNext r)) := Lib.hid (by
        unfold RN
        rw [eR']
        exact block_setCell HRN.out 0 _)
      have HF2 : Hid (Frm [m] wr ((wr.setCell ⟨m, 0, none⟩ (.int .u64 (R' : Int))).drewN 3)) := Lib.hid (((Frm.refl _ _).setCell _ (.inl (by simp)) _).drewN _)
      obtain ⟨W2, hW2⟩ : ∃ W2, (wr.setCell ⟨m, 0, none⟩ (.int .u64 (R' : Int))).drewN 3 = W2 := ⟨_, rfl⟩
      rw [hW2] at CX HM2 HF2
      have HS2 := Lib.hid (HS.out.frmM HF2.out hgm)
      have HHO := Lib.hid ho
      clear hR' eR' hO ho hW2
      go_upto_if 43 with (go_at_call 85; go_must (refine CX.out.mono ?_; clear CX; rintro e2 w2 ⟨rfl, rfl⟩))
      go_cut [10, 43] from 44 to 46 (fun s10 _ wx => s10 = .int .i64 o ∧ wx = w2)
      case first =>
        by_cases hOL : L ≤ O
        · have hOL' : (L : Int) ≤ (O : Int) := by omega
          have ho2 : (O : Int) - (L : Int) = (o : Int) := by have := HHO.out; rw [if_pos hOL] at this; omega
          go_wp2
          go_meet
          exact ⟨rfl, rfl⟩
        · have hOL' : ¬ (L : Int) ≤ (O : Int) := by omega
          have ho2 : Hid (O = o) := Lib.hid <| by have := HHO.out; rwa [if_neg hOL] at this
          go_wp2
          go_meet
          exact ⟨by rw [ho2.out], rfl⟩
      case rest =>
        obtain ⟨rfl, hwc⟩ := hcut
        rw [hwc]
        have HFW : Hid (Frm [g, m] w w2) := Lib.hid (HF.out.trans (HF2.out.mono (by intro x hx; simp at hx; subst hx; exact .inl (by simp))))
        clear eAnd lR' lO HF HS HF2
        have g1 : IntKind.i64.wrap ((a : Int) + (o : Int)) = (f : Int) := by rw [IntWalk.i64_in _ (by omega)]; omega
        have g2 : (a : Int) + (o : Int) = (f : Int) := by omega
        by_cases hij : i = f
        · subst hij
          have hb1 : (i : Int) < (n : Int) := by omega
          have cc := HS2.out.cell (j := i) (by rw [HEZ.out]; omega)
          obtain ⟨x, hx⟩ : ∃ x, e[i]! = x := ⟨_, rfl⟩
          rw [hx] at cc
          have fa := HS2.out.free i
          have hsw := HS2.out.swap (i := i) (j := i) (by rw [HEZ.out]; omega) (by rw [HEZ.out]; omega)
          rw [hx] at hsw
          unfold _root_.Go.Proofs.Ytefpfcheafbfdaa.u8 at cc
          have HSW := Lib.hid hsw
          clear hx hsw
          go_upto_region 10 with fail
          go_region
          clear cc fa 
          go_wp2
          exact ⟨⟨k, i + 1, (xorNext r), swp e i i, by push_cast; rfl, by omega, by rw [size_swp8]; exact HEZ.out, by rw [← HR.out]; exact (bp_step a L M k i r e i HO.out).symm, HSW.out.1.frm0 (Frm.refl [] _).drew, HSW.out.2.drew.at HM2.out (by simpa using fun h => hgm h.symm), HFW.out.trans (HSW.out.2.drew.mono (by intro x hx; simp at hx; subst hx; exact .inl (by simp)))⟩, by simp [intOf]; omega⟩
        · have hij2 : f ≠ i := fun h => hij h.symm
          have hb1 : (i : Int) < (n : Int) := by omega
          have hb2 : (f : Int) < (n : Int) := by omega
          have cc := HS2.out.cell (j := i) (by rw [HEZ.out]; omega)
          have cd := HS2.out.cell (j := f) (by rw [HEZ.out]; omega)
          obtain ⟨x, hx⟩ : ∃ x, e[i]! = x := ⟨_, rfl⟩
          obtain ⟨y, hy⟩ : ∃ y, e[f]! = y := ⟨_, rfl⟩
          rw [hx] at cc
          rw [hy] at cd
          have fa := HS2.out.free i
          have fb := HS2.out.free f
          have hsw := HS2.out.swap (i := i) (j := f) (by rw [HEZ.out]; omega) (by rw [HEZ.out]; omega)
          rw [hx, hy] at hsw
          unfold _root_.Go.Proofs.Ytefpfcheafbfdaa.u8 at cc cd
          have HSW := Lib.hid hsw
          clear hx hy hsw
          go_upto_region 10 with fail
          go_region
          clear cc cd fa fb 
          go_wp2
          exact ⟨⟨k, i + 1, (xorNext r), swp e i f, by push_cast; rfl, by omega, by rw [size_swp8]; exact HEZ.out, by rw [← HR.out]; exact (bp_step a L M k i r e f HO.out).symm, HSW.out.1.frm0 (Frm.refl [] _).drew, HSW.out.2.drew.at HM2.out (by simpa using fun h => hgm h.symm), HFW.out.trans (HSW.out.2.drew.mono (by intro x hx; simp at hx; subst hx; exact .inl (by simp)))⟩, by simp [intOf]; omega⟩
end Go.Proofs.Ytefpfcheafbfdaa

