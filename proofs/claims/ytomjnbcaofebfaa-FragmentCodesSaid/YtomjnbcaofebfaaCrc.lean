/- The reference's sum: crc. -/
import Derived.Test.YtomjnbcaofebfaaCrcLaw
namespace Go.Proofs.Ytomjnbcaofebfaa
open Go.RowKit Go.BigFrame

set_option maxHeartbeats 2000000 in
set_option maxRecDepth 100000 in
theorem crc_any (v : Value) (l : List UInt8) (w : World) (h : Byts w v l) (hn : l.length ≤ 1000000) : Calls Try.prog 48 #[v] w (Ret (.int .i64 (crcL l)) (w = ·)) := by
  obtain ⟨ao, cap, rfl, hcap, hcs⟩ := h
  have HC := Lib.hid hcs
  clear hcs
  go_enter Try.func48, Try.ntmps48
  go_wp2
  go_loopw [3, 4] (fun s3 s4 wr => ∃ i : Nat, s4 = .int .i64 i ∧ s3 = .int .i64 (crcL (l.take i)) ∧ i ≤ l.length ∧ w = wr) (fun _ s4 _ => l.length - (intOf s4).toNat)
  case atStart => exact ⟨0, rfl, by rw [List.take_zero]; rfl, Nat.zero_le _, rfl⟩
  case round =>
    obtain ⟨i, rfl, rfl, hi, rfl⟩ := hrel
    have hr := crcL_lt (l.take i)
    by_cases hlt : i < l.length
    · have hlt' : (i : Int) < (l.length : Int) := by omega
      obtain ⟨x, hx⟩ : ∃ x, l[i]? = some x := ⟨_, List.getElem?_eq_getElem hlt⟩
      obtain ⟨b', o, rfl, cx⟩ := HC.out i x hx
      unfold _root_.Go.Proofs.Ytomjnbcaofebfaa.u8 at cx
      have HNX : Hid (crcL (l.take (i + 1)) = refRun x.toNat (crcL (l.take i)) 8) := Lib.hid (by
        obtain ⟨hi2, hx2⟩ := List.getElem?_eq_some_iff.1 hx
        rw [List.take_succ_eq_append_getElem hi2, hx2, crcL_snoc, ref_byte _ _ hr])
      have hx255 : (x.toNat : Int) ≤ 255 := by have := x.toNat_lt; omega
      generalize crcL (l.take i) = r at *
      generalize x.toNat = y at *
      clear hx
      go_wp2
      go_loopw [3, 5] (fun s3 s5 wr => ∃ j : Nat, s5 = .int .i64 (7 - (j : Int)) ∧ s3 = .int .i64 (refRun y r j) ∧ j ≤ 8 ∧ w = wr) (fun _ s5 _ => (intOf s5 + 1).toNat)
      case atStart => exact ⟨0, rfl, rfl, Nat.zero_le _, rfl⟩
      case round =>
        obtain ⟨j, rfl, rfl, hj, rfl⟩ := hrel
        by_cases hj8 : j < 8
        · have hk : (0 : Int) ≤ 7 - (j : Int) := by omega
          have hv : refRun y r j < 65536 := by
            cases j with
            | zero => exact hr
            | succ j => exact refStep_lt _ _ _
          have HS : Hid (refRun y r (j + 1) = refStep y (refRun y r j) (7 - j)) := Lib.hid rfl
          generalize refRun y r j = q at *
          obtain ⟨d, hd⟩ : ∃ d, y / 2 ^ (7 - j) = d := ⟨_, rfl⟩
          have hdd : ((y : Nat) : Int) / 2 ^ (7 - j) = (d : Int) := by rw [← hd]; push_cast; rfl
          obtain ⟨z, hz⟩ : ∃ z, q / 32768 + d % 2 = z := ⟨_, rfl⟩
          have hd2 : (d : Int).tmod 2 = ((d % 2 : Nat) : Int) := by rw [Int.tmod_eq_emod_of_nonneg (by omega)]; omega
          obtain ⟨d2, hdz⟩ : ∃ d2, d % 2 = d2 := ⟨_, rfl⟩
          rw [hdz] at hd2 hz
          have hd1 : (d2 : Int) ≤ 1 := by omega
          have hz2 : (q : Int) / 32768 + (d2 : Int) = (z : Int) := by omega
          have HS2 : Hid (refStep y q (7 - j) = if z % 2 = 1 then (2 * q % 65536) ^^^ 4129 else 2 * q % 65536) := Lib.hid (by unfold refStep; rw [hd, hdz, hz])
          go_upto_region 9 with fail
          clear hdd hd hz hd2 hdz hd1 hz2
          obtain ⟨f, hf⟩ : ∃ f, 2 * q % 65536 = f := ⟨_, rfl⟩
          have hff : (2 * (q : Int)).tmod 65536 = (f : Int) := by rw [Int.tmod_eq_emod_of_nonneg (by omega)]; omega
          have hf2 : (2 * (q : Int)) % 65536 = (f : Int) := by omega
          rw [hf] at HS2
          by_cases h1 : z % 2 = 1
          · have ht : ((z : Nat) : Int).tmod 2 = 1 := by rw [Int.tmod_eq_emod_of_nonneg (by omega)]; omega
            have ht2 : ((z : Nat) : Int) % 2 = 1 := by omega
            have hxx : bits .xor .i64 (f : Int) 4129 = ((f ^^^ 4129 : Nat) : Int) := xor_i64 f 4129 (by omega) (by omega)
            rw [if_pos h1] at HS2
            clear hf h1
            go_wp2
            exact ⟨⟨j + 1, by rw [show (7 : Int) - (j : Int) - 1 = 7 - ((j + 1 : Nat) : Int) by omega], by rw [HS.out, HS2.out], hj8, trivial⟩, by simp [intOf]; omega⟩
          · have ht : ((z : Nat) : Int).tmod 2 = 0 := by rw [Int.tmod_eq_emod_of_nonneg (by omega)]; omega
            have ht2 : ((z : Nat) : Int) % 2 = 0 := by omega
            rw [if_neg h1] at HS2
            clear hf h1
            go_wp2
            exact ⟨⟨j + 1, by rw [show (7 : Int) - (j : Int) - 1 = 7 - ((j + 1 : Nat) : Int) by omega], by rw [HS.out, HS2.out], hj8, trivial⟩, by simp [intOf]; omega⟩
        · obtain rfl : j = 8 := by omega
          have hge : ¬ (0 : Int) ≤ 7 - ((8 : Nat) : Int) := by omega
          go_wp2
          refine ⟨⟨i + 1, by simp, ?_, hlt, trivial⟩, by simp [intOf]; omega⟩
          rw [HNX.out]
    · obtain rfl : i = l.length := by omega
      have hge : ¬ (l.length : Int) < (l.length : Int) := by omega
      go_wp2
      go_ret
      exact ⟨by simp, rfl⟩
end Go.Proofs.Ytomjnbcaofebfaa
