/- none, find, Has, Len. -/
import Derived.Test.YtefpfcheafbfdaaRep
namespace Go.Proofs.Ytefpfcheafbfdaa
open Go.RowKit Go.Maps Go.BigFrame

theorem take_step {b : List UInt8} {i : Nat} {x : UInt8} (h : b[i]? = some x) : b.take (i + 1) = b.take i ++ [x] := by
  obtain ⟨hi, rfl⟩ := List.getElem?_eq_some_iff.1 h
  exact List.take_succ_eq_append_getElem hi
theorem none_t0 {w : World} {xo : Option Addr} (h : T0 w xo) : Calls Try.prog 47 #[.pointer xo] w (Ret (.bool true) (w = ·)) := by
  rcases h with rfl | ⟨tb, rfl, h⟩
  · go_enter Try.func47, Try.ntmps47
    go_wp2
    go_ret
    exact ⟨rfl, rfl⟩
  · have c0 := cell_of h 0
    clear h
    go_enter Try.func47, Try.ntmps47
    go_wp2
    go_ret
    exact ⟨rfl, rfl⟩
section
variable {w : World} {tb : Nat} {P W : Wd → Bool} {n : Nat} {NB MB : Wd → Nat} {N : Nat}
theorem none_any (h : TR w tb P W n NB MB N) : Calls Try.prog 47 #[.pointer (some ⟨tb, 0, none⟩)] w (Ret (.bool false) (w = ·)) := by
  have c0 := cell_of h.top 0
  unfold nodeV at c0
  clear h
  go_enter Try.func47, Try.ntmps47
  go_wp2
  go_ret
  exact ⟨rfl, rfl⟩
theorem len_any (h : TR w tb P W n NB MB N) : Calls Try.prog 25 #[.pointer (some ⟨tb, 0, none⟩)] w (Ret (.int .i64 n) (w = ·)) := by
  have c1 := cell_of h.top 1
  clear h
  go_enter Try.func25, Try.ntmps25
  go_wp2
  go_ret
  exact ⟨rfl, rfl⟩
theorem len_t0 {xo : Option Addr} (h : T0 w xo) : Calls Try.prog 25 #[.pointer xo] w (Ret (.int .i64 0) (w = ·)) := by
  rcases h with rfl | ⟨tb, rfl, h⟩
  · go_enter Try.func25, Try.ntmps25
    go_wp2
    go_ret
    exact ⟨rfl, rfl⟩
  · have c1 := cell_of h 1
    clear h
    go_enter Try.func25, Try.ntmps25
    go_wp2
    go_ret
    exact ⟨rfl, rfl⟩
theorem find_t0 {xo : Option Addr} (h : T0 w xo) (bv : Value) : Calls Try.prog 54 #[.pointer xo, bv] w (Ret (.pointer none) (w = ·)) := by
  have CN := Lib.hid (none_t0 h)
  clear h
  go_enter Try.func54, Try.ntmps54
  go_wp2_with (go_at_call 47; go_must (refine CN.out.mono ?_; rintro e w' ⟨rfl, rfl⟩))
  go_ret
  exact ⟨rfl, rfl⟩
def findV (P : Wd → Bool) (NB : Wd → Nat) (b : Wd) : Value := if P b = true then nodeV NB b else .pointer none
set_option maxHeartbeats 1000000 in
theorem find_any (h : TR w tb P W n NB MB N) (bv : Value) (b : List UInt8) (hb : Byts w bv b) (hn : b.length ≤ 1000000) : Calls Try.prog 54 #[.pointer (some ⟨tb, 0, none⟩), bv] w (Ret (findV P NB b) (w = ·)) := by
  obtain ⟨ao, cap, rfl, hcap, hcs⟩ := hb
  have HC := Lib.hid hcs; have HT := Lib.hid h
  have CN := Lib.hid (none_any h)
  have c0 := cell_of h.top 0
  unfold nodeV at c0
  have HN0 : Hid (P (b.take 0) = true) := Lib.hid h.nil
  clear h hcs
  go_enter Try.func54, Try.ntmps54
  go_wp2_with (go_at_call 47; go_must (refine CN.out.mono ?_; rintro e w' ⟨rfl, rfl⟩))
  go_loopw [5, 16] (fun s5 s16 wr => ∃ i : Nat, s16 = .int .i64 i ∧ i ≤ b.length ∧ s5 = nodeV NB (b.take i) ∧ P (b.take i) = true ∧ w = wr) (fun _ s16 _ => b.length - (intOf s16).toNat)
  case atStart => exact ⟨0, rfl, Nat.zero_le _, rfl, HN0.out, rfl⟩
  case round =>
    obtain ⟨i, rfl, hi, rfl, hp, rfl⟩ := hrel
    have HP := Lib.hid hp
    clear hp
    unfold nodeV
    by_cases hlt : i < b.length
    · have hlt' : (i : Int) < (b.length : Int) := by omega
      obtain ⟨x, hx⟩ : ∃ x, b[i]? = some x := ⟨_, List.getElem?_eq_getElem hlt⟩
      obtain ⟨b', o, rfl, cx⟩ := HC.out i x hx
      have hst := take_step hx
      have HST := Lib.hid hst
      have hl := HT.out.lookup HP.out x
      unfold kidF at hl
      rw [← hst] at hl
      unfold u8 at cx hl
      have c1 := cell_of (HT.out.node _ HP.out) 1
      clear hx hst
      by_cases hq : P (b.take (i + 1)) = true
      · rw [if_pos hq] at hl
        unfold nodeV at hl
        have HQ := Lib.hid hq
        clear hq
        go_wp2
        exact ⟨⟨i + 1, by simp, hlt, rfl, HQ.out, trivial⟩, by simp [intOf]; omega⟩
      · rw [if_neg hq] at hl
        have HE : Hid (findV P NB b = .pointer none) := Lib.hid (by
          unfold findV
          rw [if_neg (fun e => hq (HT.out.take _ e))])
        clear hq
        go_wp2
        go_ret
        exact ⟨by rw [HE.out]; rfl, rfl⟩
    · obtain rfl : i = b.length := by omega
      have hge : ¬ (b.length : Int) < (b.length : Int) := by omega
      go_wp2
      go_ret
      refine ⟨?_, rfl⟩
      have hp : P b = true := by have := HP.out; rwa [List.take_length] at this
      unfold findV nodeV
      rw [if_pos hp]
      rfl
theorem has_any (h : TR w tb P W n NB MB N) (bv : Value) (b : List UInt8) (hb : Byts w bv b) (hn : b.length ≤ 1000000) : Calls Try.prog 28 #[.pointer (some ⟨tb, 0, none⟩), bv] w (Ret (.bool (P b && W b)) (w = ·)) := by
  have CF := find_any h bv b hb hn
  unfold findV at CF
  cases hp : P b with
  | true =>
    rw [hp] at CF
    simp only [if_true] at CF
    have c0 := cell_of (h.node b hp) 0
    unfold nodeV at CF
    have CF := Lib.hid CF
    clear h hb hp
    go_enter Try.func28, Try.ntmps28
    go_wp2_with (go_at_call 54; go_must (refine CF.out.mono ?_; rintro e w' ⟨rfl, rfl⟩))
    go_ret
    exact ⟨by simp, rfl⟩
  | false =>
    rw [hp] at CF
    simp only [Bool.false_eq_true, if_false] at CF
    have CF := Lib.hid CF
    clear h hb hp
    go_enter Try.func28, Try.ntmps28
    go_wp2_with (go_at_call 54; go_must (refine CF.out.mono ?_; rintro e w' ⟨rfl, rfl⟩))
    go_ret
    exact ⟨by simp, rfl⟩
theorem has_t0 {xo : Option Addr} (h : T0 w xo) (bv : Value) : Calls Try.prog 28 #[.pointer xo, bv] w (Ret (.bool false) (w = ·)) := by
  have CF := Lib.hid (find_t0 h bv)
  clear h
  go_enter Try.func28, Try.ntmps28
  go_wp2_with (go_at_call 54; go_must (refine CF.out.mono ?_; rintro e w' ⟨rfl, rfl⟩))
  go_ret
  exact ⟨rfl, rfl⟩
end
end Go.Proofs.Ytefpfcheafbfdaa
