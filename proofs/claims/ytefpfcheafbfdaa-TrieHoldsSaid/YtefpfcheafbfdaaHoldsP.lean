/- TrieHolds: the plain laws. -/
import Derived.Test.YtefpfcheafbfdaaDecT
import Derived.Test.YtefpfcheafbfdaaEqs
namespace Go.Proofs.Ytefpfcheafbfdaa
open Go.RowKit Go.Maps Go.BigFrame

/-! ### An encoding, decoded -/
theorem pre'_enc : ∀ (M L : List Wd), (∀ x ∈ M, x.length ≤ 64) → pre' L M.length (M.flatMap encW) = some (L ++ M, [])
  | [], L, _ => by simp [pre'_zero]
  | x :: M, L, h => by
    have hx := h x List.mem_cons_self
    have hc : (UInt8.ofNat x.length).toNat = x.length := by
      rw [UInt8.toNat_ofNat']
      exact Nat.mod_eq_of_lt (by omega)
    have e : (x :: M).flatMap encW = UInt8.ofNat x.length :: (x ++ M.flatMap encW) := by simp [encW]
    rw [List.length_cons, pre'_some e (by rw [hc, List.length_append]; omega), hc, List.take_left, List.drop_left, pre'_enc M _ (fun y hy => h y (List.mem_cons_of_mem _ hy))]
    simp
theorem hdr_enc {M : List Wd} (hM : M.length ≤ 1000) : hdr (encL M) = M.length := by
  unfold hdr encL encH
  have h1 : (UInt8.ofNat (M.length / 256)).toNat = M.length / 256 := by
    rw [UInt8.toNat_ofNat']; exact Nat.mod_eq_of_lt (by omega)
  have h2 : (UInt8.ofNat (M.length % 256)).toNat = M.length % 256 := by
    rw [UInt8.toNat_ofNat']; exact Nat.mod_eq_of_lt (by omega)
  simp only [List.cons_append, List.nil_append, List.getD_cons_zero, List.getD_cons_succ, h1, h2]
  omega
theorem dec_enc {M : List Wd} (hs : Sorted M) (h64 : ∀ x ∈ M, x.length ≤ 64) (hM : M.length ≤ 1000) : decL (encL M) = (M, 0) := by
  refine decL_ok (by unfold encL encH; simp) ?_ ⟨hs, h64⟩
  rw [hdr_enc hM]
  have e : (encL M).drop 2 = M.flatMap encW := by unfold encL encH; rfl
  rw [e, pre'_enc M [] h64, List.nil_append]
theorem enc_len : ∀ (M : List Wd), (∀ x ∈ M, x.length ≤ 64) → (M.flatMap encW).length ≤ 65 * M.length
  | [], _ => by simp
  | x :: M, h => by
    have hx := h x List.mem_cons_self
    have := enc_len M (fun y hy => h y (List.mem_cons_of_mem _ hy))
    have e : (x :: M).flatMap encW = UInt8.ofNat x.length :: (x ++ M.flatMap encW) := by simp [encW]
    rw [e]; simp at this ⊢; omega
theorem encL_len {M : List Wd} (h64 : ∀ x ∈ M, x.length ≤ 64) : (encL M).length ≤ 65 * M.length + 2 := by
  have := enc_len M h64
  unfold encL encH
  simp at this ⊢; omega

/-! ### A word put in and taken out -/
theorem ins_rem {M : List Wd} {b : Wd} (hs : Sorted M) (hb : b ∉ M) (h64 : b.length ≤ 64) (hM : M.length < 1000) :
    insEL M b = 0 ∧ remE (insL M b) b = 0 ∧ memB (insL M b) b = true ∧ remA (insL M b) b = M ∧ insA M b = insL M b := by
  have h1 : insEL M b = 0 := by unfold insEL; rw [if_neg (by omega), if_neg hb, if_neg (by omega)]
  have hm : b ∈ insL M b := mem_insL.2 (.inl rfl)
  have h2 : remE (insL M b) b = 0 := by unfold remE; rw [if_neg (by omega), if_pos hm]
  have hi := sorted_insL hs hb
  refine ⟨h1, h2, memB_iff.2 hm, ?_, by unfold insA; rw [if_pos h1]⟩
  unfold remA
  rw [if_pos h2]
  refine sorted_unique (List.Pairwise.sublist List.erase_sublist hi) hs fun x => ?_
  rw [hi.nodup.mem_erase_iff, mem_insL]
  constructor
  · rintro ⟨h3, h4 | h4⟩
    · exact absurd h4 h3
    · exact h4
  · intro h3
    exact ⟨fun e => hb (e ▸ h3), .inr h3⟩

/-! ### No word begins another one -/
theorem free_iff {M : List Wd} : freeL M = true ↔ ∀ x ∈ M, ∀ y ∈ M, x <+: y → x = y := by
  unfold freeL
  rw [withP_nil, List.all_eq_true]
  constructor
  · intro h x hx y hy hp
    have h1 := h x hx
    rw [List.isEmpty_iff] at h1
    obtain ⟨t, rfl⟩ := hp
    cases t with
    | nil => simp
    | cons c t =>
      have : c ∈ kidsP (pre M) x := mem_kidsP.2 (pre_iff.2 (.inr ⟨_, hy, ⟨t, by simp⟩⟩))
      rw [h1] at this; cases this
  · intro h x hx
    rw [List.isEmpty_iff]
    refine List.eq_nil_iff_forall_not_mem.2 fun c hc => ?_
    rcases pre_iff.1 (mem_kidsP.1 hc) with h1 | ⟨y, hy, h1⟩
    · simp at h1
    · have e := h x hx y hy ((List.prefix_append x [c]).trans h1)
      subst e
      have := h1.length_le
      simp at this
      omega
end Go.Proofs.Ytefpfcheafbfdaa
