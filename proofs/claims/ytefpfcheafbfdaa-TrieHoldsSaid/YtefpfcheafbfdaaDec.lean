/- The words of an encoding: the law. -/
import Derived.Test.YtefpfcheafbfdaaCmp
import Derived.Test.YtefpfcheafbfdaaWordsW
namespace Go.Proofs.Ytefpfcheafbfdaa
open Go.RowKit Go.Maps Go.BigFrame

/-- n words and what follows them, after L -/
def pre' (L : List Wd) : Nat → Wd → Option (List Wd × Wd)
  | 0, r => some (L, r)
  | _ + 1, [] => none
  | k + 1, c :: t => if t.length < c.toNat then none else pre' (L ++ [t.take c.toNat]) k (t.drop c.toNat)
theorem pre'_zero (L : List Wd) (r : Wd) : pre' L 0 r = some (L, r) := rfl
theorem pre'_nil (L : List Wd) (k : Nat) {r : Wd} (h : r = []) : pre' L (k + 1) r = none := by subst h; rfl
theorem pre'_none {L : List Wd} {k : Nat} {c : UInt8} {t r : Wd} (hr : r = c :: t) (h : t.length < c.toNat) : pre' L (k + 1) r = none := by subst hr; rw [pre', if_pos h]
theorem pre'_some {L : List Wd} {k : Nat} {c : UInt8} {t r : Wd} (hr : r = c :: t) (h : c.toNat ≤ t.length) : pre' L (k + 1) r = pre' (L ++ [t.take c.toNat]) k (t.drop c.toNat) := by subst hr; rw [pre', if_neg (by omega)]
theorem pre'_spec : ∀ (k : Nat) (L : List Wd) (r : Wd) (M : List Wd) (s : Wd), pre' L k r = some (M, s) → M.length = L.length + k ∧ k + s.length ≤ r.length ∧ ∀ x ∈ M, x ∈ L ∨ x.length ≤ r.length
  | 0, L, r, M, s, h => by
    rw [pre'_zero] at h
    obtain ⟨rfl, rfl⟩ := Prod.mk.inj (Option.some.inj h)
    exact ⟨rfl, by omega, fun x hx => .inl hx⟩
  | k + 1, L, [], M, s, h => by cases h
  | k + 1, L, c :: t, M, s, h => by
    rw [pre'] at h
    split at h
    · cases h
    · obtain ⟨h1, h2, h3⟩ := pre'_spec k _ _ M s h
      refine ⟨by simp at h1; omega, by simp at h2 ⊢; omega, fun x hx => ?_⟩
      rcases h3 x hx with h | h
      · rcases List.mem_append.1 h with h | h
        · exact .inl h
        · rw [List.mem_singleton.1 h]; exact .inr (by simp; omega)
      · exact .inr (by simp at h ⊢; omega)
def hdr (b : Wd) : Nat := (b.getD 0 0).toNat * 256 + (b.getD 1 0).toNat
def okL (L : List Wd) : Prop := Sorted L ∧ ∀ x ∈ L, x.length ≤ 64
open Classical in
/-- the words of an encoding, or the error -/
noncomputable def decL (b : Wd) : List Wd × Int :=
  if b.length < 2 then ([], 4) else
  match pre' [] (hdr b) (b.drop 2) with
  | none => ([], 4)
  | some (L, r) => if r ≠ [] then ([], 5) else if okL L then (L, 0) else ([], 6)
theorem decL_short {b : Wd} (h : b.length < 2) : decL b = ([], 4) := by rw [decL, if_pos h]
theorem decL_none {b : Wd} (h0 : ¬ b.length < 2) (h : pre' [] (hdr b) (b.drop 2) = none) : decL b = ([], 4) := by rw [decL, if_neg h0, h]
theorem decL_long {b r : Wd} {L : List Wd} (h0 : ¬ b.length < 2) (h : pre' [] (hdr b) (b.drop 2) = some (L, r)) (hr : r ≠ []) : decL b = ([], 5) := by
  rw [decL, if_neg h0, h]; exact if_pos hr
theorem decL_bad {b : Wd} {L : List Wd} (h0 : ¬ b.length < 2) (h : pre' [] (hdr b) (b.drop 2) = some (L, [])) (hr : ¬ okL L) : decL b = ([], 6) := by
  rw [decL, if_neg h0, h]; simp [hr]
theorem decL_ok {b : Wd} {L : List Wd} (h0 : ¬ b.length < 2) (h : pre' [] (hdr b) (b.drop 2) = some (L, [])) (hr : okL L) : decL b = (L, 0) := by
  rw [decL, if_neg h0, h]; simp [hr]
theorem adj_sorted : ∀ (L : List Wd), (∀ k x y, L[k]? = some x → L[k + 1]? = some y → x < y) → Sorted L
  | [], _ => List.Pairwise.nil
  | [_], _ => by simp [Sorted]
  | x :: y :: l, h => by
    have h1 : x < y := h 0 x y rfl rfl
    have h2 := adj_sorted (y :: l) (fun k a b ha hb => h (k + 1) a b (by simpa using ha) (by simpa using hb))
    refine List.pairwise_cons.2 ⟨fun z hz => ?_, h2⟩
    rcases List.mem_cons.1 hz with rfl | hz
    · exact h1
    · exact List.lt_trans h1 ((List.pairwise_cons.1 h2).1 z hz)
theorem sorted_adj {L : List Wd} (h : Sorted L) {k : Nat} {x y : Wd} (h1 : L[k]? = some x) (h2 : L[k + 1]? = some y) : x < y := by
  obtain ⟨l1, rfl⟩ := List.getElem?_eq_some_iff.1 h1
  obtain ⟨l2, rfl⟩ := List.getElem?_eq_some_iff.1 h2
  exact List.pairwise_iff_getElem.1 h _ _ _ _ (by omega)
theorem Sorted.asc {L : List Wd} (h : Sorted L) : Asc L := fun _ _ _ h1 h2 => List.lt_asymm (sorted_adj h h1 h2)
/-- what New says of the words of an encoding -/
theorem new_okL {L : List Wd} (hL : L.length ≤ 1000) (ha : Asc L) : (okL L → newF [] L = (L, 0)) ∧ (¬ okL L → (newF [] L).2 ≠ 0) := by
  refine ⟨fun ⟨h1, h2⟩ => ?_, fun hn h => hn ?_⟩
  · have := newF_sorted L [] (by simpa using h1) (by simpa using h2) (by simpa using hL)
    simpa using this
  · obtain ⟨M, e, hM⟩ : ∃ M e, newF [] L = (M, e) := ⟨_, _, rfl⟩
    rw [hM] at h
    simp only at h
    subst h
    obtain ⟨-, h2, -, h4⟩ := newF_ok L [] M hM
    refine ⟨adj_sorted L fun k x y hx hy => ?_, h4⟩
    rcases Classical.em (x < y) with h | h
    · exact h
    · have e : x = y := List.le_antisymm (List.not_lt.1 (ha k x y hx hy)) (List.not_lt.1 h)
      obtain ⟨l1, rfl⟩ := List.getElem?_eq_some_iff.1 hx
      obtain ⟨l2, h5⟩ := List.getElem?_eq_some_iff.1 hy
      have := (List.pairwise_iff_getElem.1 h2) k (k + 1) l1 l2 (by omega)
      exact absurd (e.trans h5.symm) this
end Go.Proofs.Ytefpfcheafbfdaa
