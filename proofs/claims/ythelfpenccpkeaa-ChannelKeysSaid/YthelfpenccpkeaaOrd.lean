/- Strings in order: the insertion sort of the reference answers the sorted list. -/
import Derived.Test.YthelfpenccpkeaaKey
namespace Go.Proofs.Ythelfpenccpkeaa
open Go.RowKit Go.BigFrame

theorem le_tot (x y : List UInt8) : x ≤ y ∨ y ≤ x := List.le_total x y
theorem le_tr {x y z : List UInt8} (h1 : x ≤ y) (h2 : y ≤ z) : x ≤ z := List.le_trans h1 h2
theorem le_lt {x y : List UInt8} (h : x < y) : x ≤ y := List.le_of_lt h
theorem byt_inj {a b : ByteArray} (h : byt a = byt b) : a = b := ByteArray.ext (Array.toList_inj.1 h)
theorem keyL_sorted (L : List ByteArray) : (keyL 2 L).Pairwise fun a b => byt a ≤ byt b := by
  rw [keyL, if_pos rfl, List.pairwise_map]
  have h := List.pairwise_mergeSort (le := fun x y : List UInt8 => decide (x ≤ y)) (fun a b c h1 h2 => by simp only [decide_eq_true_eq] at *; exact le_tr h1 h2) (fun a b => by rcases le_tot a b with h | h <;> simp [h]) (L.map byt)
  exact h.imp fun {a b} hab => by simpa [byt] using hab
theorem key_unique {M L : List ByteArray} (hp : M.Perm L) (hs : M.Pairwise fun a b => byt a ≤ byt b) : M = keyL 2 L :=
  List.Perm.eq_of_pairwise (le := fun a b => byt a ≤ byt b) (fun _ _ _ _ h1 h2 => byt_inj (List.le_antisymm h1 h2)) hs (keyL_sorted L) (hp.trans (keyL_perm L).symm)
/-- in order as far as i, but for what lies at k -/
def But (M : List ByteArray) (i k : Nat) : Prop := ∀ a b x y, a < b → b ≤ i → b ≠ k → M[a]? = some x → M[b]? = some y → byt x ≤ byt y
theorem But.start {M : List ByteArray} {i : Nat} (h : ∀ a b x y, a < b → b < i → M[a]? = some x → M[b]? = some y → byt x ≤ byt y) : But M i i := fun a b x y h1 h2 h3 h4 h5 => h a b x y h1 (by omega) h4 h5
theorem But.done0 {M : List ByteArray} {i : Nat} (h : But M i 0) : ∀ a b x y, a < b → b < i + 1 → M[a]? = some x → M[b]? = some y → byt x ≤ byt y := fun a b x y h1 h2 h3 h4 => h a b x y h1 (by omega) (by omega) h3 h4
theorem But.doneK {M : List ByteArray} {i k : Nat} {x y : ByteArray} (h : But M i (k + 1)) (hk : k + 1 ≤ i) (hx : M[k + 1]? = some x) (hy : M[k]? = some y) (hle : byt y ≤ byt x) : ∀ a b x y, a < b → b < i + 1 → M[a]? = some x → M[b]? = some y → byt x ≤ byt y := by
  intro a b u v h1 h2 h3 h4
  by_cases e : b = k + 1
  · subst e
    rw [hx] at h4; cases h4
    by_cases e2 : a = k
    · subst e2; rw [hy] at h3; cases h3; exact hle
    · exact le_tr (h a k u y (by omega) (by omega) (by omega) h3 hy) hle
  · exact h a b u v h1 (by omega) e h3 h4
theorem get_swap {M : List ByteArray} {k : Nat} {x y : ByteArray} (hx : M[k + 1]? = some x) (hy : M[k]? = some y) (a : Nat) :
    ((M.set (k + 1) y).set k x)[a]? = if a = k then some x else if a = k + 1 then some y else M[a]? := by
  have h1 := (List.getElem?_eq_some_iff.1 hx).1
  by_cases e : a = k
  · subst e
    rw [if_pos rfl, List.getElem?_set_self (by rw [List.length_set]; omega)]
  · rw [if_neg e, List.getElem?_set_ne (fun h => e h.symm)]
    by_cases e2 : a = k + 1
    · subst e2; rw [if_pos rfl, List.getElem?_set_self h1]
    · rw [if_neg e2, List.getElem?_set_ne (fun h => e2 h.symm)]
theorem But.step {M : List ByteArray} {i k : Nat} {x y : ByteArray} (h : But M i (k + 1)) (hk : k + 1 ≤ i) (hx : M[k + 1]? = some x) (hy : M[k]? = some y) (hlt : byt x ≤ byt y) : But ((M.set (k + 1) y).set k x) i k := by
  intro a b u v h1 h2 h3 h4 h5
  rw [get_swap hx hy] at h4 h5
  rw [if_neg h3] at h5
  by_cases eb : b = k + 1
  · subst eb
    rw [if_pos rfl] at h5; cases h5
    by_cases ea : a = k
    · rw [if_pos ea] at h4; cases h4; exact hlt
    · rw [if_neg ea, if_neg (by omega)] at h4
      exact h a k u y (by omega) (by omega) (by omega) h4 hy
  · rw [if_neg eb] at h5
    by_cases ea : a = k
    · rw [if_pos ea] at h4; cases h4
      exact h (k + 1) b x v (by omega) h2 eb hx h5
    · rw [if_neg ea] at h4
      by_cases ea2 : a = k + 1
      · rw [if_pos ea2] at h4; cases h4
        exact h k b y v (by omega) h2 eb hy h5
      · rw [if_neg ea2] at h4
        exact h a b u v h1 h2 eb h4 h5
theorem swap_perm {M : List ByteArray} {k : Nat} {x y : ByteArray} (hx : M[k + 1]? = some x) (hy : M[k]? = some y) : ((M.set (k + 1) y).set k x).Perm M := by
  obtain ⟨h1, rfl⟩ := List.getElem?_eq_some_iff.1 hx
  obtain ⟨h2, rfl⟩ := List.getElem?_eq_some_iff.1 hy
  exact List.set_set_perm h1 h2
theorem pairwise_of {M : List ByteArray} (h : ∀ a b x y, a < b → b < M.length → M[a]? = some x → M[b]? = some y → byt x ≤ byt y) : M.Pairwise fun a b => byt a ≤ byt b := by
  rw [List.pairwise_iff_getElem]
  intro a b ha hb hab
  exact h a b _ _ hab hb (List.getElem?_eq_getElem ha) (List.getElem?_eq_getElem hb)
end Go.Proofs.Ythelfpenccpkeaa
