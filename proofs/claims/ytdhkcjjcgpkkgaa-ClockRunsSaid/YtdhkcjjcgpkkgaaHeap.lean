/- Plain facts on the heap of pairs (no program here). -/
import Derived.Test.YtdhkcjjcgpkkgaaFrm
namespace Go.Proofs.Ytdhkcjjcgpkkgaa
open Go.RowKit

def cmp3 (a b : Int) : Int := if a < b then -1 else if b < a then 1 else 0
def orTwo (x y : Int) : Int := if x = 0 then y else x
def ent (a b : Int × Int) : Int := orTwo (cmp3 a.1 b.1) (cmp3 a.2 b.2)
def leE (a b : Int × Int) : Prop := a.1 < b.1 ∨ a.1 = b.1 ∧ a.2 ≤ b.2
theorem cmp3_lt {a b : Int} (h : a < b) : cmp3 a b = -1 := by simp [cmp3, h]
theorem cmp3_gt {a b : Int} (h : b < a) : cmp3 a b = 1 := by simp [cmp3, h]; omega
theorem cmp3_eq {a b : Int} (h1 : b ≤ a) (h2 : a ≤ b) : cmp3 a b = 0 := by simp [cmp3]; omega
theorem ent_le {a b : Int × Int} : ent a b ≤ 0 ↔ leE a b := by
  unfold ent orTwo cmp3 leE; (repeat' split) <;> omega
theorem ent_lt {a b : Int × Int} : ent a b < 0 ↔ ¬ leE b a := by
  unfold ent orTwo cmp3 leE; (repeat' split) <;> omega
theorem leE.trans {a b c : Int × Int} (h : leE a b) (k : leE b c) : leE a c := by unfold leE at *; omega
theorem leE.total {a b : Int × Int} (h : ¬ leE a b) : leE b a := by unfold leE at *; omega
theorem leE.refl (a : Int × Int) : leE a a := by unfold leE; omega
theorem leE.antisymm {a b : Int × Int} (h : leE a b) (k : leE b a) : a = b := by
  unfold leE at *; ext <;> omega

/-- the cells of a list of pairs -/
def encL : List (Int × Int) → List Value
  | [] => []
  | e :: l => .int .i64 e.1 :: .int .i64 e.2 :: encL l
theorem encL_length (L : List (Int × Int)) : (encL L).length = L.length * 2 := by
  induction L with
  | nil => rfl
  | cons e l ih => simp [encL, ih]; omega
theorem encL_append (L M : List (Int × Int)) : encL (L ++ M) = encL L ++ encL M := by
  induction L with
  | nil => rfl
  | cons e l ih => simp [encL, ih]
theorem encL_at1 (L : List (Int × Int)) (k : Nat) (e : Int × Int) (h : L[k]? = some e) : (encL L)[k * 2]? = some (.int .i64 e.1) := by
  induction L generalizing k with
  | nil => simp at h
  | cons x l ih =>
    cases k with
    | zero => simp at h; subst h; rfl
    | succ k => rw [show (k + 1) * 2 = k * 2 + 2 by omega]; simp [encL]; simp at h; exact ih k h
theorem encL_at2 (L : List (Int × Int)) (k : Nat) (e : Int × Int) (h : L[k]? = some e) : (encL L)[k * 2 + 1]? = some (.int .i64 e.2) := by
  induction L generalizing k with
  | nil => simp at h
  | cons x l ih =>
    cases k with
    | zero => simp at h; subst h; rfl
    | succ k => rw [show (k + 1) * 2 + 1 = k * 2 + 1 + 2 by omega]; simp [encL]; simp at h; exact ih k h
theorem encL_set (L : List (Int × Int)) (k : Nat) (e : Int × Int) : ((encL L).set (k * 2) (.int .i64 e.1)).set (k * 2 + 1) (.int .i64 e.2) = encL (L.set k e) := by
  induction L generalizing k with
  | nil => simp [encL]
  | cons x l ih =>
    cases k with
    | zero => rfl
    | succ k => rw [show (k + 1) * 2 = k * 2 + 2 by omega, show k * 2 + 2 + 1 = k * 2 + 1 + 2 by omega]; simp [encL, ← ih]
theorem encL_take (L : List (Int × Int)) (k : Nat) : (encL L).take (k * 2) = encL (L.take k) := by
  induction L generalizing k with
  | nil => simp [encL]
  | cons x l ih =>
    cases k with
    | zero => rfl
    | succ k => rw [show (k + 1) * 2 = k * 2 + 2 by omega]; simp [encL, ih]

/-- ordered as a heap -/
def Ord (L : List (Int × Int)) : Prop := ∀ k a b, 0 < k → L[(k - 1) / 2]? = some a → L[k]? = some b → leE a b
/-- ordered but for what lies above place i -/
def OrdUp (L : List (Int × Int)) (i : Nat) : Prop :=
  (∀ k a b, 0 < k → k ≠ i → L[(k - 1) / 2]? = some a → L[k]? = some b → leE a b) ∧
  (∀ k a b, 0 < k → 0 < i → (k - 1) / 2 = i → L[(i - 1) / 2]? = some a → L[k]? = some b → leE a b)
/-- ordered but for what lies below place i -/
def OrdDown (L : List (Int × Int)) (i : Nat) : Prop :=
  (∀ k a b, 0 < k → (k - 1) / 2 ≠ i → L[(k - 1) / 2]? = some a → L[k]? = some b → leE a b) ∧
  (∀ k a b, 0 < k → 0 < i → (k - 1) / 2 = i → L[(i - 1) / 2]? = some a → L[k]? = some b → leE a b)

theorem Ord.top {L : List (Int × Int)} (h : Ord L) {x : Int × Int} (h0 : L[0]? = some x) : ∀ (k : Nat) (b : Int × Int), L[k]? = some b → leE x b := by
  intro k
  induction k using Nat.strongRecOn with
  | _ k ih =>
    intro b hb
    by_cases hk : k = 0
    · subst hk; rw [h0] at hb; cases hb; exact leE.refl _
    · have hlt : k < L.length := by
        rcases Nat.lt_or_ge k L.length with h' | h'
        · exact h'
        · simp [List.getElem?_eq_none h'] at hb
      have hp : L[(k - 1) / 2]? = some (L[(k - 1) / 2]'(by omega)) := List.getElem?_eq_getElem _
      exact (ih ((k - 1) / 2) (by omega) _ hp).trans (h k _ _ (by omega) hp hb)
theorem ordUp_push {L : List (Int × Int)} (h : Ord L) (x : Int × Int) : OrdUp (L ++ [x]) L.length := by
  refine ⟨fun k a b hk hne ha hb => ?_, fun k a b hk hi he ha hb => ?_⟩
  · have hlt : k < L.length := by
      rcases Nat.lt_trichotomy k L.length with h' | h' | h'
      · exact h'
      · exact absurd h' hne
      · rw [List.getElem?_eq_none (by simp; omega)] at hb; cases hb
    rw [List.getElem?_append_left (by omega)] at ha
    rw [List.getElem?_append_left hlt] at hb
    exact h k a b hk ha hb
  · rw [List.getElem?_eq_none (by simp; omega)] at hb; cases hb
theorem OrdUp.done {L : List (Int × Int)} {i : Nat} (h : OrdUp L i) (hi : i = 0 ∨ ∃ a b, L[(i - 1) / 2]? = some a ∧ L[i]? = some b ∧ leE a b) : Ord L := by
  intro k a b hk ha hb
  by_cases hki : k = i
  · subst hki
    rcases hi with rfl | ⟨a', b', ha', hb', hl⟩
    · omega
    · rw [ha] at ha'; rw [hb] at hb'; cases ha'; cases hb'; exact hl
  · exact h.1 k a b hk hki ha hb
def swp (L : List (Int × Int)) (i j : Nat) (a b : Int × Int) : List (Int × Int) := (L.set i b).set j a
theorem swp_length (L : List (Int × Int)) (i j : Nat) (a b : Int × Int) : (swp L i j a b).length = L.length := by simp [swp]
theorem swp_mem {L : List (Int × Int)} {i j : Nat} {a b : Int × Int} (ha : L[i]? = some a) (hb : L[j]? = some b) (e : Int × Int) : e ∈ swp L i j a b ↔ e ∈ L := by
  have hi : i < L.length := by
    rcases Nat.lt_or_ge i L.length with h' | h'
    · exact h'
    · simp [List.getElem?_eq_none h'] at ha
  have hj : j < L.length := by
    rcases Nat.lt_or_ge j L.length with h' | h'
    · exact h'
    · simp [List.getElem?_eq_none h'] at hb
  unfold swp
  simp only [List.mem_iff_getElem?, List.getElem?_set, List.length_set]
  constructor
  · rintro ⟨k, hk⟩
    by_cases h1 : j = k
    · subst h1; simp [hj] at hk; exact ⟨i, by rw [ha, hk]⟩
    · rw [if_neg h1] at hk
      by_cases h2 : i = k
      · subst h2; simp [hi] at hk; exact ⟨j, by rw [hb, hk]⟩
      · rw [if_neg h2] at hk; exact ⟨k, hk⟩
  · rintro ⟨k, hk⟩
    by_cases h1 : k = i
    · subst h1
      rw [ha] at hk; cases hk
      exact ⟨j, by simp [hj]⟩
    · by_cases h2 : k = j
      · subst h2
        rw [hb] at hk; cases hk
        exact ⟨i, by by_cases h3 : k = i <;> simp_all⟩
      · exact ⟨k, by rw [if_neg (Ne.symm h2), if_neg (Ne.symm h1)]; exact hk⟩
theorem swp_at {L : List (Int × Int)} {i j : Nat} {a b : Int × Int} (hi : i < L.length) (hj : j < L.length) (k : Nat) :
    (swp L i j a b)[k]? = if j = k then some a else if i = k then some b else L[k]? := by
  unfold swp
  rw [List.getElem?_set, List.getElem?_set]
  simp only [List.length_set, hi, hj, if_true]
theorem lt_of_some {α : Type} {L : List α} {i : Nat} {a : α} (h : L[i]? = some a) : i < L.length := by
  rcases Nat.lt_or_ge i L.length with h' | h'
  · exact h'
  · simp [List.getElem?_eq_none h'] at h
/-- the step up -/
theorem OrdUp.up {L : List (Int × Int)} {i : Nat} {a b : Int × Int} (h : OrdUp L i) (hi : 0 < i) (ha : L[(i - 1) / 2]? = some a) (hb : L[i]? = some b) (hn : ¬ leE a b) :
    OrdUp (swp L ((i - 1) / 2) i a b) ((i - 1) / 2) := by
  have hil := lt_of_some hb
  have hpl := lt_of_some ha
  obtain ⟨h1, h2⟩ := h
  have hba := leE.total hn
  refine ⟨fun k x y hk hne hx hy => ?_, fun k x y hk hp he hx hy => ?_⟩
  · rw [swp_at hpl hil] at hx hy
    by_cases e1 : i = k
    · subst e1
      rw [if_pos rfl] at hy; cases hy
      rw [if_neg (by omega), if_pos rfl] at hx; cases hx
      exact hba
    · rw [if_neg e1, if_neg (Ne.symm hne)] at hy
      by_cases e2 : i = (k - 1) / 2
      · rw [if_pos e2] at hx; cases hx
        exact h2 k _ _ hk hi e2.symm ha hy
      · rw [if_neg e2] at hx
        by_cases e3 : (i - 1) / 2 = (k - 1) / 2
        · rw [if_pos e3] at hx; cases hx
          exact hba.trans (h1 k a y hk (Ne.symm e1) (by rw [← e3]; exact ha) hy)
        · rw [if_neg e3] at hx
          exact h1 k x y hk (Ne.symm e1) hx hy
  · rw [swp_at hpl hil] at hx hy
    rw [if_neg (by omega), if_neg (by omega)] at hx
    have hpa := h1 ((i - 1) / 2) x a hp (by omega) hx ha
    by_cases e1 : i = k
    · subst e1
      rw [if_pos rfl] at hy; cases hy
      exact hpa
    · rw [if_neg e1, if_neg (by omega)] at hy
      exact hpa.trans (h1 k a y hk (Ne.symm e1) (by rw [he]; exact ha) hy)
/-- taking off the first: the last is laid there -/
theorem ordDown_pop {L : List (Int × Int)} (h : Ord L) (x : Int × Int) : OrdDown ((L.take (L.length - 1)).set 0 x) 0 := by
  refine ⟨fun k a b hk hne ha hb => ?_, fun k a b hk hi he ha hb => by omega⟩
  rw [List.getElem?_set_ne (by omega)] at ha hb
  rw [List.getElem?_take] at ha hb
  split at ha
  · split at hb
    · exact h k a b hk ha hb
    · cases hb
  · cases ha
theorem OrdDown.done {L : List (Int × Int)} {i : Nat} (h : OrdDown L i) (hi : ∀ k a b, 0 < k → (k - 1) / 2 = i → L[i]? = some a → L[k]? = some b → leE a b) : Ord L := by
  intro k a b hk ha hb
  by_cases hki : (k - 1) / 2 = i
  · exact hi k a b hk hki (hki ▸ ha) hb
  · exact h.1 k a b hk hki ha hb
theorem OrdDown.down {L : List (Int × Int)} {i j : Nat} {a b : Int × Int} (h : OrdDown L i) (hj : 0 < j) (hji : (j - 1) / 2 = i) (ha : L[i]? = some a) (hb : L[j]? = some b) (hn : ¬ leE a b)
    (hmin : ∀ k c, 0 < k → (k - 1) / 2 = i → L[k]? = some c → leE b c) : OrdDown (swp L i j a b) j := by
  have hil := lt_of_some ha
  have hjl := lt_of_some hb
  obtain ⟨h1, h2⟩ := h
  have hba := leE.total hn
  refine ⟨fun k x y hk hne hx hy => ?_, fun k x y hk hp he hx hy => ?_⟩
  · rw [swp_at hil hjl] at hx hy
    rw [if_neg (Ne.symm hne)] at hx
    by_cases e1 : i = (k - 1) / 2
    · rw [if_pos e1] at hx; cases hx
      by_cases e2 : j = k
      · subst e2; rw [if_pos rfl] at hy; cases hy; exact hba
      · rw [if_neg e2, if_neg (by omega)] at hy
        exact hmin k y hk e1.symm hy
    · rw [if_neg e1] at hx
      have e2 : ¬ j = k := by intro e; subst e; exact e1 hji.symm
      rw [if_neg e2] at hy
      by_cases e3 : i = k
      · subst e3; rw [if_pos rfl] at hy; cases hy
        exact h2 j x _ hj hk hji hx hb
      · rw [if_neg e3] at hy
        exact h1 k x y hk (Ne.symm e1) hx hy
  · rw [swp_at hil hjl] at hx hy
    rw [if_neg (by omega), if_pos hji.symm] at hx; cases hx
    rw [if_neg (by omega), if_neg (by omega)] at hy
    exact h1 k b y hk (by omega) (by rw [he]; exact hb) hy
end Go.Proofs.Ytdhkcjjcgpkkgaa
