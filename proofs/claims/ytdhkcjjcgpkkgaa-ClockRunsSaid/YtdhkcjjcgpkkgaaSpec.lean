/- Plain: what a clock does. -/
import Derived.Test.YtdhkcjjcgpkkgaaHeap
import Derived.Test.YtdhkcjjcgpkkgaaMap
namespace Go.Proofs.Ytdhkcjjcgpkkgaa
open Go.RowKit

abbrev maxT : Int := 1099511627776
/-- when each timer is due -/
def DMap := Int → Option Int
/-- no timer runs -/
def D0 : DMap := fun _ => none
def upd (D : DMap) (t : Int) (v : Option Int) : DMap := fun k => if k = t then v else D k
theorem upd_same (D : DMap) (t : Int) (v : Option Int) : upd D t v t = v := by simp [upd]
theorem upd_other (D : DMap) {t k : Int} (v : Option Int) (h : k ≠ t) : upd D t v k = D k := by simp [upd, h]
/-- every timer that runs has a number and a time -/
def Good (now : Int) (D : DMap) : Prop := 0 ≤ now ∧ now ≤ maxT ∧ ∀ t d, D t = some d → 0 ≤ t ∧ t < 256 ∧ 0 ≤ d ∧ d ≤ maxT
/-- the first of the timers below k -/
def scan (D : DMap) : Nat → Option (Int × Int)
  | 0 => none
  | k + 1 => match D k, scan D k with
    | some d, none => some (d, (k : Int))
    | some d, some x => if d < x.1 then some (d, (k : Int)) else some x
    | none, r => r
def firstOf (D : DMap) : Option (Int × Int) := scan D 256
theorem scan_none {D : DMap} : ∀ {k : Nat}, scan D k = none → ∀ t : Nat, t < k → D t = none
  | 0, _, t, ht => by omega
  | k + 1, h, t, ht => by
    unfold scan at h
    cases hd : D k with
    | some d => rw [hd] at h; cases hs : scan D k <;> rw [hs] at h <;> simp at h; split at h <;> cases h
    | none =>
      rw [hd] at h
      by_cases e : t = k
      · subst e; exact hd
      · exact scan_none (k := k) (by simpa using h) t (by omega)
theorem scan_some {D : DMap} : ∀ {k : Nat} {x : Int × Int}, scan D k = some x → (∃ t : Nat, t < k ∧ x.2 = t ∧ D t = some x.1) ∧ ∀ (t : Nat) d, t < k → D t = some d → leE x (d, t)
  | 0, x, h => by simp [scan] at h
  | k + 1, x, h => by
    unfold scan at h
    cases hd : D k with
    | none =>
      rw [hd] at h
      obtain ⟨⟨t, ht, h1, h2⟩, h3⟩ := scan_some (k := k) (x := x) (by simpa using h)
      exact ⟨⟨t, by omega, h1, h2⟩, fun t' d ht' hd' => h3 t' d (by
        by_cases e : t' = k
        · subst e; rw [hd] at hd'; cases hd'
        · omega) hd'⟩
    | some d =>
      rw [hd] at h
      cases hs : scan D k with
      | none =>
        rw [hs] at h
        simp at h; subst h
        refine ⟨⟨k, by omega, rfl, hd⟩, fun t' d' ht' hd' => ?_⟩
        by_cases e : t' = k
        · subst e; rw [hd] at hd'; cases hd'; exact leE.refl _
        · rw [scan_none hs t' (by omega)] at hd'; cases hd'
      | some y =>
        rw [hs] at h
        obtain ⟨⟨t, ht, h1, h2⟩, h3⟩ := scan_some hs
        simp only at h
        split at h
        · rename_i hlt
          simp at h; subst h
          refine ⟨⟨k, by omega, rfl, hd⟩, fun t' d' ht' hd' => ?_⟩
          by_cases e : t' = k
          · subst e; rw [hd] at hd'; cases hd'; exact leE.refl _
          · have := h3 t' d' (by omega) hd'
            unfold leE at *; simp at *; omega
        · rename_i hlt
          simp at h; subst h
          refine ⟨⟨t, by omega, h1, h2⟩, fun t' d' ht' hd' => ?_⟩
          by_cases e : t' = k
          · subst e; rw [hd] at hd'; cases hd'
            unfold leE; simp; omega
          · exact h3 t' d' (by omega) hd'
theorem Good.nat {now : Int} {D : DMap} (h : Good now D) {t d : Int} (ht : D t = some d) : ∃ k : Nat, k < 256 ∧ t = k := ⟨t.toNat, by have := h.2.2 t d ht; omega, by have := h.2.2 t d ht; omega⟩
theorem firstOf_none {now : Int} {D : DMap} (hg : Good now D) : firstOf D = none ↔ ∀ t, D t = none := by
  constructor
  · intro h t
    cases hd : D t with
    | none => rfl
    | some d =>
      obtain ⟨k, hk, rfl⟩ := hg.nat hd
      rw [scan_none h k hk] at hd; cases hd
  · intro h
    cases hs : firstOf D with
    | none => rfl
    | some x =>
      obtain ⟨⟨t, ht, h1, h2⟩, _⟩ := scan_some hs
      rw [h] at h2; cases h2
/-- the first is the one that is no greater than any -/
theorem firstOf_eq {now : Int} {D : DMap} (hg : Good now D) {x : Int × Int} (h1 : D x.2 = some x.1) (h2 : ∀ t d, D t = some d → leE x (d, t)) : firstOf D = some x := by
  cases hs : firstOf D with
  | none => rw [(firstOf_none hg).1 hs] at h1; cases h1
  | some y =>
    obtain ⟨⟨t, ht, h3, h4⟩, h5⟩ := scan_some hs
    obtain ⟨k, hk, e⟩ := hg.nat h1
    have a := h5 k x.1 hk (by rw [← e]; exact h1)
    have b := h2 t y.1 h4
    rw [← h3] at b
    rw [← e] at a
    rw [leE.antisymm a b]
theorem firstOf_some {now : Int} {D : DMap} (hg : Good now D) {x : Int × Int} (h : firstOf D = some x) : D x.2 = some x.1 ∧ ∀ t d, D t = some d → leE x (d, t) := by
  obtain ⟨⟨t, ht, h3, h4⟩, h5⟩ := scan_some h
  refine ⟨by rw [h3]; exact h4, fun t' d hd => ?_⟩
  obtain ⟨k, hk, rfl⟩ := hg.nat hd
  exact h5 k d hk hd

/-- how many timers run -/
def cntK (D : DMap) : Nat → Nat
  | 0 => 0
  | k + 1 => cntK D k + if (D k).isSome then 1 else 0
def cnt (D : DMap) : Nat := cntK D 256
theorem cntK_upd_out (D : DMap) (t : Int) (v : Option Int) : ∀ k : Nat, (k : Int) ≤ t → cntK (upd D t v) k = cntK D k
  | 0, _ => rfl
  | k + 1, h => by
    unfold cntK
    rw [cntK_upd_out D t v k (by omega), upd_other _ _ (by omega)]
theorem cntK_upd (D : DMap) (t : Nat) (v : Option Int) : ∀ k : Nat, t < k → cntK (upd D t v) k + (if (D t).isSome then 1 else 0) = cntK D k + (if v.isSome then 1 else 0)
  | 0, h => by omega
  | k + 1, h => by
    unfold cntK
    by_cases e : t = k
    · subst e
      rw [cntK_upd_out D t v t (by omega), upd_same]; omega
    · rw [upd_other _ _ (by omega)]
      have := cntK_upd D t v k (by omega)
      omega
theorem cnt_upd (D : DMap) {t : Int} (h0 : 0 ≤ t) (h1 : t < 256) (v : Option Int) : cnt (upd D t v) + (if (D t).isSome then 1 else 0) = cnt D + (if v.isSome then 1 else 0) := by
  obtain ⟨k, rfl⟩ : ∃ k : Nat, t = k := ⟨t.toNat, by omega⟩
  exact cntK_upd D k v 256 (by omega)
theorem cntK_none {D : DMap} (h : ∀ t, D t = none) : ∀ k, cntK D k = 0
  | 0 => rfl
  | k + 1 => by unfold cntK; rw [cntK_none h k, h]; rfl
theorem cntK_le (D : DMap) : ∀ k, cntK D k ≤ k
  | 0 => Nat.le_refl _
  | k + 1 => by unfold cntK; have := cntK_le D k; split <;> omega

/-- the map that reads as D -/
def fInt (D : DMap) : Lit → Option Value
  | .int .i64 t => (D t).map (Value.int .i64)
  | _ => none
theorem fInt_upd (D : DMap) (t : Int) (v : Option Int) : updL (fInt D) (.int .i64 t) (v.map (Value.int .i64)) = fInt (upd D t v) := by
  funext k
  by_cases e : k = .int .i64 t
  · subst e; rw [updL_same]; simp [fInt, upd]
  · rw [updL_other _ _ e]
    unfold fInt
    split
    · rename_i t'
      rw [upd_other _ _ (fun h => e (by rw [h]))]
    · rfl
theorem fInt_isSome (D : DMap) (t : Int) : (fInt D (.int .i64 t)).isSome = (D t).isSome := by simp [fInt]

def okN (t : Int) : Bool := decide (0 ≤ t) && decide (t < 256)
def startE (now t k : Int) : Int := if okN t = true then (if k < 0 ∨ maxT - now < k then 3 else 0) else 2
def startD (now : Int) (D : DMap) (t k : Int) : DMap := if startE now t k = 0 then upd D t (some (now + k)) else D
def leftE (D : DMap) (t : Int) : Int := if okN t = true then (if (D t).isSome then 0 else 9) else 2
def leftV (now : Int) (D : DMap) (t : Int) : Int := if leftE D t = 0 then (D t).getD 0 - now else 0
def stopD (D : DMap) (t : Int) : DMap := if leftE D t = 0 then upd D t none else D
/-- firing: the timers that are fired, and those that still run -/
def fire : Nat → DMap → Int → List Int × DMap
  | 0, D, _ => ([], D)
  | f + 1, D, now => match firstOf D with
    | none => ([], D)
    | some x => if x.1 ≤ now then (x.2 :: (fire f (upd D x.2 none) now).1, (fire f (upd D x.2 none) now).2) else ([], D)
def advE (time : Int) : Int := if maxT < time then 3 else 0
def advNow (now time : Int) : Int := if maxT < time then now else if now < time then time else now
def adv (now : Int) (D : DMap) (time : Int) : List Int × DMap := if maxT < time then ([], D) else fire 257 D (advNow now time)

theorem Good.upd {now : Int} {D : DMap} (h : Good now D) {t d : Int} (h0 : 0 ≤ t) (h1 : t < 256) (h2 : 0 ≤ d) (h3 : d ≤ maxT) : Good now (upd D t (some d)) := by
  refine ⟨h.1, h.2.1, fun t' d' hd => ?_⟩
  by_cases e : t' = t
  · subst e; rw [upd_same] at hd; cases hd; exact ⟨h0, h1, h2, h3⟩
  · rw [upd_other _ _ e] at hd; exact h.2.2 t' d' hd
theorem Good.del {now : Int} {D : DMap} (h : Good now D) (t : Int) : Good now (Ytdhkcjjcgpkkgaa.upd D t none) := by
  refine ⟨h.1, h.2.1, fun t' d' hd => ?_⟩
  by_cases e : t' = t
  · subst e; rw [upd_same] at hd; cases hd
  · rw [upd_other _ _ e] at hd; exact h.2.2 t' d' hd
end Go.Proofs.Ytdhkcjjcgpkkgaa
