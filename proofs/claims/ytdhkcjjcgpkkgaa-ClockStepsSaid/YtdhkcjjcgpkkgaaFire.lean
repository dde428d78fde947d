/- Plain: firing in steps and at once. The array of the law's own book on what is due. -/
import Derived.Test.YtdhkcjjcgpkkgaaRef
namespace Go.Proofs.Ytdhkcjjcgpkkgaa
open Go.RowKit

theorem cnt_lt (D : DMap) : cnt D < 257 := by have := cntK_le D 256; unfold cnt; omega
theorem fire_spec {m : Int} (n : Int) : ∀ (f : Nat) (D : DMap), Good m D → cnt D < f → (∀ t ∈ (fire f D n).1, ∃ d, D t = some d ∧ d ≤ n) ∧ (fire f D n).1.Nodup ∧ (∀ t, (fire f D n).2 t = if t ∈ (fire f D n).1 then none else D t) ∧ ∀ t d, (fire f D n).2 t = some d → n < d := by
  intro f
  induction f with
  | zero => intro D _ h; omega
  | succ f ih =>
    intro D hg h
    cases hf : firstOf D with
    | none =>
      rw [fire_none hf]
      exact ⟨by simp, by simp, by simp, fun t d hd => by have hd' : D t = some d := hd; rw [(firstOf_none hg).1 hf t] at hd'; cases hd'⟩
    | some x =>
      obtain ⟨hx, hmin⟩ := firstOf_some hg hf
      by_cases hl : x.1 ≤ n
      · rw [fire_hit hf hl]
        have hc := cnt_del hg hx
        obtain ⟨h1, h2, h3, h4⟩ := ih (upd D x.2 none) (hg.del x.2) (by omega)
        have hn : x.2 ∉ (fire f (upd D x.2 none) n).1 := fun hm => by
          obtain ⟨d, hd, _⟩ := h1 _ hm
          rw [upd_same] at hd; cases hd
        refine ⟨fun t ht => ?_, List.nodup_cons.2 ⟨hn, h2⟩, fun t => ?_, h4⟩
        · rcases List.mem_cons.1 ht with rfl | ht
          · exact ⟨_, hx, hl⟩
          · obtain ⟨d, hd, hle⟩ := h1 t ht
            by_cases e : t = x.2
            · subst e; exact absurd ht hn
            · rw [upd_other _ _ e] at hd; exact ⟨d, hd, hle⟩
        · rw [h3 t]
          by_cases e : t = x.2
          · subst e; simp [hn, upd_same]
          · rw [upd_other _ _ e]
            by_cases hm : t ∈ (fire f (upd D x.2 none) n).1 <;> simp [hm, e]
      · rw [fire_late hf hl]
        exact ⟨by simp, by simp, by simp, fun t d hd => by have hd' : D t = some d := hd; have := hmin t d hd'; unfold leE at this; simp at this; omega⟩
theorem fire_fuel {m : Int} (n : Int) : ∀ (f g : Nat) (D : DMap), Good m D → cnt D < f → cnt D < g → fire f D n = fire g D n := by
  intro f
  induction f with
  | zero => intro g D _ h; omega
  | succ f ih =>
    intro g D hg h1 h2
    obtain ⟨g, rfl⟩ : ∃ k, g = k + 1 := ⟨g - 1, by omega⟩
    cases hf : firstOf D with
    | none => rw [fire_none hf, fire_none hf]
    | some x =>
      by_cases hl : x.1 ≤ n
      · have hc := cnt_del hg (firstOf_some hg hf).1
        rw [fire_hit hf hl, fire_hit hf hl, ih g (upd D x.2 none) (hg.del x.2) (by omega) (by omega)]
      · rw [fire_late hf hl, fire_late hf hl]
theorem fire_two {m : Int} {n1 n2 : Int} (hn : n1 ≤ n2) : ∀ (f : Nat) (D : DMap), Good m D → cnt D < f →
    fire f D n2 = ((fire f D n1).1 ++ (fire 257 (fire f D n1).2 n2).1, (fire 257 (fire f D n1).2 n2).2) := by
  intro f
  induction f with
  | zero => intro D _ h; omega
  | succ f ih =>
    intro D hg h
    cases hf : firstOf D with
    | none => rw [fire_none hf, fire_none hf]; rw [fire_none hf]; simp
    | some x =>
      by_cases hl : x.1 ≤ n1
      · have hc := cnt_del hg (firstOf_some hg hf).1
        rw [fire_hit hf (show x.1 ≤ n2 by omega), fire_hit hf hl, ih (upd D x.2 none) (hg.del x.2) (by omega)]
        simp
      · rw [fire_late hf hl, fire_fuel n2 (f + 1) 257 D hg h (cnt_lt D)]
        simp

theorem fire_short : ∀ (f : Nat) (D : DMap) (now : Int), (fire f D now).1.length ≤ f := by
  intro f
  induction f with
  | zero => intro D now; simp [fire]
  | succ f ih =>
    intro D now
    unfold fire
    split
    · simp
    · split
      · rename_i x _ _
        have := ih (upd D x.2 none) now
        simp; exact this
      · simp
/-- the law's own book: when each timer is due, and one more; or 0 -/
def dueA (D : DMap) : Array Value := ((List.range 256).map fun i => Value.int .i64 (dueV D i + 1)).toArray
theorem dueA_size (D : DMap) : (dueA D).size = 256 := by simp [dueA]
theorem dueA_at (D : DMap) (i : Nat) (h : i < 256) : (dueA D)[i]? = some (.int .i64 (dueV D i + 1)) := by simp [dueA, h]
theorem dueA_ext {D : DMap} {A : Array Value} (hs : A.size = 256) (h1 : ∀ i, i < 256 → A[i]? = some (.int .i64 (dueV D i + 1))) : A = dueA D := by
  apply Array.ext_getElem?
  intro i
  by_cases hi : i < 256
  · rw [h1 i hi, dueA_at D i hi]
  · rw [Array.getElem?_eq_none (by omega), Array.getElem?_eq_none (by rw [dueA_size]; omega)]
theorem dueA_set (D : DMap) (t : Nat) (v : Option Int) (ht : t < 256) : (dueA D).setIfInBounds t (.int .i64 (v.getD (-1) + 1)) = dueA (upd D t v) := by
  refine dueA_ext (by simp [dueA_size]) fun i hi => ?_
  by_cases e : i = t
  · subst e
    rw [Array.getElem?_setIfInBounds_self_of_lt (by rw [dueA_size]; omega)]
    simp [dueV, upd]
  · rw [Array.getElem?_setIfInBounds_ne (by omega), dueA_at D i hi]
    simp only [dueV]
    rw [upd_other _ _ (by omega)]
def Z28 : Array Value := Array.replicate 256 (.int .i64 0)
theorem Z28_due : Z28 = dueA D0 := dueA_ext (by simp [Z28]) fun i hi => by simp [Z28, hi, dueV, D0]
theorem Try.info28z : (Try.prog.info? 28).map (fun i => (i.zero, i.size)) = some (some (.agg Z28), 256) := by kernel_rfl
/-- what is left of D without those of a list -/
def without (D : DMap) (l : List Int) : DMap := fun t => if t ∈ l then none else D t
theorem without_nil (D : DMap) : without D [] = D := by funext t; simp [without]
theorem without_snoc (D : DMap) (l : List Int) (x : Int) : without D (l ++ [x]) = upd (without D l) x none := by
  funext t
  by_cases e : t = x
  · subst e; rw [upd_same]; simp [without]
  · rw [upd_other _ _ e]; simp [without, e]
theorem fire_without {m : Int} {n : Int} {D : DMap} (hg : Good m D) : without D (fire 257 D n).1 = (fire 257 D n).2 := by
  funext t
  rw [(fire_spec n 257 D hg (cnt_lt D)).2.2.1 t]; rfl
/-- one of the fired, when those ahead of it have been struck -/
theorem fired_at {m : Int} {n : Int} {D : DMap} (hg : Good m D) {k : Nat} {x : Int} (hx : (fire 257 D n).1[k]? = some x) :
    ∃ d, D x = some d ∧ without D ((fire 257 D n).1.take k) x = some d ∧ d ≤ n ∧ 0 ≤ x ∧ x < 256 ∧ 0 ≤ d := by
  obtain ⟨h1, h2, h3, h4⟩ := fire_spec n 257 D hg (cnt_lt D)
  generalize (fire 257 D n).1 = l at *
  have hk := lt_of_some hx
  have hm : x ∈ l := List.mem_of_getElem? hx
  obtain ⟨d, hd, hle⟩ := h1 x hm
  have hb := hg.2.2 x d hd
  have hn : x ∉ l.take k := fun hmem => by
    obtain ⟨j, hj⟩ := List.mem_iff_getElem?.1 hmem
    have hjk : j < k := by have := lt_of_some hj; simp at this; omega
    rw [List.getElem?_take, if_pos hjk] at hj
    have := List.pairwise_iff_getElem.1 h2 j k (by omega) hk hjk
    rw [List.getElem?_eq_getElem (by omega)] at hj hx
    exact this ((Option.some.inj hj).trans (Option.some.inj hx).symm)
  exact ⟨d, hd, by simp [without, hn, hd], hle, hb.1, hb.2.1, hb.2.2.1⟩
theorem take_all {α : Type} (l : List α) : l.take l.length = l := List.take_length
end Go.Proofs.Ytdhkcjjcgpkkgaa
