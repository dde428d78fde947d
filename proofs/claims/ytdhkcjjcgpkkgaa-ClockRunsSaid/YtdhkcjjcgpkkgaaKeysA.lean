/- Plain: the numbers of the running timers, in order. -/
import Derived.Test.YtdhkcjjcgpkkgaaSpec
import Derived.Lib.SlKeysI
namespace Go.Proofs.Ytdhkcjjcgpkkgaa
open Go.RowKit Go.Maps

/-- the timers that run below k, in order -/
def keysK (D : DMap) : Nat → List Int
  | 0 => []
  | k + 1 => keysK D k ++ (if (D k).isSome then [(k : Int)] else [])
def keysOf (D : DMap) : List Int := keysK D 256
theorem keysK_mem (D : DMap) (t : Int) : ∀ k : Nat, t ∈ keysK D k ↔ 0 ≤ t ∧ t < k ∧ (D t).isSome := by
  intro k
  induction k with
  | zero => simp [keysK]; omega
  | succ k ih =>
    unfold keysK
    rw [List.mem_append, ih]
    constructor
    · rintro (⟨h1, h2, h3⟩ | h)
      · exact ⟨h1, by omega, h3⟩
      · split at h
        · simp at h; subst h; exact ⟨by omega, by omega, by assumption⟩
        · cases h
    · rintro ⟨h1, h2, h3⟩
      by_cases e : t = k
      · subst e; right; rw [if_pos h3]; simp
      · left; exact ⟨h1, by omega, h3⟩
theorem keysK_lt (D : DMap) : ∀ k : Nat, (keysK D k).Pairwise (· < ·) := by
  intro k
  induction k with
  | zero => exact List.Pairwise.nil
  | succ k ih =>
    unfold keysK
    refine List.pairwise_append.2 ⟨ih, by split <;> simp, fun a ha b hb => ?_⟩
    have := (keysK_mem D a k).1 ha
    split at hb
    · simp at hb; omega
    · cases hb
theorem keysK_length (D : DMap) : ∀ k : Nat, (keysK D k).length = cntK D k := by
  intro k
  induction k with
  | zero => rfl
  | succ k ih => unfold keysK cntK; rw [List.length_append, ih]; split <;> simp
theorem keysOf_mem {now : Int} {D : DMap} (hg : Good now D) (t : Int) : t ∈ keysOf D ↔ (D t).isSome := by
  unfold keysOf
  rw [keysK_mem]
  constructor
  · exact fun h => h.2.2
  · intro h
    obtain ⟨d, hd⟩ := Option.isSome_iff_exists.1 h
    have := hg.2.2 t d hd
    exact ⟨this.1, by omega, h⟩
theorem keysOf_sort (D : DMap) : (keysOf D).mergeSort (fun x y => decide (x ≤ y)) = keysOf D := by
  refine List.mergeSort_of_pairwise ?_
  exact (keysK_lt D 256).imp (fun {a b} h => by simp; omega)
theorem keys_of_map {P : Program} {now : Int} {D : DMap} (hg : Good now D) {w : World} {b n c : Nat} (hm : MapAt P 3 w (some b) n (fInt D) c) (K : Keyed P 3) (hk : P.underlying 3 = some (.int .i64)) :
    ∃ D0, w.ownsMap P 3 rawR b n D0 ∧ Maps.size D0 = c ∧ ∀ ss : List Int, ss.Perm (intKeys D0) → ss.mergeSort (fun x y => decide (x ≤ y)) = keysOf D ∧ ss.length = (keysOf D).length := by
  rcases hm with ⟨h, _⟩ | ⟨b', D0, h, ho, h1, h2, h3⟩
  · cases h
  · cases h
    refine ⟨D0, ho, h3, fun ss hss => ?_⟩
    have hp : (keysOf D).Perm (intKeys D0) := by
      obtain ⟨es, hD, hpw, _⟩ := ho.entries K
      obtain ⟨es', hD', hko⟩ := ho.keysOf
      obtain rfl : es = es' := by rw [hD] at hD'; simpa using hD'
      subst hD
      refine perm_intKeys hpw (fun p hp => by obtain ⟨v, hv⟩ := hko p hp; obtain ⟨x, _, hx, _⟩ := Maps.keyOf_i64 hk hv; exact ⟨x, hx⟩) ((keysK_lt D 256).imp (fun {a b} h => by omega)) (fun x => ?_)
      rw [keysOf_mem hg, h1 (.int .i64 x), fInt_isSome]
    have hq := hss.trans hp.symm
    exact ⟨(mergeSort_of_perm_i hq).trans (keysOf_sort D), hq.length_eq⟩
end Go.Proofs.Ytdhkcjjcgpkkgaa
