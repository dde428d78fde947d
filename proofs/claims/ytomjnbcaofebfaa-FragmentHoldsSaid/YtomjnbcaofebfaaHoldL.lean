/- FragmentHolds in plain words: the parts of a message go into the box in any order, and the message is whole at the last. -/
import Derived.Test.YtomjnbcaofebfaaAdds
import Derived.Test.YtomjnbcaofebfaaRefS
namespace Go.Proofs.Ytomjnbcaofebfaa

/-- a part's number and bytes -/
def nb (p : Prt) : Int × List UInt8 := (p.num, p.b)
/-- the box when these parts are in it, and these are left -/
def boxS (m : Int) (n : Nat) (lq bq : List Prt) : St := if lq = [] then [] else if bq = [] then [] else [(m, ⟨n, bq.map nb⟩)]
theorem chunks_take (b : List UInt8) (s : Nat) : ∀ i, ((List.range i).map (chunk b s)).flatten = b.take (i * s)
  | 0 => by simp
  | i + 1 => by
    rw [List.range_succ, List.map_append, List.flatten_append, chunks_take b s i]
    simp only [List.map_cons, List.map_nil, List.flatten_cons, List.flatten_nil, List.append_nil]
    unfold chunk
    have h1 : b.take (min b.length ((i + 1) * s)) = b.take ((i + 1) * s) := by
      rcases Nat.le_total b.length ((i + 1) * s) with h | h
      · rw [Nat.min_eq_left h, List.take_of_length_le (Nat.le_refl _), List.take_of_length_le h]
      · rw [Nat.min_eq_right h]
    rw [h1]
    have h2 : b.take (i * s) = (b.take ((i + 1) * s)).take (i * s) := by
      rw [List.take_take, Nat.min_eq_left (Nat.mul_le_mul_right s (Nat.le_succ i))]
    rw [h2, List.take_append_drop]
theorem nparts_covers {len s : Nat} (hs : 1 ≤ s) : len ≤ nparts len s * s := by
  unfold nparts
  have h := Nat.div_add_mod (len + s - 1) s
  have hm := Nat.mod_lt (len + s - 1) (show 0 < s by omega)
  have h2 : (len + s - 1) / s ≤ max 1 ((len + s - 1) / s) := Nat.le_max_right _ _
  have h3 := Nat.mul_le_mul_right s h2
  rw [Nat.mul_comm ((len + s - 1) / s) s] at h3
  omega
theorem chunks_all (b : List UInt8) (s : Nat) (hs : 1 ≤ s) : ((List.range (nparts b.length s)).map (chunk b s)).flatten = b := by
  rw [chunks_take, List.take_of_length_le (nparts_covers hs)]
theorem lenSum_flatten (l : List (List UInt8)) : (l.map List.length).sum = l.flatten.length := by
  rw [List.length_flatten]
section
variable {m : Int} {b : List UInt8} {s n : Nat} {lq bq : List Prt} {p : Prt}
theorem split_sum (hs : 1 ≤ s) (hn : n = nparts b.length s) : ((splitL m b s n).map fun p => p.b.length).sum = b.length := by
  subst hn
  unfold splitL
  rw [List.map_map]
  have h := lenSum_flatten ((List.range (nparts b.length s)).map (chunk b s))
  rw [chunks_all b s hs, List.map_map] at h
  exact h
theorem split_mem (h : p ∈ splitL m b s n) : p.msg = m ∧ p.cnt = n ∧ ∃ i : Nat, i < n ∧ p.num = i ∧ p.b = chunk b s i := by
  obtain ⟨k, hk⟩ := List.mem_iff_getElem?.1 h
  obtain ⟨h1, rfl⟩ := splitL_at hk
  exact ⟨rfl, rfl, k, h1, rfl, rfl⟩
theorem chunk_len (b : List UInt8) (s i : Nat) : (chunk b s i).length ≤ s := by
  unfold chunk
  rw [List.length_drop, List.length_take, Nat.add_mul]
  omega
theorem split_right (hm : wi m 0 65535 = true) (hs : s ≤ 1024) (hn : n ≤ 255) (h : p ∈ splitL m b s n) : rightB p = true := by
  obtain ⟨h1, h2, i, h3, h4, h5⟩ := split_mem h
  unfold rightB
  rw [h1, h2, h4, h5]
  have hc := chunk_len b s i
  obtain ⟨m1, m2⟩ := wi_iff.1 hm
  simp only [wi, Bool.and_eq_true, decide_eq_true_eq]
  omega
theorem split_nodup (m : Int) (b : List UInt8) (s n : Nat) : ((splitL m b s n).map (·.num)).Nodup := by
  unfold splitL
  rw [List.map_map]
  refine List.pairwise_map.2 ((List.nodup_range (n := n)).imp (fun {x y} h e => h ?_))
  have e2 : (x : Int) = (y : Int) := e
  omega
/-- what is fixed: the parts, and those that are left and those that came -/
structure LB (m : Int) (b : List UInt8) (s n : Nat) (lq bq : List Prt) : Prop where
  perm : (lq ++ bq).Perm (splitL m b s n)
  hm : wi m 0 65535 = true
  s1 : 1 ≤ s
  s2 : s ≤ 1024
  hn : n = nparts b.length s
  n40 : n ≤ 40
  b300 : b.length ≤ 300
theorem LB.len (h : LB m b s n lq bq) : lq.length + bq.length = n := by
  have := h.perm.length_eq
  rw [List.length_append, splitL_length] at this
  exact this
theorem LB.sum (h : LB m b s n lq bq) : (lq.map fun p => p.b.length).sum + (bq.map fun p => p.b.length).sum = b.length := by
  have := (h.perm.map fun p => p.b.length).sum_nat
  rw [List.map_append, List.sum_append_nat, split_sum h.s1 h.hn] at this
  exact this
theorem LB.nodup (h : LB m b s n lq bq) : ((lq ++ bq).map (·.num)).Nodup := ((h.perm.map (·.num)).nodup_iff).2 (split_nodup m b s n)
theorem LB.memL (h : LB m b s n lq bq) (hp : p ∈ lq) : p ∈ splitL m b s n := h.perm.mem_iff.1 (List.mem_append_left _ hp)
theorem LB.memB (h : LB m b s n lq bq) (hp : p ∈ bq) : p ∈ splitL m b s n := h.perm.mem_iff.1 (List.mem_append_right _ hp)
theorem keys_nb (l : List Prt) : keysI (l.map nb) = l.map (·.num) := by
  unfold keysI
  rw [List.map_map]
  rfl
theorem LB.nodupB (h : LB m b s n lq bq) : (bq.map (·.num)).Nodup := by
  have := h.nodup
  rw [List.map_append] at this
  exact (List.nodup_append.1 this).2.1
theorem sizeP_nb (l : List Prt) : sizeP (l.map nb) = (l.map fun p => p.b.length).sum := by
  unfold sizeP
  rw [List.map_map]
  rfl
theorem held_box (hl : lq ≠ []) : heldS (boxS m n lq bq) = (bq.map fun p => p.b.length).sum := by
  unfold boxS
  rw [if_neg hl]
  by_cases hb : bq = []
  · subst hb; simp [heldS]
  · rw [if_neg hb]
    unfold heldS
    simp only [List.map_cons, List.map_nil, List.sum_cons, List.sum_nil, Nat.add_zero]
    exact sizeP_nb bq
/-- a part that is there comes again -/
theorem add_again (h : LB m b s n lq bq) (hl : lq ≠ []) (hp : p ∈ bq) : addS 1 300 (boxS m n lq bq) p = (boxS m n lq bq, [], false, 0) := by
  have hr := split_right h.hm h.s2 (by have := h.n40; omega) (h.memB hp)
  obtain ⟨h1, h2, -⟩ := split_mem (h.memB hp)
  have hb : bq ≠ [] := fun e => by subst e; cases hp
  have hlk : lk (bq.map nb) p.num = some p.b := lk_of_mem (by rw [keys_nb]; exact h.nodupB) (List.mem_map.2 ⟨p, hp, rfl⟩)
  have hS : lk (boxS m n lq bq) p.msg = some ⟨n, bq.map nb⟩ := by
    unfold boxS
    rw [if_neg hl, if_neg hb, h1]
    simp [lk]
  unfold addS
  rw [if_neg (by simp [hr]), hS]
  simp only [h2, hlk]
  simp
theorem LB.next {lq1 lq2 : List Prt} (h : LB m b s n (lq1 ++ p :: lq2) bq) : LB m b s n (lq1 ++ lq2) (bq ++ [p]) := by
  refine ⟨?_, h.hm, h.s1, h.s2, h.hn, h.n40, h.b300⟩
  refine List.Perm.trans ?_ h.perm
  have h1 : (lq1 ++ lq2 ++ (bq ++ [p])).Perm (p :: (lq1 ++ lq2 ++ bq)) := by
    rw [← List.append_assoc]
    exact List.perm_append_singleton p _
  refine h1.trans ?_
  rw [List.append_assoc, List.append_assoc, List.cons_append]
  exact List.perm_middle.symm
theorem lookup_none (h : LB m b s n lq bq) (hp : p ∈ lq) : lk (bq.map nb) p.num = none := by
  rw [lk_none, keys_nb]
  intro hx
  have := h.nodup
  rw [List.map_append] at this
  exact (List.nodup_append.1 this).2.2 p.num (List.mem_map.2 ⟨p, hp, rfl⟩) p.num hx rfl
theorem put_one (m : Int) (n : Nat) (ps : List (Int × List UInt8)) (p : Prt) (h : p.msg = m) :
    putS [(m, ⟨n, ps⟩)] p ⟨n, ps⟩ = if ps.length + 1 < n then ([(m, ⟨n, ps ++ [nb p]⟩)], [], false, 0) else ([], whole (ps ++ [nb p]), true, 0) := by
  unfold putS
  rw [h]
  by_cases hl : ps.length + 1 < n
  · rw [if_pos hl, if_pos (by simp only; omega)]
    simp [mod, nb]
  · rw [if_neg hl, if_neg (by simp only; omega)]
    simp [del, nb]
theorem le_lenSum : ∀ {l : List Prt} {p : Prt}, p ∈ l → p.b.length ≤ (l.map fun p => p.b.length).sum
  | [], _, h => by cases h
  | q :: l, p, h => by
    rw [List.map_cons, List.sum_cons]
    rcases List.mem_cons.1 h with rfl | h
    · omega
    · have := le_lenSum h; omega
theorem add_put (h : LB m b s n lq bq) (hp : p ∈ lq) : addS 1 300 (boxS m n lq bq) p = if bq.length + 1 < n then ([(m, ⟨n, (bq ++ [p]).map nb⟩)], [], false, 0) else ([], whole ((bq ++ [p]).map nb), true, 0) := by
  have hl : lq ≠ [] := fun e => by subst e; cases hp
  have hr := split_right h.hm h.s2 (by have := h.n40; omega) (h.memL hp)
  obtain ⟨h1, h2, -⟩ := split_mem (h.memL hp)
  have hsum := h.sum
  have hle : p.b.length ≤ (lq.map fun p => p.b.length).sum := by
    exact le_lenSum hp
  have hheld := held_box (m := m) (n := n) (bq := bq) hl
  have hb3 := h.b300
  have hnf : ¬ (300 : Int) < (heldS (boxS m n lq bq) : Int) + (p.b.length : Int) := by omega
  have hx := put_one m n (bq.map nb) p h1
  rw [List.length_map] at hx
  unfold addS
  rw [if_neg (by simp [hr])]
  by_cases hb : bq = []
  · subst hb
    have hS : boxS m n lq [] = [] := by unfold boxS; rw [if_neg hl, if_pos rfl]
    rw [hS] at hnf ⊢
    simp only [lk]
    rw [if_neg (by simp only [List.length_nil]; omega), h1, h2]
    simpa using hx
  · have hS : boxS m n lq bq = [(m, ⟨n, bq.map nb⟩)] := by unfold boxS; rw [if_neg hl, if_neg hb]
    rw [hS] at hnf ⊢
    have hk : lk [(m, (⟨n, bq.map nb⟩ : Msg))] p.msg = some ⟨n, bq.map nb⟩ := by rw [h1]; simp [lk]
    rw [hk]
    simp only [h2, lookup_none h hp]
    rw [if_neg (by simp), if_neg hnf, hx]
    simp
/-- a part that is not the last -/
theorem add_new {lq1 lq2 : List Prt} (h : LB m b s n (lq1 ++ p :: lq2) bq) (hne : lq1 ++ lq2 ≠ []) : addS 1 300 (boxS m n (lq1 ++ p :: lq2) bq) p = (boxS m n (lq1 ++ lq2) (bq ++ [p]), [], false, 0) := by
  have hlen := h.len
  have h2 := List.length_pos_iff.2 hne
  rw [List.length_append] at hlen h2
  rw [List.length_cons] at hlen
  rw [add_put h (by simp), if_pos (by omega)]
  unfold boxS
  rw [if_neg hne, if_neg (by simp)]
theorem whole_all {bq : List Prt} (h : LB m b s n [] bq) : whole (bq.map nb) = b := by
  have hp : bq.Perm (splitL m b s n) := by simpa using h.perm
  have hk : (keysI (bq.map nb)).Perm ((List.range n).map fun i : Nat => (i : Int)) := by
    rw [keys_nb]
    refine (hp.map _).trans ?_
    unfold splitL
    rw [List.map_map]
    exact List.Perm.refl _
  have hs : sortK (bq.map nb) = (List.range n).map fun i : Nat => (i : Int) := by
    unfold sortK
    rw [mergeSort_of_perm_i hk]
    refine List.mergeSort_of_pairwise ?_
    rw [List.pairwise_map]
    refine List.pairwise_lt_range.imp (fun {a b} h => ?_)
    simp only [decide_eq_true_eq]
    omega
  unfold whole vals
  rw [hs, List.map_map]
  have hc : ∀ i ∈ List.range n, ((fun k => (lk (bq.map nb) k).getD []) ∘ fun i : Nat => (i : Int)) i = chunk b s i := fun i hi => by
    have hin : (⟨m, i, n, chunk b s i⟩ : Prt) ∈ bq := hp.mem_iff.2 (by
      unfold splitL
      exact List.mem_map.2 ⟨i, hi, rfl⟩)
    have := lk_of_mem (l := bq.map nb) (t := (i : Int)) (v := chunk b s i) (by rw [keys_nb]; exact h.nodupB) (List.mem_map.2 ⟨_, hin, rfl⟩)
    simp only [Function.comp, this, Option.getD_some]
  rw [List.map_congr_left hc, h.hn, chunks_all b s h.s1]
/-- the last part -/
theorem add_last (h : LB m b s n [p] bq) : addS 1 300 (boxS m n [p] bq) p = ([], b, true, 0) := by
  have hlen := h.len
  rw [List.length_singleton] at hlen
  rw [add_put h (by simp), if_neg (by omega), whole_all (h.next (lq1 := []) (lq2 := []))]
end
end Go.Proofs.Ytomjnbcaofebfaa
