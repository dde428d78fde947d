/- ChannelKeys: the plain law. -/
import Derived.Test.YthelfpenccpkeaaEq
import Derived.Test.YthelfpenccpkeaaOrd
import Derived.Test.YthelfpenccpkeaaRefC
namespace Go.Proofs.Ythelfpenccpkeaa
open Go.RowKit Go.BigFrame

theorem keyB_bytes : ∀ A : List ByteArray, byt (keyB A) = A.flatMap fun m => UInt8.ofNat m.size :: byt m
  | [] => rfl
  | a :: A => by
    have h := keyB_bytes A
    show byt ((_ ++ a) ++ keyB A) = _
    rw [List.flatMap_cons, ← h]
    simp [byt, ByteArray.data_append]
theorem byt_length (m : ByteArray) : (byt m).length = m.size := rfl
theorem size_eq {a b : Nat} (ha : a ≤ 32) (hb : b ≤ 32) (h : UInt8.ofNat a = UInt8.ofNat b) : a = b := by
  have h1 := congrArg UInt8.toNat h
  simp at h1
  omega
theorem keyB_inj : ∀ A B : List ByteArray, (∀ x ∈ A, x.size ≤ 32) → (∀ x ∈ B, x.size ≤ 32) → keyB A = keyB B → A = B := by
  intro A
  induction A with
  | nil =>
    intro B _ _ h
    cases B with
    | nil => rfl
    | cons b B =>
      have h1 := congrArg byt h
      rw [keyB_bytes, keyB_bytes] at h1
      simp at h1
  | cons a A ih =>
    intro B hA hB h
    cases B with
    | nil =>
      have h1 := congrArg byt h
      rw [keyB_bytes, keyB_bytes] at h1
      simp at h1
    | cons b B =>
      have h1 := congrArg byt h
      rw [keyB_bytes, keyB_bytes, List.flatMap_cons, List.flatMap_cons, List.cons_append, List.cons_append, List.cons.injEq] at h1
      have hs := size_eq (hA a (by simp)) (hB b (by simp)) h1.1
      obtain ⟨e1, e2⟩ := List.append_inj h1.2 (by rw [byt_length, byt_length, hs])
      have e3 : keyB A = keyB B := byt_inj (by rw [keyB_bytes, keyB_bytes]; exact e2)
      rw [byt_inj e1, ih B (fun x hx => hA x (by simp [hx])) (fun x hx => hB x (by simp [hx])) e3]
/-- two channels that the law takes for equal -/
def Rl (cls : Int) (A B : List ByteArray) : Prop := if cls = 2 then A.Perm B else A = B
theorem Rl.perm {cls : Int} {A B : List ByteArray} (h : Rl cls A B) : A.Perm B := by
  unfold Rl at h
  split at h
  · exact h
  · rw [h]
theorem rl_keys {cls : Int} {A B : List ByteArray} (h : Rl cls A B) : keyL cls A = keyL cls B := by
  unfold Rl at h
  split at h
  · rename_i h2
    subst h2
    exact key_unique ((keyL_perm A).trans h) (keyL_sorted A)
  · rw [h]
theorem keys_rl {cls : Int} {A B : List ByteArray} (hA : ∀ x ∈ A, x.size ≤ 32) (hB : ∀ x ∈ B, x.size ≤ 32) (h : keyB (keyL cls A) = keyB (keyL cls B)) : Rl cls A B := by
  have h1 := keyB_inj _ _ (fun x hx => hA x (keyL_mem hx)) (fun x hx => hB x (keyL_mem hx)) h
  unfold Rl
  split
  · rename_i h2
    subst h2
    exact (keyL_perm A).symm.trans (h1 ▸ keyL_perm B)
  · rename_i h2
    rw [keyL, keyL, if_neg h2, if_neg h2] at h1
    exact h1
theorem rl_put {cls cap : Int} {A B : List ByteArray} (h : Rl cls A B) (m : ByteArray) : putE cap A m = putE cap B m ∧ Rl cls (putL cap A m) (putL cap B m) := by
  have hl := h.perm.length_eq
  have he : putE cap A m = putE cap B m := by unfold putE; rw [hl]
  refine ⟨he, ?_⟩
  unfold putL
  rw [he]
  split
  · unfold Rl at h ⊢
    split at h
    · rename_i h2; rw [if_pos h2]; exact h.append (List.Perm.refl _)
    · rename_i h2; rw [if_neg h2, h]
  · exact h
/-- the messages at the choices -/
def chm (cls : Int) (L : List ByteArray) (n : Nat) : List ByteArray := (chlK cls L n).map (·.2)
theorem chm_succ (cls : Int) (L : List ByteArray) (k : Nat) : chm cls L (k + 1) = if chc cls L k then chm cls L k ++ [L.getD k ByteArray.empty] else chm cls L k := by
  unfold chm
  rw [chlK]
  split <;> simp
theorem getD_at {L : List ByteArray} {k : Nat} (hk : k < L.length) : L.getD k ByteArray.empty = L[k] := by rw [List.getD_eq_getElem?_getD, List.getElem?_eq_getElem hk]; rfl
theorem mem_take_iff {L : List ByteArray} {x : ByteArray} {n : Nat} (hn : n ≤ L.length) : x ∈ L.take n ↔ ∃ k, k < n ∧ L.getD k ByteArray.empty = x := by
  rw [List.mem_iff_getElem]
  constructor
  · rintro ⟨k, hk, e⟩
    rw [List.length_take] at hk
    exact ⟨k, by omega, by rw [getD_at (by omega), ← e, List.getElem_take]⟩
  · rintro ⟨k, hk, e⟩
    exact ⟨k, by rw [List.length_take]; omega, by rw [List.getElem_take, ← getD_at (by omega)]; exact e⟩
theorem chc2 {L : List ByteArray} {k : Nat} (hk : k < L.length) : chc 2 L k = true ↔ L.getD k ByteArray.empty ∉ L.take k := by
  rw [chc_two hk, nf_iff, mem_take_iff (by omega)]
  constructor
  · rintro h ⟨i, hi, e⟩; exact h i hi e
  · intro h i hi e; exact h ⟨i, hi, e⟩
theorem take_snoc {L : List ByteArray} {k : Nat} (hk : k < L.length) : L.take (k + 1) = L.take k ++ [L.getD k ByteArray.empty] := by rw [List.take_succ_eq_append_getElem hk, getD_at hk]
theorem mem_chm {L : List ByteArray} {x : ByteArray} : ∀ n, n ≤ L.length → (x ∈ chm 2 L n ↔ x ∈ L.take n)
  | 0, _ => by simp [chm, chlK]
  | n + 1, h => by
    have ih := mem_chm (L := L) (x := x) n (by omega)
    rw [chm_succ, take_snoc (by omega)]
    by_cases hc : chc 2 L n = true
    · rw [if_pos hc, List.mem_append, List.mem_append, ih]
    · rw [if_neg hc, List.mem_append, ih]
      have := (not_congr (chc2 (L := L) (k := n) (by omega))).1 hc
      rw [Classical.not_not] at this
      constructor
      · exact .inl
      · rintro (h | h)
        · exact h
        · rw [List.mem_singleton] at h; rw [h]; exact this
theorem nodup_chm {L : List ByteArray} : ∀ n, n ≤ L.length → (chm 2 L n).Nodup
  | 0, _ => by simp [chm, chlK]
  | n + 1, h => by
    have ih := nodup_chm (L := L) n (by omega)
    rw [chm_succ]
    by_cases hc : chc 2 L n = true
    · rw [if_pos hc, List.nodup_append]
      refine ⟨ih, by simp, fun a ha b hb e => ?_⟩
      rw [List.mem_singleton] at hb
      subst hb
      subst e
      exact (chc2 (L := L) (k := n) (by omega)).1 hc ((mem_chm (L := L) n (by omega)).1 ha)
    · rw [if_neg hc]; exact ih
theorem rl_chm {cls : Int} {A B : List ByteArray} (h : Rl cls A B) : (∀ x ∈ chm cls A A.length, x ∈ chm cls B B.length) ∧ (chm cls A A.length).length = (chm cls B B.length).length := by
  unfold Rl at h
  split at h
  · rename_i h2
    subst h2
    have hm : ∀ x, x ∈ chm 2 A A.length ↔ x ∈ chm 2 B B.length := fun x => by
      rw [mem_chm _ (Nat.le_refl _), mem_chm _ (Nat.le_refl _), List.take_length, List.take_length]
      exact h.mem_iff
    exact ⟨fun x hx => (hm x).1 hx, ((List.perm_ext_iff_of_nodup (nodup_chm _ (Nat.le_refl _)) (nodup_chm _ (Nat.le_refl _))).2 hm).length_eq⟩
  · subst h; exact ⟨fun x hx => hx, rfl⟩
theorem at_chl {L : List ByteArray} {m : ByteArray} {p : Nat} : ∀ n, n ≤ L.length → p < n → chc 2 L p = true → L.getD p ByteArray.empty = m → atOf m (chlK 2 L n) = (p : Int)
  | 0, _, h, _, _ => by omega
  | n + 1, hn, hp, hc, hm => by
    rw [chlK]
    by_cases e : p = n
    · subst e
      rw [if_pos hc, atOf_snoc, if_pos hm]
    · have ih := at_chl n (by omega) (by omega : p < n) hc hm
      by_cases hcn : chc 2 L n = true
      · rw [if_pos hcn, atOf_snoc, if_neg, ih]
        intro h
        have h1 := (chc2 (L := L) (k := n) (by omega)).1 hcn
        exact h1 ((mem_take_iff (by omega)).2 ⟨p, by omega, hm.trans h.symm⟩)
      · rw [if_neg hcn, List.append_nil, ih]
theorem tk_two {L : List ByteArray} {m : ByteArray} (h : m ∈ chm 2 L L.length) : ∃ p, ∃ (hp : p < L.length), L[p] = m ∧ tkL 2 L m = L.eraseIdx p := by
  obtain ⟨x, hx, hxm⟩ := List.mem_map.1 h
  obtain ⟨h1, h2⟩ := mem_chl _ hx
  obtain ⟨-, hc⟩ := (mem_chp L.length).1 (show x.1 ∈ chp 2 L L.length from List.mem_map.2 ⟨x, hx, rfl⟩)
  have hg : L.getD x.1 ByteArray.empty = m := h2.symm.trans hxm
  refine ⟨x.1, h1, by rw [← getD_at h1]; exact hg, ?_⟩
  have ho : takeOk 2 L (x.1 : Int) = true := by
    unfold takeOk
    rw [Bool.and_eq_true, decide_eq_true_iff]
    exact ⟨⟨by omega, by omega⟩, by simpa using hc⟩
  rw [tkL, at_chl _ (Nat.le_refl _) h1 hc hg]
  simp [takeL, ho]
theorem erase_perm {l : List ByteArray} {p : Nat} (hp : p < l.length) : (l[p] :: l.eraseIdx p).Perm l := by
  rw [List.eraseIdx_eq_take_drop_succ]
  have h := (List.perm_middle (a := l[p]) (l₁ := l.take p) (l₂ := l.drop (p + 1))).symm
  have e : l.take p ++ l[p] :: l.drop (p + 1) = l := by rw [← List.drop_eq_getElem_cons hp, List.take_append_drop]
  rwa [e] at h
theorem rl_take {cls : Int} {A B : List ByteArray} (h : Rl cls A B) {m : ByteArray} (hm : m ∈ chm cls A A.length) : Rl cls (tkL cls A m) (tkL cls B m) := by
  have hm2 := (rl_chm h).1 m hm
  unfold Rl at h ⊢
  split at h
  · rename_i h2
    subst h2
    rw [if_pos rfl]
    obtain ⟨p, hp, e1, e2⟩ := tk_two hm
    obtain ⟨q, hq, e3, e4⟩ := tk_two hm2
    rw [e2, e4]
    have k1 := erase_perm hp
    have k2 := erase_perm hq
    rw [e1] at k1
    rw [e3] at k2
    exact ((k1.trans h).trans k2.symm).cons_inv
  · rename_i h2
    rw [if_neg h2, h]
/-- a channel behind these puts -/
def pf (cap : Int) (ms : List ByteArray) : List ByteArray := ms.foldl (putL cap) []
theorem pf_snoc (cap : Int) (ms : List ByteArray) (m : ByteArray) : pf cap (ms ++ [m]) = putL cap (pf cap ms) m := by simp [pf]
theorem pf_filter {cap : Int} : ∀ n (ms : List ByteArray), ms.length = n → (∀ m ∈ ms, m.size ≤ 32) → (ms.length : Int) ≤ cap → pf cap ms = ms.filter fun m => decide (1 ≤ m.size)
  | 0, ms, h, _, _ => by rw [List.length_eq_zero_iff.1 h]; rfl
  | n + 1, ms, h, hs, hc => by
    have hne : ms ≠ [] := by intro e; rw [e] at h; simp at h
    obtain ⟨m0, x, rfl⟩ : ∃ m0 x, ms = m0 ++ [x] := ⟨ms.dropLast, ms.getLast hne, (List.dropLast_concat_getLast hne).symm⟩
    rw [List.length_append, List.length_cons, List.length_nil] at h hc
    have ih := pf_filter (cap := cap) n m0 (by omega) (fun m hm => hs m (by simp [hm])) (by omega)
    rw [pf_snoc, ih, List.filter_append]
    have hx := hs x (by simp)
    have hlen := List.length_filter_le (fun m : ByteArray => decide (1 ≤ m.size)) m0
    by_cases h1 : x.size < 1
    · have e : List.filter (fun m : ByteArray => decide (1 ≤ m.size)) [x] = [] := List.filter_eq_nil_iff.2 (by intro a ha; rw [List.mem_singleton] at ha; subst ha; rw [decide_eq_true_iff]; omega)
      have he : putE cap (m0.filter fun m => decide (1 ≤ m.size)) x = 2 := by rw [putE, if_pos (.inl h1)]
      rw [e, List.append_nil, putL, he, if_neg (by decide)]
    · have e : List.filter (fun m : ByteArray => decide (1 ≤ m.size)) [x] = [x] := by rw [List.filter_cons_of_pos (by simp; omega)]; rfl
      have he : putE cap (m0.filter fun m => decide (1 ≤ m.size)) x = 0 := by
        have n1 : ¬ (x.size < 1 ∨ 32 < x.size) := by omega
        have n2 : ¬ (((m0.filter fun m => decide (1 ≤ m.size)).length : Int) = cap) := by omega
        rw [putE, if_neg n1, if_neg n2]
      rw [e, putL, he, if_pos rfl]
/-- the list, turned -/
def rot (l : List ByteArray) (b : Nat) : List ByteArray := (List.range l.length).map fun i => l.getD ((i + b) % l.length) ByteArray.empty
theorem rot_perm (l : List ByteArray) (b : Nat) : (rot l b).Perm l := by
  by_cases h0 : l.length = 0
  · rw [List.length_eq_zero_iff.1 h0]; exact List.Perm.refl _
  · have e : rot l b = l.drop (b % l.length) ++ l.take (b % l.length) := by
      have hb := Nat.mod_lt b (by omega : l.length > 0)
      apply List.ext_getElem
      · simp [rot]; omega
      · intro i h1 h2
        simp only [rot, List.length_map, List.length_range] at h1
        simp only [rot, List.getElem_map, List.getElem_range]
        have hm : (i + b) % l.length = (i + b % l.length) % l.length := by rw [Nat.add_mod_mod]
        rw [hm]
        by_cases hi : i + b % l.length < l.length
        · rw [Nat.mod_eq_of_lt hi, getD_at hi, List.getElem_append_left (by rw [List.length_drop]; omega), List.getElem_drop]
          congr 1; omega
        · have hr : (i + b % l.length) % l.length = i + b % l.length - l.length := by rw [Nat.mod_eq_sub_mod (by omega), Nat.mod_eq_of_lt (by omega)]
          rw [hr, getD_at (by omega), List.getElem_append_right (by rw [List.length_drop]; omega), List.getElem_take]
          congr 1
          rw [List.length_drop]; omega
    rw [e]
    have h := List.perm_append_comm (l₁ := l.drop (b % l.length)) (l₂ := l.take (b % l.length))
    rwa [List.take_append_drop] at h
theorem pf_perm {cap : Int} {l : List ByteArray} {b : Nat} (hs : ∀ m ∈ l, m.size ≤ 32) (hc : (l.length : Int) ≤ cap) : (pf cap l).Perm (pf cap (rot l b)) := by
  have hp := rot_perm l b
  rw [pf_filter l.length l rfl hs hc, pf_filter (rot l b).length (rot l b) rfl (fun m hm => hs m (hp.mem_iff.1 hm)) (by rw [hp.length_eq]; exact hc)]
  exact (hp.filter _).symm
end Go.Proofs.Ythelfpenccpkeaa
