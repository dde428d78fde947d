/- Maps with whole numbers for keys, as lists of entries. -/
import Derived.Test.YtomjnbcaofebfaaMap
import Derived.Test.YtomjnbcaofebfaaByt
import Derived.Lib.SlKeysI
import Derived.Maps.RangeWalk
namespace Go.Proofs.Ytomjnbcaofebfaa
open Go.RowKit Go.Maps

section plain
variable {α β : Type}
/-- what stands at a key -/
def lk : List (Int × α) → Int → Option α
  | [], _ => none
  | (k, v) :: l, t => if t = k then some v else lk l t
/-- without a key -/
def del (t : Int) (l : List (Int × α)) : List (Int × α) := l.filter fun x => decide (x.1 ≠ t)
/-- another value at a key -/
def mod (t : Int) (v : α) (l : List (Int × α)) : List (Int × α) := l.map fun x => if x.1 = t then (t, v) else x
def keysI (l : List (Int × α)) : List Int := l.map (·.1)
theorem lk_none : ∀ {l : List (Int × α)} {t : Int}, lk l t = none ↔ t ∉ keysI l
  | [], t => by simp [lk, keysI]
  | (k, v) :: l, t => by
    have ih := lk_none (l := l) (t := t)
    unfold lk
    simp only [keysI, List.map_cons, List.mem_cons] at ih ⊢
    split
    · simp_all
    · simp_all
theorem lk_some {l : List (Int × α)} {t : Int} : (lk l t).isSome = true ↔ t ∈ keysI l := by
  have h := lk_none (l := l) (t := t)
  cases e : lk l t with
  | none => simp [h.1 e]
  | some v =>
    simp only [Option.isSome_some, true_iff]
    refine Classical.byContradiction (fun hn => ?_)
    rw [h.2 hn] at e; cases e
theorem lk_mem : ∀ {l : List (Int × α)} {t : Int} {v : α}, lk l t = some v → (t, v) ∈ l
  | [], t, v, h => by cases h
  | (k, u) :: l, t, v, h => by
    unfold lk at h
    split at h
    · rename_i e; cases h; subst e; simp
    · exact List.mem_cons_of_mem _ (lk_mem h)
theorem lk_of_mem : ∀ {l : List (Int × α)} {t : Int} {v : α}, (keysI l).Nodup → (t, v) ∈ l → lk l t = some v
  | [], t, v, _, h => by cases h
  | (k, u) :: l, t, v, hn, h => by
    simp only [keysI, List.map_cons, List.nodup_cons] at hn
    unfold lk
    rcases List.mem_cons.1 h with e | e
    · cases e; rw [if_pos rfl]
    · have : t ≠ k := fun e2 => hn.1 (e2 ▸ List.mem_map.2 ⟨(t, v), e, rfl⟩)
      rw [if_neg this]
      exact lk_of_mem hn.2 e
theorem lk_append {l : List (Int × α)} {t k : Int} {v : α} (h : lk l k = none) : lk (l ++ [(k, v)]) t = if t = k then some v else lk l t := by
  induction l with
  | nil => simp [lk]
  | cons x l ih =>
    obtain ⟨a, b⟩ := x
    simp only [lk] at h
    split at h
    · cases h
    · rename_i hka
      simp only [List.cons_append, lk]
      by_cases hta : t = a
      · subst hta
        rw [if_pos rfl, if_pos rfl, if_neg (fun e => hka e.symm)]
      · rw [if_neg hta, if_neg hta, ih h]
theorem lk_del {l : List (Int × α)} {t k : Int} : lk (del k l) t = if t = k then none else lk l t := by
  induction l with
  | nil => simp [del, lk]
  | cons x l ih =>
    obtain ⟨a, b⟩ := x
    unfold del at ih ⊢
    by_cases hak : a = k
    · subst hak
      rw [List.filter_cons_of_neg (by simp), ih]
      by_cases h : t = a
      · rw [if_pos h, if_pos h]
      · rw [if_neg h, if_neg h, lk, if_neg h]
    · rw [List.filter_cons_of_pos (by simp [hak]), lk, lk, ih]
      by_cases h : t = a
      · subst h; rw [if_pos rfl, if_neg hak, if_pos rfl]
      · rw [if_neg h, if_neg h]
theorem lk_mod {l : List (Int × α)} {t k : Int} {v : α} (h : (lk l k).isSome = true) : lk (mod k v l) t = if t = k then some v else lk l t := by
  induction l with
  | nil => simp [lk] at h
  | cons x l ih =>
    obtain ⟨a, b⟩ := x
    unfold mod at ih ⊢
    rw [List.map_cons]
    by_cases hak : a = k
    · subst hak
      simp only [if_true]
      rw [lk, lk]
      by_cases ht : t = a
      · rw [if_pos ht, if_pos ht]
      · rw [if_neg ht, if_neg ht, if_neg ht]
        by_cases h2 : (lk l a).isSome = true
        · rw [ih h2, if_neg ht]
        · have h3 : l.map (fun x => if x.1 = a then (a, v) else x) = l := by
            have h4 : a ∉ keysI l := fun h => h2 (lk_some.2 h)
            refine (List.map_congr_left (fun x hx => ?_)).trans (List.map_id l)
            have hne : x.1 ≠ a := fun e => h4 (List.mem_map.2 ⟨x, hx, e⟩)
            rw [if_neg hne]; rfl
          rw [h3]
    · simp only [if_neg hak]
      rw [lk, lk]
      have h2 : (lk l k).isSome = true := by
        rw [lk, if_neg (fun e => hak e.symm)] at h; exact h
      by_cases ht : t = a
      · subst ht; rw [if_pos rfl, if_neg hak, if_pos rfl]
      · rw [if_neg ht, if_neg ht, ih h2]
theorem keysI_mod (k : Int) (v : α) (l : List (Int × α)) : keysI (mod k v l) = keysI l := by
  unfold keysI mod
  rw [List.map_map]
  refine List.map_congr_left (fun x _ => ?_)
  simp only [Function.comp]
  split
  · rename_i h; exact h.symm
  · rfl
theorem keysI_del (k : Int) (l : List (Int × α)) : keysI (del k l) = (keysI l).filter fun x => decide (x ≠ k) := by
  unfold keysI del
  rw [List.filter_map]; rfl
theorem del_nodup {k : Int} {l : List (Int × α)} (h : (keysI l).Nodup) : (keysI (del k l)).Nodup := by rw [keysI_del]; exact h.filter _
theorem del_length {k : Int} : ∀ {l : List (Int × α)}, (keysI l).Nodup → (del k l).length = if (lk l k).isSome then l.length - 1 else l.length
  | [], _ => by simp [del, lk]
  | (a, b) :: l, h => by
    simp only [keysI, List.map_cons, List.nodup_cons] at h
    have ih := del_length (k := k) (l := l) h.2
    unfold del at ih ⊢
    rw [lk]
    by_cases hak : a = k
    · subst hak
      have hn : lk l a = none := lk_none.2 h.1
      rw [hn] at ih
      rw [List.filter_cons_of_neg (by simp), ih, if_pos rfl]
      simp
    · have hka : k ≠ a := fun e => hak e.symm
      rw [List.filter_cons_of_pos (by simp [hak]), List.length_cons, ih, List.length_cons]
      simp only [if_neg hka]
      split
      · rename_i hs
        have : 0 < l.length := by
          cases l with
          | nil => simp [lk] at hs
          | cons => simp
        omega
      · rfl
end plain
/-- a function on whole numbers, as one on keys -/
def fI (D : Int → Option Value) : Lit → Option Value
  | .int .i64 t => D t
  | _ => none
theorem fI_upd (D : Int → Option Value) (t : Int) (o : Option Value) : updL (fI D) (.int .i64 t) o = fI fun x => if x = t then o else D x := by
  funext x
  by_cases h : x = .int .i64 t
  · subst h; rw [updL_same]; simp [fI]
  · rw [updL_other _ _ h]
    unfold fI
    split
    · rename_i s
      have : s ≠ t := fun e => h (by rw [e])
      show D s = if s = t then o else D s
      rw [if_neg this]
    · rfl
theorem Try.key3 : Keyed Try.prog 3 := int_keyed Try.underlying3
theorem key_i64 {t : Int} (h0 : -9223372036854775808 ≤ t) (h1 : t ≤ 9223372036854775807) : keyOf Try.prog 3 (.int .i64 t) = some (.int .i64 t) :=
  keyOf_int_mk Try.underlying3 (by simp only [Lit.wf, show IntKind.i64.min = -9223372036854775808 from rfl, show IntKind.i64.max = 9223372036854775807 from rfl, Bool.and_eq_true, decide_eq_true_eq]; exact ⟨h0, h1⟩)
/-- the map at mb reads as these entries, each with its value -/
def IM {α : Type} (w : World) (mb N : Nat) (S : List (Int × α)) (F : Int → α → Value) : Prop :=
  MapAt Try.prog 3 w (some mb) N (fI fun t => (lk S t).map (F t)) S.length ∧ (keysI S).Nodup
section
variable {α : Type} {w w' : World} {mb N : Nat} {S : List (Int × α)} {F G : Int → α → Value} {t : Int} {T E : TypeId}
theorem IM.frm {L : List Nat} (h : IM w mb N S F) (hf : Frm L w w') (hn : mb ∉ L) : IM w' mb N S F := ⟨h.1.frm hf (fun b hb => by cases hb; exact hn), h.2⟩
theorem IM.frm0 (h : IM w mb N S F) (hf : Frm [] w w') : IM w' mb N S F := h.frm hf (by simp)
theorem IM.mono {N' : Nat} (h : IM w mb N S F) (hn : N ≤ N') : IM w mb N' S F := ⟨h.1.mono hn, h.2⟩
theorem IM.congr (h : IM w mb N S F) (hg : ∀ t v, lk S t = some v → F t v = G t v) : IM w mb N S G := by
  refine ⟨?_, h.2⟩
  have e : (fun t => (lk S t).map (F t)) = fun t => (lk S t).map (G t) := by
    funext t
    cases hs : lk S t with
    | none => rfl
    | some v => simp [hg t v hs]
  rw [← e]; exact h.1
theorem IM.made (w : World) (F : Int → α → Value) : IM (w.alloc (.map #[] 0)) w.heap.size 0 ([] : List (Int × α)) F := by
  refine ⟨?_, List.nodup_nil⟩
  have e : (fI fun t => (lk ([] : List (Int × α)) t).map (F t)) = fun _ => Option.none := by
    funext x; unfold fI; split <;> rfl
  rw [e]
  exact MapAt.made _ _ _
theorem IM.block (h : IM w mb N S F) : ∃ es clock, w.heap[mb]? = some (.map es clock) := h.1.block rfl
theorem IM.look_ok (h : IM w mb N S F) (hT : Try.prog.underlying T = some (.map 3 E)) {z : Value} (hz : (zeroValue E).run Try.prog w = .ok z w) (h0 : -9223372036854775808 ≤ t) (h1 : t ≤ 9223372036854775807) :
    (Instr.lookup T (.map (some mb)) (.int .i64 t) true).run Try.prog w = .ok (.tuple #[((lk S t).map (F t)).getD z, .bool (lk S t).isSome]) w := by
  have := h.1.look_ok Try.key3 hT hz (key_i64 h0 h1)
  simpa [fI] using this
theorem IM.look (h : IM w mb N S F) (hT : Try.prog.underlying T = some (.map 3 E)) {z : Value} (hz : (zeroValue E).run Try.prog w = .ok z w) (h0 : -9223372036854775808 ≤ t) (h1 : t ≤ 9223372036854775807) :
    (Instr.lookup T (.map (some mb)) (.int .i64 t) false).run Try.prog w = .ok (((lk S t).map (F t)).getD z) w := by
  have := h.1.look Try.key3 hT hz (key_i64 h0 h1)
  simpa [fI] using this
theorem IM.len (h : IM w mb N S F) (hT : Try.prog.underlying T = some (.map 3 E)) (ty : TypeId) : (Builtin.len_ #[T] ty #[.map (some mb)]).run Try.prog w = .ok (.int .i64 S.length) w := h.1.len hT ty
theorem IM.add (h : IM w mb N S F) (hT : Try.prog.underlying T = some (.map 3 E)) (hN : N < maxLen) (h0 : -9223372036854775808 ≤ t) (h1 : t ≤ 9223372036854775807) (hl : lk S t = none) (v : α) :
    ∃ w', (Instr.mapUpdate T (.map (some mb)) (.int .i64 t) (F t v)).run Try.prog w = .ok () w' ∧ IM w' mb (N + 1) (S ++ [(t, v)]) F ∧ Frm [mb] w w' := by
  obtain ⟨w', hrun, hm, hf⟩ := h.1.store Try.key3 hT hN (key_i64 h0 h1) (by trivial) (F t v)
  refine ⟨w', hrun, ⟨?_, ?_⟩, hf⟩
  · rw [fI_upd] at hm
    have e : (fun x => if x = t then some (F t v) else (lk S x).map (F x)) = fun x => (lk (S ++ [(t, v)]) x).map (F x) := by
      funext x
      rw [lk_append hl]
      by_cases hx : x = t
      · subst hx; simp
      · rw [if_neg hx, if_neg hx]
    rw [e] at hm
    simpa [fI, hl] using hm
  · simp only [keysI, List.map_append, List.map_cons, List.map_nil]
    exact List.nodup_append.2 ⟨h.2, by simp, fun a ha b hb e => by simp at hb; subst hb; subst e; exact (lk_none.1 hl) ha⟩
theorem IM.drop (h : IM w mb N S F) (hT : Try.prog.underlying T = some (.map 3 E)) (h0 : -9223372036854775808 ≤ t) (h1 : t ≤ 9223372036854775807) (ty : TypeId) :
    ∃ w', (Builtin.delete_ #[T, 3] ty #[.map (some mb), .int .i64 t]).run Try.prog w = .ok (.tuple #[]) w' ∧ IM w' mb N (del t S) F ∧ Frm [mb] w w' := by
  obtain ⟨w', hrun, hm, hf⟩ := h.1.drop Try.key3 hT (key_i64 h0 h1) ty
  refine ⟨w', hrun, ⟨?_, del_nodup h.2⟩, hf⟩
  rw [fI_upd] at hm
  have e : (fun x => if x = t then Option.none else (lk S x).map (F x)) = fun x => (lk (del t S) x).map (F x) := by
    funext x
    rw [lk_del]
    by_cases hx : x = t
    · rw [if_pos hx, if_pos hx]; rfl
    · rw [if_neg hx, if_neg hx]
  rw [e] at hm
  rw [del_length h.2]
  simpa [fI] using hm
/-- the keys, in order -/
theorem IM.keys (h : IM w mb N S F) : ∃ D0 : DataW Value, w.ownsMap Try.prog 3 rawR mb N D0 ∧ Maps.size D0 = S.length ∧ ∀ ss : List Int, ss.Perm (intKeys D0) → ss.mergeSort (fun x y => decide (x ≤ y)) = (keysI S).mergeSort (fun x y => decide (x ≤ y)) ∧ ss.length = S.length := by
  obtain ⟨hm, hnd⟩ := h
  rcases hm with ⟨h, _⟩ | ⟨b', D0, h, ho, h1, h2, h3⟩
  · cases h
  · cases h
    refine ⟨D0, ho, h3, fun ss hss => ?_⟩
    have hp : (keysI S).Perm (intKeys D0) := by
      obtain ⟨es, hD, hpw, _⟩ := ho.entries Try.key3
      obtain ⟨es', hD', hko⟩ := ho.keysOf
      obtain rfl : es = es' := by rw [hD] at hD'; simpa using hD'
      subst hD
      refine perm_intKeys hpw (fun p hp => by obtain ⟨v, hv⟩ := hko p hp; obtain ⟨x, _, hx, _⟩ := Maps.keyOf_i64 Try.underlying3 hv; exact ⟨x, hx⟩) hnd (fun x => ?_)
      rw [h1 (.int .i64 x), ← lk_some]
      simp [fI]
    have hq := hss.trans hp.symm
    exact ⟨mergeSort_of_perm_i hq, by rw [hq.length_eq]; simp [keysI]⟩
end
end Go.Proofs.Ytomjnbcaofebfaa
