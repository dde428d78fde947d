/- Sets of words in plain words: beginnings, what follows them. No program in sight. -/
namespace Go.Proofs.Ytefpfcheafbfdaa

abbrev Wd := List UInt8
/-- p is a beginning of a word of L (or of all: nothing) -/
def pre (L : List Wd) (p : Wd) : Bool := p.isEmpty || L.any fun x => p.isPrefixOf x
theorem pre_iff {L : List Wd} {p : Wd} : pre L p = true ↔ p = [] ∨ ∃ x ∈ L, p <+: x := by
  unfold pre
  simp [List.isPrefixOf_iff_prefix]
theorem pre_nil (L : List Wd) : pre L [] = true := by simp [pre]
theorem pre_mem {L : List Wd} {p : Wd} (h : p ∈ L) : pre L p = true := pre_iff.2 (.inr ⟨p, h, List.prefix_rfl⟩)
theorem pre_of_prefix {L : List Wd} {p q : Wd} (h : p <+: q) (hq : pre L q = true) : pre L p = true := by
  rcases pre_iff.1 hq with rfl | ⟨x, hx, hp⟩
  · rw [List.prefix_nil.1 h]; exact pre_nil L
  · exact pre_iff.2 (.inr ⟨x, hx, h.trans hp⟩)
theorem pre_snoc {L : List Wd} {p : Wd} {c : UInt8} (h : pre L (p ++ [c]) = true) : pre L p = true := pre_of_prefix (List.prefix_append p [c]) h
theorem pre_take {L : List Wd} {p : Wd} (k : Nat) (h : pre L p = true) : pre L (p.take k) = true := pre_of_prefix (List.take_prefix k p) h
theorem pre_congr {L L' : List Wd} (h : ∀ x, x ∈ L ↔ x ∈ L') (p : Wd) : pre L p = pre L' p := by
  rw [Bool.eq_iff_iff, pre_iff, pre_iff]
  constructor
  · rintro (h1 | ⟨x, hx, hp⟩)
    · exact .inl h1
    · exact .inr ⟨x, (h x).1 hx, hp⟩
  · rintro (h1 | ⟨x, hx, hp⟩)
    · exact .inl h1
    · exact .inr ⟨x, (h x).2 hx, hp⟩
theorem pre_cons {L : List Wd} {x p : Wd} : pre (x :: L) p = true ↔ pre L p = true ∨ p <+: x := by
  rw [pre_iff, pre_iff]
  constructor
  · rintro (h | ⟨y, hy, hp⟩)
    · exact .inl (.inl h)
    · rcases List.mem_cons.1 hy with rfl | hy
      · exact .inr hp
      · exact .inl (.inr ⟨y, hy, hp⟩)
  · rintro ((h | ⟨y, hy, hp⟩) | h)
    · exact .inl h
    · exact .inr ⟨y, List.mem_cons_of_mem _ hy, hp⟩
    · exact .inr ⟨x, List.mem_cons_self, h⟩
/-- the bytes that follow a beginning -/
def kids (L : List Wd) (p : Wd) : List UInt8 := ((List.range 256).map UInt8.ofNat).filter fun c => pre L (p ++ [c])
theorem mem_bytes (c : UInt8) : c ∈ (List.range 256).map UInt8.ofNat := List.mem_map.2 ⟨c.toNat, List.mem_range.2 c.toNat_lt, UInt8.ofNat_toNat⟩
theorem mem_kids {L : List Wd} {p : Wd} {c : UInt8} : c ∈ kids L p ↔ pre L (p ++ [c]) = true := by
  unfold kids
  rw [List.mem_filter]
  exact ⟨fun h => h.2, fun h => ⟨mem_bytes c, h⟩⟩
theorem kids_sorted (L : List Wd) (p : Wd) : (kids L p).Pairwise (fun a b => a.toNat < b.toNat) := by
  unfold kids
  refine List.Pairwise.filter _ ?_
  rw [List.pairwise_map]
  refine List.Pairwise.imp_of_mem ?_ (List.pairwise_lt_range (n := 256))
  intro a b ha hb h
  rw [List.mem_range] at ha hb
  simp
  omega
theorem kids_nodup (L : List Wd) (p : Wd) : (kids L p).Nodup := (kids_sorted L p).imp (fun {a b} h e => by subst e; omega)
theorem kids_length (L : List Wd) (p : Wd) : (kids L p).length ≤ 256 := by
  unfold kids
  have := List.length_filter_le (fun c => pre L (p ++ [c])) ((List.range 256).map UInt8.ofNat)
  simpa using this
/-- a longer word that begins so goes on by one of the bytes -/
theorem kid_of {L : List Wd} {p x : Wd} (hx : x ∈ L) (h : p <+: x) (hne : x ≠ p) : ∃ c ∈ kids L p, p ++ [c] <+: x := by
  obtain ⟨t, rfl⟩ := h
  cases t with
  | nil => simp at hne
  | cons c t =>
    have hp : p ++ [c] <+: p ++ c :: t := ⟨t, by simp⟩
    exact ⟨c, mem_kids.2 (pre_iff.2 (.inr ⟨_, hx, hp⟩)), hp⟩
/-- the words that begin so -/
def withP (L : List Wd) (p : Wd) : List Wd := L.filter fun x => p.isPrefixOf x
theorem mem_with {L : List Wd} {p x : Wd} : x ∈ withP L p ↔ x ∈ L ∧ p <+: x := by
  unfold withP
  rw [List.mem_filter, List.isPrefixOf_iff_prefix]
/-- words in order, each once -/
def Sorted (L : List Wd) : Prop := L.Pairwise (· < ·)
theorem Sorted.nodup {L : List Wd} (h : Sorted L) : L.Nodup := h.imp (fun {a b} hab e => by subst e; exact List.lt_irrefl a hab)
theorem sorted_unique {A B : List Wd} (ha : Sorted A) (hb : Sorted B) (h : ∀ x, x ∈ A ↔ x ∈ B) : A = B := by
  have hp : A.Perm B := (List.perm_ext_iff_of_nodup ha.nodup hb.nodup).2 h
  exact hp.eq_of_pairwise (fun a b _ _ h1 h2 => absurd (List.lt_trans h1 h2) (List.lt_irrefl a)) ha hb
theorem prefix_lt {p : Wd} {c : UInt8} {t : Wd} : p < p ++ c :: t := by
  induction p with
  | nil => exact List.nil_lt_cons c t
  | cons a p ih => exact List.cons_lt_cons_iff.2 (.inr ⟨rfl, ih⟩)
theorem branch_lt {p : Wd} {a b : UInt8} (h : a < b) (s t : Wd) : p ++ a :: s < p ++ b :: t := by
  induction p with
  | nil => exact List.cons_lt_cons_iff.2 (.inl h)
  | cons x p ih => exact List.cons_lt_cons_iff.2 (.inr ⟨rfl, ih⟩)
/-- the words that begin so, by the bytes that follow -/
theorem with_split {L : List Wd} (h : Sorted L) (p : Wd) : withP L p = (if p ∈ L then [p] else []) ++ (kids L p).flatMap fun c => withP L (p ++ [c]) := by
  have hw : ∀ q, Sorted (withP L q) := fun q => List.Pairwise.filter _ h
  refine sorted_unique (hw p) ?_ (fun x => ?_)
  · unfold Sorted
    rw [List.pairwise_append]
    refine ⟨by split <;> simp, ?_, ?_⟩
    · rw [List.pairwise_flatMap]
      refine ⟨fun c _ => hw _, ?_⟩
      refine (kids_sorted L p).imp (fun {a b} hab x hx y hy => ?_)
      obtain ⟨-, s, rfl⟩ := mem_with.1 hx
      obtain ⟨-, t, rfl⟩ := mem_with.1 hy
      rw [List.append_assoc, List.append_assoc]
      exact branch_lt (UInt8.lt_iff_toNat_lt.2 hab) _ _
    · intro a ha b hb
      split at ha
      · simp only [List.mem_singleton] at ha
        subst ha
        obtain ⟨c, -, hb⟩ := List.mem_flatMap.1 hb
        obtain ⟨-, t, rfl⟩ := mem_with.1 hb
        rw [List.append_assoc]
        exact prefix_lt
      · cases ha
  · rw [mem_with, List.mem_append, List.mem_flatMap]
    constructor
    · rintro ⟨hx, hp⟩
      by_cases e : x = p
      · subst e; rw [if_pos hx]; simp
      · obtain ⟨c, hc, hpc⟩ := kid_of hx hp e
        exact .inr ⟨c, hc, mem_with.2 ⟨hx, hpc⟩⟩
    · rintro (h1 | ⟨c, -, h1⟩)
      · split at h1
        · simp only [List.mem_singleton] at h1
          subst h1
          exact ⟨by assumption, List.prefix_rfl⟩
        · cases h1
      · obtain ⟨hx, hp⟩ := mem_with.1 h1
        exact ⟨hx, (List.prefix_append p [c]).trans hp⟩
/-- all beginnings, each once, as the reference counts them -/
def newPre (done : List Wd) (x : Wd) : List Wd := ((List.range (x.length + 1)).map x.take).filter fun p => !done.any fun y => p.isPrefixOf y
def allPre : List Wd → List Wd → List Wd
  | _, [] => []
  | done, x :: L => newPre done x ++ allPre (done ++ [x]) L
theorem take_nodup (x : Wd) : ((List.range (x.length + 1)).map x.take).Nodup := by
  refine List.pairwise_map.2 (List.Pairwise.imp_of_mem ?_ (List.nodup_range (n := x.length + 1)))
  intro a b ha hb hab e
  rw [List.mem_range] at ha hb
  have := congrArg List.length e
  rw [List.length_take, List.length_take] at this
  omega
theorem mem_newPre {done : List Wd} {x p : Wd} : p ∈ newPre done x ↔ p <+: x ∧ ∀ y ∈ done, ¬ p <+: y := by
  unfold newPre
  rw [List.mem_filter, List.mem_map]
  have e : (∃ a, a ∈ List.range (x.length + 1) ∧ List.take a x = p) ↔ p <+: x := by
    constructor
    · rintro ⟨a, -, rfl⟩; exact List.take_prefix a x
    · intro h
      refine ⟨p.length, List.mem_range.2 (by have := h.length_le; omega), ?_⟩
      exact (List.prefix_iff_eq_take.1 h).symm
  rw [e]
  simp [List.isPrefixOf_iff_prefix]
theorem mem_allPre : ∀ {L done : List Wd} {p : Wd}, p ∈ allPre done L ↔ (∃ x ∈ L, p <+: x) ∧ ∀ y ∈ done, ¬ p <+: y
  | [], done, p => by simp [allPre]
  | x :: L, done, p => by
    unfold allPre
    rw [List.mem_append, mem_newPre, mem_allPre (L := L)]
    constructor
    · rintro (⟨h1, h2⟩ | ⟨⟨z, hz, hp⟩, h2⟩)
      · exact ⟨⟨x, List.mem_cons_self, h1⟩, h2⟩
      · exact ⟨⟨z, List.mem_cons_of_mem _ hz, hp⟩, fun y hy => h2 y (List.mem_append_left _ hy)⟩
    · rintro ⟨⟨z, hz, hp⟩, h2⟩
      by_cases hx : p <+: x
      · exact .inl ⟨hx, h2⟩
      · rcases List.mem_cons.1 hz with rfl | hz
        · exact absurd hp hx
        · refine .inr ⟨⟨z, hz, hp⟩, fun y hy => ?_⟩
          rcases List.mem_append.1 hy with hy | hy
          · exact h2 y hy
          · simp only [List.mem_singleton] at hy; subst hy; exact hx
theorem allPre_nodup : ∀ (L done : List Wd), (allPre done L).Nodup
  | [], _ => List.nodup_nil
  | x :: L, done => by
    unfold allPre
    refine List.nodup_append.2 ⟨(take_nodup x).filter _, allPre_nodup L _, fun a ha b hb e => ?_⟩
    subst e
    exact (mem_allPre.1 hb).2 x (by simp) (mem_newPre.1 ha).1
/-- how many nodes there are below a beginning, itself among them -/
def cnt (L : List Wd) (p : Wd) : Nat := ((allPre [] L).filter fun q => p.isPrefixOf q).length
theorem mem_below {L : List Wd} {p q : Wd} : q ∈ (allPre [] L).filter (fun q => p.isPrefixOf q) ↔ (∃ x ∈ L, q <+: x) ∧ p <+: q := by
  rw [List.mem_filter, mem_allPre, List.isPrefixOf_iff_prefix]
  simp
theorem cnt_nil (L : List Wd) : cnt L [] = (allPre [] L).length := by
  unfold cnt
  congr 1
  exact List.filter_eq_self.2 (fun _ _ => by simp)
/-- one, and the nodes below each that follows, in whatever order these are gone through -/
theorem cnt_split {L : List Wd} (hL : L ≠ []) {p : Wd} (hp : pre L p = true) {ks : List UInt8} (hk : ks.Perm (kids L p)) : cnt L p = 1 + (ks.map fun c => cnt L (p ++ [c])).sum := by
  have hpe : ∃ x ∈ L, p <+: x := by
    rcases pre_iff.1 hp with rfl | h
    · obtain ⟨x, L', rfl⟩ := List.exists_cons_of_ne_nil hL
      exact ⟨x, by simp, List.nil_prefix⟩
    · exact h
  have hperm : ((allPre [] L).filter fun q => p.isPrefixOf q).Perm (p :: ks.flatMap fun c => (allPre [] L).filter fun q => (p ++ [c]).isPrefixOf q) := by
    refine (List.perm_ext_iff_of_nodup ((allPre_nodup L []).filter _) ?_).2 (fun q => ?_)
    · refine List.nodup_cons.2 ⟨fun h => ?_, ?_⟩
      · obtain ⟨c, -, h⟩ := List.mem_flatMap.1 h
        have := (mem_below.1 h).2.length_le
        simp at this
        omega
      · refine List.pairwise_flatMap.2 ⟨fun c _ => (allPre_nodup L []).filter _, ?_⟩
        refine (hk.symm.nodup (kids_nodup L p)).imp (fun {a b} hab x hx y hy e => ?_)
        subst e
        obtain ⟨-, s, e1⟩ := mem_below.1 hx
        obtain ⟨-, t, e2⟩ := mem_below.1 hy
        rw [← e2, List.append_assoc, List.append_assoc] at e1
        have := List.append_cancel_left e1
        simp at this
        exact hab this.1
    · rw [mem_below, List.mem_cons, List.mem_flatMap]
      constructor
      · rintro ⟨⟨x, hx, hq⟩, hpq⟩
        by_cases e : q = p
        · exact .inl e
        · obtain ⟨t, rfl⟩ := hpq
          cases t with
          | nil => simp at e
          | cons c t =>
            have h1 : p ++ [c] <+: p ++ c :: t := ⟨t, by simp⟩
            exact .inr ⟨c, hk.symm.mem_iff.1 (mem_kids.2 (pre_iff.2 (.inr ⟨x, hx, h1.trans hq⟩))), mem_below.2 ⟨⟨x, hx, hq⟩, h1⟩⟩
      · rintro (rfl | ⟨c, -, h⟩)
        · exact ⟨hpe, List.prefix_rfl⟩
        · obtain ⟨h1, h2⟩ := mem_below.1 h
          exact ⟨h1, (List.prefix_append p [c]).trans h2⟩
  unfold cnt
  rw [hperm.length_eq, List.length_cons, List.length_flatMap]
  omega
end Go.Proofs.Ytefpfcheafbfdaa
