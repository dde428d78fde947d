/- What the reference answers is what the set answers: plain words, no program. -/
import Derived.Test.YtefpfcheafbfdaaRefD
namespace Go.Proofs.Ytefpfcheafbfdaa
open Go.RowKit Go.Maps Go.BigFrame

/-- the longest word of L that b begins with -/
def LongIs (L : List Wd) (b : Wd) (r : Nat × Bool) : Prop :=
  (r = (0, false) ∧ ∀ x ∈ L, ¬ x <+: b) ∨ (r.2 = true ∧ (∃ x ∈ L, x <+: b ∧ x.length = r.1) ∧ ∀ x ∈ L, x <+: b → x.length ≤ r.1)
theorem LongIs.unique {L : List Wd} {b : Wd} {r s : Nat × Bool} (h : LongIs L b r) (k : LongIs L b s) : r = s := by
  rcases h with ⟨rfl, h1⟩ | ⟨h1, ⟨x, hx, hxb, hxl⟩, h3⟩ <;> rcases k with ⟨rfl, k1⟩ | ⟨k1, ⟨y, hy, hyb, hyl⟩, k3⟩
  · rfl
  · exact absurd hyb (h1 y hy)
  · exact absurd hxb (k1 x hx)
  · have e1 := h3 y hy hyb
    have e2 := k3 x hx hxb
    exact Prod.ext (by omega) (by rw [h1, k1])
theorem rlong_is_go (b : Wd) : ∀ (L D : List Wd) (acc : Nat × Bool), LongIs D b acc → LongIs (D ++ L) b (L.foldl (rlS b) acc)
  | [], D, acc, h => by simpa using h
  | x :: L, D, acc, h => by
    have key : LongIs (D ++ [x]) b (rlS b acc x) := by
      unfold rlS
      by_cases hp : x.isPrefixOf b = true
      · have hpx := List.isPrefixOf_iff_prefix.1 hp
        by_cases hl : acc.1 ≤ x.length
        · rw [if_pos ⟨hp, hl⟩]
          refine .inr ⟨rfl, ⟨x, by simp, hpx, rfl⟩, fun y hy hyb => ?_⟩
          rcases List.mem_append.1 hy with hy | hy
          · rcases h with ⟨rfl, h1⟩ | ⟨-, -, h3⟩
            · exact absurd hyb (h1 y hy)
            · exact Nat.le_trans (h3 y hy hyb) hl
          · simp only [List.mem_singleton] at hy
            rw [hy]; exact Nat.le_refl _
        · rw [if_neg (fun e => hl e.2)]
          rcases h with ⟨rfl, h1⟩ | ⟨h1, ⟨y, hy, hyb, hyl⟩, h3⟩
          · simp at hl
          · refine .inr ⟨h1, ⟨y, by simp [hy], hyb, hyl⟩, fun z hz hzb => ?_⟩
            rcases List.mem_append.1 hz with hz | hz
            · exact h3 z hz hzb
            · simp only [List.mem_singleton] at hz
              subst hz; omega
      · rw [if_neg (fun e => hp e.1)]
        have hnp : ¬ x <+: b := fun e => hp (List.isPrefixOf_iff_prefix.2 e)
        rcases h with ⟨rfl, h1⟩ | ⟨h1, ⟨y, hy, hyb, hyl⟩, h3⟩
        · refine .inl ⟨rfl, fun z hz => ?_⟩
          rcases List.mem_append.1 hz with hz | hz
          · exact h1 z hz
          · simp only [List.mem_singleton] at hz
            subst hz; exact hnp
        · refine .inr ⟨h1, ⟨y, by simp [hy], hyb, hyl⟩, fun z hz hzb => ?_⟩
          rcases List.mem_append.1 hz with hz | hz
          · exact h3 z hz hzb
          · simp only [List.mem_singleton] at hz
            subst hz; exact absurd hzb hnp
    have := rlong_is_go b L (D ++ [x]) _ key
    rw [List.foldl_cons]
    simpa using this
theorem rlong_is (L : List Wd) (b : Wd) : LongIs L b (rlongL L b) := by
  have := rlong_is_go b L [] (0, false) (.inl ⟨rfl, by simp⟩)
  rw [List.nil_append] at this
  exact this
theorem long_is_go (L : List Wd) (b : Wd) : ∀ (k i : Nat) (acc : Nat × Bool), i + k = b.length + 1 → LongIs (L.filter fun x => decide (x.length < i)) b acc → LongIs L b (longF (pre L) (memB L) b k i acc) := by
  intro k
  induction k with
  | zero =>
    intro i acc hik h
    unfold longF
    rcases h with ⟨rfl, h1⟩ | ⟨h1, ⟨x, hx, hxb, hxl⟩, h3⟩
    · refine .inl ⟨rfl, fun x hx hxb => h1 x (List.mem_filter.2 ⟨hx, ?_⟩) hxb⟩
      have := hxb.length_le
      simp; omega
    · refine .inr ⟨h1, ⟨x, (List.mem_filter.1 hx).1, hxb, hxl⟩, fun y hy hyb => h3 y (List.mem_filter.2 ⟨hy, ?_⟩) hyb⟩
      have := hyb.length_le
      simp; omega
  | succ k ih =>
    intro i acc hik h
    unfold longF
    have hib : i ≤ b.length := by omega
    by_cases hp : pre L (b.take i) = true
    · rw [if_pos hp]
      refine ih (i + 1) _ (by omega) ?_
      have hlen : (b.take i).length = i := by rw [List.length_take]; omega
      have huniq : ∀ x, x <+: b → x.length = i → x = b.take i := fun x hx hl => by rw [List.prefix_iff_eq_take.1 hx, hl]
      by_cases hm : memB L (b.take i) = true
      · rw [if_pos hm]
        refine .inr ⟨rfl, ⟨b.take i, List.mem_filter.2 ⟨memB_iff.1 hm, by simp; omega⟩, List.take_prefix i b, hlen⟩, fun y hy _ => ?_⟩
        have := (List.mem_filter.1 hy).2
        simp at this; omega
      · rw [if_neg hm]
        have hback : ∀ y, y ∈ (L.filter fun x => decide (x.length < i + 1)) → y <+: b → y ∈ L.filter fun x => decide (x.length < i) := fun y hy hyb => by
          obtain ⟨h1, h2⟩ := List.mem_filter.1 hy
          simp only [decide_eq_true_eq] at h2
          refine List.mem_filter.2 ⟨h1, ?_⟩
          rcases Nat.lt_or_ge y.length i with h3 | h3
          · simpa using h3
          · have := huniq y hyb (by omega)
            rw [this] at h1
            exact absurd (memB_iff.2 h1) hm
        rcases h with ⟨rfl, h1⟩ | ⟨h1, ⟨x, hx, hxb, hxl⟩, h3⟩
        · exact .inl ⟨rfl, fun x hx hxb => h1 x (hback x hx hxb) hxb⟩
        · refine .inr ⟨h1, ⟨x, ?_, hxb, hxl⟩, fun y hy hyb => h3 y (hback y hy hyb) hyb⟩
          obtain ⟨q1, q2⟩ := List.mem_filter.1 hx
          simp only [decide_eq_true_eq] at q2
          exact List.mem_filter.2 ⟨q1, by simp; omega⟩
    · rw [if_neg hp]
      have hno : ∀ y ∈ L, y <+: b → y.length < i := fun y hy hyb => by
        rcases Nat.lt_or_ge y.length i with h3 | h3
        · exact h3
        · exfalso
          refine hp (pre_of_prefix ?_ (pre_mem hy))
          rw [List.prefix_iff_eq_take.1 hyb]
          refine (List.prefix_take_iff).2 ⟨List.take_prefix i b, ?_⟩
          rw [List.length_take]; omega
      rcases h with ⟨rfl, h1⟩ | ⟨h1, ⟨x, hx, hxb, hxl⟩, h3⟩
      · exact .inl ⟨rfl, fun x hx hxb => h1 x (List.mem_filter.2 ⟨hx, by simpa using hno x hx hxb⟩) hxb⟩
      · exact .inr ⟨h1, ⟨x, (List.mem_filter.1 hx).1, hxb, hxl⟩, fun y hy hyb => h3 y (List.mem_filter.2 ⟨hy, by simpa using hno y hy hyb⟩) hyb⟩
theorem long_eq (L : List Wd) (b : Wd) : rlongL L b = longL (pre L) (memB L) b := by
  refine (rlong_is L b).unique ?_
  unfold longL
  exact long_is_go L b (b.length + 1) 0 (0, false) (by omega) (.inl ⟨rfl, by simp⟩)
theorem markF_zero {L : List Wd} {b : Wd} : ∀ (k i : Nat), i + k = b.length + 1 → ((markF L b k i).2 = 0 ↔ ∃ j, i ≤ j ∧ j ≤ b.length ∧ (withP L (b.take j)).length = 1)
  | 0, i, h => by
    unfold markF
    simp only [show (9 : Int) = 0 ↔ False by decide, false_iff]
    rintro ⟨j, h1, h2, -⟩
    omega
  | k + 1, i, h => by
    unfold markF
    by_cases h1 : (withP L (b.take i)).length = 1
    · rw [if_pos h1]
      exact ⟨fun _ => ⟨i, Nat.le_refl _, by omega, h1⟩, fun _ => rfl⟩
    · rw [if_neg h1, markF_zero k (i + 1) (by omega)]
      constructor
      · rintro ⟨j, q1, q2, q3⟩; exact ⟨j, by omega, q2, q3⟩
      · rintro ⟨j, q1, q2, q3⟩
        refine ⟨j, ?_, q2, q3⟩
        rcases Nat.lt_or_ge i j with e | e
        · omega
        · have : j = i := by omega
          subst this; exact absurd q3 h1
theorem free_eq {L : List Wd} (hS : Sorted L) (h64 : ∀ x ∈ L, x.length ≤ 64) : rfreeL L = freeL L := by
  unfold rfreeL freeL
  rw [withP_nil, Bool.eq_iff_iff, List.all_eq_true, List.all_eq_true]
  have key : ∀ x ∈ L, ((markL L x).2 == 0) = true ↔ (kidsP (pre L) x).isEmpty = true := fun x hx => by
    have hm : markL L x = markF L x (x.length + 1) 0 := by
      unfold markL
      rw [if_neg (by have := h64 x hx; omega), if_neg (by rw [memB_iff.2 hx]; simp)]
    rw [beq_iff_eq, hm, markF_zero _ _ (by omega), List.isEmpty_iff]
    constructor
    · rintro ⟨j, -, hj, h1⟩
      rw [List.eq_nil_iff_forall_not_mem]
      intro c hc
      rcases pre_iff.1 (mem_kidsP.1 hc) with h2 | ⟨y, hy, hpy⟩
      · simp at h2
      · have hxy : x <+: y := (List.prefix_append x [c]).trans hpy
        have hne : x ≠ y := fun e => by
          subst e
          have := hpy.length_le
          simp at this
          omega
        have m1 : x ∈ withP L (x.take j) := mem_with.2 ⟨hx, List.take_prefix j x⟩
        have m2 : y ∈ withP L (x.take j) := mem_with.2 ⟨hy, (List.take_prefix j x).trans hxy⟩
        obtain ⟨z, hz⟩ := List.length_eq_one_iff.1 h1
        rw [hz, List.mem_singleton] at m1 m2
        exact hne (m1.trans m2.symm)
    · intro h
      refine ⟨x.length, Nat.zero_le _, Nat.le_refl _, ?_⟩
      rw [List.take_length, with_split hS x, if_pos hx, kids_eq, h]
      simp
  constructor
  · intro h x hx; exact (key x hx).1 (h x hx)
  · intro h x hx; exact (key x hx).2 (h x hx)
/-- the longest beginning of all words of L -/
def CommIs (L : List Wd) (q : Wd) : Prop := (∀ x ∈ L, q <+: x) ∧ ∀ r : Wd, (∀ x ∈ L, r <+: x) → r.length ≤ q.length
theorem CommIs.unique {x0 : Wd} {L : List Wd} {q r : Wd} (h : CommIs (x0 :: L) q) (k : CommIs (x0 :: L) r) : q = r := by
  have e1 := h.2 r k.1
  have e2 := k.2 q h.1
  have p1 := h.1 x0 (by simp)
  have p2 := k.1 x0 (by simp)
  rw [List.prefix_iff_eq_take.1 p1, List.prefix_iff_eq_take.1 p2, show q.length = r.length by omega]
theorem dnF_is (x0 x : Wd) : ∀ m, m ≤ x0.length → (x0.take (dnF x0 x m)) <+: x ∧ ∀ j, j ≤ m → x0.take j <+: x → j ≤ dnF x0 x m
  | 0, _ => by
    unfold dnF
    exact ⟨by simp, fun j hj _ => hj⟩
  | m + 1, hm => by
    unfold dnF
    by_cases h : (x0.take (m + 1)).isPrefixOf x = true
    · rw [if_pos h]
      exact ⟨List.isPrefixOf_iff_prefix.1 h, fun j hj _ => hj⟩
    · rw [if_neg h]
      obtain ⟨h1, h2⟩ := dnF_is x0 x m (by omega)
      refine ⟨h1, fun j hj hp => ?_⟩
      rcases Nat.lt_or_ge j (m + 1) with e | e
      · exact h2 j (by omega) hp
      · have : j = m + 1 := by omega
        subst this
        exact absurd (List.isPrefixOf_iff_prefix.2 hp) h
theorem rcN_go (x0 : Wd) : ∀ (L D : List Wd) (n : Nat), n ≤ x0.length → (∀ x ∈ D, x0.take n <+: x) → (∀ j, j ≤ x0.length → (∀ x ∈ D, x0.take j <+: x) → j ≤ n) →
    (∀ x ∈ D ++ L, x0.take (L.foldl (fun n x => dnF x0 x n) n) <+: x) ∧ (∀ j, j ≤ x0.length → (∀ x ∈ D ++ L, x0.take j <+: x) → j ≤ L.foldl (fun n x => dnF x0 x n) n)
  | [], D, n, hn, h1, h2 => by
    rw [List.append_nil]
    exact ⟨h1, h2⟩
  | y :: L, D, n, hn, h1, h2 => by
    obtain ⟨d1, d2⟩ := dnF_is x0 y n hn
    have hle := dnF_le x0 y n
    have := rcN_go x0 L (D ++ [y]) (dnF x0 y n) (by omega) (fun x hx => ?_) (fun j hj hall => ?_)
    · rw [List.foldl_cons]
      simpa using this
    · rcases List.mem_append.1 hx with hx | hx
      · refine List.IsPrefix.trans ?_ (h1 x hx)
        exact (List.prefix_take_iff).2 ⟨List.take_prefix _ _, by rw [List.length_take]; omega⟩
      · simp only [List.mem_singleton] at hx
        subst hx; exact d1
    · exact d2 j (h2 j hj (fun x hx => hall x (by simp [hx]))) (hall y (by simp))
theorem rcomm_is (x0 : Wd) (L : List Wd) : CommIs (x0 :: L) (rcommL (x0 :: L)) := by
  obtain ⟨h1, h2⟩ := rcN_go x0 (x0 :: L) [] x0.length (Nat.le_refl _) (by simp) (fun j hj _ => hj)
  rw [List.nil_append] at h1 h2
  unfold rcommL rcN
  refine ⟨h1, fun r hr => ?_⟩
  have hr0 := hr x0 (by simp)
  have e := List.prefix_iff_eq_take.1 hr0
  have hl := hr0.length_le
  have := h2 r.length hl (fun x hx => by rw [← e]; exact hr x hx)
  have hb : (List.foldl (fun n x => dnF x0 x n) x0.length (x0 :: L)) ≤ x0.length := by
    have hp := h1 x0 (by simp)
    have hgo : ∀ (M : List Wd) (n : Nat), n ≤ x0.length → M.foldl (fun n x => dnF x0 x n) n ≤ x0.length := fun M => by
      induction M with
      | nil => intro n hn; exact hn
      | cons y M ih => intro n hn; exact ih _ (Nat.le_trans (dnF_le x0 y n) hn)
    exact hgo _ _ (Nat.le_refl _)
  rw [List.length_take]
  omega
theorem comm_is_go {L : List Wd} (hL : L ≠ []) (h64 : ∀ x ∈ L, x.length ≤ 64) : ∀ (k : Nat) (p : Wd), p.length + k = 65 → pre L p = true → (∀ x ∈ L, p <+: x) → CommIs L (commF L k p) := by
  intro k
  induction k with
  | zero =>
    intro p hk hp hall
    have := pre_len h64 hp
    omega
  | succ k ih =>
    intro p hk hp hall
    unfold commF
    by_cases hc : memB L p = false ∧ (kidsP (pre L) p).length = 1
    · rw [if_pos hc]
      obtain ⟨c, hcc⟩ := List.length_eq_one_iff.1 hc.2
      rw [hcc]
      have hpc : pre L (p ++ [c]) = true := mem_kidsP.1 (by rw [hcc]; simp)
      refine ih (p ++ [c]) (by simp; omega) hpc (fun x hx => ?_)
      have hne : x ≠ p := fun e => by
        subst e
        rw [memB_iff.2 hx] at hc
        cases hc.1
      obtain ⟨c', hc', hpx⟩ := kid_of hx (hall x hx) hne
      rw [kids_eq, hcc, List.mem_singleton] at hc'
      subst hc'; exact hpx
    · rw [if_neg hc]
      refine ⟨hall, fun r hr => ?_⟩
      obtain ⟨x0, L', rfl⟩ := List.exists_cons_of_ne_nil hL
      rcases Nat.lt_or_ge p.length r.length with hlt | hge
      · exfalso
        have hpr : p <+: r := List.prefix_of_prefix_length_le (hall x0 (by simp)) (hr x0 (by simp)) (by omega)
        obtain ⟨t, rfl⟩ := hpr
        cases t with
        | nil => simp at hlt
        | cons c t =>
          have hpc : p ++ [c] <+: p ++ c :: t := ⟨t, by simp⟩
          refine hc ⟨?_, ?_⟩
          · cases hm : memB (x0 :: L') p with
            | false => rfl
            | true =>
              have := (hr p (memB_iff.1 hm)).length_le
              simp at this
              omega
          · have hk : kidsP (pre (x0 :: L')) p = [c] := by
              have hnd := kidsP_nodup (pre (x0 :: L')) p
              have hall1 : ∀ d ∈ kidsP (pre (x0 :: L')) p, d = c := fun d hd => by
                rcases pre_iff.1 (mem_kidsP.1 hd) with h1 | ⟨y, hy, hpy⟩
                · simp at h1
                · have h2 := hpc.trans (hr y hy)
                  have := List.prefix_of_prefix_length_le hpy h2 (by simp)
                  have e := this.eq_of_length (by simp)
                  simpa using e
              have hcm : c ∈ kidsP (pre (x0 :: L')) p := mem_kidsP.2 (pre_iff.2 (.inr ⟨x0, by simp, hpc.trans (hr x0 (by simp))⟩))
              cases e : kidsP (pre (x0 :: L')) p with
              | nil => rw [e] at hcm; cases hcm
              | cons a l =>
                rw [e] at hall1 hnd
                have ha := hall1 a (by simp)
                cases l with
                | nil => rw [ha]
                | cons b l =>
                  have hb := hall1 b (by simp)
                  rw [ha, hb] at hnd
                  simp at hnd
            rw [hk]; rfl
      · exact hge
theorem comm_eq {L : List Wd} (h64 : ∀ x ∈ L, x.length ≤ 64) : rcommL L = commL L := by
  cases L with
  | nil => decide +kernel
  | cons x0 L =>
    refine (rcomm_is x0 L).unique ?_
    unfold commL
    exact comm_is_go (by simp) h64 65 [] (by simp) (pre_nil _) (by simp)
end Go.Proofs.Ytefpfcheafbfdaa
