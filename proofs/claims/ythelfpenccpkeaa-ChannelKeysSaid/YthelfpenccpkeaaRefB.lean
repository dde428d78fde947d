/- The reference: Choices. -/
import Derived.Test.YthelfpenccpkeaaIter
import Derived.Test.YthelfpenccpkeaaRefA
namespace Go.Proofs.Ythelfpenccpkeaa
open Go.RowKit Go.BigFrame

/-- the message at k is none of those before it, as far as place j -/
def nf (L : List ByteArray) (k : Nat) : Nat → Bool
  | 0 => true
  | j + 1 => nf L k j && !decide (L.getD j ByteArray.empty = L.getD k ByteArray.empty)
theorem nf_iff {L : List ByteArray} {k : Nat} : ∀ j, nf L k j = true ↔ ∀ i, i < j → L.getD i ByteArray.empty ≠ L.getD k ByteArray.empty
  | 0 => by simp [nf]
  | j + 1 => by
    rw [nf, Bool.and_eq_true, nf_iff j]
    constructor
    · rintro ⟨h1, h2⟩ i hi
      by_cases e : i = j
      · subst e; simpa using h2
      · exact h1 i (by omega)
    · intro h
      exact ⟨fun i hi => h i (by omega), by simpa using h j (by omega)⟩
theorem idx_first' {L : List ByteArray} {m : ByteArray} {p : Nat} (h : Lib.idxOfS L m = (p : Int)) : ∀ k, k < p → k < L.length → L.getD k ByteArray.empty ≠ m := by
  intro k
  induction k using Nat.strongRecOn with
  | _ k ih =>
    intro hk hl hym
    have h1 := Lib.idxOfS_hit L L.length k m hl (Nat.le_refl _) hym (fun j hj he => ih j hj (by omega) (by omega) he)
    rw [List.take_length, h] at h1
    omega
theorem chc_two {L : List ByteArray} {k : Nat} (hk : k < L.length) : chc 2 L k = nf L k k := by
  rw [Bool.eq_iff_iff, nf_iff]
  unfold chc
  rw [if_pos rfl, beq_iff_eq]
  constructor
  · intro h i hi
    exact idx_first' h i hi (by omega)
  · intro h
    have h1 := Lib.idxOfS_hit L L.length k _ hk (Nat.le_refl _) rfl (fun j hj he => h j hj he)
    rw [List.take_length] at h1
    exact h1
/-- a list of places -/
def Ints (w : World) (v : Value) (l : List Nat) : Prop := w.ownsRow 0 3 1 v l.length (l.map fun k : Nat => Value.int .i64 (k : Int))
/-- the places of the choices before k -/
def chp (cls : Int) (L : List ByteArray) (k : Nat) : List Nat := (chlK cls L k).map (·.1)
theorem chp_succ (cls : Int) (L : List ByteArray) (k : Nat) : chp cls L (k + 1) = if chc cls L k then chp cls L k ++ [k] else chp cls L k := by
  unfold chp
  rw [chlK]
  split <;> simp
theorem chp_length (cls : Int) (L : List ByteArray) : ∀ k, (chp cls L k).length ≤ k
  | 0 => by simp [chp, chlK]
  | k + 1 => by
    have := chp_length cls L k
    rw [chp_succ]
    split
    · simp; omega
    · omega
theorem str_ne {a b : ByteArray} (h : a ≠ b) : (a.toList == b.toList) = false := by
  cases hb : (a.toList == b.toList) with
  | false => rfl
  | true =>
    have h1 : a.toList = b.toList := eq_of_beq hb
    rw [ByteArray.toList_eq, ByteArray.toList_eq] at h1
    exact absurd (ByteArray.ext (Array.toList_inj.1 h1)) h
theorem Try.info3 : (Try.prog.info? 3).map (fun i => (i.zero, i.size, i.bytes)) = some (some (.int .i64 0), 1, 8) := by kernel_rfl
/-- behind i rounds -/
def CI (w : World) (A : Array Value) (cls : Int) (L : List ByteArray) (i : Nat) (v : Value) (wr : World) : Prop :=
  wr.heap[w.heap.size]? = some (.cells A 48 (0, 0)) ∧ wr.ownsRow (w.heap.size + 1) 3 1 v (chp cls L i).length ((chp cls L i).map fun k : Nat => Value.int .i64 (k : Int)) ∧ Frm [] w wr
theorem CI.add {w wr wa : World} {A : Array Value} {cls : Int} {L : List ByteArray} {i n : Nat} {v v' : Value} {X : Obj} (h : CI w A cls L i v wr) (e : chp cls L (i + 1) = chp cls L i ++ [i])
    (hown : wa.ownsRow (w.heap.size + 1) 3 1 v' (n + 1) ((chp cls L i).map (fun k : Nat => Value.int .i64 (k : Int)) ++ [.int .i64 (i : Int)])) (hg : (wr.alloc X).grownBy wa v.ownBlock) : CI w A cls L (i + 1) v' wa := by
  have hn : n + 1 = (chp cls L i).length + 1 := by have := hown.1; simpa using this.symm
  refine ⟨grown_at hg (alloc_at h.1) (fun e2 => ?_), ?_, ((h.2.2.alloc _).grown hg fun k hk => .inr ?_)⟩
  · have := ownBlock_ge h.2.1 e2; omega
  · rw [e, List.length_append, List.length_cons, List.length_nil, List.map_append, ← hn]
    exact hown
  · have := ownBlock_ge h.2.1 hk; omega
theorem CI.frm {w wr wx : World} {A : Array Value} {cls : Int} {L : List ByteArray} {i : Nat} {v : Value} (h : CI w A cls L i v wr) (hf : Frm [] wr wx) : CI w A cls L i v wx := ⟨hf.at h.1 (by simp), hf.owns h.2.1 (by simp), h.2.2.trans hf⟩
theorem str_beq (a b : ByteArray) : (a.toList == b.toList) = decide (a = b) := by
  by_cases h : a = b
  · subst h; simp
  · rw [str_ne h, decide_eq_false h]
set_option maxHeartbeats 2000000 in
set_option maxRecDepth 100000 in
theorem refChoices_any (cls cap : Int) (lv : Value) (L : List ByteArray) (w : World) (h : Lf w lv L) (hL : L.length ≤ 64) :
    Calls Try.prog 22 #[.agg #[.int .i64 cls, .int .i64 cap, lv]] w (RetV fun v w' => Ints w' v (chp cls L L.length) ∧ Frm [] w w' ∧ ∀ k, v.ownBlock = some k → w.heap.size ≤ k) := by
  obtain ⟨ao, cp, rfl, hcs⟩ := h.shape
  have HC : Hid (∀ wr, Frm [] w wr → ∀ k x, L[k]? = some x → ∃ g, ao = some ⟨g, 0, none⟩ ∧ wr.cell? ⟨g, k, none⟩ = some (.string x)) := Lib.hid fun wr hf k x hk => by
    obtain ⟨g, h1, h2⟩ := hcs k x hk
    exact ⟨g, h1, hf.keep h2⟩
  clear h hcs
  obtain ⟨i0, hi0, hz0, hz1, hz2⟩ := info_parts Try.info3
  have HS : Hid (CI w #[.int .i64 cls, .int .i64 cap, .slice ao L.length cp] cls L 0 (.slice none 0 0) (w.alloc (.cells #[.int .i64 cls, .int .i64 cap, .slice ao L.length cp] 48))) := Lib.hid ⟨alloc_top rfl, World.ownsRow_nil _ _ _ _, (Frm.refl [] w).alloc _⟩
  go_enter Try.func22, Try.ntmps22
  go_wp2
  go_loopw [3, 4] (fun s3 s4 wr => ∃ i : Nat, s4 = .int .i64 i ∧ i ≤ L.length ∧ CI w #[.int .i64 cls, .int .i64 cap, .slice ao L.length cp] cls L i s3 wr) (fun _ s4 _ => L.length - (intOf s4).toNat)
  case atStart => exact ⟨0, rfl, Nat.zero_le _, HS.out⟩
  case round =>
    clear HS
    obtain ⟨i, rfl, hi, hb, ho, hf⟩ := hrel
    have c0 := cell_of hb 0
    have c2 := cell_of hb 2
    have HB := Lib.hid hb; have HO := Lib.hid ho; have HF := Lib.hid hf
    obtain ⟨ao3, c3, rfl⟩ := own_shape ho
    have hlen : (chp cls L i).length ≤ i := chp_length cls L i
    clear hb ho hf
    by_cases hlt : i < L.length
    · have hlt' : (i : Int) < (L.length : Int) := by omega
      by_cases h2 : cls = 2
      · have b2 : (cls == 2) = true := by simpa using h2
        have H2 := Lib.hid h2
        clear h2
        have HC1 := Lib.hid (HC.out _ HF.out)
        obtain ⟨y, hy⟩ : ∃ y, L[i]? = some y := ⟨_, List.getElem?_eq_getElem hlt⟩
        obtain ⟨g, rfl, ci⟩ := HC1.out i y hy
        have HY : Hid (L.getD i ByteArray.empty = y) := Lib.hid (by rw [List.getD_eq_getElem?_getD, hy]; rfl)
        clear hy
        obtain ⟨wo, rfl⟩ : ∃ wo, wo = wr := ⟨_, rfl⟩
        go_wp2
        go_loopw [5, 6] (fun s5 s6 wx => ∃ k : Nat, s6 = .int .i64 k ∧ k ≤ i ∧ s5 = .bool (nf L i k) ∧ Frm [] wo wx) (fun _ s6 _ => i - (intOf s6).toNat)
        case atStart => exact ⟨0, rfl, Nat.zero_le _, rfl, Frm.refl _ _⟩
        case round =>
          obtain ⟨k, rfl, hk, rfl, hfx⟩ := hrel
          have HX := Lib.hid hfx
          have c0 := hfx.keep c0
          have c2 := hfx.keep c2
          have ci := hfx.keep ci
          by_cases hki : k < i
          · have hki' : (k : Int) < (i : Int) := by omega
            obtain ⟨x, hx⟩ : ∃ x, L[k]? = some x := ⟨_, List.getElem?_eq_getElem (by omega)⟩
            obtain ⟨g', hg', ck⟩ := HC1.out k x hx
            cases hg'
            have ck := hfx.keep ck
            clear hfx
            have hkl : (k : Int) < (L.length : Int) := by omega
            have hnx : nf L i (k + 1) = (nf L i k && !decide (x = y)) := by
              rw [nf, HY.out, List.getD_eq_getElem?_getD, hx]; rfl
            have hbe := str_beq x y
            clear hx
            cases hnf : nf L i k with
            | true =>
              rw [hnf] at hnx
              go_wp2
              go_quiet (fail)
              go_wp2
              exact ⟨⟨k + 1, by simp, hki, by rw [hnx]; simp, HX.out.drewN _⟩, by simp [intOf]; omega⟩
            | false =>
              rw [hnf] at hnx
              go_wp2
              go_quiet (fail)
              go_wp2
              exact ⟨⟨k + 1, by simp, hki, by rw [hnx]; simp, HX.out.drewN _⟩, by simp [intOf]; omega⟩
          · obtain rfl : k = i := by omega
            clear hfx
            have hcn : chc cls L k = nf L k k := by rw [H2.out]; exact chc_two hlt
            have hkk : ¬ (k : Int) < (k : Int) := by omega
            by_cases hcc : chc cls L k = true
            · have e : chp cls L (k + 1) = chp cls L k ++ [k] := by rw [chp_succ, if_pos hcc]
              have hnt : nf L k k = true := by rw [← hcn]; exact hcc
              rw [hnt]
              go_wp2_with (first
                | (at_builtin; go_must (refine wpList_append_own_at _ rfl _ _ 53 rfl (w.heap.size + 1) 3 i0 (.int .i64 0) 1 8 Try.underlying53 hi0 hz0 hz1 hz2 rfl (by decide) _ _ _ rfl ((HX.out.owns HO.out (by simp)).alloc _) ⟨wr.heap.size, 0, none⟩ 1 1 [.int .i64 (k : Int)] rfl rfl (cell_one_new _ _ _) (by simp [Value.oneCell']) (by unfold maxLen; omega) (by omega) (by have := HF.out.size; have := HX.out.size; have := lt_of_block HB.out; simp; omega) ?_); intro v' wa hown' hgrow hnil hloc; have HE := Lib.hid (CI.add (CI.frm ⟨HB.out, HO.out, HF.out⟩ HX.out) e hown' hgrow); clear hown' hgrow hnil hloc))
              exact ⟨⟨k + 1, by simp, by omega, HE.out⟩, by simp [intOf]; omega⟩
            · have e : chp cls L (k + 1) = chp cls L k := by rw [chp_succ, if_neg hcc]
              have hnt : nf L k k = false := by rw [← hcn]; simpa using hcc
              rw [hnt]
              go_wp2
              exact ⟨⟨k + 1, by simp, by omega, by have hci := CI.frm ⟨HB.out, HO.out, HF.out⟩ HX.out; unfold CI at hci ⊢; rw [e]; exact hci⟩, by simp [intOf]; omega⟩
      · have b2 : (cls == 2) = false := by simpa using h2
        have hch : chc cls L i = ((i : Int) == 0) := by unfold chc; rw [if_neg h2]
        by_cases hcc : chc cls L i = true
        · have e : chp cls L (i + 1) = chp cls L i ++ [i] := by rw [chp_succ, if_pos hcc]
          have hz : ((i : Int) == 0) = true := by rw [← hch]; exact hcc
          go_wp2_with (first
            | (at_builtin; refine wpList_append_own_at _ rfl _ _ 53 rfl (w.heap.size + 1) 3 i0 (.int .i64 0) 1 8 Try.underlying53 hi0 hz0 hz1 hz2 rfl (by decide) _ _ _ rfl (HO.out.alloc _) ⟨wr.heap.size, 0, none⟩ 1 1 [.int .i64 (i : Int)] rfl rfl (cell_one_new _ _ _) (by simp [Value.oneCell']) (by unfold maxLen; omega) (by omega) (by have := HF.out.size; have := lt_of_block HB.out; simp; omega) ?_; intro v' wa hown' hgrow hnil hloc; have HE := Lib.hid (CI.add ⟨HB.out, HO.out, HF.out⟩ e hown' hgrow); clear hown' hgrow hnil hloc))
          exact ⟨⟨i + 1, by simp, by omega, HE.out⟩, by simp [intOf]; omega⟩
        · have e : chp cls L (i + 1) = chp cls L i := by rw [chp_succ, if_neg hcc]
          have hz : ((i : Int) == 0) = false := by rw [← hch]; simpa using hcc
          go_wp2
          exact ⟨⟨i + 1, by simp, by omega, HB.out, by rw [e]; exact HO.out, HF.out⟩, by simp [intOf]; omega⟩
    · obtain rfl : i = L.length := by omega
      have hlt' : ¬ (L.length : Int) < (L.length : Int) := by omega
      go_wp2
      go_ret
      exact ⟨_, rfl, by simpa [Ints] using own_low HO.out (Nat.zero_le _), HF.out, fun k hk => by have := ownBlock_ge HO.out hk; omega⟩
end Go.Proofs.Ythelfpenccpkeaa
