/- How a set turns: its own blocks; a node more, a node less, a flag, the number of words. -/
import Derived.Test.YtefpfcheafbfdaaMeth
namespace Go.Proofs.Ytefpfcheafbfdaa
open Go.RowKit Go.Maps Go.BigFrame

/-- new blocks, and turns of blocks in S alone -/
structure FrS (S : Nat → Prop) (w w' : World) : Prop where
  os : w'.os = w.os
  tape : w'.tape = w.tape
  output : w'.output = w.output
  size : w.heap.size ≤ w'.heap.size
  block : ∀ k, k < w.heap.size → ¬ S k → w'.heap[k]? = w.heap[k]?
section
variable {S S' : Nat → Prop} {a b c : World}
theorem FrS.refl (S : Nat → Prop) (w : World) : FrS S w w := ⟨rfl, rfl, rfl, Nat.le_refl _, fun _ _ _ => rfl⟩
theorem FrS.of {F : List Nat} (h : Frm F a b) (hF : ∀ k ∈ F, S k ∨ a.heap.size ≤ k) : FrS S a b :=
  ⟨h.os, h.tape, h.output, h.size, fun k hk hn => h.block k hk (fun hx => (hF k hx).elim hn (fun h => by omega))⟩
theorem FrS.then (h : FrS S a b) (k : FrS S' b c) (hS : ∀ x, S' x → S x ∨ a.heap.size ≤ x) : FrS S a c :=
  ⟨k.os.trans h.os, k.tape.trans h.tape, k.output.trans h.output, Nat.le_trans h.size k.size, fun i hi hn =>
    (k.block i (Nat.lt_of_lt_of_le hi h.size) (fun hx => (hS i hx).elim hn (fun h => by omega))).trans (h.block i hi hn)⟩
theorem FrS.frm0 (h : FrS S a b) (k : Frm [] b c) : FrS S a c := h.then (FrS.of (S := fun _ => False) k (by simp)) (fun _ h => h.elim)
theorem FrS.at (h : FrS S a b) {k : Nat} {o : Obj} (hk : a.heap[k]? = some o) (hn : ¬ S k) : b.heap[k]? = some o := (h.block k (lt_of_block hk) hn).trans hk
theorem FrS.old {w0 : World} (h : FrS S a b) (h0 : Frm [] w0 a) (hS : ∀ k, S k → w0.heap.size ≤ k) : Frm [] w0 b :=
  ⟨h.os.trans h0.os, h.tape.trans h0.tape, h.output.trans h0.output, Nat.le_trans h0.size h.size, fun k hk _ =>
    (h.block k (Nat.lt_of_lt_of_le hk h0.size) (fun hx => by have := hS k hx; omega)).trans (h0.block k hk (by simp))⟩
theorem FrS.frm {F : List Nat} (h : FrS S a b) (hS : ∀ k, S k → k ∈ F) : Frm F a b :=
  ⟨h.os, h.tape, h.output, h.size, fun k hk hn => h.block k hk (fun hx => hn (hS k hx))⟩
end
/-- the blocks of a set -/
def Own (tb : Nat) (P : Wd → Bool) (NB MB : Wd → Nat) (k : Nat) : Prop := k = tb ∨ ∃ p, P p = true ∧ (k = NB p ∨ k = MB p)
def isT : Obj → Bool
  | .map .. => true
  | .cells _ t _ => t == 55 || t == 68
  | _ => false
def setF (f : Wd → Nat) (p : Wd) (v : Nat) : Wd → Nat := fun q => if q = p then v else f q
def orP (P : Wd → Bool) (p : Wd) : Wd → Bool := fun q => P q || decide (q = p)
section
variable {w w' : World} {tb : Nat} {P W : Wd → Bool} {n : Nat} {NB MB : Wd → Nat} {N : Nat} {p : Wd} {c : UInt8}
theorem TR.own_t (h : TR w tb P W n NB MB N) {k : Nat} (hk : Own tb P NB MB k) : ∃ o, w.heap[k]? = some o ∧ isT o = true := by
  rcases hk with rfl | ⟨p, hp, rfl | rfl⟩
  · exact ⟨_, h.top, rfl⟩
  · exact ⟨_, h.node p hp, rfl⟩
  · obtain ⟨es, cl, hb⟩ := h.isMap hp
    exact ⟨_, hb, rfl⟩
theorem TR.not_own (h : TR w tb P W n NB MB N) {k : Nat} {o : Obj} (hk : w.heap[k]? = some o) (ho : isT o = false) : ¬ Own tb P NB MB k := fun hx => by
  obtain ⟨o', h1, h2⟩ := h.own_t hx
  rw [hk] at h1; cases h1; rw [ho] at h2; cases h2
theorem TR.lt (h : TR w tb P W n NB MB N) {k : Nat} (hk : Own tb P NB MB k) : k < w.heap.size := by
  obtain ⟨o, h1, -⟩ := h.own_t hk
  exact lt_of_block h1
/-- a byte's cell lies elsewhere -/
theorem TR.not_u8 (h : TR w tb P W n NB MB N) {k o : Nat} {x : UInt8} (hk : w.cell? ⟨k, o, none⟩ = some (u8 x)) : ¬ Own tb P NB MB k := fun hx => by
  rcases hx with rfl | ⟨p, hp, rfl | rfl⟩
  · rw [cell_of h.top] at hk
    rcases o with _ | _ | o <;> simp [nodeV, u8] at hk
  · rw [cell_of (h.node p hp)] at hk
    rcases o with _ | _ | o <;> simp [u8] at hk
  · obtain ⟨es, cl, hb⟩ := h.isMap hp
    simp [World.cell?, hb] at hk
theorem TR.byts {S : Nat → Prop} (h : TR w tb P W n NB MB N) (hf : FrS S w w') (hS : ∀ k, S k → Own tb P NB MB k) {v : Value} {l : List UInt8} (hb : Byts w v l) : Byts w' v l := by
  obtain ⟨ao, cap, rfl, h1, h2⟩ := hb
  refine ⟨ao, cap, rfl, h1, fun k x hk => ?_⟩
  obtain ⟨b, o, rfl, e⟩ := h2 k x hk
  refine ⟨b, o, rfl, ?_⟩
  have := h.not_u8 e
  exact (World.cell?_of_block (w := w) (hf.block b (cell_lt e) (fun hx => this (hS b hx)))).trans e
/-- turned elsewhere -/
theorem TR.frS {S : Nat → Prop} (h : TR w tb P W n NB MB N) (hf : FrS S w w') (hS : ∀ k, S k → ¬ Own tb P NB MB k) : TR w' tb P W n NB MB N := by
  have hn : ∀ k, Own tb P NB MB k → ¬ S k := fun k hk hx => hS k hx hk
  refine { h with top := hf.at h.top (hn _ (.inl rfl)), node := fun p hp => hf.at (h.node p hp) (hn _ (.inr ⟨p, hp, .inl rfl⟩)), map := fun p hp => ?_ }
  have hm := h.map p hp
  obtain ⟨es, cl, hb⟩ := h.isMap hp
  rcases hm with ⟨e, -⟩ | ⟨b, D, e, ⟨es', cl', hb', q⟩, r⟩
  · cases e
  · cases e
    exact .inr ⟨_, D, rfl, ⟨es', cl', hf.at hb' (hn _ (.inr ⟨p, hp, .inr rfl⟩)), q⟩, r⟩
/-- a flag -/
theorem TR.flag (h : TR w tb P W n NB MB N) (hp : P p = true) (v : Bool) : TR (w.setCell ⟨NB p, 0, none⟩ (.bool v)) tb P (fun q => if q = p then v else W q) n NB MB N ∧ FrS (Own tb P NB MB) w (w.setCell ⟨NB p, 0, none⟩ (.bool v)) := by
  have hf : Frm [NB p] w (w.setCell ⟨NB p, 0, none⟩ (.bool v)) := (Frm.refl _ _).setCell _ (.inl (by simp)) _
  have hb := block_setCell (h.node p hp) 0 (.bool v)
  refine ⟨{ h with top := hf.at h.top (fun hx => ?_), node := fun q hq => ?_, map := fun q hq => (h.map q hq).frm hf (fun b hb hx => ?_) }, FrS.of hf (fun k hk => ?_)⟩
  · simp only [List.mem_singleton] at hx
    have := h.top
    rw [hx, h.node p hp] at this
    cases this
  · by_cases e : q = p
    · subst e
      rw [if_pos rfl, hb]
      rfl
    · rw [if_neg e]
      exact hf.at (h.node q hq) (by simp only [List.mem_singleton]; exact fun e2 => e (h.inj q p hq hp e2))
  · cases hb
    simp only [List.mem_singleton] at hx
    obtain ⟨es, cl, h2⟩ := h.isMap hq
    rw [hx, h.node p hp] at h2; cases h2
  · simp only [List.mem_singleton] at hk
    exact .inl (.inr ⟨p, hp, .inl hk⟩)
/-- the number of words -/
theorem TR.words (h : TR w tb P W n NB MB N) (n' : Nat) : TR (w.setCell ⟨tb, 1, none⟩ (.int .i64 n')) tb P W n' NB MB N ∧ FrS (Own tb P NB MB) w (w.setCell ⟨tb, 1, none⟩ (.int .i64 n')) := by
  have hf : Frm [tb] w (w.setCell ⟨tb, 1, none⟩ (.int .i64 n')) := (Frm.refl _ _).setCell _ (.inl (by simp)) _
  have hb := block_setCell h.top 1 (.int .i64 (n' : Int))
  refine ⟨{ h with top := by rw [hb]; rfl, node := fun q hq => hf.at (h.node q hq) (fun hx => ?_), map := fun q hq => (h.map q hq).frm hf (fun b hb hx => ?_) }, FrS.of hf (fun k hk => ?_)⟩
  · simp only [List.mem_singleton] at hx
    have := h.node q hq
    rw [hx, h.top] at this
    cases this
  · cases hb
    simp only [List.mem_singleton] at hx
    obtain ⟨es, cl, h2⟩ := h.isMap hq
    rw [hx, h.top] at h2; cases h2
  · simp only [List.mem_singleton] at hk
    exact .inl (.inl hk)
theorem orP_snoc {q : Wd} {x : UInt8} (hpc : P (p ++ [c]) = false) : orP P (p ++ [c]) (q ++ [x]) = if q = p ∧ x = c then true else P (q ++ [x]) := by
  unfold orP
  by_cases e : q = p ∧ x = c
  · obtain ⟨rfl, rfl⟩ := e
    rw [if_pos ⟨rfl, rfl⟩]
    simp
  · rw [if_neg e]
    have : ¬ (q ++ [x] = p ++ [c]) := fun h => by
      obtain ⟨h1, h2⟩ := List.append_inj' h rfl
      exact e ⟨h1, by simpa using h2⟩
    rw [decide_eq_false this, Bool.or_false]
/-- the world ahead of the update, and the update: a node more -/
theorem TR.grow (h : TR w tb P W n NB MB N) (hp : P p = true) (hpc : P (p ++ [c]) = false) (hW : W (p ++ [c]) = false) (hN : N ≤ 1000000) {w2 : World} (hw2 : w2 = (w.alloc (.map #[] 0)).alloc (.cells #[.bool false, .map (some w.heap.size)] 68)) :
    ∃ w3, (Instr.mapUpdate 66 (.map (some (MB p))) (u8 c) (.pointer (some ⟨w.heap.size + 1, 0, none⟩))).run Try.prog w2 = .ok () w3 ∧
      TR w3 tb (orP P (p ++ [c])) W n (setF NB (p ++ [c]) (w.heap.size + 1)) (setF MB (p ++ [c]) w.heap.size) (N + 1) ∧ FrS (Own tb P NB MB) w w3 ∧ (∀ k, Own tb (orP P (p ++ [c])) (setF NB (p ++ [c]) (w.heap.size + 1)) (setF MB (p ++ [c]) w.heap.size) k → Own tb P NB MB k ∨ w.heap.size ≤ k) := by
  have hf2 : Frm [] w w2 := by rw [hw2]; exact ((Frm.refl [] w).alloc _).alloc _
  have hmap2 : w2.heap[w.heap.size]? = some (.map #[] 0) := by rw [hw2]; exact alloc_at (heap_alloc_new _ _)
  have hnode2 : w2.heap[w.heap.size + 1]? = some (.cells #[.bool false, .map (some w.heap.size)] 68 (0, 0)) := by rw [hw2]; exact alloc_top (by simp)
  have h2 := h.frm0 hf2
  obtain ⟨w3, hrun, hm3, hf3⟩ := (h2.map p hp).store Try.key5 Try.underlying66 (by unfold maxLen; omega) (key_u8 c) (by trivial) (.pointer (some ⟨w.heap.size + 1, 0, none⟩))
  rw [fU_upd, fU_at] at hm3
  have hkp : kidF P NB p c = none := by unfold kidF; rw [if_neg (by simp [hpc])]
  rw [hkp] at hm3
  have hlt : ∀ k, Own tb P NB MB k → k < w.heap.size := fun k hk => h.lt hk
  have hltN : ∀ q, P q = true → NB q < w.heap.size := fun q hq => hlt _ (.inr ⟨q, hq, .inl rfl⟩)
  have hltM : ∀ q, P q = true → MB q < w.heap.size := fun q hq => hlt _ (.inr ⟨q, hq, .inr rfl⟩)
  have hne : ∀ q, P q = true → q ≠ p ++ [c] := fun q hq e => by subst e; rw [hpc] at hq; cases hq
  have hN' : ∀ q, P q = true → setF NB (p ++ [c]) (w.heap.size + 1) q = NB q := fun q hq => by unfold setF; rw [if_neg (hne q hq)]
  have hM' : ∀ q, P q = true → setF MB (p ++ [c]) w.heap.size q = MB q := fun q hq => by unfold setF; rw [if_neg (hne q hq)]
  have hNc : setF NB (p ++ [c]) (w.heap.size + 1) (p ++ [c]) = w.heap.size + 1 := by unfold setF; rw [if_pos rfl]
  have hMc : setF MB (p ++ [c]) w.heap.size (p ++ [c]) = w.heap.size := by unfold setF; rw [if_pos rfl]
  have hcase : ∀ q, orP P (p ++ [c]) q = true → P q = true ∨ q = p ++ [c] := fun q hq => by unfold orP at hq; simpa using hq
  have hkidN : ∀ q x, P q = true → ¬ (q = p ∧ x = c) → kidF (orP P (p ++ [c])) (setF NB (p ++ [c]) (w.heap.size + 1)) q x = kidF P NB q x := fun q x hq hn => by
    unfold kidF
    rw [orP_snoc hpc, if_neg hn]
    by_cases e : P (q ++ [x]) = true
    · rw [if_pos e, if_pos e]; unfold nodeV; rw [hN' _ e]
    · rw [if_neg e, if_neg e]
  have hkc : ∀ x, orP P (p ++ [c]) (p ++ [c] ++ [x]) = false := fun x => by
    unfold orP
    have h1 : P (p ++ [c] ++ [x]) = false := by
      cases e : P (p ++ [c] ++ [x]) with
      | false => rfl
      | true => have := h.up _ _ e; rw [hpc] at this; cases this
    rw [h1]; simp
  have hmne : ∀ q, P q = true → q ≠ p → MB q ∉ [MB p] := fun q hq e hx => by
    simp only [List.mem_singleton] at hx
    exact e (h.injM q p hq hp hx)
  obtain ⟨es, cl, hmb⟩ := h2.isMap hp
  refine ⟨w3, hrun, ⟨?_, ?_, fun q x hx => ?_, fun q hq => ?_, fun q hq => ?_, fun q r hq hr e => ?_, fun q r hq hr e => ?_⟩, (FrS.of (S := Own tb P NB MB) hf2 (by simp)).then (FrS.of (S := Own tb P NB MB) hf3 (fun k hk => by simp only [List.mem_singleton] at hk; exact .inl (.inr ⟨p, hp, .inr hk⟩))) (fun k hk => .inl hk), ?_⟩
  · have ht := hf3.at h2.top (fun hx => by simp only [List.mem_singleton] at hx; have := h2.top; rw [hx, hmb] at this; cases this)
    rw [ht]
    unfold nodeV
    rw [hN' [] h.nil]
  · unfold orP; rw [h.nil]; rfl
  · rw [orP_snoc hpc] at hx
    unfold orP
    split at hx
    · rename_i e; rw [e.1, hp]; rfl
    · rw [h.up q x hx]; rfl
  · rcases hcase q hq with hq | rfl
    · rw [hN' q hq, hM' q hq]
      exact hf3.at (h2.node q hq) (fun hx => by simp only [List.mem_singleton] at hx; have := h2.node q hq; rw [hx, hmb] at this; cases this)
    · rw [hNc, hMc, hW]
      exact hf3.at hnode2 (fun hx => by simp only [List.mem_singleton] at hx; have := hltM p hp; omega)
  · rcases hcase q hq with hq | rfl
    · rw [hM' q hq]
      by_cases e : q = p
      · subst e
        have e1 : (kidF (orP P (q ++ [c])) (setF NB (q ++ [c]) (w.heap.size + 1)) q) = fun x => if x = c then some (.pointer (some ⟨w.heap.size + 1, 0, none⟩)) else kidF P NB q x := by
          funext x
          by_cases ex : x = c
          · subst ex
            rw [if_pos rfl]
            have e5 := orP_snoc (q := q) (x := x) hpc
            rw [if_pos ⟨rfl, rfl⟩] at e5
            unfold kidF
            rw [if_pos e5]
            unfold nodeV
            rw [hNc]
          · rw [if_neg ex, hkidN q x hp (fun h => ex h.2)]
        rw [e1, kidsP_new (P := P) (fun x => by rw [orP_snoc hpc]; by_cases ex : x = c <;> simp [ex]) hpc]
        exact hm3
      · have e1 : kidF (orP P (p ++ [c])) (setF NB (p ++ [c]) (w.heap.size + 1)) q = kidF P NB q := by
          funext x; exact hkidN q x hq (fun h => e h.1)
        have e2 : kidsP (orP P (p ++ [c])) q = kidsP P q := kidsP_congr (fun x => by rw [orP_snoc hpc, if_neg (fun h => e h.1)])
        rw [e1, e2]
        exact ((h2.map q hq).frm hf3 (fun b hb => by cases hb; exact hmne q hq e)).mono (Nat.le_succ N)
    · rw [hMc]
      have e1 : kidF (orP P (p ++ [c])) (setF NB (p ++ [c]) (w.heap.size + 1)) (p ++ [c]) = fun _ => none := by
        funext x
        unfold kidF
        rw [hkc x]; rfl
      have e2 : kidsP (orP P (p ++ [c])) (p ++ [c]) = [] := by
        unfold kidsP
        rw [List.filter_eq_nil_iff]
        intro x _
        rw [hkc x]; simp
      rw [e1, e2]
      have e3 : (fU fun _ => none) = fun _ => none := by
        funext x; unfold fU; split
        · split <;> rfl
        · rfl
      rw [e3]
      have hm0 : MapAt Try.prog 5 w2 (some w.heap.size) 0 (fun _ => none) 0 := by
        rw [hw2]
        exact (MapAt.made Try.prog 5 w).frm ((Frm.refl [] _).alloc _) (fun b _ => by simp)
      exact (hm0.frm hf3 (fun b hb hx => by cases hb; simp only [List.mem_singleton] at hx; have := hltM p hp; omega)).mono (Nat.zero_le _)
  · rcases hcase q hq with hq | rfl <;> rcases hcase r hr with hr | rfl
    · rw [hN' q hq, hN' r hr] at e; exact h.inj q r hq hr e
    · rw [hN' q hq, hNc] at e; have := hltN q hq; omega
    · rw [hN' r hr, hNc] at e; have := hltN r hr; omega
    · rfl
  · rcases hcase q hq with hq | rfl <;> rcases hcase r hr with hr | rfl
    · rw [hM' q hq, hM' r hr] at e; exact h.injM q r hq hr e
    · rw [hM' q hq, hMc] at e; have := hltM q hq; omega
    · rw [hM' r hr, hMc] at e; have := hltM r hr; omega
    · rfl
  · intro k hk
    rcases hk with rfl | ⟨q, hq, e⟩
    · exact .inl (.inl rfl)
    · rcases hcase q hq with hq | rfl
      · rw [hN' q hq, hM' q hq] at e
        exact .inl (.inr ⟨q, hq, e⟩)
      · rw [hNc, hMc] at e
        right; omega
end
end Go.Proofs.Ytefpfcheafbfdaa
