/- A range over an iterator whose list is known only behind it (an iterator over a map): the law. -/
import Derived.Test.YtefpfcheafbfdaaRange
namespace Go.Proofs.Ytefpfcheafbfdaa
open Go.RowKit

/-- an iterator over a map's own book -/
def isIt : Obj → Bool | .mapIter _ _ _ _ => true | _ => false
theorem isIt_book {o : Obj} (h : isBook o = false) : isIt o = false := by cases o <;> simp_all [isBook, isIt]
theorem isIt_book' {o : Obj} (h : isIt o = true) : isBook o = true := by cases o <;> simp_all [isBook, isIt]
/-- new blocks, and turns of map iterators at or beyond B, alone -/
structure Ik (B : Nat) (w w' : World) : Prop where
  os : w'.os = w.os
  tape : w'.tape = w.tape
  output : w'.output = w.output
  size : w.heap.size ≤ w'.heap.size
  block : ∀ k o, w.heap[k]? = some o → k < B ∨ isIt o = false → w'.heap[k]? = some o
theorem Ik.at {B k : Nat} {w w' : World} {o : Obj} (h : Ik B w w') (hk : w.heap[k]? = some o) (ho : isIt o = false) : w'.heap[k]? = some o := h.block k o hk (.inr ho)
theorem Ik.bk {B B' : Nat} {w w' : World} (h : Ik B w w') (hB : B' ≤ B) : Bk B' w w' := ⟨h.os, h.tape, h.output, h.size, fun k o hk ho => h.block k o hk (ho.elim (fun e => .inl (by omega)) (fun e => .inr (isIt_book e)))⟩
theorem Frm.ik {w w' : World} (h : Frm [] w w') (B : Nat) : Ik B w w' := ⟨h.os, h.tape, h.output, h.size, fun _ _ hk _ => h.at hk (by simp)⟩
/-- the map iterators lie as they lay -/
def KI (w w' : World) : Prop := ∀ (k : Nat) (o : Obj), w.heap[k]? = some o → isIt o = true → w'.heap[k]? = some o
theorem KI.trans {w w' w2 : World} (h : KI w w') (k : KI w' w2) : KI w w2 := fun i o hi ho => k i o (h i o hi ho) ho
theorem KB.ki {w w' : World} (h : KB w w') : KI w w' := fun k o hk ho => h k o hk (isIt_book' ho)
theorem KI.putObj {w : World} {l : Nat} {r : Loop} (o : Obj) (hl : w.heap[l]? = some (.loop r)) : KI w (w.putObj l o) := fun k o1 hk h1 => by
  have hne : k ≠ l := by
    rintro rfl
    rw [hl] at hk; cases hk; cases h1
  rw [World.putObj_heap_other hne]; exact hk
/-- THE CONTRACT: More: what may come next; Done: what may have been handed out in all; R is what it reads. -/
def IterP {α : Type} (F : Fence) (n : Nat) (P : Program) (g : Nat) (lb : Array Value) (encs : α → Array Value) (R : World → Prop) (More : List α → α → Prop) (Done : List α → Prop) : Prop :=
  ∀ (l : Nat) (W : World) (J Jx : List α → World → Prop),
    (∀ pre W1 W2, J pre W1 → Ik W.heap.size W1 W2 → J pre W2) → (∀ pre W1 W2, Jx pre W1 → Ik W.heap.size W1 W2 → Jx pre W2) → (∀ pre W1, J pre W1 → R W1) →
    (∀ pre x W1, More pre x → J pre W1 → YieldAt F (n - 1) P l (encs x) W1 fun e W2 =>
      (e = .returned (.bool true) ∧ J (pre ++ [x]) W2 ∧ KI W1 W2) ∨ (e = .returned (.bool false) ∧ Jx (pre ++ [x]) W2 ∧ KI W1 W2)) →
    J [] W → CallsIn F n P g (#[.func (.yield l) #[] #[]] ++ lb) W fun e W' => (∃ v, e = .returned v) ∧ ((∃ xs, Done xs ∧ J xs W') ∨ ∃ pre x, More pre x ∧ Jx (pre ++ [x]) W')

variable {F : Fence} {n : Nat} {P : Program}

theorem wpIn_rangeP {α : Type} {g : Operand} {ps : Array Tmp} {assign body : Code} {Q : Exit → Act → World → Prop} {a : Act} {w : World}
    (hro : F.round = none) (h1 : 1 ≤ n) {gf : Nat} {lb : Array Value} (hg : a.eval g = .func (.func gf) #[] lb) (hFg : F.fn gf) (eg : ∀ args w, (callFunc gf args).run P w = .ok (.enter gf args) w)
    {encs : α → Array Value} {R : World → Prop} {More : List α → α → Prop} {Done : List α → Prop} (hit : IterP F (n - 1) P gf lb encs R More Done) (hps : ∀ x, (encs x).size = ps.size)
    (I : List α → World → Prop) (Ix : Code → List α → World → Prop) (sI : ∀ s W W', I s W → Bk w.heap.size W W' → I s W') (sIx : ∀ c s W W', Ix c s W → Bk w.heap.size W W' → Ix c s W')
    (hR : ∀ s W, I s W → R W) (h0 : I [] w)
    (hround : ∀ (l : Nat) (pre : List α) (x : α) (W : World), More pre x → I pre W → w.heap.size ≤ l → (∃ r, W.heap[l]? = some (.loop r)) →
      assign.wpIn (F.inRound l) (n - 1 - 1) P (Exit.then (fun a' W' => KB W W' ∧ ∀ W2, Bk w.heap.size W' W2 → (∃ r, W2.heap[l]? = some (.loop r)) → body.wpIn (F.inRound l) (n - 1 - 1) P (roundEnd I Ix (pre ++ [x]) W2) a' W2) (fun _ _ _ => False))
        { tmps := (ps.zip (encs x)).foldl (fun t (p, v) => t.setIfInBounds p v) a.tmps, defers := [] } W)
    (hdone : ∀ (D : Nat) (xs : List α) (W : World), w.heap.size ≤ D → Done xs → I xs W → W.heap[D]? = some (.deferred (some [])) → Q .normal { a with defers := { target := .collected D, args := #[] } :: a.defers } W)
    (hstop : ∀ (D : Nat) (c : Code) (pre : List α) (x : α) (W : World), More pre x → w.heap.size ≤ D → Ix c (pre ++ [x]) W → W.heap[D]? = some (.deferred (some [])) → c.wpIn F n P Q { a with defers := { target := .collected D, args := #[] } :: a.defers } W) :
    (Code.rangeFunc g ps assign body).wpIn F n P Q a w := by
  refine wpIn_rangeFunc ?_
  intro fn hfn
  rw [hro]
  obtain ⟨rec, hrec⟩ : ∃ rec : LoopState → Option Code → Loop, rec = fun st pe => { state := st, pending := pe, fn, tmps := a.tmps, params := ps, assign, body, defers := w.heap.size } := ⟨_, rfl⟩
  obtain ⟨W1, hW1⟩ : ∃ W1, (w.alloc (.deferred (some []))).alloc (.loop (rec .ready none)) = W1 := ⟨_, rfl⟩
  have hL1 : W1.heap[w.heap.size + 1]? = some (.loop (rec .ready none)) := by
    rw [← hW1]; have := World.alloc_heap_new (w.alloc (.deferred (some []))) (.loop (rec .ready none)); rwa [World.size_alloc] at this
  have hK1 : W1.heap[w.heap.size]? = some (.deferred (some [])) := by
    rw [← hW1]; exact (Below.heap_alloc _ _ _ (by simp)).trans (World.alloc_heap_new w _)
  have hF1 : Frm [] w W1 := by rw [← hW1]; exact ((Frm.refl _ _).alloc _).alloc _
  have hS1 : W1.heap.size = w.heap.size + 2 := by rw [← hW1]; simp
  have hI1 : I [] W1 := sI _ _ _ h0 (hF1.bk _)
  refine ⟨w.heap.size + 1, [{ target := .collected w.heap.size, args := #[] }], W1, { target := .fn (.func gf) lb, args := #[.func (.yield (w.heap.size + 1)) #[] #[]] }, W1, gf,
    #[.func (.yield (w.heap.size + 1)) #[] #[]] ++ lb, W1, ?_, ?_, ?_, ?_, fun _ => h1, ?_⟩
  · rw [← hW1, hrec]; exact run_enterLoop_outer _ _ _ _ _
  · simp only [resolve, hg]
    simp [go_sem]
  · intro f' hf'; simp [Target.leads] at hf'; subst hf'; exact hFg
  · simp [invoke, go_sem, eg]
  · refine (hit (w.heap.size + 1) W1
      (fun pre W => I pre W ∧ W.heap[w.heap.size + 1]? = some (.loop (rec .ready none)) ∧ W.heap[w.heap.size]? = some (.deferred (some [])))
      (fun pre W => ∃ c, Ix c pre W ∧ W.heap[w.heap.size + 1]? = some (.loop (rec .done (some c))) ∧ W.heap[w.heap.size]? = some (.deferred (some [])))
      (fun pre W W' hJ hf => ⟨sI _ _ _ hJ.1 (hf.bk (by rw [hS1]; omega)), hf.at hJ.2.1 rfl, hf.at hJ.2.2 rfl⟩)
      (fun pre W W' ⟨c, hJ⟩ hf => ⟨c, sIx _ _ _ _ hJ.1 (hf.bk (by rw [hS1]; omega)), hf.at hJ.2.1 rfl, hf.at hJ.2.2 rfl⟩)
      (fun pre W hJ => hR _ _ hJ.1) ?_ ⟨hI1, hL1, hK1⟩).mono ?_
    · rintro pre x W hxs ⟨hi, hl, hk⟩
      have hy := run_yield (P := P) (args := encs x) hl (by rw [hrec]; exact hps x)
      rw [hrec] at hy
      refine ⟨fn, _, assign, body, hy, roundIn_of_wpIn hfn (wpIn_mono (hround (w.heap.size + 1) pre x W hxs hi (by omega) ⟨_, hl⟩) ?_)⟩
      intro e a' W' hp
      cases e with
      | normal =>
        obtain ⟨hkb, hb⟩ := hp
        have hl' := hkb _ _ hl rfl
        have hk' := hkb _ _ hk rfl
        have hlt : w.heap.size + 1 < W'.heap.size := lt_of_block hl'
        refine ⟨_, run_beginRound hl' (by rw [hrec]), ?_⟩
        have hl2 : (W'.putObj (w.heap.size + 1) (.loop { rec .ready none with state := .busy })).heap[w.heap.size + 1]? = some (.loop { rec .ready none with state := .busy }) := World.putObj_heap_same hlt
        have hk2 : (W'.putObj (w.heap.size + 1) (.loop { rec .ready none with state := .busy })).heap[w.heap.size]? = some (.deferred (some [])) := (World.putObj_heap_other (by omega)).trans hk'
        refine wpIn_mono (hb _ (Bk.putObj W' _ hl' rfl (by omega)) ⟨_, hl2⟩) ?_
        have fin : ∀ (jump : Option Code) (W3 : World), KB (W'.putObj (w.heap.size + 1) (.loop { rec .ready none with state := .busy })) W3 →
            (Instr.endRound (w.heap.size + 1) jump).run P W3 = .ok (.bool jump.isNone) (W3.putObj (w.heap.size + 1) (.loop (rec (if jump.isNone then .ready else .done) jump))) ∧
            Bk w.heap.size W3 (W3.putObj (w.heap.size + 1) (.loop (rec (if jump.isNone then .ready else .done) jump))) ∧
            (W3.putObj (w.heap.size + 1) (.loop (rec (if jump.isNone then .ready else .done) jump))).heap[w.heap.size + 1]? = some (.loop (rec (if jump.isNone then .ready else .done) jump)) ∧
            (W3.putObj (w.heap.size + 1) (.loop (rec (if jump.isNone then .ready else .done) jump))).heap[w.heap.size]? = some (.deferred (some [])) := fun jump W3 hk3 => by
          have hl3 := hk3 _ _ hl2 rfl
          have := run_endRound (P := P) jump hl3
          rw [hrec] at this ⊢
          exact ⟨this, Bk.putObj W3 _ hl3 rfl (by omega), World.putObj_heap_same (lt_of_block hl3), (World.putObj_heap_other (by omega)).trans (hk3 _ _ hk2 rfl)⟩
        have kis : ∀ (jump : Option Code) (W3 : World), KB (W'.putObj (w.heap.size + 1) (.loop { rec .ready none with state := .busy })) W3 → KI W (W3.putObj (w.heap.size + 1) (.loop (rec (if jump.isNone then .ready else .done) jump))) := fun jump W3 hk3 =>
          ((KB.ki hkb).trans ((KI.putObj _ hl').trans (KB.ki hk3))).trans (KI.putObj _ (hk3 _ _ hl2 rfl))
        rintro e a3 W3 hp
        cases e with
        | normal =>
          obtain ⟨hk3, hi3⟩ := hp
          obtain ⟨hr, hb3, hl4, hk4⟩ := fin none W3 hk3
          exact ⟨_, _, hr, .inl ⟨rfl, ⟨sI _ _ _ hi3 hb3, hl4, hk4⟩, kis none W3 hk3⟩⟩
        | ret =>
          obtain ⟨hk3, hi3⟩ := hp
          obtain ⟨hr, hb3, hl4, hk4⟩ := fin (some .ret) W3 hk3
          exact ⟨_, _, hr, .inr ⟨rfl, ⟨.ret, sIx _ _ _ _ hi3 hb3, hl4, hk4⟩, kis (some .ret) W3 hk3⟩⟩
        | exit id =>
          obtain ⟨hk3, hi3⟩ := hp
          obtain ⟨hr, hb3, hl4, hk4⟩ := fin (some (.exit id)) W3 hk3
          exact ⟨_, _, hr, .inr ⟨rfl, ⟨.exit id, sIx _ _ _ _ hi3 hb3, hl4, hk4⟩, kis (some (.exit id)) W3 hk3⟩⟩
        | goto t =>
          obtain ⟨hk3, hi3⟩ := hp
          obtain ⟨hr, hb3, hl4, hk4⟩ := fin (some (.goto t)) W3 hk3
          exact ⟨_, _, hr, .inr ⟨rfl, ⟨.goto t, sIx _ _ _ _ hi3 hb3, hl4, hk4⟩, kis (some (.goto t)) W3 hk3⟩⟩
        | panic ch => exact hp.elim
        | outgrown => exact hp.elim
      | ret => exact hp.elim
      | exit id => exact hp.elim
      | goto t => exact hp.elim
      | panic ch => exact hp.elim
      | outgrown => exact hp.elim
    · rintro e W2 ⟨⟨v, rfl⟩, (⟨xs, hxs, hi, hl, hk⟩ | ⟨pre, x, hxs, c, hi, hl, hk⟩)⟩
      · exact ⟨none, _, by have := run_endLoop (P := P) hl (by rw [hrec]; simp); rw [hrec] at this; exact this, hdone _ xs _ (Nat.le_refl _) hxs (sI _ _ _ hi (by rw [hrec] at hl; exact Bk.putObj W2 _ hl rfl (by omega))) ((World.putObj_heap_other (by omega)).trans hk)⟩
      · exact ⟨some c, _, by have := run_endLoop (P := P) hl (by rw [hrec]; simp); rw [hrec] at this; exact this, hstop _ c pre x _ hxs (Nat.le_refl _) (sIx _ _ _ _ hi (by rw [hrec] at hl; exact Bk.putObj W2 _ hl rfl (by omega))) ((World.putObj_heap_other (by omega)).trans hk)⟩
/-- the same, met in a plain walk -/
theorem wp_rangeP {α : Type} {g : Operand} {ps : Array Tmp} {assign body : Code} {Q : Exit → Act → World → Prop} {a : Act} {w : World}
    {gf : Nat} {lb : Array Value} (hg : a.eval g = .func (.func gf) #[] lb) (eg : ∀ args w, (callFunc gf args).run P w = .ok (.enter gf args) w)
    {encs : α → Array Value} {R : World → Prop} {More : List α → α → Prop} {Done : List α → Prop} (hit : IterP Fence.wide 2 P gf lb encs R More Done) (hps : ∀ x, (encs x).size = ps.size)
    (I : List α → World → Prop) (Ix : Code → List α → World → Prop) (sI : ∀ s W W', I s W → Bk w.heap.size W W' → I s W') (sIx : ∀ c s W W', Ix c s W → Bk w.heap.size W W' → Ix c s W')
    (hR : ∀ s W, I s W → R W) (h0 : I [] w)
    (hround : ∀ (l : Nat) (pre : List α) (x : α) (W : World), More pre x → I pre W → w.heap.size ≤ l → (∃ r, W.heap[l]? = some (.loop r)) →
      assign.wpIn (Fence.wide.inRound l) 1 P (Exit.then (fun a' W' => KB W W' ∧ ∀ W2, Bk w.heap.size W' W2 → (∃ r, W2.heap[l]? = some (.loop r)) → body.wpIn (Fence.wide.inRound l) 1 P (roundEnd I Ix (pre ++ [x]) W2) a' W2) (fun _ _ _ => False))
        { tmps := (ps.zip (encs x)).foldl (fun t (p, v) => t.setIfInBounds p v) a.tmps, defers := [] } W)
    (hdone : ∀ (D : Nat) (xs : List α) (W : World), w.heap.size ≤ D → Done xs → I xs W → W.heap[D]? = some (.deferred (some [])) → Q .normal { a with defers := { target := .collected D, args := #[] } :: a.defers } W)
    (hstop : ∀ (D : Nat) (c : Code) (pre : List α) (x : α) (W : World), More pre x → w.heap.size ≤ D → Ix c (pre ++ [x]) W → W.heap[D]? = some (.deferred (some [])) → c.wp P Q { a with defers := { target := .collected D, args := #[] } :: a.defers } W) :
    (Code.rangeFunc g ps assign body).wp P Q a w :=
  wpIn_wide.1 (wpIn_rangeP (F := Fence.wide) (n := 3) rfl (by omega) hg trivial eg hit hps I Ix sI sIx hR h0 hround hdone (fun D c pre x W h1 h2 h3 h4 => wpIn_wide.2 (hstop D c pre x W h1 h2 h3 h4)))
end Go.Proofs.Ytefpfcheafbfdaa
