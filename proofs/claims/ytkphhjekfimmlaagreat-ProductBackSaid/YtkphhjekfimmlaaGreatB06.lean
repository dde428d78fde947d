/- A range over an iterator that hands out a list: the law, over what the loop's book-keeping leaves alone. counter: none, find, Get, allows, Allowed, Copy; the iterator of Counters. counter: Allowed, Copy, Apply, Put. role: names; the index of a state, of a counter, of a role. -/
import Derived.Test.YtkphhjekfimmlaaGreatB01
import Derived.RangeFuncNested
import Derived.RangeFuncLeaves
import Derived.RangeFuncCalls
import Derived.Test.YtkphhjekfimmlaaGreatB03
import Derived.Test.YtkphhjekfimmlaaGreatB05
import Derived.RangeFuncBound
import Derived.OwnWalkIn
import Derived.TacticsInMore
import Derived.LoopNIn
import Derived.LoopIn
import Derived.Test.YtkphhjekfimmlaaGreatB02
namespace Go.Proofs.YtkphhjekfimmlaaGreat
open Go.RowKit

/-- what loops keep their books in -/
def isBook : Obj → Bool | .loop _ => true | .deferred _ => true | _ => false
/-- new blocks, and turns of books at or beyond B, alone -/
structure Bk (B : Nat) (w w' : World) : Prop where
  os : w'.os = w.os
  tape : w'.tape = w.tape
  output : w'.output = w.output
  size : w.heap.size ≤ w'.heap.size
  block : ∀ k o, w.heap[k]? = some o → k < B ∨ isBook o = false → w'.heap[k]? = some o
/-- the books of w -/
def books (w : World) : List Nat := (List.range w.heap.size).filter fun k => (w.heap[k]?).any isBook
theorem mem_books {w : World} {k : Nat} : k ∈ books w ↔ ∃ o, w.heap[k]? = some o ∧ isBook o = true := by
  unfold books
  rw [List.mem_filter, List.mem_range]
  constructor
  · rintro ⟨hk, h⟩
    rw [Array.getElem?_eq_getElem hk] at h ⊢
    exact ⟨_, rfl, by simpa using h⟩
  · rintro ⟨o, ho, hb⟩
    exact ⟨lt_of_block ho, by simp [ho, hb]⟩
theorem not_books {w : World} {k : Nat} {o : Obj} (h : w.heap[k]? = some o) (hb : isBook o = false) : k ∉ books w := fun hk => by
  obtain ⟨o', ho, h1⟩ := mem_books.1 hk
  rw [h] at ho; cases ho; rw [hb] at h1; cases h1
section
variable {B : Nat} {w w' w2 : World}
theorem Bk.frm (h : Bk B w w') : Frm (books w) w w' := ⟨h.os, h.tape, h.output, h.size, fun k hk hn => by
  have ho : w.heap[k]? = some (w.heap[k]) := Array.getElem?_eq_getElem hk
  rw [ho]
  refine h.block k _ ho (.inr ?_)
  cases hb : isBook w.heap[k] with
  | false => rfl
  | true => exact absurd (mem_books.2 ⟨_, ho, hb⟩) hn⟩
theorem Bk.old {w0 : World} (h : Bk B w w') (h0 : Frm [] w0 w) (hB : w0.heap.size ≤ B) : Frm [] w0 w' :=
  ⟨h.os.trans h0.os, h.tape.trans h0.tape, h.output.trans h0.output, Nat.le_trans h0.size h.size, fun k hk _ => by
    have e := h0.block k hk (by simp)
    have hk' : w0.heap[k]? = some (w0.heap[k]) := Array.getElem?_eq_getElem hk
    rw [hk'] at e ⊢
    exact h.block k _ e (.inl (by omega))⟩
theorem Bk.at {k : Nat} {o : Obj} (h : Bk B w w') (hk : w.heap[k]? = some o) (hb : isBook o = false) : w'.heap[k]? = some o := h.block k o hk (.inr hb)
theorem Bk.refl (B : Nat) (w : World) : Bk B w w := ⟨rfl, rfl, rfl, Nat.le_refl _, fun _ _ h _ => h⟩
theorem Frm.bk (h : Frm [] w w') (B : Nat) : Bk B w w' := ⟨h.os, h.tape, h.output, h.size, fun _ _ hk _ => h.at hk (by simp)⟩
theorem Bk.putObj (w : World) {l : Nat} {o : Obj} (o' : Obj) (hl : w.heap[l]? = some o) (ho : isBook o = true) (hB : B ≤ l) : Bk B w (w.putObj l o') :=
  ⟨rfl, rfl, rfl, by simp [World.putObj], fun k o1 hk h1 => by
    have hne : k ≠ l := by
      rintro rfl
      rw [hl] at hk; cases hk
      rcases h1 with h1 | h1
      · omega
      · rw [ho] at h1; cases h1
    rw [World.putObj_heap_other hne]; exact hk⟩
/-- the books lie as they lay -/
def KB (w w' : World) : Prop := ∀ (k : Nat) (o : Obj), w.heap[k]? = some o → isBook o = true → w'.heap[k]? = some o
theorem KB.refl (w : World) : KB w w := fun _ _ h _ => h
theorem KB.trans (h : KB w w') (k : KB w' w2) : KB w w2 := fun i o hi ho => k i o (h i o hi ho) ho
theorem KB.frm {F : List Nat} (h : Frm F w w') (hF : ∀ x ∈ F, x ∉ books w) : KB w w' := fun k o hk ho => h.at hk (fun hx => hF k hx (mem_books.2 ⟨o, hk, ho⟩))
theorem KB.frm0 (h : Frm [] w w') : KB w w' := KB.frm h (by simp)
end

/-- THE CONTRACT OF AN ITERATOR THAT HANDS OUT xs: R is what it reads. -/
def Iter {α : Type} (F : Fence) (n : Nat) (P : Program) (g : Nat) (lb : Array Value) (encs : α → Array Value) (R : World → Prop) (xs : List α) : Prop :=
  ∀ (l : Nat) (J Jx : List α → World → Prop),
    (∀ pre W W', J pre W → Frm [] W W' → J pre W') → (∀ pre W W', Jx pre W → Frm [] W W' → Jx pre W') → (∀ pre W, J pre W → R W) →
    (∀ pre x rest W, xs = pre ++ x :: rest → J pre W → YieldAt F (n - 1) P l (encs x) W fun e W' =>
      (e = .returned (.bool true) ∧ J (pre ++ [x]) W') ∨ (e = .returned (.bool false) ∧ Jx (pre ++ [x]) W')) →
    ∀ W, J [] W → CallsIn F n P g (#[.func (.yield l) #[] #[]] ++ lb) W fun e W' => (∃ v, e = .returned v) ∧ (J xs W' ∨ ∃ pre x rest, xs = pre ++ x :: rest ∧ Jx (pre ++ [x]) W')

/-- the ways out of a round -/
def roundEnd {α : Type} (I : List α → World → Prop) (Ix : Code → List α → World → Prop) (s : List α) (W : World) : Exit → Act → World → Prop
  | .normal, _, W' => KB W W' ∧ I s W'
  | .ret, _, W' => KB W W' ∧ Ix .ret s W'
  | .exit id, _, W' => KB W W' ∧ Ix (.exit id) s W'
  | .goto t, _, W' => KB W W' ∧ Ix (.goto t) s W'
  | .panic _, _, _ => False
  | .outgrown, _, _ => False

variable {F : Fence} {n : Nat} {P : Program}

theorem wpIn_rangeList {α : Type} {g : Operand} {ps : Array Tmp} {assign body : Code} {Q : Exit → Act → World → Prop} {a : Act} {w : World}
    (hro : F.round = none) (h1 : 1 ≤ n) {gf : Nat} {lb : Array Value} (hg : a.eval g = .func (.func gf) #[] lb) (hFg : F.fn gf) (eg : ∀ args w, (callFunc gf args).run P w = .ok (.enter gf args) w)
    {encs : α → Array Value} {R : World → Prop} {xs : List α} (hit : Iter F (n - 1) P gf lb encs R xs) (hps : ∀ x, (encs x).size = ps.size)
    (I : List α → World → Prop) (Ix : Code → List α → World → Prop) (sI : ∀ s W W', I s W → Bk w.heap.size W W' → I s W') (sIx : ∀ c s W W', Ix c s W → Bk w.heap.size W W' → Ix c s W')
    (hR : ∀ s W, I s W → R W) (h0 : I [] w)
    (hround : ∀ (l : Nat) (pre : List α) (x : α) (rest : List α) (W : World), xs = pre ++ x :: rest → I pre W → w.heap.size ≤ l → (∃ r, W.heap[l]? = some (.loop r)) →
      assign.wpIn (F.inRound l) (n - 1 - 1) P (Exit.then (fun a' W' => KB W W' ∧ ∀ W2, Bk w.heap.size W' W2 → (∃ r, W2.heap[l]? = some (.loop r)) → body.wpIn (F.inRound l) (n - 1 - 1) P (roundEnd I Ix (pre ++ [x]) W2) a' W2) (fun _ _ _ => False))
        { tmps := (ps.zip (encs x)).foldl (fun t (p, v) => t.setIfInBounds p v) a.tmps, defers := [] } W)
    (hdone : ∀ (D : Nat) (W : World), w.heap.size ≤ D → I xs W → W.heap[D]? = some (.deferred (some [])) → Q .normal { a with defers := { target := .collected D, args := #[] } :: a.defers } W)
    (hstop : ∀ (D : Nat) (c : Code) (pre : List α) (x : α) (rest : List α) (W : World), xs = pre ++ x :: rest → w.heap.size ≤ D → Ix c (pre ++ [x]) W → W.heap[D]? = some (.deferred (some [])) → c.wpIn F n P Q { a with defers := { target := .collected D, args := #[] } :: a.defers } W) :
    (Code.rangeFunc g ps assign body).wpIn F n P Q a w := by
  refine wpIn_rangeFunc ?_
  intro fn hfn
  rw [hro]
  obtain ⟨rec, hrec⟩ : ∃ rec : LoopState → Option Code → Loop, rec = fun st pe => { state := st, pending := pe, fn, tmps := a.tmps, params := ps, assign, body, defers := w.heap.size } := ⟨_, rfl⟩
  obtain ⟨W1, hW1⟩ : ∃ W1, (w.alloc (.deferred (some []))).alloc (.loop (rec .ready none)) = W1 := ⟨_, rfl⟩
  have hL1 : W1.heap[w.heap.size + 1]? = some (.loop (rec .ready none)) := by
    rw [← hW1]; have := World.alloc_heap_new (w.alloc (.deferred (some []))) (.loop (rec .ready none)); rwa [World.size_alloc] at this
  have hK1 : W1.heap[w.heap.size]? = some (.deferred (some [])) := by
    rw [← hW1]; exact (Below.heap_alloc _ _ _ (by simp)).trans (World.alloc_heap_new w _)
  have hF1 : Frm [] w W1 := by rw [← hW1]; exact ((Frm.refl _ _).alloc _).alloc _
  have hI1 : I [] W1 := sI _ _ _ h0 (hF1.bk _)
  refine ⟨w.heap.size + 1, [{ target := .collected w.heap.size, args := #[] }], W1, { target := .fn (.func gf) lb, args := #[.func (.yield (w.heap.size + 1)) #[] #[]] }, W1, gf,
    #[.func (.yield (w.heap.size + 1)) #[] #[]] ++ lb, W1, ?_, ?_, ?_, ?_, fun _ => h1, ?_⟩
  · rw [← hW1, hrec]; exact run_enterLoop_outer _ _ _ _ _
  · simp only [resolve, hg]
    simp [go_sem]
  · intro f' hf'; simp [Target.leads] at hf'; subst hf'; exact hFg
  · simp [invoke, go_sem, eg]
  · refine (hit (w.heap.size + 1)
      (fun pre W => I pre W ∧ W.heap[w.heap.size + 1]? = some (.loop (rec .ready none)) ∧ W.heap[w.heap.size]? = some (.deferred (some [])))
      (fun pre W => ∃ c, Ix c pre W ∧ W.heap[w.heap.size + 1]? = some (.loop (rec .done (some c))) ∧ W.heap[w.heap.size]? = some (.deferred (some [])))
      (fun pre W W' hJ hf => ⟨sI _ _ _ hJ.1 (hf.bk _), hf.at hJ.2.1 (by simp), hf.at hJ.2.2 (by simp)⟩)
      (fun pre W W' ⟨c, hJ⟩ hf => ⟨c, sIx _ _ _ _ hJ.1 (hf.bk _), hf.at hJ.2.1 (by simp), hf.at hJ.2.2 (by simp)⟩)
      (fun pre W hJ => hR _ _ hJ.1) ?_ W1 ⟨hI1, hL1, hK1⟩).mono ?_
    · rintro pre x rest W hxs ⟨hi, hl, hk⟩
      have hy := run_yield (P := P) (args := encs x) hl (by rw [hrec]; exact hps x)
      rw [hrec] at hy
      refine ⟨fn, _, assign, body, hy, roundIn_of_wpIn hfn (wpIn_mono (hround (w.heap.size + 1) pre x rest W hxs hi (by omega) ⟨_, hl⟩) ?_)⟩
      intro e a' W' hp
      cases e with
      | normal =>
        obtain ⟨hkb, hb⟩ := hp
        have hl' := hkb _ _ hl rfl
        have hk' := hkb _ _ hk rfl
        have hlt : w.heap.size + 1 < W'.heap.size := lt_of_block hl'
        refine ⟨_, run_beginRound hl' (by rw [hrec]), ?_⟩
        have hl2 : (W'.putObj (w.heap.size + 1) (.loop { rec .ready none with state := .busy })).heap[w.heap.size + 1]? = some (.loop { rec .ready none with state := .busy }) := World.putObj_heap_same hlt
        have hk2 : (W'.putObj (w.heap.size + 1) (.loop { rec .ready none with state := .busy })).heap[w.heap.size]? = some (.deferred (some [])) := (World.putObj_heap_other (by omega)).trans hk'
        refine wpIn_mono (hb _ (Bk.putObj W' _ hl' rfl (by omega)) ⟨_, hl2⟩) ?_
        have fin : ∀ (jump : Option Code) (W3 : World), KB (W'.putObj (w.heap.size + 1) (.loop { rec .ready none with state := .busy })) W3 →
            (Instr.endRound (w.heap.size + 1) jump).run P W3 = .ok (.bool jump.isNone) (W3.putObj (w.heap.size + 1) (.loop (rec (if jump.isNone then .ready else .done) jump))) ∧
            Bk w.heap.size W3 (W3.putObj (w.heap.size + 1) (.loop (rec (if jump.isNone then .ready else .done) jump))) ∧
            (W3.putObj (w.heap.size + 1) (.loop (rec (if jump.isNone then .ready else .done) jump))).heap[w.heap.size + 1]? = some (.loop (rec (if jump.isNone then .ready else .done) jump)) ∧
            (W3.putObj (w.heap.size + 1) (.loop (rec (if jump.isNone then .ready else .done) jump))).heap[w.heap.size]? = some (.deferred (some [])) := fun jump W3 hk3 => by
          have hl3 := hk3 _ _ hl2 rfl
          have := run_endRound (P := P) jump hl3
          rw [hrec] at this ⊢
          exact ⟨this, Bk.putObj W3 _ hl3 rfl (by omega), World.putObj_heap_same (lt_of_block hl3), (World.putObj_heap_other (by omega)).trans (hk3 _ _ hk2 rfl)⟩
        rintro e a3 W3 hp
        cases e with
        | normal =>
          obtain ⟨hk3, hi3⟩ := hp
          obtain ⟨hr, hb3, hl4, hk4⟩ := fin none W3 hk3
          exact ⟨_, _, hr, .inl ⟨rfl, sI _ _ _ hi3 hb3, hl4, hk4⟩⟩
        | ret =>
          obtain ⟨hk3, hi3⟩ := hp
          obtain ⟨hr, hb3, hl4, hk4⟩ := fin (some .ret) W3 hk3
          exact ⟨_, _, hr, .inr ⟨rfl, .ret, sIx _ _ _ _ hi3 hb3, hl4, hk4⟩⟩
        | exit id =>
          obtain ⟨hk3, hi3⟩ := hp
          obtain ⟨hr, hb3, hl4, hk4⟩ := fin (some (.exit id)) W3 hk3
          exact ⟨_, _, hr, .inr ⟨rfl, .exit id, sIx _ _ _ _ hi3 hb3, hl4, hk4⟩⟩
        | goto t =>
          obtain ⟨hk3, hi3⟩ := hp
          obtain ⟨hr, hb3, hl4, hk4⟩ := fin (some (.goto t)) W3 hk3
          exact ⟨_, _, hr, .inr ⟨rfl, .goto t, sIx _ _ _ _ hi3 hb3, hl4, hk4⟩⟩
        | panic ch => exact hp.elim
        | outgrown => exact hp.elim
      | ret => exact hp.elim
      | exit id => exact hp.elim
      | goto t => exact hp.elim
      | panic ch => exact hp.elim
      | outgrown => exact hp.elim
    · rintro e W2 ⟨⟨v, rfl⟩, (⟨hi, hl, hk⟩ | ⟨pre, x, rest, hxs, c, hi, hl, hk⟩)⟩
      · exact ⟨none, _, by have := run_endLoop (P := P) hl (by rw [hrec]; simp); rw [hrec] at this; exact this, hdone _ _ (Nat.le_refl _) (sI _ _ _ hi (by rw [hrec] at hl; exact Bk.putObj W2 _ hl rfl (by omega))) ((World.putObj_heap_other (by omega)).trans hk)⟩
      · exact ⟨some c, _, by have := run_endLoop (P := P) hl (by rw [hrec]; simp); rw [hrec] at this; exact this, hstop _ c pre x rest _ hxs (Nat.le_refl _) (sIx _ _ _ _ hi (by rw [hrec] at hl; exact Bk.putObj W2 _ hl rfl (by omega))) ((World.putObj_heap_other (by omega)).trans hk)⟩
/-- the same, met in a plain walk -/
theorem wp_rangeList {α : Type} {g : Operand} {ps : Array Tmp} {assign body : Code} {Q : Exit → Act → World → Prop} {a : Act} {w : World}
    {gf : Nat} {lb : Array Value} (hg : a.eval g = .func (.func gf) #[] lb) (eg : ∀ args w, (callFunc gf args).run P w = .ok (.enter gf args) w)
    {encs : α → Array Value} {R : World → Prop} {xs : List α} (hit : Iter Fence.wide 2 P gf lb encs R xs) (hps : ∀ x, (encs x).size = ps.size)
    (I : List α → World → Prop) (Ix : Code → List α → World → Prop) (sI : ∀ s W W', I s W → Bk w.heap.size W W' → I s W') (sIx : ∀ c s W W', Ix c s W → Bk w.heap.size W W' → Ix c s W')
    (hR : ∀ s W, I s W → R W) (h0 : I [] w)
    (hround : ∀ (l : Nat) (pre : List α) (x : α) (rest : List α) (W : World), xs = pre ++ x :: rest → I pre W → w.heap.size ≤ l → (∃ r, W.heap[l]? = some (.loop r)) →
      assign.wpIn (Fence.wide.inRound l) 1 P (Exit.then (fun a' W' => KB W W' ∧ ∀ W2, Bk w.heap.size W' W2 → (∃ r, W2.heap[l]? = some (.loop r)) → body.wpIn (Fence.wide.inRound l) 1 P (roundEnd I Ix (pre ++ [x]) W2) a' W2) (fun _ _ _ => False))
        { tmps := (ps.zip (encs x)).foldl (fun t (p, v) => t.setIfInBounds p v) a.tmps, defers := [] } W)
    (hdone : ∀ (D : Nat) (W : World), w.heap.size ≤ D → I xs W → W.heap[D]? = some (.deferred (some [])) → Q .normal { a with defers := { target := .collected D, args := #[] } :: a.defers } W)
    (hstop : ∀ (D : Nat) (c : Code) (pre : List α) (x : α) (rest : List α) (W : World), xs = pre ++ x :: rest → w.heap.size ≤ D → Ix c (pre ++ [x]) W → W.heap[D]? = some (.deferred (some [])) → c.wp P Q { a with defers := { target := .collected D, args := #[] } :: a.defers } W) :
    (Code.rangeFunc g ps assign body).wp P Q a w :=
  wpIn_wide.1 (wpIn_rangeList (F := Fence.wide) (n := 3) rfl (by omega) hg trivial eg hit hps I Ix sI sIx hR h0 hround hdone (fun D c pre x rest W h1 h2 h3 h4 => wpIn_wide.2 (hstop D c pre x rest W h1 h2 h3 h4)))
/-- a function that holds such loops, from a plain walk -/
theorem calls_of_marks {f : FuncId} {fn : Func} {c : Code} {args : Array Value} {w : World} {R : Ending → World → Prop} (hf : P.funcs[f]? = some fn) (hb : fn.body = some c)
    (h : c.wp P (bodyPostM Fence.wide 3 P fn R) { tmps := args ++ Array.replicate (fn.ntmps - args.size) undef, defers := [] } w) : Calls P f args w R :=
  callsIn_wide.1 (callsIn_of_wp_marks hf hb trivial (wpIn_wide.2 h) rfl)
theorem Frm.putObj (w : World) (l : Nat) (o : Obj) : Frm [l] w (w.putObj l o) :=
  ⟨rfl, rfl, rfl, by simp [World.putObj], fun k _ hn => World.putObj_heap_other (by simpa using hn)⟩
/-- a function's end, behind one loop: its mark is taken -/
theorem leaves_mark {fn : Func} {tmps : Array Value} {R : Ending → World → Prop} {D : Nat} {w : World} (hK : w.heap[D]? = some (.deferred (some [])))
    (h : ∃ v, (results fn tmps).run P (w.putObj D (.deferred none)) = .ok v (w.putObj D (.deferred none)) ∧ R (.returned v) (w.putObj D (.deferred none))) :
    LeavesInM Fence.wide 3 P fn tmps R [{ target := .collected D, args := #[] }] .returning w :=
  ⟨by simp, .inl ⟨_, _, rfl, run_takeDeferred hK, h⟩⟩
theorem run_equalIn_func (w : World) (d : Nat) (t : TypeId) (ps rs : Array TypeId) (v : Bool) (f : Nat) (lb : Array Value) (hu : P.underlying t = some (.func ps rs v)) :
    (Op.equalIn (d + 1) t (.func (.func f) #[] lb) .nilFunc).run P w = .ok false w := by
  simp [Op.equalIn, run_underlying hu]
/-- a function held against nil -/
theorem run_eql_func (w : World) (t : TypeId) (ps rs : Array TypeId) (v : Bool) (f : Nat) (lb : Array Value) (hu : P.underlying t = some (.func ps rs v)) :
    (binOp .eql t (.func (.func f) #[] lb) .nilFunc).run P w = .ok (.bool false) w := by
  simp only [binOp]
  simp [show Op.equal t (.func (.func f) #[] lb) .nilFunc = Op.equalIn (9999 + 1) t (.func (.func f) #[] lb) .nilFunc from rfl, run_equalIn_func w 9999 t ps rs v f lb hu]
end Go.Proofs.YtkphhjekfimmlaaGreat
namespace Go.Proofs.YtkphhjekfimmlaaGreat
open Go.RowKit Go.BigFrame

def cnIx (l : List (CtrD × Int)) (n : ByteArray) : Int := ixf (fun c => decide (c.1.name = n)) l
abbrev stpV (t : StpD) : Value := .agg #[.string t.frm, .string t.to, .int .i64 t.kind, .string t.msg, .string t.peer, .string t.ctr, .int .i64 t.low, .int .i64 t.high, .int .i64 t.add]
theorem bNone_any (bb : Nat) (l : List (CtrD × Int)) (w : World) (h : Bnk w bb l) : Calls Tryz.prog 124 #[.pointer (some ⟨bb, 0, none⟩)] w (Ret (.bool false) (w = ·)) := by
  obtain ⟨lv, h1, -⟩ := h
  have c0 := cell_of h1 0
  clear h1
  go_enter Tryz.func124, Tryz.ntmps124
  go_wp2
  go_ret
  exact ⟨rfl, rfl⟩
set_option maxHeartbeats 1000000 in
theorem bFind1_any (c : Nat) (n : ByteArray) (x : CtrD × Int) (w : World) (h : w.cell? ⟨c, 0, none⟩ = some (.string n)) : Calls Tryz.prog 161 #[.agg #[.string x.1.name, .int .i64 x.1.lim, .int .i64 x.2], .pointer (some ⟨c, 0, none⟩)] w (Ret (.bool (decide (x.1.name = n))) (Frm [] w)) := by
  rw [← str_beq]
  have hlt := cell_lt h
  go_enter Tryz.func161, Tryz.ntmps161
  go_wp2
  go_ret
  exact ⟨rfl, (Frm.refl _ _).alloc _⟩
theorem Tryz.call_bFind1 (args : Array Value) (w : World) : (callFunc 161 args).run Tryz.prog w = .ok (.enter 161 args) w := by kernel_rfl
set_option maxHeartbeats 1000000 in
theorem bFind_any (bb : Nat) (l : List (CtrD × Int)) (n : ByteArray) (w : World) (h : Bnk w bb l) (hl : l.length ≤ 1000) : Calls Tryz.prog 123 #[.pointer (some ⟨bb, 0, none⟩), .string n] w (Ret (.int .i64 (cnIx l n)) (Frm [] w)) := by
  obtain ⟨lv, h1, h2⟩ := h
  have c1 := cell_of h1 1
  have C1 : Hid (∀ W, Frm [] w W → W.cell? ⟨w.heap.size, 0, none⟩ = some (.string n) → Calls Tryz.prog 160 #[lv, .func (.func 161) #[] #[.pointer (some ⟨w.heap.size, 0, none⟩)]] W (Ret (.int .i64 (cnIx l n)) (Frm [] W))) :=
    Lib.hid fun W hf hc => ifCnt_any 161 #[.pointer (some ⟨w.heap.size, 0, none⟩)] (fun s => decide (s.1.name = n)) lv l W (h2.frm fun _ _ _ h => h.frm hf) hl Tryz.call_bFind1 (fun V x hV _ => bFind1_any _ n x V (hV.keep hc))
  have hlt := cell_lt c1
  clear h1 h2
  go_enter Tryz.func123, Tryz.ntmps123
  go_wp2_with (go_at_call 160; go_must (refine (C1.out _ ((Frm.refl [] w).alloc _) (cell_of (alloc_top (by simp)) 0)).mono ?_; rintro e w1 ⟨rfl, hf1⟩; have HF1 := Lib.hid hf1; clear hf1))
  go_ret
  exact ⟨rfl, ((Frm.refl [] w).alloc _).trans HF1.out⟩
theorem Arr.at {α : Type} {k : Nat} {At : World → Nat → Nat → α → Prop} {w : World} {v : Value} {xs : List α} (h : Arr k At w v xs) {i : Nat} {x : α} (hx : xs[i]? = some x) : ∃ b o cap, v = .slice (some ⟨b, o, none⟩) xs.length cap ∧ At w b (o + i * k) x := by
  obtain ⟨ao, cap, rfl, h⟩ := h
  obtain ⟨b, o, rfl, ha⟩ := h i x hx
  exact ⟨b, o, cap, rfl, ha⟩
theorem Arr.get {α : Type} {k : Nat} {At : World → Nat → Nat → α → Prop} {w : World} {ao : Option Addr} {n cap : Nat} {xs : List α} (h : Arr k At w (.slice ao n cap) xs) {i : Nat} {x : α} (hx : xs[i]? = some x) : ∃ b o, ao = some ⟨b, o, none⟩ ∧ At w b (o + i * k) x := by
  obtain ⟨ao', cap', e, h⟩ := h
  cases e
  exact h i x hx
set_option maxHeartbeats 1000000 in
theorem bGet_ok (bb : Nat) (l : List (CtrD × Int)) (n : ByteArray) (k : Nat) (x : CtrD × Int) (w : World) (h : Bnk w bb l) (hl : l.length ≤ 1000) (hk : cnIx l n = k) (hx : l[k]? = some x) :
    Calls Tryz.prog 106 #[.pointer (some ⟨bb, 0, none⟩), .string n] w (Ret (.tuple #[.int .i64 x.2, .int .i64 0]) (Frm [] w)) := by
  have CN := Lib.hid (bNone_any bb l w h)
  have CF := Lib.hid (bFind_any bb l n w h hl)
  rw [hk] at CF
  obtain ⟨lv, h1, h2⟩ := h
  obtain ⟨b, o, cap, rfl, g0, g1, g2⟩ := h2.at hx
  have hkl : (k : Int) < (l.length : Int) := by have := lt_of_some hx; omega
  have HC : Hid (∀ W, Frm [] w W → W.cell? ⟨bb, 1, none⟩ = some (.slice (some ⟨b, o, none⟩) l.length cap) ∧ W.cell? ⟨b, o + k * 3 + 2, none⟩ = some (.int .i64 x.2)) := Lib.hid fun W hf => ⟨hf.keep (cell_of h1 1), hf.keep g2⟩
  obtain ⟨m, hm⟩ : ∃ m, l.length = m := ⟨_, rfl⟩
  rw [hm] at HC hkl hl
  clear h1 h2 g0 g1 g2 hk hx hm
  go_enter Tryz.func106, Tryz.ntmps106
  go_wp2_with (first
    | (go_at_call 124; go_must (refine CN.out.mono ?_; rintro e w' ⟨rfl, rfl⟩))
    | (go_at_call 123; go_must (refine CF.out.mono ?_; rintro e w1 ⟨rfl, hf1⟩; obtain ⟨c1, c2⟩ := HC.out _ hf1; have HF1 := Lib.hid hf1; clear hf1)))
  go_ret2
  exact ⟨rfl, HF1.out⟩
set_option maxHeartbeats 1000000 in
theorem bGet_no (bb : Nat) (l : List (CtrD × Int)) (n : ByteArray) (w : World) (h : Bnk w bb l) (hl : l.length ≤ 1000) (hk : cnIx l n < 0) :
    Calls Tryz.prog 106 #[.pointer (some ⟨bb, 0, none⟩), .string n] w (Ret (.tuple #[.int .i64 0, .int .i64 9]) (Frm [] w)) := by
  have CN := Lib.hid (bNone_any bb l w h)
  have CF := Lib.hid (bFind_any bb l n w h hl)
  obtain ⟨q, hq⟩ : ∃ q, cnIx l n = q := ⟨_, rfl⟩
  rw [hq] at CF hk
  clear h hl hq
  go_enter Tryz.func106, Tryz.ntmps106
  go_wp2_with (first
    | (go_at_call 124; go_must (refine CN.out.mono ?_; rintro e w' ⟨rfl, rfl⟩))
    | (go_at_call 123; go_must (refine CF.out.mono ?_; rintro e w1 ⟨rfl, hf1⟩; have HF1 := Lib.hid hf1; clear hf1)))
  go_ret2
  exact ⟨rfl, HF1.out⟩
set_option maxHeartbeats 1000000 in
theorem bAllows_any (lim v : Int) (t : StpD) (w : World) (hl : 0 ≤ lim ∧ lim ≤ 1000) (hv : 0 ≤ v ∧ v ≤ 1000) : Calls Tryz.prog 167 #[.int .i64 lim, stpV t, .int .i64 v] w (Ret (.bool (allowsV lim t v)) (Frm [] w)) := by
  have w1 : IntKind.i64.wrap (-v) = -v := by simp [IntKind.wrap, show IntKind.i64.bits = 64 from rfl, show IntKind.i64.signed = true from rfl]; omega
  have w2 : IntKind.i64.wrap (lim - v) = lim - v := by simp [IntKind.wrap, show IntKind.i64.bits = 64 from rfl, show IntKind.i64.signed = true from rfl]; omega
  unfold allowsV
  clear hl hv
  by_cases h1 : t.low ≤ v
  · by_cases h2 : v ≤ t.high
    · by_cases h3 : -v ≤ t.add
      · rw [decide_eq_true h1, decide_eq_true h2, decide_eq_true h3]
        go_enter Tryz.func167, Tryz.ntmps167
        go_wp2
        go_ret
        exact ⟨rfl, (Frm.refl _ _).alloc _⟩
      · rw [decide_eq_true h1, decide_eq_true h2, decide_eq_false h3]
        go_enter Tryz.func167, Tryz.ntmps167
        go_wp2
        go_ret
        exact ⟨rfl, (Frm.refl _ _).alloc _⟩
    · rw [decide_eq_true h1, decide_eq_false h2]
      go_enter Tryz.func167, Tryz.ntmps167
      go_wp2
      go_ret
      exact ⟨rfl, (Frm.refl _ _).alloc _⟩
  · rw [decide_eq_false h1]
    go_enter Tryz.func167, Tryz.ntmps167
    go_wp2
    go_ret
    exact ⟨rfl, (Frm.refl _ _).alloc _⟩
end Go.Proofs.YtkphhjekfimmlaaGreat
namespace Go.Proofs.YtkphhjekfimmlaaGreat
open Go.RowKit Go.BigFrame

theorem emp_yes {b : ByteArray} (h : b = emptyS) : b.toList.isEmpty = true := by
  have := str_beq b { data := #[] }
  rw [decide_eq_true (show b = { data := #[] } from h)] at this
  simpa using this
theorem emp_no {b : ByteArray} (h : b ≠ emptyS) : b.toList.isEmpty = false := by
  have := str_beq b { data := #[] }
  rw [decide_eq_false (show ¬ b = { data := #[] } from h)] at this
  simpa using this
/-- whether the counters allow a step -/
def okB (l : List (CtrD × Int)) (t : StpD) : Bool :=
  if t.ctr = emptyS then true else match l[(cnIx l t.ctr).toNat]? with | none => false | some c => allowsV c.1.lim t c.2
/-- the counters behind a step -/
def doC (l : List (CtrD × Int)) (t : StpD) : List (CtrD × Int) :=
  if t.ctr = emptyS then l else match l[(cnIx l t.ctr).toNat]? with | none => l | some c => l.set (cnIx l t.ctr).toNat (c.1, c.2 + t.add)
/-- what holds of counters -/
def CnOk (l : List (CtrD × Int)) : Prop := l.length ≤ 4 ∧ ∀ c ∈ l, 1 ≤ c.1.lim ∧ c.1.lim ≤ 1000 ∧ 0 ≤ c.2 ∧ c.2 ≤ c.1.lim
set_option maxHeartbeats 2000000 in
set_option maxRecDepth 100000 in
theorem bAllowed_none (bb : Nat) (l : List (CtrD × Int)) (t : StpD) (w : World) (h : Bnk w bb l) (he : t.ctr = emptyS) :
    Calls Tryz.prog 138 #[.pointer (some ⟨bb, 0, none⟩), stpV t] w (Ret (.tuple #[.bool true, .int .i64 0]) (Frm [] w)) := by
  have CN : Hid (∀ V, Frm [] w V → Calls Tryz.prog 124 #[.pointer (some ⟨bb, 0, none⟩)] V (Ret (.bool false) (V = ·))) := Lib.hid fun V hV => bNone_any bb l V (h.frm hV)
  have hq : t.ctr.toList.isEmpty = true := emp_yes he
  have hlt : bb < w.heap.size := by obtain ⟨lv, h1, -⟩ := h; exact lt_of_block h1
  clear h he
  go_enter Tryz.func138, Tryz.ntmps138
  go_wp2_with (first
    | (go_at_call 124; go_must (refine (CN.out _ ((Frm.refl [] w).alloc _)).mono ?_; rintro e w' ⟨rfl, rfl⟩)))
  go_ret2
  exact ⟨rfl, (Frm.refl [] w).alloc _⟩
set_option maxHeartbeats 2000000 in
set_option maxRecDepth 100000 in
theorem bAllowed_at (bb : Nat) (l : List (CtrD × Int)) (t : StpD) (k : Nat) (x : CtrD × Int) (w : World) (h : Bnk w bb l) (hok : CnOk l) (hne : t.ctr ≠ emptyS) (hk : cnIx l t.ctr = k) (hx : l[k]? = some x) :
    Calls Tryz.prog 138 #[.pointer (some ⟨bb, 0, none⟩), stpV t] w (Ret (.tuple #[.bool (allowsV x.1.lim t x.2), .int .i64 0]) (Frm [] w)) := by
  have CN : Hid (∀ V, Frm [] w V → Calls Tryz.prog 124 #[.pointer (some ⟨bb, 0, none⟩)] V (Ret (.bool false) (V = ·))) := Lib.hid fun V hV => bNone_any bb l V (h.frm hV)
  have CG : Hid (∀ V, Frm [] w V → Calls Tryz.prog 106 #[.pointer (some ⟨bb, 0, none⟩), .string t.ctr] V (Ret (.tuple #[.int .i64 x.2, .int .i64 0]) (Frm [] V))) := Lib.hid fun V hV => bGet_ok bb l t.ctr k x V (h.frm hV) (by have := hok.1; omega) hk hx
  have CF : Hid (∀ V, Frm [] w V → Calls Tryz.prog 123 #[.pointer (some ⟨bb, 0, none⟩), .string t.ctr] V (Ret (.int .i64 (k : Int)) (Frm [] V))) := Lib.hid fun V hV => by rw [← hk]; exact bFind_any bb l t.ctr V (h.frm hV) (by have := hok.1; omega)
  have hb := hok.2 x (List.mem_of_getElem? hx)
  have CA := Lib.hid (fun V => bAllows_any x.1.lim x.2 t V (by omega) (by omega))
  have hq : t.ctr.toList.isEmpty = false := emp_no hne
  obtain ⟨lv, h1, h2⟩ := h
  obtain ⟨b, o, cap, rfl, g0, g1, g2⟩ := h2.at hx
  have hlt : bb < w.heap.size := lt_of_block h1
  have hlt2 := cell_lt g0
  have hkl : (k : Int) < (l.length : Int) := by have := lt_of_some hx; omega
  obtain ⟨m, hm⟩ : ∃ m, l.length = m := ⟨_, rfl⟩
  obtain ⟨r, hr⟩ : ∃ r, allowsV x.1.lim t x.2 = r := ⟨_, rfl⟩
  rw [hr] at CA ⊢
  rw [hm] at h1 hkl
  have HC : Hid (∀ W, Frm [] w W → W.cell? ⟨bb, 1, none⟩ = some (.slice (some ⟨b, o, none⟩) m cap) ∧ W.cell? ⟨b, o + k * 3 + 1, none⟩ = some (.int .i64 x.1.lim)) := Lib.hid fun W hf => ⟨hf.keep (cell_of h1 1), hf.keep g1⟩
  have HT : Hid (∀ W, Frm [] (w.alloc (.cells #[.string t.frm, .string t.to, .int .i64 t.kind, .string t.msg, .string t.peer, .string t.ctr, .int .i64 t.low, .int .i64 t.high, .int .i64 t.add] 60)) W → W.heap[w.heap.size]? = some (.cells #[.string t.frm, .string t.to, .int .i64 t.kind, .string t.msg, .string t.peer, .string t.ctr, .int .i64 t.low, .int .i64 t.high, .int .i64 t.add] 60 (0, 0))) := Lib.hid fun W hf => hf.at (heap_alloc_new w _) (by simp)
  have HF0 : Hid (Frm [] w (w.alloc (.cells #[.string t.frm, .string t.to, .int .i64 t.kind, .string t.msg, .string t.peer, .string t.ctr, .int .i64 t.low, .int .i64 t.high, .int .i64 t.add] 60))) := Lib.hid ((Frm.refl [] w).alloc _)
  have HA : Hid (∀ W, Frm [] (w.alloc (.cells #[.string t.frm, .string t.to, .int .i64 t.kind, .string t.msg, .string t.peer, .string t.ctr, .int .i64 t.low, .int .i64 t.high, .int .i64 t.add] 60)) W → W.cell? ⟨w.heap.size, 5, none⟩ = some (.string t.ctr)) := Lib.hid fun W hf => cell_of (HT.out W hf) 5
  clear h1 h2 g0 g1 g2 hk hx hm hr hok hne hb
  go_enter Tryz.func138, Tryz.ntmps138
  go_upto_region 8 with (first
    | (go_at_call 124; go_must (refine (CN.out _ HF0.out).mono ?_; rintro e w' ⟨rfl, rfl⟩))
    | (go_at_call 106; go_must (refine (CG.out _ HF0.out).mono ?_; rintro e w1 ⟨rfl, hf1⟩; have HF1 := Lib.hid hf1; clear hf1)))
  have HG : Hid (Frm [] w w1) := Lib.hid (HF0.out.trans HF1.out)
  have HT1 := Lib.hid (HT.out _ HF1.out)
  refine wp_region_cq (by kernel_rfl) (by kernel_rfl) ?_
  repeat (first
    | go_big_quiet_skip
    | (refine wpQuiet_want (by rfl) (fun K hK => ?_)
       first
        | (refine quiet_move _ (by rfl) (hK _ ?_))
        | (refine quiet_assign _ (by rfl) (hK _ ?_))
        | (refine cq_call (.int .i64 (k : Int)) 123 #[.pointer (some ⟨bb, 0, none⟩), .string t.ctr] (fun w' hC => ?_) (fun w' hC => Ret.cq (CF.out w' (HG.out.trans hC)) (fun w'' h => hC.trans h)) (hK _ ?_)
           · go_simp)
        | (refine cq_call (.bool r) 167 #[.int .i64 x.1.lim, stpV t, .int .i64 x.2] (fun w' hC => ?_) (fun w' hC => Ret.cq (CA.out w') (fun w'' h => hC.trans h)) (hK _ ?_)
           · go_simp)
        | (refine cq_row 60 _ rfl w.heap.size rfl #[.string t.frm, .string t.to, .int .i64 t.kind, .string t.msg, .string t.peer, .string t.ctr, .int .i64 t.low, .int .i64 t.high, .int .i64 t.add] 60 HT1.out _ Tryz.underlying60 rfl (by kernel_rfl) (hK _ ?_))
        | (apply Exists.intro
           refine ⟨fun w' hC => ?_, hK _ ?_⟩
           · (unfold Oper.quietAt
              obtain ⟨d1, d2⟩ := HC.out w' (HG.out.trans hC); have d3 := HA.out w' (HF1.out.trans hC)
              clear hC
              go_simp
              try exact ⟨rfl, rfl⟩
              try rfl))
       clear hK K
       try simp only [Act.put, List.setIfInBounds_toArray, List.set_cons_zero, List.set_cons_succ, Act.eval, Array.getD_eq_getD_getElem?, List.getElem?_toArray, List.getElem?_cons_zero, List.getElem?_cons_succ, Option.getD_some]))
  refine wpQuiet_nil ?_
  intro w2 hf2
  go_wp2
  go_ret2
  exact ⟨rfl, HG.out.trans hf2⟩
/-- a bank of its own: block bb, its row at block g -/
structure BnkO (w : World) (bb g : Nat) (l : List (CtrD × Int)) : Prop where
  bnk : Bnk w bb l
  row : l = [] ∨ ∃ cap cur, w.heap[bb]? = some (.cells #[.bool true, .slice (some ⟨g, 0, none⟩) l.length cap] 232 (0, 0)) ∧ w.heap[g]? = some (.cells cur 234 (0, 0))
theorem BnkO.frm {w w' : World} {bb g : Nat} {l : List (CtrD × Int)} {F : List Nat} (h : BnkO w bb g l) (hf : Frm F w w') (h1 : bb ∉ F) (h2 : g ∉ F) : BnkO w' bb g l := by
  obtain ⟨⟨lv, k1, k2⟩, h3⟩ := h
  rcases h3 with rfl | ⟨cap, cur, k3, k4⟩
  · obtain ⟨ao, c, rfl, -⟩ := k2
    exact ⟨⟨_, hf.at k1 h1, Arr.nil _ _ _⟩, .inl rfl⟩
  · rw [k1] at k3
    cases k3
    refine ⟨⟨_, hf.at k1 h1, ?_⟩, .inr ⟨cap, cur, hf.at k1 h1, hf.at k4 h2⟩⟩
    obtain ⟨ao, c, e, hx⟩ := k2
    refine ⟨ao, c, e, fun i x hi => ?_⟩
    obtain ⟨b, o, e2, a0, a1, a2⟩ := hx i x hi
    rw [e2] at e
    cases e
    exact ⟨g, 0, e2, hf.cellAt a0 h2, hf.cellAt a1 h2, hf.cellAt a2 h2⟩
theorem own_block {w : World} {base e size n : Nat} {v : Value} {xs : List Value} (h : w.ownsRow base e size v n xs) (hn : n ≠ 0) : ∃ g cap cur, v = .slice (some ⟨g, 0, none⟩) n cap ∧ base ≤ g ∧ w.heap[g]? = some (.cells cur e (0, 0)) := by
  obtain ⟨-, h2⟩ := h
  rcases h2 with ⟨-, h2⟩ | ⟨g, cap, cur, rfl, hg, hb, -⟩
  · exact absurd h2 hn
  · exact ⟨g, cap, cur, rfl, hg, hb⟩
set_option maxHeartbeats 2000000 in
set_option maxRecDepth 100000 in
theorem bCopy_any (bb : Nat) (l : List (CtrD × Int)) (w : World) (h : Bnk w bb l) (hl : l.length ≤ 1000) :
    Calls Tryz.prog 65 #[.pointer (some ⟨bb, 0, none⟩)] w (RetV fun v w' => ∃ b' g, v = .pointer (some ⟨b', 0, none⟩) ∧ BnkO w' b' g l ∧ Frm [] w w' ∧ w.heap.size ≤ b' ∧ w.heap.size ≤ g) := by
  have CN := Lib.hid (bNone_any bb l w h)
  obtain ⟨lv, h1, h2⟩ := h
  have CC := Lib.hid (clCnt_any lv l w h2 (by omega))
  have c1 := cell_of h1 1
  clear h1 h2 hl
  go_enter Tryz.func65, Tryz.ntmps65
  go_wp2_with (first
    | (go_at_call 124; go_must (refine CN.out.mono ?_; rintro e w' ⟨rfl, rfl⟩))
    | (go_at_call 125; go_must (refine CC.out.mono ?_; rintro e w1 ⟨v, rfl, hr⟩; obtain ⟨ao, cq, rfl⟩ := hr.arr.shape; have HR := Lib.hid hr; clear hr)))
  go_ret
  have hr := HR.out
  have hb := heap_alloc_new w1 (.cells #[.bool true, .slice ao l.length cq] 232)
  have hs := hr.frm.size
  have ha : Arr 3 CnAt (w1.alloc (.cells #[.bool true, .slice ao l.length cq] 232)) (.slice ao l.length cq) l := hr.arr.frm fun _ _ _ h => h.frm ((Frm.refl [] _).alloc _)
  rcases hr.own with rfl | ⟨news, ho⟩
  · exact ⟨_, rfl, _, w1.heap.size, rfl, ⟨⟨_, hb, ha⟩, .inl rfl⟩, hr.frm.alloc _, hs, hs⟩
  · by_cases hn : l.length = 0
    · exact ⟨_, rfl, _, w1.heap.size, rfl, ⟨⟨_, hb, ha⟩, .inl (List.length_eq_zero_iff.1 hn)⟩, hr.frm.alloc _, hs, hs⟩
    · obtain ⟨g, cap, cur, e, hg, hc⟩ := own_block ho hn
      cases e
      exact ⟨_, rfl, _, g, rfl, ⟨⟨_, hb, ha⟩, .inr ⟨_, cur, hb, alloc_at hc⟩⟩, hr.frm.alloc _, hs, hg⟩
theorem set_cn {cur : Array Value} {l : List (CtrD × Int)} (h : ∀ (i : Nat) x, l[i]? = some x → cur[i * 3]? = some (.string x.1.name) ∧ cur[i * 3 + 1]? = some (.int .i64 x.1.lim) ∧ cur[i * 3 + 2]? = some (.int .i64 x.2)) {k : Nat} {x : CtrD × Int} (hk : l[k]? = some x) (v : Int) :
    ∀ (i : Nat) y, (l.set k (x.1, v))[i]? = some y → (cur.setIfInBounds (k * 3 + 2) (.int .i64 v))[i * 3]? = some (.string y.1.name) ∧ (cur.setIfInBounds (k * 3 + 2) (.int .i64 v))[i * 3 + 1]? = some (.int .i64 y.1.lim) ∧ (cur.setIfInBounds (k * 3 + 2) (.int .i64 v))[i * 3 + 2]? = some (.int .i64 y.2) := by
  intro i y hy
  rw [List.getElem?_set] at hy
  have h2 := (h k x hk)
  have hlt : k * 3 + 2 < cur.size := (Array.getElem?_eq_some_iff.1 h2.2.2).1
  rw [Array.getElem?_setIfInBounds_ne (by omega), Array.getElem?_setIfInBounds_ne (by omega)]
  by_cases e : k = i
  · subst e
    rw [if_pos rfl, if_pos (lt_of_some hk)] at hy
    cases hy
    exact ⟨h2.1, h2.2.1, Array.getElem?_setIfInBounds_self_of_lt hlt⟩
  · rw [if_neg e] at hy
    rw [Array.getElem?_setIfInBounds_ne (by omega)]
    exact h i y hy
theorem BnkO.set {w : World} {bb g : Nat} {l : List (CtrD × Int)} (h : BnkO w bb g l) {k : Nat} {x : CtrD × Int} (hk : l[k]? = some x) (v : Int) :
    bb ≠ g ∧ w.frozen? ⟨g, k * 3 + 2, none⟩ = false ∧ (∃ cap, w.cell? ⟨bb, 1, none⟩ = some (.slice (some ⟨g, 0, none⟩) l.length cap)) ∧ CnAt w g (k * 3) x ∧ BnkO (w.setCell ⟨g, k * 3 + 2, none⟩ (.int .i64 v)) bb g (l.set k (x.1, v)) ∧ Frm [g] w (w.setCell ⟨g, k * 3 + 2, none⟩ (.int .i64 v)) := by
  obtain ⟨⟨lv, k1, k2⟩, h3⟩ := h
  rcases h3 with rfl | ⟨cap, cur, k3, k4⟩
  · simp at hk
  · rw [k1] at k3
    cases k3
    have hne : bb ≠ g := fun e => by subst e; rw [k1] at k4; cases k4
    have hf : Frm [g] w (w.setCell ⟨g, k * 3 + 2, none⟩ (.int .i64 v)) := (Frm.refl [g] w).setCell _ (.inl (by simp)) _
    have hcur : ∀ (i : Nat) x, l[i]? = some x → cur[i * 3]? = some (.string x.1.name) ∧ cur[i * 3 + 1]? = some (.int .i64 x.1.lim) ∧ cur[i * 3 + 2]? = some (.int .i64 x.2) := by
      intro i x hi
      obtain ⟨b, o, c, e, a0, a1, a2⟩ := k2.at hi
      cases e
      rw [cell_of k4] at a0 a1 a2
      rw [Nat.zero_add] at a0 a1 a2
      exact ⟨a0, a1, a2⟩
    have hb := block_setCell k4 (k * 3 + 2) (.int .i64 v)
    have hcx := hcur k x hk
    have hb1 := hf.at k1 (by simpa using hne)
    refine ⟨hne, free_of k4 _, ⟨cap, cell_of k1 1⟩, ⟨?_, ?_, ?_⟩, ⟨⟨_, hb1, ⟨_, cap, by rw [List.length_set], fun i y hy => ⟨g, 0, rfl, ?_⟩⟩⟩, .inr ⟨cap, _, by rw [List.length_set]; exact hb1, hb⟩⟩, hf⟩
    · rw [cell_of k4]; exact hcx.1
    · rw [cell_of k4]; exact hcx.2.1
    · rw [cell_of k4]; exact hcx.2.2
    · have := set_cn hcur hk v i y hy
      unfold CnAt
      rw [cell_of hb, cell_of hb, cell_of hb, Nat.zero_add]
      exact this
set_option maxHeartbeats 2000000 in
set_option maxRecDepth 100000 in
theorem bApply_none (bb g : Nat) (l : List (CtrD × Int)) (t : StpD) (w : World) (h : BnkO w bb g l) (he : t.ctr = emptyS) :
    Calls Tryz.prog 78 #[.pointer (some ⟨bb, 0, none⟩), stpV t] w (Ret (.int .i64 0) fun w' => BnkO w' bb g l ∧ Frm [g] w w') := by
  have hq : t.ctr.toList.isEmpty = true := emp_yes he
  have HB := Lib.hid h
  have HF0 : Hid (Frm [] w (w.alloc (.cells #[.string t.frm, .string t.to, .int .i64 t.kind, .string t.msg, .string t.peer, .string t.ctr, .int .i64 t.low, .int .i64 t.high, .int .i64 t.add] 60))) := Lib.hid ((Frm.refl [] w).alloc _)
  have CA := Lib.hid (bAllowed_none bb l t _ (h.bnk.frm HF0.out) he)
  have h5 : Hid (∀ W, Frm [] (w.alloc (.cells #[.string t.frm, .string t.to, .int .i64 t.kind, .string t.msg, .string t.peer, .string t.ctr, .int .i64 t.low, .int .i64 t.high, .int .i64 t.add] 60)) W → W.cell? ⟨w.heap.size, 5, none⟩ = some (.string t.ctr)) := Lib.hid fun W hf => hf.keep (cell_of (heap_alloc_new w _) 5)
  clear h he
  go_enter Tryz.func78, Tryz.ntmps78
  go_wp2_with (first
    | (go_at_call 138; go_must (refine CA.out.mono ?_; rintro e w1 ⟨rfl, hf1⟩; have c5 := h5.out _ hf1; have HF1 := Lib.hid (HF0.out.trans hf1); clear hf1)))
  go_ret
  exact ⟨rfl, HB.out.frm HF1.out (by simp) (by simp), HF1.out.mono (by simp)⟩
set_option maxHeartbeats 2000000 in
set_option maxRecDepth 100000 in
theorem bApply_at (bb g : Nat) (l : List (CtrD × Int)) (t : StpD) (k : Nat) (x : CtrD × Int) (w : World) (h : BnkO w bb g l) (hok : CnOk l) (hne : t.ctr ≠ emptyS) (hk : cnIx l t.ctr = k) (hx : l[k]? = some x) (ha : allowsV x.1.lim t x.2 = true) :
    Calls Tryz.prog 78 #[.pointer (some ⟨bb, 0, none⟩), stpV t] w (Ret (.int .i64 0) fun w' => BnkO w' bb g (l.set k (x.1, x.2 + t.add)) ∧ Frm [g] w w') := by
  have hq : t.ctr.toList.isEmpty = false := emp_no hne
  have HB := Lib.hid h
  have HF0 : Hid (Frm [] w (w.alloc (.cells #[.string t.frm, .string t.to, .int .i64 t.kind, .string t.msg, .string t.peer, .string t.ctr, .int .i64 t.low, .int .i64 t.high, .int .i64 t.add] 60))) := Lib.hid ((Frm.refl [] w).alloc _)
  have CA := Lib.hid (bAllowed_at bb l t k x _ (h.bnk.frm HF0.out) hok hne hk hx)
  rw [ha] at CA
  have h5 : Hid (∀ W, Frm [] (w.alloc (.cells #[.string t.frm, .string t.to, .int .i64 t.kind, .string t.msg, .string t.peer, .string t.ctr, .int .i64 t.low, .int .i64 t.high, .int .i64 t.add] 60)) W → W.cell? ⟨w.heap.size, 5, none⟩ = some (.string t.ctr) ∧ W.cell? ⟨w.heap.size, 8, none⟩ = some (.int .i64 t.add)) := Lib.hid fun W hf => ⟨hf.keep (cell_of (heap_alloc_new w _) 5), hf.keep (cell_of (heap_alloc_new w _) 8)⟩
  have CF : Hid (∀ V, Frm [] w V → Calls Tryz.prog 123 #[.pointer (some ⟨bb, 0, none⟩), .string t.ctr] V (Ret (.int .i64 (k : Int)) (Frm [] V))) := Lib.hid fun V hV => by rw [← hk]; exact bFind_any bb l t.ctr V (h.bnk.frm hV) (by have := hok.1; omega)
  have hb := hok.2 x (List.mem_of_getElem? hx)
  have hwr : wrap64 (x.2 + t.add) = x.2 + t.add := by
    unfold allowsV at ha
    simp only [Bool.and_eq_true, decide_eq_true_eq] at ha
    unfold wrap64; omega
  have hkl : (k : Int) < (l.length : Int) := by have := lt_of_some hx; omega
  have HX := Lib.hid hx
  obtain ⟨m, hm⟩ : ∃ m, l.length = m := ⟨_, rfl⟩
  have HM := Lib.hid hm
  rw [hm] at hkl
  obtain ⟨-, -, ⟨cap, s1⟩, ⟨s2, s3, s4⟩, -, -⟩ := h.set hx 0
  have HS : Hid (∀ W, Frm [] w W → W.cell? ⟨bb, 1, none⟩ = some (.slice (some ⟨g, 0, none⟩) m cap) ∧ W.cell? ⟨g, k * 3 + 2, none⟩ = some (.int .i64 x.2)) := Lib.hid fun W hf => ⟨by rw [← hm]; exact hf.keep s1, hf.keep s4⟩
  clear h hok hne hk hx ha hb hm s1 s2 s3 s4
  go_enter Tryz.func78, Tryz.ntmps78
  go_upto_region 7 with (first
    | (go_at_call 138; go_must (refine CA.out.mono ?_; rintro e w1 ⟨rfl, hf1⟩; obtain ⟨c5, c8⟩ := h5.out _ hf1; have HF1 := Lib.hid (HF0.out.trans hf1); have HF2 := Lib.hid hf1; clear hf1)))
  clear c5 c8
  refine wp_region_cqt 16 (by kernel_rfl) (by kernel_rfl) ?_
  simp only [List.take_succ_cons, List.take_zero, List.drop_succ_cons, List.drop_zero]
  repeat (first
    | go_big_quiet_skip
    | (refine wpQuiet_want (by rfl) (fun K hK => ?_)
       first
        | (refine quiet_move _ (by rfl) (hK _ ?_))
        | (refine quiet_assign _ (by rfl) (hK _ ?_))
        | (refine cq_call (.int .i64 (k : Int)) 123 #[.pointer (some ⟨bb, 0, none⟩), .string t.ctr] (fun w' hC => ?_) (fun w' hC => Ret.cq (CF.out w' (HF1.out.trans hC)) (fun w'' h => hC.trans h)) (hK _ ?_)
           · go_simp)
        | (apply Exists.intro
           refine ⟨fun w' hC => ?_, hK _ ?_⟩
           · (unfold Oper.quietAt
              obtain ⟨d1, d2⟩ := HS.out w' (HF1.out.trans hC); obtain ⟨d3, d4⟩ := h5.out w' (HF2.out.trans hC)
              clear hC
              go_simp
              try exact ⟨rfl, rfl⟩
              try rfl))
       clear hK K
       try simp only [Act.put, List.setIfInBounds_toArray, List.set_cons_zero, List.set_cons_succ, Act.eval, Array.getD_eq_getD_getElem?, List.getElem?_toArray, List.getElem?_cons_zero, Option.getD_some]))
  refine wpQuiet_nil ?_
  intro w2 hf2
  obtain ⟨z1, z2, -, ⟨-, -, z3⟩, z4, z5⟩ := (HB.out.frm (HF1.out.trans hf2) (by simp) (by simp)).set HX.out (x.2 + t.add)
  have HZ := Lib.hid z4; have HZ5 := Lib.hid z5
  clear z1 z4 z5
  go_wp2
  go_ret
  refine ⟨rfl, ?_⟩
  rw [hwr]
  exact ⟨HZ.out, ((HF1.out.trans hf2).mono (by simp)).trans HZ5.out⟩
/-- whether a step's counter is there -/
def HasC (l : List (CtrD × Int)) (t : StpD) : Prop := t.ctr = emptyS ∨ ∃ (k : Nat) (x : CtrD × Int), cnIx l t.ctr = k ∧ l[k]? = some x
theorem bAllowed_any (bb : Nat) (l : List (CtrD × Int)) (t : StpD) (w : World) (h : Bnk w bb l) (hok : CnOk l) (hc : HasC l t) :
    Calls Tryz.prog 138 #[.pointer (some ⟨bb, 0, none⟩), stpV t] w (Ret (.tuple #[.bool (okB l t), .int .i64 0]) (Frm [] w)) := by
  by_cases he : t.ctr = emptyS
  · unfold okB
    rw [if_pos he]
    exact bAllowed_none bb l t w h he
  · rcases hc with hc | ⟨k, x, hk, hx⟩
    · exact absurd hc he
    · unfold okB
      rw [if_neg he, hk, Int.toNat_natCast, hx]
      exact bAllowed_at bb l t k x w h hok he hk hx
/-- behind Apply -/
structure ApTo (w : World) (bb g : Nat) (l : List (CtrD × Int)) (w' : World) : Prop where
  bnk : BnkO w' bb g l
  frm : Frm [g] w w'
theorem bApply_any (bb g : Nat) (l : List (CtrD × Int)) (t : StpD) (w : World) (h : BnkO w bb g l) (hok : CnOk l) (hc : HasC l t) (ho : okB l t = true) :
    Calls Tryz.prog 78 #[.pointer (some ⟨bb, 0, none⟩), stpV t] w (Ret (.int .i64 0) (ApTo w bb g (doC l t))) := by
  by_cases he : t.ctr = emptyS
  · unfold doC
    rw [if_pos he]
    exact (bApply_none bb g l t w h he).mono fun e w' ⟨h1, h2, h3⟩ => ⟨h1, h2, h3⟩
  · rcases hc with hc | ⟨k, x, hk, hx⟩
    · exact absurd hc he
    · unfold okB at ho
      unfold doC
      rw [if_neg he, hk, Int.toNat_natCast, hx] at ho ⊢
      exact (bApply_at bb g l t k x w h hok he hk hx ho).mono fun e w' ⟨h1, h2, h3⟩ => ⟨h1, h2, h3⟩
/-- a bank of its own that a copy has -/
structure CpTo (w : World) (l : List (CtrD × Int)) (b g : Nat) (w' : World) : Prop where
  bnk : BnkO w' b g l
  frm : Frm [] w w'
  b : w.heap.size ≤ b
  g : w.heap.size ≤ g
theorem bCopy_to (bb : Nat) (l : List (CtrD × Int)) (w : World) (h : Bnk w bb l) (hl : l.length ≤ 1000) : Calls Tryz.prog 65 #[.pointer (some ⟨bb, 0, none⟩)] w (RetV fun v w' => ∃ b g, v = .pointer (some ⟨b, 0, none⟩) ∧ CpTo w l b g w') :=
  (bCopy_any bb l w h hl).mono fun _ _ ⟨v, h1, b, g, h2, h3, h4, h5, h6⟩ => ⟨v, h1, b, g, h2, h3, h4, h5, h6⟩
section
variable {s : SesD} {x : PS}
theorem zip_at {cs : List CtrD} {vs : List Int} (hl : vs.length = cs.length) {k : Nat} {c : CtrD} (hc : cs[k]? = some c) : (cs.zip vs)[k]? = some (c, vs.getD k 0) := by
  rw [List.getElem?_zip_eq_some]
  exact ⟨hc, some_getD (by rw [hl]; exact lt_of_some hc)⟩
theorem cnIx_zip {cs : List CtrD} {vs : List Int} (hl : vs.length = cs.length) (n : ByteArray) : cnIx (cs.zip vs) n = ctrIx cs n := by
  unfold cnIx ctrIx
  induction cs generalizing vs with
  | nil => rfl
  | cons c cs ih =>
    cases vs with
    | nil => simp at hl
    | cons v vs =>
      rw [List.zip_cons_cons]
      unfold ixf
      rw [ih (by simpa using hl)]
theorem ctr_len (hx : PSok s x) {i : Nat} (hi : i < s.roles.length) : (x.ctr s i).length = (s.rol i).ctrs.length := by
  unfold PS.ctr
  rw [List.length_zip, (hx.vb i hi).1, Nat.min_self]
theorem ctr_ok (hs : SesOk s) (hx : PSok s x) {i : Nat} (hi : i < s.roles.length) : CnOk (x.ctr s i) := by
  refine ⟨by rw [ctr_len hx hi]; exact (hs.at hi).c4, ?_⟩
  rintro ⟨c, v⟩ hm
  obtain ⟨k, hk⟩ := List.getElem?_of_mem hm
  unfold PS.ctr at hk
  rw [List.getElem?_zip_eq_some] at hk
  have h1 := (hs.at hi).cN c (List.mem_of_getElem? hk.1)
  have h2 := (hx.vb i hi).2 k c hk.1
  rw [getD_some hk.2] at h2
  exact ⟨h1.2.1, h1.2.2, h2.1, h2.2⟩
theorem ctr_has (hs : SesOk s) (hx : PSok s x) {i k : Nat} (hi : i < s.roles.length) (hk : k < (s.rol i).steps.length) : HasC (x.ctr s i) ((s.rol i).stp k) := by
  by_cases he : ((s.rol i).stp k).ctr = emptyS
  · exact .inl he
  · obtain ⟨j, c, h1, h2, -⟩ := (hs.stp hi hk).ctr he
    refine .inr ⟨j, (c, (x.bank i).getD j 0), ?_, zip_at (hx.vb i hi).1 h2⟩
    unfold PS.ctr
    rw [cnIx_zip (hx.vb i hi).1, h1]
theorem okB_bank (hs : SesOk s) (hx : PSok s x) {i k : Nat} (hi : i < s.roles.length) (hk : k < (s.rol i).steps.length) : okB (x.ctr s i) ((s.rol i).stp k) = bankOk (s.rol i).ctrs (x.bank i) ((s.rol i).stp k) := by
  unfold okB bankOk
  by_cases he : ((s.rol i).stp k).ctr = emptyS
  · rw [if_pos he, if_pos he]
  · obtain ⟨j, c, h1, h2, -⟩ := (hs.stp hi hk).ctr he
    rw [if_neg he, if_neg he]
    unfold PS.ctr
    rw [cnIx_zip (hx.vb i hi).1, h1, Int.toNat_natCast, zip_at (hx.vb i hi).1 h2, getD_some h2, decide_eq_true (show (0 : Int) ≤ (j : Int) by omega)]
    rfl
theorem doC_bank (hs : SesOk s) (hx : PSok s x) {i k : Nat} (hi : i < s.roles.length) (hk : k < (s.rol i).steps.length) : doC (x.ctr s i) ((s.rol i).stp k) = (s.rol i).ctrs.zip (bankDo (s.rol i).ctrs (x.bank i) ((s.rol i).stp k)) := by
  unfold doC bankDo
  by_cases he : ((s.rol i).stp k).ctr = emptyS
  · rw [if_pos he, if_pos he]; rfl
  · obtain ⟨j, c, h1, h2, -⟩ := (hs.stp hi hk).ctr he
    rw [if_neg he, if_neg he]
    unfold PS.ctr
    rw [cnIx_zip (hx.vb i hi).1, h1, Int.toNat_natCast, zip_at (hx.vb i hi).1 h2]
    apply List.ext_getElem?
    intro q
    rw [List.getElem?_set]
    by_cases e : j = q
    · subst e
      rw [if_pos rfl, if_pos (lt_of_some (zip_at (hx.vb i hi).1 h2))]
      symm
      rw [List.getElem?_zip_eq_some]
      exact ⟨h2, by rw [List.getElem?_set, if_pos rfl, if_pos (by rw [(hx.vb i hi).1]; exact lt_of_some h2)]⟩
    · rw [if_neg e]
      rw [List.zip_eq_zipWith, List.zip_eq_zipWith, List.getElem?_zipWith, List.getElem?_zipWith, List.getElem?_set_ne e]
end
end Go.Proofs.YtkphhjekfimmlaaGreat
namespace Go.Proofs.YtkphhjekfimmlaaGreat
open Go.RowKit Go.BigFrame

set_option maxHeartbeats 1000000 in
theorem rState1_any (c : Nat) (n : ByteArray) (x : StD) (w : World) (h : w.cell? ⟨c, 0, none⟩ = some (.string n)) : Calls Tryz.prog 173 #[.agg #[.string x.name, .bool x.fin, .int .i64 x.wait], .pointer (some ⟨c, 0, none⟩)] w (Ret (.bool (decide (x.name = n))) (Frm [] w)) := by
  rw [← str_beq]
  have hlt := cell_lt h
  go_enter Tryz.func173, Tryz.ntmps173
  go_wp2
  go_ret
  exact ⟨rfl, (Frm.refl _ _).alloc _⟩
theorem Tryz.call_rState1 (args : Array Value) (w : World) : (callFunc 173 args).run Tryz.prog w = .ok (.enter 173 args) w := by kernel_rfl
set_option maxHeartbeats 1000000 in
theorem rState_any (v : Value) (r : RolD) (n : ByteArray) (w : World) (h : RlV w v r) (hl : r.sts.length ≤ 1000) : Calls Tryz.prog 154 #[v, .string n] w (Ret (.int .i64 (stIx r n)) (Frm [] w)) := by
  obtain ⟨sv, cv, tv, rfl, h3⟩ := h
  have C1 : Hid (∀ W, Frm [] w W → W.cell? ⟨w.heap.size + 1, 0, none⟩ = some (.string n) → Calls Tryz.prog 172 #[sv, .func (.func 173) #[] #[.pointer (some ⟨w.heap.size + 1, 0, none⟩)]] W (Ret (.int .i64 (stIx r n)) (Frm [] W))) := by
    refine Lib.hid fun W hf hc => ?_
    have C2 := Lib.hid (ifState_any 173 #[.pointer (some ⟨w.heap.size + 1, 0, none⟩)] (fun s => decide (s.name = n)) sv r.sts W ((h3.frm hf).sts) hl Tryz.call_rState1 (fun V x hV _ => rState1_any _ n x V (hV.keep hc)))
    go_enter Tryz.func172, Tryz.ntmps172
    go_wp2_with (go_at_call 139; go_must (refine C2.out.mono ?_; rintro e w1 ⟨rfl, hf1⟩; have HF1 := Lib.hid hf1; clear hf1))
    go_ret
    exact ⟨rfl, HF1.out⟩
  clear h3
  go_enter Tryz.func154, Tryz.ntmps154
  go_wp2_with (go_at_call 172; go_must (refine (C1.out _ (((Frm.refl [] w).alloc _).alloc _) (cell_of (alloc_top (by simp)) 0)).mono ?_; rintro e w1 ⟨rfl, hf1⟩; have HF1 := Lib.hid hf1; clear hf1))
  go_ret
  exact ⟨rfl, (((Frm.refl [] w).alloc _).alloc _).trans HF1.out⟩
set_option maxHeartbeats 1000000 in
theorem rCounter1_any (c : Nat) (n : ByteArray) (x : CtrD) (w : World) (h : w.cell? ⟨c, 0, none⟩ = some (.string n)) : Calls Tryz.prog 171 #[.agg #[.string x.name, .int .i64 x.lim], .pointer (some ⟨c, 0, none⟩)] w (Ret (.bool (decide (x.name = n))) (Frm [] w)) := by
  rw [← str_beq]
  have hlt := cell_lt h
  go_enter Tryz.func171, Tryz.ntmps171
  go_wp2
  go_ret
  exact ⟨rfl, (Frm.refl _ _).alloc _⟩
theorem Tryz.call_rCounter1 (args : Array Value) (w : World) : (callFunc 171 args).run Tryz.prog w = .ok (.enter 171 args) w := by kernel_rfl
set_option maxHeartbeats 1000000 in
theorem rCounter_any (v : Value) (r : RolD) (n : ByteArray) (w : World) (h : RlV w v r) (hl : r.ctrs.length ≤ 1000) : Calls Tryz.prog 152 #[v, .string n] w (Ret (.int .i64 (ctrIx r.ctrs n)) (Frm [] w)) := by
  obtain ⟨sv, cv, tv, rfl, h3⟩ := h
  have C1 : Hid (∀ W, Frm [] w W → W.cell? ⟨w.heap.size + 1, 0, none⟩ = some (.string n) → Calls Tryz.prog 170 #[cv, .func (.func 171) #[] #[.pointer (some ⟨w.heap.size + 1, 0, none⟩)]] W (Ret (.int .i64 (ctrIx r.ctrs n)) (Frm [] W))) := by
    refine Lib.hid fun W hf hc => ?_
    have C2 := Lib.hid (ifCtr_any 171 #[.pointer (some ⟨w.heap.size + 1, 0, none⟩)] (fun s => decide (s.name = n)) cv r.ctrs W ((h3.frm hf).ctrs) hl Tryz.call_rCounter1 (fun V x hV _ => rCounter1_any _ n x V (hV.keep hc)))
    go_enter Tryz.func170, Tryz.ntmps170
    go_wp2_with (go_at_call 186; go_must (refine C2.out.mono ?_; rintro e w1 ⟨rfl, hf1⟩; have HF1 := Lib.hid hf1; clear hf1))
    go_ret
    exact ⟨rfl, HF1.out⟩
  clear h3
  go_enter Tryz.func152, Tryz.ntmps152
  go_wp2_with (go_at_call 170; go_must (refine (C1.out _ (((Frm.refl [] w).alloc _).alloc _) (cell_of (alloc_top (by simp)) 0)).mono ?_; rintro e w1 ⟨rfl, hf1⟩; have HF1 := Lib.hid hf1; clear hf1))
  go_ret
  exact ⟨rfl, (((Frm.refl [] w).alloc _).alloc _).trans HF1.out⟩
set_option maxHeartbeats 1000000 in
theorem pPlace1_any (c : Nat) (n : ByteArray) (x : StD) (w : World) (h : w.cell? ⟨c, 0, none⟩ = some (.string n)) : Calls Tryz.prog 140 #[.agg #[.string x.name, .bool x.fin, .int .i64 x.wait], .pointer (some ⟨c, 0, none⟩)] w (Ret (.bool (decide (x.name = n))) (Frm [] w)) := by
  rw [← str_beq]
  have hlt := cell_lt h
  go_enter Tryz.func140, Tryz.ntmps140
  go_wp2
  go_ret
  exact ⟨rfl, (Frm.refl _ _).alloc _⟩
theorem Tryz.call_pPlace1 (args : Array Value) (w : World) : (callFunc 140 args).run Tryz.prog w = .ok (.enter 140 args) w := by kernel_rfl
set_option maxHeartbeats 1000000 in
theorem pPlace_any (v : Value) (r : RolD) (n : ByteArray) (w : World) (h : RlV w v r) (hl : r.sts.length ≤ 1000) : Calls Tryz.prog 79 #[v, .string n] w (Ret (.int .i64 (stIx r n)) (Frm [] w)) := by
  obtain ⟨sv, cv, tv, rfl, h3⟩ := h
  have C1 : Hid (∀ W, Frm [] w W → W.cell? ⟨w.heap.size + 1, 0, none⟩ = some (.string n) → Calls Tryz.prog 139 #[sv, .func (.func 140) #[] #[.pointer (some ⟨w.heap.size + 1, 0, none⟩)]] W (Ret (.int .i64 (stIx r n)) (Frm [] W))) :=
    Lib.hid fun W hf hc => ifState_any 140 #[.pointer (some ⟨w.heap.size + 1, 0, none⟩)] (fun s => decide (s.name = n)) sv r.sts W ((h3.frm hf).sts) hl Tryz.call_pPlace1 (fun V x hV _ => pPlace1_any _ n x V (hV.keep hc))
  clear h3
  go_enter Tryz.func79, Tryz.ntmps79
  go_wp2_with (go_at_call 139; go_must (refine (C1.out _ (((Frm.refl [] w).alloc _).alloc _) (cell_of (alloc_top (by simp)) 0)).mono ?_; rintro e w1 ⟨rfl, hf1⟩; have HF1 := Lib.hid hf1; clear hf1))
  go_ret
  exact ⟨rfl, (((Frm.refl [] w).alloc _).alloc _).trans HF1.out⟩
set_option maxHeartbeats 1000000 in
theorem rSes11_any (c : Nat) (n : ByteArray) (x : RolD) (sv cv tv : Value) (w : World) (h : w.cell? ⟨c, 0, none⟩ = some (.string n)) : Calls Tryz.prog 113 #[.agg #[.string x.name, sv, cv, tv], .pointer (some ⟨c, 0, none⟩)] w (Ret (.bool (decide (x.name = n))) (Frm [] w)) := by
  rw [← str_beq]
  have hlt := cell_lt h
  go_enter Tryz.func113, Tryz.ntmps113
  go_wp2
  go_ret
  exact ⟨rfl, (Frm.refl _ _).alloc _⟩
theorem Tryz.call_rSes11 (args : Array Value) (w : World) : (callFunc 113 args).run Tryz.prog w = .ok (.enter 113 args) w := by kernel_rfl
/-- the function 'named' of CheckSession -/
theorem rSes1_any (sb : Nat) (s : SesD) (rv : Value) (n : ByteArray) (w : World) (hb : w.cell? ⟨sb, 1, none⟩ = some rv) (h : Rls w rv s.roles) (hl : s.roles.length ≤ 1000) :
    Calls Tryz.prog 111 #[.string n, .pointer (some ⟨sb, 0, none⟩)] w (Ret (.int .i64 (rolIx s n)) (Frm [] w)) := by
  have hlt := cell_lt hb
  have C1 : Hid (∀ W, Frm [] w W → W.cell? ⟨w.heap.size, 0, none⟩ = some (.string n) → Calls Tryz.prog 112 #[rv, .func (.func 113) #[] #[.pointer (some ⟨w.heap.size, 0, none⟩)]] W (Ret (.int .i64 (rolIx s n)) (Frm [] W))) := by
    refine Lib.hid fun W hf hc => ?_
    have C2 := Lib.hid (ifRole_any 113 #[.pointer (some ⟨w.heap.size, 0, none⟩)] (fun s => decide (s.name = n)) rv s.roles W (h.frm hf) hl Tryz.call_rSes11 (fun V x sv cv tv hV _ _ => rSes11_any _ n x sv cv tv V (hV.keep hc)))
    go_enter Tryz.func112, Tryz.ntmps112
    go_wp2_with (go_at_call 134; go_must (refine C2.out.mono ?_; rintro e w1 ⟨rfl, hf1⟩; have HF1 := Lib.hid hf1; clear hf1))
    go_ret
    exact ⟨rfl, HF1.out⟩
  clear h
  go_enter Tryz.func111, Tryz.ntmps111
  go_wp2_with (go_at_call 112; go_must (refine (C1.out _ ((Frm.refl [] w).alloc _) (cell_of (alloc_top (by simp)) 0)).mono ?_; rintro e w1 ⟨rfl, hf1⟩; have HF1 := Lib.hid hf1; clear hf1))
  go_ret
  exact ⟨rfl, ((Frm.refl [] w).alloc _).trans HF1.out⟩
set_option maxHeartbeats 1000000 in
theorem pNumber1_any (c : Nat) (n : ByteArray) (x : RolD) (sv cv tv : Value) (w : World) (h : w.cell? ⟨c, 0, none⟩ = some (.string n)) : Calls Tryz.prog 135 #[.agg #[.string x.name, sv, cv, tv], .pointer (some ⟨c, 0, none⟩)] w (Ret (.bool (decide (x.name = n))) (Frm [] w)) := by
  rw [← str_beq]
  have hlt := cell_lt h
  go_enter Tryz.func135, Tryz.ntmps135
  go_wp2
  go_ret
  exact ⟨rfl, (Frm.refl _ _).alloc _⟩
theorem Tryz.call_pNumber1 (args : Array Value) (w : World) : (callFunc 135 args).run Tryz.prog w = .ok (.enter 135 args) w := by kernel_rfl
theorem pNumber_any (yb : Nat) (s : SesD) (rv : Value) (n : ByteArray) (w : World) (hb : w.cell? ⟨yb, 1, none⟩ = some rv) (h : Rls w rv s.roles) (hl : s.roles.length ≤ 1000) :
    Calls Tryz.prog 76 #[.pointer (some ⟨yb, 0, none⟩), .string n] w (Ret (.int .i64 (rolIx s n)) (Frm [] w)) := by
  have hlt := cell_lt hb
  have C1 : Hid (∀ W, Frm [] w W → W.cell? ⟨w.heap.size, 0, none⟩ = some (.string n) → Calls Tryz.prog 134 #[rv, .func (.func 135) #[] #[.pointer (some ⟨w.heap.size, 0, none⟩)]] W (Ret (.int .i64 (rolIx s n)) (Frm [] W))) :=
    Lib.hid fun W hf hc => ifRole_any 135 #[.pointer (some ⟨w.heap.size, 0, none⟩)] (fun s => decide (s.name = n)) rv s.roles W (h.frm hf) hl Tryz.call_pNumber1 (fun V x sv cv tv hV _ _ => pNumber1_any _ n x sv cv tv V (hV.keep hc))
  clear h
  go_enter Tryz.func76, Tryz.ntmps76
  go_wp2_with (go_at_call 134; go_must (refine (C1.out _ ((Frm.refl [] w).alloc _) (cell_of (alloc_top (by simp)) 0)).mono ?_; rintro e w1 ⟨rfl, hf1⟩; have HF1 := Lib.hid hf1; clear hf1))
  go_ret
  exact ⟨rfl, ((Frm.refl [] w).alloc _).trans HF1.out⟩
end Go.Proofs.YtkphhjekfimmlaaGreat
