/- The iterator that Words hands out. A range over the iterator of Words: each word comes as a clone of its own. -/
import Derived.Test.YtefpfcheafbfdaaWords
import Derived.RangeFuncBound
import Derived.OwnWalkIn
import Derived.TacticsInMore
import Derived.LoopNIn
import Derived.LoopIn
import Derived.WalkMore
namespace Go.Proofs.Ytefpfcheafbfdaa
open Go.RowKit Go.Maps

attribute [local go_sem] Oper.semAt_some

section
variable {F : Fence} {n : Nat} {P : Program} {b : Frame} {a : Act} {k : List Item} {cs : List Frame} {w : World} {Q : Exit → Act → World → Prop}
theorem stepR_scope {c : Code} : step P (lone (b.atR a (.code (.scope c) :: k)) cs w) = .next (lone (b.atR a (.code c :: .inScope c :: k)) cs w) :=
  step_lone_go (by simp [stepG, stepG.exec, Frame.atR])
theorem stepR_inScope {c : Code} : step P (lone (b.atR a (.inScope c :: k)) cs w) = .next (lone (b.atR a k) cs w) :=
  step_lone_go (by simp [stepG, stepG.exec, Frame.atR])
/-- within a fence: a scope through which the run goes without a goto -/
theorem wpIn_scope_straight {c : Code} (h : c.wpIn F n P (Exit.noGoto Q) a w) : (Code.scope c).wpIn F n P Q a w := by
  intro b k cs hro hb hr
  have h0 : (lone (b.atR a (.code (.scope c) :: k)) cs w).fenced P F := fenced_calm hb hr rfl
  obtain ⟨e, a₁, w₁, hq, harr⟩ := h b (.inScope c :: k) cs hro hb hr
  cases e with
  | normal => exact ⟨.normal, a₁, w₁, hq, .head h0 stepR_scope (StepsIn.trans harr (.one (fenced_calm hb hr rfl) stepR_inScope))⟩
  | exit id =>
    have hx : exitTo id (.inScope c :: k) = exitTo id k := by simp [exitTo]
    exact ⟨_, a₁, w₁, hq, fun k' hk => .head h0 stepR_scope (harr.1 k' (by rw [hx]; exact hk)),
      fun hr' hk => let ⟨k₁, h1, h2⟩ := harr.2 hr' (by rw [hx]; exact hk); ⟨k₁, h1, .head h0 stepR_scope h2⟩⟩
  | goto l => exact hq.elim
  | ret => exact ⟨_, a₁, w₁, hq, .of_steps (.one h0 stepR_scope) harr⟩
  | panic ch => exact ⟨_, a₁, w₁, hq, .of_steps (.one h0 stepR_scope) harr⟩
  | outgrown => exact ⟨_, a₁, w₁, hq, .of_steps (.one h0 stepR_scope) harr⟩
end
theorem take_snoc' {α : Type} {L : List α} {k : Nat} {x : α} (h : L[k]? = some x) : L.take (k + 1) = L.take k ++ [x] ∧ L = L.take k ++ x :: L.drop (k + 1) := by
  obtain ⟨hk, h⟩ := List.getElem?_eq_some_iff.1 h
  subst h
  exact ⟨List.take_succ_eq_append_getElem hk, by simp⟩
/-- what is handed out: the number and the word's clone -/
structure Hd where
  i : Nat
  v : Value
set_option maxHeartbeats 1000000 in
set_option maxRecDepth 100000 in
/-- THE CONTRACT: each word comes with its number, as a clone of its own. -/
theorem words_iter (B base : Nat) (u : Value) (M : List Wd) (hM : M.length ≤ 1000) (h64 : ∀ x ∈ M, x.length ≤ 64) (l : Nat) (J Jx : List Wd → World → Prop)
    (sJ : ∀ pre W W', J pre W → Frm [] W W' → J pre W') (hJR : ∀ pre W, J pre W → WdR B base u M W)
    (hY : ∀ pre x rest W v W1, M = pre ++ x :: rest → J pre W → Fresh W x v W1 → YieldAt Fence.wide 1 Try.prog l #[.int .i64 pre.length, v] W1 fun e W' =>
      (e = .returned (.bool true) ∧ J (pre ++ [x]) W') ∨ (e = .returned (.bool false) ∧ Jx (pre ++ [x]) W'))
    (W : World) (h0 : J [] W) : CallsIn Fence.wide 2 Try.prog 50 (#[.func (.yield l) #[] #[]] ++ #[.pointer (some ⟨B, 0, none⟩)]) W fun e W' => (∃ v, e = .returned v) ∧ (J M W' ∨ ∃ pre x rest, M = pre ++ x :: rest ∧ Jx (pre ++ [x]) W') := by
  have HJ := Lib.hid sJ; have HJR := Lib.hid hJR; have HY := Lib.hid hY
  clear sJ hJR hY
  have hr := HJR.out _ _ h0
  have c0 := cell_of hr.1 0
  obtain ⟨ao, cap, rfl⟩ := hr.2.shape
  obtain ⟨n, hn⟩ : ∃ n, M.length = n := ⟨_, rfl⟩
  rw [hn] at c0 hM
  have HN := Lib.hid hn
  have H0 := Lib.hid h0
  clear hr h0 hn
  refine callsIn_of_wp Try.func50 rfl trivial ?_ rfl
  simp only [Try.ntmps50, List.size_toArray, List.length_cons, List.length_nil, Nat.reduceAdd, Nat.reduceSub, Array.replicate_succ, Array.replicate_zero, List.push_toArray, List.append_toArray, List.nil_append, List.cons_append]
  gi_wp2
  refine wpIn_scope_straight (wpIn_seq (wpIn_label ?_))
  gi_wp2
  gi_loopw [7] (fun s wr => ∃ k : Nat, s = .int .i64 k ∧ k ≤ n ∧ J (M.take k) wr) (fun s _ => n - (intOf s).toNat)
  case atStart => exact ⟨0, rfl, Nat.zero_le _, H0.out⟩
  case round =>
    obtain ⟨k, rfl, hk, hj⟩ := hrel
    have HJ1 := Lib.hid hj
    clear hj H0 c0
    by_cases hlt : k < n
    · obtain ⟨x, hx⟩ : ∃ x, M[k]? = some x := ⟨_, List.getElem?_eq_getElem (by rw [HN.out]; exact hlt)⟩
      obtain ⟨hr1, vs, hr2, hr3⟩ := HJR.out _ _ HJ1.out
      obtain ⟨v, hv, hoc⟩ := hr3 k x hx
      have hob := hoc.b
      rw [HN.out] at hr2
      obtain ⟨g, rfl⟩ : ∃ g, ao = some ⟨g, 0, none⟩ := by
        obtain ⟨_, h2⟩ := hr2
        rcases h2 with ⟨_, hn⟩ | ⟨g, cap, cur, hv, _⟩
        · omega
        · simp at hv; exact ⟨g, hv.1⟩
      have e1 := World.ownsRow.cellAt hr2 k (by omega)
      rw [hv] at e1
      obtain ⟨va, vc, rfl⟩ : ∃ va vc, v = .slice va x.length vc := by obtain ⟨b, h⟩ := hob; exact own_shape h
      have hxl : x.length ≤ 64 := h64 x (List.mem_of_getElem? hx)
      have CC : Hid (CallsIn Fence.wide 1 Try.prog 51 #[.slice va x.length vc] wr (RetV (Fresh wr x))) := Lib.hid (callsIn_wide.2 (clone_any (.slice va x.length vc) x wr hob.byts (by omega)))
      have HX := Lib.hid hx; have HO := Lib.hid hob
      have e2 : (M.take k).length = k := by rw [List.length_take, HN.out]; omega
      have HE2 := Lib.hid e2
      obtain ⟨nx, hnx⟩ : ∃ nx, x.length = nx := ⟨_, rfl⟩
      rw [hnx] at CC e1
      have HNX := Lib.hid hnx
      clear hr1 hr2 hr3 hv hoc hob hx e2 hxl hnx
      have hlt' : (k : Int) < n := by omega
      gi_wp2
      refine ⟨trivial, CC.out.mono ?_⟩
      clear CC
      rintro e w1 ⟨v, rfl, h1, h2⟩
      obtain ⟨wa, wc, rfl⟩ := own_shape h1
      obtain ⟨fn, tmps, assign, body, hy, hR⟩ := HY.out (M.take k) x (M.drop (k + 1)) wr _ w1 (take_snoc' HX.out).2 HJ1.out ⟨h1, h2⟩
      rw [HE2.out, HNX.out] at hy
      rw [HNX.out]
      have HRR := Lib.hid hR
      clear hR h1 h2
      gi_wp2
      refine HRR.out.mono ?_
      rintro e W3 (⟨rfl, hJ3⟩ | ⟨rfl, hJx3⟩)
      · have HJ3 := Lib.hid hJ3
        clear hJ3
        gi_wp2
        go_roundw
        case rel => exact ⟨k + 1, by go_num, hlt, by rw [(take_snoc' HX.out).1]; exact HJ3.out⟩
        case measure => simp [intOf]; omega
      · have HJ3 := Lib.hid hJx3
        clear hJx3
        gi_wp2
        rw [Exit.noGoto_normal]
        change bodyPost Try.prog Try.f50 (fun e W' => (∃ v, e = Ending.returned v) ∧ (J M W' ∨ ∃ pre x rest, M = pre ++ x :: rest ∧ Jx (pre ++ [x]) W')) Exit.normal _ _
        go_end0
        exact ⟨⟨_, rfl⟩, .inr ⟨_, _, _, (take_snoc' HX.out).2, HJ3.out⟩⟩
    · obtain rfl : k = n := by omega
      have hge : ¬ (k : Int) < (k : Int) := by omega
      gi_wp2
      go_end0
      exact ⟨⟨_, rfl⟩, .inl (by have := HJ1.out; rwa [← HN.out, List.take_length] at this)⟩
end Go.Proofs.Ytefpfcheafbfdaa
namespace Go.Proofs.Ytefpfcheafbfdaa
open Go.RowKit Go.Maps

attribute [local go_sem] Oper.semAt_some

theorem wp_rangeWords {ps : Array Tmp} {assign body : Code} {Q : Exit → Act → World → Prop} {a : Act} {w : World} {g : Operand} {B base : Nat} {u : Value} {M : List Wd}
    (hg : a.eval g = .func (.func 50) #[] #[.pointer (some ⟨B, 0, none⟩)]) (hM : M.length ≤ 1000) (h64 : ∀ x ∈ M, x.length ≤ 64) (hps : ps.size = 2)
    (I : List Wd → World → Prop) (Ix : Code → List Wd → World → Prop) (sI : ∀ s W W', I s W → Bk w.heap.size W W' → I s W') (sIx : ∀ c s W W', Ix c s W → Bk w.heap.size W W' → Ix c s W')
    (hR : ∀ s W, I s W → WdR B base u M W) (h0 : I [] w)
    (hround : ∀ (l : Nat) (pre : List Wd) (x : Wd) (rest : List Wd) (W : World) (v : Value) (W1 : World), M = pre ++ x :: rest → I pre W → Fresh W x v W1 → w.heap.size ≤ l → (∃ r, W1.heap[l]? = some (.loop r)) → w.heap.size ≤ W.heap.size →
      assign.wpIn (Fence.wide.inRound l) 1 Try.prog (Exit.then (fun a' W' => KB W1 W' ∧ ∀ W2, Bk w.heap.size W' W2 → (∃ r, W2.heap[l]? = some (.loop r)) → body.wpIn (Fence.wide.inRound l) 1 Try.prog (roundEnd I Ix (pre ++ [x]) W2) a' W2) (fun _ _ _ => False))
        { tmps := (ps.zip #[.int .i64 pre.length, v]).foldl (fun t (p, v) => t.setIfInBounds p v) a.tmps, defers := [] } W1)
    (hdone : ∀ (D : Nat) (W : World), w.heap.size ≤ D → I M W → W.heap[D]? = some (.deferred (some [])) → Q .normal { a with defers := { target := .collected D, args := #[] } :: a.defers } W)
    (hstop : ∀ (D : Nat) (c : Code) (pre : List Wd) (x : Wd) (rest : List Wd) (W : World), M = pre ++ x :: rest → w.heap.size ≤ D → Ix c (pre ++ [x]) W → W.heap[D]? = some (.deferred (some [])) → c.wp Try.prog Q { a with defers := { target := .collected D, args := #[] } :: a.defers } W) :
    (Code.rangeFunc g ps assign body).wp Try.prog Q a w := by
  refine wpIn_wide.1 (wpIn_rangeFunc (F := Fence.wide) (n := 3) ?_)
  intro fn hfn
  rw [show Fence.wide.round = none from rfl]
  obtain ⟨rec, hrec⟩ : ∃ rec : LoopState → Option Code → Loop, rec = fun st pe => { state := st, pending := pe, fn, tmps := a.tmps, params := ps, assign, body, defers := w.heap.size } := ⟨_, rfl⟩
  obtain ⟨W1, hW1⟩ : ∃ W1, (w.alloc (.deferred (some []))).alloc (.loop (rec .ready none)) = W1 := ⟨_, rfl⟩
  have hL1 : W1.heap[w.heap.size + 1]? = some (.loop (rec .ready none)) := by
    rw [← hW1]; have := World.alloc_heap_new (w.alloc (.deferred (some []))) (.loop (rec .ready none)); rwa [World.size_alloc] at this
  have hK1 : W1.heap[w.heap.size]? = some (.deferred (some [])) := by
    rw [← hW1]; exact (Below.heap_alloc _ _ _ (by simp)).trans (World.alloc_heap_new w _)
  have hF1 : Frm [] w W1 := by rw [← hW1]; exact ((Frm.refl _ _).alloc _).alloc _
  have hI1 : I [] W1 := sI _ _ _ h0 (hF1.bk _)
  refine ⟨w.heap.size + 1, [{ target := .collected w.heap.size, args := #[] }], W1, { target := .fn (.func 50) #[.pointer (some ⟨B, 0, none⟩)], args := #[.func (.yield (w.heap.size + 1)) #[] #[]] }, W1, 50,
    #[.func (.yield (w.heap.size + 1)) #[] #[]] ++ #[.pointer (some ⟨B, 0, none⟩)], W1, ?_, ?_, ?_, ?_, fun _ => by omega, ?_⟩
  · rw [← hW1, hrec]; exact run_enterLoop_outer _ _ _ _ _
  · simp only [resolve, hg]
    simp [go_sem]
  · intro f' hf'; simp [Target.leads] at hf'; subst hf'; trivial
  · simp [invoke, go_sem]
  · refine (words_iter B base u M hM h64 (w.heap.size + 1)
      (fun pre W => I pre W ∧ W.heap[w.heap.size + 1]? = some (.loop (rec .ready none)) ∧ W.heap[w.heap.size]? = some (.deferred (some [])))
      (fun pre W => ∃ c, Ix c pre W ∧ W.heap[w.heap.size + 1]? = some (.loop (rec .done (some c))) ∧ W.heap[w.heap.size]? = some (.deferred (some [])))
      (fun pre W W' hJ hf => ⟨sI _ _ _ hJ.1 (hf.bk _), hf.at hJ.2.1 (by simp), hf.at hJ.2.2 (by simp)⟩)
      (fun pre W hJ => hR _ _ hJ.1) ?_ W1 ⟨hI1, hL1, hK1⟩).mono ?_
    · rintro pre x rest W v Wv hxs ⟨hi, hl, hk⟩ hfr
      have hlv : Wv.heap[w.heap.size + 1]? = some (.loop (rec .ready none)) := hfr.2.at hl (by simp)
      have hkv : Wv.heap[w.heap.size]? = some (.deferred (some [])) := hfr.2.at hk (by simp)
      have hy := run_yield (P := Try.prog) (args := #[.int .i64 pre.length, v]) hlv (by rw [hrec]; exact hps.symm)
      rw [hrec] at hy
      refine ⟨fn, _, assign, body, hy, roundIn_of_wpIn hfn (wpIn_mono (hround (w.heap.size + 1) pre x rest W v Wv hxs hi hfr (by omega) ⟨_, hlv⟩ (by have := lt_of_block hk; omega)) ?_)⟩
      intro e a' W' hp
      cases e with
      | normal =>
        obtain ⟨hkb, hb⟩ := hp
        have hl' := hkb _ _ hlv rfl
        have hk' := hkb _ _ hkv rfl
        have hlt : w.heap.size + 1 < W'.heap.size := lt_of_block hl'
        refine ⟨_, run_beginRound hl' (by rw [hrec]), ?_⟩
        have hl2 : (W'.putObj (w.heap.size + 1) (.loop { rec .ready none with state := .busy })).heap[w.heap.size + 1]? = some (.loop { rec .ready none with state := .busy }) := World.putObj_heap_same hlt
        have hk2 : (W'.putObj (w.heap.size + 1) (.loop { rec .ready none with state := .busy })).heap[w.heap.size]? = some (.deferred (some [])) := (World.putObj_heap_other (by omega)).trans hk'
        refine wpIn_mono (hb _ (Bk.putObj W' _ hl' rfl (by omega)) ⟨_, hl2⟩) ?_
        have fin : ∀ (jump : Option Code) (W3 : World), KB (W'.putObj (w.heap.size + 1) (.loop { rec .ready none with state := .busy })) W3 →
            (Instr.endRound (w.heap.size + 1) jump).run Try.prog W3 = .ok (.bool jump.isNone) (W3.putObj (w.heap.size + 1) (.loop (rec (if jump.isNone then .ready else .done) jump))) ∧
            Bk w.heap.size W3 (W3.putObj (w.heap.size + 1) (.loop (rec (if jump.isNone then .ready else .done) jump))) ∧
            (W3.putObj (w.heap.size + 1) (.loop (rec (if jump.isNone then .ready else .done) jump))).heap[w.heap.size + 1]? = some (.loop (rec (if jump.isNone then .ready else .done) jump)) ∧
            (W3.putObj (w.heap.size + 1) (.loop (rec (if jump.isNone then .ready else .done) jump))).heap[w.heap.size]? = some (.deferred (some [])) := fun jump W3 hk3 => by
          have hl3 := hk3 _ _ hl2 rfl
          have := run_endRound (P := Try.prog) jump hl3
          rw [hrec] at this ⊢
          exact ⟨this, Bk.putObj W3 _ hl3 rfl (by omega), World.putObj_heap_same (lt_of_block hl3), (World.putObj_heap_other (by omega)).trans (hk3 _ _ hk2 rfl)⟩
        rintro e a3 W3 hp
        cases e with
        | normal =>
          obtain ⟨hk3, hi3⟩ := hp
          obtain ⟨hr, hb3, hl4, hk4⟩ := fin none W3 hk3
          exact ⟨_, _, hr, .inl ⟨rfl, sI _ _ _ hi3 hb3, hl4, hk4⟩⟩
        | ret =>
          obtain ⟨hk3, hi3⟩ := hp
          obtain ⟨hr, hb3, hl4, hk4⟩ := fin (some .ret) W3 hk3
          exact ⟨_, _, hr, .inr ⟨rfl, .ret, sIx _ _ _ _ hi3 hb3, hl4, hk4⟩⟩
        | exit id =>
          obtain ⟨hk3, hi3⟩ := hp
          obtain ⟨hr, hb3, hl4, hk4⟩ := fin (some (.exit id)) W3 hk3
          exact ⟨_, _, hr, .inr ⟨rfl, .exit id, sIx _ _ _ _ hi3 hb3, hl4, hk4⟩⟩
        | goto t =>
          obtain ⟨hk3, hi3⟩ := hp
          obtain ⟨hr, hb3, hl4, hk4⟩ := fin (some (.goto t)) W3 hk3
          exact ⟨_, _, hr, .inr ⟨rfl, .goto t, sIx _ _ _ _ hi3 hb3, hl4, hk4⟩⟩
        | panic ch => exact hp.elim
        | outgrown => exact hp.elim
      | ret => exact hp.elim
      | exit id => exact hp.elim
      | goto t => exact hp.elim
      | panic ch => exact hp.elim
      | outgrown => exact hp.elim
    · rintro e W2 ⟨⟨v, rfl⟩, (⟨hi, hl, hk⟩ | ⟨pre, x, rest, hxs, c, hi, hl, hk⟩)⟩
      · exact ⟨none, _, by have := run_endLoop (P := Try.prog) hl (by rw [hrec]; simp); rw [hrec] at this; exact this, hdone _ _ (Nat.le_refl _) (sI _ _ _ hi (by rw [hrec] at hl; exact Bk.putObj W2 _ hl rfl (by omega))) ((World.putObj_heap_other (by omega)).trans hk)⟩
      · exact ⟨some c, _, by have := run_endLoop (P := Try.prog) hl (by rw [hrec]; simp); rw [hrec] at this; exact this, wpIn_wide.2 (hstop _ c pre x rest _ hxs (Nat.le_refl _) (sIx _ _ _ _ hi (by rw [hrec] at hl; exact Bk.putObj W2 _ hl rfl (by omega))) ((World.putObj_heap_other (by omega)).trans hk))⟩
end Go.Proofs.Ytefpfcheafbfdaa
