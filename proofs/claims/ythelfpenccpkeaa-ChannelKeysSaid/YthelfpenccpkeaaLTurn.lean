/- ChannelLoops: what lies while the iterator is used. -/
import Derived.Test.YthelfpenccpkeaaPlays
namespace Go.Proofs.Ythelfpenccpkeaa
open Go.RowKit Go.BigFrame

/-- what the turns read, and where it lies -/
structure Tp where
  rb : Nat
  wb : Nat
  bl : Nat
  bc : Nat
  cb : Nat
  cls : Int
  cap : Int
  sv : Value
  L : List ByteArray
  C : List Nat
  ao : Option Addr
  cp : Nat
  aw : Option Addr
  cw : Nat
/-- before a turn -/
structure TF (w : World) (t : Tp) (many : Int) (bt : Nat) (T : Int) (W : World) : Prop where
  old : Frm [] w W
  rc : W.heap[t.rb]? = some (.cells #[.int .i64 t.cls, .int .i64 t.cap, .slice t.ao t.L.length t.cp] 48 (0, 0))
  wt : W.heap[t.wb]? = some (.cells #[.slice t.aw t.C.length t.cw] 53 (0, 0))
  rr : ChR t.bl t.bc t.cb t.cls t.sv t.L W
  lf : Lf W (.slice t.ao t.L.length t.cp) t.L
  ii : Ints W (.slice t.aw t.C.length t.cw) t.C
  cc : chp t.cls t.L t.L.length = t.C
  mb : W.heap[w.heap.size]? = some (.cells #[.int .i64 many] 3 (0, 0))
  rs : W.heap[w.heap.size + 1]? = some (.cells #[.bool false] 4 (0, 0))
  tb : W.heap[bt]? = some (.cells #[.int .i64 T] 3 (0, 0))
section
variable {w W W' W2 : World} {t : Tp} {bt : Nat} {many T : Int}
theorem TF.frm {F : List Nat} (h : TF w t many bt T W) (hf : Frm F W W') (hF : ∀ x ∈ F, W.heap.size ≤ x) : TF w t many bt T W' := by
  have no : ∀ {k : Nat} {o : Obj}, W.heap[k]? = some o → k ∉ F := fun hk hx => by have := lt_of_block hk; have := hF _ hx; omega
  refine ⟨h.old.then hf (fun x hx => .inr (by have := hF x hx; have := h.old.size; omega)), hf.at h.rc (no h.rc), hf.at h.wt (no h.wt),
    ⟨hf.at h.rr.1 (no h.rr.1), h.rr.2.1.frm hf (fun k hk hx => by have := ownBlock_lt h.rr.2.1 hk; have := hF _ hx; omega), hf.at h.rr.2.2.1 (no h.rr.2.2.1), hf.cellAt h.rr.2.2.2 (fun hx => by have := cell_lt h.rr.2.2.2; have := hF _ hx; omega)⟩,
    h.lf.frm hf (fun k hk hx => by have := h.lf.lt hk; have := hF _ hx; omega), hf.owns h.ii (fun k hk hx => by have := ownBlock_lt h.ii hk; have := hF _ hx; omega), h.cc, hf.at h.mb (no h.mb), hf.at h.rs (no h.rs), hf.at h.tb (no h.tb)⟩
/-- in a turn, behind what was handed out -/
structure TurnI (W : World) (T many : Int) (pre : List (Nat × ByteArray)) (W' : World) : Prop where
  fr : Frm [W.heap.size] W W'
  kb : W'.heap[W.heap.size]? = some (.cells #[.int .i64 pre.length] 3 (0, 0))
  go : T = 0 → pre = [] ∨ (pre.length : Int) < many
/-- left early -/
structure TurnX (X : Code) (W : World) (T many : Int) (c : Code) (pre : List (Nat × ByteArray)) (W' : World) : Prop where
  co : c = X
  fr : Frm [W.heap.size] W W'
  kb : W'.heap[W.heap.size]? = some (.cells #[.int .i64 pre.length] 3 (0, 0))
  tz : T = 0
  mx : (pre.length : Int) = max 1 many
variable {pre : List (Nat × ByteArray)} {B : Nat} {c X : Code}
theorem TurnI.bk (h : TurnI W T many pre W') (hb : Bk B W' W2) (hB : W.heap.size ≤ B) : TurnI W T many pre W2 := ⟨hb.oldF h.fr hB, hb.at h.kb rfl, h.go⟩
theorem TurnX.bk (h : TurnX X W T many c pre W') (hb : Bk B W' W2) (hB : W.heap.size ≤ B) : TurnX X W T many c pre W2 := ⟨h.co, hb.oldF h.fr hB, hb.at h.kb rfl, h.tz, h.mx⟩
theorem TurnI.tf (h : TurnI W T many pre W') (ht : TF w t many bt T W) : TF w t many bt T W' := ht.frm h.fr (by simp)
theorem TurnX.tf (h : TurnX X W T many c pre W') (ht : TF w t many bt T W) : TF w t many bt T W' := ht.frm h.fr (by simp)
theorem TurnI.start (W : World) (T many : Int) : TurnI W T many [] (W.alloc (.cells #[.int .i64 0] 3)) :=
  ⟨(Frm.refl _ _).alloc _, alloc_top rfl, fun _ => .inl rfl⟩
/-- the world behind a round -/
def stepW (W W2 : World) (k : Int) : World := W2.setCell ⟨W.heap.size, 0, none⟩ (.int .i64 k)
theorem step_frm (h : TurnI W T many pre W2) (x : Nat × ByteArray) {k : Int} (hk : k = pre.length + 1) :
    KB W2 (stepW W W2 k) ∧ Frm [W.heap.size] W (stepW W W2 k) ∧ (stepW W W2 k).heap[W.heap.size]? = some (.cells #[.int .i64 (pre ++ [x]).length] 3 (0, 0)) := by
  subst hk
  have h0 : Frm [W.heap.size] W2 (stepW W W2 (pre.length + 1)) := (Frm.refl _ _).setCell _ (.inl (by simp)) _
  refine ⟨KB.frm h0 ?_, h.fr.trans h0, ?_⟩
  · intro y hy
    simp at hy
    subst hy
    exact not_books h.kb rfl
  · refine (block_setCell h.kb 0 _).trans ?_
    simp
/-- what a round reads -/
theorem TF.round (h : TF w t many bt T W) {pre rest : List (Nat × ByteArray)} {x : Nat × ByteArray} (hx : chlK t.cls t.L t.L.length = pre ++ x :: rest) : AgR t.wb t.rb t.aw t.ao t.C t.L t.cw t.cp pre.length x W := by
  have hm := mem_chl t.L.length (show x ∈ chlK t.cls t.L t.L.length by rw [hx]; simp)
  have hCk : t.C[pre.length]? = some x.1 := by rw [← h.cc, chp, hx]; simp
  have hLx : t.L[x.1]? = some x.2 := by rw [hm.2, List.getD_eq_getElem?_getD, List.getElem?_eq_getElem hm.1]; rfl
  obtain ⟨g, e1, e2, -⟩ := h.ii.at2 hCk
  obtain ⟨ao', cp', hv, hcs⟩ := h.lf.shape
  cases hv
  obtain ⟨gl, e4, e5⟩ := hcs _ _ hLx
  exact ⟨cell_of h.wt 0, ⟨g, e1, e2⟩, cell_of h.rc 2, ⟨gl, e4, e5⟩, (List.getElem?_eq_some_iff.1 hCk).1, hm.1⟩
theorem TF.len (h : TF w t many bt T W) : (chlK t.cls t.L t.L.length).length = t.C.length := by rw [← h.cc, chp, List.length_map]
end
/-- a function's end, no mark -/
theorem leaves_none {P : Program} {fn : Func} {tmps : Array Value} {R : Ending → World → Prop} {w : World}
    (h : ∃ v, (results fn tmps).run P w = .ok v w ∧ R (.returned v) w) : LeavesInM Fence.wide 3 P fn tmps R [] .returning w := h
/-- a function's end, two marks -/
theorem leaves_two {P : Program} {fn : Func} {tmps : Array Value} {R : Ending → World → Prop} {D D' : Nat} {w : World} (hK : w.heap[D]? = some (.deferred (some []))) (hK' : w.heap[D']? = some (.deferred (some []))) (hne : D ≠ D')
    (h : ∃ v, (results fn tmps).run P ((w.putObj D (.deferred none)).putObj D' (.deferred none)) = .ok v ((w.putObj D (.deferred none)).putObj D' (.deferred none)) ∧ R (.returned v) ((w.putObj D (.deferred none)).putObj D' (.deferred none))) :
    LeavesInM Fence.wide 3 P fn tmps R [{ target := .collected D, args := #[] }, { target := .collected D', args := #[] }] .returning w :=
  ⟨by simp, .inl ⟨_, _, rfl, run_takeDeferred hK, by simp, .inl ⟨_, _, rfl, run_takeDeferred ((World.putObj_heap_other (Ne.symm hne)).trans hK'), h⟩⟩⟩
/-- the box of the result is there -/
theorem res_box {w w' : World} {many : Int} (h : Frm [] ((w.alloc (.cells #[.int .i64 many] 3)).alloc (.cells #[.bool false] 4)) w') : w'.heap[w.heap.size + 1]? = some (.cells #[.bool false] 4 (0, 0)) :=
  h.at (alloc_top (by simp)) (by simp)
theorem many_box {w w' : World} {many : Int} (h : Frm [] ((w.alloc (.cells #[.int .i64 many] 3)).alloc (.cells #[.bool false] 4)) w') : w'.heap[w.heap.size]? = some (.cells #[.int .i64 many] 3 (0, 0)) :=
  h.at (alloc_at (heap_alloc_new _ _)) (by simp)
/-- a statement that ends behind itself -/
theorem wp_fence {P : Program} {c : Code} {id : Nat} {K : Act → World → Prop} {Q : Exit → Act → World → Prop} {a : Act} {w : World} (h : c.wp P (Exit.inBlock id (Exit.then K (fun _ _ _ => False))) a w) : c.wp P (Exit.inBlock id (Exit.then K Q)) a w := by
  refine wp_mono h fun e a w hq => ?_
  cases e with
  | exit i =>
    simp only [Exit.inBlock] at hq ⊢
    split at hq
    · rename_i hi; rw [if_pos hi]; exact hq
    · exact hq.elim
  | normal => exact hq
  | _ => exact False.elim hq
/-- the end -/
theorem loops_end {w V w9 Wb : World} {t : Tp} {bt D1 D2 : Nat} {many T : Int} {o : Obj} {fn : Func} {tmps : Array Value} (hf : fn.results = #[.cell 8 4]) (ht : tmps.getD 8 undef = .pointer (some ⟨w.heap.size + 1, 0, none⟩))
    (hx : TF w t many bt T V) (h9 : Frm [] (V.alloc o) w9) (h1 : V.heap[D1]? = some (.deferred (some []))) (h2 : V.heap[D2]? = some (.deferred (some []))) (l1 : w.heap.size + 2 ≤ D1) (l2 : D1 < Wb.heap.size) (l3 : Wb.heap.size + 1 ≤ D2) :
    LeavesInM Fence.wide 3 Try.prog fn tmps (Ret (.bool true) (Frm [] w)) [{ target := .collected D2, args := #[] }, { target := .collected D1, args := #[] }] .returning (w9.setCell ⟨w.heap.size + 1, 0, none⟩ (.bool true)) := by
  have hV : Frm [] V w9 := ((Frm.refl [] V).alloc o).trans h9
  have hs := hV.at hx.rs (by simp)
  have k1 : (w9.setCell ⟨w.heap.size + 1, 0, none⟩ (.bool true)).heap[D1]? = some (.deferred (some [])) := setCell_at (hV.at h1 (by simp)) (by simp; omega) _
  have k2 : (w9.setCell ⟨w.heap.size + 1, 0, none⟩ (.bool true)).heap[D2]? = some (.deferred (some [])) := setCell_at (hV.at h2 (by simp)) (by simp; omega) _
  have ks := block_setCell hs 0 (.bool true)
  have hf8 : Frm [] w (w9.setCell ⟨w.heap.size + 1, 0, none⟩ (.bool true)) := (hx.old.trans hV).setCell _ (.inr (by simp)) _
  refine leaves_two k2 k1 (by omega) ⟨.bool true, ?_, rfl, (hf8.then (Frm.putObj _ D2 _) (by intro x hx; simp at hx; right; omega)).then (Frm.putObj _ D1 _) (by intro x hx; simp at hx; right; omega)⟩
  have hc : (((w9.setCell ⟨w.heap.size + 1, 0, none⟩ (.bool true)).putObj D2 (.deferred none)).putObj D1 (.deferred none)).cell? ⟨w.heap.size + 1, 0, none⟩ = some (.bool true) :=
    (cell_of ((Frm.putObj _ D1 _).at ((Frm.putObj _ D2 _).at ks (by simp; omega)) (by simp; omega)) 0).trans rfl
  generalize ((w9.setCell ⟨w.heap.size + 1, 0, none⟩ (.bool true)).putObj D2 (.deferred none)).putObj D1 (.deferred none) = Wf at hc
  have ht' : tmps[8]?.getD undef = .pointer (some ⟨w.heap.size + 1, 0, none⟩) := by simpa using ht
  simp [results, hf, go_sem, hc, ht']
end Go.Proofs.Ythelfpenccpkeaa
