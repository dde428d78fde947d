/- ClockRuns: what lies while the iterator is used. -/
import Derived.Test.YtdhkcjjcgpkkgaaPlays
import Derived.Test.YtdhkcjjcgpkkgaaRunning
import Derived.Test.YtdhkcjjcgpkkgaaNil
namespace Go.Proofs.Ytdhkcjjcgpkkgaa
open Go.RowKit Go.Maps Go.BigFrame Go.Shelf

/-- the last timer of what was handed out -/
def lastT (pre : List (Int × Int)) : Int := (pre.getLast?.map (·.2)).getD (-1)
theorem lastT_snoc (pre : List (Int × Int)) (x : Int × Int) : lastT (pre ++ [x]) = x.2 := by simp [lastT]
theorem ents_split {now : Int} {D : DMap} (hg : Good now D) {pre rest : List (Int × Int)} {x : Int × Int} (h : entsOf D (keysOf D) = pre ++ x :: rest) :
    ∃ tn : Nat, x = (dueV D tn, (tn : Int)) ∧ tn < 256 ∧ lastT pre < tn ∧ 0 ≤ dueV D tn := by
  obtain ⟨l1, l2, h1, h2, h3⟩ := List.map_eq_append_iff.1 h
  obtain ⟨t, l3, rfl, h4, h5⟩ := List.map_eq_cons_iff.1 h3
  have hm : t ∈ keysOf D := by rw [h1]; simp
  obtain ⟨g0, g1, g2⟩ := (keysK_mem D t 256).1 hm
  obtain ⟨tn, rfl⟩ := Int.eq_ofNat_of_zero_le g0
  obtain ⟨d, hd⟩ := Option.isSome_iff_exists.1 g2
  have hp := keysK_lt D 256
  rw [show keysK D 256 = l1 ++ (tn : Int) :: l3 from h1, List.pairwise_append] at hp
  have hdue : dueV D tn = d := by unfold dueV; rw [hd]; rfl
  refine ⟨tn, ?_, by omega, ?_, ?_⟩
  · rw [← h4, hdue, hd]; rfl
  · subst h2
    unfold lastT
    rw [List.getLast?_map]
    cases hl : l1.getLast? with
    | none => simp; omega
    | some a => exact hp.2.2 a (List.mem_of_getLast? hl) tn (by simp)
  · have := (hg.2.2 tn d hd); omega
theorem ents_length (D : DMap) : (entsOf D (keysOf D)).length = cnt D := by
  rw [entsOf, List.length_map]; exact keysK_length D 256
theorem pre_le {D : DMap} {pre rest : List (Int × Int)} {x : Int × Int} (h : entsOf D (keysOf D) = pre ++ x :: rest) : pre.length + 1 ≤ cnt D := by
  rw [← ents_length, h]; simp
/-- before a turn -/
structure TF (w : World) (rb bx : Nat) (sv : Value) (now : Int) (D : DMap) (many : Int) (b11 : Nat) (T : Int) (W : World) : Prop where
  old : Frm [] w W
  rc : W.heap[rb]? = some (.cells (refA now D) 30 (0, 0))
  rr : RunR bx sv (entsOf D (keysOf D)) W
  mb : W.heap[w.heap.size]? = some (.cells #[.int .i64 many] 3 (0, 0))
  rs : W.heap[w.heap.size + 1]? = some (.cells #[.bool false] 4 (0, 0))
  tb : W.heap[b11]? = some (.cells #[.int .i64 T] 3 (0, 0))
theorem Bk.oldF {F : List Nat} {B : Nat} {w0 w w' : World} (h : Bk B w w') (h0 : Frm F w0 w) (hB : w0.heap.size ≤ B) : Frm F w0 w' :=
  ⟨h.os.trans h0.os, h.tape.trans h0.tape, h.output.trans h0.output, Nat.le_trans h0.size h.size, fun k hk hn => by
    have e := h0.block k hk hn
    have hk' : w0.heap[k]? = some (w0.heap[k]) := Array.getElem?_eq_getElem hk
    rw [hk'] at e ⊢
    exact h.block k _ e (.inl (by omega))⟩
section
variable {w W W' W2 : World} {rb bx b11 : Nat} {sv : Value} {now many T : Int} {D : DMap}
theorem TF.frm {F : List Nat} (h : TF w rb bx sv now D many b11 T W) (hf : Frm F W W') (hF : ∀ x ∈ F, W.heap.size ≤ x) : TF w rb bx sv now D many b11 T W' := by
  have no : ∀ {k : Nat} {o : Obj}, W.heap[k]? = some o → k ∉ F := fun hk hx => by have := lt_of_block hk; have := hF _ hx; omega
  refine ⟨h.old.then hf (fun x hx => .inr (by have := hF x hx; have := h.old.size; omega)), hf.at h.rc (no h.rc), ⟨hf.at h.rr.1 (no h.rr.1), hf.owns h.rr.2 (fun k hk => ?_)⟩, hf.at h.mb (no h.mb), hf.at h.rs (no h.rs), hf.at h.tb (no h.tb)⟩
  obtain ⟨c, hc⟩ := ownBlock_type h.rr.2 hk
  exact no hc
/-- in a turn, behind what was handed out -/
structure TurnI (W : World) (T many : Int) (pre : List (Int × Int)) (W' : World) : Prop where
  fr : Frm [W.heap.size, W.heap.size + 1] W W'
  kb : W'.heap[W.heap.size]? = some (.cells #[.int .i64 pre.length] 3 (0, 0))
  lb : W'.heap[W.heap.size + 1]? = some (.cells #[.int .i64 (lastT pre)] 3 (0, 0))
  go : T = 0 → pre = [] ∨ (pre.length : Int) < many
/-- left early -/
structure TurnX (W : World) (T many : Int) (c : Code) (pre : List (Int × Int)) (W' : World) : Prop where
  co : c = .exit 6
  fr : Frm [W.heap.size, W.heap.size + 1] W W'
  kb : W'.heap[W.heap.size]? = some (.cells #[.int .i64 pre.length] 3 (0, 0))
  tz : T = 0
  mx : (pre.length : Int) = max 1 many
variable {pre : List (Int × Int)} {B : Nat} {c : Code}
theorem TurnI.bk (h : TurnI W T many pre W') (hb : Bk B W' W2) (hB : W.heap.size ≤ B) : TurnI W T many pre W2 := ⟨hb.oldF h.fr hB, hb.at h.kb rfl, hb.at h.lb rfl, h.go⟩
theorem TurnX.bk (h : TurnX W T many c pre W') (hb : Bk B W' W2) (hB : W.heap.size ≤ B) : TurnX W T many c pre W2 := ⟨h.co, hb.oldF h.fr hB, hb.at h.kb rfl, h.tz, h.mx⟩
theorem TurnI.tf (h : TurnI W T many pre W') (ht : TF w rb bx sv now D many b11 T W) : TF w rb bx sv now D many b11 T W' := ht.frm h.fr (by simp)
theorem TurnX.tf (h : TurnX W T many c pre W') (ht : TF w rb bx sv now D many b11 T W) : TF w rb bx sv now D many b11 T W' := ht.frm h.fr (by simp)
theorem TurnI.start (W : World) (T many : Int) : TurnI W T many [] (((W.alloc (.cells #[.int .i64 0] 3)).alloc (.cells #[.int .i64 (-1)] 3))) :=
  ⟨((Frm.refl _ _).alloc _).alloc _, alloc_at (heap_alloc_new _ _), by have := heap_alloc_new (W.alloc (.cells #[.int .i64 0] 3)) (.cells #[.int .i64 (-1)] 3); rwa [World.size_alloc] at this, fun _ => .inl rfl⟩
/-- the world behind a round -/
def stepW (W W2 : World) (t k : Int) : World := (W2.setCell ⟨W.heap.size + 1, 0, none⟩ (.int .i64 t)).setCell ⟨W.heap.size, 0, none⟩ (.int .i64 k)
theorem step_frm (h : TurnI W T many pre W2) (x : Int × Int) {k : Int} (hk : k = pre.length + 1) :
    KB W2 (stepW W W2 x.2 k) ∧ Frm [W.heap.size, W.heap.size + 1] W (stepW W W2 x.2 k) ∧ (stepW W W2 x.2 k).heap[W.heap.size]? = some (.cells #[.int .i64 (pre ++ [x]).length] 3 (0, 0)) ∧
    (stepW W W2 x.2 k).heap[W.heap.size + 1]? = some (.cells #[.int .i64 (lastT (pre ++ [x]))] 3 (0, 0)) := by
  subst hk
  have h0 : Frm [W.heap.size, W.heap.size + 1] W2 (stepW W W2 x.2 (pre.length + 1)) := ((Frm.refl _ _).setCell _ (.inl (by simp)) _).setCell _ (.inl (by simp)) _
  refine ⟨KB.frm h0 ?_, h.fr.trans h0, ?_, ?_⟩
  · intro y hy
    simp at hy
    rcases hy with rfl | rfl
    · exact not_books h.kb rfl
    · exact not_books h.lb rfl
  · have h1 : (W2.setCell ⟨W.heap.size + 1, 0, none⟩ (.int .i64 x.2)).heap[W.heap.size]? = _ := setCell_at h.kb (by simp) _
    refine (block_setCell h1 0 _).trans ?_
    simp
  · have h1 := block_setCell h.lb 0 (.int .i64 x.2)
    refine (setCell_at h1 (by simp) _).trans ?_
    simp [lastT_snoc]
end
end Go.Proofs.Ytdhkcjjcgpkkgaa
