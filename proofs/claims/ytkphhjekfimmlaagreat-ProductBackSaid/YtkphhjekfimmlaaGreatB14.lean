/- product.own: a session that shares no memory. product: Do at any move; Moves; Session. The law of layer 33: num; listed: the moves of a state, collected out of the iterator. product: Final. product: Key: the row of bytes that grows; the actors' bytes. -/
import Derived.Test.YtkphhjekfimmlaaGreatB06
import Derived.Test.YtkphhjekfimmlaaGreatB09
import Derived.Deep.RegionHeld3
import Derived.Deep.RegionLaw
import Derived.Test.YtkphhjekfimmlaaGreatB13
import Derived.Test.YtkphhjekfimmlaaGreatB07
import Derived.Test.YtkphhjekfimmlaaGreatB10
namespace Go.Proofs.YtkphhjekfimmlaaGreat
open Go.RowKit Go.BigFrame

/-- from block B on, V is as W is -/
def Agree (B : Nat) (W V : World) : Prop := ∀ k, B ≤ k → k < W.heap.size → V.heap[k]? = W.heap[k]?
theorem Agree.refl (B : Nat) (W : World) : Agree B W W := fun _ _ _ => rfl
theorem Agree.low {B B' : Nat} {W V : World} (h : Agree B W V) (hb : B ≤ B') : Agree B' W V := fun k h1 h2 => h k (by omega) h2
theorem Agree.frm {F : List Nat} {B : Nat} {W V : World} (h : Frm F W V) (hF : ∀ x ∈ F, x < B) : Agree B W V := fun k h1 h2 => h.block k h2 (fun hx => by have := hF k hx; omega)
theorem Agree.old {F : List Nat} {B : Nat} {W W' V : World} (h : Agree B W' V) (hf : Frm F W W') (hF : ∀ x ∈ F, x < B) : Agree B W V := fun k h1 h2 => by
  have hs := hf.size
  rw [h k h1 (by omega)]
  exact hf.block k h2 (fun hx => by have := hF k hx; omega)
theorem Fr.stb {α : Type} {k : Nat} {e : TypeId} {At : World → Nat → Nat → α → Prop} {w w' : World} {xs : List α} {v : Value} (h : Fr k e At w xs v w') (hA : ∀ (W V : World) b o x, At W b o x → V.heap[b]? = W.heap[b]? → At V b o x) :
    ∃ ao c, v = .slice ao xs.length c ∧ ∀ (W V : World), Agree w.heap.size w' W → Agree w.heap.size w' V → Arr k At V v xs := by
  obtain ⟨ao, c, rfl⟩ := h.arr.shape
  refine ⟨ao, c, rfl, fun _ V _ hV => ?_⟩
  rcases h.own with rfl | ⟨news, ho⟩
  · exact Arr.nil _ _ _
  · refine ⟨ao, c, rfl, fun i x hx => ?_⟩
    have hn : xs.length ≠ 0 := by have := lt_of_some hx; omega
    obtain ⟨g, cap, cur, e, hg, hc⟩ := own_block ho hn
    cases e
    obtain ⟨b, o, e, ha⟩ := h.arr.get hx
    cases e
    exact ⟨g, 0, rfl, hA _ _ _ _ _ ha (hV g hg (lt_of_block hc))⟩
theorem cell_eq {W V : World} {b o : Nat} {v : Value} (h : W.cell? ⟨b, o, none⟩ = some v) (e : V.heap[b]? = W.heap[b]?) : V.cell? ⟨b, o, none⟩ = some v := (World.cell?_of_block (w := W) e).trans h
theorem StAt.leaf (W V : World) (b o : Nat) (x : StD) (h : StAt W b o x) (e : V.heap[b]? = W.heap[b]?) : StAt V b o x := ⟨cell_eq h.1 e, cell_eq h.2.1 e, cell_eq h.2.2 e⟩
theorem CtAt.leaf (W V : World) (b o : Nat) (x : CtrD) (h : CtAt W b o x) (e : V.heap[b]? = W.heap[b]?) : CtAt V b o x := ⟨cell_eq h.1 e, cell_eq h.2 e⟩
theorem SpAt.leaf (W V : World) (b o : Nat) (x : StpD) (h : SpAt W b o x) (e : V.heap[b]? = W.heap[b]?) : SpAt V b o x :=
  ⟨cell_eq h.c0 e, cell_eq h.c1 e, cell_eq h.c2 e, cell_eq h.c3 e, cell_eq h.c4 e, cell_eq h.c5 e, cell_eq h.c6 e, cell_eq h.c7 e, cell_eq h.c8 e⟩
/-- the same, but for blocks g and b -/
def AgX (B g b : Nat) (W V : World) : Prop := ∀ k, B ≤ k → k ≠ g → k ≠ b → k < W.heap.size → V.heap[k]? = W.heap[k]?
theorem AgX.old {B g b : Nat} {W W' V : World} {F : List Nat} (h : AgX B g b W' V) (hf : Frm F W W') (hF : ∀ x ∈ F, x = g ∨ x = b) : AgX B g b W V := fun k h1 h2 h3 h4 => by
  have hs := hf.size
  rw [h k h1 h2 h3 (by omega)]
  exact hf.block k h4 (fun hx => by rcases hF k hx with e | e <;> omega)
/-- a role at block g whose slices lie from block B on -/
def OwR (B g b o : Nat) (r : RolD) (W : World) : Prop :=
  ∃ sv cv tv, W.cell? ⟨g, o, none⟩ = some (.string r.name) ∧ W.cell? ⟨g, o + 1, none⟩ = some sv ∧ W.cell? ⟨g, o + 2, none⟩ = some cv ∧ W.cell? ⟨g, o + 3, none⟩ = some tv ∧ ∀ V, AgX B g b W V → Rl3 V sv cv tv r
theorem RoAt.of {w : World} {v : Value} {l : List RolD} (h : Rls w v l) : Arr 4 (RoAt w) w v l := by
  obtain ⟨ao, cap, e, hx⟩ := h
  refine ⟨ao, cap, e, fun i x hi => ?_⟩
  obtain ⟨b, o, e2, sv, cv, tv, h1⟩ := hx i x hi
  exact ⟨b, o, e2, sv, cv, tv, h1⟩
/-- while roles are copied -/
structure OwI (w : World) (s : SesD) (b1 b2 g cap i : Nat) (W : World) : Prop where
  fr : Frm [] w W
  l1 : w.heap.size ≤ b1
  l2 : w.heap.size ≤ b2
  lg : w.heap.size ≤ g
  n12 : b1 ≠ b2
  h1 : W.heap[b1]? = some (.cells #[.string s.name, .slice (some ⟨g, 0, none⟩) s.roles.length cap, .int .i64 s.cls, .int .i64 s.cap] 25 (0, 0))
  h2 : W.heap[b2]? = some (.cells #[.string { data := #[] }, .slice none 0 0, .int .i64 0, .int .i64 0] 25 (0, 0))
  hg : ∃ cur, W.heap[g]? = some (.cells cur 53 (0, 0))
  done : ∀ (j : Nat) r, j < i → s.roles[j]? = some r → OwR w.heap.size g b2 (j * 4) r W
  rest : ∀ (j : Nat) r, i ≤ j → s.roles[j]? = some r → RoAt w W g (j * 4) r
theorem OwI.ne {w W : World} {s : SesD} {b1 b2 g cap i : Nat} (h : OwI w s b1 b2 g cap i W) : b1 ≠ g ∧ b2 ≠ g := by
  obtain ⟨cur, hg⟩ := h.hg
  refine ⟨fun e => ?_, fun e => ?_⟩
  · subst e; rw [h.h1] at hg; cases hg
  · subst e; rw [h.h2] at hg; cases hg
/-- a role's slices in a copy -/
structure Cl3 (w0 : World) (sv cv tv : Value) (r : RolD) (W : World) : Prop where
  frm : Frm [] w0 W
  sts : ∀ V, Agree w0.heap.size W V → Arr 3 StAt V sv r.sts
  ctrs : ∀ V, Agree w0.heap.size W V → Arr 2 CtAt V cv r.ctrs
  steps : ∀ V, Agree w0.heap.size W V → Arr 9 SpAt V tv r.steps
  cap : ∀ ao n c, tv = .slice ao n c → n ≤ c
theorem OwI.step {w W W' : World} {s : SesD} {b1 b2 g cap i : Nat} (h : OwI w s b1 b2 g cap i W) {r : RolD} (hr : s.roles[i]? = some r) {sv cv tv : Value} (hc : Cl3 W sv cv tv r W') :
    OwI w s b1 b2 g cap (i + 1) (((W'.setCell ⟨g, i * 4 + 1, none⟩ sv).setCell ⟨g, i * 4 + 2, none⟩ cv).setCell ⟨g, i * 4 + 3, none⟩ tv) := by
  obtain ⟨n1, n2⟩ := h.ne
  obtain ⟨cur, hg⟩ := h.hg
  have hg' := hc.frm.at hg (by simp)
  have e1 := block_setCell hg' (i * 4 + 1) sv
  have e2 := block_setCell e1 (i * 4 + 2) cv
  have e3 := block_setCell e2 (i * 4 + 3) tv
  have hF : Frm [g] W' (((W'.setCell ⟨g, i * 4 + 1, none⟩ sv).setCell ⟨g, i * 4 + 2, none⟩ cv).setCell ⟨g, i * 4 + 3, none⟩ tv) := (((Frm.refl [g] W').setCell _ (.inl (by simp)) _).setCell _ (.inl (by simp)) _).setCell _ (.inl (by simp)) _
  obtain ⟨W2, hW2⟩ : ∃ W2, (((W'.setCell ⟨g, i * 4 + 1, none⟩ sv).setCell ⟨g, i * 4 + 2, none⟩ cv).setCell ⟨g, i * 4 + 3, none⟩ tv) = W2 := ⟨_, rfl⟩
  rw [hW2] at e3 hF ⊢
  have hFW : Frm [g] W W2 := (hc.frm.mono (by simp)).trans hF
  have hsz : w.heap.size ≤ W.heap.size := h.fr.size
  have hrr := h.rest i r (Nat.le_refl _) hr
  obtain ⟨sv0, cv0, tv0, q0, q1, q2, q3, -⟩ := hrr
  rw [cell_of hg] at q0 q1 q2 q3
  have hlt : i * 4 + 3 < cur.size := (Array.getElem?_eq_some_iff.1 q3).1
  have hcell : ∀ o, (o ≠ i * 4 + 1 → o ≠ i * 4 + 2 → o ≠ i * 4 + 3 → W2.cell? ⟨g, o, none⟩ = W.cell? ⟨g, o, none⟩) := fun o h1 h2 h3 => by
    rw [cell_of e3, cell_of hg, Array.getElem?_setIfInBounds_ne (by omega), Array.getElem?_setIfInBounds_ne (by omega), Array.getElem?_setIfInBounds_ne (by omega)]
  refine ⟨h.fr.then hFW (by intro x hx; simp at hx; subst hx; exact .inr h.lg), h.l1, h.l2, h.lg, h.n12, hFW.at h.h1 (by simpa using n1), hFW.at h.h2 (by simpa using n2), ⟨_, e3⟩, fun j a hj ha => ?_, fun j a hj ha => ?_⟩
  · by_cases e : j = i
    · subst e
      rw [hr] at ha; cases ha
      refine ⟨sv, cv, tv, ?_, ?_, ?_, ?_, fun V hV => ?_⟩
      · rw [hcell _ (by omega) (by omega) (by omega), cell_of hg]; exact q0
      · rw [cell_of e3, Array.getElem?_setIfInBounds_ne (by omega), Array.getElem?_setIfInBounds_ne (by omega), Array.getElem?_setIfInBounds_self_of_lt (by omega)]
      · rw [cell_of e3, Array.getElem?_setIfInBounds_ne (by omega), Array.getElem?_setIfInBounds_self_of_lt (by simp; omega)]
      · rw [cell_of e3, Array.getElem?_setIfInBounds_self_of_lt (by simp; omega)]
      · have hgl := lt_of_block hg
        have hbl := lt_of_block h.h2
        have hV' : Agree W.heap.size W' V := fun k h1 h2 => (hV.old hF (by simp)) k (by omega) (by omega) (by omega) h2
        exact ⟨hc.sts V hV', hc.ctrs V hV', hc.steps V hV', hc.cap⟩
    · obtain ⟨sv1, cv1, tv1, p0, p1, p2, p3, p4⟩ := h.done j a (by omega) ha
      refine ⟨sv1, cv1, tv1, ?_, ?_, ?_, ?_, fun V hV => ?_⟩
      · rw [hcell _ (by omega) (by omega) (by omega)]; exact p0
      · rw [hcell _ (by omega) (by omega) (by omega)]; exact p1
      · rw [hcell _ (by omega) (by omega) (by omega)]; exact p2
      · rw [hcell _ (by omega) (by omega) (by omega)]; exact p3
      · exact p4 V (hV.old hFW (by simp))
  · obtain ⟨sv1, cv1, tv1, p0, p1, p2, p3, p4⟩ := h.rest j a (by omega) ha
    refine ⟨sv1, cv1, tv1, ?_, ?_, ?_, ?_, p4⟩
    · rw [hcell _ (by omega) (by omega) (by omega)]; exact p0
    · rw [hcell _ (by omega) (by omega) (by omega)]; exact p1
    · rw [hcell _ (by omega) (by omega) (by omega)]; exact p2
    · rw [hcell _ (by omega) (by omega) (by omega)]; exact p3
theorem results_c1 {fn : Func} {p : Tmp} {ty : TypeId} (h : fn.results = #[.cell p ty]) {tmps : Array Value} {w : World} {g : Nat} {A : Array Value} {t : TypeId} {d : TypeDesc} (hp : tmps.getD p undef = .pointer (some ⟨g, 0, none⟩)) (hg : w.heap[g]? = some (.cells A t (0, 0)))
    (hd : (match d with | .struct _ | .array _ _ => true | _ => false) = true) (hu : Tryz.prog.underlying ty = some d) (hi : (Tryz.prog.info? ty).map (·.size) = some A.size) : (results fn tmps).run Tryz.prog w = .ok (.agg A) w := by
  have hp' : tmps[p]?.getD undef = .pointer (some ⟨g, 0, none⟩) := by simpa using hp
  have hr := run_loadVar_row w g t ty A (0, 0) d hg hu (by cases d <;> first | rfl | (exact hd) | (cases hd)) hi
  simp [results, h, hp', asAddr, hr]
/-- what own hands back -/
structure OwTo (w : World) (s : SesD) (v : Value) (w' : World) : Prop where
  shape : ∃ g cap, v = .agg #[.string s.name, .slice (some ⟨g, 0, none⟩) s.roles.length cap, .int .i64 s.cls, .int .i64 s.cap]
  frm : Frm [] w w'
  ses : ∀ V, Agree w.heap.size w' V → SesV V v s
theorem OwI.frm {w W W' : World} {s : SesD} {b1 b2 g cap i : Nat} (h : OwI w s b1 b2 g cap i W) (hf : Frm [] W W') : OwI w s b1 b2 g cap i W' := by
  obtain ⟨cur, hg⟩ := h.hg
  refine ⟨h.fr.trans hf, h.l1, h.l2, h.lg, h.n12, hf.at h.h1 (by simp), hf.at h.h2 (by simp), ⟨cur, hf.at hg (by simp)⟩, fun j r hj hr => ?_, fun j r hj hr => ?_⟩
  · obtain ⟨sv1, cv1, tv1, p0, p1, p2, p3, p4⟩ := h.done j r hj hr
    exact ⟨sv1, cv1, tv1, hf.keep p0, hf.keep p1, hf.keep p2, hf.keep p3, fun V hV => p4 V (hV.old hf (by simp))⟩
  · obtain ⟨sv1, cv1, tv1, p0, p1, p2, p3, p4⟩ := h.rest j r hj hr
    exact ⟨sv1, cv1, tv1, hf.keep p0, hf.keep p1, hf.keep p2, hf.keep p3, p4⟩
theorem OwI.ses {w W w2 V : World} {s : SesD} {b1 b2 g cap : Nat} (h : OwI w s b1 b2 g cap s.roles.length W) (hf : Frm [b2] W w2) (hV : Agree w.heap.size w2 V) : SesV V (.agg #[.string s.name, .slice (some ⟨g, 0, none⟩) s.roles.length cap, .int .i64 s.cls, .int .i64 s.cap]) s := by
  refine ⟨_, rfl, _, cap, rfl, fun i r hr => ⟨g, 0, rfl, ?_⟩⟩
  obtain ⟨cur, hg⟩ := h.hg
  have hs := hf.size
  have hgl := lt_of_block hg
  have e : V.heap[g]? = W.heap[g]? := (hV g h.lg (by omega)).trans (hf.block g hgl (by simpa using h.ne.2.symm))
  obtain ⟨sv1, cv1, tv1, p0, p1, p2, p3, p4⟩ := h.done i r (lt_of_some hr) hr
  rw [Nat.zero_add]
  exact ⟨sv1, cv1, tv1, cell_eq p0 e, cell_eq p1 e, cell_eq p2 e, cell_eq p3 e, p4 V fun k h1 _ h3 h4 => (hV k h1 (by omega)).trans (hf.block k h4 (by simpa using h3))⟩
theorem Fr.cap {α : Type} {k : Nat} {e : TypeId} {At : World → Nat → Nat → α → Prop} {w w' : World} {xs : List α} {v : Value} (h : Fr k e At w xs v w') : ∀ ao n c, v = .slice ao n c → n ≤ c := by
  rintro ao n c rfl
  rcases h.own with rfl | ⟨news, ho⟩
  · obtain ⟨a, c', e⟩ := h.arr.shape
    cases e; exact Nat.zero_le _
  · rcases ho.2 with ⟨hv, hn⟩ | ⟨g, c', cur, hv, -, -, h1, -⟩
    · cases hv; omega
    · cases hv; exact h1
theorem OwI.start {w w0 w1 : World} {s : SesD} {b1 b2 c0 : Nat} {ao : Option Addr} {v : Value} (hf : Frm [] w w0) (h1 : w0.heap[b1]? = some (.cells #[.string s.name, .slice ao s.roles.length c0, .int .i64 s.cls, .int .i64 s.cap] 25 (0, 0)))
    (h2 : w0.heap[b2]? = some (.cells #[.string { data := #[] }, .slice none 0 0, .int .i64 0, .int .i64 0] 25 (0, 0))) (l1 : w.heap.size ≤ b1) (l2 : w.heap.size ≤ b2) (hne : b1 ≠ b2) (hr : Fr 4 53 (RoAt w) w0 s.roles v w1) (hn : 1 ≤ s.roles.length) :
    ∃ g cap, v = .slice (some ⟨g, 0, none⟩) s.roles.length cap ∧ OwI w s b1 b2 g cap 0 (w1.setCell ⟨b1, 1, none⟩ v) := by
  rcases hr.own with e | ⟨news, ho⟩
  · rw [e] at hn; simp at hn
  obtain ⟨g, cap, cur, rfl, hg, hc⟩ := own_block ho (by omega)
  have g1 := hr.frm.at h1 (by simp)
  have g2 := hr.frm.at h2 (by simp)
  have hs := hf.size
  have n1 : g ≠ b1 := fun e => by have := lt_of_block h1; omega
  have hF : Frm [b1] w1 (w1.setCell ⟨b1, 1, none⟩ (.slice (some ⟨g, 0, none⟩) s.roles.length cap)) := (Frm.refl _ _).setCell _ (.inl (by simp)) _
  refine ⟨g, cap, rfl, (hf.trans hr.frm).then hF (by intro x hx; simp at hx; subst hx; exact .inr l1), l1, l2, by omega, hne, (block_setCell g1 1 _).trans rfl, hF.at g2 (by simpa using hne.symm), ⟨cur, hF.at hc (by simpa using n1)⟩, fun j r hj => by omega, fun j r _ hj => ?_⟩
  obtain ⟨b, o, e, a0⟩ := hr.arr.get hj
  cases e
  obtain ⟨sv, cv, tv, p0, p1, p2, p3, p4⟩ := a0
  rw [Nat.zero_add] at p0 p1 p2 p3
  have hng : g ∉ [b1] := by simpa using n1
  exact ⟨sv, cv, tv, hF.cellAt p0 hng, hF.cellAt p1 hng, hF.cellAt p2 hng, hF.cellAt p3 hng, p4⟩
set_option maxHeartbeats 4000000 in
set_option maxRecDepth 100000 in
theorem pOwn_any (s : SesD) (v : Value) (w : World) (h : SesV w v s) (h1 : 1 ≤ s.roles.length) (h4 : s.roles.length ≤ 4) (hb : ∀ r ∈ s.roles, r.sts.length ≤ 1000 ∧ r.ctrs.length ≤ 1000 ∧ r.steps.length ≤ 1000) : Calls Tryz.prog 60 #[v] w (RetV (OwTo w s)) := by
  obtain ⟨rv, rfl, hr⟩ := h
  obtain ⟨ao, cap, rfl⟩ := hr.shape
  obtain ⟨n, hn⟩ : ∃ n, s.roles.length = n := ⟨_, rfl⟩
  have HR := Lib.hid hr
  have HF0 : Hid (Frm [] w ((w.alloc (.cells #[.string s.name, .slice ao n cap, .int .i64 s.cls, .int .i64 s.cap] 25)).alloc (.cells #[.string { data := #[] }, .slice none 0 0, .int .i64 0, .int .i64 0] 25))) := Lib.hid (((Frm.refl [] w).alloc _).alloc _)
  have CR := Lib.hid (clRoleAt_any w (.slice ao s.roles.length cap) s.roles _ ((RoAt.of hr).frm fun _ _ _ h => h.frm HF0.out) (by omega))
  have HB := Lib.hid hb
  rw [hn] at CR HR
  rw [hn] at h1 h4
  have HN := Lib.hid hn
  have B1 : Hid (((w.alloc (.cells #[.string s.name, .slice ao n cap, .int .i64 s.cls, .int .i64 s.cap] 25)).alloc (.cells #[.string { data := #[] }, .slice none 0 0, .int .i64 0, .int .i64 0] 25)).heap[w.heap.size]? = some (.cells #[.string s.name, .slice ao n cap, .int .i64 s.cls, .int .i64 s.cap] 25 (0, 0))) := Lib.hid (alloc_at (heap_alloc_new _ _))
  have B2 : Hid (((w.alloc (.cells #[.string s.name, .slice ao n cap, .int .i64 s.cls, .int .i64 s.cap] 25)).alloc (.cells #[.string { data := #[] }, .slice none 0 0, .int .i64 0, .int .i64 0] 25)).heap[w.heap.size + 1]? = some (.cells #[.string { data := #[] }, .slice none 0 0, .int .i64 0, .int .i64 0] 25 (0, 0))) := Lib.hid (alloc_top (by simp))
  rw [hn]
  clear hr hn hb
  go_enter Tryz.func60, Tryz.ntmps60
  go_wp2_with (first
    | (go_at_call 119; go_must (refine CR.out.mono ?_; rintro e w1 ⟨u, rfl, hr⟩; have hi := OwI.start (b1 := w.heap.size) (b2 := w.heap.size + 1) (c0 := cap) (ao := ao) HF0.out (by rw [HN.out]; exact B1.out) B2.out (Nat.le_refl _) (by omega) (by omega) hr (by rw [HN.out]; exact h1); rw [HN.out] at hi; obtain ⟨g, c1, rfl, hoi⟩ := hi; have HI := Lib.hid hoi; have b1 := hr.frm.at B1.out (by simp); have d1 := cell_of b1 1; have f1 := free_of b1 1; have e1 := cell_of hoi.h1 1; rw [HN.out] at e1; clear hr b1 hoi)))
  go_loopw [12] (fun s12 wr => ∃ i : Nat, s12 = .int .i64 i ∧ i ≤ n ∧ OwI w s w.heap.size (w.heap.size + 1) g c1 i wr) (fun s12 _ => n - (intOf s12).toNat)
  case atStart => exact ⟨0, rfl, Nat.zero_le _, HI.out⟩
  case round =>
    obtain ⟨i, rfl, hi, ho⟩ := hrel
    have HO := Lib.hid ho
    clear ho d1 f1 e1
    by_cases hlt : i < n
    · have hlt' : (i : Int) < (n : Int) := by omega
      obtain ⟨r, hr⟩ : ∃ r, s.roles[i]? = some r := ⟨_, List.getElem?_eq_getElem (by rw [HN.out]; exact hlt)⟩
      obtain ⟨sv, cv, tv, p0, p1, p2, p3, p4⟩ := HO.out.rest i r (Nat.le_refl _) hr
      have HRR := Lib.hid hr; have HP := Lib.hid p4
      have c1' := cell_of HO.out.h1 1
      rw [HN.out] at c1'
      have hgl := cell_lt p0
      have hbr := HB.out r (List.mem_of_getElem? hr)
      obtain ⟨aS, cS, rfl⟩ := p4.sts.shape
      obtain ⟨aC, cC, rfl⟩ := p4.ctrs.shape
      obtain ⟨aT, cT, rfl⟩ := p4.steps.shape
      have CS : Hid (∀ V, Frm [] w V → Calls Tryz.prog 120 #[.slice aS r.sts.length cS] V (RetV (Fr 3 62 StAt V r.sts))) := Lib.hid fun V hV => clState_any _ r.sts V ((p4.frm hV).sts) (by omega)
      have CC : Hid (∀ V, Frm [] w V → Calls Tryz.prog 121 #[.slice aC r.ctrs.length cC] V (RetV (Fr 2 182 CtAt V r.ctrs))) := Lib.hid fun V hV => clCtr_any _ r.ctrs V ((p4.frm hV).ctrs) (by omega)
      have CT : Hid (∀ V, Frm [] w V → Calls Tryz.prog 122 #[.slice aT r.steps.length cT] V (RetV (Fr 9 60 SpAt V r.steps))) := Lib.hid fun V hV => clStep_any _ r.steps V ((p4.frm hV).steps) (by omega)
      clear hr p4 hbr
      obtain ⟨nS, hnS⟩ : ∃ m, r.sts.length = m := ⟨_, rfl⟩
      obtain ⟨nC, hnC⟩ : ∃ m, r.ctrs.length = m := ⟨_, rfl⟩
      obtain ⟨nT, hnT⟩ : ∃ m, r.steps.length = m := ⟨_, rfl⟩
      have HLS := Lib.hid hnS; have HLC := Lib.hid hnC; have HLT := Lib.hid hnT
      rw [hnS] at CS p1
      rw [hnC] at CC p2
      rw [hnT] at CT p3
      clear hnS hnC hnT
      go_upto_region 5 with fail
      obtain ⟨W4, hW4⟩ : ∃ W4, wr.alloc (.cells #[.string r.name, .slice aS nS cS, .slice aC nC cC, .slice aT nT cT] 53) = W4 := ⟨_, rfl⟩
      have hf4 : Frm [] wr W4 := by rw [← hW4]; exact (Frm.refl _ _).alloc _
      have hq4 : W4.heap[wr.heap.size]? = some (.cells #[.string r.name, .slice aS nS cS, .slice aC nC cC, .slice aT nT cT] 53 (0, 0)) := by rw [← hW4]; exact heap_alloc_new _ _
      rw [hW4]
      have HF4 := Lib.hid hf4
      have HO4 := Lib.hid (HO.out.frm hf4)
      have HS : Hid (∀ V, Frm [g] W4 V → V.cell? ⟨w.heap.size, 1, none⟩ = some (.slice (some ⟨g, 0, none⟩) n c1) ∧ V.cell? ⟨wr.heap.size, 1, none⟩ = some (.slice aS nS cS) ∧ V.cell? ⟨wr.heap.size, 2, none⟩ = some (.slice aC nC cC) ∧ V.cell? ⟨wr.heap.size, 3, none⟩ = some (.slice aT nT cT)) := Lib.hid fun V hV => by
        have n1 := HO4.out.ne.1
        have h1 := hV.at HO4.out.h1 (by simpa using n1)
        rw [HN.out] at h1
        have h2 := hV.at hq4 (by simp; omega)
        exact ⟨cell_of h1 1, cell_of h2 1, cell_of h2 2, cell_of h2 3⟩
      clear hf4 hq4 hW4 p0 p1 p2 p3 c1'
      go_region_held3 (fun V => V.cell? ⟨w.heap.size, 1, none⟩ = some (.slice (some ⟨g, 0, none⟩) n c1) ∧ V.cell? ⟨wr.heap.size, 1, none⟩ = some (.slice aS nS cS) ∧ V.cell? ⟨wr.heap.size, 2, none⟩ = some (.slice aC nC cC) ∧ V.cell? ⟨wr.heap.size, 3, none⟩ = some (.slice aT nT cT))
        (first
          | exact HS.out _ ((Frm.refl [g] W4).drew)
          | exact HS.out _ F5.out
          | exact HS.out _ F6.out
          | exact HS.out _ F7.out
          | exact HS.out _ (F7.out.setCell _ (.inl (by simp)) _)
          | exact HS.out _ ((F7.out.setCell _ (.inl (by simp)) _).setCell _ (.inl (by simp)) _)
          | exact HS.out _ (((F7.out.setCell _ (.inl (by simp)) _).setCell _ (.inl (by simp)) _).setCell _ (.inl (by simp)) _))
        (first
          | (go_at_call 120; go_must (refine (CS.out _ (HO4.out.fr.drew)).mono ?_; rintro e w5 ⟨u, rfl, hr⟩; have F5 : Hid (Frm [g] W4 w5) := Lib.hid (((Frm.refl [g] W4).drew).trans (hr.frm.mono (by simp))); have G5 : Hid (Frm [] w w5) := Lib.hid (HO4.out.fr.drew.trans hr.frm); have K5 : Hid (Frm [] W4 w5) := Lib.hid ((Frm.refl [] W4).drew.trans hr.frm); have hst := hr.stb StAt.leaf; rw [HLS.out] at hst; obtain ⟨a5, k5, rfl, hst⟩ := hst; have HT5 := Lib.hid hst; clear hst hr))
          | (go_at_call 121; go_must (refine (CC.out _ G5.out).mono ?_; rintro e w6 ⟨u, rfl, hr⟩; have F6 : Hid (Frm [g] W4 w6) := Lib.hid (F5.out.trans (hr.frm.mono (by simp))); have G6 : Hid (Frm [] w w6) := Lib.hid (G5.out.trans hr.frm); have E6 := Lib.hid hr.frm; have K6 : Hid (Frm [] W4 w6) := Lib.hid (K5.out.trans hr.frm); have hst := hr.stb CtAt.leaf; rw [HLC.out] at hst; obtain ⟨a6, k6, rfl, hst⟩ := hst; have HT6 := Lib.hid hst; clear hst hr))
          | (go_at_call 122; go_must (refine (CT.out _ G6.out).mono ?_; rintro e w7 ⟨u, rfl, hr⟩; have F7 : Hid (Frm [g] W4 w7) := Lib.hid (F6.out.trans (hr.frm.mono (by simp))); have E7 := Lib.hid hr.frm; have K7 : Hid (Frm [] W4 w7) := Lib.hid (K6.out.trans hr.frm); have h7 := HO4.out.frm K7.out; obtain ⟨v1, v2, v3, -, z1, z2, z3, -⟩ := h7.rest i r (Nat.le_refl _) HRR.out; obtain ⟨cur, hgc⟩ := h7.hg; have y1 := free_of hgc (i * 4 + 1); have y2 := free_of hgc (i * 4 + 2); have y3 := free_of hgc (i * 4 + 3); clear hgc h7; have hcp := hr.cap; have HCP := Lib.hid hcp; clear hcp; have hst := hr.stb SpAt.leaf; rw [HLT.out] at hst; obtain ⟨a7, k7, rfl, hst⟩ := hst; have HT7 := Lib.hid hst; clear hst hr)))
      have HC3 : Hid (Cl3 W4 (.slice a5 nS k5) (.slice a6 nC k6) (.slice a7 nT k7) r w7) := Lib.hid (by
        have s5 := K5.out.size; have s6 := K6.out.size; have e6 := E6.out.size
        have e56 := E6.out.trans E7.out
        refine ⟨K7.out, fun V hV => ?_, fun V hV => ?_, fun V hV => ?_, HCP.out⟩
        · have := HT5.out V V (hV.old e56 (by simp)) (hV.old e56 (by simp))
          rw [← HLS.out] at this ⊢; exact this
        · have h8 := (hV.old E7.out (by simp)).low s5
          have := HT6.out V V h8 h8
          rw [← HLC.out] at this ⊢; exact this
        · have h8 := hV.low s6
          have := HT7.out V V h8 h8
          rw [← HLT.out] at this ⊢; exact this)
      go_wp2
      exact ⟨⟨i + 1, congrArg (Value.int .i64) (by omega), hlt, HO4.out.step HRR.out HC3.out⟩, by simp [intOf]; omega⟩
    · obtain rfl : i = n := by omega
      have hge : ¬ (i : Int) < (i : Int) := by omega
      have hc1 := HO.out.h1
      rw [HN.out] at hc1
      have HC2 := Lib.hid HO.out.h2
      have x0 := cell_of hc1 0
      have x1 := cell_of hc1 1
      have x2 := cell_of hc1 2
      have x3 := cell_of hc1 3
      clear hc1
      go_wp2_with (first
        | (refine wpList_store_row rfl 25 _ _ rfl _ _ _ 25 rfl rfl HC2.out rfl (by kernel_rfl) (by simp [Value.oneCell']) ?_; intro w2 hb2 hf2))
      refine bodyPost_ret (results_c1 (d := _) (Tryz.results60) rfl hb2 rfl Tryz.underlying25 (by kernel_rfl)) rfl ⟨_, rfl, ?_⟩
      have hoi := HO.out
      rw [← HN.out] at hoi
      exact ⟨⟨g, c1, by rw [HN.out]⟩, hoi.fr.then hf2 (by intro x hx; simp at hx; subst hx; right; omega), fun V hV => by have := hoi.ses hf2 hV; rwa [HN.out] at this⟩
end Go.Proofs.YtkphhjekfimmlaaGreat
namespace Go.Proofs.YtkphhjekfimmlaaGreat
open Go.RowKit Go.BigFrame

theorem pDo_yes (s : SesD) (yb fb sb : Nat) (x : PS) (m : Mv) (w : World) (h : SyR w s yb fb) (hx : StR w s yb sb x) (hm : m ∈ movesP s x) :
    Calls Tryz.prog 24 #[.pointer (some ⟨yb, 0, none⟩), .pointer (some ⟨sb, 0, none⟩), mvV m] w (RetV (StTo w s yb (nextP s x m))) := by
  rcases mem_movesP.1 hm with ⟨i, k, hi, hk, h2⟩ | ⟨i, k, hi, hk, h2⟩
  · exact pDo_step s yb fb sb i k x m w h hx hm hi hk h2
  · exact pDo_lose s yb fb sb i k x m w h hx hm hi hk (mem_loseMv.1 h2).1
/-- what Moves hands back -/
def MvsTo (w : World) (L : List Mv) (v : Value) (w' : World) : Prop := ∃ B u, v = .func (.func 110) #[] #[.pointer (some ⟨B, 0, none⟩)] ∧ MvI B u L w' ∧ Frm [] w w' ∧ w.heap.size ≤ B
set_option maxHeartbeats 2000000 in
set_option maxRecDepth 100000 in
theorem pMoves_any (s : SesD) (yb fb sb : Nat) (x : PS) (w : World) (h : SyR w s yb fb) (hx : StR w s yb sb x) : Calls Tryz.prog 16 #[.pointer (some ⟨yb, 0, none⟩), .pointer (some ⟨sb, 0, none⟩)] w (RetV (MvsTo w (movesP s x))) := by
  have C1 := Lib.hid (pCheck_any s yb fb sb x w h hx)
  have C2 := Lib.hid (pmoves_any s yb fb sb x w h hx)
  clear h hx
  go_enter Tryz.func16, Tryz.ntmps16
  go_wp2_with (first
    | (go_at_call 56; go_must (refine C1.out.mono ?_; rintro e w' ⟨rfl, rfl⟩))
    | (go_at_call 57; go_must (refine C2.out.mono ?_; rintro e w1 ⟨v, rfl, ha, hf⟩; obtain ⟨ao, cq, rfl⟩ := ha.shape; have HA := Lib.hid ha; have HF := Lib.hid hf; have C3 := Lib.hid (alMove_any _ (movesP s x) w1 ha); clear ha hf))
    | (go_at_call 58; go_must (refine C3.out.mono ?_; rintro e w2 ⟨v, rfl, rfl, ha, hf⟩; have HB := Lib.hid ha; have HG := Lib.hid hf; clear ha hf)))
  go_ret
  exact ⟨_, rfl, _, _, rfl, HB.out, HF.out.trans HG.out, HF.out.size⟩
set_option maxHeartbeats 2000000 in
set_option maxRecDepth 100000 in
theorem pSession_any (s : SesD) (yb fb : Nat) (w : World) (h : SyR w s yb fb) : Calls Tryz.prog 26 #[.pointer (some ⟨yb, 0, none⟩)] w (RetV (OwTo w s)) := by
  have hf0 : Frm [] w (w.alloc (.cells #[.string { data := #[] }, .slice none 0 0, .int .i64 0, .int .i64 0] 25)) := (Frm.refl [] w).alloc _
  have C1 := Lib.hid (pNone_any s yb fb _ (h.frm hf0))
  have hok := h.ok
  obtain ⟨rv, h1, h2⟩ := h.out
  have CO := Lib.hid (pOwn_any s (.agg #[.string s.name, rv, .int .i64 s.cls, .int .i64 s.cap]) _ ⟨rv, rfl, h2.frm hf0⟩ (by have := hok.n2; omega) hok.n4 (fun r hr => ⟨by have := (hok.rol r hr).s24; omega, by have := (hok.rol r hr).c4; omega, by have := (hok.rol r hr).t80; omega⟩))
  have HF0 := Lib.hid hf0
  have B0 := Lib.hid (heap_alloc_new w (.cells #[.string { data := #[] }, .slice none 0 0, .int .i64 0, .int .i64 0] 25))
  have hl := lt_of_block h1
  have c0 := cell_of h1 0
  have c1 := cell_of h1 1
  have c2 := cell_of h1 2
  have c3 := cell_of h1 3
  clear h h1 h2 hf0 hok
  go_enter Tryz.func26, Tryz.ntmps26
  go_wp2_with (first
    | (go_at_call 63; go_must (refine C1.out.mono ?_; rintro e w' ⟨rfl, rfl⟩))
    | (go_at_call 60; go_must (refine CO.out.mono ?_; rintro e w1 ⟨v, rfl, ho⟩; obtain ⟨g, cg, rfl⟩ := ho.shape; have HO := Lib.hid ho; have B1 := Lib.hid (ho.frm.at B0.out (by simp)); clear ho))
    | (refine wpList_store_row rfl 25 _ _ rfl _ _ _ 25 rfl rfl B1.out rfl (by kernel_rfl) (by simp [Value.oneCell']) ?_; intro w2 hb2 hf2))
  refine bodyPost_ret (results_c1 (d := _) (Tryz.results26) rfl hb2 rfl Tryz.underlying25 (by kernel_rfl)) rfl ⟨_, rfl, ⟨g, cg, rfl⟩, (HF0.out.trans HO.out.frm).then hf2 (by intro y hy; simp at hy; right; omega), fun V hV => HO.out.ses V ?_⟩
  have hs := hf2.size
  intro k h1 h2
  rw [hV k (by simp at h1; omega) (by omega)]
  exact hf2.block k h2 (by simp at h1 ⊢; omega)
end Go.Proofs.YtkphhjekfimmlaaGreat
namespace Go.Proofs.YtkphhjekfimmlaaGreat
open Go.RowKit Go.BigFrame

theorem num33_any (e : Int) (w : World) : Calls Tryz.prog 19 #[.int .i64 e] w (Ret (.int .i64 e) (w = ·)) := by
  go_enter Tryz.func19, Tryz.ntmps19
  go_wp2
  go_ret
  exact ⟨rfl, rfl⟩
/-- the moves that listed hands back -/
def LsTo (w : World) (L : List Mv) (v : Value) (w' : World) : Prop := ∃ ao cap, v = .tuple #[.slice ao L.length cap, .bool true] ∧ Arr 4 MvAt w' (.slice ao L.length cap) L ∧ Frm [] w w'
theorem LsTo.frm {w w' w2 : World} {L : List Mv} {v : Value} (h : LsTo w L v w') (hf : Frm [] w' w2) : LsTo w L v w2 := by
  obtain ⟨ao, cap, h1, h2, h3⟩ := h
  exact ⟨ao, cap, h1, h2.frm fun _ _ _ h => h.frm hf, h3.trans hf⟩
theorem Tryz.undMoves : Tryz.prog.underlying 67 = some (.slice 45) := Tryz.underlying67
theorem Tryz.call_alMove1 (args : Array Value) (w : World) : (callFunc 110 args).run Tryz.prog w = .ok (.enter 110 args) w := by kernel_rfl
theorem numL_snd {α : Type} (L : List α) : (numL L).map Prod.snd = L := by
  refine List.ext_getElem? fun i => ?_
  rw [List.getElem?_map, numL_at]
  cases L[i]? <;> rfl
theorem numL_pre {α : Type} {L : List α} {pre rest : List (Nat × α)} {y : Nat × α} (h : numL L = pre ++ y :: rest) : y.1 = pre.length ∧ pre.length < L.length := by
  have h1 : (numL L)[pre.length]? = some y := by rw [h, List.getElem?_append_right (Nat.le_refl _), Nat.sub_self]; rfl
  rw [numL_at, Option.map_eq_some_iff] at h1
  obtain ⟨m, hm, rfl⟩ := h1
  exact ⟨rfl, lt_of_some hm⟩
/-- the end of listed: what was collected is stored into the result -/
theorem ls_end {w w2 W : World} {ob D : Nat} {L : List Mv} {fn : Func} {tmps : Array Value} (hf2 : Frm [] w w2) (h : MB w2 ob L W) (hr1 : w2.heap[w.heap.size]? = some (.cells #[.slice none 0 0] 67 (0, 0))) (hr2 : w2.heap[w.heap.size + 1]? = some (.cells #[.bool false] 4 (0, 0)))
    (hD : w2.heap.size ≤ D) (hk : W.heap[D]? = some (.deferred (some []))) {ao : Option Addr} {cap : Nat} (_ : W.heap[ob]? = some (.cells #[.slice ao L.length cap] 67 (0, 0))) (ho : W.ownsRow w2.heap.size 45 4 (.slice ao L.length cap) L.length (mvC L))
    (hr : ∀ V : World, V.heap[w.heap.size]? = some (.cells #[.slice ao L.length cap] 67 (0, 0)) → V.heap[w.heap.size + 1]? = some (.cells #[.bool true] 4 (0, 0)) → (results fn tmps).run Tryz.prog V = .ok (.tuple #[.slice ao L.length cap, .bool true]) V) :
    LeavesInM Fence.wide 3 Tryz.prog fn tmps (RetV (LsTo w L)) [{ target := .collected D, args := #[] }] .returning ((W.setCell ⟨w.heap.size, 0, none⟩ (.slice ao L.length cap)).setCell ⟨w.heap.size + 1, 0, none⟩ (.bool true)) := by
  have k1 := h.fr.at hr1 (by simp)
  have k2 := h.fr.at hr2 (by simp)
  have hl1 := lt_of_block hr1
  have hl2 := lt_of_block hr2
  obtain ⟨W4, hW4⟩ : ∃ W4, (W.setCell ⟨w.heap.size, 0, none⟩ (.slice ao L.length cap)).setCell ⟨w.heap.size + 1, 0, none⟩ (.bool true) = W4 := ⟨_, rfl⟩
  have hf4 : Frm [w.heap.size, w.heap.size + 1] W W4 := by rw [← hW4]; exact ((Frm.refl _ W).setCell _ (.inl (by simp)) _).setCell _ (.inl (by simp)) _
  have g1 : W4.heap[w.heap.size]? = some (.cells #[.slice ao L.length cap] 67 (0, 0)) := by rw [← hW4]; exact setCell_at ((block_setCell k1 0 _).trans rfl) (by simp) _
  have g2 : W4.heap[w.heap.size + 1]? = some (.cells #[.bool true] 4 (0, 0)) := by rw [← hW4]; exact (block_setCell (setCell_at k2 (by simp) _) 0 _).trans rfl
  have gD : W4.heap[D]? = some (.deferred (some [])) := hf4.at hk (by simp; omega)
  have go4 : W4.ownsRow w2.heap.size 45 4 (.slice ao L.length cap) L.length (mvC L) := hf4.owns ho (fun q hq hm => by have := ownBlock_ge ho hq; simp at hm; omega)
  rw [hW4]
  have hfp := Frm.putObj W4 D (.deferred none)
  refine leaves_mark gD ⟨_, hr _ (hfp.at g1 (by simp; omega)) (hfp.at g2 (by simp; omega)), _, rfl, _, _, rfl, mv_arr (hfp.owns go4 fun q hq hm => ?_), ?_⟩
  · simp at hm
    subst hm
    obtain ⟨c, hc⟩ := ownBlock_type go4 hq
    rw [gD] at hc; cases hc
  · exact ((hf2.trans h.fr).then hf4 (by intro x hx; simp at hx; omega)).then hfp (by intro x hx; simp at hx; have := hf2.size; omega)
attribute [local go_sem] Oper.semAt_some
set_option maxHeartbeats 4000000 in
set_option maxRecDepth 100000 in
theorem listed_any (yv xv : Option Addr) (L : List Mv) (w : World) (hL : L.length ≤ 5000) (hm : ∀ W, Frm [] w W → Calls Tryz.prog 16 #[.pointer yv, .pointer xv] W (RetV (MvsTo W L))) :
    Calls Tryz.prog 23 #[.pointer yv, .pointer xv] w (RetV (LsTo w L)) := by
  obtain ⟨X0, hX0⟩ : ∃ X0, (w.alloc (.cells #[.slice none 0 0] 67)).alloc (.cells #[.bool false] 4) = X0 := ⟨_, rfl⟩
  have hfx : Frm [] w X0 := by rw [← hX0]; exact ((Frm.refl _ _).alloc _).alloc _
  have HR1 : Hid (X0.heap[w.heap.size]? = some (.cells #[.slice none 0 0] 67 (0, 0))) := Lib.hid (by rw [← hX0]; exact alloc_at (heap_alloc_new _ _))
  have HR2 : Hid (X0.heap[w.heap.size + 1]? = some (.cells #[.bool false] 4 (0, 0))) := Lib.hid (by rw [← hX0]; exact alloc_top (by simp))
  have CM := Lib.hid (hm X0 hfx)
  have HFX := Lib.hid hfx; have HE := Lib.hid hX0
  have hnf := fun W f lb => run_eql_func (P := Tryz.prog) W 39 #[213] #[] false f lb Tryz.underlying39
  clear hm hfx hX0
  refine calls_of_marks Tryz.func23 rfl ?_
  simp only [Tryz.ntmps23, List.size_toArray, List.length_cons, List.length_nil, Nat.reduceAdd, Nat.reduceSub, Array.replicate_succ, Array.replicate_zero, List.push_toArray, List.append_toArray, List.nil_append, List.cons_append]
  go_upto_region 1 with fail
  rw [HE.out]
  go_upto_region 4 with (first
    | (go_at_call 16; go_must (refine CM.out.mono ?_; rintro e w2 ⟨v, rfl, B, u, rfl, hi, hf, hB⟩; have HI := Lib.hid hi; have HF2 := Lib.hid hf; clear hi hf CM)))
  have HW1 := Lib.hid (HF2.out.at HR1.out (by simp)); have HW2 := Lib.hid (HF2.out.at HR2.out (by simp))
  have HG2 : Hid (Frm [] w w2) := Lib.hid (HFX.out.trans HF2.out)
  have hit := mv_iter B u L (by omega)
  have HMB : Hid (MB w2 w2.heap.size [] (w2.alloc (.cells #[.slice none 0 0] 67))) := Lib.hid (BO.made w2 _ _ _ ((Frm.refl _ _).alloc _) (Nat.le_refl _) (heap_alloc_new _ _))
  have HLL := Lib.hid hL
  clear HR1 HR2 HFX HF2 hnf hB hL
  go_wp2
  refine wp_rangeList rfl (enters_of Tryz.func110 (by kernel_rfl) rfl) hit (fun _ => rfl) (fun pre W => MB w2 w2.heap.size (pre.map Prod.snd) W) (fun _ _ _ => False) (fun _ _ _ h hb => BO.bk h hb (by simp)) (fun _ _ _ _ h _ => h) (fun _ W h => HI.out.frm h.fr) HMB.out ?_ ?_ (fun _ _ _ _ _ _ _ _ h => h.elim)
  · intro l pre y rest W hxs hI hl hlr
    obtain ⟨hy, hpl⟩ := numL_pre hxs
    have HIM := Lib.hid hI
    clear hI hlr hl hxs hit HMB
    obtain ⟨yi, ym⟩ := y
    simp only at hy
    subst hy
    have HPL : Hid ((pre.map Prod.snd).length = pre.length) := Lib.hid (List.length_map ..)
    obtain ⟨q, hq⟩ : ∃ q, pre.length = q := ⟨_, rfl⟩
    have HQ := Lib.hid hq
    rw [hq]
    rw [hq] at hpl HPL
    have hq5 : q < 5000 := by have := HLL.out; omega
    have HSN : Hid ((pre ++ [(q, ym)]).map Prod.snd = pre.map Prod.snd ++ [ym]) := Lib.hid (by rw [List.map_append]; rfl)
    obtain ⟨L0, hL0⟩ : ∃ L0, pre.map Prod.snd = L0 := ⟨_, rfl⟩
    rw [hL0] at HIM HPL HSN
    clear hq hL0 hpl
    gi_wp2
    refine ⟨KB.frm0 ((Frm.refl [] W).alloc _), fun Wq hbk _ => ?_⟩
    have hcv : Wq.heap[W.heap.size]? = some (.cells #[.int .i64 ym.kind, .int .i64 ym.role, .int .i64 ym.step, .int .i64 ym.place] 45 (0, 0)) := hbk.at (heap_alloc_new W _) rfl
    have HB2 : Hid (MB w2 w2.heap.size L0 Wq) := Lib.hid (BO.bk (BO.frm HIM.out ((Frm.refl _ _).alloc _)) hbk (by simp))
    have y0 := cell_of hcv 0
    have y1 := cell_of hcv 1
    have y2 := cell_of hcv 2
    have y3 := cell_of hcv 3
    obtain ⟨ao, cp, hb1, hb2⟩ := HB2.out.bx
    rw [HPL.out] at hb1 hb2
    have cx := cell_of hb1 0
    have HBX := Lib.hid hb1; have HBO := Lib.hid hb2
    obtain ⟨i0, hi0, hz0, hz1, hz2⟩ := info_parts Tryz.infoMv
    have hsz : w2.heap.size ≤ (Wq.alloc (.cells #[.int .i64 ym.kind, .int .i64 ym.role, .int .i64 ym.step, .int .i64 ym.place] 45)).heap.size := by have := HB2.out.fr.size; simp; omega
    clear hbk hb1 hb2 hcv
    gi_wp2_with (gi_at_builtin; refine wpListIn_append_own _ rfl _ _ 67 rfl w2.heap.size 45 i0 (.agg #[.int .i64 0, .int .i64 0, .int .i64 0, .int .i64 0]) 4 32 Tryz.underlying67 hi0 hz0 hz1 hz2 rfl (by decide) (.slice ao q cp) q (mvC L0) rfl (HBO.out.alloc _) ⟨Wq.heap.size, 0, none⟩ 1 1 (mvC1 ym) rfl rfl (new_row _ _ _) (by simp [mvC1, Value.oneCell']) (by unfold maxLen; omega) (by omega) hsz ?_; intro v' w6 hown' hgrow _; obtain ⟨ao', cp', rfl⟩ := own_shape hown'; have hbx := BO.facts HBX.out HBO.out (by decide) hgrow; have cx6 := cell_of hbx 0; have fx6 := free_of hbx 0; have HG := Lib.hid hgrow; have HO := Lib.hid hown'; clear hgrow hown' hbx cx)
    have h9 := MB.add ym HB2.out (by rw [HPL.out]; exact HBX.out) (by rw [HPL.out]; exact HBO.out) (by rw [HPL.out]; exact HG.out) (by rw [HPL.out]; exact HO.out)
    refine ⟨h9.2.kb, ?_⟩
    show MB w2 w2.heap.size ((pre ++ [(q, ym)]).map Prod.snd) _
    rw [HSN.out]
    exact h9.1
  · intro D W hD hI hK
    rw [numL_snd] at hI
    have HM := Lib.hid hI; have HKD := Lib.hid hK
    have hD' : w2.heap.size ≤ D := by simp at hD; omega
    have HDD := Lib.hid hD'
    obtain ⟨ao, cp, hb1, hb2⟩ := HM.out.bx
    have HBX := Lib.hid hb1; have HBO := Lib.hid hb2
    have cx := cell_of hb1 0
    have k1 := HM.out.fr.at HW1.out (by simp)
    have k2 := HM.out.fr.at HW2.out (by simp)
    have c1 := cell_of k1 0
    have c2 := cell_of k2 0
    have f1 := free_of k1 0
    have f2 := free_of k2 0
    have l1 := lt_of_block k1
    have l2 := lt_of_block k2
    clear hI hK hD hD' hit hb1 hb2 k1 k2
    go_wp2
    exact ls_end HG2.out HM.out HW1.out HW2.out HDD.out HKD.out HBX.out HBO.out (fun V v1 v2 => by
      have d1 := cell_of v1 0
      have d2 := cell_of v2 0
      simp [results, Tryz.results23, go_sem, d1, d2])
end Go.Proofs.YtkphhjekfimmlaaGreat
namespace Go.Proofs.YtkphhjekfimmlaaGreat
open Go.RowKit Go.BigFrame

theorem Tryz.call_pFinal1 (args : Array Value) (w : World) : (callFunc 104 args).run Tryz.prog w = .ok (.enter 104 args) w := by kernel_rfl
set_option maxRecDepth 100000 in
theorem pFinal1_any (cb : Nat) (cls cap : Int) (L : List ByteArray) (F : List Nat) (w : World) (h : Chn w cb cls cap L F) : Calls Tryz.prog 104 #[.pointer (some ⟨cb, 0, none⟩)] w (Ret (.bool (decide (0 < L.length))) (Frm [] w)) := by
  have CL := Lib.hid (len_any h)
  have e : decide (0 < L.length) = decide ((0 : Int) < (L.length : Int)) := by rw [decide_eq_decide]; omega
  rw [e]
  clear h e
  go_enter Tryz.func104, Tryz.ntmps104
  go_wp2_with (go_at_call 71; go_must (refine CL.out.mono ?_; rintro e w1 ⟨rfl, hf⟩; have HF := Lib.hid hf; clear hf))
  go_ret
  exact ⟨by simp, HF.out⟩
def busyB (Ls : List (List ByteArray)) : Bool := Ls.any fun l => decide (0 < l.length)
theorem busy_ixf (Ls : List (List ByteArray)) : decide (0 ≤ ixf (fun l => decide (0 < l.length)) Ls) = busyB Ls := by
  unfold busyB
  rw [Bool.eq_iff_iff, decide_eq_true_eq, List.any_eq_true]
  constructor
  · intro h
    obtain ⟨i, hi, -⟩ := ixf_nat h
    obtain ⟨x, h1, h2, -⟩ := ixf_at hi
    exact ⟨x, List.mem_of_getElem? h1, h2⟩
  · rintro ⟨x, h1, h2⟩
    exact ixf_ex h1 h2
set_option maxRecDepth 100000 in
theorem cfChan_any (cls cap : Int) (v : Value) (Ls : List (List ByteArray)) (w : World) (h : RowV cls cap w v Ls) (hl : Ls.length ≤ 1000) : Calls Tryz.prog 103 #[v, .func (.func 104) #[] #[]] w (Ret (.bool (busyB Ls)) (Frm [] w)) := by
  have CI := Lib.hid (ifChan_any cls cap 104 #[] (fun l => decide (0 < l.length)) v Ls w h hl Tryz.call_pFinal1 (fun W x cb F _ _ hc => pFinal1_any cb cls cap x F W hc))
  obtain ⟨ao, cq, rfl⟩ := Arr.shape h
  rw [← busy_ixf]
  obtain ⟨q, hq⟩ : ∃ q, ixf (fun l : List ByteArray => decide (0 < l.length)) Ls = q := ⟨_, rfl⟩
  rw [hq] at CI ⊢
  clear h hl hq
  go_enter Tryz.func103, Tryz.ntmps103
  go_wp2_with (go_at_call 148; go_must (refine CI.out.mono ?_; rintro e w1 ⟨rfl, hf⟩; have HF := Lib.hid hf; clear hf))
  go_ret
  exact ⟨rfl, HF.out⟩
/-- whether role i has ended -/
def endB (s : SesD) (x : PS) (i : Nat) : Bool := (x.ways.getD i []).all (fun l => l.isEmpty) && ((s.rol i).sts.getD (x.at i) dS).fin
theorem busy_all (Ls : List (List ByteArray)) : (Ls.all fun l => l.isEmpty) = !busyB Ls := by
  unfold busyB
  rw [Bool.eq_iff_iff, List.all_eq_true, Bool.not_eq_true', List.any_eq_false]
  constructor
  · intro h x hx
    have := h x hx
    rw [List.isEmpty_iff] at this
    simp [this]
  · intro h x hx
    have := h x hx
    rw [decide_eq_true_eq] at this
    rw [List.isEmpty_iff, ← List.length_eq_zero_iff]; omega
set_option maxHeartbeats 2000000 in
set_option maxRecDepth 100000 in
theorem pFinal_any (s : SesD) (yb fb sb : Nat) (x : PS) (w : World) (h : SyR w s yb fb) (hx : StR w s yb sb x) : Calls Tryz.prog 52 #[.pointer (some ⟨yb, 0, none⟩), .pointer (some ⟨sb, 0, none⟩)] w (Ret (.tuple #[.bool (finalB s x), .int .i64 0]) (Frm [] w)) := by
  have HSY := Lib.hid h; have HST := Lib.hid hx
  have C1 := Lib.hid (pCheck_any s yb fb sb x w h hx)
  obtain ⟨av, wv, h1, h2, h3⟩ := hx.out
  obtain ⟨aa, ca, rfl⟩ := h2.shape
  obtain ⟨aw, cw, rfl⟩ := h3.shape
  rw [actsP_len, hx.ok.wl] at h1
  obtain ⟨n, hn⟩ : ∃ n, s.roles.length = n := ⟨_, rfl⟩
  rw [hn] at h1
  have x1 := cell_of h1 1
  have HX1 := Lib.hid x1
  have HN := Lib.hid hn
  have HFB : Hid (finalB s x = (List.range n).all fun i => endB s x i) := Lib.hid (by rw [← hn]; rfl)
  obtain ⟨fb', hfb⟩ : ∃ b, finalB s x = b := ⟨_, rfl⟩
  rw [hfb] at HFB ⊢
  have hn4 : n ≤ 4 := by rw [← hn]; exact h.ok.n4
  clear h hx h1 h2 h3 hn hfb
  go_enter Tryz.func52, Tryz.ntmps52
  go_wp2_with (first
    | (go_at_call 56; go_must (refine C1.out.mono ?_; rintro e w' ⟨rfl, rfl⟩)))
  clear x1 C1
  go_loopw [21] (fun s21 wr => ∃ i : Nat, s21 = .int .i64 i ∧ i ≤ n ∧ Frm [] w wr ∧ ∀ j, j < i → endB s x j = true) (fun s21 _ => n - (intOf s21).toNat)
  case atStart => exact ⟨0, rfl, Nat.zero_le _, Frm.refl _ _, fun j hj => by omega⟩
  case round =>
    obtain ⟨i, rfl, hi, hf, hno⟩ := hrel
    have HF := Lib.hid hf; have HNO := Lib.hid hno
    clear hf hno
    by_cases hlt : i < n
    · have hlt' : (i : Int) < (n : Int) := by omega
      have hin : i < s.roles.length := by rw [HN.out]; exact hlt
      obtain ⟨gb, go', cw', rv, y1, y2, y3⟩ := HST.out.row hin
      obtain ⟨ab, ao, ac, bb, y4, ha⟩ := HST.out.act hin
      obtain ⟨rb, ro, rc, sv, cv, tv, y5, hr⟩ := HSY.out.rol hin
      have hst : (s.rol i).sts[x.at i]? = some ((s.rol i).sts.getD (x.at i) dS) := some_getD (HST.out.ok.pb i hin)
      have hpb := HST.out.ok.pb i hin
      have hwr := HST.out.ok.wr i hin
      obtain ⟨aS, cS, rfl⟩ := hr.r3.sts.shape
      obtain ⟨b1, o1, rfl, -, g1, -⟩ := hr.r3.sts.get hst
      obtain ⟨-, d1, -, -, -⟩ := hr
      obtain ⟨e0, e1, -⟩ := ha
      rw [HN.out] at y1 y4 y5
      have q := Option.some.inj (HX1.out.symm.trans y4)
      cases q
      have HEB : Hid (endB s x i = (!busyB (x.ways.getD i []) && ((s.rol i).sts.getD (x.at i) dS).fin)) := Lib.hid (by unfold endB; rw [busy_all])
      obtain ⟨Ls, hLs⟩ : ∃ Ls, x.ways.getD i [] = Ls := ⟨_, rfl⟩
      obtain ⟨p, hp⟩ : ∃ p, x.at i = p := ⟨_, rfl⟩
      obtain ⟨m, hm⟩ : ∃ m, (s.rol i).sts.length = m := ⟨_, rfl⟩
      obtain ⟨fin, hfi⟩ : ∃ f, ((s.rol i).sts.getD (x.at i) dS).fin = f := ⟨_, rfl⟩
      rw [hfi] at g1 HEB
      rw [hLs] at y3 HEB hwr
      rw [hp] at e0 g1 hpb
      rw [hm] at d1 hpb
      have hpm : (p : Int) < (m : Int) := by omega
      have CF : Hid (∀ V, Frm [] w V → Calls Tryz.prog 103 #[rv, .func (.func 104) #[] #[]] V (Ret (.bool (busyB Ls)) (Frm [] V))) := Lib.hid fun V hV => cfChan_any s.cls s.cap rv Ls V (y3.frm hV) (by rw [hwr, HN.out]; omega)
      obtain ⟨bz, hbz⟩ : ∃ b, busyB Ls = b := ⟨_, rfl⟩
      rw [hbz] at CF HEB
      have HU : Hid (∀ V, Frm [] w V → V.cell? ⟨yb, 1, none⟩ = some (.slice (some ⟨rb, ro, none⟩) n rc) ∧ V.cell? ⟨rb, ro + i * 4 + 1, none⟩ = some (.slice (some ⟨b1, o1, none⟩) m cS) ∧ V.cell? ⟨b1, o1 + p * 3 + 1, none⟩ = some (.bool fin)) := Lib.hid fun V hV => ⟨hV.keep y5, hV.keep d1, hV.keep g1⟩
      replace y1 := HF.out.keep y1; replace y2 := HF.out.keep y2; replace y4 := HF.out.keep y4; replace e0 := HF.out.keep e0; replace e1 := HF.out.keep e1
      have hl1 := cell_lt y1
      have hl2 := cell_lt y2
      clear hst hwr y3 y5 d1 g1 hLs hp hm hfi hbz hin hpb
      go_upto_region 8 with (first
        | (go_at_call 103; go_must (refine (CF.out _ (HF.out.alloc _)).mono ?_; rintro e w1 ⟨rfl, hf1⟩; have HQ := Lib.hid (hf1.at (heap_alloc_new wr (.cells #[.int .i64 p, .pointer (some ⟨bb, 0, none⟩)] 145)) (by simp)); have HF1 : Hid (Frm [] w w1) := Lib.hid ((HF.out.alloc _).trans hf1); clear hf1)))
      have HU1 : Hid (∀ V, Frm [] w1 V → (V.cell? ⟨yb, 1, none⟩ = some (.slice (some ⟨rb, ro, none⟩) n rc) ∧ V.cell? ⟨rb, ro + i * 4 + 1, none⟩ = some (.slice (some ⟨b1, o1, none⟩) m cS) ∧ V.cell? ⟨b1, o1 + p * 3 + 1, none⟩ = some (.bool fin)) ∧ V.cell? ⟨wr.heap.size, 0, none⟩ = some (.int .i64 p)) := Lib.hid fun V hV => ⟨HU.out V (HF1.out.trans hV), hV.keep (cell_of HQ.out 0)⟩
      clear y1 y2 y4 e0 e1 CF hl1 hl2
      have hfalse : endB s x i = false → fb' = false := fun h => by
        rw [HFB.out, List.all_eq_false]
        exact ⟨i, by simpa using hlt, by rw [h]; decide⟩
      have HFA := Lib.hid hfalse
      clear hfalse
      cases bz with
      | true =>
        have HR := Lib.hid (HFA.out (by rw [HEB.out]; rfl))
        clear HFA
        refine wp_region_cq (by kernel_rfl) (by kernel_rfl) ?_
        repeat (first
          | go_big_quiet_skip
          | (refine wpQuiet_want (by rfl) (fun K hK => ?_)
             first
              | (refine quiet_move _ (by rfl) (hK _ ?_))
              | (refine quiet_assign _ (by rfl) (hK _ ?_))
              | (apply Exists.intro
                 refine ⟨fun w' hC => ?_, hK _ ?_⟩
                 · (unfold Oper.quietAt
                    obtain ⟨⟨z1, z2, z3⟩, z4⟩ := HU1.out w' hC
                    clear hC
                    go_simp
                    try exact ⟨rfl, rfl⟩
                    try rfl))
             clear hK K
             try simp only [Act.put, List.setIfInBounds_toArray, List.set_cons_zero, List.set_cons_succ, Act.eval, Array.getD_eq_getD_getElem?, List.getElem?_toArray, List.getElem?_cons_zero, List.getElem?_cons_succ, Option.getD_some]))
        refine wpQuiet_nil ?_
        intro w2 hf2
        go_wp2
        go_ret2
        exact ⟨by rw [HR.out]; rfl, HF1.out.trans hf2⟩
      | false =>
        cases fin with
        | false =>
          have HR := Lib.hid (HFA.out (by rw [HEB.out]; rfl))
          clear HFA
          refine wp_region_cq (by kernel_rfl) (by kernel_rfl) ?_
          repeat (first
            | go_big_quiet_skip
            | (refine wpQuiet_want (by rfl) (fun K hK => ?_)
               first
                | (refine quiet_move _ (by rfl) (hK _ ?_))
                | (refine quiet_assign _ (by rfl) (hK _ ?_))
                | (apply Exists.intro
                   refine ⟨fun w' hC => ?_, hK _ ?_⟩
                   · (unfold Oper.quietAt
                      obtain ⟨⟨z1, z2, z3⟩, z4⟩ := HU1.out w' hC
                      clear hC
                      go_simp
                      try exact ⟨rfl, rfl⟩
                      try rfl))
               clear hK K
               try simp only [Act.put, List.setIfInBounds_toArray, List.set_cons_zero, List.set_cons_succ, Act.eval, Array.getD_eq_getD_getElem?, List.getElem?_toArray, List.getElem?_cons_zero, List.getElem?_cons_succ, Option.getD_some]))
          refine wpQuiet_nil ?_
          intro w2 hf2
          go_wp2
          go_ret2
          exact ⟨by rw [HR.out]; rfl, HF1.out.trans hf2⟩
        | true =>
          clear HFA
          refine wp_region_cq (by kernel_rfl) (by kernel_rfl) ?_
          repeat (first
            | go_big_quiet_skip
            | (refine wpQuiet_want (by rfl) (fun K hK => ?_)
               first
                | (refine quiet_move _ (by rfl) (hK _ ?_))
                | (refine quiet_assign _ (by rfl) (hK _ ?_))
                | (apply Exists.intro
                   refine ⟨fun w' hC => ?_, hK _ ?_⟩
                   · (unfold Oper.quietAt
                      obtain ⟨⟨z1, z2, z3⟩, z4⟩ := HU1.out w' hC
                      clear hC
                      go_simp
                      try exact ⟨rfl, rfl⟩
                      try rfl))
               clear hK K
               try simp only [Act.put, List.setIfInBounds_toArray, List.set_cons_zero, List.set_cons_succ, Act.eval, Array.getD_eq_getD_getElem?, List.getElem?_toArray, List.getElem?_cons_zero, List.getElem?_cons_succ, Option.getD_some]))
          refine wpQuiet_nil ?_
          intro w2 hf2
          have HF2 := Lib.hid (HF1.out.trans hf2)
          clear hf2
          go_wp2
          refine ⟨⟨i + 1, congrArg (Value.int .i64) (by omega), hlt, HF2.out, fun j hj => ?_⟩, by simp [intOf]; omega⟩
          by_cases e : j = i
          · subst e; rw [HEB.out]; rfl
          · exact HNO.out j (by omega)
    · have hge : ¬ (i : Int) < (n : Int) := by omega
      have HR : Hid (fb' = true) := Lib.hid (by
        rw [HFB.out, List.all_eq_true]
        intro j hj
        exact HNO.out j (by rw [List.mem_range] at hj; omega))
      go_wp2
      go_ret2
      exact ⟨by rw [HR.out]; rfl, HF.out⟩
end Go.Proofs.YtkphhjekfimmlaaGreat
namespace Go.Proofs.YtkphhjekfimmlaaGreat
open Go.RowKit Go.BigFrame

/-- the box at ob holds the bytes L -/
abbrev YB (w : World) (ob : Nat) (L : List UInt8) (W : World) : Prop := BO 26 5 1 w ob L.length (L.map u8) W
abbrev byT : List TypeId := [26, 5]
theorem YB.add {w W w1 : World} {ob m : Nat} {L M : List UInt8} {ao : Option Addr} {cap : Nat} {o : Obj} {v' : Value} (h : YB w ob L W) (h1 : W.heap[ob]? = some (.cells #[.slice ao L.length cap] 26 (0, 0))) (h2 : W.ownsRow w.heap.size 5 1 (.slice ao L.length cap) L.length (L.map u8))
    (hg : (W.alloc o).grownBy w1 (Value.slice ao L.length cap).ownBlock) (hm : M.length = m) (ho : w1.ownsRow w.heap.size 5 1 v' (L.length + m) (L.map u8 ++ M.map u8)) :
    YB w ob (L ++ M) (w1.setCell ⟨ob, 0, none⟩ v') ∧ Kt byT W (w1.setCell ⟨ob, 0, none⟩ v') := by
  have := h.step h1 h2 (by decide) hg ho
  unfold YB
  rw [List.map_append, List.length_append, hm]
  exact this
theorem CtR.kt {B : Nat} {lv : Value} {l : List (CtrD × Int)} {W W' : World} (h : CtR B lv l W) (hk : Kt byT W W') : CtR B lv l W' := by
  refine ⟨hk.cells h.b (by decide), ?_, fun ao n c e hn => ?_⟩
  · obtain ⟨ao, c, rfl, hx⟩ := h.a
    refine ⟨ao, c, rfl, fun i x hi => ?_⟩
    obtain ⟨b, o, e, a0, a1, a2⟩ := hx i x hi
    obtain ⟨g, cur, e2, hg⟩ := h.t _ _ _ rfl (by have := lt_of_some hi; omega)
    have ebg : g = b ∧ 0 = o := by rw [e2] at e; injection e with e; injection e with e1 e3; exact ⟨e1, e3⟩
    obtain ⟨rfl, rfl⟩ := ebg
    have hg' := hk.cells hg (by decide)
    rw [cell_of hg] at a0 a1 a2
    exact ⟨g, 0, e2, (cell_of hg' _).trans a0, (cell_of hg' _).trans a1, (cell_of hg' _).trans a2⟩
  · obtain ⟨g, cur, e1, e2⟩ := h.t _ _ _ e hn
    exact ⟨g, cur, e1, hk.cells e2 (by decide)⟩
theorem two_wrap {v : Int} (h0 : 0 ≤ v) (h1 : v ≤ 65535) : u8 (UInt8.ofNat (v.toNat / 256)) = .int .u8 (v / 256) ∧ u8 (UInt8.ofNat (v.toNat % 256)) = .int .u8 (v % 256) := by
  obtain ⟨n, rfl⟩ := Int.eq_ofNat_of_zero_le h0
  unfold u8
  simp only [Int.toNat_natCast, UInt8.toNat_ofNat']
  constructor
  · congr 1
    have : n / 256 < 256 := by omega
    rw [Nat.mod_eq_of_lt this]; rfl
  · congr 1
    have : n % 256 < 256 := by omega
    rw [Nat.mod_eq_of_lt this]; rfl
theorem at_wrap {p : Nat} (h : p < 256) : u8 (UInt8.ofNat p) = .int .u8 (p : Int) := by
  unfold u8
  rw [UInt8.toNat_ofNat', Nat.mod_eq_of_lt h]
end Go.Proofs.YtkphhjekfimmlaaGreat
