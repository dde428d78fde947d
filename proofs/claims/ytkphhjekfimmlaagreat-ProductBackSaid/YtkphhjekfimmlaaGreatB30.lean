/- A region that draws its order, whose effects come in one order: what stays grows with each effect; the blocks F may be written. A session that came in: read as plain data. Bytes that came in; lists of arguments. ProductBack: the session's copy: its roles in a row of their own, their states and steps copied one after the other; how the copy is overwritten. -/
import Derived.Test.YtkphhjekfimmlaaGreatB01
import Derived.Deep.RegionHeld3
import Derived.Test.YtkphhjekfimmlaaGreatB29
import Derived.Test.YtkphhjekfimmlaaGreatB25
import Derived.Deep.Slices
import Derived.Lib.SmallJoins
import Derived.Test.YtkphhjekfimmlaaGreatB02
import Derived.Test.YtkphhjekfimmlaaGreatB14
import Derived.Test.YtkphhjekfimmlaaGreatB21
namespace Go.Proofs.YtkphhjekfimmlaaGreat
open Go.RowKit

section
variable {F : List Nat} {P : Program} {ops : Array Oper} {Q : Exit → Act → World → Prop} {md : Region.Mode} {S S' : World → Prop}
theorem wpAnyF_sub (hSS : ∀ W, S' W → S W) : ∀ (fuel : Nat) (listed : Array Bool) (a : Act) (w : World), wpAnyH P md ops Q S' fuel listed a w → wpAnyH P md ops Q S fuel listed a w
  | 0, _, _, _, h => h
  | fuel + 1, _, _, _, h => ⟨h.1, fun i hi => wpOp_mono (fun a' w' h' => ⟨hSS _ h'.1, wpAnyF_sub hSS fuel _ a' w' h'.2⟩) (h.2 i hi)⟩
/-- the beginning -/
theorem heldF_start {id : Nat} {a : Act} {w : World} (hm : P.follows .mixedOrders = true) (h : wpAnyH P .any ops Q (Frm F w.drew) ops.size (Array.replicate ops.size false) a w.drew) : (Code.region id ops true).wp P Q a w :=
  wp_region_held hm h
/-- an operation that yields its value in every world from here on is taken first -/
theorem heldF_take {i : Nat} {oi : Oper} {fuel : Nat} {listed : Array Bool} {a : Act} {w : World} (v : Value) (hi : ops[i]? = some oi)
    (hs : Region.noSelect ops = true) (hf : Region.free md ops listed i = true) (hr : (Region.ready md ops listed).contains i = true)
    (hQ : ∀ c a w, Q (.panic c) (a.put oi.dst v) w → Q (.panic c) a w) (hw : Region.wanted oi (yielded ops a.tmps) = true) (hy : ∀ w', Frm F w w' → (execOp a.eval oi).run P w' = .ok (.value v) w')
    (h : wpAnyH P md ops Q (Frm F w) fuel (listed.setIfInBounds i true) (a.put oi.dst v) w) : wpAnyH P md ops Q (Frm F w) (fuel + 1) listed a w :=
  wpAnyH_take hi hs hf hr hQ (.inl ⟨hw, hy⟩) (Frm.refl F _) h
/-- an operation whose guard does not hold is passed over -/
theorem heldF_skip {i : Nat} {oi : Oper} {fuel : Nat} {listed : Array Bool} {a : Act} {w : World} (hi : ops[i]? = some oi)
    (hs : Region.noSelect ops = true) (hf : Region.free md ops listed i = true) (hr : (Region.ready md ops listed).contains i = true)
    (hQ : ∀ c a w, Q (.panic c) (a.put oi.dst undef) w → Q (.panic c) a w) (hw : Region.wanted oi (yielded ops a.tmps) = false)
    (h : wpAnyH P md ops Q (Frm F w) fuel (listed.setIfInBounds i true) (a.put oi.dst undef) w) : wpAnyH P md ops Q (Frm F w) (fuel + 1) listed a w :=
  wpAnyH_take hi hs hf hr hQ (.inr ⟨hw, rfl⟩) (Frm.refl F _) h
/-- the one operation that may come up is carried out -/
theorem heldF_step {i : Nat} {oi : Oper} {fuel : Nat} {listed : Array Bool} {a : Act} {w : World} (hi : ops[i]? = some oi) (hr : Region.ready md ops listed = [i]) (hw : Region.wanted oi (yielded ops a.tmps) = true)
    (h : ∀ K' : Act → World → Prop, Shut (∀ a' w', Frm F w w' → wpAnyH P md ops Q (Frm F w') fuel (listed.setIfInBounds i true) a' w' → K' a' w') → Oper.wp P oi a w K' Q) : wpAnyH P md ops Q (Frm F w) (fuel + 1) listed a w := by
  refine wpAnyH_all hr (by simp) (fun j hj => ?_)
  simp only [List.mem_singleton] at hj
  subst hj
  unfold wpOp
  simp only [hi, hw, if_true]
  exact .inl (h _ (fun a' w' hf hk => ⟨hf, wpAnyF_sub (fun W hW => hf.trans hW) _ _ _ _ hk⟩))
end
end Go.Proofs.YtkphhjekfimmlaaGreat
namespace Go.Proofs.YtkphhjekfimmlaaGreat
open Go.ChangeShapes Go.WideShapes Go.ChangeAt Go.RowKit Go.Deep

section
variable {H : Type} {enc : TypeId × Value → H} {W : World}
/-- a slice of structs that came in -/
theorem open_arr {α : Type} [Inhabited α] {t e : TypeId} {k : Nat} {At : World → Nat → Nat → α → Prop} {Q : α → Prop} (ht : Tryz.prog.underlying t = some (.slice e)) (hc : Tryz.prog.cellsOf e = k) (hk : 0 < k)
    (hel : ∀ b o cs n y, (∀ i, i < k → W.cell? ⟨b, o + i, none⟩ = cs[i]?) → cs.length = k → DataW.trod enc Tryz.prog W 0 (fun _ => true) true n e cs = some y → ∃ x, At W b o x ∧ Q x)
    {fuel : Nat} {c : Value} {x : DataW H × List MemPlace} (hf : DataW.trod enc Tryz.prog W 0 (fun _ => true) true fuel t [c] = some x) :
    ∃ xs, Arr k At W c xs ∧ (∀ x ∈ xs, Q x) ∧ ∀ ao n c', c = .slice ao n c' → n ≤ c' := by
  rcases open_slice ht hf with ⟨hcs, _⟩ | ⟨a, len, cap, m, n, D, Pl, hcs, _, hl, _, hm, _, hx⟩
  · simp only [List.cons.injEq, and_true] at hcs
    subst hcs
    exact ⟨[], Arr.nil _ _ _, by simp, fun ao n c' h => by cases h; omega⟩
  · simp only [List.cons.injEq, and_true] at hcs
    subst hcs
    simp only [if_true] at hm
    subst hm
    obtain ⟨ab, ao, spot⟩ := a
    have hspot : 0 < len → spot = none := fun h => by
      obtain ⟨cs', h1, h2⟩ := hx 0 (by omega)
      obtain ⟨_, hlen, hcell⟩ := World.cells?_some h1
      rw [hc] at hlen hcell
      have h0 := hcell 0 hk
      rw [List.getElem?_eq_getElem (by omega)] at h0
      simpa [Addr.add] using World.cell?_spot h0
    obtain ⟨f, hf⟩ := choose_lt (α := α) (p := fun i x => spot = none ∧ At W ab (ao + i * k) x ∧ Q x) (n := len) (fun i hi => by
      obtain ⟨cs', h1, h2⟩ := hx i (by omega)
      obtain ⟨_, hlen, hcell⟩ := World.cells?_some h1
      rw [hc] at hlen hcell
      have hs := hspot (by omega)
      subst hs
      obtain ⟨x, h3, h4⟩ := hel ab (ao + i * k) cs' n _ (fun j hj => by
        have := hcell j hj
        rw [add_plain, add_plain] at this
        exact this) hlen h2
      exact ⟨x, rfl, h3, h4⟩)
    refine ⟨(List.range len).map f, ⟨some ⟨ab, ao, spot⟩, m, by simp, fun i x hi => ?_⟩, fun x hx' => ?_, fun ao n c' h => by cases h; omega⟩
    · have hil : i < len := by have := lt_of_some hi; simpa using this
      rw [List.getElem?_map, List.getElem?_range hil, Option.map_some, Option.some.injEq] at hi
      subst hi
      obtain ⟨h1, h2, _⟩ := hf i hil
      subst h1
      exact ⟨ab, ao, rfl, h2⟩
    · rw [List.mem_map] at hx'
      obtain ⟨i, hi, rfl⟩ := hx'
      rw [List.mem_range] at hi
      exact (hf i hi).2.2
instance : Inhabited StD := ⟨dS⟩
instance : Inhabited CtrD := ⟨dC⟩
instance : Inhabited StpD := ⟨dT⟩
instance : Inhabited RolD := ⟨dR⟩
theorem Tryz.cellsStr : Tryz.prog.cellsOf 9 = 1 := by kernel_rfl
theorem Tryz.cellsBool : Tryz.prog.cellsOf 4 = 1 := by kernel_rfl
theorem Tryz.cellsInt : Tryz.prog.cellsOf 3 = 1 := by kernel_rfl
theorem Tryz.cellsKnd : Tryz.prog.cellsOf 58 = 1 := by kernel_rfl
theorem Tryz.cellsCls : Tryz.prog.cellsOf 23 = 1 := by kernel_rfl
theorem Tryz.cellsSts : Tryz.prog.cellsOf 50 = 1 := by kernel_rfl
theorem Tryz.cellsCts : Tryz.prog.cellsOf 51 = 1 := by kernel_rfl
theorem Tryz.cellsStps : Tryz.prog.cellsOf 49 = 1 := by kernel_rfl
theorem Tryz.cellsRls : Tryz.prog.cellsOf 22 = 1 := by kernel_rfl
theorem Tryz.cellsSt : Tryz.prog.cellsOf 62 = 3 := by kernel_rfl
theorem Tryz.cellsCt : Tryz.prog.cellsOf 182 = 2 := by kernel_rfl
theorem Tryz.cellsStp : Tryz.prog.cellsOf 60 = 9 := by kernel_rfl
theorem Tryz.cellsRl : Tryz.prog.cellsOf 53 = 4 := by kernel_rfl
theorem Tryz.cellsSes : Tryz.prog.cellsOf 25 = 4 := by kernel_rfl
theorem list2 {α : Type} {cs : List α} (h : cs.length = 2) : ∃ a b, cs = [a, b] := by
  match cs, h with
  | [a, b], _ => exact ⟨a, b, rfl⟩
theorem list3 {α : Type} {cs : List α} (h : cs.length = 3) : ∃ a b c, cs = [a, b, c] := by
  match cs, h with
  | [a, b, c], _ => exact ⟨a, b, c, rfl⟩
theorem list4 {α : Type} {cs : List α} (h : cs.length = 4) : ∃ a b c d, cs = [a, b, c, d] := by
  match cs, h with
  | [a, b, c, d], _ => exact ⟨a, b, c, d, rfl⟩
theorem list9 {α : Type} {cs : List α} (h : cs.length = 9) : ∃ a b c d e f g i j, cs = [a, b, c, d, e, f, g, i, j] := by
  match cs, h with
  | [a, b, c, d, e, f, g, i, j], _ => exact ⟨a, b, c, d, e, f, g, i, j, rfl⟩
set_option maxRecDepth 10000 in
theorem open_st {b o n : Nat} {cs : List Value} {y : DataW H × List MemPlace} (hc : ∀ i, i < 3 → W.cell? ⟨b, o + i, none⟩ = cs[i]?) (hl : cs.length = 3) (hf : DataW.trod enc Tryz.prog W 0 (fun _ => true) true n 62 cs = some y) : ∃ x : StD, StAt W b o x ∧ True := by
  obtain ⟨c0, c1, c2, rfl⟩ := list3 hl
  obtain ⟨y0, y1, y2, n', _, _, t0, t1, t2⟩ := trod_struct3 Tryz.underlying62 hf
  simp only [Tryz.cellsStr, Tryz.cellsBool, Tryz.cellsInt, List.drop, List.take] at t0 t1 t2
  obtain ⟨s, e0, _⟩ := DataW.trod_string Tryz.underlying9 t0
  obtain ⟨bb, e1, _⟩ := DataW.trod_bool Tryz.underlying4 t1
  obtain ⟨i, e2, _⟩ := DataW.trod_int Tryz.underlying3 t2
  simp only [List.cons.injEq, and_true] at e0 e1 e2
  subst e0; subst e1; subst e2
  exact ⟨⟨s, bb, i⟩, ⟨hc 0 (by omega), hc 1 (by omega), hc 2 (by omega)⟩, trivial⟩
set_option maxRecDepth 10000 in
theorem open_ct {b o n : Nat} {cs : List Value} {y : DataW H × List MemPlace} (hc : ∀ i, i < 2 → W.cell? ⟨b, o + i, none⟩ = cs[i]?) (hl : cs.length = 2) (hf : DataW.trod enc Tryz.prog W 0 (fun _ => true) true n 182 cs = some y) : ∃ x : CtrD, CtAt W b o x ∧ True := by
  obtain ⟨c0, c1, rfl⟩ := list2 hl
  obtain ⟨y0, y1, n', _, _, t0, t1⟩ := trod_struct2 Tryz.underlying182 hf
  simp only [Tryz.cellsStr, Tryz.cellsInt, List.drop, List.take] at t0 t1
  obtain ⟨s, e0, _⟩ := DataW.trod_string Tryz.underlying9 t0
  obtain ⟨i, e1, _⟩ := DataW.trod_int Tryz.underlying3 t1
  simp only [List.cons.injEq, and_true] at e0 e1
  subst e0; subst e1
  exact ⟨⟨s, i⟩, ⟨hc 0 (by omega), hc 1 (by omega)⟩, trivial⟩
set_option maxRecDepth 10000 in
theorem open_stp {b o n : Nat} {cs : List Value} {y : DataW H × List MemPlace} (hc : ∀ i, i < 9 → W.cell? ⟨b, o + i, none⟩ = cs[i]?) (hl : cs.length = 9) (hf : DataW.trod enc Tryz.prog W 0 (fun _ => true) true n 60 cs = some y) : ∃ x : StpD, SpAt W b o x ∧ wf64 x.kind := by
  obtain ⟨c0, c1, c2, c3, c4, c5, c6, c7, c8, rfl⟩ := list9 hl
  obtain ⟨xs, n', _, _, _, hlen, hfs⟩ := DataW.trod_struct Tryz.underlying60 hf
  match xs, hlen with
  | [y0, y1, y2, y3, y4, y5, y6, y7, y8], _ =>
    have t0 := hfs 0 _ rfl
    have t1 := hfs 1 _ rfl
    have t2 := hfs 2 _ rfl
    have t3 := hfs 3 _ rfl
    have t4 := hfs 4 _ rfl
    have t5 := hfs 5 _ rfl
    have t6 := hfs 6 _ rfl
    have t7 := hfs 7 _ rfl
    have t8 := hfs 8 _ rfl
    simp only [List.getElem_toArray, List.getElem_cons_zero, List.getElem_cons_succ, Tryz.cellsStr, Tryz.cellsKnd, Tryz.cellsInt, List.drop, List.take, List.getElem?_cons_zero, List.getElem?_cons_succ] at t0 t1 t2 t3 t4 t5 t6 t7 t8
    obtain ⟨s0, e0, _⟩ := DataW.trod_string Tryz.underlying9 t0
    obtain ⟨s1, e1, _⟩ := DataW.trod_string Tryz.underlying9 t1
    obtain ⟨i2, e2, _, hw⟩ := DataW.trod_int Tryz.underlying58 t2
    obtain ⟨s3, e3, _⟩ := DataW.trod_string Tryz.underlying9 t3
    obtain ⟨s4, e4, _⟩ := DataW.trod_string Tryz.underlying9 t4
    obtain ⟨s5, e5, _⟩ := DataW.trod_string Tryz.underlying9 t5
    obtain ⟨i6, e6, _⟩ := DataW.trod_int Tryz.underlying3 t6
    obtain ⟨i7, e7, _⟩ := DataW.trod_int Tryz.underlying3 t7
    obtain ⟨i8, e8, _⟩ := DataW.trod_int Tryz.underlying3 t8
    simp only [List.cons.injEq, and_true] at e0 e1 e2 e3 e4 e5 e6 e7 e8
    subst e0; subst e1; subst e2; subst e3; subst e4; subst e5; subst e6; subst e7; subst e8
    refine ⟨⟨s0, s1, i2, s3, s4, s5, i6, i7, i8⟩, ⟨hc 0 (by omega), hc 1 (by omega), hc 2 (by omega), hc 3 (by omega), hc 4 (by omega), hc 5 (by omega), hc 6 (by omega), hc 7 (by omega), hc 8 (by omega)⟩, ?_⟩
    simp only [Lit.wf, show IntKind.i64.min = -9223372036854775808 from rfl, show IntKind.i64.max = 9223372036854775807 from rfl, Bool.and_eq_true, decide_eq_true_eq] at hw
    exact hw
set_option maxRecDepth 10000 in
theorem open_rol {b o n : Nat} {cs : List Value} {y : DataW H × List MemPlace} (hc : ∀ i, i < 4 → W.cell? ⟨b, o + i, none⟩ = cs[i]?) (hl : cs.length = 4) (hf : DataW.trod enc Tryz.prog W 0 (fun _ => true) true n 53 cs = some y) : ∃ x : RolD, RlAt W b o x ∧ ∀ t ∈ x.steps, wf64 t.kind := by
  obtain ⟨c0, c1, c2, c3, rfl⟩ := list4 hl
  obtain ⟨y0, y1, y2, y3, n', _, _, t0, t1, t2, t3⟩ := Go.Joins.trod_struct4 Tryz.underlying53 hf
  simp only [Tryz.cellsStr, Tryz.cellsSts, Tryz.cellsCts, Tryz.cellsStps, List.drop, List.take] at t0 t1 t2 t3
  obtain ⟨s, e0, _⟩ := DataW.trod_string Tryz.underlying9 t0
  simp only [List.cons.injEq, and_true] at e0
  subst e0
  obtain ⟨l1, a1, -, -⟩ := open_arr (At := StAt) (Q := fun _ => True) Tryz.underlying50 Tryz.cellsSt (by omega) (fun b o cs n y h1 h2 h3 => open_st h1 h2 h3) t1
  obtain ⟨l2, a2, -, -⟩ := open_arr (At := CtAt) (Q := fun _ => True) Tryz.underlying51 Tryz.cellsCt (by omega) (fun b o cs n y h1 h2 h3 => open_ct h1 h2 h3) t2
  obtain ⟨l3, a3, q3, k3⟩ := open_arr (At := SpAt) (Q := fun t => wf64 t.kind) Tryz.underlying49 Tryz.cellsStp (by omega) (fun b o cs n y h1 h2 h3 => open_stp h1 h2 h3) t3
  exact ⟨⟨s, l1, l2, l3⟩, ⟨_, _, _, hc 0 (by omega), hc 1 (by omega), hc 2 (by omega), hc 3 (by omega), a1, a2, a3, k3⟩, q3⟩
set_option maxRecDepth 10000 in
theorem open_ses {base : Nat} {v : Value} {d : DataW H} {p : List MemPlace} (hv : Value.okWide Tryz.prog W .any base 25 v) (h : DataW.Trod enc Tryz.prog W 0 (fun _ => true) true 25 v d p) : ∃ s, SesV W v s ∧ WfS s := by
  obtain ⟨cs, rfl, hsz⟩ := okWide_struct Tryz.underlying25 hv
  obtain ⟨fuel, hf⟩ := h
  obtain ⟨y0, y1, y2, y3, n, _, _, t0, t1, t2, t3⟩ := Go.Joins.trod_struct4 Tryz.underlying25 hf
  rw [Tryz.cellsSes] at hsz
  obtain ⟨c0, c1, c2, c3, rfl⟩ := Go.Joins.array4 hsz
  simp only [Value.cells, Tryz.cellsStr, Tryz.cellsRls, Tryz.cellsCls, Tryz.cellsInt, List.drop, List.take] at t0 t1 t2 t3
  obtain ⟨s, e0, _⟩ := DataW.trod_string Tryz.underlying9 t0
  obtain ⟨i2, e2, _⟩ := DataW.trod_int Tryz.underlying23 t2
  obtain ⟨i3, e3, _⟩ := DataW.trod_int Tryz.underlying3 t3
  simp only [List.cons.injEq, and_true] at e0 e2 e3
  subst e0; subst e2; subst e3
  obtain ⟨l, a1, q1, -⟩ := open_arr (At := RlAt) (Q := fun r : RolD => ∀ t ∈ r.steps, wf64 t.kind) Tryz.underlying22 Tryz.cellsRl (by omega) (fun b o cs n y h1 h2 h3 => open_rol h1 h2 h3) t1
  exact ⟨⟨s, l, i2, i3⟩, ⟨c1, rfl, a1⟩, q1⟩
end
end Go.Proofs.YtkphhjekfimmlaaGreat
namespace Go.Proofs.YtkphhjekfimmlaaGreat
open Go.ChangeShapes Go.WideShapes Go.ChangeAt Go.RowKit Go.Deep

theorem trodAll_two {H : Type} {enc : TypeId × Value → H} {P : Program} {w : World} {base : Nat} {spare : TypeId → Bool} {held : Bool} {t0 t1 : TypeId} {args : Array Value} {ds : List (DataW H)} {ps : List MemPlace}
    (h : DataW.TrodAll enc P w base spare held [t0, t1] args.toList ds ps) :
    ∃ v0 v1 d0 d1 p0 p1, args = #[v0, v1] ∧ ds = [d0, d1] ∧ ps = p0 ++ p1 ∧ DataW.Trod enc P w base spare held t0 v0 d0 p0 ∧ DataW.Trod enc P w base spare held t1 v1 d1 p1 := by
  obtain ⟨v0, _, d0, _, p0, _, hargs, rfl, rfl, h0, hrest⟩ := trodAll_cons h
  obtain ⟨v1, _, d1, _, p1, _, rfl, rfl, rfl, h1, hrest⟩ := trodAll_cons hrest
  obtain ⟨rfl, rfl, rfl⟩ := trodAll_nil hrest
  exact ⟨v0, v1, d0, d1, p0, p1, by cases args; simp_all, rfl, by simp, h0, h1⟩
theorem trodAll_three {H : Type} {enc : TypeId × Value → H} {P : Program} {w : World} {base : Nat} {spare : TypeId → Bool} {held : Bool} {t0 t1 t2 : TypeId} {args : Array Value} {ds : List (DataW H)} {ps : List MemPlace}
    (h : DataW.TrodAll enc P w base spare held [t0, t1, t2] args.toList ds ps) :
    ∃ v0 v1 v2 d0 d1 d2 p0 p1 p2, args = #[v0, v1, v2] ∧ ds = [d0, d1, d2] ∧ ps = p0 ++ p1 ++ p2 ∧ DataW.Trod enc P w base spare held t0 v0 d0 p0 ∧ DataW.Trod enc P w base spare held t1 v1 d1 p1 ∧ DataW.Trod enc P w base spare held t2 v2 d2 p2 := by
  obtain ⟨v0, _, d0, _, p0, _, hargs, rfl, rfl, h0, hrest⟩ := trodAll_cons h
  obtain ⟨v1, _, d1, _, p1, _, rfl, rfl, rfl, h1, hrest⟩ := trodAll_cons hrest
  obtain ⟨v2, _, d2, _, p2, _, rfl, rfl, rfl, h2, hrest⟩ := trodAll_cons hrest
  obtain ⟨rfl, rfl, rfl⟩ := trodAll_nil hrest
  exact ⟨v0, v1, v2, d0, d1, d2, p0, p1, p2, by cases args; simp_all, rfl, by simp, h0, h1, h2⟩
theorem Tryz.cells5' : Tryz.prog.cellsOf 5 = 1 := by kernel_rfl
set_option maxRecDepth 10000 in
theorem bytes_cell {H : Type} {enc : TypeId × Value → H} {W : World} {fuel : Nat} {c : Value} {x : DataW H × List MemPlace} (hf : DataW.trod enc Tryz.prog W 0 (fun _ => true) true fuel 26 [c] = some x) :
    ∃ ao cap l, c = .slice ao (List.length l) cap ∧ Byts W c l := by
  rcases open_ints Tryz.underlying26 Tryz.underlying5 Tryz.cells5' hf with ⟨hcs, hx⟩ | ⟨a, len, cap, zs, hcs, _, hl, hm, hz, hx, hcell, hwz⟩
  · simp only [List.cons.injEq, and_true] at hcs
    subst hcs
    exact ⟨none, 0, [], rfl, Byts.nil W⟩
  · simp only [List.cons.injEq, and_true] at hcs
    subst hcs
    simp only [if_true] at hz
    have hlen : ((zs.take len).map fun n => UInt8.ofNat n.toNat).length = len := by simp; omega
    refine ⟨some a, cap, (zs.take len).map fun n => UInt8.ofNat n.toNat, by rw [hlen], some a, cap, by rw [hlen], by rw [hlen]; omega, fun k x hk => ?_⟩
    have hkl := lt_of_some hk
    rw [hlen] at hkl
    obtain ⟨ab, ao, spot⟩ := a
    have hspot : spot = none := by simpa [Addr.add] using World.cell?_spot (hcell 0 (by omega))
    subst hspot
    have hcj := hcell k (by omega)
    rw [Addr.add_lit] at hcj
    refine ⟨ab, ao, rfl, ?_⟩
    rw [hcj]
    have hkz : k < zs.length := by omega
    rw [List.getElem?_map, List.getElem?_take_of_lt hkl, List.getElem?_eq_getElem hkz] at hk
    simp only [Option.map_some, Option.some.injEq] at hk
    subst hk
    have hw := hwz zs[k] (List.getElem_mem hkz)
    simp only [Lit.wf, show IntKind.u8.min = 0 from rfl, show IntKind.u8.max = 255 from rfl, Bool.and_eq_true, decide_eq_true_eq] at hw
    unfold u8
    rw [List.getD_eq_getElem?_getD, List.getElem?_eq_getElem hkz]
    simp
    omega
set_option maxRecDepth 10000 in
theorem open_byts {H : Type} {enc : TypeId × Value → H} {W : World} {base : Nat} {v : Value} {d : DataW H} {p : List MemPlace} (hv : Value.okWide Tryz.prog W .any base 26 v) (h : DataW.Trod enc Tryz.prog W 0 (fun _ => true) true 26 v d p) :
    ∃ ao cap l, v = .slice ao (List.length l) cap ∧ Byts W v l := by
  obtain ⟨a0, len, cap, rfl⟩ := okWide_slice Tryz.underlying26 hv
  obtain ⟨fuel, hf⟩ := h
  exact bytes_cell hf
end Go.Proofs.YtkphhjekfimmlaaGreat
namespace Go.Proofs.YtkphhjekfimmlaaGreat
open Go.RowKit Go.BigFrame

/-- a slice in a row of its own, made behind w0, or empty -/
def Fh {α : Type} (k : Nat) (e : TypeId) (At : World → Nat → Nat → α → Prop) (w0 W : World) (v : Value) (xs : List α) : Prop :=
  Arr k At W v xs ∧ (xs = [] ∨ ∃ b c cur, v = .slice (some ⟨b, 0, none⟩) xs.length c ∧ w0.heap.size ≤ b ∧ W.heap[b]? = some (.cells cur e (0, 0)) ∧ xs.length * k ≤ cur.size)
theorem Fr.fh {α : Type} {k : Nat} {e : TypeId} {At : World → Nat → Nat → α → Prop} {w0 w w' : World} {xs : List α} {v : Value} (h : Fr k e At w xs v w') (hf : Frm [] w0 w) (_ : 0 < k) : Fh k e At w0 w' v xs := by
  refine ⟨h.arr, ?_⟩
  cases xs with
  | nil => exact .inl rfl
  | cons x l =>
    right
    rcases h.own with e | ⟨news, ho⟩
    · cases e
    · have hs := hf.size
      obtain ⟨q1, q2⟩ := ho
      rcases q2 with ⟨-, q2⟩ | ⟨g, c, cur, rfl, hg, hb, -, -, -, q3⟩
      · simp at q2
      · refine ⟨g, c, cur, rfl, by omega, hb, ?_⟩
        have := congrArg List.length q3
        rw [List.length_take] at this
        simp at this
        omega
theorem Fh.keep {α : Type} {k : Nat} {e : TypeId} {At : World → Nat → Nat → α → Prop} {w0 W W' : World} {xs : List α} {v : Value} (hA : ∀ (W V : World) b o x, At W b o x → V.heap[b]? = W.heap[b]? → At V b o x) (h : Fh k e At w0 W v xs)
    (hk : ∀ (b : Nat) (cur : Array Value), W.heap[b]? = some (Obj.cells cur e (0, 0)) → W'.heap[b]? = W.heap[b]?) : Fh k e At w0 W' v xs := by
  obtain ⟨h1, h2⟩ := h
  rcases h2 with rfl | ⟨b, c, cur, rfl, h3, h4, h5⟩
  · obtain ⟨ao, cap, rfl⟩ := h1.shape
    exact ⟨Arr.nil _ _ _, .inl rfl⟩
  · have hb := hk b cur h4
    refine ⟨?_, .inr ⟨b, c, cur, rfl, h3, hb.trans h4, h5⟩⟩
    obtain ⟨ao, cap, e', hx⟩ := h1
    cases e'
    refine ⟨_, _, rfl, fun i x hi => ?_⟩
    obtain ⟨b', o', e', ha⟩ := hx i x hi
    cases e'
    exact ⟨_, _, rfl, hA _ _ _ _ _ ha hb⟩
/-- a role of the copy: how far its states and steps are copied -/
def RoJ (w0 : World) (g iS iT j : Nat) (r : RolD) (W : World) : Prop :=
  ∃ sv cv tv, (W.cell? ⟨g, j * 4, none⟩ = some (.string r.name) ∧ W.cell? ⟨g, j * 4 + 1, none⟩ = some sv ∧ W.cell? ⟨g, j * 4 + 2, none⟩ = some cv ∧ W.cell? ⟨g, j * 4 + 3, none⟩ = some tv) ∧
    ((j < iS → Fh 3 62 StAt w0 W sv r.sts) ∧ (¬ j < iS → Arr 3 StAt w0 sv r.sts)) ∧ Arr 2 CtAt w0 cv r.ctrs ∧ ((j < iT → Fh 9 60 SpAt w0 W tv r.steps) ∧ (¬ j < iT → Arr 9 SpAt w0 tv r.steps)) ∧ ∀ ao n c, tv = .slice ao n c → n ≤ c
/-- while the copy is made: w0 is the world in which the session came in -/
structure BkI (w0 : World) (s : SesD) (b5 g cap iS iT : Nat) (W : World) : Prop where
  fr : Frm [] w0 W
  l5 : w0.heap.size ≤ b5
  lg : w0.heap.size ≤ g
  h5 : W.heap[b5]? = some (.cells #[.string s.name, .slice (some ⟨g, 0, none⟩) s.roles.length cap, .int .i64 s.cls, .int .i64 s.cap] 25 (0, 0))
  hg : ∃ cur, W.heap[g]? = some (.cells cur 53 (0, 0))
  rol : ∀ (j : Nat) r, s.roles[j]? = some r → RoJ w0 g iS iT j r W
theorem BkI.frm {w0 W W' : World} {s : SesD} {b5 g cap iS iT : Nat} (h : BkI w0 s b5 g cap iS iT W) (hf : Frm [] W W') : BkI w0 s b5 g cap iS iT W' := by
  obtain ⟨cur, hg⟩ := h.hg
  refine ⟨h.fr.trans hf, h.l5, h.lg, hf.at h.h5 (by simp), ⟨cur, hf.at hg (by simp)⟩, fun j r hr => ?_⟩
  obtain ⟨sv, cv, tv, ⟨c0, c1, c2, c3⟩, ⟨s1, s2⟩, a2, ⟨t1, t2⟩, k⟩ := h.rol j r hr
  have hk : ∀ (e : TypeId) (b : Nat) (cur : Array Value), W.heap[b]? = some (Obj.cells cur e (0, 0)) → W'.heap[b]? = W.heap[b]? := fun e b cur hb => hf.block b (lt_of_block hb) (by simp)
  exact ⟨sv, cv, tv, ⟨hf.keep c0, hf.keep c1, hf.keep c2, hf.keep c3⟩, ⟨fun hj => (s1 hj).keep StAt.leaf (hk _), s2⟩, a2, ⟨fun hj => (t1 hj).keep SpAt.leaf (hk _), t2⟩, k⟩
theorem BkI.ses {w0 W : World} {s : SesD} {b5 g cap iS iT : Nat} (h : BkI w0 s b5 g cap iS iT W) (h1 : s.roles.length ≤ iS) (h2 : s.roles.length ≤ iT) : SesV W (.agg #[.string s.name, .slice (some ⟨g, 0, none⟩) s.roles.length cap, .int .i64 s.cls, .int .i64 s.cap]) s := by
  refine ⟨_, rfl, _, cap, rfl, fun i r hr => ⟨g, 0, rfl, ?_⟩⟩
  have hi := lt_of_some hr
  obtain ⟨sv, cv, tv, ⟨c0, c1, c2, c3⟩, ⟨s1, -⟩, a2, ⟨t1, -⟩, k⟩ := h.rol i r hr
  rw [Nat.zero_add]
  exact ⟨sv, cv, tv, c0, c1, c2, c3, (s1 (by omega)).1, a2.frm fun _ _ _ h' => h'.frm h.fr, (t1 (by omega)).1, k⟩
/-- the steps of role i are copied -/
theorem BkI.stepT {w0 W W' : World} {s : SesD} {b5 g cap i : Nat} (h : BkI w0 s b5 g cap i i W) {r : RolD} (hr : s.roles[i]? = some r) {tv : Value} (hc : Fr 9 60 SpAt W r.steps tv W') :
    BkI w0 s b5 g cap i (i + 1) (W'.setCell ⟨g, i * 4 + 3, none⟩ tv) := by
  have h' := h.frm hc.frm
  have hcf := hc.fh h.fr (by omega)
  obtain ⟨cur, hg⟩ := h'.hg
  have e3 := block_setCell hg (i * 4 + 3) tv
  have hF : Frm [g] W' (W'.setCell ⟨g, i * 4 + 3, none⟩ tv) := (Frm.refl [g] W').setCell _ (.inl (by simp)) _
  obtain ⟨W2, hW2⟩ : ∃ W2, W'.setCell ⟨g, i * 4 + 3, none⟩ tv = W2 := ⟨_, rfl⟩
  rw [hW2] at e3 hF ⊢
  have n5 : b5 ≠ g := fun e => by have := h'.h5; rw [e, hg] at this; cases this
  have hk : ∀ e : TypeId, e ≠ 53 → ∀ (b : Nat) (cur : Array Value), W'.heap[b]? = some (Obj.cells cur e (0, 0)) → W2.heap[b]? = W'.heap[b]? := fun e he b cur hb => hF.block b (lt_of_block hb) (by
    simp only [List.mem_singleton]
    intro eb
    rw [eb, hg] at hb
    cases hb
    exact he rfl)
  obtain ⟨_, _, _, ⟨-, -, -, q3⟩, -⟩ := h'.rol i r hr
  rw [cell_of hg] at q3
  have hlt : i * 4 + 3 < cur.size := (Array.getElem?_eq_some_iff.1 q3).1
  have hcell : ∀ o, o ≠ i * 4 + 3 → W2.cell? ⟨g, o, none⟩ = W'.cell? ⟨g, o, none⟩ := fun o h3 => by
    rw [cell_of e3, cell_of hg, Array.getElem?_setIfInBounds_ne (by omega)]
  refine ⟨h'.fr.then hF (by intro x hx; simp at hx; subst hx; exact .inr h'.lg), h'.l5, h'.lg, hF.at h'.h5 (by simpa using n5), ⟨_, e3⟩, fun j a ha => ?_⟩
  obtain ⟨sv, cv, tv1, ⟨c0, c1, c2, c3⟩, ⟨s1, s2⟩, a2, ⟨t1, t2⟩, kk⟩ := h'.rol j a ha
  by_cases e : j = i
  · subst e
    rw [hr] at ha; cases ha
    refine ⟨sv, cv, tv, ⟨by rw [hcell _ (by omega)]; exact c0, by rw [hcell _ (by omega)]; exact c1, by rw [hcell _ (by omega)]; exact c2, ?_⟩, ⟨fun hj => by omega, s2⟩, a2, ⟨fun _ => hcf.keep SpAt.leaf (hk _ (by decide)), fun hj => by omega⟩, hc.cap⟩
    rw [cell_of e3, Array.getElem?_setIfInBounds_self_of_lt (by omega)]
  · exact ⟨sv, cv, tv1, ⟨by rw [hcell _ (by omega)]; exact c0, by rw [hcell _ (by omega)]; exact c1, by rw [hcell _ (by omega)]; exact c2, by rw [hcell _ (by omega)]; exact c3⟩, ⟨fun hj => (s1 hj).keep StAt.leaf (hk _ (by decide)), s2⟩, a2,
      ⟨fun hj => (t1 (by omega)).keep SpAt.leaf (hk _ (by decide)), fun hj => t2 (by omega)⟩, kk⟩
/-- the states of role i are copied -/
theorem BkI.stepS {w0 W W' : World} {s : SesD} {b5 g cap i : Nat} (h : BkI w0 s b5 g cap i (i + 1) W) {r : RolD} (hr : s.roles[i]? = some r) {sv : Value} (hc : Fr 3 62 StAt W r.sts sv W') :
    BkI w0 s b5 g cap (i + 1) (i + 1) (W'.setCell ⟨g, i * 4 + 1, none⟩ sv) := by
  have h' := h.frm hc.frm
  have hcf := hc.fh h.fr (by omega)
  obtain ⟨cur, hg⟩ := h'.hg
  have e3 := block_setCell hg (i * 4 + 1) sv
  have hF : Frm [g] W' (W'.setCell ⟨g, i * 4 + 1, none⟩ sv) := (Frm.refl [g] W').setCell _ (.inl (by simp)) _
  obtain ⟨W2, hW2⟩ : ∃ W2, W'.setCell ⟨g, i * 4 + 1, none⟩ sv = W2 := ⟨_, rfl⟩
  rw [hW2] at e3 hF ⊢
  have n5 : b5 ≠ g := fun e => by have := h'.h5; rw [e, hg] at this; cases this
  have hk : ∀ e : TypeId, e ≠ 53 → ∀ (b : Nat) (cur : Array Value), W'.heap[b]? = some (Obj.cells cur e (0, 0)) → W2.heap[b]? = W'.heap[b]? := fun e he b cur hb => hF.block b (lt_of_block hb) (by
    simp only [List.mem_singleton]
    intro eb
    rw [eb, hg] at hb
    cases hb
    exact he rfl)
  obtain ⟨_, _, _, ⟨-, q1, -, -⟩, -⟩ := h'.rol i r hr
  rw [cell_of hg] at q1
  have hlt : i * 4 + 1 < cur.size := (Array.getElem?_eq_some_iff.1 q1).1
  have hcell : ∀ o, o ≠ i * 4 + 1 → W2.cell? ⟨g, o, none⟩ = W'.cell? ⟨g, o, none⟩ := fun o h3 => by
    rw [cell_of e3, cell_of hg, Array.getElem?_setIfInBounds_ne (by omega)]
  refine ⟨h'.fr.then hF (by intro x hx; simp at hx; subst hx; exact .inr h'.lg), h'.l5, h'.lg, hF.at h'.h5 (by simpa using n5), ⟨_, e3⟩, fun j a ha => ?_⟩
  obtain ⟨sv1, cv, tv, ⟨c0, c1, c2, c3⟩, ⟨s1, s2⟩, a2, ⟨t1, t2⟩, kk⟩ := h'.rol j a ha
  by_cases e : j = i
  · subst e
    rw [hr] at ha; cases ha
    refine ⟨sv, cv, tv, ⟨by rw [hcell _ (by omega)]; exact c0, ?_, by rw [hcell _ (by omega)]; exact c2, by rw [hcell _ (by omega)]; exact c3⟩, ⟨fun _ => hcf.keep StAt.leaf (hk _ (by decide)), fun hj => by omega⟩, a2, ⟨fun hj => (t1 hj).keep SpAt.leaf (hk _ (by decide)), t2⟩, kk⟩
    rw [cell_of e3, Array.getElem?_setIfInBounds_self_of_lt (by omega)]
  · exact ⟨sv1, cv, tv, ⟨by rw [hcell _ (by omega)]; exact c0, by rw [hcell _ (by omega)]; exact c1, by rw [hcell _ (by omega)]; exact c2, by rw [hcell _ (by omega)]; exact c3⟩, ⟨fun hj => (s1 (by omega)).keep StAt.leaf (hk _ (by decide)), fun hj => s2 (by omega)⟩, a2,
      ⟨fun hj => (t1 hj).keep SpAt.leaf (hk _ (by decide)), t2⟩, kk⟩
theorem BkI.start {w0 w1 w2 : World} {s : SesD} {b5 c0 : Nat} {ao : Option Addr} {v : Value} (hf : Frm [] w0 w1) (h5 : w1.heap[b5]? = some (.cells #[.string s.name, .slice ao s.roles.length c0, .int .i64 s.cls, .int .i64 s.cap] 25 (0, 0))) (l5 : w0.heap.size ≤ b5)
    (hr : Fr 4 53 (RoAt w0) w1 s.roles v w2) (hn : 1 ≤ s.roles.length) : ∃ g cap, v = .slice (some ⟨g, 0, none⟩) s.roles.length cap ∧ BkI w0 s b5 g cap 0 0 (w2.setCell ⟨b5, 1, none⟩ v) := by
  rcases hr.own with e | ⟨news, ho⟩
  · rw [e] at hn; simp at hn
  obtain ⟨g, cap, cur, rfl, hg, hc⟩ := own_block ho (by omega)
  have g1 := hr.frm.at h5 (by simp)
  have hs := hf.size
  have n1 : g ≠ b5 := fun e => by have := lt_of_block h5; omega
  have hF : Frm [b5] w2 (w2.setCell ⟨b5, 1, none⟩ (.slice (some ⟨g, 0, none⟩) s.roles.length cap)) := (Frm.refl _ _).setCell _ (.inl (by simp)) _
  refine ⟨g, cap, rfl, (hf.trans hr.frm).then hF (by intro x hx; simp at hx; subst hx; exact .inr l5), l5, by omega, (block_setCell g1 1 _).trans rfl, ⟨cur, hF.at hc (by simpa using n1)⟩, fun j r hj => ?_⟩
  obtain ⟨b, o, e, a0⟩ := hr.arr.get hj
  cases e
  obtain ⟨sv, cv, tv, p0, p1, p2, p3, p4⟩ := a0
  rw [Nat.zero_add] at p0 p1 p2 p3
  have hng : g ∉ [b5] := by simpa using n1
  exact ⟨sv, cv, tv, ⟨hF.cellAt p0 hng, hF.cellAt p1 hng, hF.cellAt p2 hng, hF.cellAt p3 hng⟩, ⟨fun h => by omega, fun _ => p4.sts⟩, p4.ctrs, ⟨fun h => by omega, fun _ => p4.steps⟩, p4.cap⟩
/-- while the copy is overwritten: wA is the world in which New was called, wB the one behind it -/
structure OvR (w0 wA wB W : World) : Prop where
  fr : Frm [] w0 W
  ag : Agree wA.heap.size wB W
  size : wB.heap.size ≤ W.heap.size
  kp : ∀ (k : Nat) (cur : Array Value) (t : TypeId), t ≠ 60 → t ≠ 62 → wB.heap[k]? = some (Obj.cells cur t (0, 0)) → W.heap[k]? = some (Obj.cells cur t (0, 0))
  sz : ∀ (k : Nat) (cur : Array Value) (t : TypeId), wB.heap[k]? = some (Obj.cells cur t (0, 0)) → ∃ cur', W.heap[k]? = some (Obj.cells cur' t (0, 0)) ∧ cur'.size = cur.size
theorem OvR.start {w0 wA wB : World} (h : Frm [] w0 wB) : OvR w0 wA wB wB := ⟨h, Agree.refl _ _, Nat.le_refl _, fun _ _ _ _ _ h => h, fun _ cur _ h => ⟨cur, h, rfl⟩⟩
theorem OvR.step {w0 wA wB W : World} {b o : Nat} {cb : Array Value} {tb : TypeId} {v : Value} (h : OvR w0 wA wB W) (h0 : w0.heap.size ≤ b) (hA : b < wA.heap.size) (hb : wB.heap[b]? = some (Obj.cells cb tb (0, 0))) (ht : tb = 60 ∨ tb = 62) :
    OvR w0 wA wB (W.setCell ⟨b, o, none⟩ v) := by
  obtain ⟨cur, hc, hcs⟩ := h.sz b cb tb hb
  have hF : Frm [b] W (W.setCell ⟨b, o, none⟩ v) := (Frm.refl _ _).setCell _ (.inl (by simp)) _
  refine ⟨h.fr.then hF (by intro x hx; simp at hx; subst hx; exact .inr h0), fun k h1 h2 => ?_, by have := hF.size; have := h.size; omega, fun k c t n1 n2 hk => ?_, fun k c t hk => ?_⟩
  · rw [← h.ag k h1 h2]
    exact hF.block k (by have := h.size; omega) (by simp; omega)
  · have hk' := h.kp k c t n1 n2 hk
    refine hF.at hk' ?_
    simp only [List.mem_singleton]
    intro e
    subst e
    rw [hb] at hk
    cases hk
    rcases ht with e | e
    · exact n1 e
    · exact n2 e
  · obtain ⟨c', hk', hs⟩ := h.sz k c t hk
    by_cases e : k = b
    · subst e
      rw [hc] at hk'
      cases hk'
      exact ⟨_, block_setCell hc o v, by rw [Array.size_setIfInBounds]; exact hs⟩
    · exact ⟨c', hF.at hk' (by simpa using e), hs⟩
end Go.Proofs.YtkphhjekfimmlaaGreat
