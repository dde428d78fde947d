/- ProductNil returns true for every move, every two numbers and every name, and they read behind the call as they did before: no condition. -/
import Derived.Test.YtkphhjekfimmlaaGreatB25
import Derived.Deep.Slices
import Derived.Lib.SmallJoins
import Derived.ChangeMaps5
namespace Go.Proofs.YtkphhjekfimmlaaGreat
open Go.ChangeShapes Go.WideShapes Go.ChangeAt Go.RowKit Go.Deep

theorem trodAll_four {H : Type} {enc : TypeId × Value → H} {P : Program} {w : World} {base : Nat} {spare : TypeId → Bool} {held : Bool} {t0 t1 t2 t3 : TypeId} {args : Array Value} {ds : List (DataW H)} {ps : List MemPlace}
    (h : DataW.TrodAll enc P w base spare held [t0, t1, t2, t3] args.toList ds ps) :
    ∃ v0 v1 v2 v3 d0 d1 d2 d3 p0 p1 p2 p3, args = #[v0, v1, v2, v3] ∧ ds = [d0, d1, d2, d3] ∧ ps = p0 ++ p1 ++ p2 ++ p3 ∧ DataW.Trod enc P w base spare held t0 v0 d0 p0 ∧ DataW.Trod enc P w base spare held t1 v1 d1 p1 ∧
      DataW.Trod enc P w base spare held t2 v2 d2 p2 ∧ DataW.Trod enc P w base spare held t3 v3 d3 p3 := by
  obtain ⟨v0, _, d0, _, p0, _, hargs, rfl, rfl, h0, hrest⟩ := trodAll_cons h
  obtain ⟨v1, _, d1, _, p1, _, rfl, rfl, rfl, h1, hrest⟩ := trodAll_cons hrest
  obtain ⟨v2, _, d2, _, p2, _, rfl, rfl, rfl, h2, hrest⟩ := trodAll_cons hrest
  obtain ⟨v3, _, d3, _, p3, _, rfl, rfl, rfl, h3, hrest⟩ := trodAll_cons hrest
  obtain ⟨rfl, rfl, rfl⟩ := trodAll_nil hrest
  exact ⟨v0, v1, v2, v3, d0, d1, d2, d3, p0, p1, p2, p3, by cases args; simp_all, rfl, by simp, h0, h1, h2, h3⟩
theorem Tryz.cells3x : Tryz.prog.cellsOf 3 = 1 := by kernel_rfl
theorem Tryz.cellsMK : Tryz.prog.cellsOf 43 = 1 := by kernel_rfl
theorem Tryz.cellsMv : Tryz.prog.cellsOf 45 = 4 := by kernel_rfl
set_option maxRecDepth 10000 in
theorem open_move {H : Type} {enc : TypeId × Value → H} {W : World} {base : Nat} {v : Value} {d : DataW H} {p : List MemPlace} (hv : Value.okWide Tryz.prog W .any base 45 v) (h : DataW.Trod enc Tryz.prog W 0 (fun _ => true) true 45 v d p) :
    ∃ m : Mv, v = mvV m := by
  obtain ⟨cs, rfl, hsz⟩ := okWide_struct Tryz.underlying45 hv
  obtain ⟨fuel, hf⟩ := h
  obtain ⟨y0, y1, y2, y3, n, _, _, t0, t1, t2, t3⟩ := Go.Joins.trod_struct4 Tryz.underlying45 hf
  rw [Tryz.cellsMv] at hsz
  obtain ⟨c0, c1, c2, c3, rfl⟩ := Go.Joins.array4 hsz
  simp only [Value.cells, Tryz.cells3x, Tryz.cellsMK, List.drop, List.take] at t0 t1 t2 t3
  obtain ⟨i0, e0, _⟩ := DataW.trod_int Tryz.underlying43 t0
  obtain ⟨i1, e1, _⟩ := DataW.trod_int Tryz.underlying3 t1
  obtain ⟨i2, e2, _⟩ := DataW.trod_int Tryz.underlying3 t2
  obtain ⟨i3, e3, _⟩ := DataW.trod_int Tryz.underlying3 t3
  simp only [List.cons.injEq, and_true] at e0 e1 e2 e3
  subst e0; subst e1; subst e2; subst e3
  exact ⟨⟨i0, i1, i2, i3⟩, rfl⟩
set_option maxRecDepth 100000 in
theorem productNil_holds : Rows.ProductNilSaid :=
  OpenClaim.holds_of_wide 11 Tryz.f11 rfl rfl rfl rfl rfl rfl rfl ⟨rfl, rfl, rfl, rfl, rfl⟩ rfl rfl rfl rfl rfl (by kernel_rfl) Tryz.func11 (by kernel_rfl)
    (of_decide_eq_true (by kernel_rfl)) (by unfold Func.isWrapper; first | (rw [if_pos (by decide +kernel)]; kernel_rfl) | (rw [if_neg (by decide +kernel)]; exact ⟨rfl, rfl⟩))
    (fun os started H enc _ => law_lifted (C := Tryz.checked) Tryz.own Tryz.laidOut started enc 11 Tryz.f11 Rows.productNilSpec 4 (by kernel_rfl) Tryz.func11
      (ChangeSpec.witness6 (enc := enc) (C := Tryz.checked) false ⟨#[], #[.agg #[.int .i64 0, .int .i64 0, .int .i64 0, .int .i64 0], .int .i64 0, .int .i64 0, .string { data := #[] }], []⟩ 8 (by kernel_rfl) (by kernel_rfl) (by kernel_rfl) (by kernel_rfl))
      rfl rfl Tryz.underlying4 (by kernel_rfl)
      (fun ds hd => by
        match ds, hd with
        | [d, d', d'', d'''], _ => rfl)
      (fun W base args ds p hval hA hlt hsz => by
        have hA' : DataW.TrodAll enc Tryz.prog W 0 (fun _ => true) true Tryz.f11.params.toList args.toList ds p := hA
        have hval' : ∀ (j : Nat) t v, Tryz.f11.params[j]? = some t → args[j]? = some v → Value.okWide Tryz.prog W .any base t v := hval
        rw [Tryz.params11] at hA' hval'
        obtain ⟨v0, v1, v2, v3, d0, d1, d2, d3, p0, p1, p2, p3, rfl, rfl, rfl, h0, h1, h2, h3⟩ := trodAll_four hA'
        obtain ⟨m, rfl⟩ := open_move (hval' 0 45 v0 rfl rfl) h0
        obtain ⟨a, rfl, _⟩ := open_int Tryz.underlying3 (hval' 1 3 v1 rfl rfl) h1
        obtain ⟨b, rfl, _⟩ := open_int Tryz.underlying3 (hval' 2 3 v2 rfl rfl) h2
        obtain ⟨nm, rfl, _⟩ := Go.ChangeMaps.open_string Tryz.underlying9 (hval' 3 9 v3 rfl rfl) h3
        rcases Nat.lt_or_ge 60 nm.size with hl | hl
        · exact pnil_big m a b nm W hl
        · exact pnil_any m a b nm W (by omega)))
#print axioms productNil_holds
end Go.Proofs.YtkphhjekfimmlaaGreat
