/- A part that came in; lists of arguments. -/
import Derived.Test.YtomjnbcaofebfaaLeaf
import Derived.Test.YtomjnbcaofebfaaOwn
import Derived.Deep.Slices
import Derived.Lib.SmallJoins
namespace Go.Proofs.Ytomjnbcaofebfaa
open Go.ChangeShapes Go.WideShapes Go.ChangeAt Go.RowKit Go.Deep

theorem trodAll_two {H : Type} {enc : TypeId × Value → H} {P : Program} {w : World} {base : Nat} {spare : TypeId → Bool} {held : Bool} {t0 t1 : TypeId} {args : Array Value} {ds : List (DataW H)} {ps : List MemPlace}
    (h : DataW.TrodAll enc P w base spare held [t0, t1] args.toList ds ps) :
    ∃ v0 v1 d0 d1 p0 p1, args = #[v0, v1] ∧ ds = [d0, d1] ∧ ps = p0 ++ p1 ∧ DataW.Trod enc P w base spare held t0 v0 d0 p0 ∧ DataW.Trod enc P w base spare held t1 v1 d1 p1 := by
  obtain ⟨v0, _, d0, _, p0, _, hargs, rfl, rfl, h0, hrest⟩ := trodAll_cons h
  obtain ⟨v1, _, d1, _, p1, _, rfl, rfl, rfl, h1, hrest⟩ := trodAll_cons hrest
  obtain ⟨rfl, rfl, rfl⟩ := trodAll_nil hrest
  exact ⟨v0, v1, d0, d1, p0, p1, by cases args; simp_all, rfl, by simp, h0, h1⟩
theorem Try.cells5' : Try.prog.cellsOf 5 = 1 := by kernel_rfl
theorem Try.cells3' : Try.prog.cellsOf 3 = 1 := by kernel_rfl
theorem Try.cells22' : Try.prog.cellsOf 22 = 1 := by kernel_rfl
theorem Try.cells38' : Try.prog.cellsOf 38 = 4 := by kernel_rfl
set_option maxRecDepth 10000 in
theorem bytes_cell {H : Type} {enc : TypeId × Value → H} {W : World} {fuel : Nat} {c : Value} {x : DataW H × List MemPlace} (hf : DataW.trod enc Try.prog W 0 (fun _ => true) true fuel 22 [c] = some x) :
    ∃ ao cap l, c = .slice ao (List.length l) cap ∧ Byts W c l := by
  rcases open_ints Try.underlying22 Try.underlying5 Try.cells5' hf with ⟨hcs, hx⟩ | ⟨a, len, cap, zs, hcs, _, hl, hm, hz, hx, hcell, hwz⟩
  · simp only [List.cons.injEq, and_true] at hcs
    subst hcs
    exact ⟨none, 0, [], rfl, Byts.nil W⟩
  · simp only [List.cons.injEq, and_true] at hcs
    subst hcs
    simp only [if_true] at hz
    have hlen : ((zs.take len).map fun n => UInt8.ofNat n.toNat).length = len := by simp; omega
    refine ⟨some a, cap, (zs.take len).map fun n => UInt8.ofNat n.toNat, by rw [hlen], some a, cap, by rw [hlen], by rw [hlen]; omega, fun k x hk => ?_⟩
    have hkl := lt_of_some hk
    rw [hlen] at hkl
    obtain ⟨ab, ao, spot⟩ := a
    have hspot : spot = none := by simpa [Addr.add] using World.cell?_spot (hcell 0 (by omega))
    subst hspot
    have hcj := hcell k (by omega)
    rw [Addr.add_lit] at hcj
    refine ⟨ab, ao, rfl, ?_⟩
    rw [hcj]
    have hkz : k < zs.length := by omega
    rw [List.getElem?_map, List.getElem?_take_of_lt hkl, List.getElem?_eq_getElem hkz] at hk
    simp only [Option.map_some, Option.some.injEq] at hk
    subst hk
    have hw := hwz zs[k] (List.getElem_mem hkz)
    simp only [Lit.wf, show IntKind.u8.min = 0 from rfl, show IntKind.u8.max = 255 from rfl, Bool.and_eq_true, decide_eq_true_eq] at hw
    unfold u8
    rw [List.getD_eq_getElem?_getD, List.getElem?_eq_getElem hkz]
    simp
    omega
set_option maxRecDepth 10000 in
theorem open_part {H : Type} {enc : TypeId × Value → H} {W : World} {base : Nat} {v : Value} {d : DataW H} {p : List MemPlace} (hv : Value.okWide Try.prog W .any base 38 v) (h : DataW.Trod enc Try.prog W 0 (fun _ => true) true 38 v d p) :
    ∃ m u c ao cap l, v = .agg #[.int .i64 m, .int .i64 u, .int .i64 c, .slice ao (List.length l) cap] ∧ Byts W (.slice ao (List.length l) cap) l := by
  obtain ⟨cs, rfl, hsz⟩ := okWide_struct Try.underlying38 hv
  obtain ⟨fuel, hf⟩ := h
  obtain ⟨y0, y1, y2, y3, n, _, _, t0, t1, t2, t3⟩ := Go.Joins.trod_struct4 Try.underlying38 hf
  rw [Try.cells38'] at hsz
  obtain ⟨c0, c1, c2, c3, rfl⟩ := Go.Joins.array4 hsz
  · simp only [Value.cells, Try.cells3', Try.cells22', List.drop, List.take] at t0 t1 t2 t3
    obtain ⟨i0, e0, _⟩ := DataW.trod_int Try.underlying3 t0
    obtain ⟨i1, e1, _⟩ := DataW.trod_int Try.underlying3 t1
    obtain ⟨i2, e2, _⟩ := DataW.trod_int Try.underlying3 t2
    simp only [List.cons.injEq, and_true] at e0 e1 e2
    subst e0; subst e1; subst e2
    obtain ⟨ao, cap, l, rfl, hb⟩ := bytes_cell t3
    exact ⟨i0, i1, i2, ao, cap, l, rfl, hb⟩
end Go.Proofs.Ytomjnbcaofebfaa
