/- A list of calls, handed in as an argument, read cell by cell. -/
import Derived.Test.YthelfpenccpkeaaOwn
import Derived.Test.YthelfpenccpkeaaRep
import Derived.Deep.Strs
namespace Go.Proofs.Ythelfpenccpkeaa
open Go.ChangeShapes Go.WideShapes Go.ChangeAt Go.RowKit Go.Deep

/-- a list of n calls at an address, as it reads in w -/
def Acts (w : World) (ao : Option Addr) (n : Nat) : Prop := ∀ k, k < n → ∃ (b o : Nat) (what : Int) (ms : ByteArray) (pl : Int), ao = some ⟨b, o, none⟩ ∧
  w.cell? ⟨b, o + k * 3, none⟩ = some (.int .i64 what) ∧ w.cell? ⟨b, o + k * 3 + 1, none⟩ = some (.string ms) ∧ w.cell? ⟨b, o + k * 3 + 2, none⟩ = some (.int .i64 pl)
theorem Acts.frm {w w' : World} {ao : Option Addr} {n : Nat} (h : Acts w ao n) (hf : Frm [] w w') : Acts w' ao n := fun k hk => by
  obtain ⟨b, o, what, ms, pl, h0, h1, h2, h3⟩ := h k hk
  exact ⟨b, o, what, ms, pl, h0, hf.keep h1, hf.keep h2, hf.keep h3⟩
theorem Try.cells41 : Try.prog.cellsOf 41 = 3 := by kernel_rfl
theorem Try.cells9 : Try.prog.cellsOf 9 = 1 := by kernel_rfl
theorem Try.cells3 : Try.prog.cellsOf 3 = 1 := by kernel_rfl
set_option maxRecDepth 100000 in
theorem open_acts {H : Type} {enc : TypeId × Value → H} {W : World} {base : Nat} {v : Value} {d : DataW H} {p : List MemPlace} (hv : Value.okWide Try.prog W .any base 38 v) (h : DataW.Trod enc Try.prog W 0 (fun _ => true) true 38 v d p) :
    ∃ ao n cap, v = .slice ao n cap ∧ Acts W ao n := by
  obtain ⟨a0, len, cap, rfl⟩ := okWide_slice Try.underlying38 hv
  obtain ⟨fuel, hf⟩ := h
  refine ⟨a0, len, cap, rfl, fun k hk => ?_⟩
  rcases open_slice Try.underlying38 hf with ⟨hcs, _⟩ | ⟨a, len', cap', m, n, D, Pl, hcs, _, hl, _, hm, _, hx⟩
  · simp [Value.cells] at hcs
    omega
  · simp [Value.cells] at hcs
    obtain ⟨rfl, rfl, rfl⟩ := hcs
    simp only [if_true] at hm
    subst hm
    obtain ⟨cs', h1, h2⟩ := hx k (by omega)
    rw [Try.cells41] at h1
    obtain ⟨_, hlen, hcell⟩ := World.cells?_some h1
    obtain ⟨y0, y1, y2, n', _, _, t0, t1, t2⟩ := trod_struct3 Try.underlying41 h2
    match cs', hlen with
    | [c0, c1, c2], _ =>
      simp only [Try.cells3, Try.cells9, List.drop, List.take] at t0 t1 t2
      obtain ⟨i0, e0, _⟩ := DataW.trod_int Try.underlying3 t0
      obtain ⟨i1, e1, _⟩ := DataW.trod_string Try.underlying9 t1
      obtain ⟨i2, e2, _⟩ := DataW.trod_int Try.underlying3 t2
      simp only [List.cons.injEq, and_true] at e0 e1 e2
      subst e0; subst e1; subst e2
      have q0 := hcell 0 (by omega)
      have q1 := hcell 1 (by omega)
      have q2 := hcell 2 (by omega)
      rw [Deep.add_add] at q0 q1 q2
      obtain ⟨b, o, spot⟩ := a
      have hspot : spot = none := by
        obtain ⟨cs0, g1, _⟩ := hx 0 (by omega)
        rw [Try.cells41] at g1
        obtain ⟨_, hlen0, hcell0⟩ := World.cells?_some g1
        have g0 := hcell0 0 (by omega)
        have : ∃ c, cs0[0]? = some c := ⟨cs0[0]'(by omega), List.getElem?_eq_getElem _⟩
        obtain ⟨c, hc⟩ := this
        rw [hc, Deep.add_add] at g0
        exact World.cell?_spot (w := W) (a := ⟨b, o, spot⟩) (by simpa [Addr.add] using g0)
      subst hspot
      rw [add_plain] at q0 q1 q2
      exact ⟨b, o, i0, i1, i2, rfl, by simpa using q0, by simpa [Nat.add_assoc] using q1, by simpa [Nat.add_assoc] using q2⟩
end Go.Proofs.Ythelfpenccpkeaa
