/- FragmentSplits returns true for every number, bytes and size, and the bytes read behind the call as they did before: no condition. -/
import Derived.Test.YtomjnbcaofebfaaSplits
import Derived.Test.YtomjnbcaofebfaaLawKit
import Derived.Test.YtomjnbcaofebfaaOwn
import Derived.Deep.Slices
namespace Go.Proofs.Ytomjnbcaofebfaa
open Go.ChangeShapes Go.WideShapes Go.ChangeAt Go.RowKit Go.Deep

theorem trodAll_three {H : Type} {enc : TypeId × Value → H} {P : Program} {w : World} {base : Nat} {spare : TypeId → Bool} {held : Bool} {t0 t1 t2 : TypeId} {args : Array Value} {ds : List (DataW H)} {ps : List MemPlace}
    (h : DataW.TrodAll enc P w base spare held [t0, t1, t2] args.toList ds ps) :
    ∃ v0 v1 v2 d0 d1 d2 p0 p1 p2, args = #[v0, v1, v2] ∧ ds = [d0, d1, d2] ∧ ps = p0 ++ p1 ++ p2 ∧ DataW.Trod enc P w base spare held t0 v0 d0 p0 ∧ DataW.Trod enc P w base spare held t1 v1 d1 p1 ∧ DataW.Trod enc P w base spare held t2 v2 d2 p2 := by
  obtain ⟨v0, _, d0, _, p0, _, hargs, rfl, rfl, h0, hrest⟩ := trodAll_cons h
  obtain ⟨v1, _, d1, _, p1, _, rfl, rfl, rfl, h1, hrest⟩ := trodAll_cons hrest
  obtain ⟨v2, _, d2, _, p2, _, rfl, rfl, rfl, h2, hrest⟩ := trodAll_cons hrest
  obtain ⟨rfl, rfl, rfl⟩ := trodAll_nil hrest
  exact ⟨v0, v1, v2, d0, d1, d2, p0, p1, p2, by cases args; simp_all, rfl, by simp, h0, h1, h2⟩
theorem Try.cells5 : Try.prog.cellsOf 5 = 1 := by kernel_rfl
set_option maxRecDepth 10000 in
theorem open_bytes {H : Type} {enc : TypeId × Value → H} {W : World} {base : Nat} {v : Value} {d : DataW H} {p : List MemPlace} (hv : Value.okWide Try.prog W .any base 22 v) (h : DataW.Trod enc Try.prog W 0 (fun _ => true) true 22 v d p) :
    ∃ ao cap l, v = .slice ao (List.length l) cap ∧ Byts W v l := by
  obtain ⟨a0, len, cap, rfl⟩ := okWide_slice Try.underlying22 hv
  obtain ⟨fuel, hf⟩ := h
  rcases open_ints Try.underlying22 Try.underlying5 Try.cells5 hf with ⟨hcs, hx⟩ | ⟨a, len', cap', zs, hcs, _, hl, hm, hz, hx, hcell, hwz⟩
  · simp [Value.cells] at hcs
    obtain ⟨rfl, rfl, rfl⟩ := hcs
    exact ⟨none, 0, [], rfl, Byts.nil W⟩
  · simp [Value.cells] at hcs
    obtain ⟨rfl, rfl, rfl⟩ := hcs
    simp only [if_true] at hz
    have hlen : ((zs.take len).map fun n => UInt8.ofNat n.toNat).length = len := by simp; omega
    refine ⟨some a, cap, (zs.take len).map fun n => UInt8.ofNat n.toNat, by rw [hlen], some a, cap, by rw [hlen], by rw [hlen]; omega, fun k x hk => ?_⟩
    have hkl := lt_of_some hk
    rw [hlen] at hkl
    obtain ⟨ab, ao, spot⟩ := a
    have hspot : spot = none := by simpa [Addr.add] using World.cell?_spot (hcell 0 (by omega))
    subst hspot
    have hcj := hcell k (by omega)
    rw [Addr.add_lit] at hcj
    refine ⟨ab, ao, rfl, ?_⟩
    rw [hcj]
    have hkz : k < zs.length := by omega
    rw [List.getElem?_map, List.getElem?_take_of_lt hkl, List.getElem?_eq_getElem hkz] at hk
    simp only [Option.map_some, Option.some.injEq] at hk
    subst hk
    have hw := hwz zs[k] (List.getElem_mem hkz)
    simp only [Lit.wf, show IntKind.u8.min = 0 from rfl, show IntKind.u8.max = 255 from rfl, Bool.and_eq_true, decide_eq_true_eq] at hw
    unfold u8
    rw [List.getD_eq_getElem?_getD, List.getElem?_eq_getElem hkz]
    simp
    omega
set_option maxRecDepth 100000 in
theorem fragmentSplits_holds : Rows.FragmentSplitsSaid :=
  OpenClaim.holds_of_wide 3 Try.f3 rfl rfl rfl rfl rfl rfl rfl ⟨rfl, rfl, rfl, rfl, rfl⟩ rfl rfl rfl rfl rfl (by kernel_rfl) Try.func3 (by kernel_rfl)
    (of_decide_eq_true (by kernel_rfl)) (by unfold Func.isWrapper; first | (rw [if_pos (by decide +kernel)]; kernel_rfl) | (rw [if_neg (by decide +kernel)]; exact ⟨rfl, rfl⟩))
    (fun os started H enc _ => law_lifted (C := Try.checked) Try.own Try.laidOut started enc 3 Try.f3 Rows.fragmentSplitsSpec 4 (by kernel_rfl) Try.func3
      (ChangeSpec.witness6 (enc := enc) (C := Try.checked) false ⟨#[], #[.int .i64 0, .slice none 0 0, .int .i64 0], []⟩ 8 (by kernel_rfl) (by kernel_rfl) (by kernel_rfl) (by kernel_rfl))
      rfl rfl Try.underlying4 (by kernel_rfl)
      (fun ds hd => by
        match ds, hd with
        | [d, d', d''], _ => rfl)
      (fun W base args ds p hval hA hlt hsz => by
        have hA' : DataW.TrodAll enc Try.prog W 0 (fun _ => true) true Try.f3.params.toList args.toList ds p := hA
        have hval' : ∀ (j : Nat) t v, Try.f3.params[j]? = some t → args[j]? = some v → Value.okWide Try.prog W .any base t v := hval
        rw [Try.params3] at hA' hval'
        obtain ⟨v0, v1, v2, d0, d1, d2, p0, p1, p2, rfl, rfl, rfl, h0, h1, h2⟩ := trodAll_three hA'
        obtain ⟨m, rfl, _⟩ := open_int Try.underlying3 (hval' 0 3 v0 rfl rfl) h0
        obtain ⟨ao, cp, l, rfl, hb⟩ := open_bytes (hval' 1 22 v1 rfl rfl) h1
        obtain ⟨size, rfl, _⟩ := open_int Try.underlying3 (hval' 2 3 v2 rfl rfl) h2
        rcases Nat.lt_or_ge 3000 l.length with hl | hl
        · exact splits_big m size ao l.length cp W hl
        · exact splits_any m size ao cp l W hb hl))
#print axioms fragmentSplits_holds
end Go.Proofs.Ytomjnbcaofebfaa
