/- TriePlays returns true for all words, every list of Bools and all bytes, and the bytes read behind the call as they did before: no condition. -/
import Derived.Test.YtefpfcheafbfdaaPlays
import Derived.Test.YtefpfcheafbfdaaOpn
import Derived.Test.YtefpfcheafbfdaaOwn
namespace Go.Proofs.Ytefpfcheafbfdaa
open Go.ChangeShapes Go.WideShapes Go.ChangeAt Go.RowKit Go.Deep

theorem Try.cells4' : Try.prog.cellsOf 4 = 1 := by kernel_rfl
set_option maxRecDepth 10000 in
theorem open_bls {H : Type} {enc : TypeId × Value → H} {W : World} {base : Nat} {v : Value} {d : DataW H} {p : List MemPlace} (hv : Value.okWide Try.prog W .any base 37 v) (h : DataW.Trod enc Try.prog W 0 (fun _ => true) true 37 v d p) :
    ∃ n, Bls W v n := by
  obtain ⟨a0, len0, cap0, rfl⟩ := okWide_slice Try.underlying37 hv
  obtain ⟨fuel, hf⟩ := h
  rcases open_slice1 Try.underlying37 Try.cells4' hf with ⟨hcs, _⟩ | ⟨a, len, cap, m, n, V, D, Pl, hcs, _, hl, _, hm, _, hx⟩
  · simp [Value.cells] at hcs
    obtain ⟨rfl, rfl, rfl⟩ := hcs
    exact ⟨0, none, 0, rfl, fun k hk => by omega⟩
  · simp [Value.cells] at hcs
    obtain ⟨rfl, rfl, rfl⟩ := hcs
    simp only [if_true] at hm
    subst hm
    refine ⟨len0, some a, m, rfl, fun k hk => ?_⟩
    obtain ⟨hc, h2⟩ := hx k (by omega)
    obtain ⟨z, e, -⟩ := DataW.trod_bool Try.underlying4 h2
    simp only [List.cons.injEq, and_true] at e
    obtain ⟨ab, ao, spot⟩ := a
    have hspot : spot = none := by simpa [Addr.add] using World.cell?_spot (hx 0 (by omega)).1
    subst hspot
    rw [add_plain, e] at hc
    exact ⟨ab, ao, z, rfl, hc⟩
set_option maxRecDepth 100000 in
theorem triePlays_holds : Rows.TriePlaysSaid :=
  OpenClaim.holds_of_wide 4 Try.f4 rfl rfl rfl rfl rfl rfl rfl ⟨rfl, rfl, rfl, rfl, rfl⟩ rfl rfl rfl rfl rfl (by kernel_rfl) Try.func4 (by kernel_rfl)
    (of_decide_eq_true (by kernel_rfl)) (by unfold Func.isWrapper; first | (rw [if_pos (by decide +kernel)]; kernel_rfl) | (rw [if_neg (by decide +kernel)]; exact ⟨rfl, rfl⟩))
    (fun os started H enc _ => law_lifted (C := Try.checked) Try.own Try.laidOut started enc 4 Try.f4 Rows.triePlaysSpec 4 (by kernel_rfl) Try.func4
      (ChangeSpec.witness6 (enc := enc) (C := Try.checked) false ⟨#[], #[.slice none 0 0, .slice none 0 0, .slice none 0 0], []⟩ 8 (by kernel_rfl) (by kernel_rfl) (by kernel_rfl) (by kernel_rfl))
      rfl rfl Try.underlying4 (by kernel_rfl)
      (fun ds hd => by
        match ds, hd with
        | [d, d', d''], _ => rfl)
      (fun W base args ds p hval hA hlt hsz => by
        have hA' : DataW.TrodAll enc Try.prog W 0 (fun _ => true) true Try.f4.params.toList args.toList ds p := hA
        have hval' : ∀ (j : Nat) t v, Try.f4.params[j]? = some t → args[j]? = some v → Value.okWide Try.prog W .any base t v := hval
        rw [Try.params4] at hA' hval'
        obtain ⟨v0, v1, v2, d0, d1, d2, p0, p1, p2, rfl, rfl, rfl, h0, h1, h2⟩ := trodAll_three hA'
        obtain ⟨L, hl⟩ := open_wds (hval' 0 22 v0 rfl rfl) h0
        obtain ⟨nr, hr⟩ := open_bls (hval' 1 37 v1 rfl rfl) h1
        obtain ⟨bo, bc, b, rfl, hb⟩ := open_byts (hval' 2 23 v2 rfl rfl) h2
        by_cases hbad : 30 < L.length ∨ fewL L 30 = false ∨ 80 < b.length
        · exact plays_no v0 v1 _ L b W hl hb hbad
        · obtain ⟨h30, h80⟩ := fewL_iff.1 (show fewL L 30 = true by cases e : fewL L 30 with | true => rfl | false => exact absurd (.inr (.inl e)) hbad)
          exact plays_law v0 v1 _ L b nr W hl hr h30 h80 hb (by omega)))
#print axioms triePlays_holds
end Go.Proofs.Ytefpfcheafbfdaa
