/- FragmentHolds returns true for every number, all bytes, every size and every order, and the bytes and the order read behind the call as they did before: no condition. -/
import Derived.Test.YtomjnbcaofebfaaHold
import Derived.Test.YtomjnbcaofebfaaOpn
import Derived.Test.YtomjnbcaofebfaaLawKit
namespace Go.Proofs.Ytomjnbcaofebfaa
open Go.ChangeShapes Go.WideShapes Go.ChangeAt Go.RowKit Go.Deep

theorem trodAll_fourH {H : Type} {enc : TypeId × Value → H} {P : Program} {w : World} {base : Nat} {spare : TypeId → Bool} {held : Bool} {t0 t1 t2 t3 : TypeId} {args : Array Value} {ds : List (DataW H)} {ps : List MemPlace}
    (h : DataW.TrodAll enc P w base spare held [t0, t1, t2, t3] args.toList ds ps) :
    ∃ v0 v1 v2 v3 d0 d1 d2 d3 p0 p1 p2 p3, args = #[v0, v1, v2, v3] ∧ ds = [d0, d1, d2, d3] ∧ ps = p0 ++ p1 ++ p2 ++ p3 ∧ DataW.Trod enc P w base spare held t0 v0 d0 p0 ∧ DataW.Trod enc P w base spare held t1 v1 d1 p1 ∧ DataW.Trod enc P w base spare held t2 v2 d2 p2 ∧ DataW.Trod enc P w base spare held t3 v3 d3 p3 := by
  obtain ⟨v0, _, d0, _, p0, _, hargs, rfl, rfl, h0, hrest⟩ := trodAll_cons h
  obtain ⟨v1, _, d1, _, p1, _, rfl, rfl, rfl, h1, hrest⟩ := trodAll_cons hrest
  obtain ⟨v2, _, d2, _, p2, _, rfl, rfl, rfl, h2, hrest⟩ := trodAll_cons hrest
  obtain ⟨v3, _, d3, _, p3, _, rfl, rfl, rfl, h3, hrest⟩ := trodAll_cons hrest
  obtain ⟨rfl, rfl, rfl⟩ := trodAll_nil hrest
  exact ⟨v0, v1, v2, v3, d0, d1, d2, d3, p0, p1, p2, p3, by cases args; simp_all, rfl, by simp, h0, h1, h2, h3⟩
set_option maxRecDepth 10000 in
theorem open_bytes4 {H : Type} {enc : TypeId × Value → H} {W : World} {base : Nat} {v : Value} {d : DataW H} {p : List MemPlace} (hv : Value.okWide Try.prog W .any base 22 v) (h : DataW.Trod enc Try.prog W 0 (fun _ => true) true 22 v d p) :
    ∃ ao cap l, v = .slice ao (List.length l) cap ∧ Byts W v l := by
  obtain ⟨a0, len, cap, rfl⟩ := okWide_slice Try.underlying22 hv
  obtain ⟨fuel, hf⟩ := h
  exact bytes_cell hf
set_option maxRecDepth 100000 in
theorem fragmentHolds_holds : Rows.FragmentHoldsSaid :=
  OpenClaim.holds_of_wide 4 Try.f4 rfl rfl rfl rfl rfl rfl rfl ⟨rfl, rfl, rfl, rfl, rfl⟩ rfl rfl rfl rfl rfl (by kernel_rfl) Try.func4 (by kernel_rfl)
    (of_decide_eq_true (by kernel_rfl)) (by unfold Func.isWrapper; first | (rw [if_pos (by decide +kernel)]; kernel_rfl) | (rw [if_neg (by decide +kernel)]; exact ⟨rfl, rfl⟩))
    (fun os started H enc _ => law_lifted (C := Try.checked) Try.own Try.laidOut started enc 4 Try.f4 Rows.fragmentHoldsSpec 4 (by kernel_rfl) Try.func4
      (ChangeSpec.witness6 (enc := enc) (C := Try.checked) false ⟨#[], #[.int .i64 0, .slice none 0 0, .int .i64 0, .slice none 0 0], []⟩ 8 (by kernel_rfl) (by kernel_rfl) (by kernel_rfl) (by kernel_rfl))
      rfl rfl Try.underlying4 (by kernel_rfl)
      (fun ds hd => by
        match ds, hd with
        | [d, d', d'', d'''], _ => rfl)
      (fun W base args ds p hval hA hlt hsz => by
        have hA' : DataW.TrodAll enc Try.prog W 0 (fun _ => true) true Try.f4.params.toList args.toList ds p := hA
        have hval' : ∀ (j : Nat) t v, Try.f4.params[j]? = some t → args[j]? = some v → Value.okWide Try.prog W .any base t v := hval
        rw [Try.params4] at hA' hval'
        obtain ⟨v0, v1, v2, v3, d0, d1, d2, d3, p0, p1, p2, p3, rfl, rfl, rfl, h0, h1, h2, h3⟩ := trodAll_fourH hA'
        obtain ⟨m, rfl, _⟩ := open_int Try.underlying3 (hval' 0 3 v0 rfl rfl) h0
        obtain ⟨ao, cp, l, rfl, hb⟩ := open_bytes4 (hval' 1 22 v1 rfl rfl) h1
        obtain ⟨size, rfl, _⟩ := open_int Try.underlying3 (hval' 2 3 v2 rfl rfl) h2
        obtain ⟨oo, ocp, ol, rfl, hol⟩ := open_bytes4 (hval' 3 22 v3 rfl rfl) h3
        rcases Nat.lt_or_ge 300 l.length with hl | hl
        · exact holds_big m size ao l.length cp _ W hl
        · by_cases he : splitE m size l.length = 0
          · rcases Nat.lt_or_ge 40 (nparts l.length size.toNat) with hn | hn
            · exact holds_many m size ao cp l _ W hb hl he hn
            · exact holds_any m size ao cp l oo ocp ol W hb hol hl he hn
          · exact holds_err m size ao cp l _ W hb hl he))
#print axioms fragmentHolds_holds
end Go.Proofs.Ytomjnbcaofebfaa
