/- TrieCopies returns true for all words and all bytes, and the bytes read behind the call as they did before: no condition. -/
import Derived.Test.YtefpfcheafbfdaaCopies
import Derived.Test.YtefpfcheafbfdaaOpn
import Derived.Test.YtefpfcheafbfdaaOwn
namespace Go.Proofs.Ytefpfcheafbfdaa
open Go.ChangeShapes Go.WideShapes Go.ChangeAt Go.RowKit Go.Deep

set_option maxRecDepth 100000 in
theorem trieCopies_holds : Rows.TrieCopiesSaid :=
  OpenClaim.holds_of_wide 7 Try.f7 rfl rfl rfl rfl rfl rfl rfl ⟨rfl, rfl, rfl, rfl, rfl⟩ rfl rfl rfl rfl rfl (by kernel_rfl) Try.func7 (by kernel_rfl)
    (of_decide_eq_true (by kernel_rfl)) (by unfold Func.isWrapper; first | (rw [if_pos (by decide +kernel)]; kernel_rfl) | (rw [if_neg (by decide +kernel)]; exact ⟨rfl, rfl⟩))
    (fun os started H enc _ => law_lifted (C := Try.checked) Try.own Try.laidOut started enc 7 Try.f7 Rows.trieCopiesSpec 4 (by kernel_rfl) Try.func7
      (ChangeSpec.witness6 (enc := enc) (C := Try.checked) false ⟨#[], #[.slice none 0 0, .slice none 0 0, .slice none 0 0], []⟩ 8 (by kernel_rfl) (by kernel_rfl) (by kernel_rfl) (by kernel_rfl))
      rfl rfl Try.underlying4 (by kernel_rfl)
      (fun ds hd => by
        match ds, hd with
        | [d, d', d''], _ => rfl)
      (fun W base args ds p hval hA hlt hsz => by
        have hA' : DataW.TrodAll enc Try.prog W 0 (fun _ => true) true Try.f7.params.toList args.toList ds p := hA
        have hval' : ∀ (j : Nat) t v, Try.f7.params[j]? = some t → args[j]? = some v → Value.okWide Try.prog W .any base t v := hval
        rw [Try.params7] at hA' hval'
        obtain ⟨v0, v1, v2, d0, d1, d2, p0, p1, p2, rfl, rfl, rfl, h0, h1, h2⟩ := trodAll_three hA'
        obtain ⟨L, hl⟩ := open_wds (hval' 0 22 v0 rfl rfl) h0
        obtain ⟨ao, ac, a, rfl, ha⟩ := open_byts (hval' 1 23 v1 rfl rfl) h1
        obtain ⟨bo, bc, b, rfl, hb⟩ := open_byts (hval' 2 23 v2 rfl rfl) h2
        by_cases hbad : 20 < L.length ∨ fewL L 20 = false ∨ 80 < a.length ∨ 80 < b.length
        · exact copies_no v0 _ _ L a b W hl ha hb hbad
        · obtain ⟨h20, h80⟩ := fewL_iff.1 (show fewL L 20 = true by cases e : fewL L 20 with | true => rfl | false => exact absurd (.inr (.inl e)) hbad)
          exact copies_law v0 _ _ L a b W hl h20 h80 ha (by omega) hb (by omega)))
#print axioms trieCopies_holds
end Go.Proofs.Ytefpfcheafbfdaa
