/- FragmentNone returns true for every part and both kinds, and the part reads behind the call as it did before: no condition. -/
import Derived.Test.YtomjnbcaofebfaaNone
import Derived.Test.YtomjnbcaofebfaaOpn
import Derived.Test.YtomjnbcaofebfaaLawKit
namespace Go.Proofs.Ytomjnbcaofebfaa
open Go.ChangeShapes Go.WideShapes Go.ChangeAt Go.RowKit Go.Deep

set_option maxRecDepth 100000 in
theorem fragmentNone_holds : Rows.FragmentNoneSaid :=
  OpenClaim.holds_of_wide 7 Try.f7 rfl rfl rfl rfl rfl rfl rfl ⟨rfl, rfl, rfl, rfl, rfl⟩ rfl rfl rfl rfl rfl (by kernel_rfl) Try.func7 (by kernel_rfl)
    (of_decide_eq_true (by kernel_rfl)) (by unfold Func.isWrapper; first | (rw [if_pos (by decide +kernel)]; kernel_rfl) | (rw [if_neg (by decide +kernel)]; exact ⟨rfl, rfl⟩))
    (fun os started H enc _ => law_lifted (C := Try.checked) Try.own Try.laidOut started enc 7 Try.f7 Rows.fragmentNoneSpec 4 (by kernel_rfl) Try.func7
      (ChangeSpec.witness6 (enc := enc) (C := Try.checked) false ⟨#[], #[.agg #[.int .i64 0, .int .i64 0, .int .i64 0, .slice none 0 0], .bool false], []⟩ 8 (by kernel_rfl) (by kernel_rfl) (by kernel_rfl) (by kernel_rfl))
      rfl rfl Try.underlying4 (by kernel_rfl)
      (fun ds hd => by
        match ds, hd with
        | [d, d'], _ => rfl)
      (fun W base args ds p hval hA hlt hsz => by
        have hA' : DataW.TrodAll enc Try.prog W 0 (fun _ => true) true Try.f7.params.toList args.toList ds p := hA
        have hval' : ∀ (j : Nat) t v, Try.f7.params[j]? = some t → args[j]? = some v → Value.okWide Try.prog W .any base t v := hval
        rw [Try.params7] at hA' hval'
        obtain ⟨v0, v1, d0, d1, p0, p1, rfl, rfl, rfl, h0, h1⟩ := trodAll_two hA'
        obtain ⟨m, u, c, ao, cp, l, rfl, _⟩ := open_part (hval' 0 38 v0 rfl rfl) h0
        obtain ⟨z, rfl, _⟩ := open_bool Try.underlying4 (hval' 1 4 v1 rfl rfl) h1
        rcases Nat.lt_or_ge 1100 l.length with hl | hl
        · exact none_big m u c ao l.length cp z W hl
        · exact none_any' m u c ao l.length cp z W hl))
#print axioms fragmentNone_holds
end Go.Proofs.Ytomjnbcaofebfaa
