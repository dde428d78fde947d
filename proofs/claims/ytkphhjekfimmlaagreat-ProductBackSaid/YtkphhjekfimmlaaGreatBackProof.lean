/- ProductBack returns true for every session and all choices, and they read behind the call as they did before: no condition. -/
import Derived.Test.YtkphhjekfimmlaaGreatBka
import Derived.Test.YtkphhjekfimmlaaGreatB30
import Derived.Test.YtkphhjekfimmlaaGreatB25
namespace Go.Proofs.YtkphhjekfimmlaaGreat
open Go.ChangeShapes Go.WideShapes Go.ChangeAt Go.RowKit Go.Deep

set_option maxRecDepth 100000 in
theorem productBack_holds : Rows.ProductBackSaid :=
  OpenClaim.holds_of_wide 4 Tryz.f4 rfl rfl rfl rfl rfl rfl rfl ⟨rfl, rfl, rfl, rfl, rfl⟩ rfl rfl rfl rfl rfl (by kernel_rfl) Tryz.func4 (by kernel_rfl)
    (of_decide_eq_true (by kernel_rfl)) (by unfold Func.isWrapper; first | (rw [if_pos (by decide +kernel)]; kernel_rfl) | (rw [if_neg (by decide +kernel)]; exact ⟨rfl, rfl⟩))
    (fun os started H enc _ => law_lifted (C := Tryz.checked) Tryz.own Tryz.laidOut started enc 4 Tryz.f4 Rows.productBackSpec 4 (by kernel_rfl) Tryz.func4
      (ChangeSpec.witness6 (enc := enc) (C := Tryz.checked) false ⟨#[], #[.agg #[.string { data := #[] }, .slice none 0 0, .int .i64 0, .int .i64 0], .slice none 0 0], []⟩ 8 (by kernel_rfl) (by kernel_rfl) (by kernel_rfl) (by kernel_rfl))
      rfl rfl Tryz.underlying4 (by kernel_rfl)
      (fun ds hd => by
        match ds, hd with
        | [d, d'], _ => rfl)
      (fun W base args ds p hval hA hlt hsz => by
        have hA' : DataW.TrodAll enc Tryz.prog W 0 (fun _ => true) true Tryz.f4.params.toList args.toList ds p := hA
        have hval' : ∀ (j : Nat) t v, Tryz.f4.params[j]? = some t → args[j]? = some v → Value.okWide Tryz.prog W .any base t v := hval
        rw [Tryz.params4] at hA' hval'
        obtain ⟨v0, v1, d0, d1, p0, p1, rfl, rfl, rfl, h0, h1⟩ := trodAll_two hA'
        obtain ⟨s, hs, hw⟩ := open_ses (hval' 0 25 v0 rfl rfl) h0
        obtain ⟨bo, bc, b, rfl, hb⟩ := open_byts (hval' 1 26 v1 rfl rfl) h1
        exact back_any v0 _ s b W hs hw hb))
#print axioms productBack_holds
end Go.Proofs.YtkphhjekfimmlaaGreat
