/- ChannelNil returns true for every message and place: no condition. -/
import Derived.Test.YthelfpenccpkeaaNil
import Derived.Test.YthelfpenccpkeaaLawKit
import Derived.Test.YthelfpenccpkeaaOwn
import Derived.ChangeMaps5
namespace Go.Proofs.Ythelfpenccpkeaa
open Go.ChangeShapes Go.WideShapes Go.ChangeAt Go.RowKit Go.Deep

set_option maxRecDepth 100000 in
theorem channelNil_holds : Rows.ChannelNilSaid :=
  OpenClaim.holds_of_wide 7 Try.f7 rfl rfl rfl rfl rfl rfl rfl ⟨rfl, rfl, rfl, rfl, rfl⟩ rfl rfl rfl rfl rfl (by kernel_rfl) Try.func7 (by kernel_rfl)
    (of_decide_eq_true (by kernel_rfl)) (by unfold Func.isWrapper; first | (rw [if_pos (by decide +kernel)]; kernel_rfl) | (rw [if_neg (by decide +kernel)]; exact ⟨rfl, rfl⟩))
    (fun os started H enc _ => law_lifted (C := Try.checked) Try.own Try.laidOut started enc 7 Try.f7 Rows.channelNilSpec 4 (by kernel_rfl) Try.func7
      (ChangeSpec.witness6 (enc := enc) (C := Try.checked) false ⟨#[], #[.string ⟨#[]⟩, .int .i64 0], []⟩ 8 (by kernel_rfl) (by kernel_rfl) (by kernel_rfl) (by kernel_rfl))
      rfl rfl Try.underlying4 (by kernel_rfl)
      (fun ds hd => by
        match ds, hd with
        | [d, d'], _ => rfl)
      (fun W base args ds p hval hA hlt hsz => by
        have hA' : DataW.TrodAll enc Try.prog W 0 (fun _ => true) true Try.f7.params.toList args.toList ds p := hA
        have hval' : ∀ (j : Nat) t v, Try.f7.params[j]? = some t → args[j]? = some v → Value.okWide Try.prog W .any base t v := hval
        rw [Try.params7] at hA' hval'
        obtain ⟨v0, v1, d0, d1, p0, p1, rfl, rfl, rfl, h0, h1⟩ := trodAll_two hA'
        obtain ⟨m, rfl, _⟩ := ChangeMaps.open_string Try.underlying9 (hval' 0 9 v0 rfl rfl) h0
        obtain ⟨k, rfl, _⟩ := open_int Try.underlying3 (hval' 1 3 v1 rfl rfl) h1
        exact nil_any m k W))
#print axioms channelNil_holds
end Go.Proofs.Ythelfpenccpkeaa
