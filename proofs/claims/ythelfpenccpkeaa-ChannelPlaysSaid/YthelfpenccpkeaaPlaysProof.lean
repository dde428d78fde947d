/- ChannelPlays returns true for every class, capacity and list of calls, and the list reads behind the call as it did before: no condition. -/
import Derived.Test.YthelfpenccpkeaaPlays
import Derived.Test.YthelfpenccpkeaaLawKit
import Derived.Test.YthelfpenccpkeaaOwn
namespace Go.Proofs.Ythelfpenccpkeaa
open Go.ChangeShapes Go.WideShapes Go.ChangeAt Go.RowKit Go.Deep

set_option maxRecDepth 100000 in
theorem channelPlays_holds : Rows.ChannelPlaysSaid :=
  OpenClaim.holds_of_wide 5 Try.f5 rfl rfl rfl rfl rfl rfl rfl ⟨rfl, rfl, rfl, rfl, rfl⟩ rfl rfl rfl rfl rfl (by kernel_rfl) Try.func5 (by kernel_rfl)
    (of_decide_eq_true (by kernel_rfl)) (by unfold Func.isWrapper; first | (rw [if_pos (by decide +kernel)]; kernel_rfl) | (rw [if_neg (by decide +kernel)]; exact ⟨rfl, rfl⟩))
    (fun os started H enc _ => law_lifted (C := Try.checked) Try.own Try.laidOut started enc 5 Try.f5 Rows.channelPlaysSpec 4 (by kernel_rfl) Try.func5
      (ChangeSpec.witness6 (enc := enc) (C := Try.checked) false ⟨#[], #[.int .i64 0, .int .i64 0, .slice none 0 0], []⟩ 8 (by kernel_rfl) (by kernel_rfl) (by kernel_rfl) (by kernel_rfl))
      rfl rfl Try.underlying4 (by kernel_rfl)
      (fun ds hd => by
        match ds, hd with
        | [d, d', d''], _ => rfl)
      (fun W base args ds p hval hA hlt hsz => by
        have hA' : DataW.TrodAll enc Try.prog W 0 (fun _ => true) true Try.f5.params.toList args.toList ds p := hA
        have hval' : ∀ (j : Nat) t v, Try.f5.params[j]? = some t → args[j]? = some v → Value.okWide Try.prog W .any base t v := hval
        rw [Try.params5] at hA' hval'
        obtain ⟨v0, v1, v2, d0, d1, d2, p0, p1, p2, rfl, rfl, rfl, h0, h1, h2⟩ := trodAll_three hA'
        obtain ⟨cls, rfl, _⟩ := open_int Try.underlying3 (hval' 0 3 v0 rfl rfl) h0
        obtain ⟨cap, rfl, _⟩ := open_int Try.underlying3 (hval' 1 3 v1 rfl rfl) h1
        obtain ⟨ao, n, cp, rfl, ha⟩ := open_acts (hval' 2 38 v2 rfl rfl) h2
        exact plays_any cls cap ao n cp W ha))
#print axioms channelPlays_holds
end Go.Proofs.Ythelfpenccpkeaa
