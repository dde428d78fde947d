/- ClockPlays returns true for every list of calls, and the list reads behind the call as it did before: no condition. -/
import Derived.Test.YtdhkcjjcgpkkgaaPlays
namespace Go.Proofs.Ytdhkcjjcgpkkgaa
open Go.ChangeShapes Go.WideShapes Go.ChangeAt Go.RowKit

set_option maxRecDepth 100000 in
theorem clockPlays_holds : Rows.ClockPlaysSaid :=
  OpenClaim.holds_of_wide 3 Try.f3 rfl rfl rfl rfl rfl rfl rfl ⟨rfl, rfl, rfl, rfl, rfl⟩ rfl rfl rfl rfl rfl (by kernel_rfl) Try.func3 (by kernel_rfl)
    (of_decide_eq_true (by kernel_rfl)) (by unfold Func.isWrapper; first | (rw [if_pos (by decide +kernel)]; kernel_rfl) | (rw [if_neg (by decide +kernel)]; exact ⟨rfl, rfl⟩))
    (fun os started H enc _ => law_lifted (C := Try.checked) Try.own Try.laidOut started enc 3 Try.f3 Rows.clockPlaysSpec 4 (by kernel_rfl) Try.func3
      (ChangeSpec.witness6 (enc := enc) (C := Try.checked) false ⟨#[], #[.slice none 0 0], []⟩ 8 (by kernel_rfl) (by kernel_rfl) (by kernel_rfl) (by kernel_rfl))
      rfl rfl Try.underlying4 (by kernel_rfl)
      (fun ds hd => by
        match ds, hd with
        | [d], _ => rfl)
      (fun W base args ds p hval hA hlt hsz => by
        have hA' : DataW.TrodAll enc Try.prog W 0 (fun _ => true) true Try.f3.params.toList args.toList ds p := hA
        have hval' : ∀ (j : Nat) t v, Try.f3.params[j]? = some t → args[j]? = some v → Value.okWide Try.prog W .any base t v := hval
        rw [Try.params3] at hA' hval'
        obtain ⟨v0, d0, rfl, rfl, h0⟩ := trodAll_one hA'
        obtain ⟨ao, n, cap, rfl, ha⟩ := open_acts (hval' 0 22 v0 rfl rfl) h0
        exact plays_any ao n cap W ha))
#print axioms clockPlays_holds
end Go.Proofs.Ytdhkcjjcgpkkgaa
