/- ChannelLoops returns true for every class, capacity, list of calls and number, and the list reads behind the call as it did before: no condition. -/
import Derived.Test.YthelfpenccpkeaaLoops
import Derived.Test.YthelfpenccpkeaaLawKit
import Derived.Test.YthelfpenccpkeaaOwn
namespace Go.Proofs.Ythelfpenccpkeaa
open Go.ChangeShapes Go.WideShapes Go.ChangeAt Go.RowKit Go.Deep

theorem trodAll_four {H : Type} {enc : TypeId × Value → H} {P : Program} {w : World} {base : Nat} {spare : TypeId → Bool} {held : Bool} {t0 t1 t2 t3 : TypeId} {args : Array Value} {ds : List (DataW H)} {ps : List MemPlace}
    (h : DataW.TrodAll enc P w base spare held [t0, t1, t2, t3] args.toList ds ps) :
    ∃ v0 v1 v2 v3 d0 d1 d2 d3 p0 p1 p2 p3, args = #[v0, v1, v2, v3] ∧ ds = [d0, d1, d2, d3] ∧ ps = p0 ++ p1 ++ p2 ++ p3 ∧ DataW.Trod enc P w base spare held t0 v0 d0 p0 ∧ DataW.Trod enc P w base spare held t1 v1 d1 p1 ∧
      DataW.Trod enc P w base spare held t2 v2 d2 p2 ∧ DataW.Trod enc P w base spare held t3 v3 d3 p3 := by
  obtain ⟨v0, _, d0, _, p0, _, hargs, rfl, rfl, h0, hrest⟩ := trodAll_cons h
  obtain ⟨v1, _, d1, _, p1, _, rfl, rfl, rfl, h1, hrest⟩ := trodAll_cons hrest
  obtain ⟨v2, _, d2, _, p2, _, rfl, rfl, rfl, h2, hrest⟩ := trodAll_cons hrest
  obtain ⟨v3, _, d3, _, p3, _, rfl, rfl, rfl, h3, hrest⟩ := trodAll_cons hrest
  obtain ⟨rfl, rfl, rfl⟩ := trodAll_nil hrest
  exact ⟨v0, v1, v2, v3, d0, d1, d2, d3, p0, p1, p2, p3, by cases args; simp_all, rfl, by simp, h0, h1, h2, h3⟩
set_option maxRecDepth 100000 in
theorem channelLoops_holds : Rows.ChannelLoopsSaid :=
  OpenClaim.holds_of_wide 6 Try.f6 rfl rfl rfl rfl rfl rfl rfl ⟨rfl, rfl, rfl, rfl, rfl⟩ rfl rfl rfl rfl rfl (by kernel_rfl) Try.func6 (by kernel_rfl)
    (of_decide_eq_true (by kernel_rfl)) (by unfold Func.isWrapper; first | (rw [if_pos (by decide +kernel)]; kernel_rfl) | (rw [if_neg (by decide +kernel)]; exact ⟨rfl, rfl⟩))
    (fun os started H enc _ => law_lifted (C := Try.checked) Try.own Try.laidOut started enc 6 Try.f6 Rows.channelLoopsSpec 4 (by kernel_rfl) Try.func6
      (ChangeSpec.witness6 (enc := enc) (C := Try.checked) false ⟨#[], #[.int .i64 0, .int .i64 0, .slice none 0 0, .int .i64 0], []⟩ 8 (by kernel_rfl) (by kernel_rfl) (by kernel_rfl) (by kernel_rfl))
      rfl rfl Try.underlying4 (by kernel_rfl)
      (fun ds hd => by
        match ds, hd with
        | [d, d', d'', d'''], _ => rfl)
      (fun W base args ds p hval hA hlt hsz => by
        have hA' : DataW.TrodAll enc Try.prog W 0 (fun _ => true) true Try.f6.params.toList args.toList ds p := hA
        have hval' : ∀ (j : Nat) t v, Try.f6.params[j]? = some t → args[j]? = some v → Value.okWide Try.prog W .any base t v := hval
        rw [Try.params6] at hA' hval'
        obtain ⟨v0, v1, v2, v3, d0, d1, d2, d3, p0, p1, p2, p3, rfl, rfl, rfl, h0, h1, h2, h3⟩ := trodAll_four hA'
        obtain ⟨cls, rfl, _⟩ := open_int Try.underlying3 (hval' 0 3 v0 rfl rfl) h0
        obtain ⟨cap, rfl, _⟩ := open_int Try.underlying3 (hval' 1 3 v1 rfl rfl) h1
        obtain ⟨ao, n, cp, rfl, ha⟩ := open_acts (hval' 2 38 v2 rfl rfl) h2
        obtain ⟨many, rfl, _⟩ := open_int Try.underlying3 (hval' 3 3 v3 rfl rfl) h3
        exact loops_any cls cap ao n cp many W ha))
#print axioms channelLoops_holds
end Go.Proofs.Ythelfpenccpkeaa
