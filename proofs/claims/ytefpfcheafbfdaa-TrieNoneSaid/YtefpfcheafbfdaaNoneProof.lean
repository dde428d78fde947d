/- TrieNone returns true for all bytes and both kinds, and the bytes read behind the call as they did before: no condition. -/
import Derived.Test.YtefpfcheafbfdaaNone
import Derived.Test.YtefpfcheafbfdaaOpn
import Derived.Test.YtefpfcheafbfdaaOwn
namespace Go.Proofs.Ytefpfcheafbfdaa
open Go.ChangeShapes Go.WideShapes Go.ChangeAt Go.RowKit Go.Deep

set_option maxRecDepth 100000 in
theorem trieNone_holds : Rows.TrieNoneSaid :=
  OpenClaim.holds_of_wide 8 Try.f8 rfl rfl rfl rfl rfl rfl rfl ⟨rfl, rfl, rfl, rfl, rfl⟩ rfl rfl rfl rfl rfl (by kernel_rfl) Try.func8 (by kernel_rfl)
    (of_decide_eq_true (by kernel_rfl)) (by unfold Func.isWrapper; first | (rw [if_pos (by decide +kernel)]; kernel_rfl) | (rw [if_neg (by decide +kernel)]; exact ⟨rfl, rfl⟩))
    (fun os started H enc _ => law_lifted (C := Try.checked) Try.own Try.laidOut started enc 8 Try.f8 Rows.trieNoneSpec 4 (by kernel_rfl) Try.func8
      (ChangeSpec.witness6 (enc := enc) (C := Try.checked) false ⟨#[], #[.slice none 0 0, .bool false], []⟩ 8 (by kernel_rfl) (by kernel_rfl) (by kernel_rfl) (by kernel_rfl))
      rfl rfl Try.underlying4 (by kernel_rfl)
      (fun ds hd => by
        match ds, hd with
        | [d, d'], _ => rfl)
      (fun W base args ds p hval hA hlt hsz => by
        have hA' : DataW.TrodAll enc Try.prog W 0 (fun _ => true) true Try.f8.params.toList args.toList ds p := hA
        have hval' : ∀ (j : Nat) t v, Try.f8.params[j]? = some t → args[j]? = some v → Value.okWide Try.prog W .any base t v := hval
        rw [Try.params8] at hA' hval'
        obtain ⟨v0, v1, d0, d1, p0, p1, rfl, rfl, rfl, h0, h1⟩ := trodAll_two hA'
        obtain ⟨ao, cp, l, rfl, hb⟩ := open_byts (hval' 0 23 v0 rfl rfl) h0
        obtain ⟨z, rfl, _⟩ := open_bool Try.underlying4 (hval' 1 4 v1 rfl rfl) h1
        exact none_law ao cp l z W hb))
#print axioms trieNone_holds
end Go.Proofs.Ytefpfcheafbfdaa
