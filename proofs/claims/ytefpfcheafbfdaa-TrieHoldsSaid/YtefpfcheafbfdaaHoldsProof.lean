/- TrieHolds returns true for all words and every run of bytes, and the bytes read behind the call as they did before: no condition. -/
import Derived.Test.YtefpfcheafbfdaaHolds
import Derived.Test.YtefpfcheafbfdaaOpn
import Derived.Test.YtefpfcheafbfdaaOwn
namespace Go.Proofs.Ytefpfcheafbfdaa
open Go.ChangeShapes Go.WideShapes Go.ChangeAt Go.RowKit Go.Deep

set_option maxRecDepth 100000 in
theorem trieHolds_holds : Rows.TrieHoldsSaid :=
  OpenClaim.holds_of_wide 10 Try.f10 rfl rfl rfl rfl rfl rfl rfl ⟨rfl, rfl, rfl, rfl, rfl⟩ rfl rfl rfl rfl rfl (by kernel_rfl) Try.func10 (by kernel_rfl)
    (of_decide_eq_true (by kernel_rfl)) (by unfold Func.isWrapper; first | (rw [if_pos (by decide +kernel)]; kernel_rfl) | (rw [if_neg (by decide +kernel)]; exact ⟨rfl, rfl⟩))
    (fun os started H enc _ => law_lifted (C := Try.checked) Try.own Try.laidOut started enc 10 Try.f10 Rows.trieHoldsSpec 4 (by kernel_rfl) Try.func10
      (ChangeSpec.witness6 (enc := enc) (C := Try.checked) false ⟨#[], #[.slice none 0 0, .slice none 0 0], []⟩ 8 (by kernel_rfl) (by kernel_rfl) (by kernel_rfl) (by kernel_rfl))
      rfl rfl Try.underlying4 (by kernel_rfl)
      (fun ds hd => by
        match ds, hd with
        | [d, d'], _ => rfl)
      (fun W base args ds p hval hA hlt hsz => by
        have hA' : DataW.TrodAll enc Try.prog W 0 (fun _ => true) true Try.f10.params.toList args.toList ds p := hA
        have hval' : ∀ (j : Nat) t v, Try.f10.params[j]? = some t → args[j]? = some v → Value.okWide Try.prog W .any base t v := hval
        rw [Try.params10] at hA' hval'
        obtain ⟨v0, v1, d0, d1, p0, p1, rfl, rfl, rfl, h0, h1⟩ := trodAll_two hA'
        obtain ⟨L, hl⟩ := open_wds (hval' 0 22 v0 rfl rfl) h0
        obtain ⟨bo, bc, b, rfl, hb⟩ := open_byts (hval' 1 23 v1 rfl rfl) h1
        by_cases hbad : 30 < L.length ∨ fewL L 30 = false ∨ 64 < b.length
        · exact holds_no v0 _ L b W hl hb hbad
        · obtain ⟨h30, h80⟩ := fewL_iff.1 (show fewL L 30 = true by cases e : fewL L 30 with | true => rfl | false => exact absurd (.inr (.inl e)) hbad)
          exact holds_law v0 _ L b W hl h30 h80 hb (by omega)))
#print axioms trieHolds_holds
end Go.Proofs.Ytefpfcheafbfdaa
