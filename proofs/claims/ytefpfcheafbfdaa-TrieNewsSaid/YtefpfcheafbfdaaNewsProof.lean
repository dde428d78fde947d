/- TrieNews returns true for all words, every run of bytes and every number, and the bytes read behind the call as they did before: no condition. -/
import Derived.Test.YtefpfcheafbfdaaNews
import Derived.Test.YtefpfcheafbfdaaOpn
import Derived.Test.YtefpfcheafbfdaaOwn
namespace Go.Proofs.Ytefpfcheafbfdaa
open Go.ChangeShapes Go.WideShapes Go.ChangeAt Go.RowKit Go.Deep

set_option maxRecDepth 100000 in
theorem trieNews_holds : Rows.TrieNewsSaid :=
  OpenClaim.holds_of_wide 3 Try.f3 rfl rfl rfl rfl rfl rfl rfl ⟨rfl, rfl, rfl, rfl, rfl⟩ rfl rfl rfl rfl rfl (by kernel_rfl) Try.func3 (by kernel_rfl)
    (of_decide_eq_true (by kernel_rfl)) (by unfold Func.isWrapper; first | (rw [if_pos (by decide +kernel)]; kernel_rfl) | (rw [if_neg (by decide +kernel)]; exact ⟨rfl, rfl⟩))
    (fun os started H enc _ => law_lifted (C := Try.checked) Try.own Try.laidOut started enc 3 Try.f3 Rows.trieNewsSpec 4 (by kernel_rfl) Try.func3
      (ChangeSpec.witness6 (enc := enc) (C := Try.checked) false ⟨#[], #[.slice none 0 0, .slice none 0 0, .int .i64 0], []⟩ 8 (by kernel_rfl) (by kernel_rfl) (by kernel_rfl) (by kernel_rfl))
      rfl rfl Try.underlying4 (by kernel_rfl)
      (fun ds hd => by
        match ds, hd with
        | [d, d', d''], _ => rfl)
      (fun W base args ds p hval hA hlt hsz => by
        have hA' : DataW.TrodAll enc Try.prog W 0 (fun _ => true) true Try.f3.params.toList args.toList ds p := hA
        have hval' : ∀ (j : Nat) t v, Try.f3.params[j]? = some t → args[j]? = some v → Value.okWide Try.prog W .any base t v := hval
        rw [Try.params3] at hA' hval'
        obtain ⟨v0, v1, v2, d0, d1, d2, p0, p1, p2, rfl, rfl, rfl, h0, h1, h2⟩ := trodAll_three hA'
        obtain ⟨L, hl⟩ := open_wds (hval' 0 22 v0 rfl rfl) h0
        obtain ⟨bo, bc, b, rfl, hb⟩ := open_byts (hval' 1 23 v1 rfl rfl) h1
        obtain ⟨many, rfl, _⟩ := open_int Try.underlying3 (hval' 2 3 v2 rfl rfl) h2
        by_cases hbad : 30 < L.length ∨ fewL L 30 = false ∨ 80 < b.length
        · exact news_no v0 _ L b many W hl hb hbad
        · obtain ⟨h30, h80⟩ := fewL_iff.1 (show fewL L 30 = true by cases e : fewL L 30 with | true => rfl | false => exact absurd (.inr (.inl e)) hbad)
          exact news_law v0 _ L b many W hl h30 h80 hb (by omega)))
#print axioms trieNews_holds
end Go.Proofs.Ytefpfcheafbfdaa
