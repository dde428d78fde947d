/- TrieFull returns true for all bytes and every number, and the bytes read behind the call as they did before: no condition. -/
import Derived.Test.YtefpfcheafbfdaaFull
import Derived.Test.YtefpfcheafbfdaaOpn
import Derived.Test.YtefpfcheafbfdaaOwn
namespace Go.Proofs.Ytefpfcheafbfdaa
open Go.ChangeShapes Go.WideShapes Go.ChangeAt Go.RowKit Go.Deep

set_option maxRecDepth 100000 in
theorem trieFull_holds : Rows.TrieFullSaid :=
  OpenClaim.holds_of_wide 6 Try.f6 rfl rfl rfl rfl rfl rfl rfl ⟨rfl, rfl, rfl, rfl, rfl⟩ rfl rfl rfl rfl rfl (by kernel_rfl) Try.func6 (by kernel_rfl)
    (of_decide_eq_true (by kernel_rfl)) (by unfold Func.isWrapper; first | (rw [if_pos (by decide +kernel)]; kernel_rfl) | (rw [if_neg (by decide +kernel)]; exact ⟨rfl, rfl⟩))
    (fun os started H enc _ => law_lifted (C := Try.checked) Try.own Try.laidOut started enc 6 Try.f6 Rows.trieFullSpec 4 (by kernel_rfl) Try.func6
      (ChangeSpec.witness6 (enc := enc) (C := Try.checked) false ⟨#[], #[.slice none 0 0, .int .i64 0], []⟩ 8 (by kernel_rfl) (by kernel_rfl) (by kernel_rfl) (by kernel_rfl))
      rfl rfl Try.underlying4 (by kernel_rfl)
      (fun ds hd => by
        match ds, hd with
        | [d, d'], _ => rfl)
      (fun W base args ds p hval hA hlt hsz => by
        have hA' : DataW.TrodAll enc Try.prog W 0 (fun _ => true) true Try.f6.params.toList args.toList ds p := hA
        have hval' : ∀ (j : Nat) t v, Try.f6.params[j]? = some t → args[j]? = some v → Value.okWide Try.prog W .any base t v := hval
        rw [Try.params6] at hA' hval'
        obtain ⟨v0, v1, d0, d1, p0, p1, rfl, rfl, rfl, h0, h1⟩ := trodAll_two hA'
        obtain ⟨ao, cp, l, rfl, hb⟩ := open_byts (hval' 0 23 v0 rfl rfl) h0
        obtain ⟨i, rfl, _⟩ := open_int Try.underlying3 (hval' 1 3 v1 rfl rfl) h1
        by_cases hbad : 64 < l.length ∨ i < 0 ∨ 999 < i
        · exact full_bad ao l.length cp i W hbad
        · obtain ⟨k, rfl⟩ : ∃ k : Nat, i = k := ⟨i.toNat, by omega⟩
          exact full_law ao cp k l W hb (by omega) (by omega)))
#print axioms trieFull_holds
end Go.Proofs.Ytefpfcheafbfdaa
