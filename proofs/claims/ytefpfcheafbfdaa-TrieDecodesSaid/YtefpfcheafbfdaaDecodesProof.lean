/- TrieDecodes returns true for every run of bytes, and the bytes read behind the call as they did before: no condition. -/
import Derived.Test.YtefpfcheafbfdaaDecodes
import Derived.Test.YtefpfcheafbfdaaOpn
import Derived.Test.YtefpfcheafbfdaaOwn
namespace Go.Proofs.Ytefpfcheafbfdaa
open Go.ChangeShapes Go.WideShapes Go.ChangeAt Go.RowKit Go.Deep

theorem trodAll_one {H : Type} {enc : TypeId × Value → H} {P : Program} {w : World} {base : Nat} {spare : TypeId → Bool} {held : Bool} {t0 : TypeId} {args : Array Value} {ds : List (DataW H)} {p : List MemPlace}
    (h : DataW.TrodAll enc P w base spare held [t0] args.toList ds p) : ∃ v0 d0 p0, args = #[v0] ∧ ds = [d0] ∧ p = p0 ∧ DataW.Trod enc P w base spare held t0 v0 d0 p0 := by
  obtain ⟨v0, _, d0, _, p0, _, hargs, rfl, rfl, h0, hrest⟩ := trodAll_cons h
  obtain ⟨rfl, rfl, rfl⟩ := trodAll_nil hrest
  exact ⟨v0, d0, p0, by cases args; simp_all, rfl, by simp, h0⟩
set_option maxRecDepth 100000 in
theorem trieDecodes_holds : Rows.TrieDecodesSaid :=
  OpenClaim.holds_of_wide 9 Try.f9 rfl rfl rfl rfl rfl rfl rfl ⟨rfl, rfl, rfl, rfl, rfl⟩ rfl rfl rfl rfl rfl (by kernel_rfl) Try.func9 (by kernel_rfl)
    (of_decide_eq_true (by kernel_rfl)) (by unfold Func.isWrapper; first | (rw [if_pos (by decide +kernel)]; kernel_rfl) | (rw [if_neg (by decide +kernel)]; exact ⟨rfl, rfl⟩))
    (fun os started H enc _ => law_lifted (C := Try.checked) Try.own Try.laidOut started enc 9 Try.f9 Rows.trieDecodesSpec 4 (by kernel_rfl) Try.func9
      (ChangeSpec.witness6 (enc := enc) (C := Try.checked) false ⟨#[], #[.slice none 0 0], []⟩ 8 (by kernel_rfl) (by kernel_rfl) (by kernel_rfl) (by kernel_rfl))
      rfl rfl Try.underlying4 (by kernel_rfl)
      (fun ds hd => by
        match ds, hd with
        | [d], _ => rfl)
      (fun W base args ds p hval hA hlt hsz => by
        have hA' : DataW.TrodAll enc Try.prog W 0 (fun _ => true) true Try.f9.params.toList args.toList ds p := hA
        have hval' : ∀ (j : Nat) t v, Try.f9.params[j]? = some t → args[j]? = some v → Value.okWide Try.prog W .any base t v := hval
        rw [Try.params9] at hA' hval'
        obtain ⟨v0, d0, p0, rfl, rfl, rfl, h0⟩ := trodAll_one hA'
        obtain ⟨ao, cp, l, rfl, hb⟩ := open_byts (hval' 0 23 v0 rfl rfl) h0
        rcases Nat.lt_or_ge 500 l.length with h | h
        · exact decodes_big _ l W hb h
        · exact decodes_law _ l W hb h))
#print axioms trieDecodes_holds
end Go.Proofs.Ytefpfcheafbfdaa
