/- FragmentPacks returns true for every part and all bytes, and both read behind the call as they did before: no condition. -/
import Derived.Test.YtomjnbcaofebfaaPacks
import Derived.Test.YtomjnbcaofebfaaOpn
import Derived.Test.YtomjnbcaofebfaaLawKit
namespace Go.Proofs.Ytomjnbcaofebfaa
open Go.ChangeShapes Go.WideShapes Go.ChangeAt Go.RowKit Go.Deep

set_option maxRecDepth 10000 in
theorem open_bytes2 {H : Type} {enc : TypeId × Value → H} {W : World} {base : Nat} {v : Value} {d : DataW H} {p : List MemPlace} (hv : Value.okWide Try.prog W .any base 22 v) (h : DataW.Trod enc Try.prog W 0 (fun _ => true) true 22 v d p) :
    ∃ ao cap l, v = .slice ao (List.length l) cap ∧ Byts W v l := by
  obtain ⟨a0, len, cap, rfl⟩ := okWide_slice Try.underlying22 hv
  obtain ⟨fuel, hf⟩ := h
  exact bytes_cell hf
set_option maxRecDepth 100000 in
theorem fragmentPacks_holds : Rows.FragmentPacksSaid :=
  OpenClaim.holds_of_wide 5 Try.f5 rfl rfl rfl rfl rfl rfl rfl ⟨rfl, rfl, rfl, rfl, rfl⟩ rfl rfl rfl rfl rfl (by kernel_rfl) Try.func5 (by kernel_rfl)
    (of_decide_eq_true (by kernel_rfl)) (by unfold Func.isWrapper; first | (rw [if_pos (by decide +kernel)]; kernel_rfl) | (rw [if_neg (by decide +kernel)]; exact ⟨rfl, rfl⟩))
    (fun os started H enc _ => law_lifted (C := Try.checked) Try.own Try.laidOut started enc 5 Try.f5 Rows.fragmentPacksSpec 4 (by kernel_rfl) Try.func5
      (ChangeSpec.witness6 (enc := enc) (C := Try.checked) false ⟨#[], #[.agg #[.int .i64 0, .int .i64 0, .int .i64 0, .slice none 0 0], .slice none 0 0], []⟩ 8 (by kernel_rfl) (by kernel_rfl) (by kernel_rfl) (by kernel_rfl))
      rfl rfl Try.underlying4 (by kernel_rfl)
      (fun ds hd => by
        match ds, hd with
        | [d, d'], _ => rfl)
      (fun W base args ds p hval hA hlt hsz => by
        have hA' : DataW.TrodAll enc Try.prog W 0 (fun _ => true) true Try.f5.params.toList args.toList ds p := hA
        have hval' : ∀ (j : Nat) t v, Try.f5.params[j]? = some t → args[j]? = some v → Value.okWide Try.prog W .any base t v := hval
        rw [Try.params5] at hA' hval'
        obtain ⟨v0, v1, d0, d1, p0, p1, rfl, rfl, rfl, h0, h1⟩ := trodAll_two hA'
        obtain ⟨m, u, c, ao, cp, l, rfl, hb0⟩ := open_part (hval' 0 38 v0 rfl rfl) h0
        obtain ⟨ao2, cp2, l2, rfl, hb⟩ := open_bytes2 (hval' 1 22 v1 rfl rfl) h1
        rcases Nat.lt_or_ge 1100 l.length with hl | hl
        · exact packs_big m u c ao l.length cp ao2 l2.length cp2 W (.inl hl)
        · rcases Nat.lt_or_ge 1100 l2.length with hl2 | hl2
          · exact packs_big m u c ao l.length cp ao2 l2.length cp2 W (.inr hl2)
          · exact packs_any ⟨m, u, c, l⟩ ao cp l2 ao2 cp2 W hb0 hb hl hl2))
#print axioms fragmentPacks_holds
end Go.Proofs.Ytomjnbcaofebfaa
