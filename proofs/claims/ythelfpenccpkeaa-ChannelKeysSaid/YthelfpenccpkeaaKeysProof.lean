/- ChannelKeys returns true for every class, capacity, rotation and both lists of messages, and the lists read behind the call as they did before: no condition. -/
import Derived.Test.YthelfpenccpkeaaKeys
import Derived.Test.YthelfpenccpkeaaLawKit
import Derived.Test.YthelfpenccpkeaaOwn
namespace Go.Proofs.Ythelfpenccpkeaa
open Go.ChangeShapes Go.WideShapes Go.ChangeAt Go.RowKit Go.Deep

theorem keys_any (cls cap by_ : Int) (ao ao2 : Option Addr) (l more : List ByteArray) (cp cp2 : Nat) (w : World) (hl : Txts w ao l) (hm : Txts w ao2 more) (hb0 : 0 ≤ by_) (hb1 : by_ ≤ 255) :
    Calls Try.prog 3 #[.int .i64 cls, .int .i64 cap, .slice ao l.length cp, .int .u8 by_, .slice ao2 more.length cp2] w (Ret (.bool true) (Frm [] w)) := by
  by_cases h : 20 < l.length ∨ 40 < more.length
  · exact keys_long cls cap by_ ao ao2 l more cp cp2 w h
  · cases hc : okC cls cap with
    | false => exact keys_bad cls cap by_ ao ao2 l more cp cp2 w (by omega) (by omega) (.inl hc)
    | true =>
      by_cases hlt : cap < l.length
      · exact keys_bad cls cap by_ ao ao2 l more cp cp2 w (by omega) (by omega) (.inr ⟨hc, hlt⟩)
      · exact keys_main cls cap by_ ao ao2 l more cp cp2 w hl hm hb0 hb1 (by omega) (by omega) hc (by omega)
theorem trodAll_five {H : Type} {enc : TypeId × Value → H} {P : Program} {w : World} {base : Nat} {spare : TypeId → Bool} {held : Bool} {t0 t1 t2 t3 t4 : TypeId} {args : Array Value} {ds : List (DataW H)} {ps : List MemPlace}
    (h : DataW.TrodAll enc P w base spare held [t0, t1, t2, t3, t4] args.toList ds ps) :
    ∃ v0 v1 v2 v3 v4 d0 d1 d2 d3 d4 p0 p1 p2 p3 p4, args = #[v0, v1, v2, v3, v4] ∧ ds = [d0, d1, d2, d3, d4] ∧ ps = p0 ++ p1 ++ p2 ++ p3 ++ p4 ∧ DataW.Trod enc P w base spare held t0 v0 d0 p0 ∧ DataW.Trod enc P w base spare held t1 v1 d1 p1 ∧
      DataW.Trod enc P w base spare held t2 v2 d2 p2 ∧ DataW.Trod enc P w base spare held t3 v3 d3 p3 ∧ DataW.Trod enc P w base spare held t4 v4 d4 p4 := by
  obtain ⟨v0, _, d0, _, p0, _, hargs, rfl, rfl, h0, hrest⟩ := trodAll_cons h
  obtain ⟨v1, _, d1, _, p1, _, rfl, rfl, rfl, h1, hrest⟩ := trodAll_cons hrest
  obtain ⟨v2, _, d2, _, p2, _, rfl, rfl, rfl, h2, hrest⟩ := trodAll_cons hrest
  obtain ⟨v3, _, d3, _, p3, _, rfl, rfl, rfl, h3, hrest⟩ := trodAll_cons hrest
  obtain ⟨v4, _, d4, _, p4, _, rfl, rfl, rfl, h4, hrest⟩ := trodAll_cons hrest
  obtain ⟨rfl, rfl, rfl⟩ := trodAll_nil hrest
  exact ⟨v0, v1, v2, v3, v4, d0, d1, d2, d3, d4, p0, p1, p2, p3, p4, by cases args; simp_all, rfl, by simp, h0, h1, h2, h3, h4⟩
set_option maxRecDepth 100000 in
theorem channelKeys_holds : Rows.ChannelKeysSaid :=
  OpenClaim.holds_of_wide 3 Try.f3 rfl rfl rfl rfl rfl rfl rfl ⟨rfl, rfl, rfl, rfl, rfl⟩ rfl rfl rfl rfl rfl (by kernel_rfl) Try.func3 (by kernel_rfl)
    (of_decide_eq_true (by kernel_rfl)) (by unfold Func.isWrapper; first | (rw [if_pos (by decide +kernel)]; kernel_rfl) | (rw [if_neg (by decide +kernel)]; exact ⟨rfl, rfl⟩))
    (fun os started H enc _ => law_lifted (C := Try.checked) Try.own Try.laidOut started enc 3 Try.f3 Rows.channelKeysSpec 4 (by kernel_rfl) Try.func3
      (ChangeSpec.witness6 (enc := enc) (C := Try.checked) false ⟨#[], #[.int .i64 0, .int .i64 0, .slice none 0 0, .int .u8 0, .slice none 0 0], []⟩ 8 (by kernel_rfl) (by kernel_rfl) (by kernel_rfl) (by kernel_rfl))
      rfl rfl Try.underlying4 (by kernel_rfl)
      (fun ds hd => by
        match ds, hd with
        | [d, d', d'', d''', d4], _ => rfl)
      (fun W base args ds p hval hA hlt hsz => by
        have hA' : DataW.TrodAll enc Try.prog W 0 (fun _ => true) true Try.f3.params.toList args.toList ds p := hA
        have hval' : ∀ (j : Nat) t v, Try.f3.params[j]? = some t → args[j]? = some v → Value.okWide Try.prog W .any base t v := hval
        rw [Try.params3] at hA' hval'
        obtain ⟨v0, v1, v2, v3, v4, d0, d1, d2, d3, d4, p0, p1, p2, p3, p4, rfl, rfl, rfl, h0, h1, h2, h3, h4⟩ := trodAll_five hA'
        obtain ⟨cls, rfl, _⟩ := open_int Try.underlying3 (hval' 0 3 v0 rfl rfl) h0
        obtain ⟨cap, rfl, _⟩ := open_int Try.underlying3 (hval' 1 3 v1 rfl rfl) h1
        obtain ⟨ao, l, cp, rfl, hl⟩ := open_txts (hval' 2 22 v2 rfl rfl) h2
        obtain ⟨by_, rfl, hby⟩ := open_int Try.underlying5 (hval' 3 5 v3 rfl rfl) h3
        obtain ⟨ao2, more, cp2, rfl, hm⟩ := open_txts (hval' 4 22 v4 rfl rfl) h4
        have hr : 0 ≤ by_ ∧ by_ ≤ 255 := by
          have h5 := hby.2.2
          simp only [Lit.wf, show IntKind.u8.min = 0 from rfl, show IntKind.u8.max = 255 from rfl, Bool.and_eq_true, decide_eq_true_eq] at h5
          exact h5
        exact keys_any cls cap by_ ao ao2 l more cp cp2 W hl hm hr.1 hr.2))
#print axioms channelKeys_holds
end Go.Proofs.Ythelfpenccpkeaa
