/- ClockCopies returns true for every three lists of calls, and the lists read behind the call as they did before: no condition. -/
import Derived.Test.YtdhkcjjcgpkkgaaCopies
namespace Go.Proofs.Ytdhkcjjcgpkkgaa
open Go.ChangeShapes Go.WideShapes Go.ChangeAt Go.RowKit

set_option maxHeartbeats 1000000 in
set_option maxRecDepth 100000 in
theorem copies_long (a0 a1 a2 : Option Addr) (n0 n1 n2 c0 c1 c2 : Nat) (w : World) (h : 60 < n0 ∨ 60 < n1 ∨ 60 < n2) :
    Calls Try.prog 5 #[.slice a0 n0 c0, .slice a1 n1 c1, .slice a2 n2 c2] w (Ret (.bool true) (Frm [] w)) := by
  by_cases h0 : 60 < n0
  · have k0 : (60 : Int) < n0 := by omega
    clear h
    go_enter Try.func5, Try.ntmps5
    go_wp2_with (first | (go_at_call 8; go_must (refine (known_any _).mono ?_; rintro e w' ⟨rfl, hf⟩; have HF := Lib.hid hf; clear hf)))
    go_ret
    exact ⟨rfl, HF.out⟩
  by_cases h1 : 60 < n1
  · have k0 : decide ((60 : Int) < n0) = false := by simp; omega
    have k1 : (60 : Int) < n1 := by omega
    clear h h0
    go_enter Try.func5, Try.ntmps5
    go_wp2_with (first | (go_at_call 8; go_must (refine (known_any _).mono ?_; rintro e w' ⟨rfl, hf⟩; have HF := Lib.hid hf; clear hf)))
    go_ret
    exact ⟨rfl, HF.out⟩
  have k0 : decide ((60 : Int) < n0) = false := by simp; omega
  have k1 : decide ((60 : Int) < n1) = false := by simp; omega
  have k2 : (60 : Int) < n2 := by omega
  clear h h0 h1
  go_enter Try.func5, Try.ntmps5
  go_wp2_with (first | (go_at_call 8; go_must (refine (known_any _).mono ?_; rintro e w' ⟨rfl, hf⟩; have HF := Lib.hid hf; clear hf)))
  go_ret
  exact ⟨rfl, HF.out⟩
set_option maxRecDepth 100000 in
theorem clockCopies_holds : Rows.ClockCopiesSaid :=
  OpenClaim.holds_of_wide 5 Try.f5 rfl rfl rfl rfl rfl rfl rfl ⟨rfl, rfl, rfl, rfl, rfl⟩ rfl rfl rfl rfl rfl (by kernel_rfl) Try.func5 (by kernel_rfl)
    (of_decide_eq_true (by kernel_rfl)) (by unfold Func.isWrapper; first | (rw [if_pos (by decide +kernel)]; kernel_rfl) | (rw [if_neg (by decide +kernel)]; exact ⟨rfl, rfl⟩))
    (fun os started H enc _ => law_lifted (C := Try.checked) Try.own Try.laidOut started enc 5 Try.f5 Rows.clockCopiesSpec 4 (by kernel_rfl) Try.func5
      (ChangeSpec.witness6 (enc := enc) (C := Try.checked) false ⟨#[], #[.slice none 0 0, .slice none 0 0, .slice none 0 0], []⟩ 8 (by kernel_rfl) (by kernel_rfl) (by kernel_rfl) (by kernel_rfl))
      rfl rfl Try.underlying4 (by kernel_rfl)
      (fun ds hd => by
        match ds, hd with
        | [d, d', d''], _ => rfl)
      (fun W base args ds p hval hA hlt hsz => by
        have hA' : DataW.TrodAll enc Try.prog W 0 (fun _ => true) true Try.f5.params.toList args.toList ds p := hA
        have hval' : ∀ (j : Nat) t v, Try.f5.params[j]? = some t → args[j]? = some v → Value.okWide Try.prog W .any base t v := hval
        rw [Try.params5] at hA' hval'
        obtain ⟨v0, v1, v2, d0, d1, d2, p0, p1, p2, rfl, rfl, rfl, h0, h1, h2⟩ := trodAll_three hA'
        obtain ⟨a0, n0, c0, rfl, ha0⟩ := open_acts (hval' 0 22 v0 rfl rfl) h0
        obtain ⟨a1, n1, c1, rfl, ha1⟩ := open_acts (hval' 1 22 v1 rfl rfl) h1
        obtain ⟨a2, n2, c2, rfl, ha2⟩ := open_acts (hval' 2 22 v2 rfl rfl) h2
        by_cases h : 60 < n0 ∨ 60 < n1 ∨ 60 < n2
        · exact copies_long a0 a1 a2 n0 n1 n2 c0 c1 c2 W h
        · exact copies_main a0 a1 a2 n0 n1 n2 c0 c1 c2 W ha0 ha1 ha2 (by omega) (by omega) (by omega)))
#print axioms clockCopies_holds
end Go.Proofs.Ytdhkcjjcgpkkgaa
