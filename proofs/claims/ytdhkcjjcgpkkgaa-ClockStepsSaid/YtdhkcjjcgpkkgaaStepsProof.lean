/- ClockSteps returns true for every lists of ticks, timers and steps, and the lists read behind the call as they did before: no condition. -/
import Derived.Test.YtdhkcjjcgpkkgaaStepsB
namespace Go.Proofs.Ytdhkcjjcgpkkgaa
open Go.ChangeShapes Go.WideShapes Go.ChangeAt Go.RowKit Go.Deep

set_option maxHeartbeats 1000000 in
set_option maxRecDepth 100000 in
theorem steps_long (a0 a1 a2 : Option Addr) (n0 n1 n2 c0 c1 c2 : Nat) (w : World) (h : 60 < n0 ∨ 60 < n1 ∨ 40 < n2) :
    Calls Try.prog 4 #[.slice a0 n0 c0, .slice a1 n1 c1, .slice a2 n2 c2] w (Ret (.bool true) (Frm [] w)) := by
  by_cases h0 : 60 < n0
  · have k0 : (60 : Int) < n0 := by omega
    clear h
    go_enter Try.func4, Try.ntmps4
    go_wp2_with (first | (go_at_call 8; go_must (refine (known_any _).mono ?_; rintro e w' ⟨rfl, hf⟩; have HF := Lib.hid hf; clear hf)))
    go_ret
    exact ⟨rfl, HF.out⟩
  by_cases h1 : 60 < n1
  · have k0 : decide ((60 : Int) < n0) = false := by simp; omega
    have k1 : (60 : Int) < n1 := by omega
    clear h h0
    go_enter Try.func4, Try.ntmps4
    go_wp2_with (first | (go_at_call 8; go_must (refine (known_any _).mono ?_; rintro e w' ⟨rfl, hf⟩; have HF := Lib.hid hf; clear hf)))
    go_ret
    exact ⟨rfl, HF.out⟩
  have k0 : decide ((60 : Int) < n0) = false := by simp; omega
  have k1 : decide ((60 : Int) < n1) = false := by simp; omega
  have k2 : (40 : Int) < n2 := by omega
  clear h h0 h1
  go_enter Try.func4, Try.ntmps4
  go_wp2_with (first | (go_at_call 8; go_must (refine (known_any _).mono ?_; rintro e w' ⟨rfl, hf⟩; have HF := Lib.hid hf; clear hf)))
  go_ret
  exact ⟨rfl, HF.out⟩
theorem Try.cells5 : Try.prog.cellsOf 5 = 1 := by kernel_rfl
set_option maxRecDepth 100000 in
theorem open_nums {H : Type} {enc : TypeId × Value → H} {W : World} {base : Nat} {v : Value} {d : DataW H} {p : List MemPlace} {t e : TypeId} {k : IntKind} (ht : Try.prog.underlying t = some (.slice e)) (he : Try.prog.underlying e = some (.int k)) (hc : Try.prog.cellsOf e = 1)
    (hv : Value.okWide Try.prog W .any base t v) (h : DataW.Trod enc Try.prog W 0 (fun _ => true) true t v d p) : ∃ ao n cap, v = .slice ao n cap ∧ NumsAt W k ao n := by
  obtain ⟨a0, len, cap, rfl⟩ := okWide_slice ht hv
  obtain ⟨fuel, hf⟩ := h
  refine ⟨a0, len, cap, rfl, fun j hj => ?_⟩
  rcases open_slice1 ht hc hf with ⟨hcs, _⟩ | ⟨a, len', cap', m, n, V, D, Pl, hcs, _, hl, _, hm, _, hx⟩
  · simp [Value.cells] at hcs
    omega
  · simp [Value.cells] at hcs
    obtain ⟨rfl, rfl, rfl⟩ := hcs
    simp only [if_true] at hm
    subst hm
    obtain ⟨h1, h2⟩ := hx j (by omega)
    obtain ⟨x, e0, _, hw⟩ := DataW.trod_int he h2
    simp only [List.cons.injEq, and_true] at e0
    obtain ⟨b, o, spot⟩ := a
    have hspot : spot = none := World.cell?_spot (w := W) (a := ⟨b, o, spot⟩) (by simpa [Addr.add] using (hx 0 (by omega)).1)
    subst hspot
    rw [add_plain, e0] at h1
    exact ⟨b, o, x, rfl, h1, hw⟩
set_option maxRecDepth 100000 in
theorem clockSteps_holds : Rows.ClockStepsSaid :=
  OpenClaim.holds_of_wide 4 Try.f4 rfl rfl rfl rfl rfl rfl rfl ⟨rfl, rfl, rfl, rfl, rfl⟩ rfl rfl rfl rfl rfl (by kernel_rfl) Try.func4 (by kernel_rfl)
    (of_decide_eq_true (by kernel_rfl)) (by unfold Func.isWrapper; first | (rw [if_pos (by decide +kernel)]; kernel_rfl) | (rw [if_neg (by decide +kernel)]; exact ⟨rfl, rfl⟩))
    (fun os started H enc _ => law_lifted (C := Try.checked) Try.own Try.laidOut started enc 4 Try.f4 Rows.clockStepsSpec 4 (by kernel_rfl) Try.func4
      (ChangeSpec.witness6 (enc := enc) (C := Try.checked) false ⟨#[], #[.slice none 0 0, .slice none 0 0, .slice none 0 0], []⟩ 8 (by kernel_rfl) (by kernel_rfl) (by kernel_rfl) (by kernel_rfl))
      rfl rfl Try.underlying4 (by kernel_rfl)
      (fun ds hd => by
        match ds, hd with
        | [d, d', d''], _ => rfl)
      (fun W base args ds p hval hA hlt hsz => by
        have hA' : DataW.TrodAll enc Try.prog W 0 (fun _ => true) true Try.f4.params.toList args.toList ds p := hA
        have hval' : ∀ (j : Nat) t v, Try.f4.params[j]? = some t → args[j]? = some v → Value.okWide Try.prog W .any base t v := hval
        rw [Try.params4] at hA' hval'
        obtain ⟨v0, v1, v2, d0, d1, d2, p0, p1, p2, rfl, rfl, rfl, h0, h1, h2⟩ := trodAll_three hA'
        obtain ⟨a0, n0, c0, rfl, ha0⟩ := open_nums Try.underlying38 Try.underlying3 Try.cells3 (hval' 0 38 v0 rfl rfl) h0
        obtain ⟨a1, n1, c1, rfl, ha1⟩ := open_nums Try.underlying39 Try.underlying5 Try.cells5 (hval' 1 39 v1 rfl rfl) h1
        obtain ⟨a2, n2, c2, rfl, ha2⟩ := open_nums Try.underlying38 Try.underlying3 Try.cells3 (hval' 2 38 v2 rfl rfl) h2
        by_cases h : 60 < n0 ∨ 60 < n1 ∨ 40 < n2
        · exact steps_long a0 a1 a2 n0 n1 n2 c0 c1 c2 W h
        · exact steps_main a0 a1 a2 n0 n1 n2 c0 c1 c2 W ha0 ha1 ha2 (by omega) (by omega) (by omega)))
#print axioms clockSteps_holds
end Go.Proofs.Ytdhkcjjcgpkkgaa
