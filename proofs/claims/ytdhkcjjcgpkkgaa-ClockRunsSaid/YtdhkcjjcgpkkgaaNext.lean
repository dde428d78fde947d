import Derived.Test.YtdhkcjjcgpkkgaaAdv
namespace Go.Proofs.Ytdhkcjjcgpkkgaa
open Go.RowKit Go.Maps

set_option maxHeartbeats 400000 in
theorem advance_err (cb : Nat) (t : Int) (w : World) (ht : maxT < t) :
    Calls Try.prog 14 #[.pointer (some ⟨cb, 0, none⟩), .int .i64 t] w (Ret (.tuple #[.slice none 0 0, .int .i64 3]) (w = ·)) := by
  have h : 1099511627776 < t := ht
  clear ht
  go_enter Try.func14, Try.ntmps14
  go_wp2
  go_ret2
  exact ⟨rfl, rfl⟩
set_option maxHeartbeats 400000 in
set_option maxRecDepth 100000 in
theorem next_any (cb : Nat) (now : Int) (D : DMap) (N : Nat) (F : List Nat) (w : World) (h : Clk w cb now D N F) (hN : N ≤ 1000000) :
    Calls Try.prog 21 #[.pointer (some ⟨cb, 0, none⟩)] w (Ret (.tuple #[.int .i64 (firstX D).2, .int .i64 (firstX D).1, .int .i64 (if (firstOf D).isSome then 0 else 9)]) (ClkTo w cb now D N F)) := by
  have HF := Lib.hid (first_x cb now D N F w h hN)
  cases hfo : firstOf D with
  | none =>
    have hx : firstX D = (0, 0) := by simp [firstX, hfo]
    rw [hx]
    have HX := Lib.hid hx; have HO := Lib.hid hfo
    clear hx hfo h
    go_enter Try.func21, Try.ntmps21
    go_wp2_with (go_at_call 31; go_must (refine HF.out.mono ?_; rintro e w1 ⟨rfl, hto⟩; rw [HX.out, HO.out]))
    go_ret3
    exact ⟨rfl, hto.frm ((Frm.refl _ _).alloc _)⟩
  | some x =>
    have hx : firstX D = x := by simp [firstX, hfo]
    rw [hx]
    have HX := Lib.hid hx; have HO := Lib.hid hfo
    clear hx hfo h
    go_enter Try.func21, Try.ntmps21
    go_wp2_with (go_at_call 31; go_must (refine HF.out.mono ?_; rintro e w1 ⟨rfl, hto⟩; rw [HX.out, HO.out]))
    go_quiet (fail)
    go_wp2
    go_ret3
    exact ⟨rfl, hto.frm (((Frm.refl _ _).alloc _).drewN _)⟩
end Go.Proofs.Ytdhkcjjcgpkkgaa
