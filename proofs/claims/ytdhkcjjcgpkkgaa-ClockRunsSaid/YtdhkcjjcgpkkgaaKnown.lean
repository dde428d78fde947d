/- 'known': the chapter's examples hold. -/
import Derived.Test.YtdhkcjjcgpkkgaaKn
namespace Go.Proofs.Ytdhkcjjcgpkkgaa
open Go.RowKit Go.Maps Go.BigFrame

theorem Ints.mk {w : World} {l : List Int} (hl : l.length ≤ 1000) : Ints (w.alloc (.cells (l.map (Value.int .i64)).toArray 3)) (.slice (some ⟨w.heap.size, 0, none⟩) l.length l.length) l := by
  refine ⟨by simp, .inr ⟨w.heap.size, l.length, (l.map (Value.int .i64)).toArray, rfl, Nat.zero_le _, heap_alloc_new _ _, Nat.le_refl _, by unfold maxLen; omega, by simp, by simp [List.take_of_length_le]⟩⟩
theorem S6.same1 {w wi : World} {cb : Nat} {x y : Value} (h : S6 w cb x y wi) : Calls Try.prog 15 #[x, .slice (some ⟨wi.heap.size, 0, none⟩) 1 1] (wi.alloc (.cells #[.int .i64 2] 3)) (Ret (.bool true) (S6 w cb x y)) :=
  (same_any _ _ [2] _ (h.frm ((Frm.refl _ _).alloc _)).one (Ints.mk (l := [2]) (by simp)) (by simp)).mono fun _ _ ⟨he, hr⟩ => ⟨he, (h.frm ((Frm.refl _ _).alloc _)).frm hr⟩
theorem S6.same2 {w wi : World} {cb : Nat} {x y : Value} (h : S6 w cb x y wi) : Calls Try.prog 15 #[y, .slice (some ⟨wi.heap.size, 0, none⟩) 2 2] (wi.alloc (.cells #[.int .i64 1, .int .i64 3] 3)) (Ret (.bool true) (S6 w cb x y)) :=
  (same_any _ _ [1, 3] _ (h.frm ((Frm.refl _ _).alloc _)).two (Ints.mk (l := [1, 3]) (by simp)) (by simp)).mono fun _ _ ⟨he, hr⟩ => ⟨he, (h.frm ((Frm.refl _ _).alloc _)).frm hr⟩
theorem S16.to {w wi : World} {cb : Nat} (h : S16 w cb wi) : Frm [] w wi := h.out.to

set_option maxHeartbeats 4000000 in
set_option maxRecDepth 100000 in
theorem known_any (w : World) : Calls Try.prog 8 #[] w (Ret (.bool true) (Frm [] w)) := by
  have H0 := Lib.hid (⟨KS.zero⟩ : S0 w w.heap.size _)
  go_enter Try.func8, Try.ntmps8
  go_wp2_with (first
    | (go_at_call 11; go_must (refine (num_any _ _).mono ?_; rintro e w' ⟨rfl, rfl⟩))
    | (go_at_call 12; go_must (first | (refine (c1 H0.out).mono ?_; rintro e w1 ⟨rfl, h⟩; have H1 := Lib.hid h; clear h H0) | (refine (c2 H1.out).mono ?_; rintro e w2 ⟨rfl, h⟩; have H2 := Lib.hid h; clear h H1) | (refine (c3 H2.out).mono ?_; rintro e w3 ⟨rfl, h⟩; have H3 := Lib.hid h; clear h H2) | (refine (c7 H6.out).mono ?_; rintro e w7 ⟨rfl, h⟩; have H7 := Lib.hid h; clear h H6) | (refine (c15 H14.out).mono ?_; rintro e w15 ⟨rfl, h⟩; have H15 := Lib.hid h; clear h H14) | (refine (c16 H15.out).mono ?_; rintro e w16 ⟨rfl, h⟩; have H16 := Lib.hid h; clear h H15)))
    | (go_at_call 21; go_must (first | (refine (c4 H3.out).mono ?_; rintro e w4 ⟨rfl, h⟩; have H4 := Lib.hid h; clear h H3) | (refine (c14 H13.out).mono ?_; rintro e w14 ⟨rfl, h⟩; have H14 := Lib.hid h; clear h H13)))
    | (go_at_call 14; go_must (first | (refine (c5 H4.out).mono ?_; rintro e w5 ⟨_, rfl, x, rfl, h⟩; have H5 := Lib.hid h; clear h H4) | (refine (c6 H5.out).mono ?_; rintro e w6 ⟨_, rfl, y, rfl, h⟩; have H6 := Lib.hid h; clear h H5) | (refine (c9 H8.out).mono ?_; rintro e w9 ⟨_, rfl, ao, cap, rfl, h⟩; have H9 := Lib.hid h; clear h H8)))
    | (go_at_call 20; go_must (first | (refine (c8 H7.out).mono ?_; rintro e w8 ⟨rfl, h⟩; have H8 := Lib.hid h; clear h H7) | (refine (c10 H9.out).mono ?_; rintro e w10 ⟨rfl, h⟩; have H10 := Lib.hid h; clear h H9)))
    | (go_at_call 22; go_must (first | (refine (c11 H10.out).mono ?_; rintro e w11 ⟨rfl, h⟩; have H11 := Lib.hid h; clear h H10)))
    | (go_at_call 18; go_must (first | (refine (c12 H11.out).mono ?_; rintro e w12 ⟨rfl, h⟩; have H12 := Lib.hid h; clear h H11) | (refine (c13 H12.out).mono ?_; rintro e w13 ⟨rfl, h⟩; have H13 := Lib.hid h; clear h H12)))
    | (go_at_call 15; go_must (first | (refine H6.out.same1.mono ?_; rintro e w61 ⟨rfl, h⟩; have H6b := Lib.hid h; clear h H6) | (refine H6b.out.same2.mono ?_; rintro e w62 ⟨rfl, h⟩; have H6 := Lib.hid h; clear h H6b))))
  go_ret
  exact ⟨rfl, H16.out.to⟩
end Go.Proofs.Ytdhkcjjcgpkkgaa
