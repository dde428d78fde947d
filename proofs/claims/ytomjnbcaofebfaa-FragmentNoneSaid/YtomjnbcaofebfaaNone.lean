/- FragmentNone: the methods of a box that is none, and the walk. -/
import Derived.Test.YtomjnbcaofebfaaKnown
namespace Go.Proofs.Ytomjnbcaofebfaa
open Go.RowKit Go.Maps Go.BigFrame

/-- a box that is none -/
def N0 (w : World) (xo : Option Addr) : Prop := xo = none ∨ ∃ xb v u, xo = some ⟨xb, 0, none⟩ ∧ w.heap[xb]? = some (.cells #[.int .i64 0, v, u] 58 (0, 0))
section
variable {w w' : World} {xo : Option Addr}
theorem N0.frm0 (h : N0 w xo) (hf : Frm [] w w') : N0 w' xo := by
  rcases h with h | ⟨xb, v, u, h1, h2⟩
  · exact .inl h
  · exact .inr ⟨xb, v, u, h1, hf.at h2 (by simp)⟩
theorem N0.none (h : N0 w xo) : ∀ W, Frm [] w W → Calls Try.prog 31 #[.pointer xo] W (Ret (.bool true) (W = ·)) := fun W hf => by
  rcases h with rfl | ⟨xb, v, u, rfl, h⟩
  · exact none_nil W
  · exact none_zero xb W v u (hf.at h (by simp))
set_option maxHeartbeats 1000000 in
theorem n_adds (h : N0 w xo) (p : Prt) (bv : Value) : Calls Try.prog 14 #[.pointer xo, pv p bv, .string { data := #[] }, .bool false, .int .i64 1] w (Ret (.bool true) (Frm [] w)) := by
  have CA : Hid (Calls Try.prog 30 #[.pointer xo, pv p bv] (w.alloc (.cells #[.int .i64 p.msg, .int .i64 p.num, .int .i64 p.cnt, bv] 38)) (Ret (.tuple #[.slice none 0 0, .bool false, .int .i64 1]) (Frm [] (w.alloc (.cells #[.int .i64 p.msg, .int .i64 p.num, .int .i64 p.cnt, bv] 38))))) :=
    Lib.hid (add_nil p bv _ xo (h.frm0 ((Frm.refl [] w).alloc _)))
  have hcv : ∀ W, (convert 22 9 (.slice none 0 0)).run Try.prog W = .ok (.string { data := #[] }) W := fun W => (Byts.nil W).conv
  unfold pv at *
  clear h
  go_enter Try.func14, Try.ntmps14
  go_wp2_with (first
    | (go_at_call 30; go_must (refine CA.out.mono ?_; clear CA; rintro e2 w2 ⟨rfl, hf⟩; have HF := Lib.hid hf; clear hf))
    | (go_at_call 12; go_must (refine (num_any _ _).mono ?_; rintro e w' ⟨rfl, rfl⟩)))
  all_goals
    go_ret
    refine ⟨?_, ((Frm.refl [] w).alloc _).trans HF.out⟩
    simp
theorem n_mis (h : N0 w xo) (t : Int) : Calls Try.prog 23 #[.pointer xo, .int .i64 t] w (RetV (MisTo w [])) := by
  have CN := Lib.hid h.none
  clear h
  go_enter Try.func23, Try.ntmps23
  go_wp2_with (go_at_call 31; go_must (refine (CN.out _ ((Frm.refl [] w).alloc _)).mono ?_; rintro e w' ⟨rfl, rfl⟩))
  go_ret
  exact ⟨_, rfl, _, _, rfl, ⟨heap_alloc_new _ _, ⟨none, 0, rfl, fun k x h => by simp at h⟩⟩, (Frm.refl [] w).alloc _, Nat.le_refl _⟩
theorem n_open (h : N0 w xo) : Calls Try.prog 15 #[.pointer xo] w (Ret (.slice none 0 0) (w = ·)) := by
  have CN := Lib.hid h.none
  clear h
  go_enter Try.func15, Try.ntmps15
  go_wp2_with (go_at_call 31; go_must (refine (CN.out _ (Frm.refl [] w)).mono ?_; rintro e w' ⟨rfl, rfl⟩))
  go_ret
  exact ⟨rfl, rfl⟩
theorem n_drop (h : N0 w xo) (t : Int) : Calls Try.prog 24 #[.pointer xo, .int .i64 t] w (Ret (.int .i64 1) (w = ·)) := by
  have CN := Lib.hid h.none
  clear h
  go_enter Try.func24, Try.ntmps24
  go_wp2_with (go_at_call 31; go_must (refine (CN.out _ (Frm.refl [] w)).mono ?_; rintro e w' ⟨rfl, rfl⟩))
  go_ret
  exact ⟨rfl, rfl⟩
theorem n_copy (h : N0 w xo) : Calls Try.prog 25 #[.pointer xo] w (Ret (.pointer none) (w = ·)) := by
  have CN := Lib.hid h.none
  clear h
  go_enter Try.func25, Try.ntmps25
  go_wp2_with (go_at_call 31; go_must (refine (CN.out _ (Frm.refl [] w)).mono ?_; rintro e w' ⟨rfl, rfl⟩))
  go_ret
  exact ⟨rfl, rfl⟩
theorem n_held (h : N0 w xo) : Calls Try.prog 16 #[.pointer xo] w (Ret (.int .i64 0) (Frm [] w)) := by
  have CN := Lib.hid h.none
  clear h
  go_enter Try.func16, Try.ntmps16
  go_wp2_with (go_at_call 31; go_must (refine (CN.out _ ((Frm.refl [] w).alloc _)).mono ?_; rintro e w' ⟨rfl, rfl⟩))
  refine bodyPost_ret (results_c3 rfl rfl (heap_alloc_new w (.cells #[.int .i64 0] 3))) rfl ⟨rfl, (Frm.refl [] w).alloc _⟩
end
set_option maxHeartbeats 4000000 in
set_option maxRecDepth 100000 in
theorem none_big (m u c : Int) (ao : Option Addr) (n cap : Nat) (z : Bool) (w : World) (hn : 1100 < n) : Calls Try.prog 7 #[.agg #[.int .i64 m, .int .i64 u, .int .i64 c, .slice ao n cap], .bool z] w (Ret (.bool true) (Frm [] w)) := by
  have hn' : (1100 : Int) < (n : Int) := by omega
  go_enter Try.func7, Try.ntmps7
  go_wp2_with (go_at_call 8; go_must (refine (known_any _).mono ?_; rintro e w2 ⟨rfl, hf⟩; have HF := Lib.hid hf; clear hf))
  go_ret
  exact ⟨rfl, ((Frm.refl [] w).alloc _).trans HF.out⟩
set_option maxHeartbeats 4000000 in
set_option maxRecDepth 100000 in
theorem none_any' (m u c : Int) (ao : Option Addr) (n cap : Nat) (z : Bool) (w : World) (hn : n ≤ 1100) : Calls Try.prog 7 #[.agg #[.int .i64 m, .int .i64 u, .int .i64 c, .slice ao n cap], .bool z] w (Ret (.bool true) (Frm [] w)) := by
  have hn' : ¬ (1100 : Int) < (n : Int) := by omega
  have hl := fun (g : Nat) (A : Array Value) (t : TypeId) (f : Nat × Nat) (W : World) (hg : W.heap[g]? = some (.cells A t f)) (hs : A.size = 4) => run_loadVar_row (P := Try.prog) W g t 38 A f _ hg Try.underlying38 rfl (by rw [hs]; kernel_rfl)
  have HG := Lib.hid (heap_alloc_new w (.cells #[.int .i64 m, .int .i64 u, .int .i64 c, .slice ao n cap] 38))
  cases z with
  | false =>
    have hl1 := hl w.heap.size #[.int .i64 m, .int .i64 u, .int .i64 c, .slice ao n cap] 38 (0, 0) _ HG.out rfl
    have CA : Hid (Calls Try.prog 14 #[.pointer none, .agg #[.int .i64 m, .int .i64 u, .int .i64 c, .slice ao n cap], .string { data := #[] }, .bool false, .int .i64 1] (w.alloc (.cells #[.int .i64 m, .int .i64 u, .int .i64 c, .slice ao n cap] 38)) (Ret (.bool true) (Frm [] _))) :=
      Lib.hid (n_adds (.inl rfl) ⟨m, u, c, []⟩ (.slice ao n cap))
    have F0 : Hid (Frm [] w (w.alloc (.cells #[.int .i64 m, .int .i64 u, .int .i64 c, .slice ao n cap] 38))) := Lib.hid ((Frm.refl [] w).alloc _)
    have N1 : Hid (∀ W, N0 W none) := Lib.hid fun W => .inl rfl
    clear hl hn
    go_enter Try.func7, Try.ntmps7
    go_wp2_with (first
      | (go_at_call 14; go_must (refine CA.out.mono ?_; clear CA; rintro e w2 ⟨rfl, hf⟩; have F2 := Lib.hid (F0.out.trans hf); have HG2 := Lib.hid (hf.at HG.out (by simp)); have c2 := cell_of HG2.out 0; clear hf))
      | (go_at_call 23; go_must (refine (n_mis (N1.out w2) m).mono ?_; rintro e w3 ⟨v, rfl, bl, sv, rfl, hm, hf, -⟩; have HM := Lib.hid hm; have HG3 := Lib.hid (hf.at HG2.out (by simp)); have F3 := Lib.hid (F2.out.trans hf); clear hm hf))
      | (go_at_call 22; go_must (refine (over_any bl sv _ [] 9 w3 HM.out ⟨none, 0, rfl, fun k x h => by simp at h⟩ (.inr rfl) (by decide)).mono ?_; rintro e w4 ⟨rfl, hf⟩; have F4 := Lib.hid (F3.out.trans hf); have HG4 := Lib.hid (hf.at HG3.out (by simp)); clear hf))
      | (go_at_call 15; go_must (refine (n_open (N1.out _)).mono ?_; rintro e w' ⟨rfl, rfl⟩))
      | (go_at_call 16; go_must (refine (n_held (N1.out w4)).mono ?_; rintro e w5 ⟨rfl, hf⟩; have F5 := Lib.hid (F4.out.trans hf); have c5 := cell_of (hf.at HG4.out (by simp)) 0; clear hf))
      | (go_at_call 24; go_must (refine (n_drop (N1.out _) m).mono ?_; rintro e w' ⟨rfl, rfl⟩))
      | (go_at_call 12; go_must (refine (num_any _ _).mono ?_; rintro e w' ⟨rfl, rfl⟩))
      | (go_at_call 25; go_must (refine (n_copy (N1.out _)).mono ?_; rintro e w' ⟨rfl, rfl⟩))
      | (go_at_call 8; go_must (refine (known_any w5).mono ?_; rintro e w8 ⟨rfl, hf⟩; have F8 := Lib.hid (F5.out.trans hf); clear hf)))
    go_ret
    exact ⟨rfl, F8.out⟩
  | true =>
    have HG1 : Hid (((w.alloc (.cells #[.int .i64 m, .int .i64 u, .int .i64 c, .slice ao n cap] 38)).alloc (.cells #[.int .i64 0, .int .i64 0, .map none] 58)).heap[w.heap.size]? = some (.cells #[.int .i64 m, .int .i64 u, .int .i64 c, .slice ao n cap] 38 (0, 0))) := Lib.hid (alloc_at HG.out)
    have HX : Hid (((w.alloc (.cells #[.int .i64 m, .int .i64 u, .int .i64 c, .slice ao n cap] 38)).alloc (.cells #[.int .i64 0, .int .i64 0, .map none] 58)).heap[w.heap.size + 1]? = some (.cells #[.int .i64 0, .int .i64 0, .map none] 58 (0, 0))) := Lib.hid (alloc_top (by simp))
    have hl1 := hl w.heap.size #[.int .i64 m, .int .i64 u, .int .i64 c, .slice ao n cap] 38 (0, 0) _ HG1.out rfl
    have CA : Hid (Calls Try.prog 14 #[.pointer (some ⟨w.heap.size + 1, 0, none⟩), .agg #[.int .i64 m, .int .i64 u, .int .i64 c, .slice ao n cap], .string { data := #[] }, .bool false, .int .i64 1] ((w.alloc (.cells #[.int .i64 m, .int .i64 u, .int .i64 c, .slice ao n cap] 38)).alloc (.cells #[.int .i64 0, .int .i64 0, .map none] 58)) (Ret (.bool true) (Frm [] _))) :=
      Lib.hid (n_adds (.inr ⟨_, _, _, rfl, HX.out⟩) ⟨m, u, c, []⟩ (.slice ao n cap))
    have F0 : Hid (Frm [] w ((w.alloc (.cells #[.int .i64 m, .int .i64 u, .int .i64 c, .slice ao n cap] 38)).alloc (.cells #[.int .i64 0, .int .i64 0, .map none] 58))) := Lib.hid (((Frm.refl [] w).alloc _).alloc _)
    have N1 : Hid (∀ W, Frm [] ((w.alloc (.cells #[.int .i64 m, .int .i64 u, .int .i64 c, .slice ao n cap] 38)).alloc (.cells #[.int .i64 0, .int .i64 0, .map none] 58)) W → N0 W (some ⟨w.heap.size + 1, 0, none⟩)) := Lib.hid fun W hf => .inr ⟨_, _, _, rfl, hf.at HX.out (by simp)⟩
    clear hl hn
    go_enter Try.func7, Try.ntmps7
    go_wp2_with (first
      | (go_at_call 14; go_must (refine CA.out.mono ?_; clear CA; rintro e w2 ⟨rfl, hf⟩; have M2 := Lib.hid hf; have F2 := Lib.hid (F0.out.trans hf); have HG2 := Lib.hid (hf.at HG1.out (by simp)); have c2 := cell_of HG2.out 0; clear hf))
      | (go_at_call 23; go_must (refine (n_mis (N1.out w2 M2.out) m).mono ?_; rintro e w3 ⟨v, rfl, bl, sv, rfl, hm, hf, -⟩; have HM := Lib.hid hm; have M3 := Lib.hid (M2.out.trans hf); have HG3 := Lib.hid (hf.at HG2.out (by simp)); have F3 := Lib.hid (F2.out.trans hf); clear hm hf))
      | (go_at_call 22; go_must (refine (over_any bl sv _ [] 9 w3 HM.out ⟨none, 0, rfl, fun k x h => by simp at h⟩ (.inr rfl) (by decide)).mono ?_; rintro e w4 ⟨rfl, hf⟩; have M4 := Lib.hid (M3.out.trans hf); have F4 := Lib.hid (F3.out.trans hf); have HG4 := Lib.hid (hf.at HG3.out (by simp)); clear hf))
      | (go_at_call 15; go_must (refine (n_open (N1.out w4 M4.out)).mono ?_; rintro e w' ⟨rfl, rfl⟩))
      | (go_at_call 16; go_must (refine (n_held (N1.out w4 M4.out)).mono ?_; rintro e w5 ⟨rfl, hf⟩; have M5 := Lib.hid (M4.out.trans hf); have F5 := Lib.hid (F4.out.trans hf); have c5 := cell_of (hf.at HG4.out (by simp)) 0; clear hf))
      | (go_at_call 24; go_must (refine (n_drop (N1.out w5 M5.out) m).mono ?_; rintro e w' ⟨rfl, rfl⟩))
      | (go_at_call 12; go_must (refine (num_any _ _).mono ?_; rintro e w' ⟨rfl, rfl⟩))
      | (go_at_call 25; go_must (refine (n_copy (N1.out w5 M5.out)).mono ?_; rintro e w' ⟨rfl, rfl⟩))
      | (go_at_call 8; go_must (refine (known_any w5).mono ?_; rintro e w8 ⟨rfl, hf⟩; have F8 := Lib.hid (F5.out.trans hf); clear hf)))
    go_ret
    exact ⟨rfl, F8.out⟩
end Go.Proofs.Ytomjnbcaofebfaa
