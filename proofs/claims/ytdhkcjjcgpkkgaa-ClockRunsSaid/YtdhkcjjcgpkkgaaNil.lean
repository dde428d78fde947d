/- ClockNil: the methods of a nil clock, and the walk. -/
import Derived.Test.YtdhkcjjcgpkkgaaRunIter
import Derived.Test.YtdhkcjjcgpkkgaaKnown
import Derived.Shelf.Abstract
namespace Go.Proofs.Ytdhkcjjcgpkkgaa
open Go.RowKit Go.Maps Go.Shelf

set_option maxHeartbeats 400000
theorem advance_nil (t : Int) (w : World) : Calls Try.prog 14 #[.pointer none, .int .i64 t] w (Ret (.tuple #[.slice none 0 0, .int .i64 1]) (w = ·)) := by
  go_enter Try.func14, Try.ntmps14
  go_wp2
  go_ret2
  exact ⟨rfl, rfl⟩
theorem left_nil (t : Int) (w : World) : Calls Try.prog 20 #[.pointer none, .int .i64 t] w (Ret (.tuple #[.int .i64 0, .int .i64 1]) (w = ·)) := by
  go_enter Try.func20, Try.ntmps20
  go_wp2
  go_ret2
  exact ⟨rfl, rfl⟩
theorem next_nil (w : World) : Calls Try.prog 21 #[.pointer none] w (Ret (.tuple #[.int .i64 0, .int .i64 0, .int .i64 1]) (w = ·)) := by
  go_enter Try.func21, Try.ntmps21
  go_wp2
  go_ret3
  exact ⟨rfl, rfl⟩
theorem now_nil (w : World) : Calls Try.prog 22 #[.pointer none] w (Ret (.int .i64 0) (w = ·)) := by
  go_enter Try.func22, Try.ntmps22
  go_wp2
  go_ret
  exact ⟨rfl, rfl⟩
theorem start_nil (t k : Int) (w : World) : Calls Try.prog 12 #[.pointer none, .int .i64 t, .int .i64 k] w (Ret (.int .i64 1) (w = ·)) := by
  go_enter Try.func12, Try.ntmps12
  go_wp2
  go_ret
  exact ⟨rfl, rfl⟩
theorem stop_nil (t : Int) (w : World) : Calls Try.prog 18 #[.pointer none, .int .i64 t] w (Ret (.int .i64 1) (w = ·)) := by
  go_enter Try.func18, Try.ntmps18
  go_wp2_with (go_at_call 20; go_must (refine (left_nil t _).mono ?_; rintro e w' ⟨rfl, rfl⟩))
  go_ret
  exact ⟨rfl, rfl⟩
theorem clen_nil (w : World) : Calls Try.prog 23 #[.pointer none] w (Ret (.int .i64 0) (w = ·)) := by
  go_enter Try.func23, Try.ntmps23
  go_wp2
  go_ret
  exact ⟨rfl, rfl⟩
theorem copy_nil (w : World) : Calls Try.prog 13 #[.pointer none] w (Ret (.pointer none) (w = ·)) := by
  go_enter Try.func13, Try.ntmps13
  go_wp2
  go_ret
  exact ⟨rfl, rfl⟩
theorem running_nil (w : World) : Calls Try.prog 17 #[.pointer none] w (Ret (.func (.func 36) #[] #[.pointer (some ⟨w.heap.size, 0, none⟩)]) (w.alloc (.cells #[.slice none 0 0] 25) = ·)) := by
  go_enter Try.func17, Try.ntmps17
  go_wp2
  go_ret
  exact ⟨rfl, rfl⟩
theorem eql_func (w : World) (f : Nat) (lb : Array Value) : (binOp .eql 51 (.func (.func f) #[] lb) .nilFunc).run Try.prog w = .ok (.bool false) w := run_eql_func w 51 _ _ _ f lb Try.underlying51
/-- what lies while the loop runs -/
def NilI (w W : World) : Prop := Frm [] w W ∧ W.heap[w.heap.size]? = some (.cells #[.bool false] 4 (0, 0)) ∧ RunR (w.heap.size + 1) (.slice none 0 0) [] W
theorem NilI.bk {w W W' : World} {B : Nat} (h : NilI w W) (hb : Bk B W W') (hB : w.heap.size ≤ B) : NilI w W' :=
  ⟨hb.old h.1 hB, hb.at h.2.1 rfl, hb.at h.2.2.1 rfl, World.ownsRow_nil _ _ _ _⟩
set_option maxHeartbeats 4000000 in
set_option maxRecDepth 100000 in
theorem nil_any (t k : Int) (w : World) : Calls Try.prog 7 #[.int .i64 t, .int .i64 k] w (Ret (.bool true) (Frm [] w)) := by
  have hqf := eql_func
  refine calls_of_marks Try.func7 rfl ?_
  simp only [Try.ntmps7, List.size_toArray, List.length_cons, List.length_nil, Nat.reduceAdd, Nat.reduceSub, Array.replicate_succ, Array.replicate_zero, List.push_toArray, List.append_toArray, List.nil_append, List.cons_append]
  go_wp2_with (first
    | (go_at_call 14; go_must (refine (advance_nil _ _).mono ?_; rintro e w' ⟨rfl, rfl⟩))
    | (go_at_call 20; go_must (refine (left_nil _ _).mono ?_; rintro e w' ⟨rfl, rfl⟩))
    | (go_at_call 21; go_must (refine (next_nil _).mono ?_; rintro e w' ⟨rfl, rfl⟩))
    | (go_at_call 17; go_must (refine (running_nil _).mono ?_; rintro e w' ⟨rfl, rfl⟩)))
  refine wp_rangeList rfl (enters_of Try.func36 (by kernel_rfl) rfl) (run_iter (w.heap.size + 1) (.slice none 0 0) [] (by simp)) (fun _ => rfl)
    (fun _ W => NilI w W) (fun _ _ _ => False) (fun _ W W' h hb => h.bk (hb : Bk _ W W') (by simp; omega)) (fun _ _ _ _ h _ => h) (fun _ W h => h.2.2) ?_ (fun l pre x rest W h => by simp at h) ?_ (fun _ _ _ _ _ _ h => by simp at h)
  · exact ⟨((Frm.refl _ _).alloc _).alloc _, alloc_at (heap_alloc_new _ _), by have := heap_alloc_new (w.alloc (.cells #[.bool false] 4)) (.cells #[.slice none 0 0] 25); rwa [World.size_alloc] at this, World.ownsRow_nil _ _ _ _⟩
  · intro D W hD hI hK
    have HI := Lib.hid hI
    have HK := Lib.hid hK
    have HD := Lib.hid hD
    clear hI hK hD
    go_wp2_with (first
      | (go_at_call 22; go_must (refine (now_nil _).mono ?_; rintro e w' ⟨rfl, rfl⟩))
      | (go_at_call 12; go_must (refine (start_nil _ _ _).mono ?_; rintro e w' ⟨rfl, rfl⟩))
      | (go_at_call 18; go_must (refine (stop_nil _ _).mono ?_; rintro e w' ⟨rfl, rfl⟩))
      | (go_at_call 23; go_must (refine (clen_nil _).mono ?_; rintro e w' ⟨rfl, rfl⟩))
      | (go_at_call 13; go_must (refine (copy_nil _).mono ?_; rintro e w' ⟨rfl, rfl⟩))
      | (go_at_call 8; go_must (refine (known_any _).mono ?_; rintro e w8 ⟨rfl, hf⟩; have HF := Lib.hid hf; have c4 := cell_of (hf.at HI.out.2.1 (by simp)) 0; have f4 := free_of (hf.at HI.out.2.1 (by simp)) 0; clear hf)))
    have hD := HD.out
    simp only [World.size_alloc] at hD
    have hKD : (w8.setCell ⟨w.heap.size, 0, none⟩ (.bool true)).heap[D]? = some (.deferred (some [])) := setCell_at (HF.out.at HK.out (by simp)) (by simp; omega) _
    have hf8 : Frm [] w ((w8.setCell ⟨w.heap.size, 0, none⟩ (.bool true)).putObj D (.deferred none)) :=
      ((HI.out.1.trans HF.out).setCell _ (.inr (Nat.le_refl _)) _).then (Frm.putObj _ D _) (by intro x hx; simp at hx; right; omega)
    have hc : ((w8.setCell ⟨w.heap.size, 0, none⟩ (.bool true)).putObj D (.deferred none)).cell? ⟨w.heap.size, 0, none⟩ = some (.bool true) := by
      refine (cell_of ((Frm.putObj _ D _).at (block_setCell (HF.out.at HI.out.2.1 (by simp)) 0 (.bool true)) (by simp; omega)) 0).trans rfl
    refine leaves_mark hKD ⟨.bool true, ?_, rfl, hf8⟩
    generalize (w8.setCell ⟨w.heap.size, 0, none⟩ (.bool true)).putObj D (.deferred none) = Wf at hc
    clear hf8 hKD c4 f4
    simp [results, Try.results7, go_sem, hc]
end Go.Proofs.Ytdhkcjjcgpkkgaa
