/- ChannelNil: the methods of a nil channel and of a zero one, and the walk. -/
import Derived.Test.YthelfpenccpkeaaKnown
namespace Go.Proofs.Ythelfpenccpkeaa
open Go.RowKit Go.BigFrame
attribute [local go_sem] Oper.semAt_some

/-- a nil channel, or a zero one -/
def Zc (w : World) (v : Value) : Prop := v = .pointer none ∨ ∃ b, v = .pointer (some ⟨b, 0, none⟩) ∧ w.heap[b]? = some (.cells #[.int .i64 0, .int .i64 0, .slice none 0 0] 57 (0, 0))
theorem Zc.frm {w w' : World} {v : Value} (h : Zc w v) (hf : Frm [] w w') : Zc w' v := h.imp id fun ⟨b, h1, h2⟩ => ⟨b, h1, hf.at h2 (by simp)⟩
section
variable {w : World} {v : Value}
theorem zc_none (h : Zc w v) : Calls Try.prog 25 #[v] w (Ret (.bool true) (w = ·)) := by
  rcases h with rfl | ⟨b, rfl, hb⟩
  · exact none_nil w
  · exact none_zero b w 0 _ hb
theorem zc_all (h : Zc w v) : Calls Try.prog 23 #[v] w (Ret (.slice none 0 0) (w = ·)) := by
  have CN := Lib.hid (zc_none h)
  clear h
  go_enter Try.func23, Try.ntmps23
  go_wp2_with (go_at_call 25; go_must (refine CN.out.mono ?_; rintro e w' ⟨rfl, rfl⟩))
  go_ret
  exact ⟨rfl, rfl⟩
theorem zc_len (h : Zc w v) : Calls Try.prog 19 #[v] w (Ret (.int .i64 0) (w = ·)) := by
  have CN := Lib.hid (zc_all h)
  clear h
  go_enter Try.func19, Try.ntmps19
  go_wp2_with (go_at_call 23; go_must (refine CN.out.mono ?_; rintro e w' ⟨rfl, rfl⟩))
  go_ret
  exact ⟨rfl, rfl⟩
theorem zc_take (p : Int) (h : Zc w v) : Calls Try.prog 18 #[v, .int .i64 p] w (Ret (.tuple #[.string { data := #[] }, .int .i64 1]) (w = ·)) := by
  have CN := Lib.hid (zc_none h)
  clear h
  go_enter Try.func18, Try.ntmps18
  go_wp2_with (go_at_call 25; go_must (refine CN.out.mono ?_; rintro e w' ⟨rfl, rfl⟩))
  go_ret2
  exact ⟨rfl, rfl⟩
theorem zc_lose (h : Zc w v) : Calls Try.prog 17 #[v] w (Ret (.tuple #[.string { data := #[] }, .int .i64 1]) (w = ·)) := by
  have CN := Lib.hid (zc_none h)
  clear h
  go_enter Try.func17, Try.ntmps17
  go_wp2_with (go_at_call 25; go_must (refine CN.out.mono ?_; rintro e w' ⟨rfl, rfl⟩))
  go_ret2
  exact ⟨rfl, rfl⟩
theorem zc_put (m : ByteArray) (h : Zc w v) : Calls Try.prog 11 #[v, .string m] w (Ret (.int .i64 1) (w = ·)) := by
  have CN := Lib.hid (zc_none h)
  clear h
  go_enter Try.func11, Try.ntmps11
  go_wp2_with (go_at_call 25; go_must (refine CN.out.mono ?_; rintro e w' ⟨rfl, rfl⟩))
  go_ret
  exact ⟨rfl, rfl⟩
theorem zc_copy (h : Zc w v) : Calls Try.prog 24 #[v] w (Ret (.pointer none) (w = ·)) := by
  have CN := Lib.hid (zc_none h)
  clear h
  go_enter Try.func24, Try.ntmps24
  go_wp2_with (go_at_call 25; go_must (refine CN.out.mono ?_; rintro e w' ⟨rfl, rfl⟩))
  go_ret
  exact ⟨rfl, rfl⟩
theorem zc_key (h : Zc w v) : Calls Try.prog 12 #[v] w (Ret (.string { data := #[] }) (Frm [] w)) := by
  have CA := Lib.hid (zc_all h)
  have CN := Lib.hid (zc_none h)
  clear h
  go_enter Try.func12, Try.ntmps12
  go_wp2_with (first
    | (go_at_call 23; go_must (refine CA.out.mono ?_; rintro e w' ⟨rfl, rfl⟩))
    | (go_at_call 25; go_must (refine CN.out.mono ?_; rintro e w' ⟨rfl, rfl⟩)))
  refine wp_loop_rounds 1 ?_
  rw [rounds_succ]
  go_wp2
  go_ret
  exact ⟨rfl, Frm.refl _ _⟩
/-- the iterator's list of a nil or zero channel -/
def ZR (bl : Nat) (W : World) : Prop := W.heap[bl]? = some (.cells #[.slice none 0 0] 22 (0, 0))
theorem zr_new (w : World) (o : Obj) : ZR (w.heap.size + 1) ((w.alloc o).alloc (.cells #[.slice none 0 0] 22)) := by
  have h := heap_alloc_new (w.alloc o) (.cells #[.slice none 0 0] 22)
  rwa [World.size_alloc] at h
theorem zc_choose (h : Zc w v) : Calls Try.prog 13 #[v] w (RetV fun u w' => ∃ bl bc, u = .func (.func 27) #[] #[.pointer (some ⟨bl, 0, none⟩), .pointer (some ⟨bc, 0, none⟩)] ∧ ZR bl w' ∧ Frm [] w w') := by
  have CA := Lib.hid (zc_all (h.frm ((Frm.refl [] w).alloc (.cells #[v] 24))))
  have b0 : (w.alloc (.cells #[v] 24)).heap[w.heap.size]? = some (.cells #[v] 24 (0, 0)) := heap_alloc_new _ _
  have c0 := cell_of b0 0
  rcases h with rfl | ⟨b, rfl, hb⟩ <;>
  · go_enter Try.func13, Try.ntmps13
    go_wp2_with (go_at_call 23; go_must (refine CA.out.mono ?_; rintro e w1 ⟨rfl, rfl⟩))
    go_ret
    exact ⟨_, rfl, _, _, rfl, zr_new _ _, ((Frm.refl _ _).alloc _).alloc _⟩
end
set_option maxHeartbeats 1000000 in
theorem zc_iter (bl : Nat) (bv : Value) : Iter Fence.wide 2 Try.prog 27 #[.pointer (some ⟨bl, 0, none⟩), bv] encC (ZR bl) [] := by
  intro l J Jx sJ sJx hJR hY W h0
  have hr := hJR _ _ h0
  have c0 := cell_of hr 0
  have H0 := Lib.hid h0
  clear sJ sJx hJR hY h0 hr
  refine callsIn_of_wp Try.func27 rfl trivial ?_ rfl
  simp only [Try.ntmps27, List.size_toArray, List.length_cons, List.length_nil, Nat.reduceAdd, Nat.reduceSub, Array.replicate_succ, Array.replicate_zero, List.push_toArray, List.append_toArray, List.nil_append, List.cons_append]
  gi_wp2
  gi_loopw [8] (fun s wr => s = .int .i64 0 ∧ J [] wr) (fun _ _ => 0)
  case atStart => exact ⟨rfl, H0.out⟩
  case round =>
    obtain ⟨rfl, hj⟩ := hrel
    have HJ := Lib.hid hj
    clear hj H0
    gi_wp2
    go_end0
    exact ⟨⟨_, rfl⟩, .inl HJ.out⟩
/-- a function's end, no mark -/
theorem leaves_none {P : Program} {fn : Func} {tmps : Array Value} {R : Ending → World → Prop} {w : World}
    (h : ∃ v, (results fn tmps).run P w = .ok v w ∧ R (.returned v) w) : LeavesInM Fence.wide 3 P fn tmps R [] .returning w := h
/-- a function's end, two marks -/
theorem leaves_two {P : Program} {fn : Func} {tmps : Array Value} {R : Ending → World → Prop} {D D' : Nat} {w : World} (hK : w.heap[D]? = some (.deferred (some []))) (hK' : w.heap[D']? = some (.deferred (some []))) (hne : D ≠ D')
    (h : ∃ v, (results fn tmps).run P ((w.putObj D (.deferred none)).putObj D' (.deferred none)) = .ok v ((w.putObj D (.deferred none)).putObj D' (.deferred none)) ∧ R (.returned v) ((w.putObj D (.deferred none)).putObj D' (.deferred none))) :
    LeavesInM Fence.wide 3 P fn tmps R [{ target := .collected D, args := #[] }, { target := .collected D', args := #[] }] .returning w :=
  ⟨by simp, .inl ⟨_, _, rfl, run_takeDeferred hK, by simp, .inl ⟨_, _, rfl, run_takeDeferred ((World.putObj_heap_other (Ne.symm hne)).trans hK'), h⟩⟩⟩
/-- the end -/
theorem nil_end {w W0 V w9 : World} {D1 D2 : Nat} {fn : Func} {tmps : Array Value} (hf : fn.results = #[.cell 4 4]) (ht : tmps.getD 4 undef = .pointer (some ⟨w.heap.size, 0, none⟩)) (h0 : Frm [] (w.alloc (.cells #[.bool false] 4)) W0) (hV : Frm [] W0 V)
    (h9 : Frm [] V w9) (h1 : V.heap[D1]? = some (.deferred (some []))) (h2 : V.heap[D2]? = some (.deferred (some []))) (l1 : W0.heap.size ≤ D1) (l2 : D1 < D2) :
    LeavesInM Fence.wide 3 Try.prog fn tmps (Ret (.bool true) (Frm [] w)) [{ target := .collected D2, args := #[] }, { target := .collected D1, args := #[] }] .returning (w9.setCell ⟨w.heap.size, 0, none⟩ (.bool true)) := by
  have l0 : w.heap.size + 1 ≤ W0.heap.size := by simpa using h0.size
  have hW : Frm [] W0 w9 := hV.trans h9
  have hs : w9.heap[w.heap.size]? = some (.cells #[.bool false] 4 (0, 0)) := hW.at (h0.at (heap_alloc_new w _) (by simp)) (by simp)
  have k1 : (w9.setCell ⟨w.heap.size, 0, none⟩ (.bool true)).heap[D1]? = some (.deferred (some [])) := setCell_at (h9.at h1 (by simp)) (by simp; omega) _
  have k2 : (w9.setCell ⟨w.heap.size, 0, none⟩ (.bool true)).heap[D2]? = some (.deferred (some [])) := setCell_at (h9.at h2 (by simp)) (by simp; omega) _
  have ks := block_setCell hs 0 (.bool true)
  have hf8 : Frm [] w (w9.setCell ⟨w.heap.size, 0, none⟩ (.bool true)) := ((((Frm.refl [] w).alloc _).trans h0).trans hW).setCell _ (.inr (Nat.le_refl _)) _
  refine leaves_two k2 k1 (by omega) ⟨.bool true, ?_, rfl, (hf8.then (Frm.putObj _ D2 _) (by intro x hx; simp at hx; right; omega)).then (Frm.putObj _ D1 _) (by intro x hx; simp at hx; right; omega)⟩
  have hc : (((w9.setCell ⟨w.heap.size, 0, none⟩ (.bool true)).putObj D2 (.deferred none)).putObj D1 (.deferred none)).cell? ⟨w.heap.size, 0, none⟩ = some (.bool true) :=
    (cell_of ((Frm.putObj _ D1 _).at ((Frm.putObj _ D2 _).at ks (by simp; omega)) (by simp; omega)) 0).trans rfl
  generalize ((w9.setCell ⟨w.heap.size, 0, none⟩ (.bool true)).putObj D2 (.deferred none)).putObj D1 (.deferred none) = Wf at hc
  have ht' : tmps[4]?.getD undef = .pointer (some ⟨w.heap.size, 0, none⟩) := by simpa using ht
  simp [results, hf, go_sem, hc, ht']
set_option maxHeartbeats 4000000 in
set_option maxRecDepth 100000 in
theorem nil_many (m : ByteArray) (p : Int) (w : World) (hm : 60 < m.size) : Calls Try.prog 7 #[.string m, .int .i64 p] w (Ret (.bool true) (Frm [] w)) := by
  have hm' : (60 : Int) < m.size := by omega
  have HB : Hid ((w.alloc (.cells #[.bool false] 4)).heap[w.heap.size]? = some (.cells #[.bool false] 4 (0, 0))) := Lib.hid (heap_alloc_new _ _)
  refine calls_of_marks Try.func7 rfl ?_
  simp only [Try.ntmps7, List.size_toArray, List.length_cons, List.length_nil, Nat.reduceAdd, Nat.reduceSub, Array.replicate_succ, Array.replicate_zero, List.push_toArray, List.append_toArray, List.nil_append, List.cons_append]
  go_wp2_with (go_at_call 8; go_must (refine (known_any _).mono ?_; rintro e w9 ⟨rfl, hf⟩; have HF := Lib.hid hf; have c4 := cell_of (hf.at HB.out (by simp)) 0; have f4 := free_of (hf.at HB.out (by simp)) 0; clear hf))
  have hc := cell_of (block_setCell (HF.out.at HB.out (by simp)) 0 (.bool true)) 0
  have hf8 : Frm [] w (w9.setCell ⟨w.heap.size, 0, none⟩ (.bool true)) := (((Frm.refl _ _).alloc _).trans HF.out).setCell _ (.inr (Nat.le_refl _)) _
  generalize w9.setCell ⟨w.heap.size, 0, none⟩ (.bool true) = Wf at hc hf8 ⊢
  refine leaves_none ⟨.bool true, ?_, rfl, hf8⟩
  clear hf8 c4 f4
  simp [results, Try.results7, go_sem, hc]
set_option maxHeartbeats 4000000 in
set_option maxRecDepth 100000 in
theorem nil_any (m : ByteArray) (p : Int) (w : World) : Calls Try.prog 7 #[.string m, .int .i64 p] w (Ret (.bool true) (Frm [] w)) := by
  have hqf := eql_seq
  by_cases hm : 60 < m.size
  · exact nil_many m p w hm
  · have hm' : ¬ (60 : Int) < m.size := by omega
    have HB : Hid ((w.alloc (.cells #[.bool false] 4)).heap[w.heap.size]? = some (.cells #[.bool false] 4 (0, 0))) := Lib.hid (heap_alloc_new _ _)
    refine calls_of_marks Try.func7 rfl ?_
    simp only [Try.ntmps7, List.size_toArray, List.length_cons, List.length_nil, Nat.reduceAdd, Nat.reduceSub, Array.replicate_succ, Array.replicate_zero, List.push_toArray, List.append_toArray, List.nil_append, List.cons_append]
    go_wp2
    obtain ⟨W0, hW0⟩ : ∃ W0, W0 = (((w.alloc (Obj.cells #[Value.bool false] 4)).alloc (Obj.cells #[Value.int IntKind.i64 0, Value.int IntKind.i64 0, Value.slice none 0 0] 57)).alloc (Obj.cells #[Value.pointer none, Value.pointer (some { block := w.heap.size + 1, off := 0 })] 24)) := ⟨_, rfl⟩
    have hF0 : Frm [] (w.alloc (.cells #[.bool false] 4)) W0 := by rw [hW0]; exact ((Frm.refl _ _).alloc _).alloc _
    have hz0 : W0.heap[w.heap.size + 1]? = some (.cells #[.int .i64 0, .int .i64 0, .slice none 0 0] 57 (0, 0)) := by
      rw [hW0]; refine alloc_at ?_; have h := heap_alloc_new (w.alloc (.cells #[.bool false] 4)) (.cells #[.int .i64 0, .int .i64 0, .slice none 0 0] 57); rwa [World.size_alloc] at h
    have hs0 : W0.heap[w.heap.size + 1 + 1]? = some (.cells #[.pointer none, .pointer (some ⟨w.heap.size + 1, 0, none⟩)] 24 (0, 0)) := by
      rw [hW0]; have h := heap_alloc_new ((w.alloc (.cells #[.bool false] 4)).alloc (.cells #[.int .i64 0, .int .i64 0, .slice none 0 0] 57)) (.cells #[.pointer none, .pointer (some ⟨w.heap.size + 1, 0, none⟩)] 24); simpa using h
    rw [← hW0]
    have HF0 := Lib.hid hF0; have HZ0 := Lib.hid hz0; have HS0 := Lib.hid hs0
    have HZN : Hid (∀ W, Zc W (.pointer none)) := Lib.hid fun W => .inl rfl
    clear hW0 hF0 hz0 hs0
    refine wp_loop_rounds 3 ?_
    rw [rounds_succ]
    have cs := cell_of HS0.out 0
    have hap : (({ data := #[] } : ByteArray) ++ ({ data := #[] } : ByteArray)) = { data := #[] } := rfl
    have hnn : (({ data := #[] } : ByteArray) != { data := #[] }) = false := by decide
    have HW0 : Hid (Frm [] W0 W0) := Lib.hid (Frm.refl _ _)
    go_wp2_with (first
      | (go_at_call 18; go_must (first | (refine (zc_take _ (HZN.out _)).mono ?_; rintro e w' ⟨rfl, rfl⟩)))
      | (go_at_call 17; go_must (first | (refine (zc_lose (HZN.out _)).mono ?_; rintro e w' ⟨rfl, rfl⟩)))
      | (go_at_call 11; go_must (first | (refine (zc_put _ (HZN.out _)).mono ?_; rintro e w' ⟨rfl, rfl⟩)))
      | (go_at_call 12; go_must (first | (refine (zc_key (HZN.out _)).mono ?_; rintro e W1 ⟨rfl, hf⟩; have HF1 : Hid (Frm [] W0 W1) := Lib.hid (HW0.out.trans hf); clear hf)))
      | (go_at_call 19; go_must (first | (refine (zc_len (HZN.out _)).mono ?_; rintro e w' ⟨rfl, rfl⟩)))
      | (go_at_call 23; go_must (first | (refine (zc_all (HZN.out _)).mono ?_; rintro e w' ⟨rfl, rfl⟩)))
      | (go_at_call 24; go_must (first | (refine (zc_copy (HZN.out _)).mono ?_; rintro e w' ⟨rfl, rfl⟩)))
      | (go_at_call 13; go_must (first | (refine (zc_choose (HZN.out _)).mono ?_; rintro e W2 ⟨u, rfl, bl, bc, rfl, hz, hf⟩; have HR := Lib.hid hz; have HF2 : Hid (Frm [] W0 W2) := Lib.hid (HF1.out.trans hf); clear hz hf))))
    refine wp_rangeList rfl (enters_of Try.func27 (by kernel_rfl) rfl) (zc_iter bl _) (fun _ => rfl)
      (fun _ W => Frm [] W0 W ∧ ZR bl W ∧ True) (fun _ _ _ => False) (fun _ W W' h hb => ⟨(hb : Bk _ W W').old h.1 HF2.out.size, (hb : Bk _ W W').at h.2.1 rfl, trivial⟩) (fun _ _ _ _ h _ => h) (fun _ W h => h.2.1) ⟨HF2.out, HR.out, trivial⟩ (fun l pre x rest W h => by simp at h) ?_ (fun _ _ _ _ _ _ h => by simp at h)
    intro D1 W3 hD1 hI hK1
    have HF3 := Lib.hid hI.1
    have HK1 := Lib.hid hK1
    have HD1 : Hid (W0.heap.size ≤ D1) := Lib.hid (Nat.le_trans HF2.out.size hD1)
    clear hI hK1 hD1 HF1 HF2 HR cs
    go_wp2
    rw [rounds_succ]
    have cs := cell_of (HF3.out.at HS0.out (by simp)) 1
    have HZB : Hid (∀ W, Frm [] W0 W → Zc W (.pointer (some ⟨w.heap.size + 1, 0, none⟩))) := Lib.hid fun W hf => .inr ⟨_, rfl, hf.at HZ0.out (by simp)⟩
    go_wp2_with (first
      | (go_at_call 18; go_must (first | (refine (zc_take _ (HZB.out _ HF4.out)).mono ?_; rintro e w' ⟨rfl, rfl⟩) | (refine (zc_take _ (HZB.out _ HF3.out)).mono ?_; rintro e w' ⟨rfl, rfl⟩)))
      | (go_at_call 17; go_must (first | (refine (zc_lose (HZB.out _ HF4.out)).mono ?_; rintro e w' ⟨rfl, rfl⟩) | (refine (zc_lose (HZB.out _ HF3.out)).mono ?_; rintro e w' ⟨rfl, rfl⟩)))
      | (go_at_call 11; go_must (first | (refine (zc_put _ (HZB.out _ HF4.out)).mono ?_; rintro e w' ⟨rfl, rfl⟩) | (refine (zc_put _ (HZB.out _ HF3.out)).mono ?_; rintro e w' ⟨rfl, rfl⟩)))
      | (go_at_call 12; go_must (first | (refine (zc_key (HZB.out _ HF4.out)).mono ?_; rintro e W4 ⟨rfl, hf⟩; have HF4 : Hid (Frm [] W0 W4) := Lib.hid (HF3.out.trans hf); have HX4 := Lib.hid hf; clear hf) | (refine (zc_key (HZB.out _ HF3.out)).mono ?_; rintro e W4 ⟨rfl, hf⟩; have HF4 : Hid (Frm [] W0 W4) := Lib.hid (HF3.out.trans hf); have HX4 := Lib.hid hf; clear hf)))
      | (go_at_call 19; go_must (first | (refine (zc_len (HZB.out _ HF4.out)).mono ?_; rintro e w' ⟨rfl, rfl⟩) | (refine (zc_len (HZB.out _ HF3.out)).mono ?_; rintro e w' ⟨rfl, rfl⟩)))
      | (go_at_call 23; go_must (first | (refine (zc_all (HZB.out _ HF4.out)).mono ?_; rintro e w' ⟨rfl, rfl⟩) | (refine (zc_all (HZB.out _ HF3.out)).mono ?_; rintro e w' ⟨rfl, rfl⟩)))
      | (go_at_call 24; go_must (first | (refine (zc_copy (HZB.out _ HF4.out)).mono ?_; rintro e w' ⟨rfl, rfl⟩) | (refine (zc_copy (HZB.out _ HF3.out)).mono ?_; rintro e w' ⟨rfl, rfl⟩)))
      | (go_at_call 13; go_must (first | (refine (zc_choose (HZB.out _ HF4.out)).mono ?_; rintro e W5 ⟨u, rfl, bl2, bc2, rfl, hz, hf⟩; have HR := Lib.hid hz; have HF5 : Hid (Frm [] W0 W5) := Lib.hid (HF4.out.trans hf); have HX5 := Lib.hid (HX4.out.trans hf); clear hz hf) | (refine (zc_choose (HZB.out _ HF3.out)).mono ?_; rintro e W5 ⟨u, rfl, bl2, bc2, rfl, hz, hf⟩; have HR := Lib.hid hz; have HF5 : Hid (Frm [] W0 W5) := Lib.hid (HF4.out.trans hf); have HX5 := Lib.hid (HX4.out.trans hf); clear hz hf))))
    have HK5 : Hid (W5.heap[D1]? = some (.deferred (some []))) := Lib.hid (HX5.out.at HK1.out (by simp))
    have HD5 : Hid (D1 < W5.heap.size) := Lib.hid (lt_of_block HK5.out)
    refine wp_rangeList rfl (enters_of Try.func27 (by kernel_rfl) rfl) (zc_iter bl2 _) (fun _ => rfl)
      (fun _ W => Frm [] W0 W ∧ ZR bl2 W ∧ W.heap[D1]? = some (.deferred (some []))) (fun _ _ _ => False) (fun _ W W' h hb => ⟨(hb : Bk _ W W').old h.1 HF5.out.size, (hb : Bk _ W W').at h.2.1 rfl, hb.block D1 _ h.2.2 (.inl HD5.out)⟩) (fun _ _ _ _ h _ => h) (fun _ W h => h.2.1) ⟨HF5.out, HR.out, HK5.out⟩ (fun l pre x rest W h => by simp at h) ?_ (fun _ _ _ _ _ _ h => by simp at h)
    intro D2 W6 hD2 hI hK2
    have HF6 := Lib.hid hI.1
    have HK6 := Lib.hid hI.2.2
    have HK2 := Lib.hid hK2
    have HD2 : Hid (D1 < D2) := Lib.hid (Nat.lt_of_lt_of_le HD5.out hD2)
    clear hI hK2 hD2 cs
    go_wp2
    rw [rounds_succ]
    go_wp2_with (go_at_call 8; go_must (refine (known_any _).mono ?_; rintro e w9 ⟨rfl, hf⟩; have HF9 := Lib.hid hf; have c4 := cell_of (hf.at (HF6.out.at (HF0.out.at HB.out (by simp)) (by simp)) (by simp)) 0; have f4 := free_of (hf.at (HF6.out.at (HF0.out.at HB.out (by simp)) (by simp)) (by simp)) 0; clear hf))
    exact nil_end rfl rfl HF0.out HF6.out HF9.out HK6.out HK2.out HD1.out HD2.out
end Go.Proofs.Ythelfpenccpkeaa
