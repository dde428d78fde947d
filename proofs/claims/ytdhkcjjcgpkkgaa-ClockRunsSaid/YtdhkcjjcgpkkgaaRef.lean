import Derived.Test.YtdhkcjjcgpkkgaaNext
import Derived.Test.YtdhkcjjcgpkkgaaRow
namespace Go.Proofs.Ytdhkcjjcgpkkgaa
open Go.RowKit Go.Maps

def dueV (D : DMap) (i : Nat) : Int := (D (i : Int)).getD (-1)
/-- the reference's struct -/
def refA (now : Int) (D : DMap) : Array Value := (Value.int .i64 now :: (List.range 256).map fun i => Value.int .i64 (dueV D i)).toArray
theorem refA_size (now : Int) (D : DMap) : (refA now D).size = 257 := by simp [refA]
theorem refA_zero (now : Int) (D : DMap) : (refA now D)[0]? = some (.int .i64 now) := by simp [refA]
theorem refA_at (now : Int) (D : DMap) (i : Nat) (h : i < 256) : (refA now D)[1 + i]? = some (.int .i64 (dueV D i)) := by
  rw [Nat.add_comm]; simp [refA, h]
theorem refA_ext {now : Int} {D : DMap} {A : Array Value} (hs : A.size = 257) (h0 : A[0]? = some (.int .i64 now)) (h1 : ∀ i, i < 256 → A[1 + i]? = some (.int .i64 (dueV D i))) : A = refA now D := by
  apply Array.ext_getElem?
  intro i
  cases i with
  | zero => rw [h0, refA_zero]
  | succ i =>
    by_cases hi : i < 256
    · rw [Nat.add_comm, h1 i hi, refA_at now D i hi]
    · rw [Array.getElem?_eq_none (by omega), Array.getElem?_eq_none (by rw [refA_size]; omega)]
theorem refA_setNow (now n2 : Int) (D : DMap) : (refA now D).setIfInBounds 0 (.int .i64 n2) = refA n2 D := by
  refine refA_ext (by simp [refA_size]) (by rw [Array.getElem?_setIfInBounds_self_of_lt (by rw [refA_size]; omega)]) fun i hi => ?_
  rw [Array.getElem?_setIfInBounds_ne (by omega), refA_at now D i hi]
theorem refA_setDue (now : Int) (D : DMap) (t : Nat) (v : Option Int) (ht : t < 256) : (refA now D).setIfInBounds (1 + t) (.int .i64 (v.getD (-1))) = refA now (upd D t v) := by
  refine refA_ext (by simp [refA_size]) (by rw [Array.getElem?_setIfInBounds_ne (by omega), refA_zero]) fun i hi => ?_
  by_cases e : i = t
  · subst e
    rw [Array.getElem?_setIfInBounds_self_of_lt (by rw [refA_size]; omega)]
    simp [dueV, upd]
  · rw [Array.getElem?_setIfInBounds_ne (by omega), refA_at now D i hi]
    simp only [dueV]
    rw [upd_other _ _ (by omega)]
theorem refA_one (now : Int) (D : DMap) : (refA now D).all (·.oneCell') = true := by
  unfold refA
  refine all_oneCell_toArray fun v hv => ?_
  simp at hv
  rcases hv with rfl | ⟨i, _, rfl⟩ <;> rfl
theorem dueV_neg {now : Int} {D : DMap} (hg : Good now D) (i : Nat) : dueV D i < 0 ↔ D (i : Int) = none := by
  unfold dueV
  cases h : D (i : Int) with
  | none => simp
  | some d => have := (hg.2.2 _ _ h).2.2.1; simp; omega
theorem dueV_bd {now : Int} {D : DMap} (hg : Good now D) (i : Nat) : -1 ≤ dueV D i ∧ dueV D i ≤ maxT := by
  unfold dueV
  cases h : D (i : Int) with
  | none => simp
  | some d => have := (hg.2.2 _ _ h).2.2; simp; omega
def Z30 : Array Value := Array.replicate 257 (.int .i64 0)
theorem Z30_size : Z30.size = 257 := by simp [Z30]
theorem Z30_one : Z30.all (·.oneCell') = true := Array.all_eq_true_iff_forall_mem.2 (fun v hv => by rw [Array.eq_of_mem_replicate hv]; rfl)
theorem Try.info30z : (Try.prog.info? 30).map (fun i => (i.zero, i.size)) = some (some (.agg Z30), 257) := by kernel_rfl
theorem Try.info30s : (Try.prog.info? 30).map (·.size) = some 257 := by kernel_rfl

theorem refA_info (now : Int) (D : DMap) : (Try.prog.info? 30).map (·.size) = some (refA now D).size := by rw [Try.info30s, refA_size]
theorem refA_Z30 (now : Int) (D : DMap) : (refA now D).size = Z30.size := by rw [Z30_size, refA_size]
theorem results_row1 {fn : Func} {p : Tmp} (h : fn.results = #[.cell p 30]) {tmps : Array Value} {w : World} {g : Nat} {A : Array Value} {t : TypeId} (hp : tmps.getD p undef = .pointer (some ⟨g, 0, none⟩)) (hg : w.heap[g]? = some (.cells A t (0, 0))) (hs : A.size = 257) :
    (results fn tmps).run Try.prog w = .ok (.agg A) w :=
  results_cell_row h tmps w g t A (0, 0) _ hp hg Try.underlying30 rfl (by rw [Try.info30s, hs])
theorem results_row2 {fn : Func} {p q : Tmp} (h : fn.results = #[.cell p 30, .tmp q]) {tmps : Array Value} {w : World} {g : Nat} {A : Array Value} {t : TypeId} {v : Value} (hp : tmps.getD p undef = .pointer (some ⟨g, 0, none⟩)) (hq : tmps.getD q undef = v) (hg : w.heap[g]? = some (.cells A t (0, 0))) (hs : A.size = 257) :
    (results fn tmps).run Try.prog w = .ok (.tuple #[.agg A, v]) w := by
  have hp' : tmps[p]?.getD undef = .pointer (some ⟨g, 0, none⟩) := by simpa using hp
  have hq' : tmps[q]?.getD undef = v := by simpa using hq
  simp [results, h, hp', hq', asAddr, run_loadVar_row w g t 30 A (0, 0) _ hg Try.underlying30 rfl (by rw [Try.info30s, hs])]
theorem results_row3 {fn : Func} {p q r : Tmp} (h : fn.results = #[.cell p 30, .tmp q, .tmp r]) {tmps : Array Value} {w : World} {g : Nat} {A : Array Value} {t : TypeId} {v u : Value} (hp : tmps.getD p undef = .pointer (some ⟨g, 0, none⟩)) (hq : tmps.getD q undef = v) (hr : tmps.getD r undef = u) (hg : w.heap[g]? = some (.cells A t (0, 0))) (hs : A.size = 257) :
    (results fn tmps).run Try.prog w = .ok (.tuple #[.agg A, v, u]) w := by
  have hp' : tmps[p]?.getD undef = .pointer (some ⟨g, 0, none⟩) := by simpa using hp
  have hq' : tmps[q]?.getD undef = v := by simpa using hq
  have hr' : tmps[r]?.getD undef = u := by simpa using hr
  simp [results, h, hp', hq', hr', asAddr, run_loadVar_row w g t 30 A (0, 0) _ hg Try.underlying30 rfl (by rw [Try.info30s, hs])]

set_option maxHeartbeats 400000 in
set_option maxRecDepth 100000 in
theorem refNew_any (w : World) : Calls Try.prog 9 #[] w (Ret (.agg (refA 0 D0)) (Frm [] w)) := by
  go_enter Try.func9, Try.ntmps9
  go_wp2_with (first | (refine wpList_alloc_row rfl 30 rfl Z30 257 Try.info30z ?_))
  obtain ⟨W, hW⟩ : ∃ W, W = (w.alloc (.cells Z30 30)).alloc (.cells Z30 30) := ⟨_, rfl⟩
  rw [← hW]
  have hF : Hid (Frm [] w W) := by rw [hW]; exact ((Frm.refl _ _).alloc _).alloc _
  have b0 : Hid (W.heap[w.heap.size]? = some (.cells Z30 30 (0, 0))) := by show _ = _; rw [hW]; exact alloc_at (heap_alloc_new _ _)
  have b1 : Hid (W.heap[w.heap.size + 1]? = some (.cells Z30 30 (0, 0))) := by show _ = _; rw [hW]; have := heap_alloc_new (w.alloc (.cells Z30 30)) (.cells Z30 30); simpa using this
  clear hW
  go_loopw [2] (fun s wr => ∃ k : Nat, ∃ A, s = .int .i64 k ∧ k ≤ 256 ∧ wr.heap[w.heap.size + 1]? = some (.cells A 30 (0, 0)) ∧ A.size = 257 ∧ A[0]? = some (.int .i64 0) ∧ (∀ i, i < k → A[1 + i]? = some (.int .i64 (-1))) ∧ Frm [w.heap.size + 1] W wr)
    (fun s _ => 256 - (intOf s).toNat)
  case atStart => exact ⟨0, Z30, rfl, by omega, b1.out, Z30_size, by simp [Z30], by omega, Frm.refl _ _⟩
  case round =>
    obtain ⟨k, A, rfl, hk, hb, hs, h0, h1, hf⟩ := hrel
    by_cases hlt : k < 256
    · have c0 : wr.cell? ⟨w.heap.size + 1, 1 + k, none⟩ = some (A[1 + k]'(by omega)) := by rw [cell_of hb, Array.getElem?_eq_getElem]
      have f0 := free_of hb (1 + k)
      have HB := Lib.hid hb; have HS := Lib.hid hs; have H0 := Lib.hid h0; have H1 := Lib.hid h1; have HF := Lib.hid hf
      generalize A[1 + k]'(by omega) = x at c0
      clear hb hs h0 h1 hf
      go_wp2
      go_roundw
      case rel =>
        refine ⟨k + 1, A.setIfInBounds (1 + k) (.int .i64 (-1)), by go_num, by omega, block_setCell HB.out _ _, by simp [HS.out], ?_, fun i hi => ?_, HF.out.trans ((Frm.refl _ _).setCell _ (.inl (by simp)) _)⟩
        · rw [Array.getElem?_setIfInBounds_ne (by omega)]; exact H0.out
        · by_cases e : i = k
          · subst e; rw [Array.getElem?_setIfInBounds_self_of_lt (by rw [HS.out]; omega)]
          · rw [Array.getElem?_setIfInBounds_ne (by omega)]; exact H1.out i (by omega)
      case measure => simp [intOf]; omega
    · obtain rfl : k = 256 := by omega
      have hA := refA_ext (now := 0) (D := D0) hs h0 (fun i hi => h1 i hi)
      subst hA
      have hb0 := hf.at b0.out (by simp)
      have HF := Lib.hid hf; have HB := Lib.hid hb; have HB0 := Lib.hid hb0
      clear hs h0 h1 hf hb hb0
      go_wp2_with (first
        | (refine wpList_load_whole rfl 30 _ rfl _ rfl _ 30 HB.out _ Try.underlying30 rfl (refA_info _ _) ?_)
        | (refine wpList_store_row rfl 30 _ _ rfl _ _ _ 30 rfl rfl HB0.out (refA_Z30 _ _) (refA_info _ _) (refA_one _ _) ?_; intro w2 hb2 hf2))
      exact bodyPost_ret (v := .agg (refA 0 D0)) (results_row1 rfl rfl hb2 (refA_size _ _)) rfl ⟨rfl, (hF.out.then HF.out (by have := hF.out.size; intro x hx; simp at hx; right; omega)).then hf2 (by intro x hx; simp at hx; right; omega)⟩
end Go.Proofs.Ytdhkcjjcgpkkgaa
