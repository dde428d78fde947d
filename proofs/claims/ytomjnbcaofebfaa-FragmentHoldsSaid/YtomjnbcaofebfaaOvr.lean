/- over: the walk through what an iterator hands out. -/
import Derived.Test.YtomjnbcaofebfaaOver
import Derived.BigQuiet
namespace Go.Proofs.Ytomjnbcaofebfaa
open Go.RowKit Go.Maps Go.BigFrame
attribute [local go_sem] Oper.semAt_some

theorem Bk.oldF {F : List Nat} {B : Nat} {w0 w w' : World} (h : Bk B w w') (h0 : Frm F w0 w) (hB : w0.heap.size ≤ B) : Frm F w0 w' :=
  ⟨h.os.trans h0.os, h.tape.trans h0.tape, h.output.trans h0.output, Nat.le_trans h0.size h.size, fun k hk hn => by
    have e := h0.block k hk hn
    have hk' : w0.heap[k]? = some (w0.heap[k]) := Array.getElem?_eq_getElem hk
    rw [hk'] at e ⊢
    exact h.block k _ e (.inl (by omega))⟩
/-- while the numbers are gone through -/
structure KI (x8 : World) (nb : Nat) (pre : List Int) (W : World) : Prop where
  fr : Frm [nb] x8 W
  nb : W.heap[nb]? = some (.cells #[.int .i64 pre.length] 3 (0, 0))
theorem KI.bk {x8 W W' : World} {nb B : Nat} {pre : List Int} (h : KI x8 nb pre W) (hb : Bk B W W') (hB : x8.heap.size ≤ B) : KI x8 nb pre W' := ⟨hb.oldF h.fr hB, hb.at h.nb rfl⟩
theorem KI.step {x8 W : World} {nb : Nat} {pre : List Int} {k : Int} (h : KI x8 nb pre W) (x : Int) (hk : k = pre.length + 1) : KB W (W.setCell ⟨nb, 0, none⟩ (.int .i64 k)) ∧ KI x8 nb (pre ++ [x]) (W.setCell ⟨nb, 0, none⟩ (.int .i64 k)) := by
  subst hk
  have hf : Frm [nb] W (W.setCell ⟨nb, 0, none⟩ (.int .i64 ((pre.length : Int) + 1))) := (Frm.refl _ _).setCell _ (.inl (by simp)) _
  refine ⟨KB.frm hf (fun y hy => ?_), ⟨h.fr.trans hf, ?_⟩⟩
  · simp at hy; subst hy; exact not_books h.nb rfl
  · refine (block_setCell h.nb 0 _).trans ?_
    simp
theorem eql_seq (w : World) (f : Nat) (lb : Array Value) : (binOp .eql 61 (.func (.func f) #[] lb) .nilFunc).run Try.prog w = .ok (.bool false) w := run_eql_func w 61 _ _ _ f lb Try.underlying61
set_option maxHeartbeats 2000000 in
set_option maxRecDepth 100000 in
theorem over_any (bl : Nat) (sv wv : Value) (L : List Int) (lim : Int) (w : World) (hr : MisR bl sv L w) (hw : Ints w wv L) (hlim : (L.length : Int) < lim ∨ L = []) (hL : L.length ≤ 1000) :
    Calls Try.prog 22 #[.func (.func 40) #[] #[.pointer (some ⟨bl, 0, none⟩)], wv, .int .i64 lim] w (Ret (.bool true) (Frm [] w)) := by
  obtain ⟨wa, wc, rfl, hcs⟩ := hw
  have hqf := eql_seq
  obtain ⟨W0, hW0⟩ : ∃ W0, (((w.alloc (.cells #[.slice wa L.length wc] 39)).alloc (.cells #[.int .i64 lim] 3)).alloc (.cells #[.bool false] 4)).alloc (.cells #[.int .i64 0] 3) = W0 := ⟨_, rfl⟩
  have HF0 : Hid (Frm [] w W0) := Lib.hid (by rw [← hW0]; exact ((((Frm.refl [] w).alloc _).alloc _).alloc _).alloc _)
  have HWA : Hid (W0.heap[w.heap.size]? = some (.cells #[.slice wa L.length wc] 39 (0, 0))) := Lib.hid (by rw [← hW0]; exact alloc_at (alloc_at (alloc_at (heap_alloc_new _ _))))
  have HLI : Hid (W0.heap[w.heap.size + 1]? = some (.cells #[.int .i64 lim] 3 (0, 0))) := Lib.hid (by rw [← hW0]; exact alloc_at (alloc_at (alloc_top (by simp))))
  have HRB : Hid (W0.heap[w.heap.size + 2]? = some (.cells #[.bool false] 4 (0, 0))) := Lib.hid (by rw [← hW0]; exact alloc_at (alloc_top (by simp)))
  have HNB : Hid (W0.heap[w.heap.size + 3]? = some (.cells #[.int .i64 0] 3 (0, 0))) := Lib.hid (by rw [← hW0]; exact alloc_top (by simp))
  have HEL : Hid (∀ k x, L[k]? = some x → ∃ b o, wa = some ⟨b, o, none⟩ ∧ b < w.heap.size ∧ W0.cell? ⟨b, o + k, none⟩ = some (.int .i64 x)) := Lib.hid fun k x hk => by
    obtain ⟨b, o, e1, e2⟩ := hcs k x hk
    exact ⟨b, o, e1, cell_lt e2, HF0.out.keep e2⟩
  have hbl : bl < w.heap.size := lt_of_block hr.1
  have HRR : Hid (∀ pre W, KI W0 (w.heap.size + 3) pre W → MisR bl sv L W) := Lib.hid fun pre W h => by
    have hf := HF0.out.then h.fr (F := []) (by simp)
    exact hr.frm0 hf
  have HK0 : Hid (KI W0 (w.heap.size + 3) [] W0) := Lib.hid ⟨Frm.refl _ _, HNB.out⟩
  have hit := mis_iter bl sv L (by omega)
  have HL := Lib.hid hL; have HLM := Lib.hid hlim
  have HW := Lib.hid hW0
  clear hr hcs HNB hW0 hL hlim
  refine calls_of_marks Try.func22 rfl ?_
  simp only [Try.ntmps22, List.size_toArray, List.length_cons, List.length_nil, Nat.reduceAdd, Nat.reduceSub, Array.replicate_succ, Array.replicate_zero, List.push_toArray, List.append_toArray, List.nil_append, List.cons_append]
  go_wp2
  rw [HW.out]
  clear HW
  refine wp_rangeList rfl (enters_of Try.func40 (by kernel_rfl) rfl) hit (fun _ => rfl)
    (KI W0 (w.heap.size + 3)) (fun _ _ _ => False) (fun _ _ _ h hb => h.bk hb (Nat.le_refl _)) (fun _ _ _ _ h _ => h) HRR.out HK0.out ?_ ?_ (fun _ _ _ _ _ _ _ _ h => h.elim)
  · intro l pre x rest Wr hxs hI hl hlr
    have HI := Lib.hid hI
    have HXS := Lib.hid hxs
    clear hI hlr hl hxs
    simp only [encM]
    gi_wp2
    refine ⟨KB.refl _, fun Wq hbk _ => ?_⟩
    have HI2 := Lib.hid (HI.out.bk hbk (Nat.le_refl _))
    have hLx : L[pre.length]? = some x := by rw [HXS.out]; simp
    have hk := lt_of_some hLx
    obtain ⟨b, o, rfl, hbw, ce⟩ := HEL.out _ _ hLx
    have ce := HI2.out.fr.cellAt ce (by simp; omega)
    have cw0 := cell_of (HI2.out.fr.at HWA.out (by simp)) 0
    have cl0 := cell_of (HI2.out.fr.at HLI.out (by simp)) 0
    have cn := cell_of HI2.out.nb 0
    have fn := free_of HI2.out.nb 0
    have hk1 : (pre.length : Int) < (L.length : Int) := by omega
    have hk2 : ¬ (L.length : Int) ≤ (pre.length : Int) := by omega
    have hk3 : (pre.length : Int) + 1 < lim := by
      rcases HLM.out with h | h
      · omega
      · rw [h] at hk; simp at hk
    have hk4 : ¬ lim ≤ (pre.length : Int) + 1 := by omega
    have hk5 : (pre.length : Int) < 1000 := by have := HL.out; omega
    clear hbk hLx hk hbw
    gi_wp2
    exact HI2.out.step x rfl
  · intro D W hD hI hK
    have cn := cell_of hI.nb 0
    have cw0 := cell_of (hI.fr.at HWA.out (by simp)) 0
    have cl0 := cell_of (hI.fr.at HLI.out (by simp)) 0
    have cr := hI.fr.at HRB.out (by simp)
    have cr0 := cell_of cr 0
    have fr0 := free_of cr 0
    have HXW : Hid (Frm [] w W) := Lib.hid (HF0.out.then hI.fr (by intro y hy; simp at hy; right; omega))
    have HDS : Hid (w.heap.size + 3 < D) := Lib.hid (Nat.lt_of_lt_of_le (lt_of_block HK0.out.nb) hD)
    have HK := Lib.hid hK; have HRr := Lib.hid cr
    have hmm : ((L.length : Int) == min (L.length : Int) (max 1 lim)) = true := by
      rcases HLM.out with h | h
      · rw [beq_iff_eq]; omega
      · rw [h, beq_iff_eq, List.length_nil]; omega
    clear hI hD hK cr
    go_wp2
    rw [show w.heap.size + 1 + 1 = w.heap.size + 2 by omega]
    have hKD : (W.setCell ⟨w.heap.size + 2, 0, none⟩ (.bool true)).heap[D]? = some (.deferred (some [])) := setCell_at HK.out (by have := HDS.out; simp; omega) _
    have hb := block_setCell HRr.out 0 (.bool true)
    have hf8 : Frm [] w ((W.setCell ⟨w.heap.size + 2, 0, none⟩ (.bool true)).putObj D (.deferred none)) :=
      (HXW.out.setCell _ (.inr (by simp)) _).then (Frm.putObj _ D _) (by intro y hy; simp at hy; right; have := HDS.out; omega)
    have hc : ((W.setCell ⟨w.heap.size + 2, 0, none⟩ (.bool true)).putObj D (.deferred none)).cell? ⟨w.heap.size + 2, 0, none⟩ = some (.bool true) := by
      refine (cell_of ((Frm.putObj _ D _).at hb (by have := HDS.out; simp; omega)) 0).trans rfl
    refine leaves_mark hKD ⟨.bool true, ?_, rfl, hf8⟩
    generalize (W.setCell ⟨w.heap.size + 2, 0, none⟩ (.bool true)).putObj D (.deferred none) = Wf at hc
    clear hf8 hKD hb cr0 fr0 cn cw0 cl0
    simp [results, Try.results22, go_sem, hc]
end Go.Proofs.Ytomjnbcaofebfaa
