import Derived.Test.YtdhkcjjcgpkkgaaRefD
import Derived.Test.YtdhkcjjcgpkkgaaCq
namespace Go.Proofs.Ytdhkcjjcgpkkgaa
open Go.RowKit Go.Maps Go.BigFrame

theorem num_any (e : Int) (w : World) : Calls Try.prog 11 #[.int .i64 e] w (Ret (.int .i64 e) (w = ·)) := by
  go_enter Try.func11, Try.ntmps11
  go_wp2
  go_ret
  exact ⟨rfl, rfl⟩

/-- a slice that reads as a list of ints -/
def Ints (w : World) (v : Value) (l : List Int) : Prop := w.ownsRow 0 3 1 v l.length (l.map (Value.int .i64))
theorem Ints.of_own {w : World} {base : Nat} {v : Value} {l : List Int} (h : w.ownsRow base 3 1 v l.length (l.map (Value.int .i64))) : Ints w v l := by
  obtain ⟨h1, h2⟩ := h
  exact ⟨h1, h2.imp id fun ⟨g, cap, cur, q1, q2, q3⟩ => ⟨g, cap, cur, q1, Nat.zero_le _, q3⟩⟩
theorem Ints.shape {w : World} {v : Value} {l : List Int} (h : Ints w v l) : ∃ ao cap, v = .slice ao l.length cap ∧ (∀ k x, l[k]? = some x → ∃ g, ao = some ⟨g, 0, none⟩ ∧ w.cell? ⟨g, k, none⟩ = some (.int .i64 x)) := by
  have h0 := h
  obtain ⟨h1, h2⟩ := h
  rcases h2 with ⟨hv, hn⟩ | ⟨g, cap, cur, hv, _⟩
  · exact ⟨none, 0, by rw [hv, hn], fun k x hk => by have := lt_of_some hk; omega⟩
  · refine ⟨some ⟨g, 0, none⟩, cap, hv, fun k x hk => ⟨g, rfl, ?_⟩⟩
    rw [hv] at h0
    rw [World.ownsRow.cellAt h0 k (by have := lt_of_some hk; omega)]
    simp [hk]

set_option maxHeartbeats 1000000 in
theorem same_any (v u : Value) (l : List Int) (w : World) (h1 : Ints w v l) (h2 : Ints w u l) (hl : l.length ≤ 1000) :
    Calls Try.prog 15 #[v, u] w (Ret (.bool true) (Frm [] w)) := by
  obtain ⟨a1, c1, rfl, q1⟩ := h1.shape
  obtain ⟨a2, c2, rfl, q2⟩ := h2.shape
  clear h1 h2
  have Q1 := Lib.hid q1; have Q2 := Lib.hid q2
  clear q1 q2
  have he : ((l.length : Int) != (l.length : Int)) = false := by simp
  go_enter Try.func15, Try.ntmps15
  go_wp2
  go_loopw [5] (fun i wr => ∃ k : Nat, k ≤ l.length ∧ i = .int .i64 k ∧ Frm [] w wr) (fun i _ => l.length - (intOf i).toNat)
  case atStart => exact ⟨0, by omega, rfl, Frm.refl _ _⟩
  case round =>
    obtain ⟨k, hk, rfl, hf⟩ := hrel
    by_cases hlt : k < l.length
    · obtain ⟨x, hx⟩ : ∃ x, l[k]? = some x := ⟨_, List.getElem?_eq_getElem hlt⟩
      obtain ⟨g1, rfl, d1⟩ := Q1.out k x hx
      obtain ⟨g2, rfl, d2⟩ := Q2.out k x hx
      have e1 := hf.keep d1
      have e2 := hf.keep d2
      have HF := Lib.hid hf
      have hlt' : (k : Int) < (l.length : Int) := by omega
      have hk0 : (0 : Int) ≤ (k : Int) := by omega
      have hxx : (x != x) = false := by simp
      clear d1 d2 hx hf
      go_wp2_with fail
      go_quiet (fail)
      go_wp2
      go_roundw
      case rel => exact ⟨k + 1, by omega, by go_num, HF.out.drewN _⟩
      case measure => simp [intOf]; omega
    · have HF := Lib.hid hf
      clear hf
      go_wp2
      go_ret
      exact ⟨rfl, HF.out⟩

theorem agrees_end {w W w1 w2 w4 w5 : World} {cb : Nat} {now : Int} {D : DMap} {N : Nat} {F F2 : List Nat} (k1 : Clk w2 cb now D N F2) (k2 : Frm F w1 w2) (k3 : ∀ x ∈ F2, x ∈ F ∨ w1.heap.size ≤ x)
    (h1 : Frm [] w W) (h2 : Frm [] W w1) (h4 : Frm [] w2 w4) (h5 : Frm [] w4 w5) : ClkTo w cb now D N F w5 := by
  have hs := h1.size
  have hs2 := h2.size
  refine ⟨F2, (k1.frm h4 (by simp)).frm h5 (by simp), ((((h1.trans h2).mono (by simp)).trans k2).then h4 (by simp)).then h5 (by simp), fun x hx => ?_⟩
  rcases k3 x hx with h | h
  · exact .inl h
  · right; omega

set_option maxHeartbeats 4000000 in
set_option maxRecDepth 100000 in
theorem agrees_any (cb : Nat) (now : Int) (D : DMap) (N : Nat) (F : List Nat) (t : Int) (w : World) (h : Clk w cb now D N F) (hN : N ≤ 1000000) :
    Calls Try.prog 16 #[.pointer (some ⟨cb, 0, none⟩), .agg (refA now D), .int .i64 t] w (Ret (.bool true) (ClkTo w cb now D N F)) := by
  have HG := Lib.hid h.good
  obtain ⟨W, hW⟩ : ∃ W, w.alloc (.cells (refA now D) 30) = W := ⟨_, rfl⟩
  have HB : Hid (Frm [] w W ∧ W.heap[w.heap.size]? = some (.cells (refA now D) 30 (0, 0))) := by rw [← hW]; exact ⟨(Frm.refl _ _).alloc _, heap_alloc_new _ _⟩
  have HW := Lib.hid hW
  have HC := Lib.hid (h.frm HB.out.1 (by simp))
  have HLT := Lib.hid h.lt
  clear hW h
  cases hfo : firstOf D with
  | none =>
    have hx : firstX D = (0, 0) := by simp [firstX, hfo]
    have HX := Lib.hid hx
    have HO := Lib.hid hfo
    clear hx hfo
    go_enter Try.func16, Try.ntmps16
    go_wp2_with (first
      | (refine wpList_box_row rfl 30 _ rfl (refA now D) rfl ?_; rw [HW.out])
      | (refine wpList_load_whole rfl 30 _ rfl _ rfl _ 30 HB.out.2 _ Try.underlying30 rfl (refA_info _ _) ?_)
      | (refine wpList_load_whole rfl 30 _ rfl _ rfl _ 30 HB2.out _ Try.underlying30 rfl (refA_info _ _) ?_)
      | (go_at_call 11; go_in)
      | (go_at_call 32; go_must (refine (refFirst_any _ _ _ HG.out).mono ?_; rintro e w1 ⟨rfl, hf1⟩; rw [HO.out, show numI none = (-1 : Int) from rfl]; have HF1 := Lib.hid hf1; clear hf1))
      | (go_at_call 21; go_must (refine (next_any cb now D N F _ (HC.out.frm HF1.out (by simp)) hN).mono ?_; rintro e w2 ⟨rfl, hto⟩; rw [HO.out, HX.out]; obtain ⟨F2, k1, k2, k3⟩ := hto; have K1 := Lib.hid k1; have K2 := Lib.hid k2; have K3 := Lib.hid k3; have HB2 := Lib.hid (k2.at (HF1.out.at HB.out.2 (by simp)) (fun hx => by have := HLT.out _ hx; omega)); clear k1 k2 k3))
      | (go_at_call 20; go_must (refine (left_any cb now D N F2 t _ K1.out).mono ?_; rintro e w3 ⟨rfl, rfl⟩))
      | (go_at_call 33; go_must (refine (refLeft_any now D t _ HG.out).mono ?_; rintro e w4 ⟨rfl, hf4⟩; have HF4 := Lib.hid hf4; clear hf4)))
    have HB3 := Lib.hid (HF4.out.at HB2.out (by simp))
    have K4 := Lib.hid (K1.out.frm HF4.out (by simp))
    generalize leftV now D t = lv
    generalize leftE D t = le
    have C0 : Hid (w4.cell? ⟨w.heap.size, 0, none⟩ = some (.int .i64 now)) := (cell_of HB3.out 0).trans (refA_zero now D)
    refine wp_region_cq (by kernel_rfl) (by kernel_rfl) ?_
    repeat (first
      | (refine wpQuiet_skip (by rfl) ?_)
      | (refine wpQuiet_want (by rfl) (fun K hK => ?_)
         first
          | (refine quiet_move _ (by rfl) (hK _ ?_))
          | (refine quiet_assign _ (by rfl) (hK _ ?_))
          | (refine cq_row 30 _ (by rfl) _ (by rfl) _ 30 HB3.out _ Try.underlying30 rfl (refA_info _ _) (hK _ ?_))
          | (refine cq_call (.int .i64 now) 22 #[.pointer (some ⟨cb, 0, none⟩)] (fun w' hC => ?_) (fun w' hC => Ret.cq (now_any cb now D N F2 _ (K4.out.frm hC (by simp))) (fun w'' h => h ▸ hC)) (hK _ ?_)
             · go_simp)
          | (refine cq_call (.int .i64 (cnt D)) 23 #[.pointer (some ⟨cb, 0, none⟩)] (fun w' hC => ?_) (fun w' hC => Ret.cq (len_any cb now D N F2 _ (K4.out.frm hC (by simp))) (fun w'' h => h ▸ hC)) (hK _ ?_)
             · go_simp)
          | (refine cq_call (.int .i64 (cnt D)) 19 #[.agg (refA now D)] (fun w' hC => ?_) (fun w' hC => Ret.cq (refLen_any now D _ HG.out) (fun w'' h => hC.trans h)) (hK _ ?_)
             · go_simp)
          | (refine cq_call (.int .i64 le) 11 #[.int .i64 le] (fun w' hC => ?_) (fun w' hC => Ret.cq (num_any le _) (fun w'' h => h ▸ hC)) (hK _ ?_)
             · go_simp)
          | (apply Exists.intro
             refine ⟨fun w' hC => ?_, hK _ ?_⟩
             · (unfold Oper.quietAt
                have e0 := hC.keep C0.out
                clear hC
                go_simp
                try exact ⟨rfl, rfl⟩
                try rfl))
         clear hK K
         try simp only [Act.put, List.setIfInBounds_toArray, List.set_cons_zero, List.set_cons_succ, Act.eval, Array.getD_eq_getD_getElem?, List.getElem?_toArray, List.getElem?_cons_zero, List.getElem?_cons_succ, Option.getD_some]))
    refine wpQuiet_nil ?_
    intro w5 hf5
    have HEND := Lib.hid (agrees_end K1.out K2.out K3.out HB.out.1 HF1.out HF4.out hf5)
    clear hf5
    go_wp2
    go_ret
    exact ⟨by simp, HEND.out⟩
  | some x =>
    have hx : firstX D = x := by simp [firstX, hfo]
    have HX := Lib.hid hx
    have HO := Lib.hid hfo
    obtain ⟨⟨t1, ht1, hxt, hdt⟩, _⟩ := scan_some hfo
    have HXT : Hid (numI (some x) = (t1 : Int)) := hxt
    have HXT2 : Hid (x.2 = (t1 : Int)) := hxt
    have HDV : Hid (dueV D t1 = x.1) := by show _ = _; simp [dueV, hdt]
    have hxb := HG.out.2.2 _ _ hdt
    have ht0 : (0 : Int) ≤ (t1 : Int) := by omega
    have ht2 : (t1 : Int) < 256 := by omega
    have htl : decide ((t1 : Int) < 0) = false := by simp
    have htt : ((t1 : Int) != (t1 : Int)) = false := by simp
    have hx11 : (x.1 != x.1) = false := by simp
    clear hxt hdt hxb
    clear hx hfo
    go_enter Try.func16, Try.ntmps16
    go_wp2_with (first
      | (refine wpList_box_row rfl 30 _ rfl (refA now D) rfl ?_; rw [HW.out])
      | (refine wpList_load_whole rfl 30 _ rfl _ rfl _ 30 HB.out.2 _ Try.underlying30 rfl (refA_info _ _) ?_)
      | (refine wpList_load_whole rfl 30 _ rfl _ rfl _ 30 HB2.out _ Try.underlying30 rfl (refA_info _ _) ?_)
      | (go_at_call 11; go_in)
      | (go_at_call 32; go_must (refine (refFirst_any _ _ _ HG.out).mono ?_; rintro e w1 ⟨rfl, hf1⟩; rw [HO.out, HXT.out]; have HF1 := Lib.hid hf1; clear hf1))
      | (go_at_call 21; go_must (refine (next_any cb now D N F _ (HC.out.frm HF1.out (by simp)) hN).mono ?_; rintro e w2 ⟨rfl, hto⟩; rw [HO.out, HX.out, HXT2.out]; obtain ⟨F2, k1, k2, k3⟩ := hto; have K1 := Lib.hid k1; have K2 := Lib.hid k2; have K3 := Lib.hid k3; have HB2 := Lib.hid (k2.at (HF1.out.at HB.out.2 (by simp)) (fun hx => by have := HLT.out _ hx; omega)); clear k1 k2 k3; have ct := (cell_of HB2.out (1 + t1)).trans (refA_at now D t1 ht1); rw [HDV.out] at ct))
      | (go_at_call 20; go_must (refine (left_any cb now D N F2 t _ K1.out).mono ?_; rintro e w3 ⟨rfl, rfl⟩))
      | (go_at_call 33; go_must (refine (refLeft_any now D t _ HG.out).mono ?_; rintro e w4 ⟨rfl, hf4⟩; have HF4 := Lib.hid hf4; clear hf4)))
    have HB3 := Lib.hid (HF4.out.at HB2.out (by simp))
    have K4 := Lib.hid (K1.out.frm HF4.out (by simp))
    generalize leftV now D t = lv
    generalize leftE D t = le
    have C0 : Hid (w4.cell? ⟨w.heap.size, 0, none⟩ = some (.int .i64 now)) := (cell_of HB3.out 0).trans (refA_zero now D)
    clear ct
    refine wp_region_cq (by kernel_rfl) (by kernel_rfl) ?_
    repeat (first
      | (refine wpQuiet_skip (by rfl) ?_)
      | (refine wpQuiet_want (by rfl) (fun K hK => ?_)
         first
          | (refine quiet_move _ (by rfl) (hK _ ?_))
          | (refine quiet_assign _ (by rfl) (hK _ ?_))
          | (refine cq_row 30 _ (by rfl) _ (by rfl) _ 30 HB3.out _ Try.underlying30 rfl (refA_info _ _) (hK _ ?_))
          | (refine cq_call (.int .i64 now) 22 #[.pointer (some ⟨cb, 0, none⟩)] (fun w' hC => ?_) (fun w' hC => Ret.cq (now_any cb now D N F2 _ (K4.out.frm hC (by simp))) (fun w'' h => h ▸ hC)) (hK _ ?_)
             · go_simp)
          | (refine cq_call (.int .i64 (cnt D)) 23 #[.pointer (some ⟨cb, 0, none⟩)] (fun w' hC => ?_) (fun w' hC => Ret.cq (len_any cb now D N F2 _ (K4.out.frm hC (by simp))) (fun w'' h => h ▸ hC)) (hK _ ?_)
             · go_simp)
          | (refine cq_call (.int .i64 (cnt D)) 19 #[.agg (refA now D)] (fun w' hC => ?_) (fun w' hC => Ret.cq (refLen_any now D _ HG.out) (fun w'' h => hC.trans h)) (hK _ ?_)
             · go_simp)
          | (refine cq_call (.int .i64 le) 11 #[.int .i64 le] (fun w' hC => ?_) (fun w' hC => Ret.cq (num_any le _) (fun w'' h => h ▸ hC)) (hK _ ?_)
             · go_simp)
          | (apply Exists.intro
             refine ⟨fun w' hC => ?_, hK _ ?_⟩
             · (unfold Oper.quietAt
                have e0 := hC.keep C0.out
                clear hC
                go_simp
                try exact ⟨rfl, rfl⟩
                try rfl))
         clear hK K
         try simp only [Act.put, List.setIfInBounds_toArray, List.set_cons_zero, List.set_cons_succ, Act.eval, Array.getD_eq_getD_getElem?, List.getElem?_toArray, List.getElem?_cons_zero, List.getElem?_cons_succ, Option.getD_some]))
    refine wpQuiet_nil ?_
    intro w5 hf5
    have HEND := Lib.hid (agrees_end K1.out K2.out K3.out HB.out.1 HF1.out HF4.out hf5)
    clear hf5
    go_wp2
    go_ret
    exact ⟨by simp, HEND.out⟩
end Go.Proofs.Ytdhkcjjcgpkkgaa
