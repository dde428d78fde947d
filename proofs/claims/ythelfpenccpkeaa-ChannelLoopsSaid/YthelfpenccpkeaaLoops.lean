/- ChannelLoops: the walk. -/
import Derived.Test.YthelfpenccpkeaaLTurn
namespace Go.Proofs.Ythelfpenccpkeaa
open Go.RowKit Go.BigFrame

attribute [local go_sem] Oper.semAt_some
/-- behind the calls: the channel goes on, the iterator and the reference stay -/
structure LS (W0 : World) (cb : Nat) (cls cap : Int) (lv : Value) (L LC : List ByteArray) (F : List Nat) (rb bl bc : Nat) (sv : Value) (W : World) : Prop where
  os : OS W0 cb cls cap lv LC L F W
  rk : W.heap[rb]? = some (.cells #[.int .i64 cls, .int .i64 cap, lv] 48 (0, 0))
  ch : ChR bl bc cb cls sv L W
  fl : bl ∉ F
  fc : bc ∉ F
  fs : ∀ k, sv.ownBlock = some k → k ∉ F
theorem LS.frm {W0 W W' : World} {cb rb bl bc : Nat} {cls cap : Int} {lv sv : Value} {L LC : List ByteArray} {F : List Nat} (h : LS W0 cb cls cap lv L LC F rb bl bc sv W) (hf : Frm [] W W') : LS W0 cb cls cap lv L LC F rb bl bc sv W' :=
  ⟨h.os.frm hf, hf.at h.rk (by simp), h.ch.frm hf, h.fl, h.fc, h.fs⟩
theorem LS.mk0 {W0 W W' : World} {cb rb bl bc : Nat} {cls cap : Int} {lv sv : Value} {L : List ByteArray} {F : List Nat} (h : OS W0 cb cls cap lv L L F W) (hr : W.heap[rb]? = some (.cells #[.int .i64 cls, .int .i64 cap, lv] 48 (0, 0)))
    (hc : ChR bl bc cb cls sv L W') (hf : Frm [] W W') (h1 : W.heap.size ≤ bl) (h2 : W.heap.size ≤ bc) (h3 : ∀ k, sv.ownBlock = some k → W.heap.size ≤ k) : LS W0 cb cls cap lv L L F rb bl bc sv W' :=
  ⟨h.frm hf, hf.at hr (by simp), hc, fun hx => by have := h.c.lt _ hx; omega, fun hx => by have := h.c.lt _ hx; omega, fun k hk hx => by have := h.c.lt _ hx; have := h3 k hk; omega⟩
theorem LS.step {W0 W W' : World} {cb rb bl bc : Nat} {cls cap : Int} {lv sv : Value} {L LC L' : List ByteArray} {F : List Nat} (h : LS W0 cb cls cap lv L LC F rb bl bc sv W) (t : ChnTo W cb cls cap L' F W') : ∃ F', LS W0 cb cls cap lv L L' F' rb bl bc sv W' := by
  have h48 := (h.os.mark48 h.rk).1
  have hl1 := lt_of_block h.ch.1
  have hl2 := lt_of_block h.ch.2.2.1
  have hl3 := fun k hk => ownBlock_lt h.ch.2.1 (k := k) hk
  obtain ⟨F0, hos⟩ := h.os.chn t
  obtain ⟨F', k1, k2, k3⟩ := t
  refine ⟨F', ⟨?_, k2.at h.rk h48, ⟨k2.at h.ch.1 h.fl, h.ch.2.1.frm k2 h.fs, k2.at h.ch.2.2.1 h.fc, k1.cell0⟩, fun hx => ?_, fun hx => ?_, fun k hk hx => ?_⟩⟩
  · refine ⟨k1, hos.l, fun k hk => ⟨fun hx => ?_, (h.os.s k hk).2⟩, fun x hx => ?_, hos.o⟩
    · rcases k3 k hx with h1 | h1
      · exact (h.os.s k hk).1 h1
      · have := h.os.l.lt hk; omega
    · rcases k3 x hx with h1 | h1
      · exact h.os.f x h1
      · have := h.os.o.size; omega
  · rcases k3 _ hx with h1 | h1
    · exact h.fl h1
    · omega
  · rcases k3 _ hx with h1 | h1
    · exact h.fc h1
    · omega
  · rcases k3 _ hx with h1 | h1
    · exact h.fs k hk h1
    · have := hl3 k hk; omega
theorem TF.mk0 {w W0 w6 : World} {cb rb bl bc : Nat} {cls cap many : Int} {ao aw : Option Addr} {cp cw : Nat} {sv : Value} {L LC : List ByteArray} {C : List Nat} {F : List Nat} (h0 : Frm [] w W0) (hm : W0.heap[w.heap.size]? = some (.cells #[.int .i64 many] 3 (0, 0))) (hr : W0.heap[w.heap.size + 1]? = some (.cells #[.bool false] 4 (0, 0)))
    (h : LS W0 cb cls cap (.slice ao L.length cp) L LC F rb bl bc sv w6) (hi : Ints w6 (.slice aw C.length cw) C) (hC : chp cls L L.length = C) :
    TF w { rb := rb, wb := w6.heap.size, bl := bl, bc := bc, cb := cb, cls := cls, cap := cap, sv := sv, L := L, C := C, ao := ao, cp := cp, aw := aw, cw := cw } many (w6.heap.size + 1) 0 ((w6.alloc (.cells #[.slice aw C.length cw] 53)).alloc (.cells #[.int .i64 0] 3)) := by
  have hf : Frm [] w6 ((w6.alloc (.cells #[.slice aw C.length cw] 53)).alloc (.cells #[.int .i64 0] 3)) := ((Frm.refl [] w6).alloc _).alloc _
  exact ⟨h0.trans (h.os.o.trans hf), hf.at h.rk (by simp), alloc_at (alloc_top rfl), h.ch.frm hf, h.os.l.frm hf (by simp), hf.owns hi (by simp), hC, (h.os.o.trans hf).at hm (by simp), (h.os.o.trans hf).at hr (by simp), alloc_top (by simp)⟩
set_option maxHeartbeats 4000000 in
set_option maxRecDepth 100000 in
theorem loops_bad (cls cap : Int) (ao : Option Addr) (n cp : Nat) (many : Int) (w : World) (h : Acts w ao n) (hc : okC cls cap = false) :
    Calls Try.prog 6 #[.int .i64 cls, .int .i64 cap, .slice ao n cp, .int .i64 many] w (Ret (.bool true) (Frm [] w)) := by
  obtain ⟨W0, hW0⟩ : ∃ W0, (w.alloc (.cells #[.int .i64 many] 3)).alloc (.cells #[.bool false] 4) = W0 := ⟨_, rfl⟩
  have hf0 : Frm [] w W0 := by rw [← hW0]; exact ((Frm.refl [] w).alloc _).alloc _
  have HF0 := Lib.hid hf0
  have HRX : Hid (∀ W, Frm [] W0 W → W.heap[w.heap.size + 1]? = some (.cells #[.bool false] 4 (0, 0))) := Lib.hid fun W hf => by rw [← hW0] at hf; exact res_box hf
  have CF : Hid (Calls Try.prog 16 #[.slice ao n cp] ((w.alloc (.cells #[.int .i64 many] 3)).alloc (.cells #[.bool false] 4)) (RetV (FewTo n W0))) := Lib.hid (by rw [hW0]; exact few_any ao n cp W0 (h.frm hf0))
  have CN := Lib.hid (fun w => new_bad cls cap w hc)
  have CR := Lib.hid (fun w => refNew_bad cls cap w hc)
  clear hf0
  clear h hc
  refine calls_of_marks Try.func6 rfl ?_
  simp only [Try.ntmps6, List.size_toArray, List.length_cons, List.length_nil, Nat.reduceAdd, Nat.reduceSub, Array.replicate_succ, Array.replicate_zero, List.push_toArray, List.append_toArray, List.nil_append, List.cons_append]
  clear hW0
  go_wp2_with (first
      | (go_at_call 16; go_must (refine CF.out.mono ?_; rintro e w1 ⟨v, rfl, b, rfl, hb, hf⟩; have HB := Lib.hid hb; have HF := Lib.hid hf; clear hb hf))
      | (go_at_call 8; go_must (refine (known_any _).mono ?_; rintro e w9 ⟨rfl, hf⟩; have hz : Frm [] W0 w9 := (by first | exact HF.out.trans hf | exact ((HF.out.trans HR.out).alloc _).trans hf); have HZ := Lib.hid hz; have d4 := cell_of (HRX.out _ hz) 0; have e4 := free_of (HRX.out _ hz) 0; clear hf hz))
      | (go_at_call 9; go_must (refine (CN.out _).mono ?_; rintro e w' ⟨rfl, rfl⟩))
      | (go_at_call 20; go_must (refine (CR.out _).mono ?_; rintro e w3 ⟨rfl, hf⟩; have HR := Lib.hid hf; clear hf))
      | (go_at_call 10; go_must (refine (num_any _ _).mono ?_; rintro e w' ⟨rfl, rfl⟩)))
  all_goals
    have hc := cell_of (block_setCell (HRX.out _ HZ.out) 0 (.bool true)) 0
    have hf8 : Frm [] w (w9.setCell ⟨w.heap.size + 1, 0, none⟩ (.bool true)) := (HF0.out.trans HZ.out).setCell _ (.inr (by simp)) _
    generalize w9.setCell ⟨w.heap.size + 1, 0, none⟩ (.bool true) = Wf at hc hf8 ⊢
    refine leaves_none ⟨.bool true, ?_, rfl, hf8⟩
    clear hf8 d4 e4
    simp [results, Try.results6, go_sem, hc]
set_option maxHeartbeats 8000000 in
set_option maxRecDepth 100000 in
theorem loops_any (cls cap : Int) (ao : Option Addr) (n cp : Nat) (many : Int) (w : World) (h : Acts w ao n) :
    Calls Try.prog 6 #[.int .i64 cls, .int .i64 cap, .slice ao n cp, .int .i64 many] w (Ret (.bool true) (Frm [] w)) := by
  cases hc : okC cls cap with
  | false => exact loops_bad cls cap ao n cp many w h hc
  | true =>
    obtain ⟨W0, hW0⟩ : ∃ W0, (w.alloc (.cells #[.int .i64 many] 3)).alloc (.cells #[.bool false] 4) = W0 := ⟨_, rfl⟩
    have hf0 : Frm [] w W0 := by rw [← hW0]; exact ((Frm.refl [] w).alloc _).alloc _
    have HF0 := Lib.hid hf0
    have HRX : Hid (∀ W, Frm [] W0 W → W.heap[w.heap.size + 1]? = some (.cells #[.bool false] 4 (0, 0))) := Lib.hid fun W hf => by rw [← hW0] at hf; exact res_box hf
    have HM0 : Hid (W0.heap[w.heap.size]? = some (.cells #[.int .i64 many] 3 (0, 0))) := Lib.hid (by rw [← hW0]; exact many_box (Frm.refl _ _))
    have HA := Lib.hid (h.frm hf0)
    have CF := Lib.hid (few_any ao n cp W0 (h.frm hf0))
    have CN := Lib.hid (fun w => new_ok cls cap w hc)
    have CR := Lib.hid (fun w => refNew_ok cls cap w hc)
    have HWS : Hid (W0.heap.size = w.heap.size + 1 + 1) := Lib.hid (by rw [← hW0]; simp)
    have HW := Lib.hid hW0
    clear h hc hf0 hW0
    refine calls_of_marks Try.func6 rfl ?_
    simp only [Try.ntmps6, List.size_toArray, List.length_cons, List.length_nil, Nat.reduceAdd, Nat.reduceSub, Array.replicate_succ, Array.replicate_zero, List.push_toArray, List.append_toArray, List.nil_append, List.cons_append]
    go_upto_region 1 with fail
    rw [HW.out]
    clear HW
    go_wp2_with (first
      | (go_at_call 16; go_must (refine CF.out.mono ?_; rintro e w1 ⟨v, rfl, b, rfl, hb, hf⟩; have HB := Lib.hid hb; have HF := Lib.hid hf; clear hb hf))
      | (go_at_call 8; go_must (refine (known_any _).mono ?_; rintro e w9 ⟨rfl, hf⟩; have hz : Frm [] W0 w9 := HF.out.trans hf; have HZ := Lib.hid hz; have d4 := cell_of (HRX.out _ hz) 0; have e4 := free_of (HRX.out _ hz) 0; clear hf hz))
      | (go_at_call 9; go_must (refine (CN.out _).mono ?_; rintro e w2 ⟨rfl, hr⟩; have HN := Lib.hid hr; clear hr))
      | (go_at_call 20; go_must (refine (CR.out _).mono ?_; rintro e w3 ⟨rfl, hf⟩; have HR := Lib.hid hf; clear hf))
      | (go_at_call 10; go_must (refine (num_any _ _).mono ?_; rintro e w' ⟨rfl, rfl⟩)))
    · have hc := cell_of (block_setCell (HRX.out _ HZ.out) 0 (.bool true)) 0
      have hf8 : Frm [] w (w9.setCell ⟨w.heap.size + 1, 0, none⟩ (.bool true)) := (HF0.out.trans HZ.out).setCell _ (.inr (by simp)) _
      generalize w9.setCell ⟨w.heap.size + 1, 0, none⟩ (.bool true) = Wf at hc hf8 ⊢
      refine leaves_none ⟨.bool true, ?_, rfl, hf8⟩
      clear hf8 d4 e4
      simp [results, Try.results6, go_sem, hc]
    · have HP : Hid (PI W0 cls cap w3.heap.size 0 (.pointer (some ⟨w1.heap.size, 0, none⟩)) (w3.alloc (.cells #[.int .i64 cls, .int .i64 cap, .slice none 0 0] 48))) := Lib.hid (PI.mk0 HF.out HN.out HR.out)
      have HW3 : Hid (W0.heap.size ≤ w3.heap.size) := Lib.hid ((HF.out.trans HN.out.1).trans HR.out).size
      have hn80 : n ≤ 80 := HB.out (by simpa using ‹(!b) = false›)
      clear CF CN CR HB HF HR HN
      go_loopw [9, 13, 14] (fun s7 s11 s12 wr => s11 = .bool true ∧ ∃ i : Nat, s12 = .int .i64 i ∧ i ≤ n ∧ PI W0 cls cap w3.heap.size i s7 wr) (fun _ _ s12 _ => n - (intOf s12).toNat)
      case atStart => exact ⟨rfl, 0, rfl, Nat.zero_le _, HP.out⟩
      case round =>
        clear HP
        obtain ⟨rfl, i, rfl, hi, cb, lv, L, F, rfl, ho, hb⟩ := hrel
        obtain ⟨ao2, cp2, rfl, -⟩ := ho.l.shape
        have HO := Lib.hid ho; have HB := Lib.hid hb
        clear hb ho
        by_cases hin : i < n
        · have hin' : (i : Int) < (n : Int) := by omega
          obtain ⟨ab, o, what, ms, pl, rfl, e0, e1, e2⟩ := HA.out i hin
          have HSK : Hid (∀ W', Frm [] wr W' → W'.cell? ⟨w3.heap.size, 0, none⟩ = some (.int .i64 cls) ∧ W'.cell? ⟨w3.heap.size, 1, none⟩ = some (.int .i64 cap) ∧ W'.cell? ⟨w3.heap.size, 2, none⟩ = some (.slice ao2 L.length cp2) ∧
              ActC ab o i what ms pl W') := Lib.hid fun W' hf => by
            have h := cell_of (hf.at HB.out (by simp))
            exact ⟨h 0, h 1, h 2, hf.keep (HO.out.o.keep e0), hf.keep (HO.out.o.keep e1), hf.keep (HO.out.o.keep e2)⟩
          have HE : Hid (∀ w5, Frm [] W0 w5 → ∀ W', Frm [w3.heap.size] w5 W' → ActC ab o i what ms pl W') := Lib.hid fun w5 h5 W' hf => by
            have hlt : ab < w3.heap.size := Nat.lt_of_lt_of_le (cell_lt e0) HW3.out
            exact ⟨hf.cellAt (h5.keep e0) (by simp; omega), hf.cellAt (h5.keep e1) (by simp; omega), hf.cellAt (h5.keep e2) (by simp; omega)⟩
          have r0 := (HSK.out wr (Frm.refl _ _)).1
          have r1 := (HSK.out wr (Frm.refl _ _)).2.1
          have r2 := (HSK.out wr (Frm.refl _ _)).2.2.1
          clear e0 e1 e2
          go_wp2
          have HS : Hid (ActC ab o i what ms pl wr.drew) := Lib.hid (HSK.out _ ((Frm.refl [] wr).drew)).2.2.2
          refine wp_fence ?_
          refine wp_region_held_drew (S := ActC ab o i what ms pl) (by kernel_rfl) HS.out (fun _ => ?_)
          refine wpAnyH_take (i := 0) (v := .pointer (some ⟨cb, 0, none⟩)) rfl (by kernel_rfl) (by kernel_rfl) (by kernel_rfl) (fun _ _ _ h => h) (Or.inl ⟨by rfl, fun w' hS => ?_⟩) HS.out ?_
          · go_simp
          try simp only [Act.put, List.setIfInBounds_toArray, List.set_cons_zero, List.set_cons_succ, List.getElem_toArray, List.getElem_cons_zero]
          refine wpAnyH_take (i := 2) (v := .slice (some ⟨ab, o, none⟩) n cp) rfl (by kernel_rfl) (by kernel_rfl) (by kernel_rfl) (fun _ _ _ h => h) (Or.inl ⟨by rfl, fun w' hS => ?_⟩) HS.out ?_
          · go_simp
          try simp only [Act.put, List.setIfInBounds_toArray, List.set_cons_zero, List.set_cons_succ, List.getElem_toArray, List.getElem_cons_zero, List.getElem_cons_succ]
          refine wpAnyH_take (i := 3) (v := .int .i64 i) rfl (by kernel_rfl) (by kernel_rfl) (by kernel_rfl) (fun _ _ _ h => h) (Or.inl ⟨by rfl, fun w' hS => ?_⟩) HS.out ?_
          · go_simp
          try simp only [Act.put, List.setIfInBounds_toArray, List.set_cons_zero, List.set_cons_succ, List.getElem_toArray, List.getElem_cons_zero, List.getElem_cons_succ]
          refine wpAnyH_take (i := 4) (v := .pointer (some ⟨ab, o + i * 3, none⟩)) rfl (by kernel_rfl) (by kernel_rfl) (by kernel_rfl) (fun _ _ _ h => h) (Or.inl ⟨by rfl, fun w' hS => ?_⟩) HS.out ?_
          · go_simp
          try simp only [Act.put, List.setIfInBounds_toArray, List.set_cons_zero, List.set_cons_succ, List.getElem_toArray, List.getElem_cons_zero, List.getElem_cons_succ]
          refine wpAnyH_take (i := 5) (v := .agg #[.int .i64 what, .string ms, .int .i64 pl]) rfl (by kernel_rfl) (by kernel_rfl) (by kernel_rfl) (fun _ _ _ h => h) (Or.inl ⟨by rfl, fun w' hS => ?_⟩) HS.out ?_
          · obtain ⟨e0, e1, e2⟩ := hS
            go_simp
          try simp only [Act.put, List.setIfInBounds_toArray, List.set_cons_zero, List.set_cons_succ, List.getElem_toArray, List.getElem_cons_zero, List.getElem_cons_succ]
          refine wpAnyH_ready (rs := [1]) (by kernel_rfl) (by simp) (AllReadyH.cons rfl (fun K hK => ?_) AllReadyH.nil)
          go_simp
          refine hK.out _ _ HS.out (fun _ => ?_)
          clear hK K
          try simp only [Act.put, List.setIfInBounds_toArray, List.set_cons_zero, List.set_cons_succ, List.getElem_toArray, List.getElem_cons_zero, List.getElem_cons_succ]
          refine wpAnyH_ready (rs := [6]) (by kernel_rfl) (by simp) (AllReadyH.cons rfl (fun K hK => ?_) AllReadyH.nil)
          go_simp
          refine (do_any W0 cb cls cap _ L F what ms pl wr.drew (HO.out.frm ((Frm.refl [] wr).drew))).mono ?_
          rintro e w5 ⟨v, rfl, cb', lv', L', F', rfl, ho', hk⟩
          obtain ⟨ao3, cp3, rfl, -⟩ := ho'.l.shape
          have HO5 := Lib.hid ho'
          have hz := hk _ _ (show wr.drew.heap[w3.heap.size]? = some (.cells #[.int .i64 cls, .int .i64 cap, .slice ao2 L.length cp2] 48 (0, 0)) from HB.out)
          have HB5 := Lib.hid hz
          have z0 := cell_of hz 0
          have z1 := cell_of hz 1
          have z2 := cell_of hz 2
          have f0 := free_of hz 0
          have f1 := free_of hz 1
          have f2 := free_of hz 2
          have HA5 : Hid (∀ W', Frm [w3.heap.size] w5 W' → ActC ab o i what ms pl W') := Lib.hid (HE.out w5 ho'.o)
          clear ho' hk hz HS
          have HS := Lib.hid (HA5.out w5 (Frm.refl _ _))
          refine hK.out _ _ HS.out (fun _ => ?_)
          clear hK K
          try simp only [Act.put, List.setIfInBounds_toArray, List.set_cons_zero, List.set_cons_succ, List.getElem_toArray, List.getElem_cons_zero, List.getElem_cons_succ]
          refine wpAnyH_take (i := 7) (v := .tuple #[.pointer (some ⟨cb', 0, none⟩), .agg #[.int .i64 cls, .int .i64 cap, .slice ao3 L'.length cp3], .bool true]) rfl (by kernel_rfl) (by kernel_rfl) (by kernel_rfl) (fun _ _ _ h => h) (Or.inl ⟨by rfl, fun w' hS => ?_⟩) HS.out ?_
          · go_simp
          try simp only [Act.put, List.setIfInBounds_toArray, List.set_cons_zero, List.set_cons_succ, List.getElem_toArray, List.getElem_cons_zero, List.getElem_cons_succ]
          refine wpAnyH_take (i := 8) (v := .pointer (some ⟨cb', 0, none⟩)) rfl (by kernel_rfl) (by kernel_rfl) (by kernel_rfl) (fun _ _ _ h => h) (Or.inl ⟨by rfl, fun w' hS => ?_⟩) HS.out ?_
          · go_simp
          try simp only [Act.put, List.setIfInBounds_toArray, List.set_cons_zero, List.set_cons_succ, List.getElem_toArray, List.getElem_cons_zero, List.getElem_cons_succ]
          refine wpAnyH_take (i := 9) (v := .agg #[.int .i64 cls, .int .i64 cap, .slice ao3 L'.length cp3]) rfl (by kernel_rfl) (by kernel_rfl) (by kernel_rfl) (fun _ _ _ h => h) (Or.inl ⟨by rfl, fun w' hS => ?_⟩) HS.out ?_
          · go_simp
          try simp only [Act.put, List.setIfInBounds_toArray, List.set_cons_zero, List.set_cons_succ, List.getElem_toArray, List.getElem_cons_zero, List.getElem_cons_succ]
          refine wpAnyH_take (i := 10) (v := .bool true) rfl (by kernel_rfl) (by kernel_rfl) (by kernel_rfl) (fun _ _ _ h => h) (Or.inl ⟨by rfl, fun w' hS => ?_⟩) HS.out ?_
          · go_simp
          try simp only [Act.put, List.setIfInBounds_toArray, List.set_cons_zero, List.set_cons_succ, List.getElem_toArray, List.getElem_cons_zero, List.getElem_cons_succ]
          refine wpAnyH_ready (rs := [11]) (by kernel_rfl) (by simp) (AllReadyH.cons rfl (fun K hK => ?_) AllReadyH.nil)
          go_simp
          refine hK.out _ _ HS.out (fun _ => ?_)
          clear hK K
          try simp only [Act.put, List.setIfInBounds_toArray, List.set_cons_zero, List.set_cons_succ, List.getElem_toArray, List.getElem_cons_zero, List.getElem_cons_succ]
          refine wpAnyH_ready (rs := [12]) (by kernel_rfl) (by simp) (AllReadyH.cons rfl (fun K hK => ?_) AllReadyH.nil)
          go_simp
          clear HS
          have HS := Lib.hid (HA5.out _ (row3_frm (.int .i64 cls) (.int .i64 cap) (.slice ao3 L'.length cp3) w3.heap.size w5))
          refine hK.out _ _ HS.out (fun _ => ?_)
          clear hK K
          try simp only [Act.put, List.setIfInBounds_toArray, List.set_cons_zero, List.set_cons_succ, List.getElem_toArray, List.getElem_cons_zero, List.getElem_cons_succ]
          refine wpAnyH_ready (rs := [13]) (by kernel_rfl) (by simp) (AllReadyH.cons rfl (fun K hK => ?_) AllReadyH.nil)
          go_simp
          refine hK.out _ _ HS.out (fun _ => ?_)
          clear hK K
          try simp only [Act.put, List.setIfInBounds_toArray, List.set_cons_zero, List.set_cons_succ, List.getElem_toArray, List.getElem_cons_zero, List.getElem_cons_succ]
          refine wpAnyH_done (by kernel_rfl) ?_ _
          go_wp2_with fail
          exact ⟨⟨rfl, i + 1, by simp, hin, cb', _, L', F', rfl, HO5.out.frmZ HB5.out HW3.out (row3_frm _ _ _ _ w5), row3_at HB5.out⟩, by simp [intOf]; omega⟩
        · have hin' : ¬ (i : Int) < (n : Int) := by omega
          have hL64 := HO.out.c.good.lenN
          obtain ⟨C, hC⟩ : ∃ C, chp cls L L.length = C := ⟨_, rfl⟩
          have HCC := Lib.hid hC
          have HCl : Hid (C.length ≤ 64) := Lib.hid (by rw [← hC]; exact Nat.le_trans (chp_length _ _ _) hL64)
          have hqf := eql_seq
          have CC : Hid (∀ W (_ : Lf W (.slice ao2 L.length cp2) L), Calls Try.prog 22 #[.agg #[.int .i64 cls, .int .i64 cap, .slice ao2 L.length cp2]] W (RetV fun v w' => Ints w' v C ∧ Frm [] W w' ∧ ∀ k, v.ownBlock = some k → W.heap.size ≤ k)) := Lib.hid fun W hl => by
            have h := refChoices_any cls cap _ L W hl hL64
            rwa [hC] at h
          clear hC
          go_wp2_with (first
            | (go_at_call 13; go_must (refine (choose_any cb cls cap L F wr HO.out.c).mono ?_; rintro e x1 ⟨v, rfl, ⟨bl, bc, sv, rfl, h1, h2, h3, h4, h5⟩⟩; have HS1 := Lib.hid (LS.mk0 HO.out HB.out h1 h2 h3 h4 h5); clear h1 h2 h3 h4 h5))
            | (go_at_call 18; go_must (refine (take_any cb cls cap L F 0 x1 HS1.out.os.c).mono ?_; rintro e x2 ⟨rfl, ht⟩; obtain ⟨F2, hs2⟩ := HS1.out.step ht; have HS2 := Lib.hid hs2; clear ht hs2))
            | (go_at_call 11; go_must (refine (put_all cb cls cap _ F2 _ x2 HS2.out.os.c).mono ?_; rintro e x3 ⟨rfl, ht⟩; obtain ⟨F3, hs3⟩ := HS2.out.step ht; have HS3 := Lib.hid hs3; clear ht hs3))
            | (refine wpList_load_whole rfl 48 _ rfl _ rfl _ 48 HS3.out.rk _ Try.underlying48 rfl Try.info48s ?_)
            | (go_at_call 22; go_must (refine (CC.out x3 HS3.out.os.l).mono ?_; rintro e w6 ⟨v, rfl, hi6, hf6, hn6⟩; obtain ⟨aw, cw, rfl⟩ := own_shape hi6; have HX := Lib.hid (TF.mk0 (many := many) HF0.out HM0.out (HRX.out W0 (Frm.refl _ _)) (HS3.out.frm hf6) hi6 HCC.out); have HSZ := Lib.hid hf6.size; clear hi6 hf6 hn6)))
          have HCL : Hid ((chlK cls L L.length).length = C.length) := Lib.hid (by have h := HX.out.len; exact h)
          have HIT := Lib.hid (chc_iter bl bc cb cls sv L HO.out.c.good.c1 HO.out.c.good.c3 (by omega))
          have HWL : Hid (w.heap.size + 1 ≤ w6.heap.size) := Lib.hid (by have h := HS3.out.os.o.size; have h1 := HWS.out; have h2 := HF0.out.size; have h3 := HSZ.out; omega)
          clear HS1 HS2 HS3 HSZ HO HB HA HF0 HRX HM0 HWS HW3 HCC CC
          obtain ⟨W, hW⟩ : ∃ W, W = (w6.alloc (.cells #[.slice aw C.length cw] 53)).alloc (.cells #[.int .i64 0] 3) := ⟨_, rfl⟩
          obtain ⟨wb, hwb⟩ : ∃ b, b = w6.heap.size := ⟨_, rfl⟩
          have HWL2 : Hid (w.heap.size + 1 < W.heap.size) := Lib.hid (by rw [hW]; simp; have := HWL.out; omega)
          rw [← hW, ← hwb] at HX ⊢
          obtain ⟨bt, hbt⟩ : ∃ b, b = wb + 1 := ⟨_, rfl⟩
          rw [← hbt] at HX ⊢
          clear hW hwb hbt HWL
          have HWL := HWL2
          refine wp_loop_rounds 3 ?_
          rw [rounds_succ]
          have c11 := cell_of HX.out.tb 0
          go_wp2
          refine wp_rangeList rfl (enters_of Try.func27 (by kernel_rfl) rfl) HIT.out (fun _ => rfl)
            (TurnI W 0 many) (TurnX (.exit 4) W 0 many) (fun _ _ _ h hb => h.bk hb (by simp)) (fun _ _ _ _ h hb => h.bk hb (by simp)) (fun _ _ h => (h.tf HX.out).rr) (TurnI.start W 0 many) ?_ ?_ ?_
          · intro l pre x rest Wr hxs hI hl hlr
            have HI := Lib.hid hI
            have HXS := Lib.hid hxs
            clear hI hlr hl hxs c11
            obtain ⟨xi, xm⟩ := x
            simp only [encC]
            gi_wp2
            refine ⟨KB.refl _, fun Wq hbk _ => ?_⟩
            have HI2 := Lib.hid (HI.out.bk hbk (by simp))
            have HT2 := Lib.hid (HI2.out.tf HX.out)
            have HA := HT2.out.round HXS.out
            obtain ⟨g, q1, ce⟩ := HA.we
            obtain ⟨gl, q2, cl⟩ := HA.le
            simp only at q1 q2
            subst q1
            subst q2
            have cw0 := HA.w
            have cr0 := HA.r
            have hk := HA.k
            have hlx := HA.l
            simp only at cw0 cr0 hk hlx ce cl
            have hC64 := HCl.out
            have hk1 : (pre.length : Int) < (C.length : Int) := by omega
            have hk2 : ¬ (C.length : Int) ≤ (pre.length : Int) := by omega
            have hl1 : (xi : Int) < (L.length : Int) := by omega
            have c11 := cell_of HT2.out.tb 0
            have c12 := cell_of HI2.out.kb 0
            have f12 := free_of HI2.out.kb 0
            obtain ⟨kb3, fr3, k3⟩ := step_frm HI2.out (xi, xm) (k := (pre.length : Int) + 1) rfl
            have HT3 := Lib.hid (HX.out.frm fr3 (by simp))
            have HKB := Lib.hid kb3; have HFR := Lib.hid fr3; have HK3 := Lib.hid k3
            have s11 := cell_of HT3.out.tb 0
            have smb := cell_of HT3.out.mb 0
            have s12 := cell_of k3 0
            have hwk : wrap64 ((pre.length : Int) + 1) = (pre.length : Int) + 1 := by unfold wrap64; omega
            simp only [stepW, List.length_append, List.length_cons, List.length_nil] at s11 smb s12
            clear hbk HA hlx kb3 fr3 k3
            rcases Int.lt_or_le ((pre.length : Int) + 1) many with hm | hm
            · gi_wp2
              exact ⟨HKB.out, HFR.out, HK3.out, fun _ => .inr (by simp; omega)⟩
            · gi_wp2
              refine ⟨HKB.out, rfl, HFR.out, HK3.out, rfl, ?_⟩
              have := HI2.out.go rfl
              simp
              rcases this with h | h
              · subst h; simp at hm ⊢; omega
              · omega
          · intro D1 Va hD hI hK
            have HX3a := Lib.hid (hI.tf HX.out)
            have hkb := hI.kb
            rw [HCL.out] at hkb
            have hgo := hI.go rfl
            have hmin2 : min (C.length : Int) (max 1 many) = (C.length : Int) := by
              rcases hgo with h | h
              · have h1 := HCL.out
                rw [h] at h1
                simp at h1
                omega
              · rw [HCL.out] at h; omega
            obtain ⟨kk, hkk⟩ : ∃ kk : Int, kk = (C.length : Int) := ⟨_, rfl⟩
            have hmin3 : min (C.length : Int) (max 1 many) = kk := by rw [hmin2, hkk]
            rw [← hkk] at hkb
            have HDa := Lib.hid (show W.heap.size + 1 ≤ D1 by simpa using hD); have HKa := Lib.hid hK; have HKBa := Lib.hid hkb
            clear hD hI hK hkb hgo hmin2 hkk c11
            have c11 := cell_of HX3a.out.tb 0
            have c12 := cell_of HKBa.out 0
            have cmb := cell_of HX3a.out.mb 0
            have cwt := cell_of HX3a.out.wt 0
            simp only at cwt
            go_wp2
            obtain ⟨Wb, hWb⟩ : ∃ Wb, Wb = Va.alloc (.cells #[.int .i64 1] 3) := ⟨_, rfl⟩
            obtain ⟨bb, hbb⟩ : ∃ b, b = Va.heap.size := ⟨_, rfl⟩
            have HXb : Hid (TF w { rb := w3.heap.size, wb := wb, bl := bl, bc := bc, cb := cb, cls := cls, cap := cap, sv := sv, L := L, C := C, ao := ao2, cp := cp2, aw := aw, cw := cw } many bb 1 Wb) := by
              have h := HX3a.out.frm ((Frm.refl [] Va).alloc (.cells #[.int .i64 1] 3)) (by simp)
              rw [hWb, hbb]
              exact ⟨h.old, h.rc, h.wt, h.rr, h.lf, h.ii, h.cc, h.mb, h.rs, alloc_top rfl⟩
            have HP : Hid (Wb.heap[D1]? = some (.deferred (some []))) := by rw [hWb]; exact Lib.hid (alloc_at HKa.out)
            have HL : Hid (w.heap.size + 2 ≤ D1) := Lib.hid (by have := HDa.out; have := HX.out.old.size; have := HWL.out; omega)
            have HLD : Hid (D1 < Wb.heap.size) := Lib.hid (lt_of_block HP.out)
            rw [← hWb, ← hbb]
            clear hWb hbb HX3a HKa HKBa HDa c11 c12 cmb cwt hmin3
            rw [rounds_succ]
            have c11 := cell_of HXb.out.tb 0
            go_wp2
            refine wp_rangeList rfl (enters_of Try.func27 (by kernel_rfl) rfl) HIT.out (fun _ => rfl)
              (TurnI Wb 1 many) (TurnX (.exit 4) Wb 1 many) (fun _ _ _ h hb => h.bk hb (by simp)) (fun _ _ _ _ h hb => h.bk hb (by simp)) (fun _ _ h => (h.tf HXb.out).rr) (TurnI.start Wb 1 many) ?_ ?_ ?_
            · intro l pre x rest Wr hxs hI hl hlr
              have HI := Lib.hid hI
              have HXS := Lib.hid hxs
              clear hI hlr hl hxs c11
              obtain ⟨xi, xm⟩ := x
              simp only [encC]
              gi_wp2
              refine ⟨KB.refl _, fun Wq hbk _ => ?_⟩
              have HI2 := Lib.hid (HI.out.bk hbk (by simp))
              have HT2 := Lib.hid (HI2.out.tf HXb.out)
              have HA := HT2.out.round HXS.out
              obtain ⟨g, q1, ce⟩ := HA.we
              obtain ⟨gl, q2, cl⟩ := HA.le
              simp only at q1 q2
              subst q1
              subst q2
              have cw0 := HA.w
              have cr0 := HA.r
              have hk := HA.k
              have hlx := HA.l
              simp only at cw0 cr0 hk hlx ce cl
              have hC64 := HCl.out
              have hk1 : (pre.length : Int) < (C.length : Int) := by omega
              have hk2 : ¬ (C.length : Int) ≤ (pre.length : Int) := by omega
              have hl1 : (xi : Int) < (L.length : Int) := by omega
              have c11 := cell_of HT2.out.tb 0
              have c12 := cell_of HI2.out.kb 0
              have f12 := free_of HI2.out.kb 0
              obtain ⟨kb3, fr3, k3⟩ := step_frm HI2.out (xi, xm) (k := (pre.length : Int) + 1) rfl
              have HT3 := Lib.hid (HXb.out.frm fr3 (by simp))
              have HKB := Lib.hid kb3; have HFR := Lib.hid fr3; have HK3 := Lib.hid k3
              have s11 := cell_of HT3.out.tb 0
              have smb := cell_of HT3.out.mb 0
              have s12 := cell_of k3 0
              have hwk : wrap64 ((pre.length : Int) + 1) = (pre.length : Int) + 1 := by unfold wrap64; omega
              simp only [stepW, List.length_append, List.length_cons, List.length_nil] at s11 smb s12
              clear hbk HA hlx kb3 fr3 k3
              gi_wp2
              exact ⟨HKB.out, HFR.out, HK3.out, fun h => by omega⟩
            · intro D2 Vb hD hI hK
              have HX3b := Lib.hid (hI.tf HXb.out)
              have hkb := hI.kb
              rw [HCL.out] at hkb
              have HDb := Lib.hid (show Wb.heap.size + 1 ≤ D2 by simpa using hD); have HKb := Lib.hid hK; have HKBb := Lib.hid hkb
              have HPb : Hid (Vb.heap[D1]? = some (.deferred (some []))) := Lib.hid (hI.fr.at HP.out (by simp; have := HLD.out; omega))
              clear hD hI hK hkb c11
              have c11 := cell_of HX3b.out.tb 0
              have c12 := cell_of HKBb.out 0
              have cmb := cell_of HX3b.out.mb 0
              have cwt := cell_of HX3b.out.wt 0
              simp only at cwt
              go_wp2
              rw [rounds_succ]
              go_wp2_with (go_at_call 8; go_must (refine (known_any _).mono ?_; rintro e w9 ⟨rfl, hf⟩; have HF9 := Lib.hid hf; have c4 := cell_of (hf.at (alloc_at HX3b.out.rs) (by simp)) 0; have f4 := free_of (hf.at (alloc_at HX3b.out.rs) (by simp)) 0; clear hf))
              exact loops_end rfl rfl HX3b.out HF9.out HPb.out HKb.out HL.out HLD.out HDb.out
            · intro D2 c pre x rest Vb hxs hD hX hK
              exact absurd hX.tz (by decide)
          · intro D1 c pre x rest Va hxs hD hX hK
            obtain rfl := hX.co
            have HX3a := Lib.hid (hX.tf HX.out)
            have hpl : pre.length + 1 ≤ C.length := by rw [← HCL.out, hxs]; simp
            have hkb := hX.kb
            have hmxx := hX.mx
            obtain ⟨kk, hkk⟩ : ∃ kk : Int, ((pre ++ [(x : Nat × ByteArray)]).length : Int) = kk := ⟨_, rfl⟩
            rw [hkk] at hkb hmxx
            have hle : kk ≤ (C.length : Int) := by rw [← hkk]; simp; omega
            have hmin3 : min (C.length : Int) (max 1 many) = kk := by rw [← hmxx]; omega
            have HDa := Lib.hid (show W.heap.size + 1 ≤ D1 by simpa using hD); have HKa := Lib.hid hK; have HKBa := Lib.hid hkb
            clear hD hX hK hkb hmxx hle hkk hpl hxs c11
            have c11 := cell_of HX3a.out.tb 0
            have c12 := cell_of HKBa.out 0
            have cmb := cell_of HX3a.out.mb 0
            have cwt := cell_of HX3a.out.wt 0
            simp only at cwt
            go_wp2
            obtain ⟨Wb, hWb⟩ : ∃ Wb, Wb = Va.alloc (.cells #[.int .i64 1] 3) := ⟨_, rfl⟩
            obtain ⟨bb, hbb⟩ : ∃ b, b = Va.heap.size := ⟨_, rfl⟩
            have HXb : Hid (TF w { rb := w3.heap.size, wb := wb, bl := bl, bc := bc, cb := cb, cls := cls, cap := cap, sv := sv, L := L, C := C, ao := ao2, cp := cp2, aw := aw, cw := cw } many bb 1 Wb) := by
              have h := HX3a.out.frm ((Frm.refl [] Va).alloc (.cells #[.int .i64 1] 3)) (by simp)
              rw [hWb, hbb]
              exact ⟨h.old, h.rc, h.wt, h.rr, h.lf, h.ii, h.cc, h.mb, h.rs, alloc_top rfl⟩
            have HP : Hid (Wb.heap[D1]? = some (.deferred (some []))) := by rw [hWb]; exact Lib.hid (alloc_at HKa.out)
            have HL : Hid (w.heap.size + 2 ≤ D1) := Lib.hid (by have := HDa.out; have := HX.out.old.size; have := HWL.out; omega)
            have HLD : Hid (D1 < Wb.heap.size) := Lib.hid (lt_of_block HP.out)
            rw [← hWb, ← hbb]
            clear hWb hbb HX3a HKa HKBa HDa c11 c12 cmb cwt hmin3
            rw [rounds_succ]
            have c11 := cell_of HXb.out.tb 0
            go_wp2
            refine wp_rangeList rfl (enters_of Try.func27 (by kernel_rfl) rfl) HIT.out (fun _ => rfl)
              (TurnI Wb 1 many) (TurnX (.exit 4) Wb 1 many) (fun _ _ _ h hb => h.bk hb (by simp)) (fun _ _ _ _ h hb => h.bk hb (by simp)) (fun _ _ h => (h.tf HXb.out).rr) (TurnI.start Wb 1 many) ?_ ?_ ?_
            · intro l pre x rest Wr hxs hI hl hlr
              have HI := Lib.hid hI
              have HXS := Lib.hid hxs
              clear hI hlr hl hxs c11
              obtain ⟨xi, xm⟩ := x
              simp only [encC]
              gi_wp2
              refine ⟨KB.refl _, fun Wq hbk _ => ?_⟩
              have HI2 := Lib.hid (HI.out.bk hbk (by simp))
              have HT2 := Lib.hid (HI2.out.tf HXb.out)
              have HA := HT2.out.round HXS.out
              obtain ⟨g, q1, ce⟩ := HA.we
              obtain ⟨gl, q2, cl⟩ := HA.le
              simp only at q1 q2
              subst q1
              subst q2
              have cw0 := HA.w
              have cr0 := HA.r
              have hk := HA.k
              have hlx := HA.l
              simp only at cw0 cr0 hk hlx ce cl
              have hC64 := HCl.out
              have hk1 : (pre.length : Int) < (C.length : Int) := by omega
              have hk2 : ¬ (C.length : Int) ≤ (pre.length : Int) := by omega
              have hl1 : (xi : Int) < (L.length : Int) := by omega
              have c11 := cell_of HT2.out.tb 0
              have c12 := cell_of HI2.out.kb 0
              have f12 := free_of HI2.out.kb 0
              obtain ⟨kb3, fr3, k3⟩ := step_frm HI2.out (xi, xm) (k := (pre.length : Int) + 1) rfl
              have HT3 := Lib.hid (HXb.out.frm fr3 (by simp))
              have HKB := Lib.hid kb3; have HFR := Lib.hid fr3; have HK3 := Lib.hid k3
              have s11 := cell_of HT3.out.tb 0
              have smb := cell_of HT3.out.mb 0
              have s12 := cell_of k3 0
              have hwk : wrap64 ((pre.length : Int) + 1) = (pre.length : Int) + 1 := by unfold wrap64; omega
              simp only [stepW, List.length_append, List.length_cons, List.length_nil] at s11 smb s12
              clear hbk HA hlx kb3 fr3 k3
              gi_wp2
              exact ⟨HKB.out, HFR.out, HK3.out, fun h => by omega⟩
            · intro D2 Vb hD hI hK
              have HX3b := Lib.hid (hI.tf HXb.out)
              have hkb := hI.kb
              rw [HCL.out] at hkb
              have HDb := Lib.hid (show Wb.heap.size + 1 ≤ D2 by simpa using hD); have HKb := Lib.hid hK; have HKBb := Lib.hid hkb
              have HPb : Hid (Vb.heap[D1]? = some (.deferred (some []))) := Lib.hid (hI.fr.at HP.out (by simp; have := HLD.out; omega))
              clear hD hI hK hkb c11
              have c11 := cell_of HX3b.out.tb 0
              have c12 := cell_of HKBb.out 0
              have cmb := cell_of HX3b.out.mb 0
              have cwt := cell_of HX3b.out.wt 0
              simp only at cwt
              go_wp2
              rw [rounds_succ]
              go_wp2_with (go_at_call 8; go_must (refine (known_any _).mono ?_; rintro e w9 ⟨rfl, hf⟩; have HF9 := Lib.hid hf; have c4 := cell_of (hf.at (alloc_at HX3b.out.rs) (by simp)) 0; have f4 := free_of (hf.at (alloc_at HX3b.out.rs) (by simp)) 0; clear hf))
              exact loops_end rfl rfl HX3b.out HF9.out HPb.out HKb.out HL.out HLD.out HDb.out
            · intro D2 c pre x rest Vb hxs hD hX hK
              exact absurd hX.tz (by decide)
end Go.Proofs.Ythelfpenccpkeaa
