/- The checksum of kind 2: check.Of. -/
import Derived.Test.YtomjnbcaofebfaaChkM
import Derived.StillTailTactics
namespace Go.Proofs.Ytomjnbcaofebfaa
open Go.RowKit Go.BigFrame

theorem Try.size109 : (Try.prog.info? 109).map (·.size) = some 6 := by kernel_rfl
set_option maxHeartbeats 2000000 in
set_option maxRecDepth 100000 in
theorem of2_any (w : World) : Calls Try.prog 62 #[.int .i64 2] w (Ret (.tuple #[.agg M2, .bool true]) (Frm [] w)) := by
  have hix : ∀ W : World, (Instr.index 128 (.agg MV) (.int .i64 1)).run Try.prog W = .ok (.agg M2) W := fun _ => by kernel_rfl
  unfold MV M2 fv at hix
  unfold M2 fv
  have hw : IntKind.i64.wrap ((2 : Int) - 1) = 1 := by decide
  have HZ : Hid ((w.alloc (.cells #[.int .i64 0, .int .i64 0, .int .i64 0, .int .i64 0, .nilFunc, .nilFunc] 109)).heap[w.heap.size]? = some (.cells #[.int .i64 0, .int .i64 0, .int .i64 0, .int .i64 0, .nilFunc, .nilFunc] 109 (0, 0))) := Lib.hid (heap_alloc_new _ _)
  obtain ⟨W1, hW1⟩ : ∃ W1, w.alloc (.cells #[.int .i64 0, .int .i64 0, .int .i64 0, .int .i64 0, .nilFunc, .nilFunc] 109) = W1 := ⟨_, rfl⟩
  have HW1 := Lib.hid hW1
  have HF0 : Hid (Frm [] w W1) := Lib.hid (by rw [← hW1]; exact (Frm.refl _ _).alloc _)
  rw [hW1] at HZ
  have FX := Lib.hid (Frm.refl [] W1)
  clear hW1
  go_enter Try.func62, Try.ntmps62
  go_upto_region 1 with fail
  rw [HW1.out]
  go_wp2_with (first
    | (go_at_call 75; go_must (refine (methods_any _).mono ?_; rintro e w2 ⟨rfl, hf⟩; unfold MV fv; have FX := Lib.hid (FX.out.trans hf); clear hf))
    | (refine wpList_store_row rfl 109 (.tmp 2) (.tmp 16) rfl w.heap.size #[.int .i64 16, .int .i64 65535, .int .i64 0, .int .i64 0, .func (.func 84) #[] #[], .func (.func 85) #[] #[]] #[.int .i64 0, .int .i64 0, .int .i64 0, .int .i64 0, .nilFunc, .nilFunc] 109 ?_ ?_ ?_ rfl Try.size109 ?_ ?_; go_must ((focus (go_simp; done)); (focus (go_simp; done)); (exact FX.out.at HZ.out (by simp)); (focus (simp [Value.oneCell']; done)); intro w5 hm5 hf5; have HM5 := Lib.hid hm5; have HF5 := Lib.hid hf5; clear hm5 hf5)))
  exact bodyPost_ret (results_c109 rfl rfl rfl HM5.out rfl) rfl ⟨rfl, (HF0.out.trans FX.out).then HF5.out (by simp)⟩
theorem snone_any (g : Nat) (w : World) (v0 v1 v2 : Value) (h : w.heap[g]? = some (.cells #[v0, v1, v2, .int .i64 2] 113 (0, 0))) : Calls Try.prog 63 #[.pointer (some ⟨g, 0, none⟩)] w (Ret (.bool false) (w = ·)) := by
  have c3 := cell_of h 3
  clear h
  go_enter Try.func63, Try.ntmps63
  go_wp2
  go_ret
  exact ⟨rfl, rfl⟩
/-- what check.New hands back -/
def SumTo (w : World) (v : Value) (w' : World) : Prop := ∃ g, v = .tuple #[.pointer (some ⟨g, 0, none⟩), .int .i64 0] ∧ w'.heap[g]? = some (.cells #[.int .i64 65535, .int .i64 0, .int .i64 0, .int .i64 2] 113 (0, 0)) ∧ Frm [] w w' ∧ w.heap.size ≤ g
set_option maxHeartbeats 2000000 in
set_option maxRecDepth 100000 in
theorem sumNew_any (w : World) : Calls Try.prog 55 #[.int .i64 2] w (RetV (SumTo w)) := by
  go_enter Try.func55, Try.ntmps55
  go_wp2_with (go_at_call 62; go_must (refine (of2_any _).mono ?_; rintro e w2 ⟨rfl, hf⟩; unfold M2 fv; have HF := Lib.hid hf; clear hf))
  go_ret2
  exact ⟨_, rfl, w2.heap.size + 1, rfl, alloc_top (by simp), ((HF.out.alloc _).alloc _), by have := HF.out.size; omega⟩
def crcStep (r : Nat) : Nat := if 65536 ≤ 2 * r then (2 * r % 65536) ^^^ 4129 else 2 * r
def crcRun : Nat → Nat → Nat
  | 0, r => r
  | j + 1, r => crcStep (crcRun j r)
def crcByte (r : Nat) (x : UInt8) : Nat := crcRun 8 (r ^^^ (x.toNat * 256))
def crcL (l : List UInt8) : Nat := l.foldl crcByte 65535
theorem xor_lt {a b : Nat} (ha : a < 65536) (hb : b < 65536) : a ^^^ b < 65536 := by
  have h := Nat.xor_lt_two_pow (x := a) (y := b) (n := 16) (by simpa using ha) (by simpa using hb)
  simpa using h
theorem crcStep_lt {r : Nat} (h : r < 65536) : crcStep r < 65536 := by
  unfold crcStep
  split
  · exact xor_lt (Nat.mod_lt _ (by omega)) (by omega)
  · omega
theorem crcRun_lt {r : Nat} (h : r < 65536) (j : Nat) : crcRun j r < 65536 := by
  induction j with
  | zero => unfold crcRun; exact h
  | succ j ih => unfold crcRun; exact crcStep_lt ih
theorem crcByte_lt {r : Nat} (h : r < 65536) (x : UInt8) : crcByte r x < 65536 := by
  unfold crcByte
  refine crcRun_lt (xor_lt h ?_) 8
  have := x.toNat_lt
  omega
theorem crcL_lt (l : List UInt8) : crcL l < 65536 := by
  have key : ∀ (l : List UInt8) (r : Nat), r < 65536 → l.foldl crcByte r < 65536 := by
    intro l
    induction l with
    | nil => intro r h; exact h
    | cons x l ih => intro r h; rw [List.foldl_cons]; exact ih _ (crcByte_lt h x)
  unfold crcL
  exact key l 65535 (by omega)
theorem crcL_snoc (l : List UInt8) (x : UInt8) : crcL (l ++ [x]) = crcByte (crcL l) x := by unfold crcL; rw [List.foldl_append, List.foldl_cons, List.foldl_nil]
theorem xor_i64 (a b : Nat) (ha : a < 4294967296) (hb : b < 4294967296) : bits .xor .i64 (a : Int) (b : Int) = ((a ^^^ b : Nat) : Int) := by
  have hx : a ^^^ b < 2 ^ 32 := Nat.xor_lt_two_pow (by omega) (by omega)
  have h1 : (BitVec.ofInt 64 (a : Int)).toNat = a := by
    rw [BitVec.ofInt_natCast, BitVec.toNat_ofNat]; exact Nat.mod_eq_of_lt (by omega)
  have h2 : (BitVec.ofInt 64 (b : Int)).toNat = b := by
    rw [BitVec.ofInt_natCast, BitVec.toNat_ofNat]; exact Nat.mod_eq_of_lt (by omega)
  show IntKind.i64.wrap ((BitVec.ofInt 64 (a : Int) ^^^ BitVec.ofInt 64 (b : Int)).toNat : Int) = _
  rw [BitVec.toNat_xor, h1, h2]
  exact IntWalk.i64_in _ (by omega)
/-- the sum's block -/
def CB (w : World) (g r : Nat) (b c k : Value) (wr : World) : Prop := Frm [g] w wr ∧ wr.heap[g]? = some (.cells #[.int .i64 r, b, c, k] 113 (0, 0))
theorem CB.store2 {w wr : World} {g r : Nat} {b c k : Value} (h : CB w g r b c k wr) (u : Value) (r' : Nat) : CB w g r' b c k ((wr.setCell ⟨g, 0, none⟩ u).setCell ⟨g, 0, none⟩ (.int .i64 r')) :=
  ⟨(h.1.setCell _ (.inl (by simp)) _).setCell _ (.inl (by simp)) _, (block_setCell (block_setCell h.2 0 u) 0 _).trans rfl⟩
theorem CB.store {w wr : World} {g r : Nat} {b c k : Value} (h : CB w g r b c k wr) (r' : Nat) : CB w g r' b c k (wr.setCell ⟨g, 0, none⟩ (.int .i64 r')) :=
  ⟨h.1.setCell _ (.inl (by simp)) _, (block_setCell h.2 0 _).trans rfl⟩
set_option maxHeartbeats 2000000 in
set_option maxRecDepth 100000 in
theorem divide_any (g : Nat) (v : Value) (l : List UInt8) (w : World) (b k : Value) (hg : w.heap[g]? = some (.cells #[.int .i64 65535, b, .int .i64 0, k] 113 (0, 0))) (h : Byts w v l) (hv : ∀ j, v.ownBlock = some j → j ≠ g) (hn : l.length ≤ 1000000) :
    Calls Try.prog 84 #[.pointer (some ⟨g, 0, none⟩), v] w (Ret (.tuple #[]) (CB w g (crcL l) b (.int .i64 l.length) k)) := by
  obtain ⟨ao, cap, rfl, hcap, hcs⟩ := h
  have HC := Lib.hid hcs; have HV := Lib.hid hv
  have HG0 : Hid (CB w g (crcL (l.take 0)) b (.int .i64 0) k w) := Lib.hid ⟨Frm.refl _ _, by rw [List.take_zero]; exact hg⟩
  clear hcs hg hv
  go_enter Try.func84, Try.ntmps84
  go_wp2
  go_loopw [8] (fun s8 wr => ∃ i : Nat, s8 = .int .i64 i ∧ i ≤ l.length ∧ CB w g (crcL (l.take i)) b (.int .i64 0) k wr) (fun s8 _ => l.length - (intOf s8).toNat)
  case atStart => exact ⟨0, rfl, Nat.zero_le _, HG0.out⟩
  case round =>
    clear HG0
    obtain ⟨i, rfl, hi, hcb⟩ := hrel
    have HB := Lib.hid hcb
    clear hcb
    have c0 := cell_of HB.out.2 0
    have f0 := free_of HB.out.2 0
    by_cases hlt : i < l.length
    · have hlt' : (i : Int) < (l.length : Int) := by omega
      obtain ⟨x, hx⟩ : ∃ x, l[i]? = some x := ⟨_, List.getElem?_eq_getElem hlt⟩
      obtain ⟨b', o, rfl, cx⟩ := HC.out i x hx
      have cx := HB.out.1.cellAt cx (by have := HV.out b' rfl; simpa using this)
      unfold u8 at cx
      have hx1 : (x.toNat : Int) ≤ 255 := by have := x.toNat_lt; omega
      have HX := Lib.hid hx
      have hr := crcL_lt (l.take i)
      obtain ⟨r, hrr⟩ : ∃ r, crcL (l.take i) = r := ⟨_, rfl⟩
      rw [hrr] at c0 hr
      have HR := Lib.hid hrr
      clear hx hrr
      obtain ⟨r0, hr0⟩ : ∃ r0, r ^^^ (x.toNat * 256) = r0 := ⟨_, rfl⟩
      have hxr : bits .xor .i64 (r : Int) ((x.toNat : Int) * 256) = (r0 : Int) := by
        have h1 := xor_i64 r (x.toNat * 256) (by omega) (by omega)
        rw [hr0] at h1
        rw [← h1]; push_cast; rfl
      have HR0 : Hid (r0 < 65536 ∧ crcByte r x = crcRun 8 r0) := Lib.hid ⟨by rw [← hr0]; exact xor_lt hr (by omega), by unfold crcByte; rw [hr0]⟩
      clear hr0
      obtain ⟨wo, hwo⟩ : ∃ wo : World, wo = wr := ⟨_, rfl⟩
      subst hwo
      go_upto_region 5 with fail
      have HI0 : Hid (CB wo g (crcRun 0 r0) b (.int .i64 0) k (wo.setCell ⟨g, 0, none⟩ (.int .i64 r0))) := Lib.hid ⟨(Frm.refl _ _).setCell _ (.inl (by simp)) _, (block_setCell HB.out.2 0 _).trans (by unfold crcRun; rfl)⟩
      clear c0 f0 hxr cx
      go_loopw [22] (fun s22 wi => ∃ j : Nat, s22 = .int .i64 j ∧ j ≤ 8 ∧ CB wo g (crcRun j r0) b (.int .i64 0) k wi) (fun s22 _ => 8 - (intOf s22).toNat)
      case atStart => exact ⟨0, rfl, Nat.zero_le _, HI0.out⟩
      case round =>
        clear HI0
        obtain ⟨j, rfl, hj, hcb⟩ := hrel
        have HJ := Lib.hid hcb
        clear hcb
        have d0 := cell_of HJ.out.2 0
        have g0 := free_of HJ.out.2 0
        have hr1 := crcRun_lt HR0.out.1 j
        obtain ⟨r1, hrr1⟩ : ∃ r1, crcRun j r0 = r1 := ⟨_, rfl⟩
        rw [hrr1] at d0 hr1
        have HR1 := Lib.hid hrr1
        clear hrr1
        by_cases hj8 : j < 8
        · have hj8' : (j : Int) < 8 := by omega
          by_cases h6 : 65536 ≤ 2 * r1
          · have h6' : (65536 : Int) ≤ (r1 : Int) * 2 := by omega
            obtain ⟨m, hm⟩ : ∃ m, 2 * r1 % 65536 = m := ⟨_, rfl⟩
            have hmm : (r1 : Int) * 2 % 65536 = (m : Int) := by omega
            obtain ⟨r2, hr2⟩ : ∃ r2, m ^^^ 4129 = r2 := ⟨_, rfl⟩
            have hx2 : bits .xor .i64 (m : Int) 4129 = (r2 : Int) := by
              have := xor_i64 m 4129 (by omega) (by omega)
              rw [hr2] at this; exact this
            have HS : Hid (crcRun (j + 1) r0 = r2) := Lib.hid (by unfold crcRun; rw [HR1.out]; unfold crcStep; rw [if_pos h6, hm, hr2])
            clear h6 hm hr2
            go_wp2
            refine ⟨⟨j + 1, by simp, by omega, ?_⟩, by simp [intOf]; omega⟩
            rw [HS.out]
            exact HJ.out.store2 _ _
          · have h6' : ¬ (65536 : Int) ≤ (r1 : Int) * 2 := by omega
            have HS : Hid (crcRun (j + 1) r0 = 2 * r1) := Lib.hid (by unfold crcRun; rw [HR1.out]; unfold crcStep; rw [if_neg h6])
            clear h6
            go_wp2
            refine ⟨⟨j + 1, by simp, by omega, ?_⟩, by simp [intOf]; omega⟩
            rw [HS.out]
            have h3 := HJ.out.store (2 * r1)
            have e : ((2 * r1 : Nat) : Int) = (r1 : Int) * 2 := by omega
            rw [e] at h3
            exact h3
        · obtain rfl : j = 8 := by omega
          have hge : ¬ ((8 : Nat) : Int) < 8 := by omega
          clear d0 g0
          go_wp2
          refine ⟨⟨i + 1, by simp, hlt, ?_⟩, by simp [intOf]; omega⟩
          have e : crcL (l.take (i + 1)) = r1 := by
            obtain ⟨hi2, hx2⟩ := List.getElem?_eq_some_iff.1 HX.out
            rw [List.take_succ_eq_append_getElem hi2, hx2, crcL_snoc, HR.out, HR0.out.2, HR1.out]
          rw [e]
          have h3 := HJ.out
          rw [HR1.out] at h3
          exact ⟨HB.out.1.trans h3.1, h3.2⟩
    · obtain rfl : i = l.length := by omega
      have hge : ¬ (l.length : Int) < (l.length : Int) := by omega
      have d2 := cell_of HB.out.2 2
      have g2 := free_of HB.out.2 2
      clear c0 f0
      go_wp2
      go_end0
      have h3 := HB.out
      rw [List.take_length] at h3
      refine ⟨rfl, h3.1.setCell _ (.inl (by simp)) _, (block_setCell h3.2 2 _).trans ?_⟩
      simp
end Go.Proofs.Ytomjnbcaofebfaa
