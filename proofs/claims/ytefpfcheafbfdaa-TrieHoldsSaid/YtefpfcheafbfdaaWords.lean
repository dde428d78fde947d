/- Words: what it hands back. Mark. The methods of a nil set and of a zero one. name: the word with a number. -/
import Derived.Test.YtefpfcheafbfdaaVis
namespace Go.Proofs.Ytefpfcheafbfdaa
open Go.RowKit Go.Maps Go.BigFrame

/-- what the iterator of Words reads -/
def WdR (B base : Nat) (u : Value) (M : List Wd) (W : World) : Prop := W.heap[B]? = some (.cells #[u] 22 (0, 0)) ∧ WL W base u M
theorem WL.shape {w : World} {base : Nat} {v : Value} {L : List Wd} (h : WL w base v L) : ∃ a c, v = .slice a L.length c := by obtain ⟨vs, h1, -⟩ := h; exact own_shape h1
section
variable {w : World} {tb N : Nat} {L : List Wd} {NB MB : Wd → Nat}
theorem list_t0 {xo : Option Addr} (h : T0 w xo) (bv : Value) : Calls Try.prog 49 #[.pointer xo, bv] w (RetV fun v w' => WL w' w.heap.size v [] ∧ Frm [] w w') := by
  obtain ⟨W, hW⟩ : ∃ W, W = w.alloc (.cells #[.slice none 0 0] 22) := ⟨_, rfl⟩
  obtain ⟨C, hCC⟩ : ∃ C, C = w.heap.size := ⟨_, rfl⟩
  have hF : Frm [] w W := by rw [hW]; exact (Frm.refl _ _).alloc _
  have hC : W.heap[C]? = some (.cells #[.slice none 0 0] 22 (0, 0)) := by rw [hW, hCC]; exact alloc_top rfl
  have hT : T0 W xo := h.frm0 hF
  have CF := Lib.hid (find_t0 hT bv)
  have HCC := Lib.hid hCC; have HF := Lib.hid hF; have HC := Lib.hid hC
  have c0 := cell_of hC 0
  have f0 := free_of hC 0
  clear h hT hF hC
  go_enter Try.func49, Try.ntmps49
  go_upto_region 1 with fail
  rw [← hW, ← hCC]
  clear hW hCC
  go_wp2_with (go_at_call 54; go_must (refine CF.out.mono ?_; clear CF; rintro e w' ⟨rfl, rfl⟩))
  have b2 := block_setCell HC.out 0 (.slice none 0 0)
  have c2 := cell_of b2 0
  refine bodyPost_ret (v := .slice none 0 0) ?_ rfl ⟨_, rfl, WL.nil _ _, ?_⟩
  · simp [results, Try.results49, go_sem, c2]
  · exact HF.out.then ((Frm.refl [C] W).setCell _ (.inl (by simp)) _) (by intro x hx; simp at hx; right; have := HCC.out; omega)
theorem words_of {xo : Option Addr} {bv : Value} {M : List Wd} (C : Calls Try.prog 49 #[.pointer xo, bv] w (RetV fun v w' => WL w' w.heap.size v M ∧ Frm [] w w')) :
    Calls Try.prog 22 #[.pointer xo, bv] w (RetV fun v w' => ∃ B u, v = .func (.func 50) #[] #[.pointer (some ⟨B, 0, none⟩)] ∧ WdR B w.heap.size u M w' ∧ Frm [] w w') := by
  have C := Lib.hid C
  go_enter Try.func22, Try.ntmps22
  go_wp2_with (go_at_call 49; go_must (refine C.out.mono ?_; clear C; rintro e w1 ⟨v, rfl, h1, h2⟩; obtain ⟨va, vc, rfl⟩ := h1.shape; have H1 := Lib.hid h1; have H2 := Lib.hid h2; clear h1 h2))
  go_ret
  refine ⟨_, rfl, _, _, rfl, ⟨alloc_top rfl, H1.out.frm0 ((Frm.refl [] w1).alloc _)⟩, H2.out.alloc _⟩
end
end Go.Proofs.Ytefpfcheafbfdaa
namespace Go.Proofs.Ytefpfcheafbfdaa
open Go.RowKit Go.Maps Go.BigFrame

/-- the mark: so many steps are left, from the i-th -/
def markF (L : List Wd) (b : Wd) : Nat → Nat → Nat × Int
  | 0, _ => (0, 9)
  | k + 1, i => if (withP L (b.take i)).length = 1 then (i, 0) else markF L b k (i + 1)
def markL (L : List Wd) (b : Wd) : Nat × Int := if 64 < b.length then (0, 5) else if memB L b = false then (0, 9) else markF L b (b.length + 1) 0
section
variable {w : World} {tb N : Nat} {L : List Wd} {NB MB : Wd → Nat}
set_option maxHeartbeats 1000000 in
theorem mark_any (h : TL w tb L NB MB N) (hS : Sorted L) (h64 : ∀ x ∈ L, x.length ≤ 64) (hn : L.length ≤ 1000) (bv : Value) (b : List UInt8) (hb : Byts w bv b) (hbn : b.length ≤ 1000) :
    Calls Try.prog 57 #[.pointer (some ⟨tb, 0, none⟩), bv] w (Ret (.tuple #[.int .i64 (markL L b).1, .int .i64 (markL L b).2]) (Frm [] w)) := by
  have CN := Lib.hid (none_any h)
  have CH0 := has_any h bv b hb (by omega)
  rw [preB] at CH0
  have HB := Lib.hid hb
  have CS : Hid (∀ W v x, Frm [] w W → Byts W v x → x.length ≤ 1000 → Calls Try.prog 49 #[.pointer (some ⟨tb, 0, none⟩), v] W (RetV fun v w' => WL w' W.heap.size v (withP L x) ∧ Frm [] W w')) := Lib.hid fun W v x hf hx hl => list_any (h.frm0 hf) hS h64 hn v x hx hl
  have HL1 : Hid (∀ x, (withP L x).length ≤ 1000) := Lib.hid fun x => Nat.le_trans (List.length_filter_le _ _) hn
  obtain ⟨ba, bc, rfl, -, -⟩ := hb
  unfold markL
  clear h hS h64 hn
  by_cases h1 : 64 < b.length
  · have h1' : (64 : Int) < (b.length : Int) := by omega
    rw [if_pos h1]
    clear CH0 h1
    go_enter Try.func57, Try.ntmps57
    go_wp2_with (go_at_call 47; go_must (refine CN.out.mono ?_; rintro e w' ⟨rfl, rfl⟩))
    go_ret2
    exact ⟨rfl, Frm.refl _ _⟩
  · have h1' : ¬ (64 : Int) < (b.length : Int) := by omega
    rw [if_neg h1]
    cases hm : memB L b with
    | false =>
      rw [if_pos rfl]
      rw [hm] at CH0
      have CH := Lib.hid CH0
      clear CH0 h1 hm
      go_enter Try.func57, Try.ntmps57
      go_wp2_with (first
        | (go_at_call 47; go_must (refine CN.out.mono ?_; rintro e w' ⟨rfl, rfl⟩))
        | (go_at_call 28; go_must (refine CH.out.mono ?_; rintro e w' ⟨rfl, rfl⟩)))
      go_ret2
      exact ⟨rfl, Frm.refl _ _⟩
    | true =>
      rw [if_neg (by simp)]
      rw [hm] at CH0
      have CH := Lib.hid CH0
      obtain ⟨RM, RE, hR⟩ : ∃ RM RE, markF L b (b.length + 1) 0 = (RM, RE) := ⟨_, _, rfl⟩
      rw [hR]
      have HR := Lib.hid hR
      obtain ⟨nb, hnb⟩ : ∃ nb, b.length = nb := ⟨_, rfl⟩
      have HNB := Lib.hid hnb
      rw [hnb] at CH HB h1 h1' hbn HR ⊢
      simp only []
      clear CH0 hm hR hnb
      go_enter Try.func57, Try.ntmps57
      go_wp2_with (first
        | (go_at_call 47; go_must (refine CN.out.mono ?_; rintro e w' ⟨rfl, rfl⟩))
        | (go_at_call 28; go_must (refine CH.out.mono ?_; rintro e w' ⟨rfl, rfl⟩)))
      go_loopw [22] (fun s22 wr => ∃ i k : Nat, s22 = .int .i64 i ∧ i + k = nb + 1 ∧ markF L b k i = (RM, RE) ∧ Frm [] w wr) (fun s22 _ => nb + 1 - (intOf s22).toNat)
      case atStart => exact ⟨0, nb + 1, rfl, by omega, HR.out, Frm.refl _ _⟩
      case round =>
        clear HR
        obtain ⟨i, k, rfl, hik, hr, hf⟩ := hrel
        have HR := Lib.hid hr; have HF := Lib.hid hf
        clear hr hf
        cases k with
        | zero =>
          have hge : ¬ (i : Int) < (nb : Int) + 1 := by omega
          have hR : ((0 : Nat), (9 : Int)) = (RM, RE) := HR.out
          obtain ⟨rfl, rfl⟩ := Prod.mk.inj hR
          clear hR HR
          go_wp2
          go_ret2
          exact ⟨rfl, HF.out⟩
        | succ k =>
          have hlt : (i : Int) < (nb : Int) + 1 := by omega
          obtain ⟨v', hcut, hbv, ⟨ao', cap', hv'⟩, -⟩ := (HB.out.frm0 HF.out).cutH (hi := (i : Int)) rfl (by rw [HNB.out]; omega)
          have CL := Lib.hid (CS.out wr v' _ HF.out hbv (by simp; omega))
          have HBV := Lib.hid hbv
          subst hv'
          obtain ⟨ln, hln⟩ : ∃ ln, (b.take i).length = ln := ⟨_, rfl⟩
          rw [hln] at hcut CL
          obtain ⟨cn, hcn⟩ : ∃ cn, (withP L (b.take i)).length = cn := ⟨_, rfl⟩
          have hcl : cn ≤ 1000 := by rw [← hcn]; exact HL1.out _
          have HCN := Lib.hid hcn
          have hR : (if cn = 1 then (i, (0 : Int)) else markF L b k (i + 1)) = (RM, RE) := by
            have := HR.out
            unfold markF at this
            rwa [hcn] at this
          clear hln hcn hbv
          by_cases h1c : cn = 1
          · rw [if_pos h1c] at hR
            obtain ⟨rfl, rfl⟩ := Prod.mk.inj hR
            subst h1c
            clear hR HR
            go_wp2_with (go_at_call 49; go_must (refine CL.out.mono ?_; clear CL; rintro e w1 ⟨v, rfl, h2, h3⟩; obtain ⟨va, vc, rfl⟩ := h2.shape; have H3 := Lib.hid h3; clear h2 h3; rw [HCN.out]))
            go_ret2
            exact ⟨rfl, HF.out.trans H3.out⟩
          · rw [if_neg h1c] at hR
            have HR2 := Lib.hid hR
            have hne : ((cn : Int) == 1) = false := by rw [beq_eq_false_iff_ne]; omega
            have hne2 : ¬ (cn : Int) = 1 := by omega
            have hne3 : (cn == 1) = false := by simpa using h1c
            clear hR HR
            go_wp2_with (go_at_call 49; go_must (refine CL.out.mono ?_; clear CL; rintro e w1 ⟨v, rfl, h2, h3⟩; obtain ⟨va, vc, rfl⟩ := h2.shape; have H3 := Lib.hid h3; clear h2 h3; rw [HCN.out]))
            exact ⟨⟨i + 1, k, by push_cast; rfl, by omega, HR2.out, HF.out.trans H3.out⟩, by simp [intOf]; omega⟩
theorem mark_t0 {xo : Option Addr} (h : T0 w xo) (bv : Value) : Calls Try.prog 57 #[.pointer xo, bv] w (Ret (.tuple #[.int .i64 0, .int .i64 1]) (w = ·)) := by
  have CN := Lib.hid (none_t0 h)
  clear h
  go_enter Try.func57, Try.ntmps57
  go_wp2_with (go_at_call 47; go_must (refine CN.out.mono ?_; rintro e w' ⟨rfl, rfl⟩))
  go_ret2
  exact ⟨rfl, rfl⟩
end
end Go.Proofs.Ytefpfcheafbfdaa
namespace Go.Proofs.Ytefpfcheafbfdaa
open Go.RowKit Go.Maps Go.BigFrame

section
variable {w : World} {xo : Option Addr}
theorem common_t0 (h : T0 w xo) : Calls Try.prog 34 #[.pointer xo] w (Ret (.slice none 0 0) (w = ·)) := by
  have CN := Lib.hid (none_t0 h)
  clear h
  go_enter Try.func34, Try.ntmps34
  go_wp2_with (go_at_call 47; go_must (refine CN.out.mono ?_; rintro e w' ⟨rfl, rfl⟩))
  go_ret
  exact ⟨rfl, rfl⟩
theorem free_t0 (h : T0 w xo) : Calls Try.prog 36 #[.pointer xo] w (Ret (.bool false) (Frm [] w)) := by
  obtain ⟨W, hW⟩ : ∃ W, W = (w.alloc (.cells #[.pointer xo] 26)).alloc (.cells #[.bool false] 4) := ⟨_, rfl⟩
  obtain ⟨C, hCC⟩ : ∃ C, C = w.heap.size := ⟨_, rfl⟩
  have hF : Frm [] w W := by rw [hW]; exact ((Frm.refl _ _).alloc _).alloc _
  have hC : W.heap[C + 1]? = some (.cells #[.bool false] 4 (0, 0)) := by rw [hW, hCC]; exact alloc_top (by simp)
  have hD : W.heap[C]? = some (.cells #[.pointer xo] 26 (0, 0)) := by rw [hW, hCC]; exact alloc_at (alloc_top rfl)
  have CN := Lib.hid (none_t0 (h.frm0 hF))
  have HC := Lib.hid hC; have HF := Lib.hid hF; have HCC := Lib.hid hCC
  have c0 := cell_of hC 0
  have f0 := free_of hC 0
  have c1 := cell_of hD 0
  clear h hC hF hD
  go_enter Try.func36, Try.ntmps36
  go_upto_region 1 with fail
  rw [← hW, ← hCC]
  clear hW hCC
  go_wp2_with (go_at_call 47; go_must (refine CN.out.mono ?_; rintro e w' ⟨rfl, rfl⟩))
  have b2 := block_setCell HC.out 0 (.bool false)
  have c2 := cell_of b2 0
  refine bodyPost_ret (v := .bool false) ?_ rfl ⟨rfl, ?_⟩
  · simp [results, Try.results36, go_sem, c2]
  · exact HF.out.then ((Frm.refl [C + 1] W).setCell _ (.inl (by simp)) _) (by intro x hx; simp at hx; right; have := HCC.out; omega)
theorem encode_t0 (h : T0 w xo) : Calls Try.prog 31 #[.pointer xo] w (Ret (.tuple #[.slice none 0 0, .int .i64 1]) (w = ·)) := by
  have CN := Lib.hid (none_t0 h)
  clear h
  go_enter Try.func31, Try.ntmps31
  go_wp2_with (go_at_call 47; go_must (refine CN.out.mono ?_; rintro e w' ⟨rfl, rfl⟩))
  go_ret2
  exact ⟨rfl, rfl⟩
theorem copy_t0 (h : T0 w xo) : Calls Try.prog 29 #[.pointer xo] w (Ret (.pointer none) (w = ·)) := by
  have CN := Lib.hid (none_t0 h)
  clear h
  go_enter Try.func29, Try.ntmps29
  go_wp2_with (go_at_call 47; go_must (refine CN.out.mono ?_; rintro e w' ⟨rfl, rfl⟩))
  go_ret
  exact ⟨rfl, rfl⟩
end
end Go.Proofs.Ytefpfcheafbfdaa
namespace Go.Proofs.Ytefpfcheafbfdaa
open Go.RowKit Go.Maps Go.BigFrame

def nameL (i : Nat) : Wd := [UInt8.ofNat (i / 256), UInt8.ofNat (i % 256)]
theorem name_any (i : Nat) (hi : i < 65536) (w : World) : Calls Try.prog 27 #[.int .i64 i] w (RetV (Fresh w (nameL i))) := by
  go_enter Try.func27, Try.ntmps27
  go_wp2
  go_ret
  have e1 : Value.int .u8 ((i : Int) / 256) = u8 (UInt8.ofNat (i / 256)) := by
    unfold u8
    congr 1
    have : (UInt8.ofNat (i / 256)).toNat = i / 256 := by simp; omega
    rw [this]; omega
  have e2 : Value.int .u8 ((i : Int) % 256) = u8 (UInt8.ofNat (i % 256)) := by
    unfold u8
    congr 1
    have : (UInt8.ofNat (i % 256)).toNat = i % 256 := by simp
    rw [this]; omega
  rw [e1, e2]
  refine ⟨_, rfl, ?_, (Frm.refl [] w).alloc _⟩
  exact own_lit (nameL i) (Nat.le_refl _) (by simp [nameL])
end Go.Proofs.Ytefpfcheafbfdaa
