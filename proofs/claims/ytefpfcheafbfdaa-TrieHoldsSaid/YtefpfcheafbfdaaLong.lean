/- Longest. Next. -/
import Derived.Test.YtefpfcheafbfdaaMeth
import Derived.Test.YtefpfcheafbfdaaKeys
namespace Go.Proofs.Ytefpfcheafbfdaa
open Go.RowKit Go.Maps Go.BigFrame

/-- b[:hi:hi] -/
theorem Byts.cutHM {w : World} {v : Value} {l : List UInt8} {hi : Int} {j : Nat} (h : Byts w v l) (hh : hi = j) (h2 : j ≤ l.length) : CutTo w v (l.take j) none (some (.int .i64 hi)) (some (.int .i64 hi)) := by
  obtain ⟨ao, cap, rfl, h3⟩ := h.len
  subst hh
  have hb := h.sliced (i := 0) (m := j) (Nat.zero_le j) h2 (by omega)
  rw [List.drop_zero] at hb
  refine ⟨_, fun W => ?_, hb, (let ⟨x, y, e, _⟩ := hb; ⟨x, y, e⟩), fun k hk => sliced_block hk⟩
  rw [run_sliceAt_slice W 23 _ _ _ _ Try.under23, run_slice_hm W 23 ao l.length cap Try.under23 .i64 .i64 (j : Int) (j : Int) (by omega) (by omega) (by omega), Try.elem23, Try.sizeOf5]
  simp [Result.andThen]
/-- the longest word that bytes begin with: so many steps are left, from the i-th -/
def longF (P W : Wd → Bool) (b : Wd) : Nat → Nat → Nat × Bool → Nat × Bool
  | 0, _, acc => acc
  | k + 1, i, acc => if P (b.take i) = true then longF P W b k (i + 1) (if W (b.take i) = true then (i, true) else acc) else acc
def longL (P W : Wd → Bool) (b : Wd) : Nat × Bool := longF P W b (b.length + 1) 0 (0, false)
section
variable {w : World} {tb n : Nat} {P W : Wd → Bool} {NB MB : Wd → Nat} {N : Nat}
set_option maxHeartbeats 1000000 in
theorem longest_any (h : TR w tb P W n NB MB N) (bv : Value) (b : List UInt8) (hb : Byts w bv b) (hn : b.length ≤ 1000) : Calls Try.prog 55 #[.pointer (some ⟨tb, 0, none⟩), bv] w (Ret (.tuple #[.int .i64 (longL P W b).1, .bool (longL P W b).2]) (w = ·)) := by
  have HB := Lib.hid hb; have HT := Lib.hid h
  obtain ⟨ao, cap, rfl, hcap, hcs⟩ := hb
  obtain ⟨RM, RI, hR⟩ : ∃ RM RI, longL P W b = (RM, RI) := ⟨_, _, rfl⟩
  rw [hR]
  have HR := Lib.hid hR
  clear h hcs hR
  go_enter Try.func55, Try.ntmps55
  go_wp2
  go_loopw [4, 5, 6] (fun s4 s5 s6 wr => ∃ (k i m : Nat) (it : Bool), s4 = .int .i64 m ∧ s5 = .bool it ∧ s6 = .int .i64 i ∧ i + k = b.length ∧ longF P W b (k + 1) i (m, it) = (RM, RI) ∧ w = wr) (fun _ _ s6 _ => b.length - (intOf s6).toNat)
  case atStart => exact ⟨b.length, 0, 0, false, rfl, rfl, rfl, by omega, HR.out, rfl⟩
  case round =>
    clear HR
    obtain ⟨k, i, m, it, rfl, rfl, rfl, hik, hl, rfl⟩ := hrel
    have HL := Lib.hid hl
    obtain ⟨v', hcut, hbv, ⟨ao', cap', hv'⟩, -⟩ := HB.out.cutHM (hi := (i : Int)) rfl (by omega)
    have CF := find_any HT.out v' _ hbv (by simp; omega)
    unfold findV at CF
    subst hv'
    obtain ⟨ln, hln⟩ : ∃ ln, (b.take i).length = ln := ⟨_, rfl⟩
    rw [hln] at hcut CF
    clear hl hbv hln
    cases hp : P (b.take i) with
    | false =>
      rw [hp, if_neg (by simp)] at CF
      have hR : (m, it) = (RM, RI) := by
        have := HL.out
        unfold longF at this
        rwa [if_neg (by rw [hp]; simp)] at this
      obtain ⟨rfl, rfl⟩ := Prod.mk.inj hR
      have CF := Lib.hid CF
      clear hp hR
      go_wp2_with (go_at_call 54; go_must (refine CF.out.mono ?_; clear CF; rintro e w' ⟨rfl, rfl⟩))
      go_ret2
      exact ⟨rfl, rfl⟩
    | true =>
      rw [hp, if_pos rfl] at CF
      have CF := Lib.hid CF
      have c0 := cell_of (HT.out.node _ hp) 0
      unfold nodeV at CF
      have hL2 : longF P W b k (i + 1) (if W (b.take i) = true then (i, true) else (m, it)) = (RM, RI) := by
        have := HL.out
        unfold longF at this
        rwa [if_pos hp] at this
      obtain ⟨wi, hwi⟩ : ∃ wi, W (b.take i) = wi := ⟨_, rfl⟩
      rw [hwi] at hL2 c0
      have HL2 := Lib.hid hL2
      clear hp hwi hL2
      cases k with
      | zero =>
        have hib : i = b.length := by omega
        have hib2 : (i : Int) = (b.length : Int) := by omega
        have hib3 : ((i : Int) == (b.length : Int)) = true := by rw [hib2]; exact beq_self_eq_true _
        cases wi with
        | true =>
          have hR : (i, true) = (RM, RI) := HL2.out
          obtain ⟨rfl, rfl⟩ := Prod.mk.inj hR
          clear hR hib hib2
          go_wp2_with (go_at_call 54; go_must (refine CF.out.mono ?_; clear CF; rintro e w' ⟨rfl, rfl⟩))
          go_ret2
          exact ⟨rfl, rfl⟩
        | false =>
          have hR : (m, it) = (RM, RI) := HL2.out
          obtain ⟨rfl, rfl⟩ := Prod.mk.inj hR
          clear hR hib hib2
          go_wp2_with (go_at_call 54; go_must (refine CF.out.mono ?_; clear CF; rintro e w' ⟨rfl, rfl⟩))
          go_ret2
          exact ⟨rfl, rfl⟩
      | succ k =>
        have hib2 : ¬ (i : Int) = (b.length : Int) := by omega
        have hib3 : ((i : Int) == (b.length : Int)) = false := beq_eq_false_iff_ne.mpr hib2
        cases wi with
        | true =>
          go_wp2_with (go_at_call 54; go_must (refine CF.out.mono ?_; clear CF; rintro e w' ⟨rfl, rfl⟩))
          exact ⟨⟨k, i + 1, i, true, rfl, rfl, by push_cast; rfl, by omega, HL2.out, trivial⟩, by simp [intOf]; omega⟩
        | false =>
          go_wp2_with (go_at_call 54; go_must (refine CF.out.mono ?_; clear CF; rintro e w' ⟨rfl, rfl⟩))
          exact ⟨⟨k, i + 1, m, it, rfl, rfl, by push_cast; rfl, by omega, HL2.out, trivial⟩, by simp [intOf]; omega⟩
theorem longest_t0 {xo : Option Addr} (h : T0 w xo) (bv : Value) (b : List UInt8) (hb : Byts w bv b) : Calls Try.prog 55 #[.pointer xo, bv] w (Ret (.tuple #[.int .i64 0, .bool false]) (w = ·)) := by
  obtain ⟨v', hcut, hbv, ⟨ao', cap', hv'⟩, -⟩ := hb.cutHM (hi := 0) (j := 0) rfl (Nat.zero_le _)
  have CF := find_t0 h v'
  obtain ⟨ao, cap, rfl, -, -⟩ := hb
  subst hv'
  have e0 : (b.take 0).length = 0 := by simp
  rw [e0] at hcut CF
  have CF := Lib.hid CF
  clear h hbv e0
  go_enter Try.func55, Try.ntmps55
  go_wp2
  go_loopw [4, 5, 6] (fun s4 s5 s6 wr => s4 = .int .i64 0 ∧ s5 = .bool false ∧ s6 = .int .i64 0 ∧ w = wr) (fun _ _ _ _ => 0)
  case atStart => exact ⟨rfl, rfl, rfl, rfl⟩
  case round =>
    obtain ⟨rfl, rfl, rfl, rfl⟩ := hrel
    go_wp2_with (go_at_call 54; go_must (refine CF.out.mono ?_; clear CF; rintro e w' ⟨rfl, rfl⟩))
    go_ret2
    exact ⟨rfl, rfl⟩
end
end Go.Proofs.Ytefpfcheafbfdaa
namespace Go.Proofs.Ytefpfcheafbfdaa
open Go.RowKit Go.Maps Go.BigFrame

section
variable {w : World} {tb n : Nat} {P W : Wd → Bool} {NB MB : Wd → Nat} {N : Nat}
theorem next_any (h : TR w tb P W n NB MB N) (bv : Value) (b : List UInt8) (hb : Byts w bv b) (hn : b.length ≤ 1000000) : Calls Try.prog 33 #[.pointer (some ⟨tb, 0, none⟩), bv] w (RetV fun v w' => Byts w' v (kidsP P b) ∧ Frm [] w w') := by
  have CF := find_any h bv b hb hn
  unfold findV at CF
  cases hp : P b with
  | false =>
    rw [hp, if_neg (by simp)] at CF
    have hk : kidsP P b = [] := by
      refine List.eq_nil_iff_forall_not_mem.2 fun c hc => ?_
      rw [h.up b c (mem_kidsP.1 hc)] at hp; cases hp
    rw [hk]
    have CF := Lib.hid CF
    clear h hb hk hp
    go_enter Try.func33, Try.ntmps33
    go_wp2_with (go_at_call 54; go_must (refine CF.out.mono ?_; clear CF; rintro e w' ⟨rfl, rfl⟩))
    go_ret
    exact ⟨_, rfl, Byts.nil _, Frm.refl _ _⟩
  | true =>
    rw [hp, if_pos rfl] at CF
    have c1 := cell_of (h.node b hp) 1
    have CK := Lib.hid (keys_any h hp)
    have CF := Lib.hid CF
    unfold nodeV at CF
    clear h hb hp
    go_enter Try.func33, Try.ntmps33
    go_wp2_with (first
      | (go_at_call 54; go_must (refine CF.out.mono ?_; clear CF; rintro e w' ⟨rfl, rfl⟩))
      | (go_at_call 56; go_must (refine CK.out.mono ?_; clear CK; rintro e w1 ⟨v, rfl, h1⟩; have H1 := Lib.hid h1; clear h1)))
    go_ret
    exact ⟨_, rfl, H1.out.byts, H1.out.2⟩
theorem next_t0 {xo : Option Addr} (h : T0 w xo) (bv : Value) : Calls Try.prog 33 #[.pointer xo, bv] w (Ret (.slice none 0 0) (w = ·)) := by
  have CF := Lib.hid (find_t0 h bv)
  clear h
  go_enter Try.func33, Try.ntmps33
  go_wp2_with (go_at_call 54; go_must (refine CF.out.mono ?_; clear CF; rintro e w' ⟨rfl, rfl⟩))
  go_ret
  exact ⟨rfl, rfl⟩
end
end Go.Proofs.Ytefpfcheafbfdaa
