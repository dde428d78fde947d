/- Insert. -/
import Derived.Test.YtefpfcheafbfdaaTurn
namespace Go.Proofs.Ytefpfcheafbfdaa
open Go.RowKit Go.Maps Go.BigFrame

def insE (P W : Wd → Bool) (n : Nat) (b : Wd) : Int := if 64 < b.length then 5 else if (P b && W b) = true then 11 else if n = 1000 then 7 else 0
/-- P with all beginnings of b -/
def addP (P : Wd → Bool) (b : Wd) : Wd → Bool := fun q => P q || q.isPrefixOf b
theorem addP_iff {P : Wd → Bool} {b q : Wd} : addP P b q = true ↔ P q = true ∨ q <+: b := by
  unfold addP
  rw [Bool.or_eq_true, List.isPrefixOf_iff_prefix]
theorem addP_snoc {P : Wd → Bool} {p : Wd} {c : UInt8} : orP (addP P p) (p ++ [c]) = addP P (p ++ [c]) := by
  funext q
  rw [Bool.eq_iff_iff, addP_iff]
  unfold orP
  rw [Bool.or_eq_true, addP_iff, decide_eq_true_iff, List.prefix_concat_iff]
  constructor
  · rintro ((h | h) | h)
    · exact .inl h
    · exact .inr (.inr h)
    · exact .inr (.inl h)
  · rintro (h | h | h)
    · exact .inl (.inl h)
    · exact .inr h
    · exact .inl (.inr h)
theorem addP_nil {P : Wd → Bool} (h : P [] = true) : addP P [] = P := by
  funext q
  rw [Bool.eq_iff_iff, addP_iff, List.prefix_nil]
  constructor
  · rintro (h1 | rfl)
    · exact h1
    · exact h
  · exact .inl
/-- what Insert leaves -/
def InsTo (tb : Nat) (P W : Wd → Bool) (n : Nat) (NB MB : Wd → Nat) (N : Nat) (b : Wd) (w w' : World) : Prop :=
  ∃ NB' MB' N', TR w' tb (addP P b) (fun q => if q = b then true else W q) (n + 1) NB' MB' N' ∧ FrS (Own tb P NB MB) w w' ∧ (∀ k, Own tb (addP P b) NB' MB' k → Own tb P NB MB k ∨ w.heap.size ≤ k) ∧ N' ≤ N + 64
/-- behind i rounds -/
def InI (tb : Nat) (P W : Wd → Bool) (n : Nat) (NB MB : Wd → Nat) (N : Nat) (w : World) (p : Wd) (i : Nat) (NB' MB' : Wd → Nat) (wr : World) : Prop :=
  ∃ N', TR wr tb (addP P p) W n NB' MB' N' ∧ FrS (Own tb P NB MB) w wr ∧ (∀ k, Own tb (addP P p) NB' MB' k → Own tb P NB MB k ∨ w.heap.size ≤ k) ∧ N' ≤ N + i
section
variable {w : World} {tb : Nat} {P W : Wd → Bool} {n : Nat} {NB MB : Wd → Nat} {N : Nat}
theorem insert_t0 {xo : Option Addr} (h : T0 w xo) (bv : Value) : Calls Try.prog 20 #[.pointer xo, bv] w (Ret (.int .i64 1) (w = ·)) := by
  have CN := Lib.hid (none_t0 h)
  clear h
  go_enter Try.func20, Try.ntmps20
  go_wp2_with (go_at_call 47; go_must (refine CN.out.mono ?_; rintro e w' ⟨rfl, rfl⟩))
  go_ret
  exact ⟨rfl, rfl⟩
set_option maxHeartbeats 1000000 in
theorem insert_bad (h : TR w tb P W n NB MB N) (bv : Value) (b : List UInt8) (hb : Byts w bv b) (hn : b.length ≤ 1000000) (he : insE P W n b ≠ 0) : Calls Try.prog 20 #[.pointer (some ⟨tb, 0, none⟩), bv] w (Ret (.int .i64 (insE P W n b)) (w = ·)) := by
  obtain ⟨ao, cap, rfl, hcap⟩ := hb.len
  have CN := Lib.hid (none_any h)
  have CH := has_any h _ b hb hn
  have c1 := cell_of h.top 1
  unfold insE at he ⊢
  by_cases h1 : 64 < b.length
  · rw [if_pos h1]
    have h1' : (64 : Int) < (b.length : Int) := by omega
    clear he h1 h CH hb
    go_enter Try.func20, Try.ntmps20
    go_wp2_with (go_at_call 47; go_must (refine CN.out.mono ?_; rintro e w' ⟨rfl, rfl⟩))
    go_ret
    exact ⟨rfl, rfl⟩
  · have h1' : ¬ (64 : Int) < (b.length : Int) := by omega
    rw [if_neg h1] at he ⊢
    cases hh : (P b && W b) with
    | true =>
      rw [hh] at CH
      rw [if_pos rfl]
      have CH := Lib.hid CH
      clear he h1 h hb hh
      go_enter Try.func20, Try.ntmps20
      go_wp2_with (first
        | (go_at_call 47; go_must (refine CN.out.mono ?_; rintro e w' ⟨rfl, rfl⟩))
        | (go_at_call 28; go_must (refine CH.out.mono ?_; rintro e w' ⟨rfl, rfl⟩)))
      go_ret
      exact ⟨rfl, rfl⟩
    | false =>
      rw [hh] at CH he
      rw [if_neg (by simp)] at he ⊢
      by_cases h2 : n = 1000
      · rw [if_pos h2]
        subst h2
        have CH := Lib.hid CH
        clear he h1 h hb hh
        go_enter Try.func20, Try.ntmps20
        go_wp2_with (first
          | (go_at_call 47; go_must (refine CN.out.mono ?_; rintro e w' ⟨rfl, rfl⟩))
          | (go_at_call 28; go_must (refine CH.out.mono ?_; rintro e w' ⟨rfl, rfl⟩)))
        go_ret
        exact ⟨rfl, rfl⟩
      · rw [if_neg h2] at he
        exact absurd rfl he
set_option maxHeartbeats 2000000 in
set_option maxRecDepth 100000 in
theorem insert_good (h : TR w tb P W n NB MB N) (hW : ∀ q, W q = true → P q = true) (bv : Value) (b : List UInt8) (hb : Byts w bv b) (he : insE P W n b = 0) (hn1 : n ≤ 1000) (hN : N ≤ 900000) : Calls Try.prog 20 #[.pointer (some ⟨tb, 0, none⟩), bv] w (Ret (.int .i64 0) (InsTo tb P W n NB MB N b w)) := by
  have h64 : b.length ≤ 64 := by
    unfold insE at he
    split at he
    · cases he
    · omega
  have hh : (P b && W b) = false := by
    unfold insE at he
    rw [if_neg (by omega)] at he
    cases e : (P b && W b) with
    | false => rfl
    | true => rw [e, if_pos rfl] at he; cases he
  have hn2 : n ≠ 1000 := by
    unfold insE at he
    rw [if_neg (by omega), hh, if_neg (by simp)] at he
    intro e
    rw [if_pos e] at he; cases he
  have HB := Lib.hid hb
  have CH := has_any h bv b hb (by omega)
  rw [hh] at CH
  obtain ⟨ao, cap, rfl, hcap, hcs⟩ := hb
  have CN := Lib.hid (none_any h)
  have CH := Lib.hid CH
  have c0 := cell_of h.top 0
  have c1 := cell_of h.top 1
  unfold nodeV at c0
  have hnb : ((n : Int) == 1000) = false := by rw [beq_eq_false_iff_ne]; omega
  have h64' : ¬ (64 : Int) < (b.length : Int) := by omega
  have HT := Lib.hid h; have HC := Lib.hid hcs; have HW := Lib.hid hW
  have HI0 : Hid (InI tb P W n NB MB N w (b.take 0) 0 NB MB w) := Lib.hid (by
    unfold InI
    rw [List.take_zero, addP_nil h.nil]
    exact ⟨N, h, FrS.refl _ _, fun k hk => .inl hk, by omega⟩)
  have hmm := @run_makeMap Try.prog
  clear h hcs hW he hh hn2
  go_enter Try.func20, Try.ntmps20
  go_wp2_with (first
    | (go_at_call 47; go_must (refine CN.out.mono ?_; rintro e w' ⟨rfl, rfl⟩))
    | (go_at_call 28; go_must (refine CH.out.mono ?_; rintro e w' ⟨rfl, rfl⟩)))
  clear c0 c1
  go_loopw [5, 31] (fun s5 s31 wr => ∃ (i : Nat) (NB' MB' : Wd → Nat), s31 = .int .i64 i ∧ i ≤ b.length ∧ s5 = nodeV NB' (b.take i) ∧ InI tb P W n NB MB N w (b.take i) i NB' MB' wr) (fun _ s31 _ => b.length - (intOf s31).toNat)
  case atStart => exact ⟨0, NB, MB, rfl, Nat.zero_le _, rfl, HI0.out⟩
  case round =>
    clear HI0
    obtain ⟨i, NB', MB', rfl, hi, rfl, N', ht, hf, ho, hN'⟩ := hrel
    have HT' := Lib.hid ht; have HF := Lib.hid hf; have HO := Lib.hid ho; have HN' := Lib.hid hN'
    clear ht hf ho hN'
    have HP : Hid (addP P (b.take i) (b.take i) = true) := Lib.hid (addP_iff.2 (.inr List.prefix_rfl))
    unfold nodeV
    by_cases hlt : i < b.length
    · have hlt' : (i : Int) < (b.length : Int) := by omega
      obtain ⟨x, hx⟩ : ∃ x, b[i]? = some x := ⟨_, List.getElem?_eq_getElem hlt⟩
      obtain ⟨b', o, rfl, cx⟩ := HC.out i x hx
      have cx : wr.cell? ⟨b', o + i, none⟩ = some (u8 x) := (World.cell?_of_block (w := w) (HF.out.block b' (cell_lt cx) (HT.out.not_u8 cx))).trans cx
      have hst := take_step hx
      have HST := Lib.hid hst
      have hl := HT'.out.lookup HP.out x
      unfold kidF at hl
      rw [← hst] at hl
      unfold u8 at cx hl
      have d1 := cell_of (HT'.out.node _ HP.out) 1
      by_cases hq : addP P (b.take i) (b.take (i + 1)) = true
      · rw [if_pos hq] at hl
        unfold nodeV at hl
        have HE : Hid (addP P (b.take (i + 1)) = addP P (b.take i)) := Lib.hid (by
          rw [hst, ← addP_snoc, ← hst]
          funext q
          unfold orP
          by_cases e : q = b.take (i + 1)
          · subst e; rw [hq]; rfl
          · rw [decide_eq_false e, Bool.or_false])
        clear hq hx hst
        go_wp2
        refine ⟨⟨i + 1, NB', MB', by simp, hlt, rfl, ?_⟩, by simp [intOf]; omega⟩
        unfold InI
        rw [HE.out]
        exact ⟨N', HT'.out, HF.out, HO.out, by have := HN'.out; omega⟩
      · rw [if_neg hq] at hl
        have hqf : addP P (b.take i) (b.take i ++ [x]) = false := by rw [← hst]; simpa using hq
        have hwf : W (b.take i ++ [x]) = false := by
          cases e : W (b.take i ++ [x]) with
          | false => rfl
          | true => have := addP_iff (P := P) (b := b.take i) (q := b.take i ++ [x]) |>.2 (.inl (HW.out _ e)); rw [hqf] at this; cases this
        obtain ⟨w3, hrun, ht3, hf3, ho3⟩ := HT'.out.grow HP.out hqf hwf (by have := HN'.out; omega) rfl
        rw [addP_snoc] at ht3 ho3
        have HO3 := Lib.hid ho3
        have HT3 := Lib.hid ht3; have HF3 := Lib.hid hf3
        have hl3 := ht3.lookup (p := b.take i) (addP_iff.2 (.inr (List.prefix_append _ _))) x
        have e3 : kidF (addP P (b.take i ++ [x])) (setF NB' (b.take i ++ [x]) (wr.heap.size + 1)) (b.take i) x = some (.pointer (some ⟨wr.heap.size + 1, 0, none⟩)) := by
          unfold kidF
          rw [if_pos (addP_iff.2 (.inr List.prefix_rfl))]
          unfold nodeV setF
          rw [if_pos rfl]
        rw [e3] at hl3
        have hnp : b.take i ≠ b.take i ++ [x] := fun e => by have := congrArg List.length e; simp at this
        have e4 : setF MB' (b.take i ++ [x]) wr.heap.size (b.take i) = MB' (b.take i) := by unfold setF; rw [if_neg hnp]
        rw [e4] at hl3
        have e5 := ht3.node (b.take i) (addP_iff.2 (.inr (List.prefix_append _ _)))
        have e6 : setF NB' (b.take i ++ [x]) (wr.heap.size + 1) (b.take i) = NB' (b.take i) := by unfold setF; rw [if_neg hnp]
        rw [e4, e6] at e5
        have d3 := cell_of e5 1
        unfold u8 at hrun hl3
        clear hq hqf hwf ht3 hf3 ho3 e3 hnp e4 e5 e6 hx hst
        go_wp2
        refine ⟨⟨i + 1, setF NB' (b.take i ++ [x]) (wr.heap.size + 1), setF MB' (b.take i ++ [x]) wr.heap.size, by simp, hlt, ?_, ?_⟩, by simp [intOf]; omega⟩
        · rw [HST.out]
          unfold setF
          rw [if_pos rfl]
        · unfold InI
          rw [HST.out]
          refine ⟨N' + 1, HT3.out, HF.out.then HF3.out (fun k hk => HO.out k hk), fun k hk => ?_, by have := HN'.out; omega⟩
          rcases HO3.out k hk with h | h
          · exact HO.out k h
          · have := HF.out.size; right; omega
    · obtain rfl : i = b.length := by omega
      have hge : ¬ (b.length : Int) < (b.length : Int) := by omega
      have hp := HP.out
      have HT2 := HT'.out
      have HO2 := HO.out
      rw [List.take_length] at hp HT2 HO2 ⊢
      obtain ⟨t4, f4⟩ := HT2.flag hp true
      have f0 := free_of (HT2.node b hp) 0
      have d0 := cell_of (HT2.node b hp) 0
      have c1 := cell_of t4.top 1
      have g1 := free_of t4.top 1
      obtain ⟨t5, f5⟩ := t4.words (n + 1)
      have e1 : ((n + 1 : Nat) : Int) = (n : Int) + 1 := by omega
      rw [e1] at t5 f5
      have HT5 := Lib.hid t5; have HF45 := Lib.hid (f4.then f5 (fun k hk => .inl hk)); have HO2 := Lib.hid HO2
      clear t4 f4 t5 f5 e1 HT2 hp
      go_wp2
      go_ret
      exact ⟨rfl, NB', MB', N', HT5.out, HF.out.then HF45.out (fun k hk => HO2.out k hk), HO2.out, by have := HN'.out; omega⟩
end
end Go.Proofs.Ytefpfcheafbfdaa
