/- TrieFull: the walk. -/
import Derived.Test.YtefpfcheafbfdaaKnown
namespace Go.Proofs.Ytefpfcheafbfdaa
open Go.RowKit Go.Maps Go.BigFrame

/-- the first n names -/
def namesL (n : Nat) : List Wd := (List.range n).map nameL
theorem nameL_lt {i j : Nat} (hij : i < j) (hj : j < 1000) : nameL i < nameL j := by
  unfold nameL
  refine List.cons_lt_cons_iff.2 ?_
  rcases Nat.lt_or_ge (i / 256) (j / 256) with h | h
  · left
    rw [UInt8.lt_iff_toNat_lt]
    simp; omega
  · right
    have e : i / 256 = j / 256 := by omega
    refine ⟨by rw [e], List.cons_lt_cons_iff.2 (.inl ?_)⟩
    rw [UInt8.lt_iff_toNat_lt]
    simp; omega
theorem nameL_inj {i j : Nat} (hi : i < 1000) (hj : j < 1000) (h : nameL i = nameL j) : i = j := by
  rcases Nat.lt_trichotomy i j with h1 | h1 | h1
  · have := nameL_lt h1 hj; rw [h] at this; exact absurd this (List.lt_irrefl _)
  · exact h1
  · have := nameL_lt h1 hi; rw [h] at this; exact absurd this (List.lt_irrefl _)
theorem mem_names {n : Nat} {x : Wd} : x ∈ namesL n ↔ ∃ i, i < n ∧ nameL i = x := by
  unfold namesL
  simp
theorem names_sorted {n : Nat} (hn : n ≤ 1000) : Sorted (namesL n) := by
  unfold namesL Sorted
  rw [List.pairwise_map]
  refine List.Pairwise.imp_of_mem ?_ (List.pairwise_lt_range (n := n))
  intro a b ha hb h
  rw [List.mem_range] at hb
  exact nameL_lt h (by omega)
theorem names_len (n : Nat) : (namesL n).length = n := by unfold namesL; simp
theorem names_ins {n : Nat} (hn : n < 1000) : insEL (namesL n) (nameL n) = 0 ∧ insA (namesL n) (nameL n) = namesL (n + 1) := by
  have hnm : nameL n ∉ namesL n := fun h => by
    obtain ⟨i, hi, e⟩ := mem_names.1 h
    have := nameL_inj (by omega) hn e
    omega
  have he : insEL (namesL n) (nameL n) = 0 := by
    unfold insEL
    rw [if_neg (by simp [nameL]), if_neg hnm, if_neg (by rw [names_len]; omega)]
  refine ⟨he, ?_⟩
  unfold insA
  rw [if_pos he]
  refine sorted_unique (sorted_insL (names_sorted (by omega)) hnm) (names_sorted (by omega)) (fun x => ?_)
  rw [mem_insL, mem_names, mem_names]
  constructor
  · rintro (rfl | ⟨i, hi, e⟩)
    · exact ⟨n, by omega, rfl⟩
    · exact ⟨i, by omega, e⟩
  · rintro ⟨i, hi, e⟩
    rcases Nat.lt_or_ge i n with h | h
    · exact .inr ⟨i, h, e⟩
    · left; rw [← e]; congr 1; omega
theorem full_any (b : Wd) (hb : b.length ≤ 64) : insEL (namesL 1000) b = (if memB (namesL 1000) b then 11 else 7) ∧ insA (namesL 1000) b = namesL 1000 := by
  have he : insEL (namesL 1000) b = (if memB (namesL 1000) b then 11 else 7) := by
    unfold insEL
    rw [if_neg (by omega), names_len, if_pos rfl]
    by_cases h : b ∈ namesL 1000
    · rw [if_pos h, if_pos (memB_iff.2 h)]
    · rw [if_neg h, if_neg (fun e => h (memB_iff.1 e))]
  refine ⟨he, ?_⟩
  unfold insA
  rw [if_neg]
  rw [he]
  split <;> simp
theorem full_rem {n : Nat} (hn : n < 1000) : remE (namesL 1000) (nameL n) = 0 ∧ remA (namesL 1000) (nameL n) = (namesL 1000).erase (nameL n) := by
  have he : remE (namesL 1000) (nameL n) = 0 := by
    unfold remE
    rw [if_neg (by simp [nameL]), if_pos (mem_names.2 ⟨n, hn, rfl⟩)]
  exact ⟨he, by unfold remA; rw [if_pos he]⟩
theorem full_back {n : Nat} (hn : n < 1000) : insEL ((namesL 1000).erase (nameL n)) (nameL n) = 0 ∧ insA ((namesL 1000).erase (nameL n)) (nameL n) = namesL 1000 := by
  have hs := names_sorted (n := 1000) (Nat.le_refl _)
  have hmem : nameL n ∈ namesL 1000 := mem_names.2 ⟨n, hn, rfl⟩
  have hnm : nameL n ∉ (namesL 1000).erase (nameL n) := fun h => ((hs.nodup.mem_erase_iff).1 h).1 rfl
  have he : insEL ((namesL 1000).erase (nameL n)) (nameL n) = 0 := by
    unfold insEL
    rw [if_neg (by simp [nameL]), if_neg hnm, if_neg (by rw [List.length_erase_of_mem hmem, names_len]; omega)]
  refine ⟨he, ?_⟩
  unfold insA
  rw [if_pos he]
  have hse : Sorted ((namesL 1000).erase (nameL n)) := List.Pairwise.sublist List.erase_sublist hs
  refine sorted_unique (sorted_insL hse hnm) hs (fun x => ?_)
  rw [mem_insL, hs.nodup.mem_erase_iff]
  constructor
  · rintro (rfl | ⟨-, h⟩)
    · exact hmem
    · exact h
  · intro h
    by_cases e : x = nameL n
    · exact .inl e
    · exact .inr ⟨e, h⟩
theorem full_more : insEL (namesL 1000) [109, 111, 114, 101] = 7 := by
  rw [(full_any _ (by decide)).1, if_neg]
  intro h
  obtain ⟨i, -, e⟩ := mem_names.1 (memB_iff.1 h)
  simp [nameL] at e
theorem k_empty (w : World) : Calls Try.prog 13 #[.slice none 0 0] w (RetV fun v w' => ∃ tb, v = .tuple #[.pointer (some ⟨tb, 0, none⟩), .int .i64 0] ∧ KS w tb [] 0 w') := by
  refine (new_any _ [] w (Wds.nil w) (by decide) (by simp)).mono ?_
  rintro e w' ⟨v, rfl, hf, xo, rfl, h⟩
  rcases h with ⟨h, -⟩ | ⟨-, tb, S, N, rfl, h1, h2, h3⟩
  · exact absurd rfl h
  · exact ⟨_, rfl, tb, rfl, ⟨S, N, h1, h2, by omega⟩, hf⟩
theorem KS.has {w V : World} {tb d : Nat} {L : List Wd} {bv : Value} {b : Wd} (h : KS w tb L d V) (hb : Byts V bv b) (hbl : b.length ≤ 1000000) : Calls Try.prog 28 #[.pointer (some ⟨tb, 0, none⟩), bv] V (Ret (.bool (memB L b)) (V = ·)) := by
  obtain ⟨S, N, h1, -, -⟩ := h.st
  exact h1.has hb hbl
set_option maxHeartbeats 4000000 in
set_option maxRecDepth 100000 in
theorem full_bad (ao : Option Addr) (n cap : Nat) (i : Int) (w : World) (h : 64 < n ∨ i < 0 ∨ 999 < i) : Calls Try.prog 6 #[.slice ao n cap, .int .i64 i] w (Ret (.bool true) (Frm [] w)) := by
  have h' : ((64 : Int) < n) ∨ (¬ (64 : Int) < n ∧ i < 0) ∨ (¬ (64 : Int) < n ∧ ¬ i < 0 ∧ 999 < i) := by omega
  rcases h' with h1 | ⟨h1, h2⟩ | ⟨h1, h2, h3⟩
  all_goals
    clear h
    go_enter Try.func6, Try.ntmps6
    go_wp2_with (go_at_call 12; go_must (refine (known_any _).mono ?_; rintro e w' ⟨rfl, hf⟩; have HF := Lib.hid hf; clear hf))
    go_ret
    exact ⟨rfl, HF.out⟩
set_option maxHeartbeats 4000000 in
set_option maxRecDepth 100000 in
theorem full_law (ao : Option Addr) (cap i : Nat) (b : Wd) (w : World) (hb : Byts w (.slice ao b.length cap) b) (hbl : b.length ≤ 64) (hi : i < 1000) : Calls Try.prog 6 #[.slice ao b.length cap, .int .i64 i] w (Ret (.bool true) (Frm [] w)) := by
  have HB := Lib.hid hb
  obtain ⟨n, hn⟩ : ∃ n, b.length = n := ⟨_, rfl⟩
  rw [hn] at HB hbl ⊢
  have HN := Lib.hid hn
  have h1 : ¬ (64 : Int) < (n : Int) := by omega
  have h2 : ¬ (i : Int) < 0 := by omega
  have h3 : ¬ 999 < (i : Int) := by omega
  have HBL : Hid (b.length ≤ 64) := Lib.hid (by omega)
  clear hb hn
  go_enter Try.func6, Try.ntmps6
  go_upto_region 6 with (first
    | (go_at_call 13; go_must (refine (k_empty _).mono ?_; rintro e w0 ⟨v, rfl, tb, rfl, hk⟩; have X0 := Lib.hid hk; clear hk))
    | (go_at_call 16; go_must (refine (num_any _ _).mono ?_; rintro e w' ⟨rfl, rfl⟩)))
  go_wp2
  go_loopw [7] (fun s7 wr => ∃ k : Nat, s7 = .int .i64 k ∧ k ≤ 1000 ∧ KS w tb (namesL k) k wr) (fun s7 _ => 1000 - (intOf s7).toNat)
  case atStart => exact ⟨0, rfl, by omega, X0.out⟩
  case round =>
    obtain ⟨k, rfl, hk, hX⟩ := hrel
    have X1 := Lib.hid hX
    clear hX X0
    by_cases hlt : k < 1000
    · have hlt' : (k : Int) < 1000 := by omega
      have HE := Lib.hid (names_ins hlt)
      go_wp2_with (first
        | (go_at_call 27; go_must (refine (name_any k (by omega) _).mono ?_; rintro e w2 ⟨v, rfl, h4⟩; obtain ⟨va, vc, rfl⟩ := own_shape h4.1; have H4 := Lib.hid h4; clear h4))
        | (go_at_call 20; go_must (refine ((X1.out.frm H4.out.2).ins (nameL k) 0 (namesL (k + 1)) H4.out.byts (by simp [nameL]) HE.out.1 HE.out.2 (by omega)).mono ?_; rintro e w3 ⟨rfl, hx⟩; have X3 := Lib.hid hx; clear hx))
        | (go_at_call 16; go_must (refine (num_any _ _).mono ?_; rintro e w' ⟨rfl, rfl⟩)))
      exact ⟨⟨k + 1, by simp, hlt, X3.out⟩, by simp [intOf]; omega⟩
    · obtain rfl : k = 1000 := by omega
      have hge : ¬ ((1000 : Nat) : Int) < 1000 := by omega
      have HF := Lib.hid (full_any b HBL.out)
      obtain ⟨m, hm⟩ : ∃ m, memB (namesL 1000) b = m := ⟨_, rfl⟩
      rw [hm] at HF
      have CH : Hid (Calls Try.prog 28 #[.pointer (some ⟨tb, 0, none⟩), .slice ao n cap] wr (Ret (.bool m) (wr = ·))) := Lib.hid (by
        rw [← hm]
        exact X1.out.has (HB.out.frm0 X1.out.fr) (by have := HBL.out; omega))
      have CI : Hid (∀ V, V = wr → Calls Try.prog 20 #[.pointer (some ⟨tb, 0, none⟩), .slice ao n cap] V (Ret (.int .i64 (if m then 11 else 7)) (fun V' => KS w tb (namesL 1000) 1001 V'))) := Lib.hid (fun V hV => by
        subst hV
        exact X1.out.ins b _ _ (HB.out.frm0 X1.out.fr) (by have := HBL.out; omega) HF.out.1 HF.out.2 (by omega))
      have hL := names_len 1000
      have HLN := Lib.hid hL
      have HRM := Lib.hid (full_rem hi); have HBK := Lib.hid (full_back hi)
      clear hk hlt hm hL
      cases m
      all_goals
        have kc : ∀ (w : World) (C : Array Value) (n c g : Nat), g = w.heap.size → (convert 23 23 (.slice (some ⟨g, 0, none⟩) n c)).run Try.prog (w.alloc (.cells C 5)) = .ok (.slice (some ⟨g, 0, none⟩) n c) (w.alloc (.cells C 5 (C.size, C.size + 1))) := fun w C n c g hg => by
          subst hg; exact Lib.run_convert_bytes_const (P := Try.prog) w 23 5 C n c Try.underlying23 Try.underlying5
        simp only [Bool.false_eq_true, if_false, if_true] at CI
        go_wp2_with (first
          | (go_at_call 28; go_must (refine CH.out.mono ?_; clear CH; rintro e w' ⟨rfl, rfl⟩))
          | (go_at_call 16; go_must (refine (num_any _ _).mono ?_; rintro e w' ⟨rfl, rfl⟩))
          | (go_at_call 20; go_must (first
              | (refine (CI.out _ rfl).mono ?_; clear CI; rintro e w3 ⟨rfl, hx⟩; have X3 := Lib.hid hx; clear hx X1)
              | (refine ((X5.out.frm H6.out.2).ins (nameL i) 0 (namesL 1000) H6.out.byts (by simp [nameL]) HBK.out.1 HBK.out.2 (by omega)).mono ?_; rintro e w7 ⟨rfl, hx⟩; have X7 := Lib.hid hx; clear hx X5)
              | (refine ((X7.out.frm ((Frm.refl [] w7).alloc _)).ins [109, 111, 114, 101] 7 (namesL 1000) (byts_mark w7 [109, 111, 114, 101] _ (4, 5) rfl) (by decide) full_more (full_any _ (by decide)).2 (by omega)).mono ?_; rintro e w8 ⟨rfl, hx⟩; have X8 := Lib.hid hx; clear hx X7)))
          | (go_at_call 25; go_must (refine (X3.out.len 1000 HLN.out).mono ?_; rintro e w' ⟨rfl, rfl⟩))
          | (go_at_call 27; go_must (first
              | (refine (name_any i (by omega) w3).mono ?_; rintro e w4 ⟨v, rfl, h4⟩; obtain ⟨va, vc, rfl⟩ := own_shape h4.1; have H4 := Lib.hid h4; clear h4)
              | (refine (name_any i (by omega) w5).mono ?_; rintro e w6 ⟨v, rfl, h6⟩; obtain ⟨vb, vd, rfl⟩ := own_shape h6.1; have H6 := Lib.hid h6; clear h6)))
          | (go_at_call 18; go_must (refine ((X3.out.frm H4.out.2).rem (nameL i) 0 _ H4.out.byts (by simp [nameL]) HRM.out.1 HRM.out.2).mono ?_; rintro e w5 ⟨rfl, hx⟩; have X5 := Lib.hid hx; clear hx X3))
          | (go_at_call 12; go_must (refine (known_any _).mono ?_; rintro e w9 ⟨rfl, hf⟩; have X9 := Lib.hid (X8.out.fr.trans hf); clear hf X8)))
        go_ret
        exact ⟨rfl, X9.out⟩
end Go.Proofs.Ytefpfcheafbfdaa
