/- TrieCopies: the walk. -/
import Derived.Test.YtefpfcheafbfdaaIs
import Derived.Test.YtefpfcheafbfdaaWordsW
namespace Go.Proofs.Ytefpfcheafbfdaa
open Go.RowKit Go.Maps Go.BigFrame

/-- two sets side by side -/
structure TW (d : Nat) (w : World) (tb : Nat) (L : List Wd) (S : Nat → Prop) (N : Nat) (tc : Nat) (L2 : List Wd) (S2 : Nat → Prop) (N2 : Nat) (V : World) : Prop where
  a : St V tb L S N
  b : St V tc L2 S2 N2
  dis : ∀ k, S k → ¬ S2 k
  ga : ∀ k, S k → w.heap.size ≤ k
  gb : ∀ k, S2 k → w.heap.size ≤ k
  na : N ≤ d
  nb : N2 ≤ d
  fr : Frm [] w V
section
variable {d : Nat} {w V V' : World} {tb tc N N2 : Nat} {L L2 : List Wd} {S S2 : Nat → Prop} {lv bv : Value}
theorem TW.swap (h : TW d w tb L S N tc L2 S2 N2 V) : TW d w tc L2 S2 N2 tb L S N V := ⟨h.b, h.a, fun k h1 h2 => h.dis k h2 h1, h.gb, h.ga, h.nb, h.na, h.fr⟩
theorem TW.frm (h : TW d w tb L S N tc L2 S2 N2 V) (hf : Frm [] V V') : TW d w tb L S N tc L2 S2 N2 V' := ⟨h.a.frm0 hf, h.b.frm0 hf, h.dis, h.ga, h.gb, h.na, h.nb, h.fr.trans hf⟩
theorem TW.change (h : TW d w tb L S N tc L2 S2 N2 V) (hN : d ≤ 100000) (ht : Txts V lv L) (b : Wd) (hb : Byts V bv b) (hbl : b.length ≤ 1000000) :
    Calls Try.prog 30 #[.pointer (some ⟨tb, 0, none⟩), lv, bv] V (RetV fun v V' => Txts V' v (chgL L b) ∧ (∃ S' N', TW (d + 64) w tb (chgL L b) S' N' tc L2 S2 N2 V') ∧ ∀ u l, Txts V u l → Txts V' u l) := by
  have hna := h.na
  have hnb := h.nb
  refine (change_any h.a (by omega) ht hb hbl).mono ?_
  rintro e V' ⟨v, rfl, h1, S', N', k1, k2, k3, k4⟩
  refine ⟨_, rfl, h1, ⟨S', N', k1, h.b.frS k2 h.dis, fun k hk h2 => ?_, fun k hk => ?_, h.gb, by omega, by omega, k2.old h.fr h.ga⟩, fun u l hu => h.a.txts k2 hu⟩
  · rcases k3 k hk with h5 | h5
    · exact h.dis k h5 h2
    · have := h.b.lt h2; omega
  · rcases k3 k hk with h5 | h5
    · exact h.ga k h5
    · have := h.fr.size; omega
end
set_option maxHeartbeats 4000000 in
set_option maxRecDepth 100000 in
theorem copies_no (lv av bv : Value) (L : List Wd) (a b : Wd) (w : World) (hl : Wds w lv L) (ha : Byts w av a) (hb : Byts w bv b) (h : 20 < L.length ∨ fewL L 20 = false ∨ 80 < a.length ∨ 80 < b.length) : Calls Try.prog 7 #[lv, av, bv] w (Ret (.bool true) (Frm [] w)) := by
  obtain ⟨bo, bc, rfl, -⟩ := hb.len
  obtain ⟨ao, ac, rfl, -⟩ := ha.len
  have CF : (∃ f, Calls Try.prog 11 #[lv, .int .i64 (20 : Nat)] w (Ret (.bool f) (w = ·)) ∧ (f = false ∨ 80 < a.length ∨ 80 < b.length)) := by
    rcases Nat.lt_or_ge 20 L.length with h1 | h1
    · exact ⟨false, few_big w lv L 20 hl h1, .inl rfl⟩
    · refine ⟨_, few_any w lv L 20 hl (by omega), ?_⟩
      rcases h with h | h | h
      · omega
      · exact .inl h
      · exact .inr h
  obtain ⟨lo, lc, rfl, -⟩ := hl
  obtain ⟨f, CF, hf⟩ := CF
  have CF := Lib.hid CF
  obtain ⟨nb, hnb⟩ : ∃ nb, b.length = nb := ⟨_, rfl⟩
  obtain ⟨na, hna⟩ : ∃ na, a.length = na := ⟨_, rfl⟩
  rw [hnb, hna] at hf ⊢
  clear h hnb hb ha hna
  have h3 : f = false ∨ (f = true ∧ (80 : Int) < (na : Int)) ∨ (f = true ∧ ¬ (80 : Int) < (na : Int) ∧ (80 : Int) < (nb : Int)) := by
    cases f with
    | false => exact .inl rfl
    | true =>
      rcases hf with h | h
      · cases h
      · rcases Nat.lt_or_ge 80 na with h1 | h1
        · exact .inr (.inl ⟨rfl, by omega⟩)
        · exact .inr (.inr ⟨rfl, by omega, by omega⟩)
  clear hf
  rcases h3 with rfl | ⟨rfl, h1⟩ | ⟨rfl, h1, h2⟩
  all_goals
    go_enter Try.func7, Try.ntmps7
    go_wp2_with (first
      | (go_at_call 11; go_must (refine CF.out.mono ?_; clear CF; rintro e w' ⟨rfl, rfl⟩))
      | (go_at_call 12; go_must (refine (known_any _).mono ?_; rintro e w2 ⟨rfl, hf⟩; have HF := Lib.hid hf; clear hf)))
    go_ret
    exact ⟨rfl, HF.out⟩
set_option maxHeartbeats 4000000 in
set_option maxRecDepth 100000 in
theorem copies_law (lv av bv : Value) (L : List Wd) (a b : Wd) (w : World) (hl : Wds w lv L) (hL : L.length ≤ 20) (h80 : ∀ x ∈ L, x.length ≤ 80) (ha : Byts w av a) (ha80 : a.length ≤ 80) (hb : Byts w bv b) (hb80 : b.length ≤ 80) : Calls Try.prog 7 #[lv, av, bv] w (Ret (.bool true) (Frm [] w)) := by
  have CF := few_any w lv L 20 hl (by omega)
  rw [fewL_iff.2 ⟨hL, h80⟩] at CF
  have CF := Lib.hid CF
  have CN := Lib.hid (new_any lv L w hl (by omega) (fun x hx => by have := h80 x hx; omega))
  have HL := Lib.hid hl; have HB := Lib.hid hb; have HA := Lib.hid ha
  have C15 : Hid (∀ V, Frm [] w V → Calls Try.prog 15 #[lv] V (RetV (FreshT V L))) := Lib.hid fun V hf => texts_any (HL.out.frm0 hf) (by omega) (fun x hx => by have := h80 x hx; omega)
  have C14 : Hid (∀ V v, Txts V v L → Calls Try.prog 14 #[v] V (RetV (RfTo V (newF [] L).1 (newF [] L).2))) := Lib.hid fun V v ht => rnew_any ht (by omega) (fun x hx => by have := h80 x hx; omega)
  obtain ⟨M, no, hR⟩ : ∃ M no, newF [] L = (M, no) := ⟨_, _, rfl⟩
  rw [hR] at CN C14
  obtain ⟨lo, lc, rfl, hlc, hcs⟩ := hl
  obtain ⟨bo, bc, rfl, -⟩ := hb.len
  obtain ⟨ao, ac, rfl, -⟩ := ha.len
  have HBL : Hid (b.length ≤ 80) := Lib.hid hb80
  have HAL : Hid (a.length ≤ 80) := Lib.hid ha80
  have HB1 : Hid (b.length ≤ 1000) := Lib.hid (by omega)
  have HA1 : Hid (a.length ≤ 1000) := Lib.hid (by omega)
  have HB6 : Hid (b.length ≤ 1000000) := Lib.hid (by omega)
  have HA6 : Hid (a.length ≤ 1000000) := Lib.hid (by omega)
  have HCB : Hid (∀ V, Frm [] w V → (convert 23 9 (.slice bo b.length bc)).run Try.prog V = .ok (.string (txt b)) V) := Lib.hid fun V hf => (HB.out.frm0 hf).conv
  have HCA : Hid (∀ V, Frm [] w V → (convert 23 9 (.slice ao a.length ac)).run Try.prog V = .ok (.string (txt a)) V) := Lib.hid fun V hf => (HA.out.frm0 hf).conv
  obtain ⟨nb, hnb⟩ : ∃ nb, b.length = nb := ⟨_, rfl⟩
  obtain ⟨na, hna⟩ : ∃ na, a.length = na := ⟨_, rfl⟩
  rw [hnb] at hb80 HB HCB ⊢
  rw [hna] at ha80 HA HCA ⊢
  have hb80' : ¬ (80 : Int) < (nb : Int) := by omega
  have ha80' : ¬ (80 : Int) < (na : Int) := by omega
  obtain ⟨n, hnn⟩ : ∃ n, L.length = n := ⟨_, rfl⟩
  rw [hnn] at CF CN HL C15 hlc hL ⊢
  by_cases h0 : no = 0
  · subst h0
    clear hR hcs hb ha hnb hna hnn h80 HL
    go_enter Try.func7, Try.ntmps7
    go_wp2_with (first
      | (go_at_call 11; go_must (refine CF.out.mono ?_; clear CF; rintro e w' ⟨rfl, rfl⟩))
      | (go_at_call 13; go_must (refine CN.out.mono ?_; clear CN; rintro e w2 ⟨v, rfl, hf, xo, rfl, h⟩; rcases h with ⟨h, -⟩ | ⟨-, tb, S, N, rfl, h1, h2, h3⟩; (· exact absurd rfl h); have HF2 := Lib.hid hf; have HS2 := Lib.hid h1; have HK2 := Lib.hid h2; have HN2 := Lib.hid h3; clear hf h1 h2 h3))
      | (go_at_call 15; go_must (refine (C15.out _ HF2.out).mono ?_; clear C15; rintro e w3 ⟨v, rfl, h1, h2⟩; obtain ⟨ta, tc0, rfl⟩ := own_shape h1; have HT3 := Lib.hid (Txts.of_own h1); have HF3 := Lib.hid h2; clear h1 h2))
      | (go_at_call 14; go_must (refine (C14.out _ _ HT3.out).mono ?_; clear C14; rintro e w4 ⟨v, rfl, v0, rfl, h1, h2⟩; obtain ⟨wa, wc4, rfl, -⟩ := h1.len; have HT4 := Lib.hid h1; have HS4 := Lib.hid ((HS2.out.frm0 HF3.out).frm0 h2); have HF4 := Lib.hid ((HF2.out.trans HF3.out).trans h2); clear h1 h2 HF2 HF3 HS2 HT3))
      | (go_at_call 16; go_must (refine (num_any _ _).mono ?_; rintro e w' ⟨rfl, rfl⟩))
      | (go_at_call 29; go_must (refine HS4.out.copy.mono ?_; rintro e w5 ⟨v, rfl, hf, tc, S2, N2, rfl, h1, h2, h3⟩; have X5 : Hid (TW 71000 w tb M S N tc M S2 N2 w5) := Lib.hid ⟨HS4.out.frm0 hf, h1, (fun k q1 q2 => by have := HS4.out.lt q1; have := h2 k q2; omega), HK2.out, (fun k q2 => Nat.le_trans HF4.out.size (h2 k q2)), (by have := HN2.out; omega), (by omega), HF4.out.trans hf⟩; have HT5 := Lib.hid (HT4.out.frm0 hf); clear hf h1 h2 HS4 HF4 HT4 HK2))
      | (go_at_call 30; go_must (first
          | (refine (X5.out.change (by omega) HT5.out a (HA.out.frm0 X5.out.fr) HA6.out).mono ?_; rintro e w6 ⟨v, rfl, h1, ⟨S3, N3, h2⟩, h4⟩; obtain ⟨oa, oc, rfl, -⟩ := h1.len; have T6 := Lib.hid h1; have HT6 := Lib.hid (h4 _ _ HT5.out); have X6 := Lib.hid h2; clear h1 h2 h4 X5 HT5)
          | (refine (X6.out.swap.change (by omega) HT6.out b (HB.out.frm0 X6.out.fr) HB6.out).mono ?_; rintro e w7 ⟨v, rfl, h1, ⟨S4, N4, h2⟩, h4⟩; obtain ⟨pa, pc, rfl, -⟩ := h1.len; have T7 := Lib.hid h1; have T6 := Lib.hid (h4 _ _ T6.out); have X7 := Lib.hid h2.swap; have hcv := HCB.out w7 h2.fr; clear h1 h2 h4 X6 HT6)))
      | (go_at_call 17; go_must (first
          | (refine (is_any X7.out.a T6.out b HB1.out 9999).mono ?_; rintro e w8 ⟨rfl, hf⟩; have X8 := Lib.hid (X7.out.frm hf); have T8 := Lib.hid (T7.out.frm0 hf); replace hcv := HCA.out w8 (X7.out.fr.trans hf); clear hf X7 T7 T6)
          | (refine (is_any X8.out.b T8.out a HA1.out 9999).mono ?_; rintro e w9 ⟨rfl, hf⟩; have X9 := Lib.hid (X8.out.frm hf); clear hf X8 T8)))
      | (go_at_call 12; go_must (refine (known_any _).mono ?_; rintro e w10 ⟨rfl, hf⟩; have HF10 := Lib.hid (X9.out.fr.trans hf); clear hf X9)))
    go_ret
    exact ⟨rfl, HF10.out⟩
  · have hno : (no == 0) = false := by rw [beq_eq_false_iff_ne]; exact h0
    clear hR hcs hb ha hnb hna hnn h80 HL HCB HCA HB HA
    go_enter Try.func7, Try.ntmps7
    go_wp2_with (first
      | (go_at_call 11; go_must (refine CF.out.mono ?_; clear CF; rintro e w' ⟨rfl, rfl⟩))
      | (go_at_call 13; go_must (refine CN.out.mono ?_; clear CN; rintro e w2 ⟨v, rfl, hf, xo, rfl, -⟩; have HF2 := Lib.hid hf; clear hf))
      | (go_at_call 15; go_must (refine (C15.out _ HF2.out).mono ?_; clear C15; rintro e w3 ⟨v, rfl, h1, h2⟩; obtain ⟨ta, tc, rfl⟩ := own_shape h1; have HT3 := Lib.hid (Txts.of_own h1); have HF3 := Lib.hid h2; clear h1 h2))
      | (go_at_call 14; go_must (refine (C14.out _ _ HT3.out).mono ?_; clear C14; rintro e w4 ⟨v, rfl, v0, rfl, h1, h2⟩; obtain ⟨wa, wc4, rfl, -⟩ := h1.len; have HF4 := Lib.hid h2; clear h1 h2))
      | (go_at_call 16; go_must (refine (num_any _ _).mono ?_; rintro e w' ⟨rfl, rfl⟩))
      | (go_at_call 12; go_must (refine (known_any _).mono ?_; rintro e w5 ⟨rfl, hf⟩; have HF5 := Lib.hid hf; clear hf)))
    go_ret
    exact ⟨rfl, ((HF2.out.trans HF3.out).trans HF4.out).trans HF5.out⟩
end Go.Proofs.Ytefpfcheafbfdaa
