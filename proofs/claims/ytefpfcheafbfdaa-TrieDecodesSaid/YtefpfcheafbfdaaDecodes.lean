/- TrieDecodes: the walk. -/
import Derived.Test.YtefpfcheafbfdaaDecT
import Derived.Test.YtefpfcheafbfdaaIs
namespace Go.Proofs.Ytefpfcheafbfdaa
open Go.RowKit Go.Maps Go.BigFrame

set_option maxHeartbeats 4000000 in
set_option maxRecDepth 100000 in
theorem decodes_big (v : Value) (b : Wd) (w : World) (h : Byts w v b) (hb : 500 < b.length) : Calls Try.prog 9 #[v] w (Ret (.bool true) (Frm [] w)) := by
  obtain ⟨ao, cap, rfl, -⟩ := h.len
  have hb' : (500 : Int) < (b.length : Int) := by omega
  clear h
  go_enter Try.func9, Try.ntmps9
  go_wp2_with (go_at_call 12; go_must (refine (known_any _).mono ?_; rintro e w2 ⟨rfl, hf⟩; have HF := Lib.hid hf; clear hf))
  go_ret
  exact ⟨rfl, HF.out⟩
theorem dec_all (v : Value) (b : Wd) (w : World) (h : Byts w v b) (h5 : b.length ≤ 500) : Calls Try.prog 37 #[v] w (RetV (NewTo w (decL b))) := by
  by_cases h2 : b.length < 2
  · exact dec_short v b w h h2
  · exact dec_any v b w h h2 (by omega) (.inl h5)
set_option maxHeartbeats 4000000 in
set_option maxRecDepth 100000 in
theorem decodes_law (v : Value) (b : Wd) (w : World) (h : Byts w v b) (hb : b.length ≤ 500) : Calls Try.prog 9 #[v] w (Ret (.bool true) (Frm [] w)) := by
  have C37 := Lib.hid (dec_all v b w h hb)
  have C38 := Lib.hid (rdec_any b hb)
  have HB := Lib.hid h
  obtain ⟨ao, cap, rfl, -⟩ := h.len
  obtain ⟨M, no, hR⟩ : ∃ M no, decL b = (M, no) := ⟨_, _, rfl⟩
  rw [hR] at C37 C38
  have hb' : ¬ (500 : Int) < (b.length : Int) := by omega
  have HCB : Hid (∀ V, Frm [] w V → (convert 23 9 (.slice ao b.length cap)).run Try.prog V = .ok (.string (txt b)) V) := Lib.hid fun V hf => (HB.out.frm0 hf).conv
  obtain ⟨n, hn⟩ : ∃ n, b.length = n := ⟨_, rfl⟩
  rw [hn] at hb' C37 HCB HB ⊢
  have hcv : (convert 23 9 (.slice ao n cap)).run Try.prog w = .ok (.string (txt b)) w := HCB.out w (Frm.refl _ _)
  clear h hR hn hcv
  by_cases h0 : no = 0
  · subst h0
    go_enter Try.func9, Try.ntmps9
    go_wp2_with (first
      | (go_at_call 37; go_must (refine C37.out.mono ?_; clear C37; rintro e w2 ⟨v, rfl, hf, xo, rfl, h⟩; rcases h with ⟨h, -⟩ | ⟨-, tb, S, N, rfl, h1, h2, h3⟩; (· exact absurd rfl h); have HF2 := Lib.hid hf; have HS2 := Lib.hid h1; have hcv := HCB.out _ hf; clear hf h1 h2 h3))
      | (go_at_call 38; go_must (refine (C38.out _).mono ?_; clear C38; rintro e w3 ⟨v, rfl, hf, u, rfl, h2⟩; obtain ⟨wa, wc, rfl, -⟩ := h2.len; have HF3 := Lib.hid hf; have HT3 := Lib.hid h2; have HS3 := Lib.hid (HS2.out.frm0 hf); clear hf h2 hcv))
      | (go_at_call 16; go_must (refine (num_any _ _).mono ?_; rintro e w' ⟨rfl, rfl⟩))
      | (go_at_call 17; go_must (refine (is_any HS3.out HT3.out [] (by simp) 9999).mono ?_; rintro e w4 ⟨rfl, hf⟩; have HF4 := Lib.hid ((HF2.out.trans HF3.out).trans hf); clear hf))
      | (go_at_call 12; go_must (refine (known_any _).mono ?_; rintro e w5 ⟨rfl, hf⟩; have HF5 := Lib.hid hf; clear hf)))
    go_ret
    exact ⟨rfl, HF4.out.trans HF5.out⟩
  · have hno : (no == 0) = false := by rw [beq_eq_false_iff_ne]; exact h0
    go_enter Try.func9, Try.ntmps9
    go_wp2_with (first
      | (go_at_call 37; go_must (refine C37.out.mono ?_; clear C37; rintro e w2 ⟨v, rfl, hf, xo, rfl, h⟩; rcases h with ⟨-, rfl⟩ | ⟨h, -⟩; (case inr => exact absurd h h0); have HF2 := Lib.hid hf; have hcv := HCB.out _ hf; clear hf))
      | (go_at_call 38; go_must (refine (C38.out _).mono ?_; clear C38; rintro e w3 ⟨v, rfl, hf, u, rfl, h2⟩; obtain ⟨wa, wc, rfl, -⟩ := h2.len; have HF3 := Lib.hid hf; clear hf h2 hcv))
      | (go_at_call 16; go_must (refine (num_any _ _).mono ?_; rintro e w' ⟨rfl, rfl⟩))
      | (go_at_call 12; go_must (refine (known_any _).mono ?_; rintro e w5 ⟨rfl, hf⟩; have HF5 := Lib.hid hf; clear hf)))
    go_ret
    exact ⟨rfl, (HF2.out.trans HF3.out).trans HF5.out⟩
end Go.Proofs.Ytefpfcheafbfdaa
