/- TrieNone: the walk. -/
import Derived.Test.YtefpfcheafbfdaaKnown
namespace Go.Proofs.Ytefpfcheafbfdaa
open Go.RowKit Go.Maps Go.BigFrame

/-- what stays -/
structure KZ (w : World) (xo : Option Addr) (bv : Value) (b : Wd) (V : World) : Prop where
  t : T0 V xo
  b : Byts V bv b
  fr : Frm [] w V
theorem KZ.frm {w V V' : World} {xo : Option Addr} {bv : Value} {b : Wd} (h : KZ w xo bv b V) (hf : Frm [] V V') : KZ w xo bv b V' := ⟨h.t.frm0 hf, h.b.frm0 hf, h.fr.trans hf⟩
set_option maxHeartbeats 4000000 in
set_option maxRecDepth 100000 in
theorem none_law (ao : Option Addr) (cap : Nat) (b : Wd) (z : Bool) (w : World) (hb : Byts w (.slice ao b.length cap) b) : Calls Try.prog 8 #[.slice ao b.length cap, .bool z] w (Ret (.bool true) (Frm [] w)) := by
  by_cases h80 : 80 < b.length
  · obtain ⟨n, hn⟩ : ∃ n, b.length = n := ⟨_, rfl⟩
    rw [hn] at h80 ⊢
    have h80' : (80 : Int) < (n : Int) := by omega
    clear hb hn
    go_enter Try.func8, Try.ntmps8
    go_wp2_with (go_at_call 12; go_must (refine (known_any _).mono ?_; rintro e w' ⟨rfl, hf⟩; have HF := Lib.hid hf; clear hf))
    go_ret
    exact ⟨rfl, HF.out⟩
  · obtain ⟨n, hn⟩ : ∃ n, b.length = n := ⟨_, rfl⟩
    have h80' : ¬ (80 : Int) < (n : Int) := by omega
    have HN := Lib.hid hn
    have HBL : Hid (b.length ≤ 80) := Lib.hid (by omega)
    rw [hn] at hb ⊢
    have HB := Lib.hid hb
    have X1 : Hid (KZ w none (.slice ao n cap) b w) := Lib.hid ⟨.inl rfl, HB.out, Frm.refl _ _⟩
    have X2 : Hid (KZ w (some ⟨w.heap.size, 0, none⟩) (.slice ao n cap) b (w.alloc (.cells #[.pointer none, .int .i64 0] 55))) := Lib.hid ⟨.inr ⟨_, rfl, heap_alloc_new _ _⟩, HB.out.frm0 ((Frm.refl [] _).alloc _), (Frm.refl [] _).alloc _⟩
    have e0 : Calls Try.prog 8 #[.slice ao n cap, .bool z] w (Ret (.bool true) (Frm [] w)) ↔ Calls Try.prog 8 #[.slice ao n cap, .bool z] w (Ret (.bool true) (Frm [] w)) := Iff.rfl
    clear hb hn h80 HB e0
    cases z
    · have X0 : Hid (KZ w none (.slice ao n cap) b w) := X1
      have hcv0 := X0.out.b.conv
      clear X1 X2
      go_enter Try.func8, Try.ntmps8
      go_upto_region 6 with fail
      go_wp2_with (first
        | (go_at_call 31; go_must (refine (encode_t0 X0.out.t).mono ?_; rintro e w' ⟨rfl, rfl⟩))
        | (go_at_call 16; go_must (refine (num_any _ _).mono ?_; rintro e w' ⟨rfl, rfl⟩))
        | (go_at_call 20; go_must (refine (insert_t0 X0.out.t _).mono ?_; rintro e w' ⟨rfl, rfl⟩))
        | (go_at_call 18; go_must (refine (remove_t0 X0.out.t _).mono ?_; rintro e w' ⟨rfl, rfl⟩))
        | (go_at_call 28; go_must (refine (has_t0 X0.out.t _).mono ?_; rintro e w' ⟨rfl, rfl⟩))
        | (go_at_call 25; go_must (refine (len_t0 X0.out.t).mono ?_; rintro e w' ⟨rfl, rfl⟩))
        | (go_at_call 26; go_must (refine (nodes_t0 X0.out.t).mono ?_; rintro e w' ⟨rfl, rfl⟩))
        | (go_at_call 32; go_must (refine (lg_t0 X0.out.t b).mono ?_; rintro e v1 ⟨rfl, hf⟩; have Y1 := Lib.hid (X0.out.frm hf); clear hf X0))
        | (go_at_call 33; go_must (refine (next_t0 Y1.out.t _).mono ?_; rintro e w' ⟨rfl, rfl⟩))
        | (go_at_call 34; go_must (refine (common_t0 Y1.out.t).mono ?_; rintro e w' ⟨rfl, rfl⟩))
        | (go_at_call 22; go_must (refine (words_of (list_t0 Y1.out.t _)).mono ?_; rintro e v2 ⟨v, rfl, B, u, rfl, hr, hf⟩; have WR := Lib.hid hr; have Y2 := Lib.hid (Y1.out.frm hf); clear hf hr Y1))
        | (go_at_call 24; go_must (refine (over_any B _ u _ [] 9 _ WR.out (Txts.nil _) (by decide) (by simp)).mono ?_; rintro e v3 ⟨rfl, hf⟩; have Y3 := Lib.hid (Y2.out.frm hf); have hcv3 := Y3.out.b.conv; clear hf WR Y2))
        | (go_at_call 35; go_must (refine (mk_t0 Y3.out.t b).mono ?_; rintro e v4 ⟨rfl, hf⟩; have Y4 := Lib.hid (Y3.out.frm hf); clear hf Y3 hcv3))
        | (go_at_call 36; go_must (refine (free_t0 Y4.out.t).mono ?_; rintro e v5 ⟨rfl, hf⟩; have Y5 := Lib.hid (Y4.out.frm hf); clear hf Y4))
        | (go_at_call 29; go_must (refine (copy_t0 Y5.out.t).mono ?_; rintro e w' ⟨rfl, rfl⟩))
        | (go_at_call 12; go_must (refine (known_any _).mono ?_; rintro e v6 ⟨rfl, hf⟩; have Y6 := Lib.hid (Y5.out.frm hf); clear hf Y5)))
      go_ret
      exact ⟨rfl, Y6.out.fr⟩
    · have X0 : Hid (KZ w (some ⟨w.heap.size, 0, none⟩) (.slice ao n cap) b (w.alloc (.cells #[.pointer none, .int .i64 0] 55))) := X2
      have hcv0 := X0.out.b.conv
      clear X1 X2
      go_enter Try.func8, Try.ntmps8
      go_upto_region 6 with fail
      go_wp2_with (first
        | (go_at_call 31; go_must (refine (encode_t0 X0.out.t).mono ?_; rintro e w' ⟨rfl, rfl⟩))
        | (go_at_call 16; go_must (refine (num_any _ _).mono ?_; rintro e w' ⟨rfl, rfl⟩))
        | (go_at_call 20; go_must (refine (insert_t0 X0.out.t _).mono ?_; rintro e w' ⟨rfl, rfl⟩))
        | (go_at_call 18; go_must (refine (remove_t0 X0.out.t _).mono ?_; rintro e w' ⟨rfl, rfl⟩))
        | (go_at_call 28; go_must (refine (has_t0 X0.out.t _).mono ?_; rintro e w' ⟨rfl, rfl⟩))
        | (go_at_call 25; go_must (refine (len_t0 X0.out.t).mono ?_; rintro e w' ⟨rfl, rfl⟩))
        | (go_at_call 26; go_must (refine (nodes_t0 X0.out.t).mono ?_; rintro e w' ⟨rfl, rfl⟩))
        | (go_at_call 32; go_must (refine (lg_t0 X0.out.t b).mono ?_; rintro e v1 ⟨rfl, hf⟩; have Y1 := Lib.hid (X0.out.frm hf); clear hf X0))
        | (go_at_call 33; go_must (refine (next_t0 Y1.out.t _).mono ?_; rintro e w' ⟨rfl, rfl⟩))
        | (go_at_call 34; go_must (refine (common_t0 Y1.out.t).mono ?_; rintro e w' ⟨rfl, rfl⟩))
        | (go_at_call 22; go_must (refine (words_of (list_t0 Y1.out.t _)).mono ?_; rintro e v2 ⟨v, rfl, B, u, rfl, hr, hf⟩; have WR := Lib.hid hr; have Y2 := Lib.hid (Y1.out.frm hf); clear hf hr Y1))
        | (go_at_call 24; go_must (refine (over_any B _ u _ [] 9 _ WR.out (Txts.nil _) (by decide) (by simp)).mono ?_; rintro e v3 ⟨rfl, hf⟩; have Y3 := Lib.hid (Y2.out.frm hf); have hcv3 := Y3.out.b.conv; clear hf WR Y2))
        | (go_at_call 35; go_must (refine (mk_t0 Y3.out.t b).mono ?_; rintro e v4 ⟨rfl, hf⟩; have Y4 := Lib.hid (Y3.out.frm hf); clear hf Y3 hcv3))
        | (go_at_call 36; go_must (refine (free_t0 Y4.out.t).mono ?_; rintro e v5 ⟨rfl, hf⟩; have Y5 := Lib.hid (Y4.out.frm hf); clear hf Y4))
        | (go_at_call 29; go_must (refine (copy_t0 Y5.out.t).mono ?_; rintro e w' ⟨rfl, rfl⟩))
        | (go_at_call 12; go_must (refine (known_any _).mono ?_; rintro e v6 ⟨rfl, hf⟩; have Y6 := Lib.hid (Y5.out.frm hf); clear hf Y5)))
      go_ret
      exact ⟨rfl, Y6.out.fr⟩
end Go.Proofs.Ytefpfcheafbfdaa
