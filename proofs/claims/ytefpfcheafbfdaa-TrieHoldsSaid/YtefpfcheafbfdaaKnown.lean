/- The chapter's examples, in plain words. known. -/
import Derived.Test.YtefpfcheafbfdaaSmall
import Derived.Lib.SlBytesConst
namespace Go.Proofs.Ytefpfcheafbfdaa

abbrev kA : Wd := [97]
abbrev kB : Wd := [97, 98, 99]
abbrev kC : Wd := [97, 98, 100]
abbrev k4 : List Wd := [[], kA, kB, kC]
abbrev k2 : List Wd := [kB, kC]
theorem k_new : newF [] [kA, kB, kC, []] = (k4, 0) := by decide
theorem k_nodes : nodesL k4 = 5 := by decide
theorem k_long1 : longL (pre k4) (memB k4) [97, 98, 120] = (1, true) := by decide
theorem k_long2 : longL (pre k4) (memB k4) [98] = (0, true) := by decide
theorem k_next1 : kidsP (pre k4) [97, 98] = [99, 100] := by decide +kernel
theorem k_next2 : kidsP (pre k4) [97, 98, 99] = [] := by decide +kernel
theorem k_comm : commL k4 = [] := by decide +kernel
theorem k_with : withP k4 [97, 98] = [kB, kC] := by decide
theorem k_mark1 : markL k4 kB = (3, 0) := by decide
theorem k_mark2 : markL k4 kA = (0, 9) := by decide
theorem k_mark3 : markL k4 [120] = (0, 9) := by decide
theorem k_ins : insEL k4 kA = 11 := by decide
theorem k_rem : remE k4 [97, 98] = 9 := by decide
theorem k_rem0 : remE k4 [] = 0 := by decide
theorem k_remA : remE [kA, kB, kC] kA = 0 := by decide
theorem k_nodes2 : nodesL k2 = 5 := by decide
theorem k_comm2 : commL k2 = [97, 98] := by decide +kernel
theorem k_free : freeL k2 = true := by decide +kernel
theorem k_enc : encL k2 = [0, 2, 3, 97, 98, 99, 3, 97, 98, 100] := by decide
theorem k_r0 : remA k4 [] = [kA, kB, kC] := by decide
theorem k_r1 : remA [kA, kB, kC] kA = k2 := by decide
theorem k_i : insA k4 kA = k4 := by decide
theorem k_r : remA k4 [97, 98] = k4 := by decide
end Go.Proofs.Ytefpfcheafbfdaa
namespace Go.Proofs.Ytefpfcheafbfdaa
open Go.RowKit Go.Maps Go.BigFrame

/-- a constant's bytes, marked -/
theorem byts_mark (w : World) (l : Wd) (g : Nat) (fr : Nat × Nat) (hg : g = w.heap.size) : Byts (w.alloc (.cells (l.map u8).toArray 5 fr)) (.slice (some ⟨g, 0, none⟩) l.length l.length) l := by
  subst hg
  refine ⟨_, _, rfl, Nat.le_refl _, fun k x hk => ⟨_, 0, rfl, ?_⟩⟩
  rw [Nat.zero_add, cell_of (heap_alloc_new _ _) k]
  simp [hk]
/-- the world of the four words -/
def kW (w : World) : World := (((w.alloc (.cells #[.int .u8 97] 5 (1, 2))).alloc (.cells #[.int .u8 97, .int .u8 98, .int .u8 99] 5 (3, 4))).alloc (.cells #[.int .u8 97, .int .u8 98, .int .u8 100] 5 (3, 4))).alloc
  (.cells #[.slice (some ⟨w.heap.size, 0, none⟩) 1 1, .slice (some ⟨w.heap.size + 1, 0, none⟩) 3 3, .slice (some ⟨w.heap.size + 1 + 1, 0, none⟩) 3 3, .slice none 0 0] 23)
theorem kW_frm (w : World) : Frm [] w (kW w) := ((((Frm.refl _ _).alloc _).alloc _).alloc _).alloc _
theorem k_wds (w : World) : Wds (kW w) (.slice (some ⟨w.heap.size + 1 + 1 + 1, 0, none⟩) 4 4) [kA, kB, kC, []] := by
  have b1 : Byts (w.alloc (.cells #[.int .u8 97] 5 (1, 2))) (.slice (some ⟨w.heap.size, 0, none⟩) 1 1) kA := byts_mark w kA w.heap.size (1, 2) rfl
  have b2 := byts_mark (w.alloc (.cells #[.int .u8 97] 5 (1, 2))) kB (w.heap.size + 1) (3, 4) (by simp)
  have b3 := byts_mark ((w.alloc (.cells #[.int .u8 97] 5 (1, 2))).alloc (.cells #[.int .u8 97, .int .u8 98, .int .u8 99] 5 (3, 4))) kC (w.heap.size + 1 + 1) (3, 4) (by simp)
  have hb : (kW w).heap[w.heap.size + 1 + 1 + 1]? = some (.cells #[.slice (some ⟨w.heap.size, 0, none⟩) 1 1, .slice (some ⟨w.heap.size + 1, 0, none⟩) 3 3, .slice (some ⟨w.heap.size + 1 + 1, 0, none⟩) 3 3, .slice none 0 0] 23 (0, 0)) := by
    unfold kW; exact alloc_top (by simp)
  have f1 : Frm [] (w.alloc (.cells #[.int .u8 97] 5 (1, 2))) (kW w) := (((Frm.refl _ _).alloc _).alloc _).alloc _
  have f2 : Frm [] ((w.alloc (.cells #[.int .u8 97] 5 (1, 2))).alloc (.cells #[.int .u8 97, .int .u8 98, .int .u8 99] 5 (3, 4))) (kW w) := ((Frm.refl _ _).alloc _).alloc _
  have f3 : Frm [] (((w.alloc (.cells #[.int .u8 97] 5 (1, 2))).alloc (.cells #[.int .u8 97, .int .u8 98, .int .u8 99] 5 (3, 4))).alloc (.cells #[.int .u8 97, .int .u8 98, .int .u8 100] 5 (3, 4))) (kW w) := (Frm.refl _ _).alloc _
  refine ⟨_, _, rfl, Nat.le_refl _, fun k x hk => ?_⟩
  match k, hk with
  | 0, hk => cases hk; exact ⟨_, 0, _, _, rfl, by rw [cell_of hb]; rfl, b1.frm0 f1⟩
  | 1, hk => cases hk; exact ⟨_, 0, _, _, rfl, by rw [cell_of hb]; rfl, b2.frm0 f2⟩
  | 2, hk => cases hk; exact ⟨_, 0, _, _, rfl, by rw [cell_of hb]; rfl, b3.frm0 f3⟩
  | 3, hk => cases hk; exact ⟨_, 0, _, _, rfl, by rw [cell_of hb]; rfl, Byts.nil _⟩
  | k + 4, hk => simp at hk
/-- the set while the examples are gone through -/
structure KS (w : World) (tb : Nat) (L : List Wd) (d : Nat) (V : World) : Prop where
  st : ∃ S N, St V tb L S N ∧ (∀ k, S k → w.heap.size ≤ k) ∧ N ≤ 70000 + 64 * d
  fr : Frm [] w V
section
variable {w V V' : World} {tb d : Nat} {L : List Wd}
theorem KS.frm (h : KS w tb L d V) (hf : Frm [] V V') : KS w tb L d V' := by
  obtain ⟨S, N, h1, h2, h3⟩ := h.st
  exact ⟨⟨S, N, h1.frm0 hf, h2, h3⟩, h.fr.trans hf⟩
theorem KS.to {N0 : Nat} {S : Nat → Prop} (h : KS w tb L d V) (hS : ∀ k, S k → w.heap.size ≤ k) (hN : N0 ≤ 70000 + 64 * d) {L' : List Wd} (ht : StTo tb S N0 L' V V') : KS w tb L' (d + 1) V' := by
  obtain ⟨S', N', k1, k2, k3, k4⟩ := ht
  refine ⟨⟨S', N', k1, fun k hk => ?_, by omega⟩, k2.old h.fr hS⟩
  rcases k3 k hk with h1 | h1
  · exact hS k h1
  · have := h.fr.size; omega
theorem KS.len (h : KS w tb L d V) (n : Nat) (hn : L.length = n) : Calls Try.prog 25 #[.pointer (some ⟨tb, 0, none⟩)] V (Ret (.int .i64 n) (V = ·)) := by
  obtain ⟨S, N, h1, -, -⟩ := h.st
  subst hn; exact h1.len'
theorem KS.nodes (h : KS w tb L d V) (n : Nat) (hn : nodesL L = n) : Calls Try.prog 26 #[.pointer (some ⟨tb, 0, none⟩)] V (Ret (.int .i64 n) (KS w tb L d)) := by
  obtain ⟨S, N, h1, -, -⟩ := h.st
  subst hn; exact h1.nodes.mono fun _ _ ⟨e, hf⟩ => ⟨e, h.frm hf⟩
theorem KS.lg (h : KS w tb L d V) (b : Wd) (n : Nat) (i : Bool) (hb : b.length ≤ 1000) (hn : longL (pre L) (memB L) b = (n, i)) : Calls Try.prog 32 #[.pointer (some ⟨tb, 0, none⟩), .string (txt b), .int .i64 n, .bool i] V (Ret (.bool true) (KS w tb L d)) := by
  obtain ⟨S, N, h1, -, -⟩ := h.st
  have := lg_true h1 b hb
  rw [hn] at this
  exact this.mono fun _ _ ⟨e, hf⟩ => ⟨e, h.frm hf⟩
theorem KS.mrk (h : KS w tb L d V) (b : Wd) (n : Nat) (i : Int) (hb : b.length ≤ 1000) (hn : markL L b = (n, i)) : Calls Try.prog 35 #[.pointer (some ⟨tb, 0, none⟩), .string (txt b), .int .i64 n, .int .i64 i] V (Ret (.bool true) (KS w tb L d)) := by
  obtain ⟨S, N, h1, -, -⟩ := h.st
  have := mk_true h1 b hb
  rw [hn] at this
  exact this.mono fun _ _ ⟨e, hf⟩ => ⟨e, h.frm hf⟩
theorem KS.nxt (h : KS w tb L d V) {bv : Value} (b r : Wd) (n : Nat) (hb : Byts V bv b) (hbl : b.length ≤ 1000) (hr : kidsP (pre L) b = r) (hn : r.length = n) : Calls Try.prog 33 #[.pointer (some ⟨tb, 0, none⟩), bv] V (RetV fun v V' => ∃ a c, v = .slice a n c ∧ (convert 23 9 (.slice a n c)).run Try.prog V' = .ok (.string (txt r)) V' ∧ KS w tb L d V') := by
  obtain ⟨S, N, h1, -, -⟩ := h.st
  refine (h1.next hb (by omega)).mono ?_
  rintro e V' ⟨v, rfl, k1, k2⟩
  rw [hr] at k1
  obtain ⟨a, c, rfl, -⟩ := k1.len
  subst hn
  exact ⟨_, rfl, _, _, rfl, k1.conv, h.frm k2⟩
theorem KS.comm (h : KS w tb L d V) (r : Wd) (n : Nat) (hr : commL L = r) (hn : r.length = n) : Calls Try.prog 34 #[.pointer (some ⟨tb, 0, none⟩)] V (RetV fun v V' => ∃ a c, v = .slice a n c ∧ (convert 23 9 (.slice a n c)).run Try.prog V' = .ok (.string (txt r)) V' ∧ KS w tb L d V') := by
  obtain ⟨S, N, h1, -, -⟩ := h.st
  obtain ⟨NB, MB, h2, -⟩ := h1.ex
  refine (common_any h2 h1.h64).mono ?_
  rintro e V' ⟨v, rfl, k1, k2⟩
  rw [hr] at k1
  obtain ⟨a, c, rfl⟩ := own_shape k1
  subst hn
  exact ⟨_, rfl, _, _, rfl, (Byts.of_own k1).conv, h.frm k2⟩
theorem KS.words (h : KS w tb L d V) {bv : Value} (b : Wd) (M : List Wd) (hb : Byts V bv b) (hbl : b.length ≤ 1000) (hM : withP L b = M) : Calls Try.prog 22 #[.pointer (some ⟨tb, 0, none⟩), bv] V (RetV fun v V' => ∃ B base u, v = .func (.func 50) #[] #[.pointer (some ⟨B, 0, none⟩)] ∧ WdR B base u M V' ∧ KS w tb L d V') := by
  obtain ⟨S, N, h1, -, -⟩ := h.st
  refine (h1.words hb hbl).mono ?_
  rintro e V' ⟨v, rfl, B, u, rfl, k1, k2⟩
  rw [hM] at k1
  exact ⟨_, rfl, B, _, u, rfl, k1, h.frm k2⟩
theorem KS.ins (h : KS w tb L d V) {bv : Value} (b : Wd) (e0 : Int) (L' : List Wd) (hb : Byts V bv b) (hbl : b.length ≤ 1000000) (he : insEL L b = e0) (hL : insA L b = L') (hd : d ≤ 10000) : Calls Try.prog 20 #[.pointer (some ⟨tb, 0, none⟩), bv] V (Ret (.int .i64 e0) (fun V' => KS w tb L' (d + 1) V')) := by
  obtain ⟨S, N, h1, h2, h3⟩ := h.st
  subst he hL
  exact (h1.insert (by omega) hb hbl).mono fun _ _ ⟨e, k⟩ => ⟨e, h.to h2 h3 k⟩
theorem KS.rem (h : KS w tb L d V) {bv : Value} (b : Wd) (e0 : Int) (L' : List Wd) (hb : Byts V bv b) (hbl : b.length ≤ 1000000) (he : remE L b = e0) (hL : remA L b = L') : Calls Try.prog 18 #[.pointer (some ⟨tb, 0, none⟩), bv] V (Ret (.int .i64 e0) (fun V' => KS w tb L' (d + 1) V')) := by
  obtain ⟨S, N, h1, h2, h3⟩ := h.st
  subst he hL
  exact (h1.remove hb hbl).mono fun _ _ ⟨e, k⟩ => ⟨e, h.to h2 h3 k⟩
theorem KS.free (h : KS w tb L d V) (i : Bool) (hi : freeL L = i) : Calls Try.prog 36 #[.pointer (some ⟨tb, 0, none⟩)] V (Ret (.bool i) (KS w tb L d)) := by
  obtain ⟨S, N, h1, -, -⟩ := h.st
  subst hi; exact h1.free.mono fun _ _ ⟨e, hf⟩ => ⟨e, h.frm hf⟩
theorem KS.enc (h : KS w tb L d V) (r : Wd) (hr : encL L = r) : Calls Try.prog 31 #[.pointer (some ⟨tb, 0, none⟩)] V (RetV fun v V' => ∃ a c, v = .tuple #[.slice a r.length c, .int .i64 0] ∧ (convert 23 9 (.slice a r.length c)).run Try.prog V' = .ok (.string (txt r)) V' ∧ KS w tb L d V') := by
  obtain ⟨S, N, h1, -, -⟩ := h.st
  refine h1.encode.mono ?_
  rintro e V' ⟨v, rfl, v0, rfl, k1, k2⟩
  rw [hr] at k1
  obtain ⟨a, c, rfl⟩ := own_shape k1
  exact ⟨_, rfl, _, _, rfl, (Byts.of_own k1).conv, h.frm k2⟩
end
theorem k_start (w : World) : Calls Try.prog 13 #[.slice (some ⟨w.heap.size + 1 + 1 + 1, 0, none⟩) 4 4] (kW w) (RetV fun v w' => ∃ tb, v = .tuple #[.pointer (some ⟨tb, 0, none⟩), .int .i64 0] ∧ KS w tb k4 0 w') := by
  refine (new_any _ [kA, kB, kC, []] (kW w) (k_wds w) (by decide) (by decide)).mono ?_
  rintro e w' ⟨v, rfl, hf, xo, rfl, h⟩
  rw [k_new] at h ⊢
  rcases h with ⟨h, -⟩ | ⟨-, tb, S, N, rfl, h1, h2, h3⟩
  · exact absurd rfl h
  · exact ⟨_, rfl, tb, rfl, ⟨S, N, h1, fun k hk => Nat.le_trans (kW_frm w).size (h2 k hk), by omega⟩, (kW_frm w).trans hf⟩
set_option maxHeartbeats 4000000 in
set_option maxRecDepth 100000 in
theorem known_any (w : World) : Calls Try.prog 12 #[] w (Ret (.bool true) (Frm [] w)) := by
  have kc : ∀ (w : World) (C : Array Value) (n c g : Nat), g = w.heap.size → (convert 23 23 (.slice (some ⟨g, 0, none⟩) n c)).run Try.prog (w.alloc (.cells C 5)) = .ok (.slice (some ⟨g, 0, none⟩) n c) (w.alloc (.cells C 5 (C.size, C.size + 1))) := fun w C n c g hg => by
    subst hg; exact Lib.run_convert_bytes_const (P := Try.prog) w 23 5 C n c Try.underlying23 Try.underlying5
  have CN := Lib.hid (k_start w)
  unfold kW at CN
  go_enter Try.func12, Try.ntmps12
  go_upto_region 1 with fail
  go_upto_region 2 with (go_at_call 13; go_must (refine CN.out.mono ?_; clear CN; rintro e w0 ⟨v, rfl, tb, rfl, hk⟩; have X0 := Lib.hid hk; clear hk))
  go_upto_region 4 with (first
    | (go_at_call 16; go_must (refine (num_any _ _).mono ?_; rintro e w' ⟨rfl, rfl⟩))
    | (go_at_call 25; go_must (refine (X0.out.len 4 rfl).mono ?_; rintro e w' ⟨rfl, rfl⟩))
    | (go_at_call 26; go_must (refine (X0.out.nodes 5 k_nodes).mono ?_; rintro e w1 ⟨rfl, hk⟩; have X1 := Lib.hid hk; clear hk X0))
    | (go_at_call 32; go_must (first
        | (refine (X1.out.lg [97, 98, 120] 1 true (by decide) k_long1).mono ?_; rintro e w2 ⟨rfl, hk⟩; have X2 := Lib.hid hk; clear hk X1)
        | (refine (X2.out.lg [98] 0 true (by decide) k_long2).mono ?_; rintro e w3 ⟨rfl, hk⟩; have X3 := Lib.hid hk; clear hk X2)))
    | (go_at_call 33; go_must (first
        | (refine ((X3.out.frm ((Frm.refl [] w3).alloc _)).nxt [97, 98] [99, 100] 2 (byts_mark w3 [97, 98] _ (2, 3) rfl) (by decide) k_next1 rfl).mono ?_; rintro e w4 ⟨v, rfl, a4, c4, rfl, hcv, hk⟩; replace hcv : (convert 23 9 (.slice a4 2 c4)).run Try.prog w4 = .ok (.string { data := #[99, 100] }) w4 := hcv; have X4 := Lib.hid hk; clear hk X3)
        | (refine ((X4.out.frm ((Frm.refl [] w4).alloc _)).nxt [97, 98, 99] [] 0 (byts_mark w4 [97, 98, 99] _ (3, 4) rfl) (by decide) k_next2 rfl).mono ?_; rintro e w5 ⟨v, rfl, a5, c5, rfl, -, hk⟩; have X5 := Lib.hid hk; clear hk X4)))
    | (go_at_call 34; go_must (refine (X5.out.comm [] 0 k_comm rfl).mono ?_; rintro e w6 ⟨v, rfl, a6, c6, rfl, -, hk⟩; have X6 := Lib.hid hk; clear hk X5)))
  clear hcv
  go_upto_region 6 with (first
    | (go_at_call 22; go_must (refine ((X6.out.frm ((Frm.refl [] w6).alloc _)).words [97, 98] [kB, kC] (byts_mark w6 [97, 98] _ (2, 3) rfl) (by decide) k_with).mono ?_; rintro e w7 ⟨v, rfl, B, base, u, rfl, hr, hk⟩; have WR := Lib.hid hr; have X7 := Lib.hid hk; clear hk hr X6))
    | (go_at_call 24; go_must (refine (over_any B base u _ [kB, kC] 9 _ ⟨((Frm.refl [] w7).alloc _).at WR.out.1 (by simp), WR.out.2.frm0 ((Frm.refl [] w7).alloc _)⟩ (Txts.of_own (own_lit_txts (base := 0) [kB, kC] (Nat.zero_le _) (by decide))) (by decide) (by decide)).mono ?_; rintro e w8 ⟨rfl, hf⟩; have X8 := Lib.hid ((X7.out.frm ((Frm.refl [] w7).alloc _)).frm hf); clear hf WR X7))
    | (go_at_call 35; go_must (first
        | (refine (X8.out.mrk kB 3 0 (by decide) k_mark1).mono ?_; rintro e w9 ⟨rfl, hk⟩; have X9 := Lib.hid hk; clear hk X8)
        | (refine (X9.out.mrk kA 0 9 (by decide) k_mark2).mono ?_; rintro e w10 ⟨rfl, hk⟩; have X10 := Lib.hid hk; clear hk X9)
        | (refine (X10.out.mrk [120] 0 9 (by decide) k_mark3).mono ?_; rintro e w11 ⟨rfl, hk⟩; have X11 := Lib.hid hk; clear hk X10)))
    | (go_at_call 16; go_must (refine (num_any _ _).mono ?_; rintro e w' ⟨rfl, rfl⟩))
    | (go_at_call 20; go_must (refine ((X11.out.frm ((Frm.refl [] w11).alloc _)).ins kA 11 k4 (byts_mark w11 kA _ (1, 2) rfl) (by decide) k_ins k_i (by omega)).mono ?_; rintro e w12 ⟨rfl, hk⟩; have X12 := Lib.hid hk; clear hk X11))
    | (go_at_call 18; go_must (refine ((X12.out.frm ((Frm.refl [] w12).alloc _)).rem [97, 98] 9 k4 (byts_mark w12 [97, 98] _ (2, 3) rfl) (by decide) k_rem k_r).mono ?_; rintro e w13 ⟨rfl, hk⟩; have X13 := Lib.hid hk; clear hk X12)))
  go_wp2_with (first
    | (go_at_call 16; go_must (refine (num_any _ _).mono ?_; rintro e w' ⟨rfl, rfl⟩))
    | (go_at_call 18; go_must (first
        | (refine (X13.out.rem [] 0 [kA, kB, kC] (Byts.nil _) (by decide) k_rem0 k_r0).mono ?_; rintro e w14 ⟨rfl, hk⟩; have X14 := Lib.hid hk; clear hk X13)
        | (refine ((X14.out.frm ((Frm.refl [] w14).alloc _)).rem kA 0 k2 (byts_mark w14 kA _ (1, 2) rfl) (by decide) k_remA k_r1).mono ?_; rintro e w15 ⟨rfl, hk⟩; have X15 := Lib.hid hk; clear hk X14)))
    | (go_at_call 26; go_must (refine (X15.out.nodes 5 k_nodes2).mono ?_; rintro e w16 ⟨rfl, hk⟩; have X16 := Lib.hid hk; clear hk X15))
    | (go_at_call 34; go_must (refine (X16.out.comm [97, 98] 2 k_comm2 rfl).mono ?_; rintro e w17 ⟨v, rfl, a17, c17, rfl, hcv, hk⟩; replace hcv : (convert 23 9 (.slice a17 2 c17)).run Try.prog w17 = .ok (.string { data := #[97, 98] }) w17 := hcv; have X17 := Lib.hid hk; clear hk X16))
    | (go_at_call 36; go_must (refine (X17.out.free true k_free).mono ?_; rintro e w18 ⟨rfl, hk⟩; have X18 := Lib.hid hk; clear hk X17))
    | (go_at_call 31; go_must (refine (X18.out.enc [0, 2, 3, 97, 98, 99, 3, 97, 98, 100] k_enc).mono ?_; rintro e w19 ⟨v, rfl, a19, c19, rfl, hcw, hk⟩; replace hcw : (convert 23 9 (.slice a19 10 c19)).run Try.prog w19 = .ok (.string { data := #[0, 2, 3, 97, 98, 99, 3, 97, 98, 100] }) w19 := hcw; have X19 := Lib.hid hk; clear hk X18)))
  go_ret
  exact ⟨rfl, X19.out.fr⟩
end Go.Proofs.Ytefpfcheafbfdaa
