/- TrieWords: the walk. -/
import Derived.Test.YtefpfcheafbfdaaRefD
import Derived.Test.YtefpfcheafbfdaaKnown
namespace Go.Proofs.Ytefpfcheafbfdaa
open Go.RowKit Go.Maps Go.BigFrame

/-- what a set of words is, behind New -/
theorem newF_ok : ∀ (W L M : List Wd), newF L W = (M, 0) → (∀ x, x ∈ M ↔ x ∈ L ∨ x ∈ W) ∧ W.Nodup ∧ (∀ x ∈ W, x ∉ L) ∧ ∀ x ∈ W, x.length ≤ 64
  | [], L, M, h => by
    unfold newF at h
    obtain ⟨rfl, -⟩ := Prod.mk.inj h
    simp
  | x :: W, L, M, h => by
    unfold newF at h
    by_cases he : insEL L x = 0
    · rw [if_pos he] at h
      obtain ⟨h1, h2, h3, h4⟩ := newF_ok W (insL L x) M h
      have hx : x ∉ L ∧ x.length ≤ 64 := by
        unfold insEL at he
        split at he
        · cases he
        · split at he
          · cases he
          · exact ⟨by assumption, by omega⟩
      refine ⟨fun y => ?_, List.nodup_cons.2 ⟨fun hxW => h3 x hxW (mem_insL.2 (.inl rfl)), h2⟩, fun y hy hyL => ?_, fun y hy => ?_⟩
      · rw [h1, mem_insL, List.mem_cons]
        constructor
        · rintro ((h | h) | h)
          · exact .inr (.inl h)
          · exact .inl h
          · exact .inr (.inr h)
        · rintro (h | h | h)
          · exact .inl (.inr h)
          · exact .inl (.inl h)
          · exact .inr h
      · rcases List.mem_cons.1 hy with rfl | hy
        · exact hx.1 hyL
        · exact h3 y hy (mem_insL.2 (.inr hyL))
      · rcases List.mem_cons.1 hy with rfl | hy
        · exact hx.2
        · exact h4 y hy
    · rw [if_neg he] at h
      obtain ⟨-, h2⟩ := Prod.mk.inj h
      exact absurd h2 he
theorem own_kt {w w' : World} {b e s n : Nat} {v : Value} {xs : List Value} (h : KT w w') (h5 : e ≠ 55) (h6 : e ≠ 68) (ho : w.ownsRow b e s v n xs) : w'.ownsRow b e s v n xs := by
  obtain ⟨h1, h2⟩ := ho
  refine ⟨h1, h2.imp id fun ⟨g, cap, cur, q1, q2, q3, q4⟩ => ⟨g, cap, cur, q1, q2, h _ _ q3 ?_, q4⟩⟩
  simp [isT, h5, h6]
theorem WdR.kt {w w' : World} {B base : Nat} {u : Value} {M : List Wd} (h : WdR B base u M w) (hk : KT w w') : WdR B base u M w' := by
  obtain ⟨h1, vs, h2, h3⟩ := h
  refine ⟨hk _ _ h1 rfl, vs, own_kt hk (by decide) (by decide) h2, fun i x hx => ?_⟩
  obtain ⟨u, e1, e2⟩ := h3 i x hx
  exact ⟨u, e1, own_kt hk (by decide) (by decide) e2⟩
theorem WdR.f0 {w w' : World} {B base : Nat} {u : Value} {M : List Wd} (h : WdR B base u M w) (hf : Frm [] w w') : WdR B base u M w' := ⟨hf.at h.1 (by simp), h.2.frm0 hf⟩
/-- what stays: the set, what the iterator reads, the list of texts -/
structure WX (w : World) (tb : Nat) (L : List Wd) (d B base : Nat) (u : Value) (M : List Wd) (lv : Value) (V : World) : Prop where
  st : ∃ S N, St V tb L S N ∧ (∀ k, S k → w.heap.size ≤ k) ∧ N ≤ 70000 + 64 * d
  wr : WdR B base u M V
  tx : Txts V lv M
  fr : Frm [] w V
section
variable {w V V' : World} {tb d B base : Nat} {u lv bv : Value} {L M : List Wd}
theorem WX.frm (h : WX w tb L d B base u M lv V) (hf : Frm [] V V') : WX w tb L d B base u M lv V' := by
  obtain ⟨S, N, h1, h2, h3⟩ := h.st
  exact ⟨⟨S, N, h1.frm0 hf, h2, h3⟩, h.wr.f0 hf, h.tx.frm0 hf, h.fr.trans hf⟩
theorem WX.rem (h : WX w tb L d B base u M lv V) (b : Wd) (e0 : Int) (L' : List Wd) (hb : Byts V bv b) (hbl : b.length ≤ 1000000) (he : remE L b = e0) (hL : remA L b = L') : Calls Try.prog 18 #[.pointer (some ⟨tb, 0, none⟩), bv] V (Ret (.int .i64 e0) (WX w tb L' (d + 1) B base u M lv)) := by
  obtain ⟨S, N, h1, h2, h3⟩ := h.st
  subst he hL
  refine (h1.remove hb hbl).mono ?_
  rintro e V' ⟨rfl, S', N', k1, k2, k3, k4⟩
  refine ⟨rfl, ⟨S', N', k1, fun k hk => ?_, by omega⟩, h.wr.kt (h1.kt k2), h1.txts k2 h.tx, k2.old h.fr h2⟩
  rcases k3 k hk with h5 | h5
  · exact h2 k h5
  · have := h.fr.size; omega
end
/-- the list that New of the reference gave, and the set beside it -/
structure NX (w : World) (tb : Nat) (M : List Wd) (lv : Value) (V : World) : Prop where
  st : ∃ S N, St V tb M S N ∧ (∀ k, S k → w.heap.size ≤ k) ∧ N ≤ 70000
  tx : Txts V lv M
  fr : Frm [] w V
theorem NX.frm {w V V' : World} {tb : Nat} {M : List Wd} {lv : Value} (h : NX w tb M lv V) (hf : Frm [] V V') : NX w tb M lv V' := by
  obtain ⟨S, N, h1, h2, h3⟩ := h.st
  exact ⟨⟨S, N, h1.frm0 hf, h2, h3⟩, h.tx.frm0 hf, h.fr.trans hf⟩
theorem fewL_iff {L : List Wd} {m : Nat} : fewL L m = true ↔ L.length ≤ m ∧ ∀ x ∈ L, x.length ≤ 80 := by
  unfold fewL
  rw [Bool.and_eq_true, decide_eq_true_iff, List.all_eq_true]
  simp
set_option maxHeartbeats 4000000 in
set_option maxRecDepth 100000 in
theorem words_bad (lv bv : Value) (L : List Wd) (b : Wd) (many : Int) (w : World) (hl : Wds w lv L) (hL : L.length ≤ 1000000) (hb : Byts w bv b) (h : fewL L 30 = false ∨ 80 < b.length) : Calls Try.prog 5 #[lv, bv, .int .i64 many] w (Ret (.bool true) (Frm [] w)) := by
  obtain ⟨bo, bc, rfl, -⟩ := hb.len
  have CF := Lib.hid (few_any w lv L 30 hl hL)
  obtain ⟨lo, lc, rfl, -⟩ := hl
  obtain ⟨f, hf⟩ : ∃ f, fewL L 30 = f := ⟨_, rfl⟩
  rw [hf] at CF h
  obtain ⟨nb, hnb⟩ : ∃ nb, b.length = nb := ⟨_, rfl⟩
  rw [hnb] at h ⊢
  clear hf hnb hb
  cases f with
  | false =>
    clear h
    go_enter Try.func5, Try.ntmps5
    go_wp2_with (first
      | (go_at_call 11; go_must (refine CF.out.mono ?_; clear CF; rintro e w' ⟨rfl, rfl⟩))
      | (go_at_call 12; go_must (refine (known_any _).mono ?_; rintro e w2 ⟨rfl, hf⟩; have HF := Lib.hid hf; clear hf)))
    go_ret
    exact ⟨rfl, HF.out⟩
  | true =>
    have h' : (80 : Int) < (nb : Int) := by rcases h with h | h; (· cases h); omega
    clear h
    go_enter Try.func5, Try.ntmps5
    go_wp2_with (first
      | (go_at_call 11; go_must (refine CF.out.mono ?_; clear CF; rintro e w' ⟨rfl, rfl⟩))
      | (go_at_call 12; go_must (refine (known_any _).mono ?_; rintro e w2 ⟨rfl, hf⟩; have HF := Lib.hid hf; clear hf)))
    go_ret
    exact ⟨rfl, HF.out⟩
set_option maxHeartbeats 4000000 in
set_option maxRecDepth 100000 in
theorem words_big (lv bv : Value) (L : List Wd) (many : Int) (w : World) (hl : Wds w lv L) (hL : 1000000 < L.length) : Calls Try.prog 5 #[lv, bv, .int .i64 many] w (Ret (.bool true) (Frm [] w)) := by
  have CF := Lib.hid (few_big w lv L 30 hl (by omega))
  obtain ⟨lo, lc, rfl, -⟩ := hl
  clear hL
  go_enter Try.func5, Try.ntmps5
  go_wp2_with (first
    | (go_at_call 11; go_must (refine CF.out.mono ?_; clear CF; rintro e w' ⟨rfl, rfl⟩))
    | (go_at_call 12; go_must (refine (known_any _).mono ?_; rintro e w2 ⟨rfl, hf⟩; have HF := Lib.hid hf; clear hf)))
  go_ret
  exact ⟨rfl, HF.out⟩
set_option maxHeartbeats 4000000 in
set_option maxRecDepth 100000 in
theorem words_law (lv bv : Value) (L : List Wd) (b : Wd) (many : Int) (w : World) (hl : Wds w lv L) (hL : L.length ≤ 30) (h80 : ∀ x ∈ L, x.length ≤ 80) (hb : Byts w bv b) (hb80 : b.length ≤ 80) : Calls Try.prog 5 #[lv, bv, .int .i64 many] w (Ret (.bool true) (Frm [] w)) := by
  have CF := few_any w lv L 30 hl (by omega)
  rw [fewL_iff.2 ⟨hL, h80⟩] at CF
  have CF := Lib.hid CF
  have CN := Lib.hid (new_any lv L w hl (by omega) (fun x hx => by have := h80 x hx; omega))
  have HL := Lib.hid hl; have HB := Lib.hid hb
  have C15 : Hid (∀ V, Frm [] w V → Calls Try.prog 15 #[lv] V (RetV (FreshT V L))) := Lib.hid fun V hf => texts_any (HL.out.frm0 hf) (by omega) (fun x hx => by have := h80 x hx; omega)
  have C14 : Hid (∀ V v, Txts V v L → Calls Try.prog 14 #[v] V (RetV (RfTo V (newF [] L).1 (newF [] L).2))) := Lib.hid fun V v ht => rnew_any ht (by omega) (fun x hx => by have := h80 x hx; omega)
  obtain ⟨M, no, hR⟩ : ∃ M no, newF [] L = (M, no) := ⟨_, _, rfl⟩
  rw [hR] at CN C14
  have HC := Lib.hid hl
  obtain ⟨lo, lc, rfl, hlc, hcs⟩ := hl
  have HCS := Lib.hid hcs
  obtain ⟨bo, bc, rfl, -⟩ := hb.len
  have HBL : Hid (b.length ≤ 80) := Lib.hid hb80
  have hcv0 : ∀ V, Frm [] w V → (convert 23 9 (.slice bo b.length bc)).run Try.prog V = .ok (.string (txt b)) V := fun V hf => (HB.out.frm0 hf).conv
  have HCV := Lib.hid hcv0
  obtain ⟨nb, hnb⟩ : ∃ nb, b.length = nb := ⟨_, rfl⟩
  rw [hnb] at hb80 HB HCV ⊢
  have HNB := Lib.hid hnb
  have hb80' : ¬ (80 : Int) < (nb : Int) := by omega
  obtain ⟨n, hnn⟩ : ∃ n, L.length = n := ⟨_, rfl⟩
  rw [hnn] at CF CN HL C15 HC hlc hL ⊢
  have HN := Lib.hid hnn
  have H80 := Lib.hid h80
  have HNO : Hid (newF [] L = (M, no)) := Lib.hid hR
  by_cases h0 : no = 0
  · subst h0
    clear hR hcs hb hnb hnn h80 hcv0 HL
    go_enter Try.func5, Try.ntmps5
    go_upto_region 9 with (first
      | (go_at_call 11; go_must (refine CF.out.mono ?_; clear CF; rintro e w' ⟨rfl, rfl⟩))
      | (go_at_call 13; go_must (refine CN.out.mono ?_; clear CN; rintro e w2 ⟨v, rfl, hf, xo, rfl, h⟩; rcases h with ⟨h, -⟩ | ⟨-, tb, S, N, rfl, h1, h2, h3⟩; (· exact absurd rfl h); have HF2 := Lib.hid hf; have HS2 := Lib.hid h1; have HK2 := Lib.hid h2; have HN2 := Lib.hid h3; clear hf h1 h2 h3))
      | (go_at_call 15; go_must (refine (C15.out _ HF2.out).mono ?_; clear C15; rintro e w3 ⟨v, rfl, h1, h2⟩; obtain ⟨ta, tc, rfl⟩ := own_shape h1; have HT3 := Lib.hid (Txts.of_own h1); have HF3 := Lib.hid h2; clear h1 h2))
      | (go_at_call 14; go_must (refine (C14.out _ _ HT3.out).mono ?_; clear C14; rintro e w4 ⟨v, rfl, v0, rfl, h1, h2⟩; obtain ⟨wa, wc4, rfl, -⟩ := h1.len; have X4 : Hid (NX w tb M (.slice wa M.length wc4) w4) := Lib.hid ⟨⟨S, N, (HS2.out.frm0 HF3.out).frm0 h2, HK2.out, HN2.out⟩, h1, (HF2.out.trans HF3.out).trans h2⟩; clear h1 h2 HF2 HF3 HS2 HK2 HN2 HT3))
      | (go_at_call 16; go_must (refine (num_any _ _).mono ?_; rintro e w' ⟨rfl, rfl⟩)))
    go_cut [11, 12] from 41 to 47 (fun s11 s12 wx => ∃ (B base : Nat) (u : Value) (sa : Option Addr) (sc : Nat), s11 = .func (.func 50) #[] #[.pointer (some ⟨B, 0, none⟩)] ∧ s12 = .slice sa (withP M b).length sc ∧ WX w tb M 0 B base u (withP M b) (.slice sa (withP M b).length sc) wx)
    case first =>
      have HMM : Hid (M.length ≤ 1000) := Lib.hid (by obtain ⟨S, N, h1, -, -⟩ := X4.out.st; exact h1.len)
      go_region_held3 (fun W => (convert 23 9 (.slice bo nb bc)).run Try.prog W = .ok (.string (txt b)) W)
        (first
          | exact HCV.out _ (X4.out.fr.trans (Frm.refl [] w4).drew)
          | exact HCV.out _ X6.out.fr
          | exact HCV.out _ X5.out.fr)
        (first
          | (go_at_call 22; go_must (obtain ⟨S, N, hst, hS, hN⟩ := X4.out.st; refine ((hst.frm0 (Frm.refl [] w4).drew).words (b := b) (by rw [HNB.out] at *; exact HB.out.frm0 (X4.out.fr.trans (Frm.refl [] w4).drew)) (by have := HBL.out; omega)).mono ?_; rintro e w5 ⟨v, rfl, B, u, rfl, h1, h2⟩; have WR := Lib.hid h1; have X5 := Lib.hid (X4.out.frm ((Frm.refl [] w4).drew.trans h2)); clear h1 h2 hst hS hN))
          | (go_at_call 23; go_must (refine (rwith_any X5.out.tx (by have := HMM.out; omega) b).mono ?_; rintro e w6 ⟨v, rfl, h1, h2⟩; obtain ⟨sa, sc, rfl⟩ := own_shape h1; have TX := Lib.hid (Txts.of_own h1); have WR6 := Lib.hid (WR.out.f0 h2); have X6 := Lib.hid (X5.out.frm h2); clear h1 h2)))
      all_goals
        go_wp2
        go_meet
        obtain ⟨S, N, q1, q2, q3⟩ := X6.out.st
        exact ⟨_, _, _, _, _, rfl, rfl, ⟨S, N, q1, q2, by omega⟩, WR6.out, TX.out, X6.out.fr⟩
    case rest =>
      obtain ⟨B, base, u, sa, sc, rfl, rfl, hx⟩ := hcut
      have X0 := Lib.hid hx
      obtain ⟨hmem, hnd, -, h64⟩ := newF_ok L [] M HNO.out
      have HMEM := Lib.hid hmem; have HND := Lib.hid hnd; have H64 := Lib.hid h64
      have HM64 : Hid (∀ x ∈ withP M b, x.length ≤ 64) := Lib.hid fun x hx => by
        have := (hmem x).1 (mem_with.1 hx).1
        rcases this with h | h
        · cases h
        · exact h64 x h
      have HML : Hid ((withP M b).length ≤ 1000) := Lib.hid (by
        obtain ⟨S, N, h1, -, -⟩ := X4.out.st
        exact Nat.le_trans (List.length_filter_le _ _) h1.len)
      clear hx hmem hnd h64 X4
      go_wp2
      go_loopw [13] (fun s13 wr => ∃ (i : Nat) (Li : List Wd), s13 = .int .i64 i ∧ i ≤ n ∧ (∀ x, x ∈ Li ↔ x ∈ L.drop i) ∧ WX w tb Li i B base u (withP M b) (.slice sa (withP M b).length sc) wr) (fun s13 _ => n - (intOf s13).toNat)
      case atStart => exact ⟨0, M, rfl, Nat.zero_le _, fun x => by rw [List.drop_zero, HMEM.out]; simp, X0.out⟩
      case round =>
        obtain ⟨i, Li, rfl, hi, hmem, hX⟩ := hrel
        have X1 := Lib.hid hX; have HMI := Lib.hid hmem
        by_cases hlt : i < n
        · have hlt' : (i : Int) < (n : Int) := by omega
          obtain ⟨x, hx⟩ : ∃ x, L[i]? = some x := ⟨_, List.getElem?_eq_getElem (by rw [HN.out]; exact hlt)⟩
          obtain ⟨g, o, ua, uc, rfl, cx, hbx⟩ := HCS.out i x hx
          have cx := hX.fr.cellAt cx (by simp)
          have hxm := List.mem_of_getElem? hx
          have hd : L.drop i = x :: L.drop (i + 1) := (List.getElem_cons_drop (h := lt_of_some hx)).symm.trans (by rw [(List.getElem?_eq_some_iff.1 hx).2])
          have hxi : x ∈ Li := (hmem x).2 (by rw [hd]; simp)
          have hx64 := H64.out x hxm
          have he : remE Li x = 0 := by unfold remE; rw [if_neg (by omega), if_pos hxi]
          have hl : remA Li x = Li.erase x := by unfold remA; rw [if_pos he]
          have CR := Lib.hid (hX.rem x 0 _ (hbx.frm0 hX.fr) (by omega) he hl)
          have hmem2 : ∀ y, y ∈ Li.erase x ↔ y ∈ L.drop (i + 1) := fun y => by
            obtain ⟨S, N, h1, -, -⟩ := hX.st
            rw [h1.srt.nodup.mem_erase_iff, hmem, hd, List.mem_cons]
            have hnx : x ∉ L.drop (i + 1) := by
              have := HND.out.sublist (List.drop_sublist i L)
              rw [hd] at this
              exact (List.nodup_cons.1 this).1
            constructor
            · rintro ⟨h1, h2 | h2⟩
              · exact absurd h2 h1
              · exact h2
            · intro h2
              exact ⟨fun e => hnx (e ▸ h2), .inr h2⟩
          have HM2 := Lib.hid hmem2
          obtain ⟨nx, hnx⟩ : ∃ nx, x.length = nx := ⟨_, rfl⟩
          rw [hnx] at cx CR
          clear hX hmem hx hbx hxm hd hxi hx64 he hl hmem2 hnx X0
          go_wp2_with (first
            | (go_at_call 18; go_must (refine CR.out.mono ?_; clear CR; rintro e w5 ⟨rfl, h1⟩; have X5 := Lib.hid h1; clear h1))
            | (go_at_call 16; go_must (refine (num_any _ _).mono ?_; rintro e w' ⟨rfl, rfl⟩)))
          exact ⟨⟨i + 1, _, by simp, hlt, HM2.out, X5.out⟩, by simp [intOf]; omega⟩
        · obtain rfl : i = n := by omega
          have hge : ¬ (i : Int) < (i : Int) := by omega
          obtain rfl : Li = [] := List.eq_nil_iff_forall_not_mem.2 fun x hx => by
            have := (hmem x).1 hx
            rw [List.drop_eq_nil_of_le (by rw [HN.out]; exact Nat.le_refl _)] at this
            cases this
          obtain ⟨m, hm⟩ : ∃ m, (withP M b).length = m := ⟨_, rfl⟩
          rw [hm] at X1 ⊢
          have C24 : Hid (∀ V k, WX w tb [] i B base u (withP M b) (.slice sa m sc) V → Calls Try.prog 24 #[.func (.func 50) #[] #[.pointer (some ⟨B, 0, none⟩)], .slice sa m sc, .int .i64 k] V (Ret (.bool true) (Frm [] V))) := Lib.hid fun V k hx => over_any B base u _ (withP M b) k V hx.wr hx.tx HML.out HM64.out
          clear hX hmem hm HMI X0
          go_wp2_with (first
            | (go_at_call 24; go_must (first
                | (refine (C24.out _ _ X1.out).mono ?_; rintro e w5 ⟨rfl, hf⟩; have X5 := Lib.hid (X1.out.frm hf); clear hf X1)
                | (refine (C24.out _ _ X5.out).mono ?_; rintro e w6 ⟨rfl, hf⟩; have X6 := Lib.hid (X5.out.frm hf); clear hf X5)))
            | (go_at_call 25; go_must (obtain ⟨S, N, h1, -, -⟩ := X6.out.st; refine h1.len'.mono ?_; clear h1; rintro e w' ⟨rfl, rfl⟩))
            | (go_at_call 26; go_must (obtain ⟨S, N, h1, -, -⟩ := X6.out.st; refine h1.nodes.mono ?_; clear h1; rintro e w7 ⟨rfl, hf⟩; have X7 := Lib.hid (X6.out.frm hf); clear hf X6))
            | (go_at_call 12; go_must (refine (known_any _).mono ?_; rintro e w8 ⟨rfl, hf⟩; have X8 := Lib.hid (X7.out.frm hf); clear hf X7)))
          go_ret
          exact ⟨rfl, X8.out.fr⟩
  · have hno : (no == 0) = false := by rw [beq_eq_false_iff_ne]; exact h0
    clear hR hcs hb hnb hnn h80 hcv0 HL HCV HB
    go_enter Try.func5, Try.ntmps5
    go_wp2_with (first
      | (go_at_call 11; go_must (refine CF.out.mono ?_; clear CF; rintro e w' ⟨rfl, rfl⟩))
      | (go_at_call 13; go_must (refine CN.out.mono ?_; clear CN; rintro e w2 ⟨v, rfl, hf, xo, rfl, -⟩; have HF2 := Lib.hid hf; clear hf))
      | (go_at_call 15; go_must (refine (C15.out _ HF2.out).mono ?_; clear C15; rintro e w3 ⟨v, rfl, h1, h2⟩; obtain ⟨ta, tc, rfl⟩ := own_shape h1; have HT3 := Lib.hid (Txts.of_own h1); have HF3 := Lib.hid h2; clear h1 h2))
      | (go_at_call 14; go_must (refine (C14.out _ _ HT3.out).mono ?_; clear C14; rintro e w4 ⟨v, rfl, v0, rfl, h1, h2⟩; obtain ⟨wa, wc4, rfl, -⟩ := h1.len; have HF4 := Lib.hid h2; clear h1 h2))
      | (go_at_call 16; go_must (refine (num_any _ _).mono ?_; rintro e w' ⟨rfl, rfl⟩))
      | (go_at_call 12; go_must (refine (known_any _).mono ?_; rintro e w5 ⟨rfl, hf⟩; have HF5 := Lib.hid hf; clear hf)))
    go_ret
    exact ⟨rfl, ((HF2.out.trans HF3.out).trans HF4.out).trans HF5.out⟩
end Go.Proofs.Ytefpfcheafbfdaa
