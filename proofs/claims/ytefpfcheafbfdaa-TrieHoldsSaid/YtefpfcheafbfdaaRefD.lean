/- The reference, fourth part: New; Copy; change. -/
import Derived.Test.YtefpfcheafbfdaaRefC
namespace Go.Proofs.Ytefpfcheafbfdaa
open Go.RowKit Go.Maps Go.BigFrame

section
variable {w : World} {lv : Value} {W : List Wd}
theorem insA_of {L : List Wd} {b : Wd} (h : insEL L b = 0) : insA L b = insL L b := by unfold insA; rw [if_pos h]
set_option maxHeartbeats 4000000 in
set_option maxRecDepth 100000 in
theorem rnew_own (h : Txts w lv W) (hn : W.length ≤ 1000) (h64 : ∀ x ∈ W, x.length ≤ 1000000) : Calls Try.prog 14 #[lv] w (RetV (RfOwn w (.slice none 0 0) (newF [] W).1 (newF [] W).2)) := by
  have HT := Lib.hid h
  obtain ⟨ao, cap, rfl, hcap, hcs⟩ := h
  have HC := Lib.hid hcs; have H64 := Lib.hid h64
  obtain ⟨n, hnn⟩ : ∃ n, W.length = n := ⟨_, rfl⟩
  have HN := Lib.hid hnn
  obtain ⟨R1, R2, hR⟩ : ∃ R1 R2, newF [] W = (R1, R2) := ⟨_, _, rfl⟩
  have HR0 : Hid (newF [] (W.drop 0) = (R1, R2)) := Lib.hid hR
  rw [hR]
  rw [hnn] at hcap hn ⊢
  clear hcs hnn h64 hR HT
  go_enter Try.func14, Try.ntmps14
  go_wp2
  go_loopw [4, 5] (fun s4 s5 wr => ∃ (i m : Nat) (a4 : Option Addr) (c4 : Nat) (L : List Wd), s5 = .int .i64 i ∧ i ≤ n ∧ s4 = .slice a4 m c4 ∧ L.length = m ∧ m ≤ i ∧ newF L (W.drop i) = (R1, R2) ∧ Txts wr (.slice a4 m c4) L ∧ Frm [] w wr ∧ ∀ k, (Value.slice a4 m c4).ownBlock = some k → w.heap.size ≤ k) (fun _ s5 _ => n - (intOf s5).toNat)
  case atStart => exact ⟨0, 0, none, 0, [], rfl, Nat.zero_le _, rfl, rfl, Nat.le_refl _, HR0.out, Txts.nil _, Frm.refl _ _, by simp [Value.ownBlock]⟩
  case round =>
    obtain ⟨i, m, a4, c4, L, rfl, hi, rfl, hm, hmi, hR, ht, hf, hob⟩ := hrel
    have HM := Lib.hid hm; have HT := Lib.hid ht; have HF := Lib.hid hf; have HOB := Lib.hid hob
    clear hob
    by_cases hlt : i < n
    · have hlt' : (i : Int) < (n : Int) := by omega
      obtain ⟨x, hx⟩ : ∃ x, W[i]? = some x := ⟨_, List.getElem?_eq_getElem (by rw [HN.out]; exact hlt)⟩
      obtain ⟨g, o, rfl, cx⟩ := HC.out i x hx
      have cx := hf.cellAt cx (by simp)
      unfold st at cx
      have hd : W.drop i = x :: W.drop (i + 1) := (List.getElem_cons_drop (h := lt_of_some hx)).symm.trans (by rw [(List.getElem?_eq_some_iff.1 hx).2])
      rw [hd] at hR
      unfold newF at hR
      have CI := Lib.hid (rins_own ht (by omega) x (H64.out x (List.mem_of_getElem? hx)))
      by_cases he : insEL L x = 0
      · rw [if_pos he] at hR
        have e1 := insA_of he
        have hlen := length_insL L x
        rw [hm] at hlen
        rw [he, e1] at CI
        have HR := Lib.hid hR; have HLEN := Lib.hid hlen
        clear hm ht hf hR hx hd he e1 hlen HR0
        go_wp2_with (go_at_call 21; go_must (refine CI.out.mono ?_; clear CI; rintro e w2 ⟨v, rfl, v0, rfl, h2, h3, h4⟩; obtain ⟨a5, c5, rfl, -⟩ := h2.len; rw [HLEN.out] at h2 h4 ⊢; have H2 := Lib.hid h2; have H3 := Lib.hid h3; have H4 := Lib.hid h4; clear h2 h3 h4))
        exact ⟨⟨i + 1, m + 1, a5, c5, _, by simp, hlt, rfl, HLEN.out, by omega, HR.out, H2.out, HF.out.trans H3.out, fun k hk => (H4.out k hk).elim (HOB.out k) (fun h => Nat.le_trans HF.out.size h)⟩, by simp [intOf]; omega⟩
      · rw [if_neg he] at hR
        obtain ⟨rfl, hR2⟩ := Prod.mk.inj hR
        rw [hR2] at CI he
        have hne : (R2 == 0) = false := by rw [beq_eq_false_iff_ne]; exact he
        clear hm ht hf hR hx hd HR0 hR2
        go_wp2_with (go_at_call 21; go_must (refine CI.out.mono ?_; clear CI; rintro e w2 ⟨v, rfl, v0, rfl, h2, h3, -⟩; obtain ⟨a5, c5, rfl, -⟩ := h2.len; have H3 := Lib.hid h3; clear h2 h3))
        go_ret2
        exact ⟨_, rfl, _, rfl, Txts.nil _, HF.out.trans H3.out, fun _ h => .inl h⟩
    · obtain rfl : i = n := by omega
      have hge : ¬ (i : Int) < (i : Int) := by omega
      rw [List.drop_eq_nil_of_le (by rw [HN.out]; exact Nat.le_refl _)] at hR
      unfold newF at hR
      obtain ⟨rfl, rfl⟩ := Prod.mk.inj hR
      clear hm ht hf hR HR0
      go_wp2
      go_ret2
      exact ⟨_, rfl, _, rfl, HT.out, HF.out, fun k hk => .inr (HOB.out k hk)⟩
theorem rnew_any (h : Txts w lv W) (hn : W.length ≤ 1000) (h64 : ∀ x ∈ W, x.length ≤ 1000000) : Calls Try.prog 14 #[lv] w (RetV (RfTo w (newF [] W).1 (newF [] W).2)) :=
  (rnew_own h hn h64).mono fun _ _ ⟨v, e, h⟩ => ⟨v, e, h.to⟩
end
/-- texts lie elsewhere than a set -/
theorem TR.not_st {w : World} {tb : Nat} {P W : Wd → Bool} {n : Nat} {NB MB : Wd → Nat} {N : Nat} (h : TR w tb P W n NB MB N) {k o : Nat} {x : Wd} (hk : w.cell? ⟨k, o, none⟩ = some (st x)) : ¬ Own tb P NB MB k := fun hx => by
  rcases hx with rfl | ⟨p, hp, rfl | rfl⟩
  · rw [cell_of h.top] at hk
    rcases o with _ | _ | o <;> simp [nodeV, st] at hk
  · rw [cell_of (h.node p hp)] at hk
    rcases o with _ | _ | o <;> simp [st] at hk
  · obtain ⟨es, cl, hb⟩ := h.isMap hp
    simp [World.cell?, hb] at hk
section
variable {w w' : World} {tb N : Nat} {L : List Wd} {S : Nat → Prop} {bv lv : Value} {b : Wd}
theorem St.txts (h : St w tb L S N) (hf : FrS S w w') {v : Value} {l : List Wd} (hb : Txts w v l) : Txts w' v l := by
  obtain ⟨NB, MB, h1, rfl⟩ := h.ex
  obtain ⟨ao, cap, rfl, h2, h3⟩ := hb
  refine ⟨ao, cap, rfl, h2, fun k x hk => ?_⟩
  obtain ⟨g, o, rfl, e⟩ := h3 k x hk
  refine ⟨g, o, rfl, ?_⟩
  have := h1.not_st e
  exact (World.cell?_of_block (w := w) (hf.block g (cell_lt e) this)).trans e
/-- the list behind change -/
def chgL (L : List Wd) (b : Wd) : List Wd := if memB L b = true then remA L b else insA L b
set_option maxHeartbeats 2000000 in
set_option maxRecDepth 100000 in
theorem change_any (h : St w tb L S N) (hN : N ≤ 900000) (ht : Txts w lv L) (hb : Byts w bv b) (hbl : b.length ≤ 1000000) :
    Calls Try.prog 30 #[.pointer (some ⟨tb, 0, none⟩), lv, bv] w (RetV fun v w' => Txts w' v (chgL L b) ∧ StTo tb S N (chgL L b) w w') := by
  have CH := Lib.hid (rhas_any ht (by have := h.len; omega) b)
  have hcv := hb.conv
  have CR := Lib.hid (h.remove hb hbl); have CI := Lib.hid (h.insert hN hb hbl)
  have HH := Lib.hid h; have HT := Lib.hid ht; have HB := Lib.hid hb
  have hlen := h.len
  obtain ⟨bo, bc, rfl, -⟩ := hb.len
  obtain ⟨lo, lc, rfl, -⟩ := ht.len
  have CR2 : Hid (∀ V, FrS S w V → Calls Try.prog 19 #[.slice lo L.length lc, .string (txt b)] V (RetV (RfTo V (remA L b) (remE L b)))) := Lib.hid fun V hf => rrem_any (HH.out.txts hf HT.out) hlen b hbl
  have CI2 : Hid (∀ V, FrS S w V → Calls Try.prog 21 #[.slice lo L.length lc, .string (txt b)] V (RetV (RfTo V (insA L b) (insEL L b)))) := Lib.hid fun V hf => rins_any (HH.out.txts hf HT.out) hlen b hbl
  have HCV : Hid (∀ V, FrS S w V → (convert 23 9 (.slice bo b.length bc)).run Try.prog V = .ok (.string (txt b)) V) := Lib.hid fun V hf => (HH.out.byts hf HB.out).conv
  obtain ⟨nb, hnb⟩ : ∃ nb, b.length = nb := ⟨_, rfl⟩
  rw [hnb] at hcv HCV CR CI ⊢
  cases hm : memB L b with
  | true =>
    have hL : chgL L b = remA L b := by unfold chgL; rw [if_pos hm]
    rw [hm] at CH
    rw [hL]
    clear h ht hb hm hL hnb hlen CI CI2
    go_enter Try.func30, Try.ntmps30
    go_wp2_with (first
      | (go_at_call 42; go_must (refine CH.out.mono ?_; clear CH; rintro e w' ⟨rfl, rfl⟩))
      | (go_at_call 18; go_must (refine CR.out.mono ?_; clear CR; rintro e w2 ⟨rfl, S2, N2, h2, h3, h4, h5⟩; have H2 := Lib.hid h2; have H3 := Lib.hid h3; have H4 := Lib.hid h4; have H5 := Lib.hid h5; replace hcv := HCV.out w2 h3; clear h2 h3 h4 h5))
      | (go_at_call 19; go_must (refine (CR2.out _ H3.out).mono ?_; clear CR2; rintro e w3 ⟨v, rfl, v0, rfl, h6, h7⟩; obtain ⟨a5, c5, rfl, -⟩ := h6.len; have H6 := Lib.hid h6; have H7 := Lib.hid h7; clear h6 h7)))
    go_ret
    exact ⟨_, rfl, H6.out, S2, N2, H2.out.frm0 H7.out, H3.out.frm0 H7.out, H4.out, H5.out⟩
  | false =>
    have hL : chgL L b = insA L b := by unfold chgL; rw [if_neg (by rw [hm]; simp)]
    rw [hm] at CH
    rw [hL]
    clear h ht hb hm hL hnb hlen CR CR2
    go_enter Try.func30, Try.ntmps30
    go_wp2_with (first
      | (go_at_call 42; go_must (refine CH.out.mono ?_; clear CH; rintro e w' ⟨rfl, rfl⟩))
      | (go_at_call 20; go_must (refine CI.out.mono ?_; clear CI; rintro e w2 ⟨rfl, S2, N2, h2, h3, h4, h5⟩; have H2 := Lib.hid h2; have H3 := Lib.hid h3; have H4 := Lib.hid h4; have H5 := Lib.hid h5; replace hcv := HCV.out w2 h3; clear h2 h3 h4 h5))
      | (go_at_call 21; go_must (refine (CI2.out _ H3.out).mono ?_; clear CI2; rintro e w3 ⟨v, rfl, v0, rfl, h6, h7⟩; obtain ⟨a5, c5, rfl, -⟩ := h6.len; have H6 := Lib.hid h6; have H7 := Lib.hid h7; clear h6 h7)))
    go_ret
    exact ⟨_, rfl, H6.out, S2, N2, H2.out.frm0 H7.out, H3.out.frm0 H7.out, H4.out, H5.out⟩
/-- New of the words of a sorted list gives that list -/
theorem insL_last {L : List Wd} {x : Wd} (h : ∀ y ∈ L, y < x) : insL L x = L ++ [x] := by
  have e : L.all (ltB x) = true := List.all_eq_true.2 fun y hy => by simpa [ltB] using h y hy
  unfold insL
  have h1 : L.takeWhile (ltB x) = L := by
    have := tw_at (L := L) (b := x) (k := L.length) (by rwa [List.take_length]) (fun y hy => by have := lt_of_some hy; omega)
    rw [this.1, List.take_length]
  have h2 : L.dropWhile (ltB x) = [] := by
    have := tw_at (L := L) (b := x) (k := L.length) (by rwa [List.take_length]) (fun y hy => by have := lt_of_some hy; omega)
    rw [this.2, List.drop_length]
  rw [h1, h2]
theorem newF_sorted : ∀ (W L : List Wd), Sorted (L ++ W) → (∀ x ∈ L ++ W, x.length ≤ 64) → (L ++ W).length ≤ 1000 → newF L W = (L ++ W, 0)
  | [], L, _, _, _ => by simp [newF]
  | x :: W, L, hs, h64, hl => by
    have hlt : ∀ y ∈ L, y < x := fun y hy => by
      have := (List.pairwise_append.1 hs).2.2 y hy x List.mem_cons_self
      exact this
    have hx : x ∉ L := fun h => List.lt_irrefl x (hlt x h)
    have he : insEL L x = 0 := by
      unfold insEL
      rw [if_neg (by have := h64 x (by simp); omega), if_neg hx, if_neg (by simp at hl; omega)]
    unfold newF
    rw [if_pos he, insL_last hlt, newF_sorted W (L ++ [x]) (by simpa using hs) (by simpa using h64) (by simp at hl ⊢; omega)]
    simp
set_option maxHeartbeats 1000000 in
theorem St.copy (h : St w tb L S N) : Calls Try.prog 29 #[.pointer (some ⟨tb, 0, none⟩)] w (RetV fun v w' => Frm [] w w' ∧ ∃ tc S' N', v = .pointer (some ⟨tc, 0, none⟩) ∧ St w' tc L S' N' ∧ (∀ k, S' k → w.heap.size ≤ k) ∧ N' ≤ 70000) := by
  have CN := Lib.hid h.none'
  have CL := h.list (bv := .slice none 0 0) (b := []) (Byts.nil _) (by simp)
  rw [withP_nil] at CL
  have CL := Lib.hid CL
  have hlen := h.len
  have hnew : newF [] L = (L, 0) := by
    have := newF_sorted L [] (by simpa using h.srt) (by simpa using h.h64) (by simpa using h.len)
    simpa using this
  have CW : Hid (∀ V v, Wds V v L → Calls Try.prog 13 #[v] V (RetV (NewTo V (L, 0)))) := Lib.hid fun V v hv => by
    have := new_any v L V hv hlen (fun x hx => by have := h.h64 x hx; omega)
    rwa [hnew] at this
  clear h hnew
  go_enter Try.func29, Try.ntmps29
  go_wp2_with (first
    | (go_at_call 47; go_must (refine CN.out.mono ?_; clear CN; rintro e w' ⟨rfl, rfl⟩))
    | (go_at_call 49; go_must (refine CL.out.mono ?_; clear CL; rintro e w2 ⟨v, rfl, h1, h2⟩; obtain ⟨va, vc, rfl⟩ := h1.shape; have H1 := Lib.hid h1.wds; have H2 := Lib.hid h2; clear h1 h2))
    | (go_at_call 13; go_must (refine (CW.out _ _ H1.out).mono ?_; clear CW; rintro e w3 ⟨v, rfl, h3, xo, rfl, h4⟩; have H3 := Lib.hid h3; have H4 := Lib.hid h4; clear h3 h4)))
  go_ret
  refine ⟨_, rfl, H2.out.trans H3.out, ?_⟩
  rcases H4.out with ⟨h, -⟩ | ⟨-, tc, S', N', rfl, h1, h2, h3⟩
  · exact absurd rfl h
  · exact ⟨tc, S', N', rfl, h1, fun k hk => Nat.le_trans H2.out.size (h2 k hk), h3⟩
end
end Go.Proofs.Ytefpfcheafbfdaa
