/- TrieHolds: the walk. -/
import Derived.Test.YtefpfcheafbfdaaHoldsP
import Derived.Test.YtefpfcheafbfdaaCopies
namespace Go.Proofs.Ytefpfcheafbfdaa
open Go.RowKit Go.Maps Go.BigFrame

section
variable {d : Nat} {w V V' : World} {tb tc N N2 : Nat} {L L2 M O : List Wd} {S S2 : Nat → Prop} {lv bv cv av : Value} {b : Wd}
theorem TW.ins (h : TW d w tb L S N tc L2 S2 N2 V) (hN : d ≤ 100000) (hb : Byts V bv b) (hbl : b.length ≤ 1000000) :
    Calls Try.prog 20 #[.pointer (some ⟨tb, 0, none⟩), bv] V (Ret (.int .i64 (insEL L b)) fun V' => (∃ S' N', TW (d + 64) w tb (insA L b) S' N' tc L2 S2 N2 V') ∧ ∀ u l, Byts V u l → Byts V' u l) := by
  have hna := h.na
  have hnb := h.nb
  refine (h.a.insert (by omega) hb hbl).mono ?_
  rintro e V' ⟨rfl, S', N', k1, k2, k3, k4⟩
  refine ⟨rfl, ⟨S', N', k1, h.b.frS k2 h.dis, fun k hk h2 => ?_, fun k hk => ?_, h.gb, by omega, by omega, k2.old h.fr h.ga⟩, fun u l hu => h.a.byts k2 hu⟩
  · rcases k3 k hk with h5 | h5
    · exact h.dis k h5 h2
    · have := h.b.lt h2; omega
  · rcases k3 k hk with h5 | h5
    · exact h.ga k h5
    · have := h.fr.size; omega
/-- one set, and an encoding of it -/
structure HA1 (w : World) (tb : Nat) (L M : List Wd) (d : Nat) (cv : Value) (V : World) : Prop where
  st : ∃ S N, St V tb L S N ∧ (∀ k, S k → w.heap.size ≤ k) ∧ N ≤ d
  c : Byts V cv (encL M)
  fr : Frm [] w V
theorem HA1.frm (h : HA1 w tb L M d cv V) (hf : Frm [] V V') : HA1 w tb L M d cv V' := by
  obtain ⟨S, N, h1, h2, h3⟩ := h.st
  exact ⟨⟨S, N, h1.frm0 hf, h2, h3⟩, h.c.frm0 hf, h.fr.trans hf⟩
theorem HA1.turn {L' : List Wd} (h : HA1 w tb L M d cv V) {S : Nat → Prop} {N : Nat} (h1 : St V tb L S N) (h2 : ∀ k, S k → w.heap.size ≤ k) (h3 : N ≤ d) (ht : StTo tb S N L' V V') : HA1 w tb L' M (d + 64) cv V' := by
  obtain ⟨S', N', k1, k2, k3, k4⟩ := ht
  refine ⟨⟨S', N', k1, fun k hk => ?_, by omega⟩, h1.byts k2 h.c, k2.old h.fr h2⟩
  rcases k3 k hk with h5 | h5
  · exact h2 k h5
  · have := h.fr.size; omega
theorem HA1.ins (h : HA1 w tb L M d cv V) (hb : Byts V bv b) (hbl : b.length ≤ 1000000) (hd : d ≤ 800000) : Calls Try.prog 20 #[.pointer (some ⟨tb, 0, none⟩), bv] V (Ret (.int .i64 (insEL L b)) (HA1 w tb (insA L b) M (d + 64) cv)) := by
  obtain ⟨S, N, h1, h2, h3⟩ := h.st
  exact (h1.insert (by omega) hb hbl).mono fun _ _ ⟨e, k⟩ => ⟨e, h.turn h1 h2 h3 k⟩
theorem HA1.rem (h : HA1 w tb L M d cv V) (hb : Byts V bv b) (hbl : b.length ≤ 1000000) : Calls Try.prog 18 #[.pointer (some ⟨tb, 0, none⟩), bv] V (Ret (.int .i64 (remE L b)) (HA1 w tb (remA L b) M (d + 64) cv)) := by
  obtain ⟨S, N, h1, h2, h3⟩ := h.st
  exact (h1.remove hb hbl).mono fun _ _ ⟨e, k⟩ => ⟨e, h.turn h1 h2 h3 k⟩
theorem HA1.has (h : HA1 w tb L M d cv V) (hb : Byts V bv b) (hbl : b.length ≤ 1000000) : Calls Try.prog 28 #[.pointer (some ⟨tb, 0, none⟩), bv] V (Ret (.bool (memB L b)) (V = ·)) := by
  obtain ⟨S, N, h1, h2, h3⟩ := h.st
  exact h1.has hb hbl
theorem HA1.enc (h : HA1 w tb L M d cv V) : Calls Try.prog 31 #[.pointer (some ⟨tb, 0, none⟩)] V (RetV fun v V' => ∃ ua uc, v = .tuple #[.slice ua (encL L).length uc, .int .i64 0] ∧ Byts V' (.slice ua (encL L).length uc) (encL L) ∧ HA1 w tb L M d cv V') := by
  obtain ⟨S, N, h1, h2, h3⟩ := h.st
  refine h1.encode.mono ?_
  rintro e V' ⟨v, rfl, v0, rfl, k⟩
  obtain ⟨ua, uc, rfl, -⟩ := k.byts.len
  exact ⟨_, rfl, ua, uc, rfl, k.byts, h.frm k.2⟩
/-- the set, the other one, two encodings -/
structure HY (w : World) (tb tc : Nat) (M O : List Wd) (d : Nat) (cv av : Value) (V : World) : Prop where
  t : ∃ S N S2 N2, TW d w tb M S N tc O S2 N2 V
  c : Byts V cv (encL M)
  a : Byts V av (encL M)
theorem HY.frm (h : HY w tb tc M O d cv av V) (hf : Frm [] V V') : HY w tb tc M O d cv av V' := by
  obtain ⟨S, N, S2, N2, h1⟩ := h.t
  exact ⟨⟨S, N, S2, N2, h1.frm hf⟩, h.c.frm0 hf, h.a.frm0 hf⟩
theorem HY.fr (h : HY w tb tc M O d cv av V) : Frm [] w V := by
  obtain ⟨S, N, S2, N2, h1⟩ := h.t
  exact h1.fr
theorem HA1.mono {d' : Nat} (h : HA1 w tb L M d cv V) (hd : d ≤ d') : HA1 w tb L M d' cv V := by
  obtain ⟨S, N, h1, h2, h3⟩ := h.st
  exact ⟨⟨S, N, h1, h2, Nat.le_trans h3 hd⟩, h.c, h.fr⟩
theorem HA1.two (h : HA1 w tb M M d cv V) (ha : Byts V av (encL M)) (hd : 70000 ≤ d) {v : Value} (hn : NewTo V ([], 0) v V') : ∃ tc, v = .tuple #[.pointer (some ⟨tc, 0, none⟩), .int .i64 0] ∧ HY w tb tc M [] d cv av V' := by
  obtain ⟨hf, xo, rfl, h1⟩ := hn
  obtain ⟨S, N, k1, k2, k3⟩ := h.st
  rcases h1 with ⟨h1, -⟩ | ⟨-, tc, S2, N2, rfl, h1, h2, h3⟩
  · exact absurd rfl h1
  · refine ⟨tc, rfl, ⟨S, N, S2, N2, k1.frm0 hf, h1, fun k q1 q2 => ?_, k2, fun k q2 => ?_, k3, by omega, h.fr.trans hf⟩, h.c.frm0 hf, ha.frm0 hf⟩
    · have := k1.lt q1; have := h2 k q2; omega
    · have := h2 k q2; have := h.fr.size; omega
theorem HY.ins (h : HY w tb tc M O d cv av V) (hd : d ≤ 100000) (hb : Byts V bv b) (hbl : b.length ≤ 1000000) : Calls Try.prog 20 #[.pointer (some ⟨tc, 0, none⟩), bv] V (Ret (.int .i64 (insEL O b)) (HY w tb tc M (insA O b) (d + 64) cv av)) := by
  obtain ⟨S, N, S2, N2, h1⟩ := h.t
  refine (h1.swap.ins hd hb hbl).mono ?_
  rintro e V' ⟨rfl, ⟨S3, N3, k1⟩, k2⟩
  exact ⟨rfl, ⟨S, N, S3, N3, k1.swap⟩, k2 _ _ h.c, k2 _ _ h.a⟩
theorem HY.has (h : HY w tb tc M O d cv av V) (hb : Byts V bv b) (hbl : b.length ≤ 1000000) : Calls Try.prog 28 #[.pointer (some ⟨tb, 0, none⟩), bv] V (Ret (.bool (memB M b)) (V = ·)) := by
  obtain ⟨S, N, S2, N2, h1⟩ := h.t
  exact h1.a.has hb hbl
theorem HY.enc (h : HY w tb tc M O d cv av V) : Calls Try.prog 31 #[.pointer (some ⟨tc, 0, none⟩)] V (RetV fun v V' => ∃ ua uc, v = .tuple #[.slice ua (encL O).length uc, .int .i64 0] ∧ Byts V' (.slice ua (encL O).length uc) (encL O) ∧ HY w tb tc M O d cv av V') := by
  obtain ⟨S, N, S2, N2, h1⟩ := h.t
  refine h1.b.encode.mono ?_
  rintro e V' ⟨v, rfl, v0, rfl, k⟩
  obtain ⟨ua, uc, rfl, -⟩ := k.byts.len
  exact ⟨_, rfl, ua, uc, rfl, k.byts, h.frm k.2⟩
theorem HY.free (h : HY w tb tc M O d cv av V) : Calls Try.prog 36 #[.pointer (some ⟨tb, 0, none⟩)] V (Ret (.bool (freeL M)) (HY w tb tc M O d cv av)) := by
  obtain ⟨S, N, S2, N2, h1⟩ := h.t
  exact h1.a.free.mono fun _ _ ⟨e, hf⟩ => ⟨e, h.frm hf⟩
end
set_option maxHeartbeats 4000000 in
set_option maxRecDepth 100000 in
theorem holds_no (lv bv : Value) (L : List Wd) (b : Wd) (w : World) (hl : Wds w lv L) (hb : Byts w bv b) (h : 30 < L.length ∨ fewL L 30 = false ∨ 64 < b.length) : Calls Try.prog 10 #[lv, bv] w (Ret (.bool true) (Frm [] w)) := by
  obtain ⟨bo, bc, rfl, -⟩ := hb.len
  have CF : (∃ f, Calls Try.prog 11 #[lv, .int .i64 (30 : Nat)] w (Ret (.bool f) (w = ·)) ∧ (f = false ∨ 64 < b.length)) := by
    rcases Nat.lt_or_ge 30 L.length with h1 | h1
    · exact ⟨false, few_big w lv L 30 hl h1, .inl rfl⟩
    · refine ⟨_, few_any w lv L 30 hl (by omega), ?_⟩
      rcases h with h | h | h
      · omega
      · exact .inl h
      · exact .inr h
  obtain ⟨lo, lc, rfl, -⟩ := hl
  obtain ⟨f, CF, hf⟩ := CF
  have CF := Lib.hid CF
  obtain ⟨nb, hnb⟩ : ∃ nb, b.length = nb := ⟨_, rfl⟩
  rw [hnb] at hf ⊢
  clear h hnb hb
  cases f with
  | false =>
    clear hf
    go_enter Try.func10, Try.ntmps10
    go_wp2_with (first
      | (go_at_call 11; go_must (refine CF.out.mono ?_; clear CF; rintro e w' ⟨rfl, rfl⟩))
      | (go_at_call 12; go_must (refine (known_any _).mono ?_; rintro e w2 ⟨rfl, hf⟩; have HF := Lib.hid hf; clear hf)))
    go_ret
    exact ⟨rfl, HF.out⟩
  | true =>
    have h' : (64 : Int) < (nb : Int) := by rcases hf with h | h; (· cases h); omega
    clear hf
    go_enter Try.func10, Try.ntmps10
    go_wp2_with (first
      | (go_at_call 11; go_must (refine CF.out.mono ?_; clear CF; rintro e w' ⟨rfl, rfl⟩))
      | (go_at_call 12; go_must (refine (known_any _).mono ?_; rintro e w2 ⟨rfl, hf⟩; have HF := Lib.hid hf; clear hf)))
    go_ret
    exact ⟨rfl, HF.out⟩
/-- no word from the j-th on has another one as its beginning -/
def FR (L : List Wd) (j : Nat) : Prop := ∀ (a : Nat) (x : Wd), j ≤ a → L[a]? = some x → ∀ (k : Nat) (y : Wd), L[k]? = some y → k ≠ a → ¬ y <+: x
/-- nor the i-th one of those ahead of the m-th -/
def FRi (L : List Wd) (i m : Nat) : Prop := ∀ (x : Wd), L[i]? = some x → ∀ (k : Nat) (y : Wd), k < m → L[k]? = some y → k ≠ i → ¬ y <+: x
theorem FR.len {L : List Wd} : FR L L.length := fun a x h1 h2 => by have := lt_of_some h2; omega
theorem FRi.zero {L : List Wd} {i : Nat} : FRi L i 0 := fun _ _ _ _ h => by omega
theorem FR.step {L : List Wd} {i : Nat} : FR L i ↔ FR L (i + 1) ∧ FRi L i L.length := by
  constructor
  · intro h
    exact ⟨fun a x h1 => h a x (by omega), fun x hx k y _ hy hk => h i x (Nat.le_refl _) hx k y hy hk⟩
  · rintro ⟨h1, h2⟩ a x ha hx k y hy hk
    rcases Nat.lt_or_ge i a with h | h
    · exact h1 a x h hx k y hy hk
    · obtain rfl : a = i := by omega
      exact h2 x hx k y (lt_of_some hy) hy hk
theorem FRi.step {L : List Wd} {i k : Nat} {x y : Wd} (hx : L[i]? = some x) (hy : L[k]? = some y) : FRi L i (k + 1) ↔ FRi L i k ∧ (k = i ∨ ¬ y <+: x) := by
  constructor
  · intro h
    refine ⟨fun x' hx' k' y' hk' => h x' hx' k' y' (by omega), ?_⟩
    by_cases e : k = i
    · exact .inl e
    · exact .inr (h x hx k y (by omega) hy e)
  · rintro ⟨h1, h2⟩ x' hx' k' y' hk' hy' hne
    rcases Nat.lt_or_ge k' k with h | h
    · exact h1 x' hx' k' y' h hy' hne
    · obtain rfl : k' = k := by omega
      rw [hx] at hx'; cases hx'
      rw [hy] at hy'; cases hy'
      rcases h2 with h2 | h2
      · exact absurd h2 hne
      · exact h2
theorem FR.free {L M : List Wd} (hm : ∀ x, x ∈ M ↔ x ∈ L) (hnd : L.Nodup) : FR L 0 ↔ freeL M = true := by
  rw [free_iff]
  constructor
  · intro h x hx y hy hp
    obtain ⟨a, ha⟩ := List.mem_iff_getElem?.1 ((hm y).1 hy)
    obtain ⟨k, hk⟩ := List.mem_iff_getElem?.1 ((hm x).1 hx)
    by_cases e : k = a
    · subst e; rw [ha] at hk; cases hk; rfl
    · exact absurd hp (h a y (Nat.zero_le _) ha k x hk e)
  · intro h a x _ hx k y hy hk hp
    have e := h y ((hm y).2 (List.mem_of_getElem? hy)) x ((hm x).2 (List.mem_of_getElem? hx)) hp
    subst e
    obtain ⟨l1, e1⟩ := List.getElem?_eq_some_iff.1 hx
    obtain ⟨l2, e2⟩ := List.getElem?_eq_some_iff.1 hy
    have e := e2.trans e1.symm
    rcases Nat.lt_trichotomy k a with h1 | h1 | h1
    · exact absurd e ((List.pairwise_iff_getElem.1 hnd) k a l2 l1 h1)
    · exact hk h1
    · exact absurd e.symm ((List.pairwise_iff_getElem.1 hnd) a k l1 l2 h1)
set_option maxHeartbeats 4000000 in
set_option maxRecDepth 100000 in
theorem holds_law (lv bv : Value) (L : List Wd) (b : Wd) (w : World) (hl : Wds w lv L) (hL : L.length ≤ 30) (h80 : ∀ x ∈ L, x.length ≤ 80) (hb : Byts w bv b) (hb64 : b.length ≤ 64) : Calls Try.prog 10 #[lv, bv] w (Ret (.bool true) (Frm [] w)) := by
  have CF := few_any w lv L 30 hl (by omega)
  rw [fewL_iff.2 ⟨hL, h80⟩] at CF
  have CF := Lib.hid CF
  have CN := Lib.hid (new_any lv L w hl (by omega) (fun x hx => by have := h80 x hx; omega))
  have CE := Lib.hid fun V => new_any (.slice none 0 0) [] V (Wds.nil V) (by simp) (by simp)
  obtain ⟨M, no, hR⟩ : ∃ M no, newF [] L = (M, no) := ⟨_, _, rfl⟩
  rw [hR] at CN
  have HR := Lib.hid hR
  have HB := Lib.hid hb
  have HB6 : Hid (b.length ≤ 1000000) := Lib.hid (by omega)
  have HB64 := Lib.hid hb64
  obtain ⟨lo, lc, rfl, hlc, hcs⟩ := hl
  have HCS := Lib.hid hcs
  obtain ⟨bo, bc, rfl, -⟩ := hb.len
  obtain ⟨nb, hnb⟩ : ∃ nb, b.length = nb := ⟨_, rfl⟩
  rw [hnb] at hb64 HB ⊢
  have hb64' : ¬ (64 : Int) < (nb : Int) := by omega
  obtain ⟨n, hnn⟩ : ∃ n, L.length = n := ⟨_, rfl⟩
  have HN := Lib.hid hnn
  rw [hnn] at CF CN hlc hL ⊢
  clear hcs hb hnb hnn h80 hR
  by_cases h0 : no = 0
  · subst h0
    obtain ⟨hmem, hnd, -, h64⟩ := newF_ok L [] M HR.out
    have HMEM := Lib.hid hmem; have HND := Lib.hid hnd; have H64 := Lib.hid h64
    clear hmem hnd h64
    go_enter Try.func10, Try.ntmps10
    cases hmb : memB M b
    all_goals
      have HMB := Lib.hid hmb
      have HIR : Hid (memB M b = false → M.length < 1000 → Sorted M → insEL M b = 0 ∧ remE (insL M b) b = 0 ∧ memB (insL M b) b = true ∧ remA (insL M b) b = M ∧ insA M b = insL M b) := Lib.hid fun h1 h2 h3 => ins_rem h3 (fun h => by rw [memB_iff.2 h] at h1; cases h1) HB64.out h2
      clear hmb
      go_upto_region 13 with (first
        | (go_at_call 11; go_must (refine CF.out.mono ?_; clear CF; rintro e w' ⟨rfl, rfl⟩))
        | (go_at_call 13; go_must (first
            | (refine CN.out.mono ?_; clear CN; rintro e w2 ⟨v, rfl, hf, xo, rfl, h⟩; rcases h with ⟨h, -⟩ | ⟨-, tb, S, N, rfl, h1, h2, h3⟩; (· exact absurd rfl h); have HF2 := Lib.hid hf; have HS2 := Lib.hid h1; have HK2 := Lib.hid h2; have HN2 := Lib.hid h3; clear hf h1 h2 h3)
            | (refine (CE.out _).mono ?_; clear CE; rintro e w5 ⟨v, rfl, h⟩; obtain ⟨tc, rfl, h2⟩ := (HX4.out.mono (d' := 81000) (by omega)).two HAV.out (by omega) h; have HY5 := Lib.hid h2; clear h h2 HX4 HAV)))
        | (go_at_call 16; go_must (refine (num_any _ _).mono ?_; rintro e w' ⟨rfl, rfl⟩))
        | (go_at_call 31; go_must (first
            | (refine HX3.out.enc.mono ?_; rintro e w4 ⟨v, rfl, va, vc, rfl, h1, h2⟩; have HAV := Lib.hid h1; have HX4 := Lib.hid h2; clear h1 h2 HX3)
            | (refine HS2.out.encode.mono ?_; rintro e w3 ⟨v, rfl, v0, rfl, k⟩; obtain ⟨ua, uc, rfl, -⟩ := k.byts.len; have HMS := Lib.hid HS2.out.srt; have HML : Hid (M.length ≤ n) := Lib.hid (by rw [← HN.out]; exact List.Nodup.length_le_of_subset HMS.out.nodup (fun x hx => ((HMEM.out x).1 hx).resolve_left (by simp))); have HX3 : Hid (HA1 w tb M M 80000 (.slice ua (encL M).length uc) w3) := Lib.hid ⟨⟨S, N, HS2.out.frm0 k.2, HK2.out, by have := HN2.out; omega⟩, k.byts, HF2.out.trans k.2⟩; clear k HS2 HF2 HK2 HN2)))
        | (go_at_call 28; go_must (first
            | (refine (HX3.out.has (HB.out.frm0 HX3.out.fr) HB6.out).mono ?_; rintro e w' ⟨rfl, rfl⟩; rw [HMB.out])
            | (refine (HXI.out.has (HB.out.frm0 HXI.out.fr) HB6.out).mono ?_; rintro e w' ⟨rfl, rfl⟩; rw [HI.out.2.2.1])))
        | (go_at_call 20; go_must (refine (HX3.out.ins (HB.out.frm0 HX3.out.fr) HB6.out (by omega)).mono ?_; rintro e w' ⟨rfl, h⟩; have HI := Lib.hid (HIR.out HMB.out (by have := HML.out; omega) HMS.out); rw [HI.out.2.2.2.2] at h; rw [HI.out.1]; have HXI := Lib.hid h; clear h HX3))
        | (go_at_call 18; go_must (refine (HXI.out.rem (HB.out.frm0 HXI.out.fr) HB6.out).mono ?_; rintro e w' ⟨rfl, h⟩; rw [HI.out.2.2.2.1] at h; rw [HI.out.2.1]; have HX3 := Lib.hid h; clear h HXI)))
      obtain ⟨cn, hcn⟩ : ∃ cn, (encL M).length = cn := ⟨_, rfl⟩
      have HCN := Lib.hid hcn
      rw [hcn] at HY5
      rw [hcn]
      clear hcn
      go_wp2
      go_loopw [13, 14] (fun s13 s14 wr => ∃ (j : Nat) (q : Int) (z : Bool) (O : List Wd), s13 = .bool z ∧ s14 = .int .i64 q ∧ q = (j : Int) - 1 ∧ j ≤ n ∧ Sorted O ∧ O.length + j = n ∧ (∀ x, x ∈ O ↔ x ∈ L.drop j) ∧ (z = true ↔ FR L j) ∧ HY w tb tc M O (81000 + 64 * (n - j)) (.slice ua cn uc) (.slice va cn vc) wr) (fun _ s14 _ => (intOf s14 + 1).toNat)
      case atStart => exact ⟨n, (n : Int) - 1, true, [], rfl, rfl, rfl, Nat.le_refl _, List.Pairwise.nil, by simp, fun x => by rw [List.drop_of_length_le (by rw [HN.out]; exact Nat.le_refl _)], by rw [← HN.out]; simp [FR.len], by rw [Nat.sub_self]; exact HY5.out⟩
      case round =>
        obtain ⟨j, q, z, O, rfl, rfl, hq, hj, hso, hol, hom, hz, hy⟩ := hrel
        have HSO := Lib.hid hso; have HOM := Lib.hid hom; have HZ := Lib.hid hz; have HY6 := Lib.hid hy
        clear hso hom hz hy
        cases j with
        | zero =>
          obtain rfl : q = -1 := by omega
          have hOM : O = M := sorted_unique HSO.out HMS.out fun x => by rw [HOM.out, HMEM.out, List.drop_zero]; simp
          subst hOM
          have hzf : z = freeL O := by
            have h1 := HZ.out.trans (FR.free (fun x => by rw [HOM.out, List.drop_zero]) HND.out)
            cases z <;> cases h2 : freeL O <;> simp_all
          have HFR := Lib.hid (HY6.out.free)
          obtain ⟨f, hff⟩ : ∃ f, freeL O = f := ⟨_, rfl⟩
          rw [hff] at hzf
          have HFF := Lib.hid hff
          subst hzf
          have HDC : Hid (∀ V v, Byts V v (encL O) → Calls Try.prog 37 #[v] V (RetV (NewTo V (O, 0)))) := Lib.hid fun V v hv => by
            have hx64 : ∀ x ∈ O, x.length ≤ 64 := fun x hx => H64.out x (by simpa using (HOM.out x).1 hx)
            have h1 := encL_len hx64
            have := dec_any v (encL O) V hv (by unfold encL encH; simp) (by omega) (.inr (by rw [hdr_enc (by omega)]; omega))
            rwa [dec_enc HSO.out hx64 (by omega)] at this
          clear hq hff HFR hol
          cases z
          all_goals
            go_wp2_with (first
              | (go_at_call 31; go_must (first
                  | (refine HS8.out.encode.mono ?_; rintro e w9 ⟨v, rfl, v0, rfl, k⟩; obtain ⟨ka, kc, rfl, -⟩ := k.byts.len; rw [HCN.out]; have HY9 := Lib.hid ((HY8.out.frm k.2)); have HO9 := (HO8.out.frm0 k.2).conv; have HK9 := k.byts.conv; rw [HCN.out] at HK9; have HC9 := HY9.out.c.conv; have HA9 := HY9.out.a.conv; clear k HY8 HO8 HS8)
                  | (refine HY6.out.enc.mono ?_; rintro e w7 ⟨v, rfl, oa, oc, rfl, h1, h2⟩; rw [HCN.out] at h1 ⊢; have HY7 := Lib.hid h2; have HO7 := Lib.hid h1; clear h1 h2 HY6)))
              | (go_at_call 37; go_must (refine (HDC.out _ _ HY7.out.c).mono ?_; rintro e w8 ⟨v, rfl, hf, xo, rfl, h⟩; rcases h with ⟨h, -⟩ | ⟨-, te, S3, N3, rfl, h1, -, -⟩; (· exact absurd rfl h); have HS8 := Lib.hid h1; have HY8 := Lib.hid (HY7.out.frm hf); have HO8 := Lib.hid (HO7.out.frm0 hf); clear hf h1 HY7 HO7))
              | (go_at_call 16; go_must (refine (num_any _ _).mono ?_; rintro e w' ⟨rfl, rfl⟩))
              | (go_at_call 36; go_must (refine HY9.out.free.mono ?_; clear HO9 HK9 HC9 HA9; rintro e w10 ⟨rfl, h⟩; rw [HFF.out]; have HF10 := Lib.hid h.fr; clear h HY9))
              | (go_at_call 12; go_must (refine (known_any _).mono ?_; rintro e w11 ⟨rfl, hf⟩; have HF11 := Lib.hid hf; clear hf)))
            go_ret
            exact ⟨rfl, HF10.out.trans HF11.out⟩
        | succ i =>
          obtain rfl : q = (i : Int) := by omega
          have hq' : ((0 : Int) ≤ (i : Int)) := by omega
          obtain ⟨x, hx⟩ : ∃ x, L[i]? = some x := ⟨_, List.getElem?_eq_getElem (by rw [HN.out]; exact hj)⟩
          have HX := Lib.hid hx
          obtain ⟨g, o, xa, xc, rfl, cx0, hbx⟩ := HCS.out i x hx
          have HCX : Hid (∀ V, Frm [] w V → V.cell? ⟨g, o + i, none⟩ = some (.slice xa x.length xc)) := Lib.hid fun V hf => hf.cellAt cx0 (by simp)
          have cx := HCX.out _ HY6.out.fr
          have HBX := Lib.hid hbx
          have HX64 := Lib.hid (H64.out x (List.mem_of_getElem? hx))
          have hd : L.drop i = x :: L.drop (i + 1) := by
            obtain ⟨l1, rfl⟩ := List.getElem?_eq_some_iff.1 hx
            exact List.drop_eq_getElem_cons l1
          have hxO : x ∉ O := fun h => by
            have h1 := (HOM.out x).1 h
            have h2 : (L.drop i).Nodup := List.Pairwise.sublist (List.drop_sublist _ _) HND.out
            rw [hd] at h2
            exact (List.nodup_cons.1 h2).1 h1
          have hins : insEL O x = 0 := by unfold insEL; rw [if_neg (by have := HX64.out; omega), if_neg hxO, if_neg (by omega)]
          have HINS := Lib.hid hins
          have HIA : Hid (insA O x = insL O x) := Lib.hid (by unfold insA; rw [if_pos hins])
          have HXM : Hid (memB M x = true) := Lib.hid (memB_iff.2 ((HMEM.out x).2 (.inr (List.mem_of_getElem? hx))))
          have HSO2 := Lib.hid (sorted_insL HSO.out hxO)
          have HOM2 : Hid (∀ y, y ∈ insL O x ↔ y ∈ L.drop i) := Lib.hid fun y => by rw [mem_insL, hd, List.mem_cons, HOM.out]
          have HOL2 : Hid ((insL O x).length + i = n) := Lib.hid (by
            have : (insL O x).length = O.length + 1 := by
              unfold insL
              have h9 := congrArg List.length (List.takeWhile_append_dropWhile (p := ltB x) (l := O))
              rw [List.length_append] at h9
              rw [List.length_append, List.length_cons]; omega
            omega)
          obtain ⟨nx, hnx⟩ : ∃ nx, x.length = nx := ⟨_, rfl⟩
          have HNX := Lib.hid hnx
          have hx6 : nx ≤ 64 := by rw [← hnx]; exact HX64.out
          rw [hnx] at cx HBX HCX
          clear hx cx0 hbx hd hxO hins hnx hq
          have C20 := Lib.hid (HY6.out.ins (bv := .slice xa nx xc) (b := x) (by omega) (HBX.out.frm0 HY6.out.fr) (by have := HNX.out; omega))
          rw [HIA.out, HINS.out] at C20
          go_wp2_with (first
            | (go_at_call 20; go_must (refine C20.out.mono ?_; clear C20 cx; rintro e w6 ⟨rfl, h⟩; have HY7 := Lib.hid h; have cx := HCX.out _ h.fr; clear h HY6))
            | (go_at_call 16; go_must (refine (num_any _ _).mono ?_; rintro e w' ⟨rfl, rfl⟩))
            | (go_at_call 28; go_must (refine (HY7.out.has (HBX.out.frm0 HY7.out.fr) (by have := HNX.out; omega)).mono ?_; rintro e w' ⟨rfl, rfl⟩; rw [HXM.out])))
          clear cx
          go_loopw [13, 15] (fun s13 s15 wq => ∃ (k : Nat) (y : Bool), s13 = .bool y ∧ s15 = .int .i64 k ∧ k ≤ n ∧ (y = true ↔ FR L (i + 1) ∧ FRi L i k) ∧ HY w tb tc M (insL O x) (81000 + 64 * (n - i)) (.slice ua cn uc) (.slice va cn vc) wq) (fun _ s15 _ => n - (intOf s15).toNat)
          case atStart => exact ⟨0, z, rfl, rfl, Nat.zero_le _, by rw [HZ.out]; exact ⟨fun h => ⟨h, FRi.zero⟩, fun h => h.1⟩, by have e : 81000 + 64 * (n - i) = 81000 + 64 * (n - (i + 1)) + 64 := (by omega); rw [e]; exact HY7.out⟩
          case round =>
            obtain ⟨k, y, rfl, rfl, hk, hy, hY⟩ := hrel
            have HYZ := Lib.hid hy; have HY8 := Lib.hid hY
            clear hy hY
            by_cases hkn : k < n
            · have hkn' : (k : Int) < (n : Int) := by omega
              obtain ⟨u, hu⟩ : ∃ u, L[k]? = some u := ⟨_, List.getElem?_eq_getElem (by rw [HN.out]; exact hkn)⟩
              have HU := Lib.hid hu
              obtain ⟨g2, o2, ya, yc, e, cy0, hby⟩ := HCS.out k u hu
              cases e
              have cx := HCX.out _ HY8.out.fr
              have cy := HY8.out.fr.cellAt cy0 (by simp)
              have HSTEP := Lib.hid (FRi.step HX.out hu)
              have hby8 := hby.frm0 HY8.out.fr
              have hbx8 := HBX.out.frm0 HY8.out.fr
              obtain ⟨ny, hny⟩ : ∃ ny, u.length = ny := ⟨_, rfl⟩
              have HNY := Lib.hid hny
              rw [hny] at cy hby8
              have hcy : ∀ m, (convert 23 9 (.slice ya ny yc)).run Try.prog (wr.drewN m) = .ok (.string (txt u)) (wr.drewN m) := fun m => (hby8.frm0 ((Frm.refl [] wr).drewN m)).conv
              clear hu cy0 hby hny
              cases y with
              | false =>
                have hf : ¬ (FR L (i + 1) ∧ FRi L i (k + 1)) := fun h => by
                  have := HYZ.out.2 ⟨h.1, (HSTEP.out.1 h.2).1⟩
                  cases this
                have HFF := Lib.hid hf
                clear hf hcy hby8 hbx8
                go_wp2
                go_quiet (fail)
                go_wp2
                exact ⟨⟨k + 1, false, rfl, by simp, hkn, ⟨fun h => (by cases h), fun h => absurd h HFF.out⟩, HY8.out.frm ((Frm.refl _ _).drewN _)⟩, by simp [intOf]; omega⟩
              | true =>
                by_cases hki : k = i
                · subst hki
                  have HTT : Hid (FR L (k + 1) ∧ FRi L k (k + 1)) := Lib.hid ⟨(HYZ.out.1 rfl).1, HSTEP.out.2 ⟨(HYZ.out.1 rfl).2, .inl rfl⟩⟩
                  have hkk : decide ((k : Int) = (k : Int)) = true := decide_eq_true rfl
                  clear hcy hby8 hbx8 cy
                  go_wp2
                  go_quiet (fail)
                  go_wp2
                  exact ⟨⟨k + 1, true, rfl, by simp, hkn, ⟨fun _ => HTT.out, fun _ => rfl⟩, HY8.out.frm ((Frm.refl _ _).drewN _)⟩, by simp [intOf]; omega⟩
                · have hkk : ((k : Int) == (i : Int)) = false := by rw [beq_eq_false_iff_ne]; omega
                  by_cases hlen : nx < ny
                  · have HTT : Hid (FR L (i + 1) ∧ FRi L i (k + 1)) := Lib.hid ⟨(HYZ.out.1 rfl).1, HSTEP.out.2 ⟨(HYZ.out.1 rfl).2, .inr (fun h => by have := h.length_le; rw [HNX.out, HNY.out] at this; omega)⟩⟩
                    have hln : decide ((nx : Int) < (ny : Int)) = true := decide_eq_true (by omega)
                    clear hcy hby8 hbx8
                    go_wp2
                    go_quiet (fail)
                    go_wp2
                    exact ⟨⟨k + 1, true, rfl, by simp, hkn, ⟨fun _ => HTT.out, fun _ => rfl⟩, HY8.out.frm ((Frm.refl _ _).drewN _)⟩, by simp [intOf]; omega⟩
                  · have hln : decide ((nx : Int) < (ny : Int)) = false := decide_eq_false (by omega)
                    have htl : (x.take ny).length = ny := by rw [List.length_take, HNX.out]; omega
                    obtain ⟨v1, hc1, hb1, ⟨va1, vc1, rfl⟩, -⟩ := hbx8.cutH (hi := (ny : Int)) (j := ny) rfl (by rw [HNX.out]; omega)
                    rw [htl] at hc1 hb1
                    have hc2 : ∀ m, (convert 23 9 (.slice va1 ny vc1)).run Try.prog (wr.drewN m) = .ok (.string (txt (x.take ny))) (wr.drewN m) := fun m => by
                      have := (hb1.frm0 ((Frm.refl [] wr).drewN m)).conv
                      exact this
                    have heq0 : ((txt (x.take ny)).toList == (txt u).toList) = decide (x.take ny = u) := by rw [str_beq, txt_eq]
                    by_cases hpx : x.take ny = u
                    · have hf : ¬ (FR L (i + 1) ∧ FRi L i (k + 1)) := fun h => by
                        rcases (HSTEP.out.1 h.2).2 with h3 | h3
                        · exact hki h3
                        · exact h3 (by rw [← hpx]; exact List.take_prefix _ _)
                      have HFF := Lib.hid hf
                      rw [decide_eq_true hpx] at heq0
                      clear hf hby8 hbx8 hb1 htl hpx
                      go_wp2
                      go_quiet (fail)
                      go_wp2
                      exact ⟨⟨k + 1, false, rfl, by simp, hkn, ⟨fun h => (by cases h), fun h => absurd h HFF.out⟩, HY8.out.frm ((Frm.refl _ _).drewN _)⟩, by simp [intOf]; omega⟩
                    · have HTT : Hid (FR L (i + 1) ∧ FRi L i (k + 1)) := Lib.hid ⟨(HYZ.out.1 rfl).1, HSTEP.out.2 ⟨(HYZ.out.1 rfl).2, .inr (fun h => hpx (by have h4 := List.prefix_iff_eq_take.1 h; rw [HNY.out] at h4; exact h4.symm))⟩⟩
                      rw [decide_eq_false hpx] at heq0
                      clear hby8 hbx8 hb1 htl hpx
                      go_wp2
                      go_quiet (fail)
                      go_wp2
                      exact ⟨⟨k + 1, true, rfl, by simp, hkn, ⟨fun _ => HTT.out, fun _ => rfl⟩, HY8.out.frm ((Frm.refl _ _).drewN _)⟩, by simp [intOf]; omega⟩
            · obtain rfl : k = n := by omega
              have hge : ¬ (k : Int) < (k : Int) := by omega
              go_wp2
              refine ⟨⟨i, (i : Int) - 1, y, insL O x, rfl, rfl, rfl, by omega, HSO2.out, HOL2.out, HOM2.out, ?_, HY8.out⟩, by simp [intOf]⟩
              have hst := FR.step (L := L) (i := i)
              rw [HN.out] at hst
              exact HYZ.out.trans hst.symm
  · have hno : (no == 0) = false := by rw [beq_eq_false_iff_ne]; exact h0
    go_enter Try.func10, Try.ntmps10
    go_wp2_with (first
      | (go_at_call 11; go_must (refine CF.out.mono ?_; clear CF; rintro e w' ⟨rfl, rfl⟩))
      | (go_at_call 13; go_must (refine CN.out.mono ?_; clear CN; rintro e w2 ⟨v, rfl, hf, xo, rfl, -⟩; have HF2 := Lib.hid hf; clear hf))
      | (go_at_call 16; go_must (refine (num_any _ _).mono ?_; rintro e w' ⟨rfl, rfl⟩))
      | (go_at_call 12; go_must (refine (known_any _).mono ?_; rintro e w5 ⟨rfl, hf⟩; have HF5 := Lib.hid hf; clear hf)))
    go_ret
    exact ⟨rfl, HF2.out.trans HF5.out⟩
end Go.Proofs.Ytefpfcheafbfdaa
