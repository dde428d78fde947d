/- TriePlays: the walk. -/
import Derived.Test.YtefpfcheafbfdaaIs
import Derived.Test.YtefpfcheafbfdaaWordsW
namespace Go.Proofs.Ytefpfcheafbfdaa
open Go.RowKit Go.Maps Go.BigFrame

/-- a set, and the list that the reference keeps of it -/
structure PX (w : World) (tb : Nat) (L : List Wd) (d : Nat) (lv : Value) (V : World) : Prop where
  st : ∃ S N, St V tb L S N ∧ (∀ k, S k → w.heap.size ≤ k) ∧ N ≤ 70000 + 64 * d
  tx : Txts V lv L
  fr : Frm [] w V
/-- a slice of Bools -/
def Bls (w : World) (v : Value) (n : Nat) : Prop := ∃ ao cap, v = .slice ao n cap ∧ ∀ k, k < n → ∃ b o z, ao = some ⟨b, o, none⟩ ∧ w.cell? ⟨b, o + k, none⟩ = some (.bool z)
section
variable {w V V' : World} {tb d : Nat} {lv bv : Value} {L : List Wd}
theorem PX.frm (h : PX w tb L d lv V) (hf : Frm [] V V') : PX w tb L d lv V' := by
  obtain ⟨S, N, h1, h2, h3⟩ := h.st
  exact ⟨⟨S, N, h1.frm0 hf, h2, h3⟩, h.tx.frm0 hf, h.fr.trans hf⟩
/-- behind a call that turned the set: the list is still the elder one -/
structure QX (w : World) (tb : Nat) (L L' : List Wd) (d : Nat) (lv : Value) (V : World) : Prop where
  st : ∃ S N, St V tb L' S N ∧ (∀ k, S k → w.heap.size ≤ k) ∧ N ≤ 70000 + 64 * (d + 1)
  len : L.length ≤ 1000
  tx : Txts V lv L
  fr : Frm [] w V
theorem PX.turn {L' : List Wd} (h : PX w tb L d lv V) {S : Nat → Prop} {N : Nat} (h1 : St V tb L S N) (h2 : ∀ k, S k → w.heap.size ≤ k) (h3 : N ≤ 70000 + 64 * d) (ht : StTo tb S N L' V V') : QX w tb L L' d lv V' := by
  obtain ⟨S', N', k1, k2, k3, k4⟩ := ht
  refine ⟨⟨S', N', k1, fun k hk => ?_, by omega⟩, h1.len, h1.txts k2 h.tx, k2.old h.fr h2⟩
  rcases k3 k hk with h5 | h5
  · exact h2 k h5
  · have := h.fr.size; omega
theorem PX.ins (h : PX w tb L d lv V) (b : Wd) (hb : Byts V bv b) (hbl : b.length ≤ 1000000) (hd : d ≤ 10000) : Calls Try.prog 20 #[.pointer (some ⟨tb, 0, none⟩), bv] V (Ret (.int .i64 (insEL L b)) (QX w tb L (insA L b) d lv)) := by
  obtain ⟨S, N, h1, h2, h3⟩ := h.st
  exact (h1.insert (by omega) hb hbl).mono fun _ _ ⟨e, k⟩ => ⟨e, h.turn h1 h2 h3 k⟩
theorem PX.rem (h : PX w tb L d lv V) (b : Wd) (hb : Byts V bv b) (hbl : b.length ≤ 1000000) : Calls Try.prog 18 #[.pointer (some ⟨tb, 0, none⟩), bv] V (Ret (.int .i64 (remE L b)) (QX w tb L (remA L b) d lv)) := by
  obtain ⟨S, N, h1, h2, h3⟩ := h.st
  exact (h1.remove hb hbl).mono fun _ _ ⟨e, k⟩ => ⟨e, h.turn h1 h2 h3 k⟩
theorem QX.rins {L' : List Wd} (h : QX w tb L L' d lv V) (b : Wd) (hbl : b.length ≤ 1000000) (hL : L' = insA L b) : Calls Try.prog 21 #[lv, .string (txt b)] V (RetV fun v V' => ∃ la lc, v = .tuple #[.slice la L'.length lc, .int .i64 (insEL L b)] ∧ PX w tb L' (d + 1) (.slice la L'.length lc) V') := by
  refine (rins_any h.tx h.len b hbl).mono ?_
  rintro e V' ⟨v, rfl, v0, rfl, h1, h2⟩
  obtain ⟨la, lc, rfl, -⟩ := h1.len
  obtain ⟨S, N, k1, k2, k3⟩ := h.st
  subst hL
  exact ⟨_, rfl, la, lc, rfl, ⟨S, N, k1.frm0 h2, k2, k3⟩, h1, h.fr.trans h2⟩
theorem QX.rrem {L' : List Wd} (h : QX w tb L L' d lv V) (b : Wd) (hbl : b.length ≤ 1000000) (hL : L' = remA L b) : Calls Try.prog 19 #[lv, .string (txt b)] V (RetV fun v V' => ∃ la lc, v = .tuple #[.slice la L'.length lc, .int .i64 (remE L b)] ∧ PX w tb L' (d + 1) (.slice la L'.length lc) V') := by
  refine (rrem_any h.tx h.len b hbl).mono ?_
  rintro e V' ⟨v, rfl, v0, rfl, h1, h2⟩
  obtain ⟨la, lc, rfl, -⟩ := h1.len
  obtain ⟨S, N, k1, k2, k3⟩ := h.st
  subst hL
  exact ⟨_, rfl, la, lc, rfl, ⟨S, N, k1.frm0 h2, k2, k3⟩, h1, h.fr.trans h2⟩
theorem PX.is (h : PX w tb L d lv V) (b : Wd) (hb : b.length ≤ 1000) (many : Int) : Calls Try.prog 17 #[.pointer (some ⟨tb, 0, none⟩), lv, .string (txt b), .int .i64 many] V (Ret (.bool true) (PX w tb L d lv)) := by
  obtain ⟨S, N, h1, -, -⟩ := h.st
  exact (is_any h1 h.tx b hb many).mono fun _ _ ⟨e, hf⟩ => ⟨e, h.frm hf⟩
end
set_option maxHeartbeats 4000000 in
set_option maxRecDepth 100000 in
theorem plays_no (lv rv bv : Value) (L : List Wd) (b : Wd) (w : World) (hl : Wds w lv L) (hb : Byts w bv b) (h : 30 < L.length ∨ fewL L 30 = false ∨ 80 < b.length) : Calls Try.prog 4 #[lv, rv, bv] w (Ret (.bool true) (Frm [] w)) := by
  obtain ⟨bo, bc, rfl, -⟩ := hb.len
  have CF : (∃ f, Calls Try.prog 11 #[lv, .int .i64 (30 : Nat)] w (Ret (.bool f) (w = ·)) ∧ (f = false ∨ 80 < b.length)) := by
    rcases Nat.lt_or_ge 30 L.length with h1 | h1
    · exact ⟨false, few_big w lv L 30 hl h1, .inl rfl⟩
    · refine ⟨_, few_any w lv L 30 hl (by omega), ?_⟩
      rcases h with h | h | h
      · omega
      · exact .inl h
      · exact .inr h
  obtain ⟨lo, lc, rfl, -⟩ := hl
  obtain ⟨f, CF, hf⟩ := CF
  have CF := Lib.hid CF
  obtain ⟨nb, hnb⟩ : ∃ nb, b.length = nb := ⟨_, rfl⟩
  rw [hnb] at hf ⊢
  clear h hnb hb
  cases f with
  | false =>
    clear hf
    go_enter Try.func4, Try.ntmps4
    go_wp2_with (first
      | (go_at_call 11; go_must (refine CF.out.mono ?_; clear CF; rintro e w' ⟨rfl, rfl⟩))
      | (go_at_call 12; go_must (refine (known_any _).mono ?_; rintro e w2 ⟨rfl, hf⟩; have HF := Lib.hid hf; clear hf)))
    go_ret
    exact ⟨rfl, HF.out⟩
  | true =>
    have h' : (80 : Int) < (nb : Int) := by rcases hf with h | h; (· cases h); omega
    clear hf
    go_enter Try.func4, Try.ntmps4
    go_wp2_with (first
      | (go_at_call 11; go_must (refine CF.out.mono ?_; clear CF; rintro e w' ⟨rfl, rfl⟩))
      | (go_at_call 12; go_must (refine (known_any _).mono ?_; rintro e w2 ⟨rfl, hf⟩; have HF := Lib.hid hf; clear hf)))
    go_ret
    exact ⟨rfl, HF.out⟩
set_option maxHeartbeats 4000000 in
set_option maxRecDepth 100000 in
theorem plays_law (lv rv bv : Value) (L : List Wd) (b : Wd) (nr : Nat) (w : World) (hl : Wds w lv L) (hr : Bls w rv nr) (hL : L.length ≤ 30) (h80 : ∀ x ∈ L, x.length ≤ 80) (hb : Byts w bv b) (hb80 : b.length ≤ 80) : Calls Try.prog 4 #[lv, rv, bv] w (Ret (.bool true) (Frm [] w)) := by
  have CF := few_any w lv L 30 hl (by omega)
  rw [fewL_iff.2 ⟨hL, h80⟩] at CF
  have CF := Lib.hid CF
  have HB := Lib.hid hb
  obtain ⟨lo, lc, rfl, hlc, hcs⟩ := hl
  have HCS := Lib.hid hcs
  obtain ⟨ro, rc, rfl, hrs⟩ := hr
  have HRS := Lib.hid hrs
  obtain ⟨bo, bc, rfl, -⟩ := hb.len
  have HBL : Hid (b.length ≤ 80) := Lib.hid hb80
  obtain ⟨nb, hnb⟩ : ∃ nb, b.length = nb := ⟨_, rfl⟩
  rw [hnb] at hb80 HB ⊢
  have hb80' : ¬ (80 : Int) < (nb : Int) := by omega
  obtain ⟨n, hnn⟩ : ∃ n, L.length = n := ⟨_, rfl⟩
  rw [hnn] at CF hlc hL ⊢
  have HN := Lib.hid hnn
  have H80 := Lib.hid h80
  clear hcs hrs hb hnb hnn h80
  go_enter Try.func4, Try.ntmps4
  go_upto_region 7 with (first
    | (go_at_call 11; go_must (refine CF.out.mono ?_; clear CF; rintro e w' ⟨rfl, rfl⟩))
    | (go_at_call 13; go_must (refine (new_any _ [] w (Wds.nil w) (by decide) (fun _ h => nomatch h)).mono ?_; rintro e w2 ⟨v, rfl, hf, xo, rfl, h⟩; rcases h with ⟨h, -⟩ | ⟨-, tb, S, N, rfl, h1, h2, h3⟩; (· exact absurd rfl h); have X0 : Hid (PX w tb [] 0 (.slice none 0 0) w2) := Lib.hid ⟨⟨S, N, h1, h2, by omega⟩, Txts.nil _, hf⟩; clear hf h1 h2 h3))
    | (go_at_call 16; go_must (refine (num_any _ _).mono ?_; rintro e w' ⟨rfl, rfl⟩)))
  go_wp2
  go_loopw [9, 10] (fun s9 s10 wr => ∃ (i : Nat) (Li : List Wd) (la : Option Addr) (m lc : Nat), s10 = .int .i64 i ∧ i ≤ n ∧ s9 = .slice la m lc ∧ Li.length = m ∧ PX w tb Li i (.slice la m lc) wr) (fun _ s10 _ => n - (intOf s10).toNat)
  case atStart => exact ⟨0, [], none, 0, 0, rfl, Nat.zero_le _, rfl, rfl, X0.out⟩
  case round =>
    obtain ⟨i, Li, la, m, lc2, rfl, hi, rfl, hm, hX⟩ := hrel
    have X1 := Lib.hid hX; have HM := Lib.hid hm
    by_cases hlt : i < n
    · have hlt' : (i : Int) < (n : Int) := by omega
      obtain ⟨x, hx⟩ : ∃ x, L[i]? = some x := ⟨_, List.getElem?_eq_getElem (by rw [HN.out]; exact hlt)⟩
      obtain ⟨g, o, ua, uc, rfl, cx0, hbx⟩ := HCS.out i x hx
      have hx80 := H80.out x (List.mem_of_getElem? hx)
      have HX80 := Lib.hid hx80
      have HBX := Lib.hid hbx
      have CX : Hid (∀ V, Frm [] w V → V.cell? ⟨g, o + i, none⟩ = some (.slice ua x.length uc)) := Lib.hid fun V hf => hf.cellAt cx0 (by simp)
      have hcx := CX.out wr hX.fr
      by_cases hir : i < nr
      · have hir' : (i : Int) < (nr : Int) := by omega
        obtain ⟨g3, o3, z, rfl, cz0⟩ := HRS.out i hir
        have hcz := hX.fr.cellAt cz0 (by simp)
        clear cz0
        cases z with
        | true =>
          obtain ⟨L2, hL2⟩ : ∃ L2, L2 = remA Li x := ⟨_, rfl⟩
          obtain ⟨er, her⟩ : ∃ er, remE Li x = er := ⟨_, rfl⟩
          obtain ⟨m2, hm2⟩ : ∃ m2, L2.length = m2 := ⟨_, rfl⟩
          have C1 := hX.rem x (hbx.frm0 hX.fr) (by omega)
          rw [← hL2, her] at C1
          have C1 := Lib.hid C1
          have C2 : Hid (∀ V, QX w tb Li L2 i (.slice la m lc2) V → Calls Try.prog 19 #[.slice la m lc2, .string (txt x)] V (RetV fun v V' => ∃ la lc, v = .tuple #[.slice la m2 lc, .int .i64 er] ∧ PX w tb L2 (i + 1) (.slice la m2 lc) V')) := Lib.hid fun V hq => by
            have := hq.rrem x (by omega) hL2
            rwa [her, hm2] at this
          have HM2 := Lib.hid hm2
          have HCV : Hid (∀ V, Frm [] w V → (convert 23 9 (.slice ua x.length uc)).run Try.prog V = .ok (.string (txt x)) V) := Lib.hid fun V hf => (HBX.out.frm0 hf).conv
          obtain ⟨nx, hnx⟩ : ∃ nx, x.length = nx := ⟨_, rfl⟩
          rw [hnx] at C1 hcx CX HCV
          have HX81 : Hid (x.length ≤ 1000) := Lib.hid (by omega)
          have HBL1 : Hid (b.length ≤ 1000) := Lib.hid (by have := HBL.out; omega)
          have HNB : Hid (∀ V, Frm [] w V → (convert 23 9 (.slice bo nb bc)).run Try.prog V = .ok (.string (txt b)) V) := Lib.hid fun V hf => (HB.out.frm0 hf).conv
          clear hX hm hx cx0 hbx hx80 hL2 her hm2 hnx X0
          go_wp2_with (first
            | (go_at_call 18; go_must (refine C1.out.mono ?_; clear C1; rintro e w3 ⟨rfl, hq⟩; have Q3 := Lib.hid hq; replace hcx := CX.out w3 hq.fr; have hcv := HCV.out w3 hq.fr; clear hq X1))
            | (go_at_call 19; go_must (refine (C2.out _ Q3.out).mono ?_; clear C2; rintro e w4 ⟨v, rfl, la4, lc4, rfl, hp⟩; have P4 := Lib.hid hp; replace hcx := CX.out w4 hp.fr; replace hcv := HCV.out w4 hp.fr; clear hp Q3))
            | (go_at_call 16; go_must (refine (num_any _ _).mono ?_; rintro e w' ⟨rfl, rfl⟩))
            | (go_at_call 17; go_must (first
                | (refine (P4.out.is x HX81.out 9999).mono ?_; rintro e w5 ⟨rfl, hp⟩; have P5 := Lib.hid hp; replace hcv := HNB.out w5 hp.fr; clear hp P4)
                | (refine (P5.out.is b HBL1.out 1).mono ?_; rintro e w6 ⟨rfl, hp⟩; have P6 := Lib.hid hp; clear hp P5))))
          exact ⟨⟨i + 1, L2, la4, m2, lc4, by simp, hlt, rfl, HM2.out, P6.out⟩, by simp [intOf]; omega⟩
        | false =>
          obtain ⟨L2, hL2⟩ : ∃ L2, L2 = insA Li x := ⟨_, rfl⟩
          obtain ⟨er, her⟩ : ∃ er, insEL Li x = er := ⟨_, rfl⟩
          obtain ⟨m2, hm2⟩ : ∃ m2, L2.length = m2 := ⟨_, rfl⟩
          have C1 := hX.ins x (hbx.frm0 hX.fr) (by omega) (by omega)
          rw [← hL2, her] at C1
          have C1 := Lib.hid C1
          have C2 : Hid (∀ V, QX w tb Li L2 i (.slice la m lc2) V → Calls Try.prog 21 #[.slice la m lc2, .string (txt x)] V (RetV fun v V' => ∃ la lc, v = .tuple #[.slice la m2 lc, .int .i64 er] ∧ PX w tb L2 (i + 1) (.slice la m2 lc) V')) := Lib.hid fun V hq => by
            have := hq.rins x (by omega) hL2
            rwa [her, hm2] at this
          have HM2 := Lib.hid hm2
          have HCV : Hid (∀ V, Frm [] w V → (convert 23 9 (.slice ua x.length uc)).run Try.prog V = .ok (.string (txt x)) V) := Lib.hid fun V hf => (HBX.out.frm0 hf).conv
          obtain ⟨nx, hnx⟩ : ∃ nx, x.length = nx := ⟨_, rfl⟩
          rw [hnx] at C1 hcx CX HCV
          have HX81 : Hid (x.length ≤ 1000) := Lib.hid (by omega)
          have HBL1 : Hid (b.length ≤ 1000) := Lib.hid (by have := HBL.out; omega)
          have HNB : Hid (∀ V, Frm [] w V → (convert 23 9 (.slice bo nb bc)).run Try.prog V = .ok (.string (txt b)) V) := Lib.hid fun V hf => (HB.out.frm0 hf).conv
          clear hX hm hx cx0 hbx hx80 hL2 her hm2 hnx X0
          go_wp2_with (first
            | (go_at_call 20; go_must (refine C1.out.mono ?_; clear C1; rintro e w3 ⟨rfl, hq⟩; have Q3 := Lib.hid hq; replace hcx := CX.out w3 hq.fr; have hcv := HCV.out w3 hq.fr; clear hq X1))
            | (go_at_call 21; go_must (refine (C2.out _ Q3.out).mono ?_; clear C2; rintro e w4 ⟨v, rfl, la4, lc4, rfl, hp⟩; have P4 := Lib.hid hp; replace hcx := CX.out w4 hp.fr; replace hcv := HCV.out w4 hp.fr; clear hp Q3))
            | (go_at_call 16; go_must (refine (num_any _ _).mono ?_; rintro e w' ⟨rfl, rfl⟩))
            | (go_at_call 17; go_must (first
                | (refine (P4.out.is x HX81.out 9999).mono ?_; rintro e w5 ⟨rfl, hp⟩; have P5 := Lib.hid hp; replace hcv := HNB.out w5 hp.fr; clear hp P4)
                | (refine (P5.out.is b HBL1.out 1).mono ?_; rintro e w6 ⟨rfl, hp⟩; have P6 := Lib.hid hp; clear hp P5))))
          exact ⟨⟨i + 1, L2, la4, m2, lc4, by simp, hlt, rfl, HM2.out, P6.out⟩, by simp [intOf]; omega⟩
      · have hir' : ¬ (i : Int) < (nr : Int) := by omega
        obtain ⟨L2, hL2⟩ : ∃ L2, L2 = insA Li x := ⟨_, rfl⟩
        obtain ⟨er, her⟩ : ∃ er, insEL Li x = er := ⟨_, rfl⟩
        obtain ⟨m2, hm2⟩ : ∃ m2, L2.length = m2 := ⟨_, rfl⟩
        have C1 := hX.ins x (hbx.frm0 hX.fr) (by omega) (by omega)
        rw [← hL2, her] at C1
        have C1 := Lib.hid C1
        have C2 : Hid (∀ V, QX w tb Li L2 i (.slice la m lc2) V → Calls Try.prog 21 #[.slice la m lc2, .string (txt x)] V (RetV fun v V' => ∃ la lc, v = .tuple #[.slice la m2 lc, .int .i64 er] ∧ PX w tb L2 (i + 1) (.slice la m2 lc) V')) := Lib.hid fun V hq => by
          have := hq.rins x (by omega) hL2
          rwa [her, hm2] at this
        have HM2 := Lib.hid hm2
        have HCV : Hid (∀ V, Frm [] w V → (convert 23 9 (.slice ua x.length uc)).run Try.prog V = .ok (.string (txt x)) V) := Lib.hid fun V hf => (HBX.out.frm0 hf).conv
        obtain ⟨nx, hnx⟩ : ∃ nx, x.length = nx := ⟨_, rfl⟩
        rw [hnx] at C1 hcx CX HCV
        have HX81 : Hid (x.length ≤ 1000) := Lib.hid (by omega)
        have HBL1 : Hid (b.length ≤ 1000) := Lib.hid (by have := HBL.out; omega)
        have HNB : Hid (∀ V, Frm [] w V → (convert 23 9 (.slice bo nb bc)).run Try.prog V = .ok (.string (txt b)) V) := Lib.hid fun V hf => (HB.out.frm0 hf).conv
        clear hX hm hx cx0 hbx hx80 hL2 her hm2 hnx X0
        go_wp2_with (first
          | (go_at_call 20; go_must (refine C1.out.mono ?_; clear C1; rintro e w3 ⟨rfl, hq⟩; have Q3 := Lib.hid hq; replace hcx := CX.out w3 hq.fr; have hcv := HCV.out w3 hq.fr; clear hq X1))
          | (go_at_call 21; go_must (refine (C2.out _ Q3.out).mono ?_; clear C2; rintro e w4 ⟨v, rfl, la4, lc4, rfl, hp⟩; have P4 := Lib.hid hp; replace hcx := CX.out w4 hp.fr; replace hcv := HCV.out w4 hp.fr; clear hp Q3))
          | (go_at_call 16; go_must (refine (num_any _ _).mono ?_; rintro e w' ⟨rfl, rfl⟩))
          | (go_at_call 17; go_must (first
              | (refine (P4.out.is x HX81.out 9999).mono ?_; rintro e w5 ⟨rfl, hp⟩; have P5 := Lib.hid hp; replace hcv := HNB.out w5 hp.fr; clear hp P4)
              | (refine (P5.out.is b HBL1.out 1).mono ?_; rintro e w6 ⟨rfl, hp⟩; have P6 := Lib.hid hp; clear hp P5))))
        exact ⟨⟨i + 1, L2, la4, m2, lc4, by simp, hlt, rfl, HM2.out, P6.out⟩, by simp [intOf]; omega⟩
    · obtain rfl : i = n := by omega
      have hge : ¬ (i : Int) < (i : Int) := by omega
      clear hX hm X0
      go_wp2_with (go_at_call 12; go_must (refine (known_any _).mono ?_; rintro e w9 ⟨rfl, hf⟩; have HF := Lib.hid hf; clear hf))
      go_ret
      exact ⟨rfl, X1.out.fr.trans HF.out⟩
end Go.Proofs.Ytefpfcheafbfdaa
