/- TrieNews: the walk. -/
import Derived.Test.YtefpfcheafbfdaaIs
import Derived.Test.YtefpfcheafbfdaaWordsW
namespace Go.Proofs.Ytefpfcheafbfdaa
open Go.RowKit Go.Maps Go.BigFrame

/-- a row of bytes that may be written to -/
def RowX (va : Option Addr) (nx lo hi : Nat) (V : World) : Prop := 0 < nx → ∃ g cur, va = some ⟨g, 0, none⟩ ∧ lo ≤ g ∧ g < hi ∧ V.heap[g]? = some (.cells cur 5 (0, 0)) ∧ nx ≤ cur.size
theorem RowX.of {w : World} {base n vc : Nat} {va : Option Addr} {xs : List Value} (h : w.ownsRow base 5 1 (.slice va n vc) n xs) : RowX va n base w.heap.size w := fun hn => by
  obtain ⟨h1, h2⟩ := h
  rcases h2 with ⟨hv, h0⟩ | ⟨g, cap, cur, hv, hg, hh, -, -, -, h4⟩
  · omega
  · cases hv
    refine ⟨g, cur, rfl, hg, lt_of_block hh, hh, ?_⟩
    have := congrArg List.length h4
    rw [List.length_take] at this
    simp only [Array.length_toList] at this
    omega
/-- the words of one's own, as rows that may be written to -/
def OwnR (lo hi : Nat) (v : Value) (L : List Wd) (V : World) : Prop :=
  ∃ (oa : Option Addr) (oc : Nat), v = .slice oa L.length oc ∧ ∀ (i : Nat) (x : Wd), L[i]? = some x → ∃ (g : Nat) (cs : Array Value) (va : Option Addr) (vc : Nat), oa = some ⟨g, 0, none⟩ ∧ V.heap[g]? = some (.cells cs 23 (0, 0)) ∧ cs[i]? = some (.slice va x.length vc) ∧ RowX va x.length lo hi V
theorem WL.ownR {w : World} {base : Nat} {v : Value} {L : List Wd} (h : WL w base v L) : OwnR base w.heap.size v L w := by
  obtain ⟨vs, h1, h2⟩ := h
  have h0 := h1
  rcases h1.2 with ⟨rfl, h3⟩ | ⟨g, cap, cur, rfl, -, hh, h3, -, -, h4⟩
  · obtain rfl : L = [] := List.length_eq_zero_iff.1 h3
    exact ⟨_, _, rfl, fun i x h => by simp at h⟩
  · refine ⟨_, _, rfl, fun i x hk => ?_⟩
    have hl := lt_of_some hk
    obtain ⟨u, e1, e2⟩ := h2 i x hk
    obtain ⟨ua, uc, rfl⟩ : ∃ ua uc, u = .slice ua x.length uc := own_shape e2
    have hc := World.ownsRow.cellAt h0 i (by omega)
    rw [e1, cell_of hh] at hc
    exact ⟨g, cur, ua, uc, rfl, hh, hc, RowX.of e2⟩
theorem OwnR.frm0 {lo hi : Nat} {v : Value} {L : List Wd} {V V' : World} (h : OwnR lo hi v L V) (hf : Frm [] V V') : OwnR lo hi v L V' := by
  obtain ⟨oa, oc, e, h1⟩ := h
  refine ⟨oa, oc, e, fun i x hx => ?_⟩
  obtain ⟨g, cs, va, vc, e1, e2, e3, e4⟩ := h1 i x hx
  refine ⟨g, cs, va, vc, e1, hf.at e2 (by simp), e3, fun hn => ?_⟩
  obtain ⟨g2, cur, q1, q2, q3, q4, q5⟩ := e4 hn
  exact ⟨g2, cur, q1, q2, q3, hf.at q4 (by simp), q5⟩
theorem OwnR.mono {lo hi hi' : Nat} {v : Value} {L : List Wd} {V : World} (h : OwnR lo hi v L V) (hh : hi ≤ hi') : OwnR lo hi' v L V := by
  obtain ⟨oa, oc, e, h1⟩ := h
  refine ⟨oa, oc, e, fun i x hx => ?_⟩
  obtain ⟨g, cs, va, vc, e1, e2, e3, e4⟩ := h1 i x hx
  refine ⟨g, cs, va, vc, e1, e2, e3, fun hn => ?_⟩
  obtain ⟨g2, cur, q1, q2, q3, q4, q5⟩ := e4 hn
  exact ⟨g2, cur, q1, q2, Nat.lt_of_lt_of_le q3 hh, q4, q5⟩
/-- a byte of a word is written -/
theorem OwnR.put {lo hi g c : Nat} {v z : Value} {L : List Wd} {V : World} {cur : Array Value} (h : OwnR lo hi v L V) (hg : V.heap[g]? = some (.cells cur 5 (0, 0))) : OwnR lo hi v L (V.setCell ⟨g, c, none⟩ z) := by
  obtain ⟨oa, oc, e, h1⟩ := h
  have hf : Frm [g] V (V.setCell ⟨g, c, none⟩ z) := (Frm.refl _ _).setCell _ (.inl (by simp)) _
  refine ⟨oa, oc, e, fun i x hx => ?_⟩
  obtain ⟨g1, cs, va, vc, e1, e2, e3, e4⟩ := h1 i x hx
  refine ⟨g1, cs, va, vc, e1, hf.at e2 (fun hx => ?_), e3, fun hn => ?_⟩
  · simp at hx; subst hx; rw [hg] at e2; cases e2
  · obtain ⟨g2, cur2, q1, q2, q3, q4, q5⟩ := e4 hn
    by_cases e : g2 = g
    · subst e
      rw [hg] at q4; cases q4
      exact ⟨g2, _, q1, q2, q3, block_setCell hg c z, by simpa using q5⟩
    · exact ⟨g2, cur2, q1, q2, q3, hf.at q4 (by simpa using e), q5⟩
/-- what stays while the words are overwritten -/
structure NW (w : World) (tb : Nat) (M : List Wd) (S : Nat → Prop) (N hi : Nat) (ov lv : Value) (L : List Wd) (V : World) : Prop where
  st : St V tb M S N
  tx : Txts V lv M
  tb' : ∀ k, lv.ownBlock = some k → hi ≤ k
  ow : OwnR w.heap.size hi ov L V
  fr : Frm [] w V
theorem NW.frm {w V V' : World} {tb N hi : Nat} {M L : List Wd} {S : Nat → Prop} {ov lv : Value} (h : NW w tb M S N hi ov lv L V) (hf : Frm [] V V') : NW w tb M S N hi ov lv L V' := ⟨h.st.frm0 hf, h.tx.frm0 hf, h.tb', h.ow.frm0 hf, h.fr.trans hf⟩
theorem NW.put {w V : World} {tb N hi g c : Nat} {M L : List Wd} {S : Nat → Prop} {ov lv z : Value} {cur : Array Value} (h : NW w tb M S N hi ov lv L V) (hg : V.heap[g]? = some (.cells cur 5 (0, 0))) (h1 : w.heap.size ≤ g) (h2 : g < hi) : NW w tb M S N hi ov lv L (V.setCell ⟨g, c, none⟩ z) := by
  have hf : Frm [g] V (V.setCell ⟨g, c, none⟩ z) := (Frm.refl _ _).setCell _ (.inl (by simp)) _
  refine ⟨h.st.frS (FrS.of (S := fun k => k = g) hf (fun k hk => by simp at hk; exact .inl hk)) (fun k hk hs => ?_), h.tx.frm hf (fun k hk hx => ?_), h.tb', h.ow.put hg, h.fr.then hf (fun k hk => by simp at hk; subst hk; exact .inr h1)⟩
  · subst hk
    obtain ⟨o, e1, e2⟩ := h.st.own hs
    rw [hg] at e1; cases e1; cases e2
  · simp at hx; subst hx
    have := h.tb' k hk
    omega
set_option maxHeartbeats 4000000 in
set_option maxRecDepth 100000 in
theorem news_no (lv bv : Value) (L : List Wd) (b : Wd) (many : Int) (w : World) (hl : Wds w lv L) (hb : Byts w bv b) (h : 30 < L.length ∨ fewL L 30 = false ∨ 80 < b.length) : Calls Try.prog 3 #[lv, bv, .int .i64 many] w (Ret (.bool true) (Frm [] w)) := by
  obtain ⟨bo, bc, rfl, -⟩ := hb.len
  have CF : (∃ f, Calls Try.prog 11 #[lv, .int .i64 (30 : Nat)] w (Ret (.bool f) (w = ·)) ∧ (f = false ∨ 80 < b.length)) := by
    rcases Nat.lt_or_ge 30 L.length with h1 | h1
    · exact ⟨false, few_big w lv L 30 hl h1, .inl rfl⟩
    · refine ⟨_, few_any w lv L 30 hl (by omega), ?_⟩
      rcases h with h | h | h
      · omega
      · exact .inl h
      · exact .inr h
  obtain ⟨lo, lc, rfl, -⟩ := hl
  obtain ⟨f, CF, hf⟩ := CF
  have CF := Lib.hid CF
  obtain ⟨nb, hnb⟩ : ∃ nb, b.length = nb := ⟨_, rfl⟩
  rw [hnb] at hf ⊢
  clear h hnb hb
  cases f with
  | false =>
    clear hf
    go_enter Try.func3, Try.ntmps3
    go_wp2_with (first
      | (go_at_call 11; go_must (refine CF.out.mono ?_; clear CF; rintro e w' ⟨rfl, rfl⟩))
      | (go_at_call 12; go_must (refine (known_any _).mono ?_; rintro e w2 ⟨rfl, hf⟩; have HF := Lib.hid hf; clear hf)))
    go_ret
    exact ⟨rfl, HF.out⟩
  | true =>
    have h' : (80 : Int) < (nb : Int) := by rcases hf with h | h; (· cases h); omega
    clear hf
    go_enter Try.func3, Try.ntmps3
    go_wp2_with (first
      | (go_at_call 11; go_must (refine CF.out.mono ?_; clear CF; rintro e w' ⟨rfl, rfl⟩))
      | (go_at_call 12; go_must (refine (known_any _).mono ?_; rintro e w2 ⟨rfl, hf⟩; have HF := Lib.hid hf; clear hf)))
    go_ret
    exact ⟨rfl, HF.out⟩
set_option maxHeartbeats 4000000 in
set_option maxRecDepth 100000 in
theorem news_law (lv bv : Value) (L : List Wd) (b : Wd) (many : Int) (w : World) (hl : Wds w lv L) (hL : L.length ≤ 30) (h80 : ∀ x ∈ L, x.length ≤ 80) (hb : Byts w bv b) (hb80 : b.length ≤ 80) : Calls Try.prog 3 #[lv, bv, .int .i64 many] w (Ret (.bool true) (Frm [] w)) := by
  have CF := few_any w lv L 30 hl (by omega)
  rw [fewL_iff.2 ⟨hL, h80⟩] at CF
  have CF := Lib.hid CF
  have HL := Lib.hid hl; have HB := Lib.hid hb
  have CN : Hid (∀ V v, Wds V v L → Calls Try.prog 13 #[v] V (RetV (NewTo V (newF [] L)))) := Lib.hid fun V v hv => new_any v L V hv (by omega) (fun x hx => by have := h80 x hx; omega)
  have C15 : Hid (∀ V, Frm [] w V → Calls Try.prog 15 #[lv] V (RetV (FreshT V L))) := Lib.hid fun V hf => texts_any (HL.out.frm0 hf) (by omega) (fun x hx => by have := h80 x hx; omega)
  have C14 : Hid (∀ V v, Txts V v L → Calls Try.prog 14 #[v] V (RetV (RfOwn V (.slice none 0 0) (newF [] L).1 (newF [] L).2))) := Lib.hid fun V v ht => rnew_own ht (by omega) (fun x hx => by have := h80 x hx; omega)
  obtain ⟨M, no, hR⟩ : ∃ M no, newF [] L = (M, no) := ⟨_, _, rfl⟩
  rw [hR] at CN C14
  obtain ⟨lo, lc, rfl, hlc, hcs⟩ := hl
  have HCS := Lib.hid hcs
  obtain ⟨bo, bc, rfl, -⟩ := hb.len
  have HBL : Hid (b.length ≤ 1000) := Lib.hid (by omega)
  have HCB : Hid (∀ V, Frm [] w V → (convert 23 9 (.slice bo b.length bc)).run Try.prog V = .ok (.string (txt b)) V) := Lib.hid fun V hf => (HB.out.frm0 hf).conv
  obtain ⟨nb, hnb⟩ : ∃ nb, b.length = nb := ⟨_, rfl⟩
  rw [hnb] at hb80 HB HCB ⊢
  have hb80' : ¬ (80 : Int) < (nb : Int) := by omega
  obtain ⟨n, hnn⟩ : ∃ n, L.length = n := ⟨_, rfl⟩
  rw [hnn] at CF HL C15 hlc hL ⊢
  have HN := Lib.hid hnn
  have H80 := Lib.hid h80
  clear hR hcs hb hnb hnn h80
  go_enter Try.func3, Try.ntmps3
  go_upto_region 4 with (first
    | (go_at_call 11; go_must (refine CF.out.mono ?_; clear CF; rintro e w' ⟨rfl, rfl⟩)))
  go_wp2
  go_loopw [7, 8] (fun s7 s8 wr => ∃ (i : Nat) (oa : Option Addr) (oc : Nat), s8 = .int .i64 i ∧ i ≤ n ∧ s7 = .slice oa i oc ∧ WL wr w.heap.size (.slice oa i oc) (L.take i) ∧ Frm [] w wr) (fun _ s8 _ => n - (intOf s8).toNat)
  case atStart => exact ⟨0, none, 0, rfl, Nat.zero_le _, rfl, WL.nil _ _, Frm.refl _ _⟩
  case round =>
    obtain ⟨i, oa, oc, rfl, hi, rfl, hw, hf⟩ := hrel
    have HW := Lib.hid hw; have HF := Lib.hid hf
    by_cases hlt : i < n
    · have hlt' : (i : Int) < (n : Int) := by omega
      obtain ⟨x, hx⟩ : ∃ x, L[i]? = some x := ⟨_, List.getElem?_eq_getElem (by rw [HN.out]; exact hlt)⟩
      obtain ⟨g, o, ua, uc, rfl, cx0, hbx⟩ := HCS.out i x hx
      have cx1 := hf.cellAt cx0 (by simp)
      have cx : (wr.alloc (.cells #[] 5)).cell? ⟨g, o + i, none⟩ = some (.slice ua x.length uc) := ((Frm.refl [] wr).alloc _).cellAt cx1 (by simp)
      have hx80 := H80.out x (List.mem_of_getElem? hx)
      have HBX := Lib.hid (hbx.frm0 (hf.alloc (.cells #[] 5)))
      have hd := take_snoc hx
      have HD := Lib.hid hd
      have hlen : (L.take i).length = i := by rw [List.length_take, HN.out]; omega
      have HLE := Lib.hid hlen
      obtain ⟨vs, hvs⟩ := hw
      rw [hlen] at hvs
      have HVS := Lib.hid hvs
      have hws := hf.size
      have HWS := Lib.hid hws
      have E5 : Hid ((wr.alloc (.cells #[] 5)).ownsRow wr.heap.size 5 1 (.slice (some ⟨wr.heap.size, 0, none⟩) 0 0) ([] : Wd).length (([] : Wd).map u8)) := Lib.hid (own_lit [] (Nat.le_refl _) (by simp))
      obtain ⟨i0, hi0, hz0, hz1, hz2⟩ := info_parts Try.info23
      obtain ⟨nx, hnx⟩ : ∃ nx, x.length = nx := ⟨_, rfl⟩
      have HNX := Lib.hid hnx
      rw [hnx] at cx cx1 HBX hx80
      have HX6 : Hid (([] : Wd).length + x.length ≤ 4000000) := Lib.hid (by simp; omega)
      have hb1 : i + 1 ≤ maxLen := by unfold maxLen; omega
      have hb2 : (i + 1) * 24 ≤ 140737488355328 := by omega
      have HB1 := Lib.hid hb1; have HB2 := Lib.hid hb2
      clear hf cx0 hx hbx hd hlen hvs hws hnx hb1 hb2
      go_wp2_with (first
        | (at_builtin; refine wpList_app_bytes rfl _ _ rfl wr.heap.size (.slice (some ⟨wr.heap.size, 0, none⟩) 0 0) (.slice ua nx uc) rfl rfl [] x E5.out HBX.out HX6.out (by simp) ?_; intro a5 c5 w5 hown hgrow; rw [List.nil_append, HNX.out] at hown ⊢; have O5 := Lib.hid hown; have G5 : Hid (Frm [] wr w5) := Lib.hid (((Frm.refl [] wr).alloc _).grown hgrow (fun k hk => .inr (by cases hk; exact Nat.le_refl _))); clear hown hgrow)
        | (at_builtin; refine wpList_append_own_at _ rfl _ _ 22 rfl w.heap.size 23 i0 (.slice none 0 0) 1 24 Try.underlying22 hi0 hz0 hz1 hz2 rfl (by decide) (.slice oa i oc) i vs rfl (((G5.out.alloc _).owns HVS.out.1 (by simp))) ⟨w5.heap.size, 0, none⟩ 1 1 [.slice a5 nx c5] rfl rfl (cell_one_new _ _ _) (by simp [Value.oneCell']) HB1.out HB2.out (by have := HWS.out; have := G5.out.size; simp; omega) ?_; intro v' w6 hown' hgrow _ _; obtain ⟨a6, c6, rfl⟩ := own_shape hown'; have O6 := Lib.hid hown'; have G6 := Lib.hid hgrow; clear hown' hgrow))
      have h1 : Frm (Value.slice oa i oc).ownBlock.toList wr w6 := (((G5.out.mono (by simp)).alloc _)).grown G6.out (fun k hk => .inl (by simp [hk]))
      have hnc : ∀ k ∈ (Value.slice oa i oc).ownBlock.toList, ∀ c, wr.heap[k]? ≠ some (.cells c 5 (0, 0)) := fun k hk c e => by
        obtain ⟨c', hc⟩ := ownBlock_type HVS.out.1 (Option.mem_toList.1 hk)
        rw [hc] at e; cases e
      refine ⟨⟨i + 1, a6, c6, by simp, hlt, rfl, ?_, ?_⟩, by simp [intOf]; omega⟩
      · rw [HD.out]
        have hu : OwnC w5 w.heap.size (.slice a5 nx c5) x := by
          unfold OwnC
          rw [HNX.out]
          exact own_low O5.out HWS.out
        have hg5 : Frm (Value.slice oa i oc).ownBlock.toList w5 w6 := (((Frm.refl _ _).alloc _)).grown G6.out (fun k hk => .inl (by simp [hk]))
        refine ⟨vs ++ [.slice a5 nx c5], ?_, fun j y hy => ?_⟩
        · have e1 : (L.take i ++ [x]).length = i + 1 := by simp [HLE.out]
          rw [e1]; exact O6.out
        · have hnc5 : ∀ k ∈ (Value.slice oa i oc).ownBlock.toList, ∀ c, w5.heap[k]? ≠ some (.cells c 5 (0, 0)) := fun k hk c e => by
            obtain ⟨c', hc⟩ := ownBlock_type (G5.out.owns HVS.out.1 (by simp)) (Option.mem_toList.1 hk)
            rw [hc] at e; cases e
          have hvl : vs.length = i := by simpa using HVS.out.1.1
          by_cases hj : j < i
          · rw [List.getElem?_append_left (by rw [HLE.out]; exact hj)] at hy
            obtain ⟨z, q1, q2⟩ := HVS.out.2 j y hy
            exact ⟨z, by rw [List.getElem?_append_left (by omega)]; exact q1, q2.frm h1 hnc⟩
          · have hj2 : j < i + 1 := by have := lt_of_some hy; simp [HLE.out] at this; omega
            obtain rfl : j = i := by omega
            rw [List.getElem?_append_right (by rw [HLE.out]; exact Nat.le_refl _), HLE.out, Nat.sub_self] at hy
            cases hy
            exact ⟨_, by rw [List.getElem?_append_right (by omega), hvl, Nat.sub_self]; rfl, hu.frm hg5 hnc5⟩
      · exact HF.out.then h1 (fun k hk => .inr (ownBlock_ge HVS.out.1 (Option.mem_toList.1 hk)))
    · obtain rfl : i = n := by omega
      have hge : ¬ (i : Int) < (i : Int) := by omega
      rw [← HN.out, List.take_length] at hw
      rw [HN.out] at hw
      have HWL := Lib.hid hw
      have hwd : Wds wr (.slice oa i oc) L := hw.wds
      have CN2 := Lib.hid (CN.out wr _ hwd)
      clear hw hf hwd CN HW
      by_cases h0 : no = 0
      · subst h0
        go_upto_region 14 with (first
          | (go_at_call 13; go_must (refine CN2.out.mono ?_; clear CN2; rintro e w2 ⟨v, rfl, hf, xo, rfl, h⟩; rcases h with ⟨h, -⟩ | ⟨-, tb, S, N, rfl, h1, h2, h3⟩; (· exact absurd rfl h); have HF2 := Lib.hid (HF.out.trans hf); have HO2 := Lib.hid (HWL.out.frm0 hf); have HS2 := Lib.hid h1; have HR2 := Lib.hid (HWL.out.ownR.frm0 hf); have HZ2 := Lib.hid hf.size; clear hf h1 h2 h3 HWL HF))
          | (go_at_call 15; go_must (refine (C15.out _ HF2.out).mono ?_; clear C15; rintro e w3 ⟨v, rfl, h1, h2⟩; obtain ⟨ta, tc, rfl⟩ := own_shape h1; have HT3 := Lib.hid (Txts.of_own h1); have HF3 := Lib.hid h2; clear h1 h2))
          | (go_at_call 14; go_must (refine (C14.out _ _ HT3.out).mono ?_; clear C14; rintro e w4 ⟨v, rfl, v0, rfl, h1, h2, h4⟩; obtain ⟨wa, wc4, rfl, -⟩ := h1.len; have X4 : Hid (NW w tb M S N w3.heap.size (.slice oa i oc) (.slice wa M.length wc4) L w4) := Lib.hid ⟨(HS2.out.frm0 HF3.out).frm0 h2, h1, (fun k hk => (h4 k hk).elim (fun h => by cases h) id), ((HR2.out.mono (Nat.le_trans HZ2.out HF3.out.size)).frm0 HF3.out).frm0 h2, (HF2.out.trans HF3.out).trans h2⟩; clear h1 h2 h4 HF2 HF3 HS2 HT3 HR2 HZ2))
          | (go_at_call 16; go_must (refine (num_any _ _).mono ?_; rintro e w' ⟨rfl, rfl⟩)))
        go_wp2
        go_loopw [13] (fun s13 wq => ∃ j : Nat, s13 = .int .i64 j ∧ j ≤ i ∧ NW w tb M S N w3.heap.size (.slice oa i oc) (.slice wa M.length wc4) L wq) (fun s13 _ => i - (intOf s13).toNat)
        case atStart => exact ⟨0, rfl, Nat.zero_le _, X4.out⟩
        case round =>
          obtain ⟨j, rfl, hj, hx⟩ := hrel
          have X5 := Lib.hid hx; clear hx
          by_cases hlt2 : j < i
          · have hlt2' : (j : Int) < (i : Int) := by omega
            obtain ⟨x, hx⟩ : ∃ x, L[j]? = some x := ⟨_, List.getElem?_eq_getElem (by rw [HN.out]; exact hlt2)⟩
            have HX := Lib.hid hx
            have hx80 := H80.out x (List.mem_of_getElem? hx)
            obtain ⟨oa2, oc2, e0, h1⟩ := X5.out.ow
            injection e0 with q1 _ q3
            subst q1; subst q3
            obtain ⟨g, cs, va, vc, rfl, e2, e3, -⟩ := h1 j x hx
            obtain ⟨nx, hnx⟩ : ∃ nx, x.length = nx := ⟨_, rfl⟩
            have HNX := Lib.hid hnx
            rw [hnx] at hx80 e3
            have EG := Lib.hid e2; have EC := Lib.hid e3
            clear hx h1 e2 e3 hnx
            go_wp2
            go_loopw [14] (fun s14 wz => ∃ k : Nat, s14 = .int .i64 k ∧ k ≤ nx ∧ NW w tb M S N w3.heap.size (.slice (some ⟨g, 0, none⟩) i oc) (.slice wa M.length wc4) L wz) (fun s14 _ => nx - (intOf s14).toNat)
            case atStart => exact ⟨0, rfl, Nat.zero_le _, X5.out⟩
            case round =>
              obtain ⟨k, rfl, hk, hx⟩ := hrel
              have X6 := Lib.hid hx; clear hx
              obtain ⟨oa2, oc2, e0, h1⟩ := X6.out.ow
              injection e0 with q1 _ q3
              subst q1; subst q3
              obtain ⟨g', cs', va', vc', q1, e2, e3, h4⟩ := h1 j x HX.out
              cases q1
              rw [HNX.out] at e3 h4
              have H4 := Lib.hid h4
              have cx := cell_of e2 j
              rw [e3] at cx
              clear h1 e2 e3 h4
              by_cases hlt3 : k < nx
              · have hlt3' : (k : Int) < (nx : Int) := by omega
                obtain ⟨g3, cur, rfl, r1, r2, r3, r4⟩ := H4.out (by omega)
                have cz := cell_of r3 k
                have fz := free_of r3 k
                have hz : k < cur.size := by omega
                have R := Lib.hid (NW.put (c := k) (z := .int .u8 33) X6.out r3 r1 r2)
                clear r1 r2 r3 r4 H4
                go_wp2
                exact ⟨⟨k + 1, by simp, hlt3, R.out⟩, by simp [intOf]; omega⟩
              · obtain rfl : k = nx := by omega
                have hge3 : ¬ (k : Int) < (k : Int) := by omega
                go_wp2
                refine ⟨⟨j + 1, by simp, hlt2, X6.out⟩, by simp [intOf]; omega⟩
          · obtain rfl : j = i := by omega
            have hge2 : ¬ (j : Int) < (j : Int) := by omega
            have hcv := HCB.out _ X5.out.fr
            clear HCB
            go_wp2_with (first
              | (go_at_call 17; go_must (refine (is_any X5.out.st X5.out.tx b HBL.out many).mono ?_; rintro e w6 ⟨rfl, hf⟩; have HF6 := Lib.hid (X5.out.fr.trans hf); clear hf X5))
              | (go_at_call 12; go_must (refine (known_any _).mono ?_; rintro e w7 ⟨rfl, hf⟩; have HF7 := Lib.hid hf; clear hf)))
            go_ret
            exact ⟨rfl, HF6.out.trans HF7.out⟩
      · have hno : (no == 0) = false := by rw [beq_eq_false_iff_ne]; exact h0
        go_wp2_with (first
          | (go_at_call 13; go_must (refine CN2.out.mono ?_; clear CN2; rintro e w2 ⟨v, rfl, hf, xo, rfl, h⟩; rcases h with ⟨-, rfl⟩ | ⟨h, -⟩; (case inr => exact absurd h h0); have HF2 := Lib.hid (HF.out.trans hf); clear hf HWL HF))
          | (go_at_call 15; go_must (refine (C15.out _ HF2.out).mono ?_; clear C15; rintro e w3 ⟨v, rfl, h1, h2⟩; obtain ⟨ta, tc, rfl⟩ := own_shape h1; have HT3 := Lib.hid (Txts.of_own h1); have HF3 := Lib.hid h2; clear h1 h2))
          | (go_at_call 14; go_must (refine (C14.out _ _ HT3.out).mono ?_; clear C14; rintro e w4 ⟨v, rfl, v0, rfl, h1, h2, -⟩; obtain ⟨wa, wc4, rfl, -⟩ := h1.len; have HF4 := Lib.hid h2; clear h1 h2))
          | (go_at_call 16; go_must (refine (num_any _ _).mono ?_; rintro e w' ⟨rfl, rfl⟩))
          | (go_at_call 12; go_must (refine (known_any _).mono ?_; rintro e w5 ⟨rfl, hf⟩; have HF5 := Lib.hid hf; clear hf)))
        go_ret
        exact ⟨rfl, ((HF2.out.trans HF3.out).trans HF4.out).trans HF5.out⟩
end Go.Proofs.Ytefpfcheafbfdaa
