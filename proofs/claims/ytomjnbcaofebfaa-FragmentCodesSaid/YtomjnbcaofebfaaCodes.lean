/- FragmentCodes: the walk. -/
import Derived.Test.YtomjnbcaofebfaaPacks
namespace Go.Proofs.Ytomjnbcaofebfaa
open Go.RowKit Go.BigFrame

set_option maxHeartbeats 4000000 in
set_option maxRecDepth 100000 in
theorem codes_big (m u c at' by' : Int) (ao : Option Addr) (n cap : Nat) (ao2 : Option Addr) (n2 cap2 : Nat) (w : World) (hn : 1100 < n ∨ 1100 < n2) : Calls Try.prog 6 #[.agg #[.int .i64 m, .int .i64 u, .int .i64 c, .slice ao n cap], .slice ao2 n2 cap2, .int .i64 at', .int .u8 by'] w (Ret (.bool true) (Frm [] w)) := by
  by_cases h1 : 1100 < n
  · have hn' : (1100 : Int) < (n : Int) := by omega
    clear hn h1
    go_enter Try.func6, Try.ntmps6
    go_wp2_with (go_at_call 8; go_must (refine (known_any _).mono ?_; rintro e w2 ⟨rfl, hf⟩; have HF := Lib.hid hf; clear hf))
    go_ret
    exact ⟨rfl, ((Frm.refl [] w).alloc _).trans HF.out⟩
  · have hn' : ¬ (1100 : Int) < (n : Int) := by omega
    have hn2 : (1100 : Int) < (n2 : Int) := by omega
    clear hn h1
    go_enter Try.func6, Try.ntmps6
    go_wp2_with (go_at_call 8; go_must (refine (known_any _).mono ?_; rintro e w2 ⟨rfl, hf⟩; have HF := Lib.hid hf; clear hf))
    go_ret
    exact ⟨rfl, ((Frm.refl [] w).alloc _).trans HF.out⟩
theorem byts_set {w : World} {g cap : Nat} {l : List UInt8} {cur : Array Value} (hb : w.heap[g]? = some (.cells cur 5 (0, 0))) (h : Byts w (.slice (some ⟨g, 0, none⟩) l.length cap) l) (i : Nat) (hi : i < l.length) (y : UInt8) :
    Byts (w.setCell ⟨g, i, none⟩ (u8 y)) (.slice (some ⟨g, 0, none⟩) l.length cap) (l.set i y) := by
  obtain ⟨ao, cap', e, h1, h2⟩ := h
  cases e
  refine ⟨_, cap, by rw [List.length_set], by rw [List.length_set]; exact h1, fun k x hk => ⟨g, 0, rfl, ?_⟩⟩
  have hb' := block_setCell hb i (u8 y)
  have hkl : k < l.length := by have := lt_of_some hk; rwa [List.length_set] at this
  have old : ∀ j, j < l.length → ∃ z, cur[j]? = some (u8 z) ∧ l[j]? = some z := fun j hj => by
    obtain ⟨b', o', e, c⟩ := h2 j _ (List.getElem?_eq_getElem hj)
    cases e
    rw [Nat.zero_add, cell_of hb] at c
    exact ⟨_, c, List.getElem?_eq_getElem hj⟩
  rw [Nat.zero_add, cell_of hb']
  by_cases e : k = i
  · subst e
    rw [List.getElem?_set_self hkl] at hk
    cases hk
    obtain ⟨z, hz, -⟩ := old k hkl
    rw [Array.getElem?_setIfInBounds_self_of_lt (Array.getElem?_eq_some_iff.1 hz).1]
  · rw [List.getElem?_set_ne (fun e2 => e e2.symm)] at hk
    obtain ⟨z, hz, hz2⟩ := old k hkl
    rw [hk] at hz2
    cases hz2
    rw [Array.getElem?_setIfInBounds_ne (fun e2 => e e2.symm)]
    exact hz
set_option maxHeartbeats 4000000 in
set_option maxRecDepth 100000 in
theorem codes_any (p : Prt) (ao : Option Addr) (cap : Nat) (b : List UInt8) (ao2 : Option Addr) (cap2 : Nat) (at' by' : Int) (w : World) (hp : Byts w (.slice ao p.b.length cap) p.b) (hb : Byts w (.slice ao2 b.length cap2) b) (hn : p.b.length ≤ 1100) (hn2 : b.length ≤ 1100) (hby0 : 0 ≤ by') (hby1 : by' ≤ 255) :
    Calls Try.prog 6 #[.agg #[.int .i64 p.msg, .int .i64 p.num, .int .i64 p.cnt, .slice ao p.b.length cap], .slice ao2 b.length cap2, .int .i64 at', .int .u8 by'] w (Ret (.bool true) (Frm [] w)) := by
  obtain ⟨W0, hW0⟩ : ∃ W0, w.alloc (.cells #[.int .i64 p.msg, .int .i64 p.num, .int .i64 p.cnt, .slice ao p.b.length cap] 38) = W0 := ⟨_, rfl⟩
  have HF0 : Hid (Frm [] w W0) := Lib.hid (by rw [← hW0]; exact (Frm.refl [] w).alloc _)
  have HG0 : Hid (W0.heap[w.heap.size]? = some (.cells #[.int .i64 p.msg, .int .i64 p.num, .int .i64 p.cnt, .slice ao p.b.length cap] 38 (0, 0))) := Lib.hid (by rw [← hW0]; exact heap_alloc_new w _)
  have HW0 := Lib.hid hW0
  have C17 : Hid (∀ W, Frm [] w W → Calls Try.prog 17 #[.agg #[.int .i64 p.msg, .int .i64 p.num, .int .i64 p.cnt, .slice ao p.b.length cap]] W (RetV (PkR W p))) := Lib.hid fun W hf => pack_any p _ W (hp.frm0 hf) (by omega)
  have HPB := Lib.hid hp
  have hbl : ∀ j, (Value.slice ao2 b.length cap2).ownBlock = some j → 0 < b.length → j < w.heap.size := fun j hj h0 => by
    obtain ⟨ao', cap', e, -, h2⟩ := hb
    cases e
    obtain ⟨b', o', rfl, e⟩ := h2 0 _ (List.getElem?_eq_getElem h0)
    have h3 := cell_lt e
    cases hj; exact h3
  have C19 : Hid (∀ W, Frm [] w W → Calls Try.prog 19 #[.slice ao2 b.length cap2] W (RetV (UnpTo W b))) := Lib.hid fun W hf => by
    rcases Nat.eq_zero_or_pos b.length with h0 | h0
    · exact unpack_short _ b W (hb.frm0 hf) (by omega)
    · exact unpack_any _ b W (hb.frm0 hf) (by omega) (fun j hj => by have := hbl j hj h0; have := hf.size; omega)
  have HBB := Lib.hid hb
  have hn' : ¬ (1100 : Int) < (p.b.length : Int) := by omega
  have hn2' : ¬ (1100 : Int) < (b.length : Int) := by omega
  obtain ⟨q, hq⟩ : ∃ q, unpackR b = q := ⟨_, rfl⟩
  obtain ⟨qe, hqe⟩ : ∃ qe, unpackE b = qe := ⟨_, rfl⟩
  have HQ : Hid (qe = 0 → packR q = b ∧ packE q = 0 ∧ q.b.length ≤ 1000000) := Lib.hid fun e => by
    rw [e] at hqe
    obtain ⟨h1, h2⟩ := pack_unpack hqe
    have h3 : q = unpackP b := by rw [← hq]; unfold unpackR; rw [if_pos hqe]
    rw [h3]
    unfold packR packE
    rw [if_pos h1, if_pos h1]
    exact ⟨h2, rfl, by have := (rightB_len h1).1; omega⟩
  unfold UnpTo pv at C19
  rw [hq, hqe] at C19
  have HNP : Hid (p.b.length ≤ 1100) := Lib.hid hn
  generalize hnn : p.b.length = n at *
  have HNN := Lib.hid hnn
  clear hnn
  obtain ⟨n2, hnn2⟩ : ∃ n2, b.length = n2 := ⟨_, rfl⟩
  have HNN2 := Lib.hid hnn2
  rw [hnn2] at C19 HBB hn2' ⊢
  clear hp hb hn hn2 hbl hq hqe hW0 hnn2
  go_enter Try.func6, Try.ntmps6
  have c0 := cell_of HG0.out 0
  have c1 := cell_of HG0.out 1
  have c2 := cell_of HG0.out 2
  have c3 := cell_of HG0.out 3
  go_upto_region 1 with fail
  rw [HW0.out]
  clear HW0
  go_upto_if 36 with (first
    | (go_at_call 19; go_must (refine (C19.out _ HF0.out).mono ?_; clear C19; rintro e w1 ⟨v, rfl, b3, rfl, hb, hf⟩; obtain ⟨a3, z3, rfl, -⟩ := hb.len; have B3 := Lib.hid hb; have F1 := Lib.hid hf; clear hb hf))
    | (go_at_call 12; go_must (refine (num_any _ _).mono ?_; rintro e w' ⟨rfl, rfl⟩)))
  clear c0 c1 c2 c3
  obtain ⟨W1, hW1⟩ : ∃ W1, w1.alloc (.cells #[.int .i64 q.msg, .int .i64 q.num, .int .i64 q.cnt, .slice a3 q.b.length z3] 38) = W1 := ⟨_, rfl⟩
  have HF1 : Hid (Frm [] w W1) := Lib.hid (by rw [← hW1]; exact (HF0.out.trans F1.out).alloc _)
  have HG1 : Hid (W1.heap[w1.heap.size]? = some (.cells #[.int .i64 q.msg, .int .i64 q.num, .int .i64 q.cnt, .slice a3 q.b.length z3] 38 (0, 0))) := Lib.hid (by rw [← hW1]; exact heap_alloc_new w1 _)
  have HG01 : Hid (W1.heap[w.heap.size]? = some (.cells #[.int .i64 p.msg, .int .i64 p.num, .int .i64 p.cnt, .slice ao n cap] 38 (0, 0))) := Lib.hid (by rw [← hW1]; exact alloc_at (F1.out.at HG0.out (by simp)))
  have B1 : Hid (Byts W1 (.slice a3 q.b.length z3) q.b) := Lib.hid (by rw [← hW1]; exact B3.out.frm0 ((Frm.refl [] w1).alloc _))
  rw [hW1]
  clear hW1
  go_cut [8] (fun s8 wx => s8 = .bool false ∧ Frm [] W1 wx)
  case first =>
    by_cases hqe : qe = 0
    · subst hqe
      obtain ⟨e1, e2, e3⟩ := HQ.out rfl
      have C17q : Hid (Calls Try.prog 17 #[.agg #[.int .i64 q.msg, .int .i64 q.num, .int .i64 q.cnt, .slice a3 q.b.length z3]] W1 (RetV (fun v w' => ∃ ao cap, v = .tuple #[.slice ao n2 cap, .int .i64 0] ∧ w'.ownsRow W1.heap.size 5 1 (.slice ao n2 cap) n2 (b.map u8) ∧ Frm [] W1 w'))) := Lib.hid (by
        have := pack_any q _ W1 B1.out e3
        unfold PkR at this
        rw [e1, e2, HNN2.out] at this
        exact this)
      have c0 := cell_of HG1.out 0
      have c1 := cell_of HG1.out 1
      have c2 := cell_of HG1.out 2
      have c3 := cell_of HG1.out 3
      clear e1 e2 e3
      go_wp2_with (first
        | (go_at_call 17; go_must (refine C17q.out.mono ?_; clear C17q; rintro e w2 ⟨v, rfl, a4, z4, rfl, ho, hf⟩; have F2 := Lib.hid hf; have k1 := (Byts.of_own (v := .slice a4 n2 z4) (l := b) (by rw [HNN2.out]; exact ho)).conv; have k2 := (HBB.out.frm0 (HF1.out.trans hf)).conv; clear ho hf))
        | (go_at_call 12; go_must (refine (num_any _ _).mono ?_; rintro e w' ⟨rfl, rfl⟩)))
      go_meet
      exact ⟨rfl, F2.out⟩
    · have hb : (qe == 0) = false := by simpa using hqe
      clear hqe
      go_wp2
      go_meet
      exact ⟨rfl, Frm.refl _ _⟩
  case rest =>
    obtain ⟨rfl, hfc⟩ := hcut
    have HFC := Lib.hid (HF1.out.trans hfc)
    have hgc := hfc.at HG01.out (by simp)
    have HGC := Lib.hid hgc
    have c0 := cell_of hgc 0
    have c1 := cell_of hgc 1
    have c2 := cell_of hgc 2
    have c3 := cell_of hgc 3
    have C17c := Lib.hid (C17.out wc HFC.out)
    clear hfc hgc HQ C17
    unfold PkR packR packE at C17c
    cases hr : rightB p with
    | false =>
      rw [hr] at C17c
      simp only [Bool.false_eq_true, if_false, List.length_nil] at C17c
      clear hr
      go_wp2_with (first
        | (go_at_call 17; go_must (refine C17c.out.mono ?_; clear C17c; rintro e w2 ⟨v, rfl, a4, z4, rfl, ho, hf⟩; have F2 := Lib.hid (HFC.out.trans hf); clear ho hf))
        | (go_at_call 12; go_must (refine (num_any _ _).mono ?_; rintro e w' ⟨rfl, rfl⟩))
        | (go_at_call 8; go_must (refine (known_any w2).mono ?_; rintro e w7 ⟨rfl, hf⟩; have F7 := Lib.hid (F2.out.trans hf); clear hf)))
      go_ret
      exact ⟨rfl, F7.out⟩
    | true =>
      rw [hr] at C17c
      simp only [if_true] at C17c
      have HRB := Lib.hid hr
      have hL6 := packL_length p
      have HC19 : Hid (∀ W v, Byts W v (packL p) → (∀ j, v.ownBlock = some j → j < W.heap.size) → Calls Try.prog 19 #[v] W (RetV (fun v w' => ∃ bv, v = .tuple #[.agg #[.int .i64 p.msg, .int .i64 p.num, .int .i64 p.cnt, bv], .int .i64 0] ∧ Byts w' bv p.b ∧ Frm [] W w'))) := Lib.hid fun W v hb hv => by
        have h := unpack_any v _ W hb (by have := HNP.out; have := HNN.out; omega) hv
        unfold UnpTo pv at h
        have e1 : unpackR (packL p) = p := by unfold unpackR; rw [if_pos (unpackE_pack HRB.out), unpackP_pack HRB.out]
        rw [unpackE_pack HRB.out, e1] at h
        exact h
      have HC10 : Hid (∀ W v i y, i < (packL p).length → (packL p)[i]? ≠ some y → Byts W v ((packL p).set i y) → (∀ j, v.ownBlock = some j → j < W.heap.size) → Calls Try.prog 19 #[v] W (RetV (fun v w' => ∃ bv, v = .tuple #[.agg #[.int .i64 0, .int .i64 0, .int .i64 0, bv], .int .i64 10] ∧ Byts w' bv [] ∧ Frm [] W w'))) := Lib.hid fun W v i y hi hy hb hv => by
        have h := unpack_any v _ W hb (by rw [List.length_set]; have := HNP.out; have := HNN.out; omega) hv
        have e0 : unpackE ((packL p).set i y) = 10 := unpack_set HRB.out hi (fun e => hy (by rw [List.getElem?_eq_getElem hi, e]))
        unfold UnpTo pv unpackR at h
        rw [e0] at h
        exact h
      have CS : Hid (∀ W v1 v2, Byts W v1 p.b → Byts W v2 p.b → Calls Try.prog 21 #[.agg #[.int .i64 p.msg, .int .i64 p.num, .int .i64 p.cnt, v1], .agg #[.int .i64 p.msg, .int .i64 p.num, .int .i64 p.cnt, v2]] W (Ret (.bool true) (Frm [] W))) := Lib.hid fun W v1 v2 h1 h2 => by
        have := same_any p p v1 v2 W h1 h2
        rwa [decide_eq_true rfl] at this
      obtain ⟨L, hL⟩ : ∃ L, packL p = L := ⟨_, rfl⟩
      rw [hL] at C17c HC19 HC10 hL6
      obtain ⟨nl, hnl⟩ : ∃ nl, L.length = nl := ⟨_, rfl⟩
      rw [hnl] at C17c hL6 HC10
      have HNL := Lib.hid hnl
      have hnl6 : 6 ≤ nl := by omega
      have hnl2 : nl ≤ 2000 := by have := HNP.out; have := HNN.out; omega
      clear hr hL hnl hL6
      go_upto_region 14 with (first
        | (go_at_call 17; go_must (refine C17c.out.mono ?_; clear C17c; rintro e w2 ⟨v, rfl, a4, z4, rfl, ho, hf⟩; have O2 := Lib.hid ho; have F2 := Lib.hid hf; have hg2 := hf.at HGC.out (by simp); have HG2 := Lib.hid hg2; clear ho hf hg2))
        | (go_at_call 12; go_must (refine (num_any _ _).mono ?_; rintro e w' ⟨rfl, rfl⟩))
        | (go_at_call 19; go_must (refine (HC19.out _ _ (Byts.of_own (l := L) (by rw [HNL.out]; exact O2.out)) (fun k hk => ownBlock_lt O2.out hk)).mono ?_; clear HC19; rintro e w3 ⟨v, rfl, b5, rfl, hb, hf⟩; obtain ⟨a5, z5, rfl, -⟩ := hb.len; have B5 := Lib.hid hb; have F3 := Lib.hid hf; have hs := CS.out (w3.alloc (.cells #[.int .i64 p.msg, .int .i64 p.num, .int .i64 p.cnt, .slice a5 p.b.length z5] 38)) _ _ (HPB.out.frm0 (((HFC.out.trans F2.out).trans hf).alloc _)) (hb.frm0 ((Frm.refl [] w3).alloc _)); have HS := Lib.hid hs; have hgp := alloc_at (x := .cells #[.int .i64 p.msg, .int .i64 p.num, .int .i64 p.cnt, .slice a5 p.b.length z5] 38) (hf.at HG2.out (by simp)); have c0 := cell_of hgp 0; have c1 := cell_of hgp 1; have c2 := cell_of hgp 2; have c3 := cell_of hgp 3; clear hb hf hs hgp))
        | (go_at_call 21; go_must (refine HS.out.mono ?_; clear HS; rintro e w4 ⟨rfl, hf⟩; have F4 := Lib.hid hf; clear hf)))
      have HFW : Hid (Frm [] w w4) := Lib.hid (((((HFC.out.trans F2.out).trans F3.out).alloc _).trans F4.out))
      have O4 : Hid (w4.ownsRow wc.heap.size 5 1 (.slice a4 nl z4) nl (L.map u8)) := Lib.hid (((F3.out.alloc _).trans F4.out).owns O2.out (by simp))
      clear c0 c1 c2 c3
      by_cases hi0 : 0 ≤ at'
      case neg =>
        have k1 : decide (0 ≤ at') = false := by simpa using hi0
        go_wp2_with (go_at_call 8; go_must (refine (known_any w4).mono ?_; rintro e w7 ⟨rfl, hf⟩; have F7 := Lib.hid (HFW.out.trans hf); clear hf))
        go_ret
        exact ⟨rfl, F7.out⟩
      case pos =>
      obtain ⟨i, rfl⟩ := Int.eq_ofNat_of_zero_le hi0
      by_cases hin : i < nl
      case neg =>
        have k1 : ¬ (i : Int) < (nl : Int) := by omega
        go_wp2_with (go_at_call 8; go_must (refine (known_any w4).mono ?_; rintro e w7 ⟨rfl, hf⟩; have F7 := Lib.hid (HFW.out.trans hf); clear hf))
        go_ret
        exact ⟨rfl, F7.out⟩
      case pos =>
      have k1 : (i : Int) < (nl : Int) := by omega
      by_cases hbz : by' = 0
      case pos =>
        subst hbz
        go_wp2_with (go_at_call 8; go_must (refine (known_any w4).mono ?_; rintro e w7 ⟨rfl, hf⟩; have F7 := Lib.hid (HFW.out.trans hf); clear hf))
        go_ret
        exact ⟨rfl, F7.out⟩
      case neg =>
      have k2 : (by' != 0) = true := by simpa using hbz
      have O4b := O4.out
      rcases O4b.2 with ⟨h1, h2⟩ | ⟨g, cap', cur, hv, hge, hb, -⟩
      · omega
      cases hv
      have HBk := Lib.hid hb
      obtain ⟨x, hx⟩ : ∃ x, L[i]? = some x := ⟨_, List.getElem?_eq_getElem (by rw [HNL.out]; exact hin)⟩
      have hbyt : Byts w4 (.slice (some ⟨g, 0, none⟩) nl z4) L := by
        have h := Byts.of_own (l := L) (by rw [HNL.out]; exact O4b)
        exact h
      have ci : w4.cell? ⟨g, i, none⟩ = some (.int .u8 x.toNat) := by
        obtain ⟨ao', cap', e, -, h2⟩ := hbyt
        cases e
        obtain ⟨b', o', e, c⟩ := h2 i x hx
        cases e
        rw [Nat.zero_add] at c
        exact c
      have fi := free_of hb i
      have HBY := Lib.hid hbyt
      have HX := Lib.hid hx
      have hx255 : (x.toNat : Int) ≤ 255 := by have := x.toNat_lt; omega
      have HGE := Lib.hid hge
      clear hb hx hbyt O4b hge
      go_upto_region 16 with fail
      have hye := u8_low ((x.toNat : Int) + by')
      have hyn := lowB_toNat ((x.toNat : Int) + by')
      obtain ⟨y, hy⟩ : ∃ y, lowB ((x.toNat : Int) + by') = y := ⟨_, rfl⟩
      rw [hy] at hye hyn
      rw [← hye]
      have hne : L[i]? ≠ some y := fun e => by
        have hxx := HX.out
        rw [e] at hxx
        cases hxx
        omega
      have hb5 := byts_set (l := L) (cap := z4) HBk.out (by rw [HNL.out]; exact HBY.out) i (by rw [HNL.out]; exact hin) y
      rw [HNL.out] at hb5
      have hf5 : Frm [g] w4 (w4.setCell ⟨g, i, none⟩ (u8 y)) := (Frm.refl _ _).setCell _ (.inl (by simp)) _
      have hs5 : g < (w4.setCell ⟨g, i, none⟩ (u8 y)).heap.size := by have := lt_of_block HBk.out; have := hf5.size; omega
      obtain ⟨W5, hW5⟩ : ∃ W5, w4.setCell ⟨g, i, none⟩ (u8 y) = W5 := ⟨_, rfl⟩
      rw [hW5] at hb5 hf5 hs5 ⊢
      have C10 := Lib.hid (HC10.out W5 _ i y hin hne hb5 (fun j hj => by cases hj; exact hs5))
      have F5 : Hid (Frm [] w W5) := Lib.hid (HFW.out.then hf5 (by have := HGE.out; have := HFC.out.size; simp; omega))
      clear hW5 hb5 hf5 hs5 hne hye hyn hy ci fi HC10 hx255 HX
      go_wp2_with (first
        | (go_at_call 19; go_must (refine C10.out.mono ?_; clear C10; rintro e w6 ⟨v, rfl, b6, rfl, hb, hf⟩; obtain ⟨a6, z6, rfl, -⟩ := hb.len; have F6 := Lib.hid ((F5.out.trans hf).alloc (.cells #[.int .i64 0, .int .i64 0, .int .i64 0, .slice a6 ([] : List UInt8).length z6] 38)); clear hb hf))
        | (go_at_call 12; go_must (refine (num_any _ _).mono ?_; rintro e w' ⟨rfl, rfl⟩))
        | (go_at_call 8; go_must (refine (known_any _).mono ?_; rintro e w7 ⟨rfl, hf⟩; have F7 := Lib.hid (F6.out.trans hf); clear hf)))
      go_ret
      exact ⟨rfl, F7.out⟩
end Go.Proofs.Ytomjnbcaofebfaa
