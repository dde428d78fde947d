/- same, agrees. -/
import Derived.Test.YthelfpenccpkeaaRefB
import Derived.Test.YthelfpenccpkeaaRefD
import Derived.Test.YthelfpenccpkeaaKnown
import Derived.Deep.RegionHeld3
namespace Go.Proofs.Ythelfpenccpkeaa
open Go.RowKit Go.BigFrame
attribute [local go_sem] Oper.semAt_some

set_option maxHeartbeats 2000000 in
set_option maxRecDepth 100000 in
theorem same_any (av lv : Value) (L : List ByteArray) (w : World) (ha : Lf w av L) (hb : Lf w lv L) (hL : L.length ≤ 64) : Calls Try.prog 40 #[av, lv] w (Ret (.bool true) (Frm [] w)) := by
  obtain ⟨a1, c1, rfl, h1⟩ := ha.shape
  obtain ⟨a2, c2, rfl, h2⟩ := hb.shape
  have H1 := Lib.hid h1; have H2 := Lib.hid h2
  clear ha hb h1 h2
  go_enter Try.func40, Try.ntmps40
  go_wp2
  go_loopw [5] (fun s3 wr => ∃ i : Nat, s3 = .int .i64 i ∧ i ≤ L.length ∧ Frm [] w wr) (fun s3 _ => L.length - (intOf s3).toNat)
  case atStart => exact ⟨0, rfl, Nat.zero_le _, Frm.refl _ _⟩
  case round =>
    obtain ⟨i, rfl, hi, hf⟩ := hrel
    have HF := Lib.hid hf
    by_cases hlt : i < L.length
    · have hlt' : (i : Int) < (L.length : Int) := by omega
      obtain ⟨x, hx⟩ : ∃ x, L[i]? = some x := ⟨_, List.getElem?_eq_getElem hlt⟩
      obtain ⟨g, rfl, cx⟩ := H1.out i x hx
      obtain ⟨g', rfl, cy⟩ := H2.out i x hx
      have cx := hf.keep cx
      have cy := hf.keep cy
      clear hf hx
      go_wp2
      go_quiet (fail)
      go_wp2
      exact ⟨⟨i + 1, by simp, by omega, HF.out.drewN _⟩, by simp [intOf]; omega⟩
    · have hge : ¬ (i : Int) < (L.length : Int) := by omega
      clear hf
      go_wp2
      go_ret
      exact ⟨rfl, HF.out⟩
theorem Ints.at2 {w : World} {ao : Option Addr} {cp n : Nat} {l : List Nat} (h : Ints w (.slice ao n cp) l) {i x : Nat} (hx : l[i]? = some x) : ∃ g, ao = some ⟨g, 0, none⟩ ∧ w.cell? ⟨g, i, none⟩ = some (.int .i64 (x : Int)) ∧ g < w.heap.size := by
  have hi := (List.getElem?_eq_some_iff.1 hx).1
  rcases h.2 with ⟨hv, hn⟩ | ⟨g, c, cur, hv, -, hb, -, -, -, ht⟩
  · omega
  · cases hv
    refine ⟨g, rfl, ?_, lt_of_block hb⟩
    rw [cell_of hb]
    have h1 : (cur.toList.take (l.length * 1))[i]? = some (.int .i64 (x : Int)) := by rw [ht]; simp [hx]
    rw [List.getElem?_take_of_lt (by omega)] at h1
    simpa using h1
theorem mem_chl {cls : Int} {L : List ByteArray} {x : Nat × ByteArray} : ∀ n, x ∈ chlK cls L n → x.1 < n ∧ x.2 = L.getD x.1 ByteArray.empty
  | 0, h => by simp [chlK] at h
  | n + 1, h => by
    rw [chlK, List.mem_append] at h
    rcases h with h | h
    · have := mem_chl n h; exact ⟨by omega, this.2⟩
    · split at h
      · simp at h; subst h; exact ⟨by simp, rfl⟩
      · simp at h
theorem KI.chr' {W5 W : World} {nb bl bc cb : Nat} {cls : Int} {sv : Value} {L : List ByteArray} {pre : List (Nat × ByteArray)} (h : KI W5 nb pre W) (hc : ChR bl bc cb cls sv L W5) (h1 : nb < bl) (h2 : nb < bc)
    (h3 : ∀ k, sv.ownBlock = some k → nb < k) (h4 : cb < nb) : ChR bl bc cb cls sv L W :=
  ⟨h.fr.at hc.1 (by simp; omega), hc.2.1.frm h.fr (fun k hk hx => by have := h3 k hk; simp at hx; omega), h.fr.at hc.2.2.1 (by simp; omega), h.fr.cellAt hc.2.2.2 (by simp; omega)⟩
theorem KI.step' {W5 W : World} {nb : Nat} {pre : List (Nat × ByteArray)} {k : Int} (h : KI W5 nb pre W) (x : Nat × ByteArray) (hk : k = pre.length + 1) : KB W (W.setCell ⟨nb, 0, none⟩ (.int .i64 k)) ∧ KI W5 nb (pre ++ [x]) (W.setCell ⟨nb, 0, none⟩ (.int .i64 k)) := by
  subst hk
  have hf : Frm [nb] W (W.setCell ⟨nb, 0, none⟩ (.int .i64 ((pre.length : Int) + 1))) := (Frm.refl _ _).setCell _ (.inl (by simp)) _
  refine ⟨KB.frm hf (fun y hy => ?_), ⟨h.fr.trans hf, ?_⟩⟩
  · simp at hy; subst hy; exact not_books h.nb rfl
  · refine (block_setCell h.nb 0 _).trans ?_
    simp
/-- what a round of the comparison reads -/
structure AgR (wb rb : Nat) (aw ao : Option Addr) (C : List Nat) (L : List ByteArray) (cw cp k : Nat) (x : Nat × ByteArray) (W : World) : Prop where
  w : W.cell? ⟨wb, 0, none⟩ = some (.slice aw C.length cw)
  we : ∃ g, aw = some ⟨g, 0, none⟩ ∧ W.cell? ⟨g, k, none⟩ = some (.int .i64 (x.1 : Int))
  r : W.cell? ⟨rb, 2, none⟩ = some (.slice ao L.length cp)
  le : ∃ g, ao = some ⟨g, 0, none⟩ ∧ W.cell? ⟨g, x.1, none⟩ = some (.string x.2)
  k : k < C.length
  l : x.1 < L.length
theorem agr_round {w w6 x8 W : World} {cls a b : Int} {L : List ByteArray} {C : List Nat} {ao aw : Option Addr} {cp cw nb : Nat} {pre rest : List (Nat × ByteArray)} {x : Nat × ByteArray} (hL : Lf w (.slice ao L.length cp) L) (hI : Ints w6 (.slice aw C.length cw) C) (hC : chp cls L L.length = C)
    (h6 : Frm [] w w6) (hnb : nb = w6.heap.size + 1) (h8 : Frm [] ((w6.alloc (.cells #[.slice aw C.length cw] 53)).alloc (.cells #[.int .i64 0] 3)) x8) (hrb : w6.heap[w.heap.size]? = some (.cells #[.int .i64 a, .int .i64 b, .slice ao L.length cp] 48 (0, 0))) (hW : Frm [nb] x8 W)
    (hx : chlK cls L L.length = pre ++ x :: rest) : AgR w6.heap.size w.heap.size aw ao C L cw cp pre.length x W := by
  subst hnb
  have h68 : Frm [] w6 x8 := (((Frm.refl [] w6).alloc _).alloc _).trans h8
  have hm := mem_chl L.length (show x ∈ chlK cls L L.length by rw [hx]; simp)
  have hCk : C[pre.length]? = some x.1 := by rw [← hC, chp, hx]; simp
  have hLx : L[x.1]? = some x.2 := by rw [hm.2, List.getD_eq_getElem?_getD, List.getElem?_eq_getElem hm.1]; rfl
  have hlt := lt_of_block hrb
  obtain ⟨g, e1, e2, e3⟩ := hI.at2 hCk
  obtain ⟨ao', cp', hv, hcs⟩ := hL.shape
  cases hv
  obtain ⟨gl, e4, e5⟩ := hcs _ _ hLx
  have hgl : gl < w.heap.size := by
    have : (Value.slice ao L.length cp).ownBlock = some gl := by rw [e4]; rfl
    exact hL.lt this
  refine ⟨hW.cellAt (cell_of (h8.at (alloc_at (alloc_top rfl)) (by simp)) 0) (by simp), ⟨g, e1, hW.cellAt (h68.keep e2) (by simp; omega)⟩, hW.cellAt (h68.keep (cell_of hrb 2)) (by simp; omega), ⟨gl, e4, hW.cellAt ((h6.trans h68).keep e5) (by simp; have := h6.size; omega)⟩, (List.getElem?_eq_some_iff.1 hCk).1, hm.1⟩
set_option maxHeartbeats 2000000 in
set_option maxRecDepth 100000 in
theorem agrees_any (cb : Nat) (cls cap : Int) (L : List ByteArray) (F : List Nat) (lv : Value) (w : World) (h : Chn w cb cls cap L F) (hl : Lf w lv L) :
    Calls Try.prog 32 #[.pointer (some ⟨cb, 0, none⟩), .agg #[.int .i64 cls, .int .i64 cap, lv]] w (Ret (.bool true) (Frm [] w)) := by
  obtain ⟨ao, cp, rfl, -⟩ := hl.shape
  have HC := Lib.hid h; have HL := Lib.hid hl
  clear h hl
  refine calls_of_marks Try.func32 rfl ?_
  simp only [Try.ntmps32, List.size_toArray, List.length_nil, List.length_cons, Nat.reduceAdd, Nat.reduceSub, Array.replicate_succ, Array.replicate_zero, List.push_toArray, List.append_toArray, List.nil_append, List.cons_append]
  go_wp2
  obtain ⟨W0, hW0⟩ : ∃ W0, (w.alloc (.cells #[.int .i64 cls, .int .i64 cap, .slice ao L.length cp] 48)).alloc (.cells #[.bool false] 4) = W0 := ⟨_, rfl⟩
  have hb0 : W0.heap[w.heap.size]? = some (.cells #[.int .i64 cls, .int .i64 cap, .slice ao L.length cp] 48 (0, 0)) := by rw [← hW0]; exact alloc_at (alloc_top rfl)
  have hf0 : Frm [] w W0 := by rw [← hW0]; exact ((Frm.refl [] w).alloc _).alloc _
  have hr0 : W0.heap[w.heap.size + 1]? = some (.cells #[.bool false] 4 (0, 0)) := by rw [← hW0]; exact alloc_top (by simp)
  rw [hW0]
  have HB0 := Lib.hid hb0; have HF0 := Lib.hid hf0; have HR0 := Lib.hid hr0
  have HSK : Hid (∀ W', Frm [] W0 W' → W'.cell? ⟨w.heap.size, 0, none⟩ = some (.int .i64 cls) ∧ W'.cell? ⟨w.heap.size, 1, none⟩ = some (.int .i64 cap) ∧ W'.cell? ⟨w.heap.size, 2, none⟩ = some (.slice ao L.length cp)) := Lib.hid fun W' hf => by
    have h := cell_of (hf.at hb0 (by simp))
    exact ⟨h 0, h 1, h 2⟩
  have CLen := Lib.hid (fun W' (hf : Frm [] W0 W') => len_any (HC.out.frm (hf0.trans hf) (by simp)))
  have CAll := Lib.hid (fun W' (hf : Frm [] W0 W') => all_any (HC.out.frm (hf0.trans hf) (by simp)))
  have CKey := Lib.hid (fun W' (hf : Frm [] W0 W') => key_any _ _ _ _ _ _ (HC.out.frm (hf0.trans hf) (by simp)))
  have hgood := HC.out.good
  have hL64 := hgood.lenN
  have CSame := Lib.hid (fun av W' (hf : Frm [] W0 W') (hs : Strs W' av L) => same_any av _ L W' (.inl hs) (HL.out.frm (hf0.trans hf) (by simp)) hL64)
  have CRef := Lib.hid (fun W' (hf : Frm [] W0 W') => refKey_all cls cap _ L W' (HL.out.frm (hf0.trans hf) (by simp)) hL64 (fun x hx => (hgood.sz x hx).2))
  clear hW0 hb0 hf0 hr0 hgood
  go_region_held3 (fun W' => W'.cell? ⟨w.heap.size, 0, none⟩ = some (.int .i64 cls) ∧ W'.cell? ⟨w.heap.size, 1, none⟩ = some (.int .i64 cap) ∧ W'.cell? ⟨w.heap.size, 2, none⟩ = some (.slice ao L.length cp))
    (first
      | exact HSK.out _ ((Frm.refl [] W0).drew)
      | exact HSK.out _ F1.out | exact HSK.out _ F2.out | exact HSK.out _ F3.out | exact HSK.out _ F4.out | exact HSK.out _ F5.out)
    (first
      | (go_at_call 19; go_must (refine (CLen.out _ ((Frm.refl [] W0).drew)).mono ?_; rintro e w1 ⟨rfl, hf⟩; have F1 : Hid (Frm [] W0 w1) := Lib.hid (((Frm.refl [] W0).drew).trans hf); clear hf))
      | (go_at_call 23; go_must (refine (CAll.out _ F1.out).mono ?_; rintro e w2 ⟨v, rfl, hs, hf, -⟩; obtain ⟨ao2, cp2, rfl, -, -⟩ := hs.shape; have F2 := Lib.hid (F1.out.trans hf); have HS2 := Lib.hid hs; clear hs hf))
      | (go_at_call 40; go_must (refine (CSame.out _ _ F2.out HS2.out).mono ?_; rintro e w3 ⟨rfl, hf⟩; have F3 := Lib.hid (F2.out.trans hf); clear hf))
      | (go_at_call 12; go_must (refine (CKey.out _ F3.out).mono ?_; rintro e w4 ⟨rfl, hf⟩; have F4 := Lib.hid (F3.out.trans hf); clear hf))
      | (go_at_call 41; go_must (refine (CRef.out _ F4.out).mono ?_; rintro e w5 ⟨v, rfl, rfl, hf⟩; have F5 := Lib.hid (F4.out.trans hf); clear hf)))
  obtain ⟨C, hC⟩ : ∃ C, chp cls L L.length = C := ⟨_, rfl⟩
  have HCC := Lib.hid hC
  have HCl : Hid (C.length ≤ 64) := Lib.hid (by rw [← hC]; exact Nat.le_trans (chp_length _ _ _) hL64)
  have CCh := Lib.hid (fun W' (hf : Frm [] W0 W') => refChoices_any cls cap _ L W' (HL.out.frm (HF0.out.trans hf) (by simp)) hL64)
  rw [hC] at CCh
  have HB5 := Lib.hid (F5.out.at HB0.out (by simp))
  have CCs := Lib.hid (fun W' (hf : Frm [] W0 W') => choose_any cb cls cap L F W' (HC.out.frm (HF0.out.trans hf) (by simp)))
  have hqf := eql_seq
  clear hC CLen CAll CKey CSame CRef HS2 F1 F2 F3 F4 HSK
  go_wp2_with (first
    | (refine wpList_load_whole rfl 48 _ rfl _ rfl _ 48 HB5.out _ Try.underlying48 rfl Try.info48s ?_)
    | (go_at_call 22; go_must (refine (CCh.out _ F5.out).mono ?_; rintro e w6 ⟨v, rfl, hi, hf, hn⟩; obtain ⟨aw, cw, rfl⟩ := own_shape hi; have HI := Lib.hid hi; have HN := Lib.hid hn; have F6 := Lib.hid (F5.out.trans hf); clear hi hf hn CCh))
    | (go_at_call 13; go_must (refine (CCs.out _ ((F6.out.alloc _).alloc _)).mono ?_; rintro e x8 ⟨v, rfl, ⟨bl, bc, sv, rfl, hch⟩⟩; have HCH := Lib.hid hch; clear hch CCs)))
  have HRD : Hid (∀ pre x rest W, chlK cls L L.length = pre ++ x :: rest → Frm [w6.heap.size + 1] x8 W → AgR w6.heap.size w.heap.size aw ao C L cw cp pre.length x W) := Lib.hid fun pre x rest W hx hW =>
    agr_round HL.out HI.out HCC.out (HF0.out.trans F6.out) rfl HCH.out.2.1 (F6.out.at HB0.out (by simp)) hW hx
  have hcb : cb < w.heap.size := by obtain ⟨sv', e1, -⟩ := HC.out; exact lt_of_block e1
  have h06 : w.heap.size ≤ w6.heap.size := (HF0.out.trans F6.out).size
  have HCR : Hid (∀ pre W, KI x8 (w6.heap.size + 1) pre W → ChR bl bc cb cls sv L W) := Lib.hid fun pre W h => by
    have q1 := HCH.out.2.2.1; have q2 := HCH.out.2.2.2.1; have q3 := HCH.out.2.2.2.2
    simp only [World.size_alloc] at q1 q2 q3
    exact h.chr' HCH.out.1 (by omega) (by omega) (fun k hk => by have := q3 k hk; omega) (by omega)
  have HN0 : Hid (KI x8 (w6.heap.size + 1) [] x8) := Lib.hid ⟨Frm.refl _ _, HCH.out.2.1.at (alloc_top (by simp)) (by simp)⟩
  have HX8 : Hid (Frm [] w x8) := Lib.hid ((HF0.out.trans F6.out).trans ((((Frm.refl [] w6).alloc _).alloc _).trans HCH.out.2.1))
  have HR8 : Hid (x8.heap[w.heap.size + 1]? = some (.cells #[.bool false] 4 (0, 0))) := Lib.hid (HCH.out.2.1.at (alloc_at (alloc_at (F6.out.at HR0.out (by simp)))) (by simp))
  have HW8 : Hid (x8.cell? ⟨w6.heap.size, 0, none⟩ = some (.slice aw C.length cw)) := Lib.hid (cell_of (HCH.out.2.1.at (alloc_at (alloc_top rfl)) (by simp)) 0)
  have hlr : w.heap.size + 1 < w6.heap.size := lt_of_block (F6.out.at HR0.out (by simp))
  have HCL : Hid ((chlK cls L L.length).length = C.length) := Lib.hid (by rw [← HCC.out, chp, List.length_map])
  have hgd := HC.out.good
  have hit := chc_iter bl bc cb cls sv L hgd.c1 hgd.c3 (by omega)
  clear HB0 HR0 HI HN HB5 HCH F5 HC HL HF0 HCC hgd
  refine wp_rangeList rfl (enters_of Try.func27 (by kernel_rfl) rfl) hit (fun _ => rfl)
    (KI x8 (w6.heap.size + 1)) (fun _ _ _ => False) (fun _ _ _ h hb => h.bk hb (Nat.le_refl _)) (fun _ _ _ _ h _ => h) HCR.out HN0.out ?_ ?_ (fun _ _ _ _ _ _ _ _ h => h.elim)
  · intro l pre x rest Wr hxs hI hl hlr
    have HI := Lib.hid hI
    have HXS := Lib.hid hxs
    clear hI hlr hl hxs
    obtain ⟨xi, xm⟩ := x
    simp only [encC]
    gi_wp2
    refine ⟨KB.refl _, fun Wq hbk _ => ?_⟩
    have HI2 := Lib.hid (HI.out.bk hbk (Nat.le_refl _))
    have HA := HRD.out _ _ _ _ HXS.out HI2.out.fr
    obtain ⟨g, rfl, ce⟩ := HA.we
    obtain ⟨gl, rfl, cl⟩ := HA.le
    have cw0 := HA.w
    have cr0 := HA.r
    have hk := HA.k
    have hlx := HA.l
    have hk1 : (pre.length : Int) < (C.length : Int) := by omega
    have hk2 : ¬ (C.length : Int) ≤ (pre.length : Int) := by omega
    have hl1 : (xi : Int) < (L.length : Int) := by simp at hlx; omega
    have cn := cell_of HI2.out.nb 0
    have fn := free_of HI2.out.nb 0
    clear hbk HA hlx
    gi_wp2
    have hC64 := HCl.out
    exact HI2.out.step' (xi, xm) (by unfold wrap64; omega)
  · intro D W hD hI hK
    have cn := cell_of hI.nb 0
    have cw1 := hI.fr.cellAt HW8.out (by simp)
    have cr := hI.fr.at HR8.out (by simp; omega)
    have cr0 := cell_of cr 0
    have fr0 := free_of cr 0
    have hkk : ((chlK cls L L.length).length : Int) = (C.length : Int) := by rw [HCL.out]
    have HXW : Hid (Frm [] w W) := Lib.hid (HX8.out.then hI.fr (by intro y hy; simp at hy; right; omega))
    have HDS : Hid (w6.heap.size + 1 < D) := Lib.hid (Nat.lt_of_lt_of_le (lt_of_block HN0.out.nb) hD)
    have HK := Lib.hid hK; have HRr := Lib.hid cr
    rw [hkk] at cn
    clear hI hD hK cr
    go_wp2
    have hKD : (W.setCell ⟨w.heap.size + 1, 0, none⟩ (.bool true)).heap[D]? = some (.deferred (some [])) := setCell_at HK.out (by have := HDS.out; simp; omega) _
    have hb := block_setCell HRr.out 0 (.bool true)
    have hf8 : Frm [] w ((W.setCell ⟨w.heap.size + 1, 0, none⟩ (.bool true)).putObj D (.deferred none)) :=
      (HXW.out.setCell _ (.inr (by simp)) _).then (Frm.putObj _ D _) (by intro y hy; simp at hy; right; have := HDS.out; omega)
    have hc : ((W.setCell ⟨w.heap.size + 1, 0, none⟩ (.bool true)).putObj D (.deferred none)).cell? ⟨w.heap.size + 1, 0, none⟩ = some (.bool true) := by
      refine (cell_of ((Frm.putObj _ D _).at hb (by have := HDS.out; simp; omega)) 0).trans rfl
    refine leaves_mark hKD ⟨.bool true, ?_, rfl, hf8⟩
    generalize (W.setCell ⟨w.heap.size + 1, 0, none⟩ (.bool true)).putObj D (.deferred none) = Wf at hc
    clear hf8 hKD hb cr0 fr0 cn cw1
    simp [results, Try.results32, go_sem, hc]
end Go.Proofs.Ythelfpenccpkeaa
