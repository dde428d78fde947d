/- A quiet region in the round of a range over a function: one walk in the text's order serves every order. over: the walk through the iterator of Words, against a list of texts. -/
import Derived.Sort.BigQuietIn
import Derived.TacticsInMore
import Derived.Test.YtefpfcheafbfdaaNew
namespace Go.Proofs.Ytefpfcheafbfdaa
open Go.RowKit

section
variable {F : Fence} {n : Nat} {P : Program} {ops : Array Oper} {md : Region.Mode} {C : World → Prop}
theorem wpIn_of_quiet_r {o : Oper} {a : Act} {K : Act → Prop} {K' : Act → World → Prop} {Q' : Exit → Act → World → Prop} {w : World} (hro : ∀ c, o.op ≠ .defer c) (hw : C w) (h : ∀ a w', C w' → K a → K' a w')
    (ha : o.askedIn F P a C) (hh : o.quietIn F n P a C K) : o.wpIn F n P a w K' Q' := by
  obtain ⟨v, h1, h2⟩ := hh
  have h3 := h1 w hw
  unfold Oper.quietAtIn at h3
  unfold Oper.wpIn
  refine ⟨ha w hw, ?_⟩
  rw [Oper.semAt_eq _ _ _ hro]
  generalize (execOp a.eval o).run P w = r at *
  cases r with
  | ok x w' =>
    cases x <;> simp only [Oper.quietUponIn] at h3 <;> simp only [Oper.uponIn]
    case value u =>
      obtain ⟨e1, e2⟩ := h3
      rw [e1, e2]
      exact h _ _ hw h2
    case skip =>
      obtain ⟨e1, e2⟩ := h3
      rw [e1, ← e2]
      exact h _ _ hw h2
    case enter f args =>
      obtain ⟨e1, hd, hc⟩ := h3
      rw [e1]
      exact ⟨hd, hc.mono fun e w'' ⟨he, hw''⟩ => by subst he; exact h _ _ hw'' h2⟩
  | halt x w' => simp only [Oper.quietUponIn] at h3
/-- no operation defers -/
def noDefer (ops : List Oper) : Bool := ops.all fun o => match o.op with | .defer _ => false | _ => true
theorem noDefer_at {l : List Oper} (h : noDefer l = true) {o : Oper} (ho : o ∈ l) : ∀ c, o.op ≠ .defer c := fun c e => by
  have := List.all_eq_true.1 h o ho
  rw [e] at this
  cases this
theorem wpOpIn_of_qOpIn_r {i : Nat} {a : Act} {K : Act → Prop} {K' : Act → World → Prop} {Q' : Exit → Act → World → Prop} {w : World} (hro : noDefer ops.toList = true) (hC : C w) (h : ∀ a w', C w' → K a → K' a w')
    (hh : qOpIn F n P ops C i K a) : wpOpIn F n P ops Q' i K' a w := by
  unfold qOpIn at hh
  unfold wpOpIn
  split
  · rename_i ho; simp only [ho] at hh; exact h _ _ hC hh
  · rename_i o ho
    simp only [ho] at hh
    obtain ⟨ha, hh⟩ := hh
    have hmem : o ∈ ops.toList := by
      rw [← Array.getElem?_toList] at ho
      exact List.mem_of_getElem? ho
    split
    · rename_i hw; simp only [hw, if_true] at hh; exact wpIn_of_quiet_r (noDefer_at hro hmem) hC h ha hh
    · rename_i hw; simp only [hw] at hh; exact ⟨ha w hC, h _ _ hC hh⟩
theorem wpAnyIn_of_quiet_r {Q : Act → Prop} {Q' : Exit → Act → World → Prop} (hro : noDefer ops.toList = true) (hQ : ∀ a w, C w → Q a → Q' .normal a w) : ∀ (fuel : Nat) (listed : Array Bool) (a : Act) (w : World), C w →
    wpAnyQIn F n P md ops C Q fuel listed a → wpAnyIn F n P md ops Q' fuel listed a w
  | 0, _, _, _, hw, h => ⟨h.1, hQ _ _ hw h.2⟩
  | fuel + 1, _, _, _, hw, h => ⟨fun h0 => hQ _ _ hw (h.1 h0), fun i hi => wpOpIn_of_qOpIn_r hro hw (fun a' w' hw' => wpAnyIn_of_quiet_r hro hQ fuel _ a' w' hw') (h.2 i hi)⟩
theorem wpIn_region_quiet_r {id : Nat} {Q : Exit → Act → World → Prop} {a : Act} {w : World} {l : List Oper} (hro : noDefer l = true) (hm : P.follows .mixedOrders = true) (hB : Region.lexB .any l.toArray = true)
    (h : wpQuietIn F n P l.toArray (fun w' => ∃ n, w' = w.drewN n) (fun a' => ∀ w', (∃ n, w' = w.drewN n) → Q .normal a' w') l a) : (Code.region id l.toArray true).wpIn F n P Q a w := by
  simp only [Region.lexB, Bool.and_eq_true] at hB
  refine wpIn_region_any hm (wpAnyIn_of_quiet_r (C := fun w' => ∃ n, w' = w.drewN n) (Q := fun a' => ∀ w', (∃ n, w' = w.drewN n) → Q .normal a' w') (by simpa using hro) (fun _ w' hw' h => h w' hw') _ _ _ _ ⟨1, rfl⟩ ?_)
  have := wpAnyQIn_lex (F := F) (n := n) (C := fun w' => ∃ n, w' = w.drewN n) (md := .any) hB.1 l 0 (Array.replicate l.toArray.size false) a (by simp) (by simpa using hB.2) (by simpa using h)
  simpa using this
end
end Go.Proofs.Ytefpfcheafbfdaa
namespace Go.Proofs.Ytefpfcheafbfdaa
open Go.RowKit Go.Maps Go.BigFrame

attribute [local go_sem] Oper.semAt_some

theorem eql_seq (w : World) (f : Nat) (lb : Array Value) : (binOp .eql 42 (.func (.func f) #[] lb) .nilFunc).run Try.prog w = .ok (.bool false) w := run_eql_func w 42 _ _ _ f lb Try.underlying42
/-- while the words are gone through: nb counts them -/
structure OI (x8 : World) (nb : Nat) (lim : Int) (pre : List Wd) (W : World) : Prop where
  fr : Frm [nb] x8 W
  nb : W.heap[nb]? = some (.cells #[.int .i64 pre.length] 3 (0, 0))
  lim : pre = [] ∨ (pre.length : Int) < lim
/-- left early -/
structure OX (x8 : World) (nb : Nat) (lim : Int) (c : Code) (pre : List Wd) (W : World) : Prop where
  fr : Frm [nb] x8 W
  nb : W.heap[nb]? = some (.cells #[.int .i64 pre.length] 3 (0, 0))
  lim : lim ≤ pre.length ∧ (pre.length = 1 ∨ (pre.length : Int) - 1 < lim) ∧ 1 ≤ pre.length
  c : c = .exit 0
/-- a row of bytes of one's own, beyond lo -/
def RowW (va : Option Addr) (nx lo : Nat) (wr : World) : Prop := 0 < nx → ∃ g cur, va = some ⟨g, 0, none⟩ ∧ lo ≤ g ∧ wr.heap[g]? = some (.cells cur 5 (0, 0)) ∧ nx ≤ cur.size
theorem RowW.of {w : World} {base n vc lo : Nat} {va : Option Addr} {xs : List Value} (h : w.ownsRow base 5 1 (.slice va n vc) n xs) (hl : lo ≤ base) : RowW va n lo w := fun hn => by
  obtain ⟨h1, h2⟩ := h
  rcases h2 with ⟨hv, h0⟩ | ⟨g, cap, cur, hv, hg, hh, -, -, -, h4⟩
  · omega
  · cases hv
    refine ⟨g, cur, rfl, by omega, hh, ?_⟩
    have := congrArg List.length h4
    rw [List.length_take] at this
    simp only [Array.length_toList] at this
    omega
theorem OI.step {x8 W : World} {nb : Nat} {lim k : Int} {pre : List Wd} (h : OI x8 nb lim pre W) (x : Wd) (hk : k = pre.length + 1) : KB W (W.setCell ⟨nb, 0, none⟩ (.int .i64 k)) ∧ Frm [nb] x8 (W.setCell ⟨nb, 0, none⟩ (.int .i64 k)) ∧ (W.setCell ⟨nb, 0, none⟩ (.int .i64 k)).heap[nb]? = some (.cells #[.int .i64 (pre ++ [x]).length] 3 (0, 0)) := by
  subst hk
  have hf : Frm [nb] W (W.setCell ⟨nb, 0, none⟩ (.int .i64 ((pre.length : Int) + 1))) := (Frm.refl _ _).setCell _ (.inl (by simp)) _
  refine ⟨KB.frm hf (fun y hy => ?_), h.fr.trans hf, ?_⟩
  · simp at hy; subst hy; exact not_books h.nb rfl
  · refine (block_setCell h.nb 0 _).trans ?_
    simp
set_option maxHeartbeats 2000000 in
set_option maxRecDepth 100000 in
theorem over_any (B base : Nat) (u wv : Value) (M : List Wd) (lim : Int) (w : World) (hr : WdR B base u M w) (hw : Txts w wv M) (hM : M.length ≤ 1000) (h64 : ∀ x ∈ M, x.length ≤ 64) :
    Calls Try.prog 24 #[.func (.func 50) #[] #[.pointer (some ⟨B, 0, none⟩)], wv, .int .i64 lim] w (Ret (.bool true) (Frm [] w)) := by
  have hw0 := hw
  obtain ⟨wa, wc, rfl, hwc, hcs⟩ := hw
  have hqf := eql_seq
  obtain ⟨W0, hW0⟩ : ∃ W0, (((w.alloc (.cells #[.slice wa M.length wc] 30)).alloc (.cells #[.int .i64 lim] 3)).alloc (.cells #[.bool false] 4)).alloc (.cells #[.int .i64 0] 3) = W0 := ⟨_, rfl⟩
  have HF0 : Hid (Frm [] w W0) := Lib.hid (by rw [← hW0]; exact ((((Frm.refl [] w).alloc _).alloc _).alloc _).alloc _)
  have HWA : Hid (W0.heap[w.heap.size]? = some (.cells #[.slice wa M.length wc] 30 (0, 0))) := Lib.hid (by rw [← hW0]; exact alloc_at (alloc_at (alloc_at (heap_alloc_new _ _))))
  have HLI : Hid (W0.heap[w.heap.size + 1]? = some (.cells #[.int .i64 lim] 3 (0, 0))) := Lib.hid (by rw [← hW0]; exact alloc_at (alloc_at (alloc_top (by simp))))
  have HRB : Hid (W0.heap[w.heap.size + 2]? = some (.cells #[.bool false] 4 (0, 0))) := Lib.hid (by rw [← hW0]; exact alloc_at (alloc_top (by simp)))
  have HNB : Hid (W0.heap[w.heap.size + 3]? = some (.cells #[.int .i64 0] 3 (0, 0))) := Lib.hid (by rw [← hW0]; exact alloc_top (by simp))
  have HEL : Hid (∀ k x, M[k]? = some x → ∃ b o, wa = some ⟨b, o, none⟩ ∧ b < w.heap.size ∧ W0.cell? ⟨b, o + k, none⟩ = some (st x)) := Lib.hid fun k x hk => by
    obtain ⟨b, o, e1, e2⟩ := hcs k x hk
    exact ⟨b, o, e1, cell_lt e2, HF0.out.keep e2⟩
  have hbl : B < w.heap.size := lt_of_block hr.1
  have HRR : Hid (∀ pre W, OI W0 (w.heap.size + 3) lim pre W → WdR B base u M W) := Lib.hid fun pre W h => by
    have hf := HF0.out.then h.fr (F := []) (by simp)
    exact ⟨hf.at hr.1 (by simp), hr.2.frm0 hf⟩
  have HK0 : Hid (OI W0 (w.heap.size + 3) lim [] W0) := Lib.hid ⟨Frm.refl _ _, HNB.out, .inl rfl⟩
  have HM := Lib.hid hM; have H64 := Lib.hid h64
  have HW := Lib.hid hW0
  clear hr hcs HNB hW0 h64 hw0
  refine calls_of_marks Try.func24 rfl ?_
  simp only [Try.ntmps24, List.size_toArray, List.length_cons, List.length_nil, Nat.reduceAdd, Nat.reduceSub, Array.replicate_succ, Array.replicate_zero, List.push_toArray, List.append_toArray, List.nil_append, List.cons_append]
  go_wp2
  rw [HW.out]
  clear HW
  refine wp_rangeWords rfl HM.out H64.out rfl
    (OI W0 (w.heap.size + 3) lim) (OX W0 (w.heap.size + 3) lim) (fun _ _ _ h hb => ⟨hb.oldF h.fr (Nat.le_refl _), hb.at h.nb rfl, h.lim⟩) (fun _ _ _ _ h hb => ⟨hb.oldF h.fr (Nat.le_refl _), hb.at h.nb rfl, h.lim, h.c⟩) HRR.out HK0.out ?_ ?_ ?_
  · intro l pre x rest Wr v W1 hxs hI hfr hl hlr hs
    obtain ⟨va, vc, rfl⟩ := own_shape hfr.1
    have HI : Hid (OI W0 (w.heap.size + 3) lim pre W1) := Lib.hid ⟨hI.fr.trans (hfr.2.mono (by simp)), hfr.2.at hI.nb (by simp), hI.lim⟩
    have HFR := Lib.hid hfr
    have HXS := Lib.hid hxs
    have HS := Lib.hid hs
    clear hI hlr hl hxs hfr hs
    gi_wp2
    refine ⟨KB.refl _, fun Wq hbk _ => ?_⟩
    have hI2 : OI W0 (w.heap.size + 3) lim pre Wq := ⟨hbk.oldF HI.out.fr (Nat.le_refl _), hbk.at HI.out.nb rfl, HI.out.lim⟩
    have HI2 := Lib.hid hI2
    have hrow : Wq.ownsRow Wr.heap.size 5 1 (.slice va x.length vc) x.length (x.map u8) := hbk.frm.owns HFR.out.1 (fun k hk => by
      obtain ⟨cl, hc⟩ := ownBlock_type HFR.out.1 hk
      exact not_books hc rfl)
    have HROW := Lib.hid hrow
    have hcv : ∀ n, (convert 23 9 (.slice va x.length vc)).run Try.prog (Wq.drewN n) = .ok (.string (txt x)) (Wq.drewN n) := fun n => ((Byts.of_own hrow).frm0 (show Frm [] Wq (Wq.drewN n) from ⟨rfl, rfl, rfl, Nat.le_refl _, fun _ _ _ => rfl⟩)).conv
    have hMx : M[pre.length]? = some x := by rw [HXS.out]; simp
    have hk := lt_of_some hMx
    obtain ⟨b, o, rfl, hbw, ce⟩ := HEL.out _ _ hMx
    have ce := HI2.out.fr.cellAt ce (by simp; omega)
    unfold st at ce
    have cw0 := cell_of (HI2.out.fr.at HWA.out (by simp)) 0
    have cl0 := cell_of (HI2.out.fr.at HLI.out (by simp)) 0
    have cn := cell_of HI2.out.nb 0
    have hk1 : (pre.length : Int) < (M.length : Int) := by omega
    have hk2 : ¬ (M.length : Int) ≤ (pre.length : Int) := by omega
    have hk3 : decide (M.length ≤ pre.length) = false := by rw [decide_eq_false_iff_not]; omega
    have hk5 : (pre.length : Int) < 1000 := by have := HM.out; omega
    have HI3 : Hid (∀ n, OI W0 (w.heap.size + 3) lim pre (Wq.drewN n) ∧ KB Wq (Wq.drewN n) ∧ RowW va x.length W0.heap.size (Wq.drewN n)) := Lib.hid fun n => by
      have hf : Frm [] Wq (Wq.drewN n) := ⟨rfl, rfl, rfl, Nat.le_refl _, fun _ _ _ => rfl⟩
      exact ⟨⟨hI2.fr.trans (hf.mono (by simp)), hf.at hI2.nb (by simp), hI2.lim⟩, KB.frm0 hf, RowW.of (hf.owns hrow (by simp)) HS.out⟩
    have HLW : Hid (w.heap.size + 3 < W0.heap.size) := Lib.hid (lt_of_block HK0.out.nb)
    obtain ⟨nx, hnx⟩ : ∃ nx, x.length = nx := ⟨_, rfl⟩
    have HNX : Hid (nx ≤ 64) := Lib.hid (by rw [← hnx]; exact H64.out x (by rw [HXS.out]; simp))
    rw [hnx] at hcv HI3 ⊢
    clear hbk hMx hk hbw hI2 hrow hnx
    gi_wp2
    refine wpIn_region_quiet_r (by kernel_rfl) (by kernel_rfl) (by kernel_rfl) ?_
    repeat (gi_big_quiet_step (fail))
    refine wpQuietIn_nil ?_
    intro _ hw'
    obtain ⟨nq, hw''⟩ := hw'
    subst hw''
    gi_wp2
    have HI4 := Lib.hid (HI3.out nq)
    clear hcv HI3 cn cl0 cw0
    gi_loopw [10] (fun s10 wr => ∃ c : Nat, s10 = .int .i64 c ∧ c ≤ nx ∧ OI W0 (w.heap.size + 3) lim pre wr ∧ KB Wq wr ∧ RowW va nx W0.heap.size wr) (fun s10 _ => nx - (intOf s10).toNat)
    case atStart => exact ⟨0, rfl, Nat.zero_le _, HI4.out.1, HI4.out.2.1, HI4.out.2.2⟩
    case round =>
      obtain ⟨c, rfl, hc, hoi, hkb, hrw⟩ := hrel
      have HOI := Lib.hid hoi; have HKB := Lib.hid hkb
      by_cases hlt : c < nx
      · have hlt' : (c : Int) < (nx : Int) := by omega
        have hnx64 : nx ≤ 64 := HNX.out
        obtain ⟨g, cur, rfl, hg, hh, hsz⟩ := hrw (by omega)
        have f0 := free_of hh c
        obtain ⟨z, hz⟩ : ∃ z, cur[c]? = some z := ⟨_, Array.getElem?_eq_getElem (by omega)⟩
        have d0 := cell_of hh c
        rw [hz] at d0
        have HH := Lib.hid hh; have HG := Lib.hid hg; have HSZ := Lib.hid hsz
        clear hoi hkb hrw hh hg hsz hz HI4
        gi_wp2
        have hf : Frm [g] wr (wr.setCell ⟨g, c, none⟩ (.int .u8 63)) := (Frm.refl _ _).setCell _ (.inl (by simp)) _
        have hb2 := block_setCell HH.out c (.int .u8 63)
        have hgn := HG.out; have hlw := HLW.out
        refine ⟨⟨c + 1, by simp, hlt, ⟨HOI.out.fr.then hf (by intro y hy; simp at hy; subst hy; exact .inr hgn), hf.at HOI.out.nb (by simp; omega), HOI.out.lim⟩, HKB.out.trans (KB.frm hf (fun y hy => by simp at hy; subst hy; exact not_books HH.out rfl)), fun _ => ⟨g, _, rfl, hgn, hb2, by simpa using HSZ.out⟩⟩, by simp [intOf]; omega⟩
      · obtain rfl : c = nx := by omega
        have hge : ¬ (c : Int) < (c : Int) := by omega
        have cn := cell_of hoi.nb 0
        have fn := free_of hoi.nb 0
        have cl0 := cell_of (hoi.fr.at HLI.out (by simp)) 0
        have hst := hoi.step x (k := (pre.length : Int) + 1) rfl
        have HST := Lib.hid hst
        clear hoi hkb hrw hst HI4
        by_cases hl : lim ≤ (pre.length : Int) + 1
        · gi_wp2
          exact ⟨HKB.out.trans HST.out.1, HST.out.2.1, HST.out.2.2, ⟨by simp; omega, HOI.out.lim.elim (fun h => .inl (by simp [h])) (fun h => .inr (by simp; omega)), by simp⟩, rfl⟩
        · gi_wp2
          exact ⟨HKB.out.trans HST.out.1, HST.out.2.1, HST.out.2.2, .inr (by simp; omega)⟩
  · intro D W hD hI hK
    have hmm : ((M.length : Int) == min (M.length : Int) (max 1 lim)) = true := by
      rcases hI.lim with h | h
      · rw [h, beq_iff_eq, List.length_nil]; omega
      · rw [beq_iff_eq]; omega
    have cn := cell_of hI.nb 0
    have cw0 := cell_of (hI.fr.at HWA.out (by simp)) 0
    have cl0 := cell_of (hI.fr.at HLI.out (by simp)) 0
    have cr := hI.fr.at HRB.out (by simp)
    have cr0 := cell_of cr 0
    have fr0 := free_of cr 0
    have HXW : Hid (Frm [] w W) := Lib.hid (HF0.out.then hI.fr (by intro y hy; simp at hy; right; omega))
    have HDS : Hid (w.heap.size + 3 < D) := Lib.hid (Nat.lt_of_lt_of_le (lt_of_block HK0.out.nb) hD)
    have HK := Lib.hid hK; have HRr := Lib.hid cr
    clear hI hD hK cr
    go_wp2
    rw [show w.heap.size + 1 + 1 = w.heap.size + 2 by omega]
    have hKD : (W.setCell ⟨w.heap.size + 2, 0, none⟩ (.bool true)).heap[D]? = some (.deferred (some [])) := setCell_at HK.out (by have := HDS.out; simp; omega) _
    have hb := block_setCell HRr.out 0 (.bool true)
    have hf8 : Frm [] w ((W.setCell ⟨w.heap.size + 2, 0, none⟩ (.bool true)).putObj D (.deferred none)) :=
      (HXW.out.setCell _ (.inr (by simp)) _).then (Frm.putObj _ D _) (by intro y hy; simp at hy; right; have := HDS.out; omega)
    have hc : ((W.setCell ⟨w.heap.size + 2, 0, none⟩ (.bool true)).putObj D (.deferred none)).cell? ⟨w.heap.size + 2, 0, none⟩ = some (.bool true) := by
      refine (cell_of ((Frm.putObj _ D _).at hb (by have := HDS.out; simp; omega)) 0).trans rfl
    refine leaves_mark hKD ⟨.bool true, ?_, rfl, hf8⟩
    generalize (W.setCell ⟨w.heap.size + 2, 0, none⟩ (.bool true)).putObj D (.deferred none) = Wf at hc
    clear hf8 hKD hb cr0 fr0 cn cw0 cl0
    simp [results, Try.results24, go_sem, hc]
  · intro D c pre x rest W hxs hD hI hK
    obtain rfl := hI.c
    obtain ⟨k, hkk⟩ : ∃ k, (pre ++ [x]).length = k := ⟨_, rfl⟩
    have hkM : k ≤ M.length := by rw [hxs, ← hkk]; simp
    have hnb := hI.nb
    have hlm := hI.lim
    have hfr := hI.fr
    rw [hkk] at hnb hlm
    have hmm : ((k : Int) == min (M.length : Int) (max 1 lim)) = true := by
      rw [beq_iff_eq]; omega
    clear hxs hkk hI hlm
    have cn := cell_of hnb 0
    have cw0 := cell_of (hfr.at HWA.out (by simp)) 0
    have cl0 := cell_of (hfr.at HLI.out (by simp)) 0
    have cr := hfr.at HRB.out (by simp)
    have cr0 := cell_of cr 0
    have fr0 := free_of cr 0
    have HXW : Hid (Frm [] w W) := Lib.hid (HF0.out.then hfr (by intro y hy; simp at hy; right; omega))
    have HDS : Hid (w.heap.size + 3 < D) := Lib.hid (Nat.lt_of_lt_of_le (lt_of_block HK0.out.nb) hD)
    have HK := Lib.hid hK; have HRr := Lib.hid cr
    clear hfr hnb hD hK cr
    go_wp2
    rw [show w.heap.size + 1 + 1 = w.heap.size + 2 by omega]
    have hKD : (W.setCell ⟨w.heap.size + 2, 0, none⟩ (.bool true)).heap[D]? = some (.deferred (some [])) := setCell_at HK.out (by have := HDS.out; simp; omega) _
    have hb := block_setCell HRr.out 0 (.bool true)
    have hf8 : Frm [] w ((W.setCell ⟨w.heap.size + 2, 0, none⟩ (.bool true)).putObj D (.deferred none)) :=
      (HXW.out.setCell _ (.inr (by simp)) _).then (Frm.putObj _ D _) (by intro y hy; simp at hy; right; have := HDS.out; omega)
    have hc : ((W.setCell ⟨w.heap.size + 2, 0, none⟩ (.bool true)).putObj D (.deferred none)).cell? ⟨w.heap.size + 2, 0, none⟩ = some (.bool true) := by
      refine (cell_of ((Frm.putObj _ D _).at hb (by have := HDS.out; simp; omega)) 0).trans rfl
    refine leaves_mark hKD ⟨.bool true, ?_, rfl, hf8⟩
    generalize (W.setCell ⟨w.heap.size + 2, 0, none⟩ (.bool true)).putObj D (.deferred none) = Wf at hc
    clear hf8 hKD hb cr0 fr0 cn cw0 cl0
    simp [results, Try.results24, go_sem, hc]
end Go.Proofs.Ytefpfcheafbfdaa
