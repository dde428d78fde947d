/- equal, take. -/
import Derived.Test.YthelfpenccpkeaaAgr
namespace Go.Proofs.Ythelfpenccpkeaa
open Go.RowKit Go.BigFrame
attribute [local go_sem] Oper.semAt_some

/-- x is one of the first k -/
def fnd (B : List ByteArray) (x : ByteArray) : Nat → Bool
  | 0 => false
  | k + 1 => fnd B x k || decide (x = B.getD k ByteArray.empty)
theorem fnd_of {B : List ByteArray} {x : ByteArray} {k : Nat} : ∀ n, k < n → B.getD k ByteArray.empty = x → fnd B x n = true
  | 0, h, _ => by omega
  | n + 1, h, e => by
    rw [fnd]
    by_cases h1 : k = n
    · subst h1; rw [e]; simp
    · simp [fnd_of n (by omega) e]
theorem fnd_mem {B : List ByteArray} {x : ByteArray} (h : x ∈ B) : fnd B x B.length = true := by
  obtain ⟨k, hk, e⟩ := List.getElem_of_mem h
  exact fnd_of B.length hk (by rw [List.getD_eq_getElem?_getD, List.getElem?_eq_getElem hk]; exact e)
set_option maxHeartbeats 2000000 in
set_option maxRecDepth 100000 in
theorem equal_any (av bv : Value) (A B : List ByteArray) (w : World) (ha : Lf w av A) (hb : Lf w bv B) (hA : A.length ≤ 64) (hB : B.length ≤ 64) (hm : ∀ x ∈ A, x ∈ B) (hl : A.length = B.length) :
    Calls Try.prog 14 #[av, bv] w (Ret (.bool true) (Frm [] w)) := by
  obtain ⟨a1, c1, rfl, h1⟩ := ha.shape
  obtain ⟨a2, c2, rfl, h2⟩ := hb.shape
  have H1 := Lib.hid h1; have H2 := Lib.hid h2; have HM := Lib.hid hm; have HLE := Lib.hid hl
  clear ha hb h1 h2 hm hl
  go_enter Try.func14, Try.ntmps14
  go_wp2
  go_loopw [5] (fun s5 wr => ∃ i : Nat, s5 = .int .i64 i ∧ i ≤ A.length ∧ Frm [] w wr) (fun s5 _ => A.length - (intOf s5).toNat)
  case atStart => exact ⟨0, rfl, Nat.zero_le _, Frm.refl _ _⟩
  case round =>
    obtain ⟨i, rfl, hi, hf⟩ := hrel
    have HF := Lib.hid hf
    by_cases hlt : i < A.length
    · have hlt' : (i : Int) < (A.length : Int) := by omega
      obtain ⟨x, hx⟩ : ∃ x, A[i]? = some x := ⟨_, List.getElem?_eq_getElem hlt⟩
      obtain ⟨g, rfl, cx⟩ := H1.out i x hx
      have cx := hf.keep cx
      have HXB := Lib.hid (HM.out x (List.mem_of_getElem? hx))
      clear hf hx
      obtain ⟨wo, rfl⟩ : ∃ wo, wo = wr := ⟨_, rfl⟩
      go_wp2
      go_loopw [6, 7] (fun s6 s7 wx => ∃ k : Nat, s7 = .int .i64 k ∧ k ≤ B.length ∧ s6 = .bool (fnd B x k) ∧ Frm [] wo wx) (fun _ s7 _ => B.length - (intOf s7).toNat)
      case atStart => exact ⟨0, rfl, Nat.zero_le _, rfl, Frm.refl _ _⟩
      case round =>
        obtain ⟨k, rfl, hk, rfl, hfx⟩ := hrel
        have HX := Lib.hid hfx
        have cx := hfx.keep cx
        by_cases hkl : k < B.length
        · have hkl' : (k : Int) < (B.length : Int) := by omega
          obtain ⟨y, hy⟩ : ∃ y, B[k]? = some y := ⟨_, List.getElem?_eq_getElem hkl⟩
          obtain ⟨g', rfl, cy⟩ := H2.out k y hy
          have cy := hfx.keep (HF.out.keep cy)
          have hnx : fnd B x (k + 1) = (fnd B x k || decide (x = y)) := by
            rw [fnd, List.getD_eq_getElem?_getD, hy]; rfl
          have hbe := str_beq x y
          clear hfx hy
          cases hnf : fnd B x k with
          | true =>
            rw [hnf] at hnx
            go_wp2
            go_quiet (fail)
            go_wp2
            exact ⟨⟨k + 1, by simp, hkl, by rw [hnx]; simp, HX.out.drewN _⟩, by simp [intOf]; omega⟩
          | false =>
            rw [hnf] at hnx
            go_wp2
            go_quiet (fail)
            go_wp2
            exact ⟨⟨k + 1, by simp, hkl, by rw [hnx]; simp, HX.out.drewN _⟩, by simp [intOf]; omega⟩
        · obtain rfl : k = B.length := by omega
          have hge : ¬ (B.length : Int) < (B.length : Int) := by omega
          rw [fnd_mem HXB.out]
          clear hfx
          go_wp2
          exact ⟨⟨i + 1, by simp, hlt, HF.out.trans HX.out⟩, by simp [intOf]; omega⟩
    · have hge : ¬ (i : Int) < (A.length : Int) := by omega
      have hll : ((A.length : Int) == (B.length : Int)) = true := by have := HLE.out; simp; omega
      clear hf
      go_wp2
      go_ret
      exact ⟨by simp [HLE.out], HF.out⟩
/-- the last place with the message m -/
def atOf (m : ByteArray) (pre : List (Nat × ByteArray)) : Int := pre.foldl (fun a x => if x.2 = m then (x.1 : Int) else a) (-1)
theorem atOf_snoc (m : ByteArray) (pre : List (Nat × ByteArray)) (x : Nat × ByteArray) : atOf m (pre ++ [x]) = if x.2 = m then (x.1 : Int) else atOf m pre := by simp [atOf]
/-- while the choices are gone through -/
structure AtI (W5 : World) (nb : Nat) (m : ByteArray) (pre : List (Nat × ByteArray)) (W : World) : Prop where
  fr : Frm [nb] W5 W
  nb : W.heap[nb]? = some (.cells #[.int .i64 (atOf m pre)] 3 (0, 0))
theorem AtI.bk {W5 W W' : World} {nb B : Nat} {m : ByteArray} {pre : List (Nat × ByteArray)} (h : AtI W5 nb m pre W) (hb : Bk B W W') (hB : W5.heap.size ≤ B) : AtI W5 nb m pre W' := ⟨hb.oldF h.fr hB, hb.at h.nb rfl⟩
theorem AtI.chr {W5 W : World} {nb bl bc cb : Nat} {m : ByteArray} {cls : Int} {sv : Value} {L : List ByteArray} {pre : List (Nat × ByteArray)} (h : AtI W5 nb m pre W) (hc : ChR bl bc cb cls sv L W5) (h1 : nb < bl) (h2 : nb < bc)
    (h3 : ∀ k, sv.ownBlock = some k → nb < k) (h4 : cb < nb) : ChR bl bc cb cls sv L W :=
  ⟨h.fr.at hc.1 (by simp; omega), hc.2.1.frm h.fr (fun k hk hx => by have := h3 k hk; simp at hx; omega), h.fr.at hc.2.2.1 (by simp; omega), h.fr.cellAt hc.2.2.2 (by simp; omega)⟩
theorem AtI.hit {W5 W : World} {nb : Nat} {m : ByteArray} {pre : List (Nat × ByteArray)} (h : AtI W5 nb m pre W) (x : Nat × ByteArray) (hx : x.2 = m) : KB W (W.setCell ⟨nb, 0, none⟩ (.int .i64 (x.1 : Int))) ∧ AtI W5 nb m (pre ++ [x]) (W.setCell ⟨nb, 0, none⟩ (.int .i64 (x.1 : Int))) := by
  have hf : Frm [nb] W (W.setCell ⟨nb, 0, none⟩ (.int .i64 (x.1 : Int))) := (Frm.refl _ _).setCell _ (.inl (by simp)) _
  refine ⟨KB.frm hf (fun y hy => ?_), ⟨h.fr.trans hf, ?_⟩⟩
  · simp at hy; subst hy; exact not_books h.nb rfl
  · refine (block_setCell h.nb 0 _).trans ?_
    rw [atOf_snoc, if_pos hx]; rfl
theorem AtI.miss {W5 W : World} {nb : Nat} {m : ByteArray} {pre : List (Nat × ByteArray)} (h : AtI W5 nb m pre W) (x : Nat × ByteArray) (hx : x.2 ≠ m) : KB W W ∧ AtI W5 nb m (pre ++ [x]) W :=
  ⟨KB.refl _, h.fr, by rw [atOf_snoc, if_neg hx]; exact h.nb⟩
/-- the messages behind take -/
def tkL (cls : Int) (L : List ByteArray) (m : ByteArray) : List ByteArray := takeL cls L (atOf m (chlK cls L L.length))
set_option maxHeartbeats 2000000 in
set_option maxRecDepth 100000 in
theorem take_msg (cb : Nat) (cls cap : Int) (L : List ByteArray) (F : List Nat) (m : ByteArray) (w : World) (h : Chn w cb cls cap L F) :
    Calls Try.prog 15 #[.pointer (some ⟨cb, 0, none⟩), .string m] w (RetV fun _ w' => ChnTo w cb cls cap (tkL cls L m) F w') := by
  unfold tkL
  obtain ⟨q, hq⟩ : ∃ q, atOf m (chlK cls L L.length) = q := ⟨_, rfl⟩
  rw [hq]
  have HQ := Lib.hid hq
  clear hq
  have HC := Lib.hid h
  have hL64 := h.good.lenN
  have hcb : cb < w.heap.size := by obtain ⟨sv', e1, -⟩ := h; exact lt_of_block e1
  have CCs := Lib.hid (fun W' (hf : Frm [] w W') => choose_any cb cls cap L F W' (h.frm hf (by simp)))
  have hqf := eql_seq
  clear h
  refine calls_of_marks Try.func15 rfl ?_
  simp only [Try.ntmps15, List.size_toArray, List.length_nil, List.length_cons, Nat.reduceAdd, Nat.reduceSub, Array.replicate_succ, Array.replicate_zero, List.push_toArray, List.append_toArray, List.nil_append, List.cons_append]
  go_wp2_with (first
    | (go_at_call 13; go_must (refine (CCs.out _ (((Frm.refl [] w).alloc _).alloc _)).mono ?_; rintro e x8 ⟨v, rfl, ⟨bl, bc, sv, rfl, hch⟩⟩; have HCH := Lib.hid hch; clear hch CCs)))
  have HCR : Hid (∀ pre W, AtI x8 (w.heap.size + 1) m pre W → ChR bl bc cb cls sv L W) := Lib.hid fun pre W h => by
    have q1 := HCH.out.2.2.1; have q2 := HCH.out.2.2.2.1; have q3 := HCH.out.2.2.2.2
    simp only [World.size_alloc] at q1 q2 q3
    exact h.chr HCH.out.1 (by omega) (by omega) (fun k hk => by have := q3 k hk; omega) (by omega)
  have HN0 : Hid (AtI x8 (w.heap.size + 1) m [] x8) := Lib.hid ⟨Frm.refl _ _, HCH.out.2.1.at (alloc_top (by simp)) (by simp)⟩
  have HM8 : Hid (x8.cell? ⟨w.heap.size, 0, none⟩ = some (.string m)) := Lib.hid (cell_of (HCH.out.2.1.at (alloc_at (alloc_top rfl)) (by simp)) 0)
  have HX8 : Hid (Frm [] w x8) := Lib.hid ((((Frm.refl [] w).alloc _).alloc _).trans HCH.out.2.1)
  have hit := chc_iter bl bc cb cls sv L HC.out.good.c1 HC.out.good.c3 (by omega)
  clear HCH
  refine wp_rangeList rfl (enters_of Try.func27 (by kernel_rfl) rfl) hit (fun _ => rfl)
    (AtI x8 (w.heap.size + 1) m) (fun _ _ _ => False) (fun _ _ _ h hb => h.bk hb (Nat.le_refl _)) (fun _ _ _ _ h _ => h) HCR.out HN0.out ?_ ?_ (fun _ _ _ _ _ _ _ _ h => h.elim)
  · intro l pre x rest Wr hxs hI hl hlr
    have HI := Lib.hid hI
    clear hI hlr hl hxs
    obtain ⟨xi, xm⟩ := x
    simp only [encC]
    gi_wp2
    refine ⟨KB.refl _, fun Wq hbk _ => ?_⟩
    have HI2 := Lib.hid (HI.out.bk hbk (Nat.le_refl _))
    have cm := HI2.out.fr.cellAt HM8.out (by simp)
    have cn := cell_of HI2.out.nb 0
    have fn := free_of HI2.out.nb 0
    have hbe := str_beq xm m
    clear hbk
    by_cases hxm : xm = m
    · have HXM := Lib.hid hxm
      rw [decide_eq_true hxm] at hbe
      clear hxm
      gi_wp2
      exact HI2.out.hit (xi, xm) HXM.out
    · have HXM := Lib.hid hxm
      rw [decide_eq_false hxm] at hbe
      clear hxm
      gi_wp2
      exact HI2.out.miss (xi, xm) HXM.out
  · intro D W hD hI hK
    have hfw : Frm [] w W := HX8.out.then hI.fr (by intro y hy; simp at hy; right; omega)
    have HCW := Lib.hid (HC.out.frm hfw (by simp))
    have HFW := Lib.hid hfw
    have HKD := Lib.hid hK
    have HDS : Hid (w.heap.size ≤ D) := Lib.hid (Nat.le_trans HX8.out.size hD)
    have cn := cell_of hI.nb 0
    rw [HQ.out] at cn
    clear hfw hI hK hD HN0 HCR HM8 HX8 HC
    go_wp2_with (first
      | (go_at_call 18; go_must (refine (take_any cb cls cap L F q W HCW.out).mono ?_; rintro e w2 ⟨rfl, ht⟩; have HT := Lib.hid ht; clear ht)))
    have hDF : D ∉ F := HCW.out.mark ⟨HKD.out, rfl⟩
    obtain ⟨F', k1, k2, k3⟩ := HT.out
    have hD2 := k2.at HKD.out hDF
    have hDF' : D ∉ F' := k1.mark ⟨hD2, rfl⟩
    have hs := HFW.out.size
    refine leaves_mark hD2 ⟨.tuple #[], ?_, _, rfl, F', k1.frm (Frm.putObj _ D _) (fun x hx hy => by simp at hy; subst hy; exact hDF' hx), ?_, fun x hx => ?_⟩
    · simp [results, Try.results15, go_sem]
    · have h1 : Frm F w w2 := ((HFW.out.mono (by simp)).then k2 (fun x hx => .inl hx))
      exact h1.then (Frm.putObj _ D _) (by intro x hx; simp at hx; right; have := HDS.out; omega)
    · rcases k3 x hx with h1 | h1
      · exact .inl h1
      · exact .inr (by omega)
end Go.Proofs.Ythelfpenccpkeaa
