/- count, Nodes. -/
import Derived.Test.YtefpfcheafbfdaaRem
import Derived.Maps.RangeWalk
namespace Go.Proofs.Ytefpfcheafbfdaa
open Go.RowKit Go.Maps Go.BigFrame

theorem allPre_le : ∀ (L done : List Wd), (allPre done L).length ≤ (L.map fun x => x.length + 1).sum
  | [], _ => by simp [allPre]
  | x :: L, done => by
    have ih := allPre_le L (done ++ [x])
    unfold allPre
    rw [List.length_append, List.map_cons, List.sum_cons]
    have : (newPre done x).length ≤ x.length + 1 := by
      unfold newPre
      refine Nat.le_trans (List.length_filter_le _ _) ?_
      simp
    omega
theorem sum_le_of {L : List Wd} (h : ∀ x ∈ L, x.length ≤ 64) : (L.map fun x => x.length + 1).sum ≤ L.length * 65 := by
  induction L with
  | nil => simp
  | cons x L ih =>
    have h1 := ih (fun y hy => h y (List.mem_cons_of_mem _ hy))
    have h2 := h x List.mem_cons_self
    rw [List.map_cons, List.sum_cons, List.length_cons]
    omega
theorem cnt_le {L : List Wd} (h : ∀ x ∈ L, x.length ≤ 64) (p : Wd) : cnt L p ≤ L.length * 65 := by
  unfold cnt
  exact Nat.le_trans (List.length_filter_le _ _) (Nat.le_trans (allPre_le L []) (sum_le_of h))
def kl8 (c : UInt8) : Lit := .int .u8 c.toNat
theorem kl8_inj {a b : UInt8} (h : kl8 a = kl8 b) : a = b := by
  unfold kl8 at h
  simp only [Lit.int.injEq, true_and] at h
  exact UInt8.toNat_inj.1 (by omega)
theorem kl8_same {a b : UInt8} : (kl8 a).sameKey (kl8 b) = decide (a = b) := by
  rw [Bool.eq_iff_iff, decide_eq_true_iff]
  unfold kl8
  simp only [Lit.sameKey, decide_eq_true_eq]
  constructor
  · intro h
    refine UInt8.toNat_inj.1 ?_
    simp at h
    omega
  · rintro rfl
    simp
/-- what is still to come -/
def remC (L : List Wd) (p : Wd) (left : Lit → Bool) : List UInt8 → Nat
  | [] => 0
  | c :: ks => (if left (kl8 c) then cnt L (p ++ [c]) else 0) + remC L p left ks
theorem remC_all {L : List Wd} {p : Wd} {left : Lit → Bool} : ∀ {ks : List UInt8}, (∀ c ∈ ks, left (kl8 c) = true) → remC L p left ks = (ks.map fun c => cnt L (p ++ [c])).sum
  | [], _ => rfl
  | c :: ks, h => by
    unfold remC
    rw [remC_all (fun x hx => h x (List.mem_cons_of_mem _ hx)), if_pos (h c List.mem_cons_self), List.map_cons, List.sum_cons]
theorem remC_none {L : List Wd} {p : Wd} {left : Lit → Bool} (h : ∀ kl, left kl = false) : ∀ {ks : List UInt8}, remC L p left ks = 0
  | [] => rfl
  | c :: ks => by
    unfold remC
    rw [remC_none h, if_neg (by rw [h]; simp)]
theorem remC_strike {L : List Wd} {p : Wd} {left : Lit → Bool} {c : UInt8} : ∀ {ks : List UInt8}, ks.Nodup → left (kl8 c) = true →
    remC L p (fun z => left z && !z.sameKey (kl8 c)) ks + (if c ∈ ks then cnt L (p ++ [c]) else 0) = remC L p left ks
  | [], _, _ => by simp [remC]
  | x :: ks, hn, hl => by
    obtain ⟨h1, h2⟩ := List.nodup_cons.1 hn
    have ih := remC_strike (L := L) (p := p) (c := c) h2 hl
    unfold remC
    simp only [kl8_same]
    by_cases e : x = c
    · subst e
      rw [if_neg h1, Nat.add_zero] at ih
      rw [hl, if_pos List.mem_cons_self, ih]
      simp
      omega
    · have : (c ∈ x :: ks) ↔ c ∈ ks := by simp [Ne.symm e]
      simp only [this, decide_eq_false e, Bool.not_false, Bool.and_true]
      omega
/-- a node's map, its entries one at a time -/
structure KD (w : World) (mb N : Nat) (P : Wd → Bool) (NB : Wd → Nat) (p : Wd) (D : DataW Value) : Prop where
  own : w.ownsMap Try.prog 5 rawR mb N D
  has : ∀ kl, Maps.has D kl = (fU (kidF P NB p) kl).isSome
  at' : ∀ c, P (p ++ [c]) = true → ∀ z, D.atKey (kl8 c) z = .held (nodeV NB (p ++ [c]))
section
variable {w : World} {tb : Nat} {P W : Wd → Bool} {n : Nat} {NB MB : Wd → Nat} {N : Nat} {p : Wd}
theorem TR.kd (h : TR w tb P W n NB MB N) (hp : P p = true) : ∃ D, KD w (MB p) N P NB p D ∧ Maps.size D = (kidsP P p).length := by
  rcases h.map p hp with ⟨e, -⟩ | ⟨b, D, e, h1, h2, h3, h4⟩
  · cases e
  · cases e
    refine ⟨D, ⟨h1, h2, fun c hc z => h3 (kl8 c) _ ?_ z⟩, h4⟩
    unfold kl8
    rw [fU_at]
    unfold kidF
    rw [if_pos hc]
theorem KD.key {D : DataW Value} {mb : Nat} (h : KD w mb N P NB p D) {kl : Lit} (hk : Maps.has D kl = true) : ∃ c, kl = kl8 c ∧ P (p ++ [c]) = true := by
  rw [h.has] at hk
  unfold fU at hk
  split at hk
  · rename_i t
    split at hk
    · rename_i ht
      refine ⟨UInt8.ofNat t.toNat, ?_, ?_⟩
      · unfold kl8
        have : ((UInt8.ofNat t.toNat).toNat : Int) = t := by simp; omega
        rw [this]
      · unfold kidF at hk
        split at hk
        · assumption
        · cases hk
    · cases hk
  · cases hk
theorem KD.has8 {D : DataW Value} {mb : Nat} (h : KD w mb N P NB p D) {c : UInt8} (hc : P (p ++ [c]) = true) : Maps.has D (kl8 c) = true := by
  rw [h.has]
  unfold kl8
  rw [fU_at]
  unfold kidF
  rw [if_pos hc]; rfl
end
theorem ranges_frm {F : List Nat} {w w' : World} {mo r N : Nat} {D : DataW Value} {left : Lit → Bool} {cnt : Nat} (h : w.ranges Try.prog 5 rawR mo r N D left cnt) (hf : Frm F w w') (h1 : mo ∉ F) (h2 : r ∉ F) : w'.ranges Try.prog 5 rawR mo r N D left cnt := by
  obtain ⟨es, clock, since, seen, c0, q1, q2, q3, q4, q5, q⟩ := h
  exact ⟨es, clock, since, seen, c0, hf.at q1 h1, q2, q3, q4, hf.at q5 h2, q⟩
/-- while the nodes are gone through -/
structure CI (w1 : World) (r mo N : Nat) (L : List Wd) (p : Wd) (D : DataW Value) (left : Lit → Bool) (cn : Nat) (v : Value) (wr : World) : Prop where
  rg : wr.ranges Try.prog 5 rawR mo r N D left cn
  sub : ∀ kl, left kl = true → Maps.has D kl = true
  fr : Frm [r] w1 wr
  sum : ∃ n : Nat, v = .int .i64 n ∧ n + remC L p left (kids L p) = cnt L p
set_option maxHeartbeats 2000000 in
set_option maxRecDepth 100000 in
theorem count_any {tb N : Nat} {L : List Wd} {NB MB : Wd → Nat} (hL : L ≠ []) (h64 : ∀ x ∈ L, x.length ≤ 64) (hn : L.length ≤ 1000) : ∀ (d : Nat) (p : Wd) (w : World), TL w tb L NB MB N → pre L p = true → 65 ≤ p.length + d →
    Calls Try.prog 53 #[nodeV NB p] w (Ret (.int .i64 (cnt L p)) (Frm [] w)) := by
  intro d
  induction d with
  | zero =>
    intro p w _ hp hd
    exfalso
    rcases pre_iff.1 hp with rfl | ⟨x, hx, hpx⟩
    · simp at hd
    · have := h64 x hx; have := hpx.length_le; omega
  | succ d ih =>
    intro p w h hp hd
    obtain ⟨D, hD, -⟩ := h.kd hp
    have HT := Lib.hid h; have HD := Lib.hid hD
    have CC : Hid (∀ c W, Frm [] w W → pre L (p ++ [c]) = true → Calls Try.prog 53 #[nodeV NB (p ++ [c])] W (Ret (.int .i64 (cnt L (p ++ [c]))) (Frm [] W))) := Lib.hid fun c W hf hc => ih (p ++ [c]) W (h.frm0 hf) hc (by simp; omega)
    have c1 := cell_of (h.node p hp) 1
    have hsp := cnt_split hL hp (List.Perm.refl _)
    have HSP := Lib.hid hsp
    have hle := cnt_le h64 p
    have HLE : Hid (cnt L p ≤ 65000) := Lib.hid (by omega)
    have HMO : Hid (MB p < w.heap.size) := Lib.hid (by obtain ⟨es, c, hb⟩ := h.isMap hp; exact lt_of_block hb)
    unfold nodeV at CC ⊢
    clear h hD ih hsp hle
    go_enter Try.func53, Try.ntmps53
    go_wp2_with (at_range; refine wpList_range_own _ rfl _ 66 rfl 5 53 Try.key5 Try.underlying66 _ (MB p) N D rfl HD.out.own ?_; intro w0 hrg0 hg0 hs0; have HR0 := Lib.hid hrg0; have HG0 := Lib.hid hg0; clear hrg0 hg0 hs0)
    have HW0 : Hid (Frm [] w w0) := Lib.hid ((Frm.refl [] w).grown HG0.out (by simp))
    have HI0 : Hid (CI w0 w.heap.size (MB p) N L p D (Maps.has D) (Maps.size D) (.int .i64 1) w0) := Lib.hid ⟨HR0.out, fun _ h => h, Frm.refl _ _, 1, rfl, by
      rw [remC_all (fun c hc => HD.out.has8 (mem_kids.1 hc))]
      exact HSP.out.symm⟩
    clear HR0 HSP
    go_frame
    go_loopw [3] (fun s3 wr => ∃ left cn, CI w0 w.heap.size (MB p) N L p D left cn s3 wr) (fun _ wr => wr.rangeLeft (MB p) w.heap.size)
    case atStart => exact ⟨_, _, HI0.out⟩
    case round =>
      obtain ⟨left, cn, hI⟩ := hrel
      have HH := Lib.hid hI
      obtain ⟨m, hv, hm⟩ := hI.sum
      subst hv
      have HM := Lib.hid hm
      have hm1 : m ≤ 65000 := by have := HLE.out; omega
      clear hI HI0 hm
      go_wp2_with (first
        | (at_next; refine wpList_next_ranges _ rfl _ rfl 5 Try.key5 rawR (Value.int .u8) (fun v : Value => v) (fun key kl hkey => by obtain ⟨x, e, -⟩ := Maps.keyOf_int_inv Try.underlying5 hkey; exact ⟨x, e⟩) (fun v y _ => ⟨v, rfl⟩) (MB p) w.heap.size N D left cn rfl HH.out.rg ?_ ?_))
      · intro _ hl0
        have hmm := HM.out
        rw [remC_none hl0, Nat.add_zero] at hmm
        subst hmm
        clear hl0
        go_wp2
        go_ret
        exact ⟨rfl, HW0.out.then HH.out.fr (by intro x hx; simp at hx; subst hx; exact .inr (Nat.le_refl _))⟩
      · intro x c kl y1 y2 w1 cnt1 hkey hlk hR hat hrg1 hlt1 hg1 hs1 hen
        obtain ⟨t, rfl, ht⟩ := HD.out.key (HH.out.sub kl hlk)
        have hc : c = nodeV NB (p ++ [t]) := by
          simp only [rawR, Option.some.injEq, Prod.mk.injEq] at hR
          have h1 := hat .nil
          rw [← hR.1, HD.out.at' t ht] at h1
          simpa using h1.symm
        subst hc
        have hs0 := HW0.out.size
        have hFW : Frm [] w wr := HW0.out.then HH.out.fr (by intro x hx; simp at hx; subst hx; exact .inr (Nat.le_refl _))
        have hF1 : Frm [w.heap.size] wr w1 := (Frm.refl _ _).grown hg1 (by simp)
        have hFW1 : Frm [] w w1 := hFW.then hF1 (by intro x hx; simp at hx; subst hx; exact .inr (Nat.le_refl _))
        have hst := remC_strike (L := L) (p := p) (c := t) (kids_nodup L p) hlk
        rw [if_pos (mem_kids.2 ht)] at hst
        have CV := Lib.hid (CC.out t w1 hFW1 ht)
        have hmm := HM.out
        have hle2 : cnt L (p ++ [t]) ≤ 65000 := by have := HLE.out; omega
        obtain ⟨ct, hct⟩ : ∃ ct, cnt L (p ++ [t]) = ct := ⟨_, rfl⟩
        rw [hct] at CV hst hle2
        have HRG := Lib.hid hrg1; have HLT := Lib.hid hlt1; have HF1 := Lib.hid hF1; have HST := Lib.hid hst; have HFW1 := Lib.hid hFW1
        unfold nodeV at hen
        clear hkey hlk hR hat hrg1 hlt1 hg1 hs1 hFW hF1 hFW1 hst hs0 ht hct hmm
        go_wp2_with (first
          | (go_at_call 53; go_must (refine CV.out.mono ?_; clear CV; rintro e w4 ⟨rfl, hf4⟩; have HF4 := Lib.hid hf4; clear hf4)))
        have hmo := HMO.out
        have hrg4 := ranges_frm HRG.out HF4.out (by simp) (by simp)
        refine ⟨⟨_, cnt1, hrg4, fun z hz => HH.out.sub z (by simp at hz; exact hz.1), (HH.out.fr.trans HF1.out).trans (HF4.out.mono (by simp)), m + ct, by push_cast; rfl, by have h1 := HM.out; have h2 := HST.out; omega⟩, ?_⟩
        rw [hrg4.left_eq, HH.out.rg.left_eq]
        exact HLT.out
/-- how many nodes a set has -/
def nodesL (L : List Wd) : Nat := (allPre [] L).length
theorem nodes_any {tb N : Nat} {L : List Wd} {NB MB : Wd → Nat} {w : World} (h : TL w tb L NB MB N) (h64 : ∀ x ∈ L, x.length ≤ 64) (hn : L.length ≤ 1000) : Calls Try.prog 26 #[.pointer (some ⟨tb, 0, none⟩)] w (Ret (.int .i64 (nodesL L)) (Frm [] w)) := by
  have CL := Lib.hid (len_any h)
  by_cases hL : L = []
  · subst hL
    have e : nodesL [] = 0 := rfl
    rw [e]
    clear h
    go_enter Try.func26, Try.ntmps26
    go_wp2_with (go_at_call 25; go_must (refine CL.out.mono ?_; rintro e w' ⟨rfl, rfl⟩))
    go_ret
    exact ⟨rfl, Frm.refl _ _⟩
  · have CC := count_any hL h64 hn 65 [] w h (pre_nil L) (by simp)
    rw [cnt_nil] at CC
    unfold nodeV at CC
    have CC := Lib.hid CC
    have c0 := cell_of h.top 0
    unfold nodeV at c0
    have hz : ((L.length : Int) == 0) = false := by rw [beq_eq_false_iff_ne]; have := List.length_pos_iff.2 hL; omega
    unfold nodesL
    clear h hL
    go_enter Try.func26, Try.ntmps26
    go_wp2_with (first
      | (go_at_call 25; go_must (refine CL.out.mono ?_; rintro e w' ⟨rfl, rfl⟩))
      | (go_at_call 53; go_must (refine CC.out.mono ?_; rintro e w2 ⟨rfl, hf⟩; have HF := Lib.hid hf; clear hf)))
    go_ret
    exact ⟨rfl, HF.out⟩
theorem nodes_t0 {xo : Option Addr} {w : World} (h : T0 w xo) : Calls Try.prog 26 #[.pointer xo] w (Ret (.int .i64 0) (w = ·)) := by
  have CL := Lib.hid (len_t0 h)
  clear h
  go_enter Try.func26, Try.ntmps26
  go_wp2_with (go_at_call 25; go_must (refine CL.out.mono ?_; rintro e w' ⟨rfl, rfl⟩))
  go_ret
  exact ⟨rfl, rfl⟩
end Go.Proofs.Ytefpfcheafbfdaa
