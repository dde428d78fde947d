/- cut, Remove. -/
import Derived.Test.YtefpfcheafbfdaaIns
import Derived.StillTailTactics
namespace Go.Proofs.Ytefpfcheafbfdaa
open Go.RowKit Go.Maps Go.BigFrame

def minP (P : Wd → Bool) (p : Wd) : Wd → Bool := fun q => P q && !decide (q = p)
theorem minP_iff {P : Wd → Bool} {p q : Wd} : minP P p q = true ↔ P q = true ∧ q ≠ p := by
  unfold minP
  simp
theorem minP_snoc {P : Wd → Bool} {p q : Wd} {c x : UInt8} : minP P (p ++ [c]) (q ++ [x]) = if q = p ∧ x = c then false else P (q ++ [x]) := by
  unfold minP
  by_cases e : q = p ∧ x = c
  · obtain ⟨rfl, rfl⟩ := e
    rw [if_pos ⟨rfl, rfl⟩]
    simp
  · rw [if_neg e]
    have : ¬ (q ++ [x] = p ++ [c]) := fun h => by
      obtain ⟨h1, h2⟩ := List.append_inj' h rfl
      exact e ⟨h1, by simpa using h2⟩
    rw [decide_eq_false this, Bool.not_false, Bool.and_true]
def setB (W : Wd → Bool) (p : Wd) (v : Bool) : Wd → Bool := fun q => if q = p then v else W q
/-- what cut leaves: nodes, words, and whether the node is empty -/
def cutS : List UInt8 → Wd → (Wd → Bool) → (Wd → Bool) → (Wd → Bool) × (Wd → Bool) × Bool
  | [], p, P, W => (P, setB W p false, (kidsP P p).length == 0)
  | c :: r, p, P, W =>
    let s := cutS r (p ++ [c]) P W
    let P2 := if s.2.2 = true then minP s.1 (p ++ [c]) else s.1
    (P2, s.2.1, !s.2.1 p && (kidsP P2 p).length == 0)
theorem cutS_sub : ∀ (r : List UInt8) (p : Wd) (P W : Wd → Bool) (q : Wd), (cutS r p P W).1 q = true → P q = true
  | [], _, _, _, _, h => h
  | c :: r, p, P, W, q, h => by
    unfold cutS at h
    simp only at h
    split at h
    · exact cutS_sub r _ P W q (minP_iff.1 h).1
    · exact cutS_sub r _ P W q h
/-- a node at p or below it is there no more at most -/
theorem cutS_keep : ∀ (r : List UInt8) (p : Wd) (P W : Wd → Bool) (q : Wd), P q = true → q.length ≤ p.length → (cutS r p P W).1 q = true
  | [], _, _, _, _, h, _ => h
  | c :: r, p, P, W, q, h, hq => by
    have ih := cutS_keep r (p ++ [c]) P W q h (by simp; omega)
    unfold cutS
    simp only
    split
    · exact minP_iff.2 ⟨ih, fun e => by subst e; simp at hq; omega⟩
    · exact ih
section
variable {w w' : World} {tb : Nat} {P W : Wd → Bool} {n : Nat} {NB MB : Wd → Nat} {N : Nat} {p : Wd} {c : UInt8}
/-- a node less -/
theorem TR.less (h : TR w tb P W n NB MB N) (hp : P (p ++ [c]) = true) (hl : (kidsP P (p ++ [c])).length = 0) (ty : TypeId) :
    ∃ w', (Builtin.delete_ #[66, 5] ty #[.map (some (MB p)), u8 c]).run Try.prog w = .ok (.tuple #[]) w' ∧ TR w' tb (minP P (p ++ [c])) W n NB MB N ∧ FrS (Own tb P NB MB) w w' := by
  have hpp := h.up p c hp
  obtain ⟨w', hrun, hm, hf⟩ := (h.map p hpp).drop Try.key5 Try.underlying66 (key_u8 c) ty
  rw [fU_upd, fU_at] at hm
  have hk : (kidF P NB p c).isSome = true := by unfold kidF; rw [if_pos hp]; rfl
  rw [hk, if_pos rfl] at hm
  have hf : Frm [MB p] w w' := hf
  obtain ⟨es, cl, hmb⟩ := h.isMap hpp
  have hleaf : ∀ x, P (p ++ [c] ++ [x]) = false := fun x => by
    cases e : P (p ++ [c] ++ [x]) with
    | false => rfl
    | true =>
      have := mem_kidsP.2 e
      rw [List.length_eq_zero_iff.1 hl] at this
      cases this
  have hold : ∀ q, minP P (p ++ [c]) q = true → P q = true := fun q hq => (minP_iff.1 hq).1
  refine ⟨w', hrun, ⟨?_, minP_iff.2 ⟨h.nil, by simp⟩, fun q x hx => ?_, fun q hq => ?_, fun q hq => ?_, fun q r hq hr e => h.inj q r (hold q hq) (hold r hr) e, fun q r hq hr e => h.injM q r (hold q hq) (hold r hr) e⟩, FrS.of hf (fun k hk => by simp only [List.mem_singleton] at hk; exact .inl (.inr ⟨p, hpp, .inr hk⟩))⟩
  · exact hf.at h.top (fun hx => by simp only [List.mem_singleton] at hx; have := h.top; rw [hx, hmb] at this; cases this)
  · refine minP_iff.2 ⟨h.up q x (hold _ hx), fun e => ?_⟩
    subst e
    have := hold _ hx
    rw [hleaf x] at this; cases this
  · exact hf.at (h.node q (hold q hq)) (fun hx => by simp only [List.mem_singleton] at hx; have := h.node q (hold q hq); rw [hx, hmb] at this; cases this)
  · by_cases e : q = p
    · subst e
      have e1 : kidF (minP P (q ++ [c])) NB q = fun x => if x = c then none else kidF P NB q x := by
        funext x
        have e5 := minP_snoc (P := P) (p := q) (q := q) (c := c) (x := x)
        unfold kidF
        by_cases ex : x = c
        · rw [if_pos ⟨rfl, ex⟩] at e5
          rw [e5, if_pos ex]; rfl
        · rw [if_neg (fun h => ex h.2)] at e5
          rw [e5, if_neg ex]
      rw [e1, kidsP_gone (P := P) (fun x => by rw [minP_snoc]; by_cases ex : x = c <;> simp [ex]) hp]
      exact hm
    · have e1 : kidF (minP P (p ++ [c])) NB q = kidF P NB q := by
        funext x
        have e5 := minP_snoc (P := P) (p := p) (q := q) (c := c) (x := x)
        rw [if_neg (fun h => e h.1)] at e5
        unfold kidF
        rw [e5]
      have e2 : kidsP (minP P (p ++ [c])) q = kidsP P q := kidsP_congr (fun x => by rw [minP_snoc, if_neg (fun h => e h.1)])
      rw [e1, e2]
      exact (h.map q (hold q hq)).frm hf (fun b hb hx => by
        cases hb
        simp only [List.mem_singleton] at hx
        exact e (h.injM q p (hold q hq) hpp hx))
end
def CtTo (tb : Nat) (P P' W' : Wd → Bool) (n : Nat) (NB MB : Wd → Nat) (N : Nat) (w w' : World) : Prop := TR w' tb P' W' n NB MB N ∧ FrS (Own tb P NB MB) w w'
set_option maxHeartbeats 2000000 in
set_option maxRecDepth 100000 in
theorem cut_any (tb n N : Nat) (NB MB : Wd → Nat) : ∀ (r : List UInt8) (p : Wd) (v : Value) (w : World) (P W : Wd → Bool), TR w tb P W n NB MB N → P (p ++ r) = true → Byts w v r → r.length ≤ 1000 →
    Calls Try.prog 48 #[nodeV NB p, v] w (Ret (.bool (cutS r p P W).2.2) (CtTo tb P (cutS r p P W).1 (cutS r p P W).2.1 n NB MB N w)) := by
  intro r
  induction r with
  | nil =>
    intro p v w P W h hp hb _
    rw [List.append_nil] at hp
    obtain ⟨ao, cap, rfl, -⟩ := hb.len
    have c0 := cell_of (h.node p hp) 0
    have f0 := free_of (h.node p hp) 0
    obtain ⟨t1, f1⟩ := h.flag hp false
    have d0 := cell_of (t1.node p hp) 0
    have d1 := cell_of (t1.node p hp) 1
    rw [if_pos rfl] at d0
    have hl := t1.len hp 3
    unfold cutS
    simp only
    obtain ⟨kl, hkl⟩ : ∃ kl, (kidsP P p).length = kl := ⟨_, rfl⟩
    rw [hkl] at hl ⊢
    have t1 : TR _ tb P (setB W p false) n NB MB N := t1
    have HT := Lib.hid t1; have HF := Lib.hid f1
    unfold nodeV
    clear h hb t1 f1 hkl
    cases kl with
    | zero =>
      go_enter Try.func48, Try.ntmps48
      go_wp2
      go_ret
      exact ⟨rfl, HT.out, HF.out⟩
    | succ kl =>
      have hz : (((kl + 1 : Nat) : Int) == 0) = false := by rw [beq_eq_false_iff_ne]; omega
      go_enter Try.func48, Try.ntmps48
      go_wp2
      go_ret
      exact ⟨by simp; omega, HT.out, HF.out⟩
  | cons c r ih =>
    intro p v w P W h hp hb hr
    have hpc : P (p ++ [c] ++ r) = true := by simpa using hp
    have hcut := hb.cutL (lo := 1) (i := 1) rfl (by simp)
    obtain ⟨v', hcv, hbv, ⟨a', c', rfl⟩, -⟩ := hcut
    rw [List.drop_succ_cons, List.drop_zero] at hcv hbv
    have hkey : ∀ (t : List UInt8) (q : Wd), P (q ++ t) = true → P q = true := fun t => by
      induction t with
      | nil => intro q hq; simpa using hq
      | cons x t ih2 => intro q hq; exact h.up q x (ih2 (q ++ [x]) (by simpa using hq))
    have hp1 := hkey r _ hpc
    have hp0 := h.up p c hp1
    have hl := h.lookup hp0 c
    have hkf : kidF P NB p c = some (nodeV NB (p ++ [c])) := by unfold kidF; rw [if_pos hp1]
    rw [hkf] at hl
    obtain ⟨ao, cap, rfl, hcap, hcs⟩ := hb
    obtain ⟨b', o, rfl, cx⟩ := hcs 0 c rfl
    rw [Nat.add_zero] at cx
    have c1 := cell_of (h.node p hp0) 1
    have hcu : ∀ W2, Frm [] w W2 → Calls Try.prog 48 #[nodeV NB (p ++ [c]), .slice a' r.length c'] W2 (Ret (.bool (cutS r (p ++ [c]) P W).2.2) (CtTo tb P (cutS r (p ++ [c]) P W).1 (cutS r (p ++ [c]) P W).2.1 n NB MB N W2)) := fun W2 hf => by
      exact ih (p ++ [c]) (.slice a' r.length c') W2 P W (h.frm0 hf) hpc (hbv.frm0 hf) (by simp at hr; omega)
    have CC := Lib.hid hcu
    have hcs' : cutS (c :: r) p P W = (if (cutS r (p ++ [c]) P W).2.2 = true then minP (cutS r (p ++ [c]) P W).1 (p ++ [c]) else (cutS r (p ++ [c]) P W).1, (cutS r (p ++ [c]) P W).2.1, !(cutS r (p ++ [c]) P W).2.1 p && (kidsP (if (cutS r (p ++ [c]) P W).2.2 = true then minP (cutS r (p ++ [c]) P W).1 (p ++ [c]) else (cutS r (p ++ [c]) P W).1) p).length == 0) := rfl
    have hk0 := cutS_keep r (p ++ [c]) P W p hp0 (by simp)
    have hk1 := cutS_keep r (p ++ [c]) P W (p ++ [c]) hp1 (Nat.le_refl _)
    have hsub := cutS_sub r (p ++ [c]) P W
    have hleaf : (cutS r (p ++ [c]) P W).2.2 = true → (kidsP (cutS r (p ++ [c]) P W).1 (p ++ [c])).length = 0 := by
      cases r with
      | nil => intro e; unfold cutS at e ⊢; simpa using e
      | cons y r =>
        intro e
        unfold cutS at e ⊢
        simp only [Bool.and_eq_true, beq_iff_eq] at e
        exact e.2
    obtain ⟨s, hs⟩ : ∃ s, cutS r (p ++ [c]) P W = s := ⟨_, rfl⟩
    rw [hs] at CC hcs' hk0 hk1 hsub hleaf
    obtain ⟨P1, W1, e1⟩ := s
    simp only at CC hcs' hk0 hk1 hsub hleaf
    rw [hcs']
    simp only
    obtain ⟨P2, hP2⟩ : ∃ P2, (if e1 = true then minP P1 (p ++ [c]) else P1) = P2 := ⟨_, rfl⟩
    obtain ⟨kl, hkl⟩ : ∃ kl, (kidsP P2 p).length = kl := ⟨_, rfl⟩
    obtain ⟨wb, hwb⟩ : ∃ wb, W1 p = wb := ⟨_, rfl⟩
    rw [hP2, hkl, hwb]
    have HP2 := Lib.hid hP2; have HKL := Lib.hid hkl; have HWB := Lib.hid hwb
    unfold u8 at cx hl
    unfold nodeV at CC hl ⊢
    simp only [Option.getD_some] at hl
    have HT := Lib.hid h
    have HCX : Hid (w.cell? ⟨b', o, none⟩ = some (u8 c)) := Lib.hid cx
    have HLEAF := Lib.hid hleaf
    have HSUB := Lib.hid hsub
    have hlen : (c :: r).length = r.length + 1 := rfl
    rw [hlen] at hcap hcv ⊢
    have HHL : Hid (r.length ≤ 1000) := Lib.hid (by simp at hr; omega)
    obtain ⟨rl, hrl⟩ : ∃ rl, r.length = rl := ⟨_, rfl⟩
    rw [hrl] at CC hcv HHL ⊢
    have hz : (((rl + 1 : Nat) : Int) == 0) = false := by rw [beq_eq_false_iff_ne]; omega
    have hrl2 := HHL.out
    clear h ih hcs hcu hs hcs' hP2 hkl hwb hleaf hsub hkf hp hpc hbv hkey hr hlen hrl hcap
    go_enter Try.func48, Try.ntmps48
    go_upto_region 3 with fail
    have HD : Hid (Frm [] w w.drew) := Lib.hid (Frm.refl [] w).drew
    have HSA : Hid (∀ (W : World) (PP WW : Wd → Bool), TR W tb PP WW n NB MB N → PP p = true → PP (p ++ [c]) = true → FrS (Own tb P NB MB) w W → W.cell? ⟨NB p, 1, none⟩ = some (.map (some (MB p))) ∧ W.cell? ⟨b', o, none⟩ = some (.int .u8 c.toNat) ∧ (Instr.lookup 66 (.map (some (MB p))) (.int .u8 c.toNat) false).run Try.prog W = .ok (.pointer (some ⟨NB (p ++ [c]), 0, none⟩)) W) := Lib.hid fun W PP WW ht h0 h1 hf => by
      have hl := ht.lookup h0 c
      have hkf : kidF PP NB p c = some (nodeV NB (p ++ [c])) := by unfold kidF; rw [if_pos h1]
      rw [hkf] at hl
      exact ⟨(cell_of (ht.node p h0) 1).trans rfl, (World.cell?_of_block (w := w) (hf.block b' (cell_lt HCX.out) (HT.out.not_u8 HCX.out))).trans HCX.out, hl⟩
    clear cx hl c1
    go_region_held3 (fun W => W.cell? ⟨NB p, 1, none⟩ = some (.map (some (MB p))) ∧ W.cell? ⟨b', o, none⟩ = some (.int .u8 c.toNat) ∧ (Instr.lookup 66 (.map (some (MB p))) (.int .u8 c.toNat) false).run Try.prog W = .ok (.pointer (some ⟨NB (p ++ [c]), 0, none⟩)) W)
      (first
        | exact HSA.out _ P W (HT.out.frm0 HD.out) hp0 hp1 (FrS.of HD.out (by simp))
        | exact HSA.out _ P1 W1 HT2.out hk0 hk1 HF2.out)
      (first
        | (go_at_call 48; go_must (refine (CC.out _ HD.out).mono ?_; clear CC; rintro e w2 ⟨rfl, ht, hf⟩; have HT2 := Lib.hid ht; have HF2 : Hid (FrS (Own tb P NB MB) w w2) := Lib.hid ((FrS.of HD.out (by simp)).then hf (fun k hk => .inl hk)); clear ht hf)))
    clear hcv
    have hsu : ∀ k, Own tb P1 NB MB k → Own tb P NB MB k := fun k hk => by
      rcases hk with rfl | ⟨q, hq, e⟩
      · exact .inl rfl
      · exact .inr ⟨q, HSUB.out q hq, e⟩
    have HSU := Lib.hid hsu
    clear hsu
    have d1 := cell_of (HT2.out.node p hk0) 1
    have d0 := cell_of (HT2.out.node p hk0) 0
    have cx2 : w2.cell? ⟨b', o, none⟩ = some (.int .u8 c.toNat) := (World.cell?_of_block (w := w) (HF2.out.block b' (cell_lt HCX.out) (HT.out.not_u8 HCX.out))).trans HCX.out
    cases e1 with
    | true =>
      obtain ⟨w3, hrun, ht3, hf3⟩ := (HT2.out.frm0 (Frm.refl [] w2).drew).less hk1 (HLEAF.out rfl) 0
      have hk3 : minP P1 (p ++ [c]) p = true := minP_iff.2 ⟨hk0, fun e => by have := congrArg List.length e; simp at this⟩
      have hp2 : minP P1 (p ++ [c]) = P2 := by have := HP2.out; rwa [if_pos rfl] at this
      rw [hp2] at ht3 hk3
      have g0 := cell_of (ht3.node p hk3) 0
      have g1 := cell_of (ht3.node p hk3) 1
      have hl3 := ht3.len hk3 3
      rw [HKL.out] at hl3
      rw [HWB.out] at g0
      have HT3 := Lib.hid ht3
      have HF3 : Hid (FrS (Own tb P NB MB) w w3) := Lib.hid (HF2.out.then (((FrS.of (S := Own tb P1 NB MB) (Frm.refl [] w2).drew (by simp))).then hf3 (fun k hk => .inl hk)) (fun k hk => .inl (HSU.out k hk)))
      unfold u8 at hrun
      clear ht3 hf3 d0 hp2
      go_upto_region 4 with fail
      go_still_tail 7, (by kernel_rfl)
      change wpList _ _ _ _ _ w2.drew
      cases wb with
      | true =>
        go_wp2
        go_ret
        exact ⟨by simp, HT3.out, HF3.out⟩
      | false =>
        cases kl with
        | zero =>
          go_wp2
          go_ret
          exact ⟨by simp, HT3.out, HF3.out⟩
        | succ kl =>
          have hz2 : (((kl + 1 : Nat) : Int) == 0) = false := by rw [beq_eq_false_iff_ne]; omega
          go_wp2
          go_ret
          exact ⟨by simp; try omega, HT3.out, HF3.out⟩
    | false =>
      have hp2 : P1 = P2 := by have := HP2.out; rwa [if_neg (by simp)] at this
      subst hp2
      have hl2 := HT2.out.len hk0 3
      rw [HKL.out] at hl2
      rw [HWB.out] at d0
      cases wb with
      | true =>
        go_wp2
        go_ret
        exact ⟨by simp, HT2.out, HF2.out⟩
      | false =>
        cases kl with
        | zero =>
          go_wp2
          go_ret
          exact ⟨by simp, HT2.out, HF2.out⟩
        | succ kl =>
          have hz2 : (((kl + 1 : Nat) : Int) == 0) = false := by rw [beq_eq_false_iff_ne]; omega
          go_wp2
          go_ret
          exact ⟨by simp; try omega, HT2.out, HF2.out⟩
end Go.Proofs.Ytefpfcheafbfdaa
