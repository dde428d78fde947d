/- role.Check: its three conditions. What the check of a session says of it. -/
import Derived.Test.YtkphhjekfimmlaaGreatB17
import Derived.Test.YtkphhjekfimmlaaGreatB01
namespace Go.Proofs.YtkphhjekfimmlaaGreat
open Go.RowKit Go.BigFrame

/-- a role in a variable -/
structure RBox (w : World) (rb : Nat) (sv cv tv : Value) (r : RolD) : Prop where
  hb : w.heap[rb]? = some (.cells #[.string r.name, sv, cv, tv] 53 (0, 0))
  h3 : Rl3 w sv cv tv r
theorem RBox.frm {w w' : World} {rb : Nat} {sv cv tv : Value} {r : RolD} (h : RBox w rb sv cv tv r) (hf : Frm [] w w') : RBox w' rb sv cv tv r := ⟨hf.at h.hb (by simp), h.h3.frm hf⟩
theorem RBox.lt {w : World} {rb : Nat} {sv cv tv : Value} {r : RolD} (h : RBox w rb sv cv tv r) : rb < w.heap.size := lt_of_block h.hb
theorem RBox.cells {w : World} {rb : Nat} {sv cv tv : Value} {r : RolD} (h : RBox w rb sv cv tv r) : w.cell? ⟨rb, 0, none⟩ = some (.string r.name) ∧ w.cell? ⟨rb, 1, none⟩ = some sv ∧ w.cell? ⟨rb, 2, none⟩ = some cv ∧ w.cell? ⟨rb, 3, none⟩ = some tv :=
  ⟨cell_of h.hb 0, cell_of h.hb 1, cell_of h.hb 2, cell_of h.hb 3⟩
theorem RBox.val {w : World} {rb : Nat} {sv cv tv : Value} {r : RolD} (h : RBox w rb sv cv tv r) : RlV w (.agg #[.string r.name, sv, cv, tv]) r := ⟨sv, cv, tv, rfl, h.h3⟩
set_option maxHeartbeats 2000000 in
set_option maxRecDepth 100000 in
theorem rCheck1_any (rb : Nat) (i : Nat) (r : RolD) (sv cv tv : Value) (x : CtrD) (w : World) (h : RBox w rb sv cv tv r) (hl : r.ctrs.length ≤ 1000) (hx : r.ctrs[i]? = some x) :
    Calls Tryz.prog 151 #[.int .i64 i, .pointer (some ⟨rb, 0, none⟩)] w (Ret (.bool (ctrBad r i x)) (Frm [] w)) := by
  obtain ⟨ao, cap, e, hxs⟩ := h.h3.ctrs
  subst e
  obtain ⟨b, o, rfl, c0, c1⟩ := hxs i x hx
  have hlt := h.lt
  have hblt := cell_lt c0
  have hil : (i : Int) < (r.ctrs.length : Int) := by have := lt_of_some hx; omega
  obtain ⟨n, hn⟩ : ∃ n, r.ctrs.length = n := ⟨_, rfl⟩
  have HF0 : Hid (Frm [] w (w.alloc (.cells #[.string x.name, .int .i64 x.lim] 182))) := Lib.hid ((Frm.refl _ _).alloc _)
  rw [hn] at hl hil
  obtain ⟨d0, d1, d2, d3⟩ := h.cells
  rw [hn] at d2
  have HR := Lib.hid h
  have HA : Hid (∀ V, Frm [] (w.alloc (.cells #[.string x.name, .int .i64 x.lim] 182)) V → V.cell? ⟨rb, 0, none⟩ = some (.string r.name) ∧ V.cell? ⟨rb, 1, none⟩ = some sv ∧ V.cell? ⟨rb, 2, none⟩ = some (.slice (some ⟨b, o, none⟩) n cap) ∧ V.cell? ⟨rb, 3, none⟩ = some tv ∧
      V.cell? ⟨w.heap.size, 0, none⟩ = some (.string x.name) ∧ V.cell? ⟨w.heap.size, 1, none⟩ = some (.int .i64 x.lim)) := Lib.hid fun V hf => by
    obtain ⟨e0, e1, e2, e3⟩ := (HR.out.frm (HF0.out.trans hf)).cells
    rw [hn] at e2
    exact ⟨e0, e1, e2, e3, hf.keep (cell_of (heap_alloc_new w _) 0), hf.keep (cell_of (heap_alloc_new w _) 1)⟩
  have CC : Hid (∀ V, Frm [] (w.alloc (.cells #[.string x.name, .int .i64 x.lim] 182)) V → Calls Tryz.prog 152 #[.agg #[.string r.name, sv, .slice (some ⟨b, o, none⟩) n cap, tv], .string x.name] V (Ret (.int .i64 (ctrIx r.ctrs x.name)) (Frm [] V))) := Lib.hid fun V hf => by
    rw [← hn]
    exact rCounter_any _ r x.name V (HR.out.frm (HF0.out.trans hf)).val (by omega)
  obtain ⟨q, hq⟩ : ∃ q, ctrIx r.ctrs x.name = q := ⟨_, rfl⟩
  unfold ctrBad
  rw [hq] at CC ⊢
  clear h hxs hx hn hq
  cases h1 : nameB x.name with
  | false =>
    have C1 := Lib.hid (rName_any x.name (w.alloc (.cells #[.string x.name, .int .i64 x.lim] 182)))
    rw [h1] at C1
    clear h1
    go_enter Tryz.func151, Tryz.ntmps151
    go_wp2_with (first
      | (go_at_call 114; go_must (refine C1.out.mono ?_; rintro e w1 ⟨rfl, hf1⟩; have HF1 := Lib.hid (HF0.out.trans hf1); clear hf1)))
    go_ret
    exact ⟨rfl, HF1.out⟩
  | true =>
    have C1 := Lib.hid (rName_any x.name (w.alloc (.cells #[.string x.name, .int .i64 x.lim] 182)))
    rw [h1] at C1
    clear h1
    by_cases h2 : q < (i : Int)
    · rw [decide_eq_true h2]
      go_enter Tryz.func151, Tryz.ntmps151
      go_wp2_with (first
        | (go_at_call 114; go_must (refine C1.out.mono ?_; rintro e w1 ⟨rfl, hf1⟩; obtain ⟨a0, a1, a2, a3, a4, a5⟩ := HA.out w1 hf1; have HG1 := Lib.hid hf1; clear hf1))
        | (go_at_call 152; go_must (refine (CC.out _ HG1.out).mono ?_; rintro e w2 ⟨rfl, hf2⟩; have HF2 := Lib.hid (HF0.out.trans (HG1.out.trans hf2)); clear hf2)))
      go_ret
      exact ⟨rfl, HF2.out⟩
    · rw [decide_eq_false h2]
      by_cases h3 : x.lim < 1
      · rw [decide_eq_true h3]
        go_enter Tryz.func151, Tryz.ntmps151
        go_wp2_with (first
          | (go_at_call 114; go_must (refine C1.out.mono ?_; rintro e w1 ⟨rfl, hf1⟩; obtain ⟨a0, a1, a2, a3, a4, a5⟩ := HA.out w1 hf1; have HG1 := Lib.hid hf1; clear hf1))
          | (go_at_call 152; go_must (refine (CC.out _ HG1.out).mono ?_; rintro e w2 ⟨rfl, hf2⟩; replace a4 := hf2.keep a4; replace a5 := hf2.keep a5; have HF2 := Lib.hid (HF0.out.trans (HG1.out.trans hf2)); clear hf2)))
        go_ret
        exact ⟨rfl, HF2.out⟩
      · rw [decide_eq_false h3]
        by_cases h4 : 1000 < x.lim
        · rw [decide_eq_true h4]
          go_enter Tryz.func151, Tryz.ntmps151
          go_wp2_with (first
            | (go_at_call 114; go_must (refine C1.out.mono ?_; rintro e w1 ⟨rfl, hf1⟩; obtain ⟨a0, a1, a2, a3, a4, a5⟩ := HA.out w1 hf1; have HG1 := Lib.hid hf1; clear hf1))
            | (go_at_call 152; go_must (refine (CC.out _ HG1.out).mono ?_; rintro e w2 ⟨rfl, hf2⟩; replace a4 := hf2.keep a4; replace a5 := hf2.keep a5; have HF2 := Lib.hid (HF0.out.trans (HG1.out.trans hf2)); clear hf2)))
          go_ret
          exact ⟨rfl, HF2.out⟩
        · rw [decide_eq_false h4]
          go_enter Tryz.func151, Tryz.ntmps151
          go_wp2_with (first
            | (go_at_call 114; go_must (refine C1.out.mono ?_; rintro e w1 ⟨rfl, hf1⟩; obtain ⟨a0, a1, a2, a3, a4, a5⟩ := HA.out w1 hf1; have HG1 := Lib.hid hf1; clear hf1))
            | (go_at_call 152; go_must (refine (CC.out _ HG1.out).mono ?_; rintro e w2 ⟨rfl, hf2⟩; replace a4 := hf2.keep a4; replace a5 := hf2.keep a5; have HF2 := Lib.hid (HF0.out.trans (HG1.out.trans hf2)); clear hf2)))
          go_ret
          exact ⟨by simp; omega, HF2.out⟩
set_option maxHeartbeats 2000000 in
set_option maxRecDepth 100000 in
theorem rCheck2_any (rb : Nat) (i : Nat) (r : RolD) (sv cv tv : Value) (x : StD) (w : World) (h : RBox w rb sv cv tv r) (hl : r.sts.length ≤ 1000) (hx : r.sts[i]? = some x) :
    Calls Tryz.prog 153 #[.int .i64 i, .pointer (some ⟨rb, 0, none⟩)] w (Ret (.bool (stBad r i x)) (Frm [] w)) := by
  obtain ⟨ao, cap, e, hxs⟩ := h.h3.sts
  subst e
  obtain ⟨b, o, rfl, c0, c1, c2⟩ := hxs i x hx
  have hlt := h.lt
  have hblt := cell_lt c0
  have hil : (i : Int) < (r.sts.length : Int) := by have := lt_of_some hx; omega
  obtain ⟨n, hn⟩ : ∃ n, r.sts.length = n := ⟨_, rfl⟩
  have HF0 : Hid (Frm [] w (w.alloc (.cells #[.string x.name, .bool x.fin, .int .i64 x.wait] 62))) := Lib.hid ((Frm.refl _ _).alloc _)
  rw [hn] at hl hil
  obtain ⟨d0, d1, d2, d3⟩ := h.cells
  rw [hn] at d1
  have HR := Lib.hid h
  have HA : Hid (∀ V, Frm [] (w.alloc (.cells #[.string x.name, .bool x.fin, .int .i64 x.wait] 62)) V → V.cell? ⟨rb, 0, none⟩ = some (.string r.name) ∧ V.cell? ⟨rb, 1, none⟩ = some (.slice (some ⟨b, o, none⟩) n cap) ∧ V.cell? ⟨rb, 2, none⟩ = some cv ∧ V.cell? ⟨rb, 3, none⟩ = some tv ∧
      V.cell? ⟨w.heap.size, 0, none⟩ = some (.string x.name) ∧ V.cell? ⟨w.heap.size, 2, none⟩ = some (.int .i64 x.wait)) := Lib.hid fun V hf => by
    obtain ⟨e0, e1, e2, e3⟩ := (HR.out.frm (HF0.out.trans hf)).cells
    rw [hn] at e1
    exact ⟨e0, e1, e2, e3, hf.keep (cell_of (heap_alloc_new w _) 0), hf.keep (cell_of (heap_alloc_new w _) 2)⟩
  have CC : Hid (∀ V, Frm [] (w.alloc (.cells #[.string x.name, .bool x.fin, .int .i64 x.wait] 62)) V → Calls Tryz.prog 154 #[.agg #[.string r.name, .slice (some ⟨b, o, none⟩) n cap, cv, tv], .string x.name] V (Ret (.int .i64 (stIx r x.name)) (Frm [] V))) := Lib.hid fun V hf => by
    rw [← hn]
    exact rState_any _ r x.name V (HR.out.frm (HF0.out.trans hf)).val (by omega)
  obtain ⟨q, hq⟩ : ∃ q, stIx r x.name = q := ⟨_, rfl⟩
  unfold stBad
  rw [hq] at CC ⊢
  clear h hxs hx hn hq
  cases h1 : nameB x.name with
  | false =>
    have C1 := Lib.hid (rName_any x.name (w.alloc (.cells #[.string x.name, .bool x.fin, .int .i64 x.wait] 62)))
    rw [h1] at C1
    clear h1
    go_enter Tryz.func153, Tryz.ntmps153
    go_wp2_with (first
      | (go_at_call 114; go_must (refine C1.out.mono ?_; rintro e w1 ⟨rfl, hf1⟩; have HF1 := Lib.hid (HF0.out.trans hf1); clear hf1)))
    go_ret
    exact ⟨rfl, HF1.out⟩
  | true =>
    have C1 := Lib.hid (rName_any x.name (w.alloc (.cells #[.string x.name, .bool x.fin, .int .i64 x.wait] 62)))
    rw [h1] at C1
    clear h1
    by_cases h2 : q < (i : Int)
    · rw [decide_eq_true h2]
      go_enter Tryz.func153, Tryz.ntmps153
      go_wp2_with (first
        | (go_at_call 114; go_must (refine C1.out.mono ?_; rintro e w1 ⟨rfl, hf1⟩; obtain ⟨a0, a1, a2, a3, a4, a5⟩ := HA.out w1 hf1; have HG1 := Lib.hid hf1; clear hf1))
        | (go_at_call 154; go_must (refine (CC.out _ HG1.out).mono ?_; rintro e w2 ⟨rfl, hf2⟩; have HF2 := Lib.hid (HF0.out.trans (HG1.out.trans hf2)); clear hf2)))
      go_ret
      exact ⟨rfl, HF2.out⟩
    · rw [decide_eq_false h2]
      by_cases h3 : x.wait < 0
      · rw [decide_eq_true h3]
        go_enter Tryz.func153, Tryz.ntmps153
        go_wp2_with (first
          | (go_at_call 114; go_must (refine C1.out.mono ?_; rintro e w1 ⟨rfl, hf1⟩; obtain ⟨a0, a1, a2, a3, a4, a5⟩ := HA.out w1 hf1; have HG1 := Lib.hid hf1; clear hf1))
          | (go_at_call 154; go_must (refine (CC.out _ HG1.out).mono ?_; rintro e w2 ⟨rfl, hf2⟩; replace a4 := hf2.keep a4; replace a5 := hf2.keep a5; have HF2 := Lib.hid (HF0.out.trans (HG1.out.trans hf2)); clear hf2)))
        go_ret
        exact ⟨rfl, HF2.out⟩
      · rw [decide_eq_false h3]
        by_cases h4 : 1048576 < x.wait
        · rw [decide_eq_true h4]
          go_enter Tryz.func153, Tryz.ntmps153
          go_wp2_with (first
            | (go_at_call 114; go_must (refine C1.out.mono ?_; rintro e w1 ⟨rfl, hf1⟩; obtain ⟨a0, a1, a2, a3, a4, a5⟩ := HA.out w1 hf1; have HG1 := Lib.hid hf1; clear hf1))
            | (go_at_call 154; go_must (refine (CC.out _ HG1.out).mono ?_; rintro e w2 ⟨rfl, hf2⟩; replace a4 := hf2.keep a4; replace a5 := hf2.keep a5; have HF2 := Lib.hid (HF0.out.trans (HG1.out.trans hf2)); clear hf2)))
          go_ret
          exact ⟨rfl, HF2.out⟩
        · rw [decide_eq_false h4]
          go_enter Tryz.func153, Tryz.ntmps153
          go_wp2_with (first
            | (go_at_call 114; go_must (refine C1.out.mono ?_; rintro e w1 ⟨rfl, hf1⟩; obtain ⟨a0, a1, a2, a3, a4, a5⟩ := HA.out w1 hf1; have HG1 := Lib.hid hf1; clear hf1))
            | (go_at_call 154; go_must (refine (CC.out _ HG1.out).mono ?_; rintro e w2 ⟨rfl, hf2⟩; replace a4 := hf2.keep a4; replace a5 := hf2.keep a5; have HF2 := Lib.hid (HF0.out.trans (HG1.out.trans hf2)); clear hf2)))
          go_ret
          exact ⟨by simp; omega, HF2.out⟩
end Go.Proofs.YtkphhjekfimmlaaGreat
namespace Go.Proofs.YtkphhjekfimmlaaGreat
open Go

theorem nameB_size {b : ByteArray} (h : nameB b = true) : 1 ≤ b.size ∧ b.size ≤ 32 := by
  unfold nameB at h
  simp only [Bool.and_eq_true, decide_eq_true_eq] at h
  exact h.1
theorem find_ixf {α : Type} {p : α → Bool} : ∀ {l : List α}, match l.find? p with
    | none => ixf p l = -1
    | some x => ∃ k : Nat, ixf p l = k ∧ l[k]? = some x ∧ p x = true
  | [] => rfl
  | a :: l => by
    have ih := find_ixf (p := p) (l := l)
    rw [List.find?_cons]
    cases hp : p a with
    | true => exact ⟨0, by unfold ixf; rw [hp]; rfl, rfl, hp⟩
    | false =>
      unfold ixf
      rw [hp]
      simp only [Bool.false_eq_true, if_false]
      cases hf : l.find? p with
      | none => rw [hf] at ih; simp only at ih ⊢; rw [ih]; rfl
      | some x =>
        rw [hf] at ih
        obtain ⟨k, h1, h2, h3⟩ := ih
        exact ⟨k + 1, by rw [h1, if_neg (by omega)]; omega, by simpa using h2, h3⟩
section
variable {s : SesD} {r : RolD}
theorem first_zero : ∀ {l : List RolD} {i : Nat}, firstE s i l = 0 → ∀ k a, l[k]? = some a → rolE s (i + k) a = 0
  | [], i, _, k, a, hk => by simp at hk
  | b :: l, i, h, k, a, hk => by
    unfold firstE at h
    by_cases e : rolE s i b = 0
    · rw [if_pos e] at h
      cases k with
      | zero => simp at hk; subst hk; exact e
      | succ k => have := first_zero h k a (by simpa using hk); rwa [show i + (k + 1) = i + 1 + k by omega]
    · rw [if_neg e] at h; exact absurd h e
theorem rolE_zero {i : Nat} (h : rolE s i r = 0) : ckRole r = 0 ∧ (i : Int) ≤ rolIx s r.name := by
  unfold rolE at h
  by_cases e : ckRole r = 0
  · rw [if_pos e] at h
    refine ⟨e, ?_⟩
    rcases Int.lt_or_le (rolIx s r.name) i with h1 | h1
    · rw [if_pos h1] at h; cases h
    · exact h1
  · rw [if_neg e] at h; exact absurd h e
theorem uniq_of {α : Type} {f : α → ByteArray} {l : List α} (h : ∀ (i : Nat) (a : α), l[i]? = some a → (i : Int) ≤ ixf (fun x => decide (f x = f a)) l) : ∀ (i j : Nat) (a b : α), l[i]? = some a → l[j]? = some b → f a = f b → i = j := by
  have key : ∀ (i j : Nat) (a b : α), l[i]? = some a → l[j]? = some b → f a = f b → ¬ i < j := by
    intro i j a b hi hj e hlt
    have h1 := h j b hj
    obtain ⟨k, hk, hkl⟩ := ixf_nat (show 0 ≤ ixf (fun x => decide (f x = f b)) l by omega)
    obtain ⟨x, -, -, h4⟩ := ixf_at hk
    have := h4 i a (by omega) hi
    rw [decide_eq_false_iff_not] at this
    exact this e
  intro i j a b hi hj e
  have h1 := key i j a b hi hj e
  have h2 := key j i b a hj hi e.symm
  omega
theorem ckRole_ok (h : ckRole r = 0) : nameB r.name = true ∧ r.ctrs.length ≤ 4 ∧ (∀ i c, r.ctrs[i]? = some c → ctrBad r i c = false) ∧ 1 ≤ r.sts.length ∧ r.sts.length ≤ 24 ∧ (∀ i c, r.sts[i]? = some c → stBad r i c = false) ∧
    r.steps.length ≤ 80 ∧ ∀ i t, r.steps[i]? = some t → stepB r i t = true := by
  unfold ckRole at h
  by_cases h1 : nameB r.name = false
  · rw [if_pos h1] at h; cases h
  rw [if_neg h1] at h
  by_cases h2 : 4 < r.ctrs.length ∨ anyIx (ctrBad r) 0 r.ctrs = true
  · rw [if_pos h2] at h; cases h
  rw [if_neg h2] at h
  by_cases h3 : r.sts.length < 1 ∨ 24 < r.sts.length ∨ anyIx (stBad r) 0 r.sts = true
  · rw [if_pos h3] at h; cases h
  rw [if_neg h3] at h
  by_cases h4 : 80 < r.steps.length ∨ anyIx (fun i s => !stepB r i s) 0 r.steps = true
  · rw [if_pos h4] at h; cases h
  simp only [not_or, Nat.not_lt, Bool.not_eq_true, Bool.not_eq_false] at h1 h2 h3 h4
  refine ⟨h1, h2.1, fun i c hc => ?_, h3.1, h3.2.1, fun i c hc => ?_, h4.1, fun i t ht => ?_⟩
  · have := anyIx_false.1 h2.2 i c hc; rwa [Nat.zero_add] at this
  · have := anyIx_false.1 h3.2.2 i c hc; rwa [Nat.zero_add] at this
  · have := anyIx_false.1 h4.2 i t ht; rw [Nat.zero_add] at this; simpa using this
theorem stp_ok {i : Nat} {t : StpD} (_ : ∀ c ∈ r.ctrs, 1 ≤ c.lim ∧ c.lim ≤ 1000) (hl : lostB s r = false) (ht : r.steps[i]? = some t) (h : stepB r i t = true) : StpOk s r t := by
  have hs := find_ixf (p := fun x : StD => decide (x.name = t.frm)) (l := r.sts)
  unfold stepB at h
  cases hf : r.sts.find? (fun x => decide (x.name = t.frm)) with
  | none => rw [hf] at h; cases h
  | some f =>
    rw [hf] at h hs
    obtain ⟨k, g1, -, -⟩ := hs
    simp only [Bool.and_eq_true, decide_eq_true_eq] at h
    obtain ⟨⟨⟨h1, h2⟩, h3⟩, -⟩ := h
    have hk : (t.kind = 1 ∨ t.kind = 2) ∧ nameB t.msg = true ∧ t.peer ≠ r.name ∨ t.kind = 3 ∨ t.kind = 4 := by
      unfold kindB at h3
      by_cases e : t.kind = 1 ∨ t.kind = 2
      · rw [if_pos e] at h3
        simp only [Bool.and_eq_true, Bool.not_eq_true', decide_eq_false_iff_not] at h3
        exact .inl ⟨e, h3.1.1, h3.2⟩
      · rw [if_neg e] at h3
        by_cases e3 : t.kind = 3
        · exact .inr (.inl e3)
        · rw [if_neg e3] at h3
          by_cases e4 : t.kind = 4
          · exact .inr (.inr e4)
          · rw [if_neg e4] at h3; cases h3
    refine ⟨by omega, by omega, by show 0 ≤ ixf _ _; omega, h1, fun h2 => ?_, fun h2 => ?_, fun hne => ?_⟩
    · rcases hk with ⟨-, h4, -⟩ | h4 | h4
      · exact nameB_size h4
      · omega
      · omega
    · rcases hk with ⟨h5, -, h4⟩ | h4 | h4
      · refine ⟨?_, h4⟩
        unfold lostB at hl
        rw [List.any_eq_false] at hl
        have := hl t (List.mem_of_getElem? ht)
        simp only [Bool.and_eq_true, decide_eq_true_eq, not_and, Int.not_lt] at this
        exact this (by unfold speaks; rcases h5 with h5 | h5 <;> simp [h5])
      · omega
      · omega
    · unfold guardB at h2
      rw [if_neg hne] at h2
      have hs := find_ixf (p := fun x : CtrD => decide (x.name = t.ctr)) (l := r.ctrs)
      cases hg : r.ctrs.find? (fun x => decide (x.name = t.ctr)) with
      | none => rw [hg] at h2; cases h2
      | some c =>
        rw [hg] at h2 hs
        obtain ⟨k, g1, g2, -⟩ := hs
        simp only [Bool.and_eq_true, decide_eq_true_eq] at h2
        exact ⟨k, c, g1, g2, by omega, by omega, by omega, by omega, by omega, by omega, by omega⟩
theorem ses_ok (h : ckSes s = 0) : SesOk s := by
  unfold ckSes at h
  by_cases h1 : nameB s.name = false
  · rw [if_pos h1] at h; cases h
  rw [if_neg h1] at h
  by_cases h2 : sesBad s = true
  · rw [if_pos h2] at h; cases h
  rw [if_neg h2] at h
  have h3 : firstE s 0 s.roles = 0 := by
    by_cases h3 : firstE s 0 s.roles = 0
    · exact h3
    · rw [if_neg h3] at h; exact h
  rw [if_pos h3] at h
  by_cases h4 : s.roles.any (lostB s) = true
  · rw [if_pos h4] at h; cases h
  simp only [Bool.not_eq_true, Bool.not_eq_false] at h1 h2 h4
  unfold sesBad at h2
  simp only [Bool.or_eq_false_iff, decide_eq_false_iff_not] at h2
  have hr : ∀ (i : Nat) (r : RolD), s.roles[i]? = some r → ckRole r = 0 ∧ (i : Int) ≤ rolIx s r.name := fun i r hi => by
    have := first_zero h3 i r hi
    rw [Nat.zero_add] at this
    exact rolE_zero this
  refine ⟨by omega, by omega, by omega, by omega, by omega, by omega, h1, fun r hm => ?_, uniq_of (f := RolD.name) fun i a hi => (hr i a hi).2⟩
  obtain ⟨i, hi⟩ := List.getElem?_of_mem hm
  obtain ⟨k1, k2, k3, k4, k5, k6, k7, k8⟩ := ckRole_ok (hr i r hi).1
  have hc : ∀ c ∈ r.ctrs, nameB c.name = true ∧ 1 ≤ c.lim ∧ c.lim ≤ 1000 := fun c hm => by
    obtain ⟨j, hj⟩ := List.getElem?_of_mem hm
    have := k3 j c hj
    unfold ctrBad at this
    simp only [Bool.or_eq_false_iff, decide_eq_false_iff_not, Bool.not_eq_false'] at this
    exact ⟨this.1.1.1, by omega, by omega⟩
  have hl : lostB s r = false := by
    rw [List.any_eq_false] at h4
    simpa using h4 r hm
  refine ⟨k1, k2, hc, uniq_of (f := CtrD.name) fun j c hj => ?_, k4, k5, uniq_of (f := StD.name) fun j c hj => ?_, k7, fun t ht => ?_⟩
  · have := k3 j c hj
    unfold ctrBad at this
    simp only [Bool.or_eq_false_iff, decide_eq_false_iff_not, Bool.not_eq_false'] at this
    have h5 := this.1.1.2
    unfold ctrIx at h5
    omega
  · have := k6 j c hj
    unfold stBad at this
    simp only [Bool.or_eq_false_iff, decide_eq_false_iff_not, Bool.not_eq_false'] at this
    have h5 := this.1.1.2
    unfold stIx at h5
    omega
  · obtain ⟨j, hj⟩ := List.getElem?_of_mem ht
    exact stp_ok (fun c hm => (hc c hm).2) hl hj (k8 j t hj)
end
end Go.Proofs.YtkphhjekfimmlaaGreat
