/- ClockSteps: what its walk carries. -/
import Derived.Test.YtdhkcjjcgpkkgaaFire
import Derived.Test.YtdhkcjjcgpkkgaaCopy
import Derived.Test.YtdhkcjjcgpkkgaaKnown
import Derived.Test.YtdhkcjjcgpkkgaaActs
import Derived.IntWalk
namespace Go.Proofs.Ytdhkcjjcgpkkgaa
open Go.RowKit Go.Maps Go.BigFrame

/-- an argument of type []int | []uint8 -/
def NumsAt (w : World) (k : IntKind) (ao : Option Addr) (n : Nat) : Prop := ∀ j, j < n → ∃ (b o : Nat) (x : Int), ao = some ⟨b, o, none⟩ ∧ w.cell? ⟨b, o + j, none⟩ = some (.int k x) ∧ (Lit.int k x).wf = true
theorem NumsAt.frm {w w' : World} {k : IntKind} {ao : Option Addr} {n : Nat} (h : NumsAt w k ao n) (hf : Frm [] w w') : NumsAt w' k ao n := fun j hj => by
  obtain ⟨b, o, x, h0, h1, h2⟩ := h j hj
  exact ⟨b, o, x, h0, hf.keep h1, h2⟩
theorem u8_bd {x : Int} (h : (Lit.int .u8 x).wf = true) : 0 ≤ x ∧ x ≤ 255 := by
  simp [Lit.wf, IntKind.min, IntKind.max, IntKind.signed, IntKind.bits] at h; omega
theorem i64_bd {x : Int} (h : (Lit.int .i64 x).wf = true) : -9223372036854775808 ≤ x ∧ x ≤ 9223372036854775807 := by
  simp [Lit.wf, IntKind.min, IntKind.max, IntKind.signed, IntKind.bits] at h; omega
/-- behind i rounds of the first loop -/
def SA (w : World) (cb ub i : Nat) (wr : World) : Prop :=
  ∃ D F, Clk wr cb 0 D i F ∧ wr.heap[ub]? = some (.cells (dueA D) 28 (0, 0)) ∧ Frm [] w wr ∧ (∀ x ∈ F, w.heap.size ≤ x) ∧ ub ∉ F ∧ w.heap.size ≤ ub ∧ ∀ t d, D t = some d → d ≤ 1000
theorem SA.start (w : World) : SA w w.heap.size (w.heap.size + 1) 0 ((w.alloc (.cells #[.int .i64 0, .map none, .slice none 0 0] 27)).alloc (.cells Z28 28)) := by
  have h1 : Frm [] (w.alloc (.cells #[.int .i64 0, .map none, .slice none 0 0] 27)) ((w.alloc (.cells #[.int .i64 0, .map none, .slice none 0 0] 27)).alloc (.cells Z28 28)) := (Frm.refl _ _).alloc _
  refine ⟨D0, [w.heap.size], (Clk.zero (heap_alloc_new w _)).frm h1 (by simp), ?_, ((Frm.refl [] w).alloc _).trans h1, by simp, by simp, by omega, fun t d h => by cases h⟩
  have := heap_alloc_new (w.alloc (.cells #[.int .i64 0, .map none, .slice none 0 0] 27)) (.cells Z28 28)
  rw [World.size_alloc] at this
  rw [this, Z28_due]
theorem startE_ok {x k : Int} (h0 : 0 ≤ x) (h1 : x ≤ 255) (k0 : 0 ≤ k) (k1 : k ≤ 1000) : startE 0 x k = 0 := by
  have : okN x = true := by simp [okN]; omega
  simp [startE, this, maxT]; omega
theorem ClkTo.drewBack {w w' : World} {cb : Nat} {now : Int} {D : DMap} {N : Nat} {F : List Nat} (h : ClkTo w.drew cb now D N F w') : ClkTo w cb now D N F w' := by
  obtain ⟨F', h1, h2, h3⟩ := h
  exact ⟨F', h1, h2.drewBack, h3⟩
theorem ClkTo.old {w wr w' : World} {cb : Nat} {now : Int} {D : DMap} {N : Nat} {F : List Nat} (h : ClkTo wr cb now D N F w') (h0 : Frm [] w wr) (hF : ∀ x ∈ F, w.heap.size ≤ x) : Frm [] w w' := by
  obtain ⟨F', h1, h2, h3⟩ := h
  exact h0.then h2 (fun x hx => .inr (hF x hx))
theorem SA.next {w wr w5 w6 : World} {cb ub i : Nat} {D : DMap} {F : List Nat} {x k : Int} (h1 : wr.heap[ub]? = some (.cells (dueA D) 28 (0, 0))) (h2 : Frm [] w wr) (h3 : ∀ x ∈ F, w.heap.size ≤ x) (h4 : ub ∉ F) (h5 : w.heap.size ≤ ub) (h6 : ∀ t d, D t = some d → d ≤ 1000)
    (h0 : 0 ≤ x) (hx : x ≤ 255) (k0 : 0 ≤ k) (k1 : k ≤ 1000) (hc : ClkTo wr cb 0 (startD 0 D x k) (i + 1) F w5) (hf : Frm [ub] w5 w6) (hb : w6.heap[ub]? = some (.cells ((dueA D).setIfInBounds x.toNat (.int .i64 (k + 1))) 28 (0, 0))) : SA w cb ub (i + 1) w6 := by
  obtain ⟨F', c1, c2, c3⟩ := hc
  have hlt := lt_of_block h1
  have hs := h2.size
  have hn : ub ∉ F' := fun hx => by
    rcases c3 _ hx with h | h
    · exact h4 h
    · omega
  have hD : startD 0 D x k = upd D x (some k) := by simp [startD, startE_ok h0 hx k0 k1]
  obtain ⟨t, rfl⟩ : ∃ t : Nat, x = t := ⟨x.toNat, by omega⟩
  rw [hD] at c1
  refine ⟨_, F', c1.frm hf (fun y hy hz => hn (by simp at hz; exact hz ▸ hy)), ?_, (h2.then c2 (fun y hy => .inr (h3 y hy))).then hf (by intro y hy; simp at hy; right; omega), fun y hy => ?_, hn, h5, fun t' d hd => ?_⟩
  · rw [hb, Int.toNat_natCast]
    have := dueA_set D t (some k) (by omega)
    rw [Option.getD_some] at this
    rw [this]
  · rcases c3 y hy with h | h
    · exact h3 y h
    · omega
  · by_cases e : t' = t
    · subst e; rw [upd_same] at hd; cases hd; exact k1
    · rw [upd_other _ _ e] at hd; exact h6 _ _ hd
end Go.Proofs.Ytdhkcjjcgpkkgaa
