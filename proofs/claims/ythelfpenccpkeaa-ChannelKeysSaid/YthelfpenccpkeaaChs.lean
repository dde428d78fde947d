/- The channel's Choices; three channels side by side. -/
import Derived.Test.YthelfpenccpkeaaKey
import Derived.Test.YthelfpenccpkeaaIter
namespace Go.Proofs.Ythelfpenccpkeaa
open Go.RowKit Go.BigFrame

/-- what Choices hands back -/
def ChTo (w : World) (cb : Nat) (cls : Int) (L : List ByteArray) (v : Value) (w' : World) : Prop :=
  ∃ bl bc sv, v = .func (.func 27) #[] #[.pointer (some ⟨bl, 0, none⟩), .pointer (some ⟨bc, 0, none⟩)] ∧ ChR bl bc cb cls sv L w' ∧ Frm [] w w' ∧ w.heap.size ≤ bl ∧ w.heap.size ≤ bc ∧ ∀ k, sv.ownBlock = some k → w.heap.size ≤ k
theorem Chn.cell0 {w : World} {cb : Nat} {cls cap : Int} {L : List ByteArray} {F : List Nat} (h : Chn w cb cls cap L F) : w.cell? ⟨cb, 0, none⟩ = some (.int .i64 cls) := by
  obtain ⟨sv, e1, -, -, -⟩ := h; exact cell_of e1 0
set_option maxHeartbeats 1000000 in
theorem choose_any (cb : Nat) (cls cap : Int) (L : List ByteArray) (F : List Nat) (w : World) (h : Chn w cb cls cap L F) :
    Calls Try.prog 13 #[.pointer (some ⟨cb, 0, none⟩)] w (RetV (ChTo w cb cls L)) := by
  have HC := Lib.hid h
  have CA := Lib.hid (all_any (h.frm ((Frm.refl [] w).alloc (.cells #[.pointer (some ⟨cb, 0, none⟩)] 24)) (by simp)))
  have b0 : (w.alloc (.cells #[.pointer (some ⟨cb, 0, none⟩)] 24)).heap[w.heap.size]? = some (.cells #[.pointer (some ⟨cb, 0, none⟩)] 24 (0, 0)) := heap_alloc_new _ _
  have B0 := Lib.hid b0
  have c0 := cell_of b0 0
  clear h b0
  go_enter Try.func13, Try.ntmps13
  go_wp2_with (go_at_call 23; go_must (refine CA.out.mono ?_; rintro e w1 ⟨v, rfl, hr⟩; obtain ⟨ao, cp, rfl, -, -⟩ := hr.1.shape; have HR := Lib.hid hr; clear hr))
  go_ret
  have hf0 : Frm [] w w1 := ((Frm.refl [] w).alloc _).trans HR.out.2.1
  refine ⟨_, rfl, _, _, _, rfl, ⟨heap_alloc_new _ _, HR.out.1.frm ((Frm.refl [] _).alloc _) (by simp), ((Frm.refl [] w1).alloc _).at (HR.out.2.1.at B0.out (by simp)) (by simp), (hf0.alloc _).keep HC.out.cell0⟩, hf0.alloc _, ?_, Nat.le_refl _, fun k hk => ?_⟩
  · exact hf0.size
  · have := HR.out.2.2 k hk; simp at this; omega
/-- a channel's block, class, capacity, messages -/
structure Cn where
  b : Nat
  cls : Int
  cap : Int
  L : List ByteArray
/-- no block of a channel -/
def keepO : Obj → Bool | .cells _ t _ => t != 57 && t != 9 | _ => true
/-- three channels apart, and blocks that lie as they lay -/
structure K3 (w : World) (D : List (Nat × Obj)) (A B C : Cn) (W : World) : Prop where
  out : ∃ FA FB FC, Chn W A.b A.cls A.cap A.L FA ∧ Chn W B.b B.cls B.cap B.L FB ∧ Chn W C.b C.cls C.cap C.L FC ∧ Frm [] w W ∧
    (∀ x ∈ FA, w.heap.size ≤ x ∧ x ∉ FB ∧ x ∉ FC) ∧ (∀ x ∈ FB, w.heap.size ≤ x ∧ x ∉ FC) ∧ (∀ x ∈ FC, w.heap.size ≤ x) ∧ ∀ p ∈ D, W.heap[p.1]? = some p.2 ∧ keepO p.2 = true
section
variable {w W W' w1 w2 w3 : World} {D : List (Nat × Obj)} {A B C : Cn} {L' : List ByteArray}
theorem Chn.mark {cb d : Nat} {o : Obj} {cls cap : Int} {L : List ByteArray} {F : List Nat} (h : Chn W cb cls cap L F) (hd : W.heap[d]? = some o ∧ keepO o = true) : d ∉ F := by
  obtain ⟨sv, h1, h2, -, rfl⟩ := h
  obtain ⟨hd, ho⟩ := hd
  intro hx
  simp only [List.mem_cons, Option.mem_toList] at hx
  rcases hx with rfl | hx
  · rw [h1] at hd; cases hd; simp [keepO] at ho
  · obtain ⟨c, hc⟩ := ownBlock_type h2 hx
    rw [hc] at hd; cases hd; simp [keepO] at ho
theorem K3.rot (h : K3 w D A B C W) : K3 w D B C A W := by
  obtain ⟨FA, FB, FC, a, b, c, f, dA, dB, dC, m⟩ := h.out
  exact ⟨FB, FC, FA, b, c, a, f, fun x hx => ⟨(dB x hx).1, (dB x hx).2, fun hy => (dA x hy).2.1 hx⟩, fun x hx => ⟨dC x hx, fun hy => (dA x hy).2.2 hx⟩, fun x hx => (dA x hx).1, m⟩
theorem K3.frm (h : K3 w D A B C W) (hf : Frm [] W W') : K3 w D A B C W' := by
  obtain ⟨FA, FB, FC, a, b, c, f, dA, dB, dC, m⟩ := h.out
  exact ⟨FA, FB, FC, a.frm hf (by simp), b.frm hf (by simp), c.frm hf (by simp), f.trans hf, dA, dB, dC, fun d hd => ⟨hf.at (m d hd).1 (by simp), (m d hd).2⟩⟩
theorem K3.old (h : K3 w D A B C W) : Frm [] w W := by
  obtain ⟨FA, FB, FC, a, b, c, f, dA, dB, dC, m⟩ := h.out; exact f
theorem K3.keep (h : K3 w [] A B C W) (hD : ∀ p ∈ D, W.heap[p.1]? = some p.2 ∧ keepO p.2 = true) : K3 w D A B C W := by
  obtain ⟨FA, FB, FC, a, b, c, f, dA, dB, dC, m⟩ := h.out
  exact ⟨FA, FB, FC, a, b, c, f, dA, dB, dC, hD⟩
theorem K3.kept (h : K3 w D A B C W) {p : Nat × Obj} (hp : p ∈ D) : W.heap[p.1]? = some p.2 := by
  obtain ⟨FA, FB, FC, a, b, c, f, dA, dB, dC, m⟩ := h.out; exact (m p hp).1
theorem K3.cell0 (h : K3 w D A B C W) : W.cell? ⟨A.b, 0, none⟩ = some (.int .i64 A.cls) := by
  obtain ⟨FA, FB, FC, a, b, c, f, dA, dB, dC, m⟩ := h.out; exact a.cell0
theorem K3.step (h : K3 w D A B C W) (t : ∀ F, Chn W A.b A.cls A.cap A.L F → ChnTo W A.b A.cls A.cap L' F W') : K3 w D { A with L := L' } B C W' := by
  obtain ⟨FA, FB, FC, a, b, c, f, dA, dB, dC, m⟩ := h.out
  obtain ⟨F', k1, k2, k3⟩ := t FA a
  have hs := f.size
  refine ⟨F', FB, FC, k1, b.frm k2 (fun x hx hy => (dA x hy).2.1 hx), c.frm k2 (fun x hx hy => (dA x hy).2.2 hx), f.then k2 (fun x hx => .inr (dA x hx).1), fun x hx => ?_, dB, dC, fun d hd => ⟨k2.at (m d hd).1 (a.mark (m d hd)), (m d hd).2⟩⟩
  rcases k3 x hx with h1 | h1
  · exact dA x h1
  · exact ⟨by omega, fun hy => by have := b.lt x hy; omega, fun hy => by have := c.lt x hy; omega⟩
theorem K3.calls {f : Nat} {args : Array Value} {v : Value} (h : K3 w D A B C W) (t : ∀ F, Chn W A.b A.cls A.cap A.L F → Calls Try.prog f args W (Ret v (ChnTo W A.b A.cls A.cap L' F))) :
    Calls Try.prog f args W (Ret v (K3 w D { A with L := L' } B C)) := by
  obtain ⟨FA, FB, FC, a, b, c, f, dA, dB, dC, m⟩ := h.out
  refine (t FA a).mono fun e W' ⟨he, k1⟩ => ⟨he, ?_⟩
  obtain ⟨F', k1, k2, k3⟩ := k1
  have hs := f.size
  refine ⟨F', FB, FC, k1, b.frm k2 (fun x hx hy => (dA x hy).2.1 hx), c.frm k2 (fun x hx hy => (dA x hy).2.2 hx), f.then k2 (fun x hx => .inr (dA x hx).1), fun x hx => ?_, dB, dC, fun d hd => ⟨k2.at (m d hd).1 (a.mark (m d hd)), (m d hd).2⟩⟩
  rcases k3 x hx with h1 | h1
  · exact dA x h1
  · exact ⟨by omega, fun hy => by have := b.lt x hy; omega, fun hy => by have := c.lt x hy; omega⟩
theorem K3.put (m : ByteArray) (h : K3 w D A B C W) : Calls Try.prog 11 #[.pointer (some ⟨A.b, 0, none⟩), .string m] W (Ret (.int .i64 (putE A.cap A.L m)) (K3 w D { A with L := putL A.cap A.L m } B C)) :=
  h.calls fun F hF => put_all A.b A.cls A.cap A.L F m W hF
theorem K3.take (p : Int) (h : K3 w D A B C W) : Calls Try.prog 18 #[.pointer (some ⟨A.b, 0, none⟩), .int .i64 p] W (Ret (.tuple #[.string (takeM A.cls A.L p), .int .i64 (takeE A.cls A.L p)]) (K3 w D { A with L := takeL A.cls A.L p } B C)) :=
  h.calls fun F hF => take_any A.b A.cls A.cap A.L F p W hF
theorem K3.lose (h : K3 w D A B C W) : Calls Try.prog 17 #[.pointer (some ⟨A.b, 0, none⟩)] W (Ret (.tuple #[.string (loseM A.cls A.L), .int .i64 (loseE A.cls A.L)]) (K3 w D { A with L := loseL A.cls A.L } B C)) :=
  h.calls fun F hF => lose_any A.b A.cls A.cap A.L F W hF
theorem K3.key (h : K3 w D A B C W) : Calls Try.prog 12 #[.pointer (some ⟨A.b, 0, none⟩)] W (Ret (.string (keyB (keyL A.cls A.L))) (K3 w D A B C)) := by
  obtain ⟨FA, FB, FC, a, b, c, f, dA, dB, dC, m⟩ := h.out
  exact (key_any A.b A.cls A.cap A.L FA W a).mono fun e W' ⟨he, hf⟩ => ⟨he, h.frm hf⟩
theorem K3.choose (h : K3 w D A B C W) : Calls Try.prog 13 #[.pointer (some ⟨A.b, 0, none⟩)] W (RetV fun v W' => ChTo W A.b A.cls A.L v W' ∧ K3 w D A B C W') := by
  obtain ⟨FA, FB, FC, a, b, c, f, dA, dB, dC, m⟩ := h.out
  refine (choose_any A.b A.cls A.cap A.L FA W a).mono fun e W' ⟨v, he, hc⟩ => ⟨v, he, hc, ?_⟩
  obtain ⟨bl, bc, sv, _, _, hf, _⟩ := hc
  exact h.frm hf
theorem K3.mk3 {A B C : Cn} (hA : A.L = []) (hB : B.L = []) (hC : C.L = []) (bA : A.b = w.heap.size) (bB : B.b = w1.heap.size) (bC : C.b = w2.heap.size)
    (h1 : Frm [] w w1 ∧ Chn w1 w.heap.size A.cls A.cap [] [w.heap.size]) (h2 : Frm [] w1 w2 ∧ Chn w2 w1.heap.size B.cls B.cap [] [w1.heap.size]) (h3 : Frm [] w2 w3 ∧ Chn w3 w2.heap.size C.cls C.cap [] [w2.heap.size]) : K3 w [] A B C w3 := by
  have l1 := h1.2.lt w.heap.size (by simp)
  have l2 := h2.2.lt w1.heap.size (by simp)
  have s1 := h1.1.size
  have s2 := h2.1.size
  refine ⟨[w.heap.size], [w1.heap.size], [w2.heap.size], ?_, ?_, ?_, (h1.1.trans h2.1).trans h3.1, ?_, ?_, ?_, fun p hp => by cases hp⟩
  · rw [hA, bA]; exact (h1.2.frm h2.1 (by simp)).frm h3.1 (by simp)
  · rw [hB, bB]; exact h2.2.frm h3.1 (by simp)
  · rw [hC, bC]; exact h3.2
  · intro x hx; simp at hx ⊢; omega
  · intro x hx; simp at hx ⊢; omega
  · intro x hx; simp at hx ⊢; omega
end
end Go.Proofs.Ythelfpenccpkeaa
