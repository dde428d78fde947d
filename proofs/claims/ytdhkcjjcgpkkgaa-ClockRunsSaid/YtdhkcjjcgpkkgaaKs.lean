/- A clock that a law holds, with lists beside it: what each call leaves. -/
import Derived.Test.YtdhkcjjcgpkkgaaDo
namespace Go.Proofs.Ytdhkcjjcgpkkgaa
open Go.RowKit Go.Maps Go.BigFrame

/-- the clock at cb, made after w, and the lists L -/
def KS (w : World) (cb : Nat) (now : Int) (D : DMap) (N : Nat) (L : List (Value × List Int)) (wi : World) : Prop :=
  ∃ F, Clk wi cb now D N F ∧ Frm [] w wi ∧ (∀ x ∈ F, w.heap.size ≤ x) ∧ ∀ p ∈ L, Ints wi p.1 p.2 ∧ ∀ k, p.1.ownBlock = some k → k ∉ F
section
variable {w wi w2 : World} {cb : Nat} {now now' : Int} {D D' : DMap} {N N' : Nat} {L : List (Value × List Int)} {F : List Nat}
theorem KS.step (_ : Clk wi cb now D N F) (h1 : Frm [] w wi) (h2 : ∀ x ∈ F, w.heap.size ≤ x) (h3 : ∀ p ∈ L, Ints wi p.1 p.2 ∧ ∀ k, p.1.ownBlock = some k → k ∉ F) (h : ClkTo wi cb now' D' N' F w2) : KS w cb now' D' N' L w2 := by
  obtain ⟨F2, k1, k2, k3⟩ := h
  have hs := h1.size
  refine ⟨F2, k1, h1.then k2 (fun x hx => .inr (h2 x hx)), fun x hx => ?_, fun p hp => ⟨(h3 p hp).1.frm k2 (h3 p hp).2, fun k hk hx => ?_⟩⟩
  · rcases k3 x hx with h | h
    · exact h2 x h
    · omega
  · rcases k3 k hx with h | h
    · exact (h3 p hp).2 k hk h
    · have := ownBlock_lt (h3 p hp).1 hk; omega
theorem KS.frm (h : KS w cb now D N L wi) (hf : Frm [] wi w2) : KS w cb now D N L w2 := by
  obtain ⟨F, h1, h2, h3, h4⟩ := h
  exact ⟨F, h1.frm hf (by simp), h2.trans hf, h3, fun p hp => ⟨(h4 p hp).1.frm hf (by simp), (h4 p hp).2⟩⟩
theorem KS.ints (h : KS w cb now D N L wi) {p : Value × List Int} (hp : p ∈ L) : Ints wi p.1 p.2 := by
  obtain ⟨F, h1, h2, h3, h4⟩ := h
  exact (h4 p hp).1
theorem KS.to (h : KS w cb now D N L wi) : Frm [] w wi := by
  obtain ⟨F, h1, h2, h3, h4⟩ := h
  exact h2
theorem KS.good (h : KS w cb now D N L wi) : Good now D := by
  obtain ⟨F, h1, h2, h3, h4⟩ := h
  exact h1.good
theorem KS.zero : KS w w.heap.size 0 D0 0 [] (w.alloc (.cells #[.int .i64 0, .map none, .slice none 0 0] 27)) :=
  ⟨[w.heap.size], Clk.zero (heap_alloc_new _ _), (Frm.refl _ _).alloc _, by simp, by simp⟩
theorem KS.add (h : KS w cb now D N L wi) {v : Value} {l : List Int} (hv : Ints wi v l) (ho : ∀ F, Clk wi cb now D N F → Frm [] w wi → ∀ k, v.ownBlock = some k → k ∉ F) : KS w cb now D N ((v, l) :: L) wi := by
  obtain ⟨F, h1, h2, h3, h4⟩ := h
  refine ⟨F, h1, h2, h3, fun p hp => ?_⟩
  rcases List.mem_cons.1 hp with rfl | hp
  · exact ⟨hv, ho F h1 h2⟩
  · exact h4 p hp
theorem ks_start (t k : Int) (h : KS w cb now D N L wi) (hN : N ≤ 1000000) : Calls Try.prog 12 #[.pointer (some ⟨cb, 0, none⟩), .int .i64 t, .int .i64 k] wi (Ret (.int .i64 (startE now t k)) (KS w cb now (startD now D t k) (N + 1) L)) := by
  obtain ⟨F, h1, h2, h3, h4⟩ := h
  exact (start_any cb now D N F t k wi h1 hN).mono fun e w' ⟨he, hr⟩ => ⟨he, KS.step h1 h2 h3 h4 hr⟩
theorem ks_stop (t : Int) (h : KS w cb now D N L wi) : Calls Try.prog 18 #[.pointer (some ⟨cb, 0, none⟩), .int .i64 t] wi (Ret (.int .i64 (leftE D t)) (KS w cb now (stopD D t) N L)) := by
  obtain ⟨F, h1, h2, h3, h4⟩ := h
  exact (stop_any cb now D N F t wi h1).mono fun e w' ⟨he, hr⟩ => ⟨he, KS.step h1 h2 h3 h4 hr⟩
theorem ks_next (h : KS w cb now D N L wi) (hN : N ≤ 1000000) : Calls Try.prog 21 #[.pointer (some ⟨cb, 0, none⟩)] wi (Ret (.tuple #[.int .i64 (firstX D).2, .int .i64 (firstX D).1, .int .i64 (if (firstOf D).isSome then 0 else 9)]) (KS w cb now D N L)) := by
  obtain ⟨F, h1, h2, h3, h4⟩ := h
  exact (next_any cb now D N F wi h1 hN).mono fun e w' ⟨he, hr⟩ => ⟨he, KS.step h1 h2 h3 h4 hr⟩
theorem ks_left (t : Int) (h : KS w cb now D N L wi) : Calls Try.prog 20 #[.pointer (some ⟨cb, 0, none⟩), .int .i64 t] wi (Ret (.tuple #[.int .i64 (leftV now D t), .int .i64 (leftE D t)]) (KS w cb now D N L)) := by
  obtain ⟨F, h1, h2, h3, h4⟩ := h
  exact (left_any cb now D N F t wi h1).mono fun e w' ⟨he, hr⟩ => ⟨he, hr ▸ ⟨F, h1, h2, h3, h4⟩⟩
theorem ks_now (h : KS w cb now D N L wi) : Calls Try.prog 22 #[.pointer (some ⟨cb, 0, none⟩)] wi (Ret (.int .i64 now) (KS w cb now D N L)) := by
  obtain ⟨F, h1, h2, h3, h4⟩ := h
  exact (now_any cb now D N F wi h1).mono fun e w' ⟨he, hr⟩ => ⟨he, hr ▸ ⟨F, h1, h2, h3, h4⟩⟩
theorem ks_adv (t : Int) (h : KS w cb now D N L wi) (hN : N ≤ 1000000) (ht : t ≤ maxT) : Calls Try.prog 14 #[.pointer (some ⟨cb, 0, none⟩), .int .i64 t] wi
    (RetV fun r w' => ∃ v, r = .tuple #[v, .int .i64 0] ∧ KS w cb (advNow now t) (fire 257 D (advNow now t)).2 N ((v, (fire 257 D (advNow now t)).1) :: L) w') := by
  obtain ⟨F, h1, h2, h3, h4⟩ := h
  refine (advance_any cb now D N F t wi h1 hN ht).mono ?_
  rintro e w' ⟨r, he, v, hr, F1, out, k1, k2, k3, rfl, k5, k6⟩
  refine ⟨r, he, v, hr, ?_⟩
  obtain ⟨F2, a1, a2, a3, a4⟩ := KS.step (w := w) (L := L) h1 h2 h3 h4 ⟨F1, k1, k2, k3⟩
  have hs := h2.size
  refine ⟨F1, k1, h2.then k2 (fun x hx => .inr (h3 x hx)), fun x hx => ?_, fun p hp => ?_⟩
  · rcases k3 x hx with h | h
    · exact h3 x h
    · omega
  · rcases List.mem_cons.1 hp with rfl | hp
    · exact ⟨Ints.of_own k5, k6⟩
    · refine ⟨(a4 p hp).1, fun k hk hx => ?_⟩
      rcases k3 k hx with h | h
      · exact (h4 p hp).2 k hk h
      · have := ownBlock_lt (h4 p hp).1 hk; omega
end
end Go.Proofs.Ytdhkcjjcgpkkgaa
