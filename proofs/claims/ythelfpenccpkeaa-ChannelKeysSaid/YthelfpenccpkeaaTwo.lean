/- A channel and a list beside it. -/
import Derived.Test.YthelfpenccpkeaaTake
import Derived.Test.YthelfpenccpkeaaChs
namespace Go.Proofs.Ythelfpenccpkeaa
open Go.RowKit Go.BigFrame

/-- the list of what is left: its own, or one whose next element goes elsewhere -/
def Lf (w : World) (lv : Value) (L : List ByteArray) : Prop :=
  Strs w lv L ∨ ∃ g cur, lv = .slice (some ⟨g, 0, none⟩) L.length L.length ∧ w.heap[g]? = some (.cells cur 9 (0, 0)) ∧ cur.toList.take L.length = L.map Value.string
theorem Lf.shape {w : World} {lv : Value} {L : List ByteArray} (h : Lf w lv L) : ∃ ao cap, lv = .slice ao L.length cap ∧ (∀ k x, L[k]? = some x → ∃ g, ao = some ⟨g, 0, none⟩ ∧ w.cell? ⟨g, k, none⟩ = some (.string x)) := by
  rcases h with h | ⟨g, cur, rfl, hb, ht⟩
  · obtain ⟨ao, cap, h1, -, h2⟩ := h.shape
    exact ⟨ao, cap, h1, h2⟩
  · refine ⟨_, _, rfl, fun k x hk => ⟨g, rfl, ?_⟩⟩
    have hl := lt_of_some hk
    rw [cell_of hb]
    have h1 : (cur.toList.take L.length)[k]? = some (.string x) := by rw [ht]; simp [hk]
    rw [List.getElem?_take_of_lt hl] at h1
    simpa using h1
theorem Lf.room {w : World} {ao : Option Addr} {L : List ByteArray} {cap : Nat} (h : Lf w (.slice ao L.length cap) L) : L.length ≤ cap := by
  rcases h with h | ⟨g, cur, hv, hb, ht⟩
  · rcases h.2 with ⟨hv, hn⟩ | ⟨g, c, cur, hv, -, -, h1, -⟩
    · omega
    · cases hv; exact h1
  · cases hv; exact Nat.le_refl _
theorem Lf.frm {F : List Nat} {w w' : World} {lv : Value} {L : List ByteArray} (h : Lf w lv L) (hf : Frm F w w') (hn : ∀ k, lv.ownBlock = some k → k ∉ F) : Lf w' lv L := by
  rcases h with h | ⟨g, cur, rfl, hb, ht⟩
  · exact .inl (h.frm hf hn)
  · exact .inr ⟨g, cur, rfl, hf.at hb (hn g rfl), ht⟩
theorem Lf.lt {w : World} {lv : Value} {L : List ByteArray} (h : Lf w lv L) {k : Nat} (hk : lv.ownBlock = some k) : k < w.heap.size := by
  rcases h with h | ⟨g, cur, rfl, hb, ht⟩
  · exact ownBlock_lt h hk
  · cases hk; exact lt_of_block hb
/-- a channel with the messages LC, and a list LL beside it -/
structure OS (w : World) (cb : Nat) (cls cap : Int) (lv : Value) (LC LL : List ByteArray) (F : List Nat) (W : World) : Prop where
  c : Chn W cb cls cap LC F
  l : Lf W lv LL
  s : ∀ k, lv.ownBlock = some k → k ∉ F ∧ w.heap.size ≤ k
  f : ∀ x ∈ F, w.heap.size ≤ x
  o : Frm [] w W
section
variable {w W W' : World} {cb : Nat} {cls cap : Int} {lv lv' : Value} {LC LL L' : List ByteArray} {F : List Nat}
theorem OS.frm (h : OS w cb cls cap lv LC LL F W) (hf : Frm [] W W') : OS w cb cls cap lv LC LL F W' := ⟨h.c.frm hf (by simp), h.l.frm hf (by simp), h.s, h.f, h.o.trans hf⟩
theorem OS.chn (h : OS w cb cls cap lv LC LL F W) (t : ChnTo W cb cls cap L' F W') : ∃ F', OS w cb cls cap lv L' LL F' W' := by
  obtain ⟨F', k1, k2, k3⟩ := t
  refine ⟨F', k1, h.l.frm k2 (fun k hk => (h.s k hk).1), fun k hk => ⟨fun hx => ?_, (h.s k hk).2⟩, fun x hx => ?_, h.o.then k2 (fun x hx => .inr (h.f x hx))⟩
  · rcases k3 k hx with h1 | h1
    · exact (h.s k hk).1 h1
    · have := h.l.lt hk; omega
  · rcases k3 x hx with h1 | h1
    · exact h.f x h1
    · have := h.o.size; omega
theorem OS.left (h : OS w cb cls cap lv LC LL F W) (hf : Frm lv.ownBlock.toList W W') (hl : Lf W' lv' L') (hb : ∀ k, lv'.ownBlock = some k → lv.ownBlock = some k ∨ W.heap.size ≤ k) : OS w cb cls cap lv' LC L' F W' := by
  refine ⟨h.c.frm hf (fun x hx hy => (h.s x (by simpa using hy)).1 hx), hl, fun k hk => ?_, h.f, h.o.then hf (fun x hx => .inr (h.s x (by simpa using hx)).2)⟩
  rcases hb k hk with h1 | h1
  · exact h.s k h1
  · exact ⟨fun hx => by have := h.c.lt k hx; omega, by have := h.o.size; omega⟩
end
end Go.Proofs.Ythelfpenccpkeaa
