/- ChannelKeys: two channels side by side; a list of strings that came in; many marks at the end. -/
import Derived.Test.YthelfpenccpkeaaKeysL
import Derived.Test.YthelfpenccpkeaaOwn
import Derived.Deep.RegionHeld3
namespace Go.Proofs.Ythelfpenccpkeaa
open Go.ChangeShapes Go.WideShapes Go.ChangeAt Go.RowKit Go.Deep Go.BigFrame

/-- strings at an address -/
def Txts (w : World) (ao : Option Addr) (ms : List ByteArray) : Prop := ∀ (k : Nat) (x : ByteArray), ms[k]? = some x → ∃ b o, ao = some ⟨b, o, none⟩ ∧ w.cell? ⟨b, o + k, none⟩ = some (.string x)
theorem Txts.frm {w w' : World} {ao : Option Addr} {ms : List ByteArray} (h : Txts w ao ms) (hf : Frm [] w w') : Txts w' ao ms := fun k x hk => by
  obtain ⟨b, o, h1, h2⟩ := h k x hk
  exact ⟨b, o, h1, hf.keep h2⟩
theorem Try.cells9' : Try.prog.cellsOf 9 = 1 := by kernel_rfl
theorem list_of {n : Nat} {Q : Nat → ByteArray → Prop} (h : ∀ k, k < n → ∃ x, Q k x) : ∃ ms : List ByteArray, ms.length = n ∧ ∀ (k : Nat) (x : ByteArray), ms[k]? = some x → Q k x := by
  induction n with
  | zero => exact ⟨[], rfl, fun k x h => by simp at h⟩
  | succ n ih =>
    obtain ⟨ms, h1, h2⟩ := ih (fun k hk => h k (by omega))
    obtain ⟨x, hx⟩ := h n (by omega)
    refine ⟨ms ++ [x], by simp [h1], fun k y hk => ?_⟩
    by_cases e : k < n
    · rw [List.getElem?_append_left (by omega)] at hk
      exact h2 k y hk
    · have hl := (List.getElem?_eq_some_iff.1 hk).1
      rw [List.length_append, List.length_cons, List.length_nil] at hl
      have e2 : k = n := by omega
      subst e2
      rw [List.getElem?_append_right (by omega), h1] at hk
      simp at hk
      subst hk; exact hx
set_option maxRecDepth 100000 in
theorem open_txts {H : Type} {enc : TypeId × Value → H} {W : World} {base : Nat} {v : Value} {d : DataW H} {p : List MemPlace} (hv : Value.okWide Try.prog W .any base 22 v) (h : DataW.Trod enc Try.prog W 0 (fun _ => true) true 22 v d p) :
    ∃ ao ms cap, v = .slice ao ms.length cap ∧ Txts W ao ms := by
  obtain ⟨a0, len, cap, rfl⟩ := okWide_slice Try.underlying22 hv
  obtain ⟨fuel, hf⟩ := h
  have key : ∀ j, j < len → ∃ x, ∃ b o, a0 = some ⟨b, o, none⟩ ∧ W.cell? ⟨b, o + j, none⟩ = some (.string x) := by
    intro j hj
    rcases open_slice1 Try.underlying22 Try.cells9' hf with ⟨hcs, _⟩ | ⟨a, len', cap', m, n, V, D, Pl, hcs, _, hl, _, hm, _, hx⟩
    · simp [Value.cells] at hcs
      omega
    · simp [Value.cells] at hcs
      obtain ⟨rfl, rfl, rfl⟩ := hcs
      simp only [if_true] at hm
      subst hm
      obtain ⟨h1, h2⟩ := hx j (by omega)
      obtain ⟨x, e0, _⟩ := DataW.trod_string Try.underlying9 h2
      simp only [List.cons.injEq, and_true] at e0
      obtain ⟨b, o, spot⟩ := a
      have hspot : spot = none := World.cell?_spot (w := W) (a := ⟨b, o, spot⟩) (by simpa [Addr.add] using (hx 0 (by omega)).1)
      subst hspot
      rw [add_plain, e0] at h1
      exact ⟨x, b, o, rfl, h1⟩
  obtain ⟨ms, h1, h2⟩ := list_of key
  exact ⟨a0, ms, cap, by rw [h1], h2⟩
/-- two channels side by side -/
structure KP (w : World) (ab bb : Nat) (cls cap : Int) (LA LB : List ByteArray) (FA FB : List Nat) (W : World) : Prop where
  a : Chn W ab cls cap LA FA
  b : Chn W bb cls cap LB FB
  d : ∀ x ∈ FA, x ∉ FB
  fa : ∀ x ∈ FA, w.heap.size ≤ x
  fb : ∀ x ∈ FB, w.heap.size ≤ x
  o : Frm [] w W
section
variable {w W W' : World} {ab bb : Nat} {cls cap : Int} {LA LB L' : List ByteArray} {FA FB : List Nat}
theorem KP.frm (h : KP w ab bb cls cap LA LB FA FB W) (hf : Frm [] W W') : KP w ab bb cls cap LA LB FA FB W' := ⟨h.a.frm hf (by simp), h.b.frm hf (by simp), h.d, h.fa, h.fb, h.o.trans hf⟩
theorem KP.sw (h : KP w ab bb cls cap LA LB FA FB W) : KP w bb ab cls cap LB LA FB FA W := ⟨h.b, h.a, fun x hx hy => h.d x hy hx, h.fb, h.fa, h.o⟩
theorem KP.sa (h : KP w ab bb cls cap LA LB FA FB W) (t : ChnTo W ab cls cap L' FA W') : ∃ F', KP w ab bb cls cap L' LB F' FB W' := by
  obtain ⟨F', k1, k2, k3⟩ := t
  have hs := h.o.size
  refine ⟨F', k1, h.b.frm k2 (fun x hx hy => h.d x hy hx), fun x hx hy => ?_, fun x hx => ?_, h.fb, h.o.then k2 (fun x hx => .inr (h.fa x hx))⟩
  · rcases k3 x hx with h1 | h1
    · exact h.d x h1 hy
    · have := h.b.lt x hy; omega
  · rcases k3 x hx with h1 | h1
    · exact h.fa x h1
    · omega
theorem KP.sb (h : KP w ab bb cls cap LA LB FA FB W) (t : ChnTo W bb cls cap L' FB W') : ∃ F', KP w ab bb cls cap LA L' FA F' W' := by
  obtain ⟨F', h'⟩ := h.sw.sa t
  exact ⟨F', h'.sw⟩
theorem KP.mk0 {w w1 w2 : World} (h1 : Frm [] w w1 ∧ Chn w1 w.heap.size cls cap [] [w.heap.size]) (h2 : Frm [] w1 w2 ∧ Chn w2 w1.heap.size cls cap [] [w1.heap.size]) : KP w w.heap.size w1.heap.size cls cap [] [] [w.heap.size] [w1.heap.size] w2 := by
  have hlt := h1.2.lt w.heap.size (by simp)
  exact ⟨h1.2.frm h2.1 (by simp), h2.2, by simp; omega, by simp, by simp; omega, h1.1.trans h2.1⟩
end
/-- the marks that a function's ranges left -/
def marks (ds : List Nat) : List Deferred := ds.map fun D => { target := .collected D, args := #[] }
def unmark (ds : List Nat) (w : World) : World := ds.foldl (fun w D => w.putObj D (.deferred none)) w
theorem unmark_frm : ∀ (ds : List Nat) (w : World), Frm ds w (unmark ds w)
  | [], w => Frm.refl _ _
  | D :: ds, w => ((Frm.putObj w D _).mono (by intro x hx; simp at hx; subst hx; exact .inl (by simp))).then (unmark_frm ds _) (fun x hx => .inl (by simp [hx]))
theorem leaves_many {fn : Func} {tmps : Array Value} {R : Ending → World → Prop} : ∀ (ds : List Nat) (w : World), ds.Nodup → (∀ D ∈ ds, w.heap[D]? = some (.deferred (some []))) →
    (∃ v, (results fn tmps).run Try.prog (unmark ds w) = .ok v (unmark ds w) ∧ R (.returned v) (unmark ds w)) → LeavesInM Fence.wide 3 Try.prog fn tmps R (marks ds) .returning w
  | [], w, _, _, h => h
  | D :: ds, w, hn, hd, h => by
    rw [List.nodup_cons] at hn
    refine ⟨by simp, .inl ⟨D, _, rfl, run_takeDeferred (hd D (by simp)), leaves_many ds _ hn.2 (fun E hE => ?_) h⟩⟩
    have hne : E ≠ D := fun e => hn.1 (e ▸ hE)
    exact (World.putObj_heap_other hne).trans (hd E (by simp [hE]))
end Go.Proofs.Ythelfpenccpkeaa
