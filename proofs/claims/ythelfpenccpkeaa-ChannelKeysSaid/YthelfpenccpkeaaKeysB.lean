/- ChannelKeys: the messages at the choices, collected into a box. -/
import Derived.Test.YthelfpenccpkeaaKeysA
import Derived.Test.YthelfpenccpkeaaLTurn
import Derived.OwnWalkIn
namespace Go.Proofs.Ythelfpenccpkeaa
open Go.RowKit Go.BigFrame

theorem Bk.owns {B : Nat} {w w' : World} (h : Bk B w w') {base e size n : Nat} {v : Value} {xs : List Value} (ho : w.ownsRow base e size v n xs) : w'.ownsRow base e size v n xs := by
  obtain ⟨h1, h2⟩ := ho
  refine ⟨h1, ?_⟩
  rcases h2 with h2 | ⟨g, cap, cur, hv, hg, hh, r⟩
  · exact .inl h2
  · exact .inr ⟨g, cap, cur, hv, hg, h.at hh rfl, r⟩
/-- while the box at xb collects the messages -/
structure XI (V : World) (xb : Nat) (pre : List (Nat × ByteArray)) (W : World) : Prop where
  fr : Frm [xb] V W
  lt : xb < V.heap.size
  bx : ∃ v, W.heap[xb]? = some (.cells #[v] 22 (0, 0)) ∧ W.ownsRow V.heap.size 9 1 v pre.length (pre.map fun x => Value.string x.2)
section
variable {V W W' w1 : World} {xb B : Nat} {pre : List (Nat × ByteArray)}
theorem XI.bk (h : XI V xb pre W) (hb : Bk B W W') (hB : V.heap.size ≤ B) : XI V xb pre W' := by
  obtain ⟨v, h1, h2⟩ := h.bx
  exact ⟨hb.oldF h.fr hB, h.lt, v, hb.at h1 rfl, hb.owns h2⟩
theorem XI.start (h : V.heap[xb]? = some (.cells #[.slice none 0 0] 22 (0, 0))) : XI V xb [] V := ⟨Frm.refl _ _, lt_of_block h, _, h, World.ownsRow_nil _ _ _ _⟩
theorem XI.chr {bl bc cb : Nat} {cls : Int} {sv : Value} {L : List ByteArray} (h : XI V xb pre W) (hc : ChR bl bc cb cls sv L V) (h1 : bl ≠ xb) (h2 : bc ≠ xb) (h3 : ∀ k, sv.ownBlock = some k → k ≠ xb) (h4 : cb ≠ xb) : ChR bl bc cb cls sv L W :=
  ⟨h.fr.at hc.1 (by simpa using h1), hc.2.1.frm h.fr (fun k hk hx => h3 k hk (by simpa using hx)), h.fr.at hc.2.2.1 (by simpa using h2), h.fr.cellAt hc.2.2.2 (by simpa using h4)⟩
theorem XI.step (h : XI V xb pre W) {v v' : Value} {o : Obj} (x : Nat × ByteArray) (hv : W.heap[xb]? = some (.cells #[v] 22 (0, 0)) ∧ W.ownsRow V.heap.size 9 1 v pre.length (pre.map fun x => Value.string x.2))
    (hg : (W.alloc o).grownBy w1 v.ownBlock) (ho : w1.ownsRow V.heap.size 9 1 v' (pre.length + 1) ((pre.map fun x => Value.string x.2) ++ [.string x.2])) :
    KB W (w1.setCell ⟨xb, 0, none⟩ v') ∧ XI V xb (pre ++ [x]) (w1.setCell ⟨xb, 0, none⟩ v') := by
  have hge : ∀ k, v.ownBlock = some k → V.heap.size ≤ k := fun k hk => ownBlock_ge hv.2 hk
  have hlt := h.lt
  have h1 : Frm (xb :: v.ownBlock.toList) W w1 := ((Frm.refl _ _).alloc o).grown hg (fun k hk => .inl (by simp [hk]))
  have h2 : Frm [xb] w1 (w1.setCell ⟨xb, 0, none⟩ v') := (Frm.refl _ _).setCell _ (.inl (by simp)) _
  have hbx : w1.heap[xb]? = some (.cells #[v] 22 (0, 0)) := grown_at hg (alloc_at hv.1) (fun e => by have := hge _ e; omega)
  refine ⟨KB.frm (F := xb :: v.ownBlock.toList) (h1.trans (h2.mono (by simp))) (fun y hy => ?_), ?_, hlt, v', ?_, ?_⟩
  · simp only [List.mem_cons, Option.mem_toList] at hy
    rcases hy with rfl | hy
    · exact not_books hv.1 rfl
    · obtain ⟨c, hc⟩ := ownBlock_type hv.2 hy
      exact not_books hc rfl
  · refine (h.fr.then h1 (fun y hy => ?_)).trans h2
    simp only [List.mem_cons, Option.mem_toList] at hy
    rcases hy with rfl | hy
    · exact .inl (by simp)
    · exact .inr (hge _ hy)
  · refine (block_setCell hbx 0 _).trans ?_
    rfl
  · have h3 := h2.owns ho (fun k hk hx => by have := ownBlock_ge ho hk; simp at hx; omega)
    simpa using h3
theorem XI.facts {v : Value} {o : Obj} (hlt : xb < V.heap.size) (hv : W.heap[xb]? = some (.cells #[v] 22 (0, 0)) ∧ W.ownsRow V.heap.size 9 1 v pre.length (pre.map fun x => Value.string x.2)) (hg : (W.alloc o).grownBy w1 v.ownBlock) :
    w1.cell? ⟨xb, 0, none⟩ = some v ∧ w1.frozen? ⟨xb, 0, none⟩ = false := by
  have hge : ∀ k, v.ownBlock = some k → V.heap.size ≤ k := fun k hk => ownBlock_ge hv.2 hk
  have hbx : w1.heap[xb]? = some (.cells #[v] 22 (0, 0)) := grown_at hg (alloc_at hv.1) (fun e => by have := hge _ e; omega)
  exact ⟨cell_of hbx 0, free_of hbx 0⟩
end
/-- the box x holds the messages at the choices -/
structure XB (xb : Nat) (M : List ByteArray) (W : World) : Prop where
  out : ∃ v, W.heap[xb]? = some (.cells #[v] 22 (0, 0)) ∧ Strs W v M
theorem XB.frm {W W' : World} {xb : Nat} {M : List ByteArray} (h : XB xb M W) (hf : Frm [] W W') : XB xb M W' := by
  obtain ⟨v, h1, h2⟩ := h.out
  exact ⟨v, hf.at h1 (by simp), h2.frm hf (by simp)⟩
theorem XI.done {V W : World} {xb : Nat} {cls : Int} {L : List ByteArray} (h : XI V xb (chlK cls L L.length) W) : XB xb (chm cls L L.length) W := by
  obtain ⟨v, h1, h2⟩ := h.bx
  have h3 : W.ownsRow V.heap.size 9 1 v (chm cls L L.length).length ((chm cls L L.length).map Value.string) := by
    simpa [chm, List.map_map, Function.comp_def] using h2
  exact ⟨v, h1, Strs.of_own h3⟩
/-- behind i rounds of the last loop, with these marks -/
def KL (w : World) (bb : Nat) (cls cap : Int) (n : Nat) (s : Value) (ds : List Nat) (W : World) : Prop :=
  ∃ (i : Nat) (A B : List ByteArray) (FA FB : List Nat), s = .int .i64 (i : Int) ∧ i ≤ n ∧ Rl cls A B ∧ KP w w.heap.size bb cls cap A B FA FB W ∧ ds.Nodup ∧ ∀ D ∈ ds, w.heap.size ≤ D ∧ W.heap[D]? = some (.deferred (some []))
theorem chlK_length (cls : Int) (L : List ByteArray) : ∀ n, (chlK cls L n).length ≤ n
  | 0 => by simp [chlK]
  | n + 1 => by
    have := chlK_length cls L n
    rw [chlK]
    split <;> simp <;> omega
theorem pre_le {cls : Int} {L : List ByteArray} {pre rest : List (Nat × ByteArray)} {x : Nat × ByteArray} (h : chlK cls L L.length = pre ++ x :: rest) : pre.length < L.length := by
  have h1 := chlK_length cls L L.length
  rw [h, List.length_append, List.length_cons] at h1
  omega
theorem chm_le (cls : Int) (L : List ByteArray) : (chm cls L L.length).length ≤ L.length := by
  rw [chm, List.length_map]; exact chlK_length cls L _
/-- what the first range needs -/
theorem XI.go {W0 x8 : World} {xb bl bc cb : Nat} {cls : Int} {sv : Value} {L : List ByteArray} (hx : W0.heap[xb]? = some (.cells #[.slice none 0 0] 22 (0, 0))) (hc : ChR bl bc cb cls sv L x8 ∧ Frm [] W0 x8 ∧ W0.heap.size ≤ bl ∧ W0.heap.size ≤ bc ∧ ∀ k, sv.ownBlock = some k → W0.heap.size ≤ k)
    (hcb : cb ≠ xb) : XI x8 xb [] x8 ∧ ∀ pre W, XI x8 xb pre W → ChR bl bc cb cls sv L W := by
  obtain ⟨h1, h2, h3, h4, h5⟩ := hc
  have hl := lt_of_block hx
  exact ⟨XI.start (h2.at hx (by simp)), fun pre W h => h.chr h1 (by omega) (by omega) (fun k hk => by have := h5 k hk; omega) hcb⟩
theorem XI.old {V W w : World} {xb : Nat} {pre : List (Nat × ByteArray)} (h : XI V xb pre W) (hw : Frm [] w V) (hx : w.heap.size ≤ xb) : Frm [] w W := hw.then h.fr (fun x hx' => by simp at hx'; subst hx'; exact .inr hx)
theorem XI.kp {w V W : World} {xb ab bb : Nat} {cls cap : Int} {A B : List ByteArray} {FA FB : List Nat} {pre : List (Nat × ByteArray)} (h : XI V xb pre W) (hk : KP w ab bb cls cap A B FA FB V) (ha : xb ∉ FA) (hb : xb ∉ FB) (hx : w.heap.size ≤ xb) : KP w ab bb cls cap A B FA FB W :=
  ⟨hk.a.frm h.fr (fun y hy hz => by simp at hz; subst hz; exact ha hy), hk.b.frm h.fr (fun y hy hz => by simp at hz; subst hz; exact hb hy), hk.d, hk.fa, hk.fb, h.old hk.o hx⟩
/-- in a round: two channels, marks, and the box x with the messages M -/
structure RX (w : World) (v : Value) (xb bb : Nat) (cls cap : Int) (A B : List ByteArray) (FA FB : List Nat) (ds : List Nat) (M : List ByteArray) (W : World) : Prop where
  kp : KP w w.heap.size bb cls cap A B FA FB W
  nd : ds.Nodup
  dl : ∀ D ∈ ds, w.heap.size ≤ D ∧ W.heap[D]? = some (.deferred (some []))
  bx : W.heap[xb]? = some (.cells #[v] 22 (0, 0)) ∧ Strs W v M ∧ ∀ k, v.ownBlock = some k → k ∉ FA ∧ k ∉ FB
section
variable {w V W W' : World} {v : Value} {xb yb bb D : Nat} {cls cap : Int} {A B M L' : List ByteArray} {FA FB ds : List Nat} {pre : List (Nat × ByteArray)}
theorem RX.frm (h : RX w v xb bb cls cap A B FA FB ds M W) (hf : Frm [] W W') : RX w v xb bb cls cap A B FA FB ds M W' := by
  obtain ⟨h1, h2, h3⟩ := h.bx
  exact ⟨h.kp.frm hf, h.nd, fun D hD => ⟨(h.dl D hD).1, hf.at (h.dl D hD).2 (by simp)⟩, hf.at h1 (by simp), h2.frm hf (by simp), h3⟩
theorem RX.sw0 (h : RX w v xb bb cls cap A B FA FB ds M W) (t : ChnTo W w.heap.size cls cap L' FA W') : ∃ FA', RX w v xb bb cls cap L' B FA' FB ds M W' := by
  obtain ⟨h1, h2, h3⟩ := h.bx
  obtain ⟨F0, hk⟩ := h.kp.sa t
  obtain ⟨F', k1, k2, k3⟩ := t
  have hx : xb ∉ FA := h.kp.a.mark ⟨h1, rfl⟩
  refine ⟨F', ⟨k1, h.kp.b.frm k2 (fun x hx hy => h.kp.d x hy hx), fun x hx hy => ?_, fun x hx => ?_, h.kp.fb, hk.o⟩, h.nd, fun D hD => ⟨(h.dl D hD).1, k2.at (h.dl D hD).2 (h.kp.a.mark ⟨(h.dl D hD).2, rfl⟩)⟩, k2.at h1 hx, h2.frm k2 (fun k hk => (h3 k hk).1), fun k hk => ⟨fun hy => ?_, (h3 k hk).2⟩⟩
  · rcases k3 x hx with h4 | h4
    · exact h.kp.d x h4 hy
    · have := h.kp.b.lt x hy; omega
  · rcases k3 x hx with h4 | h4
    · exact h.kp.fa x h4
    · have := h.kp.o.size; omega
  · rcases k3 k hy with h4 | h4
    · exact (h3 k hk).1 h4
    · have := ownBlock_lt h2 hk; omega
theorem RX.sw1 (h : RX w v xb bb cls cap A B FA FB ds M W) (t : ChnTo W bb cls cap L' FB W') : ∃ FB', RX w v xb bb cls cap A L' FA FB' ds M W' := by
  obtain ⟨h1, h2, h3⟩ := h.bx
  obtain ⟨F0, hk⟩ := h.kp.sb t
  obtain ⟨F', k1, k2, k3⟩ := t
  have hx : xb ∉ FB := h.kp.b.mark ⟨h1, rfl⟩
  refine ⟨F', ⟨h.kp.a.frm k2 (fun x hx hy => h.kp.d x hx hy), k1, fun x hx hy => ?_, h.kp.fa, fun x hx => ?_, hk.o⟩, h.nd, fun D hD => ⟨(h.dl D hD).1, k2.at (h.dl D hD).2 (h.kp.b.mark ⟨(h.dl D hD).2, rfl⟩)⟩, k2.at h1 hx, h2.frm k2 (fun k hk => (h3 k hk).2), fun k hk => ⟨(h3 k hk).1, fun hy => ?_⟩⟩
  · rcases k3 x hy with h4 | h4
    · exact h.kp.d x hx h4
    · have := h.kp.a.lt x hx; omega
  · rcases k3 x hx with h4 | h4
    · exact h.kp.fb x h4
    · have := h.kp.o.size; omega
  · rcases k3 k hy with h4 | h4
    · exact (h3 k hk).2 h4
    · have := ownBlock_lt h2 hk; omega
theorem XI.mark (h0 : XI V xb [] V) (h : XI V xb pre W) {D : Nat} (hd : V.heap[D]? = some (.deferred (some []))) : W.heap[D]? = some (.deferred (some [])) := by
  obtain ⟨v, h1, -⟩ := h0.bx
  refine h.fr.at hd (fun hx => ?_)
  simp at hx
  subst hx
  rw [h1] at hd; cases hd
theorem RX.first (hk : KP w w.heap.size bb cls cap A B FA FB V) (hn : ds.Nodup) (hd : ∀ D ∈ ds, w.heap.size ≤ D ∧ V.heap[D]? = some (.deferred (some []))) (h0 : XI V xb [] V) (h : XI V xb (chlK cls A A.length) W) (hD : V.heap.size ≤ D) (hm : W.heap[D]? = some (.deferred (some [])))
    (hxa : xb ∉ FA) (hxb : xb ∉ FB) (hx : w.heap.size ≤ xb) : ∃ v, RX w v xb bb cls cap A B FA FB (D :: ds) (chm cls A A.length) W := by
  have hs := hk.o.size
  obtain ⟨v, h1, h2⟩ := h.bx
  have h3 : W.ownsRow V.heap.size 9 1 v (chm cls A A.length).length ((chm cls A A.length).map Value.string) := by
    simpa [chm, List.map_map, Function.comp_def] using h2
  refine ⟨v, h.kp hk hxa hxb hx, List.nodup_cons.2 ⟨fun hy => ?_, hn⟩, fun E hE => ?_, h1, Strs.of_own h3, fun k hk' => ⟨fun hy => ?_, fun hy => ?_⟩⟩
  · have := lt_of_block (hd D hy).2; omega
  · rcases List.mem_cons.1 hE with rfl | hE
    · exact ⟨by omega, hm⟩
    · exact ⟨(hd E hE).1, h0.mark h (hd E hE).2⟩
  · have := ownBlock_ge h3 hk'; have := hk.a.lt k hy; omega
  · have := ownBlock_ge h3 hk'; have := hk.b.lt k hy; omega
theorem RX.second (hk : RX w v xb bb cls cap A B FA FB ds M V) (h0 : XI V yb [] V) (h : XI V yb (chlK cls B B.length) W) (hD : V.heap.size ≤ D) (hm : W.heap[D]? = some (.deferred (some [])))
    (hya : yb ∉ FA) (hyb : yb ∉ FB) (hne : xb ≠ yb) (hx : w.heap.size ≤ yb) : RX w v xb bb cls cap A B FA FB (D :: ds) M W ∧ XB yb (chm cls B B.length) W := by
  have hs := hk.kp.o.size
  obtain ⟨u, hu, -⟩ := h0.bx
  obtain ⟨h1, h2, h3⟩ := hk.bx
  refine ⟨⟨h.kp hk.kp hya hyb hx, List.nodup_cons.2 ⟨fun hy => ?_, hk.nd⟩, fun E hE => ?_, h.fr.at h1 (by simpa using hne), h2.frm h.fr (fun k hk hy => ?_), h3⟩, h.done⟩
  · have := lt_of_block (hk.dl D hy).2; omega
  · rcases List.mem_cons.1 hE with rfl | hE
    · exact ⟨by omega, hm⟩
    · exact ⟨(hk.dl E hE).1, h0.mark h (hk.dl E hE).2⟩
  · obtain ⟨c, hc⟩ := ownBlock_type h2 hk
    simp at hy
    subst hy
    rw [hu] at hc; cases hc
theorem keys_end {fn : Func} {tmps : Array Value} {w9 : World} (h : RX w v xb bb cls cap A B FA FB ds M W) (h9 : Frm [] W w9) (hr : ∀ W', (results fn tmps).run Try.prog W' = .ok (.bool true) W') : LeavesInM Fence.wide 3 Try.prog fn tmps (Ret (.bool true) (Frm [] w)) (marks ds) .returning w9 :=
  leaves_many ds w9 h.nd (fun D hD => (h.frm h9).dl D hD |>.2) ⟨.bool true, hr _, rfl, (h.kp.o.trans h9).then (unmark_frm ds w9) (fun x hx => .inr (h.dl x hx).1)⟩
theorem RX.kl {i n : Nat} (h : RX w v xb bb cls cap A B FA FB ds M W) (hi : i ≤ n) (hr : Rl cls A B) : KL w bb cls cap n (.int .i64 (i : Int)) ds W := ⟨i, A, B, FA, FB, rfl, hi, hr, h.kp, h.nd, h.dl⟩
theorem RX.last {k c : Nat} {ao : Option Addr} (h : RX w (.slice ao (k + 1) c) xb bb cls cap A B FA FB ds M W) {m : ByteArray} (hm : M[k]? = some m) : ∃ g, ao = some ⟨g, 0, none⟩ ∧ W.cell? ⟨xb, 0, none⟩ = some (.slice ao (k + 1) c) ∧ W.cell? ⟨g, k, none⟩ = some (.string m) := by
  obtain ⟨h1, h2, h3⟩ := h.bx
  obtain ⟨ao', c', e, -, hc⟩ := h2.shape
  obtain ⟨g, e1, e2⟩ := hc k m hm
  simp only [Value.slice.injEq] at e
  exact ⟨g, e.1.trans e1, cell_of h1 0, e2⟩
end
end Go.Proofs.Ythelfpenccpkeaa
