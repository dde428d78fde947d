/- States of the reference in the heap: rows of places, of banks, of channels; stores into them. -/
import Derived.Test.YtkphhjekfimmlaaGreatB03
import Derived.Test.YtkphhjekfimmlaaGreatB05
import Derived.Test.YtkphhjekfimmlaaGreatB21
namespace Go.Proofs.YtkphhjekfimmlaaGreat
open Go.RowKit Go.BigFrame

/-- block g is one of cells of this type -/
def Ty (W : World) (g : Nat) (e : TypeId) : Prop := ∃ cur, W.heap[g]? = some (.cells cur e (0, 0))
theorem Ty.lt {W : World} {g : Nat} {e : TypeId} (h : Ty W g e) : g < W.heap.size := by obtain ⟨_, h⟩ := h; exact lt_of_block h
theorem Ty.frm {F : List Nat} {W V : World} {g : Nat} {e : TypeId} (h : Ty W g e) (hf : Frm F W V) (hn : g ∉ F) : Ty V g e := by obtain ⟨c, h⟩ := h; exact ⟨c, hf.at h hn⟩
theorem Ty.set {W : World} {g b o : Nat} {e : TypeId} (h : Ty W g e) (u : Value) : Ty (W.setCell ⟨b, o, none⟩ u) g e := by
  obtain ⟨c, h⟩ := h
  by_cases hp : b = g
  · subst hp
    exact ⟨_, block_setCell h o u⟩
  · exact ⟨c, setCell_at h (Ne.symm hp) u⟩
theorem Ty.ne {W : World} {g k : Nat} {e f : TypeId} (h : Ty W g e) (h' : Ty W k f) (hn : e ≠ f) : g ≠ k := by
  rintro rfl
  obtain ⟨c, h⟩ := h
  obtain ⟨d, h'⟩ := h'
  rw [h] at h'
  cases h'
  exact hn rfl
theorem own_ty {W : World} {base e size n : Nat} {v : Value} {xs : List Value} (h : W.ownsRow base e size v n xs) {k : Nat} (hk : v.ownBlock = some k) : Ty W k e := ownBlock_type h hk
/-- a cell behind a store -/
theorem cell_set_ne {W : World} {b o c d : Nat} {u : Value} (h : ¬ (b = c ∧ o = d)) : (W.setCell ⟨c, d, none⟩ u).cell? ⟨b, o, none⟩ = W.cell? ⟨b, o, none⟩ := by
  by_cases hb : b = c
  · subst hb
    have ho : o ≠ d := fun e => h ⟨rfl, e⟩
    simp only [World.cell?, World.setCell]
    by_cases hl : b < W.heap.size
    · rw [Array.getElem?_eq_getElem (by simpa using hl), Array.getElem_modify_self, Array.getElem?_eq_getElem hl]
      cases W.heap[b] <;> simp [Ne.symm ho]
    · rw [Array.getElem?_eq_none (by simpa using hl), Array.getElem?_eq_none (by omega)]
  · exact World.cell?_of_block (w := W) (Below.heap_setCell _ _ _ _ hb)
theorem cell_set_eq {W : World} {c d : Nat} {u v : Value} (h : W.cell? ⟨c, d, none⟩ = some v) : (W.setCell ⟨c, d, none⟩ u).cell? ⟨c, d, none⟩ = some u := by
  have hl := cell_lt h
  simp only [World.cell?, Array.getElem?_eq_getElem hl] at h
  cases hh : W.heap[c] with
  | cells cur t fr =>
    rw [hh] at h
    have h2 : W.heap[c]? = some (.cells cur t fr) := by rw [Array.getElem?_eq_getElem hl, hh]
    have hd := (Array.getElem?_eq_some_iff.1 h).1
    rw [cell_of (block_setCell h2 d u) d, Array.getElem?_setIfInBounds, if_pos rfl, if_pos hd]
  | _ => rw [hh] at h; simp at h

def ctC1 (c : CtrD) : List Value := [.string c.name, .int .i64 c.lim]
def iv (x : Int) : Value := .int .i64 x
/-- counters' definitions in a row of their own; values in a row of their own, which is not block ba -/
def DfV (W : World) (v : Value) (l : List CtrD) : Prop := W.ownsRow 0 182 2 v l.length (l.flatMap ctC1)
def VlV (W : World) (ba : Nat) (v : Value) (l : List Int) : Prop := W.ownsRow 0 3 1 v l.length (l.map iv) ∧ v.ownBlock ≠ some ba
theorem DfV.frm {F : List Nat} {W V : World} {v : Value} {l : List CtrD} (h : DfV W v l) (hf : Frm F W V) (hn : ∀ k ∈ F, ¬ Ty W k 182) : DfV V v l := hf.owns h fun _ hk hF => hn _ hF (own_ty h hk)
theorem VlV.frm {F : List Nat} {W V : World} {ba : Nat} {v : Value} {l : List Int} (h : VlV W ba v l) (hf : Frm F W V) (hn : ∀ k ∈ F, k = ba ∨ ¬ Ty W k 3) : VlV V ba v l :=
  ⟨hf.owns h.1 fun k hk hF => (hn k hF).elim (fun e => h.2 (by rw [hk, e])) (fun e => e (own_ty h.1 hk)), h.2⟩
theorem Lf.ty {W : World} {lv : Value} {L : List ByteArray} (h : Lf W lv L) {k : Nat} (hk : lv.ownBlock = some k) : Ty W k 9 := by
  rcases h with h | ⟨g, cur, rfl, hb, -⟩
  · exact own_ty h hk
  · cases hk; exact ⟨_, hb⟩

/-- the state x of the reference: places in block ba, banks in bb, rows of channels in bw, row i in bi i -/
structure RO (W : World) (s : SesD) (ba bb bw : Nat) (bi : Nat → Nat) (x : PS) : Prop where
  ta : Ty W ba 3
  tb : Ty W bb 173
  tw : Ty W bw 171
  ti : ∀ i, i < s.roles.length → Ty W (bi i) 168
  inj : ∀ i j, i < s.roles.length → j < s.roles.length → bi i = bi j → i = j
  a : ∀ i, i < s.roles.length → W.cell? ⟨ba, i, none⟩ = some (.int .i64 (x.at i))
  b : ∀ i, i < s.roles.length → ∃ dv vv, W.cell? ⟨bb, i * 2, none⟩ = some dv ∧ W.cell? ⟨bb, i * 2 + 1, none⟩ = some vv ∧ DfV W dv (s.rol i).ctrs ∧ VlV W ba vv (x.bank i)
  w : ∀ i, i < s.roles.length → ∃ c, W.cell? ⟨bw, i, none⟩ = some (.slice (some ⟨bi i, 0, none⟩) s.roles.length c)
  r : ∀ i k, i < s.roles.length → k < s.roles.length → ∃ lv, W.cell? ⟨bi i, k * 3, none⟩ = some (.int .i64 s.cls) ∧ W.cell? ⟨bi i, k * 3 + 1, none⟩ = some (.int .i64 s.cap) ∧ W.cell? ⟨bi i, k * 3 + 2, none⟩ = some lv ∧ Lf W lv (x.way i k)
section
variable {W V : World} {s : SesD} {ba bb bw : Nat} {bi : Nat → Nat} {x : PS}
theorem RO.frm (h : RO W s ba bb bw bi x) (hf : Frm [] W V) : RO V s ba bb bw bi x := by
  refine ⟨h.ta.frm hf (by simp), h.tb.frm hf (by simp), h.tw.frm hf (by simp), fun i hi => (h.ti i hi).frm hf (by simp), h.inj, fun i hi => hf.keep (h.a i hi), fun i hi => ?_, fun i hi => ?_, fun i k hi hk => ?_⟩
  · obtain ⟨dv, vv, h1, h2, h3, h4⟩ := h.b i hi
    exact ⟨dv, vv, hf.keep h1, hf.keep h2, h3.frm hf (by simp), h4.frm hf (by simp)⟩
  · obtain ⟨c, h1⟩ := h.w i hi
    exact ⟨c, hf.keep h1⟩
  · obtain ⟨lv, h1, h2, h3, h4⟩ := h.r i k hi hk
    exact ⟨lv, hf.keep h1, hf.keep h2, hf.keep h3, h4.frm hf (by simp)⟩
theorem setFrm (W : World) (b o : Nat) (u : Value) : Frm [b] W (W.setCell ⟨b, o, none⟩ u) := (Frm.refl [b] W).setCell _ (.inl (by simp)) _
/-- another place for role i -/
theorem RO.setAt (h : RO W s ba bb bw bi x) {i : Nat} (hi : i < s.roles.length) (p : Nat) (hl : x.pos.length = s.roles.length) : RO (W.setCell ⟨ba, i, none⟩ (.int .i64 p)) s ba bb bw bi { x with pos := x.pos.set i p } := by
  have hf := setFrm W ba i (.int .i64 p)
  have n1 := h.ta.ne h.tb (by decide)
  have n2 := h.ta.ne h.tw (by decide)
  have n3 : ∀ j, j < s.roles.length → ba ≠ bi j := fun j hj => h.ta.ne (h.ti j hj) (by decide)
  refine ⟨h.ta.set _, h.tb.set _, h.tw.set _, fun i hi => (h.ti i hi).set _, h.inj, fun j hj => ?_, fun j hj => ?_, fun j hj => ?_, fun j k hj hk => ?_⟩
  · show _ = some (Value.int .i64 (((x.pos.set i p).getD j 0 : Nat) : Int))
    rw [List.getD_eq_getElem?_getD, List.getElem?_set]
    by_cases e : i = j
    · subst e
      rw [if_pos rfl, if_pos (by omega)]
      exact cell_set_eq (h.a i hj)
    · rw [if_neg e, cell_set_ne (by rintro ⟨-, rfl⟩; exact e rfl), h.a j hj]
      rfl
  · obtain ⟨dv, vv, h1, h2, h3, h4⟩ := h.b j hj
    exact ⟨dv, vv, hf.cellAt h1 (by simp; exact n1.symm), hf.cellAt h2 (by simp; exact n1.symm), h3.frm hf (by intro k hk; simp at hk; subst hk; exact fun e => absurd rfl (h.ta.ne e (by decide))), h4.frm hf (by intro k hk; simp at hk; exact .inl hk)⟩
  · obtain ⟨c, h1⟩ := h.w j hj
    exact ⟨c, hf.cellAt h1 (by simp; exact n2.symm)⟩
  · obtain ⟨lv, h1, h2, h3, h4⟩ := h.r j k hj hk
    have n := (n3 j hj).symm
    exact ⟨lv, hf.cellAt h1 (by simpa using n), hf.cellAt h2 (by simpa using n), hf.cellAt h3 (by simpa using n), h4.frm hf (fun q hq hm => by simp at hm; subst hm; exact absurd rfl (h.ta.ne (h4.ty hq) (by decide)))⟩
/-- another bank for role i -/
theorem RO.setBank (h : RO W s ba bb bw bi x) {i : Nat} (hi : i < s.roles.length) {dv vv : Value} {vs : List Int} (hd : DfV W dv (s.rol i).ctrs) (hv : VlV W ba vv vs) (hl : x.vals.length = s.roles.length) :
    RO ((W.setCell ⟨bb, i * 2, none⟩ dv).setCell ⟨bb, i * 2 + 1, none⟩ vv) s ba bb bw bi { x with vals := x.vals.set i vs } := by
  have hf : Frm [bb] W ((W.setCell ⟨bb, i * 2, none⟩ dv).setCell ⟨bb, i * 2 + 1, none⟩ vv) := (setFrm W bb (i * 2) dv).trans (setFrm _ bb (i * 2 + 1) vv)
  have n1 := h.ta.ne h.tb (by decide)
  have n2 := h.tb.ne h.tw (by decide)
  have n3 : ∀ j, j < s.roles.length → bb ≠ bi j := fun j hj => h.tb.ne (h.ti j hj) (by decide)
  have q1 : ∀ k ∈ [bb], ¬ Ty W k 182 := by intro k hk; simp at hk; subst hk; exact fun e => absurd rfl (h.tb.ne e (by decide))
  have q2 : ∀ k ∈ [bb], k = ba ∨ ¬ Ty W k 3 := by intro k hk; simp at hk; subst hk; exact .inr fun e => absurd rfl (h.tb.ne e (by decide))
  refine ⟨(h.ta.set _).set _, (h.tb.set _).set _, (h.tw.set _).set _, fun i hi => ((h.ti i hi).set _).set _, h.inj, fun j hj => hf.cellAt (h.a j hj) (by simpa using n1), fun j hj => ?_, fun j hj => ?_, fun j k hj hk => ?_⟩
  · obtain ⟨dv', vv', h1, h2, h3, h4⟩ := h.b j hj
    show ∃ dv'' vv'', _ ∧ _ ∧ _ ∧ VlV _ ba vv'' ((x.vals.set i vs).getD j [])
    rw [List.getD_eq_getElem?_getD, List.getElem?_set]
    by_cases e : i = j
    · subst e
      rw [if_pos rfl, if_pos (by omega)]
      refine ⟨dv, vv, ?_, ?_, hd.frm hf q1, hv.frm hf q2⟩
      · rw [cell_set_ne (by omega)]; exact cell_set_eq h1
      · exact cell_set_eq (v := vv') (by rw [cell_set_ne (by omega)]; exact h2)
    · rw [if_neg e]
      refine ⟨dv', vv', ?_, ?_, h3.frm hf q1, h4.frm hf q2⟩
      · rw [cell_set_ne (by omega), cell_set_ne (by omega)]; exact h1
      · rw [cell_set_ne (by omega), cell_set_ne (by omega)]; exact h2
  · obtain ⟨c, h1⟩ := h.w j hj
    exact ⟨c, hf.cellAt h1 (by simpa using n2.symm)⟩
  · obtain ⟨lv, h1, h2, h3, h4⟩ := h.r j k hj hk
    have n := (n3 j hj).symm
    exact ⟨lv, hf.cellAt h1 (by simpa using n), hf.cellAt h2 (by simpa using n), hf.cellAt h3 (by simpa using n), h4.frm hf (fun q hq hm => by simp at hm; subst hm; exact absurd rfl (h.tb.ne (h4.ty hq) (by decide)))⟩
/-- another channel from role i to role m -/
theorem RO.setWay (h : RO W s ba bb bw bi x) {i m : Nat} (hi : i < s.roles.length) (hm : m < s.roles.length) {lv : Value} {L : List ByteArray} (hL : Lf W lv L) (hl : x.ways.length = s.roles.length) (hr : (x.ways.getD i []).length = s.roles.length) :
    RO (((W.setCell ⟨bi i, m * 3, none⟩ (.int .i64 s.cls)).setCell ⟨bi i, m * 3 + 1, none⟩ (.int .i64 s.cap)).setCell ⟨bi i, m * 3 + 2, none⟩ lv) s ba bb bw bi { x with ways := setWay x.ways i m L } := by
  have hf : Frm [bi i] W (((W.setCell ⟨bi i, m * 3, none⟩ (.int .i64 s.cls)).setCell ⟨bi i, m * 3 + 1, none⟩ (.int .i64 s.cap)).setCell ⟨bi i, m * 3 + 2, none⟩ lv) := ((setFrm W _ _ _).trans (setFrm _ _ _ _)).trans (setFrm _ _ _ _)
  have ht := h.ti i hi
  have n1 := h.ta.ne ht (by decide)
  have n2 := h.tb.ne ht (by decide)
  have n3 := h.tw.ne ht (by decide)
  have q1 : ∀ k ∈ [bi i], ¬ Ty W k 182 := by intro k hk; simp at hk; subst hk; exact fun e => absurd rfl (ht.ne e (by decide))
  have q2 : ∀ k ∈ [bi i], k = ba ∨ ¬ Ty W k 3 := by intro k hk; simp at hk; subst hk; exact .inr fun e => absurd rfl (ht.ne e (by decide))
  have q3 : ∀ {lv : Value} {L : List ByteArray}, Lf W lv L → ∀ q, lv.ownBlock = some q → q ∉ [bi i] := fun h4 q hq hm => by simp at hm; subst hm; exact absurd rfl (ht.ne (h4.ty hq) (by decide))
  refine ⟨((h.ta.set _).set _).set _, ((h.tb.set _).set _).set _, ((h.tw.set _).set _).set _, fun i hi => (((h.ti i hi).set _).set _).set _, h.inj, fun j hj => hf.cellAt (h.a j hj) (by simpa using n1), fun j hj => ?_, fun j hj => ?_, fun j k hj hk => ?_⟩
  · obtain ⟨dv', vv', h1, h2, h3, h4⟩ := h.b j hj
    exact ⟨dv', vv', hf.cellAt h1 (by simpa using n2), hf.cellAt h2 (by simpa using n2), h3.frm hf q1, h4.frm hf q2⟩
  · obtain ⟨c, h1⟩ := h.w j hj
    exact ⟨c, hf.cellAt h1 (by simpa using n3)⟩
  · obtain ⟨lv', h1, h2, h3, h4⟩ := h.r j k hj hk
    show ∃ lv'', _ ∧ _ ∧ _ ∧ Lf _ lv'' (wayOf (Go.Proofs.YtkphhjekfimmlaaGreat.setWay x.ways i m L) j k)
    rw [wayOf_set (by omega) (by omega)]
    by_cases e : j = i ∧ k = m
    · obtain ⟨rfl, rfl⟩ := e
      rw [if_pos ⟨rfl, rfl⟩]
      refine ⟨lv, ?_, ?_, ?_, hL.frm hf (q3 hL)⟩
      · rw [cell_set_ne (by omega), cell_set_ne (by omega)]; exact cell_set_eq h1
      · rw [cell_set_ne (by omega)]; exact cell_set_eq (v := .int .i64 s.cap) (by rw [cell_set_ne (by omega)]; exact h2)
      · exact cell_set_eq (v := lv') (by rw [cell_set_ne (by omega), cell_set_ne (by omega)]; exact h3)
    · rw [if_neg e]
      have hne : ∀ {o d : Nat}, o / 3 = k → d / 3 = m → ¬ (bi j = bi i ∧ o = d) := fun ho hd he => e ⟨h.inj j i hj hi he.1, by rw [← ho, ← hd, he.2]⟩
      refine ⟨lv', ?_, ?_, ?_, h4.frm hf (q3 h4)⟩
      · rw [cell_set_ne (hne (by omega) (by omega)), cell_set_ne (hne (by omega) (by omega)), cell_set_ne (hne (by omega) (by omega))]; exact h1
      · rw [cell_set_ne (hne (by omega) (by omega)), cell_set_ne (hne (by omega) (by omega)), cell_set_ne (hne (by omega) (by omega))]; exact h2
      · rw [cell_set_ne (hne (by omega) (by omega)), cell_set_ne (hne (by omega) (by omega)), cell_set_ne (hne (by omega) (by omega))]; exact h3
end
/-- a state of the reference as a value -/
structure RSt (B : Nat) (W : World) (s : SesD) (v : Value) (x : PS) : Prop where
  out : ∃ ba bb bw bi ca cb cw, v = .agg #[.slice (some ⟨ba, 0, none⟩) s.roles.length ca, .slice (some ⟨bb, 0, none⟩) s.roles.length cb, .slice (some ⟨bw, 0, none⟩) s.roles.length cw] ∧ RO W s ba bb bw bi x ∧
    B ≤ ba ∧ B ≤ bb ∧ B ≤ bw ∧ ∀ i, i < s.roles.length → B ≤ bi i
  ok : PSok s x
theorem RSt.frm {B : Nat} {W V : World} {s : SesD} {v : Value} {x : PS} (h : RSt B W s v x) (hf : Frm [] W V) : RSt B V s v x := by
  obtain ⟨ba, bb, bw, bi, ca, cb, cw, h1, h2, h3⟩ := h.out
  exact ⟨⟨ba, bb, bw, bi, ca, cb, cw, h1, h2.frm hf, h3⟩, h.ok⟩
theorem RSt.low {B B' : Nat} {W : World} {s : SesD} {v : Value} {x : PS} (h : RSt B W s v x) (hb : B' ≤ B) : RSt B' W s v x := by
  obtain ⟨ba, bb, bw, bi, ca, cb, cw, h1, h2, h3, h4, h5, h6⟩ := h.out
  exact ⟨⟨ba, bb, bw, bi, ca, cb, cw, h1, h2, by omega, by omega, by omega, fun i hi => by have := h6 i hi; omega⟩, h.ok⟩
end Go.Proofs.YtkphhjekfimmlaaGreat
