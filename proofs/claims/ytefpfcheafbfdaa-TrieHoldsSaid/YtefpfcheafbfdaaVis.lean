/- A list of words that is built: the visitor of list. visit. list. -/
import Derived.Test.YtefpfcheafbfdaaKeys
import Derived.Deep.RegionHeld
import Derived.ArgAppend
import Derived.Test.YtefpfcheafbfdaaLong
namespace Go.Proofs.Ytefpfcheafbfdaa
open Go.RowKit Go.Maps Go.BigFrame

/-- a word of one's own, whatever its block -/
def OwnB (w : World) (u : Value) (x : Wd) : Prop := ∃ b, w.ownsRow b 5 1 u x.length (x.map u8)
/-- the same, its block at or beyond base -/
def OwnC (w : World) (base : Nat) (u : Value) (x : Wd) : Prop := w.ownsRow base 5 1 u x.length (x.map u8)
/-- a row of words -/
def WL (w : World) (base : Nat) (v : Value) (L : List Wd) : Prop :=
  ∃ vs : List Value, w.ownsRow base 23 1 v L.length vs ∧ ∀ (i : Nat) (x : Wd), L[i]? = some x → ∃ u, vs[i]? = some u ∧ OwnC w base u x
section
variable {w w' : World} {base : Nat} {v : Value} {L : List Wd} {F : List Nat}
theorem OwnB.frm {u : Value} {x : Wd} (h : OwnB w u x) (hf : Frm F w w') (hF : ∀ k ∈ F, ∀ c, w.heap[k]? ≠ some (.cells c 5 (0, 0))) : OwnB w' u x := by
  obtain ⟨b, h⟩ := h
  refine ⟨b, hf.owns h fun k hk hx => ?_⟩
  obtain ⟨c, hc⟩ := ownBlock_type h hk
  exact hF k hx c hc
theorem OwnB.frm0 {u : Value} {x : Wd} (h : OwnB w u x) (hf : Frm [] w w') : OwnB w' u x := h.frm hf (by simp)
theorem OwnB.byts {u : Value} {x : Wd} (h : OwnB w u x) : Byts w u x := by
  obtain ⟨b, h⟩ := h
  exact Byts.of_own h
theorem OwnC.frm {u : Value} {x : Wd} (h : OwnC w base u x) (hf : Frm F w w') (hF : ∀ k ∈ F, ∀ c, w.heap[k]? ≠ some (.cells c 5 (0, 0))) : OwnC w' base u x :=
  hf.owns h fun k hk hx => by
    obtain ⟨c, hc⟩ := ownBlock_type h hk
    exact hF k hx c hc
theorem OwnC.b {u : Value} {x : Wd} (h : OwnC w base u x) : OwnB w u x := ⟨_, h⟩
theorem WL.nil (w : World) (base : Nat) : WL w base (.slice none 0 0) [] := ⟨[], World.ownsRow_nil _ _ _ _, fun i x h => by simp at h⟩
theorem WL.frm (h : WL w base v L) (hf : Frm F w w') (hF : ∀ k ∈ F, ∀ c, w.heap[k]? ≠ some (.cells c 5 (0, 0))) (hv : ∀ k, v.ownBlock = some k → k ∉ F) : WL w' base v L := by
  obtain ⟨vs, h1, h2⟩ := h
  refine ⟨vs, hf.owns h1 hv, fun i x hx => ?_⟩
  obtain ⟨u, e1, e2⟩ := h2 i x hx
  exact ⟨u, e1, e2.frm hf hF⟩
theorem WL.frmB (h : WL w base v L) (hf : Frm F w w') (hF : ∀ k ∈ F, k < base) : WL w' base v L := by
  obtain ⟨vs, h1, h2⟩ := h
  refine ⟨vs, hf.owns h1 (fun k hk hx => by have := ownBlock_ge h1 hk; have := hF k hx; omega), fun i x hx => ?_⟩
  obtain ⟨u, e1, e2⟩ := h2 i x hx
  exact ⟨u, e1, hf.owns e2 (fun k hk hx => by have := ownBlock_ge e2 hk; have := hF k hx; omega)⟩
theorem WL.frm0 (h : WL w base v L) (hf : Frm [] w w') : WL w' base v L := h.frm hf (by simp) (by simp)
theorem WL.snoc {vs : List Value} {v' u : Value} {x : Wd} (h : w.ownsRow base 23 1 v L.length vs ∧ ∀ (i : Nat) (x : Wd), L[i]? = some x → ∃ u, vs[i]? = some u ∧ OwnC w base u x) (hu : OwnC w base u x)
    (hf : Frm F w w') (hF : ∀ k ∈ F, ∀ c, w.heap[k]? ≠ some (.cells c 5 (0, 0))) (ho : w'.ownsRow base 23 1 v' (L.length + 1) (vs ++ [u])) : WL w' base v' (L ++ [x]) := by
  obtain ⟨h1, h2⟩ := h
  have hl : vs.length = L.length := by simpa using h1.1
  refine ⟨vs ++ [u], by simpa using ho, fun i y hy => ?_⟩
  by_cases hi : i < L.length
  · rw [List.getElem?_append_left hi] at hy
    obtain ⟨z, e1, e2⟩ := h2 i y hy
    exact ⟨z, by rw [List.getElem?_append_left (by omega)]; exact e1, e2.frm hf hF⟩
  · have hi2 : i < L.length + 1 := by have := lt_of_some hy; simpa using this
    obtain rfl : i = L.length := by omega
    rw [List.getElem?_append_right (Nat.le_refl _), Nat.sub_self] at hy
    cases hy
    exact ⟨u, by rw [List.getElem?_append_right (by omega), hl, Nat.sub_self]; rfl, hu.frm hf hF⟩
end
/-- the box at C collects words -/
structure XW (w0 : World) (C : Nat) (done : List Wd) (V : World) : Prop where
  fr : Frm [C] w0 V
  lt : C < w0.heap.size
  bx : ∃ v, V.heap[C]? = some (.cells #[v] 22 (0, 0)) ∧ WL V w0.heap.size v done
theorem XW.frm0 {w0 V V' : World} {C : Nat} {done : List Wd} (h : XW w0 C done V) (hf : Frm [] V V') : XW w0 C done V' := by
  obtain ⟨v, h1, h2⟩ := h.bx
  exact ⟨h.fr.then hf (by simp), h.lt, v, hf.at h1 (by simp), h2.frm0 hf⟩
/-- rows of bytes lie as they lay -/
def K5 (V V' : World) : Prop := ∀ (k : Nat) (c : Array Value), V.heap[k]? = some (.cells c 5 (0, 0)) → V'.heap[k]? = some (.cells c 5 (0, 0))
theorem K5.refl (V : World) : K5 V V := fun _ _ h => h
theorem K5.trans {V V' V2 : World} (h : K5 V V') (k : K5 V' V2) : K5 V V2 := fun i c hi => k i c (h i c hi)
theorem K5.frm {F : List Nat} {V V' : World} (h : Frm F V V') (hF : ∀ k ∈ F, ∀ c, V.heap[k]? ≠ some (.cells c 5 (0, 0))) : K5 V V' := fun k c hk => h.at hk (fun hx => hF k hx c hk)
theorem K5.frm0 {V V' : World} (h : Frm [] V V') : K5 V V' := K5.frm h (by simp)
theorem OwnB.k5 {V V' : World} {u : Value} {x : Wd} (h : OwnB V u x) (hk : K5 V V') : OwnB V' u x := by
  obtain ⟨b, h1, h2⟩ := h
  refine ⟨b, h1, ?_⟩
  rcases h2 with h2 | ⟨g, cap, cur, hv, hg, hh, r⟩
  · exact .inl h2
  · exact .inr ⟨g, cap, cur, hv, hg, hk _ _ hh, r⟩
theorem Try.info23 : (Try.prog.info? 23).map (fun i => (i.zero, i.size, i.bytes)) = some (some (.slice none 0 0), 1, 24) := by kernel_rfl
set_option maxHeartbeats 1000000 in
theorem collect_any {w0 V : World} {C : Nat} {done : List Wd} {u : Value} {x : Wd} (h : XW w0 C done V) (hu : OwnC V w0.heap.size u x) (hn : done.length ≤ 2000) :
    Calls Try.prog 61 #[u, .pointer (some ⟨C, 0, none⟩)] V (Ret (.bool true) (fun V' => XW w0 C (done ++ [x]) V' ∧ K5 V V')) := by
  obtain ⟨v, hv, hw⟩ := h.bx
  obtain ⟨vs, hvs⟩ := hw
  have cx := cell_of hv 0
  have HX := Lib.hid h; have HV := Lib.hid hv; have HW := Lib.hid hvs; have HU := Lib.hid hu
  have hs := h.fr.size
  have hb3 : w0.heap.size ≤ (V.alloc (.cells #[u] 23)).heap.size := by simp; omega
  have hb1 : done.length + 1 ≤ maxLen := by unfold maxLen; omega
  have hb2 : (done.length + 1) * 24 ≤ 140737488355328 := by omega
  have HB1 := Lib.hid hb1; have HB2 := Lib.hid hb2; have HB3 := Lib.hid hb3
  obtain ⟨ua, uc, rfl⟩ : ∃ ua uc, u = .slice ua x.length uc := own_shape hu
  have fx0 : ∀ (o : Obj) (w1 : World), (V.alloc o).grownBy w1 v.ownBlock → w1.cell? ⟨C, 0, none⟩ = some v ∧ w1.frozen? ⟨C, 0, none⟩ = false := fun o w1 hg => by
    have hge : ∀ k, v.ownBlock = some k → w0.heap.size ≤ k := fun k hk => ownBlock_ge hvs.1 hk
    have hlt := h.lt
    have hbx : w1.heap[C]? = some (.cells #[v] 22 (0, 0)) := grown_at hg (alloc_at hv) (fun e => by have := hge _ e; omega)
    exact ⟨cell_of hbx 0, free_of hbx 0⟩
  have FX := Lib.hid fx0
  clear h hv hvs hu hs hb1 hb2 hb3 fx0
  obtain ⟨i0, hi0, hz0, hz1, hz2⟩ := info_parts Try.info23
  go_enter Try.func61, Try.ntmps61
  go_wp2_with (at_builtin; refine wpList_append_own_at _ rfl _ _ 22 rfl w0.heap.size 23 i0 (.slice none 0 0) 1 24 Try.underlying22 hi0 hz0 hz1 hz2 rfl (by decide) v done.length vs rfl (HW.out.1.alloc _) ⟨V.heap.size, 0, none⟩ 1 1 [.slice ua x.length uc] rfl rfl (cell_one_new _ _ _) (by simp [Value.oneCell']) HB1.out HB2.out HB3.out ?_; intro v' w1 hown' hgrow _ _; obtain ⟨ao', cp', rfl⟩ := own_shape hown'; obtain ⟨fx1, fx2⟩ := FX.out _ _ hgrow; have HO := Lib.hid hown'; have HG := Lib.hid hgrow; clear hown' hgrow)
  go_ret
  have hlt := HX.out.lt
  have hge : ∀ k, v.ownBlock = some k → w0.heap.size ≤ k := fun k hk => ownBlock_ge HW.out.1 hk
  have h1 : Frm (C :: v.ownBlock.toList) V w1 := ((Frm.refl _ _).alloc _).grown HG.out (fun k hk => .inl (by simp [hk]))
  have h2 : Frm [C] w1 (w1.setCell ⟨C, 0, none⟩ (.slice ao' (done.length + 1) cp')) := (Frm.refl _ _).setCell _ (.inl (by simp)) _
  have hbx : w1.heap[C]? = some (.cells #[v] 22 (0, 0)) := grown_at HG.out (alloc_at HV.out) (fun e => by have := hge _ e; omega)
  have h3 := h1.trans (h2.mono (F' := C :: v.ownBlock.toList) (by simp))
  have hnc : ∀ k ∈ C :: v.ownBlock.toList, ∀ c, V.heap[k]? ≠ some (.cells c 5 (0, 0)) := fun k hk c e => by
    simp only [List.mem_cons, Option.mem_toList] at hk
    rcases hk with rfl | hk
    · rw [HV.out] at e; cases e
    · obtain ⟨c', hc⟩ := ownBlock_type HW.out.1 hk
      rw [hc] at e; cases e
  refine ⟨rfl, ⟨(HX.out.fr.then h3 (fun y hy => ?_)), hlt, _, (block_setCell hbx 0 _).trans rfl, ?_⟩, K5.frm h3 hnc⟩
  · simp only [List.mem_cons, Option.mem_toList] at hy
    rcases hy with rfl | hy
    · exact .inl (by simp)
    · exact .inr (hge _ hy)
  · exact WL.snoc HW.out HU.out h3 hnc (h2.owns HO.out (fun k hk hx => by have := ownBlock_ge HO.out hk; simp at hx; omega))
end Go.Proofs.Ytefpfcheafbfdaa
namespace Go.Proofs.Ytefpfcheafbfdaa
open Go.RowKit Go.Maps Go.BigFrame

/-- one byte more, behind a slice without room -/
theorem app1 {ty : TypeId} {W : World} {ao : Option Addr} {n k : Nat} {l : List UInt8} {c : UInt8} (hb : Byts W (.slice ao n n) l) (hl : l.length = n) (hk : W.cell? ⟨k, 0, none⟩ = some (u8 c)) (hn : n ≤ 1000) :
    ∃ v' W', (Builtin.append_ #[23, 23] ty #[.slice ao n n, .slice (some ⟨k, 0, none⟩) 1 1]).run Try.prog W = .ok v' W' ∧ W'.ownsRow W.heap.size 5 1 v' (n + 1) ((l ++ [c]).map u8) ∧ W.grownBy W' none := by
  obtain ⟨i0, hi0, hz0, hz1, hz2⟩ := info_parts Try.info5
  have hnews : ∀ (j : Nat) (u : Value), [u8 c][j]? = some u → W.cell? ((⟨k, 0, none⟩ : Addr).add j) = some u := fun j u hu => by
    obtain rfl : j = 0 := by have := lt_of_some hu; simpa using this
    cases hu
    rw [Addr.add_lit]; exact hk
  cases ao with
  | none =>
    obtain ⟨ao', cap, e, -, h2⟩ := hb
    injection e with e1 e2 e3
    subst e1
    have hn0 : l = [] := by
      cases l with
      | nil => rfl
      | cons x l => obtain ⟨b, o, e, -⟩ := h2 0 x rfl; cases e
    subst hn0
    obtain rfl : n = 0 := by simpa using hl.symm
    obtain ⟨v', W', hrun, r1, r2, -⟩ := run_append_own (P := Try.prog) W W.heap.size 23 ty 5 i0 (.int .u8 0) 1 1 Try.underlying23 hi0 hz0 hz1 hz2 rfl (by decide) (.slice none 0 0) 0 [] (World.ownsRow_nil _ _ _ _) ⟨k, 0, none⟩ 1 1 [u8 c] rfl hnews (fun u hu => by simp at hu; subst hu; rfl) (by unfold maxLen; omega) (by omega) (Nat.le_refl _)
    exact ⟨v', W', hrun, by simpa using r1, r2⟩
  | some b =>
    obtain ⟨v', W', hrun, r1, r2⟩ := run_append_arg_grows (P := Try.prog) W 23 ty 5 i0 (.int .u8 0) 1 1 Try.underlying23 hi0 hz0 hz1 hz2 rfl (by decide) b n n (l.map u8) (by simp [hl]) (fun j u hu => by
      obtain ⟨ao', cap, e, -, h2⟩ := hb
      cases e
      rw [List.getElem?_map, Option.map_eq_some_iff] at hu
      obtain ⟨x, hx, rfl⟩ := hu
      obtain ⟨b', o, e, h3⟩ := h2 j x hx
      cases e
      rw [Addr.add_lit]; exact h3) ⟨k, 0, none⟩ 1 1 [u8 c] rfl hnews (by omega) (by unfold maxLen; omega) (by omega)
    exact ⟨v', W', hrun, by simpa using r1, r2⟩
theorem step_app1 {ops : Array Oper} {o : Oper} {a : Act} {w : World} {K : Act → World → Prop} {Q : Exit → Act → World → Prop} {E : Prop} (hgd : o.guard = none) (s x : Operand) (ho : o.op = .call { callee := .builtin .append, args := #[s, x], argTypes := #[23, 23] })
    (ao : Option Addr) (n k : Nat) (l : List UInt8) (c : UInt8) (hs : a.eval s = .slice ao n n) (hx : a.eval x = .slice (some ⟨k, 0, none⟩) 1 1) (hb : Byts w (.slice ao n n) l) (hl : l.length = n) (hk : w.cell? ⟨k, 0, none⟩ = some (u8 c)) (hn : n ≤ 1000)
    (h : ∀ ao' cp w', w'.ownsRow w.heap.size 5 1 (.slice ao' (n + 1) cp) (n + 1) ((l ++ [c]).map u8) → w.grownBy w' none → K (a.put o.dst (.slice ao' (n + 1) cp)) w') : if Region.wanted o (yielded ops a.tmps) = true then Oper.wp Try.prog o a w K Q else E := by
  have hw : Region.wanted o (yielded ops a.tmps) = true := by simp [Region.wanted, hgd]
  rw [if_pos hw]
  obtain ⟨v', w', hrun, r1, r2⟩ := app1 (ty := o.type) hb hl hk hn
  obtain ⟨ao', cp, rfl⟩ := own_shape r1
  unfold Oper.wp
  simp [execOp, ho, resolve, invoke, builtin, hs, hx, hrun, Result.andThen]
  exact h ao' cp w' r1 r2
/-- b[:len(b):len(b)] -/
theorem cutN {w : World} {ao : Option Addr} {n cap : Nat} {l : List UInt8} (h : Byts w (.slice ao n cap) l) (hl : l.length = n) : ∃ ao', (∀ W, (Instr.sliceAt 23 (.slice ao n cap) none (some (.int .i64 (n : Int))) (some (.int .i64 (n : Int)))).run Try.prog W = .ok (.slice ao' n n) W) ∧ Byts w (.slice ao' n n) l := by
  subst hl
  have h3 : l.length ≤ cap := by obtain ⟨x, y, e, h⟩ := h.len; cases e; exact h
  have hb := h.sliced (i := 0) (m := l.length) (Nat.zero_le _) (Nat.le_refl _) (Nat.le_refl _)
  rw [List.drop_zero, List.take_length] at hb
  refine ⟨if l.length = 0 then ao else ao.map (·.add (0 * 1)), fun W => ?_, ?_⟩
  · rw [run_sliceAt_slice W 23 _ _ _ _ Try.under23, run_slice_hm W 23 ao l.length cap Try.under23 .i64 .i64 (l.length : Int) (l.length : Int) (by omega) (by omega) (by omega), Try.elem23, Try.sizeOf5]
    simp [Result.andThen, sliced]
  · unfold sliced at hb
    simpa using hb
/-- what the rounds carry -/
structure VR (w0 : World) (C : Nat) (done : List Wd) (kv bv : Value) (ks : List UInt8) (p : Wd) (V0 V : World) : Prop where
  xw : XW w0 C done V
  kv : OwnB V kv ks
  bv : OwnB V bv p
  k5 : K5 V0 V
theorem flat_step {ks : List UInt8} {i : Nat} {c : UInt8} (h : ks[i]? = some c) (f : UInt8 → List Wd) : (ks.take (i + 1)).flatMap f = (ks.take i).flatMap f ++ f c := by
  rw [take_step h, List.flatMap_append]
  simp
theorem TR.xw {w0 V : World} {tb C n N : Nat} {P W : Wd → Bool} {NB MB : Wd → Nat} {done : List Wd} (h : TR w0 tb P W n NB MB N) (hC : ∃ c, w0.heap[C]? = some (.cells c 22 (0, 0))) (hx : XW w0 C done V) : TR V tb P W n NB MB N :=
  h.other hx.fr (fun k hk => by
    simp at hk
    subst hk
    obtain ⟨c, hc⟩ := hC
    exact ⟨c, 22, hc, by decide, by decide⟩)
set_option maxHeartbeats 2000000 in
set_option maxRecDepth 100000 in
theorem visit_any {w0 : World} {tb N C : Nat} {L : List Wd} {NB MB : Wd → Nat} (hT : TL w0 tb L NB MB N) (hC : ∃ c, w0.heap[C]? = some (.cells c 22 (0, 0))) (hS : Sorted L) (h64 : ∀ x ∈ L, x.length ≤ 64) (_ : L.length ≤ 1000) :
    ∀ (d : Nat) (p : Wd) (V : World) (bv : Value) (done : List Wd), XW w0 C done V → pre L p = true → 65 ≤ p.length + d → OwnB V bv p → done.length + (withP L p).length ≤ 1000 →
    Calls Try.prog 60 #[nodeV NB p, bv, .func (.func 61) #[] #[.pointer (some ⟨C, 0, none⟩)]] V (Ret (.bool true) (fun V' => XW w0 C (done ++ withP L p) V' ∧ K5 V V')) := by
  intro d
  induction d with
  | zero =>
    intro p V bv done _ hp hd
    exfalso
    rcases pre_iff.1 hp with rfl | ⟨x, hx, hpx⟩
    · simp at hd
    · have := h64 x hx; have := hpx.length_le; omega
  | succ d ih =>
    intro p V bv done hx hp hd hb hlen
    have hpl : p.length ≤ 64 := by
      rcases pre_iff.1 hp with rfl | ⟨x, hx, hpx⟩
      · simp
      · have := h64 x hx; have := hpx.length_le; omega
    have hsp := with_split hS p
    have HT : Hid (∀ done V, XW w0 C done V → TL V tb L NB MB N) := Lib.hid fun done V h => hT.xw hC h
    obtain ⟨ks, hks⟩ : ∃ ks, kids L p = ks := ⟨_, rfl⟩
    rw [hks] at hsp
    have HKS := Lib.hid hks
    obtain ⟨d1, hd1⟩ : ∃ d1, done ++ (if p ∈ L then [p] else []) = d1 := ⟨_, rfl⟩
    have hfin : done ++ withP L p = d1 ++ ks.flatMap fun c => withP L (p ++ [c]) := by rw [hsp, ← hd1, List.append_assoc]
    have hlen2 : (d1 ++ ks.flatMap fun c => withP L (p ++ [c])).length ≤ 1000 := by rw [← hfin, List.length_append]; exact hlen
    rw [hfin]
    obtain ⟨ba, bc, rfl⟩ : ∃ ba bc, bv = .slice ba p.length bc := by obtain ⟨b, h⟩ := hb; exact own_shape h
    have c0 := cell_of ((HT.out _ _ hx).node p hp) 0
    obtain ⟨np, hnp⟩ : ∃ np, p.length = np := ⟨_, rfl⟩
    have CC := Lib.hid (clone_any (.slice ba p.length bc) p V hb.byts (by omega))
    have hdl : done.length ≤ 2000 := by omega
    have CQ : Hid (∀ W u, XW w0 C done W → OwnC W w0.heap.size u p → Calls Try.prog 61 #[u, .pointer (some ⟨C, 0, none⟩)] W (Ret (.bool true) (fun V' => XW w0 C (done ++ [p]) V' ∧ K5 W V'))) := Lib.hid fun W u h1 h2 => collect_any h1 h2 hdl
    have HX := Lib.hid hx; have HB := Lib.hid hb; have HL2 := Lib.hid hlen2; have HD1 := Lib.hid hd1; have HPP := Lib.hid hp
    have IH := Lib.hid ih
    have HNP := Lib.hid hnp
    rw [hnp] at CC HB hpl hd ⊢
    obtain ⟨m, hm⟩ : ∃ m, memB L p = m := ⟨_, rfl⟩
    rw [hm] at c0
    have HM := Lib.hid hm
    unfold nodeV
    clear hx hb hlen hlen2 hfin hsp hks hd1 ih hp hm hdl hnp
    go_enter Try.func60, Try.ntmps60
    go_upto_region 1 with fail
    go_cut [19] from 9 to 19 (fun s19 wx => s19 = .bool false ∧ XW w0 C d1 wx ∧ K5 V wx)
    case first =>
      cases m with
      | true =>
        have hin : p ∈ L := memB_iff.1 HM.out
        have hd1 : done ++ [p] = d1 := by have := HD1.out; rwa [if_pos hin] at this
        rw [hd1] at CQ
        clear hin hd1
        go_wp2_with (first
          | (go_at_call 51; go_must (refine CC.out.mono ?_; clear CC; rintro e w1 ⟨v, rfl, h1⟩; obtain ⟨va, vc, rfl⟩ := own_shape h1.1; have H1 := Lib.hid h1; clear h1))
          | (go_at_call 61; go_must (refine (CQ.out _ _ (HX.out.frm0 H1.out.2) (own_low H1.out.1 HX.out.fr.size)).mono ?_; clear CQ; rintro e w2 ⟨rfl, h2, h3⟩; have H2 := Lib.hid h2; have H3 := Lib.hid h3; clear h2 h3)))
        go_meet
        exact ⟨rfl, H2.out, (K5.frm0 H1.out.2).trans H3.out⟩
      | false =>
        have hin : ¬ p ∈ L := fun h => by have := memB_iff.2 h; rw [HM.out] at this; cases this
        have hd1 : done = d1 := by have := HD1.out; rwa [if_neg hin, List.append_nil] at this
        subst hd1
        clear hin
        go_wp2
        go_meet
        exact ⟨rfl, HX.out, K5.refl _⟩
    case rest =>
      obtain ⟨rfl, hx1, hk1⟩ := hcut
      have hT1 := HT.out _ _ hx1
      have c1 := cell_of (hT1.node p HPP.out) 1
      have CK0 := keys_any hT1 HPP.out
      rw [← kids_eq, HKS.out] at CK0
      have CK := Lib.hid CK0
      have HX1 := Lib.hid hx1; have HK1 := Lib.hid hk1
      have HB1 := Lib.hid (HB.out.k5 hk1)
      obtain ⟨nk, hnk⟩ : ∃ nk, ks.length = nk := ⟨_, rfl⟩
      have HNK := Lib.hid hnk
      have hnk2 : nk ≤ 256 := by rw [← hnk, ← HKS.out, kids_eq]; exact nodup_256 (kidsP_nd _ _)
      clear hx1 hk1 hT1 CK0 c0 CC CQ hnk HX
      obtain ⟨W1, hW1⟩ : ∃ W1, W1 = wc := ⟨_, rfl⟩
      subst hW1
      go_wp2_with (go_at_call 56; go_must (refine CK.out.mono ?_; clear CK; rintro e w1 ⟨v, rfl, h1⟩; obtain ⟨ka, kc, rfl⟩ := own_shape h1.1; have H1 := Lib.hid h1; clear h1; rw [HNK.out]))
      have HV0 : Hid (VR w0 C (d1 ++ (ks.take 0).flatMap fun c => withP L (p ++ [c])) (.slice ka nk kc) (.slice ba np bc) ks p V w1) := Lib.hid (by
        refine ⟨by simpa using HX1.out.frm0 H1.out.2, ?_, HB1.out.frm0 H1.out.2, HK1.out.trans (K5.frm0 H1.out.2)⟩
        have := H1.out.1
        rw [HNK.out] at this
        exact ⟨W1.heap.size, by rw [HNK.out]; exact this⟩)
      clear H1 c1 HX1 HK1 HB1 HB HD1 HM
      go_loopw [26] (fun s26 wr => ∃ i : Nat, s26 = .int .i64 i ∧ i ≤ nk ∧ VR w0 C (d1 ++ (ks.take i).flatMap fun c => withP L (p ++ [c])) (.slice ka nk kc) (.slice ba np bc) ks p V wr) (fun s26 _ => nk - (intOf s26).toNat)
      case atStart => exact ⟨0, rfl, Nat.zero_le _, HV0.out⟩
      case round =>
        clear HV0
        obtain ⟨i, rfl, hi, hv⟩ := hrel
        have HV := Lib.hid hv
        clear hv
        by_cases hlt : i < nk
        · have hlt' : (i : Int) < (nk : Int) := by omega
          obtain ⟨x, hx⟩ : ∃ x, ks[i]? = some x := ⟨_, List.getElem?_eq_getElem (by rw [HNK.out]; exact hlt)⟩
          obtain ⟨ao, cap, e, -, h2⟩ := HV.out.kv.byts
          injection e with e1 e2 e3
          obtain ⟨b', o, eo, cx⟩ := h2 i x hx
          rw [eo] at e1
          subst e1
          have hT1 := HT.out _ _ HV.out.xw
          have hkp : pre L (p ++ [x]) = true := mem_kids.1 (by rw [HKS.out]; exact List.mem_of_getElem? hx)
          have hlk := hT1.lookup HPP.out x
          unfold kidF at hlk
          rw [if_pos hkp] at hlk
          have c1 := cell_of (hT1.node p HPP.out) 1
          obtain ⟨ao', hcut, hcb⟩ := cutN HV.out.bv.byts HNP.out
          have HSX : Hid (∀ dn W, XW w0 C dn W → W.cell? ⟨NB p, 1, none⟩ = some (.map (some (MB p))) ∧ (Instr.lookup 66 (.map (some (MB p))) (_root_.Go.Proofs.Ytefpfcheafbfdaa.u8 x) false).run Try.prog W = .ok (nodeV NB (p ++ [x])) W) := Lib.hid fun dn W hx => by
            have hT2 := HT.out _ _ hx
            refine ⟨cell_of (hT2.node p HPP.out) 1, ?_⟩
            have := hT2.lookup HPP.out x
            unfold kidF at this
            rw [if_pos hkp] at this
            exact this
          have HS : Hid (∀ W, Frm [] wr W → W.cell? ⟨NB p, 1, none⟩ = some (.map (some (MB p))) ∧ (Instr.lookup 66 (.map (some (MB p))) (_root_.Go.Proofs.Ytefpfcheafbfdaa.u8 x) false).run Try.prog W = .ok (nodeV NB (p ++ [x])) W) := Lib.hid fun W hf => HSX.out _ _ (HV.out.xw.frm0 hf)
          have HCB := Lib.hid hcb
          have HFL := Lib.hid (flat_step hx fun c => withP L (p ++ [c]))
          obtain ⟨dn, hdn⟩ : ∃ dn, (d1 ++ (ks.take i).flatMap fun c => withP L (p ++ [c])) = dn := ⟨_, rfl⟩
          have hdn2 : (d1 ++ (ks.take (i + 1)).flatMap fun c => withP L (p ++ [c])) = dn ++ withP L (p ++ [x]) := by rw [HFL.out, ← List.append_assoc, hdn]
          have hdl : dn.length + (withP L (p ++ [x])).length ≤ 1000 := by
            refine Nat.le_trans ?_ HL2.out
            rw [← List.length_append, ← hdn2, List.length_append, List.length_append]
            refine Nat.add_le_add_left ?_ _
            have : ks.flatMap (fun c => withP L (p ++ [c])) = (ks.take (i + 1)).flatMap (fun c => withP L (p ++ [c])) ++ (ks.drop (i + 1)).flatMap (fun c => withP L (p ++ [c])) := by
              rw [← List.flatMap_append, List.take_append_drop]
            rw [this, List.length_append]
            omega
          have CR : Hid (∀ W bv, XW w0 C dn W → OwnB W bv (p ++ [x]) → Calls Try.prog 60 #[nodeV NB (p ++ [x]), bv, .func (.func 61) #[] #[.pointer (some ⟨C, 0, none⟩)]] W (Ret (.bool true) (fun V' => XW w0 C (dn ++ withP L (p ++ [x])) V' ∧ K5 W V'))) := Lib.hid fun W bv h1 h2 =>
            IH.out (p ++ [x]) W bv dn h1 hkp (by rw [List.length_append, HNP.out]; simp; omega) h2 hdl
          have HV2 : Hid (VR w0 C dn (.slice (some ⟨b', o, none⟩) nk kc) (.slice ba np bc) ks p V wr) := Lib.hid (by rw [← hdn]; exact HV.out)
          have HDN := Lib.hid hdn2
          have HCN : Hid ((wr.alloc (.cells #[.int .u8 x.toNat] 5)).drew.cell? ⟨wr.heap.size, 0, none⟩ = some (_root_.Go.Proofs.Ytefpfcheafbfdaa.u8 x)) := Lib.hid (cell_of (w := (wr.alloc (.cells #[.int .u8 x.toNat] 5)).drew) (show (wr.alloc (.cells #[.int .u8 x.toNat] 5)).heap[wr.heap.size]? = _ from alloc_top rfl) 0)
          have HN1 : Hid (np ≤ 1000) := Lib.hid (by omega)
          have HOW : Hid (∀ (W : World) (B : Nat) (a4 : Option Addr) (c4 : Nat), W.ownsRow B 5 1 (.slice a4 (np + 1) c4) (np + 1) ((p ++ [x]).map _root_.Go.Proofs.Ytefpfcheafbfdaa.u8) → OwnB W (.slice a4 (np + 1) c4) (p ++ [x])) := Lib.hid fun W B a4 c4 h => ⟨B, by rw [List.length_append, HNP.out]; exact h⟩
          unfold _root_.Go.Proofs.Ytefpfcheafbfdaa.u8 at cx hlk HS HSX
          unfold nodeV at hlk HS HSX CR
          have HNK2 := HNK
          clear hx hcb hkp hdn hdn2 hdl HV hT1 IH h2 e2 e3 HFL hlk c1
          have c1 := (HS.out wr (Frm.refl _ _)).1
          have hlk := (HS.out wr (Frm.refl _ _)).2
          go_upto_region 6 with fail
          go_region_held3 (fun W => W.cell? ⟨NB p, 1, none⟩ = some (.map (some (MB p))) ∧ (Instr.lookup 66 (.map (some (MB p))) (.int .u8 x.toNat) false).run Try.prog W = .ok (.pointer (some ⟨NB (p ++ [x]), 0, none⟩)) W)
            (first
              | exact HS.out _ ((Frm.refl [] wr).drew)
              | exact HS.out _ (((Frm.refl [] wr).drew).alloc _)
              | exact HSX.out _ _ H5.out
              | exact HS.out _ F4.out)
            (first
              | (refine step_app1 (w := (wr.alloc (.cells #[.int .u8 x.toNat] 5)).drew) rfl (.tmp 41) (.tmp 43) rfl ao' np wr.heap.size p x ?_ ?_ (HCB.out.frm0 ((Frm.refl [] wr).alloc _).drew) HNP.out HCN.out HN1.out ?_; (focus (go_simp; done)); (focus (go_simp; done)); intro ao4 cp4 w4 hown hgrow; have O4 := Lib.hid hown; have F4 : Hid (Frm [] wr w4) := Lib.hid ((((Frm.refl [] wr).alloc _).drew).grown hgrow (by simp)); clear hown hgrow)
              | (go_at_call 60; go_must (refine (CR.out w4 (.slice ao4 (np + 1) cp4) (HV2.out.xw.frm0 F4.out) (HOW.out w4 _ ao4 cp4 O4.out)).mono ?_; clear CR HOW; rintro e w5 ⟨rfl, h5, h6⟩; have H5 := Lib.hid h5; have H6 := Lib.hid h6; clear h5 h6)))
          all_goals
            go_wp2
            refine ⟨⟨i + 1, by push_cast; rfl, by omega, ?_⟩, by simp [intOf]; omega⟩
            rw [HDN.out]
            have hk6 := (K5.frm0 F4.out).trans H6.out
            exact ⟨H5.out, HV2.out.kv.k5 hk6, HV2.out.bv.k5 hk6, HV2.out.k5.trans hk6⟩
        · obtain rfl : i = nk := by omega
          have hge : ¬ (i : Int) < (i : Int) := by omega
          go_wp2
          go_ret
          refine ⟨rfl, ?_, HV.out.k5⟩
          have := HV.out.xw
          rw [← HNK.out, List.take_length] at this
          exact this
end Go.Proofs.Ytefpfcheafbfdaa
namespace Go.Proofs.Ytefpfcheafbfdaa
open Go.RowKit Go.Maps Go.BigFrame

theorem WL.low {w : World} {base base' : Nat} {v : Value} {L : List Wd} (h : WL w base v L) (hb : base' ≤ base) : WL w base' v L := by
  obtain ⟨vs, h1, h2⟩ := h
  refine ⟨vs, own_low h1 hb, fun i x hx => ?_⟩
  obtain ⟨u, e1, e2⟩ := h2 i x hx
  exact ⟨u, e1, own_low e2 hb⟩
theorem withP_none {L : List Wd} {b : Wd} (h : pre L b = false) : withP L b = [] := by
  refine List.eq_nil_iff_forall_not_mem.2 fun x hx => ?_
  obtain ⟨h1, h2⟩ := mem_with.1 hx
  rw [pre_of_prefix h2 (pre_mem h1)] at h; cases h
section
variable {w : World} {tb N : Nat} {L : List Wd} {NB MB : Wd → Nat}
set_option maxHeartbeats 1000000 in
theorem list_any (h : TL w tb L NB MB N) (hS : Sorted L) (h64 : ∀ x ∈ L, x.length ≤ 64) (hn : L.length ≤ 1000) (bv : Value) (b : List UInt8) (hb : Byts w bv b) (hbn : b.length ≤ 1000) :
    Calls Try.prog 49 #[.pointer (some ⟨tb, 0, none⟩), bv] w (RetV fun v w' => WL w' w.heap.size v (withP L b) ∧ Frm [] w w') := by
  obtain ⟨W, hW⟩ : ∃ W, W = w.alloc (.cells #[.slice none 0 0] 22) := ⟨_, rfl⟩
  obtain ⟨C, hCC⟩ : ∃ C, C = w.heap.size := ⟨_, rfl⟩
  have hF : Frm [] w W := by rw [hW]; exact (Frm.refl _ _).alloc _
  have hC : W.heap[C]? = some (.cells #[.slice none 0 0] 22 (0, 0)) := by rw [hW, hCC]; exact alloc_top rfl
  have hT := h.frm0 hF
  have hbW := hb.frm0 hF
  have CF := find_any hT bv b hbW (by omega)
  unfold findV at CF
  have hX : XW W C [] W := ⟨Frm.refl _ _, lt_of_block hC, _, hC, WL.nil _ _⟩
  have HCC := Lib.hid hCC; have HF := Lib.hid hF; have HC := Lib.hid hC; have HX := Lib.hid hX
  obtain ⟨ba, bc, rfl, -, -⟩ := hb
  cases hp : pre L b with
  | false =>
    rw [hp, if_neg (by simp)] at CF
    rw [withP_none hp]
    have CF := Lib.hid CF
    have c0 := cell_of hC 0
    have f0 := free_of hC 0
    clear h hS hT hbW hX hp hF hC
    go_enter Try.func49, Try.ntmps49
    go_upto_region 1 with fail
    rw [← hW, ← hCC]
    clear hW hCC
    go_wp2_with (go_at_call 54; go_must (refine CF.out.mono ?_; clear CF; rintro e w' ⟨rfl, rfl⟩))
    have b2 := block_setCell HC.out 0 (.slice none 0 0)
    have c2 := cell_of b2 0
    refine bodyPost_ret (v := .slice none 0 0) ?_ rfl ⟨_, rfl, WL.nil _ _, ?_⟩
    · simp [results, Try.results49, go_sem, c2]
    · exact HF.out.then ((Frm.refl [C] W).setCell _ (.inl (by simp)) _) (by intro x hx; simp at hx; right; have := HCC.out; omega)
  | true =>
    rw [hp, if_pos rfl] at CF
    have CL := Lib.hid (clone_any (.slice ba b.length bc) b W hbW (by omega))
    have CF := Lib.hid CF
    have CV : Hid (∀ V v, Fresh W b v V → Calls Try.prog 60 #[nodeV NB b, v, .func (.func 61) #[] #[.pointer (some ⟨C, 0, none⟩)]] V (Ret (.bool true) (fun V' => XW W C (withP L b) V' ∧ K5 V V'))) := Lib.hid fun V v hf =>
      visit_any hT ⟨_, HC.out⟩ hS h64 hn 65 b V v [] (HX.out.frm0 hf.2) hp (by omega) ⟨_, hf.1⟩ (by
        simp only [List.length_nil, Nat.zero_add]
        exact Nat.le_trans (List.length_filter_le _ _) hn)
    unfold nodeV at CF CV
    clear h hS hT hbW hX hp hF hC h64 hn
    go_enter Try.func49, Try.ntmps49
    go_upto_region 1 with fail
    rw [← hW, ← hCC]
    clear hW hCC
    go_upto_region 4 with (first
      | (go_at_call 54; go_must (refine CF.out.mono ?_; clear CF; rintro e w' ⟨rfl, rfl⟩))
      | (go_at_call 51; go_must (refine CL.out.mono ?_; clear CL; rintro e w1 ⟨v, rfl, h1⟩; obtain ⟨va, vc, rfl⟩ := own_shape h1.1; have H1 := Lib.hid h1; clear h1))
      | (go_at_call 60; go_must (refine (CV.out _ _ H1.out).mono ?_; clear CV; rintro e w2 ⟨rfl, h2, -⟩; have H2 := Lib.hid h2; clear h2)))
    obtain ⟨v, hv, hw⟩ := H2.out.bx
    obtain ⟨a, c, rfl⟩ : ∃ a c, v = .slice a (withP L b).length c := by obtain ⟨vs, h1, -⟩ := hw; exact own_shape h1
    have c0 := cell_of hv 0
    have f0 := free_of hv 0
    have HV := Lib.hid hv; have HW := Lib.hid hw
    clear hv hw
    go_wp2
    have b2 := block_setCell HV.out 0 (.slice a (withP L b).length c)
    have c2 := cell_of b2 0
    have hf2 : Frm [C] w2 (w2.setCell ⟨C, 0, none⟩ (.slice a (withP L b).length c)) := (Frm.refl [C] w2).setCell _ (.inl (by simp)) _
    have hWs : w.heap.size ≤ W.heap.size := HF.out.size
    refine bodyPost_ret (v := .slice a (withP L b).length c) ?_ rfl ⟨_, rfl, ?_, ?_⟩
    · simp [results, Try.results49, go_sem, c2]
    · refine (HW.out.frm hf2 (fun k hk c' e => ?_) (fun k hk hx => ?_)).low hWs
      · simp at hk; subst hk; rw [HV.out] at e; cases e
      · simp at hx; subst hx
        obtain ⟨vs, h1, -⟩ := HW.out
        have := ownBlock_ge h1 hk
        have := H2.out.lt
        omega
    · exact HF.out.then (H2.out.fr.trans hf2) (by intro x hx; simp at hx; right; have := HCC.out; omega)
end
end Go.Proofs.Ytefpfcheafbfdaa
