import Derived.Test.YtdhkcjjcgpkkgaaFirst
import Derived.Maps.AppendAt
namespace Go.Proofs.Ytdhkcjjcgpkkgaa
open Go.RowKit Go.Maps

theorem Try.info3 : (Try.prog.info? 3).map (fun i => (i.zero, i.size, i.bytes)) = some (some (.int .i64 0), 1, 8) := by kernel_rfl

theorem fire_none {f : Nat} {D : DMap} {now : Int} (h : firstOf D = none) : fire (f + 1) D now = ([], D) := by simp [fire, h]
theorem fire_late {f : Nat} {D : DMap} {now : Int} {x : Int × Int} (h : firstOf D = some x) (hl : ¬ x.1 ≤ now) : fire (f + 1) D now = ([], D) := by simp [fire, h, hl]
theorem fire_hit {f : Nat} {D : DMap} {now : Int} {x : Int × Int} (h : firstOf D = some x) (hl : x.1 ≤ now) : fire (f + 1) D now = (x.2 :: (fire f (upd D x.2 none) now).1, (fire f (upd D x.2 none) now).2) := by simp [fire, h, hl]
theorem cnt_del {now : Int} {D : DMap} (hg : Good now D) {t d : Int} (h : D t = some d) : cnt (upd D t none) + 1 = cnt D := by
  have := cnt_upd D (hg.2.2 t d h).1 (hg.2.2 t d h).2.1 none
  simpa [h] using this

def firstX (D : DMap) : Int × Int := (firstOf D).getD (0, 0)
theorem first_x (cb : Nat) (now : Int) (D : DMap) (N : Nat) (F : List Nat) (w : World) (h : Clk w cb now D N F) (hN : N ≤ 1000000) :
    Calls Try.prog 31 #[.pointer (some ⟨cb, 0, none⟩)] w (Ret (.tuple #[.agg #[.int .i64 (firstX D).1, .int .i64 (firstX D).2], .bool (firstOf D).isSome]) (ClkTo w cb now D N F)) := by
  have := first_any cb now D N F w h hN
  have e : firstV D = .agg #[.int .i64 (firstX D).1, .int .i64 (firstX D).2] := by
    unfold firstV firstX entV; cases firstOf D <;> rfl
  rwa [e] at this
/-- the cells of the loop's entry -/
def xCells (D : DMap) : Array Value := #[.int .i64 (firstX D).1, .int .i64 (firstX D).2]
/-- the state at a round of Advance -/
def AInv (w : World) (cb : Nat) (now : Int) (D : DMap) (N : Nat) (F : List Nat) (g : Nat) (v : Value) (xb : Nat) (b : Bool) (wr : World) : Prop :=
  ∃ D1 F1 out, Clk wr cb now D1 N F1 ∧ Frm F w wr ∧ (∀ x ∈ F1, x ∈ F ∨ w.heap.size ≤ x) ∧ wr.ownsRow w.heap.size 3 1 v out.length (out.map (Value.int .i64)) ∧ (∀ k, v.ownBlock = some k → k ∉ F1) ∧
    w.heap.size ≤ xb ∧ xb ∉ F1 ∧ wr.heap[xb]? = some (.cells (xCells D1) 70 (0, 0)) ∧ b = (firstOf D1).isSome ∧ fire 257 D now = (out ++ (fire g D1 now).1, (fire g D1 now).2) ∧ cnt D1 < g ∧ out.length + g ≤ 257
/-- the end of Advance -/
def AEnd (w : World) (cb : Nat) (now : Int) (D : DMap) (N : Nat) (F : List Nat) (v : Value) (w' : World) : Prop :=
  ∃ F1 out, Clk w' cb now (fire 257 D now).2 N F1 ∧ Frm F w w' ∧ (∀ x ∈ F1, x ∈ F ∨ w.heap.size ≤ x) ∧ out = (fire 257 D now).1 ∧ w'.ownsRow w.heap.size 3 1 v out.length (out.map (Value.int .i64)) ∧ (∀ k, v.ownBlock = some k → k ∉ F1)

theorem AInv.stop {w wr w2 : World} {cb : Nat} {now : Int} {D : DMap} {N : Nat} {F : List Nat} {g : Nat} {v : Value} {D1 : DMap} {F1 : List Nat} {out : List Int}
    (h1 : Clk wr cb now D1 N F1) (h2 : Frm F w wr) (h3 : ∀ x ∈ F1, x ∈ F ∨ w.heap.size ≤ x) (h4 : wr.ownsRow w.heap.size 3 1 v out.length (out.map (Value.int .i64))) (h5 : ∀ k, v.ownBlock = some k → k ∉ F1)
    (h6 : fire 257 D now = (out ++ (fire g D1 now).1, (fire g D1 now).2)) (h7 : fire g D1 now = ([], D1)) (hf : Frm [] wr w2) : AEnd w cb now D N F v w2 := by
  rw [h7] at h6
  refine ⟨F1, out, ?_, h2.then hf (by simp), h3, by rw [h6]; simp, hf.owns h4 (by simp), h5⟩
  rw [h6]
  exact h1.frm hf (by simp)

theorem AInv.start {w W w1 : World} {cb : Nat} {now : Int} {D : DMap} {N : Nat} {F : List Nat} (hF : Frm F w W) (h : ClkTo W cb now D N F w1) (hc : cnt D < 257) :
    AInv w cb now D N F 257 (.slice none 0 0) w1.heap.size (firstOf D).isSome (w1.alloc (.cells (xCells D) 70)) := by
  obtain ⟨F1, h1, h2, h3⟩ := h
  have hf : Frm [] w1 (w1.alloc (.cells (xCells D) 70)) := (Frm.refl _ _).alloc _
  have hs := hF.size
  have hs2 := h2.size
  refine ⟨D, F1, [], h1.frm hf (by simp), (hF.trans h2).then hf (by simp), fun x hx => ?_, World.ownsRow_nil _ _ _ _, by simp [Value.ownBlock], by omega, fun hx => by have := h1.lt _ hx; omega, heap_alloc_new _ _, rfl, by simp, hc, by simp⟩
  rcases h3 x hx with h | h
  · exact .inl h
  · right; omega
/-- the next round, once a timer is fired -/
theorem AInv.next {w wr wd w1 : World} {cb : Nat} {now : Int} {D : DMap} {N : Nat} {F : List Nat} {g : Nat} {v v' : Value} {D1 : DMap} {F1 : List Nat} {out : List Int} {x : Int × Int}
    (h2 : Frm F w wr) (h3 : ∀ x ∈ F1, x ∈ F ∨ w.heap.size ≤ x) (h6 : fire 257 D now = (out ++ (fire (g + 1) D1 now).1, (fire (g + 1) D1 now).2)) (hg : Good now D1)
    (hx : firstOf D1 = some x) (hle : x.1 ≤ now) (hc : cnt D1 < g + 1) (hl : out.length + (g + 1) ≤ 257)
    (hwd : Frm (F1 ++ v.ownBlock.toList) wr wd) (hv : ∀ k, v.ownBlock = some k → w.heap.size ≤ k) (ho : wd.ownsRow w.heap.size 3 1 v' (out.length + 1) (out.map (Value.int .i64) ++ [.int .i64 x.2])) (_ : ∀ k, v'.ownBlock = some k → k ∉ F1)
    {F2 : List Nat} {a b : Value} (hd : Clk wd cb now (upd D1 x.2 none) N F2) (hF2 : ∀ y ∈ F2, y ∈ F1 ∨ wr.heap.size ≤ y) (hvn2 : ∀ k, v'.ownBlock = some k → k ∉ F2)
    (hto : ClkTo (wd.alloc (.cells #[a, b] 70)) cb now (upd D1 x.2 none) N F2 w1) :
    AInv w cb now D N F g v' wd.heap.size (firstOf (upd D1 x.2 none)).isSome ((w1.setCell ⟨wd.heap.size, 0, none⟩ (.int .i64 (firstX (upd D1 x.2 none)).1)).setCell ⟨wd.heap.size, 1, none⟩ (.int .i64 (firstX (upd D1 x.2 none)).2)) := by
  obtain ⟨F3, k1, k2, k3⟩ := hto
  have hfa : Frm [] wd (wd.alloc (.cells #[a, b] 70)) := (Frm.refl _ _).alloc _
  have hnew : (wd.alloc (.cells #[a, b] 70)).heap[wd.heap.size]? = some (.cells #[a, b] 70) := heap_alloc_new _ _
  have hxF2 : wd.heap.size ∉ F2 := fun hx => by have := hd.lt _ hx; omega
  have hx1 := k2.at hnew hxF2
  have hf : Frm [wd.heap.size] w1 ((w1.setCell ⟨wd.heap.size, 0, none⟩ (.int .i64 (firstX (upd D1 x.2 none)).1)).setCell ⟨wd.heap.size, 1, none⟩ (.int .i64 (firstX (upd D1 x.2 none)).2)) :=
    ((Frm.refl _ _).setCell _ (.inl (by simp)) _).setCell _ (.inl (by simp)) _
  have hs1 := h2.size
  have hs2 := hwd.size
  have hs3 := k2.size
  have hsa : (wd.alloc (.cells #[a, b] 70)).heap.size = wd.heap.size + 1 := by simp
  have hw : Frm F w wd := h2.then hwd fun y hy => by
    rcases List.mem_append.1 hy with h | h
    · exact h3 y h
    · right; simp at h; exact hv y h
  have hF2' : ∀ y ∈ F2, y ∈ F ∨ w.heap.size ≤ y := fun y hy => by
    rcases hF2 y hy with h | h
    · exact h3 y h
    · right; omega
  have hcd := cnt_del hg (firstOf_some hg hx).1
  have ho2 : w1.ownsRow w.heap.size 3 1 v' _ _ := k2.owns (hfa.owns ho (by simp)) hvn2
  have hxF3 : wd.heap.size ∉ F3 := fun hx => by
    rcases k3 _ hx with h | h
    · exact hxF2 h
    · omega
  refine ⟨upd D1 x.2 none, F3, out ++ [x.2], k1.frm hf (fun y hy hz => hxF3 (by simp at hz; rw [← hz]; exact hy)), ((hw.then hfa (by simp)).then k2 hF2').then hf (fun y hy => ?_), fun y hy => ?_, ?_, fun k hk hx => ?_, by omega, hxF3, ?_, rfl, ?_, by omega, by simp; omega⟩
  · right; simp at hy; omega
  · rcases k3 y hy with h | h
    · exact hF2' y h
    · right; omega
  · have := hf.owns ho2 (fun k hk hx => by have := ownBlock_lt ho hk; simp at hx; omega)
    simpa using this
  · rcases k3 k hx with h | h
    · exact hvn2 k hk h
    · have := ownBlock_lt ho hk; omega
  · have := block_setCell (block_setCell hx1 0 (.int .i64 (firstX (upd D1 x.2 none)).1)) 1 (.int .i64 (firstX (upd D1 x.2 none)).2)
    simpa [xCells] using this
  · rw [h6, fire_hit hx hle]; simp
theorem Clk.setNow {w : World} {cb : Nat} {now nw : Int} {D : DMap} {N : Nat} {F : List Nat} (h : Clk w cb now D N F) (h0 : now ≤ nw) (h1 : nw ≤ maxT) :
    Clk (w.setCell ⟨cb, 0, none⟩ (.int .i64 nw)) cb nw D N F ∧ Frm F w (w.setCell ⟨cb, 0, none⟩ (.int .i64 nw)) := by
  obtain ⟨mb, sv, L, hp, k1, k2, k3, k4, hm, k5, rfl⟩ := h
  have hf : Frm [cb] w (w.setCell ⟨cb, 0, none⟩ (.int .i64 nw)) := (Frm.refl _ _).setCell _ (.inl (by simp)) _
  have hcs : ∀ k, sv.ownBlock = some k → k ≠ cb := fun k hk e => by
    obtain ⟨c, hh⟩ := ownBlock_type hp.2 hk
    rw [e, hp.1] at hh; cases hh
  have hcm : ∀ k, mb = some k → k ≠ cb := fun k hk e => by
    obtain ⟨es, cl, hh⟩ := hm.block hk
    rw [e, hp.1] at hh; cases hh
  refine ⟨⟨mb, sv, L, ⟨block_setCell hp.1 0 _, hf.owns hp.2 (fun k hk hx => hcs k hk (by simpa using hx))⟩, k1, k2, k3, k4, hm.frm hf (fun b hb hx => hcm b hb (by simpa using hx)), ⟨by have := k5.1; omega, h1, k5.2.2⟩, rfl⟩, hf.mono (by simp)⟩
theorem advNow_le {now t : Int} (h : now ≤ maxT) (ht : t ≤ maxT) : now ≤ advNow now t ∧ advNow now t ≤ maxT := by
  unfold advNow
  rw [if_neg (by omega)]
  split <;> omega

theorem ownBlock_ge {w : World} {base e size n : Nat} {v : Value} {xs : List Value} (ho : w.ownsRow base e size v n xs) {k : Nat} (hk : v.ownBlock = some k) : base ≤ k := by
  obtain ⟨_, h2⟩ := ho
  rcases h2 with ⟨rfl, _⟩ | ⟨g, cap, cur, rfl, hg, hh, r⟩
  · simp [Value.ownBlock] at hk
  · simp [Value.ownBlock] at hk; subst hk; exact hg

/-- what stands behind the append of Advance's round -/
theorem adv_step {wr wq wa : World} {cb xb B : Nat} {now : Int} {D1 : DMap} {N : Nat} {F1 : List Nat} {v v' : Value} {out : List Int} {x : Int × Int} {X : Obj} (k1 : Clk wr cb now D1 N F1) (hd : D1 x.2 = some x.1)
    (k4 : wr.ownsRow B 3 1 v out.length (out.map (Value.int .i64))) (k5 : ∀ k, v.ownBlock = some k → k ∉ F1) (k8 : wr.heap[xb]? = some (.cells #[.int .i64 x.1, .int .i64 x.2] 70 (0, 0))) (hx : xb ∉ F1)
    (hq : Frm [] wr wq) (hgrow : (wq.alloc X).grownBy wa v.ownBlock) (hown' : wa.ownsRow B 3 1 v' (out.length + 1) (out.map (Value.int .i64) ++ [.int .i64 x.2])) (hloc : v'.ownBlock = v.ownBlock ∨ v'.ownBlock = some (wq.alloc X).heap.size) :
    wa.heap[xb]? = some (.cells #[.int .i64 x.1, .int .i64 x.2] 70 (0, 0)) ∧ (∀ k, v'.ownBlock = some k → k ∉ F1) ∧
    ∃ mb wd F2, wa.cell? ⟨cb, 1, none⟩ = some (.map mb) ∧ (Builtin.delete_ #[24, 3] 0 #[.map mb, .int .i64 x.2]).run Try.prog wa.drew = .ok (.tuple #[]) wd ∧ Clk wd cb now (upd D1 x.2 none) N F2 ∧
      (∀ y ∈ F2, y ∈ F1 ∨ wr.heap.size ≤ y) ∧ (∀ k, v'.ownBlock = some k → k ∉ F2) ∧ Frm (F1 ++ v.ownBlock.toList) wr wd ∧ wd.ownsRow B 3 1 v' (out.length + 1) (out.map (Value.int .i64) ++ [.int .i64 x.2]) ∧
      wd.heap[xb]? = some (.cells #[.int .i64 x.1, .int .i64 x.2] 70 (0, 0)) := by
  have hf : Frm v.ownBlock.toList wr wa := ((hq.mono (by simp)).alloc _).grown hgrow (by intro k hk; left; simp [hk])
  have hvx : ∀ k, v.ownBlock = some k → k ≠ xb := fun k hk e => by
    obtain ⟨c, hh⟩ := ownBlock_type k4 hk
    rw [e, k8] at hh; simp at hh
  have ka := k1.frm hf (fun y hy hz => by simp at hz; exact k5 y hz hy)
  have hxa := hf.at k8 (fun hz => by simp at hz; exact hvx _ hz rfl)
  have hvn : ∀ k, v'.ownBlock = some k → k ∉ F1 := fun k hk hx => by
    rcases hloc with h | h
    · exact k5 k (by rw [← h]; exact hk) hx
    · rw [h] at hk; cases hk
      have := k1.lt _ hx
      have := hq.size
      simp at *; omega
  obtain ⟨mb, sv, L, hp, h1, h2, h3, h4, hm, h5, rfl⟩ := ka
  have hb := h5.2.2 _ _ hd
  have hdr : Frm [] wa wa.drew := (Frm.refl _ _).drew
  have hm' := hm.frm hdr (by simp)
  obtain ⟨wd, hrun, hm2, hfd⟩ := hm'.drop Try.key3 Try.underlying24 (key_i64 (t := x.2) (by omega) (by omega)) 0
  obtain ⟨F2, j1, j2, j3⟩ := Clk.stopped (w := wa.drew) (t := x.2) ⟨hdr.at hp.1 (by simp), hdr.owns hp.2 (by simp)⟩ h1 h2 h3 h4 h5 hd hm' hm2 hfd
  have hs := hf.size
  refine ⟨hxa, hvn, mb, wd, F2, cell_of hp.1 1, hrun, j1, fun y hy => ?_, fun k hk hx => ?_, ?_, ?_, ?_⟩
  · rcases j3 y hy with h | h
    · exact .inl h
    · right; simp at h; omega
  · rcases j3 k hx with h | h
    · exact hvn k hk h
    · have := ownBlock_lt hown' hk; simp at h; omega
  · exact ((hf.mono (by intro y hy; left; simp at hy ⊢; simp [hy])).drew).trans (j2.mono (by intro y hy; left; simp at hy ⊢; rcases hy with h | h | h <;> simp [h]))
  · exact j2.owns (hdr.owns hown' (by simp)) (fun k hk hx => hvn k hk hx)
  · exact j2.at (hdr.at hxa (by simp)) hx

set_option maxHeartbeats 2000000 in
set_option maxRecDepth 100000 in
theorem advance_any (cb : Nat) (now : Int) (D : DMap) (N : Nat) (F : List Nat) (t : Int) (w : World) (h : Clk w cb now D N F) (hN : N ≤ 1000000) (ht : t ≤ maxT) :
    Calls Try.prog 14 #[.pointer (some ⟨cb, 0, none⟩), .int .i64 t] w (RetV fun r w' => ∃ v, r = .tuple #[v, .int .i64 0] ∧ AEnd w cb (advNow now t) D N F v w') := by
  have hg := h.good
  have hn0 := hg.1
  have hn1 : now ≤ 1099511627776 := hg.2.1
  have HSN := Lib.hid (h.setNow (advNow_le hg.2.1 ht).1 (advNow_le hg.2.1 ht).2)
  have HB := Lib.hid (advNow_le hg.2.1 ht)
  have HW : Hid (w.heap.size = (w.setCell ⟨cb, 0, none⟩ (.int .i64 (advNow now t))).heap.size) := by show _ = _; simp
  obtain ⟨mb, sv, L, hp, h1, h2, h3, h4, hm, h5, rfl⟩ := h
  have c0 := cell_of hp.1 0
  have f0 := free_of hp.1 0
  have ht2 : t ≤ 1099511627776 := ht
  have hnw : (now < t ∧ advNow now t = t) ∨ (t ≤ now ∧ advNow now t = now) := by
    unfold advNow; rw [if_neg (by omega)]
    by_cases h : now < t
    · left; simp [h]
    · right; simp [h]; omega
  have HD0 := Lib.hid (show cnt D < 257 by have := cntK_le D 256; unfold cnt; omega)
  generalize advNow now t = nw at *
  generalize hFF : (cb :: (sv.ownBlock.toList ++ mb.toList)) = F at *
  clear hp h1 h2 h3 h4 hm h5 hFF
  rcases hnw with ⟨hlt, rfl⟩ | ⟨hge, rfl⟩
  all_goals
    generalize hW : (w.setCell ⟨cb, 0, none⟩ (.int .i64 _)) = W at HSN HW
    go_enter Try.func14, Try.ntmps14
    go_wp2_with fail
    clear hW c0 f0
    refine (first_x cb _ D N F W HSN.out.1 hN).mono ?_
    rintro e w1 ⟨rfl, hto⟩
    have HTO := Lib.hid hto
    have hb1 : w1.heap.size = w1.heap.size := rfl
    clear hto hb1
    go_wp2_with fail
    obtain ⟨W2, hW2⟩ : ∃ W2, W2 = w1.alloc (.cells (xCells D) 70) := ⟨_, rfl⟩
    have hW3 := hW2
    unfold xCells at hW3
    rw [← hW3]
    have HS : Hid (AInv w cb nw D N F 257 (.slice none 0 0) w1.heap.size (firstOf D).isSome W2) := by
      rw [hW2]; exact AInv.start HSN.out.2 HTO.out HD0.out
    clear hW2 hW3
    go_loopg [4, 6, 7] 257 (fun g s4 s6 s7 wr => ∃ xb b, s6 = .pointer (some ⟨xb, 0, none⟩) ∧ s7 = .bool b ∧ AInv w cb nw D N F g s4 xb b wr)
    case atStart => exact ⟨_, _, rfl, rfl, HS.out⟩
    case round =>
      obtain ⟨xb, b, rfl, rfl, hinv⟩ := hrel
      obtain ⟨D1, F1, out, k1, k2, k3, k4, k5, k6, k7, k8, rfl, k10, k11, k12⟩ := hinv
      obtain ⟨g, rfl⟩ : ∃ g, gk = g + 1 := ⟨gk - 1, by omega⟩
      have hg1 := k1.good
      cases hfo : firstOf D1 with
      | none =>
        have HEND := fun w2 hf => Lib.hid (AInv.stop (w2 := w2) k1 k2 k3 k4 k5 k10 (fire_none hfo) hf)
        have HE := Lib.hid HEND
        clear HEND k1 k2 k3 k4 k5 k6 k7 k8 k10 k11 k12 hg1
        simp only [Option.isSome_none]
        go_wp2_with fail
        go_quiet (fail)
        go_wp2
        go_ret2
        exact ⟨_, rfl, _, rfl, (HE.out _ ((Frm.refl _ _).drewN _)).out⟩
      | some x =>
        simp only [Option.isSome_some]
        have hxc : xCells D1 = #[.int .i64 x.1, .int .i64 x.2] := by simp [xCells, firstX, hfo]
        rw [hxc] at k8
        have x0 := cell_of k8 0
        have x1 := cell_of k8 1
        have hclk := k1
        obtain ⟨mb1, sv1, L1, hp1, _, _, _, _, hm1, _, hF1⟩ := hclk
        have c0 := cell_of hp1.1 0
        have c1 := cell_of hp1.1 1
        have hfd := (firstOf_some hg1 hfo).1
        have hxb := hg1.2.2 _ _ hfd
        by_cases hle : x.1 ≤ nw
        · have HG1 := Lib.hid hg1; have HFO := Lib.hid hfo; have HFD := Lib.hid hfd
          have K1 := Lib.hid k1; have K2 := Lib.hid k2; have K3 := Lib.hid k3; have K4 := Lib.hid k4; have K5 := Lib.hid k5; have K7 := Lib.hid k7; have K10 := Lib.hid k10; have K11 := Lib.hid k11; have K12 := Lib.hid k12; have K8 := Lib.hid k8
          have HP1 := Lib.hid hp1; have HM1 := Lib.hid hm1; have HF1 := Lib.hid hF1
          have hon : out.length ≤ 257 := by omega
          obtain ⟨i0, hi, hz0, hz1, hz2⟩ := info_parts Try.info3
          clear hg1 hfo k1 k2 k3 k4 k5 k6 k7 k8 k10 k11 k12 hp1 hm1 hF1 hxc hfd
          go_wp2_with fail
          go_quiet (fail)
          have hfq : ∃ wq, wq = wr.drewN nq ∧ Frm [] wr wq := ⟨_, rfl, (Frm.refl _ _).drewN _⟩
          obtain ⟨wq, hq1, hq2⟩ := hfq
          rw [← hq1]
          have x0q := hq2.keep x0
          have x1q := hq2.keep x1
          have HOQ := Lib.hid (hq2.owns K4.out (by simp))
          have HQ2 := Lib.hid hq2
          have hsq : Hid (w.heap.size ≤ wq.heap.size) := by have := K2.out.size; have := hq2.size; show _ ≤ _; omega
          clear x0 x1 hq1 hq2 c0 c1
          go_wp2_with (at_builtin; refine wpList_append_own_at _ rfl _ _ 38 rfl w.heap.size 3 i0 (.int .i64 0) 1 8 Try.underlying38 hi hz0 hz1 hz2 rfl (by decide) _ _ _ rfl (HOQ.out.alloc _) ⟨wq.heap.size, 0, none⟩ 1 1 [.int .i64 x.2] rfl rfl (cell_one_new _ _ _) (ints_oneCell .i64 [x.2]) (by unfold maxLen; omega) (by omega) (by have := hsq.out; simp; omega) ?_; intro v' wa hown' hgrow hnil hloc)
          obtain ⟨hxa, hvn, mb2, wd, F2, cm, hrun, j1, j2, j3, j4, j5, j6⟩ := adv_step K1.out HFD.out K4.out K5.out K8.out K7.out HQ2.out hgrow hown' hloc
          have xa1 := cell_of hxa 1
          have xd0 := cell_of j6 0
          have xd1 := cell_of j6 1
          have J1 := Lib.hid j1; have J2 := Lib.hid j2; have J3 := Lib.hid j3; have J4 := Lib.hid j4; have J5 := Lib.hid j5; have HVN := Lib.hid hvn
          clear j1 j2 j3 j4 j5 j6 hvn hown' hgrow hnil hloc hxa
          go_wp2_with fail
          go_region
          go_wp2_with fail
          refine (first_x cb nw (upd D1 x.2 none) N F2 _ (J1.out.frm ((Frm.refl [] _).alloc _) (by simp)) hN).mono ?_
          rintro e w1 ⟨rfl, hto⟩
          have hnx : w1.heap[wd.heap.size]? = some (.cells #[.int .i64 x.1, .int .i64 x.2] 70 (0, 0)) := by
            obtain ⟨_, _, h, _⟩ := hto
            exact h.at (heap_alloc_new _ _) (fun hx => by have := J1.out.lt _ hx; omega)
          have n0 := cell_of hnx 0
          have n1 := cell_of hnx 1
          have m0 := free_of hnx 0
          have m1 := free_of hnx 1
          have HNEXT := Lib.hid (AInv.next K2.out K3.out K10.out HG1.out HFO.out hle K11.out K12.out J4.out (fun k hk => ownBlock_ge K4.out hk) J5.out HVN.out J1.out J2.out J3.out hto)
          clear hto hnx cm hrun xa1 xd0 xd1
          go_wp2
          go_roundg g
          case measure => omega
          case rel => exact ⟨_, _, rfl, rfl, HNEXT.out⟩
        · have HEND := fun w2 hf => Lib.hid (AInv.stop (w2 := w2) k1 k2 k3 k4 k5 k10 (fire_late hfo hle) hf)
          have HE := Lib.hid HEND
          have hle2 : nw < x.1 := by omega
          clear HEND k1 k2 k3 k4 k5 k6 k7 k8 k10 k11 k12 hg1 hp1 hm1 hF1 hxc hfo hfd hxb hle
          go_wp2_with fail
          go_quiet (fail)
          go_wp2
          go_ret2
          exact ⟨_, rfl, _, rfl, (HE.out _ ((Frm.refl _ _).drewN _)).out⟩
end Go.Proofs.Ytdhkcjjcgpkkgaa
