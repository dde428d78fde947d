/- ClockCopies: three loops of calls, on a clock, on it again and on its copy. (Printed by gen_copies.py.) -/
import Derived.Test.YtdhkcjjcgpkkgaaPlays
import Derived.Test.YtdhkcjjcgpkkgaaCopy
namespace Go.Proofs.Ytdhkcjjcgpkkgaa
open Go.RowKit Go.Maps Go.BigFrame

theorem wpList_wanted {P : Program} {ops : Array Oper} {rest : List Oper} {o : Oper} {a : Act} {Q : Exit → Act → World → Prop} {w : World} (hw : Region.wanted o (yielded ops a.tmps) = true)
    (h : ∀ K : Act → World → Prop, (∀ a w, wpList P ops Q rest a w → K a w) → o.wp P a w K Q) : wpList P ops Q (o :: rest) a w :=
  wpList_step fun K hK => by simp only [hw, if_true]; exact h K hK
theorem wpList_load_wanted {P : Program} {ops : Array Oper} {rest : List Oper} {o : Oper} {a : Act} {Q : Exit → Act → World → Prop} {w : World} (hw : Region.wanted o (yielded ops a.tmps) = true) (ty : TypeId) (x : Operand) (ho : o.op = .load ty x) (b : Nat) (hx : a.eval x = .pointer (some ⟨b, 0, none⟩)) (A : Array Value) (t : TypeId) (hb : w.heap[b]? = some (.cells A t (0, 0)))
    (d : TypeDesc) (hu : P.underlying ty = some d) (hd : (match d with | .struct _ | .array _ _ => true | _ => false) = true) (hi : (P.info? ty).map (·.size) = some A.size)
    (h : wpList P ops Q rest (a.put o.dst (.agg A)) w) : wpList P ops Q (o :: rest) a w :=
  wpList_wanted hw fun _ hK => by
    unfold Oper.wp
    rw [run_load_rowAt ho hb hu hd hi hx]
    exact hK _ _ h
theorem wp_alloc_rowTo {P : Program} {o : Oper} {a : Act} {w : World} {K : Act → World → Prop} {Q : Exit → Act → World → Prop} (ty : TypeId) (ho : o.op = .alloc ty) (Z : Array Value) (n : Nat) (hi : (P.info? ty).map (fun i => (i.zero, i.size)) = some (some (.agg Z), n))
    (h : K (a.put o.dst (.pointer (some ⟨w.heap.size, 0, none⟩))) (w.alloc (.cells Z ty))) : o.wp P a w K Q := by
  unfold Oper.wp execOp
  simp only [ho, Sem.run_bind, Sem.run_pure, Result.andThen_ok, run_alloc_row w ty Z n hi]
  exact h
/-- behind i rounds that began in W0 with N0 timers; G: what they may turn -/
def PL2 (w W0 : World) (G : List Nat) (cb rb N0 i : Nat) (wr : World) : Prop :=
  Frm [] w wr ∧ ∃ now D F, Clk wr cb now D (N0 + i) F ∧ wr.heap[rb]? = some (.cells (refA now D) 30 (0, 0)) ∧ (∀ x ∈ F, x ∈ G ∨ W0.heap.size ≤ x) ∧ rb ∉ F ∧ (rb ∈ G ∨ W0.heap.size ≤ rb) ∧ Frm G W0 wr
theorem PL2.call {w W0 wr w5 : World} {G : List Nat} {cb N : Nat} {now : Int} {D : DMap} {F : List Nat} (h0 : w.heap.size ≤ W0.heap.size) (hG : ∀ x ∈ G, w.heap.size ≤ x) (h3 : Frm [] w wr) (h4 : ∀ x ∈ F, x ∈ G ∨ W0.heap.size ≤ x) (hc : ClkTo wr.drew cb now D N F w5) : Frm [] w w5 := by
  obtain ⟨F', k1, k2, k3⟩ := hc
  refine (h3.trans ((Frm.refl [] wr).drew)).then k2 (fun x hx => .inr ?_)
  rcases h4 x hx with h | h
  · exact hG x h
  · omega
theorem PL2.next {w W0 wr w5 w6 : World} {G : List Nat} {cb rb N0 i : Nat} {now now' : Int} {D D' : DMap} {F : List Nat} (h0 : w.heap.size ≤ W0.heap.size) (hG : ∀ x ∈ G, w.heap.size ≤ x) (h2 : wr.heap[rb]? = some (.cells (refA now D) 30 (0, 0))) (h3 : Frm [] w wr)
    (h4 : ∀ x ∈ F, x ∈ G ∨ W0.heap.size ≤ x) (h5 : rb ∉ F) (h6 : rb ∈ G ∨ W0.heap.size ≤ rb) (h7 : Frm G W0 wr)
    (hc : ClkTo wr.drew cb now' D' (N0 + i + 1) F w5) (hf : Frm [rb] w5 w6) (hb : w6.heap[rb]? = some (.cells (refA now' D') 30 (0, 0))) : PL2 w W0 G cb rb N0 (i + 1) w6 := by
  have hw := PL2.call h0 hG h3 h4 hc
  obtain ⟨F', k1, k2, k3⟩ := hc
  have hlt := lt_of_block h2
  have hs := h7.size
  have k3' : ∀ x ∈ F', x ∈ F ∨ wr.heap.size ≤ x := k3
  have hn : rb ∉ F' := fun hx => by
    rcases k3' rb hx with h | h
    · exact h5 h
    · omega
  have hrw : w.heap.size ≤ rb := by
    rcases h6 with h | h
    · exact hG _ h
    · omega
  refine ⟨hw.then hf (by intro x hx; simp at hx; right; omega), now', D', F', k1.frm hf (fun x hx hy => hn (by simp at hy; exact hy ▸ hx)), hb, fun x hx => ?_, hn, h6, ?_⟩
  · rcases k3' x hx with h | h
    · exact h4 x h
    · right; omega
  · exact (((h7.trans ((Frm.refl G wr).drew)).then k2 (fun x hx => h4 x hx))).then hf (by intro x hx; simp at hx; subst hx; exact h6)
/-- two clocks, each beside its reference, apart -/
structure Two (w : World) (cb rb db sb : Nat) (now : Int) (D : DMap) (N : Nat) (F : List Nat) (now' : Int) (D' : DMap) (N' : Nat) (F' : List Nat) (W : World) : Prop where
  c : Clk W cb now D N F
  d : Clk W db now' D' N' F'
  r : W.heap[rb]? = some (.cells (refA now D) 30 (0, 0))
  s : W.heap[sb]? = some (.cells (refA now' D') 30 (0, 0))
  rF : rb ∉ F
  sF : sb ∉ F'
  rF' : rb ∉ F'
  sF2 : sb ∉ F
  rs : rb ≠ sb
  FF : ∀ x ∈ F, x ∉ F'
  old : Frm [] w W
  Fw : ∀ x ∈ F, w.heap.size ≤ x
  Fw' : ∀ x ∈ F', w.heap.size ≤ x
  rw_ : w.heap.size ≤ rb
  sw : w.heap.size ≤ sb
section
variable {w W wr : World} {cb rb db sb : Nat} {now now' : Int} {D D' : DMap} {N N' i : Nat} {F F' : List Nat}
theorem Two.symm (h : Two w cb rb db sb now D N F now' D' N' F' W) : Two w db sb cb rb now' D' N' F' now D N F W :=
  ⟨h.d, h.c, h.s, h.r, h.sF, h.rF, h.sF2, h.rF', h.rs.symm, fun x hx hy => h.FF x hy hx, h.old, h.Fw', h.Fw, h.sw, h.rw_⟩
theorem Two.low (h : Two w cb rb db sb now D N F now' D' N' F' W) : ∀ x ∈ rb :: F, w.heap.size ≤ x := fun x hx => by
  rcases List.mem_cons.1 hx with rfl | hx
  · exact h.rw_
  · exact h.Fw x hx
theorem Two.start (h : Two w cb rb db sb now D N F now' D' N' F' W) : PL2 w W (rb :: F) cb rb N 0 W :=
  ⟨h.old, now, D, F, h.c, h.r, fun x hx => .inl (by simp [hx]), h.rF, .inl (by simp), Frm.refl _ _⟩
theorem Two.after (h : Two w cb rb db sb now D N F now' D' N' F' W) (hp : PL2 w W (rb :: F) cb rb N i wr) : ∃ now2 D2 F2, Two w cb rb db sb now2 D2 (N + i) F2 now' D' N' F' wr := by
  obtain ⟨p0, now2, D2, F2, p1, p2, p3, p4, p5, p6⟩ := hp
  have hsn : sb ∉ rb :: F := fun hx => by
    rcases List.mem_cons.1 hx with h1 | h1
    · exact h.rs h1.symm
    · exact h.sF2 h1
  have hdn : ∀ x ∈ F', x ∉ rb :: F := fun x hx hy => by
    rcases List.mem_cons.1 hy with h1 | h1
    · subst h1; exact h.rF' hx
    · exact h.FF x h1 hx
  have hsW := lt_of_block h.s
  refine ⟨now2, D2, F2, p1, h.d.frm p6 hdn, p2, p6.at h.s hsn, p4, h.sF, h.rF', fun hx => ?_, h.rs, fun x hx hy => ?_, p0, fun x hx => ?_, h.Fw', h.rw_, h.sw⟩
  · rcases p3 _ hx with h1 | h1
    · exact hsn h1
    · omega
  · rcases p3 _ hx with h1 | h1
    · exact hdn x hy h1
    · have := h.d.lt x hy; omega
  · rcases p3 _ hx with h1 | h1
    · exact h.low x h1
    · have := h.old.size; omega
theorem Two.agree (h : Two w cb rb db sb now D N F now' D' N' F' W) (hc : ClkTo W cb now D N F wr) : ∃ F2, Two w cb rb db sb now D N F2 now' D' N' F' wr := by
  obtain ⟨F2, k1, k2, k3⟩ := hc
  have hrW := lt_of_block h.r
  have hsW := lt_of_block h.s
  refine ⟨F2, k1, h.d.frm k2 (fun x hx hy => h.FF x hy hx), k2.at h.r h.rF, k2.at h.s h.sF2, fun hx => ?_, h.sF, h.rF', fun hx => ?_, h.rs, fun x hx hy => ?_, h.old.then k2 (fun x hx => .inr (h.Fw x hx)), fun x hx => ?_, h.Fw', h.rw_, h.sw⟩
  · rcases k3 _ hx with h1 | h1
    · exact h.rF h1
    · omega
  · rcases k3 _ hx with h1 | h1
    · exact h.sF2 h1
    · omega
  · rcases k3 _ hx with h1 | h1
    · exact h.FF x h1 hy
    · have := h.d.lt x hy; omega
  · rcases k3 _ hx with h1 | h1
    · exact h.Fw x h1
    · have := h.old.size; omega
/-- behind the statement that makes the copy -/
def Cut1 (w : World) (cb rb : Nat) (now : Int) (D : DMap) (N : Nat) (F : List Nat) (s11 s12 : Value) (w7 : World) : Prop :=
  ∃ db sb F', s11 = .pointer (some ⟨db, 0, none⟩) ∧ s12 = .pointer (some ⟨sb, 0, none⟩) ∧ Two w cb rb db sb now D N F now D N F' w7
/-- behind the copy -/
theorem Two.mk' {w5 wA w6 w7 : World} {v : Value} (hc : Clk w5 cb now D N F) (hr : w5.heap[rb]? = some (.cells (refA now D) 30 (0, 0))) (hrF : rb ∉ F) (hF : ∀ x ∈ F, w.heap.size ≤ x) (hrw : w.heap.size ≤ rb) (h0 : Frm [] w w5)
    (hA : Frm [] w5 wA) (hcp : CopyTo wA cb now D N F v w6) (hf : Frm [sb] w6 w7) (hs : w7.heap[sb]? = some (.cells (refA now D) 30 (0, 0))) (hsb : w5.heap.size ≤ sb) (hsn : w6.heap.size ≤ sb ∨ sb < wA.heap.size) :
    ∃ db F', v = .pointer (some ⟨db, 0, none⟩) ∧ Two w cb rb db sb now D N F now D N F' w7 := by
  obtain ⟨db, F', rfl, c1, c2, c3, c4⟩ := hcp
  have hrl := lt_of_block hr
  have h5 := h0.size
  have hAs := hA.size
  have hn : sb ∉ F' := fun hx => by
    have := c1.lt _ hx
    have := c4 _ hx
    omega
  refine ⟨db, F', rfl, c2.frm hf (fun x hx hy => ?_), c1.frm hf (fun x hx hy => ?_), hf.at (c3.at (hA.at hr (by simp)) (by simp)) (fun hx => ?_), hs, hrF, hn, fun hx => ?_, fun hx => ?_, ?_, fun x hx hy => ?_, ((h0.trans hA).trans c3).then hf (fun x hx => ?_), hF, fun x hx => ?_, hrw, by omega⟩
  · simp at hy; have := hc.lt x hx; omega
  · simp at hy; subst hy; exact hn hx
  · simp at hx; omega
  · have := c4 _ hx; omega
  · have := hc.lt _ hx; omega
  · omega
  · have := hc.lt x hx; have := c4 x hy; omega
  · simp at hx; right; omega
  · have := c4 x hx; omega
end

set_option maxHeartbeats 8000000 in
set_option maxRecDepth 100000 in
theorem copies_main (a0 a1 a2 : Option Addr) (n0 n1 n2 c0 c1 c2 : Nat) (w : World) (h0 : Acts w a0 n0) (h1 : Acts w a1 n1) (h2 : Acts w a2 n2) (g0 : n0 ≤ 60) (g1 : n1 ≤ 60) (g2 : n2 ≤ 60) :
    Calls Try.prog 5 #[.slice a0 n0 c0, .slice a1 n1 c1, .slice a2 n2 c2] w (Ret (.bool true) (Frm [] w)) := by
  have HA0' := Lib.hid h0; have HA1 := Lib.hid h1; have HA2 := Lib.hid h2
  have k0 : (n0 : Int) ≤ 60 := by omega
  have k1 : (n1 : Int) ≤ 60 := by omega
  have k2 : (n2 : Int) ≤ 60 := by omega
  have HN : Hid (n0 ≤ 60 ∧ n1 ≤ 60 ∧ n2 ≤ 60) := Lib.hid ⟨g0, g1, g2⟩
  clear h0 h1 h2 g0 g1 g2
  go_enter Try.func5, Try.ntmps5
  go_wp2_with (first
    | (go_at_call 9; go_must (refine (refNew_any _).mono ?_; rintro e w2 ⟨rfl, hf⟩; have HF := Lib.hid hf; clear hf))
    | (refine wpList_alloc_row rfl 30 rfl Z30 257 Try.info30z ?_)
    | (refine wpList_store_row rfl 30 _ _ rfl _ _ _ 30 rfl rfl (heap_alloc_new _ _) (refA_Z30 _ _) (refA_info _ _) (refA_one _ _) ?_; intro w4 hb4 hf4))
  have HP := Lib.hid (PLInv.start HF.out hf4 hb4)
  clear hf4 hb4
  have HS1 : Hid (PL2 w w [] w.heap.size w2.heap.size 0 0 w4) := by
    obtain ⟨now, D, F, p1, p2, p3, p4, p5, p6⟩ := HP.out
    exact ⟨p3, now, D, F, p1, p2, fun x hx => .inr (p4 x hx), p5, .inr p6, p3⟩
  have P01 : Hid (w.heap.size ≤ w.heap.size) := Lib.hid (Nat.le_refl _)
  have PG1 : Hid (∀ x ∈ ([] : List Nat), w.heap.size ≤ x) := Lib.hid (by simp)
  have HJ : Hid True := Lib.hid trivial
  have HR : Hid (w.heap.size ≤ w2.heap.size) := by obtain ⟨_, _, _, _, _, _, _, _, p6⟩ := HP.out; exact p6
  clear HP
  go_loopw [9, 10] (fun s9 si wr => s9 = .bool true ∧ ∃ i : Nat, si = .int .i64 i ∧ i ≤ n0 ∧ PL2 w w [] w.heap.size w2.heap.size 0 i wr) (fun _ si _ => n0 - (intOf si).toNat)
  case atStart => exact ⟨rfl, 0, rfl, Nat.zero_le _, HS1.out⟩
  case round =>
    obtain ⟨rfl, i, rfl, hi, hinv⟩ := hrel
    have hi' : (i : Int) ≤ n0 := by omega
    have HI := Lib.hid hi
    clear hi
    by_cases hin : i < n0
    · have hlt : (i : Int) < n0 := by omega
      have HIN := Lib.hid hin
      obtain ⟨b, o, what, tm, ti, rfl, ha⟩ := HA0'.out i hin
      obtain ⟨p3, now, D, F, p1, p2, p4, p5, p6, p7⟩ := hinv
      have P1 := Lib.hid p1; have P2 := Lib.hid p2; have P3 := Lib.hid p3; have P4 := Lib.hid p4; have P5 := Lib.hid p5; have P6 := Lib.hid p6; have P7 := Lib.hid p7
      have HA0 := Lib.hid (show ActAt b o i what tm ti w from ha)
      have HS : Hid (ActAt b o i what tm ti wr.drew) := Lib.hid ((ActAt.frm ha p3).frm (Frm.refl [] wr).drew)
      clear ha p1 p2 p3 p4 p5 p6 p7 hin
      go_upto_region 9 with (fail)
      refine wp_region_held_drew (S := ActAt b o i what tm ti) (by kernel_rfl) HS.out (fun _ => ?_)
      refine wpAnyH_take (i := 0) (v := .pointer (some ⟨w.heap.size, 0, none⟩)) rfl (by kernel_rfl) (by kernel_rfl) (by kernel_rfl) (fun _ _ _ h => h) (Or.inl ⟨by rfl, fun w' hS => ?_⟩) HS.out ?_
      · go_simp
      try simp only [Act.put, List.setIfInBounds_toArray]
      refine wpAnyH_take (i := 2) (v := .slice (some ⟨b, o, none⟩) n0 c0) rfl (by kernel_rfl) (by kernel_rfl) (by kernel_rfl) (fun _ _ _ h => h) (Or.inl ⟨by rfl, fun w' hS => ?_⟩) HS.out ?_
      · go_simp
      try simp only [Act.put]
      refine wpAnyH_take (i := 3) (v := .int .i64 i) rfl (by kernel_rfl) (by kernel_rfl) (by kernel_rfl) (fun _ _ _ h => h) (Or.inl ⟨by rfl, fun w' hS => ?_⟩) HS.out ?_
      · go_simp
      try simp only [Act.put]
      refine wpAnyH_take (i := 4) (v := .pointer (some ⟨b, o + i * 3, none⟩)) rfl (by kernel_rfl) (by kernel_rfl) (by kernel_rfl) (fun _ _ _ h => h) (Or.inl ⟨by rfl, fun w' hS => ?_⟩) HS.out ?_
      · go_simp
      try simp only [Act.put]
      refine wpAnyH_take (i := 5) (v := .agg #[.int .i64 what, .int .i64 tm, .int .i64 ti]) rfl (by kernel_rfl) (by kernel_rfl) (by kernel_rfl) (fun _ _ _ h => h) (Or.inl ⟨by rfl, fun w' hS => ?_⟩) HS.out ?_
      · obtain ⟨e0, e1, e2⟩ := hS
        go_simp
      try simp only [Act.put]
      refine wpAnyH_ready (rs := [1]) (by kernel_rfl) (by simp) (AllReadyH.cons rfl (fun K hK => ?_) AllReadyH.nil)
      rw [if_pos (by rfl)]
      refine wp_load_rowTo rfl (((Frm.refl [] wr).drew).at P2.out (by simp)) Try.underlying30 rfl (refA_info _ _) rfl ?_
      refine hK.out _ _ HS.out (fun _ => ?_)
      clear hK K
      try simp only [Act.put]
      refine wpAnyH_ready (rs := [6]) (by kernel_rfl) (by simp) (AllReadyH.cons rfl (fun K hK => ?_) AllReadyH.nil)
      go_simp
      refine (do_any w.heap.size now D _ F what tm ti wr.drew (P1.out.frm (Frm.refl [] wr).drew (by simp)) (by have := HI.out; have := HJ.out; have := HN.out; omega)).mono ?_
      rintro e w5 ⟨rfl, hto⟩
      have HT := Lib.hid hto
      clear hto
      have HS := Lib.hid (HA0.out.frm (PL2.call P01.out PG1.out P3.out P4.out HT.out))
      have HB := Lib.hid (PLInv.cell P2.out P5.out HT.out)
      refine hK.out _ _ HS.out (fun _ => ?_)
      clear hK K
      try simp only [Act.put, List.setIfInBounds_toArray, List.set_cons_zero, List.set_cons_succ]
      refine wpAnyH_take (i := 7) (v := .tuple #[.agg (refA (actNow now what ti) (actD now D what tm ti)), .bool true]) rfl (by kernel_rfl) (by kernel_rfl) (by kernel_rfl) (fun _ _ _ h => h) (Or.inl ⟨by rfl, fun w' hS => ?_⟩) HS.out ?_
      · go_simp
      try simp only [Act.put, List.setIfInBounds_toArray]
      refine wpAnyH_take (i := 8) (v := .agg (refA (actNow now what ti) (actD now D what tm ti))) rfl (by kernel_rfl) (by kernel_rfl) (by kernel_rfl) (fun _ _ _ h => h) (Or.inl ⟨by rfl, fun w' hS => ?_⟩) HS.out ?_
      · go_simp
      try simp only [Act.put]
      refine wpAnyH_take (i := 9) (v := .bool true) rfl (by kernel_rfl) (by kernel_rfl) (by kernel_rfl) (fun _ _ _ h => h) (Or.inl ⟨by rfl, fun w' hS => ?_⟩) HS.out ?_
      · go_simp
      try simp only [Act.put]
      refine wpAnyH_ready (rs := [10]) (by kernel_rfl) (by simp) (AllReadyH.cons rfl (fun K hK => ?_) AllReadyH.nil)
      rw [if_pos (by rfl)]
      refine wp_store_rowTo 30 _ _ rfl _ (refA (actNow now what ti) (actD now D what tm ti)) _ 30 rfl rfl HB.out (refA_same _ _ _ _) (refA_info _ _) (refA_one _ _) ?_
      intro w6 hb6 hf6
      have HN6 := Lib.hid (PL2.next P01.out PG1.out P2.out P3.out P4.out P5.out P6.out P7.out HT.out hf6 hb6)
      have HS : Hid (ActAt b o i what tm ti w6) := by
        have q := HN6.out.1
        exact HA0.out.frm q
      clear hf6 hb6
      refine hK.out _ _ HS.out (fun _ => ?_)
      clear hK K
      try simp only [Act.put]
      refine wpAnyH_ready (rs := [11]) (by kernel_rfl) (by simp) (AllReadyH.cons rfl (fun K hK => ?_) AllReadyH.nil)
      go_simp
      refine hK.out _ _ HS.out (fun _ => ?_)
      clear hK K
      try simp only [Act.put, List.setIfInBounds_toArray, List.set_cons_zero, List.set_cons_succ]
      refine wpAnyH_done (by kernel_rfl) ?_ _
      go_wp2_with fail
      have hi1 := HIN.out
      exact ⟨⟨rfl, i + 1, by simp, hi1, HN6.out⟩, by simp [intOf]; omega⟩
    · have hge : (n0 : Int) ≤ i := by omega
      have hlt : ¬ (i : Int) < n0 := by omega
      have HP1 := Lib.hid hinv
      clear hinv hin
      obtain ⟨hp0, now, D, F, q1, q2, q3, q4, q5, q6⟩ := HP1.out
      obtain ⟨W1, rfl⟩ : ∃ W1 : World, W1 = wr := ⟨_, rfl⟩
      have Q0 := Lib.hid hp0; have Q1 := Lib.hid q1; have Q2 := Lib.hid q2; have Q3 : Hid (∀ x ∈ F, w.heap.size ≤ x) := Lib.hid (fun x hx => by have := q3 x hx; simpa using this); have Q4 := Lib.hid q4
      clear hp0 q1 q2 q3 q4 q5 q6 HP1
      obtain ⟨j1, rfl⟩ : ∃ j1 : Nat, j1 = i := ⟨_, rfl⟩
      have HJ : Hid (j1 ≤ n0) := Lib.hid HI.out
      have QD : Hid (Frm [] W1 W1.drew) := Lib.hid (Frm.refl [] W1).drew
      have HS : Hid (W1.drew.heap[w2.heap.size]? = some (.cells (refA now D) 30 (0, 0))) := Lib.hid (QD.out.at Q2.out (by simp))
      have HRL : Hid (w2.heap.size < W1.heap.size) := Lib.hid (lt_of_block Q2.out)
      go_upto_region 10 with (fail)
      clear HI hlt hge hi'
      go_cut [11, 12] (fun s11 s12 w7 => Cut1 w w.heap.size w2.heap.size now D (0 + j1) F s11 s12 w7)
      case first =>
        refine wp_region_held_drew (S := fun w' => w'.heap[w2.heap.size]? = some (.cells (refA now D) 30 (0, 0))) (by kernel_rfl) HS.out (fun _ => ?_)
        refine wpAnyH_take (i := 0) (v := .pointer (some ⟨w.heap.size, 0, none⟩)) rfl (by kernel_rfl) (by kernel_rfl) (by kernel_rfl) (fun _ _ _ h => h) (Or.inl ⟨by rfl, fun w' hS => ?_⟩) HS.out ?_
        · go_simp
        try simp only [Act.put, List.getElem_toArray, List.getElem_cons_zero, List.setIfInBounds_toArray, List.set_cons_zero, List.set_cons_succ]
        refine wpAnyH_take (i := 2) (v := .agg (refA now D)) rfl (by kernel_rfl) (by kernel_rfl) (by kernel_rfl) (fun _ _ _ h => h) (Or.inl ⟨by rfl, fun w' hS => run_load_rowAt rfl hS Try.underlying30 rfl (refA_info _ _) rfl⟩) HS.out ?_
        try simp only [Act.put, List.getElem_toArray, List.getElem_cons_zero, List.getElem_cons_succ, List.setIfInBounds_toArray, List.set_cons_zero, List.set_cons_succ]
        refine wpAnyH_ready (rs := [1, 3]) (by kernel_rfl) (by simp) (AllReadyH.cons rfl (fun K hK => ?_) (AllReadyH.cons rfl (fun K hK => ?_) AllReadyH.nil))
        · go_simp
          refine (copy_any w.heap.size now D (0 + j1) F _ (Q1.out.frm QD.out (by simp)) (by have := HJ.out; have := HN.out; omega)).mono ?_
          rintro e w6 ⟨v, rfl, hcp⟩
          have HCP := Lib.hid hcp
          have HSZ : Hid (W1.heap.size ≤ w6.heap.size) := by obtain ⟨_, _, _, _, _, q, _⟩ := hcp; exact Nat.le_trans QD.out.size q.size
          have HS : Hid (w6.heap[w2.heap.size]? = some (.cells (refA now D) 30 (0, 0))) := by obtain ⟨_, _, _, _, _, q, _⟩ := hcp; exact q.at HS.out (by simp)
          obtain ⟨db, F', rfl, _⟩ := hcp
          refine hK.out _ _ HS.out (fun _ => ?_)
          clear hK K
          try simp only [Act.put, List.getElem_toArray, List.getElem_cons_zero, List.getElem_cons_succ, List.setIfInBounds_toArray, List.set_cons_zero, List.set_cons_succ]
          refine wpAnyH_ready (rs := [3]) (by kernel_rfl) (by simp) (AllReadyH.cons rfl (fun K hK => ?_) AllReadyH.nil)
          rw [if_pos (by rfl)]
          refine wp_alloc_rowTo 30 rfl Z30 257 Try.info30z ?_
          have HS : Hid ((w6.alloc (.cells Z30 30)).heap[w2.heap.size]? = some (.cells (refA now D) 30 (0, 0))) := Lib.hid (alloc_at HS.out)
          refine hK.out _ _ HS.out (fun _ => ?_)
          clear hK K
          try simp only [Act.put, List.getElem_toArray, List.getElem_cons_zero, List.getElem_cons_succ, List.setIfInBounds_toArray, List.set_cons_zero, List.set_cons_succ]
          refine wpAnyH_take (i := 4) (v := .pointer (some ⟨db, 0, none⟩)) rfl (by kernel_rfl) (by kernel_rfl) (by kernel_rfl) (fun _ _ _ h => h) (Or.inl ⟨by rfl, fun w' hS => ?_⟩) HS.out ?_
          · go_simp
          try simp only [Act.put, List.getElem_toArray, List.getElem_cons_zero, List.getElem_cons_succ, List.setIfInBounds_toArray, List.set_cons_zero, List.set_cons_succ]
          refine wpAnyH_ready (rs := [5]) (by kernel_rfl) (by simp) (AllReadyH.cons rfl (fun K hK => ?_) AllReadyH.nil)
          rw [if_pos (by rfl)]
          refine wp_store_rowTo 30 _ _ rfl _ (refA now D) _ 30 rfl rfl (heap_alloc_new _ _) (refA_Z30 _ _) (refA_info _ _) (refA_one _ _) ?_
          intro w7 hb7 hf7
          obtain ⟨db', F', hdb, two⟩ := Two.mk' (w := w) (sb := w6.heap.size) Q1.out Q2.out Q4.out Q3.out HR.out Q0.out QD.out HCP.out (((Frm.refl _ w6).alloc _).trans hf7) hb7 HSZ.out (.inl (Nat.le_refl _))
          obtain rfl : db = db' := by simpa using hdb
          have HT0 := Lib.hid two
          have HS : Hid (w7.heap[w2.heap.size]? = some (.cells (refA now D) 30 (0, 0))) := Lib.hid two.r
          generalize w6.heap.size = sb at *
          clear hb7 hf7 two hdb HCP HSZ
          refine hK.out _ _ HS.out (fun _ => ?_)
          clear hK K
          try simp only [Act.put, List.getElem_toArray, List.getElem_cons_zero, List.getElem_cons_succ]
          refine wpAnyH_done (by kernel_rfl) ?_ _
          go_wp2_with fail
          go_meet
          exact ⟨db, sb, F', rfl, rfl, HT0.out⟩
        · rw [if_pos (by rfl)]
          refine wp_alloc_rowTo 30 rfl Z30 257 Try.info30z ?_
          obtain ⟨WA, hWA⟩ : ∃ WA, W1.drew.alloc (.cells Z30 30) = WA := ⟨_, rfl⟩
          have FA : Hid (Frm [] W1 WA) := by rw [← hWA]; exact Lib.hid ((Frm.refl [] W1).drew.alloc _)
          have BA : Hid (WA.heap[W1.heap.size]? = some (.cells Z30 30 (0, 0))) := by rw [← hWA]; exact Lib.hid (heap_alloc_new W1.drew _)
          have HS : Hid (WA.heap[w2.heap.size]? = some (.cells (refA now D) 30 (0, 0))) := Lib.hid (FA.out.at Q2.out (by simp))
          rw [hWA, show W1.drew.heap.size = W1.heap.size from rfl]
          clear hWA
          refine hK.out _ _ HS.out (fun _ => ?_)
          clear hK K
          try simp only [Act.put, List.getElem_toArray, List.getElem_cons_zero, List.getElem_cons_succ, List.setIfInBounds_toArray, List.set_cons_zero, List.set_cons_succ]
          refine wpAnyH_ready (rs := [1]) (by kernel_rfl) (by simp) (AllReadyH.cons rfl (fun K hK => ?_) AllReadyH.nil)
          go_simp
          refine (copy_any w.heap.size now D (0 + j1) F _ (Q1.out.frm FA.out (by simp)) (by have := HJ.out; have := HN.out; omega)).mono ?_
          rintro e w6 ⟨v, rfl, hcp⟩
          have HCP := Lib.hid hcp
          have F6 : Hid (Frm [] WA w6) := by obtain ⟨_, _, _, _, _, q, _⟩ := hcp; exact Lib.hid q
          have HS : Hid (w6.heap[w2.heap.size]? = some (.cells (refA now D) 30 (0, 0))) := Lib.hid (F6.out.at HS.out (by simp))
          obtain ⟨db, F', rfl, _⟩ := hcp
          refine hK.out _ _ HS.out (fun _ => ?_)
          clear hK K
          try simp only [Act.put, List.getElem_toArray, List.getElem_cons_zero, List.getElem_cons_succ, List.setIfInBounds_toArray, List.set_cons_zero, List.set_cons_succ]
          refine wpAnyH_take (i := 4) (v := .pointer (some ⟨db, 0, none⟩)) rfl (by kernel_rfl) (by kernel_rfl) (by kernel_rfl) (fun _ _ _ h => h) (Or.inl ⟨by rfl, fun w' hS => ?_⟩) HS.out ?_
          · go_simp
          try simp only [Act.put, List.getElem_toArray, List.getElem_cons_zero, List.getElem_cons_succ, List.setIfInBounds_toArray, List.set_cons_zero, List.set_cons_succ]
          refine wpAnyH_ready (rs := [5]) (by kernel_rfl) (by simp) (AllReadyH.cons rfl (fun K hK => ?_) AllReadyH.nil)
          rw [if_pos (by rfl)]
          refine wp_store_rowTo 30 _ _ rfl _ (refA now D) _ 30 rfl rfl (F6.out.at BA.out (by simp)) (refA_Z30 _ _) (refA_info _ _) (refA_one _ _) ?_
          intro w7 hb7 hf7
          obtain ⟨db', F', hdb, two⟩ := Two.mk' (w := w) (sb := W1.heap.size) Q1.out Q2.out Q4.out Q3.out HR.out Q0.out FA.out HCP.out hf7 hb7 (Nat.le_refl _) (.inr (lt_of_block BA.out))
          obtain rfl : db = db' := by simpa using hdb
          have HT0 := Lib.hid two
          have HS : Hid (w7.heap[w2.heap.size]? = some (.cells (refA now D) 30 (0, 0))) := Lib.hid two.r
          generalize W1.heap.size = sb at *
          clear hb7 hf7 two hdb HCP
          refine hK.out _ _ HS.out (fun _ => ?_)
          clear hK K
          try simp only [Act.put, List.getElem_toArray, List.getElem_cons_zero, List.getElem_cons_succ]
          refine wpAnyH_done (by kernel_rfl) ?_ _
          go_wp2_with fail
          go_meet
          exact ⟨db, sb, F', rfl, rfl, HT0.out⟩
      case rest =>
        obtain ⟨db, sb, F', rfl, rfl, two⟩ := hcut
        have HT0 := Lib.hid two
        clear two HA0' HS1 P01 PG1 HF Q0 Q1 Q2 Q3 Q4 QD HS HRL HR
        go_wp2_with (first
          | (refine wpList_load_wanted (by rfl) 30 _ rfl sb rfl _ 30 HT0.out.s _ Try.underlying30 rfl (refA_info _ _) ?_)
          | (go_at_call 16; go_must (refine (agrees_any db _ _ _ _ 0 _ HT0.out.d (by have := HJ.out; have := HN.out; omega)).mono ?_; rintro e w8 ⟨rfl, hto⟩; obtain ⟨F1b, hto⟩ := HT0.out.symm.agree hto; have HT1 := Lib.hid hto.symm; clear hto HT0)))
        have HS2 := Lib.hid HT1.out.start
        have P02 := Lib.hid HT1.out.old.size
        have PG2 := Lib.hid HT1.out.low
        go_loopw [9, 13] (fun s9 si wr => s9 = .bool true ∧ ∃ i : Nat, si = .int .i64 i ∧ i ≤ n1 ∧ PL2 w w8 (w2.heap.size :: F) w.heap.size w2.heap.size (0 + j1) i wr) (fun _ si _ => n1 - (intOf si).toNat)
        case atStart => exact ⟨rfl, 0, rfl, Nat.zero_le _, HS2.out⟩
        case round =>
          obtain ⟨rfl, i, rfl, hi, hinv⟩ := hrel
          have hi' : (i : Int) ≤ n1 := by omega
          have HI := Lib.hid hi
          clear hi
          by_cases hin : i < n1
          · have hlt : (i : Int) < n1 := by omega
            have HIN := Lib.hid hin
            obtain ⟨b, o, what, tm, ti, rfl, ha⟩ := HA1.out i hin
            obtain ⟨p3, now, D, F, p1, p2, p4, p5, p6, p7⟩ := hinv
            have P1 := Lib.hid p1; have P2 := Lib.hid p2; have P3 := Lib.hid p3; have P4 := Lib.hid p4; have P5 := Lib.hid p5; have P6 := Lib.hid p6; have P7 := Lib.hid p7
            have HA0 := Lib.hid (show ActAt b o i what tm ti w from ha)
            have HS : Hid (ActAt b o i what tm ti wr.drew) := Lib.hid ((ActAt.frm ha p3).frm (Frm.refl [] wr).drew)
            clear ha p1 p2 p3 p4 p5 p6 p7 hin
            go_upto_region 16 with (fail)
            refine wp_region_held_drew (S := ActAt b o i what tm ti) (by kernel_rfl) HS.out (fun _ => ?_)
            refine wpAnyH_take (i := 0) (v := .pointer (some ⟨w.heap.size, 0, none⟩)) rfl (by kernel_rfl) (by kernel_rfl) (by kernel_rfl) (fun _ _ _ h => h) (Or.inl ⟨by rfl, fun w' hS => ?_⟩) HS.out ?_
            · go_simp
            try simp only [Act.put, List.setIfInBounds_toArray]
            refine wpAnyH_take (i := 2) (v := .slice (some ⟨b, o, none⟩) n1 c1) rfl (by kernel_rfl) (by kernel_rfl) (by kernel_rfl) (fun _ _ _ h => h) (Or.inl ⟨by rfl, fun w' hS => ?_⟩) HS.out ?_
            · go_simp
            try simp only [Act.put]
            refine wpAnyH_take (i := 3) (v := .int .i64 i) rfl (by kernel_rfl) (by kernel_rfl) (by kernel_rfl) (fun _ _ _ h => h) (Or.inl ⟨by rfl, fun w' hS => ?_⟩) HS.out ?_
            · go_simp
            try simp only [Act.put]
            refine wpAnyH_take (i := 4) (v := .pointer (some ⟨b, o + i * 3, none⟩)) rfl (by kernel_rfl) (by kernel_rfl) (by kernel_rfl) (fun _ _ _ h => h) (Or.inl ⟨by rfl, fun w' hS => ?_⟩) HS.out ?_
            · go_simp
            try simp only [Act.put]
            refine wpAnyH_take (i := 5) (v := .agg #[.int .i64 what, .int .i64 tm, .int .i64 ti]) rfl (by kernel_rfl) (by kernel_rfl) (by kernel_rfl) (fun _ _ _ h => h) (Or.inl ⟨by rfl, fun w' hS => ?_⟩) HS.out ?_
            · obtain ⟨e0, e1, e2⟩ := hS
              go_simp
            try simp only [Act.put]
            refine wpAnyH_ready (rs := [1]) (by kernel_rfl) (by simp) (AllReadyH.cons rfl (fun K hK => ?_) AllReadyH.nil)
            rw [if_pos (by rfl)]
            refine wp_load_rowTo rfl (((Frm.refl [] wr).drew).at P2.out (by simp)) Try.underlying30 rfl (refA_info _ _) rfl ?_
            refine hK.out _ _ HS.out (fun _ => ?_)
            clear hK K
            try simp only [Act.put]
            refine wpAnyH_ready (rs := [6]) (by kernel_rfl) (by simp) (AllReadyH.cons rfl (fun K hK => ?_) AllReadyH.nil)
            go_simp
            refine (do_any w.heap.size now D _ F what tm ti wr.drew (P1.out.frm (Frm.refl [] wr).drew (by simp)) (by have := HI.out; have := HJ.out; have := HN.out; omega)).mono ?_
            rintro e w5 ⟨rfl, hto⟩
            have HT := Lib.hid hto
            clear hto
            have HS := Lib.hid (HA0.out.frm (PL2.call P02.out PG2.out P3.out P4.out HT.out))
            have HB := Lib.hid (PLInv.cell P2.out P5.out HT.out)
            refine hK.out _ _ HS.out (fun _ => ?_)
            clear hK K
            try simp only [Act.put, List.setIfInBounds_toArray, List.set_cons_zero, List.set_cons_succ]
            refine wpAnyH_take (i := 7) (v := .tuple #[.agg (refA (actNow now what ti) (actD now D what tm ti)), .bool true]) rfl (by kernel_rfl) (by kernel_rfl) (by kernel_rfl) (fun _ _ _ h => h) (Or.inl ⟨by rfl, fun w' hS => ?_⟩) HS.out ?_
            · go_simp
            try simp only [Act.put, List.setIfInBounds_toArray]
            refine wpAnyH_take (i := 8) (v := .agg (refA (actNow now what ti) (actD now D what tm ti))) rfl (by kernel_rfl) (by kernel_rfl) (by kernel_rfl) (fun _ _ _ h => h) (Or.inl ⟨by rfl, fun w' hS => ?_⟩) HS.out ?_
            · go_simp
            try simp only [Act.put]
            refine wpAnyH_take (i := 9) (v := .bool true) rfl (by kernel_rfl) (by kernel_rfl) (by kernel_rfl) (fun _ _ _ h => h) (Or.inl ⟨by rfl, fun w' hS => ?_⟩) HS.out ?_
            · go_simp
            try simp only [Act.put]
            refine wpAnyH_ready (rs := [10]) (by kernel_rfl) (by simp) (AllReadyH.cons rfl (fun K hK => ?_) AllReadyH.nil)
            rw [if_pos (by rfl)]
            refine wp_store_rowTo 30 _ _ rfl _ (refA (actNow now what ti) (actD now D what tm ti)) _ 30 rfl rfl HB.out (refA_same _ _ _ _) (refA_info _ _) (refA_one _ _) ?_
            intro w6 hb6 hf6
            have HN6 := Lib.hid (PL2.next P02.out PG2.out P2.out P3.out P4.out P5.out P6.out P7.out HT.out hf6 hb6)
            have HS : Hid (ActAt b o i what tm ti w6) := by
              have q := HN6.out.1
              exact HA0.out.frm q
            clear hf6 hb6
            refine hK.out _ _ HS.out (fun _ => ?_)
            clear hK K
            try simp only [Act.put]
            refine wpAnyH_ready (rs := [11]) (by kernel_rfl) (by simp) (AllReadyH.cons rfl (fun K hK => ?_) AllReadyH.nil)
            go_simp
            refine hK.out _ _ HS.out (fun _ => ?_)
            clear hK K
            try simp only [Act.put, List.setIfInBounds_toArray, List.set_cons_zero, List.set_cons_succ]
            refine wpAnyH_done (by kernel_rfl) ?_ _
            go_wp2_with fail
            have hi1 := HIN.out
            exact ⟨⟨rfl, i + 1, by simp, hi1, HN6.out⟩, by simp [intOf]; omega⟩
          · have hge : (n1 : Int) ≤ i := by omega
            have hlt : ¬ (i : Int) < n1 := by omega
            have HP2 := Lib.hid hinv
            clear hinv hin
            obtain ⟨now2, D2, F2, two2⟩ := HT1.out.after HP2.out
            have HT2 := Lib.hid two2
            have HS3 := Lib.hid two2.symm.start
            have P03 := Lib.hid two2.old.size
            have PG3 := Lib.hid two2.symm.low
            clear two2 HP2 HT1 HS2 P02 PG2 HA1
            obtain ⟨W2, rfl⟩ : ∃ W2 : World, W2 = wr := ⟨_, rfl⟩
            obtain ⟨j2, rfl⟩ : ∃ j2 : Nat, j2 = i := ⟨_, rfl⟩
            have HJ : Hid (j1 ≤ n0 ∧ j2 ≤ n1) := Lib.hid ⟨HJ.out, HI.out⟩
            go_wp2_with fail
            clear HI hlt hge hi'
            go_loopw [9, 14] (fun s9 si wr => s9 = .bool true ∧ ∃ i : Nat, si = .int .i64 i ∧ i ≤ n2 ∧ PL2 w W2 (sb :: F1b) db sb (0 + j1) i wr) (fun _ si _ => n2 - (intOf si).toNat)
            case atStart => exact ⟨rfl, 0, rfl, Nat.zero_le _, HS3.out⟩
            case round =>
              obtain ⟨rfl, i, rfl, hi, hinv⟩ := hrel
              have hi' : (i : Int) ≤ n2 := by omega
              have HI := Lib.hid hi
              clear hi
              by_cases hin : i < n2
              · have hlt : (i : Int) < n2 := by omega
                have HIN := Lib.hid hin
                obtain ⟨b, o, what, tm, ti, rfl, ha⟩ := HA2.out i hin
                obtain ⟨p3, now, D, F, p1, p2, p4, p5, p6, p7⟩ := hinv
                have P1 := Lib.hid p1; have P2 := Lib.hid p2; have P3 := Lib.hid p3; have P4 := Lib.hid p4; have P5 := Lib.hid p5; have P6 := Lib.hid p6; have P7 := Lib.hid p7
                have HA0 := Lib.hid (show ActAt b o i what tm ti w from ha)
                have HS : Hid (ActAt b o i what tm ti wr.drew) := Lib.hid ((ActAt.frm ha p3).frm (Frm.refl [] wr).drew)
                clear ha p1 p2 p3 p4 p5 p6 p7 hin
                go_upto_region 20 with (fail)
                refine wp_region_held_drew (S := ActAt b o i what tm ti) (by kernel_rfl) HS.out (fun _ => ?_)
                refine wpAnyH_take (i := 0) (v := .pointer (some ⟨db, 0, none⟩)) rfl (by kernel_rfl) (by kernel_rfl) (by kernel_rfl) (fun _ _ _ h => h) (Or.inl ⟨by rfl, fun w' hS => ?_⟩) HS.out ?_
                · go_simp
                try simp only [Act.put, List.setIfInBounds_toArray]
                refine wpAnyH_take (i := 2) (v := .slice (some ⟨b, o, none⟩) n2 c2) rfl (by kernel_rfl) (by kernel_rfl) (by kernel_rfl) (fun _ _ _ h => h) (Or.inl ⟨by rfl, fun w' hS => ?_⟩) HS.out ?_
                · go_simp
                try simp only [Act.put]
                refine wpAnyH_take (i := 3) (v := .int .i64 i) rfl (by kernel_rfl) (by kernel_rfl) (by kernel_rfl) (fun _ _ _ h => h) (Or.inl ⟨by rfl, fun w' hS => ?_⟩) HS.out ?_
                · go_simp
                try simp only [Act.put]
                refine wpAnyH_take (i := 4) (v := .pointer (some ⟨b, o + i * 3, none⟩)) rfl (by kernel_rfl) (by kernel_rfl) (by kernel_rfl) (fun _ _ _ h => h) (Or.inl ⟨by rfl, fun w' hS => ?_⟩) HS.out ?_
                · go_simp
                try simp only [Act.put]
                refine wpAnyH_take (i := 5) (v := .agg #[.int .i64 what, .int .i64 tm, .int .i64 ti]) rfl (by kernel_rfl) (by kernel_rfl) (by kernel_rfl) (fun _ _ _ h => h) (Or.inl ⟨by rfl, fun w' hS => ?_⟩) HS.out ?_
                · obtain ⟨e0, e1, e2⟩ := hS
                  go_simp
                try simp only [Act.put]
                refine wpAnyH_ready (rs := [1]) (by kernel_rfl) (by simp) (AllReadyH.cons rfl (fun K hK => ?_) AllReadyH.nil)
                rw [if_pos (by rfl)]
                refine wp_load_rowTo rfl (((Frm.refl [] wr).drew).at P2.out (by simp)) Try.underlying30 rfl (refA_info _ _) rfl ?_
                refine hK.out _ _ HS.out (fun _ => ?_)
                clear hK K
                try simp only [Act.put]
                refine wpAnyH_ready (rs := [6]) (by kernel_rfl) (by simp) (AllReadyH.cons rfl (fun K hK => ?_) AllReadyH.nil)
                go_simp
                refine (do_any db now D _ F what tm ti wr.drew (P1.out.frm (Frm.refl [] wr).drew (by simp)) (by have := HI.out; have := HJ.out; have := HN.out; omega)).mono ?_
                rintro e w5 ⟨rfl, hto⟩
                have HT := Lib.hid hto
                clear hto
                have HS := Lib.hid (HA0.out.frm (PL2.call P03.out PG3.out P3.out P4.out HT.out))
                have HB := Lib.hid (PLInv.cell P2.out P5.out HT.out)
                refine hK.out _ _ HS.out (fun _ => ?_)
                clear hK K
                try simp only [Act.put, List.setIfInBounds_toArray, List.set_cons_zero, List.set_cons_succ]
                refine wpAnyH_take (i := 7) (v := .tuple #[.agg (refA (actNow now what ti) (actD now D what tm ti)), .bool true]) rfl (by kernel_rfl) (by kernel_rfl) (by kernel_rfl) (fun _ _ _ h => h) (Or.inl ⟨by rfl, fun w' hS => ?_⟩) HS.out ?_
                · go_simp
                try simp only [Act.put, List.setIfInBounds_toArray]
                refine wpAnyH_take (i := 8) (v := .agg (refA (actNow now what ti) (actD now D what tm ti))) rfl (by kernel_rfl) (by kernel_rfl) (by kernel_rfl) (fun _ _ _ h => h) (Or.inl ⟨by rfl, fun w' hS => ?_⟩) HS.out ?_
                · go_simp
                try simp only [Act.put]
                refine wpAnyH_take (i := 9) (v := .bool true) rfl (by kernel_rfl) (by kernel_rfl) (by kernel_rfl) (fun _ _ _ h => h) (Or.inl ⟨by rfl, fun w' hS => ?_⟩) HS.out ?_
                · go_simp
                try simp only [Act.put]
                refine wpAnyH_ready (rs := [10]) (by kernel_rfl) (by simp) (AllReadyH.cons rfl (fun K hK => ?_) AllReadyH.nil)
                rw [if_pos (by rfl)]
                refine wp_store_rowTo 30 _ _ rfl _ (refA (actNow now what ti) (actD now D what tm ti)) _ 30 rfl rfl HB.out (refA_same _ _ _ _) (refA_info _ _) (refA_one _ _) ?_
                intro w6 hb6 hf6
                have HN6 := Lib.hid (PL2.next P03.out PG3.out P2.out P3.out P4.out P5.out P6.out P7.out HT.out hf6 hb6)
                have HS : Hid (ActAt b o i what tm ti w6) := by
                  have q := HN6.out.1
                  exact HA0.out.frm q
                clear hf6 hb6
                refine hK.out _ _ HS.out (fun _ => ?_)
                clear hK K
                try simp only [Act.put]
                refine wpAnyH_ready (rs := [11]) (by kernel_rfl) (by simp) (AllReadyH.cons rfl (fun K hK => ?_) AllReadyH.nil)
                go_simp
                refine hK.out _ _ HS.out (fun _ => ?_)
                clear hK K
                try simp only [Act.put, List.setIfInBounds_toArray, List.set_cons_zero, List.set_cons_succ]
                refine wpAnyH_done (by kernel_rfl) ?_ _
                go_wp2_with fail
                have hi1 := HIN.out
                exact ⟨⟨rfl, i + 1, by simp, hi1, HN6.out⟩, by simp [intOf]; omega⟩
              · have hge : (n2 : Int) ≤ i := by omega
                have hlt : ¬ (i : Int) < n2 := by omega
                have HP3 := Lib.hid hinv
                clear hinv hin
                obtain ⟨now3, D3, F3, two3⟩ := HT2.out.symm.after HP3.out
                have HT3 := Lib.hid two3.symm
                clear two3
                go_wp2_with (first
                  | (refine wpList_load_wanted (by rfl) 30 _ rfl w2.heap.size rfl _ 30 HT3.out.r _ Try.underlying30 rfl (refA_info _ _) ?_)
                  | (refine wpList_load_wanted (by rfl) 30 _ rfl sb rfl _ 30 HT4.out.s _ Try.underlying30 rfl (refA_info _ _) ?_)
                  | (go_at_call 16; go_must (first
                     | (refine (agrees_any w.heap.size _ _ _ _ 0 _ HT3.out.c (by have := HI.out; have := HJ.out; have := HN.out; omega)).mono ?_; rintro e w9 ⟨rfl, hto⟩; obtain ⟨F4, hto⟩ := HT3.out.agree hto; have HT4 := Lib.hid hto; clear hto HT3)
                     | (refine (agrees_any db _ _ _ _ 0 _ HT4.out.d (by have := HI.out; have := HJ.out; have := HN.out; omega)).mono ?_; rintro e w10 ⟨rfl, hto⟩; obtain ⟨F5, hto⟩ := HT4.out.symm.agree hto; have HT5 := Lib.hid hto; clear hto HT4)))
                  | (go_at_call 8; go_must (refine (known_any _).mono ?_; rintro e w' ⟨rfl, hf⟩; have HK := Lib.hid hf; clear hf)))
                go_ret
                exact ⟨rfl, HT5.out.old.trans HK.out⟩
end Go.Proofs.Ytdhkcjjcgpkkgaa
