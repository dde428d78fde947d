/- ProductBack (function 4): the walk up to the loop over the states (what it leaves is the first part of a pair). -/
import Derived.Test.YtkphhjekfimmlaaGreatB30
import Derived.Test.YtkphhjekfimmlaaGreatB24
import Derived.Test.YtkphhjekfimmlaaGreatB23
import Derived.Test.YtkphhjekfimmlaaGreatB14
namespace Go.Proofs.YtkphhjekfimmlaaGreat
open Go.RowKit Go.BigFrame

theorem wp_clone_step {o : Oper} {a : Act} {w w' : World} {K : Act → World → Prop} {Q : Exit → Act → World → Prop} {t : TypeId} {u v x : Value} (s y : Operand) (ho : o.op = .call { callee := .builtin .append, args := #[s, y], argTypes := #[t, t] }) (hs : a.eval s = u) (hy : a.eval y = v)
    (hrun : (Builtin.append_ #[t, t] o.type #[u, v]).run Tryz.prog w = .ok x w') (hK : K (a.put o.dst x) w') : Oper.wp Tryz.prog o a w K Q := by
  unfold Oper.wp
  simp [execOp, ho, resolve, invoke, builtin, hs, hy, hrun, Result.andThen]
  exact hK
theorem num33_frm (e : Int) (w : World) : Calls Tryz.prog 19 #[.int .i64 e] w (Ret (.int .i64 e) (Frm [] w)) := (num33_any e w).mono fun _ _ h => by
  obtain ⟨rfl, rfl⟩ := h
  exact ⟨rfl, Frm.refl _ _⟩
set_option maxHeartbeats 4000000 in
set_option maxRecDepth 100000 in
noncomputable def backS : PSigma fun P : Prop => P → ∀ (v cv : Value) (s : SesD) (cs : List UInt8) (w : World) (_ : SesV w v s) (_ : WfS s) (_ : Byts w cv cs), Calls Tryz.prog 4 #[v, cv] w (Ret (.bool true) (Frm [] w)) := by
  apply PSigma.mk
  intro hP
  intro v cv s cs w h hw hb
  obtain ⟨rv, rfl, hr⟩ := h
  obtain ⟨ao, cap, e, -⟩ := id hr
  subst e
  obtain ⟨ca, cc, rfl, -⟩ := hb.len
  obtain ⟨n, hn⟩ : ∃ n, s.roles.length = n := ⟨_, rfl⟩
  obtain ⟨cl, hcl⟩ : ∃ n, cs.length = n := ⟨_, rfl⟩
  have HN := Lib.hid hn; have HCL := Lib.hid hcl
  obtain ⟨W0, hW0⟩ : ∃ W0, w.alloc (.cells #[.string s.name, .slice ao n cap, .int .i64 s.cls, .int .i64 s.cap] 25) = W0 := ⟨_, rfl⟩
  have hf0 : Frm [] w W0 := by rw [← hW0]; exact (Frm.refl [] w).alloc _
  have HF0 := Lib.hid hf0
  have HRL := Lib.hid hr
  have HBY := Lib.hid hb
  rw [hn] at HRL; rw [hcl] at HBY
  have HB : Hid (∀ V, Frm [] W0 V → V.heap[w.heap.size]? = some (.cells #[.string s.name, .slice ao n cap, .int .i64 s.cls, .int .i64 s.cap] 25 (0, 0))) := Lib.hid fun V hV => by
    have hb : W0.heap[w.heap.size]? = some (.cells #[.string s.name, .slice ao n cap, .int .i64 s.cls, .int .i64 s.cap] 25 (0, 0)) := by rw [← hW0]; exact heap_alloc_new _ _
    exact hV.at hb (by simp)
  have CA := Lib.hid (lAllowed_any _ s W0 ⟨_, rfl, (by rw [hn] at hr; exact hr.frm hf0 : Rls W0 (.slice ao n cap) s.roles)⟩ hw)
  have CK : Hid (∀ V, Calls Tryz.prog 14 #[] V (Ret (.bool true) (Frm [] V))) := Lib.hid known33_any
  have HWF := Lib.hid hw
  obtain ⟨al, hal⟩ : ∃ b, allowedB s = b := ⟨_, rfl⟩
  rw [hal] at CA
  have HAL := Lib.hid hal
  have HE := Lib.hid hW0
  rw [hn, hcl]
  clear hr hw hb hn hcl hf0 hW0 hal
  go_enter Tryz.func4, Tryz.ntmps4
  go_upto_region 1 with (first | (refine wpList_box_row rfl 25 _ rfl _ rfl ?_; rw [HE.out]))
  clear HE
  cases al with
  | false =>
    go_wp2_with (first
      | (refine wpList_load_whole rfl 25 _ rfl _ rfl _ 25 (HB.out _ (Frm.refl _ _)) _ Tryz.underlying25 rfl (by kernel_rfl) ?_)
      | (go_at_call 13; go_must (refine CA.out.mono ?_; rintro e w1 ⟨rfl, hf1⟩; have HF1 := Lib.hid hf1; clear hf1))
      | (go_at_call 14; go_must (refine (CK.out _).mono ?_; rintro e w2 ⟨rfl, hf2⟩; have HF2 := Lib.hid (HF1.out.trans hf2); clear hf2)))
    go_ret
    exact ⟨rfl, HF0.out.trans HF2.out⟩
  | true =>
    by_cases h40 : 40 < cl
    · have h40' : decide (40 < (cl : Int)) = true := decide_eq_true (by omega)
      go_wp2_with (first
        | (refine wpList_load_whole rfl 25 _ rfl _ rfl _ 25 (HB.out _ (Frm.refl _ _)) _ Tryz.underlying25 rfl (by kernel_rfl) ?_)
        | (go_at_call 13; go_must (refine CA.out.mono ?_; rintro e w1 ⟨rfl, hf1⟩; have HF1 := Lib.hid hf1; clear hf1))
        | (go_at_call 14; go_must (refine (CK.out _).mono ?_; rintro e w2 ⟨rfl, hf2⟩; have HF2 := Lib.hid (HF1.out.trans hf2); clear hf2)))
      go_ret
      exact ⟨rfl, HF0.out.trans HF2.out⟩
    have h40' : decide (40 < (cl : Int)) = false := decide_eq_false (by omega)
    go_upto_region 3 with (first
      | (refine wpList_load_whole rfl 25 _ rfl _ rfl _ 25 (HB.out _ (Frm.refl _ _)) _ Tryz.underlying25 rfl (by kernel_rfl) ?_)
      | (go_at_call 13; go_must (refine CA.out.mono ?_; rintro e w1 ⟨rfl, hf1⟩; have HF1 := Lib.hid hf1; clear hf1)))
    clear h40' CA
    have HCK : Hid (largeB s = false ∧ ckSes s = 0) := Lib.hid (by
      have := HAL.out
      unfold allowedB at this
      simpa using this)
    go_upto_region 4 with (first
      | (refine wpList_load_whole rfl 25 _ rfl _ rfl _ 25 (HB.out _ HF1.out) _ Tryz.underlying25 rfl (by kernel_rfl) ?_))
    have HOK := Lib.hid (ses_ok HCK.out.2)
    have HSM := Lib.hid (sm_of HWF.out HCK.out.1)
    obtain ⟨W2, hW2⟩ : ∃ W2, w1.alloc (.cells #[.string s.name, .slice ao n cap, .int .i64 s.cls, .int .i64 s.cap] 25) = W2 := ⟨_, rfl⟩
    rw [hW2]
    have hf2 : Frm [] w1 W2 := by rw [← hW2]; exact (Frm.refl _ _).alloc _
    have HF2 := Lib.hid hf2
    have B5 : Hid (W2.heap[w1.heap.size]? = some (.cells #[.string s.name, .slice ao n cap, .int .i64 s.cls, .int .i64 s.cap] 25 (0, 0))) := Lib.hid (by rw [← hW2]; exact heap_alloc_new _ _)
    have HRW : Hid (∀ V, Frm [] w1 V → Rls V (.slice ao n cap) s.roles) := Lib.hid fun V hV => HRL.out.frm (HF0.out.trans (HF1.out.trans hV))
    have HA : Hid (∀ V, Frm [] w1 V → Arr 4 (RoAt w1) V (.slice ao n cap) s.roles) := Lib.hid fun V hV => (RoAt.of (HRW.out w1 (Frm.refl _ _))).frm fun _ _ _ h => h.frm hV
    have hn1 : 1 ≤ n := by have := HOK.out.n2; rw [HN.out] at this; omega
    have hn4 : n ≤ 4 := by have := HOK.out.n4; rw [HN.out] at this; omega
    have HL : Hid (n ≤ 100000) := Lib.hid (by omega)
    have z2 : W2.cell? ⟨w.heap.size, 1, none⟩ = some (.slice ao n cap) := cell_of (hf2.at (HB.out _ HF1.out) (by simp)) 1
    have hlz := cell_lt z2
    clear hf2 hW2
    go_upto_region 5 with (first
      | (at_builtin; refine wpList_clone (k := 4) (At := (RoAt w1)) (z := .agg #[.string { data := #[] }, .slice none 0 0, .slice none 0 0, .slice none 0 0]) (bytes := 88) rfl _ _ rfl rfl rfl Tryz.underlying22 (by kernel_rfl) rfl (by decide) (by decide) (RoAt.mov w1) HN.out (HA.out _ (HF2.out.alloc _)) HL.out ?_; intro ao' cap' w3 hr; have hi := BkI.start (w0 := w1) (b5 := w1.heap.size) (c0 := cap) (ao := ao) (HF2.out.alloc _) (by rw [HN.out]; exact alloc_at B5.out) (Nat.le_refl _) hr (by rw [HN.out]; exact hn1); rw [HN.out] at hi; obtain ⟨g, c1, e, hoi⟩ := hi; cases e; have HI := Lib.hid hoi; have b1 := hr.frm.at (alloc_at B5.out) (by simp); have d1 : w3.cell? ⟨w1.heap.size, 1, none⟩ = some (.slice ao n cap) := cell_of b1 1; have f1 := free_of b1 1; clear hr b1 hoi))
    clear z2 hlz d1 f1
    go_upto_region 6 with fail
    go_loopw [6] (fun s6 wr => ∃ i : Nat, s6 = .int .i64 i ∧ i ≤ n ∧ BkI w1 s w1.heap.size g cap' i i wr) (fun s6 _ => n - (intOf s6).toNat)
    case atStart => exact ⟨0, rfl, Nat.zero_le _, HI.out⟩
    case round =>
      clear HI
      obtain ⟨i, rfl, hi, hbk⟩ := hrel
      have HK := Lib.hid hbk
      have e1 := cell_of hbk.h5 1
      rw [HN.out] at e1
      have e1' : wr.cell? ⟨w1.heap.size, 1, none⟩ = some (.slice (some ⟨g, 0, none⟩) n cap') := e1
      clear e1 hbk
      by_cases hlt : i < n
      · have hlt' : (i : Int) < (n : Int) := by omega
        have hin : i < s.roles.length := by rw [HN.out]; exact hlt
        obtain ⟨b, o, sv0, cv0, tv0, rfl, ⟨-, d1, -, d3⟩, h3⟩ := Rls.at (HRW.out w1 (Frm.refl _ _)) hin
        have hmem : s.rol i ∈ s.roles := List.mem_of_getElem? (SesD.rol_some hin)
        have hsm := HSM.out.r _ hmem
        obtain ⟨aS, cS, rfl⟩ := h3.sts.shape
        obtain ⟨aT, cT, rfl⟩ := h3.steps.shape
        have HT3 : Hid (∀ V, Frm [] w1 V → Arr 9 SpAt V (.slice aT (s.rol i).steps.length cT) (s.rol i).steps) := Lib.hid fun V hV => (h3.frm hV).steps
        have HS3 : Hid (∀ V, Frm [] w1 V → Arr 3 StAt V (.slice aS (s.rol i).sts.length cS) (s.rol i).sts) := Lib.hid fun V hV => (h3.frm hV).sts
        have HROL := Lib.hid (SesD.rol_some hin)
        have z2 : w1.cell? ⟨w.heap.size, 1, none⟩ = some (.slice (some ⟨b, o, none⟩) n cap) := cell_of (HB.out _ HF1.out) 1
        have HS : Hid (∀ V, BkI w1 s w1.heap.size g cap' i i V → Frm [] w1 V) := Lib.hid fun V hV => hV.fr
        have HC : Hid (∀ V, Frm [] w1 V → V.cell? ⟨w.heap.size, 1, none⟩ = some (.slice (some ⟨b, o, none⟩) n cap) ∧ V.cell? ⟨b, o + i * 4 + 1, none⟩ = some (.slice aS (s.rol i).sts.length cS) ∧ V.cell? ⟨b, o + i * 4 + 3, none⟩ = some (.slice aT (s.rol i).steps.length cT)) := Lib.hid fun V hV => ⟨hV.keep z2, hV.keep d1, hV.keep d3⟩
        have hgl : g < wr.heap.size := by obtain ⟨cur, hg⟩ := HK.out.hg; exact lt_of_block hg
        have HCG : Hid (∀ V, Frm [g] wr V → (V.cell? ⟨w1.heap.size, 1, none⟩ = some (.slice (some ⟨g, 0, none⟩) n cap') ∧ V.cell? ⟨w.heap.size, 1, none⟩ = some (.slice (some ⟨b, o, none⟩) n cap)) ∧ V.cell? ⟨b, o + i * 4 + 3, none⟩ = some (.slice aT (s.rol i).steps.length cT)) := Lib.hid fun V hV => by
          have n5 : w1.heap.size ≠ g := fun e => by
            obtain ⟨cur, hg⟩ := HK.out.hg
            have := HK.out.h5
            rw [e, hg] at this; cases this
          have hl := HK.out.lg
          have h1 := HF2.out.size
          have q1 := cell_lt z2
          have q3 := cell_lt d3
          have hC := HC.out wr HK.out.fr
          exact ⟨⟨hV.cellAt e1' (by simpa using n5), hV.cellAt hC.1 (by
            have hz := lt_of_block (HB.out _ HF1.out)
            simp; omega)⟩, hV.cellAt hC.2.2 (by
            have hz : b < w1.heap.size := cell_lt d3
            simp; omega)⟩
        obtain ⟨a7, k7, w7, hrun, hfr⟩ := clone_run (k := 9) (At := SpAt) (t := 49) (e := 60) (ty := 49) (z := .agg #[.string { data := #[] }, .string { data := #[] }, .int .i64 0, .string { data := #[] }, .string { data := #[] }, .string { data := #[] }, .int .i64 0, .int .i64 0, .int .i64 0]) (bytes := 112) (d := wr.heap.size) (w := wr.drew.alloc (.cells #[] 60)) Tryz.underlying49 (by kernel_rfl) rfl (by decide) (by decide) SpAt.mov (HT3.out _ (HK.out.fr.trans ((Frm.refl [] wr).drew.alloc _))) (by have := hsm.t; omega)
        go_upto_region 8 with fail
        refine heldF_start (F := [g]) (by kernel_rfl) ?_
        refine heldF_take (i := 0) ?_ rfl (by kernel_rfl) (by kernel_rfl) (by kernel_rfl) (fun _ _ _ h => h) (by rfl) (fun w' hC => ?_) ?_
        rotate_left
        · skip
          obtain ⟨⟨x1, x2⟩, x3⟩ := HCG.out w' ((Frm.refl [g] wr).drew.trans hC)
          clear hC
          go_simp
          try rfl
        try simp only [List.getElem_toArray, List.getElem_cons_zero, Act.put, List.setIfInBounds_toArray, List.set_cons_zero, List.set_cons_succ]
        refine heldF_take (i := 1) ?_ rfl (by kernel_rfl) (by kernel_rfl) (by kernel_rfl) (fun _ _ _ h => h) (by rfl) (fun w' hC => ?_) ?_
        rotate_left
        · skip
          obtain ⟨⟨x1, x2⟩, x3⟩ := HCG.out w' ((Frm.refl [g] wr).drew.trans hC)
          clear hC
          go_simp
          try rfl
        try simp only [List.getElem_toArray, List.getElem_cons_zero, List.getElem_cons_succ, Act.put, List.setIfInBounds_toArray, List.set_cons_zero, List.set_cons_succ]
        refine heldF_take (i := 2) ?_ rfl (by kernel_rfl) (by kernel_rfl) (by kernel_rfl) (fun _ _ _ h => h) (by rfl) (fun w' hC => ?_) ?_
        rotate_left
        · skip
          obtain ⟨⟨x1, x2⟩, x3⟩ := HCG.out w' ((Frm.refl [g] wr).drew.trans hC)
          clear hC
          go_simp
          try rfl
        try simp only [List.getElem_toArray, List.getElem_cons_zero, List.getElem_cons_succ, Act.put, List.setIfInBounds_toArray, List.set_cons_zero, List.set_cons_succ]
        refine heldF_take (i := 4) ?_ rfl (by kernel_rfl) (by kernel_rfl) (by kernel_rfl) (fun _ _ _ h => h) (by rfl) (fun w' hC => ?_) ?_
        rotate_left
        · skip
          obtain ⟨⟨x1, x2⟩, x3⟩ := HCG.out w' ((Frm.refl [g] wr).drew.trans hC)
          clear hC
          go_simp
          try rfl
        try simp only [List.getElem_toArray, List.getElem_cons_zero, List.getElem_cons_succ, Act.put, List.setIfInBounds_toArray, List.set_cons_zero, List.set_cons_succ]
        refine heldF_take (i := 5) ?_ rfl (by kernel_rfl) (by kernel_rfl) (by kernel_rfl) (fun _ _ _ h => h) (by rfl) (fun w' hC => ?_) ?_
        rotate_left
        · skip
          obtain ⟨⟨x1, x2⟩, x3⟩ := HCG.out w' ((Frm.refl [g] wr).drew.trans hC)
          clear hC
          go_simp
          try rfl
        try simp only [List.getElem_toArray, List.getElem_cons_zero, List.getElem_cons_succ, Act.put, List.setIfInBounds_toArray, List.set_cons_zero, List.set_cons_succ]
        refine heldF_take (i := 6) ?_ rfl (by kernel_rfl) (by kernel_rfl) (by kernel_rfl) (fun _ _ _ h => h) (by rfl) (fun w' hC => ?_) ?_
        rotate_left
        · skip
          obtain ⟨⟨x1, x2⟩, x3⟩ := HCG.out w' ((Frm.refl [g] wr).drew.trans hC)
          clear hC
          go_simp
          try rfl
        try simp only [List.getElem_toArray, List.getElem_cons_zero, List.getElem_cons_succ, Act.put, List.setIfInBounds_toArray, List.set_cons_zero, List.set_cons_succ]
        refine heldF_take (i := 7) ?_ rfl (by kernel_rfl) (by kernel_rfl) (by kernel_rfl) (fun _ _ _ h => h) (by rfl) (fun w' hC => ?_) ?_
        rotate_left
        · skip
          obtain ⟨⟨x1, x2⟩, x3⟩ := HCG.out w' ((Frm.refl [g] wr).drew.trans hC)
          clear hC
          go_simp
          try rfl
        try simp only [List.getElem_toArray, List.getElem_cons_zero, List.getElem_cons_succ, Act.put, List.setIfInBounds_toArray, List.set_cons_zero, List.set_cons_succ]
        refine heldF_take (i := 8) ?_ rfl (by kernel_rfl) (by kernel_rfl) (by kernel_rfl) (fun _ _ _ h => h) (by rfl) (fun w' hC => ?_) ?_
        rotate_left
        · skip
          obtain ⟨⟨x1, x2⟩, x3⟩ := HCG.out w' ((Frm.refl [g] wr).drew.trans hC)
          clear hC
          go_simp
          try rfl
        try simp only [List.getElem_toArray, List.getElem_cons_zero, List.getElem_cons_succ, Act.put, List.setIfInBounds_toArray, List.set_cons_zero, List.set_cons_succ]
        refine heldF_take (i := 9) ?_ rfl (by kernel_rfl) (by kernel_rfl) (by kernel_rfl) (fun _ _ _ h => h) (by rfl) (fun w' hC => ?_) ?_
        rotate_left
        · skip
          obtain ⟨⟨x1, x2⟩, x3⟩ := HCG.out w' ((Frm.refl [g] wr).drew.trans hC)
          clear hC
          go_simp
          try rfl
        try simp only [List.getElem_toArray, List.getElem_cons_zero, List.getElem_cons_succ, Act.put, List.setIfInBounds_toArray, List.set_cons_zero, List.set_cons_succ]
        refine heldF_step (i := 3) rfl (by kernel_rfl) (by rfl) (fun K' hK' => ?_)
        go_simp
        (skip)
        refine hK'.out _ _ ((Frm.refl _ _).alloc _) ?_
        clear hK' K'
        try simp only [List.getElem_toArray, List.getElem_cons_zero, List.getElem_cons_succ, Act.put, List.setIfInBounds_toArray, List.set_cons_zero, List.set_cons_succ]
        refine heldF_step (i := 10) rfl (by kernel_rfl) (by rfl) (fun K' hK' => ?_)
        refine wp_clone_step _ _ rfl rfl rfl hrun ?_
        refine hK'.out _ _ (hfr.frm.mono (by simp)) ?_
        clear hK' K'
        try simp only [List.getElem_toArray, List.getElem_cons_zero, List.getElem_cons_succ, Act.put, List.setIfInBounds_toArray, List.set_cons_zero, List.set_cons_succ]
        obtain ⟨cur7, hg7⟩ := ((HK.out.frm ((Frm.refl [] wr).drew.alloc _)).frm hfr.frm).hg
        obtain ⟨_, _, _, ⟨-, y1, -, y3⟩, -⟩ := ((HK.out.frm ((Frm.refl [] wr).drew.alloc _)).frm hfr.frm).rol i _ HROL.out
        have f3 := free_of hg7 (i * 4 + 3)
        refine heldF_take (i := 11) ?_ rfl (by kernel_rfl) (by kernel_rfl) (by kernel_rfl) (fun _ _ _ h => h) (by rfl) (fun w' hC => ?_) ?_
        rotate_left
        · skip
          skip
          clear hC
          go_simp
          try rfl
        try simp only [List.getElem_toArray, List.getElem_cons_zero, List.getElem_cons_succ, Act.put, List.setIfInBounds_toArray, List.set_cons_zero, List.set_cons_succ]
        refine heldF_take (i := 12) ?_ rfl (by kernel_rfl) (by kernel_rfl) (by kernel_rfl) (fun _ _ _ h => h) (by rfl) (fun w' hC => ?_) ?_
        rotate_left
        · skip
          skip
          clear hC
          go_simp
          try rfl
        try simp only [List.getElem_toArray, List.getElem_cons_zero, List.getElem_cons_succ, Act.put, List.setIfInBounds_toArray, List.set_cons_zero, List.set_cons_succ]
        refine heldF_step (i := 13) rfl (by kernel_rfl) (by rfl) (fun K' hK' => ?_)
        go_simp
        (skip)
        refine hK'.out _ _ ((Frm.refl [g] w7).setCell _ (.inl (by simp)) _) ?_
        clear hK' K'
        try simp only [List.getElem_toArray, List.getElem_cons_zero, List.getElem_cons_succ, Act.put, List.setIfInBounds_toArray, List.set_cons_zero, List.set_cons_succ]
        refine wpAnyH_done (by kernel_rfl) ?_ _
        have HK8 := Lib.hid ((HK.out.frm ((Frm.refl [] wr).drew.alloc _)).stepT HROL.out hfr)
        obtain ⟨W8, hW8⟩ : ∃ W8, w7.setCell ⟨g, i * 4 + 3, none⟩ (.slice a7 (s.rol i).steps.length k7) = W8 := ⟨_, rfl⟩
        rw [hW8] at HK8 ⊢
        clear hrun hfr y1 y3 f3 hg7 HCG hW8 e1' hgl
        have e8 := cell_of HK8.out.h5 1
        rw [HN.out] at e8
        have e1' : W8.cell? ⟨w1.heap.size, 1, none⟩ = some (.slice (some ⟨g, 0, none⟩) n cap') := e8
        have hgl : g < W8.heap.size := by obtain ⟨cur, hg⟩ := HK8.out.hg; exact lt_of_block hg
        have HCG : Hid (∀ V, Frm [g] W8 V → (V.cell? ⟨w1.heap.size, 1, none⟩ = some (.slice (some ⟨g, 0, none⟩) n cap') ∧ V.cell? ⟨w.heap.size, 1, none⟩ = some (.slice (some ⟨b, o, none⟩) n cap)) ∧ V.cell? ⟨b, o + i * 4 + 1, none⟩ = some (.slice aS (s.rol i).sts.length cS)) := Lib.hid fun V hV => by
          have n5 : w1.heap.size ≠ g := fun e => by
            obtain ⟨cur, hg⟩ := HK8.out.hg
            have := HK8.out.h5
            rw [e, hg] at this; cases this
          have hl := HK8.out.lg
          have hC := HC.out W8 HK8.out.fr
          exact ⟨⟨hV.cellAt e1' (by simpa using n5), hV.cellAt hC.1 (by
            have hz := lt_of_block (HB.out _ HF1.out)
            simp; omega)⟩, hV.cellAt hC.2.1 (by
            have hz : b < w1.heap.size := cell_lt d3
            simp; omega)⟩
        obtain ⟨a9, k9, w9, hrun, hfr⟩ := clone_run (k := 3) (At := StAt) (t := 50) (e := 62) (ty := 50) (z := .agg #[.string { data := #[] }, .bool false, .int .i64 0]) (bytes := 32) (d := W8.heap.size) (w := W8.drew.alloc (.cells #[] 62)) Tryz.underlying50 (by kernel_rfl) rfl (by decide) (by decide) StAt.mov (HS3.out _ (HK8.out.fr.trans ((Frm.refl [] W8).drew.alloc _))) (by have := hsm.s; omega)
        clear e8
        go_upto_region 9 with fail
        refine heldF_start (F := [g]) (by kernel_rfl) ?_
        refine heldF_take (i := 0) ?_ rfl (by kernel_rfl) (by kernel_rfl) (by kernel_rfl) (fun _ _ _ h => h) (by rfl) (fun w' hC => ?_) ?_
        rotate_left
        · skip
          obtain ⟨⟨x1, x2⟩, x3⟩ := HCG.out w' ((Frm.refl [g] W8).drew.trans hC)
          clear hC
          go_simp
          try rfl
        try simp only [List.getElem_toArray, List.getElem_cons_zero, Act.put, List.setIfInBounds_toArray, List.set_cons_zero, List.set_cons_succ]
        refine heldF_take (i := 1) ?_ rfl (by kernel_rfl) (by kernel_rfl) (by kernel_rfl) (fun _ _ _ h => h) (by rfl) (fun w' hC => ?_) ?_
        rotate_left
        · skip
          obtain ⟨⟨x1, x2⟩, x3⟩ := HCG.out w' ((Frm.refl [g] W8).drew.trans hC)
          clear hC
          go_simp
          try rfl
        try simp only [List.getElem_toArray, List.getElem_cons_zero, List.getElem_cons_succ, Act.put, List.setIfInBounds_toArray, List.set_cons_zero, List.set_cons_succ]
        refine heldF_take (i := 2) ?_ rfl (by kernel_rfl) (by kernel_rfl) (by kernel_rfl) (fun _ _ _ h => h) (by rfl) (fun w' hC => ?_) ?_
        rotate_left
        · skip
          obtain ⟨⟨x1, x2⟩, x3⟩ := HCG.out w' ((Frm.refl [g] W8).drew.trans hC)
          clear hC
          go_simp
          try rfl
        try simp only [List.getElem_toArray, List.getElem_cons_zero, List.getElem_cons_succ, Act.put, List.setIfInBounds_toArray, List.set_cons_zero, List.set_cons_succ]
        refine heldF_take (i := 4) ?_ rfl (by kernel_rfl) (by kernel_rfl) (by kernel_rfl) (fun _ _ _ h => h) (by rfl) (fun w' hC => ?_) ?_
        rotate_left
        · skip
          obtain ⟨⟨x1, x2⟩, x3⟩ := HCG.out w' ((Frm.refl [g] W8).drew.trans hC)
          clear hC
          go_simp
          try rfl
        try simp only [List.getElem_toArray, List.getElem_cons_zero, List.getElem_cons_succ, Act.put, List.setIfInBounds_toArray, List.set_cons_zero, List.set_cons_succ]
        refine heldF_take (i := 5) ?_ rfl (by kernel_rfl) (by kernel_rfl) (by kernel_rfl) (fun _ _ _ h => h) (by rfl) (fun w' hC => ?_) ?_
        rotate_left
        · skip
          obtain ⟨⟨x1, x2⟩, x3⟩ := HCG.out w' ((Frm.refl [g] W8).drew.trans hC)
          clear hC
          go_simp
          try rfl
        try simp only [List.getElem_toArray, List.getElem_cons_zero, List.getElem_cons_succ, Act.put, List.setIfInBounds_toArray, List.set_cons_zero, List.set_cons_succ]
        refine heldF_take (i := 6) ?_ rfl (by kernel_rfl) (by kernel_rfl) (by kernel_rfl) (fun _ _ _ h => h) (by rfl) (fun w' hC => ?_) ?_
        rotate_left
        · skip
          obtain ⟨⟨x1, x2⟩, x3⟩ := HCG.out w' ((Frm.refl [g] W8).drew.trans hC)
          clear hC
          go_simp
          try rfl
        try simp only [List.getElem_toArray, List.getElem_cons_zero, List.getElem_cons_succ, Act.put, List.setIfInBounds_toArray, List.set_cons_zero, List.set_cons_succ]
        refine heldF_take (i := 7) ?_ rfl (by kernel_rfl) (by kernel_rfl) (by kernel_rfl) (fun _ _ _ h => h) (by rfl) (fun w' hC => ?_) ?_
        rotate_left
        · skip
          obtain ⟨⟨x1, x2⟩, x3⟩ := HCG.out w' ((Frm.refl [g] W8).drew.trans hC)
          clear hC
          go_simp
          try rfl
        try simp only [List.getElem_toArray, List.getElem_cons_zero, List.getElem_cons_succ, Act.put, List.setIfInBounds_toArray, List.set_cons_zero, List.set_cons_succ]
        refine heldF_take (i := 8) ?_ rfl (by kernel_rfl) (by kernel_rfl) (by kernel_rfl) (fun _ _ _ h => h) (by rfl) (fun w' hC => ?_) ?_
        rotate_left
        · skip
          obtain ⟨⟨x1, x2⟩, x3⟩ := HCG.out w' ((Frm.refl [g] W8).drew.trans hC)
          clear hC
          go_simp
          try rfl
        try simp only [List.getElem_toArray, List.getElem_cons_zero, List.getElem_cons_succ, Act.put, List.setIfInBounds_toArray, List.set_cons_zero, List.set_cons_succ]
        refine heldF_take (i := 9) ?_ rfl (by kernel_rfl) (by kernel_rfl) (by kernel_rfl) (fun _ _ _ h => h) (by rfl) (fun w' hC => ?_) ?_
        rotate_left
        · skip
          obtain ⟨⟨x1, x2⟩, x3⟩ := HCG.out w' ((Frm.refl [g] W8).drew.trans hC)
          clear hC
          go_simp
          try rfl
        try simp only [List.getElem_toArray, List.getElem_cons_zero, List.getElem_cons_succ, Act.put, List.setIfInBounds_toArray, List.set_cons_zero, List.set_cons_succ]
        refine heldF_step (i := 3) rfl (by kernel_rfl) (by rfl) (fun K' hK' => ?_)
        go_simp
        (skip)
        refine hK'.out _ _ ((Frm.refl _ _).alloc _) ?_
        clear hK' K'
        try simp only [List.getElem_toArray, List.getElem_cons_zero, List.getElem_cons_succ, Act.put, List.setIfInBounds_toArray, List.set_cons_zero, List.set_cons_succ]
        refine heldF_step (i := 10) rfl (by kernel_rfl) (by rfl) (fun K' hK' => ?_)
        refine wp_clone_step _ _ rfl rfl rfl hrun ?_
        refine hK'.out _ _ (hfr.frm.mono (by simp)) ?_
        clear hK' K'
        try simp only [List.getElem_toArray, List.getElem_cons_zero, List.getElem_cons_succ, Act.put, List.setIfInBounds_toArray, List.set_cons_zero, List.set_cons_succ]
        obtain ⟨cur9, hg9⟩ := ((HK8.out.frm ((Frm.refl [] W8).drew.alloc _)).frm hfr.frm).hg
        obtain ⟨_, _, _, ⟨-, y1, -, y3⟩, -⟩ := ((HK8.out.frm ((Frm.refl [] W8).drew.alloc _)).frm hfr.frm).rol i _ HROL.out
        have f3 := free_of hg9 (i * 4 + 1)
        refine heldF_take (i := 11) ?_ rfl (by kernel_rfl) (by kernel_rfl) (by kernel_rfl) (fun _ _ _ h => h) (by rfl) (fun w' hC => ?_) ?_
        rotate_left
        · skip
          skip
          clear hC
          go_simp
          try rfl
        try simp only [List.getElem_toArray, List.getElem_cons_zero, List.getElem_cons_succ, Act.put, List.setIfInBounds_toArray, List.set_cons_zero, List.set_cons_succ]
        refine heldF_take (i := 12) ?_ rfl (by kernel_rfl) (by kernel_rfl) (by kernel_rfl) (fun _ _ _ h => h) (by rfl) (fun w' hC => ?_) ?_
        rotate_left
        · skip
          skip
          clear hC
          go_simp
          try rfl
        try simp only [List.getElem_toArray, List.getElem_cons_zero, List.getElem_cons_succ, Act.put, List.setIfInBounds_toArray, List.set_cons_zero, List.set_cons_succ]
        refine heldF_step (i := 13) rfl (by kernel_rfl) (by rfl) (fun K' hK' => ?_)
        go_simp
        (skip)
        refine hK'.out _ _ ((Frm.refl [g] w9).setCell _ (.inl (by simp)) _) ?_
        clear hK' K'
        try simp only [List.getElem_toArray, List.getElem_cons_zero, List.getElem_cons_succ, Act.put, List.setIfInBounds_toArray, List.set_cons_zero, List.set_cons_succ]
        refine wpAnyH_done (by kernel_rfl) ?_ _
        have HK9 := Lib.hid ((HK8.out.frm ((Frm.refl [] W8).drew.alloc _)).stepS HROL.out hfr)
        clear hrun hfr y1 y3 f3 hg9 HCG e1' hgl
        go_wp2
        exact ⟨⟨i + 1, congrArg (Value.int .i64) (by omega), hlt, HK9.out⟩, by simp [intOf]; omega⟩
      · obtain rfl : n = i := by omega
        have hge : ¬ (n : Int) < (n : Int) := by omega
        have hq5 := HK.out.h5
        have hse := HK.out.ses (by rw [HN.out]; omega) (by rw [HN.out]; omega)
        rw [HN.out] at hq5 hse
        have HQ5 := Lib.hid hq5
        have CNw := Lib.hid (pNew_ok _ s wr hse HSM.out HCK.out.2)
        clear hq5 hse hlt hi
        go_upto_region 13 with (first
          | (refine wpList_load_whole rfl 25 _ rfl _ rfl _ 25 HQ5.out _ Tryz.underlying25 rfl (by kernel_rfl) ?_)
          | (go_at_call 18; go_must (refine CNw.out.mono ?_; rintro e w4 ⟨u, rfl, hnt⟩; obtain ⟨⟨yb, fb, rfl, hly, hsy⟩, hf4⟩ := hnt; have HSY := Lib.hid hsy; have HLY := Lib.hid hly; have HF4 := Lib.hid hf4; clear hsy hly hf4 CNw))
          | (go_at_call 19; go_must (refine (num33_any _ _).mono ?_; rintro e w' ⟨rfl, rfl⟩)))
        have HK4 := Lib.hid (HK.out.frm HF4.out)
        clear e1' hge
        obtain ⟨wA, hwA⟩ : ∃ wA, wA = wr := ⟨_, rfl⟩
        subst hwA
        have HRO : Hid (∀ j, j < n → ∃ aS nS cS aT nT cT, w4.cell? ⟨g, j * 4 + 1, none⟩ = some (.slice aS nS cS) ∧ w4.cell? ⟨g, j * 4 + 3, none⟩ = some (.slice aT nT cT) ∧ nS ≤ 100 ∧ nT ≤ 100 ∧
            (0 < nS → ∃ b cur, aS = some ⟨b, 0, none⟩ ∧ w1.heap.size ≤ b ∧ w4.heap[b]? = some (Obj.cells cur 62 (0, 0)) ∧ b < wA.heap.size ∧ nS * 3 ≤ cur.size) ∧
            (0 < nT → ∃ b cur, aT = some ⟨b, 0, none⟩ ∧ w1.heap.size ≤ b ∧ w4.heap[b]? = some (Obj.cells cur 60 (0, 0)) ∧ b < wA.heap.size ∧ nT * 9 ≤ cur.size)) := Lib.hid fun j hj => by
          have hjn : j < s.roles.length := by rw [HN.out]; exact hj
          obtain ⟨sv, cv, tv, ⟨-, c1, -, c3⟩, ⟨s1, -⟩, -, ⟨t1, -⟩, -⟩ := HK.out.rol j _ (SesD.rol_some hjn)
          have hsm := HSM.out.r _ (List.mem_of_getElem? (SesD.rol_some hjn))
          obtain ⟨f1, f2⟩ := s1 hj
          obtain ⟨f3, f4⟩ := t1 hj
          obtain ⟨aS, cS, rfl⟩ := f1.shape
          obtain ⟨aT, cT, rfl⟩ := f3.shape
          refine ⟨aS, _, cS, aT, _, cT, HF4.out.keep c1, HF4.out.keep c3, hsm.s, hsm.t, fun h => ?_, fun h => ?_⟩
          · rcases f2 with e | ⟨b, c, cur, e, h1, h2, h3⟩
            · rw [e] at h; simp at h
            · cases e
              exact ⟨b, cur, rfl, h1, HF4.out.at h2 (by simp), lt_of_block h2, h3⟩
          · rcases f4 with e | ⟨b, c, cur, e, h1, h2, h3⟩
            · rw [e] at h; simp at h
            · cases e
              exact ⟨b, cur, rfl, h1, HF4.out.at h2 (by simp), lt_of_block h2, h3⟩
        have HOV0 : Hid (OvR w1 wA w4 w4) := Lib.hid (OvR.start (HK.out.fr.trans HF4.out))
        go_upto_region 14 with fail
        go_loopw [9] (fun s9 wl => ∃ i : Nat, s9 = .int .i64 i ∧ i ≤ n ∧ OvR w1 wA w4 wl) (fun s9 _ => n - (intOf s9).toNat)
        case atStart => exact ⟨0, rfl, Nat.zero_le _, HOV0.out⟩
        case round =>
          clear HOV0
          obtain ⟨i, rfl, hi, hov⟩ := hrel
          have HOV := Lib.hid hov
          clear hov
          have HFX : Hid (∀ W, OvR w1 wA w4 W → W.cell? ⟨w1.heap.size, 1, none⟩ = some (.slice (some ⟨g, 0, none⟩) n cap')) := Lib.hid fun W hW => by
            have h5 := hW.kp _ _ _ (by decide) (by decide) (HK4.out.h5)
            rw [HN.out] at h5
            exact cell_of h5 1
          obtain ⟨w9, hw9⟩ : ∃ w9, w9 = wr := ⟨_, rfl⟩
          subst hw9
          have e1 := HFX.out w9 HOV.out
          by_cases hlt : i < n
          · have hlt' : (i : Int) < (n : Int) := by omega
            obtain ⟨aS, nS, cS, aT, nT, cT, r1, r3, bS, bT, HS, HT⟩ := HRO.out i hlt
            have HS := Lib.hid HS; have HT := Lib.hid HT
            have HR3 : Hid (∀ W, OvR w1 wA w4 W → W.cell? ⟨g, i * 4 + 1, none⟩ = some (.slice aS nS cS) ∧ W.cell? ⟨g, i * 4 + 3, none⟩ = some (.slice aT nT cT)) := Lib.hid fun W hW => by
              obtain ⟨cur, hg⟩ := HK4.out.hg
              have hg' := hW.kp _ _ _ (by decide) (by decide) hg
              rw [cell_of hg] at r1 r3
              exact ⟨(cell_of hg' _).trans r1, (cell_of hg' _).trans r3⟩
            have r9 := HR3.out w9 HOV.out
            obtain ⟨r9a, r9b⟩ := r9
            clear r1 r3
            go_upto_region 17 with fail
            clear e1 r9a r9b
            go_loopw [10] (fun s10 wl => ∃ k : Nat, s10 = .int .i64 k ∧ k ≤ nT ∧ OvR w1 wA w4 wl) (fun s10 _ => nT - (intOf s10).toNat)
            case atStart => exact ⟨0, rfl, Nat.zero_le _, HOV.out⟩
            case round =>
              clear HOV
              obtain ⟨k, rfl, hk, hov⟩ := hrel
              have HOV := Lib.hid hov
              clear hov
              obtain ⟨w8, hw8⟩ : ∃ w8, w8 = wr := ⟨_, rfl⟩
              subst hw8
              have e1 := HFX.out w8 HOV.out
              obtain ⟨r8a, r8b⟩ := HR3.out w8 HOV.out
              by_cases hlk : k < nT
              · have hlk' : (k : Int) < (nT : Int) := by omega
                obtain ⟨bt, curT, rfl, hbt1, hbt2, hbt3, hbt4⟩ := HT.out (by omega)
                obtain ⟨curT', hbt', hcs⟩ := HOV.out.sz _ _ _ hbt2
                have HB2 := Lib.hid hbt2
                have y0 : w8.cell? ⟨bt, k * 9, none⟩ = some (curT'[k * 9]'(by omega)) := (cell_of hbt' (k * 9)).trans (Array.getElem?_eq_getElem (by omega))
                have f0 := free_of hbt' (k * 9)
                have y1 : w8.cell? ⟨bt, k * 9 + 1, none⟩ = some (curT'[k * 9 + 1]'(by omega)) := (cell_of hbt' (k * 9 + 1)).trans (Array.getElem?_eq_getElem (by omega))
                have f1 := free_of hbt' (k * 9 + 1)
                have y2 : w8.cell? ⟨bt, k * 9 + 2, none⟩ = some (curT'[k * 9 + 2]'(by omega)) := (cell_of hbt' (k * 9 + 2)).trans (Array.getElem?_eq_getElem (by omega))
                have f2 := free_of hbt' (k * 9 + 2)
                have y3 : w8.cell? ⟨bt, k * 9 + 3, none⟩ = some (curT'[k * 9 + 3]'(by omega)) := (cell_of hbt' (k * 9 + 3)).trans (Array.getElem?_eq_getElem (by omega))
                have f3 := free_of hbt' (k * 9 + 3)
                have y4 : w8.cell? ⟨bt, k * 9 + 4, none⟩ = some (curT'[k * 9 + 4]'(by omega)) := (cell_of hbt' (k * 9 + 4)).trans (Array.getElem?_eq_getElem (by omega))
                have f4 := free_of hbt' (k * 9 + 4)
                have y5 : w8.cell? ⟨bt, k * 9 + 5, none⟩ = some (curT'[k * 9 + 5]'(by omega)) := (cell_of hbt' (k * 9 + 5)).trans (Array.getElem?_eq_getElem (by omega))
                have f5 := free_of hbt' (k * 9 + 5)
                have y6 : w8.cell? ⟨bt, k * 9 + 6, none⟩ = some (curT'[k * 9 + 6]'(by omega)) := (cell_of hbt' (k * 9 + 6)).trans (Array.getElem?_eq_getElem (by omega))
                have f6 := free_of hbt' (k * 9 + 6)
                have y7 : w8.cell? ⟨bt, k * 9 + 7, none⟩ = some (curT'[k * 9 + 7]'(by omega)) := (cell_of hbt' (k * 9 + 7)).trans (Array.getElem?_eq_getElem (by omega))
                have f7 := free_of hbt' (k * 9 + 7)
                have y8 : w8.cell? ⟨bt, k * 9 + 8, none⟩ = some (curT'[k * 9 + 8]'(by omega)) := (cell_of hbt' (k * 9 + 8)).trans (Array.getElem?_eq_getElem (by omega))
                have f8 := free_of hbt' (k * 9 + 8)
                clear hbt'
                go_wp2
                refine ⟨⟨k + 1, congrArg (Value.int .i64) (by omega), hlk, ?_⟩, by simp [intOf]; omega⟩
                iterate 9 refine OvR.step ?_ hbt1 hbt3 HB2.out (.inl rfl)
                exact HOV.out
              · obtain rfl : nT = k := by omega
                have hge : ¬ (nT : Int) < (nT : Int) := by omega
                go_upto_region 21 with fail
                clear e1 r8a r8b hge hlk hk
                go_loopw [11] (fun s11 wl => ∃ l : Nat, s11 = .int .i64 l ∧ l ≤ nS ∧ OvR w1 wA w4 wl) (fun s11 _ => nS - (intOf s11).toNat)
                case atStart => exact ⟨0, rfl, Nat.zero_le _, HOV.out⟩
                case round =>
                  clear HOV
                  obtain ⟨l, rfl, hl, hov⟩ := hrel
                  have HOV := Lib.hid hov
                  clear hov
                  obtain ⟨w7, hw7⟩ : ∃ w7, w7 = wr := ⟨_, rfl⟩
                  subst hw7
                  have e1 := HFX.out w7 HOV.out
                  obtain ⟨r8a, r8b⟩ := HR3.out w7 HOV.out
                  by_cases hlk : l < nS
                  · have hlk' : (l : Int) < (nS : Int) := by omega
                    obtain ⟨bs, curS, rfl, hbs1, hbs2, hbs3, hbs4⟩ := HS.out (by omega)
                    obtain ⟨curS', hbs', hcs⟩ := HOV.out.sz _ _ _ hbs2
                    have HB2 := Lib.hid hbs2
                    have y0 : w7.cell? ⟨bs, l * 3, none⟩ = some (curS'[l * 3]'(by omega)) := (cell_of hbs' (l * 3)).trans (Array.getElem?_eq_getElem (by omega))
                    have f0 := free_of hbs' (l * 3)
                    have y1 : w7.cell? ⟨bs, l * 3 + 1, none⟩ = some (curS'[l * 3 + 1]'(by omega)) := (cell_of hbs' (l * 3 + 1)).trans (Array.getElem?_eq_getElem (by omega))
                    have f1 := free_of hbs' (l * 3 + 1)
                    have y2 : w7.cell? ⟨bs, l * 3 + 2, none⟩ = some (curS'[l * 3 + 2]'(by omega)) := (cell_of hbs' (l * 3 + 2)).trans (Array.getElem?_eq_getElem (by omega))
                    have f2 := free_of hbs' (l * 3 + 2)
                    clear hbs'
                    go_wp2
                    refine ⟨⟨l + 1, congrArg (Value.int .i64) (by omega), hlk, ?_⟩, by simp [intOf]; omega⟩
                    iterate 3 refine OvR.step ?_ hbs1 hbs3 HB2.out (.inr rfl)
                    exact HOV.out
                  · obtain rfl : nS = l := by omega
                    have hge : ¬ (nS : Int) < (nS : Int) := by omega
                    go_wp2
                    exact ⟨⟨i + 1, congrArg (Value.int .i64) (by omega), hlt, HOV.out⟩, by simp [intOf]; omega⟩
          · obtain rfl : n = i := by omega
            have hge : ¬ (n : Int) < (n : Int) := by omega
            have HSY9 := Lib.hid (HSY.out w9 HOV.out.ag)
            have CF := Lib.hid (pFirst_any s yb fb w9 HSY9.out)
            have HST0 : Hid (StR w9 s yb fb (firstP s)) := Lib.hid HSY9.out.first
            have HFW : Hid (Frm [] w w9) := Lib.hid (HF0.out.trans (HF1.out.trans HOV.out.fr))
            have HB9 : Hid (∀ V, Frm [] w9 V → V.heap[w.heap.size]? = some (.cells #[.string s.name, .slice ao n cap, .int .i64 s.cls, .int .i64 s.cap] 25 (0, 0))) := Lib.hid fun V hV => hV.at (HOV.out.fr.at (HB.out _ HF1.out) (by simp)) (by simp)
            have HSV : Hid (∀ V, Frm [] w9 V → SesV V (.agg #[.string s.name, .slice ao n cap, .int .i64 s.cls, .int .i64 s.cap]) s) := Lib.hid fun V hV => ⟨_, rfl, HRW.out V (HOV.out.fr.trans hV)⟩
            have HBY9 : Hid (∀ V, Frm [] w9 V → Byts V (.slice ca cl cc) cs) := Lib.hid fun V hV => HBY.out.frm0 (HFW.out.trans hV)
            clear HFX HOV HRO HK4 HSY HK HLY hi HB HRW HA HBY HF0 HF1 HF2 HF4 HRL B5 HQ5
            go_upto_region 26 with (first
              | (go_at_call 20; go_must (refine CF.out.mono ?_; rintro e w' ⟨rfl, rfl⟩)))
            clear CF
            rename_i K4 Q1 K3 a2 K2 Q0 K1 a1 K0 a0
            revert K4 Q1 K3 a2 K2 Q0 K1 a1 K0 a0 s cs w ao cap ca cc n cl HN HCL W0 CK HWF HAL h40 w1 HCK HOK HSM W2 hn1 hn4 HL cap' w3 g u40 u41 u42 u43 u44 u45 u46 u47 u48 u49 u50 u51 u52 u53 u54 u55 u56 u57 u58 u59 u60 u61 u62 u63 u64 u65 u66 u67 u68 u69 u70 u71 u72 w4 yb fb wA u10 u11 u85 u86 u87 u88 u89 u90 u91 u92 u93 u94 u95 u96 u97 u98 u99 u100 u101 u102 u103 u104 u105 u106 u107 u108 u109 u110 u111 u112 u113 u114 u115 u116 u117 u118 u119 u120 u121 u122 u123 u124 u125 u126 u127 u128 u129 u130 u131 w9 e1 hlt HSY9 HST0 HFW HB9 HSV HBY9 hge
            exact hP
end Go.Proofs.YtkphhjekfimmlaaGreat
