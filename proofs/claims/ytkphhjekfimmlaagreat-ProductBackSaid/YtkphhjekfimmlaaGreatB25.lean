/- ProductNil: the walk. The frame of a law's row: from a walk that ends in 'true' and turns nothing old, to the row. Two facts about the program that every law wants. -/
import Derived.Test.YtkphhjekfimmlaaGreatB24
import Derived.Test.YtkphhjekfimmlaaGreatB01
import Derived.ProofKit
import Derived.SizedLaws
import Derived.Deep.Slices
import Derived.Test.YtkphhjekfimmlaaGreatRows
namespace Go.Proofs.YtkphhjekfimmlaaGreat
open Go.RowKit Go.BigFrame

/-- the session without anything -/
def zeS : SesD := ⟨{ data := #[] }, [], 0, 0⟩
theorem zeS_v (w : World) : SesV w (.agg #[.string { data := #[] }, .slice none 0 0, .int .i64 0, .int .i64 0]) zeS := ⟨_, rfl, Arr.nil _ _ _⟩
theorem sys_eqn (yo : Option Addr) (b : Nat) (W : World) {cb : Array Value} {tb : TypeId} (hb : W.heap[b]? = some (.cells cb tb (0, 0))) (h : yo = none ∨ ∃ a ca ta, yo = some ⟨a, 0, none⟩ ∧ a ≠ b ∧ W.heap[a]? = some (.cells ca ta (0, 0))) :
    (binOp .eql 29 (.pointer yo) (.pointer (some ⟨b, 0, none⟩))).run Tryz.prog W = .ok (.bool false) W := by
  have h0 : (Tryz.prog.info? 114).map (·.size) = some 5 := by kernel_rfl
  obtain ⟨j, hj, hs⟩ := Option.map_eq_some_iff.1 h0
  have h2 : ∀ d : Nat, (Op.equalIn (d + 1) 29 (.pointer yo) (.pointer (some ⟨b, 0, none⟩))).run Tryz.prog W = .ok false W := fun d => by
    rcases h with rfl | ⟨a, ca, ta, rfl, hne, ha⟩
    · simp [Op.equalIn, run_underlying Tryz.underlying29, sizeOf, typeInfo]
    · have hab : (⟨a, 0, none⟩ : Addr) ≠ ⟨b, 0, none⟩ := fun e => by injection e with e; exact hne e
      simp [Op.equalIn, run_underlying Tryz.underlying29, sizeOf, typeInfo, hj, hs, run_sameAddr_other (P := Tryz.prog) (w := W) hab ha hb]
  simp only [binOp]
  simp [Op.equal, Op.maxDepth, h2 9999]
theorem sys_eqs (b : Nat) (W : World) : (binOp .eql 29 (.pointer (some ⟨b, 0, none⟩)) (.pointer (some ⟨b, 0, none⟩))).run Tryz.prog W = .ok (.bool true) W := by
  have h0 : (Tryz.prog.info? 114).map (·.size) = some 5 := by kernel_rfl
  obtain ⟨j, hj, hs⟩ := Option.map_eq_some_iff.1 h0
  have h2 : ∀ d : Nat, (Op.equalIn (d + 1) 29 (.pointer (some ⟨b, 0, none⟩)) (.pointer (some ⟨b, 0, none⟩))).run Tryz.prog W = .ok true W := fun d => by
    simp [Op.equalIn, run_underlying Tryz.underlying29, sizeOf, typeInfo, hj, run_sameAddr_same]
  simp only [binOp]
  simp [Op.equal, Op.maxDepth, h2 9999]
set_option maxRecDepth 100000 in
theorem pnil_big (m : Mv) (role to' : Int) (name : ByteArray) (w : World) (h : 60 < name.size) : Calls Tryz.prog 11 #[mvV m, .int .i64 role, .int .i64 to', .string name] w (Ret (.bool true) (Frm [] w)) := by
  have h' : (60 : Int) < (name.size : Int) := by omega
  have HK := Lib.hid (known33_any (w.alloc (.cells #[.int .i64 m.kind, .int .i64 m.role, .int .i64 m.step, .int .i64 m.place] 45)))
  clear h
  go_enter Tryz.func11, Tryz.ntmps11
  go_wp2_with (first
    | (go_at_call 14; go_must (refine HK.out.mono ?_; rintro e w1 ⟨rfl, hf⟩; have HF := Lib.hid hf; clear hf HK)))
  go_ret
  exact ⟨rfl, ((Frm.refl [] w).alloc _).trans HF.out⟩
/-- the systems and states that ProductNil goes through -/
structure PnW (W0 : World) (yl yb fb : Nat) : Prop where
  y : ∀ k, k < 3 → ∃ yo, W0.cell? ⟨yl, k, none⟩ = some (.pointer yo) ∧ ((k = 2 ∧ yo = some ⟨yb, 0, none⟩) ∨ (k < 2 ∧ NoY W0 yo ∧ (yo = none ∨ ∃ a ca ta, yo = some ⟨a, 0, none⟩ ∧ a ≠ yb ∧ W0.heap[a]? = some (.cells ca ta (0, 0)))))
  sy : SyR W0 sm1 yb fb
set_option maxHeartbeats 8000000 in
set_option maxRecDepth 100000 in
theorem pnil_any (m : Mv) (role to' : Int) (name : ByteArray) (w : World) (h : ¬ 60 < name.size) : Calls Tryz.prog 11 #[mvV m, .int .i64 role, .int .i64 to', .string name] w (Ret (.bool true) (Frm [] w)) := by
  have h' : ¬ (60 : Int) < (name.size : Int) := by omega
  obtain ⟨w0, hw0⟩ : ∃ w0, w.alloc (.cells #[.int .i64 m.kind, .int .i64 m.role, .int .i64 m.step, .int .i64 m.place] 45) = w0 := ⟨_, rfl⟩
  have HM : Hid (w0.heap[w.heap.size]? = some (.cells #[.int .i64 m.kind, .int .i64 m.role, .int .i64 m.step, .int .i64 m.place] 45 (0, 0))) := Lib.hid (by rw [← hw0]; exact heap_alloc_new _ _)
  have HF0 : Hid (Frm [] w w0) := Lib.hid (by rw [← hw0]; exact (Frm.refl _ _).alloc _)
  have HE := Lib.hid hw0
  have CS : Hid (∀ V, Calls Tryz.prog 51 #[] V (RetV fun v w' => SesV w' v (smS 1) ∧ Frm [] V w')) := Lib.hid fun V => sample33_any V
  clear h hw0
  go_enter Tryz.func11, Tryz.ntmps11
  go_upto_region 3 with fail
  rw [HE.out]
  clear HE
  go_upto_region 4 with (first
    | (go_at_call 51; go_must (refine (CS.out _).mono ?_; rintro e w1 ⟨v, rfl, hs, hf⟩; have HF1 := Lib.hid hf; have CN := Lib.hid (pNew_ok v sm1 w1 hs (smS_sm 1) smS_ck); clear hs hf))
    | (go_at_call 18; go_must (refine CN.out.mono ?_; rintro e w2 ⟨v, rfl, hn⟩; obtain ⟨⟨yb, fb, rfl, -, hsy⟩, hf⟩ := hn; have HY := Lib.hid (hsy w2 (Agree.refl _ _)); have HF2 : Hid (Frm [] w0 w2) := Lib.hid (HF1.out.trans hf); clear hsy hf CN HF1)))
  go_upto_region 7 with (first
    | (go_at_call 51; go_must (refine (CS.out _).mono ?_; rintro e w3 ⟨v, rfl, hs, hf⟩; have HF3 := Lib.hid hf; have CN := Lib.hid (pNew_ok v sm1 w3 hs (smS_sm 1) smS_ck); clear hs hf CS))
    | (go_at_call 18; go_must (refine CN.out.mono ?_; rintro e w4 ⟨v, rfl, hn⟩; obtain ⟨⟨y2, f2, rfl, hy2, hsy⟩, hf⟩ := hn; have HZ := Lib.hid (hsy w4 (Agree.refl _ _)); have HF24 : Hid (Frm [] w2 w4) := Lib.hid (HF3.out.trans hf); have HYZ : Hid (y2 ≠ yb) := Lib.hid (by have h1 := (HY.out.frm HF3.out).lt; omega); clear hsy hf CN hy2))
    | (go_at_call 19; go_must (refine (num33_any _ _).mono ?_; rintro e w' ⟨rfl, rfl⟩)))
  have HF4 : Hid (Frm [] w0 w4) := Lib.hid (HF2.out.trans HF24.out)
  have HY4 := Lib.hid (HY.out.frm HF24.out)
  have HM4 := Lib.hid (HF4.out.at HM.out (by simp))
  have CC : Hid (∀ V, Frm [] w4 V → Calls Tryz.prog 56 #[.pointer (some ⟨yb, 0, none⟩), .pointer (some ⟨f2, 0, none⟩)] V (Ret (.int .i64 2) (V = ·))) := Lib.hid fun V hV => pCheck_other sm1 sm1 yb fb y2 f2 f2 (firstP sm1) (HY4.out.frm hV) (HZ.out.frm hV) (HZ.out.first.frm hV) HYZ.out
  have D1 : Hid (∀ V, Frm [] w4 V → Calls Tryz.prog 20 #[.pointer (some ⟨y2, 0, none⟩)] V (Ret (.pointer (some ⟨f2, 0, none⟩)) (V = ·))) := Lib.hid fun V hV => pFirst_any sm1 y2 f2 V (HZ.out.frm hV)
  have D2 : Hid (∀ V, Frm [] w4 V → Calls Tryz.prog 24 #[.pointer (some ⟨yb, 0, none⟩), .pointer (some ⟨f2, 0, none⟩), mvV m] V (Ret (.tuple #[.pointer none, .int .i64 2]) (Frm [] V))) := Lib.hid fun V hV => pDo_err m 2 (by decide) fun W hW => CC.out W (hV.trans hW)
  have D3 : Hid (∀ V, Frm [] w4 V → Calls Tryz.prog 52 #[.pointer (some ⟨yb, 0, none⟩), .pointer (some ⟨f2, 0, none⟩)] V (Ret (.tuple #[.bool false, .int .i64 2]) (V = ·))) := Lib.hid fun V hV => pFinal_err 2 (by decide) (CC.out V hV)
  have D4 : Hid (∀ V, Frm [] w4 V → Calls Tryz.prog 23 #[.pointer (some ⟨yb, 0, none⟩), .pointer (some ⟨f2, 0, none⟩)] V (RetV (LsTo V []))) := Lib.hid fun V hV => listed_any (some ⟨yb, 0, none⟩) (some ⟨f2, 0, none⟩) [] V (by simp) fun W hW => pMoves_err 2 (by decide) (CC.out W (hV.trans hW))
  refine heldG_start (by kernel_rfl) ?_
  refine heldG_take (i := 0) ?_ rfl (by kernel_rfl) (by kernel_rfl) (by kernel_rfl) (fun _ _ _ h => h) (by rfl) (fun w' hC => ?_) ?_
  rotate_left
  · skip
    have hm := (hC.at (show w4.drew.heap[w.heap.size]? = _ from HM4.out) (by simp))
    have z0 := cell_of hm 0
    have z1 := cell_of hm 1
    have z2 := cell_of hm 2
    have z3 := cell_of hm 3
    clear hm
    clear hC
    go_simp
    try rfl
  try simp only [List.getElem_toArray, List.getElem_cons_zero, Act.put, List.setIfInBounds_toArray, List.set_cons_zero, List.set_cons_succ]
  refine heldG_take (i := 1) ?_ rfl (by kernel_rfl) (by kernel_rfl) (by kernel_rfl) (fun _ _ _ h => h) (by rfl) (fun w' hC => ?_) ?_
  rotate_left
  · skip
    have hm := (hC.at (show w4.drew.heap[w.heap.size]? = _ from HM4.out) (by simp))
    have z0 := cell_of hm 0
    have z1 := cell_of hm 1
    have z2 := cell_of hm 2
    have z3 := cell_of hm 3
    clear hm
    clear hC
    go_simp
    try rfl
  try simp only [List.getElem_toArray, List.getElem_cons_zero, List.getElem_cons_succ, Act.put, List.setIfInBounds_toArray, List.set_cons_zero, List.set_cons_succ]
  refine heldG_take (i := 3) ?_ rfl (by kernel_rfl) (by kernel_rfl) (by kernel_rfl) (fun _ _ _ h => h) (by rfl) (fun w' hC => ?_) ?_
  rotate_left
  · skip
    have hm := (hC.at (show w4.drew.heap[w.heap.size]? = _ from HM4.out) (by simp))
    have z0 := cell_of hm 0
    have z1 := cell_of hm 1
    have z2 := cell_of hm 2
    have z3 := cell_of hm 3
    clear hm
    clear hC
    go_simp
    try rfl
  try simp only [List.getElem_toArray, List.getElem_cons_zero, List.getElem_cons_succ, Act.put, List.setIfInBounds_toArray, List.set_cons_zero, List.set_cons_succ]
  refine heldG_step (i := 2) rfl (by kernel_rfl) (by rfl) (fun K' hK' => ?_)
  go_simp
  (refine (D1.out _ (Frm.refl [] w4).drew).mono ?_; rintro e w5 ⟨rfl, rfl⟩)
  refine hK'.out _ _ (Frm.refl _ _) ?_
  clear hK' K'
  try simp only [List.getElem_toArray, List.getElem_cons_zero, List.getElem_cons_succ, Act.put, List.setIfInBounds_toArray, List.set_cons_zero, List.set_cons_succ]
  refine heldG_step (i := 4) rfl (by kernel_rfl) (by rfl) (fun K' hK' => ?_)
  go_simp
  (refine (D2.out _ (Frm.refl [] w4).drew).mono ?_; rintro e w5 ⟨rfl, hf5⟩; have HF5 : Hid (Frm [] w4 w5) := Lib.hid ((Frm.refl [] w4).drew.trans hf5))
  refine hK'.out _ _ (hf5) ?_
  clear hK' K'
  try simp only [List.getElem_toArray, List.getElem_cons_zero, List.getElem_cons_succ, Act.put, List.setIfInBounds_toArray, List.set_cons_zero, List.set_cons_succ]
  refine heldG_take (i := 5) ?_ rfl (by kernel_rfl) (by kernel_rfl) (by kernel_rfl) (fun _ _ _ h => h) (by rfl) (fun w' hC => ?_) ?_
  rotate_left
  · skip
    skip
    clear hC
    go_simp
    try rfl
  try simp only [List.getElem_toArray, List.getElem_cons_zero, List.getElem_cons_succ, Act.put, List.setIfInBounds_toArray, List.set_cons_zero, List.set_cons_succ]
  refine heldG_take (i := 6) ?_ rfl (by kernel_rfl) (by kernel_rfl) (by kernel_rfl) (fun _ _ _ h => h) (by rfl) (fun w' hC => ?_) ?_
  rotate_left
  · skip
    skip
    clear hC
    go_simp
    try rfl
  try simp only [List.getElem_toArray, List.getElem_cons_zero, List.getElem_cons_succ, Act.put, List.setIfInBounds_toArray, List.set_cons_zero, List.set_cons_succ]
  refine heldG_take (i := 7) ?_ rfl (by kernel_rfl) (by kernel_rfl) (by kernel_rfl) (fun _ _ _ h => h) (by rfl) (fun w' hC => ?_) ?_
  rotate_left
  · skip
    skip
    clear hC
    go_simp
    try rfl
  try simp only [List.getElem_toArray, List.getElem_cons_zero, List.getElem_cons_succ, Act.put, List.setIfInBounds_toArray, List.set_cons_zero, List.set_cons_succ]
  refine heldG_take (i := 8) ?_ rfl (by kernel_rfl) (by kernel_rfl) (by kernel_rfl) (fun _ _ _ h => h) (by rfl) (fun w' hC => ?_) ?_
  rotate_left
  · skip
    skip
    clear hC
    go_simp
    try rfl
  try simp only [List.getElem_toArray, List.getElem_cons_zero, List.getElem_cons_succ, Act.put, List.setIfInBounds_toArray, List.set_cons_zero, List.set_cons_succ]
  refine heldG_take (i := 9) ?_ rfl (by kernel_rfl) (by kernel_rfl) (by kernel_rfl) (fun _ _ _ h => h) (by rfl) (fun w' hC => ?_) ?_
  rotate_left
  · skip
    skip
    clear hC
    go_simp
    try rfl
  try simp only [List.getElem_toArray, List.getElem_cons_zero, List.getElem_cons_succ, Act.put, List.setIfInBounds_toArray, List.set_cons_zero, List.set_cons_succ]
  refine wpAnyH_done (by kernel_rfl) ?_ _
  clear D2
  go_upto_region 14 with (first
    | (go_at_call 20; go_must (refine (D1.out _ (by first | exact HF5.out)).mono ?_; rintro e w' ⟨rfl, rfl⟩))
    | (go_at_call 52; go_must (refine (D3.out _ HF5.out).mono ?_; rintro e w' ⟨rfl, rfl⟩; clear D3))
    | (go_at_call 23; go_must (refine (D4.out _ HF5.out).mono ?_; rintro e w6 ⟨v, rfl, a1, c1, rfl, -, hf⟩; have HF6 := Lib.hid (HF5.out.trans hf); clear hf D4)))
  have HY6 := Lib.hid (HY4.out.frm HF6.out)
  have HG6 : Hid (Frm [] w0 w6) := Lib.hid (HF4.out.trans HF6.out)
  clear D1 CC HZ HYZ
  obtain ⟨W0, hW0⟩ : ∃ W0, (w6.alloc (.cells #[.string { data := #[] }, .slice none 0 0, .int .i64 0, .int .i64 0, .pointer none] 114)).alloc (.cells #[.pointer none, .pointer (some ⟨w6.heap.size, 0, none⟩), .pointer (some ⟨yb, 0, none⟩)] 29) = W0 := ⟨_, rfl⟩
  have HFW : Hid (Frm [] w6 W0) := Lib.hid (by rw [← hW0]; exact ((Frm.refl _ _).alloc _).alloc _)
  have HPW : Hid (PnW W0 (w6.heap.size + 1) yb fb) := Lib.hid (by
    have hz : W0.heap[w6.heap.size]? = some (.cells #[.string { data := #[] }, .slice none 0 0, .int .i64 0, .int .i64 0, .pointer none] 114 (0, 0)) := by rw [← hW0]; exact alloc_at (heap_alloc_new _ _)
    have hl : W0.heap[w6.heap.size + 1]? = some (.cells #[.pointer none, .pointer (some ⟨w6.heap.size, 0, none⟩), .pointer (some ⟨yb, 0, none⟩)] 29 (0, 0)) := by rw [← hW0]; exact alloc_top (by simp)
    refine ⟨fun k hk => ?_, HY6.out.frm HFW.out⟩
    match k, hk with
    | 0, _ => exact ⟨none, cell_of hl 0, .inr ⟨by omega, .inl rfl, .inl rfl⟩⟩
    | 1, _ => exact ⟨_, cell_of hl 1, .inr ⟨by omega, .inr ⟨_, rfl, hz⟩, .inr ⟨_, _, _, rfl, by have := HY6.out.lt; omega, hz⟩⟩⟩
    | 2, _ => exact ⟨_, cell_of hl 2, .inl ⟨rfl, rfl⟩⟩)
  have HEW := Lib.hid hW0
  clear hW0
  go_wp2_with (first | (rw [HEW.out]))
  try rw [HEW.out]
  go_loopw [119] (fun s119 wl => ∃ k : Nat, s119 = .int .i64 k ∧ k ≤ 3 ∧ Frm [] W0 wl) (fun s119 _ => 3 - (intOf s119).toNat)
  case atStart => exact ⟨0, rfl, Nat.zero_le _, Frm.refl _ _⟩
  case round =>
    obtain ⟨k, rfl, hk, hf⟩ := hrel
    have HR := Lib.hid hf
    clear hf
    obtain ⟨w7, hw7⟩ : ∃ w7, w7 = wr := ⟨_, rfl⟩
    subst hw7
    by_cases hlt : k < 3
    · have hlt' : (k : Int) < 3 := by omega
      obtain ⟨yo, hc, hyo⟩ := HPW.out.y k hlt
      have HYO := Lib.hid hyo
      have CC : Hid (∀ V xo, Frm [] W0 V → NoS V xo → Calls Tryz.prog 56 #[.pointer yo, .pointer xo] V (Ret (.int .i64 1) (V = ·))) := Lib.hid fun V xo hV hx => by
        rcases hyo with ⟨-, rfl⟩ | ⟨-, h, -⟩
        · exact pCheck_noS sm1 yb fb (HPW.out.sy.frm hV) hx
        · exact pCheck_noY (h.frm hV) xo
      replace hc := HR.out.keep hc
      obtain ⟨X, hX⟩ : ∃ X, (w7.alloc (.cells #[.pointer none, .slice none 0 0, .slice none 0 0] 119)).alloc (.cells #[.pointer none, .pointer (some ⟨w7.heap.size, 0, none⟩)] 30) = X := ⟨_, rfl⟩
      have HFX : Hid (Frm [] w7 X) := Lib.hid (by rw [← hX]; exact ((Frm.refl _ _).alloc _).alloc _)
      have HXO : Hid (∀ j, j < 2 → ∃ xo, X.cell? ⟨w7.heap.size + 1, j, none⟩ = some (.pointer xo) ∧ NoS X xo) := Lib.hid (by
        have hz : X.heap[w7.heap.size]? = some (.cells #[.pointer none, .slice none 0 0, .slice none 0 0] 119 (0, 0)) := by rw [← hX]; exact alloc_at (heap_alloc_new _ _)
        have hl : X.heap[w7.heap.size + 1]? = some (.cells #[.pointer none, .pointer (some ⟨w7.heap.size, 0, none⟩)] 30 (0, 0)) := by rw [← hX]; exact alloc_top (by simp)
        intro j hj
        match j, hj with
        | 0, _ => exact ⟨none, cell_of hl 0, .inl rfl⟩
        | 1, _ => exact ⟨_, cell_of hl 1, .inr ⟨_, rfl, hz⟩⟩)
      have HEX := Lib.hid hX
      clear hX hyo
      go_wp2_with (first | (rw [HEX.out]))
      try rw [HEX.out]
      clear hc
      go_loopw [128] (fun s128 wl => ∃ j : Nat, s128 = .int .i64 j ∧ j ≤ 2 ∧ Frm [] X wl) (fun s128 _ => 2 - (intOf s128).toNat)
      case atStart => exact ⟨0, rfl, Nat.zero_le _, Frm.refl _ _⟩
      case round =>
        obtain ⟨j, rfl, hj, hf⟩ := hrel
        have HS := Lib.hid hf
        clear hf
        obtain ⟨w8, hw8⟩ : ∃ w8, w8 = wr := ⟨_, rfl⟩
        subst hw8
        have HW8 : Hid (Frm [] W0 w8) := Lib.hid (HR.out.trans (HFX.out.trans HS.out))
        by_cases hltj : j < 2
        · have hltj' : (j : Int) < 2 := by omega
          obtain ⟨xo, hcx, hxo⟩ := HXO.out j hltj
          replace hcx := HS.out.keep hcx
          have HNX := Lib.hid (hxo.frm HS.out)
          have hm8 := (HFW.out.trans HW8.out).at (HF6.out.at HM4.out (by simp)) (by simp)
          have HM8 := Lib.hid hm8
          have C1 : Hid (∀ V, Frm [] w8 V → Calls Tryz.prog 24 #[.pointer yo, .pointer xo, mvV m] V (Ret (.tuple #[.pointer none, .int .i64 1]) (Frm [] V))) := Lib.hid fun V hV => pDo_err m 1 (by decide) fun W hW => CC.out W xo (HW8.out.trans (hV.trans hW)) (HNX.out.frm (hV.trans hW))
          have C2 : Hid (∀ V, Frm [] w8 V → Calls Tryz.prog 52 #[.pointer yo, .pointer xo] V (Ret (.tuple #[.bool false, .int .i64 1]) (V = ·))) := Lib.hid fun V hV => pFinal_err 1 (by decide) (CC.out V xo (HW8.out.trans hV) (HNX.out.frm hV))
          have C3 : Hid (∀ V, Frm [] w8 V → Calls Tryz.prog 23 #[.pointer yo, .pointer xo] V (RetV (LsTo V []))) := Lib.hid fun V hV => listed_any yo xo [] V (by simp) fun W hW => pMoves_err 1 (by decide) (CC.out W xo (HW8.out.trans (hV.trans hW)) (HNX.out.frm (hV.trans hW)))
          have C4 : Hid (∀ V, Frm [] w8 V → Calls Tryz.prog 53 #[.pointer xo, .int .i64 role] V (Ret (.tuple #[.string { data := #[] }, .int .i64 1]) (V = ·))) := Lib.hid fun V hV => pAt_no (HNX.out.frm hV) role
          have C5 : Hid (∀ V, Frm [] w8 V → Calls Tryz.prog 54 #[.pointer xo, .int .i64 role, .string name] V (Ret (.tuple #[.int .i64 0, .int .i64 1]) (V = ·))) := Lib.hid fun V hV => pCounter_no (HNX.out.frm hV) role name
          have C6 : Hid (∀ V, Frm [] w8 V → Calls Tryz.prog 55 #[.pointer xo, .int .i64 role, .int .i64 to'] V (Ret (.tuple #[.slice none 0 0, .int .i64 1]) (V = ·))) := Lib.hid fun V hV => pChannel_no (HNX.out.frm hV) role to'
          have C7 : Hid (∀ V, Frm [] w8 V → Calls Tryz.prog 22 #[.pointer xo] V (Ret (.string { data := #[] }) (Frm [] V))) := Lib.hid fun V hV => pKey_no (HNX.out.frm hV)
          clear hm8 hxo CC
          go_wp2_with (first
            | (refine wpList_load_whole rfl 45 _ rfl _ rfl _ 45 HM8.out _ Tryz.underlying45 rfl (by kernel_rfl) ?_)
            | (go_at_call 24; go_must (refine (C1.out _ (Frm.refl _ _)).mono ?_; rintro e w9 ⟨rfl, hf⟩; have HF9 := Lib.hid hf; clear hf C1))
            | (go_at_call 52; go_must (refine (C2.out _ HF9.out).mono ?_; rintro e w' ⟨rfl, rfl⟩; clear C2))
            | (go_at_call 53; go_must (refine (C4.out _ HF9.out).mono ?_; rintro e w' ⟨rfl, rfl⟩; clear C4))
            | (go_at_call 54; go_must (refine (C5.out _ HF9.out).mono ?_; rintro e w' ⟨rfl, rfl⟩; clear C5))
            | (go_at_call 55; go_must (refine (C6.out _ HF9.out).mono ?_; rintro e w' ⟨rfl, rfl⟩; clear C6))
            | (go_at_call 23; go_must (refine (C3.out _ HF9.out).mono ?_; rintro e w10 ⟨v, rfl, a2, c2, rfl, -, hf⟩; have HF10 := Lib.hid (HF9.out.trans hf); clear hf C3))
            | (go_at_call 22; go_must (refine (C7.out _ HF10.out).mono ?_; rintro e w11 ⟨rfl, hf⟩; have HF11 := Lib.hid (HF10.out.trans hf); clear hf C7)))
          exact ⟨⟨j + 1, congrArg (Value.int .i64) (by omega), hltj, HS.out.trans HF11.out⟩, by simp [intOf]; omega⟩
        · obtain rfl : j = 2 := by omega
          obtain ⟨rvy, hby, -⟩ := (HPW.out.sy.frm HW8.out).out
          rcases HYO.out with ⟨hk2, rfl⟩ | ⟨hk2, hno, hyo⟩
          · have heq := fun W => sys_eqs yb W
            clear hk2 hby
            go_wp2
            exact ⟨⟨k + 1, congrArg (Value.int .i64) (by omega), hlt, HW8.out⟩, by simp [intOf]; omega⟩
          · have heq : ∀ W, W = w8 → (binOp .eql 29 (.pointer yo) (.pointer (some ⟨yb, 0, none⟩))).run Tryz.prog W = .ok (.bool false) W := fun W hW => by
              subst hW
              refine sys_eqn yo yb W hby ?_
              rcases hyo with h | ⟨a, ca, ta, h1, h2, h3⟩
              · exact .inl h
              · exact .inr ⟨a, ca, ta, h1, h2, HW8.out.at h3 (by simp)⟩
            have heq := heq w8 rfl
            have HNO := Lib.hid hno
            have C1 := Lib.hid (pDecode_no (hno.frm HW8.out) name)
            have C2 := Lib.hid (pFirst_no (hno.frm HW8.out))
            have C3 := Lib.hid (pSession_no (hno.frm HW8.out))
            have C4 : Hid (∀ V, Calls Tryz.prog 25 #[.agg #[.string { data := #[] }, .slice none 0 0, .int .i64 0, .int .i64 0], .agg #[.string { data := #[] }, .slice none 0 0, .int .i64 0, .int .i64 0]] V (Ret (.bool true) (Frm [] V))) := Lib.hid fun V => aSameS_any _ _ zeS V (zeS_v V) (zeS_v V) (by simp [zeS]) (by simp [zeS])
            clear hno hyo hk2 hby
            go_wp2_with (first
              | (go_at_call 21; go_must (refine C1.out.mono ?_; rintro e w' ⟨rfl, rfl⟩; clear C1))
              | (go_at_call 20; go_must (refine C2.out.mono ?_; rintro e w' ⟨rfl, rfl⟩; clear C2))
              | (go_at_call 26; go_must (refine C3.out.mono ?_; rintro e w9 ⟨rfl, hf⟩; have HF9 := Lib.hid hf; clear hf C3))
              | (go_at_call 25; go_must (refine (C4.out _).mono ?_; rintro e w10 ⟨rfl, hf⟩; have HF10 := Lib.hid (HF9.out.trans hf); clear hf C4)))
            exact ⟨⟨k + 1, congrArg (Value.int .i64) (by omega), hlt, HW8.out.trans HF10.out⟩, by simp [intOf]; omega⟩
    · obtain rfl : k = 3 := by omega
      have HSY := Lib.hid (HPW.out.sy.frm HR.out)
      have C0 := Lib.hid (pFirst_any sm1 yb fb w7 HSY.out)
      have HST : Hid (StR w7 sm1 yb fb (firstP sm1)) := Lib.hid HSY.out.first
      have CK : Hid (∀ V, Calls Tryz.prog 14 #[] V (Ret (.bool true) (Frm [] V))) := Lib.hid fun V => known33_any V
      have hro : role = 0 ∨ role = 1 ∨ ((role == 0) = false ∧ (role == 1) = false ∧ ¬ (0 ≤ role ∧ role < 2)) := by
        simp only [beq_eq_false_iff_ne]; omega
      have hto : to' = 0 ∨ to' = 1 ∨ ((to' == 0) = false ∧ (to' == 1) = false ∧ ¬ (0 ≤ to' ∧ to' < 2)) := by
        simp only [beq_eq_false_iff_ne]; omega
      have A1 : Hid (∀ i, i < 2 → ∀ V, Frm [] w7 V → ∃ nm, Calls Tryz.prog 53 #[.pointer (some ⟨fb, 0, none⟩), .int .i64 (i : Nat)] V (Ret (.tuple #[.string nm, .int .i64 0]) (Frm [] V))) := Lib.hid fun i hi V hV => ⟨_, pAt_ok sm1 yb fb fb i (firstP sm1) V (HSY.out.frm hV) (HST.out.frm hV) hi⟩
      have A2 : Hid (∀ i : Int, ¬ (0 ≤ i ∧ i < 2) → ∀ V, Frm [] w7 V → Calls Tryz.prog 53 #[.pointer (some ⟨fb, 0, none⟩), .int .i64 i] V (Ret (.tuple #[.string { data := #[] }, .int .i64 2]) (Frm [] V))) := Lib.hid fun i hi V hV => pAt_bad sm1 yb fb i (firstP sm1) V (HST.out.frm hV) hi
      have B1 : Hid (∀ i, i < 2 → ∀ V, Frm [] w7 V → Calls Tryz.prog 54 #[.pointer (some ⟨fb, 0, none⟩), .int .i64 (i : Nat), .string name] V (Ret (.tuple #[.int .i64 0, .int .i64 9]) (Frm [] V))) := Lib.hid fun i hi V hV => by
        have := pCounter_ok sm1 yb fb fb i (firstP sm1) name V (HSY.out.frm hV) (HST.out.frm hV) hi
        have e : (firstP sm1).ctr sm1 i = [] := by
          match i, hi with
          | 0, _ => rfl
          | 1, _ => rfl
        rw [e] at this
        exact this
      have B2 : Hid (∀ i : Int, ¬ (0 ≤ i ∧ i < 2) → ∀ V, Frm [] w7 V → Calls Tryz.prog 54 #[.pointer (some ⟨fb, 0, none⟩), .int .i64 i, .string name] V (Ret (.tuple #[.int .i64 0, .int .i64 2]) (Frm [] V))) := Lib.hid fun i hi V hV => pCounter_bad sm1 yb fb i (firstP sm1) name V (HST.out.frm hV) hi
      have G1 : Hid (∀ i k, i < 2 → k < 2 → i ≠ k → ∀ V, Frm [] w7 V → Calls Tryz.prog 55 #[.pointer (some ⟨fb, 0, none⟩), .int .i64 (i : Nat), .int .i64 (k : Nat)] V (RetV fun v w' => ∃ u, v = .tuple #[u, .int .i64 0] ∧ Fresh V ((firstP sm1).way i k) u w')) := Lib.hid fun i k hi hk hne V hV => pChannel_ok sm1 yb fb i k (firstP sm1) V (HST.out.frm hV) hi hk hne
      have G2 : Hid (∀ i k : Int, chB 2 i k = false → ∀ V, Frm [] w7 V → Calls Tryz.prog 55 #[.pointer (some ⟨fb, 0, none⟩), .int .i64 i, .int .i64 k] V (Ret (.tuple #[.slice none 0 0, .int .i64 2]) (V = ·))) := Lib.hid fun i k hb V hV => pChannel_bad sm1 yb fb (firstP sm1) i k (HST.out.frm hV) hb
      have HOUT : Hid (Frm [] w w7) := Lib.hid (HF0.out.trans (HG6.out.trans (HFW.out.trans HR.out)))
      have hcb : ∀ i k : Int, ¬ (0 ≤ i ∧ i < 2) ∨ ¬ (0 ≤ k ∧ k < 2) ∨ i = k → chB 2 i k = false := fun i k h => by
        unfold chB
        rw [Bool.eq_false_iff]
        intro h2
        simp at h2
        omega
      have HCB := Lib.hid hcb
      clear hcb HSY HST HPW HY6 HM4 HF6 HF5
      have tail : ∀ (e1 e2 e3 : Int), True := fun _ _ _ => trivial
      clear tail
      have HRO := Lib.hid hro; have HTO := Lib.hid hto
      clear hro hto
      obtain ⟨inB, hin⟩ : ∃ b, (role == 0 || role == 1) = b := ⟨_, rfl⟩
      have P1 : Hid (∀ V, Frm [] w7 V → ∃ nm, Calls Tryz.prog 53 #[.pointer (some ⟨fb, 0, none⟩), .int .i64 role] V (Ret (.tuple #[.string nm, .int .i64 (if inB then 0 else 2)]) (Frm [] V))) := Lib.hid fun V hV => by
        rw [← hin]
        rcases HRO.out with rfl | rfl | ⟨h1, h2, h3⟩
        · exact A1.out 0 (by omega) V hV
        · exact A1.out 1 (by omega) V hV
        · rw [h1, h2]; exact ⟨_, A2.out role h3 V hV⟩
      have P2 : Hid (∀ V, Frm [] w7 V → Calls Tryz.prog 54 #[.pointer (some ⟨fb, 0, none⟩), .int .i64 role, .string name] V (Ret (.tuple #[.int .i64 0, .int .i64 (if inB then 9 else 2)]) (Frm [] V))) := Lib.hid fun V hV => by
        rw [← hin]
        rcases HRO.out with rfl | rfl | ⟨h1, h2, h3⟩
        · exact B1.out 0 (by omega) V hV
        · exact B1.out 1 (by omega) V hV
        · rw [h1, h2]; exact B2.out role h3 V hV
      obtain ⟨boB, hbo⟩ : ∃ b, ((role == 0 || role == 1) && (to' == 0 || to' == 1) && (role != to')) = b := ⟨_, rfl⟩
      have P3 : Hid (∀ V, Frm [] w7 V → Calls Tryz.prog 55 #[.pointer (some ⟨fb, 0, none⟩), .int .i64 role, .int .i64 to'] V (RetV fun v w' => (∃ ao n c, v = .tuple #[.slice ao n c, .int .i64 (if boB then 0 else 2)]) ∧ Frm [] V w')) := Lib.hid fun V hV => by
        have bad : boB = false → chB 2 role to' = false → Calls Tryz.prog 55 #[.pointer (some ⟨fb, 0, none⟩), .int .i64 role, .int .i64 to'] V (RetV fun v w' => (∃ ao n c, v = .tuple #[.slice ao n c, .int .i64 (if boB then 0 else 2)]) ∧ Frm [] V w') := fun hb hc => by
          subst hb
          refine (G2.out role to' hc V hV).mono ?_
          rintro e w' ⟨rfl, rfl⟩
          exact ⟨_, rfl, ⟨_, _, _, rfl⟩, Frm.refl _ _⟩
        have good : ∀ i k, i < 2 → k < 2 → i ≠ k → role = (i : Nat) → to' = (k : Nat) → boB = true → Calls Tryz.prog 55 #[.pointer (some ⟨fb, 0, none⟩), .int .i64 role, .int .i64 to'] V (RetV fun v w' => (∃ ao n c, v = .tuple #[.slice ao n c, .int .i64 (if boB then 0 else 2)]) ∧ Frm [] V w') := fun i k hi hk hne h1 h2 hb => by
          subst hb h1 h2
          refine (G1.out i k hi hk hne V hV).mono ?_
          rintro e w' ⟨v, rfl, u, rfl, hs, hf, -⟩
          obtain ⟨ao, cp, rfl, -, -⟩ := hs.shape
          exact ⟨_, rfl, ⟨_, _, _, rfl⟩, hf⟩
        rcases HRO.out with rfl | rfl | ⟨h1, h2, h3⟩
        · rcases HTO.out with rfl | rfl | ⟨g1, g2, g3⟩
          · exact bad (by rw [← hbo]; rfl) (HCB.out _ _ (by omega))
          · exact good 0 1 (by omega) (by omega) (by omega) rfl rfl (by rw [← hbo]; rfl)
          · exact bad (by rw [← hbo, g1, g2]; rfl) (HCB.out _ _ (by omega))
        · rcases HTO.out with rfl | rfl | ⟨g1, g2, g3⟩
          · exact good 1 0 (by omega) (by omega) (by omega) rfl rfl (by rw [← hbo]; rfl)
          · exact bad (by rw [← hbo]; rfl) (HCB.out _ _ (by omega))
          · exact bad (by rw [← hbo, g1, g2]; rfl) (HCB.out _ _ (by omega))
        · exact bad (by rw [← hbo, h1, h2]; rfl) (HCB.out _ _ (by omega))
      clear A1 A2 B1 B2 G1 G2 HCB
      have HBO := Lib.hid hbo; have HIN := Lib.hid hin
      clear hbo hin
      go_upto_region 38 with (first
        | (go_at_call 20; go_must (refine C0.out.mono ?_; rintro e w' ⟨rfl, rfl⟩; clear C0))
        | (go_at_call 53; go_must (obtain ⟨nm, hP⟩ := P1.out w7 (Frm.refl _ _); refine hP.mono ?_; rintro e w8 ⟨rfl, hf⟩; have HF8 := Lib.hid hf; clear hf P1 hP))
        | (go_at_call 54; go_must (refine (P2.out _ HF8.out).mono ?_; rintro e w9 ⟨rfl, hf⟩; have HF9 := Lib.hid (HF8.out.trans hf); clear hf P2))
        | (go_at_call 55; go_must (refine (P3.out _ HF9.out).mono ?_; rintro e w10 ⟨v, rfl, ⟨ac, nc, cc, rfl⟩, hf⟩; have HF10 := Lib.hid (HF9.out.trans hf); clear hf P3)))
      rcases HRO.out with rfl | rfl | ⟨h1, h2, -⟩
      · obtain rfl : inB = true := by rw [← HIN.out]; rfl
        rcases HTO.out with rfl | rfl | ⟨g1, g2, -⟩
        · obtain rfl : boB = false := by rw [← HBO.out]; rfl
          go_wp2_with (first
            | (go_at_call 14; go_must (refine (CK.out _).mono ?_; rintro e w11 ⟨rfl, hf⟩; have HF11 := Lib.hid (HF10.out.trans hf); clear hf CK))
            | (go_at_call 19; go_must (refine (num33_any _ _).mono ?_; rintro e w' ⟨rfl, rfl⟩)))
          go_ret
          exact ⟨by simp, HOUT.out.trans HF11.out⟩
        · obtain rfl : boB = true := by rw [← HBO.out]; rfl
          go_wp2_with (first
            | (go_at_call 14; go_must (refine (CK.out _).mono ?_; rintro e w11 ⟨rfl, hf⟩; have HF11 := Lib.hid (HF10.out.trans hf); clear hf CK))
            | (go_at_call 19; go_must (refine (num33_any _ _).mono ?_; rintro e w' ⟨rfl, rfl⟩)))
          go_ret
          exact ⟨by simp, HOUT.out.trans HF11.out⟩
        · obtain rfl : boB = false := by rw [← HBO.out, g1, g2]; rfl
          go_wp2_with (first
            | (go_at_call 14; go_must (refine (CK.out _).mono ?_; rintro e w11 ⟨rfl, hf⟩; have HF11 := Lib.hid (HF10.out.trans hf); clear hf CK))
            | (go_at_call 19; go_must (refine (num33_any _ _).mono ?_; rintro e w' ⟨rfl, rfl⟩)))
          go_ret
          exact ⟨by simp, HOUT.out.trans HF11.out⟩
      · obtain rfl : inB = true := by rw [← HIN.out]; rfl
        rcases HTO.out with rfl | rfl | ⟨g1, g2, -⟩
        · obtain rfl : boB = true := by rw [← HBO.out]; rfl
          go_wp2_with (first
            | (go_at_call 14; go_must (refine (CK.out _).mono ?_; rintro e w11 ⟨rfl, hf⟩; have HF11 := Lib.hid (HF10.out.trans hf); clear hf CK))
            | (go_at_call 19; go_must (refine (num33_any _ _).mono ?_; rintro e w' ⟨rfl, rfl⟩)))
          go_ret
          exact ⟨by simp, HOUT.out.trans HF11.out⟩
        · obtain rfl : boB = false := by rw [← HBO.out]; rfl
          go_wp2_with (first
            | (go_at_call 14; go_must (refine (CK.out _).mono ?_; rintro e w11 ⟨rfl, hf⟩; have HF11 := Lib.hid (HF10.out.trans hf); clear hf CK))
            | (go_at_call 19; go_must (refine (num33_any _ _).mono ?_; rintro e w' ⟨rfl, rfl⟩)))
          go_ret
          exact ⟨by simp, HOUT.out.trans HF11.out⟩
        · obtain rfl : boB = false := by rw [← HBO.out, g1, g2]; rfl
          go_wp2_with (first
            | (go_at_call 14; go_must (refine (CK.out _).mono ?_; rintro e w11 ⟨rfl, hf⟩; have HF11 := Lib.hid (HF10.out.trans hf); clear hf CK))
            | (go_at_call 19; go_must (refine (num33_any _ _).mono ?_; rintro e w' ⟨rfl, rfl⟩)))
          go_ret
          exact ⟨by simp, HOUT.out.trans HF11.out⟩
      · obtain rfl : inB = false := by rw [← HIN.out, h1, h2]; rfl
        obtain rfl : boB = false := by rw [← HBO.out, h1, h2]; rfl
        go_wp2_with (first
          | (go_at_call 14; go_must (refine (CK.out _).mono ?_; rintro e w11 ⟨rfl, hf⟩; have HF11 := Lib.hid (HF10.out.trans hf); clear hf CK))
          | (go_at_call 19; go_must (refine (num33_any _ _).mono ?_; rintro e w' ⟨rfl, rfl⟩)))
        go_ret
        exact ⟨by simp, HOUT.out.trans HF11.out⟩
end Go.Proofs.YtkphhjekfimmlaaGreat
namespace Go.Proofs.YtkphhjekfimmlaaGreat
open Go.ChangeShapes Go.WideShapes Go.ChangeAt Go.RowKit

theorem trodAll_below {H : Type} {enc : TypeId × Value → H} {P : Program} (hl : laidOutB P = true) {W W' : World} (hb : Below W.heap.size W W') : ∀ (ts : List TypeId) (vs : List Value) (ds : List (DataW H)) (ps : List MemPlace),
    (ts.all fun t => P.readableRec t && decide (t < P.types.size)) = true → DataW.TrodAll enc P W 0 (fun _ => true) true ts vs ds ps → (∀ x ∈ ps, x.block < W.heap.size) →
    DataW.TrodAll enc P W' 0 (fun b => decide (b < W.heap.size)) true ts vs ds ps
  | [], vs, ds, ps, _, h, _ => by
    obtain ⟨rfl, rfl, rfl⟩ := trodAll_nil h
    exact rfl
  | t :: ts, vs, ds, ps, ht, h, hlt => by
    obtain ⟨v, vs', d, ds', p, q, rfl, rfl, rfl, h1, h2⟩ := trodAll_cons h
    simp only [List.all_cons, Bool.and_eq_true, decide_eq_true_eq] at ht
    exact ⟨p, q, Below.trod hl ht.1.1 ht.1.2 h1 hb (fun x hx => hlt x (by simp [hx])), trodAll_below hl hb ts vs' ds' q ht.2 h2 (fun x hx => hlt x (by simp [hx])), rfl⟩

theorem trodAll_length {H : Type} {enc : TypeId × Value → H} {P : Program} {W : World} {base : Nat} {sp : Nat → Bool} {held : Bool} : ∀ (ts : List TypeId) (vs : List Value) (ds : List (DataW H)) (ps : List MemPlace),
    DataW.TrodAll enc P W base sp held ts vs ds ps → ds.length = ts.length
  | [], vs, ds, ps, h => by
    obtain ⟨rfl, rfl, rfl⟩ := trodAll_nil h
    rfl
  | t :: ts, vs, ds, ps, h => by
    obtain ⟨v, vs', d, ds', p, q, rfl, rfl, rfl, h1, h2⟩ := trodAll_cons h
    simp [trodAll_length ts vs' ds' q h2]

theorem law_lifted {C : Checked} (own : ownKnob C.prog.godebug = none) (laid : laidOutB C.prog = true) {os : Os} (started : os.Started) {H : Type} (enc : TypeId × Value → H) (f : FuncId) (fn : Func) (s : ChangeSpec) (tb : TypeId)
    (noInit : C.prog.inits.idxOf? f = none) (hfn : C.prog.funcs[f]? = some fn)
    (witness : ∃ (w : World) (tape : Tape) (i : Input), w.os = os ∧ (w.forCall tape i).Shaped C.prog ∧ i.vars = [] ∧ Input.okWide C.prog (w.forCall tape i) .any w.heap.size f i ∧
      s.pre6 enc C.prog fn [] false (w.forCall tape i).memory i.args ∧ ({} : Assume).holds C.prog (lone (Frame.enter C.prog f i.args .normal) [] (w.forCall tape i)))
    (hv : s.vars = []) (hrt : fn.resultTypes = #[tb]) (htb : C.prog.underlying tb = some .bool)
    (hts : (fn.params.toList.all fun t => C.prog.readableRec t && decide (t < C.prog.types.size)) = true)
    (hspec : ∀ ds : List (DataW H), ds.length = fn.params.toList.length → s.fn H ds = { results := [.lit (.bool true)], args := ds })
    (walk : ∀ (W : World) (base : Nat) (args : Array Value) (ds : List (DataW H)) (p : List MemPlace),
      (∀ (j : Nat) t v, fn.params[j]? = some t → args[j]? = some v → Value.okWide C.prog W .any base t v) →
      DataW.TrodAll enc C.prog W 0 (fun _ => true) true fn.params.toList args.toList ds p →
      (∀ x ∈ p, x.block < W.heap.size) →
      (DataW.weightsEach C.prog fn.params.toList ds).all (· ≤ reachBytes) = true →
      Calls C.prog f args W (Ret (.bool true) (Frm [] W))) :
    ReturnsInHanded {} C os f .any (s.pre6 enc C.prog fn [] false) (s.post enc C.prog fn false true false false) := by
  refine returnsInHanded_of_change_sized (C := C) own started noInit hfn witness ?_
  intro W base args ds gs before hval hW _ hsz _
  have hvt : s.plain.varTypes C.prog = [] := by
    simp [DataSpec.varTypes, ChangeSpec.plain, hv]
  have hW' := hW
  obtain ⟨p, q, hA, hV, rfl, _, _⟩ := hW
  rw [hv] at hV
  obtain ⟨rfl, rfl⟩ := trodVars_none hV
  simp only [List.append_nil] at hW'
  rw [hvt, List.append_nil, List.append_nil] at hsz
  have hlt : ∀ x ∈ p, x.block < W.heap.size := fun x hx => by simpa using hW'.lt x hx
  refine (walk W base args ds p hval hA hlt hsz).mono ?_
  rintro e W' ⟨rfl, hf⟩
  have hB : Below W.heap.size W W' := hf.below (Nat.le_refl _) (by simp)
  have hsp := hspec ds (trodAll_length _ _ _ _ hA)
  refine ⟨_, rfl, ds, [], p, [], p, [], hW', ?_, ?_, ?_, hB.frame _, fun h => by cases h⟩
  · rw [List.append_nil, hsp, hrt]
    exact trodAll_mk1 (shut_bool htb _)
  · rw [List.append_nil, hsp]
    exact trodAll_below laid hB _ _ _ _ hts hA hlt
  · rw [List.append_nil, hsp, hv]
    rfl
end Go.Proofs.YtkphhjekfimmlaaGreat
namespace Go.Proofs.YtkphhjekfimmlaaGreat
open Go.ChangeShapes Go.WideShapes Go.ChangeAt Go.RowKit

theorem Tryz.own : ownKnob Tryz.prog.godebug = none := by kernel_rfl
theorem Tryz.laidOut : laidOutB Tryz.prog = true := by kernel_rfl
end Go.Proofs.YtkphhjekfimmlaaGreat
