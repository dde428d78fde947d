/- role.CheckSession: the error of a session. A slice of one's own that grows in a field of a block; rows of channels, of actors that stand while others grow. counter.New: a bank whose values are 0. -/
import Derived.Test.YtkphhjekfimmlaaGreatB19
import Derived.Test.YtkphhjekfimmlaaGreatB07
import Derived.Test.YtkphhjekfimmlaaGreatB06
import Derived.Test.YtkphhjekfimmlaaGreatB15
namespace Go.Proofs.YtkphhjekfimmlaaGreat
open Go.RowKit Go.BigFrame

theorem firstE_go (s : SesD) : ∀ (l : List RolD) (i : Nat), (∀ j, j < l.length → rolE s (i + j) (l.getD j dR) = 0) → firstE s i l = 0
  | [], _, _ => rfl
  | r :: l, i, h => by
    have h0 := h 0 (by simp)
    have h1 := firstE_go s l (i + 1) (fun j hj => by have := h (j + 1) (by simp; omega); rw [show i + 1 + j = i + (j + 1) by omega]; exact this)
    unfold firstE
    rw [if_pos (show rolE s i r = 0 from h0), h1]
theorem firstE_hit (s : SesD) : ∀ (l : List RolD) (i k : Nat), k < l.length → (∀ j, j < k → rolE s (i + j) (l.getD j dR) = 0) → rolE s (i + k) (l.getD k dR) ≠ 0 → firstE s i l = rolE s (i + k) (l.getD k dR)
  | [], _, k, hk, _, _ => by simp at hk
  | r :: l, i, 0, _, _, hne => by
    unfold firstE
    rw [if_neg (show ¬ rolE s i r = 0 from hne)]; rfl
  | r :: l, i, k + 1, hk, h, hne => by
    have h0 := h 0 (by omega)
    unfold firstE
    rw [if_pos (show rolE s i r = 0 from h0), firstE_hit s l (i + 1) k (by simpa using hk) (fun j hj => by have := h (j + 1) (by omega); rw [show i + 1 + j = i + (j + 1) by omega]; exact this) (by rw [show i + 1 + k = i + (k + 1) by omega]; exact hne)]
    rw [show i + 1 + k = i + (k + 1) by omega]; rfl
/-- a session whose lists are short, and whose numbers fit -/
structure SmS (s : SesD) : Prop where
  n : s.roles.length ≤ 100
  r : ∀ r ∈ s.roles, SmR r
theorem kSpeaks_eq (x : StpD) : kSpeaks x.kind = speaks x := rfl
/-- the session in a variable, the function 'named' in another one -/
structure SBox (w : World) (sb nb : Nat) (s : SesD) (rv : Value) : Prop where
  b : w.heap[sb]? = some (.cells #[.string s.name, rv, .int .i64 s.cls, .int .i64 s.cap] 25 (0, 0))
  f : w.cell? ⟨nb, 0, none⟩ = some (.func (.func 111) #[] #[.pointer (some ⟨sb, 0, none⟩)])
  l : Rls w rv s.roles
theorem SBox.frm {w w' : World} {sb nb : Nat} {s : SesD} {rv : Value} (h : SBox w sb nb s rv) (hf : Frm [] w w') : SBox w' sb nb s rv := ⟨hf.at h.b (by simp), hf.keep h.f, h.l.frm hf⟩
theorem Tryz.call_rSes1 (args : Array Value) (w : World) : (callFunc 111 args).run Tryz.prog w = .ok (.enter 111 args) w := by kernel_rfl
theorem Tryz.call_rSes2 (args : Array Value) (w : World) : (callFunc 117 args).run Tryz.prog w = .ok (.enter 117 args) w := by kernel_rfl
theorem field_speaks (a : ByteArray) (b : Bool) (f : Value) (h : f = .nilFunc ∨ ∃ K, f = .func (.func K) #[] #[]) (W : World) : (Instr.field 220 (.agg #[.string a, .bool b, f]) 1).run Tryz.prog W = .ok (.bool b) W := by
  rcases h with rfl | ⟨K, rfl⟩
  all_goals simp [Instr.field, go_sem, asAgg, part]
set_option maxHeartbeats 2000000 in
set_option maxRecDepth 100000 in
theorem rSes2_any (sb nb : Nat) (s : SesD) (rv : Value) (x : StpD) (w : World) (h : SBox w sb nb s rv) (hn : s.roles.length ≤ 100) (hw : wf64 x.kind) :
    Calls Tryz.prog 117 #[stpV x, .pointer (some ⟨nb, 0, none⟩)] w (Ret (.bool (speaks x && decide (rolIx s x.peer < 0))) (Frm [] w)) := by
  obtain ⟨W1, hW1⟩ : ∃ W1, w.alloc (.cells (encT x) 60) = W1 := ⟨_, rfl⟩
  have hf1 : Frm [] w W1 := by rw [← hW1]; exact (Frm.refl _ _).alloc _
  have HB : Hid (∀ V, Frm [] W1 V → V.cell? ⟨w.heap.size, 2, none⟩ = some (.int .i64 x.kind) ∧ V.cell? ⟨w.heap.size, 4, none⟩ = some (.string x.peer) ∧ V.cell? ⟨nb, 0, none⟩ = some (.func (.func 111) #[] #[.pointer (some ⟨sb, 0, none⟩)])) := Lib.hid fun V hV => by
    have hb : W1.heap[w.heap.size]? = some (.cells (encT x) 60 (0, 0)) := by rw [← hW1]; exact heap_alloc_new _ _
    exact ⟨hV.keep (cell_of hb 2), hV.keep (cell_of hb 4), hV.keep (hf1.keep h.f)⟩
  have CN : Hid (∀ V, Frm [] W1 V → Calls Tryz.prog 111 #[.string x.peer, .pointer (some ⟨sb, 0, none⟩)] V (Ret (.int .i64 (rolIx s x.peer)) (Frm [] V))) := Lib.hid fun V hV => by
    have h' := h.frm (hf1.trans hV)
    exact rSes1_any sb s rv x.peer V (cell_of h'.b 1) h'.l (by omega)
  have HF := Lib.hid hf1
  have HE := Lib.hid hW1
  have HK := Lib.hid hw
  have HC1 := Lib.hid Tryz.call_rSes1
  rw [← kSpeaks_eq]
  obtain ⟨sp, hsp⟩ : ∃ b, kSpeaks x.kind = b := ⟨_, rfl⟩
  have HSP := Lib.hid hsp
  obtain ⟨q, hq⟩ : ∃ q, rolIx s x.peer = q := ⟨_, rfl⟩
  rw [hsp, hq]
  rw [hq] at CN
  clear h hn hw hf1 hW1 hsp hq
  go_enter Tryz.func117, Tryz.ntmps117
  go_upto_region 1 with (first | (refine wpList_box_row rfl 60 _ rfl (encT x) rfl ?_; rw [HE.out]))
  obtain ⟨e0, e1, e2⟩ := HB.out W1 (Frm.refl _ _)
  have l0 := cell_lt e0
  have l2 := cell_lt e2
  have hfl := fun b W => field_speaks (kWord x.kind) b (kFn x.kind) (kFn_cases x.kind) W
  cases sp with
  | false =>
    refine heldG_start (by kernel_rfl) ?_
    refine heldG_take (i := 1) ?_ rfl (by kernel_rfl) (by kernel_rfl) (by kernel_rfl) (fun _ _ _ h => h) (by rfl) (fun w' hC => ?_) ?_
    rotate_left
    · skip
      obtain ⟨z0, z1, z2⟩ := HB.out w' ((Frm.refl [] W1).drew.trans hC)
      clear hC
      go_simp
      try rfl
    try simp only [List.getElem_toArray, List.getElem_cons_zero, List.getElem_cons_succ, Act.put, List.setIfInBounds_toArray, List.set_cons_zero, List.set_cons_succ]
    refine heldG_take (i := 2) ?_ rfl (by kernel_rfl) (by kernel_rfl) (by kernel_rfl) (fun _ _ _ h => h) (by rfl) (fun w' hC => ?_) ?_
    rotate_left
    · skip
      obtain ⟨z0, z1, z2⟩ := HB.out w' ((Frm.refl [] W1).drew.trans hC)
      clear hC
      go_simp
      try rfl
    try simp only [List.getElem_toArray, List.getElem_cons_zero, List.getElem_cons_succ, Act.put, List.setIfInBounds_toArray, List.set_cons_zero, List.set_cons_succ]
    refine heldG_step (i := 0) rfl (by kernel_rfl) (by rfl) (fun K' hK' => ?_)
    go_simp
    (refine (rKinds_any _).mono ?_; rintro e w2 ⟨v, rfl, mb, rfl, hk, hf⟩; have HF2 : Hid (Frm [] W1 w2) := Lib.hid ((Frm.refl [] W1).drew.trans hf); have HLK := Lib.hid hk; clear hk)
    refine hK'.out _ _ (hf) ?_
    clear hK' K'
    try simp only [List.getElem_toArray, List.getElem_cons_zero, List.getElem_cons_succ, Act.put, List.setIfInBounds_toArray, List.set_cons_zero, List.set_cons_succ]
    refine heldG_take (i := 3) ?_ rfl (by kernel_rfl) (by kernel_rfl) (by kernel_rfl) (fun _ _ _ h => h) (by rfl) (fun w' hC => ?_) ?_
    rotate_left
    · skip
      have hl1 := (HLK.out w' hC _ HK.out).2
      rw [HSP.out] at hl1
      clear hC
      go_simp
      try rfl
    try simp only [List.getElem_toArray, List.getElem_cons_zero, List.getElem_cons_succ, Act.put, List.setIfInBounds_toArray, List.set_cons_zero, List.set_cons_succ]
    refine heldG_take (i := 4) ?_ rfl (by kernel_rfl) (by kernel_rfl) (by kernel_rfl) (fun _ _ _ h => h) (by rfl) (fun w' hC => ?_) ?_
    rotate_left
    · skip
      have hl1 := (HLK.out w' hC _ HK.out).2
      rw [HSP.out] at hl1
      clear hC
      go_simp
      try rfl
    try simp only [List.getElem_toArray, List.getElem_cons_zero, List.getElem_cons_succ, Act.put, List.setIfInBounds_toArray, List.set_cons_zero, List.set_cons_succ]
    refine heldG_take (i := 5) ?_ rfl (by kernel_rfl) (by kernel_rfl) (by kernel_rfl) (fun _ _ _ h => h) (by rfl) (fun w' hC => ?_) ?_
    rotate_left
    · skip
      have hl1 := (HLK.out w' hC _ HK.out).2
      rw [HSP.out] at hl1
      clear hC
      go_simp
      try rfl
    try simp only [List.getElem_toArray, List.getElem_cons_zero, List.getElem_cons_succ, Act.put, List.setIfInBounds_toArray, List.set_cons_zero, List.set_cons_succ]
    refine heldG_skip (i := 6) rfl (by kernel_rfl) (by kernel_rfl) (by kernel_rfl) (fun _ _ _ h => h) (by rfl) ?_
    try simp only [List.getElem_toArray, List.getElem_cons_zero, List.getElem_cons_succ, Act.put, List.setIfInBounds_toArray, List.set_cons_zero, List.set_cons_succ]
    refine heldG_skip (i := 7) rfl (by kernel_rfl) (by kernel_rfl) (by kernel_rfl) (fun _ _ _ h => h) (by rfl) ?_
    try simp only [List.getElem_toArray, List.getElem_cons_zero, List.getElem_cons_succ, Act.put, List.setIfInBounds_toArray, List.set_cons_zero, List.set_cons_succ]
    refine heldG_skip (i := 8) rfl (by kernel_rfl) (by kernel_rfl) (by kernel_rfl) (fun _ _ _ h => h) (by rfl) ?_
    try simp only [List.getElem_toArray, List.getElem_cons_zero, List.getElem_cons_succ, Act.put, List.setIfInBounds_toArray, List.set_cons_zero, List.set_cons_succ]
    refine heldG_skip (i := 9) rfl (by kernel_rfl) (by kernel_rfl) (by kernel_rfl) (fun _ _ _ h => h) (by rfl) ?_
    try simp only [List.getElem_toArray, List.getElem_cons_zero, List.getElem_cons_succ, Act.put, List.setIfInBounds_toArray, List.set_cons_zero, List.set_cons_succ]
    refine heldG_skip (i := 10) rfl (by kernel_rfl) (by kernel_rfl) (by kernel_rfl) (fun _ _ _ h => h) (by rfl) ?_
    try simp only [List.getElem_toArray, List.getElem_cons_zero, List.getElem_cons_succ, Act.put, List.setIfInBounds_toArray, List.set_cons_zero, List.set_cons_succ]
    refine heldG_take (i := 11) ?_ rfl (by kernel_rfl) (by kernel_rfl) (by kernel_rfl) (fun _ _ _ h => h) (by rfl) (fun w' hC => ?_) ?_
    rotate_left
    · skip
      have hl1 := (HLK.out w' hC _ HK.out).2
      rw [HSP.out] at hl1
      clear hC
      go_simp
      try rfl
    try simp only [List.getElem_toArray, List.getElem_cons_zero, List.getElem_cons_succ, Act.put, List.setIfInBounds_toArray, List.set_cons_zero, List.set_cons_succ]
    refine heldG_take (i := 12) ?_ rfl (by kernel_rfl) (by kernel_rfl) (by kernel_rfl) (fun _ _ _ h => h) (by rfl) (fun w' hC => ?_) ?_
    rotate_left
    · skip
      have hl1 := (HLK.out w' hC _ HK.out).2
      rw [HSP.out] at hl1
      clear hC
      go_simp
      try rfl
    try simp only [List.getElem_toArray, List.getElem_cons_zero, List.getElem_cons_succ, Act.put, List.setIfInBounds_toArray, List.set_cons_zero, List.set_cons_succ]
    refine wpAnyH_done (by kernel_rfl) ?_ _
    go_wp2
    go_ret
    exact ⟨rfl, HF.out.trans HF2.out⟩
  | true =>
    refine heldG_start (by kernel_rfl) ?_
    refine heldG_take (i := 1) ?_ rfl (by kernel_rfl) (by kernel_rfl) (by kernel_rfl) (fun _ _ _ h => h) (by rfl) (fun w' hC => ?_) ?_
    rotate_left
    · skip
      obtain ⟨z0, z1, z2⟩ := HB.out w' ((Frm.refl [] W1).drew.trans hC)
      clear hC
      go_simp
      try rfl
    try simp only [List.getElem_toArray, List.getElem_cons_zero, List.getElem_cons_succ, Act.put, List.setIfInBounds_toArray, List.set_cons_zero, List.set_cons_succ]
    refine heldG_take (i := 2) ?_ rfl (by kernel_rfl) (by kernel_rfl) (by kernel_rfl) (fun _ _ _ h => h) (by rfl) (fun w' hC => ?_) ?_
    rotate_left
    · skip
      obtain ⟨z0, z1, z2⟩ := HB.out w' ((Frm.refl [] W1).drew.trans hC)
      clear hC
      go_simp
      try rfl
    try simp only [List.getElem_toArray, List.getElem_cons_zero, List.getElem_cons_succ, Act.put, List.setIfInBounds_toArray, List.set_cons_zero, List.set_cons_succ]
    refine heldG_step (i := 0) rfl (by kernel_rfl) (by rfl) (fun K' hK' => ?_)
    go_simp
    (refine (rKinds_any _).mono ?_; rintro e w2 ⟨v, rfl, mb, rfl, hk, hf⟩; have HF2 : Hid (Frm [] W1 w2) := Lib.hid ((Frm.refl [] W1).drew.trans hf); have HLK := Lib.hid hk; clear hk)
    refine hK'.out _ _ (hf) ?_
    clear hK' K'
    try simp only [List.getElem_toArray, List.getElem_cons_zero, List.getElem_cons_succ, Act.put, List.setIfInBounds_toArray, List.set_cons_zero, List.set_cons_succ]
    refine heldG_take (i := 3) ?_ rfl (by kernel_rfl) (by kernel_rfl) (by kernel_rfl) (fun _ _ _ h => h) (by rfl) (fun w' hC => ?_) ?_
    rotate_left
    · skip
      have hl1 := (HLK.out w' hC _ HK.out).2
      rw [HSP.out] at hl1
      obtain ⟨z0, z1, z2⟩ := HB.out w' (HF2.out.trans hC)
      clear hC
      go_simp
      try rfl
    try simp only [List.getElem_toArray, List.getElem_cons_zero, List.getElem_cons_succ, Act.put, List.setIfInBounds_toArray, List.set_cons_zero, List.set_cons_succ]
    refine heldG_take (i := 4) ?_ rfl (by kernel_rfl) (by kernel_rfl) (by kernel_rfl) (fun _ _ _ h => h) (by rfl) (fun w' hC => ?_) ?_
    rotate_left
    · skip
      have hl1 := (HLK.out w' hC _ HK.out).2
      rw [HSP.out] at hl1
      obtain ⟨z0, z1, z2⟩ := HB.out w' (HF2.out.trans hC)
      clear hC
      go_simp
      try rfl
    try simp only [List.getElem_toArray, List.getElem_cons_zero, List.getElem_cons_succ, Act.put, List.setIfInBounds_toArray, List.set_cons_zero, List.set_cons_succ]
    refine heldG_take (i := 5) ?_ rfl (by kernel_rfl) (by kernel_rfl) (by kernel_rfl) (fun _ _ _ h => h) (by rfl) (fun w' hC => ?_) ?_
    rotate_left
    · skip
      have hl1 := (HLK.out w' hC _ HK.out).2
      rw [HSP.out] at hl1
      obtain ⟨z0, z1, z2⟩ := HB.out w' (HF2.out.trans hC)
      clear hC
      go_simp
      try rfl
    try simp only [List.getElem_toArray, List.getElem_cons_zero, List.getElem_cons_succ, Act.put, List.setIfInBounds_toArray, List.set_cons_zero, List.set_cons_succ]
    refine heldG_take (i := 6) ?_ rfl (by kernel_rfl) (by kernel_rfl) (by kernel_rfl) (fun _ _ _ h => h) (by rfl) (fun w' hC => ?_) ?_
    rotate_left
    · skip
      have hl1 := (HLK.out w' hC _ HK.out).2
      rw [HSP.out] at hl1
      obtain ⟨z0, z1, z2⟩ := HB.out w' (HF2.out.trans hC)
      clear hC
      go_simp
      try rfl
    try simp only [List.getElem_toArray, List.getElem_cons_zero, List.getElem_cons_succ, Act.put, List.setIfInBounds_toArray, List.set_cons_zero, List.set_cons_succ]
    refine heldG_take (i := 7) ?_ rfl (by kernel_rfl) (by kernel_rfl) (by kernel_rfl) (fun _ _ _ h => h) (by rfl) (fun w' hC => ?_) ?_
    rotate_left
    · skip
      have hl1 := (HLK.out w' hC _ HK.out).2
      rw [HSP.out] at hl1
      obtain ⟨z0, z1, z2⟩ := HB.out w' (HF2.out.trans hC)
      clear hC
      go_simp
      try rfl
    try simp only [List.getElem_toArray, List.getElem_cons_zero, List.getElem_cons_succ, Act.put, List.setIfInBounds_toArray, List.set_cons_zero, List.set_cons_succ]
    refine heldG_take (i := 8) ?_ rfl (by kernel_rfl) (by kernel_rfl) (by kernel_rfl) (fun _ _ _ h => h) (by rfl) (fun w' hC => ?_) ?_
    rotate_left
    · skip
      have hl1 := (HLK.out w' hC _ HK.out).2
      rw [HSP.out] at hl1
      obtain ⟨z0, z1, z2⟩ := HB.out w' (HF2.out.trans hC)
      clear hC
      go_simp
      try rfl
    try simp only [List.getElem_toArray, List.getElem_cons_zero, List.getElem_cons_succ, Act.put, List.setIfInBounds_toArray, List.set_cons_zero, List.set_cons_succ]
    refine heldG_step (i := 9) rfl (by kernel_rfl) (by rfl) (fun K' hK' => ?_)
    go_simp
    (refine (CN.out _ HF2.out).mono ?_; rintro e w3 ⟨rfl, hf3⟩; have HF3 : Hid (Frm [] W1 w3) := Lib.hid (HF2.out.trans hf3))
    refine hK'.out _ _ (hf3) ?_
    clear hK' K'
    try simp only [List.getElem_toArray, List.getElem_cons_zero, List.getElem_cons_succ, Act.put, List.setIfInBounds_toArray, List.set_cons_zero, List.set_cons_succ]
    refine heldG_take (i := 10) ?_ rfl (by kernel_rfl) (by kernel_rfl) (by kernel_rfl) (fun _ _ _ h => h) (by rfl) (fun w' hC => ?_) ?_
    rotate_left
    · skip
      skip
      clear hC
      go_simp
      try rfl
    try simp only [List.getElem_toArray, List.getElem_cons_zero, List.getElem_cons_succ, Act.put, List.setIfInBounds_toArray, List.set_cons_zero, List.set_cons_succ]
    refine heldG_take (i := 11) ?_ rfl (by kernel_rfl) (by kernel_rfl) (by kernel_rfl) (fun _ _ _ h => h) (by rfl) (fun w' hC => ?_) ?_
    rotate_left
    · skip
      skip
      clear hC
      go_simp
      try rfl
    try simp only [List.getElem_toArray, List.getElem_cons_zero, List.getElem_cons_succ, Act.put, List.setIfInBounds_toArray, List.set_cons_zero, List.set_cons_succ]
    refine heldG_take (i := 12) ?_ rfl (by kernel_rfl) (by kernel_rfl) (by kernel_rfl) (fun _ _ _ h => h) (by rfl) (fun w' hC => ?_) ?_
    rotate_left
    · skip
      skip
      clear hC
      go_simp
      try rfl
    try simp only [List.getElem_toArray, List.getElem_cons_zero, List.getElem_cons_succ, Act.put, List.setIfInBounds_toArray, List.set_cons_zero, List.set_cons_succ]
    refine wpAnyH_done (by kernel_rfl) ?_ _
    go_wp2
    go_ret
    exact ⟨by simp, HF.out.trans HF3.out⟩
theorem ixf_anyB {α : Type} (p : α → Bool) (l : List α) : decide (0 ≤ ixf p l) = l.any p := by
  rw [Bool.eq_iff_iff, decide_eq_true_eq, List.any_eq_true]
  constructor
  · intro h
    obtain ⟨i, hi, -⟩ := ixf_nat h
    obtain ⟨x, h1, h2, -⟩ := ixf_at hi
    exact ⟨x, List.mem_of_getElem? h1, h2⟩
  · rintro ⟨x, h1, h2⟩
    exact ixf_ex h1 h2
set_option maxHeartbeats 1000000 in
theorem ixStep_any (K : FuncId) (caps : Array Value) (p : StpD → Bool) (v : Value) (xs : List StpD) (w : World) (h : Arr 9 SpAt w v xs) (hl : xs.length ≤ 1000) (hK : ∀ args w, (callFunc K args).run Tryz.prog w = .ok (.enter K args) w)
    (hp : ∀ W x, Frm [] w W → x ∈ xs → Calls Tryz.prog K (#[stpV x] ++ caps) W (Ret (.bool (p x)) (Frm [] W))) :
    Calls Tryz.prog 116 #[v, .func (.func K) #[] caps] w (Ret (.int .i64 (ixf p xs)) (Frm [] w)) := by
  have C2 := Lib.hid (ifStep_any K caps p v xs w h hl hK hp)
  clear h hl hK hp
  go_enter Tryz.func116, Tryz.ntmps116
  go_wp2_with (go_at_call 157; go_must (refine C2.out.mono ?_; rintro e w1 ⟨rfl, hf1⟩; have HF1 := Lib.hid hf1; clear hf1))
  go_ret
  exact ⟨rfl, HF1.out⟩
theorem ses_ways (s : SesD) : sesBad s = false ∨ (sesBad s = true ∧ ((s.roles.length : Int) < 2 ∨ (¬ (s.roles.length : Int) < 2 ∧ 4 < (s.roles.length : Int)) ∨ (¬ (s.roles.length : Int) < 2 ∧ ¬ 4 < (s.roles.length : Int) ∧ s.cls < 1) ∨
    (¬ (s.roles.length : Int) < 2 ∧ ¬ 4 < (s.roles.length : Int) ∧ ¬ s.cls < 1 ∧ 3 < s.cls) ∨ (¬ (s.roles.length : Int) < 2 ∧ ¬ 4 < (s.roles.length : Int) ∧ ¬ s.cls < 1 ∧ ¬ 3 < s.cls ∧ s.cap < 1) ∨
    (¬ (s.roles.length : Int) < 2 ∧ ¬ 4 < (s.roles.length : Int) ∧ ¬ s.cls < 1 ∧ ¬ 3 < s.cls ∧ ¬ s.cap < 1 ∧ 4 < s.cap))) := by
  cases h : sesBad s with
  | false => exact .inl rfl
  | true =>
    right
    refine ⟨rfl, ?_⟩
    unfold sesBad at h
    simp only [Bool.or_eq_true, decide_eq_true_eq] at h
    omega
theorem ses_good {s : SesD} (h : sesBad s = false) : 2 ≤ s.roles.length ∧ s.roles.length ≤ 4 ∧ 1 ≤ s.cls ∧ s.cls ≤ 3 ∧ 1 ≤ s.cap ∧ s.cap ≤ 4 := by
  unfold sesBad at h
  simp only [Bool.or_eq_false_iff, decide_eq_false_iff_not] at h
  omega
/-- a role of the session as a value, out of the slice -/
theorem Rls.at {w : World} {ao : Option Addr} {n cap : Nat} {s : SesD} (h : Rls w (.slice ao n cap) s.roles) {i : Nat} (hi : i < s.roles.length) : ∃ b o sv cv tv, ao = some ⟨b, o, none⟩ ∧
    (w.cell? ⟨b, o + i * 4, none⟩ = some (.string (s.rol i).name) ∧ w.cell? ⟨b, o + i * 4 + 1, none⟩ = some sv ∧ w.cell? ⟨b, o + i * 4 + 2, none⟩ = some cv ∧ w.cell? ⟨b, o + i * 4 + 3, none⟩ = some tv) ∧ Rl3 w sv cv tv (s.rol i) := by
  obtain ⟨b, o, rfl, sv, cv, tv, h1, h2, h3, h4, h5⟩ := h.get (SesD.rol_some hi)
  exact ⟨b, o, sv, cv, tv, rfl, ⟨h1, h2, h3, h4⟩, h5⟩
set_option maxHeartbeats 4000000 in
set_option maxRecDepth 100000 in
theorem rSes_any (v : Value) (s : SesD) (w : World) (h : SesV w v s) (hs : SmS s) : Calls Tryz.prog 59 #[v] w (RetV fun u w' => ∃ i, u = .tuple #[.int .i64 i, .int .i64 (ckSes s)] ∧ Frm [] w w') := by
  obtain ⟨rv, rfl, hr⟩ := h
  obtain ⟨ao, cap, e, -⟩ := id hr
  subst e
  have HSM := Lib.hid hs
  have HRL := Lib.hid hr
  have CN : Hid (∀ V, Calls Tryz.prog 114 #[.string s.name] V (Ret (.bool (nameB s.name)) (Frm [] V))) := Lib.hid fun V => rName_any s.name V
  have HCK : Hid (ckSes s = if nameB s.name = false then 290 else if sesBad s = true then 2 else if firstE s 0 s.roles = 0 then (if s.roles.any (lostB s) = true then 294 else 0) else firstE s 0 s.roles) := Lib.hid rfl
  obtain ⟨ck, hck⟩ : ∃ c, ckSes s = c := ⟨_, rfl⟩
  rw [hck] at HCK ⊢
  have HW := Lib.hid (ses_ways s)
  obtain ⟨n, hn⟩ : ∃ n, s.roles.length = n := ⟨_, rfl⟩
  rw [hn] at HW HRL ⊢
  have HN := Lib.hid hn
  obtain ⟨W0, hW0⟩ : ∃ W0, (w.alloc (.cells #[.string s.name, .slice ao n cap, .int .i64 s.cls, .int .i64 s.cap] 25)).alloc (.cells #[.func (.func 111) #[] #[.pointer (some ⟨w.heap.size, 0, none⟩)]] 162) = W0 := ⟨_, rfl⟩
  have hf0 : Frm [] w W0 := by rw [← hW0]; exact ((Frm.refl [] w).alloc _).alloc _
  have HB : Hid (SBox W0 w.heap.size (w.heap.size + 1) s (.slice ao n cap)) := Lib.hid ⟨by rw [← hW0]; exact alloc_at (heap_alloc_new _ _), by rw [← hW0]; exact cell_of (alloc_top (by simp)) 0, HRL.out.frm hf0⟩
  have HF0 := Lib.hid hf0
  have HCL : Hid (∀ V, Frm [] W0 V → V.cell? ⟨w.heap.size, 0, none⟩ = some (.string s.name) ∧ V.cell? ⟨w.heap.size, 1, none⟩ = some (.slice ao n cap) ∧ V.cell? ⟨w.heap.size, 2, none⟩ = some (.int .i64 s.cls) ∧ V.cell? ⟨w.heap.size, 3, none⟩ = some (.int .i64 s.cap) ∧
      V.cell? ⟨w.heap.size + 1, 0, none⟩ = some (.func (.func 111) #[] #[.pointer (some ⟨w.heap.size, 0, none⟩)])) := Lib.hid fun V hV => by
    have hb := (HB.out.frm hV).b
    exact ⟨cell_of hb 0, cell_of hb 1, cell_of hb 2, cell_of hb 3, (HB.out.frm hV).f⟩
  have CNm : Hid (∀ V nm, Frm [] W0 V → Calls Tryz.prog 111 #[.string nm, .pointer (some ⟨w.heap.size, 0, none⟩)] V (Ret (.int .i64 (rolIx s nm)) (Frm [] V))) := Lib.hid fun V nm hV => by
    have h' := HB.out.frm hV
    exact rSes1_any w.heap.size s _ nm V (cell_of h'.b 1) h'.l (by have := HSM.out.n; omega)
  have HE := Lib.hid hW0
  have hcall := Tryz.call_rSes1
  obtain ⟨q0, hq0⟩ : ∃ q, nameB s.name = q := ⟨_, rfl⟩
  rw [hq0] at CN HCK
  clear hr hs hck hn hf0 hW0 hq0
  go_enter Tryz.func59, Tryz.ntmps59
  go_upto_region 2 with fail
  rw [HE.out]
  clear HE
  obtain ⟨e0, e1, e2, e3, e4⟩ := HCL.out W0 (Frm.refl _ _)
  cases q0 with
  | false =>
    have HCK : Hid (ck = 290) := Lib.hid (by rw [HCK.out, if_pos rfl])
    go_wp2_with (first
      | (go_at_call 114; go_must (refine (CN.out _).mono ?_; rintro e w1 ⟨rfl, hf1⟩; have HF1 := Lib.hid (HF0.out.trans hf1); clear hf1)))
    go_ret2
    exact ⟨_, rfl, _, by rw [HCK.out]; rfl, HF1.out⟩
  | true =>
    rw [if_neg (by decide)] at HCK
    rcases HW.out with hb | ⟨hb, hw⟩
    · have hg := ses_good hb
      rw [hb, if_neg (by decide)] at HCK
      have hc1 : ¬ (n : Int) < 2 := by rw [← HN.out]; omega
      have hc2 : ¬ 4 < (n : Int) := by rw [← HN.out]; omega
      have hc3 : ¬ s.cls < 1 := by omega
      have hc4 : ¬ 3 < s.cls := by omega
      have hc5 : ¬ s.cap < 1 := by omega
      have hc6 : ¬ 4 < s.cap := by omega
      clear hg hb HW
      go_wp2_with (first
        | (go_at_call 114; go_must (refine (CN.out _).mono ?_; rintro e w1 ⟨rfl, hf1⟩; have HF1 := Lib.hid hf1; clear e0 e1 e2 e3 e4; obtain ⟨e0, e1, e2, e3, e4⟩ := HCL.out w1 hf1; clear hf1)))
      clear CN hc1 hc2 hc3 hc4 hc5 hc6 e0 e1 e2 e3 e4
      go_loopw [51] (fun s51 wr => ∃ i : Nat, s51 = .int .i64 i ∧ i ≤ n ∧ Frm [] W0 wr ∧ ∀ j, j < i → rolE s j (s.rol j) = 0) (fun s51 _ => n - (intOf s51).toNat)
      case atStart => exact ⟨0, rfl, Nat.zero_le _, HF1.out, fun j hj => by omega⟩
      case round =>
        obtain ⟨i, rfl, hi, hf, hno⟩ := hrel
        have HF := Lib.hid hf; have HNO := Lib.hid hno
        clear hf hno
        by_cases hlt : i < n
        · have hlt' : (i : Int) < (n : Int) := by omega
          have hin : i < s.roles.length := by rw [HN.out]; exact hlt
          obtain ⟨b, o, sv, cv, tv, rfl, ⟨d0, d1, d2, d3⟩, h3⟩ := Rls.at (HB.out.frm HF.out).l hin
          obtain ⟨aS, cs, es, -⟩ := id h3.sts
          obtain ⟨ac, cc, ec, -⟩ := id h3.ctrs
          obtain ⟨at', ct, et, -⟩ := id h3.steps
          subst es; subst ec; subst et
          have hmem : s.rol i ∈ s.roles := List.mem_of_getElem? (SesD.rol_some hin)
          have CR : Hid (∀ V, Frm [] wr V → Calls Tryz.prog 115 #[.agg #[.string (s.rol i).name, .slice aS (s.rol i).sts.length cs, .slice ac (s.rol i).ctrs.length cc, .slice at' (s.rol i).steps.length ct]] V (RetV fun u w' => ∃ i', u = .tuple #[.int .i64 i', .int .i64 (ckRole (s.rol i))] ∧ Frm [] V w')) := Lib.hid fun V hV =>
            rCheck_any _ (s.rol i) V ⟨_, _, _, rfl, h3.frm hV⟩ (HSM.out.r _ hmem)
          have HRE : Hid (rolE s i (s.rol i) = if ckRole (s.rol i) = 0 then (if rolIx s (s.rol i).name < i then 290 else 0) else ckRole (s.rol i)) := Lib.hid rfl
          have HFE : Hid (rolE s i (s.rol i) ≠ 0 → firstE s 0 s.roles = rolE s i (s.rol i)) := Lib.hid fun hne => by
            have := firstE_hit s s.roles 0 i hin (fun j hj => by rw [Nat.zero_add]; exact HNO.out j hj) (by rw [Nat.zero_add]; exact hne)
            rw [Nat.zero_add] at this
            exact this
          have CNi := Lib.hid (fun V hV => CNm.out V (s.rol i).name hV)
          obtain ⟨c, hc⟩ : ∃ c, ckRole (s.rol i) = c := ⟨_, rfl⟩
          obtain ⟨q, hq⟩ : ∃ q, rolIx s (s.rol i).name = q := ⟨_, rfl⟩
          obtain ⟨re, hre⟩ : ∃ q, rolE s i (s.rol i) = q := ⟨_, rfl⟩
          obtain ⟨nm, hnm⟩ : ∃ q, (s.rol i).name = q := ⟨_, rfl⟩
          obtain ⟨n1, hn1⟩ : ∃ q, (s.rol i).sts.length = q := ⟨_, rfl⟩
          obtain ⟨n2, hn2⟩ : ∃ q, (s.rol i).ctrs.length = q := ⟨_, rfl⟩
          obtain ⟨n3, hn3⟩ : ∃ q, (s.rol i).steps.length = q := ⟨_, rfl⟩
          rw [hc] at CR HRE; rw [hq] at CNi HRE; rw [hre] at HRE HFE; rw [hnm] at CR CNi d0; rw [hn1] at CR d1; rw [hn2] at CR d2; rw [hn3] at CR d3
          have HREI := Lib.hid hre
          clear h3 hmem hin hc hq hre hnm hn1 hn2 hn3
          have HBX : Hid ((wr.alloc (.cells #[.string nm, .slice aS n1 cs, .slice ac n2 cc, .slice at' n3 ct] 53)).heap[wr.heap.size]? = some (.cells #[.string nm, .slice aS n1 cs, .slice ac n2 cc, .slice at' n3 ct] 53 (0, 0))) := Lib.hid (heap_alloc_new _ _)
          by_cases hc : c = 0
          · have q1 : (c == 0) = true := by simpa using hc
            have q2 : (c != 0) = false := by simpa using hc
            rw [if_pos hc] at HRE
            clear hc
            by_cases hqi : q < (i : Int)
            · rw [if_pos hqi] at HRE
              have HCK : Hid (ck = 290) := Lib.hid (by
                have h1 := HFE.out (by rw [HRE.out]; decide)
                rw [HCK.out, h1, HRE.out]; rfl)
              clear HFE HRE HREI
              go_wp2_with (first
                | (refine wpList_load_whole rfl 53 _ rfl _ rfl _ 53 HBX.out _ Tryz.underlying53 rfl (by kernel_rfl) ?_)
                | (go_at_call 115; go_must (refine (CR.out _ ((Frm.refl [] wr).alloc _)).mono ?_; rintro e w2 ⟨u, rfl, i', rfl, hf2⟩; have HF2 : Hid (Frm [] W0 w2) := Lib.hid ((HF.out.alloc _).trans hf2); obtain ⟨e0, e1, e2, e3, e4⟩ := HCL.out w2 HF2.out; have z0 := cell_of (hf2.at HBX.out (by simp)) 0; clear hf2))
                | (go_at_call 111; go_must (refine (CNi.out _ HF2.out).mono ?_; rintro e w3 ⟨rfl, hf3⟩; have HF3 : Hid (Frm [] W0 w3) := Lib.hid (HF2.out.trans hf3); clear hf3)))
              go_ret2
              exact ⟨_, rfl, _, by rw [HCK.out]; rfl, HF0.out.trans HF3.out⟩
            · rw [if_neg hqi] at HRE
              clear HFE
              go_wp2_with (first
                | (refine wpList_load_whole rfl 53 _ rfl _ rfl _ 53 HBX.out _ Tryz.underlying53 rfl (by kernel_rfl) ?_)
                | (go_at_call 115; go_must (refine (CR.out _ ((Frm.refl [] wr).alloc _)).mono ?_; rintro e w2 ⟨u, rfl, i', rfl, hf2⟩; have HF2 : Hid (Frm [] W0 w2) := Lib.hid ((HF.out.alloc _).trans hf2); obtain ⟨e0, e1, e2, e3, e4⟩ := HCL.out w2 HF2.out; have z0 := cell_of (hf2.at HBX.out (by simp)) 0; clear hf2))
                | (go_at_call 111; go_must (refine (CNi.out _ HF2.out).mono ?_; rintro e w3 ⟨rfl, hf3⟩; have HF3 : Hid (Frm [] W0 w3) := Lib.hid (HF2.out.trans hf3); clear hf3)))
              refine ⟨⟨i + 1, congrArg (Value.int .i64) (by omega), hlt, HF3.out, fun j hj => ?_⟩, by simp [intOf]; omega⟩
              by_cases e : j = i
              · subst e; rw [HREI.out, HRE.out]
              · exact HNO.out j (by omega)
          · have q1 : (c == 0) = false := by simpa using hc
            have q2 : (c != 0) = true := by simpa using hc
            rw [if_neg hc] at HRE
            have HCK : Hid (ck = c) := Lib.hid (by
              have h1 := HFE.out (by rw [HRE.out]; exact hc)
              rw [HCK.out, h1, HRE.out, if_neg hc])
            clear hc HFE HRE HREI
            go_wp2_with (first
              | (refine wpList_load_whole rfl 53 _ rfl _ rfl _ 53 HBX.out _ Tryz.underlying53 rfl (by kernel_rfl) ?_)
              | (go_at_call 115; go_must (refine (CR.out _ ((Frm.refl [] wr).alloc _)).mono ?_; rintro e w2 ⟨u, rfl, i', rfl, hf2⟩; have HF2 : Hid (Frm [] W0 w2) := Lib.hid ((HF.out.alloc _).trans hf2); clear hf2)))
            go_ret2
            exact ⟨_, rfl, _, by rw [HCK.out]; rfl, HF0.out.trans HF2.out⟩
        · obtain rfl : i = n := by omega
          have hge : ¬ (i : Int) < (i : Int) := by omega
          have hfe : firstE s 0 s.roles = 0 := firstE_go s s.roles 0 (fun j hj => by rw [Nat.zero_add]; exact HNO.out j (by rw [HN.out] at hj; exact hj))
          rw [hfe, if_pos rfl] at HCK
          have HALL : Hid (∀ r ∈ s.roles, ckRole r = 0) := Lib.hid fun r hr => by
            obtain ⟨j, hj⟩ := List.getElem?_of_mem hr
            have hjl := lt_of_some hj
            have h1 := HNO.out j (by rw [HN.out] at hjl; exact hjl)
            have e : s.rol j = r := getD_some hj
            unfold rolE at h1
            rw [e] at h1
            by_cases hz : ckRole r = 0
            · exact hz
            · rw [if_neg hz] at h1; exact h1
          obtain ⟨e0, e1, e2, e3, e4⟩ := HCL.out wr HF.out
          obtain ⟨lb, hlb⟩ : ∃ b, s.roles.any (lostB s) = b := ⟨_, rfl⟩
          rw [hlb] at HCK
          have HLB := Lib.hid hlb
          have HFn := HF
          clear hfe hlb HNO hge
          go_wp2
          clear e0 e1 e2 e3 e4
          go_loopw [76] (fun s76 wl => ∃ k : Nat, s76 = .int .i64 k ∧ k ≤ i ∧ Frm [] W0 wl ∧ ∀ j, j < k → lostB s (s.rol j) = false) (fun s76 _ => i - (intOf s76).toNat)
          case atStart => exact ⟨0, rfl, Nat.zero_le _, HFn.out, fun j hj => by omega⟩
          case round =>
            clear HFn HF
            obtain ⟨k, rfl, hk, hf, hno⟩ := hrel
            have HF := Lib.hid hf; have HNO := Lib.hid hno
            clear hf hno
            obtain ⟨w9, hw9⟩ : ∃ w9, w9 = wr := ⟨_, rfl⟩
            subst hw9
            by_cases hlt : k < i
            · have hlt' : (k : Int) < (i : Int) := by omega
              have hin : k < s.roles.length := by rw [HN.out]; exact hlt
              obtain ⟨b, o, sv, cv, tv, rfl, ⟨d0, d1, d2, d3⟩, h3⟩ := Rls.at (HB.out.frm HF.out).l hin
              obtain ⟨aS, cs, es, -⟩ := id h3.sts
              obtain ⟨ac, cc, ec, -⟩ := id h3.ctrs
              obtain ⟨at', ct, et, -⟩ := id h3.steps
              subst es; subst ec; subst et
              have hmem : s.rol k ∈ s.roles := List.mem_of_getElem? (SesD.rol_some hin)
              have CX : Hid (∀ V, Frm [] w9 V → Calls Tryz.prog 116 #[.slice at' (s.rol k).steps.length ct, .func (.func 117) #[] #[.pointer (some ⟨w.heap.size + 1, 0, none⟩)]] V (Ret (.int .i64 (ixf (fun t => speaks t && decide (rolIx s t.peer < 0)) (s.rol k).steps)) (Frm [] V))) := Lib.hid fun V hV =>
                ixStep_any 117 #[.pointer (some ⟨w.heap.size + 1, 0, none⟩)] _ _ (s.rol k).steps V (h3.frm hV).steps (by have := (HSM.out.r _ hmem).t; omega) Tryz.call_rSes2 fun U x hU hx =>
                  rSes2_any w.heap.size (w.heap.size + 1) s _ x U (HB.out.frm (HF.out.trans (hV.trans hU))) (by have := HSM.out.n; omega) ((HSM.out.r _ hmem).k x hx)
              have HLO : Hid (lostB s (s.rol k) = decide (0 ≤ ixf (fun t => speaks t && decide (rolIx s t.peer < 0)) (s.rol k).steps)) := Lib.hid (ixf_anyB _ _).symm
              obtain ⟨q, hq⟩ : ∃ q, ixf (fun t => speaks t && decide (rolIx s t.peer < 0)) (s.rol k).steps = q := ⟨_, rfl⟩
              rw [hq] at CX HLO
              have HHIT : Hid (lostB s (s.rol k) = true → lb = true) := Lib.hid fun h => by rw [← HLB.out, List.any_eq_true]; exact ⟨_, hmem, h⟩
              obtain ⟨nm, hnm⟩ : ∃ q, (s.rol k).name = q := ⟨_, rfl⟩
              obtain ⟨n1, hn1⟩ : ∃ q, (s.rol k).sts.length = q := ⟨_, rfl⟩
              obtain ⟨n2, hn2⟩ : ∃ q, (s.rol k).ctrs.length = q := ⟨_, rfl⟩
              obtain ⟨n3, hn3⟩ : ∃ q, (s.rol k).steps.length = q := ⟨_, rfl⟩
              rw [hnm] at d0; rw [hn1] at d1; rw [hn2] at d2; rw [hn3] at CX d3
              clear h3 hmem hin hq hnm hn1 hn2 hn3
              by_cases hq0 : 0 ≤ q
              · have HCK : Hid (ck = 294) := Lib.hid (by
                  have h1 := HHIT.out (by rw [HLO.out, decide_eq_true hq0])
                  rw [HCK.out, h1, if_pos rfl])
                clear HHIT HLO
                go_wp2_with (first
                  | (go_at_call 116; go_must (refine (CX.out _ ((Frm.refl [] w9).alloc _)).mono ?_; rintro e w2 ⟨rfl, hf2⟩; have HF2 : Hid (Frm [] W0 w2) := Lib.hid ((HF.out.alloc _).trans hf2); clear hf2)))
                go_ret2
                exact ⟨_, rfl, _, by rw [HCK.out]; rfl, HF0.out.trans HF2.out⟩
              · have HLO : Hid (lostB s (s.rol k) = false) := Lib.hid (by rw [HLO.out, decide_eq_false hq0])
                clear HHIT
                go_wp2_with (first
                  | (go_at_call 116; go_must (refine (CX.out _ ((Frm.refl [] w9).alloc _)).mono ?_; rintro e w2 ⟨rfl, hf2⟩; have HF2 : Hid (Frm [] W0 w2) := Lib.hid ((HF.out.alloc _).trans hf2); clear hf2)))
                refine ⟨⟨k + 1, congrArg (Value.int .i64) (by omega), hlt, HF2.out, fun j hj => ?_⟩, by simp [intOf]; omega⟩
                by_cases e : j = k
                · subst e; exact HLO.out
                · exact HNO.out j (by omega)
            · obtain rfl : k = i := by omega
              have hge : ¬ (k : Int) < (k : Int) := by omega
              have hl : lb = false := by
                rw [← HLB.out, List.any_eq_false]
                intro r hr
                obtain ⟨j, hj⟩ := List.getElem?_of_mem hr
                have hjl := lt_of_some hj
                have h1 := HNO.out j (by rw [HN.out] at hjl; exact hjl)
                rw [show s.rol j = r from getD_some hj] at h1
                rw [h1]; decide
              have HCK : Hid (ck = 0) := Lib.hid (by rw [HCK.out, hl]; rfl)
              clear hl
              go_wp2
              go_ret2
              exact ⟨_, rfl, ⟨_, by rw [HCK.out]; rfl⟩, HF0.out.trans HF.out⟩
    · have HCK : Hid (ck = 2) := Lib.hid (by rw [HCK.out, hb, if_pos rfl])
      clear hb HW
      rcases hw with h1 | ⟨h1, h2⟩ | ⟨h1, h2, h3⟩ | ⟨h1, h2, h3, h4⟩ | ⟨h1, h2, h3, h4, h5⟩ | ⟨h1, h2, h3, h4, h5, h6⟩
      all_goals
        go_wp2_with (first
          | (go_at_call 114; go_must (refine (CN.out _).mono ?_; rintro e w1 ⟨rfl, hf1⟩; have HF1 := Lib.hid (HF0.out.trans hf1); clear e0 e1 e2 e3 e4; obtain ⟨e0, e1, e2, e3, e4⟩ := HCL.out w1 hf1; clear hf1)))
        go_ret2
        exact ⟨_, rfl, _, by rw [HCK.out]; rfl, HF1.out⟩
end Go.Proofs.YtkphhjekfimmlaaGreat
namespace Go.Proofs.YtkphhjekfimmlaaGreat
open Go.RowKit Go.BigFrame

/-- block ob holds A, but in field o a slice of one's own: n elements, their cells xs; all is behind the world w -/
structure GO (ty e k : Nat) (w : World) (ob o : Nat) (A : Array Value) (n : Nat) (xs : List Value) (W : World) : Prop where
  fr : Frm [] w W
  new : w.heap.size ≤ ob
  bx : ∃ ao cap, W.heap[ob]? = some (.cells (A.setIfInBounds o (.slice ao n cap)) ty (0, 0)) ∧ W.ownsRow w.heap.size e k (.slice ao n cap) n xs
section
variable {ty e k : Nat} {w V W W' w0 w1 : World} {ob o n m : Nat} {A : Array Value} {xs news : List Value}
theorem GO.frm (h : GO ty e k w ob o A n xs W) (hf : Frm [] W W') : GO ty e k w ob o A n xs W' := by
  obtain ⟨ao, cap, h1, h2⟩ := h.bx
  exact ⟨h.fr.trans hf, h.new, ao, cap, hf.at h1 (by simp), hf.owns h2 (by simp)⟩
/-- what the store behind an append wants -/
theorem GO.facts {ao : Option Addr} {cap : Nat} {B : Array Value} (h1 : W.heap[ob]? = some (.cells B ty (0, 0))) (h2 : W.ownsRow w.heap.size e k (.slice ao n cap) n xs) (hne : ty ≠ e) (hf : Frm [] W w0) (hg : w0.grownBy w1 (Value.slice ao n cap).ownBlock) :
    w1.heap[ob]? = some (.cells B ty (0, 0)) :=
  grown_at hg (hf.at h1 (by simp)) (fun e' => by
    obtain ⟨c, hc⟩ := ownBlock_type h2 e'
    rw [h1] at hc; cases hc; exact hne rfl)
theorem GO.step {ao : Option Addr} {cap : Nat} {v' : Value} (h : GO ty e k w ob o A n xs W) (h1 : W.heap[ob]? = some (.cells (A.setIfInBounds o (.slice ao n cap)) ty (0, 0))) (h2 : W.ownsRow w.heap.size e k (.slice ao n cap) n xs) (hne : ty ≠ e)
    (hf : Frm [] W w0) (hg : w0.grownBy w1 (Value.slice ao n cap).ownBlock) (ho : w1.ownsRow w.heap.size e k v' (n + m) (xs ++ news)) :
    GO ty e k w ob o A (n + m) (xs ++ news) (w1.setCell ⟨ob, o, none⟩ v') ∧ Kt [ty, e] W (w1.setCell ⟨ob, o, none⟩ v') := by
  have hb := GO.facts h1 h2 hne hf hg
  have hge : ∀ q, (Value.slice ao n cap).ownBlock = some q → w.heap.size ≤ q := fun q hq => ownBlock_ge h2 hq
  have k1 : Kt [ty, e] W w1 := (Kt.frm hf).grown hg (fun q hq => by
    obtain ⟨c, hc⟩ := ownBlock_type h2 hq
    exact ⟨c, e, (0, 0), hf.at hc (by simp), by simp⟩)
  have f1 : Frm [] w w1 := (h.fr.trans hf).grown hg (fun q hq => .inr (hge q hq))
  obtain ⟨ao', cp', rfl⟩ := own_shape ho
  refine ⟨⟨f1.setCell _ (.inr h.new) _, h.new, ao', cp', (block_setCell hb o _).trans (by rw [Array.setIfInBounds_setIfInBounds]), ?_⟩, k1.set hb (by simp) _⟩
  refine ownsRow_setCell_other ho (fun e' => ?_) _
  obtain ⟨c, hc⟩ := ownBlock_type ho e'
  rw [hb] at hc; cases hc; exact hne rfl
theorem GO.made {B : Array Value} (hf : Frm [] w W) (hn : w.heap.size ≤ ob) (h : W.heap[ob]? = some (.cells B ty (0, 0))) (hB : B = A.setIfInBounds o (.slice none 0 0)) : GO ty e k w ob o A 0 [] W :=
  ⟨hf, hn, none, 0, by rw [h, hB], World.ownsRow_nil _ _ _ _⟩
theorem GO.kt {T : List TypeId} (h : GO ty e k w ob o A n xs W) (hk : Kt T W W') (hf : Frm [] w W') (h1 : ty ∉ T) (h2 : e ∉ T) : GO ty e k w ob o A n xs W' := by
  obtain ⟨ao, cap, g1, g2⟩ := h.bx
  exact ⟨hf, h.new, ao, cap, hk.cells g1 h1, hk.row g2 h2⟩
theorem Chn.kt {T : List TypeId} {cb : Nat} {cls cap : Int} {L : List ByteArray} {F : List Nat} (h : Chn W cb cls cap L F) (hk : Kt T W W') (h1 : 229 ∉ T) (h2 : 9 ∉ T) : Chn W' cb cls cap L F := by
  obtain ⟨sv, g1, g2, g3, g4⟩ := h
  exact ⟨sv, hk.cells g1 h1, hk.row g2 h2, g3, g4⟩
theorem Kt.mono {T T' : List TypeId} (h : Kt T W W') (hT : ∀ t ∈ T, t ∈ T') : Kt T' W W' := ⟨h.os, h.tape, h.output, h.size, fun k x hk ho => h.at' k x hk fun c t fr e hm => ho c t fr e (hT t hm)⟩
/-- cells of a counter with the value 0; a row of them -/
def cn0 (c : CtrD) : List Value := [.string c.name, .int .i64 c.lim, .int .i64 0]
def cnC (l : List (CtrD × Int)) : List Value := l.flatMap fun c => [.string c.1.name, .int .i64 c.1.lim, .int .i64 c.2]
theorem cnC_length (l : List (CtrD × Int)) : (cnC l).length = l.length * 3 := by
  induction l with
  | nil => rfl
  | cons c l ih => simp only [cnC, List.flatMap_cons, List.length_append, List.length_cons, List.length_nil] at ih ⊢; rw [ih]; omega
theorem cnC_append (A B : List (CtrD × Int)) : cnC (A ++ B) = cnC A ++ cnC B := by unfold cnC; rw [List.flatMap_append]
theorem cnC_at : ∀ {L : List (CtrD × Int)} {i : Nat} {c : CtrD × Int}, L[i]? = some c → (cnC L)[i * 3]? = some (.string c.1.name) ∧ (cnC L)[i * 3 + 1]? = some (.int .i64 c.1.lim) ∧ (cnC L)[i * 3 + 2]? = some (.int .i64 c.2)
  | [], i, c, h => by simp at h
  | a :: L, 0, c, h => by
    simp at h; subst h
    exact ⟨rfl, rfl, rfl⟩
  | a :: L, i + 1, c, h => by
    have h' : L[i]? = some c := by simpa using h
    obtain ⟨h1, h2, h3⟩ := cnC_at h'
    have e : cnC (a :: L) = [.string a.1.name, .int .i64 a.1.lim, .int .i64 a.2] ++ cnC L := rfl
    rw [e]
    refine ⟨?_, ?_, ?_⟩
    · rw [List.getElem?_append_right (by simp; omega), show (i + 1) * 3 - [Value.string a.1.name, .int .i64 a.1.lim, .int .i64 a.2].length = i * 3 by simp; omega]; exact h1
    · rw [List.getElem?_append_right (by simp; omega), show (i + 1) * 3 + 1 - [Value.string a.1.name, .int .i64 a.1.lim, .int .i64 a.2].length = i * 3 + 1 by simp; omega]; exact h2
    · rw [List.getElem?_append_right (by simp; omega), show (i + 1) * 3 + 2 - [Value.string a.1.name, .int .i64 a.1.lim, .int .i64 a.2].length = i * 3 + 2 by simp; omega]; exact h3
theorem cn_arr {base : Nat} {v : Value} {L : List (CtrD × Int)} (h : W.ownsRow base 234 3 v L.length (cnC L)) : Arr 3 CnAt W v L := by
  rcases h.2 with ⟨rfl, hn⟩ | ⟨g, c, cur, rfl, -, hh, -, -, -, ht⟩
  · obtain rfl : L = [] := List.length_eq_zero_iff.1 hn
    exact Arr.nil _ _ _
  · refine ⟨_, _, rfl, fun i x hx => ⟨g, 0, rfl, ?_⟩⟩
    obtain ⟨a0, a1, a2⟩ := cnC_at hx
    have hl := lt_of_some hx
    have hc : ∀ j, j < L.length * 3 → W.cell? ⟨g, j, none⟩ = (cnC L)[j]? := fun j hj => by
      rw [cell_of hh, ← ht, List.getElem?_take_of_lt hj, Array.getElem?_toList]
    rw [Nat.zero_add]
    exact ⟨(hc _ (by omega)).trans a0, (hc _ (by omega)).trans a1, (hc _ (by omega)).trans a2⟩
end
end Go.Proofs.YtkphhjekfimmlaaGreat
namespace Go.Proofs.YtkphhjekfimmlaaGreat
open Go.RowKit Go.BigFrame

/-- definitions of which New makes a bank -/
structure DefsOk (cs : List CtrD) : Prop where
  n : cs.length ≤ 4
  ne : ∀ c ∈ cs, c.name ≠ emptyS
  lo : ∀ c ∈ cs, 1 ≤ c.lim ∧ c.lim ≤ 1000
  un : ∀ (i j : Nat) (a b : CtrD), cs[i]? = some a → cs[j]? = some b → a.name = b.name → i = j
/-- the counters at 0 -/
def zeroC (cs : List CtrD) : List (CtrD × Int) := cs.map fun c => (c, 0)
theorem zeroC_length (cs : List CtrD) : (zeroC cs).length = cs.length := by unfold zeroC; rw [List.length_map]
theorem zeroC_snoc {cs : List CtrD} {i : Nat} {c : CtrD} (h : cs[i]? = some c) : zeroC (cs.take (i + 1)) = zeroC (cs.take i) ++ [(c, 0)] := by
  unfold zeroC
  rw [List.take_add_one, h, List.map_append]; rfl
theorem zero_find {cs : List CtrD} (h : DefsOk cs) {i : Nat} {c : CtrD} (hc : cs[i]? = some c) : cnIx (zeroC (cs.take i)) c.name = -1 := by
  refine ixf_none fun x hx => ?_
  unfold zeroC at hx
  rw [List.mem_map] at hx
  obtain ⟨d, hd, rfl⟩ := hx
  obtain ⟨j, hj⟩ := List.getElem?_of_mem hd
  rw [List.getElem?_take] at hj
  split at hj
  · rename_i hji
    rw [decide_eq_false_iff_not]
    intro e
    have := h.un j i d c hj hc e
    omega
  · cases hj
theorem Tryz.infoCn : (Tryz.prog.info? 234).map (fun i => (i.zero, i.size, i.bytes)) = some (some (.agg #[.string { data := #[] }, .int .i64 0, .int .i64 0]), 3, 32) := by kernel_rfl
/-- what New answers: a bank at block bb, its row in a block of its own -/
def NwTo (w : World) (l : List (CtrD × Int)) (u : Value) (w' : World) : Prop := ∃ bb, u = .tuple #[.pointer (some ⟨bb, 0, none⟩), .int .i64 0] ∧ GO 232 234 3 w bb 1 #[.bool true, undef] l.length (cnC l) w'
theorem GO.bnk {w W : World} {bb : Nat} {l : List (CtrD × Int)} (h : GO 232 234 3 w bb 1 #[.bool true, undef] l.length (cnC l) W) : Bnk W bb l := by
  obtain ⟨ao, cap, h1, h2⟩ := h.bx
  exact ⟨_, h1, cn_arr h2⟩
set_option maxHeartbeats 4000000 in
set_option maxRecDepth 100000 in
theorem bNew_any (v : Value) (cs : List CtrD) (w : World) (h : Arr 2 CtAt w v cs) (hok : DefsOk cs) : Calls Tryz.prog 62 #[v] w (RetV (NwTo w (zeroC cs))) := by
  obtain ⟨ao, cap, rfl, hx⟩ := h
  have HX := Lib.hid hx
  have HOK := Lib.hid hok
  obtain ⟨n, hn⟩ : ∃ n, cs.length = n := ⟨_, rfl⟩
  have HN := Lib.hid hn
  have h4 : ¬ 4 < (n : Int) := by have := hok.n; omega
  rw [hn]
  obtain ⟨W0, hW0⟩ : ∃ W0, w.alloc (.cells #[.bool true, .slice none 0 0] 232) = W0 := ⟨_, rfl⟩
  have HG0 : Hid (GO 232 234 3 w w.heap.size 1 #[.bool true, undef] 0 (cnC (zeroC (cs.take 0))) W0) := Lib.hid (GO.made (by rw [← hW0]; exact (Frm.refl _ _).alloc _) (Nat.le_refl _) (by rw [← hW0]; exact heap_alloc_new _ _) rfl)
  have HE := Lib.hid hW0
  clear hx hok hn hW0
  go_enter Tryz.func62, Tryz.ntmps62
  go_wp2
  rw [HE.out]
  clear HE h4
  go_loopw [14] (fun s14 wl => ∃ i : Nat, s14 = .int .i64 i ∧ i ≤ n ∧ GO 232 234 3 w w.heap.size 1 #[.bool true, undef] i (cnC (zeroC (cs.take i))) wl) (fun s14 _ => n - (intOf s14).toNat)
  case atStart => exact ⟨0, rfl, Nat.zero_le _, HG0.out⟩
  case round =>
    obtain ⟨i, rfl, hi, hg⟩ := hrel
    have HG := Lib.hid hg
    clear HG0 hg
    by_cases hlt : i < n
    · have hlt' : (i : Int) < (n : Int) := by omega
      obtain ⟨c, hc⟩ : ∃ c, cs[i]? = some c := ⟨_, List.getElem?_eq_getElem (by rw [HN.out]; exact hlt)⟩
      have hmem := List.mem_of_getElem? hc
      obtain ⟨b, o, rfl, c0, c1⟩ := HX.out i c hc
      replace c0 := HG.out.fr.keep c0
      replace c1 := HG.out.fr.keep c1
      have hemp : c.name.toList.isEmpty = false := emp_no (HOK.out.ne c hmem)
      obtain ⟨l1, l2⟩ := HOK.out.lo c hmem
      have l1' : ¬ c.lim < 1 := by omega
      have l2' : ¬ 1000 < c.lim := by omega
      have hti : (zeroC (cs.take i)).length = i := by rw [zeroC_length, List.length_take]; have := lt_of_some hc; omega
      have CF : Hid (∀ V, Frm [] wr V → Calls Tryz.prog 123 #[.pointer (some ⟨w.heap.size, 0, none⟩), .string c.name] V (Ret (.int .i64 (-1)) (Frm [] V))) := Lib.hid fun V hV => by
        have hb : Bnk V w.heap.size (zeroC (cs.take i)) := GO.bnk (by rw [hti]; exact HG.out.frm hV)
        have := bFind_any w.heap.size _ c.name V hb (by rw [hti]; have := HN.out; have := HOK.out.n; omega)
        rwa [zero_find HOK.out hc] at this
      have HSN := Lib.hid (zeroC_snoc hc)
      have HTI := Lib.hid hti
      clear hc hmem l1 l2 hti
      obtain ⟨i0, hi0, hz0, hz1, hz2⟩ := info_parts Tryz.infoCn
      have HBX : Hid ((wr.alloc (.cells #[.string c.name, .int .i64 c.lim] 182)).heap[wr.heap.size]? = some (.cells #[.string c.name, .int .i64 c.lim] 182 (0, 0))) := Lib.hid (heap_alloc_new _ _)
      go_upto_region 9 with (first
        | (go_at_call 123; go_must (refine (CF.out _ ((Frm.refl [] wr).alloc _)).mono ?_; rintro e w2 ⟨rfl, hf2⟩; have HF2 : Hid (Frm [] wr w2) := Lib.hid (((Frm.refl [] wr).alloc _).trans hf2); have HB2 := Lib.hid (hf2.at HBX.out (by simp)); clear hf2)))
      clear c0 c1 l1' l2' hemp CF HBX
      have HG2 := Lib.hid (HG.out.frm HF2.out)
      obtain ⟨ab, cb, hb1, hb2⟩ := HG2.out.bx
      have hb1' : w2.heap[w.heap.size]? = some (.cells #[.bool true, .slice ab i cb] 232 (0, 0)) := hb1
      have HB1 := Lib.hid hb1; have HO1 := Lib.hid hb2
      have cx := cell_of hb1' 1
      have fx := free_of hb1' 1
      have cy0 := cell_of HB2.out 0
      have cy1 := cell_of HB2.out 1
      have lx := lt_of_block hb1
      have hi4 : i < 4 := by have := HOK.out.n; have := HN.out; omega
      clear hb1 hb2 hb1'
      generalize hQQ : Exit.inBlock _ _ = QQ
      refine wp_mono (Q := fun e a' w' => match e with | .normal => QQ .normal a' w' | _ => False) ?_ (fun e a' w' h => by cases e <;> first | exact h | exact h.elim)
      go_region_law (first
        | (refine step_append_own_at rfl _ _ 230 rfl w.heap.size 234 i0 (.agg #[.string { data := #[] }, .int .i64 0, .int .i64 0]) 3 32 Tryz.underlying230 hi0 hz0 hz1 hz2 rfl (by decide) (.slice ab i cb) i (cnC (zeroC (cs.take i))) ?_ (((Frm.refl [] w2).drew.alloc _).owns HO1.out (by simp)) ⟨w2.heap.size, 0, none⟩ 1 1 [.string c.name, .int .i64 c.lim, .int .i64 0] ?_ rfl (new_row w2.drew _ _) ?_ ?_ ?_ ?_ ?_; (focus (go_simp; done)); (focus (go_simp; done)); (focus (simp [Value.oneCell']; done)); (focus (unfold maxLen; omega)); (focus omega); (focus (have := HG2.out.fr.size; simp; omega)); intro v' w6 hown' hgrow; obtain ⟨ao6, cp6, rfl⟩ := own_shape hown'; have hs := GO.step HG2.out HB1.out HO1.out (by decide) ((Frm.refl [] w2).drew.alloc _) hgrow hown'; have hbx : w6.heap[w.heap.size]? = some (.cells #[.bool true, .slice ab i cb] 232 (0, 0)) := GO.facts HB1.out HO1.out (by decide) ((Frm.refl [] w2).drew.alloc _) hgrow; have cx6 := cell_of hbx 1; have fx6 := free_of hbx 1; have HS := Lib.hid hs.1; clear hs hbx hown' hgrow))
      all_goals
        subst hQQ
        go_wp2
        refine ⟨⟨i + 1, congrArg (Value.int .i64) (by omega), hlt, ?_⟩, by simp [intOf]; omega⟩
        rw [HSN.out, cnC_append]
        exact HS.out
    · obtain rfl : i = n := by omega
      have hge : ¬ (i : Int) < (i : Int) := by omega
      have ht : cs.take i = cs := by rw [← HN.out, List.take_length]
      have HT := Lib.hid ht
      clear ht
      go_wp2
      go_ret2
      refine ⟨_, rfl, _, rfl, ?_⟩
      have := HG.out
      rw [HT.out] at this
      rw [zeroC_length, HN.out]
      exact this
end Go.Proofs.YtkphhjekfimmlaaGreat
