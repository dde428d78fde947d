/- Running: the list that its iterator hands out. -/
import Derived.Test.YtdhkcjjcgpkkgaaKeysB
import Derived.Test.YtdhkcjjcgpkkgaaRunIter
import Derived.Test.YtdhkcjjcgpkkgaaMeth
namespace Go.Proofs.Ytdhkcjjcgpkkgaa
open Go.RowKit Go.Maps

/-- the entries of the running timers -/
def entsOf (D : DMap) (l : List Int) : List (Int × Int) := l.map fun t => ((D t).getD 0, t)
/-- behind k rounds -/
def RI (w w3 : World) (bx : Nat) (D : DMap) (k : Nat) (wr : World) : Prop :=
  ∃ sv, wr.heap[bx]? = some (.cells #[sv] 25 (0, 0)) ∧ wr.ownsRow 0 70 2 sv k (encL (entsOf D ((keysOf D).take k))) ∧ (∀ j, sv.ownBlock = some j → w3.heap.size ≤ j) ∧ Frm [bx] w3 wr ∧ Frm [] w wr
/-- what Running hands back -/
def RunTo (D : DMap) (w : World) (v : Value) (w' : World) : Prop :=
  ∃ bx sv, v = .func (.func 36) #[] #[.pointer (some ⟨bx, 0, none⟩)] ∧ RunR bx sv (entsOf D (keysOf D)) w' ∧ Frm [] w w' ∧ w.heap.size ≤ bx ∧ (∀ j, sv.ownBlock = some j → w.heap.size ≤ j)
theorem RI.next {w w3 wr W1 w1 : World} {bx k g cap : Nat} {D : DMap} {sv : Value} {t d : Int} (hW : Frm [] wr W1) (h1 : wr.heap[bx]? = some (.cells #[sv] 25 (0, 0))) (h3 : ∀ j, sv.ownBlock = some j → w3.heap.size ≤ j) (h4 : Frm [bx] w3 wr) (h5 : Frm [] w wr) (hw : w.heap.size ≤ bx) (_ : w.heap.size ≤ w3.heap.size) (hb3 : bx < w3.heap.size)
    (ht : (keysOf D)[k]? = some t) (hd : D t = some d)
    (hown1 : w1.ownsRow 0 70 2 (.slice (some ⟨g, 0, none⟩) (k + 1) cap) (k + 1) (encL (entsOf D ((keysOf D).take k)) ++ [.int .i64 d, .int .i64 t])) (hgrow : W1.grownBy w1 sv.ownBlock) (hat : sv.ownBlock = some g ∨ g = wr.heap.size + 1) :
    RI w w3 bx D (k + 1) (w1.setCell ⟨bx, 0, none⟩ (.slice (some ⟨g, 0, none⟩) (k + 1) cap)) := by
  have hlt := lt_of_block h1
  have hs4 := h4.size
  have hg3 : w3.heap.size ≤ g := by
    rcases hat with h | h
    · exact h3 g h
    · omega
  have hbx : W1.heap[bx]? = some (.cells #[sv] 25 (0, 0)) := hW.at h1 (by simp)
  have hne : sv.ownBlock ≠ some bx := fun e => by have := h3 _ e; omega
  have h1' := grown_at hgrow hbx hne
  have hf1 : Frm sv.ownBlock.toList wr w1 := (hW.mono (by simp)).grown hgrow (fun j e => .inl (by simp [e]))
  refine ⟨_, block_setCell h1' 0 _, ?_, fun j hj => ?_, ?_, ?_⟩
  · have : encL (entsOf D ((keysOf D).take (k + 1))) = encL (entsOf D ((keysOf D).take k)) ++ [.int .i64 d, .int .i64 t] := by
      rw [(take_snoc' ht).1]
      simp only [entsOf, List.map_append, List.map_cons, List.map_nil, encL_append, hd, Option.getD_some]
      rfl
    rw [this]
    exact ownsRow_setCell_other hown1 (by simp [Value.ownBlock]; omega) _
  · simp [Value.ownBlock] at hj; subst hj; exact hg3
  · refine (h4.then hf1 (fun x hx => ?_)).setCell _ (.inl (by simp)) _
    simp at hx; exact .inr (h3 x hx)
  · refine (h5.then hf1 (fun x hx => ?_)).setCell _ (.inr hw) _
    simp at hx; have := h3 x hx; right; omega
set_option maxHeartbeats 1000000 in
set_option maxRecDepth 100000 in
theorem running_any (cb : Nat) (now : Int) (D : DMap) (N : Nat) (F : List Nat) (w : World) (h : Clk w cb now D N F) :
    Calls Try.prog 17 #[.pointer (some ⟨cb, 0, none⟩)] w (RetV (RunTo D w)) := by
  have HG := Lib.hid h.good
  obtain ⟨mb, sv0, L, hp, -, -, -, -, hm, -, -⟩ := h
  have c1 : w.cell? ⟨cb, 1, none⟩ = some (.map mb) := cell_of hp.1 1
  have HP := Lib.hid hp; have HM := Lib.hid hm
  have HLK : Hid (∀ w' (t d : Int), Frm [] w w' → D t = some d → w'.cell? ⟨cb, 1, none⟩ = some (.map mb) ∧ (Instr.lookup 24 (.map mb) (.int .i64 t) false).run Try.prog w' = .ok (.int .i64 d) w') := by
    intro w' t d hf hd
    have hb := HG.out.2.2 t d hd
    refine ⟨hf.keep c1, ?_⟩
    rw [(HM.out.frm hf (by simp)).look Try.key3 Try.underlying24 (Try.zero3 _) (key_i64 (t := t) (by omega) (by omega))]
    simp [fInt, hd]
  have hX : Frm [] w (w.alloc (.cells #[.slice none 0 0] 25)) := (Frm.refl _ _).alloc _
  have c1' := hX.keep c1
  have cK := keys_any mb (w.alloc (.cells #[.slice none 0 0] 25))
  have cS := sorted_any mb N now D (w.alloc (.cells #[.slice none 0 0] 25)) HG.out (HM.out.frm hX (by simp))
  rw [World.size_alloc] at cK cS
  have CK := Lib.hid cK; have CS := Lib.hid cS
  have HBX : Hid ((w.alloc (.cells #[.slice none 0 0] 25)).heap[w.heap.size]? = some (.cells #[.slice none 0 0] 25 (0, 0))) := Lib.hid (heap_alloc_new _ _)
  clear cK cS hX hp hm
  go_enter Try.func17, Try.ntmps17
  go_wp2_with (first
    | (go_at_call 35; go_must (refine CK.out.mono ?_; rintro e w' ⟨rfl, rfl⟩))
    | (go_at_call 34; go_must (refine CS.out.mono ?_; rintro e w3 ⟨v, rfl, hk⟩; obtain ⟨ao, cap, rfl, hsrc⟩ := hk.1.shape; have HK := Lib.hid hk; have HSRC := Lib.hid hsrc; clear hk hsrc)))
  have HBX3 : Hid (w3.heap[w.heap.size]? = some (.cells #[.slice none 0 0] 25 (0, 0))) := Lib.hid (HK.out.2.at HBX.out (by simp))
  have HW3 : Hid (Frm [] w w3) := Lib.hid (((Frm.refl [] w).alloc _).trans HK.out.2)
  have HLT : Hid (w.heap.size < w3.heap.size) := Lib.hid (lt_of_block HBX3.out)
  obtain ⟨m, hm⟩ : ∃ m, (keysOf D).length = m := ⟨_, rfl⟩
  have hkl : m ≤ 256 := by rw [← hm, show keysOf D = keysK D 256 from rfl, keysK_length]; exact cntK_le D 256
  have HSH := Lib.hid HK.out.1
  have HM := Lib.hid hm
  simp only [hm]
  clear c1 c1' HP CK CS hm
  go_loopw [15] (fun s15 wr => ∃ k : Nat, s15 = .int .i64 k ∧ k ≤ m ∧ RI w w3 w.heap.size D k wr) (fun s15 _ => m - (RowKit.intOf s15).toNat)
  case atStart => exact ⟨0, rfl, Nat.zero_le _, .slice none 0 0, HBX3.out, World.ownsRow_nil _ _ _ _, by simp [Value.ownBlock], Frm.refl _ _, HW3.out⟩
  case round =>
    obtain ⟨k, rfl, hk, hri⟩ := hrel
    by_cases hkl2 : k < m
    · obtain ⟨t, ht⟩ : ∃ t, (keysOf D)[k]? = some t := ⟨_, List.getElem?_eq_getElem (by rw [HM.out]; exact hkl2)⟩
      have hmem := (keysOf_mem HG.out t).1 (List.mem_of_getElem? ht)
      obtain ⟨d, hd⟩ := Option.isSome_iff_exists.1 hmem
      obtain ⟨g, rfl, gx⟩ := HSRC.out k t ht
      obtain ⟨sv, r1, r2, r3, r4, r5⟩ := hri
      have hgb : g ≠ w.heap.size := by
        rintro rfl
        obtain ⟨c, hc⟩ := ownBlock_type HSH.out rfl
        rw [HBX3.out] at hc; cases hc
      have cg := r4.cellAt gx (by simpa using hgb)
      have HR1 := Lib.hid r1; have HR2 := Lib.hid r2; have HR3 := Lib.hid r3; have HR4 := Lib.hid r4; have HR5 := Lib.hid r5
      have HT := Lib.hid ht; have HDD := Lib.hid hd
      have hkk : (k : Int) < (m : Int) := by omega
      have hk0 : (0 : Int) ≤ (k : Int) := by omega
      have cb0 := cell_of r1 0
      have fb0 := free_of r1 0
      have hds := HG.out.2.2 t d hd
      have hsb : Hid (sv.ownBlock ≠ some w.heap.size) := Lib.hid (fun e => by have := r3 _ e; have := HLT.out; omega)
      have HOWN : Hid (∀ w', Frm [] wr w' → w'.ownsRow 0 70 2 sv k (encL (entsOf D ((keysOf D).take k)))) := Lib.hid fun w' hf => hf.owns r2 (by simp)
      have hlk : (encL (entsOf D ((keysOf D).take k))).length = k * 2 := by rw [encL_length, entsOf, List.length_map, List.length_take, Nat.min_eq_left (by rw [HM.out]; exact hk)]
      have HBW := Lib.hid r1
      have hsw : Hid (∀ x, sv.ownBlock = some x → w.heap.size ≤ x) := Lib.hid fun x hx => by have := r3 x hx; have := HLT.out; omega
      clear r1 r2 r3 r4 r5 ht hd hmem gx hgb hds
      obtain ⟨i0, hi0, hz0, hz1, hz2⟩ := info_parts Try.info70
      go_upto_region 6 with (fail)
      have hl0 := HLK.out wr t d HR5.out HDD.out
      have cm0 := hl0.1
      have lk0 := hl0.2
      have lk1 := (HLK.out wr.drew t d HR5.out.drew HDD.out).2
      have HOR : Hid (wr.ownsRow 0 70 2 sv k (encL (entsOf D ((keysOf D).take k)))) := Lib.hid (HOWN.out _ (Frm.refl _ _))
      clear hl0
      have cbA := ((Frm.refl [] wr).alloc (.cells #[.int .i64 d, .int .i64 t] 70)).keep cb0
      go_region_law (first | (refine step_append_lies _ (by rfl) _ _ _ (by rfl) 0 70 i0 _ 2 16 Try.underlying25 hi0 hz0 hz1 hz2 rfl (by omega) sv k (encL (entsOf D ((keysOf D).take k))) (by rfl) ?_ ⟨wr.heap.size, 0, none⟩ 1 1 [.int .i64 d, .int .i64 t] (by rfl) (by rfl) ?_ (by simp [Value.oneCell']) (by omega) (by unfold maxLen; omega) (by omega) (by simp) (wr.heap.size + 1) ?_ ?_; (exact (HOR.out.alloc _).drew); (exact World.news_of_block (heap_alloc_new _ _)); simp; intro g' cap' w1 hown1 hgrow hat hlt; have hc1 := grown_at hgrow (((Frm.refl [] wr).alloc (.cells #[.int .i64 d, .int .i64 t] 70)).drew.at HBW.out (by simp)) hsb.out; have hbc := cell_of hc1 0; have hbf := free_of hc1 0))
      all_goals
        have HN6 := Lib.hid (RI.next ((Frm.refl [] wr).alloc _).drew HBW.out HR3.out HR4.out HR5.out (Nat.le_refl _) (Nat.le_of_lt HLT.out) HLT.out HT.out HDD.out hown1 hgrow hat)
        clear hown1 hgrow hat hc1 hbc hbf HOR cbA lk0 lk1 cm0 HOWN HLK cb0 fb0 HBW HR1 HR2 HR3 HR4 HR5 HT HDD hlk HSH hsb hsw HBX3 HW3
        generalize World.setCell _ _ _ = wz at HN6 ⊢
        go_wp2_with fail
        exact ⟨⟨k + 1, by simp, hkl2, HN6.out⟩, by simp [RowKit.intOf]; omega⟩
    · have hkl3 : k = m := by omega
      subst hkl3
      obtain ⟨sv, r1, r2, r3, r4, r5⟩ := hri
      rw [← HM.out, List.take_length] at r2
      have HR1 := Lib.hid r1; have HR2 := Lib.hid r2; have HR3 := Lib.hid r3; have HR5 := Lib.hid r5
      clear r1 r2 r3 r4 r5
      go_wp2
      go_ret
      exact ⟨_, rfl, w.heap.size, sv, rfl, ⟨HR1.out, by rw [show (entsOf D (keysOf D)).length = (keysOf D).length by rw [entsOf, List.length_map]]; exact HR2.out⟩, HR5.out, Nat.le_refl _, fun j hj => Nat.le_trans (Nat.le_of_lt HLT.out) (HR3.out j hj)⟩
end Go.Proofs.Ytdhkcjjcgpkkgaa
