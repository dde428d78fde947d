/- The reference, third part: Insert, Remove, New. -/
import Derived.Test.YtefpfcheafbfdaaRefB
namespace Go.Proofs.Ytefpfcheafbfdaa
open Go.RowKit Go.Maps Go.BigFrame

theorem bytesLess_eq' : ∀ (x y : List UInt8), Op.bytesLess x y = decide (x < y)
  | [], [] => by simp [Op.bytesLess]
  | _ :: _, [] => by simp [Op.bytesLess]
  | [], _ :: _ => by simp [Op.bytesLess]
  | a :: x, b :: y => by
    rw [Op.bytesLess, bytesLess_eq' x y]
    simp only [List.cons_lt_cons_iff]
    by_cases h1 : a < b <;> by_cases h2 : a = b <;> by_cases h3 : x < y <;> simp [h1, h2, h3]
theorem txt_list (x : Wd) : (txt x).toList = x := by
  rw [ByteArray.toList_eq]; simp [txt]
theorem str_lt (x b : Wd) : Op.bytesLess (txt x).toList (txt b).toList = ltB b x := by
  rw [txt_list, txt_list, bytesLess_eq']; rfl
theorem step_app_txts {ops : Array Oper} {o : Oper} {a : Act} {w : World} {K : Act → World → Prop} {Q : Exit → Act → World → Prop} {E : Prop} (hgd : o.guard = none) (s x : Operand) (ho : o.op = .call { callee := .builtin .append, args := #[s, x], argTypes := #[30, 30] })
    (base : Nat) (v sv : Value) (hs : a.eval s = v) (hx : a.eval x = sv) (xs l : List Wd) (n m : Nat) (hn1 : xs.length = n) (hm1 : (xs ++ l).length = m) (hown : w.ownsRow base 9 1 v n (xs.map st)) (hsrc : Txts w sv l) (hn : n + l.length ≤ 4000000) (hb : base ≤ w.heap.size)
    (h : ∀ ao cp w', w'.ownsRow base 9 1 (.slice ao m cp) m ((xs ++ l).map st) → w.grownBy w' v.ownBlock → K (a.put o.dst (.slice ao m cp)) w') : if Region.wanted o (yielded ops a.tmps) = true then Oper.wp Try.prog o a w K Q else E := by
  have hw : Region.wanted o (yielded ops a.tmps) = true := by simp [Region.wanted, hgd]
  rw [if_pos hw]
  subst hn1 hm1
  obtain ⟨v', w', hrun, r1, r2⟩ := app_txts (ty := o.type) hown hsrc hn hb
  obtain ⟨ao', cp, rfl⟩ := own_shape r1
  unfold Oper.wp
  simp [execOp, ho, resolve, invoke, builtin, hs, hx, hrun, Result.andThen]
  have hk := h ao' cp w' r1 r2
  rw [List.length_append] at hk
  exact hk
theorem own_none {w : World} {base g : Nat} (hg : base ≤ g) (h : w.heap[g]? = some (.cells #[] 9 (0, 0))) : w.ownsRow base 9 1 (.slice (some ⟨g, 0, none⟩) 0 0) 0 (([] : List Wd).map st) :=
  ⟨rfl, .inr ⟨g, 0, #[], rfl, hg, h, Nat.le_refl _, Nat.zero_le _, rfl, rfl⟩⟩
/-- where the first word not less than b lies -/
theorem tw_at {L : List Wd} {b : Wd} {k : Nat} (h1 : (L.take k).all (ltB b) = true) (h2 : ∀ x, L[k]? = some x → ltB b x = false) : L.takeWhile (ltB b) = L.take k ∧ L.dropWhile (ltB b) = L.drop k := by
  induction L generalizing k with
  | nil => simp
  | cons a L ih =>
    cases k with
    | zero =>
      have := h2 a rfl
      rw [List.takeWhile_cons_of_neg (by rw [this]; simp), List.dropWhile_cons_of_neg (by rw [this]; simp)]
      exact ⟨rfl, rfl⟩
    | succ k =>
      rw [List.take_succ_cons, List.all_cons, Bool.and_eq_true] at h1
      obtain ⟨e1, e2⟩ := ih h1.2 (fun x hx => h2 x hx)
      rw [List.takeWhile_cons_of_pos h1.1, List.dropWhile_cons_of_pos h1.1, e1, e2]
      exact ⟨rfl, rfl⟩
/-- what a function of the reference answers: the list behind it, and an error -/
def RfTo (w : World) (L' : List Wd) (e : Int) (v : Value) (w' : World) : Prop := ∃ v0, v = .tuple #[v0, .int .i64 e] ∧ Txts w' v0 L' ∧ Frm [] w w'
/-- the same, and the list's block is the elder one or a new one -/
def RfOwn (w : World) (lv : Value) (L' : List Wd) (e : Int) (v : Value) (w' : World) : Prop := ∃ v0, v = .tuple #[v0, .int .i64 e] ∧ Txts w' v0 L' ∧ Frm [] w w' ∧ ∀ k, v0.ownBlock = some k → lv.ownBlock = some k ∨ w.heap.size ≤ k
theorem RfOwn.to {w w' : World} {lv : Value} {L' : List Wd} {e : Int} {v : Value} (h : RfOwn w lv L' e v w') : RfTo w L' e v w' := by
  obtain ⟨v0, h1, h2, h3, -⟩ := h
  exact ⟨v0, h1, h2, h3⟩
section
variable {w : World} {lv : Value} {L : List Wd}
set_option maxHeartbeats 4000000 in
set_option maxRecDepth 100000 in
theorem rins_own (h : Txts w lv L) (hn : L.length ≤ 1000) (b : Wd) (hb : b.length ≤ 1000000) : Calls Try.prog 21 #[lv, .string (txt b)] w (RetV (RfOwn w lv (insA L b) (insEL L b))) := by
  have HT := Lib.hid h
  have CH := Lib.hid (rhas_any h (by omega) b)
  obtain ⟨ao, cap, rfl, hcap, hcs⟩ := h
  have HC := Lib.hid hcs
  have hsz := txt_size b
  obtain ⟨nb, hnb⟩ : ∃ nb, b.length = nb := ⟨_, rfl⟩
  rw [hnb] at hsz hb
  by_cases h1 : 64 < nb
  · have h1' : (64 : Int) < (nb : Int) := by omega
    have he : insEL L b = 5 := by unfold insEL; rw [if_pos (by omega)]
    have hl : insA L b = L := by unfold insA; rw [if_neg (by rw [he]; decide)]
    rw [he, hl]
    clear hcs hnb he hl
    go_enter Try.func21, Try.ntmps21
    go_wp2
    go_ret2
    exact ⟨_, rfl, _, rfl, HT.out, Frm.refl _ _, fun _ h => .inl h⟩
  · have h1' : ¬ (64 : Int) < (nb : Int) := by omega
    cases h2 : memB L b with
    | true =>
      have he : insEL L b = 11 := by unfold insEL; rw [if_neg (by omega), if_pos (memB_iff.1 h2)]
      have hl : insA L b = L := by unfold insA; rw [if_neg (by rw [he]; decide)]
      rw [he, hl]
      rw [h2] at CH
      clear hcs hnb he hl h2
      go_enter Try.func21, Try.ntmps21
      go_wp2_with (go_at_call 42; go_must (refine CH.out.mono ?_; clear CH; rintro e w' ⟨rfl, rfl⟩))
      go_ret2
      exact ⟨_, rfl, _, rfl, HT.out, Frm.refl _ _, fun _ h => .inl h⟩
    | false =>
      have hnm : b ∉ L := fun e => by rw [memB_iff.2 e] at h2; cases h2
      rw [h2] at CH
      obtain ⟨n, hnn⟩ : ∃ n, L.length = n := ⟨_, rfl⟩
      have HN := Lib.hid hnn
      by_cases h3 : n = 1000
      · have he : insEL L b = 7 := by unfold insEL; rw [if_neg (by omega), if_neg hnm, if_pos (by omega)]
        have hl : insA L b = L := by unfold insA; rw [if_neg (by rw [he]; decide)]
        rw [he, hl]
        have h3' : ¬ (n : Int) < 1000 := by omega
        rw [hnn] at CH hcap ⊢
        have HT2 : Hid (Txts w (.slice ao n cap) L) := Lib.hid (by rw [← hnn]; exact HT.out)
        clear hcs hnb he hl h2 hnm HT h3
        go_enter Try.func21, Try.ntmps21
        go_wp2_with (go_at_call 42; go_must (refine CH.out.mono ?_; clear CH; rintro e w' ⟨rfl, rfl⟩))
        go_ret2
        exact ⟨_, rfl, _, rfl, HT2.out, Frm.refl _ _, fun _ h => .inl h⟩
      · have he : insEL L b = 0 := by unfold insEL; rw [if_neg (by omega), if_neg hnm, if_neg (by omega)]
        have hl : insA L b = L.takeWhile (ltB b) ++ b :: L.dropWhile (ltB b) := by unfold insA; rw [if_pos he]; rfl
        rw [he, hl]
        have h3' : (n : Int) < 1000 := by omega
        rw [hnn] at CH hcap hn ⊢
        have HT2 : Hid (Txts w (.slice ao n cap) L) := Lib.hid (by rw [← hnn]; exact HT.out)
        clear hcs hnb he hl h2 hnm HT hnn
        go_enter Try.func21, Try.ntmps21
        go_wp2_with (go_at_call 42; go_must (refine CH.out.mono ?_; clear CH; rintro e w' ⟨rfl, rfl⟩))
        go_loopw [6] (fun s6 wr => ∃ k : Nat, s6 = .int .i64 k ∧ k ≤ n ∧ (L.take k).all (ltB b) = true ∧ w = wr) (fun s6 _ => n - (intOf s6).toNat)
        case atStart => exact ⟨0, rfl, Nat.zero_le _, rfl, rfl⟩
        case round =>
          obtain ⟨k, rfl, hk, hall, rfl⟩ := hrel
          have HAL := Lib.hid hall
          by_cases hlt : k < n
          · have hlt' : (k : Int) < (n : Int) := by omega
            obtain ⟨x, hx⟩ : ∃ x, L[k]? = some x := ⟨_, List.getElem?_eq_getElem (by rw [HN.out]; exact hlt)⟩
            obtain ⟨g, o, rfl, cx⟩ := HC.out k x hx
            unfold st at cx
            have hlt0 := str_lt x b
            have hd := take_snoc hx
            cases hl : ltB b x with
            | true =>
              rw [hl] at hlt0
              have hall2 : (L.take (k + 1)).all (ltB b) = true := by rw [hd, List.all_append, hall]; simp [hl]
              have HAL2 := Lib.hid hall2
              clear hall hall2 hx hd hl
              go_wp2
              exact ⟨⟨k + 1, by simp, hlt, HAL2.out, trivial⟩, by simp [intOf]; omega⟩
            | false =>
              rw [hl] at hlt0
              have htw := tw_at hall (fun y hy => by rw [hx] at hy; cases hy; exact hl)
              have HTW := Lib.hid htw
              clear hall hx hd hl htw
              go_wp2
              clear hlt0 cx
              have hk' : (k : Int) ≤ (n : Int) := by omega
              obtain ⟨v1, hr1, ht1, ⟨a1, c1, rfl⟩, hb1⟩ := HT2.out.cutH (hi := (k : Int)) (j := k) rfl (by rw [HN.out]; omega)
              obtain ⟨v2, hr2, ht2, ⟨a2, c2, rfl⟩, hb2⟩ := HT2.out.cutL (lo := (k : Int)) (i := k) rfl (by rw [HN.out]; omega)
              have hl1 : (L.take k).length = k := by rw [List.length_take, HN.out]; omega
              have hl2 : (L.drop k).length = n - k := by rw [List.length_drop, HN.out]
              rw [hl1] at hr1 ht1
              rw [hl2] at hr2 ht2
              obtain ⟨m, hm⟩ : ∃ m, n - k = m := ⟨_, rfl⟩
              rw [hm] at hr2 ht2 hl2
              have HL1 := Lib.hid hl1; have HL2 := Lib.hid hl2; have H1 := Lib.hid ht1; have H2 := Lib.hid ht2
              have HBN : Hid (∀ W base, W.heap[base]? = some (.cells #[st b] 9 (0, 0)) → Txts W (.slice (some ⟨base, 0, none⟩) 1 1) [b]) := Lib.hid fun W base hW => ⟨_, _, rfl, Nat.le_refl _, fun j x hj => by
                match j, hj with
                | 0, hj => cases hj; exact ⟨base, 0, rfl, by rw [cell_of hW]; rfl⟩
                | j + 1, hj => simp at hj⟩
              unfold st at HBN
              have hmn : m ≤ 1000 := by omega
              have HB3 : Hid (k + (L.drop k).length ≤ 1000) := Lib.hid (by rw [hl2]; omega)
              clear hb1 hb2 hl1 hl2 ht1 ht2 hm
              go_region_held3 (fun _ => True) (exact trivial)
                (first
                  | (refine step_app_txts (w := (w.alloc (.cells #[] 9)).drew) rfl (.tmp 33) (.tmp 36) rfl w.heap.size (.slice (some ⟨w.heap.size, 0, none⟩) 0 0) (.slice a1 k c1) ?_ ?_ [] (L.take k) 0 k rfl HL1.out (own_none (Nat.le_refl _) (show (w.alloc (.cells #[] 9)).heap[w.heap.size]? = _ from alloc_top rfl)) (H1.out.frm0 ((Frm.refl [] w).alloc _).drew) ?_ ?_ ?_; (focus (go_simp; done)); (focus (go_simp; done)); (focus (rw [HL1.out]; omega)); (focus (simp)); intro ao4 cp4 w4 hown hgrow; rw [List.nil_append] at hown; have O4 := Lib.hid hown; have F4 : Hid (Frm [] w w4) := Lib.hid (((Frm.refl [] w).alloc _).drew.grown hgrow (fun k hk => .inr (by cases hk; exact Nat.le_refl _))); clear hown hgrow)
                  | (refine step_app_txts (w := ((w.alloc (.cells #[] 9)).alloc (.cells #[.string (txt b)] 9)).drew) rfl (.tmp 33) (.tmp 36) rfl w.heap.size (.slice (some ⟨w.heap.size, 0, none⟩) 0 0) (.slice a1 k c1) ?_ ?_ [] (L.take k) 0 k rfl HL1.out (own_none (Nat.le_refl _) (show ((w.alloc (.cells #[] 9)).alloc (.cells #[.string (txt b)] 9)).heap[w.heap.size]? = _ from alloc_at (alloc_top rfl))) (H1.out.frm0 (((Frm.refl [] w).alloc _).alloc _).drew) ?_ ?_ ?_; (focus (go_simp; done)); (focus (go_simp; done)); (focus (rw [HL1.out]; omega)); (focus (simp; omega)); intro ao4 cp4 w4 hown hgrow; rw [List.nil_append] at hown; have O4 := Lib.hid hown; have F4 : Hid (Frm [] w w4) := Lib.hid ((((Frm.refl [] w).alloc _).alloc _).drew.grown hgrow (fun k hk => .inr (by cases hk; exact Nat.le_refl _))); have LBb := Lib.hid (HBN.out w4 (w.heap.size + 1) (grown_at hgrow (show ((w.alloc (.cells #[] 9)).alloc (.cells #[.string (txt b)] 9)).heap[w.heap.size + 1]? = _ from alloc_top (by simp)) (by simp [Value.ownBlock]))); clear hown hgrow)
                  | (refine step_app_txts (w := ((w.alloc (.cells #[.string (txt b)] 9)).alloc (.cells #[] 9)).drew) rfl (.tmp 33) (.tmp 36) rfl w.heap.size (.slice (some ⟨w.heap.size + 1, 0, none⟩) 0 0) (.slice a1 k c1) ?_ ?_ [] (L.take k) 0 k rfl HL1.out (own_none (Nat.le_succ _) (show ((w.alloc (.cells #[.string (txt b)] 9)).alloc (.cells #[] 9)).heap[w.heap.size + 1]? = _ from alloc_top (by simp))) (H1.out.frm0 (((Frm.refl [] w).alloc _).alloc _).drew) ?_ ?_ ?_; (focus (go_simp; done)); (focus (go_simp; done)); (focus (rw [HL1.out]; omega)); (focus (simp; omega)); intro ao4 cp4 w4 hown hgrow; rw [List.nil_append] at hown; have O4 := Lib.hid hown; have F4 : Hid (Frm [] w w4) := Lib.hid ((((Frm.refl [] w).alloc _).alloc _).drew.grown hgrow (fun k hk => .inr (by cases hk; exact Nat.le_succ _))); have LBc := Lib.hid (HBN.out w4 w.heap.size (grown_at hgrow (show ((w.alloc (.cells #[.string (txt b)] 9)).alloc (.cells #[] 9)).heap[w.heap.size]? = _ from alloc_at (alloc_top rfl)) (by simp [Value.ownBlock]))); clear hown hgrow)
                  | (refine step_app_txts (w := w4.alloc (.cells #[.string (txt b)] 9)) rfl (.tmp 37) (.tmp 39) rfl w.heap.size (.slice ao4 k cp4) (.slice (some ⟨w4.heap.size, 0, none⟩) 1 1) ?_ ?_ (L.take k) [b] k (k + 1) HL1.out (by simp [HL1.out]) (((Frm.refl [] w4).alloc _).owns O4.out (by simp)) (HBN.out _ _ (alloc_top rfl)) ?_ ?_ ?_; (focus (go_simp; done)); (focus (go_simp; done)); (focus (simp; omega)); (focus (have := F4.out.size; simp; omega)); intro ao5 cp5 w5 hown hgrow; have O5 := Lib.hid hown; have F5 : Hid (Frm [] w w5) := Lib.hid ((F4.out.alloc _).grown hgrow (fun k hk => .inr (ownBlock_ge O4.out hk))); clear hown hgrow)
                  | (refine step_app_txts (w := w4) rfl (.tmp 37) (.tmp 39) rfl w.heap.size (.slice ao4 k cp4) (.slice (some ⟨w.heap.size + 1, 0, none⟩) 1 1) ?_ ?_ (L.take k) [b] k (k + 1) HL1.out (by simp [HL1.out]) O4.out LBb.out ?_ ?_ ?_; (focus (go_simp; done)); (focus (go_simp; done)); (focus (simp; omega)); (focus (have := F4.out.size; omega)); intro ao5 cp5 w5 hown hgrow; have O5 := Lib.hid hown; have F5 : Hid (Frm [] w w5) := Lib.hid (F4.out.grown hgrow (fun k hk => .inr (ownBlock_ge O4.out hk))); clear hown hgrow)
                  | (refine step_app_txts (w := w4) rfl (.tmp 37) (.tmp 39) rfl w.heap.size (.slice ao4 k cp4) (.slice (some ⟨w.heap.size, 0, none⟩) 1 1) ?_ ?_ (L.take k) [b] k (k + 1) HL1.out (by simp [HL1.out]) O4.out LBc.out ?_ ?_ ?_; (focus (go_simp; done)); (focus (go_simp; done)); (focus (simp; omega)); (focus (have := F4.out.size; omega)); intro ao5 cp5 w5 hown hgrow; have O5 := Lib.hid hown; have F5 : Hid (Frm [] w w5) := Lib.hid (F4.out.grown hgrow (fun k hk => .inr (ownBlock_ge O4.out hk))); clear hown hgrow)
                  | (refine step_app_txts (w := w5) rfl (.tmp 40) (.tmp 43) rfl w.heap.size (.slice ao5 (k + 1) cp5) (.slice a2 m c2) ?_ ?_ (L.take k ++ [b]) (L.drop k) (k + 1) (k + 1 + m) (by simp [HL1.out]) (by simp [HL1.out, HL2.out]; omega) O5.out (H2.out.frm0 F5.out) ?_ ?_ ?_; (focus (go_simp; done)); (focus (go_simp; done)); (focus (have := HB3.out; omega)); (focus (have := F5.out.size; omega)); intro ao6 cp6 w6 hown hgrow; have O6 := Lib.hid hown; have F6 : Hid (Frm [] w w6) := Lib.hid (F5.out.grown hgrow (fun k hk => .inr (ownBlock_ge O5.out hk))); clear hown hgrow))
              all_goals
                go_wp2
                go_ret2
                refine ⟨_, rfl, _, rfl, ?_, F6.out, fun k hk => .inr (ownBlock_ge O6.out hk)⟩
                have h5 := O6.out
                rw [List.append_assoc, List.singleton_append] at h5
                refine Txts.of_own (base := w.heap.size) ?_
                have h6 : (L.take k ++ b :: L.drop k).length = k + 1 + m := by simp [HL1.out, HL2.out]; omega
                rw [HTW.out.1, HTW.out.2, h6]
                exact h5

          · have hge : ¬ (k : Int) < (n : Int) := by omega
            have htw := tw_at hall (fun y hy => by
              have := lt_of_some hy
              rw [HN.out] at this; omega)
            have HTW := Lib.hid htw
            clear hall htw
            go_wp2
            have hk' : (k : Int) ≤ (n : Int) := by omega
            obtain ⟨v1, hr1, ht1, ⟨a1, c1, rfl⟩, hb1⟩ := HT2.out.cutH (hi := (k : Int)) (j := k) rfl (by rw [HN.out]; omega)
            obtain ⟨v2, hr2, ht2, ⟨a2, c2, rfl⟩, hb2⟩ := HT2.out.cutL (lo := (k : Int)) (i := k) rfl (by rw [HN.out]; omega)
            have hl1 : (L.take k).length = k := by rw [List.length_take, HN.out]; omega
            have hl2 : (L.drop k).length = n - k := by rw [List.length_drop, HN.out]
            rw [hl1] at hr1 ht1
            rw [hl2] at hr2 ht2
            obtain ⟨m, hm⟩ : ∃ m, n - k = m := ⟨_, rfl⟩
            rw [hm] at hr2 ht2 hl2
            have HL1 := Lib.hid hl1; have HL2 := Lib.hid hl2; have H1 := Lib.hid ht1; have H2 := Lib.hid ht2
            have HBN : Hid (∀ W base, W.heap[base]? = some (.cells #[st b] 9 (0, 0)) → Txts W (.slice (some ⟨base, 0, none⟩) 1 1) [b]) := Lib.hid fun W base hW => ⟨_, _, rfl, Nat.le_refl _, fun j x hj => by
              match j, hj with
              | 0, hj => cases hj; exact ⟨base, 0, rfl, by rw [cell_of hW]; rfl⟩
              | j + 1, hj => simp at hj⟩
            unfold st at HBN
            have hmn : m ≤ 1000 := by omega
            have HB3 : Hid (k + (L.drop k).length ≤ 1000) := Lib.hid (by rw [hl2]; omega)
            clear hb1 hb2 hl1 hl2 ht1 ht2 hm
            go_region_held3 (fun _ => True) (exact trivial)
              (first
                | (refine step_app_txts (w := (w.alloc (.cells #[] 9)).drew) rfl (.tmp 33) (.tmp 36) rfl w.heap.size (.slice (some ⟨w.heap.size, 0, none⟩) 0 0) (.slice a1 k c1) ?_ ?_ [] (L.take k) 0 k rfl HL1.out (own_none (Nat.le_refl _) (show (w.alloc (.cells #[] 9)).heap[w.heap.size]? = _ from alloc_top rfl)) (H1.out.frm0 ((Frm.refl [] w).alloc _).drew) ?_ ?_ ?_; (focus (go_simp; done)); (focus (go_simp; done)); (focus (rw [HL1.out]; omega)); (focus (simp)); intro ao4 cp4 w4 hown hgrow; rw [List.nil_append] at hown; have O4 := Lib.hid hown; have F4 : Hid (Frm [] w w4) := Lib.hid (((Frm.refl [] w).alloc _).drew.grown hgrow (fun k hk => .inr (by cases hk; exact Nat.le_refl _))); clear hown hgrow)
                | (refine step_app_txts (w := ((w.alloc (.cells #[] 9)).alloc (.cells #[.string (txt b)] 9)).drew) rfl (.tmp 33) (.tmp 36) rfl w.heap.size (.slice (some ⟨w.heap.size, 0, none⟩) 0 0) (.slice a1 k c1) ?_ ?_ [] (L.take k) 0 k rfl HL1.out (own_none (Nat.le_refl _) (show ((w.alloc (.cells #[] 9)).alloc (.cells #[.string (txt b)] 9)).heap[w.heap.size]? = _ from alloc_at (alloc_top rfl))) (H1.out.frm0 (((Frm.refl [] w).alloc _).alloc _).drew) ?_ ?_ ?_; (focus (go_simp; done)); (focus (go_simp; done)); (focus (rw [HL1.out]; omega)); (focus (simp; omega)); intro ao4 cp4 w4 hown hgrow; rw [List.nil_append] at hown; have O4 := Lib.hid hown; have F4 : Hid (Frm [] w w4) := Lib.hid ((((Frm.refl [] w).alloc _).alloc _).drew.grown hgrow (fun k hk => .inr (by cases hk; exact Nat.le_refl _))); have LBb := Lib.hid (HBN.out w4 (w.heap.size + 1) (grown_at hgrow (show ((w.alloc (.cells #[] 9)).alloc (.cells #[.string (txt b)] 9)).heap[w.heap.size + 1]? = _ from alloc_top (by simp)) (by simp [Value.ownBlock]))); clear hown hgrow)
                | (refine step_app_txts (w := ((w.alloc (.cells #[.string (txt b)] 9)).alloc (.cells #[] 9)).drew) rfl (.tmp 33) (.tmp 36) rfl w.heap.size (.slice (some ⟨w.heap.size + 1, 0, none⟩) 0 0) (.slice a1 k c1) ?_ ?_ [] (L.take k) 0 k rfl HL1.out (own_none (Nat.le_succ _) (show ((w.alloc (.cells #[.string (txt b)] 9)).alloc (.cells #[] 9)).heap[w.heap.size + 1]? = _ from alloc_top (by simp))) (H1.out.frm0 (((Frm.refl [] w).alloc _).alloc _).drew) ?_ ?_ ?_; (focus (go_simp; done)); (focus (go_simp; done)); (focus (rw [HL1.out]; omega)); (focus (simp; omega)); intro ao4 cp4 w4 hown hgrow; rw [List.nil_append] at hown; have O4 := Lib.hid hown; have F4 : Hid (Frm [] w w4) := Lib.hid ((((Frm.refl [] w).alloc _).alloc _).drew.grown hgrow (fun k hk => .inr (by cases hk; exact Nat.le_succ _))); have LBc := Lib.hid (HBN.out w4 w.heap.size (grown_at hgrow (show ((w.alloc (.cells #[.string (txt b)] 9)).alloc (.cells #[] 9)).heap[w.heap.size]? = _ from alloc_at (alloc_top rfl)) (by simp [Value.ownBlock]))); clear hown hgrow)
                | (refine step_app_txts (w := w4.alloc (.cells #[.string (txt b)] 9)) rfl (.tmp 37) (.tmp 39) rfl w.heap.size (.slice ao4 k cp4) (.slice (some ⟨w4.heap.size, 0, none⟩) 1 1) ?_ ?_ (L.take k) [b] k (k + 1) HL1.out (by simp [HL1.out]) (((Frm.refl [] w4).alloc _).owns O4.out (by simp)) (HBN.out _ _ (alloc_top rfl)) ?_ ?_ ?_; (focus (go_simp; done)); (focus (go_simp; done)); (focus (simp; omega)); (focus (have := F4.out.size; simp; omega)); intro ao5 cp5 w5 hown hgrow; have O5 := Lib.hid hown; have F5 : Hid (Frm [] w w5) := Lib.hid ((F4.out.alloc _).grown hgrow (fun k hk => .inr (ownBlock_ge O4.out hk))); clear hown hgrow)
                | (refine step_app_txts (w := w4) rfl (.tmp 37) (.tmp 39) rfl w.heap.size (.slice ao4 k cp4) (.slice (some ⟨w.heap.size + 1, 0, none⟩) 1 1) ?_ ?_ (L.take k) [b] k (k + 1) HL1.out (by simp [HL1.out]) O4.out LBb.out ?_ ?_ ?_; (focus (go_simp; done)); (focus (go_simp; done)); (focus (simp; omega)); (focus (have := F4.out.size; omega)); intro ao5 cp5 w5 hown hgrow; have O5 := Lib.hid hown; have F5 : Hid (Frm [] w w5) := Lib.hid (F4.out.grown hgrow (fun k hk => .inr (ownBlock_ge O4.out hk))); clear hown hgrow)
                | (refine step_app_txts (w := w4) rfl (.tmp 37) (.tmp 39) rfl w.heap.size (.slice ao4 k cp4) (.slice (some ⟨w.heap.size, 0, none⟩) 1 1) ?_ ?_ (L.take k) [b] k (k + 1) HL1.out (by simp [HL1.out]) O4.out LBc.out ?_ ?_ ?_; (focus (go_simp; done)); (focus (go_simp; done)); (focus (simp; omega)); (focus (have := F4.out.size; omega)); intro ao5 cp5 w5 hown hgrow; have O5 := Lib.hid hown; have F5 : Hid (Frm [] w w5) := Lib.hid (F4.out.grown hgrow (fun k hk => .inr (ownBlock_ge O4.out hk))); clear hown hgrow)
                | (refine step_app_txts (w := w5) rfl (.tmp 40) (.tmp 43) rfl w.heap.size (.slice ao5 (k + 1) cp5) (.slice a2 m c2) ?_ ?_ (L.take k ++ [b]) (L.drop k) (k + 1) (k + 1 + m) (by simp [HL1.out]) (by simp [HL1.out, HL2.out]; omega) O5.out (H2.out.frm0 F5.out) ?_ ?_ ?_; (focus (go_simp; done)); (focus (go_simp; done)); (focus (have := HB3.out; omega)); (focus (have := F5.out.size; omega)); intro ao6 cp6 w6 hown hgrow; have O6 := Lib.hid hown; have F6 : Hid (Frm [] w w6) := Lib.hid (F5.out.grown hgrow (fun k hk => .inr (ownBlock_ge O5.out hk))); clear hown hgrow))
            all_goals
              go_wp2
              go_ret2
              refine ⟨_, rfl, _, rfl, ?_, F6.out, fun k hk => .inr (ownBlock_ge O6.out hk)⟩
              have h5 := O6.out
              rw [List.append_assoc, List.singleton_append] at h5
              refine Txts.of_own (base := w.heap.size) ?_
              have h6 : (L.take k ++ b :: L.drop k).length = k + 1 + m := by simp [HL1.out, HL2.out]; omega
              rw [HTW.out.1, HTW.out.2, h6]
              exact h5
theorem rins_any (h : Txts w lv L) (hn : L.length ≤ 1000) (b : Wd) (hb : b.length ≤ 1000000) : Calls Try.prog 21 #[lv, .string (txt b)] w (RetV (RfTo w (insA L b) (insEL L b))) :=
  (rins_own h hn b hb).mono fun _ _ ⟨v, e, h⟩ => ⟨v, e, h.to⟩
theorem erase_at {L : List Wd} {b : Wd} {i : Nat} (h1 : L[i]? = some b) (h2 : b ∉ L.take i) : L.erase b = L.take i ++ L.drop (i + 1) := by
  induction L generalizing i with
  | nil => simp at h1
  | cons a L ih =>
    cases i with
    | zero => simp at h1; subst h1; simp
    | succ i =>
      rw [List.take_succ_cons, List.mem_cons, not_or] at h2
      rw [List.erase_cons_tail (by simpa using fun e => h2.1 e.symm), ih (by simpa using h1) h2.2]
      simp
set_option maxHeartbeats 4000000 in
set_option maxRecDepth 100000 in
theorem rrem_any (h : Txts w lv L) (hn : L.length ≤ 1000) (b : Wd) (hb : b.length ≤ 1000000) : Calls Try.prog 19 #[lv, .string (txt b)] w (RetV (RfTo w (remA L b) (remE L b))) := by
  have HT := Lib.hid h
  obtain ⟨ao, cap, rfl, hcap, hcs⟩ := h
  have HC := Lib.hid hcs
  have hsz := txt_size b
  obtain ⟨nb, hnb⟩ : ∃ nb, b.length = nb := ⟨_, rfl⟩
  rw [hnb] at hsz hb
  by_cases h1 : 64 < nb
  · have h1' : (64 : Int) < (nb : Int) := by omega
    have he : remE L b = 5 := by unfold remE; rw [if_pos (by omega)]
    have hl : remA L b = L := by unfold remA; rw [if_neg (by rw [he]; decide)]
    rw [he, hl]
    clear hcs hnb he hl
    go_enter Try.func19, Try.ntmps19
    go_wp2
    go_ret2
    exact ⟨_, rfl, _, rfl, HT.out, Frm.refl _ _⟩
  · have h1' : ¬ (64 : Int) < (nb : Int) := by omega
    obtain ⟨n, hnn⟩ : ∃ n, L.length = n := ⟨_, rfl⟩
    have HN := Lib.hid hnn
    have HNB := Lib.hid hnb
    rw [hnn] at hcap hn ⊢
    have HT2 : Hid (Txts w (.slice ao n cap) L) := Lib.hid (by rw [← hnn]; exact HT.out)
    clear hcs hnb HT hnn
    go_enter Try.func19, Try.ntmps19
    go_wp2
    go_loopw [6] (fun s6 wr => ∃ k : Nat, s6 = .int .i64 k ∧ k ≤ n ∧ b ∉ L.take k ∧ w = wr) (fun s6 _ => n - (intOf s6).toNat)
    case atStart => exact ⟨0, rfl, Nat.zero_le _, by simp, rfl⟩
    case round =>
      obtain ⟨k, rfl, hk, hno, rfl⟩ := hrel
      by_cases hlt : k < n
      · have hlt' : (k : Int) < (n : Int) := by omega
        obtain ⟨x, hx⟩ : ∃ x, L[k]? = some x := ⟨_, List.getElem?_eq_getElem (by rw [HN.out]; exact hlt)⟩
        obtain ⟨g, o, rfl, cx⟩ := HC.out k x hx
        unfold st at cx
        by_cases hxb : x = b
        · subst hxb
          have hmem : x ∈ L := List.mem_of_getElem? hx
          have HEQ : Hid (remE L x = 0 ∧ remA L x = L.take k ++ L.drop (k + 1)) := Lib.hid (by
            have he : remE L x = 0 := by
              unfold remE
              have := HNB.out
              rw [if_neg (by omega), if_pos hmem]
            refine ⟨he, ?_⟩
            unfold remA
            rw [if_pos he, erase_at hx hno])
          have hk' : (k : Int) ≤ (n : Int) := by omega
          have hk1 : (k : Int) + 1 ≤ (n : Int) := by omega
          obtain ⟨v1, hr1, ht1, ⟨a1, c1, rfl⟩, hb1⟩ := HT2.out.cutH (hi := (k : Int)) (j := k) rfl (by rw [HN.out]; omega)
          obtain ⟨v2, hr2, ht2, ⟨a2, c2, rfl⟩, hb2⟩ := HT2.out.cutL (lo := (k : Int) + 1) (i := k + 1) (by omega) (by rw [HN.out]; omega)
          have hl1 : (L.take k).length = k := by rw [List.length_take, HN.out]; omega
          have hl2 : (L.drop (k + 1)).length = n - (k + 1) := by rw [List.length_drop, HN.out]
          rw [hl1] at hr1 ht1
          rw [hl2] at hr2 ht2
          obtain ⟨m, hm⟩ : ∃ m, n - (k + 1) = m := ⟨_, rfl⟩
          rw [hm] at hr2 ht2 hl2
          have HL1 := Lib.hid hl1; have HL2 := Lib.hid hl2; have H1 := Lib.hid ht1; have H2 := Lib.hid ht2
          have HB3 : Hid (k + (L.drop (k + 1)).length ≤ 1000) := Lib.hid (by rw [hl2]; omega)
          have hg3 : IntKind.i64.wrap ((k : Int) + 1) = (k : Int) + 1 := IntWalk.i64_in _ (by omega)
          clear hb1 hb2 hl1 hl2 ht1 ht2 hm hmem hx hno
          go_wp2
          clear cx
          go_region_held3 (fun _ => True) (exact trivial)
            (first
              | (refine step_app_txts (w := (w.alloc (.cells #[] 9)).drew) rfl (.tmp 23) (.tmp 26) rfl w.heap.size (.slice (some ⟨w.heap.size, 0, none⟩) 0 0) (.slice a1 k c1) ?_ ?_ [] (L.take k) 0 k rfl HL1.out (own_none (Nat.le_refl _) (show (w.alloc (.cells #[] 9)).heap[w.heap.size]? = _ from alloc_top rfl)) (H1.out.frm0 ((Frm.refl [] w).alloc _).drew) ?_ ?_ ?_; (focus (go_simp; done)); (focus (go_simp; done)); (focus (rw [HL1.out]; omega)); (focus (simp)); intro ao4 cp4 w4 hown hgrow; rw [List.nil_append] at hown; have O4 := Lib.hid hown; have F4 : Hid (Frm [] w w4) := Lib.hid (((Frm.refl [] w).alloc _).drew.grown hgrow (fun k hk => .inr (by cases hk; exact Nat.le_refl _))); clear hown hgrow)
              | (refine step_app_txts (w := w4) rfl (.tmp 27) (.tmp 31) rfl w.heap.size (.slice ao4 k cp4) (.slice a2 m c2) ?_ ?_ (L.take k) (L.drop (k + 1)) k (k + m) HL1.out (by simp only [List.length_append, HL1.out, HL2.out]) O4.out (H2.out.frm0 F4.out) ?_ ?_ ?_; (focus (go_simp; done)); (focus (go_simp; done)); (focus (have := HB3.out; omega)); (focus (have := F4.out.size; omega)); intro ao6 cp6 w6 hown hgrow; have O6 := Lib.hid hown; have F6 : Hid (Frm [] w w6) := Lib.hid (F4.out.grown hgrow (fun k hk => .inr (ownBlock_ge O4.out hk))); clear hown hgrow))
          all_goals
            go_wp2
            go_ret2
            rw [HEQ.out.1, HEQ.out.2]
            refine ⟨_, rfl, _, rfl, ?_, F6.out⟩
            have h5 := O6.out
            refine Txts.of_own (base := w.heap.size) ?_
            have h6 : (L.take k ++ L.drop (k + 1)).length = k + m := by simp only [List.length_append, HL1.out, HL2.out]
            rw [h6]
            exact h5
        · have hs : ((txt x).toList == (txt b).toList) = false := str_ne (fun e => hxb (txt_inj e))
          have hno2 : b ∉ L.take (k + 1) := by
            rw [take_snoc hx, List.mem_append, List.mem_singleton, not_or]
            exact ⟨hno, fun e => hxb e.symm⟩
          have HNO := Lib.hid hno2
          clear hx hno hno2
          go_wp2
          exact ⟨⟨k + 1, by simp, hlt, HNO.out, trivial⟩, by simp [intOf]; omega⟩
      · obtain rfl : k = n := by omega
        have hge : ¬ (k : Int) < (k : Int) := by omega
        have hnm : b ∉ L := by rw [← HN.out, List.take_length] at hno; exact hno
        have HEQ : Hid (remE L b = 9 ∧ remA L b = L) := Lib.hid (by
          have he : remE L b = 9 := by
            unfold remE
            have := HNB.out
            rw [if_neg (by omega), if_neg hnm]
          refine ⟨he, ?_⟩
          unfold remA
          rw [if_neg (by rw [he]; decide)])
        clear hno hnm
        go_wp2
        go_ret2
        rw [HEQ.out.1, HEQ.out.2]
        exact ⟨_, rfl, _, rfl, HT2.out, Frm.refl _ _⟩
end
end Go.Proofs.Ytefpfcheafbfdaa
