import Derived.Test.YtefpfcheafbfdaaRefE
namespace Go.Proofs.Ytefpfcheafbfdaa
open Go.RowKit Go.Maps Go.BigFrame
/-- a scope with one label, to which the run may jump once -/
theorem wp_scope_once {P : Program} {a : Act} {w : World} {Q : Exit → Act → World → Prop} {c rest : Code} (l : Nat) (hf : findLabel c l = some rest) (h : c.wp P (Exit.jump l (fun a w => rest.wp P (Exit.noGoto Q) a w) Q) a w) : (Code.scope c).wp P Q a w :=
  wp_scope_jumps l (fun a w => rest.wp P (Exit.noGoto Q) a w) (fun _ _ => 0) hf h (fun _ _ hJ => wp_mono hJ (fun e _ _ q => by cases e <;> first | exact q | exact q.elim))
theorem jump_ret {l : Nat} {J : Act → World → Prop} {Q : Exit → Act → World → Prop} {a : Act} {w : World} : Exit.jump l J Q .ret a w = Q .ret a w := rfl
theorem jump_goto {l : Nat} {J : Act → World → Prop} {Q : Exit → Act → World → Prop} {a : Act} {w : World} (h : J a w) : Exit.jump l J Q (.goto l) a w := ⟨rfl, h⟩
theorem or_i64 (a b : Nat) (ha : a < 256) (hb : b < 256) : bits .or .i64 ((a : Int) * 256) (b : Int) = 256 * (a : Int) + (b : Int) := by
  have hx : a * 256 ||| b = 256 * a + b := by
    have := Nat.shiftLeft_add_eq_or_of_lt (i := 8) hb a
    rw [Nat.shiftLeft_eq] at this
    rw [← this]; omega
  have h1 : (BitVec.ofInt 64 ((a : Int) * 256)).toNat = a * 256 := by
    have e : (a : Int) * 256 = ((a * 256 : Nat) : Int) := (Int.natCast_mul a 256).symm
    rw [e, BitVec.ofInt_natCast, BitVec.toNat_ofNat]; exact Nat.mod_eq_of_lt (by omega)
  have h2 : (BitVec.ofInt 64 (b : Int)).toNat = b := by
    rw [BitVec.ofInt_natCast, BitVec.toNat_ofNat]; exact Nat.mod_eq_of_lt (by omega)
  show IntKind.i64.wrap ((BitVec.ofInt 64 ((a : Int) * 256) ||| BitVec.ofInt 64 (b : Int)).toNat : Int) = _
  rw [BitVec.toNat_or, h1, h2, hx]
  rw [IntWalk.i64_in _ (by omega)]
  omega
set_option maxHeartbeats 2000000 in
set_option maxRecDepth 100000 in
theorem dec_short (v : Value) (b : Wd) (w : World) (h : Byts w v b) (hn : b.length < 2) : Calls Try.prog 37 #[v] w (RetV (NewTo w (decL b))) := by
  obtain ⟨ao, cap, rfl, -⟩ := h.len
  have HD := Lib.hid (decL_short hn)
  have hn' : (b.length : Int) < 2 := by omega
  clear h
  go_enter Try.func37, Try.ntmps37
  go_wp2
  refine wp_scope_once 0 rfl ?_
  go_wp2
  go_step3
  go_wp2
  refine jump_goto ?_
  go_wp2
  rw [Exit.noGoto_ret]
  go_ret2
  refine ⟨_, rfl, Frm.refl _ _, none, by rw [HD.out]; rfl, .inl ⟨by rw [HD.out]; decide, rfl⟩⟩
/-- the words, parts of the bytes at hand -/
def WsD (w : World) (vs : List Value) (L : List Wd) : Prop := ∀ (k : Nat) (x : Wd), L[k]? = some x → ∃ (ua : Option Addr) (uc : Nat), vs[k]? = some (Value.slice ua x.length uc) ∧ Byts w (.slice ua x.length uc) x
theorem WsD.wds {w wr : World} {base i lc : Nat} {la : Option Addr} {vs : List Value} {L : List Wd} (h : WsD w vs L) (hL : L.length = i) (ho : wr.ownsRow base 23 1 (.slice la i lc) i vs) (hf : Frm [] w wr) : Wds wr (.slice la i lc) L := by
  subst hL
  have h0 := ho
  rcases ho.2 with ⟨hv, h3⟩ | ⟨g, cap, cur, hv, -, hh, h3, -, -, h4⟩
  · injection hv with q1 q2 q3
    subst q1; subst q3
    refine ⟨_, _, rfl, by omega, fun i x h => ?_⟩
    have := lt_of_some h; omega
  · injection hv with q1 q2 q3
    subst q1; subst q3
    refine ⟨_, _, rfl, by omega, fun i x hk => ?_⟩
    have hl := lt_of_some hk
    obtain ⟨ua, uc, e1, e2⟩ := h i x hk
    have hc := World.ownsRow.cellAt h0 i (by omega)
    rw [e1] at hc
    exact ⟨g, 0, ua, uc, rfl, by rw [Nat.zero_add]; exact hc, e2.frm0 hf⟩
set_option maxHeartbeats 4000000 in
set_option maxRecDepth 100000 in
theorem dec_any (v : Value) (b : Wd) (w : World) (h : Byts w v b) (h2 : ¬ b.length < 2) (h5 : b.length ≤ 4000) (hbd : b.length ≤ 500 ∨ hdr b ≤ 1000) : Calls Try.prog 37 #[v] w (RetV (NewTo w (decL b))) := by
  have HD0 := Lib.hid h2
  have HB := Lib.hid h
  obtain ⟨v1, hc1, hb1, ⟨a1, p1, rfl⟩, -⟩ := h.cutL (lo := 2) (i := 2) rfl (by omega)
  have HB1 := Lib.hid hb1
  obtain ⟨ao, cap, rfl, hcap, hcs⟩ := h
  obtain ⟨x0, hx0⟩ : ∃ c, b[0]? = some c := ⟨_, List.getElem?_eq_getElem (by omega)⟩
  obtain ⟨x1, hx1⟩ : ∃ c, b[1]? = some c := ⟨_, List.getElem?_eq_getElem (by omega)⟩
  obtain ⟨g, o, rfl, k0⟩ := hcs 0 x0 hx0
  obtain ⟨g', o', e, k1⟩ := hcs 1 x1 hx1
  cases e
  rw [Nat.add_zero] at k0
  unfold u8 at k0 k1
  have hor := or_i64 x0.toNat x1.toNat x0.toNat_lt x1.toNat_lt
  obtain ⟨h, hh⟩ : ∃ h, hdr b = h := ⟨_, rfl⟩
  have HH := Lib.hid hh
  rw [hdr_byt, byt_of hx0, byt_of hx1] at hh
  have e4 : (256 * (x0.toNat : Int) + (x1.toNat : Int)) = (h : Int) := by omega
  rw [e4] at hor
  have hx07 := x0.toNat_lt; have hx17 := x1.toNat_lt
  have hh6 : h < 65536 := by omega
  obtain ⟨n, hn⟩ : ∃ n, b.length = n := ⟨_, rfl⟩
  have HN := Lib.hid hn
  have hl1 : (b.drop 2).length = n - 2 := by rw [List.length_drop, hn]
  have HL1 := Lib.hid hl1
  rw [hl1] at hc1 hb1 HB1
  rw [hn] at hcap h2 h5 hc1 HB ⊢
  have hn2 : ¬ (n : Int) < 2 := by omega
  have hs4 : n - 2 ≤ 3998 := by omega
  have hs5 : n - 2 ≤ n := by omega
  obtain ⟨n1, hn1⟩ : ∃ n1, n - 2 = n1 := ⟨_, rfl⟩
  rw [hn1] at hc1 hb1 HB1 HL1 hs4 hs5
  have HBD : Hid (n ≤ 500 ∨ h ≤ 1000) := Lib.hid (by rw [HH.out, HN.out] at hbd; exact hbd)
  clear hb1 hcs hx0 hx1 hn hl1 hh e4 hn1 hbd
  go_enter Try.func37, Try.ntmps37
  go_wp2
  refine wp_scope_once 0 rfl ?_
  go_wp2
  go_quiet (fail)
  go_wp2
  go_loopw [0, 4, 25] (fun s0 s4 s25 wr => ∃ (i m : Nat) (da : Option Addr) (dc : Nat) (r : Wd) (la : Option Addr) (lc : Nat) (L : List Wd) (vs : List Value), s0 = .slice da m dc ∧ s4 = .slice la i lc ∧ s25 = .int .i64 i ∧ r.length = m ∧ L.length = i ∧ i ≤ h ∧ i + m ≤ n1 ∧ Byts w (.slice da m dc) r ∧
      wr.ownsRow w.heap.size 23 1 (.slice la i lc) i vs ∧ WsD w vs L ∧ pre' [] h (b.drop 2) = pre' L (h - i) r ∧ Frm [] w wr) (fun _ _ s25 _ => h - (intOf s25).toNat)
  case atStart => exact ⟨0, n1, a1, p1, _, none, 0, [], [], rfl, rfl, rfl, HL1.out, rfl, Nat.zero_le _, by omega, HB1.out, World.ownsRow_nil _ _ _ _, fun k x h => by simp at h, rfl, (Frm.refl _ _).drewN _⟩
  case round =>
    obtain ⟨i, m, da, dc, r, la, lc, L, vs, rfl, rfl, rfl, hm, hL, hi, him, hbr, ho, hw, he, hf⟩ := hrel
    have HM := Lib.hid hm; have HL := Lib.hid hL; have HBR := Lib.hid hbr; have HO := Lib.hid ho; have HW := Lib.hid hw; have HE := Lib.hid he; have HF := Lib.hid hf
    clear hm hL hbr ho hw he hf k0 k1 hc1
    by_cases hlt : i < h
    · have hlt' : (i : Int) < (h : Int) := by omega
      obtain ⟨q, hq⟩ : ∃ q, h - i = q + 1 := ⟨h - i - 1, by omega⟩
      by_cases hm0 : m = 0
      · subst hm0
        have HD := Lib.hid (decL_none HD0.out (by rw [HH.out, HE.out, hq]; exact pre'_nil _ _ (List.length_eq_zero_iff.1 HM.out)))
        clear hq
        go_wp2
        go_step3
        simp only [Exit.inBlock, Exit.then]
        refine jump_goto (Q := fun _ _ _ => True) ?_
        go_wp2
        rw [Exit.noGoto_ret]
        go_ret2
        refine ⟨_, rfl, HF.out, none, by rw [HD.out]; rfl, .inl ⟨by rw [HD.out]; decide, rfl⟩⟩
      · have hm1 : ¬ (m : Int) < 1 := by omega
        cases r with
        | nil => exact absurd HM.out.symm hm0
        | cons c t =>
        have hM := HM.out
        rw [List.length_cons] at hM
        obtain ⟨da0, dc0, e0, hdc, hrs⟩ := HBR.out
        injection e0 with q1 q2 q3
        subst q1; subst q3
        obtain ⟨g2, o2, rfl, k2⟩ := hrs 0 c rfl
        rw [Nat.add_zero] at k2
        have k2 := HF.out.cellAt k2 (by simp)
        unfold _root_.Go.Proofs.Ytefpfcheafbfdaa.u8 at k2
        have hk7 := c.toNat_lt
        clear hrs q2
        by_cases hfit : 1 + c.toNat ≤ m
        · have hfit' : ¬ (m : Int) < 1 + (c.toNat : Int) := by omega
          obtain ⟨va, hca, hba, ⟨aa, pa, rfl⟩, -⟩ := HBR.out.cut3 (lo := 1) (hi := 1 + (c.toNat : Int)) (i := 1) (j := 1 + c.toNat) rfl (by omega) (by omega) (by rw [HM.out]; exact hfit)
          obtain ⟨vb, hcb, hbb, ⟨ab, pb, rfl⟩, -⟩ := HBR.out.cutL (lo := 1 + (c.toNat : Int)) (i := 1 + c.toNat) (by omega) (by rw [HM.out]; exact hfit)
          have hx : ((c :: t).take (1 + c.toNat)).drop 1 = t.take c.toNat := by rw [Nat.add_comm]; rfl
          have hs : (c :: t).drop (1 + c.toNat) = t.drop c.toNat := by rw [Nat.add_comm]; rfl
          have hstep : pre' [] h (b.drop 2) = pre' (L ++ [t.take c.toNat]) (h - (i + 1)) (t.drop c.toNat) := by
            rw [HE.out, hq, pre'_some rfl (by omega)]
            congr 1; omega
          have HSTEP := Lib.hid hstep
          rw [hx] at hca hba; rw [hs] at hcb hbb
          obtain ⟨nx, hnx⟩ : ∃ nx, (t.take c.toNat).length = nx := ⟨_, rfl⟩
          obtain ⟨m2, hm2⟩ : ∃ m2, (t.drop c.toNat).length = m2 := ⟨_, rfl⟩
          have hml : m2 + 1 ≤ m := by rw [List.length_drop] at hm2; omega
          have HNX := Lib.hid hnx; have HM2 := Lib.hid hm2
          rw [hnx] at hca hba; rw [hm2] at hcb hbb
          have HBA := Lib.hid hba; have HBB := Lib.hid hbb
          obtain ⟨i0, hi0, hz0, hz1, hz2⟩ := info_parts Try.info23
          have hb1 : i + 1 ≤ maxLen := by unfold maxLen; omega
          have hb2 : (i + 1) * 24 ≤ 140737488355328 := by omega
          have HB1' := Lib.hid hb1; have HB2' := Lib.hid hb2
          have HWS := Lib.hid HF.out.size
          clear hba hbb hx hs hstep hnx hm2 hb1 hb2 hM hq
          go_upto_region 12 with fail
          go_region_held3 (fun _ => True) (exact trivial)
            (first
              | (refine step_append_lies (w := (wr.alloc (.cells #[.slice aa nx pa] 23)).drew) rfl (.tmp 45) (.tmp 50) 22 rfl w.heap.size 23 i0 (.slice none 0 0) 1 24 Try.underlying22 hi0 hz0 hz1 hz2 rfl (by decide) (.slice la i lc) i vs ?_ ((((Frm.refl [] wr).alloc (.cells #[.slice aa nx pa] 23)).drew).owns HO.out (by simp)) ⟨wr.heap.size, 0, none⟩ 1 1 [.slice aa nx pa] ?_ rfl (by intro j u hj; exact cell_one_new wr _ _ j u hj) (by simp [Value.oneCell']) (by decide) HB1'.out HB2'.out ?_ _ rfl ?_; (focus (go_simp; done)); (focus (go_simp; done)); (focus (have := HWS.out; simp; omega)); intro g' cap' w2 hown hgrow _ _; have O2 := Lib.hid hown; have G2 := Lib.hid hgrow; clear hown hgrow))
          go_wp2
          have hvl : vs.length = i := by simpa using HO.out.1
          refine ⟨⟨i + 1, m2, ab, pb, t.drop c.toNat, some ⟨g', 0, none⟩, cap', L ++ [t.take c.toNat], vs ++ [.slice aa nx pa], rfl, rfl, by simp, HM2.out, by rw [List.length_append, HL.out]; rfl, hlt, by omega, HBB.out, O2.out, fun k x hk => ?_, HSTEP.out, ((HF.out.alloc _).drew).grown G2.out (fun k hk => .inr (ownBlock_ge HO.out hk))⟩, by simp [intOf]; omega⟩
          by_cases hki : k < i
          · rw [List.getElem?_append_left (by rw [HL.out]; exact hki)] at hk
            obtain ⟨ua, uc, z1, z2⟩ := HW.out k x hk
            exact ⟨ua, uc, by rw [List.getElem?_append_left (by omega)]; exact z1, z2⟩
          · have hk2 : k < i + 1 := by have := lt_of_some hk; rw [List.length_append, HL.out] at this; exact this
            obtain rfl : k = i := by omega
            rw [List.getElem?_append_right (by rw [HL.out]; exact Nat.le_refl _), HL.out, Nat.sub_self] at hk
            cases hk
            rw [HNX.out]
            exact ⟨aa, pa, by rw [List.getElem?_append_right (by omega), hvl, Nat.sub_self]; rfl, HBA.out⟩
        · have hfit' : (m : Int) < 1 + (c.toNat : Int) := by omega
          have HD := Lib.hid (decL_none HD0.out (by rw [HH.out, HE.out, hq]; exact pre'_none rfl (by omega)))
          clear hq hM
          go_wp2
          go_step3
          simp only [Exit.inBlock, Exit.then]
          refine jump_goto (Q := fun _ _ _ => True) ?_
          go_wp2
          rw [Exit.noGoto_ret]
          go_ret2
          refine ⟨_, rfl, HF.out, none, by rw [HD.out]; rfl, .inl ⟨by rw [HD.out]; decide, rfl⟩⟩
    · obtain rfl : i = h := by omega
      have hge : ¬ (i : Int) < (i : Int) := by omega
      have HE3 : Hid (pre' [] (hdr b) (b.drop 2) = some (L, r)) := Lib.hid (by rw [HH.out, HE.out, Nat.sub_self]; rfl)
      by_cases hm0 : m = 0
      · subst hm0
        obtain rfl : r = [] := List.length_eq_zero_iff.1 HM.out
        have hWds := HW.out.wds HL.out HO.out HF.out
        have hi1 : i ≤ 1000 := by rcases HBD.out with q | q <;> omega
        have hL5 : ∀ x ∈ L, x.length ≤ 4000 := fun x hx => by
          rcases (pre'_spec _ _ _ _ _ HE3.out).2.2 x hx with h | h
          · cases h
          · rw [HL1.out] at h; omega
        have CS := Lib.hid (isSo_any hWds (by rw [HL.out]; omega) (fun x hx => by have := hL5 x hx; omega))
        have CN : Hid (∀ V, Frm [] wr V → Calls Try.prog 13 #[.slice la i lc] V (RetV (NewTo V (newF [] L)))) := Lib.hid fun V hf => new_any _ L V (hWds.frm0 hf) (by rw [HL.out]; omega) (fun x hx => by have := hL5 x hx; omega)
        have HLL : Hid (L.length ≤ 1000) := Lib.hid (by rw [HL.out]; omega)
        clear hWds hL5
        by_cases hasc : Asc L
        · obtain ⟨N1, N2⟩ := new_okL HLL.out hasc
          by_cases hok : okL L
          · have HD := Lib.hid (decL_ok HD0.out HE3.out hok)
            have hnew := N1 hok
            rw [hnew] at CN
            have HA := Lib.hid hasc
            clear N1 N2 hok hnew hasc
            go_wp2_with (first
              | (go_at_call 58; go_must (refine CS.out.mono ?_; clear CS; rintro e w3 ⟨v, rfl, hf3, f, rfl, h3⟩; obtain rfl : f = true := h3.2 HA.out; have HF3 := Lib.hid hf3; clear hf3 h3))
              | (go_at_call 13; go_must (refine (CN.out _ HF3.out).mono ?_; clear CN; rintro e w4 ⟨v, rfl, hf, xo, rfl, h⟩; rcases h with ⟨h, -⟩ | ⟨-, tb, S, N, rfl, h1, h2, h3⟩; (· exact absurd rfl h); have HF4 := Lib.hid ((HF.out.trans HF3.out).trans hf); have HS4 := Lib.hid h1; have HK4 : Hid (∀ k, S k → w.heap.size ≤ k) := Lib.hid (fun k hk => Nat.le_trans (HF.out.trans HF3.out).size (h2 k hk)); have HN4 := Lib.hid h3; clear hf h1 h2 h3)))
            rw [jump_ret]
            go_ret2
            exact ⟨_, rfl, HF4.out, some ⟨tb, 0, none⟩, by rw [HD.out]; rfl, .inr ⟨by rw [HD.out], tb, S, N, rfl, by rw [HD.out]; exact HS4.out, HK4.out, HN4.out⟩⟩
          · have HD := Lib.hid (decL_bad HD0.out HE3.out hok)
            have hnew := N2 hok
            have HA := Lib.hid hasc
            obtain ⟨M, no, hR⟩ : ∃ M no, newF [] L = (M, no) := ⟨_, _, rfl⟩
            rw [hR] at CN hnew
            simp only at hnew
            have hno : (no == 0) = false := by rw [beq_eq_false_iff_ne]; exact hnew
            clear N1 N2 hok hasc hR
            go_wp2_with (first
              | (go_at_call 58; go_must (refine CS.out.mono ?_; clear CS; rintro e w3 ⟨v, rfl, hf3, f, rfl, h3⟩; obtain rfl : f = true := h3.2 HA.out; have HF3 := Lib.hid hf3; clear hf3 h3))
              | (go_at_call 13; go_must (refine (CN.out _ HF3.out).mono ?_; clear CN; rintro e w4 ⟨v, rfl, hf, xo, rfl, h⟩; rcases h with ⟨-, rfl⟩ | ⟨h, -⟩; (case inr => exact absurd h hnew); have HF4 := Lib.hid ((HF.out.trans HF3.out).trans hf); clear hf)))
            go_step3
            go_wp2
            rw [jump_ret]
            go_ret2
            exact ⟨_, rfl, HF4.out, none, by rw [HD.out]; rfl, .inl ⟨by rw [HD.out]; decide, rfl⟩⟩
        · have HD := Lib.hid (decL_bad HD0.out HE3.out (fun h => hasc h.1.asc))
          have HA := Lib.hid hasc
          clear hasc CN
          go_wp2_with (first
            | (go_at_call 58; go_must (refine CS.out.mono ?_; clear CS; rintro e w3 ⟨v, rfl, hf3, f, rfl, h3⟩; obtain rfl : f = false := (by cases f; (· rfl); exact absurd (h3.1 rfl) HA.out); have HF3 := Lib.hid hf3; clear hf3 h3)))
          go_step3
          simp only [Exit.then]
          refine jump_goto (Q := fun _ _ _ => True) ?_
          go_wp2
          rw [Exit.noGoto_ret]
          go_ret2
          refine ⟨_, rfl, HF.out.trans HF3.out, none, by rw [HD.out]; rfl, .inl ⟨by rw [HD.out]; decide, rfl⟩⟩
      · have hm0' : (0 : Int) < (m : Int) := by omega
        have HD := Lib.hid (decL_long HD0.out HE3.out (by intro e; rw [e] at HM; exact hm0 HM.out.symm))
        go_wp2
        go_step3
        simp only [Exit.then]
        refine jump_goto (Q := fun _ _ _ => True) ?_
        go_wp2
        rw [Exit.noGoto_ret]
        go_ret2
        refine ⟨_, rfl, HF.out, none, by rw [HD.out]; rfl, .inl ⟨by rw [HD.out]; decide, rfl⟩⟩
end Go.Proofs.Ytefpfcheafbfdaa
