/- ClockSteps: the walk. -/
import Derived.Test.YtdhkcjjcgpkkgaaStepsC
import Derived.Laws.AppendOwnNone
import Derived.Maps.AppendAt
namespace Go.Proofs.Ytdhkcjjcgpkkgaa
open Go.RowKit Go.Maps Go.BigFrame

set_option maxHeartbeats 8000000 in
set_option maxRecDepth 100000 in
theorem steps_main (a0 a1 a2 : Option Addr) (n0 n1 n2 c0 c1 c2 : Nat) (w : World) (h0 : NumsAt w .i64 a0 n0) (h1 : NumsAt w .u8 a1 n1) (h2 : NumsAt w .i64 a2 n2) (g0 : n0 ≤ 60) (g1 : n1 ≤ 60) (g2 : n2 ≤ 40) :
    Calls Try.prog 4 #[.slice a0 n0 c0, .slice a1 n1 c1, .slice a2 n2 c2] w (Ret (.bool true) (Frm [] w)) := by
  have HA0 := Lib.hid h0; have HA1 := Lib.hid h1; have HA2 := Lib.hid h2
  have k0 : (n0 : Int) ≤ 60 := by omega
  have k1 : (n1 : Int) ≤ 60 := by omega
  have k2 : (n2 : Int) ≤ 40 := by omega
  have HN : Hid (n0 ≤ 60 ∧ n1 ≤ 60 ∧ n2 ≤ 40) := Lib.hid ⟨g0, g1, g2⟩
  have HS := Lib.hid (SA.start w)
  clear h0 h1 h2 g0 g1 g2
  go_enter Try.func4, Try.ntmps4
  go_wp2_with (first
    | (refine wpList_alloc_row rfl 28 rfl Z28 256 Try.info28z ?_))
  go_loopw [9] (fun s9 wr => ∃ i : Nat, s9 = .int .i64 i ∧ i ≤ 60 ∧ SA w w.heap.size (w.heap.size + 1) i wr) (fun s9 _ => 60 - (intOf s9).toNat)
  case atStart => exact ⟨0, rfl, Nat.zero_le _, HS.out⟩
  case round =>
    obtain ⟨i, rfl, hi, hinv⟩ := hrel
    have hi' : (i : Int) ≤ 60 := by omega
    by_cases hin : i < n0 ∧ i < n1
    · obtain ⟨hin0, hin1⟩ := hin
      obtain ⟨b0, o0, x0, rfl, q0, r0⟩ := HA0.out i hin0
      obtain ⟨b1, o1, x1, rfl, q1, r1⟩ := HA1.out i hin1
      have HI0 := Lib.hid hin0
      have HI1 := Lib.hid hin1
      have l0 : (i : Int) < n0 := by omega
      have l1 : (i : Int) < n1 := by omega
      have hx1 := u8_bd r1
      have hx0 := i64_bd r0
      obtain ⟨t1, rfl⟩ : ∃ t1 : Nat, x1 = t1 := ⟨x1.toNat, by have := hx1.1; omega⟩
      have u0 := hx1.1
      have u1 := hx1.2
      have v0 := hx0.1
      have v1 := hx0.2
      clear hin0 hin1 r0 r1 hx1 hx0
      obtain ⟨D, F, p1, p2, p3, p4, p5, p6, p7⟩ := hinv
      have d0 := p3.keep q0
      have d1 := p3.keep q1
      have P1 := Lib.hid p1; have P2 := Lib.hid p2; have P3 := Lib.hid p3; have P4 := Lib.hid p4; have P5 := Lib.hid p5; have P6 := Lib.hid p6; have P7 := Lib.hid p7
      have Q0 := Lib.hid q0; have Q1 := Lib.hid q1
      clear p1 p2 p3 p4 p5 p6 p7 q0 q1
      by_cases hneg : x0 < 0
      · go_upto_region 8 with (fail)
        go_quiet (fail)
        go_wp2_with (first | (go_at_call 8; go_must (refine (known_any _).mono ?_; rintro e w' ⟨rfl, hf⟩; have HK := Lib.hid hf; clear hf)))
        go_ret
        exact ⟨rfl, (P3.out.drewN _).trans HK.out⟩
      have e0 : decide (x0 < 0) = false := by simpa using hneg
      have f0 : 0 ≤ x0 := by omega
      by_cases hbig : 1000 < x0
      · clear hneg
        go_upto_region 8 with (fail)
        go_quiet (fail)
        go_wp2_with (first | (go_at_call 8; go_must (refine (known_any _).mono ?_; rintro e w' ⟨rfl, hf⟩; have HK := Lib.hid hf; clear hf)))
        go_ret
        exact ⟨rfl, (P3.out.drewN _).trans HK.out⟩
      have e1 : decide (1000 < x0) = false := by simpa using hbig
      have f1 : x0 ≤ 1000 := by omega
      clear hneg hbig
      have HC := Lib.hid (startE_ok (x := (t1 : Int)) u0 u1 f0 f1)
      have HW1 : Hid (IntKind.i64.wrap (t1 : Int) = (t1 : Int)) := Lib.hid (IntWalk.i64_in _ (by omega))
      go_upto_region 8 with (fail)
      go_region_held3 (fun w' => w'.cell? ⟨b0, o0 + i, none⟩ = some (.int .i64 x0) ∧ w'.cell? ⟨b1, o1 + i, none⟩ = some (.int .u8 (t1 : Int)))
        (first
          | (exact ⟨HF5.out.keep Q0.out, HF5.out.keep Q1.out⟩)
          | go_keep)
        (first
          | (go_at_call 12; rw [HW1.out]; go_must ((with_reducible refine (start_any w.heap.size 0 D i F (t1 : Int) x0 _ (P1.out.frm (Frm.refl [] wr).drew (by simp)) (by omega)).mono ?_); rintro e w5 ⟨rfl, hto⟩; rw [HC.out]; have HT5 := Lib.hid hto.drewBack; have HF5 := Lib.hid (hto.drewBack.old P3.out P4.out); clear hto))
          | (go_at_call 11; go_must (refine (num_any _ _).mono ?_; rintro e w' ⟨rfl, rfl⟩)))
      have HB5 : Hid (w5.heap[w.heap.size + 1]? = some (.cells (dueA D) 28 (0, 0))) := by
        obtain ⟨F', _, k2, _⟩ := HT5.out
        exact Lib.hid (k2.at P2.out P5.out)
      have ht1 : t1 < 256 := by omega
      have c5 := (cell_of HB5.out t1).trans (dueA_at D t1 ht1)
      have f5 := free_of HB5.out t1
      generalize dueV D t1 + 1 = y1 at c5
      go_wp2_with fail
      go_region
      go_wp2
      have hi1 := HI0.out
      exact ⟨⟨i + 1, by simp, by omega, SA.next P2.out P3.out P4.out P5.out P6.out P7.out u0 u1 f0 f1 HT5.out (((Frm.refl [w.heap.size + 1] w5).setCell ⟨w.heap.size + 1, t1, none⟩ (.inl (by simp)) _).drew) (by rw [Int.toNat_natCast]; exact block_setCell HB5.out t1 (.int .i64 (x0 + 1)))⟩, by simp [intOf]; omega⟩
    · have HI := Lib.hid hi
      clear hi
      go_upto_region 6 with (fail)
      go_cut [43] (fun s43 w' => s43 = .bool false ∧ w' = wr)
      case first =>
        by_cases h0 : i < n0
        · have l0 : (i : Int) < n0 := by omega
          have l1 : ¬ (i : Int) < n1 := by omega
          clear hin
          go_wp2_with fail
          go_meet
          exact ⟨rfl, rfl⟩
        · have l0 : ¬ (i : Int) < n0 := by omega
          clear hin
          go_wp2_with fail
          go_meet
          exact ⟨rfl, rfl⟩
      case rest =>
        obtain ⟨rfl, rfl⟩ := hcut
        clear hin
        obtain ⟨D, F, p1, p2, p3, p4, p5, p6, p7⟩ := hinv
        have P1 := Lib.hid p1; have P2 := Lib.hid p2; have P3 := Lib.hid p3; have P4 := Lib.hid p4; have P5 := Lib.hid p5; have P6 := Lib.hid p6; have P7 := Lib.hid p7
        clear p1 p2 p3 p4 p5 p6 p7
        go_wp2_with (go_at_call 13; go_must ((with_reducible refine (copy_any w.heap.size 0 D i F _ P1.out (by have := HI.out; omega)).mono ?_); rintro e w7 ⟨v, rfl, hcp⟩; obtain ⟨db, Fd, rfl, hsb⟩ := SB.start P1.out P2.out P3.out P4.out P5.out P6.out hcp; have HB0 := Lib.hid hsb; clear hcp hsb))
        clear P1 P2 P3 P4 P5 P6 HA0 HA1 HS k0 k1 hi'
        go_loopw [11, 12, 13] (fun s11 s12 s13 wr => ∃ (j : Nat) (now : Int), s12 = .int .i64 now ∧ s13 = .int .i64 j ∧ j ≤ n2 ∧ SBx w w.heap.size (w.heap.size + 1) db D i Fd j now s11 wr) (fun _ _ s13 _ => n2 - (intOf s13).toNat)
        case atStart => exact ⟨0, 0, rfl, rfl, Nat.zero_le _, HB0.out⟩
        case round =>
          obtain ⟨j, now, rfl, rfl, hj, hsb⟩ := hrel
          clear HB0
          have hj' : (j : Int) ≤ n2 := by omega
          obtain ⟨D1, F1, out, hsb⟩ := hsb
          have hnn := hsb.nn
          have hnb := hsb.nb
          have HSB := Lib.hid hsb
          clear hsb
          by_cases hin : j < n2
          · obtain ⟨b2, o2, s, rfl, q2, r2⟩ := HA2.out j hin
            have HIN := Lib.hid hin
            have l2 : (j : Int) < n2 := by omega
            have hn4 : now ≤ 4000 := by omega
            have hs := i64_bd r2
            have hs0 := hs.1
            have hs1 := hs.2
            have d2 := HSB.out.old.keep q2
            have HQ2 := Lib.hid q2
            clear hs r2 q2 hin hj
            by_cases hneg : s < 0
            · go_wp2_with (first | (go_at_call 8; go_must (refine (known_any _).mono ?_; rintro e w' ⟨rfl, hf⟩; have HK := Lib.hid hf; clear hf)))
              go_ret
              exact ⟨rfl, HSB.out.old.trans HK.out⟩
            have e0 : decide (s < 0) = false := by simpa using hneg
            by_cases hbig : 100 < s
            · clear hneg
              go_wp2_with (first | (go_at_call 8; go_must (refine (known_any _).mono ?_; rintro e w' ⟨rfl, hf⟩; have HK := Lib.hid hf; clear hf)))
              go_ret
              exact ⟨rfl, HSB.out.old.trans HK.out⟩
            have e1 : decide (100 < s) = false := by simpa using hbig
            have f0 : 0 ≤ s := by omega
            have f1 : s ≤ 100 := by omega
            have HADV : Hid (advNow now (now + s) = now + s) := Lib.hid (advNow_add f0 (by show _ ≤ (1099511627776 : Int); omega))
            clear hneg hbig
            go_wp2_with (first
              | (go_at_call 14; go_must ((with_reducible refine (advance_any w.heap.size now D1 i F1 (now + s) _ HSB.out.clk (by have := HI.out; omega) (by show _ ≤ (1099511627776 : Int); omega)).mono ?_); rintro e wa ⟨_, rfl, u, rfl, hend⟩; rw [HADV.out] at hend; obtain ⟨F2, hsm⟩ := HSB.out.adv hend; have HSM := Lib.hid hsm; clear hend hsm))
              | (go_at_call 11; go_must (refine (num_any _ _).mono ?_; rintro e w' ⟨rfl, rfl⟩)))
            have hgd := HSB.out.clk.good
            have HGD := Lib.hid hgd
            clear hgd
            have HLL : Hid ((fire 257 D1 (now + s)).1.length ≤ 257) := Lib.hid (fire_short _ _ _)
            have hll := HLL.out
            generalize hfl : (fire 257 D1 (now + s)).1 = fl at *
            have HFL := Lib.hid hfl
            clear hfl
            obtain ⟨ao, cap, hu, hsrc⟩ := HSM.out.src.shape
            have HSRC := Lib.hid hsrc
            have HU := Lib.hid hu
            subst hu
            clear hsrc
            obtain ⟨wo, rfl⟩ : ∃ wo : World, wo = wr := ⟨_, rfl⟩
            go_loopw [16] (fun s16 w' => ∃ k : Nat, s16 = .int .i64 k ∧ k ≤ fl.length ∧ w'.heap[w.heap.size + 1]? = some (.cells (dueA (without D1 (fl.take k))) 28 (0, 0)) ∧ Frm [w.heap.size + 1] wa w') (fun s16 _ => fl.length - (intOf s16).toNat)
            case atStart => exact ⟨0, rfl, Nat.zero_le _, by rw [List.take_zero, without_nil]; exact HSM.out.due, Frm.refl _ _⟩
            case round =>
              obtain ⟨k, rfl, hk, hdu, hfi⟩ := hrel
              have HDU := Lib.hid hdu; have HFI := Lib.hid hfi
              clear hdu hfi
              by_cases hkl : k < fl.length
              · obtain ⟨x, hx⟩ : ∃ x, fl[k]? = some x := ⟨_, List.getElem?_eq_getElem hkl⟩
                obtain ⟨g, rfl, gx⟩ := HSRC.out k x hx
                have hfa := hx
                rw [← HFL.out] at hfa
                obtain ⟨d, z1, z2, z3, z4, z5, z6⟩ := fired_at HGD.out hfa
                rw [HFL.out] at z2
                obtain ⟨tx, rfl⟩ : ∃ tx : Nat, x = tx := ⟨x.toNat, by omega⟩
                have gx' : wr.cell? ⟨g, k, none⟩ = some (.int .i64 (tx : Int)) := HFI.out.cellAt gx (fun e => by have := HSM.out.uub g rfl; simp at e; exact this e)
                have htx : tx < 256 := by omega
                have cx := (cell_of HDU.out tx).trans (dueA_at _ tx htx)
                have hy : dueV (without D1 (fl.take k)) tx + 1 = d + 1 := by simp [dueV, z2]
                rw [hy] at cx
                have fx := free_of HDU.out tx
                have d2' := (HSM.out.old.then HFI.out (by intro z hz; simp at hz; right; omega)).keep HQ2.out
                have HX := Lib.hid hx
                have HZ1 := Lib.hid z1
                have HLATE : Hid (0 < j → now < d) := Lib.hid (fun h => HSB.out.late h z1)
                clear hx hfa z1 z2 hy gx hk
                have hkl' : (k : Int) < (fl.length : Int) := by omega
                have hk0 : (0 : Int) ≤ (k : Int) := by omega
                have ht0 : (0 : Int) ≤ (tx : Int) := by omega
                have ht2 : (tx : Int) < 256 := by omega
                have y5 : decide ((tx : Int) < 0) = false := by simp
                obtain ⟨y, hyd⟩ : ∃ y : Int, d + 1 = y := ⟨_, rfl⟩
                rw [hyd] at cx
                obtain rfl : d = y - 1 := by omega
                clear hyd
                have y0 : (y == 0) = false := by simp; omega
                have y1 : decide (now + s < y - 1) = false := by simp; omega
                have y3 : (tx : Int) ≤ 255 := by omega
                have y4 : decide (255 < (tx : Int)) = false := by simp; omega
                have w1 : IntKind.i64.wrap (y - 1) = y - 1 := IntWalk.i64_in _ (by omega)
                have w2 : IntKind.i64.wrap (now + s - s) = now := by rw [Int.add_sub_cancel]; exact IntWalk.i64_in _ (by omega)
                have w3 : IntKind.i64.wrap now = now := IntWalk.i64_in _ (by omega)
                by_cases hB : y - 1 ≤ now
                · have hj0 : j = 0 := by
                    rcases Nat.eq_zero_or_pos j with h | h
                    · exact h
                    · have := HLATE.out h; omega
                  have yj : decide ((0 : Int) < (j : Int)) = false := by simp; omega
                  have hnj : ¬ 0 < j := by omega
                  clear hj0
                  go_upto_region 28 with (fail)
                  go_quiet (fail)
                  clear w1 w2 w3
                  go_wp2
                  have hs6 := HSM.out.start HDU.out HFI.out HX.out htx nq
                  exact ⟨⟨k + 1, by simp, hkl, hs6.1, hs6.2⟩, by simp [intOf]; omega⟩
                · have yB : decide (y - 1 ≤ now) = false := by simpa using hB
                  clear hB
                  go_upto_region 28 with (fail)
                  go_quiet (fail)
                  clear w1 w2 w3
                  go_wp2
                  have hs6 := HSM.out.start HDU.out HFI.out HX.out htx nq
                  exact ⟨⟨k + 1, by simp, hkl, hs6.1, hs6.2⟩, by simp [intOf]; omega⟩
              · obtain rfl : k = fl.length := by omega
                have hdu := HDU.out
                rw [take_all] at hdu
                have HDU2 := Lib.hid hdu
                clear hdu HDU
                go_upto_region 31 with (fail)
                obtain ⟨i0, hi0, hz0, hz1, hz2⟩ := info_parts Try.info3
                have HOUT := Lib.hid (HSB.out.out_le)
                have HUB : Hid (Frm [w.heap.size + 1] wa wr) := HFI
                have HWS : Hid (w.heap.size ≤ wr.heap.size) := Lib.hid (Nat.le_trans HSM.out.old.size HFI.out.size)
                have HOWN : Hid (wr.ownsRow w.heap.size 3 1 u11 out.length (out.map (Value.int .i64))) := Lib.hid (HFI.out.owns HSM.out.own (fun k hk e => (HSM.out.vF k hk).2.2 (by simpa using e)))
                rcases HSM.out.src.form with ⟨hu, hnil⟩ | ⟨g, cap', hu, hcell⟩
                · have hao : ao = none ∧ cap = 0 := by simpa [hnil] using hu
                  obtain ⟨rfl, rfl⟩ := hao
                  subst hnil
                  simp only [List.length_nil]
                  go_wp2_with (refine wpList_append_own_none rfl _ _ 38 rfl w.heap.size 3 i0 1 Try.underlying38 hi0 _ _ _ rfl HOWN.out rfl ?_)
                  have HNX := Lib.hid (SM.next HSB.out HSM.out (by omega) (by omega) HFI.out HDU2.out (by simpa using HOWN.out) (Frm.refl _ _) (.inl rfl))
                  have hin := HIN.out
                  go_wp2
                  exact ⟨⟨j + 1, now + s, rfl, by simp, by omega, HNX.out⟩, by simp [intOf]; omega⟩
                · have hao : ao = some ⟨g, 0, none⟩ := by simpa using (congrArg (fun v => match v with | Value.slice a _ _ => a | _ => none) hu)
                  subst hao
                  have HCL : Hid (∀ j u, (fl.map (Value.int .i64))[j]? = some u → wr.cell? ((⟨g, 0, none⟩ : Addr).add j) = some u) := by
                    intro j' u' hu'
                    simp only [List.getElem?_map, Option.map_eq_some_iff] at hu'
                    obtain ⟨x', hx', rfl⟩ := hu'
                    rw [Addr.add_lit, Nat.zero_add]
                    exact HFI.out.cellAt (hcell j' x' hx') (fun e => by have := HSM.out.uub g rfl; simp at e; exact this e)
                  go_wp2_with (at_builtin; refine wpList_append_own_at _ rfl _ _ 38 rfl w.heap.size 3 i0 _ 1 8 Try.underlying38 hi0 hz0 hz1 hz2 rfl (by decide) _ _ _ rfl HOWN.out ⟨g, 0, none⟩ fl.length cap (fl.map (Value.int .i64)) rfl (by simp) HCL.out (ints_one fl) ?c4 ?c5 HWS.out ?_)
                  case c4 => have := HOUT.out; unfold maxLen; omega
                  case c5 => have := HOUT.out; omega
                  intro v' w1 hown hgrow hnil hat
                  have HNX := Lib.hid (SM.next HSB.out HSM.out (by omega) (by omega) HFI.out HDU2.out hown ((Frm.refl _ _).grown hgrow (fun k e => .inl (by simp [e]))) hat)
                  have hin := HIN.out
                  clear hown hgrow hnil hat
                  go_wp2
                  exact ⟨⟨j + 1, now + s, rfl, by simp, by omega, HNX.out⟩, by simp [intOf]; omega⟩
          · obtain rfl : j = n2 := by omega
            have hlt : ¬ (j : Int) < j := by omega
            clear hin hj hj' HA2
            by_cases hz : j = 0
            · subst hz
              go_wp2_with (first | (go_at_call 8; go_must (refine (known_any _).mono ?_; rintro e w' ⟨rfl, hf⟩; have HK := Lib.hid hf; clear hf)))
              go_ret
              exact ⟨rfl, HSB.out.old.trans HK.out⟩
            have hjp : 0 < j := by omega
            have hzb : ((j : Int) == 0) = false := by simp; omega
            have hn4 : now ≤ 4000 := by omega
            have HADV : Hid (advNow 0 now = now) := Lib.hid (by have := advNow_add (now := 0) hnn (by show _ ≤ (1099511627776 : Int); omega); simpa using this)
            have HJP := Lib.hid hjp
            clear hz hjp
            go_wp2_with (first
              | (go_at_call 14; go_must ((with_reducible refine (advance_any db 0 D i Fd now _ HSB.out.cpy (by have := HI.out; omega) (by show _ ≤ (1099511627776 : Int); omega)).mono ?_); rintro e we ⟨_, rfl, u, rfl, hend⟩; rw [HADV.out] at hend; have HSE := Lib.hid (HSB.out.end HJP.out hend); clear hend)))
            go_loop [19] (fun s19 => ∃ t : Nat, s19 = .int .i64 t ∧ t ≤ 256) (fun s19 => 256 - (intOf s19).toNat)
            case atStart => exact ⟨0, rfl, by omega⟩
            case round =>
              obtain ⟨t, rfl, ht⟩ := hrel
              by_cases htl : t < 256
              · have ct := (cell_of HSE.out.due t).trans (dueA_at D1 t htl)
                have hyb : Hid (0 < dueV D1 t + 1 → now < dueV D1 t) := by
                  intro h
                  unfold dueV at *
                  cases hd : D1 (t : Int) with
                  | none => simp [hd] at h
                  | some d => simpa using HSB.out.late HJP.out hd
                have hyd := dueV_bd HSB.out.clk.good t
                have hy1 := hyd.1
                have hy2 : dueV D1 t ≤ 1099511627776 := hyd.2
                clear hyd
                generalize dueV D1 t = y at *
                by_cases hy : 0 < y + 1
                · have hl := hyb.out hy
                  go_wp2
                  exact ⟨⟨t + 1, by simp, by omega⟩, by simp [intOf]; omega⟩
                · go_wp2
                  exact ⟨⟨t + 1, by simp, by omega⟩, by simp [intOf]; omega⟩
              · have hge : ¬ (t : Int) < 256 := by omega
                go_wp2_with (first
                  | (go_at_call 11; go_must (refine (num_any _ _).mono ?_; rintro e w' ⟨rfl, rfl⟩))
                  | (go_at_call 15; go_must (refine (same_any _ _ out _ HSE.out.i1 HSE.out.i2 (by have := HSB.out.out_le; omega)).mono ?_; rintro e w8 ⟨rfl, hf8⟩; have HF8 := Lib.hid hf8; clear hf8))
                  | (go_at_call 8; go_must (refine (known_any _).mono ?_; rintro e w' ⟨rfl, hf⟩; have HK := Lib.hid hf; clear hf)))
                go_ret
                exact ⟨rfl, (HSE.out.old.trans HF8.out).trans HK.out⟩
end Go.Proofs.Ytdhkcjjcgpkkgaa
