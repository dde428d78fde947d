/- known. -/
import Derived.Test.YtomjnbcaofebfaaKn2
namespace Go.Proofs.Ytomjnbcaofebfaa
open Go.RowKit Go.Maps Go.BigFrame

set_option maxHeartbeats 4000000 in
set_option maxRecDepth 100000 in
theorem known_any (w : World) : Calls Try.prog 8 #[] w (Ret (.bool true) (Frm [] w)) := by
  have kc := fun (w : World) (C : Array Value) (n c : Nat) => Lib.run_convert_bytes_const (P := Try.prog) w 22 5 C n c Try.underlying22 Try.underlying5
  have CA := Lib.hid (sp1 w)
  have CB := Lib.hid sp2
  have CC := Lib.hid sp3
  go_enter Try.func8, Try.ntmps8
  go_upto_region 5 with (first
    | (go_at_call 9; go_must (first
        | (refine CA.out.mono ?_; clear CA; rintro e w1 ⟨v, rfl, aA, cA, rfl, hp, hf⟩; have PA := Lib.hid hp; have F1 := Lib.hid hf; clear hp hf)
        | (refine (CB.out w1).mono ?_; clear CB; rintro e w2 ⟨v, rfl, aB, cB, rfl, hp, hf⟩; have PB := Lib.hid hp; have F2 := Lib.hid (F1.out.trans hf); have PA := Lib.hid (PA.out.frm hf (by simp)); clear hp hf)
        | (refine (CC.out w2).mono ?_; clear CC; rintro e w3 ⟨v, rfl, aC, cC, rfl, hp, hf⟩; have F3 := Lib.hid (F2.out.trans hf); have PA := Lib.hid (PA.out.frm hf (by simp)); have PB := Lib.hid (PB.out.frm hf (by simp)); clear hp hf)))
    | (go_at_call 26; go_must (refine (part_l 7 0 1 [] w3).mono ?_; rintro e w4 ⟨v, rfl, a4, c4, rfl, hb, hf⟩; have B4 := Lib.hid hb; have F4 := Lib.hid (F3.out.trans hf); have PA := Lib.hid (PA.out.frm hf (by simp)); have PB := Lib.hid (PB.out.frm hf (by simp)); clear hb hf))
    | (go_at_call 17; go_must (refine (pk1 _ w4 B4.out).mono ?_; rintro e w5 ⟨v, rfl, aP, cP, rfl, hl, hf⟩; have HL := Lib.hid hl; have F5 := Lib.hid (F4.out.trans hf); have PA := Lib.hid (PA.out.frm hf (by simp)); have PB := Lib.hid (PB.out.frm hf (by simp)); clear hl hf)))
  obtain ⟨lp, hlp, hl6, hl4⟩ := HL.out
  obtain ⟨vp, hrp, hbp, ⟨ap, cp, rfl⟩, -⟩ := hlp.cutH (hi := 4) (j := 4) rfl (by omega)
  rw [hl4] at hbp hrp
  have hrq : ∀ W, (Instr.sliceAt 22 (.slice aP 6 cP) none (some (.int .i64 4)) none).run Try.prog W = .ok (.slice ap 4 cp) W := hrp
  clear hrp
  have HBP := Lib.hid hbp
  have P6 := Lib.hid (part_l 7 0 3 [97, 98]); have P7 := Lib.hid (part_l 7 1 3 [99, 100]); have P8 := Lib.hid (part_l 7 2 3 [101]); have P10 := Lib.hid (part_l 7 0 1 [])
  have K1 : Hid True := Lib.hid trivial; have K2 : Hid True := Lib.hid trivial
  clear HL hlp hl6 hl4 hbp kc F1 F2 F3 F4 B4
  go_upto_region 7 with (first
    | (go_at_call 12; go_must (refine (num_any _ _).mono ?_; rintro e w' ⟨rfl, rfl⟩))
    | (go_at_call 26; go_must (first
        | (refine (P6.out w5).mono ?_; clear P6; rintro e w6 ⟨v, rfl, a6, c6, rfl, hb, hf⟩; have B6 := Lib.hid hb; have G6 := Lib.hid hf; clear hb hf)
        | (refine (P7.out w6).mono ?_; clear P7; rintro e w7 ⟨v, rfl, a7, c7, rfl, hb, hf⟩; have B7 := Lib.hid hb; have G7 := Lib.hid hf; clear hb hf)
        | (refine (P8.out w7).mono ?_; clear P8; rintro e w8 ⟨v, rfl, a8, c8, rfl, hb, hf⟩; have B8 := Lib.hid hb; have G8 := Lib.hid hf; clear hb hf)
        | (refine (P10.out w9).mono ?_; clear P10; rintro e w10 ⟨v, rfl, a10, c10, rfl, hb, hf⟩; have B10 := Lib.hid hb; have G10 := Lib.hid hf; clear hb hf)))
    | (go_at_call 11; go_must (first
        | (clear K1; refine (kp1 PA.out B6.out B7.out B8.out G6.out G7.out G8.out).mono ?_; rintro e w9 ⟨rfl, hf⟩; have G9 := Lib.hid hf; clear hf)
        | (clear K2; refine (kp2 PB.out B10.out G9.out G10.out).mono ?_; rintro e w11 ⟨rfl, hf⟩; have G11 := Lib.hid hf; have hcv : (convert 22 9 (.slice ap 4 cp)).run Try.prog w11 = .ok (.string { data := #[0, 7, 0, 1] }) w11 := (HBP.out.frm0 G11.out).conv; clear hf))))
  have HW11 : Hid (Frm [] w w11) := Lib.hid (F5.out.trans G11.out)
  clear hcv hrq HBP PA PB F5 B6 B7 B8 B10 G6 G7 G8 G9 G10 G11
  have Q1 := Lib.hid (part_l 7 2 3 [101])
  have Q2 := Lib.hid (part_l 7 2 3 [101])
  have Q3 := Lib.hid (part_l 7 2 3 [102])
  have Q4 := Lib.hid (part_l 7 0 2 [97])
  have Q5 := Lib.hid (part_l 8 0 2 [97, 98, 99])
  have Q6 := Lib.hid (part_l 9 0 2 [97])
  have Q7 := Lib.hid (part_l 7 0 3 [97, 98, 99, 100, 101, 102, 103])
  have Q8 := Lib.hid (part_l 7 0 3 [97, 98])
  have Q9 := Lib.hid (part_l 7 1 3 [99, 100])
  go_upto_region 8 with (go_at_call 13; go_must (refine (k_new w w11 HW11.out).mono ?_; rintro e w12 ⟨v, rfl, xb, mo, rfl, hk⟩; have X0 := Lib.hid hk; clear hk))
  go_upto_region 10 with (first
    | (go_at_call 12; go_must (refine (num_any _ _).mono ?_; rintro e w' ⟨rfl, rfl⟩))
    | (go_at_call 26; go_must (first
        | (refine (Q1.out w12).mono ?_; clear Q1; rintro e p1 ⟨v, rfl, q1, r1, rfl, hb, hf⟩; have B1 := Lib.hid hb; have Y1 := Lib.hid (X0.out.frm0 hf); clear hb hf X0)
        | (refine (Q2.out x1).mono ?_; clear Q2; rintro e p2 ⟨v, rfl, q2, r2, rfl, hb, hf⟩; have B2 := Lib.hid hb; have Y2 := Lib.hid (X1.out.frm0 hf); clear hb hf X1)
        | (refine (Q3.out x2).mono ?_; clear Q3; rintro e p3 ⟨v, rfl, q3, r3, rfl, hb, hf⟩; have B3 := Lib.hid hb; have Y3 := Lib.hid (X2.out.frm0 hf); clear hb hf X2)
        | (refine (Q4.out x3).mono ?_; clear Q4; rintro e p4 ⟨v, rfl, q4, r4, rfl, hb, hf⟩; have B4 := Lib.hid hb; have Y4 := Lib.hid (X3.out.frm0 hf); clear hb hf X3)))
    | (go_at_call 14; go_must (first
        | (refine (k_adds Y1.out B1.out _root_.Go.Proofs.Ytomjnbcaofebfaa.a1 (by simp) (by omega)).mono ?_; rintro e x1 ⟨rfl, h⟩; have X1 := Lib.hid h; clear h Y1 B1)
        | (refine (k_adds Y2.out B2.out _root_.Go.Proofs.Ytomjnbcaofebfaa.a2 (by simp) (by omega)).mono ?_; rintro e x2 ⟨rfl, h⟩; have X2 := Lib.hid h; clear h Y2 B2)
        | (refine (k_adds Y3.out B3.out _root_.Go.Proofs.Ytomjnbcaofebfaa.a3 (by simp) (by omega)).mono ?_; rintro e x3 ⟨rfl, h⟩; have X3 := Lib.hid h; clear h Y3 B3)
        | (refine (k_adds Y4.out B4.out _root_.Go.Proofs.Ytomjnbcaofebfaa.a4 (by simp) (by omega)).mono ?_; rintro e x4 ⟨rfl, h⟩; have X4 := Lib.hid h; clear h Y4 B4)))
    | (go_at_call 23; go_must (refine (k_mis X4.out 7 ⟨3, [(2, [101])]⟩ [0, 1] rfl (by decide) (by decide) m1).mono ?_; rintro e w21 ⟨v, rfl, bl, sv, rfl, hm, hf, -⟩; have HM := Lib.hid hm; have Xa := Lib.hid (X4.out.frm0 hf); clear hm hf X4))
    | (go_at_call 22; go_must (refine (over_any bl sv _ [0, 1] 9 _ (HM.out.frm0 ((Frm.refl [] w21).alloc _)) (ints_lit _ [0, 1] w21.heap.size 2 rfl (heap_alloc_new w21 _)) (.inl (by decide)) (by decide)).mono ?_; rintro e w22 ⟨rfl, hf⟩; have Xb := Lib.hid (Xa.out.frm0 (((Frm.refl [] w21).alloc _).trans hf)); clear hf Xa HM))
    | (go_at_call 16; go_must (refine (k_held Xb.out 1 h1').mono ?_; rintro e w23 ⟨rfl, hf⟩; have Xc := Lib.hid (Xb.out.frm0 hf); clear hf Xb)))
  go_wp2_with (first
    | (go_at_call 26; go_must (first
        | (refine (Q5.out w23).mono ?_; clear Q5; rintro e p5 ⟨v, rfl, q5, r5, rfl, hb, hf⟩; have B5 := Lib.hid hb; have Y5 := Lib.hid (Xc.out.frm0 hf); clear hb hf Xc)
        | (refine (Q6.out x5).mono ?_; clear Q6; rintro e p6 ⟨v, rfl, q6, r6, rfl, hb, hf⟩; have B6 := Lib.hid hb; have Y6 := Lib.hid (X5.out.frm0 hf); clear hb hf X5)
        | (refine (Q7.out x6).mono ?_; clear Q7; rintro e p7 ⟨v, rfl, q7, r7, rfl, hb, hf⟩; have B7 := Lib.hid hb; have Y7 := Lib.hid (X6.out.frm0 hf); clear hb hf X6)
        | (refine (Q8.out x7).mono ?_; clear Q8; rintro e p8 ⟨v, rfl, q8, r8, rfl, hb, hf⟩; have B8 := Lib.hid hb; have Y8 := Lib.hid (X7.out.frm0 hf); clear hb hf X7)
        | (refine (Q9.out x8).mono ?_; clear Q9; rintro e p9 ⟨v, rfl, q9, r9, rfl, hb, hf⟩; have B9 := Lib.hid hb; have Y9 := Lib.hid (X8.out.frm0 hf); clear hb hf X8)))
    | (go_at_call 14; go_must (first
        | (refine (k_adds Y5.out B5.out _root_.Go.Proofs.Ytomjnbcaofebfaa.a5 (by simp) (by omega)).mono ?_; rintro e x5 ⟨rfl, h⟩; have X5 := Lib.hid h; clear h Y5 B5)
        | (refine (k_adds Y6.out B6.out _root_.Go.Proofs.Ytomjnbcaofebfaa.a6 (by simp) (by omega)).mono ?_; rintro e x6 ⟨rfl, h⟩; have X6 := Lib.hid h; clear h Y6 B6)
        | (refine (k_adds Y7.out B7.out _root_.Go.Proofs.Ytomjnbcaofebfaa.a7 (by simp) (by omega)).mono ?_; rintro e x7 ⟨rfl, h⟩; have X7 := Lib.hid h; clear h Y7 B7)
        | (refine (k_adds Y8.out B8.out _root_.Go.Proofs.Ytomjnbcaofebfaa.a8 (by simp) (by omega)).mono ?_; rintro e x8 ⟨rfl, h⟩; have X8 := Lib.hid h; clear h Y8 B8)
        | (refine (k_adds Y9.out B9.out _root_.Go.Proofs.Ytomjnbcaofebfaa.a9 (by simp) (by omega)).mono ?_; rintro e x9 ⟨rfl, h⟩; have X9 := Lib.hid h; clear h Y9 B9)))
    | (go_at_call 15; go_must (have KO := k_open X9.out; rw [o4] at KO; refine KO.mono ?_; clear KO; rintro e w30 ⟨v, rfl, hv⟩; obtain ⟨ao, co, rfl⟩ := own_shape hv.1; have HI := Lib.hid hv.1; have Xd := Lib.hid (X9.out.frm0 hv.2); clear hv X9))
    | (go_at_call 27; go_must (refine (ints_ok _ _ [8] _ ((Ints.of_own HI.out).frm0 ((Frm.refl [] w30).alloc _)) (ints_lit _ [8] w30.heap.size 1 rfl (heap_alloc_new w30 _)) (by decide)).mono ?_; rintro e w31 ⟨rfl, hf⟩; have HZ : Hid (Frm [] w w31) := Lib.hid ((Xd.out.fr.alloc _).trans hf); clear hf)))
  go_ret
  exact ⟨rfl, HZ.out⟩
end Go.Proofs.Ytomjnbcaofebfaa
