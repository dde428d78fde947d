/- ProductBack (function 4): the walk of the loop over the states, and what lies behind it. -/
import Derived.Test.YtkphhjekfimmlaaGreatBkb
namespace Go.Proofs.YtkphhjekfimmlaaGreat
open Go.RowKit Go.BigFrame

set_option maxHeartbeats 4000000 in
set_option maxRecDepth 100000 in
theorem backS_holds : backS.1 := by
  intro s cs w ao cap ca cc n cl HN HCL W0 CK HWF HAL h40 w1 HCK HOK HSM W2 hn1 hn4 HL cap' w3 g _ u40 u41 u42 u43 u44 u45 u46 u47 u48 u49 u50 u51 u52 u53 u54 u55 u56 u57 u58 u59 u60 u61 u62 u63 u64 u65 u66 u67 u68 u69 u70 u71 u72 _ _ _ w4 yb fb _ wA u10 u11 u85 u86 u87 u88 u89 u90 u91 u92 u93 u94 u95 u96 u97 u98 u99 u100 u101 u102 u103 u104 u105 u106 u107 u108 u109 u110 u111 u112 u113 u114 u115 u116 u117 u118 u119 u120 u121 u122 u123 u124 u125 u126 u127 u128 u129 u130 u131 w9 e1 hlt HSY9 HST0 HFW HB9 HSV HBY9 _ _ _ hge _ _
  go_loopw [12, 13] (fun s12 s13 wl => ∃ (i sb : Nat) (x : PS), s12 = .pointer (some ⟨sb, 0, none⟩) ∧ s13 = .int .i64 i ∧ i ≤ cl ∧ StR wl s yb sb x ∧ Frm [] w9 wl) (fun _ s13 _ => cl - (intOf s13).toNat)
  case atStart => exact ⟨0, fb, _, rfl, rfl, Nat.zero_le _, HST0.out, Frm.refl _ _⟩
  case round =>
    clear HST0
    obtain ⟨i, sb, x, rfl, rfl, hi, hst, hf⟩ := hrel
    have HST := Lib.hid hst; have HFR := Lib.hid hf
    clear hst hf
    obtain ⟨wq, hwq⟩ : ∃ wq, wq = wr := ⟨_, rfl⟩
    subst hwq
    have HSQ := Lib.hid (HSY9.out.frm HFR.out)
    have hle : (i : Int) ≤ (cl : Int) := by omega
    obtain ⟨z, hz⟩ : ∃ z, canon s x = z := ⟨_, rfl⟩
    obtain ⟨M, hM⟩ : ∃ M, (movesP s x).length = M := ⟨_, rfl⟩
    have hzok : PSok s z := hz ▸ canon_ok HST.out.ok
    have hzk : keyP s z = keyP s x := hz ▸ canon_key s x
    have hze : Eqv s x z := hz ▸ (eqv_canon s x).symm
    have hmr := moves_rel HOK.out HST.out.ok hzok hze
    have hzd : decP s (byt ⟨(keyP s x).toArray⟩) = some z := by rw [← hz]; exact dec_key HOK.out HST.out.ok
    have hM5 : M ≤ 5000 := hM ▸ moves_len HOK.out HST.out.ok
    have hMz : (movesP s z).length = M := hmr.1.symm.trans hM
    obtain ⟨K, hK⟩ : ∃ K, (⟨(keyP s x).toArray⟩ : ByteArray) = K := ⟨_, rfl⟩
    rw [hK] at hzd
    have HMR := Lib.hid hmr; have HZO := Lib.hid hzok; have HML := Lib.hid hM
    have CKx : Hid (∀ V, Frm [] wq V → Calls Tryz.prog 22 #[.pointer (some ⟨sb, 0, none⟩)] V (Ret (.string K) (Frm [] V))) := Lib.hid fun V hV => (pKey_any s yb fb sb x V (HSQ.out.frm hV) (HST.out.frm hV)).mono fun e w' h => by
      obtain ⟨v, rfl, rfl, h⟩ := h
      exact ⟨by rw [hK], h⟩
    have CKz : Hid (∀ V zb, Frm [] wq V → StR V s yb zb z → Calls Tryz.prog 22 #[.pointer (some ⟨zb, 0, none⟩)] V (Ret (.string K) (Frm [] V))) := Lib.hid fun V zb hV hs => (pKey_any s yb fb zb z V (HSQ.out.frm hV) hs).mono fun e w' h => by
      obtain ⟨v, rfl, rfl, h⟩ := h
      exact ⟨by rw [hzk, hK], h⟩
    have CD : Hid (∀ V, Frm [] wq V → Calls Tryz.prog 21 #[.pointer (some ⟨yb, 0, none⟩), .string K] V (RetV fun u w' => ∃ zb, u = .tuple #[.pointer (some ⟨zb, 0, none⟩), .int .i64 0] ∧ StR w' s yb zb z ∧ Frm [] V w')) := Lib.hid fun V hV => (pDecode_any s yb fb K V (HSQ.out.frm hV)).mono fun e w' h => by
      obtain ⟨u, rfl, hf, h⟩ := h
      rw [hzd] at h
      obtain ⟨zb, rfl, -, h⟩ := h
      exact ⟨_, rfl, zb, rfl, h, hf⟩
    have CLL : Hid (∀ V b y, Frm [] wq V → StR V s yb b y → (movesP s y).length = M → Calls Tryz.prog 23 #[.pointer (some ⟨yb, 0, none⟩), .pointer (some ⟨b, 0, none⟩)] V (RetV fun v w' => ∃ ao cap, v = .tuple #[.slice ao M cap, .bool true] ∧ Arr 4 MvAt w' (.slice ao M cap) (movesP s y) ∧ Frm [] V w')) := Lib.hid fun V b y hV hs hl => by
      have h := listed_any (some ⟨yb, 0, none⟩) (some ⟨b, 0, none⟩) (movesP s y) V (by omega) fun W hW => pMoves_any s yb fb b y W (HSQ.out.frm (hV.trans hW)) (hs.frm hW)
      unfold LsTo at h
      rw [hl] at h
      exact h
    have CL1 := Lib.hid (fun V hV => CLL.out V sb x hV (HST.out.frm hV) hM)
    have CL2 : Hid (∀ V zb, Frm [] wq V → StR V s yb zb z → _) := Lib.hid (fun V zb hV hs => CLL.out V zb z hV hs hMz)
    clear hz hM hzok hzk hze hmr hzd hK hMz CLL
    go_upto_region 31 with (first
      | (go_at_call 22; go_must (refine (CKx.out _ (Frm.refl _ _)).mono ?_; rintro e wa ⟨rfl, hfa⟩; have HFa := Lib.hid hfa; clear hfa))
      | (go_at_call 21; go_must (refine (CD.out _ HFa.out).mono ?_; clear CD; rintro e wb ⟨u, rfl, zb, rfl, hzs, hfb⟩; have HZS := Lib.hid hzs; have HFb := Lib.hid (HFa.out.trans hfb); clear hzs hfb))
      | (go_at_call 23; go_must (first
          | (refine (CL1.out _ HFb.out).mono ?_; clear CL1; rintro e wc ⟨u, rfl, al, kl, rfl, ha, hfc⟩; have HA := Lib.hid ha; have HFbc := Lib.hid hfc; have HFc := Lib.hid (HFb.out.trans hfc); clear ha hfc)
          | (refine (CL2.out _ zb HFc.out (HZS.out.frm HFbc.out)).mono ?_; clear CL2; rintro e wd ⟨u, rfl, ak, kk, rfl, ha, hfd⟩; have HB := Lib.hid ha; have HFcd := Lib.hid hfd; have HFd := Lib.hid (HFc.out.trans hfd); clear ha hfd))))
    have HZD := Lib.hid (HZS.out.frm (HFbc.out.trans HFcd.out))
    have HAD := Lib.hid (HA.out.frm fun _ _ _ h => MvAt.frm h HFcd.out)
    clear HZS HA HFbc HFcd HFa HFb HFc
    have CK1 := Lib.hid (CKz.out wd zb HFd.out HZD.out)
    go_upto_region 34 with (first
      | (go_at_call 22; go_must (first
          | (refine CK1.out.mono ?_; clear CK1; rintro e we ⟨rfl, hfe⟩; have HFde := Lib.hid hfe; have HFe := Lib.hid (HFd.out.trans hfe); clear hfe)
          | (refine (CKx.out _ HFe.out).mono ?_; rintro e wf ⟨rfl, hff⟩; have HFdf := Lib.hid (HFde.out.trans hff); have HFf := Lib.hid (HFe.out.trans hff); clear hff)))
      | (go_at_call 19; go_must (refine (num33_any _ _).mono ?_; rintro e w' ⟨rfl, rfl⟩)))
    have HZF := Lib.hid (HZD.out.frm HFdf.out)
    have HAF : Hid (∀ V, Frm [] wf V → Arr 4 MvAt V (.slice al M kl) (movesP s x)) := Lib.hid fun V hV => HAD.out.frm fun _ _ _ h => MvAt.frm h (HFdf.out.trans hV)
    have HBF : Hid (∀ V, Frm [] wf V → Arr 4 MvAt V (.slice ak M kk) (movesP s z)) := Lib.hid fun V hV => HB.out.frm fun _ _ _ h => MvAt.frm h (HFdf.out.trans hV)
    clear HZD HAD HB HFdf HFde HFe HFd CKx CKz
    go_loopw [20] (fun s20 wl => ∃ k : Nat, s20 = .int .i64 k ∧ k ≤ M ∧ Frm [] wf wl) (fun s20 _ => M - (intOf s20).toNat)
    case atStart => exact ⟨0, rfl, Nat.zero_le _, Frm.refl _ _⟩
    case round =>
      obtain ⟨k, rfl, hk, hf⟩ := hrel
      have HL1 := Lib.hid hf
      clear hf
      obtain ⟨wg, hwg⟩ : ∃ wg, wg = wr := ⟨_, rfl⟩
      subst hwg
      by_cases hlk : k < M
      · have hlk' : (k : Int) < (M : Int) := by omega
        obtain ⟨a, ha⟩ : ∃ a, (movesP s x)[k]? = some a := ⟨_, List.getElem?_eq_getElem (by rw [HML.out]; exact hlk)⟩
        obtain ⟨b, hb, hR⟩ := HMR.out.at ha
        obtain ⟨ab, ao1, e1, hm1⟩ := (HAF.out wf (Frm.refl _ _)).get ha
        obtain ⟨bb, bo1, e2, hm2⟩ := (HBF.out wf (Frm.refl _ _)).get hb
        subst e1 e2
        obtain ⟨mk, mr, ms, mp⟩ := a
        obtain ⟨bk, br, bs, bp⟩ := b
        obtain rfl : mk = bk := hR.kind
        obtain rfl : mr = br := hR.role
        obtain rfl : ms = bs := hR.step
        obtain ⟨KA, hKA⟩ : ∃ K, (⟨(keyP s (nextP s x ⟨mk, mr, ms, mp⟩)).toArray⟩ : ByteArray) = K := ⟨_, rfl⟩
        have hkb : (⟨(keyP s (nextP s z ⟨mk, mr, ms, bp⟩)).toArray⟩ : ByteArray) = KA := by rw [← hKA, hR.next.key]
        have HMA : Hid (∀ V, Frm [] wf V → MvAt V ab (ao1 + k * 4) ⟨mk, mr, ms, mp⟩) := Lib.hid fun V hV => hm1.frm hV
        have HMB : Hid (∀ V, Frm [] wf V → MvAt V bb (bo1 + k * 4) ⟨mk, mr, ms, bp⟩) := Lib.hid fun V hV => hm2.frm hV
        have CA : Hid (∀ V, Frm [] wf V → Calls Tryz.prog 24 #[.pointer (some ⟨yb, 0, none⟩), .pointer (some ⟨sb, 0, none⟩), mvV ⟨mk, mr, ms, mp⟩] V (RetV (StTo V s yb (nextP s x ⟨mk, mr, ms, mp⟩)))) := Lib.hid fun V hV => pDo_yes s yb fb sb x _ V (HSQ.out.frm (HFf.out.trans hV)) (HST.out.frm (HFf.out.trans hV)) (List.mem_of_getElem? ha)
        have CB : Hid (∀ V, Frm [] wf V → Calls Tryz.prog 24 #[.pointer (some ⟨yb, 0, none⟩), .pointer (some ⟨zb, 0, none⟩), mvV ⟨mk, mr, ms, bp⟩] V (RetV (StTo V s yb (nextP s z ⟨mk, mr, ms, bp⟩)))) := Lib.hid fun V hV => pDo_yes s yb fb zb z _ V (HSQ.out.frm (HFf.out.trans hV)) (HZF.out.frm hV) (List.mem_of_getElem? hb)
        have HKA := Lib.hid hKA; have HKB := Lib.hid hkb
        obtain ⟨m0, m1, m2, m3⟩ := HMA.out wg HL1.out
        dsimp only at m0 m1 m2 m3
        clear ha hb hR hm1 hm2 hKA hkb
        go_upto_region 38 with (go_at_call 24; go_must (first
          | (refine (CA.out _ HL1.out).mono ?_; clear CA; rintro e wh ⟨u, rfl, xa, rfl, hxs, hfh⟩; have HXA := Lib.hid hxs; have HFh := Lib.hid (HL1.out.trans hfh); clear hxs hfh m0 m1 m2 m3; obtain ⟨m0, m1, m2, m3⟩ := HMB.out wh HFh.out; dsimp only at m0 m1 m2 m3)
          | (refine (CB.out _ HFh.out).mono ?_; clear CB; rintro e wi ⟨u, rfl, xz, rfl, hxs, hfi⟩; have HXZ := Lib.hid hxs; have HFhi := Lib.hid hfi; have HFi := Lib.hid (HFh.out.trans hfi); clear hxs hfi m0 m1 m2 m3)))
        have CKa : Hid (∀ V, Frm [] wi V → Calls Tryz.prog 22 #[.pointer (some ⟨xa, 0, none⟩)] V (Ret (.string KA) (Frm [] V))) := Lib.hid fun V hV => (pKey_any s yb fb xa _ V (HSQ.out.frm (HFf.out.trans (HFi.out.trans hV))) (HXA.out.frm (HFhi.out.trans hV))).mono fun e w' h => by
          obtain ⟨v, rfl, rfl, h⟩ := h
          exact ⟨by rw [HKA.out], h⟩
        have CKb : Hid (∀ V, Frm [] wi V → Calls Tryz.prog 22 #[.pointer (some ⟨xz, 0, none⟩)] V (Ret (.string KA) (Frm [] V))) := Lib.hid fun V hV => (pKey_any s yb fb xz _ V (HSQ.out.frm (HFf.out.trans (HFi.out.trans hV))) (HXZ.out.frm hV)).mono fun e w' h => by
          obtain ⟨v, rfl, rfl, h⟩ := h
          exact ⟨by rw [HKB.out], h⟩
        refine wp_region_cq (by kernel_rfl) (by kernel_rfl) ?_
        repeat (first
          | go_big_quiet_skip
          | (refine wpQuiet_want (by rfl) (fun K hK => ?_)
             first
              | (refine quiet_move _ (by rfl) (hK _ ?_))
              | (refine quiet_assign _ (by rfl) (hK _ ?_))
              | (refine cq_call (.int .i64 0) 19 #[.int .i64 0] (fun w' hC => ?_) (fun w' hC => Ret.cq (num33_frm 0 w') (fun w'' h => hC.trans h)) (hK _ ?_)
                 · go_simp)
              | (refine cq_call (.string KA) 22 #[.pointer (some ⟨xa, 0, none⟩)] (fun w' hC => ?_) (fun w' hC => Ret.cq (CKa.out w' hC) (fun w'' h => hC.trans h)) (hK _ ?_)
                 · go_simp)
              | (refine cq_call (.string KA) 22 #[.pointer (some ⟨xz, 0, none⟩)] (fun w' hC => ?_) (fun w' hC => Ret.cq (CKb.out w' hC) (fun w'' h => hC.trans h)) (hK _ ?_)
                 · go_simp)
              | (apply Exists.intro
                 refine ⟨fun w' hC => ?_, hK _ ?_⟩
                 · (unfold Oper.quietAt
                    obtain ⟨m0, m1, m2, m3⟩ := HMA.out w' (HFi.out.trans hC); obtain ⟨n0, n1, n2, n3⟩ := HMB.out w' (HFi.out.trans hC); dsimp only at m0 m1 m2 m3 n0 n1 n2 n3
                    clear hC
                    go_simp
                    try exact ⟨rfl, rfl⟩
                    try rfl))
             clear hK K
             try simp only [Act.put, List.setIfInBounds_toArray, List.set_cons_zero, List.set_cons_succ, Act.eval, Array.getD_eq_getD_getElem?, List.getElem?_toArray, List.getElem?_cons_zero, List.getElem?_cons_succ, Option.getD_some]))
        refine wpQuiet_nil ?_
        intro wj hfj
        have HFj := Lib.hid (HFi.out.trans hfj)
        clear hfj
        go_wp2
        exact ⟨⟨k + 1, congrArg (Value.int .i64) (by omega), hlk, HFj.out⟩, by simp [intOf]; omega⟩
      · obtain rfl : M = k := by omega
        have hge : ¬ (M : Int) < (M : Int) := by omega
        have HQ : Hid (Frm [] w9 wg) := Lib.hid (HFR.out.trans (HFf.out.trans HL1.out))
        have CSe : Hid (∀ V, Frm [] w9 V → Calls Tryz.prog 26 #[.pointer (some ⟨yb, 0, none⟩)] V (RetV (OwTo V s))) := Lib.hid fun V hV => pSession_any s yb fb V (HSY9.out.frm hV)
        have CSm : Hid (∀ v1 v2 V, SesV V v1 s → SesV V v2 s → Calls Tryz.prog 25 #[v1, v2] V (Ret (.bool true) (Frm [] V))) := Lib.hid fun v1 v2 V h1 h2 => aSameS_any v1 v2 s V h1 h2 (by have := HOK.out.n4; omega) (fun r hr => by
          have := HSM.out.r r hr
          exact ⟨by have := this.s; omega, by have := this.c; omega, by have := this.t; omega⟩)
        have CKn : Hid (∀ V, Calls Tryz.prog 14 #[] V (Ret (.bool true) (Frm [] V))) := Lib.hid known33_any
        by_cases hci : i = cl
        · subst hci
          go_upto_region 44 with fail
          refine heldG_start (by kernel_rfl) ?_
          refine heldG_take (i := 0) ?_ rfl (by kernel_rfl) (by kernel_rfl) (by kernel_rfl) (fun _ _ _ h => h) (by rfl) (fun w' hC => ?_) ?_
          rotate_left
          · skip
            have hz := HB9.out _ (HQ.out.trans ((Frm.refl [] wg).drew.trans hC))
            have z0 := cell_of hz 0
            have z1 := cell_of hz 1
            have z2 := cell_of hz 2
            have z3 := cell_of hz 3
            clear hz
            clear hC
            go_simp
            try rfl
          try simp only [List.getElem_toArray, List.getElem_cons_zero, Act.put, List.setIfInBounds_toArray, List.set_cons_zero, List.set_cons_succ]
          refine heldG_take (i := 2) ?_ rfl (by kernel_rfl) (by kernel_rfl) (by kernel_rfl) (fun _ _ _ h => h) (by rfl) (fun w' hC => ?_) ?_
          rotate_left
          · skip
            have hz := HB9.out _ (HQ.out.trans ((Frm.refl [] wg).drew.trans hC))
            have z0 := cell_of hz 0
            have z1 := cell_of hz 1
            have z2 := cell_of hz 2
            have z3 := cell_of hz 3
            clear hz
            clear hC
            go_simp
            try rfl
          try simp only [List.getElem_toArray, List.getElem_cons_zero, List.getElem_cons_succ, Act.put, List.setIfInBounds_toArray, List.set_cons_zero, List.set_cons_succ]
          refine heldG_step (i := 1) rfl (by kernel_rfl) (by rfl) (fun K' hK' => ?_)
          go_simp
          (refine (CSe.out _ HQ.out.drew).mono ?_; rintro e wS ⟨v, rfl, ho⟩; obtain ⟨⟨g2, c2, rfl⟩, hfS, hses⟩ := ho; have HSS := Lib.hid (hses wS (Agree.refl _ _)); have HFS := Lib.hid hfS; have HQS := Lib.hid (HQ.out.drew.trans hfS); clear hses hfS)
          refine hK'.out _ _ (HFS.out) ?_
          clear hK' K'
          try simp only [List.getElem_toArray, List.getElem_cons_zero, List.getElem_cons_succ, Act.put, List.setIfInBounds_toArray, List.set_cons_zero, List.set_cons_succ]
          refine heldG_step (i := 3) rfl (by kernel_rfl) (by rfl) (fun K' hK' => ?_)
          go_simp
          (refine (CSm.out _ _ wS HSS.out (HSV.out wS HQS.out)).mono ?_; rintro e wT ⟨rfl, hfT⟩; have HFT := Lib.hid hfT; have HQT := Lib.hid (HQS.out.trans hfT); clear hfT)
          refine hK'.out _ _ (HFT.out) ?_
          clear hK' K'
          try simp only [List.getElem_toArray, List.getElem_cons_zero, List.getElem_cons_succ, Act.put, List.setIfInBounds_toArray, List.set_cons_zero, List.set_cons_succ]
          refine heldG_take (i := 4) ?_ rfl (by kernel_rfl) (by kernel_rfl) (by kernel_rfl) (fun _ _ _ h => h) (by rfl) (fun w' hC => ?_) ?_
          rotate_left
          · skip
            skip
            clear hC
            go_simp
            try rfl
          try simp only [List.getElem_toArray, List.getElem_cons_zero, List.getElem_cons_succ, Act.put, List.setIfInBounds_toArray, List.set_cons_zero, List.set_cons_succ]
          refine heldG_step (i := 5) rfl (by kernel_rfl) (by rfl) (fun K' hK' => ?_)
          go_simp
          (refine (CKn.out _).mono ?_; rintro e wU ⟨rfl, hfU⟩; have HFU := Lib.hid hfU; have HQU := Lib.hid (HQT.out.trans hfU); clear hfU)
          refine hK'.out _ _ (HFU.out) ?_
          clear hK' K'
          try simp only [List.getElem_toArray, List.getElem_cons_zero, List.getElem_cons_succ, Act.put, List.setIfInBounds_toArray, List.set_cons_zero, List.set_cons_succ]
          refine heldG_take (i := 6) ?_ rfl (by kernel_rfl) (by kernel_rfl) (by kernel_rfl) (fun _ _ _ h => h) (by rfl) (fun w' hC => ?_) ?_
          rotate_left
          · skip
            skip
            clear hC
            go_simp
            try rfl
          try simp only [List.getElem_toArray, List.getElem_cons_zero, List.getElem_cons_succ, Act.put, List.setIfInBounds_toArray, List.set_cons_zero, List.set_cons_succ]
          refine heldG_take (i := 7) ?_ rfl (by kernel_rfl) (by kernel_rfl) (by kernel_rfl) (fun _ _ _ h => h) (by rfl) (fun w' hC => ?_) ?_
          rotate_left
          · skip
            skip
            clear hC
            go_simp
            try rfl
          try simp only [List.getElem_toArray, List.getElem_cons_zero, List.getElem_cons_succ, Act.put, List.setIfInBounds_toArray, List.set_cons_zero, List.set_cons_succ]
          refine wpAnyH_done (by kernel_rfl) ?_ _
          go_wp2
          go_ret
          exact ⟨rfl, HFW.out.trans HQU.out⟩
        · have hci' : ¬ (i : Int) = (cl : Int) := by omega
          have hcb : ((i : Int) == (cl : Int)) = false := by rw [beq_eq_false_iff_ne]; exact hci'
          by_cases hM0 : M = 0
          · subst hM0
            go_upto_region 44 with fail
            refine heldG_start (by kernel_rfl) ?_
            refine heldG_take (i := 0) ?_ rfl (by kernel_rfl) (by kernel_rfl) (by kernel_rfl) (fun _ _ _ h => h) (by rfl) (fun w' hC => ?_) ?_
            rotate_left
            · skip
              have hz := HB9.out _ (HQ.out.trans ((Frm.refl [] wg).drew.trans hC))
              have z0 := cell_of hz 0
              have z1 := cell_of hz 1
              have z2 := cell_of hz 2
              have z3 := cell_of hz 3
              clear hz
              clear hC
              go_simp
              try rfl
            try simp only [List.getElem_toArray, List.getElem_cons_zero, Act.put, List.setIfInBounds_toArray, List.set_cons_zero, List.set_cons_succ]
            refine heldG_take (i := 2) ?_ rfl (by kernel_rfl) (by kernel_rfl) (by kernel_rfl) (fun _ _ _ h => h) (by rfl) (fun w' hC => ?_) ?_
            rotate_left
            · skip
              have hz := HB9.out _ (HQ.out.trans ((Frm.refl [] wg).drew.trans hC))
              have z0 := cell_of hz 0
              have z1 := cell_of hz 1
              have z2 := cell_of hz 2
              have z3 := cell_of hz 3
              clear hz
              clear hC
              go_simp
              try rfl
            try simp only [List.getElem_toArray, List.getElem_cons_zero, List.getElem_cons_succ, Act.put, List.setIfInBounds_toArray, List.set_cons_zero, List.set_cons_succ]
            refine heldG_step (i := 1) rfl (by kernel_rfl) (by rfl) (fun K' hK' => ?_)
            go_simp
            (refine (CSe.out _ HQ.out.drew).mono ?_; rintro e wS ⟨v, rfl, ho⟩; obtain ⟨⟨g2, c2, rfl⟩, hfS, hses⟩ := ho; have HSS := Lib.hid (hses wS (Agree.refl _ _)); have HFS := Lib.hid hfS; have HQS := Lib.hid (HQ.out.drew.trans hfS); clear hses hfS)
            refine hK'.out _ _ (HFS.out) ?_
            clear hK' K'
            try simp only [List.getElem_toArray, List.getElem_cons_zero, List.getElem_cons_succ, Act.put, List.setIfInBounds_toArray, List.set_cons_zero, List.set_cons_succ]
            refine heldG_step (i := 3) rfl (by kernel_rfl) (by rfl) (fun K' hK' => ?_)
            go_simp
            (refine (CSm.out _ _ wS HSS.out (HSV.out wS HQS.out)).mono ?_; rintro e wT ⟨rfl, hfT⟩; have HFT := Lib.hid hfT; have HQT := Lib.hid (HQS.out.trans hfT); clear hfT)
            refine hK'.out _ _ (HFT.out) ?_
            clear hK' K'
            try simp only [List.getElem_toArray, List.getElem_cons_zero, List.getElem_cons_succ, Act.put, List.setIfInBounds_toArray, List.set_cons_zero, List.set_cons_succ]
            refine heldG_take (i := 4) ?_ rfl (by kernel_rfl) (by kernel_rfl) (by kernel_rfl) (fun _ _ _ h => h) (by rfl) (fun w' hC => ?_) ?_
            rotate_left
            · skip
              skip
              clear hC
              go_simp
              try rfl
            try simp only [List.getElem_toArray, List.getElem_cons_zero, List.getElem_cons_succ, Act.put, List.setIfInBounds_toArray, List.set_cons_zero, List.set_cons_succ]
            refine heldG_step (i := 5) rfl (by kernel_rfl) (by rfl) (fun K' hK' => ?_)
            go_simp
            (refine (CKn.out _).mono ?_; rintro e wU ⟨rfl, hfU⟩; have HFU := Lib.hid hfU; have HQU := Lib.hid (HQT.out.trans hfU); clear hfU)
            refine hK'.out _ _ (HFU.out) ?_
            clear hK' K'
            try simp only [List.getElem_toArray, List.getElem_cons_zero, List.getElem_cons_succ, Act.put, List.setIfInBounds_toArray, List.set_cons_zero, List.set_cons_succ]
            refine heldG_take (i := 6) ?_ rfl (by kernel_rfl) (by kernel_rfl) (by kernel_rfl) (fun _ _ _ h => h) (by rfl) (fun w' hC => ?_) ?_
            rotate_left
            · skip
              skip
              clear hC
              go_simp
              try rfl
            try simp only [List.getElem_toArray, List.getElem_cons_zero, List.getElem_cons_succ, Act.put, List.setIfInBounds_toArray, List.set_cons_zero, List.set_cons_succ]
            refine heldG_take (i := 7) ?_ rfl (by kernel_rfl) (by kernel_rfl) (by kernel_rfl) (fun _ _ _ h => h) (by rfl) (fun w' hC => ?_) ?_
            rotate_left
            · skip
              skip
              clear hC
              go_simp
              try rfl
            try simp only [List.getElem_toArray, List.getElem_cons_zero, List.getElem_cons_succ, Act.put, List.setIfInBounds_toArray, List.set_cons_zero, List.set_cons_succ]
            refine wpAnyH_done (by kernel_rfl) ?_ _
            go_wp2
            go_ret
            exact ⟨rfl, HFW.out.trans HQU.out⟩
          · have hM0' : ¬ (M : Int) = 0 := by omega
            have hMb : ((M : Int) == 0) = false := by rw [beq_eq_false_iff_ne]; exact hM0'
            have hlt : i < cl := by omega
            have hlt' : (i : Int) < (cl : Int) := by omega
            clear CSe CSm CKn
            obtain ⟨c, hc⟩ : ∃ c, cs[i]? = some c := ⟨_, List.getElem?_eq_getElem (by rw [HCL.out]; exact hlt)⟩
            have hbx : ∃ b o, ca = some ⟨b, o, none⟩ ∧ wg.cell? ⟨b, o + i, none⟩ = some (.int .u8 (c.toNat : Int)) := by
              obtain ⟨_, _, e3, -, hbx⟩ := HBY9.out wg HQ.out
              obtain ⟨b, o, e, h⟩ := hbx i c hc
              injection e3 with e4
              exact ⟨b, o, e4.trans e, h⟩
            obtain ⟨cb, co, e7, y0⟩ := hbx
            subst e7
            have hwc : wrap64 (c.toNat : Int) = (c.toNat : Int) := by have := c.toNat_lt; unfold wrap64; omega
            have hMp : 0 < M := by omega
            obtain ⟨r, hr⟩ : ∃ r, c.toNat % M = r := ⟨_, rfl⟩
            have hrM : r < M := hr ▸ Nat.mod_lt _ hMp
            have hrM' : (r : Int) < (M : Int) := by omega
            have hrt : Int.tmod (c.toNat : Int) (M : Int) = (r : Int) := by rw [← hr]; rfl
            have hrt2 : (((c.toNat % M : Nat) : Int)) = (r : Int) := by rw [hr]
            obtain ⟨m, hm⟩ : ∃ m, (movesP s x)[r]? = some m := ⟨_, List.getElem?_eq_getElem (by rw [HML.out]; exact hrM)⟩
            obtain ⟨ab, ao1, e1, hm1⟩ := (HAF.out wg HL1.out).get hm
            subst e1
            obtain ⟨mk, mr, ms, mp⟩ := m
            obtain ⟨m0, m1, m2, m3⟩ := hm1
            dsimp only at m0 m1 m2 m3
            have CA := Lib.hid (pDo_yes s yb fb sb x ⟨mk, mr, ms, mp⟩ wg (HSQ.out.frm (HFf.out.trans HL1.out)) (HST.out.frm (HFf.out.trans HL1.out)) (List.mem_of_getElem? hm))
            clear hc hm hr
            go_wp2_with (first
              | (go_at_call 24; go_must (refine CA.out.mono ?_; clear CA; rintro e wh ⟨u, rfl, xa, rfl, hxs, hfh⟩; have HXA := Lib.hid hxs; have HFh := Lib.hid hfh; clear hxs hfh m0 m1 m2 m3))
              | (go_at_call 19; go_must (refine (num33_any _ _).mono ?_; rintro e w' ⟨rfl, rfl⟩)))
            exact ⟨⟨i + 1, xa, _, rfl, congrArg (Value.int .i64) (by omega), hlt, HXA.out, HQ.out.trans HFh.out⟩, by simp [intOf]; omega⟩
theorem back_any (v cv : Value) (s : SesD) (cs : List UInt8) (w : World) (h : SesV w v s) (hw : WfS s) (hb : Byts w cv cs) : Calls Tryz.prog 4 #[v, cv] w (Ret (.bool true) (Frm [] w)) := backS.2 backS_holds v cv s cs w h hw hb
end Go.Proofs.YtkphhjekfimmlaaGreat
