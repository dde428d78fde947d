/- FragmentHolds: the walk. -/
import Derived.Test.YtomjnbcaofebfaaHoldA
namespace Go.Proofs.Ytomjnbcaofebfaa
open Go.RowKit Go.Maps Go.BigFrame

theorem new_at (w : World) : Calls Try.prog 13 #[.int .i64 1, .int .i64 300] w (RetV fun v w' => ∃ xb mo, v = .tuple #[.pointer (some ⟨xb, 0, none⟩), .int .i64 0] ∧ BX w' xb mo 1 300 0 [] (fun _ => 0) ∧ w.heap.size ≤ mo ∧ Frm [] w w') := by
  have hmm := @run_makeMap Try.prog
  have h1 : wi 1 1 64 = true := by decide
  have h2 : wi 300 1 1048576 = true := by decide
  go_enter Try.func13, Try.ntmps13
  go_wp2_with (go_at_call 28; go_must (refine (within_any _ _ _ _).mono ?_; rintro e w' ⟨rfl, rfl⟩))
  go_ret2
  refine ⟨_, rfl, w.heap.size + 1, w.heap.size, rfl, ⟨alloc_top (by simp), (IM.made w _).frm0 ((Frm.refl [] _).alloc _), (fun t m ht => by cases ht), (fun t m ht => by cases ht), (fun t t' m m' ht => by cases ht), (by decide), (by decide), (by decide), (by decide), ?_, ?_, (fun t m ht => by cases ht), by omega⟩, Nat.le_refl _, ((Frm.refl [] w).alloc _).alloc _⟩
  · simp
  · simp [heldS]
/-- what stands at a round's head -/
structure LP (WD : World) (m : Int) (b : List UInt8) (s n : Nat) (xb mo c : Nat) (lq bq : List PV) (vl vb : Value) (wr : World) : Prop where
  fr : Frm [] WD wr
  ol : wr.ownsRow WD.heap.size 38 4 vl lq.length (flatQ lq)
  ob : wr.ownsRow WD.heap.size 38 4 vb bq.length (flatQ bq)
  gd : Gd WD (lq ++ bq)
  lb : LB m b s n (lq.map (·.1)) (bq.map (·.1))
  bx : ∃ K N', BX wr xb mo 1 300 N' (boxS m n (lq.map (·.1)) (bq.map (·.1))) K ∧ Lo WD.heap.size mo (boxS m n (lq.map (·.1)) (bq.map (·.1))) K ∧ N' ≤ c
theorem boxS_nil (m : Int) (n : Nat) (lq : List Prt) : boxS m n lq [] = [] := by unfold boxS; split <;> rfl
theorem LP.mono {WD : World} {m : Int} {b : List UInt8} {s n : Nat} {xb mo c c' : Nat} {lq bq : List PV} {vl vb : Value} {wr : World} (h : LP WD m b s n xb mo c lq bq vl vb wr) (hc : c ≤ c') : LP WD m b s n xb mo c' lq bq vl vb wr := by
  obtain ⟨K, N, h1, h2, h3⟩ := h.bx
  exact { h with bx := ⟨K, N, h1, h2, by omega⟩ }
def lenOf : Value → Nat | .slice _ n _ => n | _ => 0
set_option maxHeartbeats 4000000 in
set_option maxRecDepth 100000 in
theorem holds_big (m size : Int) (ao : Option Addr) (n cap : Nat) (ov : Value) (w : World) (hn : 300 < n) : Calls Try.prog 4 #[.int .i64 m, .slice ao n cap, .int .i64 size, ov] w (Ret (.bool true) (Frm [] w)) := by
  have hn' : (300 : Int) < (n : Int) := by omega
  go_enter Try.func4, Try.ntmps4
  go_wp2_with (go_at_call 8; go_must (refine (known_any w).mono ?_; rintro e w2 ⟨rfl, hf⟩; have HF := Lib.hid hf; clear hf))
  go_ret
  exact ⟨rfl, HF.out⟩
set_option maxHeartbeats 4000000 in
set_option maxRecDepth 100000 in
theorem holds_err (m size : Int) (ao : Option Addr) (cap : Nat) (b : List UInt8) (ov : Value) (w : World) (hb : Byts w (.slice ao b.length cap) b) (hn : b.length ≤ 300) (he : splitE m size b.length ≠ 0) : Calls Try.prog 4 #[.int .i64 m, .slice ao b.length cap, .int .i64 size, ov] w (Ret (.bool true) (Frm [] w)) := by
  have hn' : ¬ (300 : Int) < (b.length : Int) := by omega
  have C9 : Hid (Calls Try.prog 9 #[.int .i64 m, .slice ao b.length cap, .int .i64 size] w (RetV fun v w' => ∃ al cl, v = .tuple #[.slice al 0 cl, .int .i64 (splitE m size b.length)] ∧ Frm [] w w')) := Lib.hid ((split_any m size b _ w hb (by omega)).mono (by
    rintro e w' ⟨v, rfl, lv, rfl, hp, hf⟩
    rw [if_neg he] at hp
    obtain ⟨al, cl, rfl, -⟩ := hp
    exact ⟨_, rfl, al, cl, rfl, hf⟩))
  have hb1 : (splitE m size b.length != 0) = true := by simpa using he
  clear he hb
  generalize splitE m size b.length = E at *
  generalize b.length = n at *
  go_enter Try.func4, Try.ntmps4
  go_wp2_with (first
    | (go_at_call 9; go_must (refine C9.out.mono ?_; clear C9; rintro e w1 ⟨v, rfl, al, cl, rfl, hf⟩; have F1 := Lib.hid hf; clear hf))
    | (go_at_call 12; go_must (refine (num_any _ _).mono ?_; rintro e w' ⟨rfl, rfl⟩))
    | (go_at_call 8; go_must (refine (known_any w1).mono ?_; rintro e w2 ⟨rfl, hf⟩; have HF := Lib.hid (F1.out.trans hf); clear hf)))
  go_ret
  exact ⟨rfl, HF.out⟩
set_option maxHeartbeats 4000000 in
set_option maxRecDepth 100000 in
theorem holds_many (m size : Int) (ao : Option Addr) (cap : Nat) (b : List UInt8) (ov : Value) (w : World) (hb : Byts w (.slice ao b.length cap) b) (hn : b.length ≤ 300) (he : splitE m size b.length = 0) (hm : 40 < nparts b.length size.toNat) : Calls Try.prog 4 #[.int .i64 m, .slice ao b.length cap, .int .i64 size, ov] w (Ret (.bool true) (Frm [] w)) := by
  have hn' : ¬ (300 : Int) < (b.length : Int) := by omega
  have C9 : Hid (Calls Try.prog 9 #[.int .i64 m, .slice ao b.length cap, .int .i64 size] w (RetV fun v w' => ∃ al cl, v = .tuple #[.slice al (nparts b.length size.toNat) cl, .int .i64 0] ∧ Frm [] w w')) := Lib.hid ((split_any m size b _ w hb (by omega)).mono (by
    rintro e w' ⟨v, rfl, lv, rfl, hp, hf⟩
    rw [if_pos he] at hp
    obtain ⟨al, cl, rfl, -⟩ := hp
    rw [splitL_length]
    exact ⟨_, rfl, al, cl, by rw [he], hf⟩))
  have h40 : (40 : Int) < (nparts b.length size.toNat : Int) := by omega
  clear he hb hm
  generalize nparts b.length size.toNat = np at *
  generalize b.length = n at *
  go_enter Try.func4, Try.ntmps4
  go_wp2_with (first
    | (go_at_call 9; go_must (refine C9.out.mono ?_; clear C9; rintro e w1 ⟨v, rfl, al, cl, rfl, hf⟩; have F1 := Lib.hid hf; clear hf))
    | (go_at_call 12; go_must (refine (num_any _ _).mono ?_; rintro e w' ⟨rfl, rfl⟩))
    | (go_at_call 8; go_must (refine (known_any w1).mono ?_; rintro e w2 ⟨rfl, hf⟩; have HF := Lib.hid (F1.out.trans hf); clear hf)))
  go_ret
  exact ⟨rfl, HF.out⟩
set_option maxHeartbeats 4000000 in
set_option maxRecDepth 100000 in
theorem holds_any (m size : Int) (ao : Option Addr) (cap : Nat) (b : List UInt8) (oo : Option Addr) (ocap : Nat) (ol : List UInt8) (w : World) (hb : Byts w (.slice ao b.length cap) b) (hol : Byts w (.slice oo ol.length ocap) ol) (hn : b.length ≤ 300) (he : splitE m size b.length = 0) (hm : nparts b.length size.toNat ≤ 40) :
    Calls Try.prog 4 #[.int .i64 m, .slice ao b.length cap, .int .i64 size, .slice oo ol.length ocap] w (Ret (.bool true) (Frm [] w)) := by
  have hn' : ¬ (300 : Int) < (b.length : Int) := by omega
  have C9 : Hid (Calls Try.prog 9 #[.int .i64 m, .slice ao b.length cap, .int .i64 size] w (RetV fun v w' => ∃ ad cl, v = .tuple #[.slice (some ad) (nparts b.length size.toNat) cl, .int .i64 0] ∧ Frm [] w w' ∧
      ∃ qs : List PV, qs.map (·.1) = splitL m b size.toNat (nparts b.length size.toNat) ∧ Gd w' qs ∧ ∀ j u, (flatQ qs)[j]? = some u → w'.cell? (ad.add j) = some u)) := Lib.hid ((split_any m size b _ w hb (by omega)).mono (by
    rintro e w' ⟨v, rfl, lv, rfl, hp, hf⟩
    rw [if_pos he] at hp
    obtain ⟨ad, cl, qs, rfl, h1, h2, h3⟩ := hp.pairs (fun e => by have := congrArg List.length e; rw [splitL_length] at this; have := nparts_pos b.length size.toNat; simp at *; omega)
    rw [splitL_length]
    exact ⟨_, rfl, ad, cl, by rw [he], hf, qs, h1, h2, h3⟩))
  have HLB : Hid (LB m b size.toNat (nparts b.length size.toNat) (splitL m b size.toNat (nparts b.length size.toNat)) []) := Lib.hid (by
    have h1 : wi m 0 65535 = true := by
      cases h1 : wi m 0 65535 with
      | true => rfl
      | false => unfold splitE at he; simp [h1] at he
    have h2 : wi size 1 1024 = true := by
      cases h2 : wi size 1 1024 with
      | true => rfl
      | false => unfold splitE at he; simp [h2] at he
    obtain ⟨hs1, hs2⟩ := wi_iff.1 h2
    exact ⟨by rw [List.append_nil], h1, by omega, by omega, rfl, hm, hn⟩)
  have HB := Lib.hid hb; have HO := Lib.hid hol
  have hnp := nparts_pos b.length size.toNat
  obtain ⟨np, hnp2⟩ : ∃ np, nparts b.length size.toNat = np := ⟨_, rfl⟩
  rw [hnp2] at C9 HLB hm hnp
  have hm' : ¬ (40 : Int) < (np : Int) := by omega
  obtain ⟨nbb, hnb⟩ : ∃ n, b.length = n := ⟨_, rfl⟩
  have HNB_b := Lib.hid hnb
  rw [hnb] at C9 HB hn' ⊢
  obtain ⟨no, hno⟩ : ∃ n, ol.length = n := ⟨_, rfl⟩
  have HNO := Lib.hid hno
  rw [hno] at HO ⊢
  clear hnp2 hb hol hn he hnb hno
  go_enter Try.func4, Try.ntmps4
  go_upto_region 9 with (first
    | (go_at_call 9; go_must (refine C9.out.mono ?_; clear C9; rintro e WD ⟨v, rfl, ad, cl, rfl, hf, qs, h1, h2, h3⟩; have FD := Lib.hid hf; have HQ1 := Lib.hid h1; have HQ2 := Lib.hid h2; have HQ3 := Lib.hid h3; clear hf h1 h2 h3))
    | (go_at_call 12; go_must (refine (num_any _ _).mono ?_; rintro e w' ⟨rfl, rfl⟩))
    | (go_at_call 13; go_must (refine (new_at WD).mono ?_; rintro e w2 ⟨v, rfl, xb, mo, rfl, hbx, hmo, hf⟩; have HX := Lib.hid hbx; have HMO := Lib.hid hmo; have F2 := Lib.hid hf; clear hbx hmo hf)))
  have HQL : Hid (qs.length = np) := Lib.hid (by have := congrArg List.length HQ1.out; rwa [List.length_map, splitL_length] at this)
  go_upto_region 10 with (at_builtin; refine wpList_app_q rfl (.tmp 46) (.tmp 47) rfl WD.heap.size (.slice (some ⟨w2.heap.size, 0, none⟩) 0 0) 0 [] qs ad np cl ?_ ?_ (own_empty38 (heap_alloc_new _ _) F2.out.size) HQL.out (fun j u hu => (F2.out.alloc _).keep (HQ3.out j u hu)) HQ2.out.one ?_ ?_ ?_; go_must ((focus (go_simp; done)); (focus (go_simp; done)); (focus (omega)); (focus (have := F2.out.size; simp; omega)); intro a3 c3 w3 hown hgrow; rw [Nat.zero_add] at hown ⊢; have O3 := Lib.hid hown; have F3 : Hid (Frm [] w2 w3) := Lib.hid (((Frm.refl [] w2).alloc _).grown hgrow (fun k hk => .inr (by cases hk; exact Nat.le_refl _))); clear hown hgrow))
  have HLP0 : Hid (LP WD m b size.toNat np xb mo 0 qs [] (.slice a3 qs.length c3) (.slice none 0 0) w3) := Lib.hid
    ⟨F2.out.trans F3.out, by rw [HQL.out]; exact O3.out, World.ownsRow_nil _ _ _ _, by rw [List.append_nil]; exact HQ2.out, by rw [HQ1.out]; exact HLB.out, ⟨fun _ => 0, 0, by rw [List.map_nil, boxS_nil]; exact HX.out.frm0 F3.out, ⟨HMO.out, by rw [List.map_nil, boxS_nil]; exact fun t m ht => by cases ht⟩, Nat.le_refl _⟩⟩
  obtain ⟨s, hs⟩ : ∃ s, size.toNat = s := ⟨_, rfl⟩
  rw [hs] at HLP0
  have HD := Lib.hid FD.out.size
  have e0 := HQL.out
  clear hs HLB HQ1 HQ2 HQ3 hm' hnp O3 HX
  rw [← e0]
  clear e0
  go_wp2
  go_loopw [13, 14, 15] (fun s13 s14 s15 wr => ∃ (lq bq : List PV) (a13 a14 : Option Addr) (c13 c14 : Nat), s13 = .slice a13 lq.length c13 ∧ s14 = .slice a14 bq.length c14 ∧ s15 = .int .i64 (bq.length : Nat) ∧ LP WD m b s np xb mo (4 * bq.length) lq bq (.slice a13 lq.length c13) (.slice a14 bq.length c14) wr) (fun s13 _ _ _ => lenOf s13)
  case atStart => exact ⟨qs, [], a3, none, c3, 0, rfl, rfl, rfl, HLP0.out⟩
  case round =>
    obtain ⟨lq, bq, a13, a14, c13, c14, rfl, rfl, rfl, hlp⟩ := hrel
    have hlen := hlp.lb.len
    rw [List.length_map, List.length_map] at hlen
    have HLP := Lib.hid hlp
    obtain ⟨nL, hnL⟩ : ∃ n, lq.length = n := ⟨_, rfl⟩
    obtain ⟨nB, hnB⟩ : ∃ n, bq.length = n := ⟨_, rfl⟩
    rw [hnL, hnB] at hlen HLP
    have HLEN := Lib.hid hlen
    have HNL := Lib.hid hnL; have HNB := Lib.hid hnB
    have hL40 : nL ≤ 40 := by omega
    have hB40 : nB ≤ 40 := by omega
    rw [hnL, hnB]
    clear hlp hlen hnL hnB HLP0
    by_cases hl : 0 < nL
    · have hl' : (0 : Int) < (nL : Int) := by omega
      obtain ⟨gL, cL, e, hcL, hgL, hDL⟩ := row_some (by have := HLP.out.ol; rw [HNL.out] at this; exact this) hl
      cases e
      have HGL := Lib.hid hgL; have HDL := Lib.hid hDL
      clear hgL hDL
      go_upto_if 57 with fail
      go_cut [16] from 49 to 123 (fun s16 wx => ∃ k : Nat, s16 = .int .i64 k ∧ k < nL ∧ LP WD m b s np xb mo (4 * nB + 2) lq bq (.slice (some ⟨gL, 0, none⟩) nL c13) (.slice a14 nB c14) wx)
      case first =>
        by_cases hio : nB < no
        · have hio' : (nB : Int) < (no : Int) := by omega
          obtain ⟨x, hx⟩ : ∃ x, ol[nB]? = some x := ⟨_, List.getElem?_eq_getElem (by rw [HNO.out]; exact hio)⟩
          have hO := HO.out
          rw [← HNO.out] at hO
          obtain ⟨oo', oc', e, -, hcs⟩ := hO
          cases e
          obtain ⟨ob, off, rfl, cx⟩ := hcs nB x hx
          have cx := (FD.out.trans HLP.out.fr).keep cx
          unfold _root_.Go.Proofs.Ytomjnbcaofebfaa.u8 at cx
          have hx1 : (x.toNat : Int) ≤ 255 := by have := x.toNat_lt; omega
          generalize x.toNat = y at *
          obtain ⟨k, hk⟩ : ∃ k, y % nL = k := ⟨_, rfl⟩
          have hkl : k < nL := by rw [← hk]; exact Nat.mod_lt _ hl
          have hrem : (y : Int).tmod (nL : Int) = (k : Int) := by rw [Int.tmod_eq_emod_of_nonneg (by omega), ← hk, Int.natCast_emod]
          have hrem2 : (y : Int) % (nL : Int) = (k : Int) := by rw [← hk, Int.natCast_emod]
          clear hcs hx hk
          go_upto_region 17 with fail
          clear hrem hrem2
          by_cases hodd : y % 2 = 1
          · have ht : (y : Int).tmod 2 = 1 := by rw [Int.tmod_eq_emod_of_nonneg (by omega)]; omega
            have ht2 : (y : Int) % 2 = 1 := by omega
            by_cases hB : 0 < nB
            · have hB' : (0 : Int) < (nB : Int) := by omega
              obtain ⟨k', hk'⟩ : ∃ k', y % nB = k' := ⟨_, rfl⟩
              have hkl' : k' < nB := by rw [← hk']; exact Nat.mod_lt _ hB
              have hkl2 : (k' : Int) < (nB : Int) := by omega
              have hrem : (y : Int).tmod (nB : Int) = (k' : Int) := by rw [Int.tmod_eq_emod_of_nonneg (by omega), ← hk', Int.natCast_emod]
              have hrem2 : (y : Int) % (nB : Int) = (k' : Int) := by rw [← hk', Int.natCast_emod]
              have hob := HLP.out.ob
              rw [HNB.out] at hob
              obtain ⟨gB, cB, e, hcB, hgB, hDB⟩ := row_some hob hB
              cases e
              obtain ⟨z, hz⟩ : ∃ z, bq[k']? = some z := ⟨_, List.getElem?_eq_getElem (by rw [HNB.out]; exact hkl')⟩
              obtain ⟨z0, z1, z2, z3⟩ := row_part hob hz
              obtain ⟨K, N, hbx, hlo, hN⟩ := HLP.out.bx
              have hzm : z ∈ bq := List.mem_iff_getElem?.2 ⟨k', hz⟩
              have hlne : lq.map (·.1) ≠ [] := fun e => by have := congrArg List.length e; rw [List.length_map, HNL.out] at this; simp at this; omega
              have hby := (HLP.out.gd z (List.mem_append_right _ hzm)).frm0 HLP.out.fr
              have hzl : z.1.b.length ≤ 1024 := (rightB_len (split_right HLP.out.lb.hm HLP.out.lb.s2 (by have := HLP.out.lb.n40; omega) (HLP.out.lb.memB (List.mem_map.2 ⟨z, hzm, rfl⟩)))).1
              have hca := adds_ok hbx hlo HLP.out.fr.size z.1 z.2 hby (by omega) (by omega)
              rw [add_again HLP.out.lb hlne (List.mem_map.2 ⟨z, hzm, rfl⟩)] at hca
              have CA : Hid (Calls Try.prog 14 #[.pointer (some ⟨xb, 0, none⟩), .agg #[.int .i64 z.1.msg, .int .i64 z.1.num, .int .i64 z.1.cnt, z.2], .string { data := #[] }, .bool false, .int .i64 0] wr (Ret (.bool true) (BoxTo WD.heap.size xb mo 1 300 (N + 2) (boxS m np (lq.map (·.1)) (bq.map (·.1))) wr))) := Lib.hid hca
              have HN := Lib.hid hN
              clear hk' hob hz hbx hlo hN hzm hlne hby hzl hca hcB hgB hDB
              go_wp2_with (go_at_call 14; go_must (refine CA.out.mono ?_; clear CA; rintro e w4 ⟨rfl, hbt⟩; have HBT := Lib.hid hbt; clear hbt))
              go_meet
              refine ⟨k, rfl, hkl, ?_⟩
              obtain ⟨K', N', g1, g2, g3, g4⟩ := HBT.out
              exact ⟨g4.old HLP.out.fr (Nat.le_refl _), g4.owns HLP.out.ol, g4.owns HLP.out.ob, HLP.out.gd, HLP.out.lb, ⟨K', N', g1, g2, by have := HN.out; omega⟩⟩
            · have hB' : ¬ (0 : Int) < (nB : Int) := by omega
              go_wp2
              go_meet
              refine ⟨k, rfl, hkl, ?_⟩
              exact HLP.out.mono (by omega)
          · have ht : (y : Int).tmod 2 = 0 := by rw [Int.tmod_eq_emod_of_nonneg (by omega)]; omega
            have ht2 : (y : Int) % 2 = 0 := by omega
            go_wp2
            go_meet
            refine ⟨k, rfl, hkl, ?_⟩
            exact HLP.out.mono (by omega)
        · have hio' : ¬ (nB : Int) < (no : Int) := by omega
          go_wp2
          go_meet
          refine ⟨0, rfl, hl, ?_⟩
          exact HLP.out.mono (by omega)
      case rest =>
        obtain ⟨wd, hwd⟩ : ∃ wd, wd = wc := ⟨_, rfl⟩
        subst hwd
        obtain ⟨k, rfl, hkl, hlp⟩ := hcut
        obtain ⟨x, q1, q2, hq, hq1⟩ : ∃ x q1 q2, lq = q1 ++ x :: q2 ∧ q1.length = k := by
          have hk2 : k < lq.length := by rw [HNL.out]; exact hkl
          exact ⟨lq[k], lq.take k, lq.drop (k + 1), by rw [List.getElem_cons_drop, List.take_append_drop], by rw [List.length_take]; omega⟩
        have HQ := Lib.hid hq
        have HK := Lib.hid hq1
        rw [hq] at hlp
        have hnl : k + q2.length + 1 = nL := by
          have := HNL.out
          rw [hq, List.length_append, List.length_cons, hq1] at this
          omega
        obtain ⟨r2, hr2⟩ : ∃ r2, q2.length = r2 := ⟨_, rfl⟩
        have HR2 := Lib.hid hr2
        have hol := hlp.ol
        have hlen2 : (q1 ++ x :: q2).length = nL := by rw [← hq]; exact HNL.out
        rw [hlen2] at hol
        obtain ⟨z0, z1, z2, z3⟩ := row_part hol (show (q1 ++ x :: q2)[k]? = some x by rw [List.getElem?_append_right (by omega), hq1, Nat.sub_self]; rfl)
        have hxm : x ∈ (q1 ++ x :: q2) ++ bq := by simp
        have hxb := hlp.gd x hxm
        obtain ⟨ax, cx, hxe, -⟩ := hxb.len
        rw [hxe] at z3
        obtain ⟨bl, hbl⟩ : ∃ bl, x.1.b.length = bl := ⟨_, rfl⟩
        rw [hbl] at z3 hxe
        have HBL := Lib.hid hbl
        have HXE := Lib.hid hxe
        have HLP2 := Lib.hid hlp
        have hcl := cut_left (g := gL) (q1 := q1) (q2 := q2) hq1 hnl hcL
        obtain ⟨ad2, c2', hcr, hcr2⟩ := cut_right hq1 hnl hcL hol
        rw [hr2] at hcr hnl
        have hcl2 := left_cells hq1 hol
        have HY1 := Lib.hid (Gd.one (hlp.gd.sub (b := q1) (fun y hy => by simp [hy])))
        have HY2 := Lib.hid (Gd.one (hlp.gd.sub (b := q2) (fun y hy => by simp [hy])))
        have HY3 := Lib.hid (Gd.one (hlp.gd.sub (b := [x]) (fun y hy => by simp at hy; simp [hy])))
        have hkl2 : (k : Int) < (nL : Int) := by omega
        have HNLL := Lib.hid hnl
        clear hq hq1 hlp hr2 hol hlen2 hxm hxb hbl hxe HLP hnl
        go_upto_region 20 with fail
        obtain ⟨Wr, hWr⟩ : ∃ Wr, wd.alloc (.cells #[.int .i64 x.1.msg, .int .i64 x.1.num, .int .i64 x.1.cnt, .slice ax bl cx] 38) = Wr := ⟨_, rfl⟩
        have HFR : Hid (Frm [] wd Wr) := Lib.hid (by rw [← hWr]; exact (Frm.refl [] wd).alloc _)
        have HG17 : Hid (Wr.heap[wd.heap.size]? = some (.cells #[.int .i64 x.1.msg, .int .i64 x.1.num, .int .i64 x.1.cnt, .slice ax bl cx] 38 (0, 0))) := Lib.hid (by rw [← hWr]; exact heap_alloc_new wd _)
        rw [hWr]
        have HCL : Hid (∀ W, Frm [] Wr W → ∀ j u, (flatQ q1)[j]? = some u → W.cell? ((⟨gL, 0, none⟩ : Addr).add j) = some u) := Lib.hid fun W hf => hcl2 W (HFR.out.trans hf)
        have HCR : Hid (∀ W, Frm [] Wr W → ∀ j u, (flatQ q2)[j]? = some u → W.cell? (ad2.add j) = some u) := Lib.hid fun W hf => hcr2 W (HFR.out.trans hf)
        have hobc : wd.ownsRow WD.heap.size 38 4 (.slice a14 nB c14) nB (flatQ bq) := by have := HLP2.out.ob; rw [HNB.out] at this; exact this
        have HOB : Hid (∀ W, Frm [] Wr W → W.ownsRow WD.heap.size 38 4 (.slice a14 nB c14) nB (flatQ bq)) := Lib.hid fun W hf => (HFR.out.trans hf).owns hobc (by simp)
        have HVB : Hid (∀ j, (Value.slice a14 nB c14).ownBlock = some j → j < wd.heap.size ∧ j < Wr.heap.size) := Lib.hid fun j hj => by have h1 := ownBlock_lt hobc hj; have h2 := HFR.out.size; exact ⟨h1, by omega⟩
        have HDW : Hid (WD.heap.size ≤ Wr.heap.size) := Lib.hid (Nat.le_trans HLP2.out.fr.size HFR.out.size)
        have HS : Hid (∀ W, Frm (Value.slice a14 nB c14).ownBlock.toList Wr W → W.cell? ⟨wd.heap.size, 0, none⟩ = some (.int .i64 x.1.msg) ∧ W.cell? ⟨wd.heap.size, 1, none⟩ = some (.int .i64 x.1.num) ∧ W.cell? ⟨wd.heap.size, 2, none⟩ = some (.int .i64 x.1.cnt) ∧ W.cell? ⟨wd.heap.size, 3, none⟩ = some (.slice ax bl cx)) := Lib.hid fun W hf => by
          have hg := hf.at HG17.out (fun hx => by simp only [Option.mem_toList] at hx; have := (HVB.out _ hx).1; omega)
          exact ⟨cell_of hg 0, cell_of hg 1, cell_of hg 2, cell_of hg 3⟩
        have e1 : IntKind.i64.wrap ((k : Int) + 1) = (k : Int) + 1 := IntWalk.i64_in _ (by omega)
        have hk40 : k + r2 ≤ 40 := by have := HNLL.out; omega
        clear hWr hcl2 hcr2 hobc z0 z1 z2 z3
        go_cut [13, 14] from 49 to 123 (fun s13 s14 wx => ∃ (a6 a7 : Option Addr) (c6 c7 : Nat), s13 = .slice a6 (k + r2) c6 ∧ s14 = .slice a7 (nB + 1) c7 ∧ wx.ownsRow Wr.heap.size 38 4 (.slice a6 (k + r2) c6) (k + r2) (flatQ (q1 ++ q2)) ∧ wx.ownsRow WD.heap.size 38 4 (.slice a7 (nB + 1) c7) (nB + 1) (flatQ (bq ++ [x])) ∧ Frm (Value.slice a14 nB c14).ownBlock.toList Wr wx)
        case first =>
          go_region_held3 (fun W => W.cell? ⟨wd.heap.size, 0, none⟩ = some (.int .i64 x.1.msg) ∧ W.cell? ⟨wd.heap.size, 1, none⟩ = some (.int .i64 x.1.num) ∧ W.cell? ⟨wd.heap.size, 2, none⟩ = some (.int .i64 x.1.cnt) ∧ W.cell? ⟨wd.heap.size, 3, none⟩ = some (.slice ax bl cx))
            (first
              | exact HS.out _ (((Frm.refl [] Wr).drew).mono (by simp))
              | exact HS.out _ ((((Frm.refl [] Wr).alloc _).drew).mono (by simp))
              | exact HS.out _ (((((Frm.refl [] Wr).alloc _).alloc _).drew).mono (by simp))
              | exact HS.out _ (F5.out.mono (by simp))
              | exact HS.out _ ((F5.out.alloc _).mono (by simp))
              | exact HS.out _ (F6.out.mono (by simp))
              | exact HS.out _ ((F6.out.alloc _).mono (by simp))
              | exact HS.out _ F7.out)
            (first
              | (refine step_app_q (w := (Wr.alloc (.cells #[] 38)).drew) rfl (.tmp 97) (.tmp 100) rfl Wr.heap.size (.slice (some ⟨Wr.heap.size, 0, none⟩) 0 0) 0 [] q1 ⟨gL, 0, none⟩ k c13 ?_ ?_ (own_empty38 (show (Wr.alloc (.cells #[] 38)).heap[Wr.heap.size]? = _ from alloc_top rfl) (by omega)) HK.out (HCL.out _ ((Frm.refl [] Wr).alloc _).drew) HY1.out ?_ ?_ ?_; (focus (go_simp; done)); (focus (go_simp; done)); (focus (omega)); (focus (simp; try omega)); intro a5 c5 w5 hown hgrow hblk; rw [Nat.zero_add] at hown hblk ⊢; have O5 := Lib.hid hown; have F5 : Hid (Frm [] Wr w5) := Lib.hid (((Frm.refl [] Wr).alloc _).drew.grown hgrow (fun k hk => .inr (by cases hk; simp))); clear hown hgrow hblk)
              | (refine step_app_q (w := ((Wr.alloc (.cells #[] 38)).alloc (.cells #[.int .i64 x.1.msg, .int .i64 x.1.num, .int .i64 x.1.cnt, .slice ax bl cx] 38)).drew) rfl (.tmp 97) (.tmp 100) rfl Wr.heap.size (.slice (some ⟨Wr.heap.size, 0, none⟩) 0 0) 0 [] q1 ⟨gL, 0, none⟩ k c13 ?_ ?_ (own_empty38 (show ((Wr.alloc (.cells #[] 38)).alloc (.cells #[.int .i64 x.1.msg, .int .i64 x.1.num, .int .i64 x.1.cnt, .slice ax bl cx] 38)).heap[Wr.heap.size]? = _ from alloc_at (alloc_top rfl)) (by omega)) HK.out (HCL.out _ (((Frm.refl [] Wr).alloc _).alloc _).drew) HY1.out ?_ ?_ ?_; (focus (go_simp; done)); (focus (go_simp; done)); (focus (omega)); (focus (simp; try omega)); intro a5 c5 w5 hown hgrow hblk; rw [Nat.zero_add] at hown hblk ⊢; have O5 := Lib.hid hown; have F5 : Hid (Frm [] Wr w5) := Lib.hid ((((Frm.refl [] Wr).alloc _).alloc _).drew.grown hgrow (fun k hk => .inr (by cases hk; simp))); have HLA := Lib.hid (grown_at hgrow (show ((Wr.alloc (.cells #[] 38)).alloc (.cells #[.int .i64 x.1.msg, .int .i64 x.1.num, .int .i64 x.1.cnt, .slice ax bl cx] 38)).heap[Wr.heap.size + 1]? = some (.cells #[.int .i64 x.1.msg, .int .i64 x.1.num, .int .i64 x.1.cnt, .slice ax bl cx] 38 (0, 0)) from alloc_top (by simp)) (by simp [Value.ownBlock])); have HLAN : Hid ((Value.slice a5 k c5).ownBlock ≠ some (Wr.heap.size + 1)) := Lib.hid (by rcases hblk with h | h <;> rw [h] <;> simp [Value.ownBlock] <;> omega); clear hown hgrow hblk)
              | (refine step_app_q (w := ((Wr.alloc (.cells #[.int .i64 x.1.msg, .int .i64 x.1.num, .int .i64 x.1.cnt, .slice ax bl cx] 38)).alloc (.cells #[] 38)).drew) rfl (.tmp 97) (.tmp 100) rfl Wr.heap.size (.slice (some ⟨Wr.heap.size + 1, 0, none⟩) 0 0) 0 [] q1 ⟨gL, 0, none⟩ k c13 ?_ ?_ (own_empty38 (show ((Wr.alloc (.cells #[.int .i64 x.1.msg, .int .i64 x.1.num, .int .i64 x.1.cnt, .slice ax bl cx] 38)).alloc (.cells #[] 38)).heap[Wr.heap.size + 1]? = _ from alloc_top (by simp)) (by omega)) HK.out (HCL.out _ (((Frm.refl [] Wr).alloc _).alloc _).drew) HY1.out ?_ ?_ ?_; (focus (go_simp; done)); (focus (go_simp; done)); (focus (omega)); (focus (simp; try omega)); intro a5 c5 w5 hown hgrow hblk; rw [Nat.zero_add] at hown hblk ⊢; have O5 := Lib.hid hown; have F5 : Hid (Frm [] Wr w5) := Lib.hid ((((Frm.refl [] Wr).alloc _).alloc _).drew.grown hgrow (fun k hk => .inr (by cases hk; simp))); have HLB := Lib.hid (grown_at hgrow (show ((Wr.alloc (.cells #[.int .i64 x.1.msg, .int .i64 x.1.num, .int .i64 x.1.cnt, .slice ax bl cx] 38)).alloc (.cells #[] 38)).heap[Wr.heap.size]? = some (.cells #[.int .i64 x.1.msg, .int .i64 x.1.num, .int .i64 x.1.cnt, .slice ax bl cx] 38 (0, 0)) from alloc_at (alloc_top rfl)) (by simp [Value.ownBlock])); have HLBN : Hid ((Value.slice a5 k c5).ownBlock ≠ some (Wr.heap.size)) := Lib.hid (by rcases hblk with h | h <;> rw [h] <;> simp [Value.ownBlock] <;> omega); clear hown hgrow hblk)
              | (refine step_app_q (w := w5) rfl (.tmp 101) (.tmp 105) rfl Wr.heap.size (.slice a5 k c5) k q1 q2 ad2 r2 c2' ?_ ?_ O5.out HR2.out (HCR.out _ F5.out) HY2.out ?_ ?_ ?_; (focus (go_simp; done)); (focus (go_simp; done)); (focus (omega)); (focus (have := F5.out.size; simp; try omega)); intro a6 c6 w6 hown hgrow hblk; have O6 := Lib.hid hown; have F6 : Hid (Frm [] Wr w6) := Lib.hid (F5.out.grown hgrow (fun k hk => .inr (ownBlock_ge O5.out hk))); have HMA := Lib.hid (grown_at hgrow HLA.out HLAN.out); clear hown hgrow hblk)
              | (refine step_app_q (w := w5) rfl (.tmp 101) (.tmp 105) rfl Wr.heap.size (.slice a5 k c5) k q1 q2 ad2 r2 c2' ?_ ?_ O5.out HR2.out (HCR.out _ F5.out) HY2.out ?_ ?_ ?_; (focus (go_simp; done)); (focus (go_simp; done)); (focus (omega)); (focus (have := F5.out.size; simp; try omega)); intro a6 c6 w6 hown hgrow hblk; have O6 := Lib.hid hown; have F6 : Hid (Frm [] Wr w6) := Lib.hid (F5.out.grown hgrow (fun k hk => .inr (ownBlock_ge O5.out hk))); have HMB := Lib.hid (grown_at hgrow HLB.out HLBN.out); clear hown hgrow hblk)
              | (refine step_app_q (w := (w5.alloc (.cells #[.int .i64 x.1.msg, .int .i64 x.1.num, .int .i64 x.1.cnt, .slice ax bl cx] 38))) rfl (.tmp 101) (.tmp 105) rfl Wr.heap.size (.slice a5 k c5) k q1 q2 ad2 r2 c2' ?_ ?_ (((Frm.refl [] w5).alloc _).owns O5.out (by simp)) HR2.out (HCR.out _ (F5.out.alloc _)) HY2.out ?_ ?_ ?_; (focus (go_simp; done)); (focus (go_simp; done)); (focus (omega)); (focus (have := F5.out.size; simp; try omega)); intro a6 c6 w6 hown hgrow hblk; have O6 := Lib.hid hown; have F6 : Hid (Frm [] Wr w6) := Lib.hid ((F5.out.alloc _).grown hgrow (fun k hk => .inr (ownBlock_ge O5.out hk))); have HMC := Lib.hid (grown_at hgrow (heap_alloc_new w5 _) (fun e => absurd (ownBlock_lt O5.out e) (Nat.lt_irrefl _))); clear hown hgrow hblk)
              | (refine step_app_q (w := w5) rfl (.tmp 101) (.tmp 105) rfl Wr.heap.size (.slice a5 k c5) k q1 q2 ad2 r2 c2' ?_ ?_ O5.out HR2.out (HCR.out _ F5.out) HY2.out ?_ ?_ ?_; (focus (go_simp; done)); (focus (go_simp; done)); (focus (omega)); (focus (have := F5.out.size; simp; try omega)); intro a6 c6 w6 hown hgrow hblk; have O6 := Lib.hid hown; have F6 : Hid (Frm [] Wr w6) := Lib.hid (F5.out.grown hgrow (fun k hk => .inr (ownBlock_ge O5.out hk))); clear hown hgrow hblk)
              | (refine step_app_q (w := w6) rfl (.tmp 107) (.tmp 109) rfl WD.heap.size (.slice a14 nB c14) nB bq [x] ⟨Wr.heap.size + 1, 0, none⟩ 1 1 ?_ ?_ (HOB.out _ F6.out) rfl (lit_cells HMA.out HXE.out) HY3.out ?_ ?_ ?_; (focus (go_simp; done)); (focus (go_simp; done)); (focus (omega)); (focus (have h1 := HDW.out; have h2 := F6.out.size; simp; try omega)); intro a7 c7 w7 hown hgrow hblk; have O7 := Lib.hid hown; have F7 : Hid (Frm (Value.slice a14 nB c14).ownBlock.toList Wr w7) := Lib.hid ((F6.out.mono (by simp)).grown hgrow (fun k hk => .inl (by simp [hk]))); have O8 : Hid (w7.ownsRow Wr.heap.size 38 4 (.slice a6 (k + r2) c6) (k + r2) (flatQ (q1 ++ q2))) := Lib.hid (((Frm.refl (Value.slice a14 nB c14).ownBlock.toList _).grown hgrow (fun k hk => .inl (by simp [hk]))).owns O6.out (fun j hj hx => by simp only [Option.mem_toList] at hx; have h1 := ownBlock_ge O6.out hj; have h2 := HVB.out j hx; omega)); clear hown hgrow hblk)
              | (refine step_app_q (w := w6) rfl (.tmp 107) (.tmp 109) rfl WD.heap.size (.slice a14 nB c14) nB bq [x] ⟨Wr.heap.size, 0, none⟩ 1 1 ?_ ?_ (HOB.out _ F6.out) rfl (lit_cells HMB.out HXE.out) HY3.out ?_ ?_ ?_; (focus (go_simp; done)); (focus (go_simp; done)); (focus (omega)); (focus (have h1 := HDW.out; have h2 := F6.out.size; simp; try omega)); intro a7 c7 w7 hown hgrow hblk; have O7 := Lib.hid hown; have F7 : Hid (Frm (Value.slice a14 nB c14).ownBlock.toList Wr w7) := Lib.hid ((F6.out.mono (by simp)).grown hgrow (fun k hk => .inl (by simp [hk]))); have O8 : Hid (w7.ownsRow Wr.heap.size 38 4 (.slice a6 (k + r2) c6) (k + r2) (flatQ (q1 ++ q2))) := Lib.hid (((Frm.refl (Value.slice a14 nB c14).ownBlock.toList _).grown hgrow (fun k hk => .inl (by simp [hk]))).owns O6.out (fun j hj hx => by simp only [Option.mem_toList] at hx; have h1 := ownBlock_ge O6.out hj; have h2 := HVB.out j hx; omega)); clear hown hgrow hblk)
              | (refine step_app_q (w := w6) rfl (.tmp 107) (.tmp 109) rfl WD.heap.size (.slice a14 nB c14) nB bq [x] ⟨w5.heap.size, 0, none⟩ 1 1 ?_ ?_ (HOB.out _ F6.out) rfl (lit_cells HMC.out HXE.out) HY3.out ?_ ?_ ?_; (focus (go_simp; done)); (focus (go_simp; done)); (focus (omega)); (focus (have h1 := HDW.out; have h2 := F6.out.size; simp; try omega)); intro a7 c7 w7 hown hgrow hblk; have O7 := Lib.hid hown; have F7 : Hid (Frm (Value.slice a14 nB c14).ownBlock.toList Wr w7) := Lib.hid ((F6.out.mono (by simp)).grown hgrow (fun k hk => .inl (by simp [hk]))); have O8 : Hid (w7.ownsRow Wr.heap.size 38 4 (.slice a6 (k + r2) c6) (k + r2) (flatQ (q1 ++ q2))) := Lib.hid (((Frm.refl (Value.slice a14 nB c14).ownBlock.toList _).grown hgrow (fun k hk => .inl (by simp [hk]))).owns O6.out (fun j hj hx => by simp only [Option.mem_toList] at hx; have h1 := ownBlock_ge O6.out hj; have h2 := HVB.out j hx; omega)); clear hown hgrow hblk)
              | (refine step_app_q (w := (w6.alloc (.cells #[.int .i64 x.1.msg, .int .i64 x.1.num, .int .i64 x.1.cnt, .slice ax bl cx] 38))) rfl (.tmp 107) (.tmp 109) rfl WD.heap.size (.slice a14 nB c14) nB bq [x] ⟨w6.heap.size, 0, none⟩ 1 1 ?_ ?_ (HOB.out _ (F6.out.alloc _)) rfl (lit_cells (heap_alloc_new w6 _) HXE.out) HY3.out ?_ ?_ ?_; (focus (go_simp; done)); (focus (go_simp; done)); (focus (omega)); (focus (have h1 := HDW.out; have h2 := F6.out.size; simp; try omega)); intro a7 c7 w7 hown hgrow hblk; have O7 := Lib.hid hown; have F7 : Hid (Frm (Value.slice a14 nB c14).ownBlock.toList Wr w7) := Lib.hid (((F6.out.alloc _).mono (by simp)).grown hgrow (fun k hk => .inl (by simp [hk]))); have O8 : Hid (w7.ownsRow Wr.heap.size 38 4 (.slice a6 (k + r2) c6) (k + r2) (flatQ (q1 ++ q2))) := Lib.hid (((Frm.refl (Value.slice a14 nB c14).ownBlock.toList _).grown hgrow (fun k hk => .inl (by simp [hk]))).owns (((Frm.refl [] w6).alloc _).owns O6.out (by simp)) (fun j hj hx => by simp only [Option.mem_toList] at hx; have h1 := ownBlock_ge O6.out hj; have h2 := HVB.out j hx; omega)); clear hown hgrow hblk))
          all_goals
            go_wp2
            go_meet
            exact ⟨a6, a7, c6, c7, rfl, rfl, O8.out, O7.out, F7.out⟩
        case rest =>
          obtain ⟨w8, hw8⟩ : ∃ w8, w8 = wc := ⟨_, rfl⟩
          subst hw8
          obtain ⟨a6, a7, c6, c7, rfl, rfl, ho6, ho7, hf7⟩ := hcut
          obtain ⟨z0, z1, z2, z3⟩ := HS.out w8 hf7
          have hvt : ∀ j ∈ (Value.slice a14 nB c14).ownBlock.toList, ∃ c, Wr.heap[j]? = some (.cells c 38 (0, 0)) := fun j hj => by
            simp only [Option.mem_toList] at hj
            exact ownBlock_type (HOB.out Wr (Frm.refl [] Wr)) hj
          obtain ⟨K, N, hbx, hlo, hN⟩ := HLP2.out.bx
          have hbx8 := (hbx.frm0 HFR.out).other38 hf7 hvt
          have hfr8 : Frm [] WD w8 := (HLP2.out.fr.trans HFR.out).then hf7 (fun j hj => by
            simp only [Option.mem_toList] at hj
            exact .inr (ownBlock_ge (HOB.out Wr (Frm.refl [] Wr)) hj))
          have hlb := HLP2.out.lb
          rw [List.map_append, List.map_cons] at hbx8 hlo hlb
          have hxb := HLP2.out.gd x (by simp)
          have hrb := rightB_len (split_right hlb.hm hlb.s2 (by have := hlb.n40; omega) (hlb.memL (p := x.1) (by simp)))
          have hca := adds_ok hbx8 hlo hfr8.size x.1 x.2 (hxb.frm0 hfr8) (by omega) (by omega)
          have hx2 := HXE.out
          unfold pv at hca
          rw [hx2] at hca
          have HLO := Lib.hid hlo; have HNN := Lib.hid hN; have HBX8 := Lib.hid hbx8; have HFR8 := Lib.hid hfr8; have HLB8 := Lib.hid hlb; have HO6 := Lib.hid (own_low ho6 HDW.out); have HO7 := Lib.hid ho7
          have hgd : Gd WD ((q1 ++ q2) ++ (bq ++ [x])) := HLP2.out.gd.sub (fun y hy => by simp at hy ⊢; rcases hy with h | h | h | h <;> simp [h])
          have HGD := Lib.hid hgd
          have kb := (HB.out.frm0 (FD.out.trans hfr8))
          obtain ⟨n1, hn1⟩ : ∃ n1, k + r2 = n1 := ⟨_, rfl⟩
          rw [hn1] at HO6 ⊢
          have HN1 := Lib.hid hn1
          have hn40 : n1 ≤ 40 := by omega
          have hkb : (convert 22 9 (.slice ao nbb cap)).run Try.prog w8 = .ok (.string (txt b)) w8 := by rw [← HNB_b.out] at kb ⊢; exact kb.conv
          clear hbx hlo hN hbx8 hfr8 hlb hxb hrb hx2 ho6 ho7 hf7 hvt hgd kb e1 hcl hcr hn1
          by_cases hz : n1 = 0
          · subst hz
            have hq12 : q1 = [] ∧ q2 = [] := by
              have h1 := HN1.out
              exact ⟨List.length_eq_zero_iff.1 (by rw [HK.out]; omega), List.length_eq_zero_iff.1 (by rw [HR2.out]; omega)⟩
            obtain ⟨hqa, hqb⟩ := hq12
            have HLB9 := HLB8.out
            rw [hqa, hqb] at HLB9 hca
            simp only [List.map_nil, List.nil_append] at HLB9 hca
            rw [add_last HLB9] at hca
            have CA : Hid (Calls Try.prog 14 #[.pointer (some ⟨xb, 0, none⟩), .agg #[.int .i64 x.1.msg, .int .i64 x.1.num, .int .i64 x.1.cnt, .slice ax bl cx], .string (txt b), .bool true, .int .i64 0] w8 (Ret (.bool true) (BoxTo WD.heap.size xb mo 1 300 (N + 2) [] w8))) := Lib.hid hca
            have HQA := Lib.hid hqa; have HQB := Lib.hid hqb
            clear hca hqa hqb HLB9
            go_wp2_with (go_at_call 14; go_must (refine CA.out.mono ?_; clear CA; rintro e w9 ⟨rfl, hbt⟩; have HBT := Lib.hid hbt; clear hbt))
            obtain ⟨K', N', g1, g2, g3, g4⟩ := HBT.out
            refine ⟨⟨q1 ++ q2, bq ++ [x], a6, a7, c6, c7, by rw [List.length_append, HK.out, HR2.out, HN1.out], by rw [List.length_append, HNB.out]; rfl, by rw [List.length_append, HNB.out]; simp, ?_⟩, by simp [lenOf]; omega⟩
            rw [show (q1 ++ q2).length = 0 by rw [List.length_append, HK.out, HR2.out, HN1.out], show (bq ++ [x]).length = nB + 1 by rw [List.length_append, HNB.out]; rfl]
            have hlb9 := HLB8.out.next
            have e2 : boxS m np ((q1 ++ q2).map (·.1)) ((bq ++ [x]).map (·.1)) = [] := by unfold boxS; rw [HQA.out, HQB.out, if_pos (by simp)]
            exact ⟨g4.old HFR8.out (Nat.le_refl _), by rw [List.length_append, HK.out, HR2.out, HN1.out]; exact g4.owns HO6.out, by rw [List.length_append, HNB.out]; exact g4.owns HO7.out, HGD.out, by rw [List.map_append, List.map_append]; exact hlb9, ⟨K', N', by rw [e2]; exact g1, by rw [e2]; exact g2, by have := HNN.out; omega⟩⟩
          · have hz1 : (n1 == 0) = false := by simpa using hz
            have hz2 : ((n1 : Int) == 0) = false := by rw [beq_eq_false_iff_ne]; omega
            have hne : q1.map (·.1) ++ q2.map (·.1) ≠ [] := fun e => by
              have := congrArg List.length e
              rw [List.length_append, List.length_map, List.length_map, HK.out, HR2.out, HN1.out] at this
              exact hz this
            rw [add_new HLB8.out hne] at hca
            have CA : Hid (Calls Try.prog 14 #[.pointer (some ⟨xb, 0, none⟩), .agg #[.int .i64 x.1.msg, .int .i64 x.1.num, .int .i64 x.1.cnt, .slice ax bl cx], .string { data := #[] }, .bool false, .int .i64 0] w8 (Ret (.bool true) (BoxTo WD.heap.size xb mo 1 300 (N + 2) (boxS m np (q1.map (·.1) ++ q2.map (·.1)) (bq.map (·.1) ++ [x.1])) w8))) := Lib.hid hca
            clear hca hne hz
            go_wp2_with (go_at_call 14; go_must (refine CA.out.mono ?_; clear CA; rintro e w9 ⟨rfl, hbt⟩; have HBT := Lib.hid hbt; clear hbt))
            obtain ⟨K', N', g1, g2, g3, g4⟩ := HBT.out
            refine ⟨⟨q1 ++ q2, bq ++ [x], a6, a7, c6, c7, by rw [List.length_append, HK.out, HR2.out, HN1.out], by rw [List.length_append, HNB.out]; rfl, by rw [List.length_append, HNB.out]; simp, ?_⟩, by have := HNLL.out; have := HN1.out; simp [lenOf]; omega⟩
            rw [show (q1 ++ q2).length = n1 by rw [List.length_append, HK.out, HR2.out, HN1.out], show (bq ++ [x]).length = nB + 1 by rw [List.length_append, HNB.out]; rfl]
            have hlb9 := HLB8.out.next
            exact ⟨g4.old HFR8.out (Nat.le_refl _), by rw [List.length_append, HK.out, HR2.out, HN1.out]; exact g4.owns HO6.out, by rw [List.length_append, HNB.out]; exact g4.owns HO7.out, HGD.out, by rw [List.map_append, List.map_append]; exact hlb9, ⟨K', N', by rw [List.map_append, List.map_append]; exact g1, by rw [List.map_append, List.map_append]; exact g2, by have := HNN.out; omega⟩⟩
    · obtain rfl : nL = 0 := by omega
      obtain ⟨K, N, hbx, hlo, hN⟩ := HLP.out.bx
      have hlq : lq = [] := List.length_eq_zero_iff.1 HNL.out
      rw [hlq] at hbx hlo
      have eS : boxS m np (([] : List PV).map (·.1)) (bq.map (·.1)) = [] := by unfold boxS; rw [List.map_nil, if_pos rfl]
      rw [eS] at hbx hlo
      have CO := open_any hbx
      rw [show sortK ([] : St) = [] by simp [sortK, keysI]] at CO
      have CO := Lib.hid CO
      have CH : Hid (∀ W, Frm [] wr W → Calls Try.prog 16 #[.pointer (some ⟨xb, 0, none⟩)] W (Ret (.int .i64 0) (Frm [] W))) := Lib.hid fun W hf => by
        have := held_any (hbx.frm0 hf)
        simpa [heldS] using this
      have HFW := Lib.hid (FD.out.trans HLP.out.fr)
      clear hbx hlo hN hlq eS
      go_wp2_with (first
        | (go_at_call 15; go_must (refine CO.out.mono ?_; clear CO; rintro e w4 ⟨v, rfl, hi⟩; have hi2 := hi.2; obtain ⟨ai, ci, rfl⟩ := own_shape hi.1; have F4 := Lib.hid hi2; clear hi hi2))
        | (go_at_call 16; go_must (refine (CH.out _ F4.out).mono ?_; rintro e w5 ⟨rfl, hf⟩; have F5 := Lib.hid (F4.out.trans hf); clear hf))
        | (go_at_call 8; go_must (refine (known_any _).mono ?_; rintro e w6 ⟨rfl, hf⟩; have F6 := Lib.hid ((HFW.out.trans F5.out).trans hf); clear hf)))
      go_ret
      exact ⟨rfl, F6.out⟩
end Go.Proofs.Ytomjnbcaofebfaa
