/- Add: the walk. -/
import Derived.Test.YtomjnbcaofebfaaAddS
import Derived.Outline
import Derived.StillTailTactics
namespace Go.Proofs.Ytomjnbcaofebfaa
open Go.RowKit Go.Maps Go.BigFrame

theorem Try.size75 : (Try.prog.info? 75).map (·.size) = some 2 := by kernel_rfl
theorem Try.zero75 (w : World) : (zeroValue 75).run Try.prog w = .ok (.agg #[.int .i64 0, .map none]) w := by kernel_rfl
theorem right_msg {p : Prt} (h : rightB p = true) : 0 ≤ p.msg ∧ p.msg ≤ 65535 := by
  unfold rightB at h
  simp only [Bool.and_eq_true] at h
  exact wi_iff.1 h.1
theorem right_rest {p : Prt} (h : rightB p = true) : 1 ≤ p.cnt ∧ p.cnt ≤ 255 ∧ 0 ≤ p.num ∧ p.num ≤ p.cnt - 1 ∧ p.b.length ≤ 1024 := by
  unfold rightB at h
  simp only [Bool.and_eq_true, decide_eq_true_eq] at h
  have h1 := wi_iff.1 h.2.1
  have h2 := wi_iff.1 h.2.2.1
  exact ⟨h1.1, h1.2, h2.1, h2.2, h.2.2.2⟩
/-- the open message with a number, or none -/
theorem BX.look {w : World} {xb mo : Nat} {M B : Int} {N : Nat} {S : St} {K : Int → Nat} (h : BX w xb mo M B N S K) (t : Int) (h0 : 0 ≤ t) (h1 : t ≤ 65535) :
    ∃ (c0 : Int) (mp : Option Nat) (is : Bool), (∀ W, Frm [] w W → (Instr.lookup 56 (.map (some mo)) (.int .i64 t) true).run Try.prog W = .ok (.tuple #[.agg #[.int .i64 c0, .map mp], .bool is]) W) ∧
      ((is = true ∧ ∃ m, lk S t = some m ∧ c0 = m.cnt ∧ mp = some (K t)) ∨ (is = false ∧ lk S t = none ∧ c0 = 0 ∧ mp = none)) := by
  have hl := fun W (hf : Frm [] w W) => (h.hm.frm0 hf).look_ok (t := t) Try.underlying56 (Try.zero75 W) (by omega) (by omega)
  cases e : lk S t with
  | some m =>
    refine ⟨m.cnt, some (K t), true, fun W hf => ?_, .inl ⟨rfl, m, rfl, rfl, rfl⟩⟩
    rw [hl W hf, e]; rfl
  | none =>
    refine ⟨0, none, false, fun W hf => ?_, .inr ⟨rfl, rfl, rfl, rfl⟩⟩
    rw [hl W hf, e]; rfl
theorem results_c22 {fn : Func} {p q r : Tmp} (h : fn.results = #[.cell p 22, .tmp q, .tmp r]) {tmps : Array Value} {w : World} {g : Nat} {u v x : Value} {t : TypeId} {f : Nat × Nat} (hp : tmps.getD p undef = .pointer (some ⟨g, 0, none⟩)) (hq : tmps.getD q undef = v) (hr : tmps.getD r undef = x) (hg : w.heap[g]? = some (.cells #[u] t f)) :
    (results fn tmps).run Try.prog w = .ok (.tuple #[u, v, x]) w := by
  have hp' : tmps[p]?.getD undef = .pointer (some ⟨g, 0, none⟩) := by simpa using hp
  have hq' : tmps[q]?.getD undef = v := by simpa using hq
  have hr' : tmps[r]?.getD undef = x := by simpa using hr
  have hc := cell_of hg 0
  simp [results, h, hp', hq', hr', go_sem, hc]
set_option maxHeartbeats 2000000 in
set_option maxRecDepth 100000 in
theorem add_nil (p : Prt) (bv : Value) (w : World) (xo : Option Addr) (hx : xo = none ∨ ∃ xb v u, xo = some ⟨xb, 0, none⟩ ∧ w.heap[xb]? = some (.cells #[.int .i64 0, v, u] 58 (0, 0))) :
    Calls Try.prog 30 #[.pointer xo, pv p bv] w (Ret (.tuple #[.slice none 0 0, .bool false, .int .i64 1]) (Frm [] w)) := by
  have CN : Hid (∀ W, Frm [] w W → Calls Try.prog 31 #[.pointer xo] W (Ret (.bool true) (W = ·))) := Lib.hid fun W hf => by
    rcases hx with rfl | ⟨xb, v, u, rfl, h⟩
    · exact none_nil W
    · exact none_zero xb W v u (hf.at h (by simp))
  unfold pv
  clear hx
  go_enter Try.func30, Try.ntmps30
  go_wp2_with (go_at_call 31; go_must (refine (CN.out _ (((Frm.refl [] w).alloc _).alloc _)).mono ?_; rintro e w' ⟨rfl, rfl⟩))
  refine bodyPost_ret (results_c22 rfl rfl rfl rfl (alloc_top (n := w.heap.size + 1) (by simp))) rfl ⟨rfl, ?_⟩
  exact ((Frm.refl [] w).alloc _).alloc _
/-- the result's box holds nil again -/
theorem add_fail {w W w' : World} {base xb mo : Nat} {M B : Int} {N : Nat} {S : St} {K : Int → Nat} {e : Int} {r : St × List UInt8 × Bool × Int} {fn : Func} {tmps : Array Value} (hf : fn.results = #[.cell 4 22, .tmp 5, .tmp 6]) (hr : r = (S, [], false, e)) (h : BX w xb mo M B N S K) (hlo : Lo base mo S K) (hw : Frm [] w W) (hq : W.heap[w.heap.size + 1]? = some (.cells #[.slice none 0 0] 22 (0, 0)))
    (hW : W.setCell ⟨w.heap.size + 1, 0, none⟩ (.slice none 0 0) = w') (h4 : tmps.getD 4 undef = .pointer (some ⟨w.heap.size + 1, 0, none⟩)) (h5 : tmps.getD 5 undef = .bool false) (h6 : tmps.getD 6 undef = .int .i64 e) :
    bodyPost Try.prog fn (RetV (AddTo w base xb mo M B N r)) .ret { tmps := tmps, defers := [] } w' := by
  subst hW hr
  have hfr : Frm [] w (W.setCell ⟨w.heap.size + 1, 0, none⟩ (.slice none 0 0)) := hw.setCell _ (.inr (by simp)) _
  exact bodyPost_ret (results_c22 hf h4 h5 h6 (block_setCell hq 0 _)) rfl ⟨_, rfl, .slice none 0 0, K, N, rfl, Byts.nil _, h.frm0 hfr, hlo, by omega, Mp.frm0 hfr⟩
set_option maxHeartbeats 2000000 in
set_option maxRecDepth 100000 in
theorem add_any {w : World} {base xb mo : Nat} {M B : Int} {N : Nat} {S : St} {K : Int → Nat} (h : BX w xb mo M B N S K) (hlo : Lo base mo S K) (hbase : base ≤ w.heap.size) (p : Prt) (bv : Value) (hb : Byts w bv p.b) (hn : p.b.length ≤ 100000) (hN : N ≤ 800000) :
    Calls Try.prog 30 #[.pointer (some ⟨xb, 0, none⟩), pv p bv] w (RetV (AddTo w base xb mo M B N (addS M B S p))) := by
  obtain ⟨ao, cap, rfl, hcap⟩ := hb.len
  obtain ⟨W1, hW1⟩ : ∃ W1, (w.alloc (.cells #[.int .i64 p.msg, .int .i64 p.num, .int .i64 p.cnt, .slice ao p.b.length cap] 38)).alloc (.cells #[.slice none 0 0] 22) = W1 := ⟨_, rfl⟩
  have hf1 : Frm [] w W1 := by rw [← hW1]; exact ((Frm.refl [] w).alloc _).alloc _
  have HP : Hid (W1.heap[w.heap.size]? = some (.cells #[.int .i64 p.msg, .int .i64 p.num, .int .i64 p.cnt, .slice ao p.b.length cap] 38 (0, 0))) := Lib.hid (by rw [← hW1]; exact alloc_at (heap_alloc_new _ _))
  have HQ : Hid (W1.heap[w.heap.size + 1]? = some (.cells #[.slice none 0 0] 22 (0, 0))) := Lib.hid (by rw [← hW1]; exact alloc_top (by simp))
  have HX := Lib.hid h; have HB := Lib.hid hb; have HLO := Lib.hid hlo
  have CN := Lib.hid (none_any (h.frm0 hf1))
  have CR := Lib.hid (right_any p ao cap W1 (by omega))
  have HF1 := Lib.hid hf1
  have HW1 := Lib.hid hW1
  have p0 := cell_of HP.out 0
  have p1 := cell_of HP.out 1
  have p2 := cell_of HP.out 2
  have p3 := cell_of HP.out 3
  clear h hb hlo hf1 hW1
  unfold pv at *
  cases hr : rightB p with
  | false =>
    rw [hr] at CR
    have HE : Hid (addS M B S p = (S, [], false, 2)) := Lib.hid (by unfold addS; rw [if_pos hr])
    clear hr
    go_enter Try.func30, Try.ntmps30
    go_upto_region 1 with fail
    rw [HW1.out]
    clear HW1
    go_wp2_with (first
      | (go_at_call 31; go_must (refine CN.out.mono ?_; rintro e w' ⟨rfl, rfl⟩))
      | (go_at_call 35; go_must (refine CR.out.mono ?_; rintro e w2 ⟨rfl, hf⟩; have hq2 := hf.at HQ.out (by simp); have q0 := cell_of hq2 0; have qf := free_of hq2 0; have HQ2 := Lib.hid hq2; have HF2 := Lib.hid hf; clear hf hq2)))
    exact add_fail rfl HE.out HX.out HLO.out (HF1.out.trans HF2.out) HQ2.out rfl rfl rfl rfl
  | true =>
    rw [hr] at CR
    have HRB := Lib.hid hr
    clear hr
    go_enter Try.func30, Try.ntmps30
    go_upto_region 1 with fail
    rw [HW1.out]
    clear HW1
    go_upto_region 5 with (first
      | (go_at_call 31; go_must (refine CN.out.mono ?_; rintro e w' ⟨rfl, rfl⟩))
      | (go_at_call 35; go_must (refine CR.out.mono ?_; rintro e w2 ⟨rfl, hf⟩; have hp2 := hf.at HP.out (by simp); have hq2 := hf.at HQ.out (by simp); have HQ2 := Lib.hid hq2; have HP2 := Lib.hid hp2; have HF2 := Lib.hid hf; clear hf hq2 hp2)))
    obtain ⟨c0, mp, is, hlook, hcase⟩ := HX.out.look p.msg (right_msg HRB.out).1 (right_msg HRB.out).2
    have HLK := Lib.hid hlook; have HCS := Lib.hid hcase
    have HS5 : Hid (∀ W, Frm [] w2 W → W.cell? ⟨xb, 2, none⟩ = some (.map (some mo)) ∧ W.cell? ⟨w.heap.size, 0, none⟩ = some (.int .i64 p.msg) ∧ (Instr.lookup 56 (.map (some mo)) (.int .i64 p.msg) true).run Try.prog W = .ok (.tuple #[.agg #[.int .i64 c0, .map mp], .bool is]) W) := Lib.hid fun W hf =>
      ⟨((HF1.out.trans HF2.out).trans hf).keep (cell_of HX.out.hx 2), hf.keep (cell_of HP2.out 0), HLK.out W ((HF1.out.trans HF2.out).trans hf)⟩
    clear hlook hcase p0 p1 p2 p3
    go_cut [7, 8] from 18 to 27 (fun s7 s8 w3 => s7 = .pointer (some ⟨w2.heap.size, 0, none⟩) ∧ s8 = .bool is ∧ Frm [] w2 w3 ∧ w3.heap[w2.heap.size]? = some (.cells #[.int .i64 c0, .map mp] 75 (0, 0)))
    case first =>
      go_region_held3 (fun W => W.cell? ⟨xb, 2, none⟩ = some (.map (some mo)) ∧ W.cell? ⟨w.heap.size, 0, none⟩ = some (.int .i64 p.msg) ∧ (Instr.lookup 56 (.map (some mo)) (.int .i64 p.msg) true).run Try.prog W = .ok (.tuple #[.agg #[.int .i64 c0, .map mp], .bool is]) W)
        (first
          | exact HS5.out _ ((Frm.refl [] w2).drew)
          | exact HS5.out _ (((Frm.refl [] w2).drew).alloc _))
        (fail)
      all_goals
        go_wp2
        go_meet
        exact ⟨rfl, rfl, ((Frm.refl [] w2).alloc _).drew, heap_alloc_new _ _⟩
    case rest =>
      obtain ⟨rfl, rfl, hf3, hm3⟩ := hcut
      have HF3 := Lib.hid hf3; have HM3 := Lib.hid hm3
      clear hf3 hm3 HS5
      have HFW : Hid (Frm [] w wc) := Lib.hid ((HF1.out.trans HF2.out).trans HF3.out)
      have HP3 : Hid (wc.heap[w.heap.size]? = some (.cells #[.int .i64 p.msg, .int .i64 p.num, .int .i64 p.cnt, .slice ao p.b.length cap] 38 (0, 0))) := Lib.hid (HF3.out.at HP2.out (by simp))
      have HQ3 : Hid (wc.heap[w.heap.size + 1]? = some (.cells #[.slice none 0 0] 22 (0, 0))) := Lib.hid (HF3.out.at HQ2.out (by simp))
      have HB3 : Hid (Byts wc (.slice ao p.b.length cap) p.b) := Lib.hid (HB.out.frm0 HFW.out)
      obtain ⟨rc1, rc2, rn0, rn1, rl⟩ := right_rest HRB.out
      have rm := right_msg HRB.out
      have HRR := Lib.hid (And.intro rm (And.intro rc1 (And.intro rc2 (And.intro rn0 (And.intro rn1 rl)))))
      have p1 := cell_of HP3.out 1
      have p2 := cell_of HP3.out 2
      have p3 := cell_of HP3.out 3
      have q0 := cell_of HQ3.out 0
      have qf := free_of HQ3.out 0
      have m0 := cell_of HM3.out 0
      have m1 := cell_of HM3.out 1
      have HP2' := HP2; have HQ2' := HQ2
      clear HP2 HQ2 HLK rc1 rc2 rn0 rn1 rl rm
      rcases HCS.out with ⟨rfl, m, hm, rfl, rfl⟩ | ⟨rfl, hm, rfl, rfl⟩
      · have hpm := (HX.out.hp p.msg m hm).frm0 HFW.out
        obtain ⟨hv, tw, hb, hl, hby, hcs⟩ := hpm.look_ok p.num HRR.out.2.2.2.1 (by have := HRR.out.2.2.2.2.1; have := HRR.out.2.2.1; omega)
        have HBY := Lib.hid hby; have HM := Lib.hid hm; have HCC := Lib.hid hcs
        obtain ⟨av, cv, hve, -⟩ := hby.len
        clear hpm hby hm hcs HCS
        subst hve
        by_cases hcnt : m.cnt = p.cnt
        · have k1 : (m.cnt != p.cnt) = false := by simp [hcnt]
          have HCNT := Lib.hid hcnt
          clear hcnt
          rcases HCC.out with ⟨rfl, hlk⟩ | ⟨rfl, hlk⟩
          · by_cases hbb : hb = p.b
            · have HE : Hid (addS M B S p = (S, [], false, 0)) := Lib.hid (by unfold addS; simp [HRB.out, HM.out, HCNT.out, hlk, hbb])
              have CE : Hid (Calls Try.prog 39 #[.slice av hb.length cv, .slice ao p.b.length cap] wc (Ret (.bool true) (wc = ·))) := Lib.hid (by have := equal_any _ _ hb p.b wc HBY.out HB3.out; rwa [decide_eq_true hbb] at this)
              clear hbb hlk
              go_wp2_with (go_at_call 39; go_must (refine CE.out.mono ?_; rintro e w' ⟨rfl, rfl⟩))
              exact add_fail rfl HE.out HX.out HLO.out HFW.out HQ3.out rfl rfl rfl rfl
            · have HE : Hid (addS M B S p = (S, [], false, 8)) := Lib.hid (by unfold addS; simp [HRB.out, HM.out, HCNT.out, hlk, hbb])
              have CE : Hid (Calls Try.prog 39 #[.slice av hb.length cv, .slice ao p.b.length cap] wc (Ret (.bool false) (wc = ·))) := Lib.hid (by have := equal_any _ _ hb p.b wc HBY.out HB3.out; rwa [decide_eq_false hbb] at this)
              clear hbb hlk
              go_wp2_with (go_at_call 39; go_must (refine CE.out.mono ?_; rintro e w' ⟨rfl, rfl⟩))
              exact add_fail rfl HE.out HX.out HLO.out HFW.out HQ3.out rfl rfl rfl rfl
          · have HLK2 := Lib.hid hlk
            clear hlk
            obtain ⟨hh, hhh⟩ : ∃ hh, heldS S = hh := ⟨_, rfl⟩
            obtain ⟨sl, hsl⟩ : ∃ sl, S.length = sl := ⟨_, rfl⟩
            have HHH := Lib.hid hhh; have HSL := Lib.hid hsl
            have hb1 : (hh : Int) ≤ 1048576 := by have h1 := HX.out.held; have h2 := HX.out.b20; omega
            have hwr : IntKind.i64.wrap ((hh : Int) + (p.b.length : Int)) = (hh : Int) + (p.b.length : Int) := IntWalk.i64_in _ (by omega)
            clear hhh hsl
            by_cases hfull : B < (hh : Int) + (p.b.length : Int)
            · have k2 : decide (B < (hh : Int) + (p.b.length : Int)) = true := by simpa using hfull
              have HE : Hid (addS M B S p = (S, [], false, 7)) := Lib.hid (by unfold addS; rw [← HHH.out] at hfull; simp [HRB.out, HM.out, HCNT.out, HLK2.out, hfull])
              clear hfull
              go_upto_region 11 with fail
              have HS11 : Hid (∀ W, Frm [] wc W → W.cell? ⟨xb, 0, none⟩ = some (.int .i64 M) ∧ W.cell? ⟨xb, 1, none⟩ = some (.int .i64 B) ∧ W.cell? ⟨xb, 2, none⟩ = some (.map (some mo)) ∧ W.cell? ⟨w.heap.size, 3, none⟩ = some (.slice ao p.b.length cap) ∧ (Builtin.len_ #[56] 3 #[.map (some mo)]).run Try.prog W = .ok (.int .i64 sl) W) := Lib.hid fun W hf => by
                have hx := cell_of (HX.out.frm0 (HFW.out.trans hf)).hx
                exact ⟨hx 0, hx 1, hx 2, hf.keep p3, by rw [← HSL.out]; exact (HX.out.frm0 (HFW.out.trans hf)).hm.len Try.underlying56 3⟩
              have CH : Hid (∀ W, Frm [] wc W → Calls Try.prog 16 #[.pointer (some ⟨xb, 0, none⟩)] W (Ret (.int .i64 hh) (Frm [] W))) := Lib.hid fun W hf => by
                rw [← HHH.out]; exact held_any (HX.out.frm0 (HFW.out.trans hf))
              clear p1 p2 p3 m0 m1 q0 qf
              refine wp_region_cq (by kernel_rfl) (by kernel_rfl) ?_
              repeat (first
                | go_big_quiet_skip
                | (refine wpQuiet_want (by rfl) (fun K hK => ?_)
                   first
                    | (refine quiet_move _ (by rfl) (hK _ ?_))
                    | (refine quiet_assign _ (by rfl) (hK _ ?_))
                    | (refine cq_call (.int .i64 hh) 16 #[.pointer (some ⟨xb, 0, none⟩)] (fun w' hC => ?_) (fun w' hC => Ret.cq (CH.out w' hC) (fun w'' h => hC.trans h)) (hK _ ?_)
                       · go_simp)
                    | (apply Exists.intro
                       refine ⟨fun w' hC => ?_, hK _ ?_⟩
                       · (unfold Oper.quietAt
                          obtain ⟨e0, e1, e2, e3, e4⟩ := HS11.out w' hC
                          clear hC
                          go_simp
                          try exact ⟨rfl, rfl⟩
                          try rfl))
                   clear hK K
                   try simp only [Act.put, List.setIfInBounds_toArray, List.set_cons_zero, List.set_cons_succ, Act.eval, Array.getD_eq_getD_getElem?, List.getElem?_toArray, List.getElem?_cons_zero, List.getElem?_cons_succ, Option.getD_some]))
              refine wpQuiet_nil ?_
              intro w4 hf4
              have HF4 := Lib.hid hf4
              have hq4 := hf4.at HQ3.out (by simp)
              have HQ4 := Lib.hid hq4
              have q0 := cell_of hq4 0
              have qf := free_of hq4 0
              clear hf4 hq4
              go_wp2
              exact add_fail rfl HE.out HX.out HLO.out (HFW.out.trans HF4.out) HQ4.out rfl rfl rfl rfl
            · have k2 : decide (B < (hh : Int) + (p.b.length : Int)) = false := by simpa using hfull
              have HE : Hid (addS M B S p = putS S p m) := Lib.hid (by unfold addS; rw [← HHH.out] at hfull; simp [HRB.out, HM.out, HCNT.out, HLK2.out, hfull])
              have HFU := Lib.hid hfull
              clear hfull
              go_upto_region 11 with fail
              have HS11 : Hid (∀ W, Frm [] wc W → W.cell? ⟨xb, 0, none⟩ = some (.int .i64 M) ∧ W.cell? ⟨xb, 1, none⟩ = some (.int .i64 B) ∧ W.cell? ⟨xb, 2, none⟩ = some (.map (some mo)) ∧ W.cell? ⟨w.heap.size, 3, none⟩ = some (.slice ao p.b.length cap) ∧ (Builtin.len_ #[56] 3 #[.map (some mo)]).run Try.prog W = .ok (.int .i64 sl) W) := Lib.hid fun W hf => by
                have hx := cell_of (HX.out.frm0 (HFW.out.trans hf)).hx
                exact ⟨hx 0, hx 1, hx 2, hf.keep p3, by rw [← HSL.out]; exact (HX.out.frm0 (HFW.out.trans hf)).hm.len Try.underlying56 3⟩
              have CH : Hid (∀ W, Frm [] wc W → Calls Try.prog 16 #[.pointer (some ⟨xb, 0, none⟩)] W (Ret (.int .i64 hh) (Frm [] W))) := Lib.hid fun W hf => by
                rw [← HHH.out]; exact held_any (HX.out.frm0 (HFW.out.trans hf))
              clear p1 p2 p3 m0 m1 q0 qf
              refine wp_region_cq (by kernel_rfl) (by kernel_rfl) ?_
              repeat (first
                | go_big_quiet_skip
                | (refine wpQuiet_want (by rfl) (fun K hK => ?_)
                   first
                    | (refine quiet_move _ (by rfl) (hK _ ?_))
                    | (refine quiet_assign _ (by rfl) (hK _ ?_))
                    | (refine cq_call (.int .i64 hh) 16 #[.pointer (some ⟨xb, 0, none⟩)] (fun w' hC => ?_) (fun w' hC => Ret.cq (CH.out w' hC) (fun w'' h => hC.trans h)) (hK _ ?_)
                       · go_simp)
                    | (apply Exists.intro
                       refine ⟨fun w' hC => ?_, hK _ ?_⟩
                       · (unfold Oper.quietAt
                          obtain ⟨e0, e1, e2, e3, e4⟩ := HS11.out w' hC
                          clear hC
                          go_simp
                          try exact ⟨rfl, rfl⟩
                          try rfl))
                   clear hK K
                   try simp only [Act.put, List.setIfInBounds_toArray, List.set_cons_zero, List.set_cons_succ, Act.eval, Array.getD_eq_getD_getElem?, List.getElem?_toArray, List.getElem?_cons_zero, List.getElem?_cons_succ, Option.getD_some]))
              refine wpQuiet_nil ?_
              intro w4 hf4
              have HF4 := Lib.hid hf4
              have hq4 := hf4.at HQ3.out (by simp)
              have HQ4 := Lib.hid hq4
              have q0 := cell_of hq4 0
              have qf := free_of hq4 0
              clear hf4 hq4
              go_upto_region 16 with fail
              obtain ⟨kb, hkb⟩ : ∃ kb, K p.msg = kb := ⟨_, rfl⟩
              have HKB := Lib.hid hkb
              have HX5 : Hid (BX w4 xb mo M B N S K) := Lib.hid (HX.out.frm0 (HFW.out.trans HF4.out))
              have HL5 := HM; have HN5 := HLK2; have HLO5 := HLO
              have HMP5 : Hid (Mp base w w4) := Lib.hid (Mp.frm0 (HFW.out.trans HF4.out))
              have HM5 : Hid (w4.heap[w2.heap.size]? = some (.cells #[.int .i64 m.cnt, .map (some kb)] 75 (0, 0))) := Lib.hid (by rw [← hkb]; exact HF4.out.at HM3.out (by simp))
              have HP5 : Hid (w4.heap[w.heap.size]? = some (.cells #[.int .i64 p.msg, .int .i64 p.num, .int .i64 p.cnt, .slice ao p.b.length cap] 38 (0, 0))) := Lib.hid (HF4.out.at HP3.out (by simp))
              have HQ5 := HQ4
              have HB5 : Hid (Byts w4 (.slice ao p.b.length cap) p.b) := Lib.hid (HB3.out.frm0 HF4.out)
              have HH5 : Hid ((heldS S : Int) + p.b.length ≤ B) := Lib.hid (by rw [HHH.out]; have := HFU.out; omega)
              have HNN5 : Hid (N ≤ N + 1) := Lib.hid (by omega)
              clear hkb hl k1 k2 hwr hb1 q0 qf
              have CC : Hid (∀ W, Frm [] w4 W → Calls Try.prog 29 #[.slice ao p.b.length cap] W (RetV (Fresh W p.b))) := Lib.hid fun W hf => clone_any _ _ W (HB5.out.frm0 hf) (by omega)
              have HS16 : Hid (∀ W, Frm [] w4 W → W.cell? ⟨w2.heap.size, 1, none⟩ = some (.map (some kb)) ∧ W.cell? ⟨w.heap.size, 1, none⟩ = some (.int .i64 p.num) ∧ W.cell? ⟨w.heap.size, 3, none⟩ = some (.slice ao p.b.length cap)) := Lib.hid fun W hf =>
                ⟨cell_of (hf.at HM5.out (by simp)) 1, cell_of (hf.at HP5.out (by simp)) 1, cell_of (hf.at HP5.out (by simp)) 3⟩
              have HNK : Hid (kb ≠ w2.heap.size ∧ kb ≠ w.heap.size ∧ kb ≠ w.heap.size + 1 ∧ kb ≠ xb) := Lib.hid (by
                obtain ⟨es, c, hb⟩ := HX5.out.isMap HL5.out
                rw [HKB.out] at hb
                refine ⟨fun e => ?_, fun e => ?_, fun e => ?_, fun e => ?_⟩
                · rw [e, HM5.out] at hb; cases hb
                · rw [e, HP5.out] at hb; cases hb
                · rw [e, HQ5.out] at hb; cases hb
                · rw [e, HX5.out.hx] at hb; cases hb)
              have HS17 : Hid (∀ w6 W, Frm [] w4 w6 → Frm [kb] w6 W → W.cell? ⟨w2.heap.size, 1, none⟩ = some (.map (some kb)) ∧ W.cell? ⟨w.heap.size, 1, none⟩ = some (.int .i64 p.num) ∧ W.cell? ⟨w.heap.size, 3, none⟩ = some (.slice ao p.b.length cap)) := Lib.hid fun w6 W hf hk =>
                ⟨cell_of (hk.at (hf.at HM5.out (by simp)) (by have := HNK.out.1; simp; omega)) 1, cell_of (hk.at (hf.at HP5.out (by simp)) (by have := HNK.out.2.1; simp; omega)) 1, cell_of (hk.at (hf.at HP5.out (by simp)) (by have := HNK.out.2.1; simp; omega)) 3⟩
              have CU : Hid (∀ w6 v, Frm [] w4 w6 → Fresh w4.drew p.b v w6 → ∃ w7, (Instr.mapUpdate 73 (.map (some kb)) (.int .i64 p.num) v).run Try.prog w6 = .ok () w7 ∧ PMap w7 kb (N + 1) (m.ps ++ [(p.num, p.b)]) ∧ Frm [kb] w6 w7) := Lib.hid fun w6 v hf hfr => by
                have hp := (HX5.out.hp p.msg m HL5.out).frm0 hf
                rw [HKB.out] at hp
                exact hp.add HN5.out (own_low hfr.1 (Nat.zero_le _)) HRR.out.2.2.2.1 (by have := HRR.out.2.2.2.2.1; have := HRR.out.2.2.1; omega) (by have := HNN5.out; omega)
              go_region_held3 (fun W => W.cell? ⟨w2.heap.size, 1, none⟩ = some (.map (some kb)) ∧ W.cell? ⟨w.heap.size, 1, none⟩ = some (.int .i64 p.num) ∧ W.cell? ⟨w.heap.size, 3, none⟩ = some (.slice ao p.b.length cap))
                (first
                  | exact HS16.out _ ((Frm.refl [] w4).drew)
                  | exact HS16.out _ HF6.out
                  | exact HS17.out _ _ HF6.out HF7.out)
                (first
                  | (go_at_call 29; go_must (refine (CC.out _ ((Frm.refl [] w4).drew)).mono ?_; rintro e w6 ⟨v, rfl, hfr⟩; have HF6 : Hid (Frm [] w4 w6) := Lib.hid (((Frm.refl [] w4).drew).trans hfr.2); obtain ⟨w7, hup, hpm7, hf7⟩ := CU.out w6 v HF6.out hfr; obtain ⟨ao6, cp6, rfl⟩ := own_shape hfr.1; have HPM7 := Lib.hid hpm7; have HF7 := Lib.hid hf7; clear hfr hpm7 hf7)))
              have HM7 : Hid (w7.heap[w2.heap.size]? = some (.cells #[.int .i64 m.cnt, .map (some kb)] 75 (0, 0))) := Lib.hid (HF7.out.at (HF6.out.at HM5.out (by simp)) (by have := HNK.out.1; simp; omega))
              have HP7 : Hid (w7.heap[w.heap.size]? = some (.cells #[.int .i64 p.msg, .int .i64 p.num, .int .i64 p.cnt, .slice ao p.b.length cap] 38 (0, 0))) := Lib.hid (HF7.out.at (HF6.out.at HP5.out (by simp)) (by have := HNK.out.2.1; simp; omega))
              have HQ7 : Hid (w7.heap[w.heap.size + 1]? = some (.cells #[.slice none 0 0] 22 (0, 0))) := Lib.hid (HF7.out.at (HF6.out.at HQ5.out (by simp)) (by have := HNK.out.2.2.1; simp; omega))
              have hlen7 : (Builtin.len_ #[73] 3 #[.map (some kb)]).run Try.prog w7 = .ok (.int .i64 ((m.ps.length + 1 : Nat) : Int)) w7 := by
                obtain ⟨V, h1, h2⟩ := HPM7.out
                have := h1.len Try.underlying73 3
                simpa using this
              obtain ⟨ln, hln⟩ : ∃ ln, m.ps.length + 1 = ln := ⟨_, rfl⟩
              rw [hln] at hlen7
              have HLN := Lib.hid hln
              have HBX6 := Lib.hid (HX5.out.frm0 HF6.out)
              have hkmap : ∃ es c, w6.heap[kb]? = some (.map es c) := by
                obtain ⟨es, c, hb⟩ := HBX6.out.isMap HL5.out
                rw [HKB.out] at hb; exact ⟨es, c, hb⟩
              have HMP7 : Hid (Mp base w w7) := Lib.hid ((HMP5.out.trans (Mp.frm0 HF6.out)).trans (Mp.of HF7.out (fun x hx => by simp at hx; subst hx; exact ⟨by rw [← HKB.out]; exact HLO5.out.2 _ _ HL5.out, hkmap⟩)))
              have HSZ7 : Hid (sizeP (m.ps ++ [(p.num, p.b)]) ≤ 2000000) := Lib.hid (by rw [sizeP_snoc]; have h1 := sizeP_le HL5.out; have h2 := HH5.out; have h3 := HX5.out.b20; simp only; omega)
              have HSM := Lib.hid (HX5.out.small _ _ HL5.out)
              have m0 := cell_of HM7.out 0
              have m1 := cell_of HM7.out 1
              have q0 := cell_of HQ7.out 0
              have qf := free_of HQ7.out 0
              clear hln hkmap
              by_cases hwh : (ln : Int) < m.cnt
              · have HE2 : Hid (addS M B S p = (mod p.msg ⟨m.cnt, m.ps ++ [(p.num, p.b)]⟩ S, [], false, 0)) := Lib.hid (by rw [HE.out]; unfold putS; rw [if_pos (by rw [HLN.out]; exact hwh)])
                have HWH := Lib.hid hwh
                go_wp2
                have hf8 : Frm [w.heap.size + 1] w7 (w7.setCell ⟨w.heap.size + 1, 0, none⟩ (.slice none 0 0)) := (Frm.refl _ _).setCell _ (.inl (by simp)) _
                have hput : BX w7 xb mo M B (N + 1) (mod p.msg ⟨m.cnt, m.ps ++ [(p.num, p.b)]⟩ S) K := HBX6.out.put HL5.out (by rw [HKB.out]; exact HF7.out) (by rw [HKB.out]; exact HPM7.out) rfl (by rw [List.length_append, List.length_cons, List.length_nil, Nat.zero_add, HLN.out]; exact HWH.out) (by
                  have h1 := heldS_mod (m' := ⟨m.cnt, m.ps ++ [(p.num, p.b)]⟩) HX5.out.hm.2 HL5.out
                  rw [sizeP_snoc] at h1
                  have h2 := HH5.out
                  simp only at h1
                  omega) (by have := HNN5.out; omega)
                refine bodyPost_ret (results_c22 rfl rfl rfl rfl (block_setCell HQ7.out 0 _)) rfl ⟨_, rfl, .slice none 0 0, K, N + 1, by rw [HE2.out]; rfl, ?_, ?_, ?_, by have := HNN5.out; omega, HMP7.out.then hf8 (by simp)⟩
                · rw [HE2.out]; exact Byts.nil _
                · rw [HE2.out]; exact hput.other hf8 (fun x hx => by simp at hx; subst hx; exact ⟨_, HQ7.out⟩)
                · rw [HE2.out]
                  exact HLO5.out.mod HL5.out
              · have HE2 : Hid (addS M B S p = (del p.msg S, whole (m.ps ++ [(p.num, p.b)]), true, 0)) := Lib.hid (by rw [HE.out]; unfold putS; rw [if_neg (by rw [HLN.out]; exact hwh)])
                have CV : Hid (Calls Try.prog 33 #[mv m.cnt kb, .func (.func 42) #[] #[.pointer (some ⟨w.heap.size + 1, 0, none⟩)]] w7 (Ret (.tuple #[]) (fun w' => WI w7 (w.heap.size + 1) w7.heap.size (vals (m.ps ++ [(p.num, p.b)])).flatten w'))) := Lib.hid
                  (visit42 m.cnt kb (N + 1) _ (w.heap.size + 1) w7 HPM7.out (by have h1 := HSM.out; have h2 := HLN.out; rw [List.length_append, List.length_cons, List.length_nil]; omega) HQ7.out HSZ7.out)
                unfold mv at CV
                go_upto_region 20 with (go_at_call 33; go_must (refine CV.out.mono ?_; clear CV; rintro e w8 ⟨rfl, hw8⟩; have HW8 := Lib.hid hw8; clear hw8))
                obtain ⟨WL, hWL⟩ : ∃ WL, whole (m.ps ++ [(p.num, p.b)]) = WL := ⟨_, rfl⟩
                unfold whole at hWL
                rw [hWL] at HW8
                have HWL := Lib.hid hWL
                clear hWL
                obtain ⟨uv, u1, u2, u3⟩ := HW8.out
                obtain ⟨au, cu, rfl⟩ := own_shape u2
                have HU1 := Lib.hid u1; have HU2 := Lib.hid u2; have HU3 := Lib.hid u3
                have HP8 := Lib.hid (u3.at HP7.out (by simp))
                have hmo7 : mo ∉ [kb] := by have := HX5.out.ne _ _ HL5.out; rw [HKB.out] at this; simp; omega
                have hmap6 := HBX6.out.hm.block
                have hmo8 : mo ≠ w.heap.size + 1 := fun e => by obtain ⟨es, c, hb⟩ := hmap6; rw [e] at hb; rw [HF6.out.at HQ5.out (by simp)] at hb; cases hb
                have HIM8 : Hid (IM w8 mo N S (fun s m => mv m.cnt (K s))) := Lib.hid (((HBX6.out.hm.frm HF7.out hmo7)).frm u3 (by simpa using hmo8))
                have HX8 : Hid (w8.heap[xb]? = some (.cells #[.int .i64 M, .int .i64 B, .map (some mo)] 58 (0, 0))) := Lib.hid (u3.at (HF7.out.at HBX6.out.hx (by have := HNK.out.2.2.2; simp; omega)) (by
                  simp only [List.mem_singleton]; intro e; have h1 := HBX6.out.hx; rw [e, HF6.out.at HQ5.out (by simp)] at h1; cases h1))
                have hmx : mo ≠ xb := fun e => by obtain ⟨es, c, hb⟩ := hmap6; rw [e, HBX6.out.hx] at hb; cases hb
                have hmp : mo ≠ w.heap.size := fun e => by obtain ⟨es, c, hb⟩ := hmap6; rw [e, HF6.out.at HP5.out (by simp)] at hb; cases hb
                have HMX := Lib.hid (And.intro hmx (And.intro hmp hmo8))
                obtain ⟨w9, hdel, him9, hf9⟩ := (HIM8.out.frm0 (Frm.refl [] w8).drew).drop (t := p.msg) Try.underlying56 (by have := HRR.out.1.1; omega) (by have := HRR.out.1.2; omega) 0
                have HIM9 := Lib.hid him9; have HF9 := Lib.hid hf9
                have HS20 : Hid (∀ F W, Frm F w8 W → (∀ x ∈ F, x = mo) → W.cell? ⟨xb, 2, none⟩ = some (.map (some mo)) ∧ W.cell? ⟨w.heap.size, 0, none⟩ = some (.int .i64 p.msg)) := Lib.hid fun F W hf hF =>
                  ⟨cell_of (hf.at HX8.out (fun hx => HMX.out.1 (hF _ hx).symm)) 2, cell_of (hf.at HP8.out (fun hx => HMX.out.2.1 (hF _ hx).symm)) 0⟩
                clear u1 u2 u3 him9 hf9 hmx hmp hmo7 hmo8 hmap6 m0 m1 q0 qf hwh hlen7 hup
                go_region_held3 (fun W => W.cell? ⟨xb, 2, none⟩ = some (.map (some mo)) ∧ W.cell? ⟨w.heap.size, 0, none⟩ = some (.int .i64 p.msg))
                  (first
                    | exact HS20.out [] _ ((Frm.refl [] w8).drew) (by simp)
                    | exact HS20.out [mo] _ (((Frm.refl [] w8).drew.mono (by simp)).trans HF9.out) (by simp))
                  (fail)
                have HF89 : Hid (Frm [mo] w8 w9) := Lib.hid (((Frm.refl [] w8).drew.mono (by simp)).trans HF9.out)
                have HQ9 : Hid (w9.heap[w.heap.size + 1]? = some (.cells #[.slice au WL.length cu] 22 (0, 0))) := Lib.hid (HF89.out.at HU1.out (by have := HMX.out.2.2; simp; omega))
                have q0 := cell_of HQ9.out 0
                have qf := free_of HQ9.out 0
                clear hdel
                go_wp2
                have hfe : Frm [w.heap.size + 1] w9 (w9.setCell ⟨w.heap.size + 1, 0, none⟩ (.slice au WL.length cu)) := (Frm.refl _ _).setCell _ (.inl (by simp)) _
                obtain ⟨es8, c8, hb8⟩ := HIM8.out.block
                have hq6 := HF6.out.at HQ5.out (by simp)
                have hall : Frm [kb, w.heap.size + 1, mo] w6 (w9.setCell ⟨w.heap.size + 1, 0, none⟩ (.slice au WL.length cu)) :=
                  (((HF7.out.mono (by simp)).trans (HU3.out.mono (by simp))).trans (HF89.out.mono (by simp))).trans (hfe.mono (by simp))
                have hmo9 : mo ∉ [w.heap.size + 1] := by have := HMX.out.2.2; simpa using this
                refine bodyPost_ret (results_c22 rfl rfl rfl rfl (block_setCell HQ9.out 0 _)) rfl ⟨_, rfl, .slice au WL.length cu, K, N, by rw [HE2.out]; rfl, ?_, ?_, ?_, by have := HNN5.out; omega, ?_⟩
                · rw [HE2.out]
                  show Byts _ _ (whole _)
                  unfold whole
                  rw [HWL.out]
                  refine Byts.of_own (base := 0) ?_
                  refine OwnB.keep (F := [w.heap.size + 1]) (w := w9) ?_ hfe (fun k hk c hc => by simp at hk; subst hk; rw [HQ9.out] at hc; cases hc)
                  exact OwnB.keep (F := [mo]) (own_low HU2.out (Nat.zero_le _)) HF89.out (fun k hk c hc => by simp at hk; subst hk; rw [hb8] at hc; cases hc)
                · rw [HE2.out]
                  exact HBX6.out.drop HL5.out (HIM9.out.frm hfe hmo9) hall (fun x hx => by
                    simp only [List.mem_cons, List.not_mem_nil, or_false] at hx
                    rcases hx with rfl | rfl | rfl
                    · exact .inl HKB.out.symm
                    · exact .inr (.inr ⟨_, hq6⟩)
                    · exact .inr (.inl rfl))
                · rw [HE2.out]
                  exact HLO5.out.del
                · have k1 := HMP7.out.then HU3.out (by simp)
                  have k2 := k1.trans (Mp.of (base := base) HF89.out (fun x hx => by simp at hx; subst hx; exact ⟨HLO5.out.1, es8, c8, hb8⟩))
                  exact k2.then hfe (by simp)
        · have k1 : (m.cnt != p.cnt) = true := by simpa using hcnt
          have HE : Hid (addS M B S p = (S, [], false, 8)) := Lib.hid (by unfold addS; simp [HRB.out, HM.out, hcnt])
          clear hcnt
          go_wp2
          exact add_fail rfl HE.out HX.out HLO.out HFW.out HQ3.out rfl rfl rfl rfl
      · have hl : (Instr.lookup 73 (.map none) (.int .i64 p.num) true).run Try.prog wc = .ok (.tuple #[.slice none 0 0, .bool false]) wc := look_nil true Try.key3 Try.underlying73 (Try.zero22 wc) (key_i64 (by have := HRR.out.2.2.2.1; omega) (by have := HRR.out.2.2.2.2.1; have := HRR.out.2.2.1; omega))
        have HM := Lib.hid hm
        clear hm HCS
        obtain ⟨hh, hhh⟩ : ∃ hh, heldS S = hh := ⟨_, rfl⟩
        obtain ⟨sl, hsl⟩ : ∃ sl, S.length = sl := ⟨_, rfl⟩
        have HHH := Lib.hid hhh; have HSL := Lib.hid hsl
        have hb1 : (hh : Int) ≤ 1048576 := by have h1 := HX.out.held; have h2 := HX.out.b20; omega
        have hwr : IntKind.i64.wrap ((hh : Int) + (p.b.length : Int)) = (hh : Int) + (p.b.length : Int) := IntWalk.i64_in _ (by omega)
        clear hhh hsl
        by_cases hM : (sl : Int) = M
        · have k3 : ((sl : Int) == M) = true := by simpa using hM
          have HE : Hid (addS M B S p = (S, [], false, 7)) := Lib.hid (by unfold addS; rw [← HSL.out] at hM; simp [HRB.out, HM.out, hM])
          clear hM
          go_upto_region 11 with fail
          have HS11 : Hid (∀ W, Frm [] wc W → W.cell? ⟨xb, 0, none⟩ = some (.int .i64 M) ∧ W.cell? ⟨xb, 1, none⟩ = some (.int .i64 B) ∧ W.cell? ⟨xb, 2, none⟩ = some (.map (some mo)) ∧ W.cell? ⟨w.heap.size, 3, none⟩ = some (.slice ao p.b.length cap) ∧ (Builtin.len_ #[56] 3 #[.map (some mo)]).run Try.prog W = .ok (.int .i64 sl) W) := Lib.hid fun W hf => by
            have hx := cell_of (HX.out.frm0 (HFW.out.trans hf)).hx
            exact ⟨hx 0, hx 1, hx 2, hf.keep p3, by rw [← HSL.out]; exact (HX.out.frm0 (HFW.out.trans hf)).hm.len Try.underlying56 3⟩
          have CH : Hid (∀ W, Frm [] wc W → Calls Try.prog 16 #[.pointer (some ⟨xb, 0, none⟩)] W (Ret (.int .i64 hh) (Frm [] W))) := Lib.hid fun W hf => by
            rw [← HHH.out]; exact held_any (HX.out.frm0 (HFW.out.trans hf))
          clear p1 p2 p3 m0 m1 q0 qf
          refine wp_region_cq (by kernel_rfl) (by kernel_rfl) ?_
          repeat (first
            | go_big_quiet_skip
            | (refine wpQuiet_want (by rfl) (fun K hK => ?_)
               first
                | (refine quiet_move _ (by rfl) (hK _ ?_))
                | (refine quiet_assign _ (by rfl) (hK _ ?_))
                | (refine cq_call (.int .i64 hh) 16 #[.pointer (some ⟨xb, 0, none⟩)] (fun w' hC => ?_) (fun w' hC => Ret.cq (CH.out w' hC) (fun w'' h => hC.trans h)) (hK _ ?_)
                   · go_simp)
                | (apply Exists.intro
                   refine ⟨fun w' hC => ?_, hK _ ?_⟩
                   · (unfold Oper.quietAt
                      obtain ⟨e0, e1, e2, e3, e4⟩ := HS11.out w' hC
                      clear hC
                      go_simp
                      try exact ⟨rfl, rfl⟩
                      try rfl))
               clear hK K
               try simp only [Act.put, List.setIfInBounds_toArray, List.set_cons_zero, List.set_cons_succ, Act.eval, Array.getD_eq_getD_getElem?, List.getElem?_toArray, List.getElem?_cons_zero, List.getElem?_cons_succ, Option.getD_some]))
          refine wpQuiet_nil ?_
          intro w4 hf4
          have HF4 := Lib.hid hf4
          have hq4 := hf4.at HQ3.out (by simp)
          have HQ4 := Lib.hid hq4
          have q0 := cell_of hq4 0
          have qf := free_of hq4 0
          clear hf4 hq4
          go_wp2
          exact add_fail rfl HE.out HX.out HLO.out (HFW.out.trans HF4.out) HQ4.out rfl rfl rfl rfl
        · have k3 : ((sl : Int) == M) = false := by simpa using hM
          by_cases hfull : B < (hh : Int) + (p.b.length : Int)
          · have k2 : decide (B < (hh : Int) + (p.b.length : Int)) = true := by simpa using hfull
            have HE : Hid (addS M B S p = (S, [], false, 7)) := Lib.hid (by unfold addS; rw [← HHH.out] at hfull; simp [HRB.out, HM.out, hfull])
            clear hfull hM
            go_upto_region 11 with fail
            have HS11 : Hid (∀ W, Frm [] wc W → W.cell? ⟨xb, 0, none⟩ = some (.int .i64 M) ∧ W.cell? ⟨xb, 1, none⟩ = some (.int .i64 B) ∧ W.cell? ⟨xb, 2, none⟩ = some (.map (some mo)) ∧ W.cell? ⟨w.heap.size, 3, none⟩ = some (.slice ao p.b.length cap) ∧ (Builtin.len_ #[56] 3 #[.map (some mo)]).run Try.prog W = .ok (.int .i64 sl) W) := Lib.hid fun W hf => by
              have hx := cell_of (HX.out.frm0 (HFW.out.trans hf)).hx
              exact ⟨hx 0, hx 1, hx 2, hf.keep p3, by rw [← HSL.out]; exact (HX.out.frm0 (HFW.out.trans hf)).hm.len Try.underlying56 3⟩
            have CH : Hid (∀ W, Frm [] wc W → Calls Try.prog 16 #[.pointer (some ⟨xb, 0, none⟩)] W (Ret (.int .i64 hh) (Frm [] W))) := Lib.hid fun W hf => by
              rw [← HHH.out]; exact held_any (HX.out.frm0 (HFW.out.trans hf))
            clear p1 p2 p3 m0 m1 q0 qf
            refine wp_region_cq (by kernel_rfl) (by kernel_rfl) ?_
            repeat (first
              | go_big_quiet_skip
              | (refine wpQuiet_want (by rfl) (fun K hK => ?_)
                 first
                  | (refine quiet_move _ (by rfl) (hK _ ?_))
                  | (refine quiet_assign _ (by rfl) (hK _ ?_))
                  | (refine cq_call (.int .i64 hh) 16 #[.pointer (some ⟨xb, 0, none⟩)] (fun w' hC => ?_) (fun w' hC => Ret.cq (CH.out w' hC) (fun w'' h => hC.trans h)) (hK _ ?_)
                     · go_simp)
                  | (apply Exists.intro
                     refine ⟨fun w' hC => ?_, hK _ ?_⟩
                     · (unfold Oper.quietAt
                        obtain ⟨e0, e1, e2, e3, e4⟩ := HS11.out w' hC
                        clear hC
                        go_simp
                        try exact ⟨rfl, rfl⟩
                        try rfl))
                 clear hK K
                 try simp only [Act.put, List.setIfInBounds_toArray, List.set_cons_zero, List.set_cons_succ, Act.eval, Array.getD_eq_getD_getElem?, List.getElem?_toArray, List.getElem?_cons_zero, List.getElem?_cons_succ, Option.getD_some]))
            refine wpQuiet_nil ?_
            intro w4 hf4
            have HF4 := Lib.hid hf4
            have hq4 := hf4.at HQ3.out (by simp)
            have HQ4 := Lib.hid hq4
            have q0 := cell_of hq4 0
            have qf := free_of hq4 0
            clear hf4 hq4
            go_wp2
            exact add_fail rfl HE.out HX.out HLO.out (HFW.out.trans HF4.out) HQ4.out rfl rfl rfl rfl
          · have k2 : decide (B < (hh : Int) + (p.b.length : Int)) = false := by simpa using hfull
            have HE0 : Hid (addS M B S p = putS (S ++ [(p.msg, ⟨p.cnt, []⟩)]) p ⟨p.cnt, []⟩) := Lib.hid (by unfold addS; rw [← HHH.out] at hfull; rw [← HSL.out] at hM; simp [HRB.out, HM.out, hfull, hM])
            have HFU := Lib.hid hfull
            have HNM := Lib.hid hM
            clear hfull hM
            go_upto_region 11 with fail
            have HS11 : Hid (∀ W, Frm [] wc W → W.cell? ⟨xb, 0, none⟩ = some (.int .i64 M) ∧ W.cell? ⟨xb, 1, none⟩ = some (.int .i64 B) ∧ W.cell? ⟨xb, 2, none⟩ = some (.map (some mo)) ∧ W.cell? ⟨w.heap.size, 3, none⟩ = some (.slice ao p.b.length cap) ∧ (Builtin.len_ #[56] 3 #[.map (some mo)]).run Try.prog W = .ok (.int .i64 sl) W) := Lib.hid fun W hf => by
              have hx := cell_of (HX.out.frm0 (HFW.out.trans hf)).hx
              exact ⟨hx 0, hx 1, hx 2, hf.keep p3, by rw [← HSL.out]; exact (HX.out.frm0 (HFW.out.trans hf)).hm.len Try.underlying56 3⟩
            have CH : Hid (∀ W, Frm [] wc W → Calls Try.prog 16 #[.pointer (some ⟨xb, 0, none⟩)] W (Ret (.int .i64 hh) (Frm [] W))) := Lib.hid fun W hf => by
              rw [← HHH.out]; exact held_any (HX.out.frm0 (HFW.out.trans hf))
            clear p1 p2 p3 m0 m1 q0 qf
            refine wp_region_cq (by kernel_rfl) (by kernel_rfl) ?_
            repeat (first
              | go_big_quiet_skip
              | (refine wpQuiet_want (by rfl) (fun K hK => ?_)
                 first
                  | (refine quiet_move _ (by rfl) (hK _ ?_))
                  | (refine quiet_assign _ (by rfl) (hK _ ?_))
                  | (refine cq_call (.int .i64 hh) 16 #[.pointer (some ⟨xb, 0, none⟩)] (fun w' hC => ?_) (fun w' hC => Ret.cq (CH.out w' hC) (fun w'' h => hC.trans h)) (hK _ ?_)
                     · go_simp)
                  | (apply Exists.intro
                     refine ⟨fun w' hC => ?_, hK _ ?_⟩
                     · (unfold Oper.quietAt
                        obtain ⟨e0, e1, e2, e3, e4⟩ := HS11.out w' hC
                        clear hC
                        go_simp
                        try exact ⟨rfl, rfl⟩
                        try rfl))
                 clear hK K
                 try simp only [Act.put, List.setIfInBounds_toArray, List.set_cons_zero, List.set_cons_succ, Act.eval, Array.getD_eq_getD_getElem?, List.getElem?_toArray, List.getElem?_cons_zero, List.getElem?_cons_succ, Option.getD_some]))
            refine wpQuiet_nil ?_
            intro w4 hf4
            have HF4 := Lib.hid hf4
            have hq4 := hf4.at HQ3.out (by simp)
            have HQ4 := Lib.hid hq4
            have q0 := cell_of hq4 0
            have qf := free_of hq4 0
            clear hf4 hq4
            have hmm := @run_makeMap Try.prog
            have p2 := cell_of (HF4.out.at HP3.out (by simp)) 2
            go_upto_region 15 with (refine wpList_store_row rfl 75 (.tmp 7) (.tmp 93) rfl w2.heap.size #[.int .i64 p.cnt, .map (some w4.heap.size)] #[.int .i64 0, .map none] 75 ?_ ?_ ?_ rfl Try.size75 ?_ ?_; go_must ((focus (go_simp; done)); (focus (go_simp; done)); (exact alloc_at (HF4.out.at HM3.out (by simp))); (focus (simp [Value.oneCell']; done)); intro w5 hm5 hf5; have HM5' := Lib.hid hm5; have HF5 := Lib.hid hf5; clear hm5 hf5))
            clear hmm p2 q0 qf
            have hs2 : w.heap.size ≤ w2.heap.size := (HF1.out.trans HF2.out).size
            have hs24 : w2.heap.size < w4.heap.size := Nat.lt_of_lt_of_le (lt_of_block HM3.out) HF4.out.size
            have HFW5 : Hid (Frm [] w w5) := Lib.hid (((HFW.out.trans HF4.out).alloc _).then HF5.out (by intro x hx; simp at hx; omega))
            have HP5' : Hid (w5.heap[w.heap.size]? = some (.cells #[.int .i64 p.msg, .int .i64 p.num, .int .i64 p.cnt, .slice ao p.b.length cap] 38 (0, 0))) := Lib.hid (HF5.out.at (alloc_at (HF4.out.at HP3.out (by simp))) (by
              simp only [List.mem_singleton]; have := lt_of_block HP2'.out; omega))
            have HQ5' : Hid (w5.heap[w.heap.size + 1]? = some (.cells #[.slice none 0 0] 22 (0, 0))) := Lib.hid (HF5.out.at (alloc_at HQ4.out) (by
              simp only [List.mem_singleton]; have := lt_of_block HQ2'.out; omega))
            have HSZ := Lib.hid (And.intro hs2 hs24)
            clear hs2 hs24
            have HIM5 : Hid (IM w5.drew mo N S (fun s m => mv m.cnt (if s = p.msg then w4.heap.size else K s))) := Lib.hid ((HX.out.hm.frm0 HFW5.out.drew).congr (fun s m hs => by
              have : s ≠ p.msg := fun e => by rw [e, HM.out] at hs; cases hs
              rw [if_neg this]))
            obtain ⟨w6, hup, him6, hf6⟩ := HIM5.out.add Try.underlying56 (t := p.msg) (by unfold maxLen; omega) (by have := HRR.out.1.1; omega) (by have := HRR.out.1.2; omega) HM.out (⟨p.cnt, []⟩ : Msg)
            simp only [if_true] at hup
            unfold mv at hup
            have HIM6 := Lib.hid him6; have HF6' := Lib.hid hf6
            have hmap := HX.out.hm.block
            have HNE : Hid (mo < w.heap.size) := Lib.hid (by obtain ⟨es, c, hb⟩ := hmap; exact lt_of_block hb)
            have hmx : mo ≠ xb := fun e => by obtain ⟨es, c, hb⟩ := hmap; rw [e, HX.out.hx] at hb; cases hb
            have HMX := Lib.hid hmx
            clear him6 hf6 hmap hmx
            have HS15 : Hid (∀ F W, Frm F w5 W → (∀ x ∈ F, x = mo) → W.cell? ⟨xb, 2, none⟩ = some (.map (some mo)) ∧ W.cell? ⟨w.heap.size, 0, none⟩ = some (.int .i64 p.msg) ∧ W.cell? ⟨w2.heap.size, 0, none⟩ = some (.int .i64 p.cnt) ∧ W.cell? ⟨w2.heap.size, 1, none⟩ = some (.map (some w4.heap.size))) := Lib.hid fun F W hf hF => by
              have h1 := HNE.out; have h2 := HSZ.out.1
              exact ⟨cell_of (hf.at (HX.out.frm0 HFW5.out).hx (fun hx => HMX.out (hF _ hx).symm)) 2, cell_of (hf.at HP5'.out (fun hx => by have := hF _ hx; omega)) 0, cell_of (hf.at HM5'.out (fun hx => by have := hF _ hx; omega)) 0, cell_of (hf.at HM5'.out (fun hx => by have := hF _ hx; omega)) 1⟩
            go_region_held3 (fun W => W.cell? ⟨xb, 2, none⟩ = some (.map (some mo)) ∧ W.cell? ⟨w.heap.size, 0, none⟩ = some (.int .i64 p.msg) ∧ W.cell? ⟨w2.heap.size, 0, none⟩ = some (.int .i64 p.cnt) ∧ W.cell? ⟨w2.heap.size, 1, none⟩ = some (.map (some w4.heap.size)))
              (first
                | exact HS15.out [] _ ((Frm.refl [] w5).drew) (by simp)
                | exact HS15.out [mo] _ (((Frm.refl [] w5).drew.mono (by simp)).trans HF6'.out) (by simp))
              (fail)
            clear hup
            go_upto_region 16 with fail
            have HF56 : Hid (Frm [mo] w5 w6) := Lib.hid (((Frm.refl [] w5).drew.mono (by simp)).trans HF6'.out)
            obtain ⟨kb, hkb⟩ : ∃ kb, w4.heap.size = kb := ⟨_, rfl⟩
            obtain ⟨m5, hm5⟩ : ∃ m5 : Msg, m5 = ⟨p.cnt, []⟩ := ⟨_, rfl⟩
            obtain ⟨S5, hS5⟩ : ∃ S5 : St, S5 = S ++ [(p.msg, m5)] := ⟨_, rfl⟩
            obtain ⟨K5, hK5⟩ : ∃ K5 : Int → Nat, K5 = fun s => if s = p.msg then kb else K s := ⟨_, rfl⟩
            have hnew : BX w6 xb mo M B (N + 1) S5 K5 := by
              rw [hS5, hm5, hK5, ← hkb]
              refine BX.new (w := w5.drew) (HX.out.frm0 HFW5.out.drew) HM.out HRR.out.2.1 HRR.out.2.2.1 HIM6.out HF6'.out ⟨fun _ => .slice none 0 0, ?_, fun t b ht => by cases ht⟩ (by have := HNE.out; have := HSZ.out; omega) (fun s m hs => by obtain ⟨es, c, hb⟩ := HX.out.isMap hs; have := lt_of_block hb; have := HSZ.out; omega) (by rw [HSL.out]; exact HNM.out) (by omega)
              exact ((IM.made w4 _).frm HF5.out (by have := HSZ.out.2; simp; omega)).frm0 (Frm.refl [] w5).drew
            have HX5 := Lib.hid hnew
            have HKB : Hid (K5 p.msg = kb) := Lib.hid (by rw [hK5]; simp)
            have HL5 : Hid (lk S5 p.msg = some m5) := Lib.hid (by rw [hS5, lk_append HM.out, if_pos rfl])
            have HN5 : Hid (lk m5.ps p.num = none) := Lib.hid (by rw [hm5]; rfl)
            have HLO5 : Hid (Lo base mo S5 K5) := Lib.hid ⟨HLO.out.1, fun t m ht => by
              rw [hS5, lk_append HM.out] at ht
              rw [hK5]
              by_cases e : t = p.msg
              · simp only [if_pos e]; have := HSZ.out; omega
              · rw [if_neg e] at ht; simp only [if_neg e]; exact HLO.out.2 t m ht⟩
            have HMP5 : Hid (Mp base w w6) := Lib.hid ((Mp.frm0 HFW5.out).trans (Mp.of HF56.out (fun x hx => by
              simp at hx; subst hx
              obtain ⟨es, c, hb⟩ := (HX.out.frm0 HFW5.out).hm.block
              exact ⟨HLO.out.1, es, c, hb⟩)))
            have HM5 : Hid (w6.heap[w2.heap.size]? = some (.cells #[.int .i64 m5.cnt, .map (some kb)] 75 (0, 0))) := Lib.hid (by rw [hm5, ← hkb]; exact HF56.out.at HM5'.out (by have := HNE.out; have := HSZ.out; simp; omega))
            have HP5 : Hid (w6.heap[w.heap.size]? = some (.cells #[.int .i64 p.msg, .int .i64 p.num, .int .i64 p.cnt, .slice ao p.b.length cap] 38 (0, 0))) := Lib.hid (HF56.out.at HP5'.out (by have := HNE.out; simp; omega))
            have HQ5 : Hid (w6.heap[w.heap.size + 1]? = some (.cells #[.slice none 0 0] 22 (0, 0))) := Lib.hid (HF56.out.at HQ5'.out (by have := HNE.out; simp; omega))
            have HB5 : Hid (Byts w6 (.slice ao p.b.length cap) p.b) := Lib.hid (HMP5.out.byts HB.out)
            have HH5 : Hid ((heldS S5 : Int) + p.b.length ≤ B) := Lib.hid (by rw [hS5, heldS_snoc, hm5]; have := HFU.out; rw [← HHH.out] at this; simp [sizeP] at this ⊢; omega)
            have HNN5 : Hid (N + 1 ≤ N + 1) := Lib.hid (Nat.le_refl _)
            have HE : Hid (addS M B S p = putS S5 p m5) := Lib.hid (by rw [hS5, hm5]; exact HE0.out)
            clear hnew hkb hm5 hS5 hK5 k2 k3 hwr hb1 hl
            have CC : Hid (∀ W, Frm [] w6 W → Calls Try.prog 29 #[.slice ao p.b.length cap] W (RetV (Fresh W p.b))) := Lib.hid fun W hf => clone_any _ _ W (HB5.out.frm0 hf) (by omega)
            have HS16 : Hid (∀ W, Frm [] w6 W → W.cell? ⟨w2.heap.size, 1, none⟩ = some (.map (some kb)) ∧ W.cell? ⟨w.heap.size, 1, none⟩ = some (.int .i64 p.num) ∧ W.cell? ⟨w.heap.size, 3, none⟩ = some (.slice ao p.b.length cap)) := Lib.hid fun W hf =>
              ⟨cell_of (hf.at HM5.out (by simp)) 1, cell_of (hf.at HP5.out (by simp)) 1, cell_of (hf.at HP5.out (by simp)) 3⟩
            have HNK : Hid (kb ≠ w2.heap.size ∧ kb ≠ w.heap.size ∧ kb ≠ w.heap.size + 1 ∧ kb ≠ xb) := Lib.hid (by
              obtain ⟨es, c, hb⟩ := HX5.out.isMap HL5.out
              rw [HKB.out] at hb
              refine ⟨fun e => ?_, fun e => ?_, fun e => ?_, fun e => ?_⟩
              · rw [e, HM5.out] at hb; cases hb
              · rw [e, HP5.out] at hb; cases hb
              · rw [e, HQ5.out] at hb; cases hb
              · rw [e, HX5.out.hx] at hb; cases hb)
            have HS17 : Hid (∀ w16 W, Frm [] w6 w16 → Frm [kb] w16 W → W.cell? ⟨w2.heap.size, 1, none⟩ = some (.map (some kb)) ∧ W.cell? ⟨w.heap.size, 1, none⟩ = some (.int .i64 p.num) ∧ W.cell? ⟨w.heap.size, 3, none⟩ = some (.slice ao p.b.length cap)) := Lib.hid fun w16 W hf hk =>
              ⟨cell_of (hk.at (hf.at HM5.out (by simp)) (by have := HNK.out.1; simp; omega)) 1, cell_of (hk.at (hf.at HP5.out (by simp)) (by have := HNK.out.2.1; simp; omega)) 1, cell_of (hk.at (hf.at HP5.out (by simp)) (by have := HNK.out.2.1; simp; omega)) 3⟩
            have CU : Hid (∀ w16 v, Frm [] w6 w16 → Fresh w6.drew p.b v w16 → ∃ w17, (Instr.mapUpdate 73 (.map (some kb)) (.int .i64 p.num) v).run Try.prog w16 = .ok () w17 ∧ PMap w17 kb ((N + 1) + 1) (m5.ps ++ [(p.num, p.b)]) ∧ Frm [kb] w16 w17) := Lib.hid fun w16 v hf hfr => by
              have hp := (HX5.out.hp p.msg m5 HL5.out).frm0 hf
              rw [HKB.out] at hp
              exact hp.add HN5.out (own_low hfr.1 (Nat.zero_le _)) HRR.out.2.2.2.1 (by have := HRR.out.2.2.2.2.1; have := HRR.out.2.2.1; omega) (by have := HNN5.out; omega)
            go_region_held3 (fun W => W.cell? ⟨w2.heap.size, 1, none⟩ = some (.map (some kb)) ∧ W.cell? ⟨w.heap.size, 1, none⟩ = some (.int .i64 p.num) ∧ W.cell? ⟨w.heap.size, 3, none⟩ = some (.slice ao p.b.length cap))
              (first
                | exact HS16.out _ ((Frm.refl [] w6).drew)
                | exact HS16.out _ HF6.out
                | exact HS17.out _ _ HF6.out HF7.out)
              (first
                | (go_at_call 29; go_must (refine (CC.out _ ((Frm.refl [] w6).drew)).mono ?_; rintro e w16 ⟨v, rfl, hfr⟩; have HF6 : Hid (Frm [] w6 w16) := Lib.hid (((Frm.refl [] w6).drew).trans hfr.2); obtain ⟨w17, hup, hpm7, hf7⟩ := CU.out w16 v HF6.out hfr; obtain ⟨ao6, cp6, rfl⟩ := own_shape hfr.1; have HPM7 := Lib.hid hpm7; have HF7 := Lib.hid hf7; clear hfr hpm7 hf7)))
            have HM7 : Hid (w17.heap[w2.heap.size]? = some (.cells #[.int .i64 m5.cnt, .map (some kb)] 75 (0, 0))) := Lib.hid (HF7.out.at (HF6.out.at HM5.out (by simp)) (by have := HNK.out.1; simp; omega))
            have HP7 : Hid (w17.heap[w.heap.size]? = some (.cells #[.int .i64 p.msg, .int .i64 p.num, .int .i64 p.cnt, .slice ao p.b.length cap] 38 (0, 0))) := Lib.hid (HF7.out.at (HF6.out.at HP5.out (by simp)) (by have := HNK.out.2.1; simp; omega))
            have HQ7 : Hid (w17.heap[w.heap.size + 1]? = some (.cells #[.slice none 0 0] 22 (0, 0))) := Lib.hid (HF7.out.at (HF6.out.at HQ5.out (by simp)) (by have := HNK.out.2.2.1; simp; omega))
            have hlen7 : (Builtin.len_ #[73] 3 #[.map (some kb)]).run Try.prog w17 = .ok (.int .i64 ((m5.ps.length + 1 : Nat) : Int)) w17 := by
              obtain ⟨V, h1, h2⟩ := HPM7.out
              have := h1.len Try.underlying73 3
              simpa using this
            obtain ⟨ln, hln⟩ : ∃ ln, m5.ps.length + 1 = ln := ⟨_, rfl⟩
            rw [hln] at hlen7
            have HLN := Lib.hid hln
            have HBX6 := Lib.hid (HX5.out.frm0 HF6.out)
            have hkmap : ∃ es c, w16.heap[kb]? = some (.map es c) := by
              obtain ⟨es, c, hb⟩ := HBX6.out.isMap HL5.out
              rw [HKB.out] at hb; exact ⟨es, c, hb⟩
            have HMP7 : Hid (Mp base w w17) := Lib.hid ((HMP5.out.trans (Mp.frm0 HF6.out)).trans (Mp.of HF7.out (fun x hx => by simp at hx; subst hx; exact ⟨by rw [← HKB.out]; exact HLO5.out.2 _ _ HL5.out, hkmap⟩)))
            have HSZ7 : Hid (sizeP (m5.ps ++ [(p.num, p.b)]) ≤ 2000000) := Lib.hid (by rw [sizeP_snoc]; have h1 := sizeP_le HL5.out; have h2 := HH5.out; have h3 := HX5.out.b20; simp only; omega)
            have HSM := Lib.hid (HX5.out.small _ _ HL5.out)
            have m0 := cell_of HM7.out 0
            have m1 := cell_of HM7.out 1
            have q0 := cell_of HQ7.out 0
            have qf := free_of HQ7.out 0
            clear hln hkmap
            by_cases hwh : (ln : Int) < m5.cnt
            · have HE2 : Hid (addS M B S p = (mod p.msg ⟨m5.cnt, m5.ps ++ [(p.num, p.b)]⟩ S5, [], false, 0)) := Lib.hid (by rw [HE.out]; unfold putS; rw [if_pos (by rw [HLN.out]; exact hwh)])
              have HWH := Lib.hid hwh
              go_wp2
              have hf8 : Frm [w.heap.size + 1] w17 (w17.setCell ⟨w.heap.size + 1, 0, none⟩ (.slice none 0 0)) := (Frm.refl _ _).setCell _ (.inl (by simp)) _
              have hput : BX w17 xb mo M B ((N + 1) + 1) (mod p.msg ⟨m5.cnt, m5.ps ++ [(p.num, p.b)]⟩ S5) K5 := HBX6.out.put HL5.out (by rw [HKB.out]; exact HF7.out) (by rw [HKB.out]; exact HPM7.out) rfl (by rw [List.length_append, List.length_cons, List.length_nil, Nat.zero_add, HLN.out]; exact HWH.out) (by
                have h1 := heldS_mod (m' := ⟨m5.cnt, m5.ps ++ [(p.num, p.b)]⟩) HX5.out.hm.2 HL5.out
                rw [sizeP_snoc] at h1
                have h2 := HH5.out
                simp only at h1
                omega) (by have := HNN5.out; omega)
              refine bodyPost_ret (results_c22 rfl rfl rfl rfl (block_setCell HQ7.out 0 _)) rfl ⟨_, rfl, .slice none 0 0, K5, (N + 1) + 1, by rw [HE2.out]; rfl, ?_, ?_, ?_, by have := HNN5.out; omega, HMP7.out.then hf8 (by simp)⟩
              · rw [HE2.out]; exact Byts.nil _
              · rw [HE2.out]; exact hput.other hf8 (fun x hx => by simp at hx; subst hx; exact ⟨_, HQ7.out⟩)
              · rw [HE2.out]
                exact HLO5.out.mod HL5.out
            · have HE2 : Hid (addS M B S p = (del p.msg S5, whole (m5.ps ++ [(p.num, p.b)]), true, 0)) := Lib.hid (by rw [HE.out]; unfold putS; rw [if_neg (by rw [HLN.out]; exact hwh)])
              have CV : Hid (Calls Try.prog 33 #[mv m5.cnt kb, .func (.func 42) #[] #[.pointer (some ⟨w.heap.size + 1, 0, none⟩)]] w17 (Ret (.tuple #[]) (fun w' => WI w17 (w.heap.size + 1) w17.heap.size (vals (m5.ps ++ [(p.num, p.b)])).flatten w'))) := Lib.hid
                (visit42 m5.cnt kb ((N + 1) + 1) _ (w.heap.size + 1) w17 HPM7.out (by have h1 := HSM.out; have h2 := HLN.out; rw [List.length_append, List.length_cons, List.length_nil]; omega) HQ7.out HSZ7.out)
              unfold mv at CV
              go_upto_region 20 with (go_at_call 33; go_must (refine CV.out.mono ?_; clear CV; rintro e w18 ⟨rfl, hw18⟩; have HW8 := Lib.hid hw18; clear hw18))
              obtain ⟨WL, hWL⟩ : ∃ WL, whole (m5.ps ++ [(p.num, p.b)]) = WL := ⟨_, rfl⟩
              unfold whole at hWL
              rw [hWL] at HW8
              have HWL := Lib.hid hWL
              clear hWL
              obtain ⟨uv, u1, u2, u3⟩ := HW8.out
              obtain ⟨au, cu, rfl⟩ := own_shape u2
              have HU1 := Lib.hid u1; have HU2 := Lib.hid u2; have HU3 := Lib.hid u3
              have HP8 := Lib.hid (u3.at HP7.out (by simp))
              have hmo7 : mo ∉ [kb] := by have := HX5.out.ne _ _ HL5.out; rw [HKB.out] at this; simp; omega
              have hmap6 := HBX6.out.hm.block
              have hmo8 : mo ≠ w.heap.size + 1 := fun e => by obtain ⟨es, c, hb⟩ := hmap6; rw [e] at hb; rw [HF6.out.at HQ5.out (by simp)] at hb; cases hb
              have HIM8 : Hid (IM w18 mo (N + 1) S5 (fun s m => mv m.cnt (K5 s))) := Lib.hid (((HBX6.out.hm.frm HF7.out hmo7)).frm u3 (by simpa using hmo8))
              have HX8 : Hid (w18.heap[xb]? = some (.cells #[.int .i64 M, .int .i64 B, .map (some mo)] 58 (0, 0))) := Lib.hid (u3.at (HF7.out.at HBX6.out.hx (by have := HNK.out.2.2.2; simp; omega)) (by
                simp only [List.mem_singleton]; intro e; have h1 := HBX6.out.hx; rw [e, HF6.out.at HQ5.out (by simp)] at h1; cases h1))
              have hmx : mo ≠ xb := fun e => by obtain ⟨es, c, hb⟩ := hmap6; rw [e, HBX6.out.hx] at hb; cases hb
              have hmp : mo ≠ w.heap.size := fun e => by obtain ⟨es, c, hb⟩ := hmap6; rw [e, HF6.out.at HP5.out (by simp)] at hb; cases hb
              have HMX := Lib.hid (And.intro hmx (And.intro hmp hmo8))
              obtain ⟨w19, hdel, him9, hf9⟩ := (HIM8.out.frm0 (Frm.refl [] w18).drew).drop (t := p.msg) Try.underlying56 (by have := HRR.out.1.1; omega) (by have := HRR.out.1.2; omega) 0
              have HIM9 := Lib.hid him9; have HF9 := Lib.hid hf9
              have HS20 : Hid (∀ F W, Frm F w18 W → (∀ x ∈ F, x = mo) → W.cell? ⟨xb, 2, none⟩ = some (.map (some mo)) ∧ W.cell? ⟨w.heap.size, 0, none⟩ = some (.int .i64 p.msg)) := Lib.hid fun F W hf hF =>
                ⟨cell_of (hf.at HX8.out (fun hx => HMX.out.1 (hF _ hx).symm)) 2, cell_of (hf.at HP8.out (fun hx => HMX.out.2.1 (hF _ hx).symm)) 0⟩
              clear u1 u2 u3 him9 hf9 hmx hmp hmo7 hmo8 hmap6 m0 m1 q0 qf hwh hlen7 hup
              go_region_held3 (fun W => W.cell? ⟨xb, 2, none⟩ = some (.map (some mo)) ∧ W.cell? ⟨w.heap.size, 0, none⟩ = some (.int .i64 p.msg))
                (first
                  | exact HS20.out [] _ ((Frm.refl [] w18).drew) (by simp)
                  | exact HS20.out [mo] _ (((Frm.refl [] w18).drew.mono (by simp)).trans HF9.out) (by simp))
                (fail)
              have HF89 : Hid (Frm [mo] w18 w19) := Lib.hid (((Frm.refl [] w18).drew.mono (by simp)).trans HF9.out)
              have HQ9 : Hid (w19.heap[w.heap.size + 1]? = some (.cells #[.slice au WL.length cu] 22 (0, 0))) := Lib.hid (HF89.out.at HU1.out (by have := HMX.out.2.2; simp; omega))
              have q0 := cell_of HQ9.out 0
              have qf := free_of HQ9.out 0
              clear hdel
              go_wp2
              have hfe : Frm [w.heap.size + 1] w19 (w19.setCell ⟨w.heap.size + 1, 0, none⟩ (.slice au WL.length cu)) := (Frm.refl _ _).setCell _ (.inl (by simp)) _
              obtain ⟨es8, c8, hb8⟩ := HIM8.out.block
              have hq6 := HF6.out.at HQ5.out (by simp)
              have hall : Frm [kb, w.heap.size + 1, mo] w16 (w19.setCell ⟨w.heap.size + 1, 0, none⟩ (.slice au WL.length cu)) :=
                (((HF7.out.mono (by simp)).trans (HU3.out.mono (by simp))).trans (HF89.out.mono (by simp))).trans (hfe.mono (by simp))
              have hmo9 : mo ∉ [w.heap.size + 1] := by have := HMX.out.2.2; simpa using this
              refine bodyPost_ret (results_c22 rfl rfl rfl rfl (block_setCell HQ9.out 0 _)) rfl ⟨_, rfl, .slice au WL.length cu, K5, (N + 1), by rw [HE2.out]; rfl, ?_, ?_, ?_, by have := HNN5.out; omega, ?_⟩
              · rw [HE2.out]
                show Byts _ _ (whole _)
                unfold whole
                rw [HWL.out]
                refine Byts.of_own (base := 0) ?_
                refine OwnB.keep (F := [w.heap.size + 1]) (w := w19) ?_ hfe (fun k hk c hc => by simp at hk; subst hk; rw [HQ9.out] at hc; cases hc)
                exact OwnB.keep (F := [mo]) (own_low HU2.out (Nat.zero_le _)) HF89.out (fun k hk c hc => by simp at hk; subst hk; rw [hb8] at hc; cases hc)
              · rw [HE2.out]
                exact HBX6.out.drop HL5.out (HIM9.out.frm hfe hmo9) hall (fun x hx => by
                  simp only [List.mem_cons, List.not_mem_nil, or_false] at hx
                  rcases hx with rfl | rfl | rfl
                  · exact .inl HKB.out.symm
                  · exact .inr (.inr ⟨_, hq6⟩)
                  · exact .inr (.inl rfl))
              · rw [HE2.out]
                exact HLO5.out.del
              · have k1 := HMP7.out.then HU3.out (by simp)
                have k2 := k1.trans (Mp.of (base := base) HF89.out (fun x hx => by simp at hx; subst hx; exact ⟨HLO5.out.1, es8, c8, hb8⟩))
                exact k2.then hfe (by simp)

end Go.Proofs.Ytomjnbcaofebfaa
