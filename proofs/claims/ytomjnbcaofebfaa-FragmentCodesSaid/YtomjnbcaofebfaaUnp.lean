/- Unpack. -/
import Derived.Test.YtomjnbcaofebfaaUnpL
import Derived.ScopeJumps
import Derived.Lib.SmallJoins
namespace Go.Proofs.Ytomjnbcaofebfaa
open Go.RowKit Go.BigFrame

/-- a scope with one label, to which the run may jump once -/
theorem wp_scope_once {P : Program} {a : Act} {w : World} {Q : Exit → Act → World → Prop} {c rest : Code} (l : Nat) (hf : findLabel c l = some rest) (h : c.wp P (Exit.jump l (fun a w => rest.wp P (Exit.noGoto Q) a w) Q) a w) : (Code.scope c).wp P Q a w :=
  wp_scope_jumps l (fun a w => rest.wp P (Exit.noGoto Q) a w) (fun _ _ => 0) hf h (fun _ _ hJ => wp_mono hJ (fun e _ _ q => by cases e <;> first | exact q | exact q.elim))
theorem jump_ret {l : Nat} {J : Act → World → Prop} {Q : Exit → Act → World → Prop} {a : Act} {w : World} : Exit.jump l J Q .ret a w = Q .ret a w := rfl
theorem jump_goto {l : Nat} {J : Act → World → Prop} {Q : Exit → Act → World → Prop} {a : Act} {w : World} (h : J a w) : Exit.jump l J Q (.goto l) a w := ⟨rfl, h⟩
theorem four_set {w : World} {g : Nat} {A : Array Value} {t : TypeId} (h : w.heap[g]? = some (.cells A t (0, 0))) (hs : A.size = 4) (u0 u1 u2 u3 : Value) :
    ((((w.setCell ⟨g, 0, none⟩ u0).setCell ⟨g, 1, none⟩ u1).setCell ⟨g, 2, none⟩ u2).setCell ⟨g, 3, none⟩ u3).heap[g]? = some (.cells #[u0, u1, u2, u3] t (0, 0)) ∧
      Frm [g] w ((((w.setCell ⟨g, 0, none⟩ u0).setCell ⟨g, 1, none⟩ u1).setCell ⟨g, 2, none⟩ u2).setCell ⟨g, 3, none⟩ u3) := by
  obtain ⟨a, b, c, d, rfl⟩ := Go.Joins.array4 hs
  exact ⟨(block_setCell (block_setCell (block_setCell (block_setCell h 0 u0) 1 u1) 2 u2) 3 u3).trans rfl, ((((Frm.refl _ _).setCell _ (.inl (by simp)) _).setCell _ (.inl (by simp)) _).setCell _ (.inl (by simp)) _).setCell _ (.inl (by simp)) _⟩
theorem or_i64 (a b : Nat) (ha : a < 256) (hb : b < 256) : bits .or .i64 ((a : Int) * 256) (b : Int) = 256 * (a : Int) + (b : Int) := by
  have hx : a * 256 ||| b = 256 * a + b := by
    have := Nat.shiftLeft_add_eq_or_of_lt (i := 8) hb a
    rw [Nat.shiftLeft_eq] at this
    rw [← this]; omega
  have h1 : (BitVec.ofInt 64 ((a : Int) * 256)).toNat = a * 256 := by
    have e : (a : Int) * 256 = ((a * 256 : Nat) : Int) := (Int.natCast_mul a 256).symm
    rw [e, BitVec.ofInt_natCast, BitVec.toNat_ofNat]; exact Nat.mod_eq_of_lt (by omega)
  have h2 : (BitVec.ofInt 64 (b : Int)).toNat = b := by
    rw [BitVec.ofInt_natCast, BitVec.toNat_ofNat]; exact Nat.mod_eq_of_lt (by omega)
  show IntKind.i64.wrap ((BitVec.ofInt 64 ((a : Int) * 256) ||| BitVec.ofInt 64 (b : Int)).toNat : Int) = _
  rw [BitVec.toNat_or, h1, h2, hx]
  rw [IntWalk.i64_in _ (by omega)]
  omega
/-- what Unpack hands back -/
def UnpTo (w : World) (l : List UInt8) (v : Value) (w' : World) : Prop := ∃ bv, v = .tuple #[pv (unpackR l) bv, .int .i64 (unpackE l)] ∧ Byts w' bv (unpackR l).b ∧ Frm [] w w'
theorem results_c38t {fn : Func} {p q : Tmp} (h : fn.results = #[.cell p 38, .tmp q]) {tmps : Array Value} {w : World} {g : Nat} {A : Array Value} {t : TypeId} {f : Nat × Nat} {v : Value} (hp : tmps.getD p undef = .pointer (some ⟨g, 0, none⟩)) (hq : tmps.getD q undef = v) (hg : w.heap[g]? = some (.cells A t f)) (hs : A.size = 4) :
    (results fn tmps).run Try.prog w = .ok (.tuple #[.agg A, v]) w := by
  have hp' : tmps[p]?.getD undef = .pointer (some ⟨g, 0, none⟩) := by simpa using hp
  have hq' : tmps[q]?.getD undef = v := by simpa using hq
  simp [results, h, hp', hq', asAddr, run_loadVar_row w g t 38 A f _ hg Try.underlying38 rfl (by rw [hs]; kernel_rfl)]
set_option maxHeartbeats 2000000 in
set_option maxRecDepth 100000 in
theorem unpack_short (v : Value) (l : List UInt8) (w : World) (h : Byts w v l) (hs : l.length < 6) : Calls Try.prog 19 #[v] w (RetV (UnpTo w l)) := by
  obtain ⟨ao, cap, rfl, -⟩ := h.len
  have HE : Hid (unpackE l = 4) := Lib.hid (by unfold unpackE; rw [if_pos hs])
  have hs' : (l.length : Int) - 2 < 4 := by omega
  clear h
  go_enter Try.func19, Try.ntmps19
  go_wp2
  refine wp_scope_once 0 rfl ?_
  go_wp2
  go_step3
  go_wp2
  refine jump_goto ?_
  go_wp2
  rw [Exit.noGoto_ret]
  exact bodyPost_ret (results_c38t rfl rfl rfl (heap_alloc_new _ _) rfl) rfl ⟨_, rfl, .slice none 0 0, by unfold unpackR; rw [HE.out]; rfl, by unfold unpackR; rw [HE.out]; exact Byts.nil _, (Frm.refl [] w).alloc _⟩
set_option maxHeartbeats 2000000 in
set_option maxRecDepth 100000 in
theorem unpack_long (v : Value) (l : List UInt8) (w : World) (h : Byts w v l) (hn : l.length ≤ 1000000) (hs : 1030 < l.length) : Calls Try.prog 19 #[v] w (RetV (UnpTo w l)) := by
  obtain ⟨ao, cap, rfl, -⟩ := h.len
  have HE : Hid (unpackE l = 5) := Lib.hid (by unfold unpackE; rw [if_neg (by omega), if_pos hs])
  have hs' : 1028 < (l.length : Int) - 2 := by omega
  have hs2 : ¬ (l.length : Int) - 2 < 4 := by omega
  clear h
  go_enter Try.func19, Try.ntmps19
  go_wp2
  refine wp_scope_once 0 rfl ?_
  go_wp2
  go_step3
  go_wp2
  refine jump_goto ?_
  go_wp2
  rw [Exit.noGoto_ret]
  exact bodyPost_ret (results_c38t rfl rfl rfl (heap_alloc_new _ _) rfl) rfl ⟨_, rfl, .slice none 0 0, by unfold unpackR; rw [HE.out]; rfl, by unfold unpackR; rw [HE.out]; exact Byts.nil _, (Frm.refl [] w).alloc _⟩
set_option maxHeartbeats 2000000 in
set_option maxRecDepth 100000 in
theorem unpack_check (v : Value) (l : List UInt8) (w : World) (h : Byts w v l) (hv : ∀ j, v.ownBlock = some j → j < w.heap.size) (h1 : ¬ l.length < 6) (h2 : ¬ 1030 < l.length) (hs : sumL (l.take (l.length - 2)) ≠ l.drop (l.length - 2)) : Calls Try.prog 19 #[v] w (RetV (UnpTo w l)) := by
  obtain ⟨ao, cap, rfl, -⟩ := h.len
  have HE : Hid (unpackE l = 10) := Lib.hid (by unfold unpackE; rw [if_neg h1, if_neg h2, if_pos hs])
  have hs' : ¬ 1028 < (l.length : Int) - 2 := by omega
  have hs2 : ¬ (l.length : Int) - 2 < 4 := by omega
  obtain ⟨v1, hc1, hb1, ⟨a1, p1, rfl⟩, ho1⟩ := h.cutH (hi := (l.length : Int) - 2) (j := l.length - 2) (by omega) (by omega)
  obtain ⟨v2, hc2, hb2, ⟨a2, p2, rfl⟩, ho2⟩ := h.cutL (lo := (l.length : Int) - 2) (i := l.length - 2) (by omega) (by omega)
  have CS : Hid (∀ W, Frm [] w W → Calls Try.prog 36 #[.slice a1 (l.take (l.length - 2)).length p1] W (RetV (Fresh W (sumL (l.take (l.length - 2)))))) := Lib.hid fun W hf => sum_any _ _ W (hb1.frm0 hf) (by simp; omega) (fun j hj => by have := hv j (ho1 j hj); have := hf.size; omega)
  have CE : Hid (∀ W sv, Frm [] w W → Byts W sv (sumL (l.take (l.length - 2))) → Calls Try.prog 39 #[sv, .slice a2 (l.drop (l.length - 2)).length p2] W (Ret (.bool false) (W = ·))) := Lib.hid fun W sv hf hb => by
    have := equal_any sv _ _ _ W hb (hb2.frm0 hf)
    rwa [decide_eq_false hs] at this
  obtain ⟨n1, hn1⟩ : ∃ n1, (l.take (l.length - 2)).length = n1 := ⟨_, rfl⟩
  obtain ⟨n2, hn2⟩ : ∃ n2, (l.drop (l.length - 2)).length = n2 := ⟨_, rfl⟩
  rw [hn1] at CS hc1
  rw [hn2] at CE hc2
  have HF0 : Hid (Frm [] w (w.alloc (.cells #[.int .i64 0, .int .i64 0, .int .i64 0, .slice none 0 0] 38))) := Lib.hid ((Frm.refl [] w).alloc _)
  have HG0 := Lib.hid (heap_alloc_new w (.cells #[.int .i64 0, .int .i64 0, .int .i64 0, .slice none 0 0] 38))
  clear h hv h1 h2 hs hb1 hb2 ho1 ho2 hn1 hn2
  go_enter Try.func19, Try.ntmps19
  go_wp2
  refine wp_scope_once 0 rfl ?_
  go_wp2
  go_region_with (first
    | (go_at_call 36; go_must (refine (CS.out _ HF0.out.drew).mono ?_; rintro e w2 ⟨sv, rfl, hfr⟩; obtain ⟨a3, p3, rfl⟩ := own_shape hfr.1; have HS2 := Lib.hid hfr; clear hfr))
    | (go_at_call 39; go_must (refine (CE.out w2 _ (HF0.out.drew.trans HS2.out.2) HS2.out.byts).mono ?_; rintro e w' ⟨rfl, rfl⟩)))
  all_goals
    have hf2 := HF0.out.drew.trans HS2.out.2
    have HF2 := Lib.hid hf2
    have hg2 := HS2.out.2.at (show (w.alloc (.cells #[.int .i64 0, .int .i64 0, .int .i64 0, .slice none 0 0] 38)).drew.heap[w.heap.size]? = _ from HG0.out) (by simp)
    have HG2 := Lib.hid hg2
    have c0 := cell_of hg2 0
    have c1 := cell_of hg2 1
    have c2 := cell_of hg2 2
    have c3 := cell_of hg2 3
    have f0 := free_of hg2 0
    have f1 := free_of hg2 1
    have f2 := free_of hg2 2
    have f3 := free_of hg2 3
    clear hf2 hg2
    go_wp2
    go_step3
    go_wp2
    refine jump_goto ?_
    go_wp2
    rw [Exit.noGoto_ret]
    have h4 := four_set HG2.out rfl (.int .i64 0) (.int .i64 0) (.int .i64 0) (.slice none 0 0)
    exact bodyPost_ret (results_c38t rfl rfl rfl h4.1 rfl) rfl ⟨_, rfl, .slice none 0 0, by unfold unpackR; rw [HE.out]; rfl, by unfold unpackR; rw [HE.out]; exact Byts.nil _, HF2.out.then h4.2 (by simp)⟩
theorem unpackP_at {l : List UInt8} {x0 x1 x2 x3 : UInt8} (h0 : l[0]? = some x0) (h1 : l[1]? = some x1) (h2 : l[2]? = some x2) (h3 : l[3]? = some x3) :
    unpackP l = ⟨256 * (x0.toNat : Int) + (x1.toNat : Int), x2.toNat, x3.toNat, (l.take (l.length - 2)).drop 4⟩ := by
  unfold unpackP
  rw [List.getD_eq_getElem?_getD, List.getD_eq_getElem?_getD, List.getD_eq_getElem?_getD, List.getD_eq_getElem?_getD, h0, h1, h2, h3]
  rfl
set_option maxHeartbeats 2000000 in
set_option maxRecDepth 100000 in
theorem unpack_rest (v : Value) (l : List UInt8) (w : World) (h : Byts w v l) (hv : ∀ j, v.ownBlock = some j → j < w.heap.size) (h1 : ¬ l.length < 6) (h2 : ¬ 1030 < l.length) (hs : sumL (l.take (l.length - 2)) = l.drop (l.length - 2)) : Calls Try.prog 19 #[v] w (RetV (UnpTo w l)) := by
  have HB := Lib.hid h
  obtain ⟨ao, cap, rfl, hcap, hcs⟩ := h
  have h := HB.out
  have hs' : ¬ 1028 < (l.length : Int) - 2 := by omega
  have hs2 : ¬ (l.length : Int) - 2 < 4 := by omega
  obtain ⟨x0, hx0⟩ : ∃ x, l[0]? = some x := ⟨_, List.getElem?_eq_getElem (by omega)⟩
  obtain ⟨x1, hx1⟩ : ∃ x, l[1]? = some x := ⟨_, List.getElem?_eq_getElem (by omega)⟩
  obtain ⟨x2, hx2⟩ : ∃ x, l[2]? = some x := ⟨_, List.getElem?_eq_getElem (by omega)⟩
  obtain ⟨x3, hx3⟩ : ∃ x, l[3]? = some x := ⟨_, List.getElem?_eq_getElem (by omega)⟩
  have hP := unpackP_at hx0 hx1 hx2 hx3
  obtain ⟨b, o, rfl, d0⟩ := hcs 0 x0 hx0
  have d1 : w.cell? ⟨b, o + 1, none⟩ = some (u8 x1) := by obtain ⟨b', o', e, d⟩ := hcs 1 x1 hx1; cases e; exact d
  have d2 : w.cell? ⟨b, o + 2, none⟩ = some (u8 x2) := by obtain ⟨b', o', e, d⟩ := hcs 2 x2 hx2; cases e; exact d
  have d3 : w.cell? ⟨b, o + 3, none⟩ = some (u8 x3) := by obtain ⟨b', o', e, d⟩ := hcs 3 x3 hx3; cases e; exact d
  rw [Nat.add_zero] at d0
  obtain ⟨v1, hc1, hb1, ⟨a1, p1, rfl⟩, ho1⟩ := h.cutH (hi := (l.length : Int) - 2) (j := l.length - 2) (by omega) (by omega)
  obtain ⟨v2, hc2, hb2, ⟨a2, p2, rfl⟩, ho2⟩ := h.cutL (lo := (l.length : Int) - 2) (i := l.length - 2) (by omega) (by omega)
  obtain ⟨v3, hc3, hb3, ⟨a3, p3, rfl⟩, ho3⟩ := h.cut3 (lo := 4) (hi := (l.length : Int) - 2) (i := 4) (j := l.length - 2) rfl (by omega) (by omega) (by omega)
  have CS : Hid (∀ W, Frm [] w W → Calls Try.prog 36 #[.slice a1 (l.take (l.length - 2)).length p1] W (RetV (Fresh W (sumL (l.take (l.length - 2)))))) := Lib.hid fun W hf => sum_any _ _ W (hb1.frm0 hf) (by simp; omega) (fun j hj => by have := hv j (ho1 j hj); have := hf.size; omega)
  have CE : Hid (∀ W sv, Frm [] w W → Byts W sv (sumL (l.take (l.length - 2))) → Calls Try.prog 39 #[sv, .slice a2 (l.drop (l.length - 2)).length p2] W (Ret (.bool true) (W = ·))) := Lib.hid fun W sv hf hb => by
    have := equal_any sv _ _ _ W hb (hb2.frm0 hf)
    rwa [decide_eq_true hs] at this
  obtain ⟨L3, hL3⟩ : ∃ L3, (l.take (l.length - 2)).drop 4 = L3 := ⟨_, rfl⟩
  rw [hL3] at hb3 hc3 hP
  have hl3 : L3.length ≤ 1024 := by rw [← hL3]; simp; omega
  have CC : Hid (∀ W, Frm [] w W → Calls Try.prog 29 #[.slice a3 L3.length p3] W (RetV (Fresh W L3))) := Lib.hid fun W hf => clone_any _ _ W (hb3.frm0 hf) (by omega)
  have CR : Hid (∀ bo bc W, Calls Try.prog 35 #[.agg #[.int .i64 (256 * (x0.toNat : Int) + (x1.toNat : Int)), .int .i64 x2.toNat, .int .i64 x3.toNat, .slice bo L3.length bc]] W (Ret (.bool (rightB (unpackP l))) (Frm [] W))) := Lib.hid fun bo bc W => by
    have := right_any (unpackP l) bo bc W (by rw [hP]; simp only; omega)
    rw [hP] at this ⊢
    exact this
  have hor := or_i64 x0.toNat x1.toNat x0.toNat_lt x1.toNat_lt
  have HS : Hid (∀ W, Frm [] w W → W.cell? ⟨b, o, none⟩ = some (.int .u8 x0.toNat) ∧ W.cell? ⟨b, o + 1, none⟩ = some (.int .u8 x1.toNat) ∧ W.cell? ⟨b, o + 2, none⟩ = some (.int .u8 x2.toNat) ∧ W.cell? ⟨b, o + 3, none⟩ = some (.int .u8 x3.toNat)) := Lib.hid fun W hf => ⟨hf.keep d0, hf.keep d1, hf.keep d2, hf.keep d3⟩
  have hbw : b < w.heap.size := cell_lt d0
  have HS2 : Hid (∀ w4 W, Frm [] w w4 → Frm [w.heap.size] w4 W → W.cell? ⟨b, o, none⟩ = some (.int .u8 x0.toNat) ∧ W.cell? ⟨b, o + 1, none⟩ = some (.int .u8 x1.toNat) ∧ W.cell? ⟨b, o + 2, none⟩ = some (.int .u8 x2.toNat) ∧ W.cell? ⟨b, o + 3, none⟩ = some (.int .u8 x3.toNat)) := Lib.hid fun w4 W hf hk => by
    have hnb : b ∉ [w.heap.size] := by simp; omega
    exact ⟨hk.cellAt (hf.keep d0) hnb, hk.cellAt (hf.keep d1) hnb, hk.cellAt (hf.keep d2) hnb, hk.cellAt (hf.keep d3) hnb⟩
  have HEF : Hid (rightB (unpackP l) = false → unpackE l = 6) := Lib.hid fun e => by unfold unpackE; rw [if_neg h1, if_neg h2, if_neg (fun e => e hs), if_neg (by simp [e])]
  have HET : Hid (rightB (unpackP l) = true → unpackE l = 0) := Lib.hid fun e => by unfold unpackE; rw [if_neg h1, if_neg h2, if_neg (fun e => e hs), if_pos e]
  have HP := Lib.hid hP
  have hq0 : (x0.toNat : Int) ≤ 255 := by have := x0.toNat_lt; omega
  have hq1 : (x1.toNat : Int) ≤ 255 := by have := x1.toNat_lt; omega
  have hq2 : (x2.toNat : Int) ≤ 255 := by have := x2.toNat_lt; omega
  have hq3 : (x3.toNat : Int) ≤ 255 := by have := x3.toNat_lt; omega
  have hlb0 : 0 < l.length := by omega
  have hlb1 : 1 < l.length := by omega
  have hlb2 : 2 < l.length := by omega
  have hlb3 : 3 < l.length := by omega
  have hli1 : (1 : Int) < (l.length : Int) := by omega
  have hli2 : (2 : Int) < (l.length : Int) := by omega
  have hli3 : (3 : Int) < (l.length : Int) := by omega
  have hln : l.length ≤ 1030 := by omega
  generalize x0.toNat = y0 at *
  generalize x1.toNat = y1 at *
  generalize x2.toNat = y2 at *
  generalize x3.toNat = y3 at *
  obtain ⟨n1, hn1⟩ : ∃ n1, (l.take (l.length - 2)).length = n1 := ⟨_, rfl⟩
  obtain ⟨n2, hn2⟩ : ∃ n2, (l.drop (l.length - 2)).length = n2 := ⟨_, rfl⟩
  rw [hn1] at CS hc1
  rw [hn2] at CE hc2
  have HF0 : Hid (Frm [] w (w.alloc (.cells #[.int .i64 0, .int .i64 0, .int .i64 0, .slice none 0 0] 38))) := Lib.hid ((Frm.refl [] w).alloc _)
  have HG0 := Lib.hid (heap_alloc_new w (.cells #[.int .i64 0, .int .i64 0, .int .i64 0, .slice none 0 0] 38))
  clear h hv h1 h2 hs hb1 hb2 hb3 ho1 ho2 ho3 hn1 hn2 hcs d0 d1 d2 d3 hx0 hx1 hx2 hx3 hP hL3 hbw
  go_enter Try.func19, Try.ntmps19
  go_wp2
  refine wp_scope_once 0 rfl ?_
  go_wp2
  go_region_with (first
    | (go_at_call 36; go_must (refine (CS.out _ HF0.out.drew).mono ?_; rintro e w2 ⟨sv, rfl, hfr⟩; obtain ⟨a4, p4, rfl⟩ := own_shape hfr.1; have HS3 := Lib.hid hfr; clear hfr))
    | (go_at_call 39; go_must (refine (CE.out w2 _ (HF0.out.drew.trans HS3.out.2) HS3.out.byts).mono ?_; rintro e w' ⟨rfl, rfl⟩)))
  have hf2 := HF0.out.drew.trans HS3.out.2
  have HF2 := Lib.hid hf2
  have hg2 := HS3.out.2.at (show (w.alloc (.cells #[.int .i64 0, .int .i64 0, .int .i64 0, .slice none 0 0] 38)).drew.heap[w.heap.size]? = _ from HG0.out) (by simp)
  have HG2 := Lib.hid hg2
  clear hf2 hg2
  go_upto_region 8 with fail
  go_region_held3 (fun W => W.cell? ⟨b, o, none⟩ = some (.int .u8 y0) ∧ W.cell? ⟨b, o + 1, none⟩ = some (.int .u8 y1) ∧ W.cell? ⟨b, o + 2, none⟩ = some (.int .u8 y2) ∧ W.cell? ⟨b, o + 3, none⟩ = some (.int .u8 y3))
    (first
      | exact HS.out _ (HF2.out.drew)
      | exact HS.out _ HF4.out
      | exact HS2.out w4 _ HF4.out ((four_set HG4.out rfl _ _ _ _).2))
    (first
      | (go_at_call 29; go_must (refine (CC.out _ HF2.out.drew).mono ?_; rintro e w4 ⟨cv, rfl, hfr⟩; obtain ⟨a5, p5, rfl⟩ := own_shape hfr.1; have HC4 := Lib.hid hfr; have HF4 : Hid (Frm [] w w4) := Lib.hid (HF2.out.drew.trans hfr.2); have hg4 := hfr.2.at (show w2.drew.heap[w.heap.size]? = _ from HG2.out) (by simp); have HG4 := Lib.hid hg4; have g0 := cell_of hg4 0; have g1 := cell_of hg4 1; have g2 := cell_of hg4 2; have g3 := cell_of hg4 3; have f0 := free_of hg4 0; have f1 := free_of hg4 1; have f2 := free_of hg4 2; have f3 := free_of hg4 3; clear hfr hg4)))
  have e0 : IntKind.i64.wrap (y0 : Int) = y0 := IntWalk.i64_in _ (by omega)
  have e1 : IntKind.i64.wrap (y1 : Int) = y1 := IntWalk.i64_in _ (by omega)
  have e2 : IntKind.i64.wrap (y2 : Int) = y2 := IntWalk.i64_in _ (by omega)
  have e3 : IntKind.i64.wrap (y3 : Int) = y3 := IntWalk.i64_in _ (by omega)
  have e4 : IntKind.i64.wrap ((y0 : Int) * 256) = (y0 : Int) * 256 := IntWalk.i64_in _ (by omega)
  rw [e0, e1, e2, e3, e4, hor]
  clear e0 e1 e2 e3 e4 hor g0 g1 g2 g3 f0 f1 f2 f3
  obtain ⟨hg5, hf5⟩ := four_set HG4.out rfl (.int .i64 (256 * (y0 : Int) + (y1 : Int))) (.int .i64 y2) (.int .i64 y3) (.slice a5 L3.length p5)
  obtain ⟨W5, hW5⟩ : ∃ W5, ((((w4.setCell ⟨w.heap.size, 0, none⟩ (.int .i64 (256 * (y0 : Int) + (y1 : Int)))).setCell ⟨w.heap.size, 1, none⟩ (.int .i64 y2)).setCell ⟨w.heap.size, 2, none⟩ (.int .i64 y3)).setCell ⟨w.heap.size, 3, none⟩ (.slice a5 L3.length p5)) = W5 := ⟨_, rfl⟩
  rw [hW5] at hg5 hf5 ⊢
  clear hW5
  have HB5 : Hid (Byts W5 (.slice a5 L3.length p5) L3) := Lib.hid (HC4.out.byts.frm hf5 (fun k hk hx => by have h1 := ownBlock_ge HC4.out.1 hk; have h2 := lt_of_block HG2.out; simp at hx h1; omega))
  have HF5 : Hid (Frm [] w W5) := Lib.hid (HF4.out.then hf5 (by simp))
  have HG5 := Lib.hid hg5
  have c0 := cell_of hg5 0
  have c1 := cell_of hg5 1
  have c2 := cell_of hg5 2
  have c3 := cell_of hg5 3
  clear hf5 hg5 hli1 hli2 hli3 hlb0 hlb1 hlb2 hlb3
  cases hr : rightB (unpackP l) with
  | false =>
    have HE := Lib.hid (HEF.out hr)
    rw [hr] at CR
    clear hr
    go_wp2_with (go_at_call 35; go_must (refine (CR.out _ _ W5).mono ?_; rintro e w6 ⟨rfl, hf⟩; have HF6 := Lib.hid (HF5.out.trans hf); have hg6 := hf.at HG5.out (by simp); have HG6 := Lib.hid hg6; have g0 := cell_of hg6 0; have g1 := cell_of hg6 1; have g2 := cell_of hg6 2; have g3 := cell_of hg6 3; have f0 := free_of hg6 0; have f1 := free_of hg6 1; have f2 := free_of hg6 2; have f3 := free_of hg6 3; clear hf hg6))
    go_step3
    go_wp2
    refine jump_goto ?_
    go_wp2
    rw [Exit.noGoto_ret]
    have h4 := four_set HG6.out rfl (.int .i64 0) (.int .i64 0) (.int .i64 0) (.slice none 0 0)
    exact bodyPost_ret (results_c38t rfl rfl rfl h4.1 rfl) rfl ⟨_, rfl, .slice none 0 0, by unfold unpackR; rw [HE.out]; rfl, by unfold unpackR; rw [HE.out]; exact Byts.nil _, HF6.out.then h4.2 (by simp)⟩
  | true =>
    have HE := Lib.hid (HET.out hr)
    rw [hr] at CR
    clear hr
    go_wp2_with (go_at_call 35; go_must (refine (CR.out _ _ W5).mono ?_; rintro e w6 ⟨rfl, hf⟩; have HF6 := Lib.hid (HF5.out.trans hf); have hg6 := hf.at HG5.out (by simp); have HG6 := Lib.hid hg6; have HB6 := Lib.hid (HB5.out.frm0 hf); have g0 := cell_of hg6 0; have g1 := cell_of hg6 1; have g2 := cell_of hg6 2; have g3 := cell_of hg6 3; have f0 := free_of hg6 0; have f1 := free_of hg6 1; have f2 := free_of hg6 2; have f3 := free_of hg6 3; clear hf hg6))
    rw [jump_ret]
    have h4 := four_set HG6.out rfl (.int .i64 (256 * (y0 : Int) + (y1 : Int))) (.int .i64 y2) (.int .i64 y3) (.slice a5 L3.length p5)
    exact bodyPost_ret (results_c38t rfl rfl rfl h4.1 rfl) rfl ⟨_, rfl, .slice a5 L3.length p5, by unfold unpackR; rw [HE.out, if_pos rfl, HP.out]; rfl, by unfold unpackR; rw [HE.out, if_pos rfl, HP.out]; exact HB6.out.frm h4.2 (fun k hk hx => by have h1 := ownBlock_ge HC4.out.1 hk; have h2 := lt_of_block HG2.out; simp at hx h1; omega), HF6.out.then h4.2 (by simp)⟩
theorem unpack_any (v : Value) (l : List UInt8) (w : World) (h : Byts w v l) (hn : l.length ≤ 1000000) (hv : ∀ j, v.ownBlock = some j → j < w.heap.size) : Calls Try.prog 19 #[v] w (RetV (UnpTo w l)) := by
  by_cases h1 : l.length < 6
  · exact unpack_short v l w h h1
  · by_cases h2 : 1030 < l.length
    · exact unpack_long v l w h hn h2
    · by_cases h3 : sumL (l.take (l.length - 2)) = l.drop (l.length - 2)
      · exact unpack_rest v l w h hv h1 h2 h3
      · exact unpack_check v l w h hv h1 h2 h3
end Go.Proofs.Ytomjnbcaofebfaa
