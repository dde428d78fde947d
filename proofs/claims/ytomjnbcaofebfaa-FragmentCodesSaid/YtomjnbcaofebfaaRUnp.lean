/- The reference's Unpack. -/
import Derived.Test.YtomjnbcaofebfaaUnp
import Derived.Test.YtomjnbcaofebfaaCsum
import Derived.BigQuiet
namespace Go.Proofs.Ytomjnbcaofebfaa
open Go.RowKit Go.BigFrame

/-- an append of bytes at a step of a drawn region -/
theorem step_app_bytes {ops : Array Oper} {o : Oper} {a : Act} {w : World} {K : Act → World → Prop} {Q : Exit → Act → World → Prop} {E : Prop} (hgd : o.guard = none) (s x : Operand) (ho : o.op = .call { callee := .builtin .append, args := #[s, x], argTypes := #[22, 22] })
    (base : Nat) (v sv : Value) (hs : a.eval s = v) (hx : a.eval x = sv) (xs l : List UInt8) (hown : w.ownsRow base 5 1 v xs.length (xs.map u8)) (hsrc : Byts w sv l) (hn : xs.length + l.length ≤ 4000000) (hb : base ≤ w.heap.size)
    (h : ∀ ao cp w', w'.ownsRow base 5 1 (.slice ao (xs ++ l).length cp) (xs ++ l).length ((xs ++ l).map u8) → w.grownBy w' v.ownBlock → K (a.put o.dst (.slice ao (xs ++ l).length cp)) w') : if Region.wanted o (yielded ops a.tmps) = true then Oper.wp Try.prog o a w K Q else E := by
  have hw : Region.wanted o (yielded ops a.tmps) = true := by simp [Region.wanted, hgd]
  rw [if_pos hw]
  obtain ⟨v', w', hrun, r1, r2⟩ := app_bytes (ty := o.type) hown hsrc hn hb
  obtain ⟨ao, cp, rfl⟩ := own_shape r1
  unfold Oper.wp
  simp [execOp, ho, resolve, invoke, builtin, hs, hx, hrun, Result.andThen]
  have hk := h ao cp w' r1 r2
  rw [List.length_append] at hk
  exact hk
theorem own_empty {w : World} {g base : Nat} (h : w.heap[g]? = some (.cells #[] 5 (0, 0))) (hb : base ≤ g) : w.ownsRow base 5 1 (.slice (some ⟨g, 0, none⟩) 0 0) ([] : List UInt8).length (([] : List UInt8).map u8) :=
  ⟨by simp, .inr ⟨_, _, _, rfl, hb, h, Nat.le_refl _, by unfold maxLen; omega, by simp, by simp⟩⟩
/-- the part, built -/
def PB (w : World) (m u c : Int) (l : List UInt8) (v : Value) (w' : World) : Prop :=
  ∃ g bo bc, v = .pointer (some ⟨g, 0, none⟩) ∧ w'.heap[g]? = some (.cells #[.int .i64 m, .int .i64 u, .int .i64 c, .slice bo l.length bc] 38 (0, 0)) ∧ Byts w' (.slice bo l.length bc) l ∧ Frm [] w w' ∧ (∀ j, (Value.slice bo l.length bc).ownBlock = some j → w.heap.size < j) ∧ w.heap.size < g
theorem PB.stored {w w4 : World} {g base : Nat} {ao4 : Option Addr} {cp4 : Nat} {L : List UInt8} {Z A : Array Value} {m u c : Int} (O4 : w4.ownsRow base 5 1 (.slice ao4 L.length cp4) L.length (L.map u8)) (hb : w.heap.size < base) (F4 : Frm [] w w4)
    (G4 : w4.heap[g]? = some (.cells A 38 (0, 0))) (hs : A.size = 4) (hg : w.heap.size < g) (G5 : w4.heap[w.heap.size]? = some (.cells Z 38 (0, 0))) :
    PB w m u c L (.pointer (some ⟨g, 0, none⟩)) ((((w4.setCell ⟨g, 0, none⟩ (.int .i64 m)).setCell ⟨g, 1, none⟩ (.int .i64 u)).setCell ⟨g, 2, none⟩ (.int .i64 c)).setCell ⟨g, 3, none⟩ (.slice ao4 L.length cp4)) ∧
    ((((w4.setCell ⟨g, 0, none⟩ (.int .i64 m)).setCell ⟨g, 1, none⟩ (.int .i64 u)).setCell ⟨g, 2, none⟩ (.int .i64 c)).setCell ⟨g, 3, none⟩ (.slice ao4 L.length cp4)).heap[w.heap.size]? = some (.cells Z 38 (0, 0)) := by
  obtain ⟨h1, h2⟩ := four_set G4 hs (.int .i64 m) (.int .i64 u) (.int .i64 c) (.slice ao4 L.length cp4)
  refine ⟨⟨g, ao4, cp4, rfl, h1, (Byts.of_own O4).frm h2 (fun k hk hx => ?_), F4.then h2 (by simp; omega), fun j hj => ?_, hg⟩, h2.at G5 (by simp; omega)⟩
  · obtain ⟨c', hc'⟩ := ownBlock_type O4 hk
    simp at hx; subst hx
    rw [G4] at hc'; cases hc'
  · have := ownBlock_ge O4 hj; omega
theorem PB.fresh {w w4 : World} {base : Nat} {ao4 : Option Addr} {cp4 : Nat} {L : List UInt8} {Z : Array Value} {m u c : Int} (O4 : w4.ownsRow base 5 1 (.slice ao4 L.length cp4) L.length (L.map u8)) (hb : w.heap.size < base) (F4 : Frm [] w w4)
    (G5 : w4.heap[w.heap.size]? = some (.cells Z 38 (0, 0))) :
    PB w m u c L (.pointer (some ⟨w4.heap.size, 0, none⟩)) (w4.alloc (.cells #[.int .i64 m, .int .i64 u, .int .i64 c, .slice ao4 L.length cp4] 38)) ∧
    (w4.alloc (.cells #[.int .i64 m, .int .i64 u, .int .i64 c, .slice ao4 L.length cp4] 38)).heap[w.heap.size]? = some (.cells Z 38 (0, 0)) :=
  ⟨⟨_, ao4, cp4, rfl, heap_alloc_new _ _, (Byts.of_own O4).frm0 ((Frm.refl [] _).alloc _), F4.alloc _, fun j hj => by have := ownBlock_ge O4 hj; omega, lt_of_block G5⟩, alloc_at G5⟩
set_option maxHeartbeats 2000000 in
set_option maxRecDepth 100000 in
theorem refUnpack_short (v : Value) (l : List UInt8) (w : World) (h : Byts w v l) (hs : l.length < 6) : Calls Try.prog 20 #[v] w (RetV (UnpTo w l)) := by
  obtain ⟨ao, cap, rfl, -⟩ := h.len
  have HE : Hid (unpackE l = 4) := Lib.hid (by unfold unpackE; rw [if_pos hs])
  have hs' : (l.length : Int) < 6 := by omega
  clear h
  go_enter Try.func20, Try.ntmps20
  go_wp2
  exact bodyPost_ret (results_c38t rfl rfl rfl (heap_alloc_new _ _) rfl) rfl ⟨_, rfl, .slice none 0 0, by unfold unpackR; rw [HE.out]; rfl, by unfold unpackR; rw [HE.out]; exact Byts.nil _, (Frm.refl [] w).alloc _⟩
set_option maxHeartbeats 2000000 in
set_option maxRecDepth 100000 in
theorem refUnpack_long (v : Value) (l : List UInt8) (w : World) (h : Byts w v l) (hs : 1030 < l.length) : Calls Try.prog 20 #[v] w (RetV (UnpTo w l)) := by
  obtain ⟨ao, cap, rfl, -⟩ := h.len
  have HE : Hid (unpackE l = 5) := Lib.hid (by unfold unpackE; rw [if_neg (by omega), if_pos hs])
  have hs' : 1030 < (l.length : Int) := by omega
  have hs2 : ¬ (l.length : Int) < 6 := by omega
  clear h
  go_enter Try.func20, Try.ntmps20
  go_wp2
  exact bodyPost_ret (results_c38t rfl rfl rfl (heap_alloc_new _ _) rfl) rfl ⟨_, rfl, .slice none 0 0, by unfold unpackR; rw [HE.out]; rfl, by unfold unpackR; rw [HE.out]; exact Byts.nil _, (Frm.refl [] w).alloc _⟩
theorem drop_two {l : List UInt8} {k : Nat} (hk : k + 2 = l.length) {x y : UInt8} (hx : l[k]? = some x) (hy : l[k + 1]? = some y) : l.drop k = [x, y] := by
  obtain ⟨h1, rfl⟩ := List.getElem?_eq_some_iff.1 hx
  obtain ⟨h2, rfl⟩ := List.getElem?_eq_some_iff.1 hy
  rw [List.drop_eq_getElem_cons h1, List.drop_eq_getElem_cons h2, List.drop_eq_nil_of_le (by omega)]
set_option maxHeartbeats 2000000 in
set_option maxRecDepth 100000 in
theorem refUnpack_rest (v : Value) (l : List UInt8) (w : World) (h : Byts w v l) (h1 : ¬ l.length < 6) (h2 : ¬ 1030 < l.length) : Calls Try.prog 20 #[v] w (RetV (UnpTo w l)) := by
  have HB := Lib.hid h
  obtain ⟨ao, cap, rfl, hcap, hcs⟩ := h
  have h := HB.out
  obtain ⟨k, hk⟩ : ∃ k, k + 2 = l.length := ⟨l.length - 2, by omega⟩
  have hs' : ¬ 1030 < (l.length : Int) := by omega
  have hs2 : ¬ (l.length : Int) < 6 := by omega
  obtain ⟨x0, hx0⟩ : ∃ x, l[0]? = some x := ⟨_, List.getElem?_eq_getElem (by omega)⟩
  obtain ⟨x1, hx1⟩ : ∃ x, l[1]? = some x := ⟨_, List.getElem?_eq_getElem (by omega)⟩
  obtain ⟨x2, hx2⟩ : ∃ x, l[2]? = some x := ⟨_, List.getElem?_eq_getElem (by omega)⟩
  obtain ⟨x3, hx3⟩ : ∃ x, l[3]? = some x := ⟨_, List.getElem?_eq_getElem (by omega)⟩
  obtain ⟨x4, hx4⟩ : ∃ x, l[k]? = some x := ⟨_, List.getElem?_eq_getElem (by omega)⟩
  obtain ⟨x5, hx5⟩ : ∃ x, l[k + 1]? = some x := ⟨_, List.getElem?_eq_getElem (by omega)⟩
  have hP := unpackP_at hx0 hx1 hx2 hx3
  have hD := drop_two hk hx4 hx5
  obtain ⟨b, o, rfl, d0⟩ := hcs 0 x0 hx0
  have d1 : w.cell? ⟨b, o + 1, none⟩ = some (u8 x1) := by obtain ⟨b', o', e, d⟩ := hcs 1 x1 hx1; cases e; exact d
  have d2 : w.cell? ⟨b, o + 2, none⟩ = some (u8 x2) := by obtain ⟨b', o', e, d⟩ := hcs 2 x2 hx2; cases e; exact d
  have d3 : w.cell? ⟨b, o + 3, none⟩ = some (u8 x3) := by obtain ⟨b', o', e, d⟩ := hcs 3 x3 hx3; cases e; exact d
  have d4 : w.cell? ⟨b, o + k, none⟩ = some (u8 x4) := by obtain ⟨b', o', e, d⟩ := hcs k x4 hx4; cases e; exact d
  have d5 : w.cell? ⟨b, o + (k + 1), none⟩ = some (u8 x5) := by obtain ⟨b', o', e, d⟩ := hcs (k + 1) x5 hx5; cases e; exact d
  rw [Nat.add_zero] at d0
  obtain ⟨v1, hc1, hb1, ⟨a1, p1, rfl⟩, ho1⟩ := h.cutH (hi := (l.length : Int) - 2) (j := k) (by omega) (by omega)
  obtain ⟨v3, hc3, hb3, ⟨a3, p3, rfl⟩, ho3⟩ := h.cut2 (lo := 4) (hi := (l.length : Int) - 2) (i := 4) (j := k) rfl (by omega) (by omega) (by omega)
  have CS : Hid (∀ W, Frm [] w W → Calls Try.prog 38 #[.int .i64 2, .slice a1 (l.take k).length p1] W (Ret (.tuple #[.int .i64 (crcL (l.take k)), .int .i64 0]) (W = ·))) := Lib.hid fun W hf => csum_any _ _ W (hb1.frm0 hf) (by simp; omega)
  have hsc := sumL_crc (l.take k) x4 x5
  have hk2 : l.length - 2 = k := by omega
  rw [← hD] at hsc
  rw [hk2] at hP
  have HE1 : Hid (crcL (l.take k) ≠ 256 * x4.toNat + x5.toNat → unpackE l = 10) := Lib.hid fun e => by unfold unpackE; rw [if_neg h1, if_neg h2, hk2, if_pos (fun e2 => e (hsc.1 e2))]
  have HEF : Hid (crcL (l.take k) = 256 * x4.toNat + x5.toNat → rightB (unpackP l) = false → unpackE l = 6) := Lib.hid fun e2 e => by unfold unpackE; rw [if_neg h1, if_neg h2, hk2, if_neg (fun e => e (hsc.2 e2)), if_neg (by simp [e])]
  have HET : Hid (crcL (l.take k) = 256 * x4.toNat + x5.toNat → rightB (unpackP l) = true → unpackE l = 0) := Lib.hid fun e2 e => by unfold unpackE; rw [if_neg h1, if_neg h2, hk2, if_neg (fun e => e (hsc.2 e2)), if_pos e]
  obtain ⟨L3, hL3⟩ : ∃ L3, (l.take k).drop 4 = L3 := ⟨_, rfl⟩
  rw [hL3] at hb3 hc3 hP
  have hl3 : L3.length ≤ 1024 := by rw [← hL3]; simp; omega
  have HB3 := Lib.hid hb3
  have CR : Hid (∀ bo bc W, Calls Try.prog 37 #[.agg #[.int .i64 (256 * (x0.toNat : Int) + (x1.toNat : Int)), .int .i64 x2.toNat, .int .i64 x3.toNat, .slice bo L3.length bc]] W (Ret (.bool (rightB (unpackP l))) (Frm [] W))) := Lib.hid fun bo bc W => by
    have := valid_any (unpackP l) bo bc W (by rw [hP]; simp only; omega)
    rw [hP] at this ⊢
    exact this
  have HS : Hid (∀ W, Frm [] w W → W.cell? ⟨b, o, none⟩ = some (.int .u8 x0.toNat) ∧ W.cell? ⟨b, o + 1, none⟩ = some (.int .u8 x1.toNat) ∧ W.cell? ⟨b, o + 2, none⟩ = some (.int .u8 x2.toNat) ∧ W.cell? ⟨b, o + 3, none⟩ = some (.int .u8 x3.toNat)) := Lib.hid fun W hf => ⟨hf.keep d0, hf.keep d1, hf.keep d2, hf.keep d3⟩
  have HSK : Hid (∀ W, Frm [] w W → W.cell? ⟨b, o + k, none⟩ = some (.int .u8 x4.toNat) ∧ W.cell? ⟨b, o + (k + 1), none⟩ = some (.int .u8 x5.toNat)) := Lib.hid fun W hf => ⟨hf.keep d4, hf.keep d5⟩
  have hbw : b < w.heap.size := cell_lt d0
  have HS2 : Hid (∀ w4 W g, w.heap.size ≤ g → Frm [] w w4 → Frm [g] w4 W → W.cell? ⟨b, o, none⟩ = some (.int .u8 x0.toNat) ∧ W.cell? ⟨b, o + 1, none⟩ = some (.int .u8 x1.toNat) ∧ W.cell? ⟨b, o + 2, none⟩ = some (.int .u8 x2.toNat) ∧ W.cell? ⟨b, o + 3, none⟩ = some (.int .u8 x3.toNat)) := Lib.hid fun w4 W g hg hf hk => by
    have hnb : b ∉ [g] := by simp; omega
    exact ⟨hk.cellAt (hf.keep d0) hnb, hk.cellAt (hf.keep d1) hnb, hk.cellAt (hf.keep d2) hnb, hk.cellAt (hf.keep d3) hnb⟩
  have HP := Lib.hid hP
  have hq0 : (x0.toNat : Int) ≤ 255 := by have := x0.toNat_lt; omega
  have hq1 : (x1.toNat : Int) ≤ 255 := by have := x1.toNat_lt; omega
  have hq2 : (x2.toNat : Int) ≤ 255 := by have := x2.toNat_lt; omega
  have hq3 : (x3.toNat : Int) ≤ 255 := by have := x3.toNat_lt; omega
  have hq4 : (x4.toNat : Int) ≤ 255 := by have := x4.toNat_lt; omega
  have hq5 : (x5.toNat : Int) ≤ 255 := by have := x5.toNat_lt; omega
  have hln : l.length ≤ 1030 := by omega
  have hl6 : 6 ≤ l.length := by omega
  generalize x0.toNat = y0 at *
  generalize x1.toNat = y1 at *
  generalize x2.toNat = y2 at *
  generalize x3.toNat = y3 at *
  generalize x4.toNat = y4 at *
  generalize x5.toNat = y5 at *
  obtain ⟨n1, hn1⟩ : ∃ n1, (l.take k).length = n1 := ⟨_, rfl⟩
  obtain ⟨cr, hcr⟩ : ∃ cr, crcL (l.take k) = cr := ⟨_, rfl⟩
  rw [hn1] at CS hc1
  rw [hcr] at CS HE1 HEF HET
  obtain ⟨W0, hW0⟩ : ∃ W0, w.alloc (.cells #[.int .i64 0, .int .i64 0, .int .i64 0, .slice none 0 0] 38) = W0 := ⟨_, rfl⟩
  have HF0 : Hid (Frm [] w W0) := Lib.hid (by rw [← hW0]; exact (Frm.refl [] w).alloc _)
  have HG0 : Hid (W0.heap[w.heap.size]? = some (.cells #[.int .i64 0, .int .i64 0, .int .i64 0, .slice none 0 0] 38 (0, 0))) := Lib.hid (by rw [← hW0]; exact heap_alloc_new w _)
  have HZ0 : Hid (w.heap.size < W0.heap.size) := Lib.hid (lt_of_block HG0.out)
  have HW0 := Lib.hid hW0
  have HLEN := Lib.hid hk
  clear h h1 h2 hk hb1 hb3 ho1 ho3 hn1 hcs d0 d1 d2 d3 d4 d5 hx0 hx1 hx2 hx3 hx4 hx5 hP hL3 hbw hsc hk2 hD hcr hW0
  go_enter Try.func20, Try.ntmps20
  go_upto_region 1 with fail
  rw [HW0.out]
  clear HW0
  go_upto_region 7 with (go_at_call 38; go_must (refine (CS.out _ HF0.out).mono ?_; rintro e w' ⟨rfl, rfl⟩))
  have e1 : IntKind.i64.wrap ((l.length : Int) - 2) = (k : Int) := by rw [IntWalk.i64_in _ (by omega)]; have := HLEN.out; omega
  obtain ⟨k1, hk1⟩ : ∃ k1, k + 1 = k1 := ⟨_, rfl⟩
  have e2 : IntKind.i64.wrap ((l.length : Int) - 1) = (k1 : Int) := by rw [IntWalk.i64_in _ (by omega)]; have := HLEN.out; omega
  have hkl : (k : Int) < (l.length : Int) := by have := HLEN.out; omega
  have hk1l : (k1 : Int) < (l.length : Int) := by have := HLEN.out; omega
  obtain ⟨d4, d5⟩ := HSK.out W0 HF0.out
  rw [hk1] at d5
  have e3 : IntKind.i64.wrap (y4 : Int) = (y4 : Int) := IntWalk.i64_in _ (by omega)
  have e4 : IntKind.i64.wrap (y5 : Int) = (y5 : Int) := IntWalk.i64_in _ (by omega)
  have e5 : IntKind.i64.wrap (256 * (y4 : Int)) = 256 * (y4 : Int) := IntWalk.i64_in _ (by omega)
  have e6 : IntKind.i64.wrap (256 * (y4 : Int) + (y5 : Int)) = 256 * (y4 : Int) + (y5 : Int) := IntWalk.i64_in _ (by omega)
  clear hk1
  go_cut [39] (fun s39 wx => s39 = .bool ((cr : Int) != 256 * (y4 : Int) + (y5 : Int)) ∧ Frm [] W0 wx)
  case first =>
    go_quiet (fail)
    go_wp2
    go_meet
    exact ⟨rfl, (Frm.refl _ _).drewN _⟩
  case rest =>
    obtain ⟨rfl, hfc⟩ := hcut
    have HFC := Lib.hid (HF0.out.trans hfc)
    have hgc := hfc.at HG0.out (by simp)
    have HGC := Lib.hid hgc
    have HZC : Hid (w.heap.size < wc.heap.size) := Lib.hid (lt_of_block hgc)
    clear hfc d4 d5 e1 e2 e3 e4 e5 e6 hkl hk1l
    obtain ⟨bb, hbb⟩ : ∃ bb, ((cr : Int) != 256 * (y4 : Int) + (y5 : Int)) = bb := ⟨_, rfl⟩
    rw [hbb]
    cases bb with
    | true =>
      have HE := Lib.hid (HE1.out (fun e => by rw [e] at hbb; simp at hbb))
      have g0 := cell_of hgc 0
      have g1 := cell_of hgc 1
      have g2 := cell_of hgc 2
      have g3 := cell_of hgc 3
      have f0 := free_of hgc 0
      have f1 := free_of hgc 1
      have f2 := free_of hgc 2
      have f3 := free_of hgc 3
      clear hgc hbb
      go_wp2
      have h4 := four_set HGC.out rfl (.int .i64 0) (.int .i64 0) (.int .i64 0) (.slice none 0 0)
      exact bodyPost_ret (results_c38t rfl rfl rfl h4.1 rfl) rfl ⟨_, rfl, .slice none 0 0, by unfold unpackR; rw [HE.out]; rfl, by unfold unpackR; rw [HE.out]; exact Byts.nil _, HFC.out.then h4.2 (by simp)⟩
    | false =>
      have hce : cr = 256 * y4 + y5 := by simp at hbb; omega
      have HEF := Lib.hid (HEF.out hce)
      have HET := Lib.hid (HET.out hce)
      clear hbb hce hgc
      go_upto_region 9 with fail
      have hlb0 : 0 < l.length := by omega
      have hli1 : (1 : Int) < (l.length : Int) := by omega
      have hli2 : (2 : Int) < (l.length : Int) := by omega
      have hli3 : (3 : Int) < (l.length : Int) := by omega
      have e0 : IntKind.i64.wrap (y0 : Int) = y0 := IntWalk.i64_in _ (by omega)
      have e1 : IntKind.i64.wrap (y1 : Int) = y1 := IntWalk.i64_in _ (by omega)
      have e2 : IntKind.i64.wrap (y2 : Int) = y2 := IntWalk.i64_in _ (by omega)
      have e3 : IntKind.i64.wrap (y3 : Int) = y3 := IntWalk.i64_in _ (by omega)
      have e4 : IntKind.i64.wrap (256 * (y0 : Int)) = 256 * (y0 : Int) := IntWalk.i64_in _ (by omega)
      have e5 : IntKind.i64.wrap (256 * (y0 : Int) + (y1 : Int)) = 256 * (y0 : Int) + (y1 : Int) := IntWalk.i64_in _ (by omega)
      have e6 : IntKind.i64.wrap ((l.length : Int) - 2) = (l.length : Int) - 2 := IntWalk.i64_in _ (by omega)
      go_cut [7] (fun s7 wx => PB w (256 * (y0 : Int) + (y1 : Int)) y2 y3 L3 s7 wx ∧ wx.heap[w.heap.size]? = some (.cells #[.int .i64 0, .int .i64 0, .int .i64 0, .slice none 0 0] 38 (0, 0)))
      case first =>
        go_region_held3 (fun W => W.cell? ⟨b, o, none⟩ = some (.int .u8 y0) ∧ W.cell? ⟨b, o + 1, none⟩ = some (.int .u8 y1) ∧ W.cell? ⟨b, o + 2, none⟩ = some (.int .u8 y2) ∧ W.cell? ⟨b, o + 3, none⟩ = some (.int .u8 y3))
          (first
            | exact HS.out _ (HFC.out.drew)
            | exact HS.out _ (HFC.out.alloc _).drew
            | exact HS.out _ ((HFC.out.alloc _).alloc _).drew
            | exact HS.out _ F4.out
            | exact HS.out _ (F4.out.alloc _)
            | exact HS2.out _ _ _ (Nat.le_of_lt HZC.out) F4.out ((four_set G4.out rfl _ _ _ _).2)
            | exact HS2.out _ _ _ (by have := HZC.out; omega) F4.out ((four_set G4.out rfl _ _ _ _).2))
          (first
            | (refine step_app_bytes (w := (wc.alloc (.cells #[] 5)).drew) rfl (.tmp 59) (.tmp 63) rfl wc.heap.size (.slice (some ⟨wc.heap.size, 0, none⟩) 0 0) (.slice a3 L3.length p3) ?_ ?_ [] L3 (own_empty (show (wc.alloc (.cells #[] 5)).heap[wc.heap.size]? = _ from alloc_top rfl) (by omega)) (HB3.out.frm0 (HFC.out.alloc _).drew) ?_ ?_ ?_; (focus (go_simp; done)); (focus (go_simp; done)); (focus (simp; omega)); (focus (simp; try omega)); intro ao4 cp4 w4 hown hgrow; rw [List.nil_append] at hown ⊢; have O4 := Lib.hid hown; have F4 : Hid (Frm [] w w4) := Lib.hid ((HFC.out.alloc _).drew.grown hgrow (fun k hk => .inr (by cases hk; exact Nat.le_of_lt HZC.out))); have G5 := Lib.hid (grown_at hgrow (show (wc.alloc (.cells #[] 5)).heap[w.heap.size]? = some (.cells #[.int .i64 0, .int .i64 0, .int .i64 0, .slice none 0 0] 38 (0, 0)) from alloc_at HGC.out) (by have := HZC.out; simp [Value.ownBlock]; try omega)); clear hown hgrow)
            | (refine step_app_bytes (w := ((wc.alloc (.cells #[] 5)).alloc (.cells #[.int .i64 0, .int .i64 0, .int .i64 0, .slice none 0 0] 38)).drew) rfl (.tmp 59) (.tmp 63) rfl wc.heap.size (.slice (some ⟨wc.heap.size, 0, none⟩) 0 0) (.slice a3 L3.length p3) ?_ ?_ [] L3 (own_empty (show ((wc.alloc (.cells #[] 5)).alloc (.cells #[.int .i64 0, .int .i64 0, .int .i64 0, .slice none 0 0] 38)).heap[wc.heap.size]? = _ from alloc_at (alloc_top rfl)) (by omega)) (HB3.out.frm0 ((HFC.out.alloc _).alloc _).drew) ?_ ?_ ?_; (focus (go_simp; done)); (focus (go_simp; done)); (focus (simp; omega)); (focus (simp; try omega)); intro ao4 cp4 w4 hown hgrow; rw [List.nil_append] at hown ⊢; have O4 := Lib.hid hown; have F4 : Hid (Frm [] w w4) := Lib.hid (((HFC.out.alloc _).alloc _).drew.grown hgrow (fun k hk => .inr (by cases hk; exact Nat.le_of_lt HZC.out))); have G4 := Lib.hid (grown_at hgrow (show ((wc.alloc (.cells #[] 5)).alloc (.cells #[.int .i64 0, .int .i64 0, .int .i64 0, .slice none 0 0] 38)).heap[wc.heap.size + 1]? = some (.cells #[.int .i64 0, .int .i64 0, .int .i64 0, .slice none 0 0] 38 (0, 0)) from alloc_top (by simp)) (by simp [Value.ownBlock])); have G5 := Lib.hid (grown_at hgrow (show ((wc.alloc (.cells #[] 5)).alloc (.cells #[.int .i64 0, .int .i64 0, .int .i64 0, .slice none 0 0] 38)).heap[w.heap.size]? = some (.cells #[.int .i64 0, .int .i64 0, .int .i64 0, .slice none 0 0] 38 (0, 0)) from alloc_at (alloc_at HGC.out)) (by have := HZC.out; simp [Value.ownBlock]; try omega)); have g0 := cell_of G4.out 0; have g1 := cell_of G4.out 1; have g2 := cell_of G4.out 2; have g3 := cell_of G4.out 3; have f0 := free_of G4.out 0; have f1 := free_of G4.out 1; have f2 := free_of G4.out 2; have f3 := free_of G4.out 3; clear hown hgrow)
            | (refine step_app_bytes (w := ((wc.alloc (.cells #[.int .i64 0, .int .i64 0, .int .i64 0, .slice none 0 0] 38)).alloc (.cells #[] 5)).drew) rfl (.tmp 59) (.tmp 63) rfl wc.heap.size (.slice (some ⟨wc.heap.size + 1, 0, none⟩) 0 0) (.slice a3 L3.length p3) ?_ ?_ [] L3 (own_empty (show ((wc.alloc (.cells #[.int .i64 0, .int .i64 0, .int .i64 0, .slice none 0 0] 38)).alloc (.cells #[] 5)).heap[wc.heap.size + 1]? = _ from alloc_top (by simp)) (by omega)) (HB3.out.frm0 ((HFC.out.alloc _).alloc _).drew) ?_ ?_ ?_; (focus (go_simp; done)); (focus (go_simp; done)); (focus (simp; omega)); (focus (simp; try omega)); intro ao4 cp4 w4 hown hgrow; rw [List.nil_append] at hown ⊢; have O4 := Lib.hid hown; have F4 : Hid (Frm [] w w4) := Lib.hid (((HFC.out.alloc _).alloc _).drew.grown hgrow (fun k hk => .inr (by cases hk; exact Nat.le_succ_of_le (Nat.le_of_lt HZC.out)))); have G4 := Lib.hid (grown_at hgrow (show ((wc.alloc (.cells #[.int .i64 0, .int .i64 0, .int .i64 0, .slice none 0 0] 38)).alloc (.cells #[] 5)).heap[wc.heap.size]? = some (.cells #[.int .i64 0, .int .i64 0, .int .i64 0, .slice none 0 0] 38 (0, 0)) from alloc_at (alloc_top rfl)) (by simp [Value.ownBlock])); have G5 := Lib.hid (grown_at hgrow (show ((wc.alloc (.cells #[.int .i64 0, .int .i64 0, .int .i64 0, .slice none 0 0] 38)).alloc (.cells #[] 5)).heap[w.heap.size]? = some (.cells #[.int .i64 0, .int .i64 0, .int .i64 0, .slice none 0 0] 38 (0, 0)) from alloc_at (alloc_at HGC.out)) (by have := HZC.out; simp [Value.ownBlock]; try omega)); have g0 := cell_of G4.out 0; have g1 := cell_of G4.out 1; have g2 := cell_of G4.out 2; have g3 := cell_of G4.out 3; have f0 := free_of G4.out 0; have f1 := free_of G4.out 1; have f2 := free_of G4.out 2; have f3 := free_of G4.out 3; clear hown hgrow))
        all_goals
          clear e0 e1 e2 e3 e4 e5 e6 hli1 hli2 hli3 hlb0
          go_wp2
          go_meet
          first
            | exact PB.fresh O4.out HZC.out F4.out G5.out
            | exact PB.stored O4.out HZC.out F4.out G4.out rfl (by have := HZC.out; omega) G5.out
      case rest =>
        obtain ⟨⟨g, bo, bc, rfl, hg, hby, hfr, hob, hgl⟩, hz⟩ := hcut
        have HG := Lib.hid hg; have HBY := Lib.hid hby; have HFR := Lib.hid hfr; have HOB := Lib.hid hob; have HGL := Lib.hid hgl; have HZ := Lib.hid hz
        have c0 := cell_of hg 0
        have c1 := cell_of hg 1
        have c2 := cell_of hg 2
        have c3 := cell_of hg 3
        clear hg hby hfr hob hgl hz e0 e1 e2 e3 e4 e5 e6 hli1 hli2 hli3 hlb0
        cases hr : rightB (unpackP l) with
        | false =>
          have HE := Lib.hid (HEF.out hr)
          rw [hr] at CR
          clear hr
          go_wp2_with (go_at_call 37; go_must (refine (CR.out _ _ _).mono ?_; rintro e w6 ⟨rfl, hf⟩; have HF6 := Lib.hid (HFR.out.trans hf); have hg6 := hf.at HZ.out (by simp); have HG6 := Lib.hid hg6; have g0 := cell_of hg6 0; have g1 := cell_of hg6 1; have g2 := cell_of hg6 2; have g3 := cell_of hg6 3; have f0 := free_of hg6 0; have f1 := free_of hg6 1; have f2 := free_of hg6 2; have f3 := free_of hg6 3; clear hf hg6))
          have h4 := four_set HG6.out rfl (.int .i64 0) (.int .i64 0) (.int .i64 0) (.slice none 0 0)
          exact bodyPost_ret (results_c38t rfl rfl rfl h4.1 rfl) rfl ⟨_, rfl, .slice none 0 0, by unfold unpackR; rw [HE.out]; rfl, by unfold unpackR; rw [HE.out]; exact Byts.nil _, HF6.out.then h4.2 (by simp)⟩
        | true =>
          have HE := Lib.hid (HET.out hr)
          rw [hr] at CR
          clear hr
          go_wp2_with (go_at_call 37; go_must (refine (CR.out _ _ _).mono ?_; rintro e w6 ⟨rfl, hf⟩; have HF6 := Lib.hid (HFR.out.trans hf); have hg6 := hf.at HZ.out (by simp); have HG6 := Lib.hid hg6; have HB6 := Lib.hid (HBY.out.frm0 hf); have hh6 := hf.at HG.out (by simp); have c0 := cell_of hh6 0; have c1 := cell_of hh6 1; have c2 := cell_of hh6 2; have c3 := cell_of hh6 3; have g0 := cell_of hg6 0; have g1 := cell_of hg6 1; have g2 := cell_of hg6 2; have g3 := cell_of hg6 3; have f0 := free_of hg6 0; have f1 := free_of hg6 1; have f2 := free_of hg6 2; have f3 := free_of hg6 3; clear hf hg6 hh6))
          have h4 := four_set HG6.out rfl (.int .i64 (256 * (y0 : Int) + (y1 : Int))) (.int .i64 y2) (.int .i64 y3) (.slice bo L3.length bc)
          exact bodyPost_ret (results_c38t rfl rfl rfl h4.1 rfl) rfl ⟨_, rfl, .slice bo L3.length bc, by unfold unpackR; rw [HE.out, if_pos rfl, HP.out]; rfl, by unfold unpackR; rw [HE.out, if_pos rfl, HP.out]; exact HB6.out.frm h4.2 (fun k hk hx => by have := HOB.out k hk; simp at hx; omega), HF6.out.then h4.2 (by simp)⟩
theorem refUnpack_any (v : Value) (l : List UInt8) (w : World) (h : Byts w v l) : Calls Try.prog 20 #[v] w (RetV (UnpTo w l)) := by
  by_cases h1 : l.length < 6
  · exact refUnpack_short v l w h h1
  · by_cases h2 : 1030 < l.length
    · exact refUnpack_long v l w h h2
    · exact refUnpack_rest v l w h h1 h2
end Go.Proofs.Ytomjnbcaofebfaa
