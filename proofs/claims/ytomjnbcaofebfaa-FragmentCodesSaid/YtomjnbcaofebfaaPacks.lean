/- FragmentPacks: the walk. -/
import Derived.Test.YtomjnbcaofebfaaKnown
import Derived.Test.YtomjnbcaofebfaaRPack
import Derived.Test.YtomjnbcaofebfaaRUnp
namespace Go.Proofs.Ytomjnbcaofebfaa
open Go.RowKit Go.BigFrame

def packR (p : Prt) : List UInt8 := if rightB p = true then packL p else []
def packE (p : Prt) : Int := if rightB p = true then 0 else 2
/-- what Pack hands back, for any part -/
def PkR (w : World) (p : Prt) (v : Value) (w' : World) : Prop := ∃ ao cap, v = .tuple #[.slice ao (packR p).length cap, .int .i64 (packE p)] ∧ w'.ownsRow w.heap.size 5 1 (.slice ao (packR p).length cap) (packR p).length ((packR p).map u8) ∧ Frm [] w w'
theorem PkR.good {p : Prt} (h : rightB p = true) {w w' : World} {v : Value} (hp : PackTo w p v w') : PkR w p v w' := by
  obtain ⟨sv, rfl, hf⟩ := hp
  have e1 : packR p = packL p := by unfold packR; rw [if_pos h]
  have e2 : packE p = 0 := by unfold packE; rw [if_pos h]
  obtain ⟨ao, cap, rfl⟩ := own_shape hf.1
  unfold PkR
  rw [e1, e2]
  exact ⟨ao, cap, rfl, hf.1, hf.2⟩
theorem PkR.bad {p : Prt} (h : rightB p = false) {w w' : World} (hf : Frm [] w w') : PkR w p (.tuple #[.slice none 0 0, .int .i64 2]) w' := by
  have e1 : packR p = [] := by unfold packR; rw [if_neg (by simp [h])]
  have e2 : packE p = 2 := by unfold packE; rw [if_neg (by simp [h])]
  unfold PkR
  rw [e1, e2]
  exact ⟨none, 0, rfl, World.ownsRow_nil _ _ _ _, hf⟩
theorem pack_any (p : Prt) (bv : Value) (w : World) (hb : Byts w bv p.b) (hn : p.b.length ≤ 1000000) : Calls Try.prog 17 #[pv p bv] w (RetV (PkR w p)) := by
  cases h : rightB p with
  | true => exact (pack_good p bv w hb h).mono (by rintro e w' ⟨v, rfl, hp⟩; exact ⟨v, rfl, PkR.good h hp⟩)
  | false => exact (pack_bad p bv w hb hn h).mono (by rintro e w' ⟨rfl, hf⟩; exact ⟨_, rfl, PkR.bad h hf⟩)
theorem refPack_any (p : Prt) (bv : Value) (w : World) (hb : Byts w bv p.b) (hn : p.b.length ≤ 1000000) : Calls Try.prog 18 #[pv p bv] w (RetV (PkR w p)) := by
  cases h : rightB p with
  | true => exact (refPack_good p bv w hb h).mono (by rintro e w' ⟨v, rfl, hp⟩; exact ⟨v, rfl, PkR.good h hp⟩)
  | false => exact (refPack_bad p bv w hb hn h).mono (by rintro e w' ⟨rfl, hf⟩; exact ⟨_, rfl, PkR.bad h hf⟩)
set_option maxHeartbeats 4000000 in
set_option maxRecDepth 100000 in
theorem packs_big (m u c : Int) (ao : Option Addr) (n cap : Nat) (ao2 : Option Addr) (n2 cap2 : Nat) (w : World) (hn : 1100 < n ∨ 1100 < n2) : Calls Try.prog 5 #[.agg #[.int .i64 m, .int .i64 u, .int .i64 c, .slice ao n cap], .slice ao2 n2 cap2] w (Ret (.bool true) (Frm [] w)) := by
  by_cases h1 : 1100 < n
  · have hn' : (1100 : Int) < (n : Int) := by omega
    clear hn h1
    go_enter Try.func5, Try.ntmps5
    go_wp2_with (go_at_call 8; go_must (refine (known_any _).mono ?_; rintro e w2 ⟨rfl, hf⟩; have HF := Lib.hid hf; clear hf))
    go_ret
    exact ⟨rfl, ((Frm.refl [] w).alloc _).trans HF.out⟩
  · have hn' : ¬ (1100 : Int) < (n : Int) := by omega
    have hn2 : (1100 : Int) < (n2 : Int) := by omega
    clear hn h1
    go_enter Try.func5, Try.ntmps5
    go_wp2_with (go_at_call 8; go_must (refine (known_any _).mono ?_; rintro e w2 ⟨rfl, hf⟩; have HF := Lib.hid hf; clear hf))
    go_ret
    exact ⟨rfl, ((Frm.refl [] w).alloc _).trans HF.out⟩
set_option maxHeartbeats 4000000 in
set_option maxRecDepth 100000 in
theorem packs_any (p : Prt) (ao : Option Addr) (cap : Nat) (b : List UInt8) (ao2 : Option Addr) (cap2 : Nat) (w : World) (hp : Byts w (.slice ao p.b.length cap) p.b) (hb : Byts w (.slice ao2 b.length cap2) b) (hn : p.b.length ≤ 1100) (hn2 : b.length ≤ 1100) :
    Calls Try.prog 5 #[.agg #[.int .i64 p.msg, .int .i64 p.num, .int .i64 p.cnt, .slice ao p.b.length cap], .slice ao2 b.length cap2] w (Ret (.bool true) (Frm [] w)) := by
  obtain ⟨W0, hW0⟩ : ∃ W0, w.alloc (.cells #[.int .i64 p.msg, .int .i64 p.num, .int .i64 p.cnt, .slice ao p.b.length cap] 38) = W0 := ⟨_, rfl⟩
  have HF0 : Hid (Frm [] w W0) := Lib.hid (by rw [← hW0]; exact (Frm.refl [] w).alloc _)
  have HG0 : Hid (W0.heap[w.heap.size]? = some (.cells #[.int .i64 p.msg, .int .i64 p.num, .int .i64 p.cnt, .slice ao p.b.length cap] 38 (0, 0))) := Lib.hid (by rw [← hW0]; exact heap_alloc_new w _)
  have HW0 := Lib.hid hW0
  have C17 : Hid (∀ W, Frm [] w W → Calls Try.prog 17 #[.agg #[.int .i64 p.msg, .int .i64 p.num, .int .i64 p.cnt, .slice ao p.b.length cap]] W (RetV (PkR W p))) := Lib.hid fun W hf => pack_any p _ W (hp.frm0 hf) (by omega)
  have C18 : Hid (∀ W, Frm [] w W → Calls Try.prog 18 #[.agg #[.int .i64 p.msg, .int .i64 p.num, .int .i64 p.cnt, .slice ao p.b.length cap]] W (RetV (PkR W p))) := Lib.hid fun W hf => refPack_any p _ W (hp.frm0 hf) (by omega)
  have hbl : ∀ j, (Value.slice ao2 b.length cap2).ownBlock = some j → 0 < b.length → j < w.heap.size := fun j hj h0 => by
    obtain ⟨ao', cap', e, -, h2⟩ := hb
    cases e
    obtain ⟨b', o', rfl, e⟩ := h2 0 _ (List.getElem?_eq_getElem h0)
    have h3 := cell_lt e
    cases hj; exact h3
  have C19 : Hid (∀ W, Frm [] w W → Calls Try.prog 19 #[.slice ao2 b.length cap2] W (RetV (UnpTo W b))) := Lib.hid fun W hf => by
    rcases Nat.eq_zero_or_pos b.length with h0 | h0
    · exact unpack_short _ b W (hb.frm0 hf) (by omega)
    · exact unpack_any _ b W (hb.frm0 hf) (by omega) (fun j hj => by have := hbl j hj h0; have := hf.size; omega)
  have C20 : Hid (∀ W, Frm [] w W → Calls Try.prog 20 #[.slice ao2 b.length cap2] W (RetV (UnpTo W b))) := Lib.hid fun W hf => refUnpack_any _ b W (hb.frm0 hf)
  have hn' : ¬ (1100 : Int) < (p.b.length : Int) := by omega
  have hn2' : ¬ (1100 : Int) < (b.length : Int) := by omega
  obtain ⟨q, hq⟩ : ∃ q, unpackR b = q := ⟨_, rfl⟩
  obtain ⟨qe, hqe⟩ : ∃ qe, unpackE b = qe := ⟨_, rfl⟩
  obtain ⟨pl, hpl⟩ : ∃ pl, packR p = pl := ⟨_, rfl⟩
  obtain ⟨pe, hpe⟩ : ∃ pe, packE p = pe := ⟨_, rfl⟩
  unfold PkR at C17 C18
  unfold UnpTo pv at C19 C20
  rw [hq, hqe] at C19 C20
  rw [hpl, hpe] at C17 C18
  have CS : Hid (∀ W v1 v2, Byts W v1 q.b → Byts W v2 q.b → Calls Try.prog 21 #[.agg #[.int .i64 q.msg, .int .i64 q.num, .int .i64 q.cnt, v1], .agg #[.int .i64 q.msg, .int .i64 q.num, .int .i64 q.cnt, v2]] W (Ret (.bool true) (Frm [] W))) := Lib.hid fun W v1 v2 h1 h2 => by
    have := same_any q q v1 v2 W h1 h2
    rwa [decide_eq_true rfl] at this
  generalize p.b.length = n at *
  generalize b.length = n2 at *
  clear hp hb hn hn2 hbl hq hqe hpl hpe hW0
  have c0 := cell_of HG0.out 0
  have c1 := cell_of HG0.out 1
  have c2 := cell_of HG0.out 2
  have c3 := cell_of HG0.out 3
  go_enter Try.func5, Try.ntmps5
  go_upto_region 1 with fail
  rw [HW0.out]
  clear HW0
  go_upto_region 7 with (first
    | (go_at_call 17; go_must (refine (C17.out _ HF0.out).mono ?_; rintro e w1 ⟨v, rfl, a1, p1, rfl, ho, hf⟩; have O1 := Lib.hid ho; have F1 := Lib.hid hf; have hg := hf.at HG0.out (by simp); have c0 := cell_of hg 0; have c1 := cell_of hg 1; have c2 := cell_of hg 2; have c3 := cell_of hg 3; clear ho hf hg))
    | (go_at_call 18; go_must (refine (C18.out _ (HF0.out.trans F1.out)).mono ?_; rintro e w2 ⟨v, rfl, a2, p2, rfl, ho, hf⟩; have O2 := Lib.hid ho; have F2 := Lib.hid hf; clear ho hf))
    | (go_at_call 19; go_must (refine (C19.out _ ((HF0.out.trans F1.out).trans F2.out)).mono ?_; rintro e w3 ⟨v, rfl, b3, rfl, hb, hf⟩; obtain ⟨a3, z3, rfl, -⟩ := hb.len; have B3 := Lib.hid hb; have F3 := Lib.hid hf; clear hb hf))
    | (go_at_call 20; go_must (refine (C20.out _ ((((HF0.out.trans F1.out).trans F2.out).trans F3.out).alloc _)).mono ?_; rintro e w4 ⟨v, rfl, b4, rfl, hb, hf⟩; obtain ⟨a4, z4, rfl, -⟩ := hb.len; have B4 := Lib.hid hb; have F4 := Lib.hid hf; clear hb hf)))
  obtain ⟨W5, hW5⟩ : ∃ W5, w4.alloc (.cells #[.int .i64 q.msg, .int .i64 q.num, .int .i64 q.cnt, .slice a4 q.b.length z4] 38) = W5 := ⟨_, rfl⟩
  have hf45 : Frm [] w4 W5 := by rw [← hW5]; exact (Frm.refl [] w4).alloc _
  have hg5 : W5.heap[w4.heap.size]? = some (.cells #[.int .i64 q.msg, .int .i64 q.num, .int .i64 q.cnt, .slice a4 q.b.length z4] 38 (0, 0)) := by rw [← hW5]; exact heap_alloc_new w4 _
  have hg4 := hf45.at (F4.out.at (heap_alloc_new w3 (.cells #[.int .i64 q.msg, .int .i64 q.num, .int .i64 q.cnt, .slice a3 q.b.length z3] 38)) (by simp)) (by simp)
  have hf35 : Frm [] w3 W5 := (((Frm.refl [] w3).alloc _).trans F4.out).trans hf45
  rw [hW5]
  clear hW5
  have k1 := (Byts.of_own (((F2.out.trans F3.out).trans hf35).owns O1.out (by simp))).conv
  have k2 := (Byts.of_own ((F3.out.trans hf35).owns O2.out (by simp))).conv
  have x0 := cell_of hg4 0
  have x1 := cell_of hg4 1
  have x2 := cell_of hg4 2
  have x3 := cell_of hg4 3
  have y0 := cell_of hg5 0
  have y1 := cell_of hg5 1
  have y2 := cell_of hg5 2
  have y3 := cell_of hg5 3
  have HS := Lib.hid (CS.out W5 _ _ (B3.out.frm0 hf35) (B4.out.frm0 hf45))
  have HFW := Lib.hid ((((HF0.out.trans F1.out).trans F2.out).trans F3.out).trans hf35)
  clear hf45 hg5 hg4 hf35 c0 c1 c2 c3
  go_wp2_with (first
    | (go_at_call 12; go_must (refine (num_any _ _).mono ?_; rintro e w' ⟨rfl, rfl⟩))
    | (go_at_call 21; go_must (refine HS.out.mono ?_; clear HS; rintro e w6 ⟨rfl, hf⟩; have F6 := Lib.hid (HFW.out.trans hf); clear hf))
    | (go_at_call 8; go_must (refine (known_any w6).mono ?_; rintro e w7 ⟨rfl, hf⟩; have F7 := Lib.hid (F6.out.trans hf); clear hf)))
  go_ret
  exact ⟨rfl, F7.out⟩
end Go.Proofs.Ytomjnbcaofebfaa
