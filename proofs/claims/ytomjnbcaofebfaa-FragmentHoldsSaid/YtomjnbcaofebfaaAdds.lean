/- adds; ints; Missing; over. -/
import Derived.Test.YtomjnbcaofebfaaAdd
import Derived.Test.YtomjnbcaofebfaaRange
import Derived.OwnWalkIn
import Derived.TacticsInMore
import Derived.LoopIn
import Derived.LoopNIn
import Derived.OrdersIn
import Derived.RangeFuncBound
namespace Go.Proofs.Ytomjnbcaofebfaa
open Go.RowKit Go.Maps Go.BigFrame

/-- a box that goes on -/
def BoxTo (base xb mo : Nat) (M B : Int) (N : Nat) (S : St) (w w' : World) : Prop := ∃ K N', BX w' xb mo M B N' S K ∧ Lo base mo S K ∧ N' ≤ N ∧ Mp base w w'
set_option maxHeartbeats 1000000 in
theorem adds_ok {w : World} {base xb mo : Nat} {M B : Int} {N : Nat} {S : St} {K : Int → Nat} (h : BX w xb mo M B N S K) (hlo : Lo base mo S K) (hbase : base ≤ w.heap.size) (p : Prt) (bv : Value) (hb : Byts w bv p.b) (hn : p.b.length ≤ 100000) (hN : N ≤ 800000) :
    Calls Try.prog 14 #[.pointer (some ⟨xb, 0, none⟩), pv p bv, .string (txt (addS M B S p).2.1), .bool (addS M B S p).2.2.1, .int .i64 (addS M B S p).2.2.2] w (Ret (.bool true) (BoxTo base xb mo M B (N + 2) (addS M B S p).1 w)) := by
  have CA : Hid (Calls Try.prog 30 #[.pointer (some ⟨xb, 0, none⟩), pv p bv] (w.alloc (.cells #[.int .i64 p.msg, .int .i64 p.num, .int .i64 p.cnt, bv] 38)) (RetV (AddTo (w.alloc (.cells #[.int .i64 p.msg, .int .i64 p.num, .int .i64 p.cnt, bv] 38)) base xb mo M B N (addS M B S p)))) :=
    Lib.hid (add_any (h.frm0 ((Frm.refl [] w).alloc _)) hlo (by simp; omega) p bv (hb.frm0 ((Frm.refl [] w).alloc _)) hn hN)
  generalize addS M B S p = r at CA
  obtain ⟨S', b, d, e⟩ := r
  unfold pv at *
  clear h hlo hb
  go_enter Try.func14, Try.ntmps14
  go_wp2_with (first
    | (go_at_call 30; go_must (refine CA.out.mono ?_; clear CA; rintro e2 w2 ⟨v, rfl, uv, K', N', rfl, h1, h2, h3, h4, h5⟩; have hcv := h1.conv; obtain ⟨au, cu, rfl, -⟩ := h1.len; have H2 := Lib.hid h2; have H3 := Lib.hid h3; have H4 := Lib.hid h4; have H5 := Lib.hid h5; clear h1 h2 h3 h4 h5))
    | (go_at_call 12; go_must (refine (num_any _ _).mono ?_; rintro e w' ⟨rfl, rfl⟩)))
  all_goals
    go_ret
    refine ⟨?_, K', N', H2.out, H3.out, H4.out, (Mp.frm0 ((Frm.refl [] w).alloc _)).trans H5.out⟩
    simp
/-- whole numbers, read -/
def Ints (w : World) (v : Value) (l : List Int) : Prop :=
  ∃ ao cap, v = .slice ao l.length cap ∧ ∀ k x, l[k]? = some x → ∃ b o, ao = some ⟨b, o, none⟩ ∧ w.cell? ⟨b, o + k, none⟩ = some (.int .i64 x)
theorem Ints.frm0 {w w' : World} {v : Value} {l : List Int} (h : Ints w v l) (hf : Frm [] w w') : Ints w' v l := by
  obtain ⟨ao, cap, rfl, h2⟩ := h
  refine ⟨ao, cap, rfl, fun k x hk => ?_⟩
  obtain ⟨b, o, rfl, e⟩ := h2 k x hk
  exact ⟨b, o, rfl, hf.keep e⟩
theorem Ints.of_own {w : World} {base : Nat} {v : Value} {l : List Int} (h : w.ownsRow base 3 1 v l.length (l.map (Value.int .i64))) : Ints w v l := by
  rcases h.2 with ⟨rfl, h2⟩ | ⟨g, cap, cur, rfl, -, hh, h3, -, -, h4⟩
  · obtain rfl : l = [] := List.length_eq_zero_iff.1 h2
    exact ⟨none, 0, rfl, fun k x h => by simp at h⟩
  · refine ⟨_, _, rfl, fun k x hk => ⟨g, 0, rfl, ?_⟩⟩
    have hl := lt_of_some hk
    rw [Nat.zero_add, World.ownsRow.cellAt h k (by omega)]
    simp [hk]
set_option maxHeartbeats 1000000 in
theorem ints_ok (av bv : Value) (l : List Int) (w : World) (ha : Ints w av l) (hb : Ints w bv l) (hn : l.length ≤ 100000) : Calls Try.prog 27 #[av, bv] w (Ret (.bool true) (Frm [] w)) := by
  obtain ⟨a1, c1, rfl, h1⟩ := ha
  obtain ⟨a2, c2, rfl, h2⟩ := hb
  have H1 := Lib.hid h1; have H2 := Lib.hid h2
  clear h1 h2
  go_enter Try.func27, Try.ntmps27
  go_wp2
  go_loopw [5] (fun s5 wr => ∃ i : Nat, s5 = .int .i64 i ∧ i ≤ l.length ∧ Frm [] w wr) (fun s5 _ => l.length - (intOf s5).toNat)
  case atStart => exact ⟨0, rfl, Nat.zero_le _, Frm.refl _ _⟩
  case round =>
    obtain ⟨i, rfl, hi, hf⟩ := hrel
    have HF := Lib.hid hf
    by_cases hlt : i < l.length
    · have hlt' : (i : Int) < (l.length : Int) := by omega
      have hi0 : (0 : Int) ≤ (i : Int) := by omega
      obtain ⟨x, hx⟩ : ∃ x, l[i]? = some x := ⟨_, List.getElem?_eq_getElem hlt⟩
      obtain ⟨b, o, rfl, e1⟩ := H1.out i x hx
      obtain ⟨b', o', rfl, e2⟩ := H2.out i x hx
      have cx := hf.keep e1
      have cy := hf.keep e2
      clear hf hx e1 e2
      go_wp2
      go_quiet (fail)
      go_wp2
      exact ⟨⟨i + 1, by simp, hlt, HF.out.drewN _⟩, by simp [intOf]; omega⟩
    · obtain rfl : i = l.length := by omega
      have hge : ¬ (l.length : Int) < (l.length : Int) := by omega
      clear hf
      go_wp2
      go_ret
      exact ⟨rfl, HF.out⟩
end Go.Proofs.Ytomjnbcaofebfaa
