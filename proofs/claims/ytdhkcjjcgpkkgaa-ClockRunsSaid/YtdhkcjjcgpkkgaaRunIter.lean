/- The iterator that Running hands out. -/
import Derived.Test.YtdhkcjjcgpkkgaaRange
import Derived.Test.YtdhkcjjcgpkkgaaPush
import Derived.RangeFuncBound
import Derived.OwnWalkIn
import Derived.TacticsInMore
import Derived.LoopNIn
import Derived.LoopIn
namespace Go.Proofs.Ytdhkcjjcgpkkgaa
open Go.RowKit Go.Maps

/-- what the iterator reads: its captured slice -/
def RunR (B : Nat) (sv : Value) (L : List (Int × Int)) (W : World) : Prop := W.heap[B]? = some (.cells #[sv] 25 (0, 0)) ∧ W.ownsRow 0 70 2 sv L.length (encL L)
theorem take_snoc' {α : Type} {L : List α} {k : Nat} {x : α} (h : L[k]? = some x) : L.take (k + 1) = L.take k ++ [x] ∧ L = L.take k ++ x :: L.drop (k + 1) := by
  have hk := lt_of_some h
  rw [List.getElem?_eq_getElem hk] at h
  cases h
  exact ⟨List.take_succ_eq_append_getElem hk, by simp⟩
set_option maxHeartbeats 1000000 in
set_option maxRecDepth 100000 in
theorem run_iter (B : Nat) (sv : Value) (L : List (Int × Int)) (hL : L.length ≤ 1000000) :
    Iter Fence.wide 2 Try.prog 36 #[.pointer (some ⟨B, 0, none⟩)] (fun e : Int × Int => #[.int .i64 e.2, .int .i64 e.1]) (RunR B sv L) L := by
  intro l J Jx sJ sJx hJR hY W h0
  have HJ := Lib.hid sJ; have HJR := Lib.hid hJR; have HY := Lib.hid hY
  clear sJ sJx hJR hY
  have hr := HJR.out _ _ h0
  have c0 := cell_of hr.1 0
  obtain ⟨ao, cap, hsv⟩ : ∃ ao cap, sv = .slice ao L.length cap := by
    obtain ⟨_, h2⟩ := hr.2
    rcases h2 with ⟨hv, hn⟩ | ⟨g, cap, cur, hv, _⟩
    · exact ⟨none, 0, by rw [hv, hn]⟩
    · exact ⟨_, cap, hv⟩
  subst hsv
  have H0 := Lib.hid h0
  clear hr h0
  refine callsIn_of_wp Try.func36 rfl trivial ?_ rfl
  simp only [Try.ntmps36, List.size_toArray, List.length_cons, List.length_nil, Nat.reduceAdd, Nat.reduceSub, Array.replicate_succ, Array.replicate_zero, List.push_toArray, List.append_toArray, List.nil_append, List.cons_append]
  gi_wp2
  gi_loopw [7] (fun s wr => ∃ k : Nat, s = .int .i64 k ∧ k ≤ L.length ∧ J (L.take k) wr) (fun s _ => L.length - (intOf s).toNat)
  case atStart => exact ⟨0, rfl, Nat.zero_le _, H0.out⟩
  case round =>
    obtain ⟨k, rfl, hk, hj⟩ := hrel
    have HJ1 := Lib.hid hj
    clear hj H0 c0
    by_cases hlt : k < L.length
    · obtain ⟨x, hx⟩ : ∃ x, L[k]? = some x := ⟨_, List.getElem?_eq_getElem hlt⟩
      have hr := HJR.out _ _ HJ1.out
      obtain ⟨hr1, hr2⟩ := hr
      have hao : ∃ g, ao = some ⟨g, 0, none⟩ := by
        obtain ⟨_, h2⟩ := hr2
        rcases h2 with ⟨_, hn⟩ | ⟨g, cap, cur, hv, _⟩
        · omega
        · simp at hv; exact ⟨g, hv.1⟩
      obtain ⟨g, rfl⟩ := hao
      have hlt2 : k * 2 + 1 < L.length * 2 := by omega
      have e1 := World.ownsRow.cellAt hr2 (k * 2) (by omega)
      have e2 := World.ownsRow.cellAt hr2 (k * 2 + 1) (by omega)
      have z1 : (encL L)[k * 2]? = some (.int .i64 x.1) := encL_at1 L k x hx
      have z2 : (encL L)[k * 2 + 1]? = some (.int .i64 x.2) := encL_at2 L k x hx
      have g1 : wr.cell? ⟨g, k * 2, none⟩ = some (.int .i64 x.1) := by rw [e1, z1]
      have g2 : wr.cell? ⟨g, k * 2 + 1, none⟩ = some (.int .i64 x.2) := by rw [e2, z2]
      have HX := Lib.hid hx
      clear hr1 hr2 e1 e2 z1 z2 hx
      have hJ' : J (L.take k) (wr.alloc (.cells #[.int .i64 x.1, .int .i64 x.2] 70)) := HJ.out _ _ _ HJ1.out ((Frm.refl _ _).alloc _)
      obtain ⟨fn, tmps, assign, body, hy, hR⟩ := HY.out (L.take k) x (L.drop (k + 1)) _ (take_snoc' HX.out).2 hJ'
      have HRR := Lib.hid hR
      clear hJ' hR
      have hlt' : (k : Int) < L.length := by omega
      gi_wp2
      refine HRR.out.mono ?_
      rintro e W3 (⟨rfl, hJ3⟩ | ⟨rfl, hJx3⟩)
      · have HJ3 := Lib.hid hJ3
        clear hJ3
        gi_wp2
        go_roundw
        case rel => exact ⟨k + 1, by go_num, hlt, by rw [(take_snoc' HX.out).1]; exact HJ3.out⟩
        case measure => simp [intOf]; omega
      · have HJ3 := Lib.hid hJx3
        clear hJx3
        gi_wp2
        refine bodyPost_ret (results_none rfl _ _ _) rfl ?_
        exact ⟨⟨_, rfl⟩, .inr ⟨_, _, _, (take_snoc' HX.out).2, HJ3.out⟩⟩
    · obtain rfl : k = L.length := by omega
      have hge : ¬ (L.length : Int) < L.length := by omega
      gi_wp2
      go_end0
      exact ⟨⟨_, rfl⟩, .inl (by have := HJ1.out; rwa [List.take_length] at this)⟩
end Go.Proofs.Ytdhkcjjcgpkkgaa
