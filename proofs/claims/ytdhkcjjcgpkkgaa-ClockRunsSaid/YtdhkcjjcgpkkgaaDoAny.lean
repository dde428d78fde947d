/- 'do': any call leaves the clock and the reference in one state, and says so. -/
import Derived.Test.YtdhkcjjcgpkkgaaDoD
import Derived.Test.YtdhkcjjcgpkkgaaDoE
import Derived.Test.YtdhkcjjcgpkkgaaDoF
namespace Go.Proofs.Ytdhkcjjcgpkkgaa
open Go.RowKit Go.Maps Go.BigFrame

/-- the time to which a call advances -/
def actT (now what ti : Int) : Int := if what = 3 ∨ what = 4 then ti else now + 1
/-- the time and the timers behind a call -/
def actNow (now what ti : Int) : Int := if what = 0 ∨ what = 1 ∨ what = 2 then now else advNow now (actT now what ti)
def actD (now : Int) (D : DMap) (what tm ti : Int) : DMap :=
  if what = 0 ∨ what = 1 then startD now D tm ti else if what = 2 then stopD D tm else (adv now D (actT now what ti)).2
theorem do_any (cb : Nat) (now : Int) (D : DMap) (N : Nat) (F : List Nat) (what tm ti : Int) (w : World) (h : Clk w cb now D N F) (hN : N ≤ 900000) :
    Calls Try.prog 10 #[.pointer (some ⟨cb, 0, none⟩), .agg (refA now D), .agg #[.int .i64 what, .int .i64 tm, .int .i64 ti]] w
      (Ret (.tuple #[.agg (refA (actNow now what ti) (actD now D what tm ti)), .bool true]) (ClkTo w cb (actNow now what ti) (actD now D what tm ti) (N + 1) F)) := by
  by_cases h01 : what = 0 ∨ what = 1
  · have := do_start cb now D N F what tm ti w h hN h01
    have e1 : actNow now what ti = now := by unfold actNow; rw [if_pos (by omega)]
    have e2 : actD now D what tm ti = startD now D tm ti := by unfold actD; rw [if_pos h01]
    rw [e1, e2]; exact this
  by_cases h2 : what = 2
  · have := do_stop cb now D N F what tm ti w h hN h2
    have e1 : actNow now what ti = now := by unfold actNow; rw [if_pos (by omega)]
    have e2 : actD now D what tm ti = stopD D tm := by unfold actD; rw [if_neg h01, if_pos h2]
    rw [e1, e2]; exact this
  have e1 : actNow now what ti = advNow now (actT now what ti) := by unfold actNow; rw [if_neg (by omega)]
  have e2 : actD now D what tm ti = (adv now D (actT now what ti)).2 := by unfold actD; rw [if_neg h01, if_neg h2]
  rw [e1, e2]
  by_cases ht : actT now what ti ≤ maxT
  · rw [show (adv now D (actT now what ti)).2 = (fire 257 D (advNow now (actT now what ti))).2 by unfold adv; rw [if_neg (by omega)]]
    by_cases h3 : what = 3
    · have e : actT now what ti = ti := by unfold actT; rw [if_pos (by omega)]
      rw [e] at ht ⊢; exact do_adv3 cb now D N F what tm ti w h hN h3 ht
    by_cases h4 : what = 4
    · have e : actT now what ti = ti := by unfold actT; rw [if_pos (by omega)]
      rw [e] at ht ⊢; exact do_adv4 cb now D N F what tm ti w h hN h4 ht
    have e : actT now what ti = now + 1 := by unfold actT; rw [if_neg (by omega)]
    rw [e] at ht ⊢; exact do_adv5 cb now D N F what tm ti w h hN (by omega) ht
  · rw [show (adv now D (actT now what ti)).2 = D by unfold adv; rw [if_pos (by omega)], show advNow now (actT now what ti) = now by unfold advNow; rw [if_pos (by omega)]]
    by_cases h3 : what = 3
    · have e : actT now what ti = ti := by unfold actT; rw [if_pos (by omega)]
      rw [e] at ht; exact do_adv3e cb now D N F what tm ti w h hN h3 (by omega)
    by_cases h4 : what = 4
    · have e : actT now what ti = ti := by unfold actT; rw [if_pos (by omega)]
      rw [e] at ht; exact do_adv4e cb now D N F what tm ti w h hN h4 (by omega)
    have e : actT now what ti = now + 1 := by unfold actT; rw [if_neg (by omega)]
    rw [e] at ht; exact do_adv5e cb now D N F what tm ti w h hN (by omega) (by omega)
end Go.Proofs.Ytdhkcjjcgpkkgaa
