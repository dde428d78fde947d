/- The reference's Valid. -/
import Derived.Test.YtomjnbcaofebfaaLeaf
namespace Go.Proofs.Ytomjnbcaofebfaa
open Go.RowKit Go.BigFrame

theorem rightB_iff (m u c : Int) (b : List UInt8) : rightB ⟨m, u, c, b⟩ = true ↔ 0 ≤ m ∧ m ≤ 65535 ∧ 1 ≤ c ∧ c ≤ 255 ∧ 0 ≤ u ∧ u < c ∧ b.length ≤ 1024 := by
  unfold rightB
  simp only [Bool.and_eq_true, wi_iff, decide_eq_true_eq]
  omega
set_option maxHeartbeats 2000000 in
theorem valid_any (p : Prt) (ao : Option Addr) (cap : Nat) (w : World) (hn : p.b.length ≤ 1000000) : Calls Try.prog 37 #[pv p (.slice ao p.b.length cap)] w (Ret (.bool (rightB p)) (Frm [] w)) := by
  obtain ⟨m, u, c, b⟩ := p
  have hiff := rightB_iff m u c b
  generalize rightB ⟨m, u, c, b⟩ = r at *
  unfold pv
  simp only at hn ⊢
  generalize b.length = n at *
  by_cases h1 : 0 ≤ m
  case neg =>
    have hr : r = false := by
      cases r with
      | false => rfl
      | true => have := hiff.1 rfl; omega
    subst hr
    clear hiff
    go_enter Try.func37, Try.ntmps37
    go_wp2
    go_ret
    exact ⟨by simp, (Frm.refl _ _).alloc _⟩
  by_cases h2 : m ≤ 65535
  case neg =>
    have hr : r = false := by
      cases r with
      | false => rfl
      | true => have := hiff.1 rfl; omega
    subst hr
    clear hiff
    go_enter Try.func37, Try.ntmps37
    go_wp2
    go_ret
    exact ⟨by simp, (Frm.refl _ _).alloc _⟩
  by_cases h3 : 1 ≤ c
  case neg =>
    have hr : r = false := by
      cases r with
      | false => rfl
      | true => have := hiff.1 rfl; omega
    subst hr
    clear hiff
    go_enter Try.func37, Try.ntmps37
    go_wp2
    go_ret
    exact ⟨by simp, (Frm.refl _ _).alloc _⟩
  by_cases h4 : c ≤ 255
  case neg =>
    have hr : r = false := by
      cases r with
      | false => rfl
      | true => have := hiff.1 rfl; omega
    subst hr
    clear hiff
    go_enter Try.func37, Try.ntmps37
    go_wp2
    go_ret
    exact ⟨by simp, (Frm.refl _ _).alloc _⟩
  by_cases h5 : 0 ≤ u
  case neg =>
    have hr : r = false := by
      cases r with
      | false => rfl
      | true => have := hiff.1 rfl; omega
    subst hr
    clear hiff
    go_enter Try.func37, Try.ntmps37
    go_wp2
    go_ret
    exact ⟨by simp, (Frm.refl _ _).alloc _⟩
  by_cases h6 : u < c
  case neg =>
    have hr : r = false := by
      cases r with
      | false => rfl
      | true => have := hiff.1 rfl; omega
    subst hr
    clear hiff
    go_enter Try.func37, Try.ntmps37
    go_wp2
    go_ret
    exact ⟨by simp, (Frm.refl _ _).alloc _⟩
  by_cases h7 : n ≤ 1024
  · have k7 : (n : Int) ≤ 1024 := by omega
    have hr : r = true := by
      exact hiff.2 ⟨h1, h2, h3, h4, h5, h6, h7⟩
    subst hr
    clear hiff
    go_enter Try.func37, Try.ntmps37
    go_wp2
    go_ret
    exact ⟨by simp, (Frm.refl _ _).alloc _⟩
  · have k7 : ¬ (n : Int) ≤ 1024 := by omega
    have hr : r = false := by
      cases r with
      | false => rfl
      | true => have := hiff.1 rfl; omega
    subst hr
    clear hiff
    go_enter Try.func37, Try.ntmps37
    go_wp2
    go_ret
    exact ⟨by simp, (Frm.refl _ _).alloc _⟩
end Go.Proofs.Ytomjnbcaofebfaa
