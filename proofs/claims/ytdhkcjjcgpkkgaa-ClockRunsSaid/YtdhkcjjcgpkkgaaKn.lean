/- The chapter's examples: what each call answers there. -/
import Derived.Test.YtdhkcjjcgpkkgaaKs
namespace Go.Proofs.Ytdhkcjjcgpkkgaa
open Go.RowKit Go.Maps Go.BigFrame

def E1 : DMap := startD 0 D0 3 5
def E2 : DMap := startD 0 E1 1 5
def E3 : DMap := startD 0 E2 2 0
def E4 : DMap := (fire 257 E3 4).2
def E5 : DMap := (fire 257 E4 5).2
def E6 : DMap := startD 5 E5 7 10
def E7 : DMap := (fire 257 E6 5).2
def E8 : DMap := stopD E7 7
def E9 : DMap := stopD E8 7
def E10 : DMap := startD 5 E9 256 1
def E11 : DMap := startD 5 E10 0 (-1)
theorem e_fire4 : (fire 257 E3 4).1 = [2] := by decide +kernel
theorem e_fire5 : (fire 257 E4 5).1 = [1, 3] := by decide +kernel
theorem e_fire3 : (fire 257 E6 5).1 = [] := by decide +kernel
theorem e_next3 : firstX E3 = (0, 2) ∧ (firstOf E3).isSome = true := by decide +kernel
theorem e_next9 : firstX E9 = (0, 0) ∧ (firstOf E9).isSome = false := by decide +kernel
theorem e_left6 : leftV 5 E6 7 = 10 ∧ leftE E6 7 = 0 := by decide +kernel
theorem e_left7 : leftV 5 E7 7 = 10 ∧ leftE E7 7 = 0 := by decide +kernel
theorem e_stop7 : leftE E7 7 = 0 := by decide +kernel
theorem e_stop8 : leftE E8 7 = 9 := by decide +kernel
/-- the stages; each a letter of its own, so that no walk looks into it -/
structure S0 (w : World) (cb : Nat) (wi : World) : Prop where out : KS w cb 0 D0 0 [] wi
structure S1 (w : World) (cb : Nat) (wi : World) : Prop where out : KS w cb 0 E1 1 [] wi
structure S2 (w : World) (cb : Nat) (wi : World) : Prop where out : KS w cb 0 E2 2 [] wi
structure S3 (w : World) (cb : Nat) (wi : World) : Prop where out : KS w cb 0 E3 3 [] wi
structure S4 (w : World) (cb : Nat) (wi : World) : Prop where out : KS w cb 0 E3 3 [] wi
structure S5 (w : World) (cb : Nat) (x : Value) (wi : World) : Prop where out : KS w cb 4 E4 3 [(x, [2])] wi
structure S6 (w : World) (cb : Nat) (x y : Value) (wi : World) : Prop where out : KS w cb 5 E5 3 [(y, [1, 3]), (x, [2])] wi
structure S7 (w : World) (cb : Nat) (wi : World) : Prop where out : KS w cb 5 E6 4 [] wi
structure S8 (w : World) (cb : Nat) (wi : World) : Prop where out : KS w cb 5 E6 4 [] wi
structure S9 (w : World) (cb : Nat) (wi : World) : Prop where out : KS w cb 5 E7 4 [] wi
structure S10 (w : World) (cb : Nat) (wi : World) : Prop where out : KS w cb 5 E7 4 [] wi
structure S11 (w : World) (cb : Nat) (wi : World) : Prop where out : KS w cb 5 E7 4 [] wi
structure S12 (w : World) (cb : Nat) (wi : World) : Prop where out : KS w cb 5 E8 4 [] wi
structure S13 (w : World) (cb : Nat) (wi : World) : Prop where out : KS w cb 5 E9 4 [] wi
structure S14 (w : World) (cb : Nat) (wi : World) : Prop where out : KS w cb 5 E9 4 [] wi
structure S15 (w : World) (cb : Nat) (wi : World) : Prop where out : KS w cb 5 E10 5 [] wi
structure S16 (w : World) (cb : Nat) (wi : World) : Prop where out : KS w cb 5 E11 6 [] wi
section
variable {w wi w2 : World} {cb : Nat}
theorem KS.drop {now : Int} {D : DMap} {N : Nat} {L : List (Value × List Int)} (h : KS w cb now D N L wi) : KS w cb now D N [] wi := by
  obtain ⟨F, h1, h2, h3, h4⟩ := h
  exact ⟨F, h1, h2, h3, by simp⟩
theorem c1 (h : S0 w cb wi) : Calls Try.prog 12 #[.pointer (some ⟨cb, 0, none⟩), .int .i64 3, .int .i64 5] wi (Ret (.int .i64 0) (S1 w cb)) := (ks_start 3 5 h.out (by decide)).mono fun _ _ ⟨he, hr⟩ => ⟨he, ⟨hr⟩⟩
theorem c2 (h : S1 w cb wi) : Calls Try.prog 12 #[.pointer (some ⟨cb, 0, none⟩), .int .i64 1, .int .i64 5] wi (Ret (.int .i64 0) (S2 w cb)) := (ks_start 1 5 h.out (by decide)).mono fun _ _ ⟨he, hr⟩ => ⟨he, ⟨hr⟩⟩
theorem c3 (h : S2 w cb wi) : Calls Try.prog 12 #[.pointer (some ⟨cb, 0, none⟩), .int .i64 2, .int .i64 0] wi (Ret (.int .i64 0) (S3 w cb)) := (ks_start 2 0 h.out (by decide)).mono fun _ _ ⟨he, hr⟩ => ⟨he, ⟨hr⟩⟩
theorem c4 (h : S3 w cb wi) : Calls Try.prog 21 #[.pointer (some ⟨cb, 0, none⟩)] wi (Ret (.tuple #[.int .i64 2, .int .i64 0, .int .i64 0]) (S4 w cb)) := by
  refine (ks_next h.out (by decide)).mono ?_
  rintro e w' ⟨he, hr⟩
  rw [e_next3.1, e_next3.2] at he
  exact ⟨he, ⟨hr⟩⟩
theorem c5 (h : S4 w cb wi) : Calls Try.prog 14 #[.pointer (some ⟨cb, 0, none⟩), .int .i64 4] wi (RetV fun r w' => ∃ x, r = .tuple #[x, .int .i64 0] ∧ S5 w cb x w') := by
  refine (ks_adv 4 h.out (by decide) (by decide)).mono ?_
  rintro e w' ⟨r, he, v, hr, hk⟩
  rw [show advNow 0 4 = 4 by decide, e_fire4] at hk
  exact ⟨r, he, v, hr, ⟨hk⟩⟩
theorem c6 {x : Value} (h : S5 w cb x wi) : Calls Try.prog 14 #[.pointer (some ⟨cb, 0, none⟩), .int .i64 5] wi (RetV fun r w' => ∃ y, r = .tuple #[y, .int .i64 0] ∧ S6 w cb x y w') := by
  refine (ks_adv 5 h.out (by decide) (by decide)).mono ?_
  rintro e w' ⟨r, he, v, hr, hk⟩
  rw [show advNow 4 5 = 5 by decide, e_fire5] at hk
  exact ⟨r, he, v, hr, ⟨hk⟩⟩
theorem S6.frm {x y : Value} (h : S6 w cb x y wi) (hf : Frm [] wi w2) : S6 w cb x y w2 := ⟨h.out.frm hf⟩
theorem S6.one {x y : Value} (h : S6 w cb x y wi) : Ints wi x [2] := h.out.ints (p := (x, [2])) (by simp)
theorem S6.two {x y : Value} (h : S6 w cb x y wi) : Ints wi y [1, 3] := h.out.ints (p := (y, [1, 3])) (by simp)
theorem c7 {x y : Value} (h : S6 w cb x y wi) : Calls Try.prog 12 #[.pointer (some ⟨cb, 0, none⟩), .int .i64 7, .int .i64 10] wi (Ret (.int .i64 0) (S7 w cb)) := (ks_start 7 10 h.out.drop (by decide)).mono fun _ _ ⟨he, hr⟩ => ⟨he, ⟨hr⟩⟩
theorem c8 (h : S7 w cb wi) : Calls Try.prog 20 #[.pointer (some ⟨cb, 0, none⟩), .int .i64 7] wi (Ret (.tuple #[.int .i64 10, .int .i64 0]) (S8 w cb)) := by
  refine (ks_left 7 h.out).mono ?_
  rintro e w' ⟨he, hr⟩
  rw [e_left6.1, e_left6.2] at he
  exact ⟨he, ⟨hr⟩⟩
theorem c9 (h : S8 w cb wi) : Calls Try.prog 14 #[.pointer (some ⟨cb, 0, none⟩), .int .i64 3] wi (RetV fun r w' => ∃ ao cap, r = .tuple #[.slice ao 0 cap, .int .i64 0] ∧ S9 w cb w') := by
  refine (ks_adv 3 h.out (by decide) (by decide)).mono ?_
  rintro e w' ⟨r, he, v, hr, hk⟩
  rw [show advNow 5 3 = 5 by decide, e_fire3] at hk
  obtain ⟨ao, cap, hv, _⟩ := (hk.ints (p := (v, [])) (by simp)).shape
  exact ⟨r, he, ao, cap, by rw [hr]; congr 2; rw [show v = _ from hv]; rfl, ⟨hk.drop⟩⟩
theorem c10 (h : S9 w cb wi) : Calls Try.prog 20 #[.pointer (some ⟨cb, 0, none⟩), .int .i64 7] wi (Ret (.tuple #[.int .i64 10, .int .i64 0]) (S10 w cb)) := by
  refine (ks_left 7 h.out).mono ?_
  rintro e w' ⟨he, hr⟩
  rw [e_left7.1, e_left7.2] at he
  exact ⟨he, ⟨hr⟩⟩
theorem c11 (h : S10 w cb wi) : Calls Try.prog 22 #[.pointer (some ⟨cb, 0, none⟩)] wi (Ret (.int .i64 5) (S11 w cb)) := (ks_now h.out).mono fun _ _ ⟨he, hr⟩ => ⟨he, ⟨hr⟩⟩
theorem c12 (h : S11 w cb wi) : Calls Try.prog 18 #[.pointer (some ⟨cb, 0, none⟩), .int .i64 7] wi (Ret (.int .i64 0) (S12 w cb)) := by
  refine (ks_stop 7 h.out).mono ?_
  rintro e w' ⟨he, hr⟩
  rw [e_stop7] at he
  exact ⟨he, ⟨hr⟩⟩
theorem c13 (h : S12 w cb wi) : Calls Try.prog 18 #[.pointer (some ⟨cb, 0, none⟩), .int .i64 7] wi (Ret (.int .i64 9) (S13 w cb)) := by
  refine (ks_stop 7 h.out).mono ?_
  rintro e w' ⟨he, hr⟩
  rw [e_stop8] at he
  exact ⟨he, ⟨hr⟩⟩
theorem c14 (h : S13 w cb wi) : Calls Try.prog 21 #[.pointer (some ⟨cb, 0, none⟩)] wi (Ret (.tuple #[.int .i64 0, .int .i64 0, .int .i64 9]) (S14 w cb)) := by
  refine (ks_next h.out (by decide)).mono ?_
  rintro e w' ⟨he, hr⟩
  rw [e_next9.1, e_next9.2] at he
  exact ⟨he, ⟨hr⟩⟩
theorem c15 (h : S14 w cb wi) : Calls Try.prog 12 #[.pointer (some ⟨cb, 0, none⟩), .int .i64 256, .int .i64 1] wi (Ret (.int .i64 2) (S15 w cb)) := (ks_start 256 1 h.out (by decide)).mono fun _ _ ⟨he, hr⟩ => ⟨he, ⟨hr⟩⟩
theorem c16 (h : S15 w cb wi) : Calls Try.prog 12 #[.pointer (some ⟨cb, 0, none⟩), .int .i64 0, .int .i64 (-1)] wi (Ret (.int .i64 3) (S16 w cb)) := (ks_start 0 (-1) h.out (by decide)).mono fun _ _ ⟨he, hr⟩ => ⟨he, ⟨hr⟩⟩
end
end Go.Proofs.Ytdhkcjjcgpkkgaa
