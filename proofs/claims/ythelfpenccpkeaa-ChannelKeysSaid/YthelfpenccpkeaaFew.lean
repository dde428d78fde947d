/- few: at most 80 calls. -/
import Derived.Test.YthelfpenccpkeaaActs
import Derived.Test.YthelfpenccpkeaaMeth
namespace Go.Proofs.Ythelfpenccpkeaa
open Go.RowKit Go.BigFrame

/-- what few answers -/
def FewTo (n : Nat) (w : World) (v : Value) (w' : World) : Prop := ∃ b, v = .bool b ∧ (b = true → n ≤ 80) ∧ Frm [] w w'
set_option maxHeartbeats 1000000 in
set_option maxRecDepth 100000 in
theorem few_any (ao : Option Addr) (n cap : Nat) (w : World) (h : Acts w ao n) : Calls Try.prog 16 #[.slice ao n cap] w (RetV (FewTo n w)) := by
  have HA := Lib.hid h
  clear h
  go_enter Try.func16, Try.ntmps16
  go_wp2
  go_loopw [3] (fun s wr => ∃ i : Nat, s = .int .i64 i ∧ i ≤ 81 ∧ i ≤ n ∧ Frm [] w wr) (fun s _ => 81 - (intOf s).toNat)
  case atStart => exact ⟨0, rfl, by omega, by omega, Frm.refl _ _⟩
  case round =>
    obtain ⟨i, rfl, h1, h2, hf⟩ := hrel
    have HF := Lib.hid hf
    by_cases hin : i < n
    · by_cases h81 : i < 81
      · have hin' : (i : Int) < (n : Int) := by omega
        have h81' : (i : Int) < 81 := by omega
        obtain ⟨b, o, what, ms, pl, rfl, e0, e1, e2⟩ := HA.out i hin
        have f1 := hf.keep e1
        clear hf e0 e1 e2
        by_cases hs : 60 < ms.size
        · have hs' : (60 : Int) < ms.size := by omega
          go_wp2
          go_ret
          exact ⟨_, rfl, _, rfl, fun hb => by simp at hb, HF.out⟩
        · have hs' : ¬ (60 : Int) < ms.size := by omega
          go_wp2
          exact ⟨⟨i + 1, by simp, by omega, by omega, HF.out⟩, by simp [intOf]; omega⟩
      · have h81' : ¬ (i : Int) < 81 := by omega
        have hin' : (i : Int) < (n : Int) := by omega
        clear hf
        go_wp2
        go_ret
        exact ⟨_, rfl, _, rfl, fun hb => by simp at hb; omega, HF.out⟩
    · have hin' : ¬ (i : Int) < (n : Int) := by omega
      have hni : n = i := by omega
      clear hf
      go_wp2
      go_ret
      exact ⟨_, rfl, _, rfl, fun hb => by simp at hb; omega, HF.out⟩
end Go.Proofs.Ythelfpenccpkeaa
