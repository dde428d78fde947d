/- The sum by bits answers as the sum by bytes. -/
import Derived.Test.YtomjnbcaofebfaaChk
namespace Go.Proofs.Ytomjnbcaofebfaa

def refStep (x v k : Nat) : Nat := if (v / 32768 + x / 2 ^ k % 2) % 2 = 1 then (2 * v % 65536) ^^^ 4129 else 2 * v % 65536
def refRun (x r : Nat) : Nat → Nat
  | 0 => r
  | j + 1 => refStep x (refRun x r j) (7 - j)
theorem refStep_lt (x v k : Nat) : refStep x v k < 65536 := by
  unfold refStep
  split
  · exact xor_lt (Nat.mod_lt _ (by omega)) (by omega)
  · exact Nat.mod_lt _ (by omega)
theorem dbl_xor (a b : Nat) : 2 * (a ^^^ b) % 65536 = (2 * a % 65536) ^^^ (2 * b % 65536) := by
  have h1 : ∀ n : Nat, 2 * n = n <<< 1 := fun n => by rw [Nat.shiftLeft_eq]; omega
  have h2 : (65536 : Nat) = 2 ^ 16 := by decide
  rw [h1, h1, h1, h2, Nat.shiftLeft_xor_distrib, Nat.xor_mod_two_pow]
theorem top_xor {a b : Nat} (ha : a < 65536) (hb : b < 65536) : (32768 ≤ a ^^^ b) ↔ (a / 32768 + b / 32768) % 2 = 1 := by
  have hx := xor_lt ha hb
  have ht : ∀ n : Nat, n < 65536 → (n.testBit 15 = true ↔ 32768 ≤ n) := fun n hn => by
    rw [Nat.testBit_eq_decide_div_mod_eq, decide_eq_true_iff]
    omega
  rw [← ht _ hx, Nat.testBit_xor]
  have h1 := ht a ha
  have h2 := ht b hb
  cases e1 : a.testBit 15 <;> cases e2 : b.testBit 15 <;> rw [e1] at h1 <;> rw [e2] at h2 <;> simp at h1 h2 ⊢ <;> omega
theorem ref_inv (x r : Nat) (hx : x < 256) (hr : r < 65536) : ∀ j, j ≤ 8 → refRun x r j = crcRun j (r ^^^ (x * 256)) ^^^ (x * 2 ^ (8 + j) % 65536) := by
  intro j
  induction j with
  | zero =>
    intro _
    show r = (r ^^^ (x * 256)) ^^^ (x * 2 ^ 8 % 65536)
    rw [show x * 2 ^ 8 % 65536 = x * 256 by omega, Nat.xor_assoc, Nat.xor_self, Nat.xor_zero]
  | succ j ih =>
    intro hj
    have ih := ih (by omega)
    have hs := crcRun_lt (r := r ^^^ (x * 256)) (xor_lt hr (by omega)) j
    show refStep x (refRun x r j) (7 - j) = crcStep (crcRun j (r ^^^ (x * 256))) ^^^ _
    generalize crcRun j (r ^^^ (x * 256)) = s at ih hs ⊢
    have hy : x * 2 ^ (8 + j) % 65536 < 65536 := Nat.mod_lt _ (by omega)
    have hyy : x * 2 ^ (8 + (j + 1)) % 65536 = 2 * (x * 2 ^ (8 + j) % 65536) % 65536 := by
      rw [show 8 + (j + 1) = (8 + j) + 1 by omega, Nat.pow_succ, ← Nat.mul_assoc, Nat.mul_comm _ 2]
      omega
    have hb : x * 2 ^ (8 + j) % 65536 / 32768 = x / 2 ^ (7 - j) % 2 := by
      have : j = 0 ∨ j = 1 ∨ j = 2 ∨ j = 3 ∨ j = 4 ∨ j = 5 ∨ j = 6 ∨ j = 7 := by omega
      rcases this with rfl | rfl | rfl | rfl | rfl | rfl | rfl | rfl <;> simp only [Nat.reduceAdd, Nat.reducePow, Nat.reduceSub] <;> omega
    rw [hyy]
    generalize x * 2 ^ (8 + j) % 65536 = y at ih hy hb ⊢
    have hv : s = refRun x r j ^^^ y := by rw [ih, Nat.xor_assoc, Nat.xor_self, Nat.xor_zero]
    have hvl : refRun x r j < 65536 := by rw [ih]; exact xor_lt hs hy
    generalize refRun x r j = v at hv hvl ⊢
    have ht := top_xor hvl hy
    rw [← hv, hb] at ht
    have hd := dbl_xor v y
    rw [← hv] at hd
    unfold refStep crcStep
    by_cases h : 32768 ≤ s
    · rw [if_pos (ht.1 h), if_pos (by omega), hd, Nat.xor_assoc, Nat.xor_assoc, Nat.xor_comm 4129, ← Nat.xor_assoc (2 * y % 65536), Nat.xor_self, Nat.zero_xor]
    · have h2 : 2 * s = 2 * s % 65536 := by omega
      rw [if_neg (fun e => h (ht.2 e)), if_neg (by omega), h2, hd, Nat.xor_assoc, Nat.xor_self, Nat.xor_zero]
theorem ref_byte (r : Nat) (x : UInt8) (hr : r < 65536) : refRun x.toNat r 8 = crcByte r x := by
  have h := ref_inv x.toNat r x.toNat_lt hr 8 (Nat.le_refl 8)
  rw [h]
  unfold crcByte
  rw [show x.toNat * 2 ^ (8 + 8) % 65536 = 0 by omega, Nat.xor_zero]
end Go.Proofs.Ytomjnbcaofebfaa
