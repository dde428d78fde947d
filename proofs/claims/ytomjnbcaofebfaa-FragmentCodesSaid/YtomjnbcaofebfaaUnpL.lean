/- Unpack in plain words; it inverts Pack, and the sum tells a changed byte. -/
import Derived.Test.YtomjnbcaofebfaaPack
import Derived.Test.YtomjnbcaofebfaaVal
namespace Go.Proofs.Ytomjnbcaofebfaa

def unpackP (b : List UInt8) : Prt := ⟨256 * ((b.getD 0 0).toNat : Int) + ((b.getD 1 0).toNat : Int), (b.getD 2 0).toNat, (b.getD 3 0).toNat, (b.take (b.length - 2)).drop 4⟩
def unpackE (b : List UInt8) : Int :=
  if b.length < 6 then 4 else if 1030 < b.length then 5 else if sumL (b.take (b.length - 2)) ≠ b.drop (b.length - 2) then 10 else if rightB (unpackP b) = true then 0 else 6
def unpackR (b : List UInt8) : Prt := if unpackE b = 0 then unpackP b else ⟨0, 0, 0, []⟩

theorem lowB_nat (n : Nat) (x : UInt8) (h : n % 256 = x.toNat) : lowB (n : Int) = x := by
  unfold lowB
  have h1 : ((n : Int) % 256).toNat = x.toNat := by omega
  rw [h1]
  exact UInt8.ofNat_toNat
theorem lowB_toNat (n : Int) : ((lowB n).toNat : Int) = n % 256 := by
  unfold lowB
  simp
  omega
theorem crcStep_inj {a b : Nat} (ha : a < 65536) (hb : b < 65536) (h : crcStep a = crcStep b) : a = b := by
  have hx : ∀ n : Nat, (n ^^^ 4129) % 2 = (n + 1) % 2 := fun n => by
    have h1 : (n ^^^ 4129) % 2 = (n % 2) ^^^ (4129 % 2) := by simpa using Nat.xor_mod_two_pow (a := n) (b := 4129) (n := 1)
    rw [h1]
    have h3 : n % 2 = 0 ∨ n % 2 = 1 := by omega
    rcases h3 with h3 | h3
    · rw [h3, show (0 : Nat) ^^^ (4129 % 2) = 1 from rfl]; omega
    · rw [h3, show (1 : Nat) ^^^ (4129 % 2) = 0 from rfl]; omega
  have hc : ∀ {x y : Nat}, x ^^^ 4129 = y ^^^ 4129 → x = y := fun {x y} h => by
    have := congrArg (· ^^^ 4129) h
    simpa [Nat.xor_assoc] using this
  unfold crcStep at h
  split at h <;> split at h
  · have := hc h; omega
  · have h1 := hx (2 * a % 65536); rw [h] at h1; omega
  · have h1 := hx (2 * b % 65536); rw [← h] at h1; omega
  · omega
theorem crcRun_inj {a b : Nat} (ha : a < 65536) (hb : b < 65536) : ∀ j, crcRun j a = crcRun j b → a = b
  | 0, h => by simpa [crcRun] using h
  | j + 1, h => crcRun_inj ha hb j (crcStep_inj (crcRun_lt ha j) (crcRun_lt hb j) (by simpa [crcRun] using h))
theorem xor_can {r a b : Nat} (h : r ^^^ a = r ^^^ b) : a = b := by
  have h2 : r ^^^ (r ^^^ a) = r ^^^ (r ^^^ b) := by rw [h]
  rwa [← Nat.xor_assoc, ← Nat.xor_assoc, Nat.xor_self, Nat.zero_xor, Nat.zero_xor] at h2
theorem b256 (x : UInt8) : x.toNat * 256 < 65536 := by have := x.toNat_lt; omega
theorem crcByte_left {r s : Nat} (hr : r < 65536) (hs : s < 65536) {x : UInt8} (h : crcByte r x = crcByte s x) : r = s := by
  unfold crcByte at h
  have hx := b256 x
  generalize (8 : Nat) = k at h
  have h1 := crcRun_inj (xor_lt hr hx) (xor_lt hs hx) k h
  clear h
  generalize x.toNat * 256 = y at h1
  have h2 : (r ^^^ y) ^^^ y = (s ^^^ y) ^^^ y := by rw [h1]
  rwa [Nat.xor_assoc, Nat.xor_assoc, Nat.xor_self, Nat.xor_zero, Nat.xor_zero] at h2
theorem crcByte_right {r : Nat} (hr : r < 65536) {x y : UInt8} (h : crcByte r x = crcByte r y) : x = y := by
  unfold crcByte at h
  have hx := b256 x
  have hy := b256 y
  generalize (8 : Nat) = k at h
  have h1 := crcRun_inj (xor_lt hr hx) (xor_lt hr hy) k h
  clear h
  have h3 : x.toNat * 256 = y.toNat * 256 := xor_can h1
  refine UInt8.toNat_inj.1 ?_
  clear h1
  omega
theorem fold_inj {f : Nat → UInt8 → Nat} (P : ∀ r x, r < 65536 → f r x < 65536) (I : ∀ r s x, r < 65536 → s < 65536 → f r x = f s x → r = s) : ∀ (c : List UInt8) (r s : Nat), r < 65536 → s < 65536 → c.foldl f r = c.foldl f s → r = s
  | [], _, _, _, _, h => h
  | x :: c, r, s, hr, hs, h => by
    rw [List.foldl_cons, List.foldl_cons] at h
    exact I r s x hr hs (fold_inj P I c (f r x) (f s x) (P r x hr) (P s x hs) h)
theorem crc_tail {a b : List UInt8} (c : List UInt8) (h : crcL (a ++ c) = crcL (b ++ c)) : crcL a = crcL b := by
  unfold crcL at h
  rw [List.foldl_append, List.foldl_append] at h
  exact fold_inj (fun r x hr => crcByte_lt hr x) (fun r s x hr hs h => crcByte_left hr hs h) c _ _ (crcL_lt a) (crcL_lt b) h
theorem crc_set {l : List UInt8} {i : Nat} (hi : i < l.length) {y : UInt8} (hy : y ≠ l[i]) : crcL (l.set i y) ≠ crcL l := by
  intro h
  rw [List.set_eq_take_append_cons_drop, if_pos hi] at h
  have hl : l = l.take i ++ l[i] :: l.drop (i + 1) := by rw [List.getElem_cons_drop, List.take_append_drop]
  have h2 : crcL (l.take i ++ y :: l.drop (i + 1)) = crcL (l.take i ++ l[i] :: l.drop (i + 1)) := h.trans (congrArg crcL hl)
  have e : ∀ z : UInt8, l.take i ++ z :: l.drop (i + 1) = (l.take i ++ [z]) ++ l.drop (i + 1) := fun z => by simp
  rw [e, e] at h2
  have h3 := crc_tail _ h2
  rw [crcL_snoc, crcL_snoc] at h3
  exact hy (crcByte_right (crcL_lt _) h3)
theorem sumL_inj {a b : List UInt8} (h : sumL a = sumL b) : crcL a = crcL b := by
  unfold sumL at h
  simp only [List.cons.injEq, and_true] at h
  have ha := crcL_lt a
  have hb := crcL_lt b
  have h1 := lowB_toNat ((crcL a : Int) / 256)
  have h2 := lowB_toNat (crcL a : Int)
  rw [h.1, lowB_toNat] at h1
  rw [h.2, lowB_toNat] at h2
  omega
theorem sumL_length (l : List UInt8) : (sumL l).length = 2 := rfl
theorem sumL_crc (l : List UInt8) (x y : UInt8) : sumL l = [x, y] ↔ crcL l = 256 * x.toNat + y.toNat := by
  have ha := crcL_lt l
  have h1 := lowB_toNat ((crcL l : Int) / 256)
  have h2 := lowB_toNat (crcL l : Int)
  have hy := y.toNat_lt
  have hx := x.toNat_lt
  unfold sumL
  simp only [List.cons.injEq, and_true]
  constructor
  · rintro ⟨e1, e2⟩
    rw [e1] at h1
    rw [e2] at h2
    omega
  · intro e
    exact ⟨UInt8.toNat_inj.1 (by omega), UInt8.toNat_inj.1 (by omega)⟩
theorem headL_length (p : Prt) : (headL p).length = 4 := rfl
theorem packL_length (p : Prt) : (packL p).length = p.b.length + 6 := by
  unfold packL
  rw [List.length_append, List.length_append, headL_length, sumL_length]
  omega
theorem packL_take (p : Prt) : (packL p).take ((packL p).length - 2) = headL p ++ p.b := by
  rw [packL_length]
  unfold packL
  rw [List.take_append_of_le_length (by rw [List.length_append, headL_length]; omega), List.take_of_length_le (by rw [List.length_append, headL_length]; omega)]
theorem packL_drop (p : Prt) : (packL p).drop ((packL p).length - 2) = sumL (headL p ++ p.b) := by
  rw [packL_length]
  unfold packL
  rw [List.drop_append_of_le_length (by rw [List.length_append, headL_length]; omega), List.drop_eq_nil_of_le (by rw [List.length_append, headL_length]; omega), List.nil_append]
theorem unpackP_pack {p : Prt} (h : rightB p = true) : unpackP (packL p) = p := by
  have hi := (rightB_iff p.msg p.num p.cnt p.b).1 h
  obtain ⟨m, u, c, b⟩ := p
  simp only at hi
  obtain ⟨h1, h2, h3, h4, h5, h6, h7⟩ := hi
  unfold unpackP
  rw [packL_take]
  have e0 := lowB_toNat (m / 256)
  have e1 := lowB_toNat m
  have e2 := lowB_toNat u
  have e3 := lowB_toNat c
  simp only [packL, headL, List.cons_append, List.nil_append, List.getD_cons_zero, List.getD_cons_succ, List.drop_succ_cons, List.drop_zero, Prt.mk.injEq, and_true]
  omega
theorem unpackE_pack {p : Prt} (h : rightB p = true) : unpackE (packL p) = 0 := by
  have hl := (rightB_len h).1
  unfold unpackE
  rw [packL_take, packL_drop, unpackP_pack h, packL_length, if_neg (by omega), if_neg (by omega), if_neg (fun e => e rfl), if_pos h]
theorem head_unpack (a0 a1 a2 a3 : UInt8) (b : List UInt8) (h1 : ¬ (a0 :: a1 :: a2 :: a3 :: b).length < 6) : headL (unpackP (a0 :: a1 :: a2 :: a3 :: b)) ++ (unpackP (a0 :: a1 :: a2 :: a3 :: b)).b = (a0 :: a1 :: a2 :: a3 :: b).take (b.length - 2 + 4) := by
  have hl : (a0 :: a1 :: a2 :: a3 :: b).length - 2 = (b.length - 2) + 4 := by simp only [List.length_cons] at h1 ⊢; omega
  have k0 := a0.toNat_lt
  have k1 := a1.toNat_lt
  have k2 := a2.toNat_lt
  have k3 := a3.toNat_lt
  have e0 : lowB ((256 * (a0.toNat : Int) + (a1.toNat : Int)) / 256) = a0 := by
    have h := lowB_nat a0.toNat a0 (by omega)
    have e : (256 * (a0.toNat : Int) + (a1.toNat : Int)) / 256 = (a0.toNat : Int) := by omega
    rw [e, h]
  have e1 : lowB (256 * (a0.toNat : Int) + (a1.toNat : Int)) = a1 := by
    have h := lowB_nat (256 * a0.toNat + a1.toNat) a1 (by omega)
    have e : ((256 * a0.toNat + a1.toNat : Nat) : Int) = 256 * (a0.toNat : Int) + (a1.toNat : Int) := by omega
    rw [← e, h]
  have e2 : lowB (a2.toNat : Int) = a2 := lowB_nat _ _ (by omega)
  have e3 : lowB (a3.toNat : Int) = a3 := lowB_nat _ _ (by omega)
  clear k0 k1 k2 k3
  unfold unpackP headL
  rw [hl]
  generalize b.length - 2 = n
  simp only [List.getD_cons_zero, List.getD_cons_succ, e0, e1, e2, e3, List.take_succ_cons, List.drop_succ_cons, List.drop_zero, List.cons_append, List.nil_append]
theorem pack_unpack {b : List UInt8} (h : unpackE b = 0) : rightB (unpackP b) = true ∧ packL (unpackP b) = b := by
  unfold unpackE at h
  split at h
  · cases h
  split at h
  · cases h
  split at h
  · cases h
  split at h
  · rename_i h1 h2 h3 h4
    refine ⟨h4, ?_⟩
    have h3 : sumL (b.take (b.length - 2)) = b.drop (b.length - 2) := Classical.byContradiction h3
    have hh : headL (unpackP b) ++ (unpackP b).b = b.take (b.length - 2) := by
      obtain ⟨a0, a1, a2, a3, b, rfl⟩ : ∃ a0 a1 a2 a3 c, b = a0 :: a1 :: a2 :: a3 :: c := by
        rcases b with _ | ⟨a0, _ | ⟨a1, _ | ⟨a2, _ | ⟨a3, c⟩⟩⟩⟩
        · simp at h1
        · simp at h1
        · simp at h1
        · simp at h1
        · exact ⟨a0, a1, a2, a3, c, rfl⟩
      have hl : (a0 :: a1 :: a2 :: a3 :: b).length - 2 = (b.length - 2) + 4 := by simp only [List.length_cons] at h1 ⊢; omega
      rw [hl]
      exact head_unpack a0 a1 a2 a3 b h1
    unfold packL
    rw [hh, h3, List.take_append_drop]
  · cases h
theorem unpack_set {p : Prt} (h : rightB p = true) {i : Nat} (hi : i < (packL p).length) {y : UInt8} (hy : y ≠ (packL p)[i]) : unpackE ((packL p).set i y) = 10 := by
  have hl := (rightB_len h).1
  have hL := packL_length p
  unfold unpackE
  rw [List.length_set, if_neg (by omega), if_neg (by omega), if_pos]
  intro e
  rcases Nat.lt_or_ge i ((packL p).length - 2) with hlt | hge
  · rw [List.drop_set_of_lt hlt, packL_drop, List.take_set, packL_take] at e
    have hi2 : i < (headL p ++ p.b).length := by rw [List.length_append, headL_length]; omega
    refine crc_set hi2 (y := y) (fun e2 => hy (e2.trans ?_)) (sumL_inj e)
    simp only [packL]
    rw [List.getElem_append_left hi2]
  · rw [List.take_set_of_le hge, packL_take, List.drop_set, if_neg (by omega), packL_drop] at e
    have hd := packL_drop p
    have h2 : (sumL (headL p ++ p.b))[i - ((packL p).length - 2)]? = some y := by
      conv => lhs; rw [e]
      rw [List.getElem?_set_self (by rw [sumL_length]; omega)]
    rw [← hd, List.getElem?_drop, show (packL p).length - 2 + (i - ((packL p).length - 2)) = i by omega, List.getElem?_eq_getElem hi] at h2
    exact hy (Option.some.inj h2).symm
end Go.Proofs.Ytomjnbcaofebfaa
