/- The order of two words, as the library compares them; and whether words are sorted. -/
import Derived.Test.YtefpfcheafbfdaaNew
namespace Go.Proofs.Ytefpfcheafbfdaa
open Go.RowKit Go.Maps Go.BigFrame

def cmpL : Wd → Wd → Int
  | [], [] => 0
  | [], _ :: _ => -1
  | _ :: _, [] => 1
  | a :: x, b :: y => if a.toNat < b.toNat then -1 else if b.toNat < a.toNat then 1 else cmpL x y
theorem cmpL_lt : ∀ (x y : Wd), cmpL x y < 0 ↔ x < y
  | [], [] => by simp [cmpL]
  | [], _ :: _ => by simp [cmpL]
  | _ :: _, [] => by simp [cmpL]
  | a :: x, b :: y => by
    unfold cmpL
    rw [List.cons_lt_cons_iff]
    by_cases h1 : a.toNat < b.toNat
    · rw [if_pos h1]; exact ⟨fun _ => .inl (UInt8.lt_iff_toNat_lt.2 h1), fun _ => by decide⟩
    · rw [if_neg h1]
      by_cases h2 : b.toNat < a.toNat
      · rw [if_pos h2]
        refine ⟨fun h => absurd h (by decide), fun h => ?_⟩
        rcases h with h | ⟨h, -⟩
        · exact absurd (UInt8.lt_iff_toNat_lt.1 h) h1
        · subst h; omega
      · rw [if_neg h2, cmpL_lt x y]
        have e : a = b := UInt8.toNat_inj.1 (by omega)
        subst e
        exact ⟨fun h => .inr ⟨rfl, h⟩, fun h => by rcases h with h | ⟨-, h⟩; (· exact absurd (UInt8.lt_iff_toNat_lt.1 h) h1); exact h⟩
theorem cmpL_range : ∀ (x y : Wd), -1 ≤ cmpL x y ∧ cmpL x y ≤ 1
  | [], [] => by simp [cmpL]
  | [], _ :: _ => by simp [cmpL]
  | _ :: _, [] => by simp [cmpL]
  | a :: x, b :: y => by
    unfold cmpL
    have := cmpL_range x y
    split
    · omega
    · split <;> omega
/-- two bytes -/
def cmp8 (a b : UInt8) : Int := if a.toNat < b.toNat then -1 else if b.toNat < a.toNat then 1 else 0
theorem cmpL_step {x y : Wd} {i : Nat} {a b : UInt8} (h1 : x[i]? = some a) (h2 : y[i]? = some b) : cmpL (x.drop i) (y.drop i) = if cmp8 a b = 0 then cmpL (x.drop (i + 1)) (y.drop (i + 1)) else cmp8 a b := by
  obtain ⟨l1, rfl⟩ := List.getElem?_eq_some_iff.1 h1
  obtain ⟨l2, rfl⟩ := List.getElem?_eq_some_iff.1 h2
  rw [List.drop_eq_getElem_cons l1, List.drop_eq_getElem_cons l2, cmpL]
  unfold cmp8
  split
  · simp
  · split <;> simp
set_option maxHeartbeats 1000000 in
theorem nan8 (a : Int) (w : World) : Calls Try.prog 68 #[.int .u8 a] w (Ret (.bool false) (w = ·)) := by
  go_enter Try.func68, Try.ntmps68
  go_wp2
  go_ret
  exact ⟨rfl, rfl⟩
set_option maxHeartbeats 1000000 in
theorem cmp_any (a b : UInt8) (w : World) : Calls Try.prog 64 #[u8 a, u8 b] w (Ret (.int .i64 (cmp8 a b)) (w = ·)) := by
  unfold u8
  unfold cmp8
  by_cases h1 : a.toNat < b.toNat
  · have h1' : (a.toNat : Int) < (b.toNat : Int) := by omega
    rw [if_pos h1]
    go_enter Try.func64, Try.ntmps64
    go_wp2_with (first
      | (go_at_call 68; go_must (refine (nan8 _ _).mono ?_; rintro e w' ⟨rfl, rfl⟩)))
    go_ret
    exact ⟨rfl, rfl⟩
  · have h1' : ¬ (a.toNat : Int) < (b.toNat : Int) := by omega
    rw [if_neg h1]
    by_cases h2 : b.toNat < a.toNat
    · have h2' : (b.toNat : Int) < (a.toNat : Int) := by omega
      rw [if_pos h2]
      go_enter Try.func64, Try.ntmps64
      go_wp2_with (first
        | (go_at_call 68; go_must (refine (nan8 _ _).mono ?_; rintro e w' ⟨rfl, rfl⟩)))
      go_ret
      exact ⟨rfl, rfl⟩
    · have h2' : ¬ (b.toNat : Int) < (a.toNat : Int) := by omega
      rw [if_neg h2]
      go_enter Try.func64, Try.ntmps64
      go_wp2_with (first
        | (go_at_call 68; go_must (refine (nan8 _ _).mono ?_; rintro e w' ⟨rfl, rfl⟩)))
      go_ret
      exact ⟨rfl, rfl⟩
set_option maxHeartbeats 2000000 in
theorem compare_any {w : World} {xv yv : Value} {x y : Wd} (hx : Byts w xv x) (hy : Byts w yv y) (hx1 : x.length ≤ 1000000) (hy1 : y.length ≤ 1000000) : Calls Try.prog 59 #[xv, yv] w (Ret (.int .i64 (cmpL x y)) (w = ·)) := by
  obtain ⟨xa, xc, rfl, hxc, hxs⟩ := hx
  obtain ⟨ya, yc, rfl, hyc, hys⟩ := hy
  have HX := Lib.hid hxs; have HY := Lib.hid hys
  obtain ⟨n, hn⟩ : ∃ n, x.length = n := ⟨_, rfl⟩
  obtain ⟨m, hm⟩ : ∃ m, y.length = m := ⟨_, rfl⟩
  have HN := Lib.hid hn; have HM := Lib.hid hm
  have CC := Lib.hid cmp_any
  rw [hn] at hx1 hxc ⊢; rw [hm] at hy1 hyc ⊢
  clear hxs hys hn hm
  go_enter Try.func59, Try.ntmps59
  go_wp2
  go_loopw [11] (fun s11 wr => ∃ i : Nat, s11 = .int .i64 i ∧ i ≤ n ∧ i ≤ m ∧ cmpL x y = cmpL (x.drop i) (y.drop i) ∧ w = wr) (fun s11 _ => n - (intOf s11).toNat)
  case atStart => exact ⟨0, rfl, Nat.zero_le _, Nat.zero_le _, by simp, rfl⟩
  case round =>
    obtain ⟨i, rfl, hi, hj, he, rfl⟩ := hrel
    have HE := Lib.hid he; clear he
    by_cases h1 : i < n
    · have h1' : (i : Int) < (n : Int) := by omega
      obtain ⟨a, ha⟩ : ∃ a, x[i]? = some a := ⟨_, List.getElem?_eq_getElem (by rw [HN.out]; exact h1)⟩
      obtain ⟨g, o, rfl, c1⟩ := HX.out i a ha
      by_cases h2 : i < m
      · have h2' : ¬ (m : Int) ≤ (i : Int) := by omega
        obtain ⟨b, hb⟩ : ∃ b, y[i]? = some b := ⟨_, List.getElem?_eq_getElem (by rw [HM.out]; exact h2)⟩
        obtain ⟨g2, o2, rfl, c2⟩ := HY.out i b hb
        have HS := Lib.hid (cmpL_step ha hb)
        clear ha hb
        by_cases h3 : cmp8 a b = 0
        · obtain ⟨q, hq⟩ : ∃ q, cmp8 a b = q := ⟨_, rfl⟩
          have C1 := CC.out a b w
          rw [h3] at C1
          have C1 := Lib.hid C1
          clear hq CC
          go_wp2_with (first
            | (go_at_call 64; go_must (refine C1.out.mono ?_; clear C1; rintro e w' ⟨rfl, rfl⟩)))
          refine ⟨⟨i + 1, by simp, h1, h2, ?_, trivial⟩, by simp [intOf]; omega⟩
          rw [HE.out, HS.out, if_pos h3]
        · have hr : cmpL x y = cmp8 a b := by rw [HE.out, HS.out, if_neg h3]
          have C1 := Lib.hid (CC.out a b w)
          have HR := Lib.hid hr
          clear HS hr CC HE
          generalize cmp8 a b = q at h3 C1 HR
          go_wp2_with (first
            | (go_at_call 64; go_must (refine C1.out.mono ?_; clear C1; rintro e w' ⟨rfl, rfl⟩)))
          go_ret
          exact ⟨by rw [HR.out]; rfl, rfl⟩
      · obtain rfl : i = m := by omega
        have h2' : (i : Int) ≤ (i : Int) := by omega
        have hr : cmpL x y = 1 := by
          rw [HE.out, List.drop_of_length_le (l := y) (by rw [HM.out]; exact Nat.le_refl _)]
          obtain ⟨l1, -⟩ := List.getElem?_eq_some_iff.1 ha
          rw [List.drop_eq_getElem_cons l1, cmpL]
        have HR := Lib.hid hr
        clear hr HE ha
        go_wp2
        go_ret
        exact ⟨by rw [HR.out]; rfl, rfl⟩
    · obtain rfl : i = n := by omega
      have h1' : ¬ (i : Int) < (i : Int) := by omega
      by_cases h2 : i < m
      · have h2' : (i : Int) < (m : Int) := by omega
        have hr : cmpL x y = -1 := by
          rw [HE.out, List.drop_of_length_le (l := x) (by rw [HN.out]; exact Nat.le_refl _), List.drop_eq_getElem_cons (by rw [HM.out]; exact h2), cmpL]
        have HR := Lib.hid hr
        clear hr HE
        go_wp2
        go_ret
        exact ⟨by rw [HR.out]; rfl, rfl⟩
      · obtain rfl : i = m := by omega
        have hr : cmpL x y = 0 := by
          rw [HE.out, List.drop_of_length_le (l := x) (by rw [HN.out]; exact Nat.le_refl _), List.drop_of_length_le (l := y) (by rw [HM.out]; exact Nat.le_refl _), cmpL]
        have HR := Lib.hid hr
        clear hr HE
        go_wp2
        go_ret
        exact ⟨by rw [HR.out]; rfl, rfl⟩
/-- each word is no greater than the next one -/
def Asc (L : List Wd) : Prop := ∀ k x y, L[k]? = some x → L[k + 1]? = some y → ¬ y < x
def IsSo (w : World) (L : List Wd) (v : Value) (w' : World) : Prop := Frm [] w w' ∧ ∃ f, v = .bool f ∧ (f = true ↔ Asc L)
set_option maxHeartbeats 2000000 in
theorem isSo_any {w : World} {lv : Value} {L : List Wd} (hl : Wds w lv L) (hL : L.length ≤ 1000000) (h64 : ∀ x ∈ L, x.length ≤ 1000000) : Calls Try.prog 58 #[lv, .func (.func 59) #[] #[]] w (RetV (IsSo w L)) := by
  have HW := Lib.hid hl
  obtain ⟨lo, lc, rfl, hlc, hcs⟩ := hl
  have HCS := Lib.hid hcs; have H64 := Lib.hid h64
  obtain ⟨n, hn⟩ : ∃ n, L.length = n := ⟨_, rfl⟩
  have HN := Lib.hid hn
  rw [hn] at hL hlc ⊢
  clear hcs h64 hn
  by_cases h0 : n = 0
  · subst h0
    have HA : Hid (Asc L) := Lib.hid fun k x y hx => by rw [List.length_eq_zero_iff.1 HN.out] at hx; simp at hx
    go_enter Try.func58, Try.ntmps58
    go_wp2
    go_loopw [5] (fun s5 wr => s5 = .int .i64 (-1) ∧ w = wr) (fun _ _ => 0)
    case atStart => exact ⟨rfl, rfl⟩
    case round =>
      obtain ⟨rfl, rfl⟩ := hrel
      go_wp2
      go_ret
      exact ⟨_, rfl, Frm.refl _ _, true, rfl, by simp [HA.out]⟩
  · go_enter Try.func58, Try.ntmps58
    go_wp2
    go_loopw [5] (fun s5 wr => ∃ i : Nat, s5 = .int .i64 i ∧ i < n ∧ (∀ k x y, i ≤ k → L[k]? = some x → L[k + 1]? = some y → ¬ y < x) ∧ Frm [] w wr) (fun s5 _ => (intOf s5).toNat)
    case atStart =>
      refine ⟨n - 1, by rw [Int.ofNat_sub (by omega)]; rfl, by omega, fun k x y hk h1 h2 => ?_, Frm.refl _ _⟩
      have := lt_of_some h2
      rw [HN.out] at this
      omega
    case round =>
      obtain ⟨i, rfl, hi, hs, hf⟩ := hrel
      have HS := Lib.hid hs; have HF := Lib.hid hf
      clear hs hf
      by_cases h1 : 0 < i
      · have h1' : (0 : Int) < (i : Int) := by omega
        obtain ⟨p, rfl⟩ : ∃ p, i = p + 1 := ⟨i - 1, by omega⟩
        obtain ⟨x, hx⟩ : ∃ x, L[p + 1]? = some x := ⟨_, List.getElem?_eq_getElem (by rw [HN.out]; exact hi)⟩
        obtain ⟨y, hy⟩ : ∃ y, L[p]? = some y := ⟨_, List.getElem?_eq_getElem (by rw [HN.out]; omega)⟩
        obtain ⟨g, o, ua, uc, rfl, c1, b1⟩ := HCS.out _ x hx
        obtain ⟨g2, o2, ub, ud, e, c2, b2⟩ := HCS.out _ y hy
        cases e
        have cx := HF.out.cellAt c1 (by simp)
        have cy := HF.out.cellAt c2 (by simp)
        have hx6 := H64.out x (List.mem_of_getElem? hx)
        have hy6 := H64.out y (List.mem_of_getElem? hy)
        have CL : ∀ m, Calls Try.prog 59 #[.slice ua x.length uc, .slice ub y.length ud] (wr.drewN m) (fun e w' => e = .returned (.int .i64 (cmpL x y)) ∧ w' = wr.drewN m) := fun m => (compare_any ((b1.frm0 HF.out).frm0 ((Frm.refl [] wr).drewN m)) ((b2.frm0 HF.out).frm0 ((Frm.refl [] wr).drewN m)) hx6 hy6).mono fun _ _ ⟨h1, h2⟩ => ⟨h1, h2.symm⟩
        have HX := Lib.hid hx; have HY := Lib.hid hy
        have HLT := Lib.hid (cmpL_lt x y)
        obtain ⟨q, hq⟩ : ∃ q, cmpL x y = q := ⟨_, rfl⟩
        rw [hq] at CL HLT
        have e1 : IntKind.i64.wrap ((p : Int) + 1 - 1) = (p : Int) := by rw [IntWalk.i64_in _ (by omega)]; omega
        have e2 : ((p : Int) + 1 - 1) = (p : Int) := by omega
        clear c1 c2 b1 b2 hx6 hy6 hx hy hq
        by_cases hlt : q < 0
        · go_wp2
          go_quiet ((go_at_call 59; exact Calls.quiet_of_same (CL _)))
          go_wp2
          go_ret
          refine ⟨_, rfl, HF.out.drewN _, false, rfl, ?_⟩
          constructor
          · intro h; cases h
          · intro h; exact absurd (HLT.out.1 hlt) (h p y x HY.out HX.out)
        · go_wp2
          go_quiet ((go_at_call 59; exact Calls.quiet_of_same (CL _)))
          go_wp2
          refine ⟨⟨p, by simp, by omega, fun k x' y' hk hx' hy' => ?_, HF.out.drewN _⟩, by simp [intOf]⟩
          rcases Nat.lt_or_ge p k with h | h
          · exact HS.out k x' y' h hx' hy'
          · obtain rfl : k = p := by omega
            rw [HY.out] at hx'; rw [HX.out] at hy'
            cases hx'; cases hy'
            exact fun h => absurd (HLT.out.2 h) (by omega)
      · obtain rfl : i = 0 := by omega
        have HA : Hid (Asc L) := Lib.hid fun k x y hx hy => HS.out k x y (Nat.zero_le _) hx hy
        go_wp2
        go_ret
        exact ⟨_, rfl, HF.out, true, rfl, by simp [HA.out]⟩
end Go.Proofs.Ytefpfcheafbfdaa
