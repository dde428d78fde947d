/- Sorting bytes: rows of them, Less, insertionSort. The plain functions and their laws are the library's (Go.Sort). -/
import Derived.Test.YtefpfcheafbfdaaLeaf
import Derived.Sort.AssemblyPlain
import Derived.BigQuiet
import Derived.BigRegion
namespace Go.Proofs.Ytefpfcheafbfdaa
open Go.RowKit Go.Maps Go.BigFrame Go.Sort

def lt8 (x y : UInt8) : Bool := decide (x < y)
theorem lt8_int (x y : UInt8) : lt8 x y = decide (x.toNat < y.toNat) := by
  unfold lt8
  rw [Bool.eq_iff_iff, decide_eq_true_iff, decide_eq_true_iff, UInt8.lt_iff_toNat_lt]
theorem swo8 : SWO lt8 where
  irrefl x := by unfold lt8; simp
  trans x y z h1 h2 := by unfold lt8 at *; simp only [decide_eq_true_eq, UInt8.lt_iff_toNat_lt] at *; omega
  ntrans x y z h1 h2 := by unfold lt8 at *; simp only [decide_eq_false_iff_not, UInt8.lt_iff_toNat_lt] at *; omega
/-- the row at g holds these bytes -/
def SR (w : World) (g cap : Nat) (d : Array UInt8) : Prop := ∃ cur, w.heap[g]? = some (.cells cur 5 (0, 0)) ∧ cur.size = cap ∧ d.size ≤ cap ∧ ∀ j, j < d.size → cur[j]? = some (u8 d[j]!)
section
variable {w w' : World} {g cap : Nat} {d : Array UInt8} {i j : Nat}
theorem SR.cell (h : SR w g cap d) (hj : j < d.size) : w.cell? ⟨g, j, none⟩ = some (u8 d[j]!) := by
  obtain ⟨cur, h1, -, -, h2⟩ := h
  rw [cell_of h1]; exact h2 j hj
theorem SR.free (h : SR w g cap d) (j : Nat) : w.frozen? ⟨g, j, none⟩ = false := by
  obtain ⟨cur, h1, -⟩ := h
  exact free_of h1 j
theorem SR.frm0 (h : SR w g cap d) (hf : Frm [] w w') : SR w' g cap d := by
  obtain ⟨cur, h1, h2⟩ := h
  exact ⟨cur, hf.at h1 (by simp), h2⟩
theorem swp_get (d : Array UInt8) (i j k : Nat) (hi : i < d.size) (hj : j < d.size) : (swp d i j)[k]! = if k = j then d[i]! else if k = i then d[j]! else d[k]! := by
  unfold swp
  by_cases h1 : k = j
  · subst h1
    rw [if_pos rfl]
    simp [hj]
  · rw [if_neg h1]
    by_cases h2 : k = i
    · subst h2
      rw [if_pos rfl]
      simp only [getElem!_def, Array.getElem?_setIfInBounds_ne (show j ≠ k from fun e => h1 e.symm)]
      simp [hi]
    · rw [if_neg h2]
      simp only [getElem!_def, Array.getElem?_setIfInBounds_ne (show j ≠ k from fun e => h1 e.symm), Array.getElem?_setIfInBounds_ne (show i ≠ k from fun e => h2 e.symm)]
theorem size_swp8 (d : Array UInt8) (i j : Nat) : (swp d i j).size = d.size := by simp [swp]
/-- the swap's two stores -/
theorem SR.swap (h : SR w g cap d) (hi : i < d.size) (hj : j < d.size) : SR ((w.setCell ⟨g, i, none⟩ (u8 d[j]!)).setCell ⟨g, j, none⟩ (u8 d[i]!)) g cap (swp d i j) ∧ Frm [g] w ((w.setCell ⟨g, i, none⟩ (u8 d[j]!)).setCell ⟨g, j, none⟩ (u8 d[i]!)) := by
  obtain ⟨cur, h1, h2, h3, h4⟩ := h
  refine ⟨⟨_, block_setCell (block_setCell h1 i _) j _, by simp [h2], by rw [size_swp8]; exact h3, fun k hk => ?_⟩, ((Frm.refl _ _).setCell _ (.inl (by simp)) _).setCell _ (.inl (by simp)) _⟩
  rw [size_swp8] at hk
  rw [swp_get d i j k hi hj]
  by_cases e1 : k = j
  · subst e1
    rw [if_pos rfl, Array.getElem?_setIfInBounds_self_of_lt (by simp; omega)]
  · rw [if_neg e1, Array.getElem?_setIfInBounds_ne (fun e => e1 e.symm)]
    by_cases e2 : k = i
    · subst e2
      rw [if_pos rfl, Array.getElem?_setIfInBounds_self_of_lt (by omega)]
    · rw [if_neg e2, Array.getElem?_setIfInBounds_ne (fun e => e2 e.symm)]
      exact h4 k hk
end
theorem nan_any (x : UInt8) (w : World) : Calls Try.prog 68 #[u8 x] w (Ret (.bool false) (w = ·)) := by
  unfold u8
  go_enter Try.func68, Try.ntmps68
  go_wp2
  go_ret
  exact ⟨rfl, rfl⟩
theorem less_any (x y : UInt8) (w : World) : Calls Try.prog 78 #[u8 x, u8 y] w (Ret (.bool (lt8 x y)) (w = ·)) := by
  have C := Lib.hid (nan_any x w)
  have hl := lt8_int x y
  rw [hl]
  unfold u8 at *
  clear hl
  go_enter Try.func78, Try.ntmps78
  go_wp2_with (go_at_call 68; go_must (refine C.out.mono ?_; rintro e w' ⟨rfl, rfl⟩))
  go_ret
  exact ⟨rfl, rfl⟩
theorem less_q (x y : UInt8) (w : World) : Calls Try.prog 78 #[u8 x, u8 y] w fun e w' => e = .returned (.bool (lt8 x y)) ∧ w' = w := (less_any x y w).mono (by rintro e w' ⟨rfl, rfl⟩; exact ⟨rfl, rfl⟩)
/-- what a sort leaves -/
def SrtTo (g cap : Nat) (d : Array UInt8) (w w' : World) : Prop := SR w' g cap d ∧ Frm [g] w w'
set_option maxHeartbeats 2000000 in
set_option maxRecDepth 100000 in
theorem ins_any (g cap : Nat) (d : Array UInt8) (a b : Nat) (w : World) (h : SR w g cap d) (hb : b ≤ d.size) (hab : a ≤ b) (hn : d.size ≤ 1000) : Calls Try.prog 72 #[.slice (some ⟨g, 0, none⟩) d.size cap, .int .i64 a, .int .i64 b] w (Ret (.tuple #[]) (SrtTo g cap (insertionSort lt8 d a b) w)) := by
  obtain ⟨n, hn0⟩ : ∃ n, d.size = n := ⟨_, rfl⟩
  have H0 : Hid (∃ d' : Array UInt8, d'.size = n ∧ insOuter lt8 a b (a + 1) d' = insertionSort lt8 d a b ∧ SR w g cap d' ∧ Frm [g] w w) := Lib.hid ⟨d, hn0, rfl, h, Frm.refl _ _⟩
  rw [hn0] at hb hn ⊢
  obtain ⟨R, hR⟩ : ∃ R, insertionSort lt8 d a b = R := ⟨_, rfl⟩
  rw [hR] at H0 ⊢
  clear h hR hn0
  go_enter Try.func72, Try.ntmps72
  go_wp2
  go_loopw [6] (fun s6 wr => ∃ (i : Nat) (d' : Array UInt8), s6 = .int .i64 i ∧ a < i ∧ i ≤ n + 1 ∧ d'.size = n ∧ insOuter lt8 a b i d' = R ∧ SR wr g cap d' ∧ Frm [g] w wr) (fun s6 _ => n + 1 - (intOf s6).toNat)
  case atStart =>
    obtain ⟨d', h1, h2, h3, h4⟩ := H0.out
    exact ⟨a + 1, d', by push_cast; rfl, by omega, by omega, h1, h2, h3, h4⟩
  case round =>
    clear H0
    obtain ⟨i, d', rfl, hai, hin, hsz, ho, hs, hf⟩ := hrel
    have HO := Lib.hid ho; have HS := Lib.hid hs; have HF := Lib.hid hf; have HSZ := Lib.hid hsz
    clear ho hs hf hsz
    by_cases hlt : i < b
    · have hlt' : (i : Int) < (b : Int) := by omega
      have HO2 : Hid (insOuter lt8 a b (i + 1) (insInner lt8 a i d') = R) := Lib.hid (by
        have := HO.out
        unfold insOuter at this
        rwa [if_pos hlt] at this)
      go_wp2
      obtain ⟨R2, hR2⟩ : ∃ R2, insInner lt8 a i d' = R2 := ⟨_, rfl⟩
      rw [hR2] at HO2
      have HR2 := Lib.hid hR2
      clear hR2
      go_loopw [7] (fun s7 wi => ∃ (j : Nat) (e : Array UInt8), s7 = .int .i64 j ∧ a ≤ j ∧ j ≤ i ∧ e.size = n ∧ insInner lt8 a j e = R2 ∧ SR wi g cap e ∧ Frm [g] w wi) (fun s7 _ => (intOf s7).toNat)
      case atStart => exact ⟨i, d', rfl, by omega, Nat.le_refl _, HSZ.out, HR2.out, HS.out, HF.out⟩
      case round =>
        obtain ⟨j, e, rfl, haj, hji, hez, hin2, hs2, hf2⟩ := hrel
        have HI := Lib.hid hin2; have HS2 := Lib.hid hs2; have HF2 := Lib.hid hf2; have HEZ := Lib.hid hez
        clear hin2 hs2 hf2 hez
        by_cases hja : a < j
        · have hja' : (a : Int) < (j : Int) := by omega
          have hdj : decide (a < j) = true := by simpa using hja
          obtain ⟨k, hk⟩ : ∃ k, k + 1 = j := ⟨j - 1, by omega⟩
          have hkl : k < n := by omega
          have hjl : j < n := by omega
          have hki : (k : Int) < (n : Int) := by omega
          have hji2 : (j : Int) < (n : Int) := by omega
          have e1 : IntKind.i64.wrap ((j : Int) - 1) = (k : Int) := by rw [IntWalk.i64_in _ (by omega)]; omega
          have e2 : (j : Int) - 1 = (k : Int) := by omega
          have ck := HS2.out.cell (j := k) (by rw [HEZ.out]; omega)
          have cj := HS2.out.cell (j := j) (by rw [HEZ.out]; omega)
          have fk := HS2.out.free k
          have fj := HS2.out.free j
          obtain ⟨x, hx⟩ : ∃ x, e[j]! = x := ⟨_, rfl⟩
          obtain ⟨y, hy⟩ : ∃ y, e[k]! = y := ⟨_, rfl⟩
          rw [hx] at cj
          rw [hy] at ck
          obtain ⟨lb, hlb⟩ : ∃ lb, lt8 x y = lb := ⟨_, rfl⟩
          have CL := less_q x y
          rw [hlb] at CL
          unfold _root_.Go.Proofs.Ytefpfcheafbfdaa.u8 at ck cj CL
          have HX := Lib.hid hx; have HY := Lib.hid hy; have HLB := Lib.hid hlb; have HK := Lib.hid hk
          clear hx hy hlb hk hkl hjl
          go_upto_region 4 with fail
          go_quiet ((go_at_call 78; exact Calls.quiet_of_same (CL _)))
          obtain ⟨w2, hw2⟩ : ∃ w2, wr.drewN nq = w2 := ⟨_, rfl⟩
          have HD2 : Hid (Frm [] wr w2) := Lib.hid (by rw [← hw2]; exact (Frm.refl [] wr).drewN _)
          rw [hw2]
          have ck := HD2.out.keep ck
          have cj := HD2.out.keep cj
          have HS3 := Lib.hid (HS2.out.frm0 HD2.out)
          have fk := HS3.out.free k
          have fj := HS3.out.free j
          clear hw2 CL
          cases lb with
          | true =>
            go_upto_region 6 with fail
            go_region
            have hsw := HS3.out.swap (i := j) (j := k) (by rw [HEZ.out]; omega) (by rw [HEZ.out]; omega)
            rw [HX.out, HY.out] at hsw
            have HSW := Lib.hid hsw
            clear hsw ck cj fk fj
            go_wp2
            refine ⟨⟨k, swp e j k, rfl, by have := HK.out; omega, by have := HK.out; omega, by rw [size_swp8]; exact HEZ.out, ?_, HSW.out.1.frm0 (Frm.refl [] _).drew, ((HF2.out.then HD2.out (by simp)).trans HSW.out.2).drew⟩, by have := HK.out; simp [intOf]; omega⟩
            have hin := HI.out
            rw [← HK.out] at hin ⊢
            unfold insInner at hin
            have h1 : lt8 e[k + 1]! e[k]! = true := by rw [HK.out, HX.out, HY.out]; exact HLB.out
            rw [h1, Bool.and_true, if_pos (by have := HK.out; simp; omega)] at hin
            exact hin
          | false =>
            go_wp2
            refine ⟨⟨i + 1, e, by simp, by omega, by omega, HEZ.out, ?_, HS3.out, HF2.out.then HD2.out (by simp)⟩, by simp [intOf]; omega⟩
            have hin := HI.out
            rw [← HK.out] at hin
            unfold insInner at hin
            have h1 : lt8 e[k + 1]! e[k]! = false := by rw [HK.out, HX.out, HY.out]; exact HLB.out
            rw [h1, Bool.and_false, if_neg (by simp)] at hin
            rw [hin]; exact HO2.out
        · have hdj : decide (a < j) = false := by simpa using hja
          have HIN : Hid (e = R2) := Lib.hid (by
            have hin := HI.out
            cases j with
            | zero => simpa [insInner] using hin
            | succ k =>
              unfold insInner at hin
              rw [if_neg (by simp; omega)] at hin
              exact hin)
          go_upto_region 4 with fail
          go_quiet (fail)
          go_wp2
          refine ⟨⟨i + 1, e, by simp, by omega, by omega, HEZ.out, by rw [HIN.out]; exact HO2.out, HS2.out.frm0 ((Frm.refl [] _).drewN _), HF2.out.drewN _⟩, by simp [intOf]; omega⟩
    · have hlt' : ¬ (i : Int) < (b : Int) := by omega
      have hR : d' = R := by
        have := HO.out
        unfold insOuter at this
        rwa [if_neg hlt] at this
      subst hR
      go_wp2
      go_end0
      exact ⟨rfl, HS.out, HF.out⟩
end Go.Proofs.Ytefpfcheafbfdaa
