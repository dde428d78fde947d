/- The reference: Key. -/
import Derived.Test.YthelfpenccpkeaaRefA
import Derived.Test.YthelfpenccpkeaaOrd
namespace Go.Proofs.Ythelfpenccpkeaa
open Go.RowKit Go.BigFrame

/-- the list that the reference sorts, in its own block -/
structure KS (w : World) (A : Array Value) (g : Nat) (M : List ByteArray) (W : World) : Prop where
  b : W.heap[w.heap.size]? = some (.cells A 48 (0, 0))
  c : ∃ cur, W.heap[g]? = some (.cells cur 9 (0, 0)) ∧ cur.toList.take M.length = M.map Value.string
  f : Frm [] w W
  g : w.heap.size < g
section
variable {w W W' : World} {A : Array Value} {g : Nat} {M : List ByteArray}
theorem KS.frm (h : KS w A g M W) (hf : Frm [] W W') : KS w A g M W' := by
  obtain ⟨cur, h1, h2⟩ := h.c
  exact ⟨hf.at h.b (by simp), ⟨cur, hf.at h1 (by simp), h2⟩, h.f.trans hf, h.g⟩
theorem KS.cell (h : KS w A g M W) {k : Nat} {x : ByteArray} (hx : M[k]? = some x) : W.cell? ⟨g, k, none⟩ = some (.string x) := by
  obtain ⟨cur, h1, h2⟩ := h.c
  have hk := (List.getElem?_eq_some_iff.1 hx).1
  rw [cell_of h1]
  have h3 : (cur.toList.take M.length)[k]? = some (.string x) := by rw [h2]; simp [hx]
  rw [List.getElem?_take_of_lt hk] at h3
  simpa using h3
theorem KS.free (h : KS w A g M W) (k : Nat) : W.frozen? ⟨g, k, none⟩ = false := by
  obtain ⟨cur, h1, h2⟩ := h.c
  exact free_of h1 k
theorem KS.set (h : KS w A g M W) {k : Nat} (x : ByteArray) : KS w A g (M.set k x) (W.setCell ⟨g, k, none⟩ (.string x)) := by
  obtain ⟨cur, h1, h2⟩ := h.c
  have hg := h.g
  refine ⟨setCell_at h.b (by simp; omega) _, ⟨_, block_setCell h1 k _, ?_⟩, h.f.setCell _ (.inr (by simp; omega)) _, h.g⟩
  rw [List.length_set, Array.toList_setIfInBounds, List.take_set, h2, List.map_set]
theorem KS.swap (h : KS w A g M W) {k j : Nat} {x y : ByteArray} : KS w A g ((M.set k y).set j x) ((W.setCell ⟨g, k, none⟩ (.string y)).setCell ⟨g, j, none⟩ (.string x)) := (h.set y).set x
end
theorem bl_eq (x y : ByteArray) : Op.bytesLess x.toList y.toList = decide (byt x < byt y) := by rw [bytesLess_eq, ByteArray.toList_eq, ByteArray.toList_eq]; rfl
theorem len_byte' (b : Nat) (W : World) (x : ByteArray) (h : x.size ≤ 32) (hc : W.cell? ⟨b, 0, none⟩ = some (.int .u8 (x.size : Int))) : (convert 63 9 (.slice (some ⟨b, 0, none⟩) 1 1)).run Try.prog W = .ok (.string ⟨#[UInt8.ofNat x.size]⟩) W :=
  run_convert_bytes_back _ 63 9 5 ⟨b, 0, none⟩ 1 [UInt8.ofNat x.size] Try.underlying63 Try.underlying5 Try.underlying9 (fun j hj => by
    have h0 : j = 0 := by simpa using hj
    subst h0
    have e : ((UInt8.ofNat x.size).toNat : Int) = (x.size : Int) := by simp; omega
    show W.cell? ⟨b, 0 + 0, none⟩ = some (.int .u8 ((UInt8.ofNat x.size).toNat : Int))
    rw [e]
    exact hc)

set_option maxHeartbeats 4000000 in
set_option maxRecDepth 100000 in
theorem refKey_any (cls cap : Int) (lv : Value) (L : List ByteArray) (w : World) (h : Lf w lv L) (hL : L.length ≤ 64) (hS : ∀ x ∈ L, x.size ≤ 32) (hne : 0 < L.length) :
    Calls Try.prog 41 #[.agg #[.int .i64 cls, .int .i64 cap, lv]] w (RetV fun v w' => v = .string (keyB (keyL cls L)) ∧ Frm [] w w') := by
  obtain ⟨ao, cp, rfl, hcs⟩ := h.shape
  have HL := Lib.hid h
  obtain ⟨S, hSe⟩ : ∃ S, keyL cls L = S := ⟨_, rfl⟩
  have HSE := Lib.hid hSe
  have HSL : Hid (S.length = L.length) := Lib.hid (by rw [← hSe]; exact keyL_length cls L)
  have HSZ : Hid (∀ x ∈ S, x.size ≤ 32) := Lib.hid (fun x hx => hS x (keyL_mem (by rw [hSe]; exact hx)))
  have HNE := Lib.hid hne
  rw [hSe]
  clear h hcs hS hSe hne
  go_enter Try.func41, Try.ntmps41
  go_wp2_with (first
          | (at_builtin; refine wpList_append_src rfl _ _ rfl _ rfl (alloc_top (by simp)) _ rfl L.length _ (HL.out.frm (((Frm.refl [] w).alloc _).alloc _) (by simp)).src (HL.out.frm (((Frm.refl [] w).alloc _).alloc _) (by simp)).some_addr (by omega) ?_; intro ao1 cp1 w1 ho1 hg1; have HO1 := Lib.hid ho1; have HG1 := Lib.hid hg1; clear ho1 hg1))
  obtain ⟨g, rfl, HK1⟩ : ∃ g, ao1 = some ⟨g, 0, none⟩ ∧ Hid (KS w #[.int .i64 cls, .int .i64 cap, .slice ao L.length cp] g L w1) := by
    rcases HO1.out.2 with ⟨hv, hn⟩ | ⟨g, c, cur, hv, hge, hb, -, -, -, ht⟩
    · have := HNE.out; omega
    · cases hv
      exact ⟨g, rfl, Lib.hid ⟨grown_at HG1.out (alloc_at (alloc_top rfl)) (by simp), ⟨cur, hb, by simpa using ht⟩, (((Frm.refl [] w).alloc _).alloc _).grown HG1.out (by simp), by omega⟩⟩
  clear HO1 HG1 HL
  go_loopw [4] (fun s4 wr => ∃ (i : Nat) (M : List ByteArray), s4 = .int .i64 i ∧ i ≤ L.length ∧ M.Perm L ∧ (cls = 2 → ∀ a b x y, a < b → b < i → M[a]? = some x → M[b]? = some y → byt x ≤ byt y) ∧ (cls ≠ 2 → M = L) ∧ KS w #[.int .i64 cls, .int .i64 cap, .slice ao L.length cp] g M wr) (fun s4 _ => L.length - (intOf s4).toNat)
  case atStart => exact ⟨0, L, rfl, Nat.zero_le _, List.Perm.refl _, fun _ a b x y h1 h2 => by omega, fun _ => rfl, HK1.out⟩
  case round =>
    clear HK1
    obtain ⟨i, M, rfl, hi, hp, hs, hm, hk⟩ := hrel
    have HP := Lib.hid hp; have HS := Lib.hid hs; have HM := Lib.hid hm; have HKS := Lib.hid hk
    have c0 : wr.cell? ⟨w.heap.size, 0, none⟩ = some (.int .i64 cls) := cell_of hk.b 0
    have hml : M.length = L.length := hp.length_eq
    have HML := Lib.hid hml
    clear hp hs hm hk hml
    by_cases hlt : i < L.length
    · have hlt' : (i : Int) < (L.length : Int) := by omega
      by_cases h2 : cls = 2
      · have b2 : (cls == 2) = true := by simpa using h2
        have H2 := Lib.hid h2
        clear h2
        obtain ⟨wo, rfl⟩ : ∃ wo, wo = wr := ⟨_, rfl⟩
        go_wp2
        go_loopw [5] (fun s5 wx => ∃ (k : Nat) (N : List ByteArray), s5 = .int .i64 k ∧ k ≤ i ∧ N.Perm L ∧ But N i k ∧ KS w #[.int .i64 cls, .int .i64 cap, .slice ao L.length cp] g N wx) (fun s5 _ => (intOf s5).toNat)
        case atStart => exact ⟨i, M, rfl, Nat.le_refl _, HP.out, But.start (HS.out H2.out), HKS.out⟩
        case round =>
          clear HKS HP HS HM HML c0
          obtain ⟨k, N, rfl, hk, hp, hbut, hks⟩ := hrel
          have HP := Lib.hid hp; have HB := Lib.hid hbut; have HK := Lib.hid hks
          have hnl := hp.length_eq
          cases k with
          | zero =>
            clear hp hbut hks
            have hz : ¬ (0 : Int) < ((0 : Nat) : Int) := by simp
            go_wp2
            go_quiet (fail)
            go_wp2
            exact ⟨⟨i + 1, N, by simp, by omega, HP.out, fun _ => HB.out.done0, fun h => absurd H2.out h, HK.out.frm ((Frm.refl [] wr).drewN _)⟩, by simp [intOf]; omega⟩
          | succ j =>
            obtain ⟨x, hx⟩ : ∃ x, N[j + 1]? = some x := ⟨_, List.getElem?_eq_getElem (by omega)⟩
            obtain ⟨y, hy⟩ : ∃ y, N[j]? = some y := ⟨_, List.getElem?_eq_getElem (by omega)⟩
            have cx := hks.cell hx
            have cy := hks.cell hy
            have fx := hks.free (j + 1)
            have fy := hks.free j
            have HX := Lib.hid hx; have HY := Lib.hid hy
            have hz : (0 : Int) < (((j + 1 : Nat)) : Int) := by omega
            have hwk : IntKind.i64.wrap ((j : Int) + 1 - 1) = (j : Int) := by simp [IntKind.wrap, show IntKind.i64.bits = 64 from rfl, show IntKind.i64.signed = true from rfl]; omega
            have hwk2 : IntKind.i64.wrap (j : Int) = (j : Int) := by simpa using hwk
            have hj1 : ((j : Int) + 1) < (L.length : Int) := by omega
            have hj2 : (j : Int) < (L.length : Int) := by omega
            have htn : ((j : Int) + 1).toNat = j + 1 := by omega
            have hj3 : (0 : Int) ≤ (j : Int) + 1 := by omega
            clear hp hbut hks hx hy hnl
            by_cases hxy : byt x < byt y
            · have hbl : Op.bytesLess x.toList y.toList = true := by rw [bl_eq]; simpa using hxy
              have HXY := Lib.hid hxy
              clear hxy
              go_wp2
              go_quiet (fail)
              obtain ⟨wq, hq1⟩ : ∃ wq, wr.drewN nq = wq := ⟨_, rfl⟩
              have HKQ := Lib.hid (HK.out.frm (show Frm [] wr wq by rw [← hq1]; exact (Frm.refl [] wr).drewN _))
              rw [hq1]
              clear hq1 cx cy fx fy
              have cx := HKQ.out.cell HX.out
              have cy := HKQ.out.cell HY.out
              have fx := HKQ.out.free (j + 1)
              have fy := HKQ.out.free j
              have cy2 := (HKQ.out.set (k := j + 1) y).cell (k := j) (x := y) (by rw [List.getElem?_set_ne (by omega)]; exact HY.out)
              have fy2 := (HKQ.out.set (k := j + 1) y).free j
              go_wp2
              go_region_law (first | fail)
              all_goals
                go_wp2
                exact ⟨⟨j, (N.set (j + 1) y).set j x, by simp, by omega, (swap_perm HX.out HY.out).trans HP.out, HB.out.step hk HX.out HY.out (le_lt HXY.out), HKQ.out.swap.frm (Frm.refl [] _).drew⟩, by simp [intOf]⟩
            · have hbl : Op.bytesLess x.toList y.toList = false := by rw [bl_eq]; simpa using hxy
              have HXY := Lib.hid (List.not_lt.1 hxy)
              clear hxy
              go_wp2
              go_quiet (fail)
              go_wp2
              exact ⟨⟨i + 1, N, by simp, by omega, HP.out, fun _ => HB.out.doneK hk HX.out HY.out HXY.out, fun h => absurd H2.out h, HK.out.frm ((Frm.refl [] wr).drewN _)⟩, by simp [intOf]; omega⟩
      · have b2 : (cls == 2) = false := by simpa using h2
        have H2 := Lib.hid h2
        obtain rfl : M = S := by rw [HM.out h2, ← HSE.out, keyL, if_neg h2]
        clear h2
        obtain ⟨wo, rfl⟩ : ∃ wo, wo = wr := ⟨_, rfl⟩
        go_wp2
        go_loopw [6, 7] (fun s6 s7 wx => ∃ i : Nat, s6 = .string (keyB (M.take i)) ∧ s7 = .int .i64 i ∧ i ≤ L.length ∧ Frm [] wo wx) (fun _ s7 _ => L.length - (intOf s7).toNat)
        case atStart => exact ⟨0, rfl, rfl, Nat.zero_le _, Frm.refl _ _⟩
        case round =>
          obtain ⟨i2, rfl, rfl, hi2, hf2⟩ := hrel
          have HF2 := Lib.hid hf2
          by_cases hlt2 : i2 < L.length
          · obtain ⟨x, hx⟩ : ∃ x, M[i2]? = some x := ⟨_, List.getElem?_eq_getElem (by rw [HSL.out]; exact hlt2)⟩
            have hsz := HSZ.out x (List.mem_of_getElem? hx)
            have cx := hf2.keep (HKS.out.cell hx)
            have hlt2' : (i2 : Int) < (L.length : Int) := by omega
            have hwr : IntKind.u8.wrap (x.size : Int) = (x.size : Int) := wrap_small (by omega) (by omega)
            have HX := Lib.hid hx
            have hconv : (convert 63 9 (.slice (some ⟨wr.heap.size, 0, none⟩) 1 1)).run Try.prog (wr.alloc (.cells #[.int .u8 (x.size : Int)] 5)).drew = .ok (.string ⟨#[UInt8.ofNat x.size]⟩) (wr.alloc (.cells #[.int .u8 (x.size : Int)] 5)).drew := len_byte' _ _ x hsz (cell_of (heap_alloc_new wr _) 0)
            have hks1 : ¬ 9223372036854775807 < (keyB (M.take i2)).size + 1 ∧ ¬ 9223372036854775807 < (keyB (M.take i2)).size + 1 + x.size := by
              have h1 := keyB_size (M.take i2) (fun y hy => HSZ.out y (List.mem_of_mem_take hy))
              rw [List.length_take] at h1
              omega
            obtain ⟨hks1, hks2⟩ := hks1
            have cx2 : (wr.alloc (.cells #[.int .u8 (x.size : Int)] 5)).cell? ⟨g, i2, none⟩ = some (.string x) := (((Frm.refl [] wr).alloc _)).keep cx
            clear hf2 hx
            go_wp2_with fail
            go_region_law (first | fail)
            all_goals
              go_wp2_with fail
              exact ⟨⟨i2 + 1, by rw [keyB_snoc HX.out, ByteArray.append_assoc], by simp, hlt2, (HF2.out.alloc _).drew⟩, by simp [intOf]; omega⟩
          · have hge2 : ¬ (i2 : Int) < (L.length : Int) := by omega
            clear hf2
            go_wp2
            go_ret
            refine ⟨_, rfl, ?_, HKS.out.f.trans HF2.out⟩
            rw [List.take_of_length_le (by rw [HSL.out]; omega)]
            rfl
    · obtain rfl : i = L.length := by omega
      have hlt' : ¬ (L.length : Int) < (L.length : Int) := by omega
      obtain rfl : M = S := by
        by_cases h2 : cls = 2
        · rw [← HSE.out, h2]
          exact key_unique HP.out (pairwise_of (by rw [HML.out]; exact HS.out h2))
        · rw [HM.out h2, ← HSE.out, keyL, if_neg h2]
      obtain ⟨wo, rfl⟩ : ∃ wo, wo = wr := ⟨_, rfl⟩
      go_wp2
      go_loopw [6, 7] (fun s6 s7 wx => ∃ i : Nat, s6 = .string (keyB (M.take i)) ∧ s7 = .int .i64 i ∧ i ≤ L.length ∧ Frm [] wo wx) (fun _ s7 _ => L.length - (intOf s7).toNat)
      case atStart => exact ⟨0, rfl, rfl, Nat.zero_le _, Frm.refl _ _⟩
      case round =>
        obtain ⟨i2, rfl, rfl, hi2, hf2⟩ := hrel
        have HF2 := Lib.hid hf2
        by_cases hlt2 : i2 < L.length
        · obtain ⟨x, hx⟩ : ∃ x, M[i2]? = some x := ⟨_, List.getElem?_eq_getElem (by rw [HSL.out]; exact hlt2)⟩
          have hsz := HSZ.out x (List.mem_of_getElem? hx)
          have cx := hf2.keep (HKS.out.cell hx)
          have hlt2' : (i2 : Int) < (L.length : Int) := by omega
          have hwr : IntKind.u8.wrap (x.size : Int) = (x.size : Int) := wrap_small (by omega) (by omega)
          have HX := Lib.hid hx
          have hconv : (convert 63 9 (.slice (some ⟨wr.heap.size, 0, none⟩) 1 1)).run Try.prog (wr.alloc (.cells #[.int .u8 (x.size : Int)] 5)).drew = .ok (.string ⟨#[UInt8.ofNat x.size]⟩) (wr.alloc (.cells #[.int .u8 (x.size : Int)] 5)).drew := len_byte' _ _ x hsz (cell_of (heap_alloc_new wr _) 0)
          have hks1 : ¬ 9223372036854775807 < (keyB (M.take i2)).size + 1 ∧ ¬ 9223372036854775807 < (keyB (M.take i2)).size + 1 + x.size := by
            have h1 := keyB_size (M.take i2) (fun y hy => HSZ.out y (List.mem_of_mem_take hy))
            rw [List.length_take] at h1
            omega
          obtain ⟨hks1, hks2⟩ := hks1
          have cx2 : (wr.alloc (.cells #[.int .u8 (x.size : Int)] 5)).cell? ⟨g, i2, none⟩ = some (.string x) := (((Frm.refl [] wr).alloc _)).keep cx
          clear hf2 hx
          go_wp2_with fail
          go_region_law (first | fail)
          all_goals
            go_wp2_with fail
            exact ⟨⟨i2 + 1, by rw [keyB_snoc HX.out, ByteArray.append_assoc], by simp, hlt2, (HF2.out.alloc _).drew⟩, by simp [intOf]; omega⟩
        · have hge2 : ¬ (i2 : Int) < (L.length : Int) := by omega
          clear hf2
          go_wp2
          go_ret
          refine ⟨_, rfl, ?_, HKS.out.f.trans HF2.out⟩
          rw [List.take_of_length_le (by rw [HSL.out]; omega)]
          rfl
set_option maxHeartbeats 1000000 in
set_option maxRecDepth 100000 in
theorem refKey_nil (cls cap : Int) (lv : Value) (w : World) (h : Lf w lv []) :
    Calls Try.prog 41 #[.agg #[.int .i64 cls, .int .i64 cap, lv]] w (RetV fun v w' => v = .string (keyB (keyL cls [])) ∧ Frm [] w w') := by
  obtain ⟨ao, cp, rfl, hcs⟩ := h.shape
  have HL := Lib.hid h
  have e : keyB (keyL cls []) = { data := #[] } := by
    have : keyL cls [] = [] := List.length_eq_zero_iff.1 (keyL_length cls [])
    rw [this]; rfl
  rw [e]
  clear h hcs e
  simp only [List.length_nil] at HL ⊢
  go_enter Try.func41, Try.ntmps41
  go_wp2_with (first
          | (at_builtin; refine wpList_append_src rfl _ _ rfl _ rfl (alloc_top (by simp)) _ rfl 0 _ (Lf.src (L := []) (HL.out.frm (((Frm.refl [] w).alloc _).alloc _) (by simp))) (fun h => absurd h (by decide)) (by omega) ?_; intro ao1 cp1 w1 ho1 hg1; have HG1 := Lib.hid hg1; clear ho1 hg1))
  have HF : Hid (Frm [] w w1) := Lib.hid ((((Frm.refl [] w).alloc _).alloc _).grown HG1.out (by simp))
  clear HG1 HL
  go_loopw [4] (fun s4 wr => s4 = .int .i64 0 ∧ wr = w1) (fun _ _ => 0)
  case atStart => exact ⟨rfl, rfl⟩
  case round =>
    obtain ⟨rfl, rfl⟩ := hrel
    go_wp2
    go_loopw [6, 7] (fun s6 s7 wx => s6 = .string { data := #[] } ∧ s7 = .int .i64 0 ∧ wx = wr) (fun _ _ _ => 0)
    case atStart => exact ⟨rfl, rfl, rfl⟩
    case round =>
      obtain ⟨rfl, rfl, rfl⟩ := hrel
      go_wp2
      go_ret
      exact ⟨_, rfl, rfl, HF.out⟩
theorem refKey_all (cls cap : Int) (lv : Value) (L : List ByteArray) (w : World) (h : Lf w lv L) (hL : L.length ≤ 64) (hS : ∀ x ∈ L, x.size ≤ 32) :
    Calls Try.prog 41 #[.agg #[.int .i64 cls, .int .i64 cap, lv]] w (RetV fun v w' => v = .string (keyB (keyL cls L)) ∧ Frm [] w w') := by
  cases L with
  | nil => exact refKey_nil cls cap lv w h
  | cons x l => exact refKey_any cls cap lv _ w h hL hS (by simp)
end Go.Proofs.Ythelfpenccpkeaa
