/- The channel's Choices and Key. -/
import Derived.Test.YthelfpenccpkeaaTake
import Derived.Shelf.SortM.Plain
import Derived.Shelf.SortM.SortNone
import Derived.Laws.IdiomStrings
namespace Go.Proofs.Ythelfpenccpkeaa
open Go.RowKit Go.BigFrame Go.Sort

/-- what Key sorts -/
def keyL (cls : Int) (L : List ByteArray) : List ByteArray := if cls = 2 then ((L.map byt).mergeSort fun x y => decide (x ≤ y)).map fun l => ⟨l.toArray⟩ else L
theorem sort_any (v : Value) (L : List ByteArray) (w : World) (h : Strs w v L) (hL : L.length ≤ 1000000) :
    Calls Try.prog 26 #[v] w (Ret (.tuple #[]) (fun w' => Strs w' v (keyL 2 L) ∧ Frm v.ownBlock.toList w w')) := by
  obtain ⟨ao, cap, rfl, hn, hc⟩ := h.shape
  have hlen : (keyL 2 L).length = L.length := by simp [keyL]
  cases L with
  | nil =>
    refine (AnyM.slices_Sort_string_none Try.sortS ao cap w).mono ?_
    rintro e w' ⟨rfl, rfl⟩
    exact ⟨rfl, by simpa [keyL] using h, Frm.refl _ _⟩
  | cons x xs =>
    obtain ⟨g, rfl, -⟩ := hc 0 x rfl
    obtain ⟨hH, q1, q2, cur, hh, q3⟩ := h.holds
    have hd := AnyM.slices_Sort_string Try.sortS g 0 cap ((x :: xs).map byt) w hH (lt_of_block hh) (by rw [List.length_map]; omega)
    rw [List.length_map] at hd
    refine (show Calls Try.prog 26 _ w _ from hd).mono ?_
    rintro e w' ⟨rfl, q, os, rfl⟩
    refine ⟨rfl, ?_, ?_⟩
    · have ho := ownsRow_sorted (w := w) (base := 0) (g := g) (cap := cap) (n := q) (e := 9) (os := os) (cur := cur) (ss := (x :: xs).map byt) (ts := ((x :: xs).map byt).mergeSort fun x y => decide (x ≤ y)) (by simp) (Nat.zero_le _) hh (by simpa using q1) q2 q3
      rw [List.length_map] at ho
      have e1 : (keyL 2 (x :: xs)).map Value.string = (((x :: xs).map byt).mergeSort fun x y => decide (x ≤ y)).map encStr := by rw [keyL, if_pos rfl, List.map_map]; rfl
      unfold Strs
      rw [hlen, e1]
      exact ho
    · exact (Frm.refl _ _).grown (grownBy_sorted _) (fun k hk => by cases hk; exact .inl (by simp [Value.ownBlock]))
theorem keyL_length (cls : Int) (L : List ByteArray) : (keyL cls L).length = L.length := by unfold keyL; split <;> simp
theorem keyL_perm (L : List ByteArray) : (keyL 2 L).Perm L := by
  rw [keyL, if_pos rfl]
  have h := (List.mergeSort_perm (L.map byt) fun x y => decide (x ≤ y)).map fun l : List UInt8 => (⟨l.toArray⟩ : ByteArray)
  rw [List.map_map] at h
  have e : (fun l : List UInt8 => (⟨l.toArray⟩ : ByteArray)) ∘ byt = id := by funext b; rfl
  rw [e, List.map_id] at h
  exact h
theorem keyL_mem {cls : Int} {L : List ByteArray} {x : ByteArray} (h : x ∈ keyL cls L) : x ∈ L := by
  rcases Decidable.em (cls = 2) with hz | hz
  · subst hz; exact (keyL_perm L).mem_iff.1 h
  · rwa [keyL, if_neg hz] at h
theorem wrap_small {x : Int} (h0 : 0 ≤ x) (h1 : x ≤ 255) : IntKind.u8.wrap x = x := by simp [IntKind.wrap, show IntKind.u8.bits = 8 from rfl, show IntKind.u8.signed = false from rfl]; omega
/-- a key of these messages -/
def keyB : List ByteArray → ByteArray
  | [] => { data := #[] }
  | m :: L => (({ data := #[UInt8.ofNat m.size] } : ByteArray) ++ m) ++ keyB L
theorem keyB_append : ∀ A B : List ByteArray, keyB (A ++ B) = keyB A ++ keyB B
  | [], B => by
    show keyB B = (⟨#[]⟩ : ByteArray) ++ keyB B
    exact (ByteArray.empty_append).symm
  | a :: A, B => by
    show (_ ++ a) ++ keyB (A ++ B) = ((_ ++ a) ++ keyB A) ++ keyB B
    rw [keyB_append A B, ByteArray.append_assoc, ByteArray.append_assoc, ByteArray.append_assoc]
theorem keyB_snoc {S : List ByteArray} {i : Nat} {x : ByteArray} (h : S[i]? = some x) : keyB (S.take (i + 1)) = keyB (S.take i) ++ (({ data := #[UInt8.ofNat x.size] } : ByteArray) ++ x) := by
  have hi := lt_of_some h
  have e : S[i] = x := by rw [List.getElem?_eq_getElem hi] at h; exact Option.some.inj h
  rw [List.take_succ_eq_append_getElem hi, keyB_append, e]
  congr 1
  exact ByteArray.append_empty
theorem keyB_size : ∀ A : List ByteArray, (∀ x ∈ A, x.size ≤ 32) → (keyB A).size ≤ 33 * A.length
  | [], _ => Nat.le_refl _
  | a :: A, h => by
    have h1 := keyB_size A (fun x hx => h x (by simp [hx]))
    have h2 := h a (by simp)
    show ((_ ++ a) ++ keyB A).size ≤ _
    rw [ByteArray.size_append, ByteArray.size_append, List.length_cons]
    have h3 : ({ data := #[UInt8.ofNat a.size] } : ByteArray).size = 1 := rfl
    omega
theorem len_byte (w : World) (x : ByteArray) (h : x.size ≤ 32) : (convert 63 9 (.slice (some ⟨w.heap.size, 0, none⟩) 1 1)).run Try.prog (w.alloc (.cells #[.int .u8 (x.size : Int)] 5)) = .ok (.string ⟨#[UInt8.ofNat x.size]⟩) (w.alloc (.cells #[.int .u8 (x.size : Int)] 5)) :=
  run_convert_bytes_back _ 63 9 5 ⟨w.heap.size, 0, none⟩ 1 [UInt8.ofNat x.size] Try.underlying63 Try.underlying5 Try.underlying9 (fun j hj => by
    have h0 : j = 0 := by simpa using hj
    subst h0
    have e : ((UInt8.ofNat x.size).toNat : Int) = (x.size : Int) := by simp; omega
    show (w.alloc _).cell? ⟨w.heap.size, 0 + 0, none⟩ = some (.int .u8 ((UInt8.ofNat x.size).toNat : Int))
    rw [e]
    exact cell_of (heap_alloc_new w _) 0)
set_option maxHeartbeats 1000000 in
set_option maxRecDepth 100000 in
theorem key_any (cb : Nat) (cls cap : Int) (L : List ByteArray) (F : List Nat) (w : World) (h : Chn w cb cls cap L F) :
    Calls Try.prog 12 #[.pointer (some ⟨cb, 0, none⟩)] w (Ret (.string (keyB (keyL cls L))) (Frm [] w)) := by
  have HG := Lib.hid h.good
  have hg := h.good.lenN
  have HC := Lib.hid h
  have CA := Lib.hid (all_any h)
  clear h
  have HSL : Hid ((keyL cls L).length = L.length) := Lib.hid (keyL_length cls L)
  have HSZ : Hid (∀ x ∈ keyL cls L, 1 ≤ x.size ∧ x.size ≤ 32) := Lib.hid (fun x hx => HG.out.sz x (keyL_mem hx))
  by_cases hz : cls = 2
  · subst hz
    obtain ⟨S, hS⟩ : ∃ S, keyL 2 L = S := ⟨_, rfl⟩
    rw [hS] at HSL HSZ ⊢
    go_enter Try.func12, Try.ntmps12
    go_wp2_with (first
      | (go_at_call 23; go_must (refine CA.out.mono ?_; rintro e w1 ⟨v, rfl, hr⟩; obtain ⟨ao, cp, rfl, -, -⟩ := hr.1.shape; have HR := Lib.hid hr; clear hr))
      | (go_at_call 25; go_must (refine (none_any cb 2 cap L F w1 (HC.out.frm HR.out.2.1 (by simp))).mono ?_; rintro e w' ⟨rfl, rfl⟩; obtain ⟨sv, e1, -, -, -⟩ := HC.out; have c0 := HR.out.2.1.keep (cell_of e1 0); clear e1))
      | (go_at_call 26; go_must (refine (sort_any _ L w1 HR.out.1 (by omega)).mono ?_; rintro e w2 ⟨rfl, hs⟩; have HS := Lib.hid hs; clear hs)))
    rw [hS] at HS
    clear hS
    have HST : Hid (Strs w2 (.slice ao L.length cp) S) := Lib.hid HS.out.1
    have HWW : Hid (Frm [] w w2) := Lib.hid ((HR.out.2.1).then HS.out.2 (fun x hx => .inr (HR.out.2.2 x (by simpa using hx))))
    go_loopw [2, 22] (fun s2 s22 wr => ∃ i : Nat, s2 = .string (keyB (S.take i)) ∧ s22 = .int .i64 i ∧ i ≤ L.length ∧ Frm [] w2 wr) (fun _ s22 _ => L.length - (intOf s22).toNat)
    case atStart => exact ⟨0, rfl, rfl, Nat.zero_le _, Frm.refl _ _⟩
    case round =>
      obtain ⟨i, rfl, rfl, hi, hf⟩ := hrel
      have HF := Lib.hid hf
      by_cases hlt : i < L.length
      · obtain ⟨x, hx⟩ : ∃ x, S[i]? = some x := ⟨_, List.getElem?_eq_getElem (by rw [HSL.out]; exact hlt)⟩
        have hsz := HSZ.out x (List.mem_of_getElem? hx)
        obtain ⟨ao', cp', hv, -, hcs⟩ := HST.out.shape
        rw [HSL.out] at hv; cases hv
        obtain ⟨g, rfl, cx0⟩ := hcs i x hx
        have cx := hf.keep cx0
        have hlt' : (i : Int) < (L.length : Int) := by omega
        have hwr : IntKind.u8.wrap (x.size : Int) = (x.size : Int) := wrap_small (by omega) (by omega)
        have HX := Lib.hid hx
        have hconv : (convert 63 9 (.slice (some ⟨wr.heap.size, 0, none⟩) 1 1)).run Try.prog (wr.alloc (.cells #[.int .u8 (x.size : Int)] 5)) = .ok (.string ⟨#[UInt8.ofNat x.size]⟩) (wr.alloc (.cells #[.int .u8 (x.size : Int)] 5)) := len_byte wr x hsz.2
        have hks : (keyB (S.take i)).size ≤ 3000 := by
          have h1 := keyB_size (S.take i) (fun y hy => (HSZ.out y (List.mem_of_mem_take hy)).2)
          rw [List.length_take] at h1
          omega
        clear hcs cx0 hf hx
        go_wp2_with fail
        exact ⟨⟨i + 1, by rw [keyB_snoc HX.out], by simp, hlt, HF.out.alloc _⟩, by simp [intOf]; omega⟩
      · have hge : ¬ (i : Int) < (L.length : Int) := by omega
        clear hf
        go_wp2
        go_ret
        refine ⟨?_, HWW.out.trans HF.out⟩
        rw [List.take_of_length_le (by rw [HSL.out]; omega)]
        rfl
  · have hne : (cls == 2) = false := by simpa using hz
    obtain ⟨S, hS⟩ : ∃ S, keyL cls L = S := ⟨_, rfl⟩
    have HSE : Hid (S = L) := Lib.hid (hS.symm.trans (if_neg hz))
    rw [hS] at HSL HSZ ⊢
    clear hS
    go_enter Try.func12, Try.ntmps12
    go_wp2_with (first
      | (go_at_call 23; go_must (refine CA.out.mono ?_; rintro e w1 ⟨v, rfl, hr⟩; obtain ⟨ao, cp, rfl, -, -⟩ := hr.1.shape; have HR := Lib.hid hr; clear hr))
      | (go_at_call 25; go_must (refine (none_any cb cls cap L F w1 (HC.out.frm HR.out.2.1 (by simp))).mono ?_; rintro e w' ⟨rfl, rfl⟩; obtain ⟨sv, e1, -, -, -⟩ := HC.out; have c0 := HR.out.2.1.keep (cell_of e1 0); clear e1)))
    have HST : Hid (Strs w1 (.slice ao L.length cp) S) := Lib.hid (by rw [HSE.out]; exact HR.out.1)
    have HWW : Hid (Frm [] w w1) := Lib.hid HR.out.2.1
    go_loopw [2, 22] (fun s2 s22 wr => ∃ i : Nat, s2 = .string (keyB (S.take i)) ∧ s22 = .int .i64 i ∧ i ≤ L.length ∧ Frm [] w1 wr) (fun _ s22 _ => L.length - (intOf s22).toNat)
    case atStart => exact ⟨0, rfl, rfl, Nat.zero_le _, Frm.refl _ _⟩
    case round =>
      obtain ⟨i, rfl, rfl, hi, hf⟩ := hrel
      have HF := Lib.hid hf
      by_cases hlt : i < L.length
      · obtain ⟨x, hx⟩ : ∃ x, S[i]? = some x := ⟨_, List.getElem?_eq_getElem (by rw [HSL.out]; exact hlt)⟩
        have hsz := HSZ.out x (List.mem_of_getElem? hx)
        obtain ⟨ao', cp', hv, -, hcs⟩ := HST.out.shape
        rw [HSL.out] at hv; cases hv
        obtain ⟨g, rfl, cx0⟩ := hcs i x hx
        have cx := hf.keep cx0
        have hlt' : (i : Int) < (L.length : Int) := by omega
        have hwr : IntKind.u8.wrap (x.size : Int) = (x.size : Int) := wrap_small (by omega) (by omega)
        have HX := Lib.hid hx
        have hconv : (convert 63 9 (.slice (some ⟨wr.heap.size, 0, none⟩) 1 1)).run Try.prog (wr.alloc (.cells #[.int .u8 (x.size : Int)] 5)) = .ok (.string ⟨#[UInt8.ofNat x.size]⟩) (wr.alloc (.cells #[.int .u8 (x.size : Int)] 5)) := len_byte wr x hsz.2
        have hks : (keyB (S.take i)).size ≤ 3000 := by
          have h1 := keyB_size (S.take i) (fun y hy => (HSZ.out y (List.mem_of_mem_take hy)).2)
          rw [List.length_take] at h1
          omega
        clear hcs cx0 hf hx
        go_wp2_with fail
        exact ⟨⟨i + 1, by rw [keyB_snoc HX.out], by simp, hlt, HF.out.alloc _⟩, by simp [intOf]; omega⟩
      · have hge : ¬ (i : Int) < (L.length : Int) := by omega
        clear hf
        go_wp2
        go_ret
        refine ⟨?_, HWW.out.trans HF.out⟩
        rw [List.take_of_length_le (by rw [HSL.out]; omega)]
        rfl
end Go.Proofs.Ythelfpenccpkeaa
