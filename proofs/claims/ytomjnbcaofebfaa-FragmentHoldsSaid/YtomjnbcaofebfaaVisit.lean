/- visit: a closure is called for the parts, in order. -/
import Derived.Test.YtomjnbcaofebfaaBox
namespace Go.Proofs.Ytomjnbcaofebfaa
open Go.RowKit Go.Maps Go.BigFrame

theorem sortK_mem {α : Type} {S : List (Int × α)} {k : Int} : k ∈ sortK S ↔ k ∈ keysI S := (List.mergeSort_perm (keysI S) _).mem_iff
theorem sortK_at {α : Type} {S : List (Int × α)} {i : Nat} (h : i < S.length) : ∃ k v, (sortK S)[i]? = some k ∧ lk S k = some v := by
  have hl : i < (sortK S).length := by rw [sortK_length]; exact h
  have hm : (sortK S)[i] ∈ keysI S := sortK_mem.1 (List.getElem_mem hl)
  obtain ⟨v, hv⟩ := Option.isSome_iff_exists.1 (lk_some.2 hm)
  exact ⟨_, v, List.getElem?_eq_getElem hl, hv⟩
theorem vals_length (ps : List (Int × List UInt8)) : (vals ps).length = ps.length := by simp [vals, sortK_length]
theorem vals_at {ps : List (Int × List UInt8)} {i : Nat} {k : Int} {b : List UInt8} (h : (sortK ps)[i]? = some k) (hb : lk ps k = some b) : (vals ps)[i]? = some b := by
  simp [vals, h, hb]
theorem vals_take {ps : List (Int × List UInt8)} {i : Nat} {b : List UInt8} (h : (vals ps)[i]? = some b) : (vals ps).take (i + 1) = (vals ps).take i ++ [b] := by
  obtain ⟨hi, rfl⟩ := List.getElem?_eq_some_iff.1 h
  exact List.take_succ_eq_append_getElem hi
theorem map_lk {α : Type} [Inhabited α] : ∀ {S : List (Int × α)}, (keysI S).Nodup → ∀ d : α, (keysI S).map (fun k => (lk S k).getD d) = S.map (·.2)
  | [], _, _ => rfl
  | (k, v) :: S, h, d => by
    simp only [keysI, List.map_cons, List.nodup_cons] at h ⊢
    have ih := map_lk (S := S) h.2 d
    rw [← ih]
    congr 1
    · simp [lk]
    · refine List.map_congr_left (fun x hx => ?_)
      have : x ≠ k := fun e => h.1 (e ▸ hx)
      simp [lk, this]
theorem vals_perm {ps : List (Int × List UInt8)} (h : (keysI ps).Nodup) : (vals ps).Perm (ps.map (·.2)) := by
  have h1 := (List.mergeSort_perm (keysI ps) (fun x y => decide (x ≤ y))).map (fun k => (lk ps k).getD [])
  rw [map_lk h []] at h1
  exact h1
theorem vals_size {ps : List (Int × List UInt8)} (h : (keysI ps).Nodup) : ((vals ps).map (·.length)).sum = sizeP ps := by
  rw [((vals_perm h).map (·.length)).sum_nat, List.map_map]; rfl
theorem take_sum_le (l : List Nat) (i : Nat) : (l.take i).sum ≤ l.sum := by
  have h := congrArg List.sum (List.take_append_drop i l)
  rw [List.sum_append] at h
  omega
theorem vals_sum {ps : List (Int × List UInt8)} (hn : (keysI ps).Nodup) {i : Nat} {b : List UInt8} (h : (vals ps)[i]? = some b) : (((vals ps).take i).map (·.length)).sum + b.length ≤ sizeP ps := by
  have h1 := take_sum_le ((vals ps).map (·.length)) (i + 1)
  rw [vals_size hn, ← List.map_take, vals_take h, List.map_append, List.sum_append] at h1
  simpa using h1
theorem flat_len (l : List (List UInt8)) : l.flatten.length = (l.map (·.length)).sum := List.length_flatten
theorem Try.zero22 (w : World) : (zeroValue 22).run Try.prog w = .ok (.slice none 0 0) w := by kernel_rfl
theorem PMap.look {w : World} {mb N : Nat} {ps : List (Int × List UInt8)} (h : PMap w mb N ps) {k : Int} {b : List UInt8} (hk : lk ps k = some b) :
    ∃ ao cp, (Instr.lookup 73 (.map (some mb)) (.int .i64 k) false).run Try.prog w = .ok (.slice ao b.length cp) w ∧ OwnB w (.slice ao b.length cp) b := by
  obtain ⟨V, h1, h2⟩ := h
  obtain ⟨h3, h4, h5⟩ := h2 k b hk
  obtain ⟨ao, cp, hv⟩ := own_shape h3
  have hl := h1.look (t := k) Try.underlying73 (Try.zero22 w) (by omega) (by omega)
  rw [hk] at hl
  refine ⟨ao, cp, ?_, by rw [← hv]; exact h3⟩
  rw [hl, ← hv]; rfl
set_option maxHeartbeats 1000000 in
set_option maxRecDepth 100000 in
theorem visit34 (cnt : Int) (mb N : Nat) (ps : List (Int × List UInt8)) (nb : Nat) (c : Int) (w : World) (h : PMap w mb N ps) (hn : ps.length ≤ 255) (hb : w.heap[nb]? = some (.cells #[.int .i64 c] 3 (0, 0))) (h0 : 0 ≤ c) (h1 : c + sizeP ps ≤ 1000000000) :
    Calls Try.prog 33 #[mv cnt mb, .func (.func 34) #[] #[.pointer (some ⟨nb, 0, none⟩)]] w (Ret (.tuple #[]) (fun w' => Frm [nb] w w' ∧ w'.heap[nb]? = some (.cells #[.int .i64 (c + sizeP ps)] 3 (0, 0)))) := by
  have HP := Lib.hid h
  obtain ⟨hmb, hnb⟩ : mb < w.heap.size ∧ nb < w.heap.size := ⟨by obtain ⟨es, c, hb⟩ := h.block; exact lt_of_block hb, by exact lt_of_block hb⟩
  have CK : Hid (∀ W, Frm [] w W → Calls Try.prog 45 #[.map (some mb)] W (RetV (IntsTo W (sortK ps)))) := Lib.hid (fun W hf => by obtain ⟨V, k1, k2⟩ := h; exact keys45_any (k1.frm0 hf) (by omega))
  have HND := Lib.hid h.nodup
  have HB := Lib.hid hb
  unfold mv
  clear h
  go_enter Try.func33, Try.ntmps33
  go_wp2_with (go_at_call 45; go_must (refine (CK.out _ ((Frm.refl [] w).alloc _)).mono ?_; clear CK; rintro e w2 ⟨v, rfl, hv⟩; obtain ⟨ao, cp, rfl⟩ := own_shape hv.1; have HV := Lib.hid hv; clear hv))
  rw [sortK_length]
  have HF2 : Hid (Frm [] w w2) := Lib.hid (((Frm.refl [] w).alloc _).trans HV.out.2)
  have HBX : Hid (w2.heap[w.heap.size]? = some (.cells #[.int .i64 cnt, .map (some mb)] 75 (0, 0))) := Lib.hid (HV.out.2.at (heap_alloc_new _ _) (by simp))
  go_loopw [10] (fun s10 wr => ∃ i : Nat, s10 = .int .i64 i ∧ i ≤ ps.length ∧ Frm [nb] w2 wr ∧ wr.heap[nb]? = some (.cells #[.int .i64 (c + (((vals ps).take i).map (·.length)).sum)] 3 (0, 0))) (fun s10 _ => ps.length - (intOf s10).toNat)
  case atStart => exact ⟨0, rfl, Nat.zero_le _, Frm.refl _ _, by simpa using HF2.out.at HB.out (by simp)⟩
  case round =>
    obtain ⟨i, rfl, hi, hr⟩ := hrel
    have HR := Lib.hid hr
    clear hr
    by_cases hlt : i < ps.length
    · have hlt' : (i : Int) < (ps.length : Int) := by omega
      obtain ⟨k, b, hk, hb⟩ := sortK_at hlt
      have HVB := Lib.hid (vals_at hk hb)
      have HFR : Hid (Frm [nb] w2 wr) := Lib.hid HR.out.1
      have hsz : (sortK ps).length = ps.length := sortK_length ps
      obtain ⟨g, rfl⟩ : ∃ g, ao = some ⟨g, 0, none⟩ := by
        rcases HV.out.1.2 with ⟨e, h0⟩ | ⟨g, c, cur, e, -⟩
        · rw [hsz] at h0; omega
        · cases e; exact ⟨g, rfl⟩
      have hgb := ownBlock_ge HV.out.1 (k := g) rfl
      have cg : wr.cell? ⟨g, i, none⟩ = some (.int .i64 k) := HFR.out.cellAt (by rw [World.ownsRow.cellAt HV.out.1 i (by omega)]; simp [hk]) (by simp only [List.mem_singleton]; intro e; simp at hgb; omega)
      have hbx := HFR.out.at HBX.out (by simp only [List.mem_singleton]; omega)
      have cb0 := cell_of hbx 0
      have cb1 := cell_of hbx 1
      have hpw : PMap wr mb N ps := (HP.out.frm0 HF2.out).keep HFR.out (by simp only [List.mem_singleton]; intro e; have h1 := lt_of_block HB.out; obtain ⟨es, cl, hb1⟩ := HP.out.block; rw [e] at hb1; rw [HB.out] at hb1; cases hb1) (fun x hx c hc => by simp only [List.mem_singleton] at hx; subst hx; rw [HF2.out.at HB.out (by simp)] at hc; cases hc)
      obtain ⟨a1, c1, hlook, hob⟩ := hpw.look hb
      have HO := Lib.hid hob
      clear hpw hob hbx hk hb hsz hgb
      have HBD : Hid (0 ≤ c + (((((vals ps).take i).map (·.length)).sum : Nat) : Int) ∧ c + (((((vals ps).take i).map (·.length)).sum : Nat) : Int) + b.length ≤ 1000000000) := Lib.hid (by have h3 := vals_sum HND.out HVB.out; omega)
      go_wp2_with (go_at_call 34; go_must (refine (held1_any _ b nb _ wr HO.out HR.out.2 HBD.out.1 HBD.out.2).mono ?_; rintro e w4 ⟨rfl, rfl⟩))
      have hvt := vals_take HVB.out
      exact ⟨⟨i + 1, by simp, hlt, HR.out.1.setCell _ (.inl (by simp)) _, by rw [hvt]; refine (block_setCell HR.out.2 0 _).trans ?_; simp [Int.add_assoc]⟩, by simp [intOf]; omega⟩
    · obtain rfl : i = ps.length := by omega
      have hge : ¬ (ps.length : Int) < (ps.length : Int) := by omega
      go_wp2
      go_end0
      have hvt : (vals ps).take ps.length = vals ps := List.take_of_length_le (by rw [vals_length]; exact Nat.le_refl _)
      exact ⟨rfl, (HF2.out.mono (by simp)).trans HR.out.1, by have := HR.out.2; rw [hvt, vals_size HND.out] at this; exact this⟩
set_option maxHeartbeats 1000000 in
set_option maxRecDepth 100000 in
theorem visit42 (cnt : Int) (mb N : Nat) (ps : List (Int × List UInt8)) (nb : Nat)  (w : World) (h : PMap w mb N ps) (hn : ps.length ≤ 255) (hb : w.heap[nb]? = some (.cells #[.slice none 0 0] 22 (0, 0))) (h1 : sizeP ps ≤ 2000000) :
    Calls Try.prog 33 #[mv cnt mb, .func (.func 42) #[] #[.pointer (some ⟨nb, 0, none⟩)]] w (Ret (.tuple #[]) (fun w' => WI w nb w.heap.size (vals ps).flatten w')) := by
  have HP := Lib.hid h
  obtain ⟨hmb, hnb⟩ : mb < w.heap.size ∧ nb < w.heap.size := ⟨by obtain ⟨es, c, hb⟩ := h.block; exact lt_of_block hb, by exact lt_of_block hb⟩
  have CK : Hid (∀ W, Frm [] w W → Calls Try.prog 45 #[.map (some mb)] W (RetV (IntsTo W (sortK ps)))) := Lib.hid (fun W hf => by obtain ⟨V, k1, k2⟩ := h; exact keys45_any (k1.frm0 hf) (by omega))
  have HND := Lib.hid h.nodup
  have HB := Lib.hid hb
  unfold mv
  clear h
  go_enter Try.func33, Try.ntmps33
  go_wp2_with (go_at_call 45; go_must (refine (CK.out _ ((Frm.refl [] w).alloc _)).mono ?_; clear CK; rintro e w2 ⟨v, rfl, hv⟩; obtain ⟨ao, cp, rfl⟩ := own_shape hv.1; have HV := Lib.hid hv; clear hv))
  rw [sortK_length]
  have HF2 : Hid (Frm [] w w2) := Lib.hid (((Frm.refl [] w).alloc _).trans HV.out.2)
  have HBX : Hid (w2.heap[w.heap.size]? = some (.cells #[.int .i64 cnt, .map (some mb)] 75 (0, 0))) := Lib.hid (HV.out.2.at (heap_alloc_new _ _) (by simp))
  go_loopw [10] (fun s10 wr => ∃ i : Nat, s10 = .int .i64 i ∧ i ≤ ps.length ∧ WI w2 nb w2.heap.size ((vals ps).take i).flatten wr) (fun s10 _ => ps.length - (intOf s10).toNat)
  case atStart => exact ⟨0, rfl, Nat.zero_le _, ⟨_, HF2.out.at HB.out (by simp), World.ownsRow_nil _ _ _ _, Frm.refl _ _⟩⟩
  case round =>
    obtain ⟨i, rfl, hi, hr⟩ := hrel
    have HR := Lib.hid hr
    clear hr
    by_cases hlt : i < ps.length
    · have hlt' : (i : Int) < (ps.length : Int) := by omega
      obtain ⟨k, b, hk, hb⟩ := sortK_at hlt
      have HVB := Lib.hid (vals_at hk hb)
      have HFR : Hid (Frm [nb] w2 wr) := Lib.hid (by obtain ⟨v, q1, q2, q3⟩ := HR.out; exact q3)
      have hsz : (sortK ps).length = ps.length := sortK_length ps
      obtain ⟨g, rfl⟩ : ∃ g, ao = some ⟨g, 0, none⟩ := by
        rcases HV.out.1.2 with ⟨e, h0⟩ | ⟨g, c, cur, e, -⟩
        · rw [hsz] at h0; omega
        · cases e; exact ⟨g, rfl⟩
      have hgb := ownBlock_ge HV.out.1 (k := g) rfl
      have cg : wr.cell? ⟨g, i, none⟩ = some (.int .i64 k) := HFR.out.cellAt (by rw [World.ownsRow.cellAt HV.out.1 i (by omega)]; simp [hk]) (by simp only [List.mem_singleton]; intro e; simp at hgb; omega)
      have hbx := HFR.out.at HBX.out (by simp only [List.mem_singleton]; omega)
      have cb0 := cell_of hbx 0
      have cb1 := cell_of hbx 1
      have hpw : PMap wr mb N ps := (HP.out.frm0 HF2.out).keep HFR.out (by simp only [List.mem_singleton]; intro e; obtain ⟨es, cl, hb1⟩ := HP.out.block; rw [e] at hb1; rw [HB.out] at hb1; cases hb1) (fun x hx c hc => by simp only [List.mem_singleton] at hx; subst hx; rw [HF2.out.at HB.out (by simp)] at hc; cases hc)
      obtain ⟨a1, c1, hlook, hob⟩ := hpw.look hb
      have HO := Lib.hid hob
      clear hpw hob hbx hk hb hsz hgb
      have HBD : Hid (nb < w2.heap.size ∧ ((vals ps).take i).flatten.length + b.length ≤ 4000000) := Lib.hid (by have h3 := vals_sum HND.out HVB.out; have h4 := HF2.out.size; rw [flat_len]; omega)
      go_wp2_with (go_at_call 42; go_must (refine (add1_any _ b ((vals ps).take i).flatten nb w2.heap.size w2 wr HO.out HR.out (Nat.le_refl _) HBD.out.1 HBD.out.2 HFR.out.size).mono ?_; rintro e w4 ⟨rfl, hw4⟩; have HW4 := Lib.hid hw4; clear hw4))
      have hvt := vals_take HVB.out
      exact ⟨⟨i + 1, by simp, hlt, by rw [hvt, List.flatten_append]; simpa using HW4.out⟩, by simp [intOf]; omega⟩
    · obtain rfl : i = ps.length := by omega
      have hge : ¬ (ps.length : Int) < (ps.length : Int) := by omega
      go_wp2
      go_end0
      have hvt : (vals ps).take ps.length = vals ps := List.take_of_length_le (by rw [vals_length]; exact Nat.le_refl _)
      refine ⟨rfl, ?_⟩
      have hw := HR.out
      rw [hvt] at hw
      obtain ⟨v, q1, q2, q3⟩ := hw
      exact ⟨v, q1, own_low q2 HF2.out.size, (HF2.out.mono (by simp)).trans q3⟩
end Go.Proofs.Ytomjnbcaofebfaa
