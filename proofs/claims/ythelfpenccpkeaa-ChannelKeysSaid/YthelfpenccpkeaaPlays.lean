/- ChannelPlays: the loop over the calls. -/
import Derived.Test.YthelfpenccpkeaaFew
import Derived.Test.YthelfpenccpkeaaDo
import Derived.Deep.RegionHeld
namespace Go.Proofs.Ythelfpenccpkeaa
open Go.RowKit Go.BigFrame
/-- the cells of call i -/
def ActC (b o i : Nat) (what : Int) (ms : ByteArray) (pl : Int) (w : World) : Prop :=
  w.cell? ⟨b, o + i * 3, none⟩ = some (.int .i64 what) ∧ w.cell? ⟨b, o + i * 3 + 1, none⟩ = some (.string ms) ∧ w.cell? ⟨b, o + i * 3 + 2, none⟩ = some (.int .i64 pl)
theorem cell_lt {w : World} {b o : Nat} {v : Value} (h : w.cell? ⟨b, o, none⟩ = some v) : b < w.heap.size := by
  rcases Nat.lt_or_ge b w.heap.size with h1 | h1
  · exact h1
  · simp [World.cell?, Array.getElem?_eq_none h1] at h
/-- behind i rounds -/
def PI (w : World) (cls cap : Int) (rb : Nat) (_ : Nat) (s7 : Value) (wr : World) : Prop :=
  ∃ cb lv L F, s7 = .pointer (some ⟨cb, 0, none⟩) ∧ OS w cb cls cap lv L L F wr ∧ wr.heap[rb]? = some (.cells #[.int .i64 cls, .int .i64 cap, lv] 48 (0, 0))
theorem PI.mk0 {w w1 w2 w3 : World} {cls cap : Int} (h1 : Frm [] w w1) (h2 : Frm [] w1 w2 ∧ Chn w2 w1.heap.size cls cap [] [w1.heap.size]) (h3 : Frm [] w2 w3) :
    PI w cls cap w3.heap.size 0 (.pointer (some ⟨w1.heap.size, 0, none⟩)) (w3.alloc (.cells #[.int .i64 cls, .int .i64 cap, .slice none 0 0] 48)) := by
  have hs := h1.size
  exact ⟨w1.heap.size, _, [], [w1.heap.size], rfl, ⟨h2.2.frm (h3.alloc _) (by simp), .inl (World.ownsRow_nil _ _ _ _), by simp [Value.ownBlock], fun x hx => by simp at hx; subst hx; exact hs, ((h1.trans h2.1).trans h3).alloc _⟩, alloc_top rfl⟩
set_option maxHeartbeats 2000000 in
set_option maxRecDepth 100000 in
theorem plays_bad (cls cap : Int) (ao : Option Addr) (n cp : Nat) (w : World) (h : Acts w ao n) (hc : okC cls cap = false) :
    Calls Try.prog 5 #[.int .i64 cls, .int .i64 cap, .slice ao n cp] w (Ret (.bool true) (Frm [] w)) := by
  have CF := Lib.hid (few_any ao n cp w h)
  have CN := Lib.hid (fun w => new_bad cls cap w hc)
  have CR := Lib.hid (fun w => refNew_bad cls cap w hc)
  clear h hc
  go_enter Try.func5, Try.ntmps5
  go_wp2_with (first
    | (go_at_call 16; go_must (refine CF.out.mono ?_; rintro e w1 ⟨v, rfl, b, rfl, hb, hf⟩; have HB := Lib.hid hb; have HF := Lib.hid hf; clear hb hf))
    | (go_at_call 8; go_must (refine (known_any _).mono ?_; rintro e w9 ⟨rfl, hf⟩; have HK := Lib.hid hf; clear hf))
    | (go_at_call 9; go_must (refine (CN.out _).mono ?_; rintro e w' ⟨rfl, rfl⟩))
    | (go_at_call 20; go_must (refine (CR.out _).mono ?_; rintro e w3 ⟨rfl, hf⟩; have HR := Lib.hid hf; clear hf))
    | (go_at_call 10; go_must (refine (num_any _ _).mono ?_; rintro e w' ⟨rfl, rfl⟩)))
  · go_ret
    exact ⟨rfl, HF.out.trans HK.out⟩
  · have HW : Hid (Frm [] w w3) := Lib.hid (HF.out.trans HR.out)
    clear CF CN CR HB HF HR
    go_loopw [11, 12] (fun s11 s12 wr => s11 = .bool true ∧ s12 = .int .i64 0 ∧ Frm [] w wr) (fun _ _ _ => 0)
    case atStart => exact ⟨rfl, rfl, HW.out.alloc _⟩
    case round =>
      clear HW
      obtain ⟨rfl, rfl, hf⟩ := hrel
      have HR := Lib.hid hf
      clear hf
      by_cases hn : 0 < n
      · have hn' : (0 : Int) < (n : Int) := by omega
        go_wp2_with (first | (go_at_call 8; go_must (refine (known_any _).mono ?_; rintro e w9 ⟨rfl, hf⟩; have HK := Lib.hid hf; clear hf)))
        go_ret
        exact ⟨rfl, HR.out.trans HK.out⟩
      · have hn' : ¬ (0 : Int) < (n : Int) := by omega
        go_wp2_with (first | (go_at_call 8; go_must (refine (known_any _).mono ?_; rintro e w9 ⟨rfl, hf⟩; have HK := Lib.hid hf; clear hf)))
        go_ret
        exact ⟨rfl, HR.out.trans HK.out⟩
set_option maxHeartbeats 2000000 in
set_option maxRecDepth 100000 in
theorem plays_any (cls cap : Int) (ao : Option Addr) (n cp : Nat) (w : World) (h : Acts w ao n) :
    Calls Try.prog 5 #[.int .i64 cls, .int .i64 cap, .slice ao n cp] w (Ret (.bool true) (Frm [] w)) := by
  cases hc : okC cls cap with
  | false => exact plays_bad cls cap ao n cp w h hc
  | true =>
    have HA := Lib.hid h
    have CF := Lib.hid (few_any ao n cp w h)
    have CN := Lib.hid (fun w => new_ok cls cap w hc)
    have CR := Lib.hid (fun w => refNew_ok cls cap w hc)
    clear h hc
    go_enter Try.func5, Try.ntmps5
    go_wp2_with (first
      | (go_at_call 16; go_must (refine CF.out.mono ?_; rintro e w1 ⟨v, rfl, b, rfl, hb, hf⟩; have HB := Lib.hid hb; have HF := Lib.hid hf; clear hb hf))
      | (go_at_call 8; go_must (refine (known_any _).mono ?_; rintro e w9 ⟨rfl, hf⟩; have HK := Lib.hid hf; clear hf))
      | (go_at_call 9; go_must (refine (CN.out _).mono ?_; rintro e w2 ⟨rfl, hr⟩; have HN := Lib.hid hr; clear hr))
      | (go_at_call 20; go_must (refine (CR.out _).mono ?_; rintro e w3 ⟨rfl, hf⟩; have HR := Lib.hid hf; clear hf))
      | (go_at_call 10; go_must (refine (num_any _ _).mono ?_; rintro e w' ⟨rfl, rfl⟩)))
    · go_ret
      exact ⟨rfl, HF.out.trans HK.out⟩
    · have HP : Hid (PI w cls cap w3.heap.size 0 (.pointer (some ⟨w1.heap.size, 0, none⟩)) (w3.alloc (.cells #[.int .i64 cls, .int .i64 cap, .slice none 0 0] 48))) := Lib.hid (PI.mk0 HF.out HN.out HR.out)
      have HW3 : Hid (w.heap.size ≤ w3.heap.size) := Lib.hid ((HF.out.trans HN.out.1).trans HR.out).size
      have hn80 : n ≤ 80 := HB.out (by simpa using ‹(!b) = false›)
      clear CF CN CR HB HF HR HN
      go_loopw [7, 11, 12] (fun s7 s11 s12 wr => s11 = .bool true ∧ ∃ i : Nat, s12 = .int .i64 i ∧ i ≤ n ∧ PI w cls cap w3.heap.size i s7 wr) (fun _ _ s12 _ => n - (intOf s12).toNat)
      case atStart => exact ⟨rfl, 0, rfl, Nat.zero_le _, HP.out⟩
      case round =>
        clear HP
        obtain ⟨rfl, i, rfl, hi, cb, lv, L, F, rfl, ho, hb⟩ := hrel
        obtain ⟨ao2, cp2, rfl, -⟩ := ho.l.shape
        have HO := Lib.hid ho; have HB := Lib.hid hb
        clear hb ho
        by_cases hin : i < n
        · have hin' : (i : Int) < (n : Int) := by omega
          obtain ⟨ab, o, what, ms, pl, rfl, e0, e1, e2⟩ := HA.out i hin
          have HSK : Hid (∀ W', Frm [] wr W' → W'.cell? ⟨w3.heap.size, 0, none⟩ = some (.int .i64 cls) ∧ W'.cell? ⟨w3.heap.size, 1, none⟩ = some (.int .i64 cap) ∧ W'.cell? ⟨w3.heap.size, 2, none⟩ = some (.slice ao2 L.length cp2) ∧
              ActC ab o i what ms pl W') := Lib.hid fun W' hf => by
            have h := cell_of (hf.at HB.out (by simp))
            exact ⟨h 0, h 1, h 2, hf.keep (HO.out.o.keep e0), hf.keep (HO.out.o.keep e1), hf.keep (HO.out.o.keep e2)⟩
          have HE : Hid (∀ w5, Frm [] w w5 → ∀ W', Frm [w3.heap.size] w5 W' → ActC ab o i what ms pl W') := Lib.hid fun w5 h5 W' hf => by
            have hlt : ab < w3.heap.size := Nat.lt_of_lt_of_le (cell_lt e0) HW3.out
            exact ⟨hf.cellAt (h5.keep e0) (by simp; omega), hf.cellAt (h5.keep e1) (by simp; omega), hf.cellAt (h5.keep e2) (by simp; omega)⟩
          have r0 := (HSK.out wr (Frm.refl _ _)).1
          have r1 := (HSK.out wr (Frm.refl _ _)).2.1
          have r2 := (HSK.out wr (Frm.refl _ _)).2.2.1
          clear e0 e1 e2
          go_wp2
          have HS : Hid (ActC ab o i what ms pl wr.drew) := Lib.hid (HSK.out _ ((Frm.refl [] wr).drew)).2.2.2
          refine wp_region_held_drew (S := ActC ab o i what ms pl) (by kernel_rfl) HS.out (fun _ => ?_)
          refine wpAnyH_take (i := 0) (v := .pointer (some ⟨cb, 0, none⟩)) rfl (by kernel_rfl) (by kernel_rfl) (by kernel_rfl) (fun _ _ _ h => h) (Or.inl ⟨by rfl, fun w' hS => ?_⟩) HS.out ?_
          · go_simp
          try simp only [Act.put, List.setIfInBounds_toArray, List.set_cons_zero, List.set_cons_succ, List.getElem_toArray, List.getElem_cons_zero]
          refine wpAnyH_take (i := 2) (v := .slice (some ⟨ab, o, none⟩) n cp) rfl (by kernel_rfl) (by kernel_rfl) (by kernel_rfl) (fun _ _ _ h => h) (Or.inl ⟨by rfl, fun w' hS => ?_⟩) HS.out ?_
          · go_simp
          try simp only [Act.put, List.setIfInBounds_toArray, List.set_cons_zero, List.set_cons_succ, List.getElem_toArray, List.getElem_cons_zero, List.getElem_cons_succ]
          refine wpAnyH_take (i := 3) (v := .int .i64 i) rfl (by kernel_rfl) (by kernel_rfl) (by kernel_rfl) (fun _ _ _ h => h) (Or.inl ⟨by rfl, fun w' hS => ?_⟩) HS.out ?_
          · go_simp
          try simp only [Act.put, List.setIfInBounds_toArray, List.set_cons_zero, List.set_cons_succ, List.getElem_toArray, List.getElem_cons_zero, List.getElem_cons_succ]
          refine wpAnyH_take (i := 4) (v := .pointer (some ⟨ab, o + i * 3, none⟩)) rfl (by kernel_rfl) (by kernel_rfl) (by kernel_rfl) (fun _ _ _ h => h) (Or.inl ⟨by rfl, fun w' hS => ?_⟩) HS.out ?_
          · go_simp
          try simp only [Act.put, List.setIfInBounds_toArray, List.set_cons_zero, List.set_cons_succ, List.getElem_toArray, List.getElem_cons_zero, List.getElem_cons_succ]
          refine wpAnyH_take (i := 5) (v := .agg #[.int .i64 what, .string ms, .int .i64 pl]) rfl (by kernel_rfl) (by kernel_rfl) (by kernel_rfl) (fun _ _ _ h => h) (Or.inl ⟨by rfl, fun w' hS => ?_⟩) HS.out ?_
          · obtain ⟨e0, e1, e2⟩ := hS
            go_simp
          try simp only [Act.put, List.setIfInBounds_toArray, List.set_cons_zero, List.set_cons_succ, List.getElem_toArray, List.getElem_cons_zero, List.getElem_cons_succ]
          refine wpAnyH_ready (rs := [1]) (by kernel_rfl) (by simp) (AllReadyH.cons rfl (fun K hK => ?_) AllReadyH.nil)
          go_simp
          refine hK.out _ _ HS.out (fun _ => ?_)
          clear hK K
          try simp only [Act.put, List.setIfInBounds_toArray, List.set_cons_zero, List.set_cons_succ, List.getElem_toArray, List.getElem_cons_zero, List.getElem_cons_succ]
          refine wpAnyH_ready (rs := [6]) (by kernel_rfl) (by simp) (AllReadyH.cons rfl (fun K hK => ?_) AllReadyH.nil)
          go_simp
          refine (do_any w cb cls cap _ L F what ms pl wr.drew (HO.out.frm ((Frm.refl [] wr).drew))).mono ?_
          rintro e w5 ⟨v, rfl, cb', lv', L', F', rfl, ho', hk⟩
          obtain ⟨ao3, cp3, rfl, -⟩ := ho'.l.shape
          have HO5 := Lib.hid ho'
          have hz := hk _ _ (show wr.drew.heap[w3.heap.size]? = some (.cells #[.int .i64 cls, .int .i64 cap, .slice ao2 L.length cp2] 48 (0, 0)) from HB.out)
          have HB5 := Lib.hid hz
          have z0 := cell_of hz 0
          have z1 := cell_of hz 1
          have z2 := cell_of hz 2
          have f0 := free_of hz 0
          have f1 := free_of hz 1
          have f2 := free_of hz 2
          have HA5 : Hid (∀ W', Frm [w3.heap.size] w5 W' → ActC ab o i what ms pl W') := Lib.hid (HE.out w5 ho'.o)
          clear ho' hk hz HS
          have HS := Lib.hid (HA5.out w5 (Frm.refl _ _))
          refine hK.out _ _ HS.out (fun _ => ?_)
          clear hK K
          try simp only [Act.put, List.setIfInBounds_toArray, List.set_cons_zero, List.set_cons_succ, List.getElem_toArray, List.getElem_cons_zero, List.getElem_cons_succ]
          refine wpAnyH_take (i := 7) (v := .tuple #[.pointer (some ⟨cb', 0, none⟩), .agg #[.int .i64 cls, .int .i64 cap, .slice ao3 L'.length cp3], .bool true]) rfl (by kernel_rfl) (by kernel_rfl) (by kernel_rfl) (fun _ _ _ h => h) (Or.inl ⟨by rfl, fun w' hS => ?_⟩) HS.out ?_
          · go_simp
          try simp only [Act.put, List.setIfInBounds_toArray, List.set_cons_zero, List.set_cons_succ, List.getElem_toArray, List.getElem_cons_zero, List.getElem_cons_succ]
          refine wpAnyH_take (i := 8) (v := .pointer (some ⟨cb', 0, none⟩)) rfl (by kernel_rfl) (by kernel_rfl) (by kernel_rfl) (fun _ _ _ h => h) (Or.inl ⟨by rfl, fun w' hS => ?_⟩) HS.out ?_
          · go_simp
          try simp only [Act.put, List.setIfInBounds_toArray, List.set_cons_zero, List.set_cons_succ, List.getElem_toArray, List.getElem_cons_zero, List.getElem_cons_succ]
          refine wpAnyH_take (i := 9) (v := .agg #[.int .i64 cls, .int .i64 cap, .slice ao3 L'.length cp3]) rfl (by kernel_rfl) (by kernel_rfl) (by kernel_rfl) (fun _ _ _ h => h) (Or.inl ⟨by rfl, fun w' hS => ?_⟩) HS.out ?_
          · go_simp
          try simp only [Act.put, List.setIfInBounds_toArray, List.set_cons_zero, List.set_cons_succ, List.getElem_toArray, List.getElem_cons_zero, List.getElem_cons_succ]
          refine wpAnyH_take (i := 10) (v := .bool true) rfl (by kernel_rfl) (by kernel_rfl) (by kernel_rfl) (fun _ _ _ h => h) (Or.inl ⟨by rfl, fun w' hS => ?_⟩) HS.out ?_
          · go_simp
          try simp only [Act.put, List.setIfInBounds_toArray, List.set_cons_zero, List.set_cons_succ, List.getElem_toArray, List.getElem_cons_zero, List.getElem_cons_succ]
          refine wpAnyH_ready (rs := [11]) (by kernel_rfl) (by simp) (AllReadyH.cons rfl (fun K hK => ?_) AllReadyH.nil)
          go_simp
          refine hK.out _ _ HS.out (fun _ => ?_)
          clear hK K
          try simp only [Act.put, List.setIfInBounds_toArray, List.set_cons_zero, List.set_cons_succ, List.getElem_toArray, List.getElem_cons_zero, List.getElem_cons_succ]
          refine wpAnyH_ready (rs := [12]) (by kernel_rfl) (by simp) (AllReadyH.cons rfl (fun K hK => ?_) AllReadyH.nil)
          go_simp
          clear HS
          have HS := Lib.hid (HA5.out _ (row3_frm (.int .i64 cls) (.int .i64 cap) (.slice ao3 L'.length cp3) w3.heap.size w5))
          refine hK.out _ _ HS.out (fun _ => ?_)
          clear hK K
          try simp only [Act.put, List.setIfInBounds_toArray, List.set_cons_zero, List.set_cons_succ, List.getElem_toArray, List.getElem_cons_zero, List.getElem_cons_succ]
          refine wpAnyH_ready (rs := [13]) (by kernel_rfl) (by simp) (AllReadyH.cons rfl (fun K hK => ?_) AllReadyH.nil)
          go_simp
          refine hK.out _ _ HS.out (fun _ => ?_)
          clear hK K
          try simp only [Act.put, List.setIfInBounds_toArray, List.set_cons_zero, List.set_cons_succ, List.getElem_toArray, List.getElem_cons_zero, List.getElem_cons_succ]
          refine wpAnyH_done (by kernel_rfl) ?_ _
          go_wp2_with fail
          exact ⟨⟨rfl, i + 1, by simp, hin, cb', _, L', F', rfl, HO5.out.frmZ HB5.out HW3.out (row3_frm _ _ _ _ w5), row3_at HB5.out⟩, by simp [intOf]; omega⟩
        · have hin' : ¬ (i : Int) < (n : Int) := by omega
          go_wp2_with (first | (go_at_call 8; go_must (refine (known_any _).mono ?_; rintro e w9 ⟨rfl, hf⟩; have HK := Lib.hid hf; clear hf)))
          go_ret
          exact ⟨rfl, HO.out.o.trans HK.out⟩
end Go.Proofs.Ythelfpenccpkeaa
