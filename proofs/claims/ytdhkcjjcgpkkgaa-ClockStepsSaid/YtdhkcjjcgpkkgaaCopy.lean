/- Copies: maps.Clone, slices.Clone, Copy. -/
import Derived.Test.YtdhkcjjcgpkkgaaMeth
import Derived.Shelf.SlMaps.Clone
namespace Go.Proofs.Ytdhkcjjcgpkkgaa
open Go.RowKit Go.Maps

/-- v is a copy of a map, made after w0 -/
def MapCopy (w0 : World) (N : Nat) (f : Lit → Option Value) (c : Nat) (v : Value) (w' : World) : Prop :=
  ∃ mb', v = .map mb' ∧ MapAt Try.prog 3 w' mb' N f c ∧ ∀ b, mb' = some b → w0.heap.size ≤ b
theorem MapCopy.frm {w0 w1 w2 : World} {N c : Nat} {f : Lit → Option Value} {v : Value} (h : MapCopy w0 N f c v w1) (hf : Frm [] w1 w2) : MapCopy w0 N f c v w2 := by
  obtain ⟨mb', rfl, h1, h2⟩ := h
  exact ⟨mb', rfl, h1.frm hf (by simp), h2⟩
theorem MapCopy.low {w0 w w2 : World} {N c : Nat} {f : Lit → Option Value} {v : Value} (h : MapCopy w N f c v w2) (hf : Frm [] w0 w) : MapCopy w0 N f c v w2 := by
  obtain ⟨mb', rfl, h1, h2⟩ := h
  exact ⟨mb', rfl, h1, fun b hb => Nat.le_trans hf.size (h2 b hb)⟩
/-- what a copy of a map leaves -/
def MapCopied (w : World) (N : Nat) (f : Lit → Option Value) (c : Nat) (v : Value) (w' : World) : Prop := MapCopy w N f c v w' ∧ Frm [] w w'

set_option maxHeartbeats 1000000 in
theorem mapsClone_nil (w : World) : Calls Try.prog 29 #[.map none] w (Ret (.map none) (w = ·)) := by
  have hq := fun w => run_eql_map_nil_sl (P := Try.prog) w 24 _ _ none Try.underlying24
  go_enter Try.func29, Try.ntmps29
  go_wp2
  go_ret
  exact ⟨rfl, rfl⟩
set_option maxHeartbeats 1000000 in
set_option maxRecDepth 100000 in
theorem mapsClone_some (b : Nat) (es : Array MapEntry) (clock : Nat) (w : World) (hb : w.heap[b]? = some (.map es clock)) : Calls Try.prog 29 #[.map (some b)] w (Ret (.map (some w.heap.size)) (w.alloc (.map es clock) = ·)) := by
  have hq := fun w => run_eql_map_nil_sl (P := Try.prog) w 24 _ _ (some b) Try.underlying24
  have HB := Lib.hid hb
  clear hb
  go_enter Try.func29, Try.ntmps29
  go_wp2
  rw [run_callFunc_extern Try.func38 (by kernel_rfl) (by kernel_rfl) (by kernel_rfl) (e := Extern.MapsClone.clone) (by kernel_rfl), run_maps_clone_sl w 24 HB.out]
  simp only [Result.andThen]
  rw [Oper.upon_value]
  go_wp2
  rw [run_typeAssert_map_sl _ 24 20 _ _ _ Try.underlying24]
  simp only [Result.andThen]
  rw [Oper.upon_value]
  go_wp2
  go_ret
  exact ⟨rfl, rfl⟩
theorem mapsClone_any (mb : Option Nat) (N : Nat) (f : Lit → Option Value) (c : Nat) (w : World) (h : MapAt Try.prog 3 w mb N f c) : Calls Try.prog 29 #[.map mb] w (RetV (MapCopied w N f c)) := by
  rcases h with ⟨rfl, h1, h2⟩ | ⟨b, D, rfl, ⟨es, clock, hb, r⟩, r2⟩
  · refine (mapsClone_nil w).mono ?_
    rintro e w' ⟨rfl, rfl⟩
    exact ⟨_, rfl, ⟨none, rfl, .inl ⟨rfl, h1, h2⟩, by simp⟩, Frm.refl _ _⟩
  · refine (mapsClone_some b es clock w hb).mono ?_
    rintro e w' ⟨rfl, rfl⟩
    refine ⟨_, rfl, ⟨some w.heap.size, rfl, .inr ⟨_, D, rfl, ⟨es, clock, (MapKept.heap_alloc w _).1, r⟩, r2⟩, by simp⟩, (Frm.refl _ _).alloc _⟩

/-- v is a copy of a heap, made after w0 -/
def HeapCopy (w0 : World) (L : List (Int × Int)) (v : Value) (w' : World) : Prop := w'.ownsRow 0 70 2 v L.length (encL L) ∧ ∀ k, v.ownBlock = some k → w0.heap.size ≤ k
theorem HeapCopy.frm {w0 w1 w2 : World} {L : List (Int × Int)} {v : Value} (h : HeapCopy w0 L v w1) (hf : Frm [] w1 w2) : HeapCopy w0 L v w2 := ⟨hf.owns h.1 (by simp), h.2⟩
theorem HeapCopy.low {w0 w w2 : World} {L : List (Int × Int)} {v : Value} (h : HeapCopy w L v w2) (hf : Frm [] w0 w) : HeapCopy w0 L v w2 := ⟨h.1, fun k hk => Nat.le_trans hf.size (h.2 k hk)⟩
def HeapCopied (w : World) (L : List (Int × Int)) (v : Value) (w' : World) : Prop := (∃ ao n cap, v = .slice ao n cap) ∧ HeapCopy w L v w' ∧ Frm [] w w'
theorem encL_one (L : List (Int × Int)) : ∀ u ∈ encL L, u.oneCell' = true := by
  induction L with
  | nil => simp [encL]
  | cons x l ih =>
    intro u hu
    simp only [encL, List.mem_cons] at hu
    rcases hu with rfl | rfl | hu
    · rfl
    · rfl
    · exact ih u hu
set_option maxHeartbeats 1000000 in
set_option maxRecDepth 100000 in
theorem slicesClone_any (sv : Value) (L : List (Int × Int)) (w : World) (h : w.ownsRow 0 70 2 sv L.length (encL L)) (hN : L.length ≤ 1000000) : Calls Try.prog 30 #[sv] w (RetV (HeapCopied w L)) := by
  have q22 : ∀ (w : World) (a : Option Addr) (n c n' c' : Nat), (binOp .eql 25 (.slice a n c) (.slice none n' c')).run Try.prog w = .ok (.bool a.isNone) w := fun w a n c n' c' => Lib.run_eql_slice_nil w _ _ a n c n' c' Try.underlying25
  have h0 := h
  obtain ⟨hl, h2⟩ := h
  rcases h2 with ⟨rfl, hn⟩ | ⟨g, cap, cur, rfl, hg, hh, r⟩
  · obtain rfl : L = [] := List.eq_nil_of_length_eq_zero hn
    clear h0 hl
    go_enter Try.func30, Try.ntmps30
    go_wp2
    go_ret
    exact ⟨_, rfl, ⟨_, _, _, rfl⟩, ⟨World.ownsRow_nil _ _ _ _, by simp [Value.ownBlock]⟩, Frm.refl _ _⟩
  · have hcell : Hid (∀ j u, (encL L)[j]? = some u → w.cell? ⟨g, 0 + j, none⟩ = some u) := by
      intro j u hj
      rw [Nat.zero_add, World.ownsRow.cellAt h0 j (by have := lt_of_some hj; omega)]
      simp [hj]
    have HL : Hid ((encL L).length = L.length * 2) := encL_length L
    clear h0 hl hh r
    obtain ⟨i0, hi0, hz0, hz1, hz2⟩ := info_parts Try.info70
    go_enter Try.func30, Try.ntmps30
    go_wp2_with (at_builtin; refine wpList_append_own _ rfl _ _ 25 rfl w.heap.size 70 i0 _ 2 16 Try.underlying25 hi0 hz0 hz1 hz2 rfl (by decide) _ _ _ rfl (World.ownsRow_made w #[] 0 (Nat.le_refl _) (Nat.zero_le _) (by simp)) ⟨g, 0, none⟩ L.length cap (encL L) rfl HL.out ?qc2 (encL_one L) ?qc4 ?qc5 ?qc6 ?_)
    case qc2 =>
      intro j u hj
      rw [Addr.add_lit]
      exact Lib.cell?_alloc_some _ (hcell.out j u hj)
    case qc4 => unfold maxLen; omega
    case qc5 => omega
    case qc6 => simp
    intro v' w1 hown hgrow hnil
    have HO := Lib.hid hown; have HG := Lib.hid hgrow
    clear hown hgrow hnil
    go_wp2
    go_ret
    have ho := HO.out
    refine ⟨v', rfl, ?_, ⟨⟨ho.1, ?_⟩, fun k hk => ?_⟩, ((Frm.refl _ w).alloc _).grown HG.out (fun k hk => ?_)⟩
    · rcases ho.2 with ⟨q1, q2⟩ | ⟨g, cap, cur, q1, q2, q3⟩
      · exact ⟨_, _, _, q1⟩
      · exact ⟨_, _, _, q1⟩
    · rcases ho.2 with ⟨q1, q2⟩ | ⟨g, cap, cur, q1, q2, q3⟩
      · exact .inl ⟨q1, q2⟩
      · exact .inr ⟨g, cap, cur, q1, Nat.zero_le _, q3⟩
    · rcases ho.2 with ⟨q1, q2⟩ | ⟨g, cap, cur, q1, q2, q3⟩
      · rw [q1] at hk; simp [Value.ownBlock] at hk
      · rw [q1] at hk; simp [Value.ownBlock] at hk; omega
    · simp [Value.ownBlock] at hk; omega

/-- v is a copy of the clock at cb -/
def CopyTo (w : World) (cb : Nat) (now : Int) (D : DMap) (N : Nat) (F : List Nat) (v : Value) (w' : World) : Prop :=
  ∃ db F', v = .pointer (some ⟨db, 0, none⟩) ∧ Clk w' db now D N F' ∧ Clk w' cb now D N F ∧ Frm [] w w' ∧ ∀ x ∈ F', w.heap.size ≤ x
theorem CopyTo.mk {w w1 : World} {cb : Nat} {now : Int} {D : DMap} {N : Nat} {F : List Nat} {v1 v2 : Value} {L : List (Int × Int)} (h : Clk w cb now D N F) (ho : Ord L) (hn : L.length ≤ N) (hL : ∀ t d, D t = some d → (d, t) ∈ L)
    (hE : ∀ e ∈ L, 0 ≤ e.2 ∧ e.2 < 256 ∧ 0 ≤ e.1 ∧ e.1 ≤ maxT) (hf : Frm [] w w1) (hm : MapCopy w N (fInt D) (cnt D) v1 w1) (hh : HeapCopy w L v2 w1) :
    CopyTo w cb now D N F (.pointer (some ⟨w1.heap.size, 0, none⟩)) (w1.alloc (.cells #[.int .i64 now, v1, v2] 27)) := by
  have hfa : Frm [] w1 (w1.alloc (.cells #[.int .i64 now, v1, v2] 27)) := (Frm.refl _ _).alloc _
  obtain ⟨mb, rfl, hm1, hm2⟩ := hm
  refine ⟨w1.heap.size, _, rfl, ⟨mb, v2, L, ⟨heap_alloc_new _ _, hfa.owns hh.1 (by simp)⟩, ho, hn, hL, hE, hm1.frm hfa (by simp), h.good, rfl⟩, (h.frm hf (by simp)).frm hfa (by simp), hf.trans hfa, fun x hx => ?_⟩
  have := hf.size
  simp at hx
  rcases hx with rfl | hx | hx
  · exact this
  · exact hh.2 _ hx
  · exact hm2 _ hx
set_option maxHeartbeats 2000000 in
set_option maxRecDepth 100000 in
theorem copy_any (cb : Nat) (now : Int) (D : DMap) (N : Nat) (F : List Nat) (w : World) (h : Clk w cb now D N F) (hN : N ≤ 1000000) :
    Calls Try.prog 13 #[.pointer (some ⟨cb, 0, none⟩)] w (RetV (CopyTo w cb now D N F)) := by
  have H := Lib.hid h
  obtain ⟨mb, sv, L, hp, h1, h2, h3, h4, hm, h5, hF⟩ := h
  have HP := Lib.hid hp; have H1 := Lib.hid h1; have H2 := Lib.hid h2; have H3 := Lib.hid h3; have H4 := Lib.hid h4; have HM := Lib.hid hm
  have c0 := cell_of hp.1 0
  have c1 := cell_of hp.1 1
  have c2 := cell_of hp.1 2
  clear hp h1 h2 h3 h4 hm h5 hF
  go_enter Try.func13, Try.ntmps13
  go_wp2_with fail
  go_region_held3 (fun w' => w'.cell? ⟨cb, 0, none⟩ = some (.int .i64 now) ∧ w'.cell? ⟨cb, 1, none⟩ = some (.map mb) ∧ w'.cell? ⟨cb, 2, none⟩ = some sv)
    (first
      | (exact ⟨(HFB.out.keep (HFA.out.keep c0)), (HFB.out.keep (HFA.out.keep c1)), (HFB.out.keep (HFA.out.keep c2))⟩)
      | (exact ⟨(HFA.out.keep c0), (HFA.out.keep c1), (HFA.out.keep c2)⟩)
      | go_keep)
    (first
      | (go_at_call 29; go_must (first
          | (refine (mapsClone_any mb N (fInt D) (cnt D) _ (HM.out.frm HFA.out (by simp))).mono ?_; rintro e w2 ⟨_, rfl, ⟨mb', rfl, hmc⟩, hf⟩; replace hmc : MapCopy _ _ _ _ _ _ := ⟨mb', rfl, hmc⟩; have HMC := Lib.hid (hmc.low HFA.out); have HFB := Lib.hid hf; clear hmc hf)
          | (refine (mapsClone_any mb N (fInt D) (cnt D) _ (HM.out.frm (Frm.refl [] w).drew (by simp))).mono ?_; rintro e w1 ⟨_, rfl, ⟨mb', rfl, hmc⟩, hf⟩; replace hmc : MapCopy _ _ _ _ _ _ := ⟨mb', rfl, hmc⟩; have HMC := Lib.hid (hmc.low (Frm.refl [] w).drew); have HFA : Hid (Frm [] w w1) := Lib.hid ((Frm.refl [] w).drew.trans hf); clear hmc hf)))
      | (go_at_call 30; go_must (first
          | (refine (slicesClone_any sv L _ (HFA.out.owns HP.out.2 (by simp)) (by have := H2.out; omega)).mono ?_; rintro e w2 ⟨_, rfl, ⟨ao2, n2, cap2, rfl⟩, hhc, hf⟩; have HHC := Lib.hid (hhc.low HFA.out); have HFB := Lib.hid hf; clear hhc hf)
          | (refine (slicesClone_any sv L _ ((Frm.refl [] w).drew.owns HP.out.2 (by simp)) (by have := H2.out; omega)).mono ?_; rintro e w1 ⟨_, rfl, ⟨ao2, n2, cap2, rfl⟩, hhc, hf⟩; have HHC := Lib.hid (hhc.low (Frm.refl [] w).drew); have HFA : Hid (Frm [] w w1) := Lib.hid ((Frm.refl [] w).drew.trans hf); clear hhc hf))))
  all_goals
    go_wp2
    go_ret
    first
      | exact ⟨_, rfl, CopyTo.mk H.out H1.out H2.out H3.out H4.out (HFA.out.trans HFB.out) HMC.out (HHC.out.frm HFB.out)⟩
      | exact ⟨_, rfl, CopyTo.mk H.out H1.out H2.out H3.out H4.out (HFA.out.trans HFB.out) (HMC.out.frm HFB.out) HHC.out⟩
end Go.Proofs.Ytdhkcjjcgpkkgaa
