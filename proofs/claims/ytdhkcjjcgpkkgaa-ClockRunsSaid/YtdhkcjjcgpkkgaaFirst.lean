import Derived.Test.YtdhkcjjcgpkkgaaStart
namespace Go.Proofs.Ytdhkcjjcgpkkgaa
open Go.RowKit Go.Maps

def entV (x : Int × Int) : Value := .agg #[.int .i64 x.1, .int .i64 x.2]
def firstV (D : DMap) : Value := match firstOf D with | some x => entV x | none => entV (0, 0)
/-- a clock whose heap is not empty, with its first entry -/
theorem Clk.head {w : World} {cb : Nat} {now : Int} {D : DMap} {N : Nat} {F : List Nat} (h : Clk w cb now D N F) : ∃ mb sv L, Hp w cb now (.map mb) sv L ∧ Ord L ∧ L.length ≤ N ∧ (∀ t d, D t = some d → (d, t) ∈ L) ∧ (∀ e ∈ L, 0 ≤ e.2 ∧ e.2 < 256 ∧ 0 ≤ e.1 ∧ e.1 ≤ maxT) ∧
    MapAt Try.prog 3 w mb N (fInt D) (cnt D) ∧ Good now D ∧ F = cb :: (sv.ownBlock.toList ++ mb.toList) := h
theorem first_hit {now : Int} {D : DMap} {L : List (Int × Int)} (hg : Good now D) (ho : Ord L) (hL : ∀ t d, D t = some d → (d, t) ∈ L) {x : Int × Int} (hx : L[0]? = some x) (hd : D x.2 = some x.1) : firstOf D = some x :=
  firstOf_eq hg hd fun t d h => by
    obtain ⟨k, hk⟩ := List.mem_iff_getElem?.1 (hL t d h)
    exact ho.top hx k _ hk
theorem first_empty {now : Int} {D : DMap} (hg : Good now D) (hL : ∀ t d, D t = some d → (d, t) ∈ ([] : List (Int × Int))) : firstOf D = none :=
  (firstOf_none hg).2 fun t => by
    cases hd : D t with
    | none => rfl
    | some d => exact absurd (hL t d hd) (by simp)
theorem Clk.popped {w w' : World} {cb : Nat} {now : Int} {mb : Option Nat} {sv : Value} {L : List (Int × Int)} {D : DMap} {N : Nat} {x : Int × Int}
    (hp : Hp w cb now (.map mb) sv L) (hn : L.length ≤ N) (hL : ∀ t d, D t = some d → (d, t) ∈ L) (hE : ∀ e ∈ L, 0 ≤ e.2 ∧ e.2 < 256 ∧ 0 ≤ e.1 ∧ e.1 ≤ maxT)
    (hm : MapAt Try.prog 3 w mb N (fInt D) (cnt D)) (_ : Good now D) (hx : L[0]? = some x) (hd : D x.2 ≠ some x.1) (hq : Popped w cb now (.map mb) sv L w') :
    ∃ sv' L', L'.length + 1 = L.length ∧ Hp w' cb now (.map mb) sv' L' ∧ Ord L' ∧ L'.length ≤ N ∧ (∀ t d, D t = some d → (d, t) ∈ L') ∧ (∀ e ∈ L', 0 ≤ e.2 ∧ e.2 < 256 ∧ 0 ≤ e.1 ∧ e.1 ≤ maxT) ∧
      MapAt Try.prog 3 w' mb N (fInt D) (cnt D) ∧ Frm (cb :: (sv.ownBlock.toList ++ mb.toList)) w w' ∧ (∀ y ∈ cb :: (sv'.ownBlock.toList ++ mb.toList), y ∈ cb :: (sv.ownBlock.toList ++ mb.toList) ∨ w.heap.size ≤ y) := by
  obtain ⟨sv', L', h1, h2, h3, h4, h5, h6⟩ := hq
  refine ⟨sv', L', h2, h1, h4, by omega, fun t d h => h3.1 _ (hL t d h) (fun e => ?_), fun e he => hE e (h3.2 e he), hm.frm h5 fun b hb hx => ?_, h5.mono (fun y hy => ?_), fun y hy => ?_⟩
  · rw [hx] at e; cases e; exact hd h
  · obtain ⟨es, cl, hbb⟩ := hm.block hb
    simp at hx
    rcases hx with h | h
    · rw [h, hp.1] at hbb; cases hbb
    · obtain ⟨c, hh⟩ := ownBlock_type hp.2 h
      rw [hh] at hbb; cases hbb
  · left; simp at hy ⊢; rcases hy with h | h <;> simp [h]
  · simp at hy ⊢
    rcases hy with h | h | h
    · simp [h]
    · rcases h6 y h with h | h <;> simp [h]
    · simp [h]

/-- the state at a round of first: the clock, its heap being of g entries -/
def FInv (w : World) (cb : Nat) (now : Int) (D : DMap) (N : Nat) (F : List Nat) (g : Nat) (wr : World) : Prop :=
  ∃ mb sv L, L.length = g ∧ Hp wr cb now (.map mb) sv L ∧ Ord L ∧ L.length ≤ N ∧ (∀ t d, D t = some d → (d, t) ∈ L) ∧ (∀ e ∈ L, 0 ≤ e.2 ∧ e.2 < 256 ∧ 0 ≤ e.1 ∧ e.1 ≤ maxT) ∧
    MapAt Try.prog 3 wr mb N (fInt D) (cnt D) ∧ Frm F w wr ∧ (∀ y ∈ cb :: (sv.ownBlock.toList ++ mb.toList), y ∈ F ∨ w.heap.size ≤ y)
theorem FInv.to {w wr : World} {cb : Nat} {now : Int} {D : DMap} {N : Nat} {F : List Nat} {g : Nat} (h : FInv w cb now D N F g wr) (hg : Good now D) : ClkTo w cb now D N F wr := by
  obtain ⟨mb, sv, L, _, h1, h2, h3, h4, h5, h6, h7, h8⟩ := h
  exact ⟨_, ⟨mb, sv, L, h1, h2, h3, h4, h5, h6, hg, rfl⟩, h7, h8⟩
theorem FInv.frm {w wr w2 : World} {cb : Nat} {now : Int} {D : DMap} {N : Nat} {F : List Nat} {g : Nat} (h : FInv w cb now D N F g wr) (hf : Frm [] wr w2) : FInv w cb now D N F g w2 := by
  obtain ⟨mb, sv, L, h0, h1, h2, h3, h4, h5, h6, h7, h8⟩ := h
  exact ⟨mb, sv, L, h0, ⟨hf.at h1.1 (by simp), hf.owns h1.2 (by simp)⟩, h2, h3, h4, h5, h6.frm hf (by simp), h7.then hf (by simp), h8⟩

theorem FInv.fin {w W wr w3 : World} {cb : Nat} {now : Int} {D : DMap} {N : Nat} {F : List Nat} {g : Nat} (h : FInv W cb now D N F g wr) (hg : Good now D) (hF : Frm [] w W) (hs : W.heap.size = w.heap.size + 1) (hlt : ∀ x ∈ F, x < w.heap.size)
    (hf : Frm [w.heap.size] wr w3) : ClkTo w cb now D N F w3 := by
  obtain ⟨mb, sv, L, h0, h1, h2, h3, h4, h5, h6, h7, h8⟩ := h
  have hne : ∀ y ∈ cb :: (sv.ownBlock.toList ++ mb.toList), y ∉ [w.heap.size] := fun y hy hx => by
    simp at hx
    rcases h8 y hy with h | h
    · have := hlt y h; omega
    · omega
  have hc : Clk wr cb now D N (cb :: (sv.ownBlock.toList ++ mb.toList)) := ⟨mb, sv, L, h1, h2, h3, h4, h5, h6, hg, rfl⟩
  refine ⟨_, hc.frm hf hne, hF.mono (F' := F) (by simp) |>.then (F1 := w.heap.size :: F) ((h7.mono (fun x hx => .inl (by simp [hx]))).then hf (by simp)) (fun x hx => ?_), fun y hy => ?_⟩
  · simp at hx; rcases hx with h | h
    · right; omega
    · exact .inl h
  · rcases h8 y hy with h | h
    · exact .inl h
    · right; omega
theorem FInv.next {W wr w1 w2 : World} {cb : Nat} {now : Int} {D : DMap} {N : Nat} {F : List Nat} {g : Nat} {mb : Option Nat} {sv : Value} {L : List (Int × Int)} {x : Int × Int} (hg : Good now D)
    (hL : L.length = g) (hp : Hp w1 cb now (.map mb) sv L) (h3 : L.length ≤ N) (h4 : ∀ t d, D t = some d → (d, t) ∈ L) (h5 : ∀ e ∈ L, 0 ≤ e.2 ∧ e.2 < 256 ∧ 0 ≤ e.1 ∧ e.1 ≤ maxT)
    (h6 : MapAt Try.prog 3 w1 mb N (fInt D) (cnt D)) (h7 : Frm F W wr) (h8 : ∀ y ∈ cb :: (sv.ownBlock.toList ++ mb.toList), y ∈ F ∨ W.heap.size ≤ y) (hf : Frm [] wr w1) (hx : L[0]? = some x) (hd : D x.2 ≠ some x.1)
    (hq : Popped w1 cb now (.map mb) sv L w2) : FInv W cb now D N F (g - 1) w2 := by
  obtain ⟨sv', L', k1, k2, k3, k4, k5, k6, k7, k8, k9⟩ := Clk.popped hp h3 h4 h5 h6 hg hx hd hq
  have hs := (h7.then hf (by simp)).size
  refine ⟨mb, sv', L', by omega, k2, k3, k4, k5, k6, k7, (h7.then hf (by simp)).then k8 h8, fun y hy => ?_⟩
  rcases k9 y hy with h | h
  · exact h8 y h
  · right; omega
/-- two cells by value as the first of two results, read out of their block -/
theorem results31 {a : Act} {w3 : World} {rb : Nat} {v0 v1 b : Value} (h2 : a.tmps.getD 2 undef = .pointer (some ⟨rb, 0, none⟩)) (h3 : a.tmps.getD 3 undef = b) (hb : w3.heap[rb]? = some (.cells #[v0, v1] 70 (0, 0))) :
    (results Try.f31 a.tmps).run Try.prog w3 = .ok (.tuple #[.agg #[v0, v1], b]) w3 := by
  have c0 := cell_of hb 0
  have c1 := cell_of hb 1
  simp at c0 c1
  simp [results, Try.results31, go_sem] at *
  simp [*]

set_option maxHeartbeats 1000000 in
set_option maxRecDepth 100000 in
theorem first_any (cb : Nat) (now : Int) (D : DMap) (N : Nat) (F : List Nat) (w : World) (h : Clk w cb now D N F) (hN : N ≤ 1000000) :
    Calls Try.prog 31 #[.pointer (some ⟨cb, 0, none⟩)] w (Ret (.tuple #[firstV D, .bool (firstOf D).isSome]) (ClkTo w cb now D N F)) := by
  have HG := Lib.hid h.good
  have HLT := Lib.hid h.lt
  have HH := Lib.hid h
  clear h
  go_enter Try.func31, Try.ntmps31
  go_wp2
  obtain ⟨W, hW⟩ : ∃ W, W = w.alloc (.cells #[.int .i64 0, .int .i64 0] 70) := ⟨_, rfl⟩
  rw [← hW]
  have hF : Hid (Frm [] w W) := by rw [hW]; exact (Frm.refl _ _).alloc _
  have hr : Hid (W.heap[w.heap.size]? = some (.cells #[.int .i64 0, .int .i64 0] 70)) := by show _ = _; rw [hW]; exact heap_alloc_new _ _
  have hWs : Hid (W.heap.size = w.heap.size + 1) := by show _ = _; rw [hW]; simp
  obtain ⟨g0, HI⟩ : ∃ g, Hid (FInv W cb now D N F g W) := by
    obtain ⟨mb, sv, L, h1, h2, h3, h4, h5, h6, h7, rfl⟩ := HH.out.frm hF.out (by simp)
    exact ⟨L.length, mb, sv, L, rfl, h1, h2, h3, h4, h5, h6, Frm.refl _ _, fun y hy => .inl hy⟩
  clear hW HH
  go_loopg [3] g0 (fun g s3 wr => s3 = .bool false ∧ FInv W cb now D N F g wr)
  case atStart => exact ⟨rfl, HI.out⟩
  case round =>
    obtain ⟨rfl, hinv⟩ := hrel
    have HV := Lib.hid hinv
    obtain ⟨mb, sv, L, hL, hp, h2, h3, h4, h5, h6, h7, h8⟩ := hinv
    have c2 := cell_of hp.1 2
    have hrw := hr.out
    have hrW : wr.heap[w.heap.size]? = some (.cells #[.int .i64 0, .int .i64 0] 70) := h7.at hr.out (fun hx => by have := HLT.out _ hx; omega)
    have r0 := cell_of hrW 0
    have r1 := cell_of hrW 1
    have f0 := free_of hrW 0
    have f1 := free_of hrW 1
    have hrlt := lt_of_block hrW
    have hcb := lt_of_block hp.1
    by_cases hg : gk = 0
    · subst hg
      have hn : L = [] := List.length_eq_zero_iff.1 hL
      subst hn
      have hsv : ∃ ao cap, sv = .slice ao 0 cap := by
        obtain ⟨_, q⟩ := hp.2
        rcases q with ⟨q, _⟩ | ⟨g, cap, cur, q, _⟩
        · exact ⟨_, _, q⟩
        · exact ⟨_, _, q⟩
      obtain ⟨ao, cap, rfl⟩ := hsv
      have hfo := first_empty HG.out h4
      have hv : firstV D = .agg #[.int .i64 0, .int .i64 0] := by simp [firstV, hfo, entV]
      have HFO := Lib.hid hfo; have HVV := Lib.hid hv
      have hb3 := Lib.hid (block_setCell (block_setCell hrW 0 (.int .i64 0)) 1 (.int .i64 0))
      clear hp h2 h3 h4 h5 h6 h7 h8 hL hrw hrW hfo hv
      go_wp2
      exact bodyPost_ret (v := .tuple #[.agg #[.int .i64 0, .int .i64 0], .bool false]) (results31 rfl rfl hb3.out) rfl ⟨by rw [HVV.out, HFO.out]; rfl, HV.out.fin HG.out hF.out hWs.out HLT.out (((Frm.refl _ _).setCell _ (.inl (by simp)) _).setCell _ (.inl (by simp)) _)⟩
    · obtain ⟨x, hx⟩ := some_of_lt (L := L) (k := 0) (by omega)
      obtain ⟨g1, cap, rfl, hlc, hgc⟩ := hp.shape (by omega)
      have hla := encL_length L
      have x1 := (hp.2.cellAt 0 (by omega)).trans (encL_at1 L 0 x hx)
      have x2 := (hp.2.cellAt 1 (by omega)).trans (encL_at2 L 0 x hx)
      have hE := h5 x (List.mem_of_getElem? hx)
      obtain ⟨W1, hW1⟩ : ∃ W1, W1 = wr.alloc (.cells #[.int .i64 x.1, .int .i64 x.2] 70) := ⟨_, rfl⟩
      have hf1 : Frm [] wr W1 := by rw [hW1]; exact (Frm.refl _ _).alloc _
      have hl := (h6.frm (hf1.drew) (by simp)).look_ok Try.key3 Try.underlying24 (Try.zero3 _) (key_i64 (t := x.2) (by omega) (by omega))
      have y0 : W1.cell? ⟨wr.heap.size, 0, none⟩ = some (.int .i64 x.1) := by rw [hW1]; simp
      have y1 : W1.cell? ⟨wr.heap.size, 1, none⟩ = some (.int .i64 x.2) := by rw [hW1]; simp
      have d1 := hf1.keep (cell_of hp.1 1)
      have d2 := hf1.keep c2
      have q0 := hf1.keep r0
      have q1 := hf1.keep r1
      have HX := Lib.hid hx
      have hle : (0 : Int) < (L.length : Int) := by omega
      have Hf1 := Lib.hid hf1
      have HRW1 : Hid (W1.drew.heap[w.heap.size]? = _) := hf1.at hrW (by simp)
      have k0 := free_of (hf1.at hrW (by simp)) 0
      have k1 := free_of (hf1.at hrW (by simp)) 1
      have hrlt1 := lt_of_block (hf1.at hrW (by simp))
      have HL := Lib.hid hL
      have HP := Lib.hid hp; have H2 := Lib.hid h2; have H3 := Lib.hid h3; have H4 := Lib.hid h4; have H5 := Lib.hid h5; have H6 := Lib.hid h6; have H7 := Lib.hid h7; have H8 := Lib.hid h8
      have d1' := cell_of hp.1 1
      clear hp h2 h3 h4 h5 h6 h7 h8 hL hrw hrW hf1 hla hE hx
      go_wp2_with fail
      rw [← hW1]
      clear hW1 x1 x2 c2 d1' r0 r1 f0 f1
      have HF1 := Lib.hid (Hf1.out.drew)
      have HP1 : Hid (Hp W1.drew cb now (.map mb) (.slice (some ⟨g1, 0, none⟩) L.length cap) L) := ⟨HF1.out.at HP.out.1 (by simp), HF1.out.owns HP.out.2 (by simp)⟩
      have H61 := Lib.hid (H6.out.frm HF1.out (by simp))
      have HPOP := Lib.hid (pop_any cb now _ _ L W1.drew HP1.out (by have := H3.out; omega) (by omega) H2.out)
      have fin := fun w2 hd => Lib.hid (fun hq => FInv.next (w2 := w2) HG.out HL.out HP1.out H3.out H4.out H5.out H61.out H7.out H8.out HF1.out HX.out hd hq)
      have FIN := Lib.hid fin
      clear fin
      cases hd : D x.2 with
      | none =>
        simp only [fInt, hd, Option.map_none, Option.getD_none, Option.isSome_none] at hl
        have HD : Hid (D x.2 ≠ some x.1) := by show _ ≠ _; rw [hd]; simp
        clear hd
        go_region
        go_wp2_with (go_at_call 39; go_must (refine HPOP.out.mono ?_; rintro e w2 ⟨rfl, hq⟩))
        go_roundg (gk - 1)
        case measure => omega
        case rel => exact ⟨rfl, (FIN.out _ HD.out).out hq⟩
      | some d =>
        simp only [fInt, hd, Option.map_some, Option.getD_some, Option.isSome_some] at hl
        by_cases hdx : d = x.1
        · have HFO := Lib.hid (first_hit HG.out H2.out H4.out HX.out (by rw [hd, hdx]))
          have hdx2 : (d == x.1) = true := by simpa using hdx
          have HDX := Lib.hid hdx
          clear hd hdx
          have hb3 := Lib.hid (block_setCell (block_setCell HRW1.out 0 (.int .i64 x.1)) 1 (.int .i64 x.2))
          go_region
          go_wp2
          exact bodyPost_ret (v := .tuple #[.agg #[.int .i64 x.1, .int .i64 x.2], .bool true]) (results31 rfl rfl hb3.out) rfl ⟨by simp [firstV, HFO.out, entV], HV.out.fin HG.out hF.out hWs.out HLT.out ((HF1.out.mono (by simp)).trans (((Frm.refl _ _).setCell _ (.inl (by simp)) _).setCell _ (.inl (by simp)) _))⟩
        · have HD : Hid (D x.2 ≠ some x.1) := by show _ ≠ _; rw [hd]; simp; exact hdx
          have hdx2 : (d == x.1) = false := by simpa using hdx
          clear hd hdx
          go_region
          go_wp2_with (go_at_call 39; go_must (refine HPOP.out.mono ?_; rintro e w2 ⟨rfl, hq⟩))
          go_roundg (gk - 1)
          case measure => omega
          case rel => exact ⟨rfl, (FIN.out _ HD.out).out hq⟩
end Go.Proofs.Ytdhkcjjcgpkkgaa
