/- The box: what lies where; what its methods do, in plain words. -/
import Derived.Test.YtomjnbcaofebfaaKeys
import Derived.Test.YtomjnbcaofebfaaLeaf
namespace Go.Proofs.Ytomjnbcaofebfaa
open Go.RowKit Go.Maps Go.BigFrame

/-- an open message: how many parts, and the parts there are -/
structure Msg where
  cnt : Int
  ps : List (Int × List UInt8)
abbrev St := List (Int × Msg)
/-- the parts' bytes, in order -/
def vals (ps : List (Int × List UInt8)) : List (List UInt8) := (sortK ps).map fun k => (lk ps k).getD []
def sizeP (ps : List (Int × List UInt8)) : Nat := (ps.map fun p => p.2.length).sum
def heldS (S : St) : Nat := (S.map fun m => sizeP m.2.ps).sum
/-- bytes that are one's own -/
def OwnB (w : World) (v : Value) (b : List UInt8) : Prop := w.ownsRow 0 5 1 v b.length (b.map u8)
/-- the parts of a message in the map at mb -/
def PMap (w : World) (mb N : Nat) (ps : List (Int × List UInt8)) : Prop :=
  ∃ V : Int → Value, IM w mb N ps (fun t _ => V t) ∧ ∀ t b, lk ps t = some b → OwnB w (V t) b ∧ 0 ≤ t ∧ t ≤ 255
theorem OwnB.keep {F : List Nat} {w w' : World} {v : Value} {b : List UInt8} (h : OwnB w v b) (hf : Frm F w w') (hF : ∀ k ∈ F, ∀ c, w.heap[k]? ≠ some (.cells c 5 (0, 0))) : OwnB w' v b :=
  hf.owns h (fun k hk hx => by obtain ⟨c, hc⟩ := ownBlock_type h hk; exact hF k hx c hc)
theorem PMap.keep {F : List Nat} {w w' : World} {mb N : Nat} {ps : List (Int × List UInt8)} (h : PMap w mb N ps) (hf : Frm F w w') (hn : mb ∉ F) (hF : ∀ k ∈ F, ∀ c, w.heap[k]? ≠ some (.cells c 5 (0, 0))) : PMap w' mb N ps := by
  obtain ⟨V, h1, h2⟩ := h
  exact ⟨V, h1.frm hf hn, fun t b hb => ⟨(h2 t b hb).1.keep hf hF, (h2 t b hb).2⟩⟩
theorem PMap.frm0 {w w' : World} {mb N : Nat} {ps : List (Int × List UInt8)} (h : PMap w mb N ps) (hf : Frm [] w w') : PMap w' mb N ps := h.keep hf (by simp) (by simp)
theorem PMap.mono {w : World} {mb N N' : Nat} {ps : List (Int × List UInt8)} (h : PMap w mb N ps) (hn : N ≤ N') : PMap w mb N' ps := by
  obtain ⟨V, h1, h2⟩ := h
  exact ⟨V, h1.mono hn, h2⟩
theorem PMap.block {w : World} {mb N : Nat} {ps : List (Int × List UInt8)} (h : PMap w mb N ps) : ∃ es clock, w.heap[mb]? = some (.map es clock) := by
  obtain ⟨V, h1, h2⟩ := h
  exact h1.block
theorem PMap.nodup {w : World} {mb N : Nat} {ps : List (Int × List UInt8)} (h : PMap w mb N ps) : (keysI ps).Nodup := by
  obtain ⟨V, h1, h2⟩ := h
  exact h1.2
/-- a message's value -/
def mv (cnt : Int) (mb : Nat) : Value := .agg #[.int .i64 cnt, .map (some mb)]
/-- the box at xb -/
structure BX (w : World) (xb mo : Nat) (M B : Int) (N : Nat) (S : St) (K : Int → Nat) : Prop where
  hx : w.heap[xb]? = some (.cells #[.int .i64 M, .int .i64 B, .map (some mo)] 58 (0, 0))
  hm : IM w mo N S (fun t m => mv m.cnt (K t))
  hp : ∀ t m, lk S t = some m → PMap w (K t) N m.ps
  ne : ∀ t m, lk S t = some m → K t ≠ mo
  inj : ∀ t t' m m', lk S t = some m → lk S t' = some m' → K t = K t' → t = t'
  m1 : 1 ≤ M
  m64 : M ≤ 64
  b1 : 1 ≤ B
  b20 : B ≤ 1048576
  len : (S.length : Int) ≤ M
  held : (heldS S : Int) ≤ B
  small : ∀ t m, lk S t = some m → (m.ps.length : Int) < m.cnt ∧ m.cnt ≤ 255
  nN : N ≤ 1000000
theorem BX.frm0 {w w' : World} {xb mo : Nat} {M B : Int} {N : Nat} {S : St} {K : Int → Nat} (h : BX w xb mo M B N S K) (hf : Frm [] w w') : BX w' xb mo M B N S K :=
  { h with hx := hf.at h.hx (by simp), hm := h.hm.frm0 hf, hp := fun t m ht => (h.hp t m ht).frm0 hf }
theorem none_nil (w : World) : Calls Try.prog 31 #[.pointer none] w (Ret (.bool true) (w = ·)) := by
  go_enter Try.func31, Try.ntmps31
  go_wp2
  go_ret
  exact ⟨rfl, rfl⟩
theorem none_zero (xb : Nat) (w : World) (v u : Value) (h : w.heap[xb]? = some (.cells #[.int .i64 0, v, u] 58 (0, 0))) : Calls Try.prog 31 #[.pointer (some ⟨xb, 0, none⟩)] w (Ret (.bool true) (w = ·)) := by
  have c0 := cell_of h 0
  clear h
  go_enter Try.func31, Try.ntmps31
  go_wp2
  go_ret
  exact ⟨rfl, rfl⟩
theorem none_any {w : World} {xb mo : Nat} {M B : Int} {N : Nat} {S : St} {K : Int → Nat} (h : BX w xb mo M B N S K) : Calls Try.prog 31 #[.pointer (some ⟨xb, 0, none⟩)] w (Ret (.bool false) (w = ·)) := by
  have c0 := cell_of h.hx 0
  have hm : (M == 0) = false := by have := h.m1; rw [beq_eq_false_iff_ne]; omega
  clear h
  go_enter Try.func31, Try.ntmps31
  go_wp2
  go_ret
  exact ⟨rfl, rfl⟩
def okB (M B : Int) : Bool := wi M 1 64 && wi B 1 1048576
/-- what New hands back -/
def NewTo (w : World) (M B : Int) (v : Value) (w' : World) : Prop := ∃ xb mo, v = .tuple #[.pointer (some ⟨xb, 0, none⟩), .int .i64 0] ∧ BX w' xb mo M B 0 [] (fun _ => 0) ∧ Frm [] w w'
set_option maxHeartbeats 1000000 in
theorem new_ok (M B : Int) (w : World) (h : okB M B = true) : Calls Try.prog 13 #[.int .i64 M, .int .i64 B] w (RetV (NewTo w M B)) := by
  have h1 : wi M 1 64 = true := by unfold okB at h; simp at h; exact h.1
  have h2 : wi B 1 1048576 = true := by unfold okB at h; simp at h; exact h.2
  clear h
  have hmm := @run_makeMap Try.prog
  go_enter Try.func13, Try.ntmps13
  go_wp2_with (go_at_call 28; go_must (refine (within_any _ _ _ _).mono ?_; rintro e w' ⟨rfl, rfl⟩))
  go_ret2
  obtain ⟨m1, m64⟩ := wi_iff.1 h1
  obtain ⟨b1, b20⟩ := wi_iff.1 h2
  refine ⟨_, rfl, w.heap.size + 1, w.heap.size, rfl, ⟨alloc_top (by simp), (IM.made w _).frm0 ((Frm.refl [] _).alloc _), (fun t m ht => by cases ht), (fun t m ht => by cases ht), (fun t t' m m' ht => by cases ht), m1, m64, b1, b20, ?_, ?_, (fun t m ht => by cases ht), by omega⟩, ((Frm.refl [] w).alloc _).alloc _⟩
  · simp; omega
  · simp [heldS]; omega
theorem new_bad (M B : Int) (w : World) (h : okB M B = false) : Calls Try.prog 13 #[.int .i64 M, .int .i64 B] w (Ret (.tuple #[.pointer none, .int .i64 2]) (w = ·)) := by
  unfold okB at h
  cases h1 : wi M 1 64 with
  | false =>
    clear h
    go_enter Try.func13, Try.ntmps13
    go_wp2_with (go_at_call 28; go_must (refine (within_any _ _ _ _).mono ?_; rintro e w' ⟨rfl, rfl⟩))
    go_ret2
    exact ⟨rfl, rfl⟩
  | true =>
    have h2 : wi B 1 1048576 = false := by simpa [h1] using h
    clear h
    go_enter Try.func13, Try.ntmps13
    go_wp2_with (go_at_call 28; go_must (refine (within_any _ _ _ _).mono ?_; rintro e w' ⟨rfl, rfl⟩))
    go_ret2
    exact ⟨rfl, rfl⟩
theorem open_any {w : World} {xb mo : Nat} {M B : Int} {N : Nat} {S : St} {K : Int → Nat} (h : BX w xb mo M B N S K) : Calls Try.prog 15 #[.pointer (some ⟨xb, 0, none⟩)] w (RetV (IntsTo w (sortK S))) := by
  have CN := Lib.hid (none_any h)
  have CK := Lib.hid (keys32_any h.hm (by have := h.len; have := h.m64; omega))
  have c2 := cell_of h.hx 2
  clear h
  go_enter Try.func15, Try.ntmps15
  go_wp2_with (first
    | (go_at_call 31; go_must (refine CN.out.mono ?_; rintro e w' ⟨rfl, rfl⟩))
    | (go_at_call 32; go_must (refine CK.out.mono ?_; rintro e w2 ⟨v, rfl, hv⟩; obtain ⟨ao, cp, rfl⟩ := own_shape hv.1; have HV := Lib.hid hv; clear hv)))
  go_ret
  exact ⟨_, rfl, HV.out⟩
theorem held1_any (v : Value) (b : List UInt8) (nb : Nat) (c : Int) (w : World) (h : OwnB w v b) (hb : w.heap[nb]? = some (.cells #[.int .i64 c] 3 (0, 0))) (h0 : 0 ≤ c) (h1 : c + b.length ≤ 1000000000) :
    Calls Try.prog 34 #[v, .pointer (some ⟨nb, 0, none⟩)] w (Ret (.tuple #[]) (w.setCell ⟨nb, 0, none⟩ (.int .i64 (c + b.length)) = ·)) := by
  obtain ⟨ao, cp, rfl⟩ := own_shape h
  have c0 := cell_of hb 0
  have f0 := free_of hb 0
  clear h hb
  go_enter Try.func34, Try.ntmps34
  go_wp2
  go_end0
  exact ⟨rfl, rfl⟩
/-- a list's row grows at a box -/
def WI (w : World) (nb base : Nat) (xs : List UInt8) (W : World) : Prop := ∃ v, W.heap[nb]? = some (.cells #[v] 22 (0, 0)) ∧ W.ownsRow base 5 1 v xs.length (xs.map u8) ∧ Frm [nb] w W
set_option maxHeartbeats 1000000 in
theorem add1_any (v : Value) (b xs : List UInt8) (nb base : Nat) (w0 w : World) (h : OwnB w v b) (hw : WI w0 nb base xs w) (hb : w0.heap.size ≤ base) (hnb : nb < w0.heap.size) (hn : xs.length + b.length ≤ 4000000) (hbw : base ≤ w.heap.size) :
    Calls Try.prog 42 #[v, .pointer (some ⟨nb, 0, none⟩)] w (Ret (.tuple #[]) (WI w0 nb base (xs ++ b))) := by
  obtain ⟨u, h1, h2, h3⟩ := hw
  have hby := Lib.hid (Byts.of_own h)
  obtain ⟨ao, cp, rfl⟩ := own_shape h
  obtain ⟨au, cu, rfl⟩ := own_shape h2
  have c0 := cell_of h1 0
  have H1 := Lib.hid h1; have H2 := Lib.hid h2; have H3 := Lib.hid h3
  have HGE : Hid (∀ k, (Value.slice au xs.length cu).ownBlock = some k → base ≤ k) := Lib.hid fun k hk => ownBlock_ge h2 hk
  clear h h1 h2 h3
  go_enter Try.func42, Try.ntmps42
  go_wp2_with (at_builtin; refine wpList_app_bytes rfl (.tmp 3) (.tmp 4) rfl base (.slice au xs.length cu) (.slice ao b.length cp) ?_ ?_ xs b ?_ ?_ ?_ ?_ ?_; go_must ((focus (go_simp; done)); (focus (go_simp; done)); (exact H2.out); (exact hby.out); (exact hn); (exact hbw); intro ao2 cp2 w2 hown hgrow; have hg2 := grown_at hgrow H1.out (fun e => by have := HGE.out nb e; omega); have c0' := cell_of hg2 0; have f0' := free_of hg2 0; have HO := Lib.hid hown; have HG := Lib.hid hgrow; have HB2 := Lib.hid hg2; clear hown hgrow hg2))
  go_end0
  have ho : w2.ownsRow base 5 1 (.slice ao2 (xs.length + b.length) cp2) (xs ++ b).length ((xs ++ b).map u8) := by
    have := HO.out
    rw [List.length_append] at this ⊢
    exact this
  refine ⟨rfl, _, (block_setCell HB2.out 0 _).trans rfl, ?_, ?_⟩
  · exact ((Frm.refl [nb] w2).setCell _ (.inl (by simp)) _).owns ho (fun k hk hx => by have := ownBlock_ge ho hk; simp at hx; omega)
  · exact (H3.out.grown HG.out (fun k hk => .inr (by have := HGE.out k hk; omega))).setCell _ (.inl (by simp)) _
end Go.Proofs.Ytomjnbcaofebfaa
