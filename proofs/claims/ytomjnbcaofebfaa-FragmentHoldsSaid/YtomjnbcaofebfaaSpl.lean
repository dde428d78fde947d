/- Parts: lists of them; Split. -/
import Derived.Test.YtomjnbcaofebfaaLeaf
namespace Go.Proofs.Ytomjnbcaofebfaa
open Go.RowKit Go.BigFrame

/-- a struct stored into the midst of a block -/
theorem wpList_store_at {P : Program} {ops : Array Oper} {rest : List Oper} {o : Oper} {a : Act} {Q : Exit → Act → World → Prop} {w : World} (hgd : o.guard = none) (ty : TypeId) (x y : Operand) (ho : o.op = .store ty x y) (b off : Nat) (A C : Array Value) (t : TypeId) (hx : a.eval x = .pointer (some ⟨b, off, none⟩)) (hy : a.eval y = .agg A)
    (hb : w.heap[b]? = some (.cells C t (0, 0))) (hs : off + A.size ≤ C.size) (hi : (P.info? ty).map (·.size) = some A.size) (h1 : A.all (·.oneCell') = true)
    (h : ∀ w' C', w'.heap[b]? = some (.cells C' t (0, 0)) → C'.size = C.size → (∀ j, j < off → C'[j]? = C[j]?) → (∀ j v, A[j]? = some v → C'[off + j]? = some v) → Frm [b] w w' → wpList P ops Q rest (a.put o.dst undef) w') : wpList P ops Q (o :: rest) a w := by
  obtain ⟨C', k1, k2, k3, k4, k5⟩ := setCells_block A.toList off w b C t hb (by simpa using hs)
  refine wpList_store_mid hgd ty x y ho b off A hx hy (fun j hj => ⟨?_, ?_⟩) hi h1 (h _ C' k1 k2 k3 (fun j v hv => k4 j v (by simpa using hv)) k5)
  · rw [cell_of hb]; simp [show off + j < C.size by omega]
  · exact free_of hb _
/-- a part in four cells -/
def PrtAt (base : Nat) (w : World) (b o : Nat) (p : Prt) : Prop :=
  ∃ bv, w.cell? ⟨b, o, none⟩ = some (.int .i64 p.msg) ∧ w.cell? ⟨b, o + 1, none⟩ = some (.int .i64 p.num) ∧ w.cell? ⟨b, o + 2, none⟩ = some (.int .i64 p.cnt) ∧ w.cell? ⟨b, o + 3, none⟩ = some bv ∧ Byts w bv p.b ∧ ∀ j, bv.ownBlock = some j → base ≤ j
theorem PrtAt.low {base base' : Nat} {w : World} {b o : Nat} {p : Prt} (h : PrtAt base w b o p) (hb : base' ≤ base) : PrtAt base' w b o p := by
  obtain ⟨bv, h1, h2, h3, h4, h5, h6⟩ := h
  exact ⟨bv, h1, h2, h3, h4, h5, fun j hj => by have := h6 j hj; omega⟩
theorem PrtAt.frm {base : Nat} {F : List Nat} {w w' : World} {b o : Nat} {p : Prt} (h : PrtAt base w b o p) (hf : Frm F w w') (hF : ∀ x ∈ F, x < base) (hb : base ≤ b) : PrtAt base w' b o p := by
  obtain ⟨bv, h1, h2, h3, h4, h5, h6⟩ := h
  have hn : b ∉ F := fun hx => by have := hF b hx; omega
  exact ⟨bv, hf.cellAt h1 hn, hf.cellAt h2 hn, hf.cellAt h3 hn, hf.cellAt h4 hn, h5.frm hf (fun k hk hx => by have := hF k hx; have := h6 k hk; omega), h6⟩
/-- a slice of parts -/
def Prts (base : Nat) (w : World) (v : Value) (ps : List Prt) : Prop :=
  ∃ ao cap, v = .slice ao ps.length cap ∧ ps.length ≤ cap ∧ (∀ a, ao = some a → base ≤ a.block) ∧ ∀ k p, ps[k]? = some p → ∃ b o, ao = some ⟨b, o, none⟩ ∧ PrtAt base w b (o + k * 4) p
theorem Prts.frm {base : Nat} {F : List Nat} {w w' : World} {v : Value} {ps : List Prt} (h : Prts base w v ps) (hf : Frm F w w') (hF : ∀ x ∈ F, x < base) : Prts base w' v ps := by
  obtain ⟨ao, cap, rfl, h1, h2, h3⟩ := h
  refine ⟨ao, cap, rfl, h1, h2, fun k p hk => ?_⟩
  obtain ⟨b, o, rfl, e⟩ := h3 k p hk
  exact ⟨b, o, rfl, e.frm hf hF (h2 _ rfl)⟩
theorem Prts.nil (base : Nat) (w : World) : Prts base w (.slice none 0 0) [] := ⟨none, 0, rfl, Nat.le_refl _, (fun a h => by cases h), fun k p h => by simp at h⟩
/-- a part of the bytes -/
def chunk (b : List UInt8) (s i : Nat) : List UInt8 := (b.take (min b.length ((i + 1) * s))).drop (i * s)
def nparts (len s : Nat) : Nat := max 1 ((len + s - 1) / s)
def splitL (m : Int) (b : List UInt8) (s n : Nat) : List Prt := (List.range n).map fun (i : Nat) => ⟨m, i, n, chunk b s i⟩
theorem splitL_at {m : Int} {b : List UInt8} {s n k : Nat} {p : Prt} (h : (splitL m b s n)[k]? = some p) : k < n ∧ p = ⟨m, k, n, chunk b s k⟩ := by
  have hk := lt_of_some h
  simp only [splitL, List.length_map, List.length_range] at hk
  simp only [splitL, List.getElem?_map, List.getElem?_range hk, Option.map_some, Option.some.injEq] at h
  exact ⟨hk, h.symm⟩
theorem nparts_pos (len s : Nat) : 1 ≤ nparts len s := Nat.le_max_left _ _
theorem chunk_le {len s i : Nat} (hs : 1 ≤ s) (hi : i < nparts len s) : i * s ≤ len := by
  unfold nparts at hi
  rcases Nat.lt_or_ge i 1 with h | h
  · have : i = 0 := by omega
    subst this; simp
  · have h1 : i < (len + s - 1) / s := by omega
    have h2 : (i + 1) * s ≤ len + s - 1 := (Nat.le_div_iff_mul_le (by omega)).1 h1
    rw [Nat.add_mul] at h2
    omega
/-- while the parts are filled in -/
structure SI (w : World) (m : Int) (b : List UInt8) (s n : Nat) (bv : Value) (i : Nat) (wr : World) : Prop where
  fr : Frm [] w wr
  row : ∃ cur, wr.heap[w.heap.size]? = some (.cells cur 38 (0, 0)) ∧ cur.size = n * 4
  at' : ∀ k, k < i → PrtAt (w.heap.size + 1) wr w.heap.size (k * 4) ⟨m, k, n, chunk b s k⟩
def splitE (m size : Int) (len : Nat) : Int := if wi m 0 65535 && wi size 1 1024 then (if 255 < nparts len size.toNat then 5 else 0) else 2
def SplitTo (w : World) (m : Int) (b : List UInt8) (size : Int) (v : Value) (w' : World) : Prop :=
  ∃ lv, v = .tuple #[lv, .int .i64 (splitE m size b.length)] ∧ Prts w.heap.size w' lv (if splitE m size b.length = 0 then splitL m b size.toNat (nparts b.length size.toNat) else []) ∧ Frm [] w w'
set_option maxHeartbeats 1000000 in
theorem split_bad (m size : Int) (b : List UInt8) (bv : Value) (w : World) (h : Byts w bv b) (hn : b.length ≤ 3000) (he : splitE m size b.length ≠ 0) : Calls Try.prog 9 #[.int .i64 m, bv, .int .i64 size] w (RetV (SplitTo w m b size)) := by
  obtain ⟨ao, cap, rfl, hcap⟩ := h.len
  have E : ∀ e : Int, splitE m size b.length = e → e ≠ 0 → SplitTo w m b size (.tuple #[.slice none 0 0, .int .i64 e]) w := fun e he h0 => ⟨_, by rw [he], by rw [if_neg (by rw [he]; exact h0)]; exact Prts.nil _ _, Frm.refl _ _⟩
  cases h1 : wi m 0 65535 with
  | false =>
    have HE := Lib.hid (E 2 (by unfold splitE; simp [h1]) (by decide))
    clear E h he
    go_enter Try.func9, Try.ntmps9
    go_wp2_with (go_at_call 28; go_must (refine (within_any _ _ _ _).mono ?_; rintro e w' ⟨rfl, rfl⟩))
    go_ret2
    exact ⟨_, rfl, HE.out⟩
  | true =>
    cases h2 : wi size 1 1024 with
    | false =>
      have HE := Lib.hid (E 2 (by unfold splitE; simp [h2]) (by decide))
      clear E h he
      go_enter Try.func9, Try.ntmps9
      go_wp2_with (go_at_call 28; go_must (refine (within_any _ _ _ _).mono ?_; rintro e w' ⟨rfl, rfl⟩))
      go_ret2
      exact ⟨_, rfl, HE.out⟩
    | true =>
      obtain ⟨hs1, hs2⟩ := wi_iff.1 h2
      obtain ⟨s, rfl⟩ := Int.eq_ofNat_of_zero_le (show 0 ≤ size by omega)
      have h255 : 255 < nparts b.length s := by
        unfold splitE at he
        simp only [h1, h2, Bool.and_self, if_true, Int.toNat_natCast] at he
        by_cases h : 255 < nparts b.length s
        · exact h
        · rw [if_neg h] at he; exact absurd rfl he
      have HE := Lib.hid (E 5 (by unfold splitE; simp [h1, h2, h255]) (by decide))
      clear E h he
      generalize b.length = len at *
      have hq : 255 < ((len : Int) + (s : Int) - 1) / (s : Int) := by
        unfold nparts at h255
        have h3 : 255 < (len + s - 1) / s := by omega
        have h4 : (((len + s - 1) / s : Nat) : Int) = ((len : Int) + (s : Int) - 1) / (s : Int) := by
          rw [Int.natCast_ediv, Int.natCast_sub (by omega)]; simp
        omega
      go_enter Try.func9, Try.ntmps9
      go_wp2_with (go_at_call 28; go_must (refine (within_any _ _ _ _).mono ?_; rintro e w' ⟨rfl, rfl⟩))
      go_ret2
      exact ⟨_, rfl, HE.out⟩
theorem SI.step {w w2 w3 wr : World} {m : Int} {b : List UInt8} {s n i cp2 : Nat} {bv : Value} {ao2 : Option Addr} {L : List UInt8} {cur C3 : Array Value} (h : SI w m b s n bv i wr) (hf : Fresh wr L (.slice ao2 L.length cp2) w2) (hx : wr.heap[w.heap.size]? = some (.cells cur 38 (0, 0)) ∧ cur.size = n * 4)
    (hL : chunk b s i = L) (hi : i < n) (g1 : w3.heap[w.heap.size]? = some (.cells C3 38 (0, 0))) (g2 : C3.size = cur.size) (g3 : ∀ j, j < i * 4 → C3[j]? = cur[j]?) (g4 : ∀ j v, (#[.int .i64 m, .int .i64 i, .int .i64 n, .slice ao2 L.length cp2] : Array Value)[j]? = some v → C3[i * 4 + j]? = some v) (g5 : Frm [w.heap.size] w2 w3) :
    SI w m b s n bv (i + 1) w3 := by
  have hs := h.fr.size
  have hlt := lt_of_block hx.1
  have hfr : Frm [w.heap.size] wr w3 := (hf.2.mono (by simp)).trans g5
  refine ⟨h.fr.then hfr (fun x hx => by simp at hx; subst hx; exact .inr (Nat.le_refl _)), ⟨C3, g1, by rw [g2, hx.2]⟩, fun k hk => ?_⟩
  by_cases e : k = i
  · subst e
    refine ⟨.slice ao2 L.length cp2, ?_, ?_, ?_, ?_, ?_, fun j hj => ?_⟩
    · rw [cell_of g1]; exact g4 0 _ rfl
    · rw [cell_of g1]; exact g4 1 _ rfl
    · rw [cell_of g1]; exact g4 2 _ rfl
    · rw [cell_of g1]; exact g4 3 _ rfl
    · show Byts w3 _ (chunk b s k)
      rw [hL]
      exact hf.byts.frm g5 (fun j hj hx => by have := ownBlock_ge hf.1 hj; simp at hx; omega)
    · have := ownBlock_ge hf.1 hj; have := lt_of_block hx.1; omega
  · obtain ⟨bv', q1, q2, q3, q4, q5, q6⟩ := h.at' k (by omega)
    have hc : ∀ o v, o < i * 4 → wr.cell? ⟨w.heap.size, o, none⟩ = some v → w3.cell? ⟨w.heap.size, o, none⟩ = some v := fun o v ho hv => by
      rw [cell_of g1, g3 o ho, ← cell_of hx.1]; exact hv
    exact ⟨bv', hc _ _ (by omega) q1, hc _ _ (by omega) q2, hc _ _ (by omega) q3, hc _ _ (by omega) q4, q5.frm hfr (fun j hj hx => by have := q6 j hj; simp at hx; omega), q6⟩
theorem SI.done {w w' : World} {m : Int} {b : List UInt8} {s n : Nat} {bv : Value} (h : SI w m b s n bv n w') : Prts w.heap.size w' (.slice (some ⟨w.heap.size, 0, none⟩) n n) (splitL m b s n) := by
  have hl : (splitL m b s n).length = n := by simp [splitL]
  refine ⟨_, n, by rw [hl], by omega, fun a ha => by cases ha; exact Nat.le_refl _, fun k p hk => ?_⟩
  obtain ⟨hkn, rfl⟩ := splitL_at hk
  exact ⟨_, 0, rfl, by rw [Nat.zero_add]; exact (h.at' k hkn).low (by omega)⟩
theorem Try.size38 : (Try.prog.info? 38).map (·.size) = some 4 := by kernel_rfl
theorem Try.info38 : (Try.prog.info? 38).map (fun i => (i.zero, i.size, i.bytes)) = some (some (.agg #[.int .i64 0, .int .i64 0, .int .i64 0, .slice none 0 0]), 4, 48) := by kernel_rfl
theorem made_parts (n : Nat) (hn : n ≤ 255) : ∃ C : Array Value, C.size = n * 4 ∧ ∀ W : World, (Instr.makeSlice 24 (.int .i64 (n : Int)) (.int .i64 (n : Int))).run Try.prog W = .ok (.slice (some ⟨W.heap.size, 0, none⟩) n n) (W.alloc (.cells C 38)) := by
  obtain ⟨i0, hi0, hz0, hz1, hz2⟩ := info_parts Try.info38
  refine ⟨madeCells (Value.agg #[.int .i64 0, .int .i64 0, .int .i64 0, .slice none 0 0]).cells (n * i0.size), ?_, fun W => ?_⟩
  · rw [hz1]; exact size_madeCells _ _
  · have := run_makeSlice (P := Try.prog) W 24 38 i0 _ Try.underlying24 hi0 hz0 .i64 .i64 (n : Int) (n : Int) (by omega) (Int.le_refl _) (by rw [hz1]; simp; omega) (by rw [hz2]; omega) (by omega)
    simpa using this
theorem four_cells {w : World} {g n i : Nat} {cur : Array Value} (h : w.heap[g]? = some (.cells cur 38 (0, 0))) (hs : cur.size = n * 4) (hi : i < n) :
    (w.cell? ⟨g, i * 4, none⟩).isSome = true ∧ (w.cell? ⟨g, i * 4 + 1, none⟩).isSome = true ∧ (w.cell? ⟨g, i * 4 + 2, none⟩).isSome = true ∧ (w.cell? ⟨g, i * 4 + 3, none⟩).isSome = true ∧
    w.frozen? ⟨g, i * 4, none⟩ = false ∧ w.frozen? ⟨g, i * 4 + 1, none⟩ = false ∧ w.frozen? ⟨g, i * 4 + 2, none⟩ = false ∧ w.frozen? ⟨g, i * 4 + 3, none⟩ = false := by
  have hc : ∀ o, o < cur.size → (w.cell? ⟨g, o, none⟩).isSome = true := fun o ho => by rw [cell_of h, Array.getElem?_eq_getElem ho]; rfl
  exact ⟨hc _ (by omega), hc _ (by omega), hc _ (by omega), hc _ (by omega), free_of h _, free_of h _, free_of h _, free_of h _⟩
theorem nparts_int {len s : Nat} (hs : 1 ≤ s) : max 1 (((len : Int) + (s : Int) - 1) / (s : Int)) = ((nparts len s : Nat) : Int) := by
  have h4 : (((len + s - 1) / s : Nat) : Int) = ((len : Int) + (s : Int) - 1) / (s : Int) := by
    rw [Int.natCast_ediv, Int.natCast_sub (by omega)]; simp
  unfold nparts
  omega
set_option maxHeartbeats 1000000 in
set_option maxRecDepth 100000 in
theorem split_good (m size : Int) (b : List UInt8) (bv : Value) (w : World) (h : Byts w bv b) (hn : b.length ≤ 3000) (he : splitE m size b.length = 0) : Calls Try.prog 9 #[.int .i64 m, bv, .int .i64 size] w (RetV (SplitTo w m b size)) := by
  obtain ⟨ao, cap, rfl, hcap⟩ := h.len
  have h1 : wi m 0 65535 = true := by
    cases h1 : wi m 0 65535 with
    | true => rfl
    | false => unfold splitE at he; simp [h1] at he
  have h2 : wi size 1 1024 = true := by
    cases h2 : wi size 1 1024 with
    | true => rfl
    | false => unfold splitE at he; simp [h2] at he
  obtain ⟨hs1, hs2⟩ := wi_iff.1 h2
  obtain ⟨s, rfl⟩ := Int.eq_ofNat_of_zero_le (show 0 ≤ size by omega)
  have h255 : nparts b.length s ≤ 255 := by
    unfold splitE at he
    simp only [h1, h2, Bool.and_self, if_true, Int.toNat_natCast] at he
    by_cases h : 255 < nparts b.length s
    · rw [if_pos h] at he; cases he
    · omega
  have hmx := nparts_int (len := b.length) (s := s) (by omega)
  have HCL := Lib.hid (fun i (hi : i < nparts b.length s) => chunk_le (len := b.length) (s := s) (by omega) hi)
  have HE := Lib.hid he
  have HB := Lib.hid h
  have hp := nparts_pos b.length s
  obtain ⟨n, hnn⟩ : ∃ n, nparts b.length s = n := ⟨_, rfl⟩
  have HN := Lib.hid hnn
  rw [hnn] at h255 hmx HCL hp
  obtain ⟨C, hC, hmk⟩ := made_parts n h255
  clear h he hnn
  go_enter Try.func9, Try.ntmps9
  go_wp2_with (go_at_call 28; go_must (refine (within_any _ _ _ _).mono ?_; rintro e w' ⟨rfl, rfl⟩))
  have HS0 : Hid (SI w m b s n (.slice ao b.length cap) 0 (w.alloc (.cells C 38))) := Lib.hid ⟨(Frm.refl _ _).alloc _, ⟨C, heap_alloc_new _ _, hC⟩, fun k hk => by omega⟩
  clear hmk hC
  go_loopw [34] (fun s34 wr => ∃ i : Nat, s34 = .int .i64 i ∧ i ≤ n ∧ SI w m b s n (.slice ao b.length cap) i wr) (fun s34 _ => n - (intOf s34).toNat)
  case atStart => exact ⟨0, rfl, Nat.zero_le _, HS0.out⟩
  case round =>
    clear HS0
    obtain ⟨i, rfl, hi, hsi⟩ := hrel
    have HI := Lib.hid hsi
    clear hsi
    by_cases hlt : i < n
    · have hlt' : (i : Int) < (n : Int) := by omega
      have hcl := HCL.out i hlt
      obtain ⟨p0, hp0⟩ : ∃ p, i * s = p := ⟨_, rfl⟩
      obtain ⟨p1, hp1⟩ : ∃ p, (i + 1) * s = p := ⟨_, rfl⟩
      have hms : ((i : Int) + 1) * (s : Int) = (p1 : Int) := by rw [← hp1]; push_cast; rfl
      have hms2 : (i : Int) * (s : Int) = (p0 : Int) := by rw [← hp0]; push_cast; rfl
      rw [hp0] at hcl
      have hsum : p1 = p0 + s := by rw [← hp1, ← hp0, Nat.add_mul]; omega
      obtain ⟨q, hq⟩ : ∃ q, min b.length p1 = q := ⟨_, rfl⟩
      have hmn : min (b.length : Int) (p1 : Int) = (q : Int) := by omega
      have hq1 : p0 ≤ q := by omega
      have hq2 : q ≤ b.length := by omega
      have hc3 := HB.out.cut3 (lo := (p0 : Int)) (hi := (q : Int)) rfl rfl hq1 hq2
      have hlL : ((b.take q).drop p0).length ≤ 3000 := by simp; omega
      obtain ⟨L, hL⟩ : ∃ L, (b.take q).drop p0 = L := ⟨_, rfl⟩
      have HCH : Hid (L = chunk b s i) := Lib.hid (by rw [chunk, hp0, hp1, hq, hL])
      rw [hL] at hc3 hlL
      obtain ⟨v', hcut, hbv, ⟨ao', cap', rfl⟩, -⟩ := hc3
      have CC := Lib.hid (clone_any _ _ wr (hbv.frm0 HI.out.fr) (by omega))
      clear hL
      have hb1 : p1 ≤ 5000 := by omega
      have hb0 : p0 ≤ 3000 := by omega
      clear hbv hp0 hp1 hq hsum
      obtain ⟨cur, hcur, hsz⟩ := HI.out.row
      have HX : Hid (wr.heap[w.heap.size]? = some (.cells cur 38 (0, 0)) ∧ cur.size = n * 4) := Lib.hid ⟨hcur, hsz⟩
      clear hcur hsz
      go_wp2_with (first
        | (go_at_call 29; go_must (refine CC.out.mono ?_; clear CC; rintro e w2 ⟨v, rfl, hf⟩; obtain ⟨ao2, cp2, rfl⟩ := own_shape hf.1; have HF := Lib.hid hf; have hrow := Lib.hid (hf.2.at HX.out.1 (by simp)); clear hf))
        | (refine wpList_store_at rfl 38 (.tmp 58) (.tmp 57) rfl w.heap.size (i * 4) #[.int .i64 m, .int .i64 i, .int .i64 n, .slice ao2 L.length cp2] cur 38 ?_ ?_ hrow.out ?_ Try.size38 ?_ ?_; go_must ((focus (go_simp; done)); (focus (go_simp; done)); (focus (have := HX.out.2; simp; omega)); (focus (simp [Value.oneCell']; done)); intro w3 C3 g1 g2 g3 g4 g5; have HG := Lib.hid (And.intro g1 (And.intro g2 (And.intro g3 (And.intro g4 g5)))); clear g1 g2 g3 g4 g5)))
      refine ⟨⟨i + 1, by simp, hlt, ?_⟩, by simp [intOf]; omega⟩
      have hL := HCH.out
      obtain ⟨g1, g2, g3, g4, g5⟩ := HG.out
      exact HI.out.step HF.out HX.out (by rw [← hL]) hlt g1 g2 g3 g4 g5
    · obtain rfl : i = n := by omega
      have hge : ¬ (i : Int) < (i : Int) := by omega
      go_wp2
      go_ret2
      refine ⟨_, rfl, .slice (some ⟨w.heap.size, 0, none⟩) i i, by rw [HE.out]; rfl, ?_, HI.out.fr⟩
      rw [if_pos HE.out, Int.toNat_natCast, HN.out]
      exact HI.out.done
end Go.Proofs.Ytomjnbcaofebfaa
