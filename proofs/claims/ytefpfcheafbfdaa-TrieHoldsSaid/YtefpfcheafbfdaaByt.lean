/- Slices of bytes: what they read as; conversions, parts of them, appends. -/
import Derived.Test.YtefpfcheafbfdaaRow
import Derived.Test.YtefpfcheafbfdaaCq
import Derived.Test.YtefpfcheafbfdaaProg
import Derived.Laws.IdiomStrings
import Derived.Shelf.Bytes.SlSmallAll
import Derived.Deep.Upon
import Derived.ArgAppend
import Derived.Deep.AppendLies
import Derived.Maps.AppendAt
import Derived.Lib.Hide
import Derived.Deep.DeepMust
import Derived.WalkLawsBesides
import Derived.BigRegion
import Derived.Deep.RegionHeld3
import Derived.Deep.RegionLaw
import Derived.Deep.DeepCutAuto
namespace Go.Proofs.Ytefpfcheafbfdaa
open Go.RowKit Go.BigFrame

theorem alloc_top {w : World} {o : Obj} {n : Nat} (h : n = w.heap.size) : (w.alloc o).heap[n]? = some o := by subst h; exact heap_alloc_new _ _
theorem own_shape {w : World} {base e size n : Nat} {v : Value} {xs : List Value} (h : w.ownsRow base e size v n xs) : ∃ ao cp, v = .slice ao n cp := by
  rcases h.2 with ⟨rfl, rfl⟩ | ⟨g, c, cur, h2, -⟩
  · exact ⟨_, _, rfl⟩
  · exact ⟨_, _, h2⟩
theorem own_low {w : World} {base base' e size n : Nat} {v : Value} {xs : List Value} (h : w.ownsRow base e size v n xs) (hb : base' ≤ base) : w.ownsRow base' e size v n xs := by
  rcases h with ⟨h1, h2 | ⟨g, c, cur, h2, h3, h4⟩⟩
  · exact ⟨h1, .inl h2⟩
  · exact ⟨h1, .inr ⟨g, c, cur, h2, Nat.le_trans hb h3, h4⟩⟩
theorem ownBlock_ge {w : World} {base e size n : Nat} {v : Value} {xs : List Value} (ho : w.ownsRow base e size v n xs) {k : Nat} (hk : v.ownBlock = some k) : base ≤ k := by
  obtain ⟨_, h2⟩ := ho
  rcases h2 with ⟨rfl, _⟩ | ⟨g, cap, cur, rfl, hg, hh, r⟩
  · simp [Value.ownBlock] at hk
  · simp [Value.ownBlock] at hk; subst hk; exact hg
theorem lt_of_some {α : Type} {l : List α} {k : Nat} {x : α} (h : l[k]? = some x) : k < l.length := (List.getElem?_eq_some_iff.1 h).1
theorem cell_lt {w : World} {k o : Nat} {v : Value} (h : w.cell? ⟨k, o, none⟩ = some v) : k < w.heap.size := World.block_lt_of_cell? _ _ h

/-- a byte's cell -/
def u8 (x : UInt8) : Value := .int .u8 (x.toNat : Int)
/-- a slice that reads as these bytes -/
def Byts (w : World) (v : Value) (l : List UInt8) : Prop :=
  ∃ ao cap, v = .slice ao l.length cap ∧ l.length ≤ cap ∧ ∀ k x, l[k]? = some x → ∃ b o, ao = some ⟨b, o, none⟩ ∧ w.cell? ⟨b, o + k, none⟩ = some (u8 x)
theorem Byts.nil (w : World) : Byts w (.slice none 0 0) [] := ⟨none, 0, rfl, Nat.le_refl _, fun k x h => by simp at h⟩
theorem Byts.frm {F : List Nat} {w w' : World} {v : Value} {l : List UInt8} (h : Byts w v l) (hf : Frm F w w') (hn : ∀ k, v.ownBlock = some k → k ∉ F) : Byts w' v l := by
  obtain ⟨ao, cap, rfl, h1, h2⟩ := h
  refine ⟨ao, cap, rfl, h1, fun k x hk => ?_⟩
  obtain ⟨b, o, rfl, e⟩ := h2 k x hk
  exact ⟨b, o, rfl, hf.cellAt e (hn b rfl)⟩
theorem Byts.frm0 {w w' : World} {v : Value} {l : List UInt8} (h : Byts w v l) (hf : Frm [] w w') : Byts w' v l := h.frm hf (by simp)
theorem Byts.len {w : World} {v : Value} {l : List UInt8} (h : Byts w v l) : ∃ ao cap, v = .slice ao l.length cap ∧ l.length ≤ cap := by
  obtain ⟨ao, cap, h1, h2, -⟩ := h; exact ⟨ao, cap, h1, h2⟩
/-- cells of maps only change: the bytes stay -/
theorem Byts.keep {F : List Nat} {w w' : World} {v : Value} {l : List UInt8} (h : Byts w v l) (hf : Frm F w w') (hF : ∀ k ∈ F, ∀ c t fr, w.heap[k]? ≠ some (.cells c t fr)) : Byts w' v l := by
  obtain ⟨ao, cap, rfl, h1, h2⟩ := h
  refine ⟨ao, cap, rfl, h1, fun k x hk => ?_⟩
  obtain ⟨b, o, rfl, e⟩ := h2 k x hk
  refine ⟨b, o, rfl, hf.cellAt e (fun hb => ?_)⟩
  have hlt := cell_lt e
  have hg : w.heap[b]? = some (w.heap[b]) := Array.getElem?_eq_getElem hlt
  have hF' := hF b hb
  simp only [World.cell?, hg] at e hF'
  cases hob : w.heap[b] with
  | cells c t fr => exact hF' c t fr (by rw [hob])
  | _ => rw [hob] at e; simp at e
theorem Byts.of_own {w : World} {base : Nat} {v : Value} {l : List UInt8} (h : w.ownsRow base 5 1 v l.length (l.map u8)) : Byts w v l := by
  rcases h.2 with ⟨rfl, h2⟩ | ⟨g, cap, cur, rfl, -, hh, h3, -, -, h4⟩
  · obtain rfl : l = [] := List.length_eq_zero_iff.1 h2
    exact Byts.nil w
  · refine ⟨_, _, rfl, h3, fun k x hk => ⟨g, 0, rfl, ?_⟩⟩
    have hl := lt_of_some hk
    rw [Nat.zero_add, World.ownsRow.cellAt h k (by omega)]
    simp [hk]
theorem Byts.ints {w : World} {v : Value} {l : List UInt8} (h : Byts w v l) : ∃ ao cap, v = .slice ao l.length cap ∧ Lib.BytesIn w ao l.length (l.map fun x => (x.toNat : Int)) := by
  obtain ⟨ao, cap, rfl, h1, h2⟩ := h
  refine ⟨ao, cap, rfl, fun hn => ?_⟩
  obtain ⟨x, hx⟩ : ∃ x, l[0]? = some x := ⟨_, List.getElem?_eq_getElem hn⟩
  obtain ⟨b, o, rfl, -⟩ := h2 0 x hx
  refine ⟨b, o, rfl, fun i hi => ?_⟩
  obtain ⟨b', o', hb, e⟩ := h2 i _ (List.getElem?_eq_getElem hi)
  cases hb
  rw [e]
  simp [u8, hi]
/-- the text of bytes -/
def txt (l : List UInt8) : ByteArray := ⟨l.toArray⟩
theorem txt_inj {a b : List UInt8} (h : txt a = txt b) : a = b := by
  have := congrArg (fun x : ByteArray => x.data.toList) h
  simpa [txt] using this
theorem Byts.conv {w : World} {v : Value} {l : List UInt8} (h : Byts w v l) : (convert 23 9 v).run Try.prog w = .ok (.string (txt l)) w := by
  obtain ⟨ao, cap, rfl, h1, h2⟩ := h
  cases l with
  | nil => exact run_convert_bytes_zero w 23 5 Try.underlying23 Try.underlying5 ao cap 9 Try.underlying9
  | cons x l =>
    obtain ⟨b, o, rfl, -⟩ := h2 0 x rfl
    refine run_convert_bytes_back w 23 9 5 ⟨b, o, none⟩ cap (x :: l) Try.underlying23 Try.underlying5 Try.underlying9 (fun j hj => ?_)
    obtain ⟨b', o', hb, e⟩ := h2 j _ (List.getElem?_eq_getElem hj)
    cases hb
    rw [WideShapes.add_plain]
    exact e
theorem Try.elem23 : Try.prog.elem 23 = 5 := by kernel_rfl
theorem Try.under23 : Try.prog.underlying 23 = some (.slice (Try.prog.elem 23)) := by rw [Try.elem23]; exact Try.underlying23
theorem sliced_block {ao : Option Addr} {i j m n c : Nat} {k : Nat} (hk : (sliced ao i j m 1).ownBlock = some k) : (Value.slice ao n c).ownBlock = some k := by
  cases ao with
  | none => simp only [sliced] at hk; split at hk <;> simp [Value.ownBlock] at hk
  | some a =>
    have ha : (a.add i).block = a.block := by unfold Addr.add; split <;> rfl
    simp only [sliced] at hk
    split at hk
    · exact hk
    · simp only [Option.map_some, Nat.mul_one, Value.ownBlock, Option.some.injEq] at hk
      rw [ha] at hk
      simp [Value.ownBlock, hk]
theorem Byts.sliced {w : World} {ao : Option Addr} {cap : Nat} {l : List UInt8} (h : Byts w (.slice ao l.length cap) l) {i j m : Nat} (h1 : i ≤ j) (h2 : j ≤ l.length) (hm : j ≤ m) : Byts w (sliced ao i j m 1) ((l.take j).drop i) := by
  obtain ⟨ao', cap', e0, h3, h4⟩ := h
  cases e0
  have hlen : ((l.take j).drop i).length = j - i := by simp; omega
  refine ⟨_, _, by rw [hlen]; rfl, by omega, fun k x hk => ?_⟩
  have hk' := lt_of_some hk
  rw [hlen] at hk'
  rw [List.getElem?_drop, List.getElem?_take_of_lt (by omega)] at hk
  obtain ⟨b, o, rfl, e⟩ := h4 (i + k) x hk
  refine ⟨b, o + i, ?_, by rw [← e]; congr 2; omega⟩
  rw [if_neg (by omega), Option.map_some, WideShapes.add_plain, Nat.mul_one]
section
variable {w : World} {v : Value} {l : List UInt8} {lo hi : Int} {i j : Nat}
/-- what a part of b leaves -/
def CutTo (w : World) (v : Value) (l : List UInt8) (lo hi mx : Option Value) : Prop :=
  ∃ v', (∀ W, (Instr.sliceAt 23 v lo hi mx).run Try.prog W = .ok v' W) ∧ Byts w v' l ∧ (∃ ao cap, v' = .slice ao l.length cap) ∧ ∀ k, v'.ownBlock = some k → v.ownBlock = some k
/-- b[lo:hi:hi] -/
theorem Byts.cut3 (h : Byts w v l) (hl : lo = i) (hh : hi = j) (h1 : i ≤ j) (h2 : j ≤ l.length) : CutTo w v ((l.take j).drop i) (some (.int .i64 lo)) (some (.int .i64 hi)) (some (.int .i64 hi)) := by
  obtain ⟨ao, cap, rfl, h3⟩ := h.len
  subst hl hh
  have hb := h.sliced h1 h2 (Nat.le_refl j)
  refine ⟨_, fun W => ?_, hb, (let ⟨x, y, e, _⟩ := hb; ⟨x, y, e⟩), fun k hk => sliced_block hk⟩
  rw [run_sliceAt_slice W 23 _ _ _ _ Try.under23, run_slice_lhm W 23 ao l.length cap Try.under23 .i64 .i64 .i64 (i : Int) (j : Int) (j : Int) (by omega) (by omega) (by omega) (by omega), Try.elem23, Try.sizeOf5]
  simp [Result.andThen]
/-- b[lo:hi] -/
theorem Byts.cut2 (h : Byts w v l) (hl : lo = i) (hh : hi = j) (h1 : i ≤ j) (h2 : j ≤ l.length) : CutTo w v ((l.take j).drop i) (some (.int .i64 lo)) (some (.int .i64 hi)) none := by
  obtain ⟨ao, cap, rfl, h3⟩ := h.len
  subst hl hh
  have hb := h.sliced (m := cap) h1 h2 (by omega)
  refine ⟨_, fun W => ?_, hb, (let ⟨x, y, e, _⟩ := hb; ⟨x, y, e⟩), fun k hk => sliced_block hk⟩
  rw [run_sliceAt_slice W 23 _ _ _ _ Try.under23, run_slice_lh W 23 ao l.length cap Try.under23 .i64 .i64 (i : Int) (j : Int) (by omega) (by omega) (by omega), Try.elem23, Try.sizeOf5]
  simp [Result.andThen]
/-- b[:hi] -/
theorem Byts.cutH (h : Byts w v l) (hh : hi = j) (h2 : j ≤ l.length) : CutTo w v (l.take j) none (some (.int .i64 hi)) none := by
  obtain ⟨ao, cap, rfl, h3⟩ := h.len
  subst hh
  have hb := h.sliced (i := 0) (m := cap) (Nat.zero_le j) h2 (by omega)
  rw [List.drop_zero] at hb
  refine ⟨_, fun W => ?_, hb, (let ⟨x, y, e, _⟩ := hb; ⟨x, y, e⟩), fun k hk => sliced_block hk⟩
  rw [run_sliceAt_slice W 23 _ _ _ _ Try.under23, run_slice_h W 23 ao l.length cap Try.under23 .i64 (j : Int) (by omega) (by omega), Try.elem23, Try.sizeOf5]
  simp [Result.andThen]
/-- b[lo:] -/
theorem Byts.cutL (h : Byts w v l) (hl : lo = i) (h2 : i ≤ l.length) : CutTo w v (l.drop i) (some (.int .i64 lo)) none none := by
  obtain ⟨ao, cap, rfl, h3⟩ := h.len
  subst hl
  have hb := h.sliced (m := cap) h2 (Nat.le_refl _) (by omega)
  rw [List.take_length] at hb
  refine ⟨_, fun W => ?_, hb, (let ⟨x, y, e, _⟩ := hb; ⟨x, y, e⟩), fun k hk => sliced_block hk⟩
  rw [run_sliceAt_slice W 23 _ _ _ _ Try.under23, run_slice_l W 23 ao l.length cap Try.under23 .i64 (i : Int) (by omega) (by omega), Try.elem23, Try.sizeOf5]
  simp [Result.andThen]
end
theorem Try.info5 : (Try.prog.info? 5).map (fun i => (i.zero, i.size, i.bytes)) = some (some (.int .u8 0), 1, 1) := by kernel_rfl
theorem Byts.src {w : World} {v : Value} {l : List UInt8} (h : Byts w v l) : Src Try.prog 1 23 v l.length (l.map u8) w := by
  obtain ⟨ao, cap, rfl, h1, h2⟩ := h
  cases ao with
  | none =>
    cases l with
    | nil => exact Src.ofNil w Try.underlying23 cap
    | cons x l => obtain ⟨b, o, e, -⟩ := h2 0 x rfl; cases e
  | some ad =>
    refine Src.ofSlice w Try.underlying23 ad l.length cap _ (by simp) (fun j u hu => ?_) (fun u hu => by obtain ⟨x, -, rfl⟩ := List.mem_map.1 hu; rfl)
    rw [List.getElem?_map, Option.map_eq_some_iff] at hu
    obtain ⟨y, hy, rfl⟩ := hu
    obtain ⟨b, o, e, e2⟩ := h2 j y hy
    cases e
    rw [WideShapes.add_plain]; exact e2
/-- bytes appended onto a row of one's own, from wherever -/
theorem app_bytes {ty : TypeId} {W : World} {base : Nat} {v sv : Value} {xs l : List UInt8} (ho : W.ownsRow base 5 1 v xs.length (xs.map u8)) (hs : Byts W sv l) (hn : xs.length + l.length ≤ 4000000) (hb : base ≤ W.heap.size) :
    ∃ v' W', (Builtin.append_ #[23, 23] ty #[v, sv]).run Try.prog W = .ok v' W' ∧ W'.ownsRow base 5 1 v' (xs ++ l).length ((xs ++ l).map u8) ∧ W.grownBy W' v.ownBlock := by
  obtain ⟨i0, hi0, hz0, hz1, hz2⟩ := info_parts Try.info5
  have hsrc := hs.src
  cases l with
  | nil =>
    obtain ⟨ao, cp, rfl⟩ := own_shape ho
    have hcp : xs.length ≤ cp := by
      rcases ho.2 with ⟨h, h0⟩ | ⟨g, c, cur, h, -, -, h3, -⟩
      · omega
      · cases h; exact h3
    refine ⟨_, _, run_append_nothing W 23 23 ty 5 i0 Try.underlying23 hi0 ao xs.length cp hcp sv (by rw [hz1]; exact hsrc), by simpa using ho, ⟨rfl, rfl, rfl, Nat.le_refl _, fun _ _ _ => rfl⟩⟩
  | cons x l =>
    obtain ⟨ao, cap, rfl, h1, h2⟩ := hs
    obtain ⟨b, o, rfl, -⟩ := h2 0 x rfl
    obtain ⟨v', W', hrun, r1, r2, -⟩ := run_append_own (P := Try.prog) W base 23 ty 5 i0 (.int .u8 0) 1 1 Try.underlying23 hi0 hz0 hz1 hz2 rfl (by decide) v xs.length (xs.map u8) ho ⟨b, o, none⟩ (x :: l).length cap ((x :: l).map u8) (by simp) (fun j u hu => by
      rw [List.getElem?_map, Option.map_eq_some_iff] at hu
      obtain ⟨y, hy, rfl⟩ := hu
      obtain ⟨b', o', e, e2⟩ := h2 j y hy
      cases e
      rw [WideShapes.add_plain]; exact e2) (fun u hu => by obtain ⟨x, -, rfl⟩ := List.mem_map.1 hu; rfl) (by unfold maxLen; omega) (by omega) hb
    refine ⟨v', W', hrun, ?_, r2⟩
    rw [List.length_append, List.map_append]; exact r1
/-- the same at a step of the walk -/
theorem wpList_app_bytes {ops : Array Oper} {rest : List Oper} {o : Oper} {a : Act} {Q : Exit → Act → World → Prop} {w : World} (hgd : o.guard = none) (s x : Operand) (ho : o.op = .call { callee := .builtin .append, args := #[s, x], argTypes := #[23, 23] })
    (base : Nat) (v sv : Value) (hs : a.eval s = v) (hx : a.eval x = sv) (xs l : List UInt8) (hown : w.ownsRow base 5 1 v xs.length (xs.map u8)) (hsrc : Byts w sv l) (hn : xs.length + l.length ≤ 4000000) (hb : base ≤ w.heap.size)
    (h : ∀ ao cp w', w'.ownsRow base 5 1 (.slice ao (xs ++ l).length cp) (xs ++ l).length ((xs ++ l).map u8) → w.grownBy w' v.ownBlock → wpList Try.prog ops Q rest (a.put o.dst (.slice ao (xs ++ l).length cp)) w') : wpList Try.prog ops Q (o :: rest) a w := by
  refine wpList_plain hgd fun K hK => ?_
  obtain ⟨v', w', hrun, r1, r2⟩ := app_bytes (ty := o.type) hown hsrc hn hb
  obtain ⟨ao, cp, rfl⟩ := own_shape r1
  unfold Oper.wp
  simp [execOp, ho, resolve, invoke, builtin, hs, hx, hrun, Result.andThen]
  have hk := h ao cp w' r1 r2
  rw [List.length_append] at hk
  exact hK _ _ hk
/-- a slice literal of bytes is a row of one's own -/
theorem own_lit {w : World} {base : Nat} (l : List UInt8) (hb : base ≤ w.heap.size) (hl : l.length ≤ 1000000) : (w.alloc (.cells (l.map u8).toArray 5)).ownsRow base 5 1 (.slice (some ⟨w.heap.size, 0, none⟩) l.length l.length) l.length (l.map u8) :=
  ⟨by simp, .inr ⟨_, _, _, rfl, hb, heap_alloc_new _ _, Nat.le_refl _, by unfold maxLen; omega, by simp, by rw [List.toList_toArray, List.take_of_length_le (by simp)]⟩⟩
end Go.Proofs.Ytefpfcheafbfdaa
