/- product: the cursor that reads bytes. Maps whose elements are held as they are (raw values), as a function from keys. role: whether a text is a name; in the program and in the reference. role.kinds: what a look-up in its map answers. Steps held against each other; whether a step is among steps; the loop of role.few. -/
import Derived.Test.YtkphhjekfimmlaaGreatB02
import Derived.Test.YtkphhjekfimmlaaGreatB16
import Derived.Laws.OwnMore
import Derived.Test.YtkphhjekfimmlaaGreatB01
import Derived.Maps.OwnSet
import Derived.Maps.OwnOps
import Derived.Test.YtkphhjekfimmlaaGreatB06
import Derived.Laws.StructEq
namespace Go.Proofs.YtkphhjekfimmlaaGreat
open Go.RowKit Go.BigFrame

theorem or_two {x0 x1 : Nat} (h0 : x0 < 256) (h1 : x1 < 256) : bits .or .i64 ((x0 : Int) * 256) (x1 : Int) = 256 * (x0 : Int) + (x1 : Int) := by
  have e : (BitVec.ofInt 64 ((x0 : Int) * 256) ||| BitVec.ofInt 64 (x1 : Int)).toNat = 256 * x0 + x1 := by
    rw [BitVec.toNat_or, BitVec.toNat_ofInt, BitVec.toNat_ofInt]
    rw [show (((x0 : Int) * 256) % ((2 ^ 64 : Nat) : Int)).toNat = x0 <<< 8 by rw [Nat.shiftLeft_eq]; omega, show ((x1 : Int) % ((2 ^ 64 : Nat) : Int)).toNat = x1 by omega]
    rw [← Nat.shiftLeft_add_eq_or_of_lt (show x1 < 2 ^ 8 by omega), Nat.shiftLeft_eq]
    omega
  show IntKind.i64.wrap ((BitVec.ofInt 64 ((x0 : Int) * 256) ||| BitVec.ofInt 64 (x1 : Int)).toNat : Int) = _
  rw [e]
  simp [IntKind.wrap, show IntKind.i64.bits = 64 from rfl, show IntKind.i64.signed = true from rfl]
  omega
/-- the cursor at block ub: the bytes that are left, and whether there were too few -/
def CurAt (W : World) (ub : Nat) (b : List UInt8) (bad : Bool) : Prop := W.heap[ub]? = some (.cells #[.string (txt b), .bool bad] 148 (0, 0))
structure TkTo (w : World) (ub : Nat) (b : List UInt8) (bad : Bool) (n : Nat) (w' : World) : Prop where
  cur : CurAt w' ub (tkB b n) (tkF b bad n)
  frm : Frm [ub] w w'
theorem txt_size (b : List UInt8) : (txt b).size = b.length := by unfold txt; exact List.size_toArray ..
theorem ext_list (s : ByteArray) (i j : Nat) : (s.extract i j).data.toList = (s.data.toList.take j).drop i := by
  rw [ByteArray.data_extract, Array.toList_extract, List.extract_eq_take_drop, List.drop_take]
theorem txt_take (b : List UInt8) (n : Nat) : (txt b).extract 0 n = txt (b.take n) := by
  apply ByteArray.ext
  apply Array.toList_inj.1
  rw [ext_list]
  simp [txt]
theorem txt_drop (b : List UInt8) (n : Nat) : (txt b).extract n (txt b).size = txt (b.drop n) := by
  apply ByteArray.ext
  apply Array.toList_inj.1
  rw [ext_list, txt_size]
  simp [txt]
theorem made_zero (W : World) (n : Nat) (hn : n ≤ 1000) : ∃ v W', (Instr.makeSlice 26 (.int .i64 (n : Int)) (.int .i64 (n : Int))).run Tryz.prog W = .ok v W' ∧ Frm [] W W' ∧ (convert 26 9 v).run Tryz.prog W' = .ok (.string (txt (List.replicate n 0))) W' := by
  obtain ⟨i0, hi0, hz0, hz1, hz2⟩ := info_parts Tryz.info5
  have hr := run_makeSlice (P := Tryz.prog) W 26 5 i0 _ Tryz.underlying26 hi0 hz0 .i64 .i64 (n : Int) (n : Int) (by omega) (Int.le_refl _) (by rw [hz1]; simp; omega) (by rw [hz2]; omega) (by omega)
  simp only [Int.toNat_natCast, hz1, Nat.mul_one] at hr
  refine ⟨_, _, hr, (Frm.refl _ _).alloc _, ?_⟩
  have hB : Byts (W.alloc (.cells (madeCells (Value.int .u8 0).cells n) 5)) (.slice (some ⟨W.heap.size, 0, none⟩) n n) (List.replicate n 0) := by
    refine ⟨_, n, by rw [List.length_replicate], by rw [List.length_replicate]; exact Nat.le_refl _, fun k x hk => ⟨W.heap.size, 0, rfl, ?_⟩⟩
    have hkn := lt_of_some hk
    rw [List.length_replicate] at hkn
    rw [List.getElem?_replicate, if_pos hkn] at hk
    cases hk
    rw [cell_of (heap_alloc_new _ _), Nat.zero_add, ← Array.getElem?_toList, show (Value.int .u8 0).cells = #[Value.int .u8 0] from rfl, toList_madeCells_one, List.getElem?_replicate, if_pos hkn]
    rfl
  exact hB.conv
set_option maxHeartbeats 2000000 in
set_option maxRecDepth 100000 in
theorem pTake_any (ub n : Nat) (b : List UInt8) (bad : Bool) (w : World) (h : CurAt w ub b bad) (hn : n ≤ 1000) : Calls Tryz.prog 64 #[.pointer (some ⟨ub, 0, none⟩), .int .i64 n] w (Ret (.string (txt (tkV b n))) (TkTo w ub b bad n)) := by
  have hz := txt_size b
  have c0 := cell_of h 0
  have c1 := cell_of h 1
  have f0 := free_of h 0
  have f1 := free_of h 1
  have hlt := lt_of_block h
  have HB := Lib.hid h
  unfold CurAt at HB
  by_cases hl : b.length < n
  · have hl' : ((txt b).size : Int) < (n : Int) := by omega
    have HV : Hid (tkV b n = List.replicate n 0) := Lib.hid (if_pos hl)
    have HT : Hid (tkB b n = b ∧ tkF b bad n = true) := Lib.hid ⟨if_pos hl, by unfold tkF; rw [decide_eq_true hl, Bool.or_true]⟩
    obtain ⟨v, W', m1, m2, m3⟩ := made_zero (w.setCell ⟨ub, 1, none⟩ (.bool true)) n hn
    have HM := Lib.hid m2
    rw [HV.out]
    obtain ⟨z, hzz⟩ : ∃ z, txt (List.replicate n 0) = z := ⟨_, rfl⟩
    rw [hzz] at m3 ⊢
    clear h hl hn m2 hzz HV
    go_enter Tryz.func64, Tryz.ntmps64
    go_wp2
    go_ret
    have hs := block_setCell HB.out 1 (.bool true)
    have e : (#[Value.string (txt b), .bool bad] : Array Value).setIfInBounds 1 (.bool true) = #[.string (txt b), .bool true] := rfl
    rw [e] at hs
    refine ⟨rfl, ?_, ((Frm.refl [ub] w).setCell _ (.inl (by simp)) _).trans (HM.out.mono (by simp))⟩
    rw [HT.out.1, HT.out.2]
    exact HM.out.at hs (by simp)
  · have hl' : ¬ ((txt b).size : Int) < (n : Int) := by omega
    have hl2 : (n : Int) ≤ ((txt b).size : Int) := by omega
    have HV : Hid (tkV b n = b.take n) := Lib.hid (if_neg hl)
    have HT : Hid (tkB b n = b.drop n ∧ tkF b bad n = bad) := Lib.hid ⟨if_neg hl, by unfold tkF; rw [decide_eq_false hl, Bool.or_false]⟩
    have e1 := txt_take b n
    have e2 := txt_drop b n
    rw [HV.out]
    obtain ⟨z, hzz⟩ : ∃ z, txt (b.take n) = z := ⟨_, rfl⟩
    obtain ⟨y, hyy⟩ : ∃ z, txt (b.drop n) = z := ⟨_, rfl⟩
    have HY := Lib.hid hyy
    rw [hzz] at e1 ⊢
    rw [hyy] at e2
    clear h hl hn hzz hyy HV hz
    go_enter Tryz.func64, Tryz.ntmps64
    go_wp2
    go_ret
    have hs := block_setCell HB.out 0 (.string y)
    have e : (#[Value.string (txt b), .bool bad] : Array Value).setIfInBounds 0 (.string y) = #[.string y, .bool bad] := rfl
    rw [e] at hs
    refine ⟨rfl, ?_, (Frm.refl [ub] w).setCell _ (.inl (by simp)) _⟩
    rw [HT.out.1, HT.out.2]
    unfold CurAt
    rw [HY.out]
    exact hs
end Go.Proofs.YtkphhjekfimmlaaGreat
namespace Go.Proofs.YtkphhjekfimmlaaGreat
open Go.RowKit Go.Maps

def rawR (v : Value) : Option (DataW Value × List MemPlace) := some (.held v, [])
/-- the map value 'mb' holds at each key what f says; it has c entries -/
def MapAt (P : Program) (K : TypeId) (w : World) (mb : Option Nat) (n : Nat) (f : Lit → Option Value) (c : Nat) : Prop :=
  (mb = none ∧ (∀ k, f k = none) ∧ c = 0) ∨
  ∃ b D, mb = some b ∧ w.ownsMap P K rawR b n D ∧ (∀ k, Maps.has D k = (f k).isSome) ∧ (∀ k v, f k = some v → ∀ z, D.atKey k z = .held v) ∧ Maps.size D = c
noncomputable def updL (f : Lit → Option Value) (k : Lit) (o : Option Value) : Lit → Option Value := fun x => @ite _ (x = k) (Classical.propDecidable _) o (f x)
theorem updL_same (f : Lit → Option Value) (k : Lit) (o : Option Value) : updL f k o k = o := by simp [updL]
theorem updL_other (f : Lit → Option Value) {k x : Lit} (o : Option Value) (h : x ≠ k) : updL f k o x = f x := by simp [updL, h]

theorem atKey_no {D : DataW Value} (hM : Maps.IsMap D) {k : Lit} (h : Maps.has D k = false) (z : DataW Value) : D.atKey k z = z := by
  obtain ⟨es, rfl⟩ := hM
  unfold DataW.atKey
  simp only [Maps.has] at h
  have : es.find? (fun p => p.1.sameKey k) = none := by
    rw [List.find?_eq_none]
    intro x hx hk
    have := List.any_eq_false.1 h x hx
    exact this hk
  simp [this]

section
variable {P : Program} {K T E : TypeId} {w : World} {mb : Option Nat} {n c : Nat} {f : Lit → Option Value}
theorem MapAt.nil : MapAt P K w Option.none n (fun _ => Option.none) 0 := .inl ⟨rfl, fun _ => rfl, rfl⟩
theorem MapAt.made (P : Program) (K : TypeId) (w : World) : MapAt P K (w.alloc (.map #[] 0)) (some w.heap.size) 0 (fun _ => Option.none) 0 :=
  .inr ⟨_, _, rfl, World.ownsMap_made w P K rawR, fun _ => rfl, fun _ _ h => (by cases h), rfl⟩
theorem MapAt.frm {F : List Nat} {w' : World} (h : MapAt P K w mb n f c) (hf : Frm F w w') (hn : ∀ b, mb = some b → b ∉ F) : MapAt P K w' mb n f c := by
  rcases h with h | ⟨b, D, rfl, ho, r⟩
  · exact .inl h
  · obtain ⟨es, clock, hb, q⟩ := ho
    exact .inr ⟨b, D, rfl, ⟨es, clock, hf.at hb (hn b rfl), q⟩, r⟩
theorem MapAt.mono {n' : Nat} (h : MapAt P K w mb n f c) (hn : n ≤ n') : MapAt P K w mb n' f c := by
  rcases h with h | ⟨b, D, rfl, ho, r⟩
  · exact .inl h
  · exact .inr ⟨b, D, rfl, ho.mono hn, r⟩
theorem MapAt.block (h : MapAt P K w mb n f c) {b : Nat} (hb : mb = some b) : ∃ es clock, w.heap[b]? = some (.map es clock) := by
  rcases h with ⟨h, _⟩ | ⟨b', D, h, ⟨es, clock, hh, _⟩, _⟩
  · rw [h] at hb; cases hb
  · rw [h] at hb; cases hb; exact ⟨es, clock, hh⟩
theorem MapAt.count_le (h : MapAt P K w mb n f c) : c ≤ n := by
  rcases h with ⟨_, _, rfl⟩ | ⟨b, D, _, ho, _, _, rfl⟩
  · omega
  · exact ho.size_le
theorem MapAt.zero (h : MapAt P K w mb n f c) (hc : c = 0) : ∀ k, f k = Option.none := by
  rcases h with ⟨_, h, _⟩ | ⟨b, D, _, ho, h1, _, h3⟩
  · exact h
  · intro k
    have hm := ho.isMap
    have h2 := h1 k
    obtain ⟨es, rfl⟩ := hm
    simp only [Maps.size] at h3
    have : es = [] := List.length_eq_zero_iff.1 (by omega)
    subst this
    simp [Maps.has] at h2
    exact Option.not_isSome_iff_eq_none.1 (by simp [← h2])
/-- v, ok := m[k] -/
theorem MapAt.look_ok (h : MapAt P K w mb n f c) (hK : Keyed P K) (hT : P.underlying T = some (.map K E)) {z : Value} (hz : (zeroValue E).run P w = .ok z w) {key : Value} {kl : Lit} (hk : keyOf P K key = some kl) :
    (Instr.lookup T (.map mb) key true).run P w = .ok (.tuple #[(f kl).getD z, .bool (f kl).isSome]) w := by
  rcases h with ⟨rfl, h, _⟩ | ⟨b, D, rfl, ho, h1, h2, _⟩
  · rw [look_nil true hK hT hz hk]; simp [h kl]
  · obtain ⟨v, ps, hrun, hv⟩ := ho.look_ok hK hT hz (zd := .held z) (zp := []) rfl hk
    rw [hrun, h1 kl]
    congr 3
    simp only [rawR, Option.some.injEq, Prod.mk.injEq] at hv
    cases hf : f kl with
    | some x => rw [h2 kl x hf] at hv; simpa using hv.1
    | none =>
      rw [atKey_no ho.isMap (by rw [h1, hf]; rfl)] at hv
      simpa using hv.1
/-- m[k] -/
theorem MapAt.look (h : MapAt P K w mb n f c) (hK : Keyed P K) (hT : P.underlying T = some (.map K E)) {z : Value} (hz : (zeroValue E).run P w = .ok z w) {key : Value} {kl : Lit} (hk : keyOf P K key = some kl) :
    (Instr.lookup T (.map mb) key false).run P w = .ok ((f kl).getD z) w := by
  rcases h with ⟨rfl, h, _⟩ | ⟨b, D, rfl, ho, h1, h2, _⟩
  · rw [look_nil false hK hT hz hk]; simp [h kl]
  · obtain ⟨v, ps, hrun, hv⟩ := ho.lookup hK hT hz (zd := .held z) (zp := []) rfl hk
    rw [hrun]
    congr 1
    simp only [rawR, Option.some.injEq, Prod.mk.injEq] at hv
    cases hf : f kl with
    | some x => rw [h2 kl x hf] at hv; simpa using hv.1
    | none =>
      rw [atKey_no ho.isMap (by rw [h1, hf]; rfl)] at hv
      simpa using hv.1
theorem MapAt.len (h : MapAt P K w mb n f c) (hT : P.underlying T = some (.map K E)) (ty : TypeId) : (Builtin.len_ #[T] ty #[.map mb]).run P w = .ok (.int .i64 c) w := by
  rcases h with ⟨rfl, h, rfl⟩ | ⟨b, D, rfl, ho, h1, h2, rfl⟩
  · exact len_nil hT ty
  · exact ho.len hT ty
/-- m[k] = v -/
theorem MapAt.store {b : Nat} (h : MapAt P K w (some b) n f c) (hK : Keyed P K) (hT : P.underlying T = some (.map K E)) (hn : n < maxLen) {key : Value} {kl : Lit} (hk : keyOf P K key = some kl) (hkl : WideAt.IsKeyLit kl) (v : Value) :
    ∃ w', (Instr.mapUpdate T (.map (some b)) key v).run P w = .ok () w' ∧ MapAt P K w' (some b) (n + 1) (updL f kl (some v)) (if (f kl).isSome then c else c + 1) ∧ Frm [b] w w' := by
  rcases h with ⟨h, _⟩ | ⟨b', D, h, ho, h1, h2, rfl⟩
  · cases h
  · cases h
    obtain ⟨w', hrun, ho', hg⟩ := ho.update hK hT hn (d := .held v) (ps := []) hk rfl
    refine ⟨w', hrun, .inr ⟨b, _, rfl, ho', fun k => ?_, fun k u hu z => ?_, ?_⟩, (Frm.refl _ _).grown hg (by simp)⟩
    · by_cases e : k = kl
      · subst e; rw [has_put_same ho.isMap hkl, updL_same]; rfl
      · rw [has_put_other e, h1, updL_other _ _ e]
    · by_cases e : k = kl
      · subst e
        rw [updL_same] at hu; cases hu
        exact atKey_put_same ho.isMap hkl _ _
      · rw [atKey_put_other e]
        rw [updL_other _ _ e] at hu
        exact h2 k u hu z
    · rw [size_put (ho.tidy hK), h1 kl]
/-- delete(m, k) -/
theorem MapAt.drop (h : MapAt P K w mb n f c) (hK : Keyed P K) (hT : P.underlying T = some (.map K E)) {key : Value} {kl : Lit} (hk : keyOf P K key = some kl) (ty : TypeId) :
    ∃ w', (Builtin.delete_ #[T, K] ty #[.map mb, key]).run P w = .ok (.tuple #[]) w' ∧ MapAt P K w' mb n (updL f kl Option.none) (if (f kl).isSome then c - 1 else c) ∧ Frm mb.toList w w' := by
  rcases h with ⟨rfl, h, rfl⟩ | ⟨b, D, rfl, ho, h1, h2, rfl⟩
  · exact ⟨w, drop_nil hK hT hk ty, .inl ⟨rfl, fun k => by unfold updL; split <;> simp [h], by simp⟩, Frm.refl _ _⟩
  · obtain ⟨w', hrun, ho', ht⟩ := ho.drop hK hT hk ty
    refine ⟨w', hrun, .inr ⟨b, _, rfl, ho', fun k => ?_, fun k u hu z => ?_, ?_⟩, (Frm.refl _ _).grown ht.grown (by simp)⟩
    · by_cases e : k = kl
      · subst e; rw [has_del_same, updL_same]; rfl
      · rw [has_del_other e, h1, updL_other _ _ e]
    · by_cases e : k = kl
      · subst e; rw [updL_same] at hu; cases hu
      · rw [atKey_del_other e]
        rw [updL_other _ _ e] at hu
        exact h2 k u hu z
    · have := size_del (k := kl) (ho.tidy hK)
      rw [h1 kl] at this
      split at this <;> simp_all <;> omega
end
end Go.Proofs.YtkphhjekfimmlaaGreat
namespace Go.Proofs.YtkphhjekfimmlaaGreat
open Go.RowKit Go.BigFrame

/-- whether character i may stand in a name -/
def charOk (i : Nat) (c : UInt8) : Bool := letterB c.toNat || (decide (i ≠ 0) && (decide (c.toNat = 95) || (decide (48 ≤ c.toNat) && decide (c.toNat ≤ 57))))
theorem nameL_iff {l : List UInt8} : nameL l = true ↔ ∀ i c, l[i]? = some c → charOk i c = true := by
  cases l with
  | nil => simp [nameL]
  | cons a l =>
    unfold nameL
    rw [Bool.and_eq_true, List.all_eq_true]
    constructor
    · rintro ⟨h1, h2⟩ i c hc
      cases i with
      | zero => simp at hc; subst hc; unfold charOk; rw [h1]; rfl
      | succ i =>
        have := h2 c (List.mem_of_getElem? (by simpa using hc))
        unfold restB at this
        unfold charOk
        simpa [Bool.or_assoc] using this
    · intro h
      refine ⟨?_, fun c hc => ?_⟩
      · have := h 0 a (by simp)
        unfold charOk at this
        simpa using this
      · obtain ⟨i, hi⟩ := List.getElem?_of_mem hc
        have := h (i + 1) c (by simpa using hi)
        unfold charOk at this
        unfold restB
        simpa [Bool.or_assoc] using this
theorem name_no {s : ByteArray} {i : Nat} {c : UInt8} (hc : s.data.toList[i]? = some c) (h : charOk i c = false) : nameB s = false := by
  unfold nameB
  have : nameL s.data.toList = false := by
    rw [← Bool.not_eq_true, nameL_iff]
    intro h2
    rw [h2 i c hc] at h; cases h
  rw [this, Bool.and_false]
theorem name_yes {s : ByteArray} (h1 : 1 ≤ s.size) (h2 : s.size ≤ 32) (h : ∀ i c, s.data.toList[i]? = some c → charOk i c = true) : nameB s = true := by
  unfold nameB
  rw [nameL_iff.2 h, decide_eq_true h1, decide_eq_true h2]; rfl
theorem charOk_iff {i : Nat} {c : UInt8} : charOk i c = true ↔ (97 ≤ c.toNat ∧ c.toNat ≤ 122) ∨ (65 ≤ c.toNat ∧ c.toNat ≤ 90) ∨ (i ≠ 0 ∧ (c.toNat = 95 ∨ (48 ≤ c.toNat ∧ c.toNat ≤ 57))) := by
  unfold charOk letterB
  simp only [Bool.or_eq_true, Bool.and_eq_true, decide_eq_true_eq]
  omega
theorem charOk_no' {i : Nat} {c : UInt8} (h : ¬ ((97 ≤ c.toNat ∧ c.toNat ≤ 122) ∨ (65 ≤ c.toNat ∧ c.toNat ≤ 90) ∨ (i ≠ 0 ∧ (c.toNat = 95 ∨ (48 ≤ c.toNat ∧ c.toNat ≤ 57))))) : charOk i c = false := by
  rw [← Bool.not_eq_true, charOk_iff]; exact h
theorem cases95 (c : Int) : ((c != 95) = true ∧ c < 48) ∨ ((c != 95) = true ∧ 48 ≤ c ∧ c ≤ 57) ∨ ((c != 95) = true ∧ 57 < c ∧ c < 65) ∨ ((c != 95) = true ∧ 65 ≤ c ∧ c ≤ 90) ∨ ((c != 95) = true ∧ 90 < c ∧ c < 95) ∨ ((c != 95) = false ∧ 95 ≤ c ∧ c ≤ 95) ∨ ((c != 95) = true ∧ 96 ≤ c ∧ c ≤ 96) ∨ ((c != 95) = true ∧ 97 ≤ c ∧ c ≤ 122) ∨ ((c != 95) = true ∧ 122 < c) := by
  simp only [bne_iff_ne, bne_eq_false_iff_eq]
  omega
theorem casesZ (i : Nat) : (((i : Int) == 0) = true ∧ (i : Int) ≤ 0) ∨ (((i : Int) == 0) = false ∧ 1 ≤ (i : Int)) := by
  simp only [beq_iff_eq, beq_eq_false_iff_ne]
  omega
set_option maxHeartbeats 4000000 in
set_option maxRecDepth 100000 in
theorem rName_any (s : ByteArray) (w : World) : Calls Tryz.prog 114 #[.string s] w (Ret (.bool (nameB s)) (Frm [] w)) := by
  by_cases h1 : s.size < 1
  · have hn : nameB s = false := by unfold nameB; rw [decide_eq_false (by omega)]; rfl
    rw [hn]
    have h1' : (s.size : Int) < 1 := by omega
    clear hn
    go_enter Tryz.func114, Tryz.ntmps114
    go_wp2
    go_ret
    exact ⟨rfl, Frm.refl _ _⟩
  · by_cases h2 : 32 < s.size
    · have hn : nameB s = false := by unfold nameB; rw [decide_eq_false (p := s.size ≤ 32) (by omega), Bool.and_false]; rfl
      rw [hn]
      have h1' : ¬ (s.size : Int) < 1 := by omega
      have h2' : (32 : Int) < (s.size : Int) := by omega
      clear hn
      go_enter Tryz.func114, Tryz.ntmps114
      go_wp2
      go_ret
      exact ⟨rfl, Frm.refl _ _⟩
    · have h1' : ¬ (s.size : Int) < 1 := by omega
      have h2' : ¬ (32 : Int) < (s.size : Int) := by omega
      obtain ⟨n, hn⟩ : ∃ n, s.size = n := ⟨_, rfl⟩
      obtain ⟨cp, W1, hcv, hf1, hcs⟩ : ∃ cp W1, (convert 9 26 (.string s)).run Tryz.prog w = .ok (.slice (some ⟨w.heap.size, 0, none⟩) n cp) W1 ∧ Frm [] w W1 ∧ ∀ i c, s.data.toList[i]? = some c → W1.cell? ⟨w.heap.size, i, none⟩ = some (.int .u8 (c.toNat : Int)) := by
        refine ⟨_, _, by rw [← hn]; exact run_bytes_of_string w 9 26 5 s Tryz.underlying9 Tryz.underlying26 Tryz.underlying5, ((Frm.refl [] w).drew).alloc _, fun i c hc => ?_⟩
        have hl : i < s.data.size := by have := lt_of_some hc; simpa using this
        refine (cell_of (heap_alloc_new w.drew _) i).trans ?_
        rw [bytesRow_at s _ i hl]
        simp only [Array.getElem?_toList, Array.getElem?_eq_getElem hl, Option.some.injEq] at hc
        subst hc; rfl
      have HCS := Lib.hid hcs; have HF1 := Lib.hid hf1
      rw [hn] at h1 h2 h1' h2'
      have HN : Hid (s.data.toList.length = n) := Lib.hid (by rw [← hn, Array.length_toList]; rfl)
      have HS : Hid (s.size = n) := Lib.hid hn
      go_enter Tryz.func114, Tryz.ntmps114
      rw [← HS.out] at h1' h2'
      go_wp2
      clear hcs hf1 hcv h1' h2'
      go_loopw [17, 3, 4, 5] (fun s17 s3 s4 s5 wr => ∃ i : Nat, s17 = .int .i64 i ∧ i ≤ n ∧ Frm [] W1 wr ∧ ∀ j c, j < i → s.data.toList[j]? = some c → charOk j c = true) (fun s17 _ _ _ _ => n - (intOf s17).toNat)
      case atStart => exact ⟨0, rfl, Nat.zero_le _, Frm.refl _ _, fun j x hj => by omega⟩
      case round =>
        obtain ⟨i, rfl, hi, hf, hno⟩ := hrel
        have HF := Lib.hid hf; have HNO := Lib.hid hno
        clear hf hno
        by_cases hlt : i < n
        · have hlt' : (i : Int) < (n : Int) := by omega
          obtain ⟨c, hc⟩ : ∃ c, s.data.toList[i]? = some c := ⟨_, List.getElem?_eq_getElem (by rw [HN.out]; exact hlt)⟩
          have cc := HF.out.keep (HCS.out i c hc)
          have HC := Lib.hid hc
          have hb : (c.toNat : Int) < 256 := by have := c.toNat_lt; omega
          have hb0 : (0 : Int) ≤ (c.toNat : Int) := by omega
          clear hc hn
          have hcs := cases95 (c.toNat : Int)
          have hiz := casesZ i
          rcases hiz with ⟨q2, hiz⟩ | ⟨q2, hiz⟩ <;> rcases hcs with ⟨q1, h⟩ | ⟨q1, h, h'⟩ | ⟨q1, h, h'⟩ | ⟨q1, h, h'⟩ | ⟨q1, h, h'⟩ | ⟨q1, h, h'⟩ | ⟨q1, h, h'⟩ | ⟨q1, h, h'⟩ | ⟨q1, h⟩
          all_goals
            go_wp2
            all_goals first
              | (exfalso; simp at *; omega)
              | (go_ret
                 refine ⟨?_, HF1.out.trans HF.out⟩
                 rw [name_no HC.out (charOk_no' (by omega))]
                 rfl)
              | (refine ⟨⟨i + 1, congrArg (Value.int .i64) (by omega), hlt, HF.out, fun j d hj hd => ?_⟩, by simp [intOf]; omega⟩
                 by_cases e : j = i
                 · subst e
                   rw [HC.out] at hd; cases hd
                   exact charOk_iff.2 (by omega)
                 · exact HNO.out j d (by omega) hd)
        · have hge : ¬ (i : Int) < (n : Int) := by omega
          clear hn
          go_wp2
          go_ret
          refine ⟨?_, HF1.out.trans HF.out⟩
          rw [name_yes (by rw [HS.out]; omega) (by rw [HS.out]; omega) fun j d hd => HNO.out j d (by have := lt_of_some hd; rw [HN.out] at this; omega) hd]
          rfl
end Go.Proofs.YtkphhjekfimmlaaGreat
namespace Go.Proofs.YtkphhjekfimmlaaGreat
open Go.RowKit Go.Maps Go.BigFrame

/-- a number of 64 bits -/
def wf64 (x : Int) : Prop := -9223372036854775808 ≤ x ∧ x ≤ 9223372036854775807
theorem Tryz.keySK : Keyed Tryz.prog 58 := int_keyed Tryz.underlying58
theorem key_kind {t : Int} (h : wf64 t) : keyOf Tryz.prog 58 (.int .i64 t) = some (.int .i64 t) :=
  keyOf_int_mk Tryz.underlying58 (by simp only [Lit.wf, show IntKind.i64.min = -9223372036854775808 from rfl, show IntKind.i64.max = 9223372036854775807 from rfl, Bool.and_eq_true, decide_eq_true_eq]; exact h)
def wSend : ByteArray := { data := #[115, 101, 110, 100] }
def wRecv : ByteArray := { data := #[114, 101, 99, 101, 105, 118, 101] }
def wTime : ByteArray := { data := #[116, 105, 109, 101, 111, 117, 116] }
def wSil : ByteArray := { data := #[115, 105, 108, 101, 110, 116] }
/-- what kinds says of a kind: its word, whether it speaks, its condition -/
def kWord (k : Int) : ByteArray := if k = 1 then wSend else if k = 2 then wRecv else if k = 3 then wTime else if k = 4 then wSil else emptyS
def kSpeaks (k : Int) : Bool := decide (k = 1) || decide (k = 2)
def kFn (k : Int) : Value := if k = 1 then .func (.func 158) #[] #[] else if k = 2 then .func (.func 158) #[] #[] else if k = 3 then .func (.func 159) #[] #[] else if k = 4 then .func (.func 158) #[] #[] else .nilFunc
def kOk (k : Int) : Bool := decide (1 ≤ k) && decide (k ≤ 4)
theorem Tryz.zeroKind (w : World) : (zeroValue 220).run Tryz.prog w = .ok (.agg #[.string { data := #[] }, .bool false, .nilFunc]) w :=
  (zero_of_info (show (Tryz.prog.info? 220).map (fun i => (i.zero, i.size)) = some (some (.agg #[.string { data := #[] }, .bool false, .nilFunc]), 3) by kernel_rfl)).1 w
/-- the map that kinds makes -/
def KindsAt (mb : Nat) (w : World) : Prop := ∀ W, Frm [] w W → ∀ k, wf64 k →
  (Instr.lookup 221 (.map (some mb)) (.int .i64 k) true).run Tryz.prog W = .ok (.tuple #[.agg #[.string (kWord k), .bool (kSpeaks k), kFn k], .bool (kOk k)]) W ∧
  (Instr.lookup 221 (.map (some mb)) (.int .i64 k) false).run Tryz.prog W = .ok (.agg #[.string (kWord k), .bool (kSpeaks k), kFn k]) W
theorem KindsAt.frm {mb : Nat} {w w' : World} (h : KindsAt mb w) (hf : Frm [] w w') : KindsAt mb w' := fun W hW => h W (hf.trans hW)
theorem lit_ne {a b : Int} (h : a ≠ b) : (Lit.int .i64 a) ≠ (Lit.int .i64 b) := fun e => h (by cases e; rfl)
theorem kinds_at {mb : Nat} {w : World} (f : Lit → Option Value) (n c : Nat) (h : MapAt Tryz.prog 58 w (some mb) n f c)
    (hf : ∀ k, f (.int .i64 k) = if kOk k then some (.agg #[.string (kWord k), .bool (kSpeaks k), kFn k]) else none) : KindsAt mb w := by
  intro W hW k hk
  have hm := h.frm hW (by simp)
  have e1 : (f (.int .i64 k)).getD (.agg #[.string { data := #[] }, .bool false, .nilFunc]) = .agg #[.string (kWord k), .bool (kSpeaks k), kFn k] := by
    rw [hf]
    cases ho : kOk k with
    | true => rfl
    | false =>
      have hne : ¬ (1 ≤ k ∧ k ≤ 4) := by
        intro h2
        unfold kOk at ho
        rw [decide_eq_true h2.1, decide_eq_true h2.2] at ho
        cases ho
      simp only [Bool.false_eq_true, if_false, Option.getD_none]
      unfold kWord kSpeaks kFn
      rw [if_neg (by omega), if_neg (by omega), if_neg (by omega), if_neg (by omega), decide_eq_false (by omega), decide_eq_false (by omega), if_neg (by omega), if_neg (by omega), if_neg (by omega), if_neg (by omega)]
      rfl
  have e2 : (f (.int .i64 k)).isSome = kOk k := by rw [hf]; cases kOk k <;> rfl
  have h1 := hm.look_ok Tryz.keySK Tryz.underlying221 (Tryz.zeroKind W) (key_kind hk)
  have h2 := hm.look Tryz.keySK Tryz.underlying221 (Tryz.zeroKind W) (key_kind hk)
  rw [e1, e2] at h1
  rw [e1] at h2
  exact ⟨h1, h2⟩
set_option maxHeartbeats 2000000 in
set_option maxRecDepth 100000 in
theorem rKinds_any (w : World) : Calls Tryz.prog 118 #[] w (RetV fun v w' => ∃ mb, v = .map (some mb) ∧ KindsAt mb w' ∧ Frm [] w w') := by
  have hmm := @run_makeMap Tryz.prog
  have hw : ∀ k : Int, 1 ≤ k → k ≤ 4 → wf64 k := fun k h1 h2 => by unfold wf64; omega
  have M0 := MapAt.made Tryz.prog 58 w
  obtain ⟨w1, r1, M1, F1⟩ := M0.store Tryz.keySK Tryz.underlying221 (by unfold maxLen; omega) (key_kind (hw 1 (by omega) (by omega))) (by trivial) (.agg #[.string wSend, .bool true, .func (.func 158) #[] #[]])
  obtain ⟨w2, r2, M2, F2⟩ := M1.store Tryz.keySK Tryz.underlying221 (by unfold maxLen; omega) (key_kind (hw 2 (by omega) (by omega))) (by trivial) (.agg #[.string wRecv, .bool true, .func (.func 158) #[] #[]])
  obtain ⟨w3, r3, M3, F3⟩ := M2.store Tryz.keySK Tryz.underlying221 (by unfold maxLen; omega) (key_kind (hw 3 (by omega) (by omega))) (by trivial) (.agg #[.string wTime, .bool false, .func (.func 159) #[] #[]])
  obtain ⟨w4, r4, M4, F4⟩ := M3.store Tryz.keySK Tryz.underlying221 (by unfold maxLen; omega) (key_kind (hw 4 (by omega) (by omega))) (by trivial) (.agg #[.string wSil, .bool false, .func (.func 158) #[] #[]])
  have HK : Hid (KindsAt w.heap.size w4) := Lib.hid (by
    refine kinds_at _ _ _ M4 fun k => ?_
    by_cases h4 : k = 4
    · subst h4; rw [updL_same]; rfl
    rw [updL_other _ _ (lit_ne h4)]
    by_cases h3 : k = 3
    · subst h3; rw [updL_same]; rfl
    rw [updL_other _ _ (lit_ne h3)]
    by_cases h2 : k = 2
    · subst h2; rw [updL_same]; rfl
    rw [updL_other _ _ (lit_ne h2)]
    by_cases h1 : k = 1
    · subst h1; rw [updL_same]; rfl
    rw [updL_other _ _ (lit_ne h1)]
    have : kOk k = false := by
      unfold kOk
      rw [Bool.and_eq_false_iff, decide_eq_false_iff_not, decide_eq_false_iff_not]
      omega
    rw [this]; rfl)
  have HF : Hid (Frm [] w w4) := Lib.hid ((((((Frm.refl [] w).alloc _).then F1 (by simp)).then F2 (by simp)).then F3 (by simp)).then F4 (by simp))
  clear M0 M1 M2 M3 M4 F1 F2 F3 F4 hw
  unfold wSend at r1
  unfold wRecv at r2
  unfold wTime at r3
  unfold wSil at r4
  go_enter Tryz.func118, Tryz.ntmps118
  go_wp2
  go_ret
  exact ⟨_, rfl, _, rfl, HK.out, HF.out⟩
end Go.Proofs.YtkphhjekfimmlaaGreat
namespace Go.Proofs.YtkphhjekfimmlaaGreat
open Go.RowKit Go.BigFrame
def encT (t : StpD) : Array Value := #[.string t.frm, .string t.to, .int .i64 t.kind, .string t.msg, .string t.peer, .string t.ctr, .int .i64 t.low, .int .i64 t.high, .int .i64 t.add]
theorem Tryz.und60 : Tryz.prog.underlying 60 = some (.struct (Tryz.prog.fieldsOf 60)) := by kernel_rfl
theorem toList_iff {a b : ByteArray} : a.toList = b.toList ↔ a = b := by
  rw [ByteArray.toList_eq, ByteArray.toList_eq]
  exact ⟨fun h => ByteArray.ext (Array.toList_inj.mp h), fun h => by rw [h]⟩
set_option maxHeartbeats 1000000 in
set_option maxRecDepth 100000 in
theorem eql_step (a b : StpD) (w : World) : (binOp .eql 60 (.agg (encT a)) (.agg (encT b))).run Tryz.prog w = .ok (.bool (decide (a = b))) w := by
  have h : (Op.equalIn (9999 + 1) 60 (.agg (encT a)) (.agg (encT b))).run Tryz.prog w = .ok (decide (a = b)) w := by
    rw [run_equalIn_struct w 9999 60 _ _ Tryz.und60 (by kernel_rfl)]
    simp [go_sem, encT, Tryz.underlying60]
    obtain ⟨a1, a2, a3, a4, a5, a6, a7, a8, a9⟩ := a
    obtain ⟨b1, b2, b3, b4, b5, b6, b7, b8, b9⟩ := b
    simp only [toList_iff, StpD.mk.injEq]
    repeat' split
    all_goals simp [*]
  simp only [binOp]
  simp [show Op.equal 60 (.agg (encT a)) (.agg (encT b)) = Op.equalIn (9999 + 1) 60 (.agg (encT a)) (.agg (encT b)) from rfl, h]
set_option maxHeartbeats 1000000 in
theorem inStep_any (v : Value) (xs : List StpD) (y : StpD) (w : World) (h : Arr 9 SpAt w v xs) (hl : xs.length ≤ 1000) :
    Calls Tryz.prog 187 #[v, .agg (encT y)] w (Ret (.int .i64 (ixf (fun x => decide (y = x)) xs)) (Frm [] w)) := by
  obtain ⟨ao, cap, rfl, hx⟩ := h
  have HX := Lib.hid hx
  obtain ⟨n, hn⟩ : ∃ n, xs.length = n := ⟨_, rfl⟩
  rw [hn] at hl ⊢
  have HN := Lib.hid hn
  obtain ⟨W0, hW0⟩ : ∃ W0, w.alloc (.cells (encT y) 60) = W0 := ⟨_, rfl⟩
  have HW0 : Hid (Frm [] w W0) := Lib.hid (by rw [← hW0]; exact (Frm.refl _ _).alloc _)
  have HB : Hid (W0.heap[w.heap.size]? = some (.cells (encT y) 60 (0, 0))) := Lib.hid (by rw [← hW0]; exact heap_alloc_new w _)
  have HE := Lib.hid hW0
  clear hx hn hW0
  go_enter Tryz.func187, Tryz.ntmps187
  go_wp2_with (refine wpList_box_row rfl 60 _ rfl (encT y) rfl ?_; rw [HE.out])
  clear HE
  go_loopw [8, 5] (fun s8 s5 wr => ∃ i : Nat, s8 = .int .i64 i ∧ i ≤ n ∧ Frm [] W0 wr ∧ ∀ j x, j < i → xs[j]? = some x → decide (y = x) = false) (fun s8 _ _ => n - (intOf s8).toNat)
  case atStart => exact ⟨0, rfl, Nat.zero_le _, Frm.refl _ _, fun j x hj => by omega⟩
  case round =>
    obtain ⟨i, rfl, hi, hf, hno⟩ := hrel
    have HF := Lib.hid hf; have HNO := Lib.hid hno
    clear hf hno
    by_cases hlt : i < n
    · have hlt' : (i : Int) < (n : Int) := by omega
      obtain ⟨x, hx⟩ : ∃ x, xs[i]? = some x := ⟨_, List.getElem?_eq_getElem (by rw [HN.out]; exact hlt)⟩
      obtain ⟨b, o, rfl, hat⟩ := HX.out i x hx
      obtain ⟨c0, c1, c2, c3, c4, c5, c6, c7, c8⟩ := hat.frm (HW0.out.trans HF.out)
      have hbb := HF.out.at HB.out (by simp)
      have d0 : wr.cell? ⟨w.heap.size, 0, none⟩ = some (.string y.frm) := cell_of hbb 0
      have d1 : wr.cell? ⟨w.heap.size, 1, none⟩ = some (.string y.to) := cell_of hbb 1
      have d2 : wr.cell? ⟨w.heap.size, 2, none⟩ = some (.int .i64 y.kind) := cell_of hbb 2
      have d3 : wr.cell? ⟨w.heap.size, 3, none⟩ = some (.string y.msg) := cell_of hbb 3
      have d4 : wr.cell? ⟨w.heap.size, 4, none⟩ = some (.string y.peer) := cell_of hbb 4
      have d5 : wr.cell? ⟨w.heap.size, 5, none⟩ = some (.string y.ctr) := cell_of hbb 5
      have d6 : wr.cell? ⟨w.heap.size, 6, none⟩ = some (.int .i64 y.low) := cell_of hbb 6
      have d7 : wr.cell? ⟨w.heap.size, 7, none⟩ = some (.int .i64 y.high) := cell_of hbb 7
      have d8 : wr.cell? ⟨w.heap.size, 8, none⟩ = some (.int .i64 y.add) := cell_of hbb 8
      have hq : ∀ V, (binOp .eql 60 (.agg #[.string y.frm, .string y.to, .int .i64 y.kind, .string y.msg, .string y.peer, .string y.ctr, .int .i64 y.low, .int .i64 y.high, .int .i64 y.add]) (.agg #[.string x.frm, .string x.to, .int .i64 x.kind, .string x.msg, .string x.peer, .string x.ctr, .int .i64 x.low, .int .i64 x.high, .int .i64 x.add])).run Tryz.prog V = .ok (.bool (decide (y = x))) V := fun V => eql_step y x V
      have HXI := Lib.hid hx
      clear hat hx hbb
      cases hpx : decide (y = x) with
      | true =>
        rw [hpx] at hq
        have HPX := Lib.hid hpx
        clear hpx
        go_wp2
        go_quiet (fail)
        go_wp2
        go_ret
        exact ⟨by rw [ixf_some HXI.out HPX.out HNO.out]; rfl, HW0.out.trans (HF.out.drewN _)⟩
      | false =>
        rw [hpx] at hq
        have HPX := Lib.hid hpx
        clear hpx
        go_wp2
        go_quiet (fail)
        go_wp2
        refine ⟨⟨i + 1, by simp, hlt, HF.out.drewN _, fun j z hj hz => ?_⟩, by simp [intOf]; omega⟩
        by_cases e : j = i
        · subst e; rw [HXI.out] at hz; cases hz; exact HPX.out
        · exact HNO.out j z (by omega) hz
    · have hge : ¬ (i : Int) < (n : Int) := by omega
      go_wp2
      go_ret
      refine ⟨?_, HW0.out.trans HF.out⟩
      have e := ixf_none (p := fun x => decide (y = x)) (l := xs) fun x hx => by
        obtain ⟨j, hj⟩ := List.getElem?_of_mem hx
        exact HNO.out j x (by have := lt_of_some hj; rw [HN.out] at this; omega) hj
      rw [e]; rfl
theorem mem_ixf {xs : List StpD} {y : StpD} : decide (0 ≤ ixf (fun x => decide (y = x)) xs) = decide (y ∈ xs) := by
  by_cases h : y ∈ xs
  · rw [decide_eq_true (ixf_ex (p := fun x => decide (y = x)) h (by simp)), decide_eq_true h]
  · rw [decide_eq_false h, decide_eq_false]
    intro h2
    obtain ⟨i, hi, -⟩ := ixf_nat h2
    obtain ⟨x, h3, h4, -⟩ := ixf_at hi
    rw [decide_eq_true_eq] at h4
    subst h4
    exact h (List.mem_of_getElem? h3)
set_option maxHeartbeats 1000000 in
/-- whether a step is among steps -/
theorem coStep_any (v : Value) (xs : List StpD) (y : StpD) (w : World) (h : Arr 9 SpAt w v xs) (hl : xs.length ≤ 1000) :
    Calls Tryz.prog 174 #[v, .agg (encT y)] w (Ret (.bool (decide (y ∈ xs))) (Frm [] w)) := by
  obtain ⟨ao, cap, e, -⟩ := id h
  subst e
  have hf0 : Frm [] w (w.alloc (.cells (encT y) 60)) := (Frm.refl _ _).alloc _
  have C1 := Lib.hid (inStep_any (.slice ao xs.length cap) xs y (w.alloc (.cells (encT y) 60)) (h.frm fun _ _ _ h => h.frm hf0) hl)
  have HF0 := Lib.hid hf0
  rw [← mem_ixf]
  obtain ⟨q, hq⟩ : ∃ q, ixf (fun x => decide (y = x)) xs = q := ⟨_, rfl⟩
  rw [hq] at C1 ⊢
  have hb : (w.alloc (.cells (encT y) 60)).heap[w.heap.size]? = some (.cells (encT y) 60 (0, 0)) := heap_alloc_new w _
  have d0 : (w.alloc (.cells (encT y) 60)).cell? ⟨w.heap.size, 0, none⟩ = some (.string y.frm) := cell_of hb 0
  obtain ⟨W0, hW0⟩ : ∃ W0, w.alloc (.cells (encT y) 60) = W0 := ⟨_, rfl⟩
  rw [hW0] at C1 HF0 hb
  have HB := Lib.hid hb
  have HW := Lib.hid hW0
  clear h hf0 hq hW0 hb d0
  go_enter Tryz.func174, Tryz.ntmps174
  go_wp2_with (first
    | (refine wpList_box_row rfl 60 _ rfl (encT y) rfl ?_; rw [HW.out])
    | (refine wpList_load_whole rfl 60 _ rfl _ rfl _ 60 HB.out _ Tryz.underlying60 rfl (by kernel_rfl) ?_)
    | (go_at_call 187; go_must (refine C1.out.mono ?_; rintro e w1 ⟨rfl, hf1⟩; have HF1 := Lib.hid hf1; clear hf1)))
  go_ret
  exact ⟨rfl, HF0.out.trans HF1.out⟩
/-- what few answers -/
def fewI (n : Nat) (least most : Int) (q : Nat → Bool) : Int := if (n : Int) < least then 0 else if most < (n : Int) then most else ixf q (List.range n)
theorem fewI_iff {n : Nat} {least most : Int} {q : Nat → Bool} (hm : 0 ≤ most) : 0 ≤ fewI n least most q ↔ (n : Int) < least ∨ most < (n : Int) ∨ ∃ i, i < n ∧ q i = true := by
  unfold fewI
  by_cases h1 : (n : Int) < least
  · rw [if_pos h1]; simp [h1]
  · rw [if_neg h1]
    by_cases h2 : most < (n : Int)
    · rw [if_pos h2]; simp [h1, h2, hm]
    · rw [if_neg h2]
      constructor
      · intro h
        obtain ⟨i, hi, -⟩ := ixf_nat h
        obtain ⟨x, h3, h4, -⟩ := ixf_at hi
        have := List.mem_of_getElem? h3
        rw [List.mem_range] at this
        exact .inr (.inr ⟨x, this, h4⟩)
      · rintro (h | h | ⟨i, h3, h4⟩)
        · exact absurd h h1
        · exact absurd h h2
        · exact ixf_ex (List.mem_range.2 h3) h4
theorem range_at {n i x : Nat} (h : (List.range n)[i]? = some x) : x = i ∧ i < n := by
  have := lt_of_some h
  rw [List.length_range] at this
  rw [List.getElem?_range this] at h
  cases h
  exact ⟨rfl, this⟩
set_option maxHeartbeats 1000000 in
theorem rFew_any (K : FuncId) (caps : Array Value) (n : Nat) (least most : Int) (q : Nat → Bool) (w : World) (hn : n ≤ 100000) (hK : ∀ args w, (callFunc K args).run Tryz.prog w = .ok (.enter K args) w)
    (hp : ∀ W (i : Nat), i < n → (n : Int) ≤ most → Frm [] w W → Calls Tryz.prog K (#[.int .i64 i] ++ caps) W (Ret (.bool (q i)) (Frm [] W))) :
    Calls Tryz.prog 150 #[.int .i64 n, .int .i64 least, .int .i64 most, .func (.func K) #[] caps] w (Ret (.int .i64 (fewI n least most q)) (Frm [] w)) := by
  by_cases h1 : (n : Int) < least
  · have e : fewI n least most q = 0 := by unfold fewI; rw [if_pos h1]
    rw [e]
    clear e hp
    go_enter Tryz.func150, Tryz.ntmps150
    go_wp2
    go_ret
    exact ⟨rfl, Frm.refl _ _⟩
  by_cases h2 : most < (n : Int)
  · have e : fewI n least most q = most := by unfold fewI; rw [if_neg h1, if_pos h2]
    rw [e]
    clear e hp
    go_enter Tryz.func150, Tryz.ntmps150
    go_wp2
    go_ret
    exact ⟨rfl, Frm.refl _ _⟩
  have e : fewI n least most q = ixf q (List.range n) := by unfold fewI; rw [if_neg h1, if_neg h2]
  rw [e]
  have HP := Lib.hid hp
  have HM : Hid ((n : Int) ≤ most) := Lib.hid (by omega)
  clear e hp
  go_enter Tryz.func150, Tryz.ntmps150
  go_wp2
  clear h1 h2
  go_loopw [20, 9] (fun s20 s9 wr => ∃ i : Nat, s20 = .int .i64 i ∧ i ≤ n ∧ Frm [] w wr ∧ ∀ j, j < i → q j = false) (fun s20 _ _ => n - (intOf s20).toNat)
  case atStart => exact ⟨0, rfl, Nat.zero_le _, Frm.refl _ _, fun j hj => by omega⟩
  case round =>
    obtain ⟨i, rfl, hi, hf, hno⟩ := hrel
    have HF := Lib.hid hf; have HNO := Lib.hid hno
    clear hf hno
    by_cases hlt : i < n
    · have hlt' : (i : Int) < (n : Int) := by omega
      have C1 := Lib.hid (HP.out wr i hlt HM.out HF.out)
      cases hpx : q i with
      | true =>
        rw [hpx] at C1
        have HPX := Lib.hid hpx
        clear hpx
        go_wp2_with fail
        refine C1.out.mono ?_
        rintro e w1 ⟨rfl, hf1⟩
        have HF1 := Lib.hid hf1
        clear hf1
        go_wp2
        go_ret
        refine ⟨?_, HF.out.trans HF1.out⟩
        have e : ixf q (List.range n) = (i : Int) := ixf_some (List.getElem?_range hlt) HPX.out (fun j y hj hy => by
          obtain ⟨rfl, -⟩ := range_at hy
          exact HNO.out _ hj)
        rw [e]; rfl
      | false =>
        rw [hpx] at C1
        have HPX := Lib.hid hpx
        clear hpx
        go_wp2_with fail
        refine C1.out.mono ?_
        rintro e w1 ⟨rfl, hf1⟩
        have HF1 := Lib.hid hf1
        clear hf1
        go_wp2
        refine ⟨⟨i + 1, by simp, hlt, HF.out.trans HF1.out, fun j hj => ?_⟩, by simp [intOf]; omega⟩
        by_cases e : j = i
        · subst e; exact HPX.out
        · exact HNO.out j (by omega)
    · have hge : ¬ (i : Int) < (n : Int) := by omega
      go_wp2
      go_ret
      refine ⟨?_, HF.out⟩
      have e := ixf_none (p := q) (l := List.range n) fun x hx => by
        rw [List.mem_range] at hx
        exact HNO.out x (by omega)
      rw [e]; rfl
end Go.Proofs.YtkphhjekfimmlaaGreat
