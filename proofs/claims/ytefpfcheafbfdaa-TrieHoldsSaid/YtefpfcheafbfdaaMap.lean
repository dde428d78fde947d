/- Maps whose elements are held as they are (raw values), as a function from keys. -/
import Derived.Test.YtefpfcheafbfdaaFrm
import Derived.Maps.OwnSet
import Derived.Maps.OwnOps
namespace Go.Proofs.Ytefpfcheafbfdaa
open Go.RowKit Go.Maps

def rawR (v : Value) : Option (DataW Value × List MemPlace) := some (.held v, [])
/-- the map value 'mb' holds at each key what f says; it has c entries -/
def MapAt (P : Program) (K : TypeId) (w : World) (mb : Option Nat) (n : Nat) (f : Lit → Option Value) (c : Nat) : Prop :=
  (mb = none ∧ (∀ k, f k = none) ∧ c = 0) ∨
  ∃ b D, mb = some b ∧ w.ownsMap P K rawR b n D ∧ (∀ k, Maps.has D k = (f k).isSome) ∧ (∀ k v, f k = some v → ∀ z, D.atKey k z = .held v) ∧ Maps.size D = c
noncomputable def updL (f : Lit → Option Value) (k : Lit) (o : Option Value) : Lit → Option Value := fun x => @ite _ (x = k) (Classical.propDecidable _) o (f x)
theorem updL_same (f : Lit → Option Value) (k : Lit) (o : Option Value) : updL f k o k = o := by simp [updL]
theorem updL_other (f : Lit → Option Value) {k x : Lit} (o : Option Value) (h : x ≠ k) : updL f k o x = f x := by simp [updL, h]

theorem atKey_no {D : DataW Value} (hM : Maps.IsMap D) {k : Lit} (h : Maps.has D k = false) (z : DataW Value) : D.atKey k z = z := by
  obtain ⟨es, rfl⟩ := hM
  unfold DataW.atKey
  simp only [Maps.has] at h
  have : es.find? (fun p => p.1.sameKey k) = none := by
    rw [List.find?_eq_none]
    intro x hx hk
    have := List.any_eq_false.1 h x hx
    exact this hk
  simp [this]

section
variable {P : Program} {K T E : TypeId} {w : World} {mb : Option Nat} {n c : Nat} {f : Lit → Option Value}
theorem MapAt.nil : MapAt P K w Option.none n (fun _ => Option.none) 0 := .inl ⟨rfl, fun _ => rfl, rfl⟩
theorem MapAt.made (P : Program) (K : TypeId) (w : World) : MapAt P K (w.alloc (.map #[] 0)) (some w.heap.size) 0 (fun _ => Option.none) 0 :=
  .inr ⟨_, _, rfl, World.ownsMap_made w P K rawR, fun _ => rfl, fun _ _ h => (by cases h), rfl⟩
theorem MapAt.frm {F : List Nat} {w' : World} (h : MapAt P K w mb n f c) (hf : Frm F w w') (hn : ∀ b, mb = some b → b ∉ F) : MapAt P K w' mb n f c := by
  rcases h with h | ⟨b, D, rfl, ho, r⟩
  · exact .inl h
  · obtain ⟨es, clock, hb, q⟩ := ho
    exact .inr ⟨b, D, rfl, ⟨es, clock, hf.at hb (hn b rfl), q⟩, r⟩
theorem MapAt.mono {n' : Nat} (h : MapAt P K w mb n f c) (hn : n ≤ n') : MapAt P K w mb n' f c := by
  rcases h with h | ⟨b, D, rfl, ho, r⟩
  · exact .inl h
  · exact .inr ⟨b, D, rfl, ho.mono hn, r⟩
theorem MapAt.block (h : MapAt P K w mb n f c) {b : Nat} (hb : mb = some b) : ∃ es clock, w.heap[b]? = some (.map es clock) := by
  rcases h with ⟨h, _⟩ | ⟨b', D, h, ⟨es, clock, hh, _⟩, _⟩
  · rw [h] at hb; cases hb
  · rw [h] at hb; cases hb; exact ⟨es, clock, hh⟩
theorem MapAt.count_le (h : MapAt P K w mb n f c) : c ≤ n := by
  rcases h with ⟨_, _, rfl⟩ | ⟨b, D, _, ho, _, _, rfl⟩
  · omega
  · exact ho.size_le
theorem MapAt.zero (h : MapAt P K w mb n f c) (hc : c = 0) : ∀ k, f k = Option.none := by
  rcases h with ⟨_, h, _⟩ | ⟨b, D, _, ho, h1, _, h3⟩
  · exact h
  · intro k
    have hm := ho.isMap
    have h2 := h1 k
    obtain ⟨es, rfl⟩ := hm
    simp only [Maps.size] at h3
    have : es = [] := List.length_eq_zero_iff.1 (by omega)
    subst this
    simp [Maps.has] at h2
    exact Option.not_isSome_iff_eq_none.1 (by simp [← h2])
/-- v, ok := m[k] -/
theorem MapAt.look_ok (h : MapAt P K w mb n f c) (hK : Keyed P K) (hT : P.underlying T = some (.map K E)) {z : Value} (hz : (zeroValue E).run P w = .ok z w) {key : Value} {kl : Lit} (hk : keyOf P K key = some kl) :
    (Instr.lookup T (.map mb) key true).run P w = .ok (.tuple #[(f kl).getD z, .bool (f kl).isSome]) w := by
  rcases h with ⟨rfl, h, _⟩ | ⟨b, D, rfl, ho, h1, h2, _⟩
  · rw [look_nil true hK hT hz hk]; simp [h kl]
  · obtain ⟨v, ps, hrun, hv⟩ := ho.look_ok hK hT hz (zd := .held z) (zp := []) rfl hk
    rw [hrun, h1 kl]
    congr 3
    simp only [rawR, Option.some.injEq, Prod.mk.injEq] at hv
    cases hf : f kl with
    | some x => rw [h2 kl x hf] at hv; simpa using hv.1
    | none =>
      rw [atKey_no ho.isMap (by rw [h1, hf]; rfl)] at hv
      simpa using hv.1
/-- m[k] -/
theorem MapAt.look (h : MapAt P K w mb n f c) (hK : Keyed P K) (hT : P.underlying T = some (.map K E)) {z : Value} (hz : (zeroValue E).run P w = .ok z w) {key : Value} {kl : Lit} (hk : keyOf P K key = some kl) :
    (Instr.lookup T (.map mb) key false).run P w = .ok ((f kl).getD z) w := by
  rcases h with ⟨rfl, h, _⟩ | ⟨b, D, rfl, ho, h1, h2, _⟩
  · rw [look_nil false hK hT hz hk]; simp [h kl]
  · obtain ⟨v, ps, hrun, hv⟩ := ho.lookup hK hT hz (zd := .held z) (zp := []) rfl hk
    rw [hrun]
    congr 1
    simp only [rawR, Option.some.injEq, Prod.mk.injEq] at hv
    cases hf : f kl with
    | some x => rw [h2 kl x hf] at hv; simpa using hv.1
    | none =>
      rw [atKey_no ho.isMap (by rw [h1, hf]; rfl)] at hv
      simpa using hv.1
theorem MapAt.len (h : MapAt P K w mb n f c) (hT : P.underlying T = some (.map K E)) (ty : TypeId) : (Builtin.len_ #[T] ty #[.map mb]).run P w = .ok (.int .i64 c) w := by
  rcases h with ⟨rfl, h, rfl⟩ | ⟨b, D, rfl, ho, h1, h2, rfl⟩
  · exact len_nil hT ty
  · exact ho.len hT ty
/-- m[k] = v -/
theorem MapAt.store {b : Nat} (h : MapAt P K w (some b) n f c) (hK : Keyed P K) (hT : P.underlying T = some (.map K E)) (hn : n < maxLen) {key : Value} {kl : Lit} (hk : keyOf P K key = some kl) (hkl : WideAt.IsKeyLit kl) (v : Value) :
    ∃ w', (Instr.mapUpdate T (.map (some b)) key v).run P w = .ok () w' ∧ MapAt P K w' (some b) (n + 1) (updL f kl (some v)) (if (f kl).isSome then c else c + 1) ∧ Frm [b] w w' := by
  rcases h with ⟨h, _⟩ | ⟨b', D, h, ho, h1, h2, rfl⟩
  · cases h
  · cases h
    obtain ⟨w', hrun, ho', hg⟩ := ho.update hK hT hn (d := .held v) (ps := []) hk rfl
    refine ⟨w', hrun, .inr ⟨b, _, rfl, ho', fun k => ?_, fun k u hu z => ?_, ?_⟩, (Frm.refl _ _).grown hg (by simp)⟩
    · by_cases e : k = kl
      · subst e; rw [has_put_same ho.isMap hkl, updL_same]; rfl
      · rw [has_put_other e, h1, updL_other _ _ e]
    · by_cases e : k = kl
      · subst e
        rw [updL_same] at hu; cases hu
        exact atKey_put_same ho.isMap hkl _ _
      · rw [atKey_put_other e]
        rw [updL_other _ _ e] at hu
        exact h2 k u hu z
    · rw [size_put (ho.tidy hK), h1 kl]
/-- delete(m, k) -/
theorem MapAt.drop (h : MapAt P K w mb n f c) (hK : Keyed P K) (hT : P.underlying T = some (.map K E)) {key : Value} {kl : Lit} (hk : keyOf P K key = some kl) (ty : TypeId) :
    ∃ w', (Builtin.delete_ #[T, K] ty #[.map mb, key]).run P w = .ok (.tuple #[]) w' ∧ MapAt P K w' mb n (updL f kl Option.none) (if (f kl).isSome then c - 1 else c) ∧ Frm mb.toList w w' := by
  rcases h with ⟨rfl, h, rfl⟩ | ⟨b, D, rfl, ho, h1, h2, rfl⟩
  · exact ⟨w, drop_nil hK hT hk ty, .inl ⟨rfl, fun k => by unfold updL; split <;> simp [h], by simp⟩, Frm.refl _ _⟩
  · obtain ⟨w', hrun, ho', ht⟩ := ho.drop hK hT hk ty
    refine ⟨w', hrun, .inr ⟨b, _, rfl, ho', fun k => ?_, fun k u hu z => ?_, ?_⟩, (Frm.refl _ _).grown ht.grown (by simp)⟩
    · by_cases e : k = kl
      · subst e; rw [has_del_same, updL_same]; rfl
      · rw [has_del_other e, h1, updL_other _ _ e]
    · by_cases e : k = kl
      · subst e; rw [updL_same] at hu; cases hu
      · rw [atKey_del_other e]
        rw [updL_other _ _ e] at hu
        exact h2 k u hu z
    · have := size_del (k := kl) (ho.tidy hK)
      rw [h1 kl] at this
      split at this <;> simp_all <;> omega
end
end Go.Proofs.Ytefpfcheafbfdaa
