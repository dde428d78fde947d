/- The set: what lies where. P: the beginnings that have nodes; W: those that are words. -/
import Derived.Test.YtefpfcheafbfdaaPlain
import Derived.Test.YtefpfcheafbfdaaLeaf
import Derived.Test.YtefpfcheafbfdaaMap
namespace Go.Proofs.Ytefpfcheafbfdaa
open Go.RowKit Go.Maps Go.BigFrame

/-- a function on bytes, as one on keys -/
def fU (D : UInt8 → Option Value) : Lit → Option Value
  | .int .u8 t => if 0 ≤ t ∧ t ≤ 255 then D (UInt8.ofNat t.toNat) else none
  | _ => none
theorem fU_at (D : UInt8 → Option Value) (c : UInt8) : fU D (.int .u8 c.toNat) = D c := by
  have := c.toNat_lt
  show (if 0 ≤ (c.toNat : Int) ∧ (c.toNat : Int) ≤ 255 then D (UInt8.ofNat (c.toNat : Int).toNat) else none) = D c
  rw [if_pos (by omega), Int.toNat_natCast, UInt8.ofNat_toNat]
theorem fU_upd (D : UInt8 → Option Value) (c : UInt8) (o : Option Value) : updL (fU D) (.int .u8 c.toNat) o = fU fun x => if x = c then o else D x := by
  funext x
  by_cases h : x = .int .u8 c.toNat
  · subst h; rw [updL_same, fU_at, if_pos rfl]
  · rw [updL_other _ _ h]
    unfold fU
    split
    · rename_i s
      by_cases hs : 0 ≤ s ∧ s ≤ 255
      · rw [if_pos hs, if_pos hs]
        have : UInt8.ofNat s.toNat ≠ c := fun e => h (by
          rw [← e]
          have : (UInt8.ofNat s.toNat).toNat = s.toNat := by simp; omega
          rw [this]
          congr 1; omega)
        show D (UInt8.ofNat s.toNat) = if UInt8.ofNat s.toNat = c then o else D (UInt8.ofNat s.toNat)
        rw [if_neg this]
      · rw [if_neg hs, if_neg hs]
    · rfl
theorem Try.key5 : Keyed Try.prog 5 := int_keyed Try.underlying5
theorem key_u8 (c : UInt8) : keyOf Try.prog 5 (u8 c) = some (.int .u8 c.toNat) :=
  keyOf_int_mk Try.underlying5 (by
    have := c.toNat_lt
    simp only [Lit.wf, show IntKind.u8.min = 0 from rfl, show IntKind.u8.max = 255 from rfl, Bool.and_eq_true, decide_eq_true_eq]
    omega)
/-- the bytes that follow -/
def kidsP (P : Wd → Bool) (p : Wd) : List UInt8 := ((List.range 256).map UInt8.ofNat).filter fun c => P (p ++ [c])
theorem kids_eq (L : List Wd) (p : Wd) : kids L p = kidsP (pre L) p := rfl
theorem mem_kidsP {P : Wd → Bool} {p : Wd} {c : UInt8} : c ∈ kidsP P p ↔ P (p ++ [c]) = true := by
  unfold kidsP
  rw [List.mem_filter]
  exact ⟨fun h => h.2, fun h => ⟨mem_bytes c, h⟩⟩
theorem bytes_nodup : ((List.range 256).map UInt8.ofNat).Nodup := by
  refine List.pairwise_map.2 (List.Pairwise.imp_of_mem ?_ (List.nodup_range (n := 256)))
  intro a b ha hb hab e
  rw [List.mem_range] at ha hb
  have := congrArg UInt8.toNat e
  simp at this
  omega
theorem kidsP_nodup (P : Wd → Bool) (p : Wd) : (kidsP P p).Nodup := bytes_nodup.filter _
theorem kidsP_length (P : Wd → Bool) (p : Wd) : (kidsP P p).length ≤ 256 := by
  have := List.length_filter_le (fun c => P (p ++ [c])) ((List.range 256).map UInt8.ofNat)
  unfold kidsP
  simpa using this
theorem kidsP_congr {P P' : Wd → Bool} {p : Wd} (h : ∀ c, P (p ++ [c]) = P' (p ++ [c])) : kidsP P p = kidsP P' p := by
  unfold kidsP
  exact List.filter_congr (fun c _ => h c)
theorem kidsP_new {P P' : Wd → Bool} {p : Wd} {c : UInt8} (h : ∀ x, P' (p ++ [x]) = if x = c then true else P (p ++ [x])) (hc : P (p ++ [c]) = false) : (kidsP P' p).length = (kidsP P p).length + 1 := by
  have hp : (kidsP P' p).Perm (c :: kidsP P p) := by
    refine (List.perm_ext_iff_of_nodup (kidsP_nodup P' p) (List.nodup_cons.2 ⟨(fun hx => by rw [mem_kidsP, hc] at hx; cases hx), kidsP_nodup P p⟩)).2 (fun x => ?_)
    rw [mem_kidsP, h, List.mem_cons, mem_kidsP]
    by_cases e : x = c
    · simp [e]
    · simp [e]
  rw [hp.length_eq, List.length_cons]
theorem kidsP_gone {P P' : Wd → Bool} {p : Wd} {c : UInt8} (h : ∀ x, P' (p ++ [x]) = if x = c then false else P (p ++ [x])) (hc : P (p ++ [c]) = true) : (kidsP P' p).length = (kidsP P p).length - 1 := by
  have := kidsP_new (P := P') (P' := P) (p := p) (c := c) (fun x => by rw [h]; by_cases e : x = c <;> simp [e, hc]) (by rw [h]; simp)
  omega
def nodeV (NB : Wd → Nat) (p : Wd) : Value := .pointer (some ⟨NB p, 0, none⟩)
/-- the map of a node -/
def kidF (P : Wd → Bool) (NB : Wd → Nat) (p : Wd) : UInt8 → Option Value := fun c => if P (p ++ [c]) = true then some (nodeV NB (p ++ [c])) else none
structure TR (w : World) (tb : Nat) (P W : Wd → Bool) (n : Nat) (NB MB : Wd → Nat) (N : Nat) : Prop where
  top : w.heap[tb]? = some (.cells #[nodeV NB [], .int .i64 n] 55 (0, 0))
  nil : P [] = true
  up : ∀ p c, P (p ++ [c]) = true → P p = true
  node : ∀ p, P p = true → w.heap[NB p]? = some (.cells #[.bool (W p), .map (some (MB p))] 68 (0, 0))
  map : ∀ p, P p = true → MapAt Try.prog 5 w (some (MB p)) N (fU (kidF P NB p)) (kidsP P p).length
  inj : ∀ p q, P p = true → P q = true → NB p = NB q → p = q
  injM : ∀ p q, P p = true → P q = true → MB p = MB q → p = q
section
variable {w w' : World} {tb : Nat} {P W : Wd → Bool} {n : Nat} {NB MB : Wd → Nat} {N : Nat} {p : Wd}
theorem TR.frm0 (h : TR w tb P W n NB MB N) (hf : Frm [] w w') : TR w' tb P W n NB MB N :=
  { h with top := hf.at h.top (by simp), node := fun p hp => hf.at (h.node p hp) (by simp), map := fun p hp => (h.map p hp).frm hf (fun b _ => by simp) }
theorem TR.isMap (h : TR w tb P W n NB MB N) (hp : P p = true) : ∃ es c, w.heap[MB p]? = some (.map es c) := (h.map p hp).block rfl
/-- other cells turn -/
theorem TR.other {F : List Nat} (h : TR w tb P W n NB MB N) (hf : Frm F w w') (hF : ∀ k ∈ F, ∃ c t, w.heap[k]? = some (.cells c t (0, 0)) ∧ t ≠ 55 ∧ t ≠ 68) : TR w' tb P W n NB MB N := by
  refine { h with top := hf.at h.top (fun hx => ?_), node := fun p hp => hf.at (h.node p hp) (fun hx => ?_), map := fun p hp => (h.map p hp).frm hf (fun b hb hx => ?_) }
  · obtain ⟨c, t, h1, h2, -⟩ := hF _ hx
    rw [h.top] at h1; cases h1; exact h2 rfl
  · obtain ⟨c, t, h1, -, h2⟩ := hF _ hx
    rw [h.node p hp] at h1; cases h1; exact h2 rfl
  · cases hb
    obtain ⟨c, t, h1, -⟩ := hF _ hx
    obtain ⟨es, cl, h2⟩ := h.isMap hp
    rw [h2] at h1; cases h1
theorem TR.lookup (h : TR w tb P W n NB MB N) (hp : P p = true) (c : UInt8) : (Instr.lookup 66 (.map (some (MB p))) (u8 c) false).run Try.prog w = .ok ((kidF P NB p c).getD (.pointer none)) w := by
  have hz : (zeroValue 53).run Try.prog w = .ok (.pointer none) w := Try.zeroValue53 w
  have := (h.map p hp).look Try.key5 Try.underlying66 hz (key_u8 c)
  rw [fU_at] at this
  exact this
theorem TR.len (h : TR w tb P W n NB MB N) (hp : P p = true) (ty : TypeId) : (Builtin.len_ #[66] ty #[.map (some (MB p))]).run Try.prog w = .ok (.int .i64 (kidsP P p).length) w := (h.map p hp).len Try.underlying66 ty
theorem TR.take (h : TR w tb P W n NB MB N) : ∀ (k : Nat), P p = true → P (p.take k) = true := by
  have key : ∀ (r : List UInt8) (q : Wd), P (q ++ r) = true → P q = true := fun r => by
    induction r with
    | nil => intro q hq; simpa using hq
    | cons c r ih => intro q hq; exact h.up q c (ih (q ++ [c]) (by simpa using hq))
  intro k hp
  exact key (p.drop k) _ (by rw [List.take_append_drop]; exact hp)
end
/-- a nil set, or one of zeros -/
def T0 (w : World) (xo : Option Addr) : Prop := xo = none ∨ ∃ tb, xo = some ⟨tb, 0, none⟩ ∧ w.heap[tb]? = some (.cells #[.pointer none, .int .i64 0] 55 (0, 0))
theorem T0.frm0 {w w' : World} {xo : Option Addr} (h : T0 w xo) (hf : Frm [] w w') : T0 w' xo := by
  rcases h with h | ⟨tb, h1, h2⟩
  · exact .inl h
  · exact .inr ⟨tb, h1, hf.at h2 (by simp)⟩
end Go.Proofs.Ytefpfcheafbfdaa
