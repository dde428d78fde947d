/- What Add does, in plain words; worlds in which maps alone turned. -/
import Derived.Test.YtomjnbcaofebfaaHeld
namespace Go.Proofs.Ytomjnbcaofebfaa
open Go.RowKit Go.Maps Go.BigFrame

def isMapO : Obj → Bool | .map .. => true | _ => false
/-- from base on maps may turn; nothing else does -/
structure Mp (base : Nat) (w w' : World) : Prop where
  os : w'.os = w.os
  tape : w'.tape = w.tape
  output : w'.output = w.output
  size : w.heap.size ≤ w'.heap.size
  block : ∀ k o, w.heap[k]? = some o → k < base ∨ isMapO o = false → w'.heap[k]? = some o
theorem Mp.of {base : Nat} {F : List Nat} {w w' : World} (h : Frm F w w') (hF : ∀ x ∈ F, base ≤ x ∧ ∃ es c, w.heap[x]? = some (.map es c)) : Mp base w w' :=
  ⟨h.os, h.tape, h.output, h.size, fun k o hk ho => h.at hk (fun hx => by
    obtain ⟨h1, es, c, h2⟩ := hF k hx
    rw [hk] at h2; cases h2
    rcases ho with ho | ho
    · omega
    · cases ho)⟩
theorem Mp.frm0 {base : Nat} {w w' : World} (h : Frm [] w w') : Mp base w w' := Mp.of h (by simp)
theorem Mp.trans {base : Nat} {a b c : World} (h : Mp base a b) (k : Mp base b c) : Mp base a c :=
  ⟨k.os.trans h.os, k.tape.trans h.tape, k.output.trans h.output, Nat.le_trans h.size k.size, fun i o hi ho => k.block i o (h.block i o hi ho) ho⟩
theorem Mp.old {base : Nat} {w0 w w' : World} (h : Mp base w w') (h0 : Frm [] w0 w) (hb : w0.heap.size ≤ base) : Frm [] w0 w' :=
  ⟨h.os.trans h0.os, h.tape.trans h0.tape, h.output.trans h0.output, Nat.le_trans h0.size h.size, fun k hk _ => by
    have hk' : w0.heap[k]? = some (w0.heap[k]) := Array.getElem?_eq_getElem hk
    rw [hk']
    exact h.block k _ (h0.at hk' (by simp)) (.inl (by omega))⟩
theorem Mp.at {base : Nat} {w w' : World} (h : Mp base w w') {k : Nat} {c : Array Value} {t : TypeId} {fr : Nat × Nat} (hk : w.heap[k]? = some (.cells c t fr)) : w'.heap[k]? = some (.cells c t fr) := h.block k _ hk (.inr rfl)
theorem Mp.cell {base : Nat} {w w' : World} (h : Mp base w w') {b o : Nat} {v : Value} (hk : w.cell? ⟨b, o, none⟩ = some v) : w'.cell? ⟨b, o, none⟩ = some v := by
  have hlt := cell_lt hk
  have hg : w.heap[b]? = some (w.heap[b]) := Array.getElem?_eq_getElem hlt
  cases hob : w.heap[b] with
  | cells c t fr => rw [hob] at hg; rw [cell_of (h.at hg)]; rw [cell_of hg] at hk; exact hk
  | _ => simp only [World.cell?, hg, hob] at hk; simp at hk
theorem Mp.byts {base : Nat} {w w' : World} (h : Mp base w w') {v : Value} {l : List UInt8} (hb : Byts w v l) : Byts w' v l := by
  obtain ⟨ao, cap, rfl, h1, h2⟩ := hb
  refine ⟨ao, cap, rfl, h1, fun k x hk => ?_⟩
  obtain ⟨b, o, rfl, e⟩ := h2 k x hk
  exact ⟨b, o, rfl, h.cell e⟩
theorem Mp.then {base : Nat} {F : List Nat} {a b c : World} (h : Mp base a b) (k : Frm F b c) (hF : ∀ x ∈ F, a.heap.size ≤ x) : Mp base a c :=
  ⟨k.os.trans h.os, k.tape.trans h.tape, k.output.trans h.output, Nat.le_trans h.size k.size, fun i o hi ho => k.at (h.block i o hi ho) (fun hx => by have := hF i hx; have := lt_of_block hi; omega)⟩
/-- where the box's maps lie -/
def Lo (base mo : Nat) (S : St) (K : Int → Nat) : Prop := base ≤ mo ∧ ∀ t m, lk S t = some m → base ≤ K t
def whole (ps : List (Int × List UInt8)) : List UInt8 := (vals ps).flatten
/-- behind the switch: the part goes in -/
def putS (S : St) (p : Prt) (m : Msg) : St × List UInt8 × Bool × Int :=
  if ((m.ps.length + 1 : Nat) : Int) < m.cnt then (mod p.msg ⟨m.cnt, m.ps ++ [(p.num, p.b)]⟩ S, [], false, 0) else (del p.msg S, whole (m.ps ++ [(p.num, p.b)]), true, 0)
def addS (M B : Int) (S : St) (p : Prt) : St × List UInt8 × Bool × Int :=
  if rightB p = false then (S, [], false, 2) else
  match lk S p.msg with
  | some m =>
    if m.cnt ≠ p.cnt then (S, [], false, 8) else
    match lk m.ps p.num with
    | some b => if b ≠ p.b then (S, [], false, 8) else (S, [], false, 0)
    | none => if B < (heldS S : Int) + p.b.length then (S, [], false, 7) else putS S p m
  | none => if (S.length : Int) = M ∨ B < (heldS S : Int) + p.b.length then (S, [], false, 7) else putS (S ++ [(p.msg, ⟨p.cnt, []⟩)]) p ⟨p.cnt, []⟩
/-- what Add hands back -/
def AddTo (w : World) (base xb mo : Nat) (M B : Int) (N : Nat) (r : St × List UInt8 × Bool × Int) (v : Value) (w' : World) : Prop :=
  ∃ uv K' N', v = .tuple #[uv, .bool r.2.2.1, .int .i64 r.2.2.2] ∧ Byts w' uv r.2.1 ∧ BX w' xb mo M B N' r.1 K' ∧ Lo base mo r.1 K' ∧ N' ≤ N + 2 ∧ Mp base w w'
theorem sizeP_snoc (ps : List (Int × List UInt8)) (x : Int × List UInt8) : sizeP (ps ++ [x]) = sizeP ps + x.2.length := by simp [sizeP]
theorem heldS_snoc (S : St) (x : Int × Msg) : heldS (S ++ [x]) = heldS S + sizeP x.2.ps := by simp [heldS]
theorem mod_absent {t : Int} {m' : Msg} {S : St} (h : t ∉ keysI S) : mod t m' S = S := by
  unfold mod
  refine (List.map_congr_left (fun x hx => ?_)).trans (List.map_id S)
  rw [if_neg (fun e => h (List.mem_map.2 ⟨x, hx, e⟩))]; rfl
theorem heldS_mod {t : Int} {m' : Msg} : ∀ {S : St} {m : Msg}, (keysI S).Nodup → lk S t = some m → heldS (mod t m' S) + sizeP m.ps = heldS S + sizeP m'.ps
  | [], m, _, h => by cases h
  | (k, u) :: S, m, hn, h => by
    simp only [keysI, List.map_cons, List.nodup_cons] at hn
    unfold lk at h
    by_cases hk : t = k
    · subst hk
      rw [if_pos rfl] at h
      cases h
      have e : mod t m' ((t, u) :: S) = (t, m') :: S := by
        have := mod_absent (m' := m') hn.1
        unfold mod at this ⊢
        rw [List.map_cons, this]; simp
      rw [e, heldS_cons, heldS_cons]
      simp only
      omega
    · rw [if_neg hk] at h
      have ih := heldS_mod (m' := m') hn.2 h
      have e : mod t m' ((k, u) :: S) = (k, u) :: mod t m' S := by
        unfold mod
        rw [List.map_cons, if_neg (fun e => hk e.symm)]
      rw [e, heldS_cons, heldS_cons]
      omega
theorem heldS_del (t : Int) : ∀ S : St, heldS (del t S) ≤ heldS S
  | [] => Nat.le_refl _
  | x :: S => by
    have ih := heldS_del t S
    unfold del at ih ⊢
    by_cases h : x.1 ≠ t
    · rw [List.filter_cons_of_pos (by simpa using h), heldS_cons, heldS_cons]; omega
    · rw [List.filter_cons_of_neg (by simpa using h), heldS_cons]; omega
theorem PMap.look_ok {w : World} {mb N : Nat} {ps : List (Int × List UInt8)} (h : PMap w mb N ps) (k : Int) (h0 : 0 ≤ k) (h1 : k ≤ 255) :
    ∃ hv tw hb, (Instr.lookup 73 (.map (some mb)) (.int .i64 k) true).run Try.prog w = .ok (.tuple #[hv, .bool tw]) w ∧ Byts w hv hb ∧ ((tw = true ∧ lk ps k = some hb) ∨ (tw = false ∧ lk ps k = none)) := by
  obtain ⟨V, h1', h2⟩ := h
  have hl := h1'.look_ok (t := k) Try.underlying73 (Try.zero22 w) (by omega) (by omega)
  cases e : lk ps k with
  | some b =>
    refine ⟨V k, true, b, by rw [hl, e]; rfl, Byts.of_own (h2 k b e).1, .inl ⟨rfl, rfl⟩⟩
  | none => exact ⟨.slice none 0 0, false, [], by rw [hl, e]; rfl, Byts.nil w, .inr ⟨rfl, rfl⟩⟩
theorem PMap.add {w : World} {mb N : Nat} {ps : List (Int × List UInt8)} (h : PMap w mb N ps) {k : Int} {v : Value} {b : List UInt8} (hk : lk ps k = none) (hv : OwnB w v b) (h0 : 0 ≤ k) (h1 : k ≤ 255) (hN : N ≤ 1000000) :
    ∃ w', (Instr.mapUpdate 73 (.map (some mb)) (.int .i64 k) v).run Try.prog w = .ok () w' ∧ PMap w' mb (N + 1) (ps ++ [(k, b)]) ∧ Frm [mb] w w' := by
  obtain ⟨V, h2, h3⟩ := h
  have h4 : IM w mb N ps (fun t (_ : List UInt8) => if t = k then v else V t) := h2.congr (fun t u ht => by
    have : t ≠ k := fun e => by subst e; rw [hk] at ht; cases ht
    simp [this])
  obtain ⟨w', hrun, hm, hf⟩ := h4.add Try.underlying73 (t := k) (by unfold maxLen; omega) (by omega) (by omega) hk b
  simp only [if_true] at hrun
  obtain ⟨es, c, hb⟩ := h2.block
  have hF : ∀ x ∈ [mb], ∀ c', w.heap[x]? ≠ some (.cells c' 5 (0, 0)) := fun x hx c' hc => by simp at hx; subst hx; rw [hb] at hc; cases hc
  refine ⟨w', hrun, ⟨_, hm, fun t u ht => ?_⟩, hf⟩
  rw [lk_append hk] at ht
  by_cases e : t = k
  · subst e
    rw [if_pos rfl] at ht
    cases ht
    simp only [if_true]
    exact ⟨hv.keep hf hF, h0, h1⟩
  · rw [if_neg e] at ht
    simp only [if_neg e]
    exact ⟨(h3 t u ht).1.keep hf hF, (h3 t u ht).2⟩
section
variable {w w' : World} {base xb mo : Nat} {M B : Int} {N : Nat} {S : St} {K : Int → Nat} {t : Int} {m m' : Msg}
theorem BX.isMap (h : BX w xb mo M B N S K) (ht : lk S t = some m) : ∃ es c, w.heap[K t]? = some (.map es c) := (h.hp t m ht).block
theorem mv_mod (ht : lk S t = some m) (hc : m'.cnt = m.cnt) : (fun s => (lk (mod t m' S) s).map fun m => mv m.cnt (K s)) = fun s => (lk S s).map fun m => mv m.cnt (K s) := by
  funext s
  rw [lk_mod (by rw [ht]; rfl)]
  by_cases e : s = t
  · subst e; rw [if_pos rfl, ht]; simp [hc]
  · rw [if_neg e]
/-- a part has gone into an open message that is not whole -/
theorem BX.put (h : BX w xb mo M B N S K) (ht : lk S t = some m) (hf : Frm [K t] w w') (hp : PMap w' (K t) (N + 1) m'.ps) (hc : m'.cnt = m.cnt) (hs : (m'.ps.length : Int) < m.cnt) (hh : (heldS (mod t m' S) : Int) ≤ B) (hN : N ≤ 900000) : BX w' xb mo M B (N + 1) (mod t m' S) K := by
  obtain ⟨es, c, hb⟩ := h.isMap ht
  have hF : ∀ x ∈ [K t], ∀ c', w.heap[x]? ≠ some (.cells c' 5 (0, 0)) := fun x hx c' hc => by simp at hx; subst hx; rw [hb] at hc; cases hc
  have hsome : (lk S t).isSome = true := by rw [ht]; rfl
  have old : ∀ s u, lk (mod t m' S) s = some u → ∃ u', lk S s = some u' ∧ (s ≠ t → u = u') := fun s u hu => by
    rw [lk_mod hsome] at hu
    by_cases e : s = t
    · subst e; exact ⟨m, ht, fun hn => absurd rfl hn⟩
    · rw [if_neg e] at hu; exact ⟨u, hu, fun _ => rfl⟩
  refine ⟨hf.at h.hx (fun hx => ?_), ⟨?_, ?_⟩, fun s u hu => ?_, fun s u hu => ?_, fun s s' u u' hu hu' e => ?_, h.m1, h.m64, h.b1, h.b20, ?_, hh, fun s u hu => ?_, by omega⟩
  · simp at hx; subst hx; rw [h.hx] at hb; cases hb
  · have h1 := ((h.hm.frm hf (by have := h.ne t m ht; simp; omega)).mono (Nat.le_succ N)).1
    rw [mv_mod ht hc, show (mod t m' S).length = S.length by simp [mod]]
    exact h1
  · rw [keysI_mod]; exact h.hm.2
  · by_cases e : s = t
    · subst e
      rw [lk_mod hsome, if_pos rfl] at hu
      cases hu; exact hp
    · obtain ⟨u', h1, h2⟩ := old s u hu
      rw [h2 e]
      exact ((h.hp s u' h1).keep hf (by simp only [List.mem_singleton]; exact fun e2 => e (h.inj s t u' m h1 ht e2)) hF).mono (Nat.le_succ N)
  · obtain ⟨u', h1, -⟩ := old s u hu
    exact h.ne s u' h1
  · obtain ⟨v, h1, -⟩ := old s u hu
    obtain ⟨v', h1', -⟩ := old s' u' hu'
    exact h.inj s s' v v' h1 h1' e
  · have := h.len; simpa [mod] using this
  · by_cases e : s = t
    · subst e
      rw [lk_mod hsome, if_pos rfl] at hu
      cases hu
      have := h.small s m ht
      rw [hc]; exact ⟨hs, this.2⟩
    · obtain ⟨u', h1, h2⟩ := old s u hu
      rw [h2 e]; exact h.small s u' h1
theorem sizeP_le : ∀ {S : St} {m : Msg}, lk S t = some m → sizeP m.ps ≤ heldS S
  | [], m, h => by cases h
  | (k, u) :: S, m, h => by
    unfold lk at h
    rw [heldS_cons]
    split at h
    · cases h; simp only; omega
    · have := sizeP_le h; omega
/-- other cells turn -/
theorem BX.other {F : List Nat} (h : BX w xb mo M B N S K) (hf : Frm F w w') (hF : ∀ k ∈ F, ∃ c, w.heap[k]? = some (.cells c 22 (0, 0))) : BX w' xb mo M B N S K := by
  have h5 : ∀ k ∈ F, ∀ c, w.heap[k]? ≠ some (.cells c 5 (0, 0)) := fun k hk c hc => by obtain ⟨c', hc'⟩ := hF k hk; rw [hc'] at hc; cases hc
  have hmap : ∀ {k es c}, w.heap[k]? = some (.map es c) → k ∉ F := fun hk hx => by obtain ⟨c', hc'⟩ := hF _ hx; rw [hc'] at hk; cases hk
  refine { h with hx := hf.at h.hx (fun hx => ?_), hm := h.hm.frm hf ?_, hp := fun t m ht => (h.hp t m ht).keep hf ?_ h5 }
  · obtain ⟨c', hc'⟩ := hF _ hx; have := h.hx; rw [hc'] at this; cases this
  · obtain ⟨es, c, hb⟩ := h.hm.block; exact hmap hb
  · obtain ⟨es, c, hb⟩ := h.isMap ht; exact hmap hb
/-- an open message is gone -/
theorem BX.drop {F : List Nat} (h : BX w xb mo M B N S K) (ht : lk S t = some m) (hm : IM w' mo N (del t S) (fun s m => mv m.cnt (K s))) (hf : Frm F w w') (hF : ∀ x ∈ F, x = K t ∨ x = mo ∨ ∃ c, w.heap[x]? = some (.cells c 22 (0, 0))) : BX w' xb mo M B N (del t S) K := by
  obtain ⟨es, c, hb⟩ := h.hm.block
  obtain ⟨es2, c2, hb2⟩ := h.isMap ht
  have h5 : ∀ k ∈ F, ∀ c', w.heap[k]? ≠ some (.cells c' 5 (0, 0)) := fun k hk c' hc => by
    rcases hF k hk with rfl | rfl | ⟨c3, h3⟩
    · rw [hb2] at hc; cases hc
    · rw [hb] at hc; cases hc
    · rw [h3] at hc; cases hc
  have old : ∀ s u, lk (del t S) s = some u → lk S s = some u ∧ s ≠ t := fun s u hu => by
    rw [lk_del] at hu
    split at hu
    · cases hu
    · exact ⟨hu, by assumption⟩
  refine ⟨hf.at h.hx (fun hx => ?_), hm, fun s u hu => (h.hp s u (old s u hu).1).keep hf (fun hx => ?_) h5, fun s u hu => h.ne s u (old s u hu).1, fun s s' u u' hu hu' e => h.inj s s' u u' (old s u hu).1 (old s' u' hu').1 e, h.m1, h.m64, h.b1, h.b20, ?_, ?_, fun s u hu => h.small s u (old s u hu).1, h.nN⟩
  · have hxx := h.hx
    rcases hF xb hx with e | e | ⟨c3, h3⟩
    · rw [e, hb2] at hxx; cases hxx
    · rw [e, hb] at hxx; cases hxx
    · rw [h3] at hxx; cases hxx
  · obtain ⟨hs, hne⟩ := old s u hu
    rcases hF _ hx with e | e | ⟨c3, h3⟩
    · exact hne (h.inj s t u m hs ht e)
    · exact h.ne s u hs e
    · obtain ⟨es3, c4, h4⟩ := h.isMap hs
      rw [h3] at h4; cases h4
  · have h1 := h.len
    have h2 : (del t S).length ≤ S.length := List.length_filter_le _ _
    omega
  · have h1 := h.held
    have h2 := heldS_del t S
    omega
/-- a message is opened -/
theorem BX.new (h : BX w xb mo M B N S K) (ht : lk S t = none) {c : Int} (hc1 : 1 ≤ c) (hc2 : c ≤ 255) {nb : Nat} (hm : IM w' mo (N + 1) (S ++ [(t, ⟨c, []⟩)]) (fun s m => mv m.cnt (if s = t then nb else K s))) (hf : Frm [mo] w w') (hp : PMap w nb 0 []) (hnb : nb ≠ mo) (hfr : ∀ s m, lk S s = some m → K s ≠ nb) (hl : (S.length : Int) ≠ M) (hN : N ≤ 900000) :
    BX w' xb mo M B (N + 1) (S ++ [(t, ⟨c, []⟩)]) (fun s => if s = t then nb else K s) := by
  obtain ⟨es, cc, hb⟩ := h.hm.block
  have hF : ∀ x ∈ [mo], ∀ c', w.heap[x]? ≠ some (.cells c' 5 (0, 0)) := fun x hx c' hc => by simp at hx; subst hx; rw [hb] at hc; cases hc
  have cs : ∀ s u, lk (S ++ [(t, (⟨c, []⟩ : Msg))]) s = some u → (s = t ∧ u = ⟨c, []⟩) ∨ (s ≠ t ∧ lk S s = some u) := fun s u hu => by
    rw [lk_append ht] at hu
    by_cases e : s = t
    · rw [if_pos e] at hu; cases hu; exact .inl ⟨e, rfl⟩
    · rw [if_neg e] at hu; exact .inr ⟨e, hu⟩
  refine ⟨hf.at h.hx (fun hx => ?_), hm, fun s u hu => ?_, fun s u hu => ?_, fun s s' u u' hu hu' e => ?_, h.m1, h.m64, h.b1, h.b20, ?_, ?_, fun s u hu => ?_, by omega⟩
  · simp at hx; subst hx; rw [h.hx] at hb; cases hb
  · rcases cs s u hu with ⟨e1, rfl⟩ | ⟨e1, h1⟩
    · rw [if_pos e1]; exact (hp.keep hf (by simpa using hnb) hF).mono (Nat.zero_le _)
    · rw [if_neg e1]; exact ((h.hp s u h1).keep hf (by have := h.ne s u h1; simp; omega) hF).mono (Nat.le_succ N)
  · rcases cs s u hu with ⟨e1, rfl⟩ | ⟨e1, h1⟩
    · simp only [if_pos e1]; exact hnb
    · simp only [if_neg e1]; exact h.ne s u h1
  · rcases cs s u hu with ⟨e1, -⟩ | ⟨e1, h1⟩ <;> rcases cs s' u' hu' with ⟨e2, -⟩ | ⟨e2, h2⟩
    · rw [e1, e2]
    · simp only [if_pos e1, if_neg e2] at e; exact absurd e.symm (hfr s' u' h2)
    · simp only [if_neg e1, if_pos e2] at e; exact absurd e (hfr s u h1)
    · simp only [if_neg e1, if_neg e2] at e; exact h.inj s s' u u' h1 h2 e
  · have := h.len
    simp
    omega
  · rw [heldS_snoc]
    simpa [sizeP] using h.held
  · rcases cs s u hu with ⟨-, rfl⟩ | ⟨-, h1⟩
    · simp; omega
    · exact h.small s u h1
end
theorem Lo.mod {base mo : Nat} {S : St} {K : Int → Nat} {t : Int} {m m' : Msg} (h : Lo base mo S K) (ht : lk S t = some m) : Lo base mo (mod t m' S) K :=
  ⟨h.1, fun s u hu => by
    rw [lk_mod (by rw [ht]; rfl)] at hu
    by_cases e : s = t
    · subst e; exact h.2 s m ht
    · rw [if_neg e] at hu; exact h.2 s u hu⟩
theorem Lo.del {base mo : Nat} {S : St} {K : Int → Nat} {t : Int} (h : Lo base mo S K) : Lo base mo (del t S) K :=
  ⟨h.1, fun s u hu => by
    rw [lk_del] at hu
    split at hu
    · cases hu
    · exact h.2 s u hu⟩
end Go.Proofs.Ytomjnbcaofebfaa
