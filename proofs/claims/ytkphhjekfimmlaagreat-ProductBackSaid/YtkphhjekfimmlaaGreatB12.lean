/- Equal states: those with the same key; they have the same moves but for the places, and these lead to equal states. product: Do. -/
import Derived.Test.YtkphhjekfimmlaaGreatB11
import Derived.Test.YtkphhjekfimmlaaGreatB10
namespace Go.Proofs.YtkphhjekfimmlaaGreat
open Go

/-- two lists, element by element -/
def P2 {α β : Type} (R : α → β → Prop) (l : List α) (m : List β) : Prop := l.length = m.length ∧ ∀ (n : Nat) (a : α) (b : β), l[n]? = some a → m[n]? = some b → R a b
section
variable {α β : Type} {R : α → β → Prop}
theorem P2.nil : P2 R [] [] := ⟨rfl, fun n a b h => by simp at h⟩
theorem P2.one {a : α} {b : β} (h : R a b) : P2 R [a] [b] := ⟨rfl, fun n x y h1 h2 => by
  cases n with
  | zero => simp at h1 h2; subst h1; subst h2; exact h
  | succ n => simp at h1⟩
theorem P2.append {l l' : List α} {m m' : List β} (h : P2 R l m) (h' : P2 R l' m') : P2 R (l ++ l') (m ++ m') := by
  refine ⟨by rw [List.length_append, List.length_append, h.1, h'.1], fun n a b h1 h2 => ?_⟩
  by_cases e : n < l.length
  · rw [List.getElem?_append_left e] at h1
    rw [List.getElem?_append_left (by rw [← h.1]; exact e)] at h2
    exact h.2 n a b h1 h2
  · rw [List.getElem?_append_right (by omega)] at h1
    rw [List.getElem?_append_right (by rw [← h.1]; omega), ← h.1] at h2
    exact h'.2 _ a b h1 h2
theorem P2.cat {f : Nat → List α} {g : Nat → List β} : ∀ {n : Nat}, (∀ k, k < n → P2 R (f k) (g k)) → P2 R (cat f n) (cat g n)
  | 0, _ => P2.nil
  | n + 1, h => (P2.cat fun k hk => h k (by omega)).append (h n (by omega))
theorem P2.at {l : List α} {m : List β} (h : P2 R l m) {n : Nat} {a : α} (ha : l[n]? = some a) : ∃ b, m[n]? = some b ∧ R a b := by
  have hl := (List.getElem?_eq_some_iff.1 ha).1
  have hm : n < m.length := by rw [← h.1]; exact hl
  exact ⟨m[n], List.getElem?_eq_getElem hm, h.2 n a _ ha (List.getElem?_eq_getElem hm)⟩
theorem P2.mem {l : List α} {m : List β} (h : P2 R l m) {a : α} (ha : a ∈ l) : ∃ b ∈ m, R a b := by
  obtain ⟨n, hn⟩ := List.getElem?_of_mem ha
  obtain ⟨b, h1, h2⟩ := h.at hn
  exact ⟨b, List.mem_of_getElem? h1, h2⟩
end
theorem Rl.refl (cls : Int) (A : List ByteArray) : Rl cls A A := by unfold Rl; split <;> simp
theorem Rl.symm {cls : Int} {A B : List ByteArray} (h : Rl cls A B) : Rl cls B A := by
  unfold Rl at h ⊢
  split at h
  · rename_i e; rw [if_pos e]; exact List.Perm.symm h
  · rename_i e; rw [if_neg e]; exact Eq.symm h
theorem Rl.trans {cls : Int} {A B C : List ByteArray} (h : Rl cls A B) (k : Rl cls B C) : Rl cls A C := by
  unfold Rl at h k ⊢
  split at h
  · rename_i e; rw [if_pos e] at k ⊢; exact List.Perm.trans h k
  · rename_i e; rw [if_neg e] at k ⊢; exact Eq.trans h k
theorem rl_canon (cls : Int) (A : List ByteArray) : Rl cls (keyL cls A) A := by
  unfold Rl
  split
  · rename_i e; subst e; exact keyL_perm A
  · rename_i e; unfold keyL; rw [if_neg e]
theorem rl_of_key {cls : Int} {A B : List ByteArray} (h : keyL cls A = keyL cls B) : Rl cls A B := (rl_canon cls A).symm.trans (h ▸ rl_canon cls B)

/-- equal states -/
structure Eqv (s : SesD) (x z : PS) : Prop where
  pos : x.pos = z.pos
  vals : x.vals = z.vals
  way : ∀ i k, Rl s.cls (x.way i k) (z.way i k)
section
variable {s : SesD} {x z u : PS}
theorem Eqv.refl (s : SesD) (x : PS) : Eqv s x x := ⟨rfl, rfl, fun _ _ => Rl.refl _ _⟩
theorem Eqv.symm (h : Eqv s x z) : Eqv s z x := ⟨h.pos.symm, h.vals.symm, fun i k => (h.way i k).symm⟩
theorem Eqv.trans (h : Eqv s x z) (k : Eqv s z u) : Eqv s x u := ⟨h.pos.trans k.pos, h.vals.trans k.vals, fun i j => (h.way i j).trans (k.way i j)⟩
theorem eqv_canon (s : SesD) (x : PS) : Eqv s (canon s x) x := ⟨rfl, rfl, fun i k => by rw [canon_way]; exact rl_canon _ _⟩
theorem Eqv.key (h : Eqv s x z) : keyP s x = keyP s z := by
  unfold keyP
  have e1 : keyRole x = keyRole z := by
    funext i
    unfold keyRole PS.at PS.bank
    rw [h.pos, h.vals]
  have e2 : keyWay s x = keyWay s z := by
    funext i k
    unfold keyWay
    rw [(h.way i k).perm.length_eq, rl_keys (h.way i k)]
  rw [e1, e2]
theorem eqv_of_key (h : SesOk s) (hx : PSok s x) (hz : PSok s z) (e : keyP s x = keyP s z) : Eqv s x z := by
  have h1 := dec_key h hx
  have h2 := dec_key h hz
  rw [e, h2] at h1
  have h3 : canon s z = canon s x := Option.some.inj h1
  exact (eqv_canon s x).symm.trans (h3 ▸ eqv_canon s z)
theorem hits_two {m : ByteArray} {i k : Nat} {L : List ByteArray} : ∀ n, n ≤ L.length →
    (m ∉ L.take n → hits m i k (chlK 2 L n) = []) ∧ (m ∈ L.take n → ∃ p, ∃ (hp : p < L.length), L[p] = m ∧ takeOk 2 L p = true ∧ hits m i k (chlK 2 L n) = [⟨1, i, k, p⟩])
  | 0, _ => ⟨fun _ => rfl, fun h => by simp at h⟩
  | n + 1, h => by
    obtain ⟨ih1, ih2⟩ := hits_two (m := m) (i := i) (k := k) (L := L) n (by omega)
    have hlt : n < L.length := by omega
    have hg := getD_at hlt
    rw [chlK, hits_append, take_snoc hlt]
    have hc := chc2 hlt
    constructor
    · intro hm
      rw [List.mem_append, not_or] at hm
      rw [ih1 hm.1]
      split
      · unfold hits
        rw [List.filterMap_cons, if_neg (fun e => hm.2 (by simpa using e.symm))]; rfl
      · rfl
    · intro hm
      by_cases e : m ∈ L.take n
      · obtain ⟨p, hp, e1, e2, e3⟩ := ih2 e
        refine ⟨p, hp, e1, e2, ?_⟩
        rw [e3]
        split
        · rename_i h4
          have h5 := hc.1 h4
          unfold hits
          rw [List.filterMap_cons, if_neg (fun e4 => h5 (by rw [show L.getD n ByteArray.empty = m from e4]; exact e))]; rfl
        · rfl
      · have hmn : L.getD n ByteArray.empty = m := by
          rcases List.mem_append.1 hm with h5 | h5
          · exact absurd h5 e
          · exact (List.mem_singleton.1 h5).symm
        have hcn := hc.2 (by rw [hmn]; exact e)
        refine ⟨n, hlt, by rw [← hg]; exact hmn, ?_, ?_⟩
        · unfold takeOk
          simp [hcn, hlt]
        · rw [ih1 e, if_pos hcn]
          unfold hits
          rw [List.filterMap_cons, if_pos hmn]; rfl
/-- what two corresponding moves are -/
structure MvR (s : SesD) (x z : PS) (a b : Mv) : Prop where
  kind : a.kind = b.kind
  role : a.role = b.role
  step : a.step = b.step
  next : Eqv s (nextP s x a) (nextP s z b)
theorem wayOf_set' {ws : List (List (List ByteArray))} {i k a b : Nat} {l : List ByteArray} : wayOf (setWay ws i k l) a b = if a = i ∧ b = k ∧ i < ws.length ∧ k < (ws.getD i []).length then l else wayOf ws a b := by
  by_cases hi : i < ws.length
  · by_cases hk : k < (ws.getD i []).length
    · rw [wayOf_set hi hk]
      exact if_iff ⟨fun h => ⟨h.1, h.2, hi, hk⟩, fun h => ⟨h.1, h.2.1⟩⟩ _ _
    · rw [if_neg (fun h => hk h.2.2.2)]
      unfold setWay
      rw [List.set_eq_of_length_le (l := ws.getD i []) (by omega)]
      unfold wayOf
      simp only [List.getD_eq_getElem?_getD, List.getElem?_set]
      by_cases ha : i = a
      · subst ha; rw [if_pos rfl, if_pos hi]; rfl
      · rw [if_neg ha]
  · rw [if_neg (fun h => hi h.2.2.1)]
    unfold setWay
    rw [List.set_eq_of_length_le (by omega)]
theorem eqv_set (hx : PSok s x) (hz : PSok s z) (h : ∀ i k, Rl s.cls (x.way i k) (z.way i k)) {i k : Nat} (hi : i < s.roles.length) {L M : List ByteArray} (hl : Rl s.cls L M) (a b : Nat) :
    Rl s.cls (wayOf (setWay x.ways i k L) a b) (wayOf (setWay z.ways i k M) a b) := by
  rw [wayOf_set', wayOf_set', hx.wl, hz.wl, hx.wr i hi, hz.wr i hi]
  split
  · exact hl
  · exact h a b
theorem next_step (s : SesD) (x : PS) (i k : Nat) (p : Int) : nextP s x ⟨1, i, k, p⟩ =
    { pos := x.pos.set i (stIx (s.rol i) ((s.rol i).stp k).to).toNat
      vals := x.vals.set i (bankDo (s.rol i).ctrs (x.bank i) ((s.rol i).stp k))
      ways :=
        if ((s.rol i).stp k).kind = 1 then setWay x.ways i (peerN s ((s.rol i).stp k)) (putL s.cap (x.way i (peerN s ((s.rol i).stp k))) ((s.rol i).stp k).msg)
        else if ((s.rol i).stp k).kind = 2 then setWay x.ways (peerN s ((s.rol i).stp k)) i (takeL s.cls (x.way (peerN s ((s.rol i).stp k)) i) p)
        else x.ways } := by
  unfold nextP
  rw [if_neg (show ¬ (1 : Int) = 2 by decide)]
  rfl
theorem next_lose (s : SesD) (x : PS) (i k : Nat) (p : Int) : nextP s x ⟨2, i, k, p⟩ = { x with ways := setWay x.ways i k (loseL s.cls (x.way i k)) } := by
  unfold nextP
  rw [if_pos rfl]
  rfl
theorem step_rel (h : SesOk s) (hx : PSok s x) (hz : PSok s z) (he : Eqv s x z) {i k : Nat} (hi : i < s.roles.length) (hk : k < (s.rol i).steps.length) :
    P2 (MvR s x z) (stepMv s x i k) (stepMv s z i k) := by
  have hp : possB s x i k = possB s z i k := by unfold possB PS.at PS.bank; rw [he.pos, he.vals]
  have hn : ∀ (p q : Int) (h2 : (((s.rol i).stp k).kind = 2 → Rl s.cls (takeL s.cls (x.way (peerN s ((s.rol i).stp k)) i) p) (takeL s.cls (z.way (peerN s ((s.rol i).stp k)) i) q))), MvR s x z ⟨1, i, k, p⟩ ⟨1, i, k, q⟩ := by
    intro p q h2
    refine ⟨rfl, rfl, rfl, ?_⟩
    rw [next_step, next_step]
    refine ⟨by simp only; rw [he.pos], by simp only; unfold PS.bank; rw [he.vals], fun a b => ?_⟩
    unfold PS.way
    simp only
    by_cases k1 : ((s.rol i).stp k).kind = 1
    · rw [if_pos k1, if_pos k1]
      exact eqv_set hx hz he.way hi (rl_put (he.way _ _) _).2 a b
    · rw [if_neg k1, if_neg k1]
      by_cases k2 : ((s.rol i).stp k).kind = 2
      · rw [if_pos k2, if_pos k2]
        obtain ⟨-, p1, -⟩ := h.peer hi hk (by omega)
        exact eqv_set hx hz he.way p1 (h2 k2) a b
      · rw [if_neg k2, if_neg k2]
        exact he.way a b
  unfold stepMv
  rw [← hp]
  split
  · exact P2.nil
  · split
    · rename_i k2
      have hw := he.way (peerN s ((s.rol i).stp k)) i
      unfold Rl at hw
      by_cases hc : s.cls = 2
      · rw [if_pos hc] at hw
        rw [hc]
        obtain ⟨a1, a2⟩ := hits_two (m := ((s.rol i).stp k).msg) (i := i) (k := k) (L := x.way (peerN s ((s.rol i).stp k)) i) _ (Nat.le_refl _)
        obtain ⟨b1, b2⟩ := hits_two (m := ((s.rol i).stp k).msg) (i := i) (k := k) (L := z.way (peerN s ((s.rol i).stp k)) i) _ (Nat.le_refl _)
        rw [List.take_length] at a1 a2 b1 b2
        by_cases hm : ((s.rol i).stp k).msg ∈ x.way (peerN s ((s.rol i).stp k)) i
        · obtain ⟨p, hp, e1, e2, e3⟩ := a2 hm
          obtain ⟨q, hq, f1, f2, f3⟩ := b2 (hw.mem_iff.1 hm)
          rw [e3, f3]
          refine P2.one (hn p q fun _ => ?_)
          unfold Rl takeL
          rw [hc, if_pos rfl, if_pos e2, if_pos f2, Int.toNat_natCast, Int.toNat_natCast]
          have g1 := erase_perm hp
          have g2 := erase_perm hq
          rw [e1] at g1
          rw [f1] at g2
          exact ((g1.trans hw).trans g2.symm).cons_inv
        · rw [a1 hm, b1 (fun h' => hm (hw.mem_iff.2 h'))]
          exact P2.nil
      · rw [if_neg hc] at hw
        rw [← hw]
        refine ⟨rfl, fun n a b h1 h2 => ?_⟩
        rw [h1] at h2
        cases h2
        obtain ⟨e, -, -, rfl⟩ := mem_hits.1 (List.mem_of_getElem? h1)
        refine hn _ _ fun _ => ?_
        rw [← hw]; exact Rl.refl _ _
    · rename_i k2
      have e : ((x.way i (peerN s ((s.rol i).stp k))).length : Int) = ((z.way i (peerN s ((s.rol i).stp k))).length : Int) := by rw [(he.way _ _).perm.length_eq]
      rw [e]
      split
      · exact P2.nil
      · exact P2.one (hn 0 0 fun e => absurd e k2)
theorem rl_lose {cls : Int} {A B : List ByteArray} (h : Rl cls A B) : Rl cls (loseL cls A) (loseL cls B) := by
  unfold loseL
  by_cases e : cls = 3
  · subst e
    rw [if_pos rfl, if_pos rfl]
    unfold Rl at h
    rw [if_neg (by decide)] at h
    subst h
    exact Rl.refl _ _
  · rw [if_neg e, if_neg e]; exact h
theorem lose_rel (hx : PSok s x) (hz : PSok s z) (he : Eqv s x z) {i k : Nat} (hi : i < s.roles.length) : P2 (MvR s x z) (loseMv s x i k) (loseMv s z i k) := by
  unfold loseMv
  rw [(he.way i k).perm.length_eq]
  split
  · refine P2.one ⟨rfl, rfl, rfl, ?_⟩
    rw [next_lose, next_lose]
    exact ⟨he.pos, he.vals, fun a b => eqv_set hx hz he.way hi (rl_lose (he.way _ _)) a b⟩
  · exact P2.nil
/-- EQUAL STATES HAVE THE SAME MOVES, WHICH LEAD TO EQUAL STATES -/
theorem moves_rel (h : SesOk s) (hx : PSok s x) (hz : PSok s z) (he : Eqv s x z) : P2 (MvR s x z) (movesP s x) (movesP s z) :=
  (P2.cat fun _ hi => P2.cat fun _ hk => step_rel h hx hz he hi hk).append (P2.cat fun _ hi => P2.cat fun _ _ => lose_rel hx hz he hi)
theorem final_rel (hx : PSok s x) (hz : PSok s z) (he : Eqv s x z) : finalB s x = finalB s z := by
  unfold finalB
  have e : ∀ i, i ∈ List.range s.roles.length → ((x.ways.getD i []).all (fun l => l.isEmpty) && ((s.rol i).sts.getD (x.at i) dS).fin) = ((z.ways.getD i []).all (fun l => l.isEmpty) && ((s.rol i).sts.getD (z.at i) dS).fin) := by
    intro i hi
    rw [List.mem_range] at hi
    have e1 : x.at i = z.at i := by unfold PS.at; rw [he.pos]
    rw [e1]
    congr 1
    rw [Bool.eq_iff_iff, List.all_eq_true, List.all_eq_true]
    have key : ∀ {x z : PS}, PSok s x → PSok s z → Eqv s x z → (∀ l ∈ x.ways.getD i [], l.isEmpty = true) → ∀ l ∈ z.ways.getD i [], l.isEmpty = true := by
      intro x z hx hz he h l hl
      obtain ⟨k, hk⟩ := List.getElem?_of_mem hl
      have h1 := lt_of_some hk
      rw [hz.wr i hi, ← hx.wr i hi] at h1
      have h2 := h _ (List.mem_of_getElem? (some_getD (d := []) h1))
      have h3 := (he.way i k).perm.length_eq
      have h4 : z.way i k = l := by unfold PS.way wayOf; exact getD_some hk
      have h5 : x.way i k = [] := by unfold PS.way wayOf; simpa using h2
      rw [h4, h5] at h3
      simpa using h3.symm
    exact ⟨key hx hz he, key hz hx he.symm⟩
  rw [Bool.eq_iff_iff, List.all_eq_true, List.all_eq_true]
  exact ⟨fun h i hi => by rw [← e i hi]; exact h i hi, fun h i hi => by rw [e i hi]; exact h i hi⟩
end
end Go.Proofs.YtkphhjekfimmlaaGreat
namespace Go.Proofs.YtkphhjekfimmlaaGreat
open Go.RowKit Go.BigFrame

/-- a state that one holds -/
def StTo (w : World) (s : SesD) (yb : Nat) (y : PS) (v : Value) (w' : World) : Prop := ∃ xb, v = .tuple #[.pointer (some ⟨xb, 0, none⟩), .int .i64 0] ∧ StR w' s yb xb y ∧ Frm [] w w'
section
variable {w W W' : World} {s : SesD} {x : PS} {yb xb ab gb rb cb f t : Nat} {F F' : List Nat} {L L' : List ByteArray}
/-- the actor i is put: the state behind a step -/
theorem ChS.step (h : ChS w s x yb xb ab gb rb cb f t F L W) (hx : PSok s x) (hf : f < s.roles.length) (ht : t < s.roles.length) {i b g p : Nat} {vs : List Int} (hi : i < s.roles.length) (ob : BnkO W b g ((s.rol i).ctrs.zip vs)) (hb : b ≠ ab) (hg : g ≠ ab) {y : PS}
    (hy : y = { pos := x.pos.set i p, vals := x.vals.set i vs, ways := setWay x.ways f t L }) (ho : PSok s y) :
    StR ((W.setCell ⟨ab, i * 2, none⟩ (.int .i64 (p : Int))).setCell ⟨ab, i * 2 + 1, none⟩ (.pointer (some ⟨b, 0, none⟩))) s yb xb y ∧ Frm [] w ((W.setCell ⟨ab, i * 2, none⟩ (.int .i64 (p : Int))).setCell ⟨ab, i * 2 + 1, none⟩ (.pointer (some ⟨b, 0, none⟩))) := by
  obtain ⟨cg, ca, h1, -⟩ := h.ways hx hf ht
  obtain ⟨cur, ha⟩ := h.ha
  have hS : Frm [ab] W ((W.setCell ⟨ab, i * 2, none⟩ (.int .i64 (p : Int))).setCell ⟨ab, i * 2 + 1, none⟩ (.pointer (some ⟨b, 0, none⟩))) := ((Frm.refl [ab] W).setCell _ (.inl (by simp)) _).setCell _ (.inl (by simp)) _
  have hb2 := block_setCell (block_setCell ha (i * 2) (.int .i64 (p : Int))) (i * 2 + 1) (.pointer (some ⟨b, 0, none⟩))
  obtain ⟨W2, hW2⟩ : ∃ W2, (W.setCell ⟨ab, i * 2, none⟩ (.int .i64 (p : Int))).setCell ⟨ab, i * 2 + 1, none⟩ (.pointer (some ⟨b, 0, none⟩)) = W2 := ⟨_, rfl⟩
  rw [hW2] at hS hb2 ⊢
  have nx : xb ∉ [ab] := fun e => by simp at e; subst e; rw [h1] at ha; cases ha
  obtain ⟨⟨c1, f1, t1⟩, c2, f2, t2⟩ := h.types
  have ng : gb ∉ [ab] := fun e => by simp at e; subst e; rw [t1] at ha; cases ha
  have nr : rb ∉ [ab] := fun e => by simp at e; subst e; rw [t2] at ha; cases ha
  have nF : ∀ k ∈ F, k ∉ [ab] := fun k hk e => by
    obtain ⟨c, e', a1, a2⟩ := h.chn.types hk
    simp at e; subst e
    rw [ha] at a1; cases a1
    revert a2; decide
  have hfw : Frm [] w W2 := h.fr.then hS (by intro k hk; simp at hk; subst hk; exact .inr h.new.2.1)
  obtain ⟨cr, hr⟩ := h.rowf
  -- the channels as they were
  have h' : ChS w s x yb xb ab gb rb cb f t F L W → True := fun _ => trivial
  have hsz : i * 2 + 1 < cur.size := by
    obtain ⟨bb, a1, a2, -⟩ := h.act i hi
    rw [cell_of ha] at a2
    exact (Array.getElem?_eq_some_iff.1 a2).1
  subst hy
  refine ⟨⟨⟨_, _, hS.at h1 nx, ⟨some ⟨ab, 0, none⟩, ca, by rw [actsP_len], fun j a hj => ⟨ab, 0, rfl, ?_⟩⟩, some ⟨gb, 0, none⟩, cg, by rw [setWay_length, hx.wl], fun j R hR => ⟨gb, 0, rfl, ?_⟩⟩, ho⟩, hfw⟩
  · have hjl : j < s.roles.length := by have := lt_of_some hj; rwa [actsP_len] at this
    rw [actsP_at hjl] at hj
    cases hj
    rw [Nat.zero_add]
    by_cases e : j = i
    · subst e
      refine ⟨b, ?_, ?_, ?_⟩
      · rw [cell_of hb2, Array.getElem?_setIfInBounds_ne (by omega), Array.getElem?_setIfInBounds_self_of_lt (by omega)]
        simp only [PS.at]
        rw [List.getD_eq_getElem?_getD, List.getElem?_set_self (by rw [hx.pl]; exact hi)]
        rfl
      · rw [cell_of hb2, Array.getElem?_setIfInBounds_self_of_lt (by simp; omega)]
      · have := ob.frm hS (by simpa using hb) (by simpa using hg)
        simp only [PS.ctr, PS.bank]
        rw [List.getD_eq_getElem?_getD, List.getElem?_set_self (by rw [hx.vl]; exact hi)]
        exact this.bnk
    · obtain ⟨bb, a1, a2, a3⟩ := h.act j hjl
      rw [cell_of ha] at a1 a2
      refine ⟨bb, ?_, ?_, ?_⟩
      · rw [cell_of hb2, Array.getElem?_setIfInBounds_ne (by omega), Array.getElem?_setIfInBounds_ne (by omega), a1]
        simp only [PS.at]
        rw [List.getD_eq_getElem?_getD, List.getD_eq_getElem?_getD, List.getElem?_set_ne (fun h => e h.symm)]
      · rw [cell_of hb2, Array.getElem?_setIfInBounds_ne (by omega), Array.getElem?_setIfInBounds_ne (by omega), a2]
      · have a3' := a3.frm hfw
        unfold PS.ctr PS.bank at a3' ⊢
        rw [List.getD_eq_getElem?_getD] at a3'
        simp only
        rw [List.getD_eq_getElem?_getD, List.getElem?_set_ne (fun h => e h.symm)]
        exact a3'
  · have hjl := lt_of_some hR
    rw [setWay_length, hx.wl] at hjl
    rw [Nat.zero_add, Nat.mul_one]
    unfold setWay at hR
    rw [List.getElem?_set] at hR
    by_cases e : f = j
    · subst e
      rw [if_pos rfl, if_pos (by rw [hx.wl]; exact hjl)] at hR
      cases hR
      refine ⟨_, hS.cellAt hr ng, some ⟨rb, 0, none⟩, cr, by rw [List.length_set, hx.wr f hf], fun k M hM => ⟨rb, 0, rfl, ?_⟩⟩
      have hk := lt_of_some hM
      rw [List.length_set, hx.wr f hf] at hk
      rw [Nat.zero_add, Nat.mul_one]
      rw [List.getElem?_set] at hM
      by_cases e2 : t = k
      · subst e2
        rw [if_pos rfl, if_pos (by rw [hx.wr f hf]; exact hk)] at hM
        cases hM
        exact ⟨cb, F, hS.cellAt h.cht nr, h.chn.frm hS nF⟩
      · rw [if_neg e2] at hM
        obtain ⟨c, G, a1, a2⟩ := h.chs k hk (fun e => e2 e.symm)
        have : x.way f k = M := by unfold PS.way wayOf; exact getD_some hM
        rw [this] at a2
        exact ⟨c, G, hS.cellAt a1 nr, a2.frm hfw (by simp)⟩
    · rw [if_neg e] at hR
      obtain ⟨rv, a1, a2⟩ := h.row j hjl (fun e' => e e'.symm)
      rw [getD_some hR] at a2
      exact ⟨rv, hS.cellAt a1 ng, a2.frm hfw⟩
end
theorem setWay_self {ws : List (List (List ByteArray))} {i k : Nat} (hi : i < ws.length) (hk : k < (ws.getD i []).length) : setWay ws i k (wayOf ws i k) = ws := by
  unfold setWay wayOf
  have e1 : (ws.getD i []).set k ((ws.getD i []).getD k []) = ws.getD i [] := by
    apply List.ext_getElem?
    intro j
    rw [List.getElem?_set]
    by_cases e : k = j
    · subst e; rw [if_pos rfl, if_pos hk]; exact (some_getD hk).symm
    · rw [if_neg e]
  rw [e1]
  apply List.ext_getElem?
  intro j
  rw [List.getElem?_set]
  by_cases e : i = j
  · subst e; rw [if_pos rfl, if_pos hi]; exact (some_getD hi).symm
  · rw [if_neg e]
set_option maxHeartbeats 4000000 in
set_option maxRecDepth 100000 in
theorem pDo_no (s : SesD) (yb fb sb : Nat) (x : PS) (m : Mv) (w : World) (h : SyR w s yb fb) (hx : StR w s yb sb x) (hm : m ∉ movesP s x) :
    Calls Tryz.prog 24 #[.pointer (some ⟨yb, 0, none⟩), .pointer (some ⟨sb, 0, none⟩), mvV m] w (Ret (.tuple #[.pointer none, .int .i64 9]) (Frm [] w)) := by
  have HF0 : Hid (Frm [] w (w.alloc (.cells (encM m) 45))) := Lib.hid ((Frm.refl [] w).alloc _)
  have C1 := Lib.hid (pCheck_any s yb fb sb x _ (h.frm HF0.out) (hx.frm HF0.out))
  have CM : Hid (∀ V, Frm [] w V → Calls Tryz.prog 57 #[.pointer (some ⟨yb, 0, none⟩), .pointer (some ⟨sb, 0, none⟩)] V (RetV fun v w' => Arr 4 MvAt w' v (movesP s x) ∧ Frm [] V w')) := Lib.hid fun V hV => pmoves_any s yb fb sb x V (h.frm hV) (hx.frm hV)
  have HLN : Hid ((movesP s x).length ≤ 5000) := Lib.hid (by
    have a1 := stepsMv_len h.ok hx.ok (Nat.le_refl s.roles.length)
    have a2 := losesMv_len (x := x) h.ok (Nat.le_refl s.roles.length)
    unfold movesP
    rw [List.length_append]
    exact Nat.le_trans (Nat.add_le_add a1 a2) (by decide))
  have HM : Hid (decide (m ∈ movesP s x) = false) := Lib.hid (decide_eq_false hm)
  have HS : Hid (∀ V, Frm [] (w.alloc (.cells (encM m) 45)) V → V.cell? ⟨w.heap.size, 0, none⟩ = some (.int .i64 m.kind) ∧ V.cell? ⟨w.heap.size, 1, none⟩ = some (.int .i64 m.role) ∧ V.cell? ⟨w.heap.size, 2, none⟩ = some (.int .i64 m.step) ∧ V.cell? ⟨w.heap.size, 3, none⟩ = some (.int .i64 m.place)) := Lib.hid fun V hV => by
    have hb := hV.at (heap_alloc_new w (.cells (encM m) 45)) (by simp)
    exact ⟨cell_of hb 0, cell_of hb 1, cell_of hb 2, cell_of hb 3⟩
  clear h hx hm
  go_enter Tryz.func24, Tryz.ntmps24
  go_upto_region 4 with (first
    | (go_at_call 56; go_must (refine C1.out.mono ?_; rintro e w' ⟨rfl, rfl⟩)))
  obtain ⟨w0, hw0⟩ : ∃ w0, w.alloc (.cells (encM m) 45) = w0 := ⟨_, rfl⟩
  rw [hw0] at HS HF0
  try rw [hw0]
  clear hw0 C1
  go_region_held3 (fun V => V.cell? ⟨w.heap.size, 0, none⟩ = some (.int .i64 m.kind) ∧ V.cell? ⟨w.heap.size, 1, none⟩ = some (.int .i64 m.role) ∧ V.cell? ⟨w.heap.size, 2, none⟩ = some (.int .i64 m.step) ∧ V.cell? ⟨w.heap.size, 3, none⟩ = some (.int .i64 m.place))
    (first
      | exact HS.out _ ((Frm.refl [] w0).drew)
      | exact HS.out _ F1.out
      | exact HS.out _ F2.out)
    (first
      | (go_at_call 57; go_must (refine (CM.out _ HF0.out.drew).mono ?_; rintro e w1 ⟨u, rfl, ha, hf⟩; have F1 : Hid (Frm [] w0 w1) := Lib.hid ((Frm.refl [] w0).drew.trans hf); obtain ⟨am, cm, rfl⟩ := ha.shape; have CC := Lib.hid (coMove_any _ _ m w1 ha HLN.out); rw [HM.out] at CC; clear ha hf))
      | (go_at_call 73; go_must (refine CC.out.mono ?_; rintro e w2 ⟨rfl, hf⟩; have F2 : Hid (Frm [] w0 w2) := Lib.hid (F1.out.trans hf); clear hf)))
  go_wp2
  go_ret2
  exact ⟨rfl, HF0.out.trans F2.out⟩
end Go.Proofs.YtkphhjekfimmlaaGreat
