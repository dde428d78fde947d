/- The channel's Choices. Moves: which there are, that what they lead to is a state, and that trying all that there could be finds the same ones. product: moves; the row of moves that grows. -/
import Derived.Test.YtkphhjekfimmlaaGreatB07
import Derived.Test.YtkphhjekfimmlaaGreatB08
import Derived.Test.YtkphhjekfimmlaaGreatB01
namespace Go.Proofs.YtkphhjekfimmlaaGreat
open Go.RowKit Go.BigFrame

/-- what Choices hands back -/
def ChTo (w : World) (cb : Nat) (cls : Int) (L : List ByteArray) (v : Value) (w' : World) : Prop :=
  ∃ bl bc sv, v = .func (.func 149) #[] #[.pointer (some ⟨bl, 0, none⟩), .pointer (some ⟨bc, 0, none⟩)] ∧ ChR bl bc cb cls sv L w' ∧ Frm [] w w' ∧ w.heap.size ≤ bl ∧ w.heap.size ≤ bc ∧ ∀ k, sv.ownBlock = some k → w.heap.size ≤ k
theorem Chn.cell0 {w : World} {cb : Nat} {cls cap : Int} {L : List ByteArray} {F : List Nat} (h : Chn w cb cls cap L F) : w.cell? ⟨cb, 0, none⟩ = some (.int .i64 cls) := by
  obtain ⟨sv, e1, -, -, -⟩ := h; exact cell_of e1 0
set_option maxHeartbeats 1000000 in
theorem choose_any (cb : Nat) (cls cap : Int) (L : List ByteArray) (F : List Nat) (w : World) (h : Chn w cb cls cap L F) :
    Calls Tryz.prog 109 #[.pointer (some ⟨cb, 0, none⟩)] w (RetV (ChTo w cb cls L)) := by
  have HC := Lib.hid h
  have CA := Lib.hid (all_any (h.frm ((Frm.refl [] w).alloc (.cells #[.pointer (some ⟨cb, 0, none⟩)] 138)) (by simp)))
  have b0 : (w.alloc (.cells #[.pointer (some ⟨cb, 0, none⟩)] 138)).heap[w.heap.size]? = some (.cells #[.pointer (some ⟨cb, 0, none⟩)] 138 (0, 0)) := heap_alloc_new _ _
  have B0 := Lib.hid b0
  have c0 := cell_of b0 0
  clear h b0
  go_enter Tryz.func109, Tryz.ntmps109
  go_wp2_with (go_at_call 107; go_must (refine CA.out.mono ?_; rintro e w1 ⟨v, rfl, hr⟩; obtain ⟨ao, cp, rfl, -, -⟩ := hr.1.shape; have HR := Lib.hid hr; clear hr))
  go_ret
  have hf0 : Frm [] w w1 := ((Frm.refl [] w).alloc _).trans HR.out.2.1
  refine ⟨_, rfl, _, _, _, rfl, ⟨heap_alloc_new _ _, HR.out.1.frm ((Frm.refl [] _).alloc _) (by simp), ((Frm.refl [] w1).alloc _).at (HR.out.2.1.at B0.out (by simp)) (by simp), (hf0.alloc _).keep HC.out.cell0⟩, hf0.alloc _, ?_, Nat.le_refl _, fun k hk => ?_⟩
  · exact hf0.size
  · have := HR.out.2.2 k hk; simp at this; omega
end Go.Proofs.YtkphhjekfimmlaaGreat
namespace Go.Proofs.YtkphhjekfimmlaaGreat
open Go

section
variable {s : SesD} {x : PS}
theorem mem_hits {m : ByteArray} {i k : Nat} {l : List (Nat × ByteArray)} {v : Mv} : v ∈ hits m i k l ↔ ∃ e ∈ l, e.2 = m ∧ v = ⟨1, i, k, e.1⟩ := by
  unfold hits
  rw [List.mem_filterMap]
  constructor
  · rintro ⟨e, he, h⟩
    split at h
    · rename_i h2; exact ⟨e, he, h2, by simpa using h.symm⟩
    · cases h
  · rintro ⟨e, he, h2, rfl⟩
    exact ⟨e, he, by rw [if_pos h2]⟩
theorem mem_movesP {v : Mv} : v ∈ movesP s x ↔ (∃ i k, i < s.roles.length ∧ k < (s.rol i).steps.length ∧ v ∈ stepMv s x i k) ∨ (∃ i k, i < s.roles.length ∧ k < s.roles.length ∧ v ∈ loseMv s x i k) := by
  unfold movesP
  rw [List.mem_append, mem_cat, mem_cat]
  simp only [mem_cat]
  constructor
  · rintro (⟨i, h1, k, h2, h3⟩ | ⟨i, h1, k, h2, h3⟩)
    · exact .inl ⟨i, k, h1, h2, h3⟩
    · exact .inr ⟨i, k, h1, h2, h3⟩
  · rintro (⟨i, k, h1, h2, h3⟩ | ⟨i, k, h1, h2, h3⟩)
    · exact .inl ⟨i, h1, k, h2, h3⟩
    · exact .inr ⟨i, h1, k, h2, h3⟩
/-- what a step's move is -/
theorem mem_stepMv {v : Mv} {i k : Nat} (h : v ∈ stepMv s x i k) : v.kind = 1 ∧ v.role = i ∧ v.step = k ∧ possB s x i k = true ∧
    (((s.rol i).stp k).kind = 2 → ∃ p : Nat, v.place = p ∧ (p, ((s.rol i).stp k).msg) ∈ chlK s.cls (x.way (peerN s ((s.rol i).stp k)) i) (x.way (peerN s ((s.rol i).stp k)) i).length) ∧
    (((s.rol i).stp k).kind ≠ 2 → v.place = 0) ∧ (((s.rol i).stp k).kind = 1 → ((x.way i (peerN s ((s.rol i).stp k))).length : Int) < s.cap) := by
  unfold stepMv at h
  cases hp : possB s x i k with
  | false => rw [if_pos hp] at h; cases h
  | true =>
    rw [if_neg (by rw [hp]; decide)] at h
    by_cases h2 : ((s.rol i).stp k).kind = 2
    · rw [if_pos h2] at h
      obtain ⟨e, he, e2, rfl⟩ := mem_hits.1 h
      exact ⟨rfl, rfl, rfl, rfl, fun _ => ⟨e.1, rfl, by rw [← e2]; exact he⟩, fun h3 => absurd h2 h3, fun h3 => by rw [h2] at h3; cases h3⟩
    · rw [if_neg h2] at h
      split at h
      · cases h
      · rename_i h3
        simp only [List.mem_singleton] at h
        subst h
        exact ⟨rfl, rfl, rfl, rfl, fun h4 => absurd h4 h2, fun _ => rfl, fun h4 => by
          rcases Int.lt_or_le ((x.way i (peerN s ((s.rol i).stp k))).length : Int) s.cap with h5 | h5
          · exact h5
          · exact absurd ⟨h4, h5⟩ h3⟩
theorem mem_loseMv {v : Mv} {i k : Nat} : v ∈ loseMv s x i k ↔ v = ⟨2, i, k, 0⟩ ∧ s.cls = 3 ∧ 0 < (x.way i k).length := by
  unfold loseMv
  split
  · rename_i h; simp [h]
  · rename_i h
    exact ⟨fun h1 => absurd h1 (by simp), fun h1 => absurd h1.2 h⟩
theorem takeL_mem {cls : Int} {L : List ByteArray} {p : Int} : (takeL cls L p).length ≤ L.length ∧ ∀ m ∈ takeL cls L p, m ∈ L := by
  unfold takeL
  split
  · exact ⟨List.length_eraseIdx_le _ _, fun m hm => List.mem_of_mem_eraseIdx hm⟩
  · exact ⟨Nat.le_refl _, fun m hm => hm⟩
theorem loseL_mem {cls : Int} {L : List ByteArray} : (loseL cls L).length ≤ L.length ∧ ∀ m ∈ loseL cls L, m ∈ L := by
  unfold loseL
  split
  · exact takeL_mem
  · exact ⟨Nat.le_refl _, fun m hm => hm⟩
theorem bank_at (h : SesOk s) (hx : PSok s x) {i k : Nat} (hi : i < s.roles.length) (hk : k < (s.rol i).steps.length) :
    (bankDo (s.rol i).ctrs (x.bank i) ((s.rol i).stp k)).length = (s.rol i).ctrs.length ∧
    (bankOk (s.rol i).ctrs (x.bank i) ((s.rol i).stp k) = true → ∀ (j : Nat) (c : CtrD), (s.rol i).ctrs[j]? = some c → 0 ≤ (bankDo (s.rol i).ctrs (x.bank i) ((s.rol i).stp k)).getD j 0 ∧ (bankDo (s.rol i).ctrs (x.bank i) ((s.rol i).stp k)).getD j 0 ≤ c.lim) := by
  obtain ⟨hl, hb⟩ := hx.vb i hi
  unfold bankDo bankOk
  by_cases he : ((s.rol i).stp k).ctr = emptyS
  · rw [if_pos he]; exact ⟨hl, fun _ => hb⟩
  · rw [if_neg he, if_neg he]
    refine ⟨by rw [List.length_set]; exact hl, fun hok j c hj => ?_⟩
    obtain ⟨n, d, e1, e2, -⟩ := (h.stp hi hk).ctr he
    rw [e1] at hok ⊢
    simp only [Int.toNat_natCast, Bool.and_eq_true] at hok ⊢
    rw [List.getD_eq_getElem?_getD, List.getElem?_set]
    by_cases hn : n = j
    · subst hn
      have hlt := lt_of_some hj
      rw [if_pos rfl, if_pos (by omega)]
      have hdc : (s.rol i).ctrs.getD n dC = c := getD_some hj
      rw [hdc] at hok
      have h2 := hok.2
      simp only [allowsV, Bool.and_eq_true, decide_eq_true_eq] at h2
      simp only [Option.getD_some]
      constructor <;> omega
    · rw [if_neg hn, ← List.getD_eq_getElem?_getD]
      exact hb j c hj
theorem next_ok (h : SesOk s) (hx : PSok s x) {v : Mv} (hv : v ∈ movesP s x) : PSok s (nextP s x v) := by
  rcases mem_movesP.1 hv with ⟨i, k, hi, hk, hm⟩ | ⟨i, k, hi, hk, hm⟩
  · obtain ⟨e1, e2, e3, e4, e5, e6, e7⟩ := mem_stepMv hm
    have hst := h.stp hi hk
    obtain ⟨bl, bb⟩ := bank_at h hx hi hk
    have hp : bankOk (s.rol i).ctrs (x.bank i) ((s.rol i).stp k) = true := by
      unfold possB at e4; rw [Bool.and_eq_true] at e4; exact e4.1
    have bb := bb hp
    -- the state but for the channels
    have h0 : ∀ ws, PSok s { x with ways := ws } → PSok s { pos := x.pos.set i (stIx (s.rol i) ((s.rol i).stp k).to).toNat, vals := x.vals.set i (bankDo (s.rol i).ctrs (x.bank i) ((s.rol i).stp k)), ways := ws } := by
      intro ws hw
      refine ⟨by simpa using hx.pl, fun j hj => ?_, by simpa using hx.vl, fun j hj => ?_, hw.wl, hw.wr, hw.wb, hw.wd⟩
      · show (x.pos.set i _).getD j 0 < _
        rw [List.getD_eq_getElem?_getD, List.getElem?_set]
        by_cases e : i = j
        · subst e
          rw [if_pos rfl, if_pos (by rw [hx.pl]; exact hi)]
          obtain ⟨q, hq, hql⟩ := ixf_nat hst.to
          have e' : stIx (s.rol i) ((s.rol i).stp k).to = q := hq
          rw [e']
          simpa using hql
        · rw [if_neg e, ← List.getD_eq_getElem?_getD]; exact hx.pb j hj
      · show ((x.vals.set i _).getD j []).length = _ ∧ ∀ (k : Nat) (c : CtrD), _ → 0 ≤ ((x.vals.set i _).getD j []).getD k 0 ∧ ((x.vals.set i _).getD j []).getD k 0 ≤ _
        have e9 : (x.vals.set i (bankDo (s.rol i).ctrs (x.bank i) ((s.rol i).stp k))).getD j [] = if i = j then bankDo (s.rol i).ctrs (x.bank i) ((s.rol i).stp k) else x.bank j := by
          rw [List.getD_eq_getElem?_getD, List.getElem?_set]
          by_cases e : i = j
          · subst e; rw [if_pos rfl, if_pos (by rw [hx.vl]; exact hi), if_pos rfl]; rfl
          · rw [if_neg e, if_neg e, ← List.getD_eq_getElem?_getD]; rfl
        rw [e9]
        by_cases e : i = j
        · subst e; rw [if_pos rfl]; exact ⟨bl, bb⟩
        · rw [if_neg e]; exact hx.vb j hj
    unfold nextP
    rw [if_neg (by rw [e1]; decide), e2, e3, Int.toNat_natCast, Int.toNat_natCast]
    apply h0
    by_cases k1 : ((s.rol i).stp k).kind = 1
    · rw [if_pos k1]
      obtain ⟨-, p1, p2⟩ := h.peer hi hk (by omega)
      refine hx.set hi p1 (fun e => p2 e.symm) ?_
      obtain ⟨w1, w2⟩ := hx.wb i _ hi p1
      unfold putL
      split
      · refine ⟨by rw [List.length_append]; simp; have := e7 k1; omega, fun m hm => ?_⟩
        rcases List.mem_append.1 hm with hm | hm
        · exact w2 m hm
        · rw [List.mem_singleton] at hm; subst hm; exact hst.msg (by omega)
      · exact ⟨w1, w2⟩
    · rw [if_neg k1]
      by_cases k2 : ((s.rol i).stp k).kind = 2
      · rw [if_pos k2]
        obtain ⟨-, p1, p2⟩ := h.peer hi hk (by omega)
        refine hx.set p1 hi p2 ?_
        obtain ⟨w1, w2⟩ := hx.wb _ i p1 hi
        have := takeL_mem (cls := s.cls) (L := x.way (peerN s ((s.rol i).stp k)) i) (p := v.place)
        exact ⟨by omega, fun m hm => w2 m (this.2 m hm)⟩
      · rw [if_neg k2]; exact hx
  · obtain ⟨rfl, e2, e3⟩ := mem_loseMv.1 hm
    unfold nextP
    rw [if_pos rfl, Int.toNat_natCast, Int.toNat_natCast]
    have hne : i ≠ k := fun e => by subst e; rw [hx.wd] at e3; simp at e3
    refine hx.set hi hk hne ?_
    obtain ⟨w1, w2⟩ := hx.wb i k hi hk
    have := loseL_mem (cls := s.cls) (L := x.way i k)
    exact ⟨by omega, fun m hm => w2 m (this.2 m hm)⟩
theorem first_way (s : SesD) (i k : Nat) : (firstP s).way i k = [] := by
  show ((s.roles.map fun _ => s.roles.map fun _ => ([] : List ByteArray)).getD i []).getD k [] = []
  simp only [List.getD_eq_getElem?_getD, List.getElem?_map]
  cases s.roles[i]? with
  | none => simp
  | some r => simp only [Option.map_some, Option.getD_some, List.getElem?_map]; cases s.roles[k]? <;> simp
theorem first_ok (h : SesOk s) : PSok s (firstP s) := by
  refine ⟨by simp [firstP], fun i hi => ?_, by simp [firstP], fun i hi => ?_, by simp [firstP], fun i hi => ?_, fun i k _ _ => ?_, fun i => first_way s i i⟩
  · have e : (firstP s).at i = 0 := by
      show (s.roles.map fun _ => 0).getD i 0 = 0
      simp only [List.getD_eq_getElem?_getD, List.getElem?_map]; cases s.roles[i]? <;> simp
    rw [e]
    exact (h.at hi).s1
  · have e : (firstP s).bank i = (s.rol i).ctrs.map fun _ => 0 := by
      show (s.roles.map fun r => r.ctrs.map fun _ => (0 : Int)).getD i [] = _
      rw [List.getD_eq_getElem?_getD, List.getElem?_map, SesD.rol_some hi]; rfl
    rw [e]
    refine ⟨by simp, fun k c hc => ?_⟩
    have := (h.at hi).cN c (List.mem_of_getElem? hc)
    rw [List.getD_eq_getElem?_getD, List.getElem?_map, hc]
    exact ⟨by simp, by simp; omega⟩
  · show ((s.roles.map fun _ => s.roles.map fun _ => ([] : List ByteArray)).getD i []).length = _
    rw [List.getD_eq_getElem?_getD, List.getElem?_map, SesD.rol_some hi]; simp
  · rw [first_way]; exact ⟨by simp; have := h.k1; omega, by simp⟩
theorem chl_iff {cls : Int} {L : List ByteArray} {p : Nat} {m : ByteArray} : (p, m) ∈ chlK cls L L.length ↔ takeOk cls L p = true ∧ takeM cls L p = m := by
  have h1 : (p, m) ∈ chlK cls L L.length ↔ p < L.length ∧ chc cls L p = true ∧ L.getD p ByteArray.empty = m := by
    constructor
    · intro h
      obtain ⟨e1, e2⟩ := mem_chl _ h
      have := (mem_chp L.length).1 (show p ∈ chp cls L L.length from List.mem_map.2 ⟨_, h, rfl⟩)
      exact ⟨e1, this.2, e2.symm⟩
    · rintro ⟨e1, e2, rfl⟩
      obtain ⟨rest, hr⟩ := chl_split e1 e2
      rw [hr]; simp
  have h2 : takeOk cls L p = true ↔ p < L.length ∧ chc cls L p = true := by
    unfold takeOk
    simp
  rw [h1, h2]
  constructor
  · rintro ⟨e1, e2, e3⟩
    refine ⟨⟨e1, e2⟩, ?_⟩
    unfold takeM
    rw [if_pos (h2.2 ⟨e1, e2⟩)]
    simpa using e3
  · rintro ⟨⟨e1, e2⟩, e3⟩
    refine ⟨e1, e2, ?_⟩
    unfold takeM at e3
    rw [if_pos (h2.2 ⟨e1, e2⟩)] at e3
    simpa using e3
/-- whether the move of a step, at a place, is one -/
theorem step_iff {i k : Nat} {p : Int} : (⟨1, i, k, p⟩ : Mv) ∈ stepMv s x i k ↔ possB s x i k = true ∧
    (if ((s.rol i).stp k).kind = 2 then takeE s.cls (x.way (peerN s ((s.rol i).stp k)) i) p = 0 ∧ takeM s.cls (x.way (peerN s ((s.rol i).stp k)) i) p = ((s.rol i).stp k).msg
     else p = 0 ∧ (((s.rol i).stp k).kind = 1 → ((x.way i (peerN s ((s.rol i).stp k))).length : Int) < s.cap)) := by
  constructor
  · intro h
    obtain ⟨-, -, -, e4, e5, e6, e7⟩ := mem_stepMv h
    refine ⟨e4, ?_⟩
    split
    · rename_i h2
      obtain ⟨q, hq, hm⟩ := e5 h2
      obtain rfl : p = q := hq
      obtain ⟨h3, h4⟩ := chl_iff.1 hm
      exact ⟨by unfold takeE; rw [if_pos h3], h4⟩
    · rename_i h2
      exact ⟨e6 h2, e7⟩
  · rintro ⟨h1, h2⟩
    unfold stepMv
    rw [if_neg (by rw [h1]; decide)]
    split at h2
    · rename_i k2
      rw [if_pos k2, mem_hits]
      have ho : takeOk s.cls (x.way (peerN s ((s.rol i).stp k)) i) p = true := by
        have := h2.1
        unfold takeE at this
        split at this
        · assumption
        · cases this
      have hp : 0 ≤ p := by
        have h3 := ho
        unfold takeOk at h3
        simp only [Bool.and_eq_true, decide_eq_true_eq] at h3
        exact h3.1.1
      obtain ⟨q, rfl⟩ := Int.eq_ofNat_of_zero_le hp
      exact ⟨_, chl_iff.2 ⟨ho, h2.2⟩, rfl, rfl⟩
    · rename_i k2
      obtain ⟨rfl, h3⟩ := h2
      rw [if_neg k2, if_neg (fun h4 => by have := h3 h4.1; omega)]
      simp
/-- what the reference answers on a move -/
def doB (s : SesD) (x : PS) (v : Mv) : Bool :=
  if v.role < 0 ∨ (s.roles.length : Int) ≤ v.role ∨ v.step < 0 then false
  else if v.kind = 2 then
    (if (s.roles.length : Int) ≤ v.step ∨ v.step = v.role ∨ v.place ≠ 0 then false else decide (loseE s.cls (x.way v.role.toNat v.step.toNat) = 0))
  else if v.kind ≠ 1 ∨ ((s.rol v.role.toNat).steps.length : Int) ≤ v.step then false
  else if possB s x v.role.toNat v.step.toNat = false then false
  else if ((s.rol v.role.toNat).stp v.step.toNat).kind = 2 then
    decide (takeE s.cls (x.way (peerN s ((s.rol v.role.toNat).stp v.step.toNat)) v.role.toNat) v.place = 0 ∧ takeM s.cls (x.way (peerN s ((s.rol v.role.toNat).stp v.step.toNat)) v.role.toNat) v.place = ((s.rol v.role.toNat).stp v.step.toNat).msg)
  else if ((s.rol v.role.toNat).stp v.step.toNat).kind = 1 then
    decide (putE s.cap (x.way v.role.toNat (peerN s ((s.rol v.role.toNat).stp v.step.toNat))) ((s.rol v.role.toNat).stp v.step.toNat).msg = 0 ∧ v.place = 0)
  else decide (v.place = 0)
theorem lose_iff {cls : Int} {L : List ByteArray} : loseE cls L = 0 ↔ cls = 3 ∧ 0 < L.length := by
  unfold loseE
  by_cases h : cls = 3
  · subst h
    rw [if_pos rfl]
    unfold takeE takeOk
    cases L with
    | nil => simp
    | cons a L => simp [chc]
  · rw [if_neg h]; simp [h]
theorem put_iff (h : SesOk s) (hx : PSok s x) {i k : Nat} (hi : i < s.roles.length) (hk : k < (s.rol i).steps.length) (k1 : ((s.rol i).stp k).kind = 1) :
    putE s.cap (x.way i (peerN s ((s.rol i).stp k))) ((s.rol i).stp k).msg = 0 ↔ ((x.way i (peerN s ((s.rol i).stp k))).length : Int) < s.cap := by
  have hm := (h.stp hi hk).msg (by omega)
  obtain ⟨-, p1, -⟩ := h.peer hi hk (by omega)
  have hw := (hx.wb i _ hi p1).1
  unfold putE
  rw [if_neg (by omega)]
  split
  · rename_i e; simp; omega
  · rename_i e; simp; omega
theorem do_iff (h : SesOk s) (hx : PSok s x) (v : Mv) : doB s x v = true ↔ v ∈ movesP s x := by
  rw [mem_movesP]
  constructor
  · intro hd
    unfold doB at hd
    by_cases h1 : v.role < 0 ∨ (s.roles.length : Int) ≤ v.role ∨ v.step < 0
    · rw [if_pos h1] at hd; cases hd
    · rw [if_neg h1] at hd
      obtain ⟨i, hi⟩ := Int.eq_ofNat_of_zero_le (show 0 ≤ v.role by omega)
      obtain ⟨k, hk⟩ := Int.eq_ofNat_of_zero_le (show 0 ≤ v.step by omega)
      obtain ⟨vk, vr, vs, vp⟩ := v
      simp only at hi hk h1 hd
      subst hi
      subst hk
      simp only [Int.toNat_natCast] at hd
      by_cases h2 : vk = 2
      · subst h2
        rw [if_pos rfl] at hd
        split at hd
        · cases hd
        · rename_i h3
          rw [decide_eq_true_eq, lose_iff] at hd
          obtain rfl : vp = 0 := by omega
          exact .inr ⟨i, k, by omega, by omega, mem_loseMv.2 ⟨rfl, hd⟩⟩
      · rw [if_neg h2] at hd
        by_cases h3 : vk ≠ 1 ∨ ((s.rol i).steps.length : Int) ≤ k
        · rw [if_pos h3] at hd; cases hd
        · rw [if_neg h3] at hd
          obtain rfl : vk = 1 := by omega
          have hi : i < s.roles.length := by omega
          have hk : k < (s.rol i).steps.length := by omega
          by_cases h4 : possB s x i k = false
          · rw [if_pos h4] at hd; cases hd
          · rw [if_neg h4] at hd
            refine .inl ⟨i, k, hi, hk, step_iff.2 ⟨by simpa using h4, ?_⟩⟩
            by_cases k2 : ((s.rol i).stp k).kind = 2
            · rw [if_pos k2] at hd ⊢
              exact of_decide_eq_true hd
            · rw [if_neg k2] at hd ⊢
              by_cases k1 : ((s.rol i).stp k).kind = 1
              · rw [if_pos k1] at hd
                obtain ⟨e1, e2⟩ := of_decide_eq_true hd
                exact ⟨e2, fun _ => (put_iff h hx hi hk k1).1 e1⟩
              · rw [if_neg k1] at hd
                exact ⟨of_decide_eq_true hd, fun e => absurd e k1⟩
  · rintro (⟨i, k, hi, hk, hm⟩ | ⟨i, k, hi, hk, hm⟩)
    · obtain ⟨e1, e2, e3, -⟩ := mem_stepMv hm
      obtain ⟨vk, vr, vs, vp⟩ := v
      simp only at e1 e2 e3
      subst e1
      subst e2
      subst e3
      obtain ⟨h4, h5⟩ := step_iff.1 hm
      unfold doB
      rw [if_neg (by simp only; omega), if_neg (by simp), if_neg (by simp only [Int.toNat_natCast]; omega)]
      simp only [Int.toNat_natCast]
      rw [if_neg (by rw [h4]; decide)]
      by_cases k2 : ((s.rol i).stp k).kind = 2
      · rw [if_pos k2] at h5 ⊢
        exact decide_eq_true h5
      · rw [if_neg k2] at h5 ⊢
        by_cases k1 : ((s.rol i).stp k).kind = 1
        · rw [if_pos k1]
          exact decide_eq_true ⟨(put_iff h hx hi hk k1).2 (h5.2 k1), h5.1⟩
        · rw [if_neg k1]
          exact decide_eq_true h5.1
    · obtain ⟨rfl, e2, e3⟩ := mem_loseMv.1 hm
      have hne : i ≠ k := fun e => by subst e; rw [hx.wd] at e3; simp at e3
      unfold doB
      rw [if_neg (by simp only; omega), if_pos rfl, if_neg (by simp only; omega)]
      exact decide_eq_true (lose_iff.2 ⟨e2, e3⟩)
/-- the moves, found by trying all that there could be -/
def movesR (s : SesD) (x : PS) : List Mv :=
  cat (fun i => cat (fun k => cat (fun p => if doB s x ⟨1, i, k, p⟩ = true then [⟨1, i, k, p⟩] else []) s.cap.toNat) (s.rol i).steps.length) s.roles.length ++
  cat (fun i => cat (fun k => if doB s x ⟨2, i, k, 0⟩ = true then [⟨2, i, k, 0⟩] else []) s.roles.length) s.roles.length
theorem hits_append (m : ByteArray) (i k : Nat) (a b : List (Nat × ByteArray)) : hits m i k (a ++ b) = hits m i k a ++ hits m i k b := by
  unfold hits; rw [List.filterMap_append]
theorem hits_cat (m : ByteArray) (i k : Nat) (cls : Int) (L : List ByteArray) : ∀ n, n ≤ L.length →
    hits m i k (chlK cls L n) = cat (fun p => if takeE cls L p = 0 ∧ takeM cls L p = m then [(⟨1, i, k, p⟩ : Mv)] else []) n
  | 0, _ => rfl
  | n + 1, h => by
    rw [chlK, hits_append, cat, hits_cat m i k cls L n (by omega)]
    congr 1
    have ho : takeOk cls L (n : Int) = chc cls L n := by
      unfold takeOk
      rw [decide_eq_true (by omega)]; simp
    cases hc : chc cls L n with
    | true =>
      rw [if_pos rfl]
      unfold takeE takeM
      rw [ho, hc]
      simp [hits]
      split <;> simp [*]
    | false =>
      rw [if_neg (by decide), if_neg]
      · rfl
      · unfold takeE; rw [ho, hc]; simp
theorem cat_more {α : Type} {f : Nat → List α} {n : Nat} : ∀ {m : Nat}, n ≤ m → (∀ k, n ≤ k → k < m → f k = []) → cat f m = cat f n
  | 0, h, _ => by obtain rfl : n = 0 := by omega
                  rfl
  | m + 1, h, hn => by
    by_cases e : n = m + 1
    · subst e; rfl
    · rw [cat, hn m (by omega) (by omega), List.append_nil]
      exact cat_more (by omega) (fun k h1 h2 => hn k h1 (by omega))
theorem cat_one {α : Type} {f : Nat → List α} {m : Nat} (h : 1 ≤ m) (hn : ∀ k, 1 ≤ k → k < m → f k = []) : cat f m = f 0 := by
  rw [cat_more h hn]; rfl
theorem if_iff {α : Type} {p q : Prop} [Decidable p] [Decidable q] (h : p ↔ q) (a b : α) : (if p then a else b) = if q then a else b := by
  by_cases hp : p
  · rw [if_pos hp, if_pos (h.1 hp)]
  · rw [if_neg hp, if_neg (fun hq => hp (h.2 hq))]
theorem doB_step {i k : Nat} {p : Int} (h : SesOk s) (hx : PSok s x) (hi : i < s.roles.length) (hk : k < (s.rol i).steps.length) : doB s x ⟨1, i, k, p⟩ = true ↔ (⟨1, i, k, p⟩ : Mv) ∈ stepMv s x i k := by
  rw [do_iff h hx, mem_movesP]
  constructor
  · rintro (⟨a, b, -, -, hm⟩ | ⟨a, b, -, -, hm⟩)
    · obtain ⟨-, e2, e3, -⟩ := mem_stepMv hm
      obtain rfl : i = a := Int.ofNat.inj e2
      obtain rfl : k = b := Int.ofNat.inj e3
      exact hm
    · have := (mem_loseMv.1 hm).1
      cases this
  · intro hm; exact .inl ⟨i, k, hi, hk, hm⟩
theorem movesR_eq (h : SesOk s) (hx : PSok s x) : movesR s x = movesP s x := by
  unfold movesR movesP
  congr 1
  · refine cat_congr fun i hi => cat_congr fun k hk => ?_
    have e1 : (fun p : Nat => if doB s x ⟨1, i, k, p⟩ = true then [(⟨1, i, k, p⟩ : Mv)] else []) = fun p : Nat => if (⟨1, i, k, p⟩ : Mv) ∈ stepMv s x i k then [(⟨1, i, k, p⟩ : Mv)] else [] := by
      funext p
      exact if_iff (doB_step h hx hi hk) _ _
    rw [e1]
    have hc := h.k1
    cases hp : possB s x i k with
    | false =>
      rw [show stepMv s x i k = [] by unfold stepMv; rw [if_pos hp]]
      exact cat_nil fun p _ => by simp
    | true =>
      by_cases k2 : ((s.rol i).stp k).kind = 2
      · obtain ⟨-, p1, -⟩ := h.peer hi hk (by omega)
        have hw := (hx.wb _ i p1 hi).1
        have e2 : stepMv s x i k = hits ((s.rol i).stp k).msg i k (chlK s.cls (x.way (peerN s ((s.rol i).stp k)) i) (x.way (peerN s ((s.rol i).stp k)) i).length) := by
          unfold stepMv; rw [if_neg (by rw [hp]; decide), if_pos k2]
        have e3 : (fun p : Nat => if (⟨1, i, k, p⟩ : Mv) ∈ stepMv s x i k then [(⟨1, i, k, p⟩ : Mv)] else []) =
            fun p : Nat => if takeE s.cls (x.way (peerN s ((s.rol i).stp k)) i) p = 0 ∧ takeM s.cls (x.way (peerN s ((s.rol i).stp k)) i) p = ((s.rol i).stp k).msg then [(⟨1, i, k, p⟩ : Mv)] else [] := by
          funext p
          refine if_iff ?_ _ _
          rw [step_iff, if_pos k2]
          exact ⟨fun h => h.2, fun h => ⟨hp, h⟩⟩
        rw [e3, e2, hits_cat _ _ _ _ _ _ (Nat.le_refl _)]
        refine cat_more (by omega) (fun p h1 _ => ?_)
        rw [if_neg]
        rintro ⟨h2, -⟩
        unfold takeE takeOk at h2
        rw [decide_eq_false (by omega)] at h2
        simp at h2
      · have e3 : (fun p : Nat => if (⟨1, i, k, p⟩ : Mv) ∈ stepMv s x i k then [(⟨1, i, k, p⟩ : Mv)] else []) =
            fun p : Nat => if p = 0 ∧ (((s.rol i).stp k).kind = 1 → ((x.way i (peerN s ((s.rol i).stp k))).length : Int) < s.cap) then [(⟨1, i, k, p⟩ : Mv)] else [] := by
          funext p
          refine if_iff ?_ _ _
          rw [step_iff, if_neg k2]
          exact ⟨fun h => ⟨by have := h.2.1; omega, h.2.2⟩, fun h => ⟨hp, by have := h.1; omega, h.2⟩⟩
        rw [e3, cat_one (by omega) (fun p h1 _ => if_neg (by omega))]
        unfold stepMv
        rw [if_neg (c := possB s x i k = false) (by rw [hp]; decide), if_neg k2]
        by_cases h4 : ((s.rol i).stp k).kind = 1 ∧ s.cap ≤ ((x.way i (peerN s ((s.rol i).stp k))).length : Int)
        · rw [if_pos h4, if_neg (fun h5 => by have := h5.2 h4.1; omega)]
        · rw [if_neg h4, if_pos ⟨rfl, fun h5 => by
            rcases Int.lt_or_le ((x.way i (peerN s ((s.rol i).stp k))).length : Int) s.cap with h6 | h6
            · exact h6
            · exact absurd ⟨h5, h6⟩ h4⟩]
          rfl
  · refine cat_congr fun i hi => cat_congr fun k hk => ?_
    unfold loseMv
    refine if_iff ?_ _ _
    rw [do_iff h hx, mem_movesP]
    constructor
    · rintro (⟨a, b, -, -, hm⟩ | ⟨a, b, -, -, hm⟩)
      · have := (mem_stepMv hm).1
        cases this
      · obtain ⟨e, e2, e3⟩ := mem_loseMv.1 hm
        simp only [Mv.mk.injEq, true_and, and_true] at e
        obtain ⟨ea, eb⟩ := e
        obtain rfl : i = a := by omega
        obtain rfl : k = b := by omega
        exact ⟨e2, e3⟩
    · intro hm; exact .inr ⟨i, k, hi, hk, mem_loseMv.2 ⟨rfl, hm⟩⟩
end
end Go.Proofs.YtkphhjekfimmlaaGreat
namespace Go.Proofs.YtkphhjekfimmlaaGreat
open Go.RowKit Go.BigFrame

def mvC1 (m : Mv) : List Value := [.int .i64 m.kind, .int .i64 m.role, .int .i64 m.step, .int .i64 m.place]
def mvC (L : List Mv) : List Value := L.flatMap mvC1
theorem mvC_length (L : List Mv) : (mvC L).length = L.length * 4 := by
  induction L with
  | nil => rfl
  | cons m L ih => unfold mvC at ih ⊢; rw [List.flatMap_cons, List.length_append, ih]; simp [mvC1]; omega
theorem mvC_append (A B : List Mv) : mvC (A ++ B) = mvC A ++ mvC B := by unfold mvC; rw [List.flatMap_append]
theorem mvC_at {L : List Mv} : ∀ {i : Nat} {m : Mv}, L[i]? = some m → (mvC L)[i * 4]? = some (.int .i64 m.kind) ∧ (mvC L)[i * 4 + 1]? = some (.int .i64 m.role) ∧ (mvC L)[i * 4 + 2]? = some (.int .i64 m.step) ∧ (mvC L)[i * 4 + 3]? = some (.int .i64 m.place) := by
  induction L with
  | nil => intro i m h; simp at h
  | cons a L ih =>
    intro i m h
    have e : mvC (a :: L) = mvC1 a ++ mvC L := rfl
    cases i with
    | zero => simp at h; subst h; rw [e]; exact ⟨rfl, rfl, rfl, rfl⟩
    | succ i =>
      have := ih (i := i) (m := m) (by simpa using h)
      have hl : (mvC1 a).length = 4 := rfl
      rw [e, List.getElem?_append_right (by omega), List.getElem?_append_right (by omega), List.getElem?_append_right (by omega), List.getElem?_append_right (by omega), hl]
      rw [show (i + 1) * 4 - 4 = i * 4 by omega, show (i + 1) * 4 + 1 - 4 = i * 4 + 1 by omega, show (i + 1) * 4 + 2 - 4 = i * 4 + 2 by omega, show (i + 1) * 4 + 3 - 4 = i * 4 + 3 by omega]
      exact this
/-- a row of moves reads as them -/
theorem mv_arr {W : World} {base : Nat} {v : Value} {L : List Mv} (h : W.ownsRow base 45 4 v L.length (mvC L)) : Arr 4 MvAt W v L := by
  obtain ⟨ao, cap, rfl⟩ := own_shape h
  refine ⟨ao, cap, rfl, fun i m hm => ?_⟩
  have hl := lt_of_some hm
  obtain ⟨g, c, cur, e, -, -⟩ := own_block h (by omega)
  cases e
  have hc := fun j hj => World.ownsRow.cellAt h j hj
  obtain ⟨h0, h1, h2, h3⟩ := mvC_at hm
  exact ⟨g, 0, rfl, by rw [Nat.zero_add, hc _ (by omega)]; exact h0, by rw [Nat.zero_add, hc _ (by omega)]; exact h1, by rw [Nat.zero_add, hc _ (by omega)]; exact h2, by rw [Nat.zero_add, hc _ (by omega)]; exact h3⟩
/-- the box at ob holds the moves L -/
abbrev MB (w : World) (ob : Nat) (L : List Mv) (W : World) : Prop := BO 67 45 4 w ob L.length (mvC L) W
/-- the types that turn while moves are collected -/
abbrev mvT : List TypeId := [67, 45]
theorem Tryz.infoMv : (Tryz.prog.info? 45).map (fun i => (i.zero, i.size, i.bytes)) = some (some (.agg #[.int .i64 0, .int .i64 0, .int .i64 0, .int .i64 0]), 4, 32) := by kernel_rfl
theorem MB.add {w W w1 : World} {ob : Nat} {L : List Mv} {ao : Option Addr} {cap : Nat} {o : Obj} {v' : Value} (m : Mv) (h : MB w ob L W) (h1 : W.heap[ob]? = some (.cells #[.slice ao L.length cap] 67 (0, 0))) (h2 : W.ownsRow w.heap.size 45 4 (.slice ao L.length cap) L.length (mvC L))
    (hg : (W.alloc o).grownBy w1 (Value.slice ao L.length cap).ownBlock) (ho : w1.ownsRow w.heap.size 45 4 v' (L.length + 1) (mvC L ++ mvC1 m)) :
    MB w ob (L ++ [m]) (w1.setCell ⟨ob, 0, none⟩ v') ∧ Kt mvT W (w1.setCell ⟨ob, 0, none⟩ v') := by
  have := h.step h1 h2 (by decide) hg ho
  unfold MB
  rw [mvC_append, List.length_append]
  exact ⟨by simpa [mvC] using this.1, this.2⟩
theorem hits_snoc {m : ByteArray} {i k : Nat} (pre : List (Nat × ByteArray)) (e : Nat × ByteArray) : hits m i k (pre ++ [e]) = if e.2 = m then hits m i k pre ++ [⟨1, i, k, e.1⟩] else hits m i k pre := by
  unfold hits
  rw [List.filterMap_append, List.filterMap_cons]
  split
  · rename_i h
    split at h
    · cases h
    · rename_i h2; rw [if_neg h2]; simp
  · rename_i b h
    split at h
    · rename_i h2; cases h; rw [if_pos h2]; rfl
    · cases h
theorem hits_len {m : ByteArray} {i k : Nat} (pre : List (Nat × ByteArray)) : (hits m i k pre).length ≤ pre.length := List.length_filterMap_le _ _
/-- ChR keeps while moves are collected -/
theorem ChR.kt {bl bc cb : Nat} {cls cap : Int} {sv : Value} {L L' : List ByteArray} {F : List Nat} {W W' : World} (h : ChR bl bc cb cls sv L W) (hk : Kt mvT W W') (hc : Chn W cb cls cap L' F) : ChR bl bc cb cls sv L W' := by
  obtain ⟨sv', hc1, -⟩ := hc
  exact ⟨hk.cells h.1 (by decide), hk.row h.2.1 (by decide), hk.cells h.2.2.1 (by decide), cell_of (hk.cells hc1 (by decide)) 0⟩
end Go.Proofs.YtkphhjekfimmlaaGreat
