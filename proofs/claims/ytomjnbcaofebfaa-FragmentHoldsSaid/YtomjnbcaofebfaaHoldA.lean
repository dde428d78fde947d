/- FragmentHolds: lists of parts with the values of their bytes; appends of them. -/
import Derived.Test.YtomjnbcaofebfaaHoldL
import Derived.Test.YtomjnbcaofebfaaKnown
namespace Go.Proofs.Ytomjnbcaofebfaa
open Go.RowKit Go.Maps Go.BigFrame

abbrev PV := Prt × Value
/-- the cells of parts -/
def flatQ (qs : List PV) : List Value := qs.flatMap fun x => cells4 x.1 x.2
theorem flatQ_length : ∀ qs : List PV, (flatQ qs).length = qs.length * 4
  | [] => rfl
  | x :: qs => by
    have ih := flatQ_length qs
    unfold flatQ at ih ⊢
    rw [List.flatMap_cons, List.length_append, ih, List.length_cons]
    simp only [cells4, List.length_cons, List.length_nil]
    omega
theorem flatQ_append (a b : List PV) : flatQ (a ++ b) = flatQ a ++ flatQ b := List.flatMap_append
theorem flatQ_at {qs : List PV} {k j : Nat} {x : PV} (hj : j < 4) (h : qs[k]? = some x) : (flatQ qs)[k * 4 + j]? = (cells4 x.1 x.2)[j]? :=
  flat4_at (fun x : PV => cells4 x.1 x.2) (fun _ => rfl) qs k j x hj h
/-- the bytes of each can be read -/
def Gd (w : World) (qs : List PV) : Prop := ∀ x ∈ qs, Byts w x.2 x.1.b
theorem Gd.frm0 {w w' : World} {qs : List PV} (h : Gd w qs) (hf : Frm [] w w') : Gd w' qs := fun x hx => (h x hx).frm0 hf
theorem Gd.sub {w : World} {a b : List PV} (h : Gd w a) (hs : ∀ x ∈ b, x ∈ a) : Gd w b := fun x hx => h x (hs x hx)
theorem Gd.one {w : World} {qs : List PV} (h : Gd w qs) : ∀ u ∈ flatQ qs, u.oneCell' = true := fun u hu => by
  obtain ⟨x, hx, hu⟩ := List.mem_flatMap.1 hu
  obtain ⟨ao, cap, e, -⟩ := (h x hx).len
  simp only [cells4, List.mem_cons, List.not_mem_nil, or_false] at hu
  rcases hu with rfl | rfl | rfl | rfl
  · rfl
  · rfl
  · rfl
  · rw [e]; rfl
/-- the parts of a list that can be read -/
theorem Prts.pairs {B : Nat} {w : World} {v : Value} {ps : List Prt} (h : Prts B w v ps) (hne : ps ≠ []) : ∃ (ad : Addr) (cap : Nat) (qs : List PV), v = .slice (some ad) ps.length cap ∧ qs.map (·.1) = ps ∧ Gd w qs ∧ ∀ j u, (flatQ qs)[j]? = some u → w.cell? (ad.add j) = some u := by
  obtain ⟨ao, cap, rfl, h1, h2, h3⟩ := h
  obtain ⟨b, o, rfl, -⟩ := h3 0 (ps[0]'(List.length_pos_iff.2 hne)) (List.getElem?_eq_getElem _)
  let qs : List PV := ps.mapIdx fun k p => (p, (w.cell? ⟨b, o + k * 4 + 3, none⟩).getD undef)
  have hq : ∀ k x, qs[k]? = some x → ps[k]? = some x.1 ∧ PrtAt B w b (o + k * 4) x.1 ∧ w.cell? ⟨b, o + k * 4 + 3, none⟩ = some x.2 := fun k x hx => by
    simp only [qs, List.getElem?_mapIdx, Option.map_eq_some_iff] at hx
    obtain ⟨p, hp, rfl⟩ := hx
    obtain ⟨b', o', e, hat⟩ := h3 k p hp
    cases e
    have hat' := hat
    obtain ⟨bv, -, -, -, h4, -⟩ := hat
    exact ⟨hp, hat', by simp only [h4]; rfl⟩
  have hlen : qs.length = ps.length := by simp [qs]
  refine ⟨_, cap, qs, rfl, ?_, fun x hx => ?_, fun j u hu => ?_⟩
  · refine List.ext_getElem? (fun k => ?_)
    simp only [qs, List.getElem?_map, List.getElem?_mapIdx]
    cases ps[k]? <;> rfl
  · obtain ⟨k, hk⟩ := List.mem_iff_getElem?.1 hx
    obtain ⟨-, ⟨bv, -, -, -, h4, h5, -⟩, h6⟩ := hq k x hk
    rw [h4] at h6
    cases h6
    exact h5
  · have hjl : j < qs.length * 4 := by have := lt_of_some hu; rwa [flatQ_length] at this
    have hkl : j / 4 < qs.length := by omega
    have hx := List.getElem?_eq_getElem hkl
    obtain ⟨-, ⟨bv, h0, h1', h2', h4, -⟩, h6⟩ := hq _ _ hx
    have hfl := flatQ_at (j := j % 4) (by omega) hx
    rw [show j / 4 * 4 + j % 4 = j by omega, hu] at hfl
    rw [WideShapes.add_plain]
    rw [show o + j = o + j / 4 * 4 + j % 4 by omega]
    have hm : j % 4 = 0 ∨ j % 4 = 1 ∨ j % 4 = 2 ∨ j % 4 = 3 := by omega
    rcases hm with e | e | e | e <;> rw [e] at hfl ⊢ <;> simp [cells4] at hfl <;> rw [hfl]
    · exact h0
    · exact h1'
    · exact h2'
    · exact h6
theorem own_cells {D : Nat} {w : World} {g n cap : Nat} {qs : List PV} (h : w.ownsRow D 38 4 (.slice (some ⟨g, 0, none⟩) n cap) n (flatQ qs)) : ∀ j u, (flatQ qs)[j]? = some u → w.cell? ⟨g, j, none⟩ = some u := fun j u hu => by
  have hjl : j < n * 4 := by have := lt_of_some hu; rw [← h.1]; exact this
  rw [World.ownsRow.cellAt h j hjl]
  exact hu
theorem lit_cells {w : World} {g : Nat} {x : PV} {t : TypeId} {u3 : Value} (h : w.heap[g]? = some (.cells #[.int .i64 x.1.msg, .int .i64 x.1.num, .int .i64 x.1.cnt, u3] t (0, 0))) (hx : x.2 = u3) : ∀ j u, (flatQ [x])[j]? = some u → w.cell? ((⟨g, 0, none⟩ : Addr).add j) = some u := fun j u hu => by
  rw [WideShapes.add_plain, Nat.zero_add, cell_of h]
  have e : flatQ [x] = [.int .i64 x.1.msg, .int .i64 x.1.num, .int .i64 x.1.cnt, u3] := by simp [flatQ, cells4, hx]
  rw [e] at hu
  rw [List.getElem?_toArray]
  exact hu
theorem own_empty38 {w : World} {g base : Nat} (h : w.heap[g]? = some (.cells #[] 38 (0, 0))) (hb : base ≤ g) : w.ownsRow base 38 4 (.slice (some ⟨g, 0, none⟩) 0 0) 0 (flatQ []) :=
  ⟨rfl, .inr ⟨_, _, _, rfl, hb, h, Nat.le_refl _, by unfold maxLen; omega, by simp, by simp [flatQ]⟩⟩
theorem run_app_q {ty : TypeId} {w : World} {D : Nat} {v : Value} {n : Nat} {xs ys : List PV} {ad : Addr} {m c : Nat} (hown : w.ownsRow D 38 4 v n (flatQ xs)) (hm : ys.length = m) (hnews : ∀ j u, (flatQ ys)[j]? = some u → w.cell? (ad.add j) = some u) (hy : ∀ u ∈ flatQ ys, u.oneCell' = true) (hn : n + m ≤ 100000) (hD : D ≤ w.heap.size) :
    ∃ ao cp w', (Builtin.append_ #[24, 24] ty #[v, .slice (some ad) m c]).run Try.prog w = .ok (.slice ao (n + m) cp) w' ∧ w'.ownsRow D 38 4 (.slice ao (n + m) cp) (n + m) (flatQ (xs ++ ys)) ∧ w.grownBy w' v.ownBlock ∧ ((Value.slice ao (n + m) cp).ownBlock = v.ownBlock ∨ (Value.slice ao (n + m) cp).ownBlock = some w.heap.size) := by
  obtain ⟨i0, hi0, hz0, hz1, hz2⟩ := info_parts Try.info38
  obtain ⟨v', w', hr, h2, h3, -, h5⟩ := run_append_own_at (P := Try.prog) w D 24 ty 38 i0 (.agg #[.int .i64 0, .int .i64 0, .int .i64 0, .slice none 0 0]) 4 48 Try.underlying24 hi0 hz0 hz1 hz2 rfl (by decide) v n (flatQ xs) hown ad m c (flatQ ys) (by rw [flatQ_length, hm]) hnews hy (by unfold maxLen; omega) (by omega) hD
  obtain ⟨ao, cp, rfl⟩ := own_shape h2
  exact ⟨ao, cp, w', hr, by rw [flatQ_append]; exact h2, h3, h5⟩
/-- the same at a step of a drawn region -/
theorem step_app_q {ops : Array Oper} {o : Oper} {a : Act} {w : World} {K : Act → World → Prop} {Q : Exit → Act → World → Prop} {E : Prop} (hgd : o.guard = none) (s x : Operand) (ho : o.op = .call { callee := .builtin .append, args := #[s, x], argTypes := #[24, 24] })
    (D : Nat) (v : Value) (n : Nat) (xs ys : List PV) (ad : Addr) (m c : Nat) (hs : a.eval s = v) (hx : a.eval x = .slice (some ad) m c) (hown : w.ownsRow D 38 4 v n (flatQ xs)) (hm : ys.length = m) (hnews : ∀ j u, (flatQ ys)[j]? = some u → w.cell? (ad.add j) = some u) (hy : ∀ u ∈ flatQ ys, u.oneCell' = true) (hn : n + m ≤ 100000) (hD : D ≤ w.heap.size)
    (h : ∀ ao cp w', w'.ownsRow D 38 4 (.slice ao (n + m) cp) (n + m) (flatQ (xs ++ ys)) → w.grownBy w' v.ownBlock → ((Value.slice ao (n + m) cp).ownBlock = v.ownBlock ∨ (Value.slice ao (n + m) cp).ownBlock = some w.heap.size) → K (a.put o.dst (.slice ao (n + m) cp)) w') : if Region.wanted o (yielded ops a.tmps) = true then Oper.wp Try.prog o a w K Q else E := by
  have hw : Region.wanted o (yielded ops a.tmps) = true := by simp [Region.wanted, hgd]
  rw [if_pos hw]
  obtain ⟨ao, cp, w', hrun, r1, r2, r3⟩ := run_app_q (ty := o.type) (c := c) hown hm hnews hy hn hD
  unfold Oper.wp execOp
  simp only [ho, resolve, invoke, builtin, Sem.run_bind, Sem.run_pure, Result.andThen_ok, List.map_toArray, List.map_cons, List.map_nil, hs, hx, hrun]
  exact h ao cp w' r1 r2 r3
/-- and of a plain one -/
theorem wpList_app_q {ops : Array Oper} {rest : List Oper} {o : Oper} {a : Act} {Q : Exit → Act → World → Prop} {w : World} (hgd : o.guard = none) (s x : Operand) (ho : o.op = .call { callee := .builtin .append, args := #[s, x], argTypes := #[24, 24] })
    (D : Nat) (v : Value) (n : Nat) (xs ys : List PV) (ad : Addr) (m c : Nat) (hs : a.eval s = v) (hx : a.eval x = .slice (some ad) m c) (hown : w.ownsRow D 38 4 v n (flatQ xs)) (hm : ys.length = m) (hnews : ∀ j u, (flatQ ys)[j]? = some u → w.cell? (ad.add j) = some u) (hy : ∀ u ∈ flatQ ys, u.oneCell' = true) (hn : n + m ≤ 100000) (hD : D ≤ w.heap.size)
    (h : ∀ ao cp w', w'.ownsRow D 38 4 (.slice ao (n + m) cp) (n + m) (flatQ (xs ++ ys)) → w.grownBy w' v.ownBlock → wpList Try.prog ops Q rest (a.put o.dst (.slice ao (n + m) cp)) w') : wpList Try.prog ops Q (o :: rest) a w := by
  refine wpList_plain hgd fun K hK => ?_
  obtain ⟨ao, cp, w', hrun, r1, r2, -⟩ := run_app_q (ty := o.type) (c := c) hown hm hnews hy hn hD
  unfold Oper.wp execOp
  simp only [ho, resolve, invoke, builtin, Sem.run_bind, Sem.run_pure, Result.andThen_ok, List.map_toArray, List.map_cons, List.map_nil, hs, hx, hrun]
  exact hK _ _ (h ao cp w' r1 r2)
theorem Try.elem24 : Try.prog.elem 24 = 38 := by kernel_rfl
theorem Try.under24 : Try.prog.underlying 24 = some (.slice (Try.prog.elem 24)) := by rw [Try.elem24]; exact Try.underlying24
section
variable {D : Nat} {w : World} {g n cap k : Nat} {q1 q2 : List PV} {x : PV}
/-- the list's beginning and its rest -/
theorem cut_left (hk : q1.length = k) (hn : k + q2.length + 1 = n) (hc : n ≤ cap) :
    (∀ W, (Instr.sliceAt 24 (.slice (some ⟨g, 0, none⟩) n cap) none (some (.int .i64 (k : Int))) none).run Try.prog W = .ok (.slice (some ⟨g, 0, none⟩) k cap) W) := fun W => by
  rw [run_sliceAt_slice W 24 _ _ _ _ Try.under24, run_slice_h W 24 (some ⟨g, 0, none⟩) n cap Try.under24 .i64 (k : Int) (by omega) (by omega), Try.elem24, Try.sizeOf38]
  simp only [Result.andThen, sliced, Int.toNat_natCast, Nat.zero_mul, Nat.sub_zero, Option.map_some, WideShapes.add_plain, Nat.add_zero]
  split <;> rfl
theorem cut_right (hk : q1.length = k) (hn : k + q2.length + 1 = n) (hc : n ≤ cap) (hown : w.ownsRow D 38 4 (.slice (some ⟨g, 0, none⟩) n cap) n (flatQ (q1 ++ x :: q2))) :
    ∃ ad c, (∀ W, (Instr.sliceAt 24 (.slice (some ⟨g, 0, none⟩) n cap) (some (.int .i64 ((k : Int) + 1))) none none).run Try.prog W = .ok (.slice (some ad) q2.length c) W) ∧ ∀ W, Frm [] w W → ∀ j u, (flatQ q2)[j]? = some u → W.cell? (ad.add j) = some u := by
  have ht : ((k : Int) + 1).toNat = k + 1 := by omega
  refine ⟨if n = k + 1 ∧ cap = n then ⟨g, 0, none⟩ else if cap = k + 1 then ⟨g, 0, none⟩ else ⟨g, (k + 1) * 4, none⟩, cap - (k + 1), fun W => ?_, fun W hf j u hu => ?_⟩
  · rw [run_sliceAt_slice W 24 _ _ _ _ Try.under24, run_slice_l W 24 (some ⟨g, 0, none⟩) n cap Try.under24 .i64 ((k : Int) + 1) (by omega) (by omega), Try.elem24, Try.sizeOf38]
    simp only [Result.andThen, sliced, ht, Option.map_some, WideShapes.add_plain, Nat.zero_add]
    have e1 : n - (k + 1) = q2.length := by omega
    rw [e1]
    by_cases h1 : cap = k + 1
    · rw [if_pos h1]
      split <;> rfl
    · rw [if_neg h1, if_neg (by omega), if_neg h1]
  · have hq : 0 < q2.length := by
      have := lt_of_some hu
      rw [flatQ_length] at this
      omega
    rw [if_neg (by omega), if_neg (by omega), WideShapes.add_plain]
    refine hf.keep (own_cells hown _ _ ?_)
    rw [show q1 ++ x :: q2 = (q1 ++ [x]) ++ q2 by simp, flatQ_append, List.getElem?_append_right (by rw [flatQ_length, List.length_append, hk]; simp), flatQ_length, List.length_append, hk]
    rw [show (k + 1) * 4 + j - (k + [x].length) * 4 = j by simp]
    exact hu
theorem left_cells (_ : q1.length = k) (hown : w.ownsRow D 38 4 (.slice (some ⟨g, 0, none⟩) n cap) n (flatQ (q1 ++ x :: q2))) :
    ∀ W, Frm [] w W → ∀ j u, (flatQ q1)[j]? = some u → W.cell? ((⟨g, 0, none⟩ : Addr).add j) = some u := fun W hf j u hu => by
  rw [WideShapes.add_plain, Nat.zero_add]
  refine hf.keep (own_cells hown _ _ ?_)
  rw [flatQ_append, List.getElem?_append_left (by have := lt_of_some hu; omega)]
  exact hu
/-- the cells of a part in a row -/
theorem row_part {qs : List PV} (hown : w.ownsRow D 38 4 (.slice (some ⟨g, 0, none⟩) n cap) n (flatQ qs)) (h : qs[k]? = some x) :
    w.cell? ⟨g, k * 4, none⟩ = some (.int .i64 x.1.msg) ∧ w.cell? ⟨g, k * 4 + 1, none⟩ = some (.int .i64 x.1.num) ∧ w.cell? ⟨g, k * 4 + 2, none⟩ = some (.int .i64 x.1.cnt) ∧ w.cell? ⟨g, k * 4 + 3, none⟩ = some x.2 := by
  have hc : ∀ j, j < 4 → w.cell? ⟨g, k * 4 + j, none⟩ = (cells4 x.1 x.2)[j]? := fun j hj => by
    have h1 := flatQ_at hj h
    have h2 : ∃ u, (cells4 x.1 x.2)[j]? = some u := ⟨_, List.getElem?_eq_getElem (by exact hj)⟩
    obtain ⟨u, hu⟩ := h2
    rw [hu] at h1 ⊢
    exact own_cells hown _ _ h1
  exact ⟨hc 0 (by omega), hc 1 (by omega), hc 2 (by omega), hc 3 (by omega)⟩
theorem row_some {qs : List PV} {v : Value} (hown : w.ownsRow D 38 4 v n (flatQ qs)) (hn : 0 < n) : ∃ g cap, v = .slice (some ⟨g, 0, none⟩) n cap ∧ n ≤ cap ∧ g < w.heap.size ∧ D ≤ g := by
  rcases hown.2 with ⟨rfl, h2⟩ | ⟨g, cap, cur, rfl, hg, hh, h3, -⟩
  · omega
  · exact ⟨g, cap, rfl, h3, lt_of_block hh, hg⟩
theorem Mp.owns {base B e size : Nat} {w w' : World} {v : Value} {xs : List Value} (h : Mp base w w') (ho : w.ownsRow B e size v n xs) : w'.ownsRow B e size v n xs := by
  refine ⟨ho.1, ?_⟩
  rcases ho.2 with h1 | ⟨g, cap, cur, h1, h2, h3, h4⟩
  · exact .inl h1
  · exact .inr ⟨g, cap, cur, h1, h2, h.at h3, h4⟩
/-- other cells turn -/
theorem BX.other38 {xb mo : Nat} {M B : Int} {N : Nat} {S : St} {K : Int → Nat} {F : List Nat} {w' : World} (h : BX w xb mo M B N S K) (hf : Frm F w w') (hF : ∀ k ∈ F, ∃ c, w.heap[k]? = some (.cells c 38 (0, 0))) : BX w' xb mo M B N S K := by
  have h5 : ∀ k ∈ F, ∀ c, w.heap[k]? ≠ some (.cells c 5 (0, 0)) := fun k hk c hc => by obtain ⟨c', hc'⟩ := hF k hk; rw [hc'] at hc; cases hc
  have hmap : ∀ {k es c}, w.heap[k]? = some (.map es c) → k ∉ F := fun hk hx => by obtain ⟨c', hc'⟩ := hF _ hx; rw [hc'] at hk; cases hk
  refine { h with hx := hf.at h.hx (fun hx => ?_), hm := h.hm.frm hf ?_, hp := fun t m ht => (h.hp t m ht).keep hf ?_ h5 }
  · obtain ⟨c', hc'⟩ := hF _ hx; have := h.hx; rw [hc'] at this; cases this
  · obtain ⟨es, c, hb⟩ := h.hm.block; exact hmap hb
  · obtain ⟨es, c, hb⟩ := h.isMap ht; exact hmap hb
end
end Go.Proofs.Ytomjnbcaofebfaa
