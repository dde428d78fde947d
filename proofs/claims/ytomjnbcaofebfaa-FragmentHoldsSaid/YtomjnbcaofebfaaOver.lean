/- Missing and what it hands out; over. -/
import Derived.Test.YtomjnbcaofebfaaAdds
import Derived.WalkMore
namespace Go.Proofs.Ytomjnbcaofebfaa
open Go.RowKit Go.Maps Go.BigFrame
attribute [local go_sem] Oper.semAt_some

section
variable {F : Fence} {n : Nat} {P : Program} {b : Frame} {a : Act} {k : List Item} {cs : List Frame} {w : World} {Q : Exit → Act → World → Prop}
theorem stepR_scope {c : Code} : step P (lone (b.atR a (.code (.scope c) :: k)) cs w) = .next (lone (b.atR a (.code c :: .inScope c :: k)) cs w) :=
  step_lone_go (by simp [stepG, stepG.exec, Frame.atR])
theorem stepR_inScope {c : Code} : step P (lone (b.atR a (.inScope c :: k)) cs w) = .next (lone (b.atR a k) cs w) :=
  step_lone_go (by simp [stepG, stepG.exec, Frame.atR])
/-- within a fence: a scope through which the run goes without a goto -/
theorem wpIn_scope_straight {c : Code} (h : c.wpIn F n P (Exit.noGoto Q) a w) : (Code.scope c).wpIn F n P Q a w := by
  intro b k cs hro hb hr
  have h0 : (lone (b.atR a (.code (.scope c) :: k)) cs w).fenced P F := fenced_calm hb hr rfl
  obtain ⟨e, a₁, w₁, hq, harr⟩ := h b (.inScope c :: k) cs hro hb hr
  cases e with
  | normal => exact ⟨.normal, a₁, w₁, hq, .head h0 stepR_scope (StepsIn.trans harr (.one (fenced_calm hb hr rfl) stepR_inScope))⟩
  | exit id =>
    have hx : exitTo id (.inScope c :: k) = exitTo id k := by simp [exitTo]
    exact ⟨_, a₁, w₁, hq, fun k' hk => .head h0 stepR_scope (harr.1 k' (by rw [hx]; exact hk)),
      fun hr' hk => let ⟨k₁, h1, h2⟩ := harr.2 hr' (by rw [hx]; exact hk); ⟨k₁, h1, .head h0 stepR_scope h2⟩⟩
  | goto l => exact hq.elim
  | ret => exact ⟨_, a₁, w₁, hq, .of_steps (.one h0 stepR_scope) harr⟩
  | panic ch => exact ⟨_, a₁, w₁, hq, .of_steps (.one h0 stepR_scope) harr⟩
  | outgrown => exact ⟨_, a₁, w₁, hq, .of_steps (.one h0 stepR_scope) harr⟩
end
/-- what the iterator reads -/
def MisR (bl : Nat) (sv : Value) (L : List Int) (W : World) : Prop := W.heap[bl]? = some (.cells #[sv] 39 (0, 0)) ∧ Ints W sv L
theorem MisR.frm0 {bl : Nat} {sv : Value} {L : List Int} {W W' : World} (h : MisR bl sv L W) (hf : Frm [] W W') : MisR bl sv L W' := ⟨hf.at h.1 (by simp), h.2.frm0 hf⟩
theorem take_snoc' {α : Type} {L : List α} {k : Nat} {x : α} (h : L[k]? = some x) : L.take (k + 1) = L.take k ++ [x] ∧ L = L.take k ++ x :: L.drop (k + 1) := by
  have hk := lt_of_some h
  rw [List.getElem?_eq_getElem hk] at h
  cases h
  exact ⟨List.take_succ_eq_append_getElem hk, by simp⟩
def encM (e : Int) : Array Value := #[.int .i64 e]
set_option maxHeartbeats 1000000 in
set_option maxRecDepth 100000 in
theorem mis_iter (bl : Nat) (sv : Value) (L : List Int) (hL : L.length ≤ 1000000) :
    Iter Fence.wide 2 Try.prog 40 #[.pointer (some ⟨bl, 0, none⟩)] encM (MisR bl sv L) L := by
  intro l J Jx sJ sJx hJR hY W h0
  have HJ := Lib.hid sJ; have HJR := Lib.hid hJR; have HY := Lib.hid hY
  clear sJ sJx hJR hY
  have hr := HJR.out _ _ h0
  have c0 := cell_of hr.1 0
  obtain ⟨ao, cap, hsv, -⟩ := hr.2
  subst hsv
  have H0 := Lib.hid h0
  clear hr h0
  refine callsIn_of_wp Try.func40 rfl trivial ?_ rfl
  simp only [Try.ntmps40, List.size_toArray, List.length_cons, List.length_nil, Nat.reduceAdd, Nat.reduceSub, Array.replicate_succ, Array.replicate_zero, List.push_toArray, List.append_toArray, List.nil_append, List.cons_append]
  gi_wp2
  refine wpIn_scope_straight (wpIn_seq (wpIn_label ?_))
  gi_wp2
  gi_loopw [7] (fun s wr => ∃ k : Nat, s = .int .i64 k ∧ k ≤ L.length ∧ J (L.take k) wr) (fun s _ => L.length - (intOf s).toNat)
  case atStart => exact ⟨0, rfl, Nat.zero_le _, H0.out⟩
  case round =>
    obtain ⟨k, rfl, hk, hj⟩ := hrel
    have HJ1 := Lib.hid hj
    clear hj H0 c0
    by_cases hlt : k < L.length
    · obtain ⟨x, hx⟩ : ∃ x, L[k]? = some x := ⟨_, List.getElem?_eq_getElem hlt⟩
      have hr := HJR.out _ _ HJ1.out
      obtain ⟨hr1, ao', cap', hsv, hcs⟩ := hr
      cases hsv
      obtain ⟨g, o, rfl, cx⟩ := hcs k x hx
      have HX := Lib.hid hx
      clear hr1 hcs hx
      obtain ⟨fn, tmps, assign, body, hy, hR⟩ := HY.out (L.take k) x (L.drop (k + 1)) _ (take_snoc' HX.out).2 HJ1.out
      have HRR := Lib.hid hR
      clear hR
      simp only [encM] at hy
      have hlt' : (k : Int) < L.length := by omega
      gi_wp2
      refine HRR.out.mono ?_
      rintro e W3 (⟨rfl, hJ3⟩ | ⟨rfl, hJx3⟩)
      · have HJ3 := Lib.hid hJ3
        clear hJ3
        gi_wp2
        go_roundw
        case rel => exact ⟨k + 1, by go_num, hlt, by rw [(take_snoc' HX.out).1]; exact HJ3.out⟩
        case measure => simp [intOf]; omega
      · have HJ3 := Lib.hid hJx3
        clear hJx3
        gi_wp2
        rw [Exit.noGoto_normal]
        change bodyPost Try.prog Try.f40 (fun e W' => (∃ v, e = Ending.returned v) ∧ (J L W' ∨ ∃ pre x rest, L = pre ++ x :: rest ∧ Jx (pre ++ [x]) W')) Exit.normal _ _
        go_end0
        exact ⟨⟨_, rfl⟩, .inr ⟨_, _, _, (take_snoc' HX.out).2, HJ3.out⟩⟩
    · obtain rfl : k = L.length := by omega
      have hge : ¬ (L.length : Int) < L.length := by omega
      gi_wp2
      go_end0
      exact ⟨⟨_, rfl⟩, .inl (by have := HJ1.out; rwa [List.take_length] at this)⟩
/-- the missing numbers below k -/
def misK (ps : List (Int × List UInt8)) : Nat → List Int
  | 0 => []
  | k + 1 => misK ps k ++ if (lk ps (k : Int)).isNone then [(k : Int)] else []
theorem misK_le (ps : List (Int × List UInt8)) : ∀ k, (misK ps k).length ≤ k
  | 0 => Nat.le_refl _
  | k + 1 => by
    have := misK_le ps k
    unfold misK
    rw [List.length_append]
    split <;> simp <;> omega
/-- what Missing hands back -/
def MisTo (w : World) (L : List Int) (v : Value) (w' : World) : Prop := ∃ bl sv, v = .func (.func 40) #[] #[.pointer (some ⟨bl, 0, none⟩)] ∧ MisR bl sv L w' ∧ Frm [] w w' ∧ w.heap.size ≤ bl
theorem mis_nil (t : Int) (w : World) (CN : ∀ W, Frm [] w W → Calls Try.prog 31 #[.pointer none] W (Ret (.bool true) (W = ·))) : Calls Try.prog 23 #[.pointer none, .int .i64 t] w (RetV (MisTo w [])) := by
  have CN := Lib.hid CN
  go_enter Try.func23, Try.ntmps23
  go_wp2_with (go_at_call 31; go_must (refine (CN.out _ ((Frm.refl [] w).alloc _)).mono ?_; rintro e w' ⟨rfl, rfl⟩))
  go_ret
  exact ⟨_, rfl, _, _, rfl, ⟨heap_alloc_new _ _, ⟨none, 0, rfl, fun k x h => by simp at h⟩⟩, (Frm.refl [] w).alloc _, Nat.le_refl _⟩
/-- while the numbers are gone through -/
structure MI (w1 : World) (bl : Nat) (L : List Int) (W : World) : Prop where
  fr : Frm [bl] w1 W
  row : ∃ v, W.heap[bl]? = some (.cells #[v] 39 (0, 0)) ∧ W.ownsRow w1.heap.size 3 1 v L.length (L.map (Value.int .i64))
theorem Try.info3 : (Try.prog.info? 3).map (fun i => (i.zero, i.size, i.bytes)) = some (some (.int .i64 0), 1, 8) := by kernel_rfl
theorem PMap.frm1 {w w' : World} {mb N bl : Nat} {ps : List (Int × List UInt8)} {v : Value} (h : PMap w mb N ps) (hf : Frm [bl] w w') (hb : w.heap[bl]? = some (.cells #[v] 39 (0, 0))) : PMap w' mb N ps := by
  obtain ⟨es, c, hm⟩ := h.block
  refine h.keep hf (fun hx => ?_) (fun k hk c' hc => ?_)
  · simp at hx; subst hx; rw [hb] at hm; cases hm
  · simp at hk; subst hk; rw [hb] at hc; cases hc
set_option maxHeartbeats 2000000 in
set_option maxRecDepth 100000 in
theorem mis_any {w : World} {xb mo : Nat} {M B : Int} {N : Nat} {S : St} {K : Int → Nat} (h : BX w xb mo M B N S K) (t : Int) (m : Msg) (ht : lk S t = some m) (h0 : 0 ≤ t) (h1 : t ≤ 65535) :
    Calls Try.prog 23 #[.pointer (some ⟨xb, 0, none⟩), .int .i64 t] w (RetV (MisTo w (misK m.ps m.cnt.toNat))) := by
  have hc := (h.small t m ht)
  obtain ⟨n, hn⟩ : ∃ n : Nat, m.cnt = n := ⟨m.cnt.toNat, by have := hc.1; omega⟩
  have hn2 : m.cnt.toNat = n := by omega
  have HN : Hid (n ≤ 255) := Lib.hid (by omega)
  rw [hn2]
  have CN := Lib.hid (fun W (hf : Frm [] w W) => none_any (h.frm0 hf))
  have HP := Lib.hid (h.hp t m ht)
  have hl : (Instr.lookup 56 (.map (some mo)) (.int .i64 t) false).run Try.prog (w.alloc (.cells #[.slice none 0 0] 39)) = .ok (.agg #[.int .i64 n, .map (some (K t))]) (w.alloc (.cells #[.slice none 0 0] 39)) := by
    have := (h.hm.frm0 ((Frm.refl [] w).alloc (.cells #[.slice none 0 0] 39))).look (t := t) Try.underlying56 (Try.zero75 _) (by omega) (by omega)
    rw [this, ht]; simp [mv, hn]
  have c2 : (w.alloc (.cells #[.slice none 0 0] 39)).cell? ⟨xb, 2, none⟩ = some (.map (some mo)) := ((Frm.refl [] w).alloc _).keep (cell_of h.hx 2)
  clear h ht hc hn hn2
  go_enter Try.func23, Try.ntmps23
  go_wp2_with (go_at_call 31; go_must (refine (CN.out _ ((Frm.refl [] w).alloc _)).mono ?_; rintro e w' ⟨rfl, rfl⟩))
  obtain ⟨w1, hw1⟩ : ∃ w1, (w.alloc (.cells #[.slice none 0 0] 39)).alloc (.cells #[.int .i64 n, .map (some (K t))] 75) = w1 := ⟨_, rfl⟩
  have HB : Hid (w1.heap[w.heap.size]? = some (.cells #[.slice none 0 0] 39 (0, 0))) := Lib.hid (by rw [← hw1]; exact alloc_at (heap_alloc_new _ _))
  have HM : Hid (w1.heap[w.heap.size + 1]? = some (.cells #[.int .i64 n, .map (some (K t))] 75 (0, 0))) := Lib.hid (by rw [← hw1]; exact alloc_top (by simp))
  have HF1 : Hid (Frm [] w w1) := Lib.hid (by rw [← hw1]; exact ((Frm.refl [] w).alloc _).alloc _)
  have HI0 : Hid (MI w1 w.heap.size (misK m.ps 0) w1) := Lib.hid ⟨Frm.refl _ _, _, HB.out, World.ownsRow_nil _ _ _ _⟩
  obtain ⟨i0, hi0, hz0, hz1, hz2⟩ := info_parts Try.info3
  rw [hw1]
  clear hw1 hl c2 CN
  go_loopw [21] (fun s21 wr => ∃ i : Nat, s21 = .int .i64 i ∧ i ≤ n ∧ MI w1 w.heap.size (misK m.ps i) wr) (fun s21 _ => n - (intOf s21).toNat)
  case atStart => exact ⟨0, rfl, Nat.zero_le _, HI0.out⟩
  case round =>
    clear HI0
    obtain ⟨i, rfl, hi, hmi⟩ := hrel
    have HI := Lib.hid hmi
    clear hmi
    by_cases hlt : i < n
    · have hlt' : (i : Int) < (n : Int) := by omega
      have h255 : (i : Int) < 255 := by have := HN.out; omega
      have c1 := cell_of (HI.out.fr.at HM.out (by simp)) 1
      obtain ⟨hv, tw, hb, hlk, hby, hcs⟩ := ((HP.out.frm0 HF1.out).frm1 HI.out.fr HB.out).look_ok (i : Int) (by omega) (by have := HN.out; omega)
      obtain ⟨ao, cap, rfl, -⟩ := hby.len
      clear hby
      rcases hcs with ⟨rfl, hk⟩ | ⟨rfl, hk⟩
      · have HE : Hid (misK m.ps (i + 1) = misK m.ps i) := Lib.hid (by simp [misK, hk])
        clear hk
        go_wp2
        refine ⟨⟨i + 1, by simp, hlt, ?_⟩, by simp [intOf]; omega⟩
        rw [HE.out]; exact HI.out
      · have HE : Hid (misK m.ps (i + 1) = misK m.ps i ++ [(i : Int)]) := Lib.hid (by simp [misK, hk])
        have hle := misK_le m.ps i
        obtain ⟨L, hL⟩ : ∃ L, misK m.ps i = L := ⟨_, rfl⟩
        rw [hL] at HE HI hle
        obtain ⟨v, hbl, hown⟩ := HI.out.row
        obtain ⟨va, vc, rfl⟩ := own_shape hown
        have c0 := cell_of hbl 0
        have HBL := Lib.hid hbl; have HO := Lib.hid hown
        have hge := HI.out.fr.size
        have hwl := HF1.out.size
        have HNE : Hid (∀ k, (Value.slice va L.length vc).ownBlock = some k → k ≠ w.heap.size) := Lib.hid fun k hk e => by
          obtain ⟨c, hc⟩ := ownBlock_type hown hk
          subst e; rw [hbl] at hc; cases hc
        clear hk hL hbl hown
        go_wp2_with (at_builtin; refine wpList_append_own_at _ rfl _ _ 39 rfl w1.heap.size 3 i0 (.int .i64 0) 1 8 Try.underlying39 hi0 hz0 hz1 hz2 rfl (by decide) _ _ _ rfl (((Frm.refl [] wr).alloc _).owns HO.out (by simp)) ⟨wr.heap.size, 0, none⟩ 1 1 [.int .i64 i] rfl rfl (cell_one_new _ _ _) (by simp [Value.oneCell']) (by have := HN.out; unfold maxLen; omega) (by have := HN.out; omega) (by simp; omega) ?_; intro v' wa hown' hgrow hnil hloc; obtain ⟨va2, vc2, rfl⟩ := own_shape hown'; have hbl2 := grown_at hgrow (alloc_at HBL.out) (fun e => HNE.out _ e rfl); have e0 := free_of hbl2 0; have d0 := cell_of hbl2 0; have HBL2 := Lib.hid hbl2; have HO2 := Lib.hid hown'; have HG2 := Lib.hid hgrow; clear hown' hgrow hnil hloc hbl2)
        refine ⟨⟨i + 1, by simp, hlt, ?_⟩, by simp [intOf]; omega⟩
        rw [HE.out]
        refine ⟨((HI.out.fr.alloc _).grown HG2.out (fun k hk => .inr (ownBlock_ge HO.out hk))).setCell _ (.inl (by simp)) _, _, (block_setCell HBL2.out 0 _).trans rfl, ?_⟩
        have hf : Frm [w.heap.size] wa (wa.setCell ⟨w.heap.size, 0, none⟩ (.slice va2 (L.length + 1) vc2)) := (Frm.refl _ _).setCell _ (.inl (by simp)) _
        have := hf.owns HO2.out (fun k hk hx => by
          simp at hx
          obtain ⟨c, hc⟩ := ownBlock_type HO2.out hk
          subst hx; rw [HBL2.out] at hc; cases hc)
        simpa using this
    · obtain rfl : i = n := by omega
      have hge : ¬ (i : Int) < (i : Int) := by omega
      go_wp2
      go_ret
      obtain ⟨v, hbl, hown⟩ := HI.out.row
      exact ⟨_, rfl, _, v, rfl, ⟨hbl, Ints.of_own (base := w1.heap.size) (by simpa using hown)⟩, HF1.out.then HI.out.fr (by simp), Nat.le_refl _⟩
end Go.Proofs.Ytomjnbcaofebfaa
