/- Free, Encode. Encode. -/
import Derived.Test.YtefpfcheafbfdaaOver
namespace Go.Proofs.Ytefpfcheafbfdaa
open Go.RowKit Go.Maps Go.BigFrame

attribute [local go_sem] Oper.semAt_some

/-- no word goes on -/
def freeL (L : List Wd) : Bool := (withP L []).all fun x => (kidsP (pre L) x).isEmpty
theorem withP_nil (L : List Wd) : withP L [] = L := by
  unfold withP
  exact List.filter_eq_self.2 (fun _ _ => by simp)
theorem callsIn_round {l n : Nat} {f : FuncId} {args : Array Value} {w : World} {R : Ending → World → Prop} (h : Calls Try.prog f args w R) : CallsIn (Fence.wide.inRound l) n Try.prog f args w R := by
  have : CallsIn Fence.wide n Try.prog f args w R := callsIn_wide.2 h
  exact this
/-- while the words are gone through -/
structure FI (L : List Wd) (x8 : World) (s : List Wd) (W : World) : Prop where
  fr : Frm [] x8 W
  ok : s.all (fun x => (kidsP (pre L) x).isEmpty) = true
structure FX (L : List Wd) (x8 : World) (C : Nat) (c : Code) (W : World) : Prop where
  fr : Frm [C] x8 W
  no : freeL L = false
  at' : W.heap[C]? = some (.cells #[.bool false] 4 (0, 0))
  c : c = .ret
section
variable {w : World} {tb N : Nat} {L : List Wd} {S : Nat → Prop}
set_option maxHeartbeats 2000000 in
set_option maxRecDepth 100000 in
theorem St.free (h : St w tb L S N) : Calls Try.prog 36 #[.pointer (some ⟨tb, 0, none⟩)] w (Ret (.bool (freeL L)) (Frm [] w)) := by
  obtain ⟨W, hW⟩ : ∃ W, W = (w.alloc (.cells #[.pointer (some ⟨tb, 0, none⟩)] 26)).alloc (.cells #[.bool false] 4) := ⟨_, rfl⟩
  obtain ⟨C, hCC⟩ : ∃ C, C = w.heap.size := ⟨_, rfl⟩
  have hF : Frm [] w W := by rw [hW]; exact ((Frm.refl _ _).alloc _).alloc _
  have hC : W.heap[C + 1]? = some (.cells #[.bool false] 4 (0, 0)) := by rw [hW, hCC]; exact alloc_top (by simp)
  have hD : W.heap[C]? = some (.cells #[.pointer (some ⟨tb, 0, none⟩)] 26 (0, 0)) := by rw [hW, hCC]; exact alloc_at (alloc_top rfl)
  have hT := h.frm0 hF
  have CN := Lib.hid hT.none'
  have CW := Lib.hid (hT.words (bv := .slice none 0 0) (b := []) (Byts.nil _) (by simp))
  rw [withP_nil] at CW
  have HT := Lib.hid hT; have HC := Lib.hid hC; have HF := Lib.hid hF; have HCC := Lib.hid hCC; have HDD := Lib.hid hD
  have HM := Lib.hid h.len; have H64 := Lib.hid h.h64
  have c1 := cell_of hD 0
  clear h hC hF hD hT
  refine calls_of_marks Try.func36 rfl ?_
  simp only [Try.ntmps36, List.size_toArray, List.length_cons, List.length_nil, Nat.reduceAdd, Nat.reduceSub, Array.replicate_succ, Array.replicate_zero, List.push_toArray, List.append_toArray, List.nil_append, List.cons_append]
  go_upto_region 1 with fail
  rw [← hW, ← hCC]
  clear hW hCC
  go_wp2_with (first
    | (go_at_call 47; go_must (refine CN.out.mono ?_; clear CN; rintro e w' ⟨rfl, rfl⟩))
    | (go_at_call 22; go_must (refine CW.out.mono ?_; clear CW; rintro e w1 ⟨v, rfl, B, u, rfl, h1, h2⟩; have H1 := Lib.hid h1; have H2 := Lib.hid h2; clear h1 h2)))
  clear c1
  refine wp_rangeWords rfl HM.out H64.out rfl (FI L w1) (fun c _ W => FX L w1 (C + 1) c W) (fun _ _ _ h hb => ⟨hb.old h.fr (Nat.le_refl _), h.ok⟩) (fun _ _ _ _ h hb => ⟨hb.oldF h.fr (Nat.le_refl _), h.no, hb.at h.at' rfl, h.c⟩)
    (fun _ _ h => ⟨h.fr.at H1.out.1 (by simp), H1.out.2.frm0 h.fr⟩) ⟨Frm.refl _ _, rfl⟩ ?_ ?_ ?_
  · intro l pre' x rest Wr v W1 hxs hI hfr hl hlr hs
    obtain ⟨va, vc, rfl⟩ := own_shape hfr.1
    have HI : Hid (Frm [] w1 W1) := Lib.hid (hI.fr.trans hfr.2)
    have HOK := Lib.hid hI.ok
    have HFR := Lib.hid hfr
    have HXS := Lib.hid hxs
    have HS := Lib.hid hs
    clear hI hlr hl hxs hfr hs
    gi_wp2
    refine ⟨KB.refl _, fun Wq hbk _ => ?_⟩
    have hI2 : Frm [] w1 Wq := hbk.old HI.out (Nat.le_refl _)
    have hWQ : Frm [] W Wq := H2.out.trans hI2
    have hrow : Wq.ownsRow Wr.heap.size 5 1 (.slice va x.length vc) x.length (x.map u8) := hbk.frm.owns HFR.out.1 (fun k hk => by
      obtain ⟨cl, hc⟩ := ownBlock_type HFR.out.1 hk
      exact not_books hc rfl)
    have hxL : x ∈ L := by rw [HXS.out]; simp
    have hx64 := H64.out x hxL
    obtain ⟨nb, mb, hnb, hln, hfi⟩ := (HT.out.frm0 hWQ).find (pre_mem hxL) (Byts.of_own hrow) (by omega)
    have CF := Lib.hid hfi
    have d1 := cell_of hnb 1
    have hln := hln Wq (Frm.refl _ _)
    have c1 := cell_of (hWQ.at HDD.out (by simp)) 0
    have c2 := cell_of (hWQ.at HC.out (by simp)) 0
    have f2 := free_of (hWQ.at HC.out (by simp)) 0
    have HC2 := Lib.hid (hWQ.at HC.out (by simp))
    have HI2 := Lib.hid hI2
    obtain ⟨kn, hkn⟩ : ∃ kn, (kidsP (pre L) x).length = kn := ⟨_, rfl⟩
    rw [hkn] at hln
    have HKN := Lib.hid hkn
    obtain ⟨nx, hnx⟩ : ∃ nx, x.length = nx := ⟨_, rfl⟩
    rw [hnx] at CF
    have HWS : Hid (C + 1 < w1.heap.size) := Lib.hid (Nat.lt_of_lt_of_le (lt_of_block HC.out) H2.out.size)
    clear hbk hxL hI2 hWQ hrow hnb hfi hkn hx64
    rw [hnx]
    clear hnx
    by_cases hk : 0 < kn
    · have hk' : (0 : Int) < (kn : Int) := by omega
      gi_wp2
      refine ⟨trivial, (callsIn_round CF.out).mono ?_⟩
      clear CF
      rintro e w' ⟨rfl, rfl⟩
      gi_wp2
      have hf : Frm [C + 1] Wq (Wq.setCell ⟨C + 1, 0, none⟩ (.bool false)) := (Frm.refl _ _).setCell _ (.inl (by simp)) _
      refine ⟨KB.frm hf (fun y hy => by simp at hy; subst hy; exact not_books HC2.out rfl), (HI2.out.mono (by simp)).trans hf, ?_, (block_setCell HC2.out 0 _).trans rfl, rfl⟩
      unfold freeL
      rw [withP_nil, HXS.out, List.all_append, List.all_cons]
      have : (kidsP (pre L) x).isEmpty = false := by
        have := HKN.out
        cases e : kidsP (pre L) x with
        | nil => rw [e] at this; simp at this; omega
        | cons a b => rfl
      rw [HXS.out] at this
      rw [this]; simp
    · have hk' : ¬ (0 : Int) < (kn : Int) := by omega
      have hk0 : kn = 0 := by omega
      subst hk0
      gi_wp2
      refine ⟨trivial, (callsIn_round CF.out).mono ?_⟩
      clear CF
      rintro e w' ⟨rfl, rfl⟩
      gi_wp2
      refine ⟨KB.refl _, HI2.out, ?_⟩
      rw [List.all_append, HOK.out, List.all_cons, List.length_eq_zero_iff.1 HKN.out]
      rfl
  · intro D V hD hI hK
    have HFL : Hid (freeL L = true) := Lib.hid (by unfold freeL; rw [withP_nil]; exact hI.ok)
    have hWV : Frm [] W V := H2.out.trans hI.fr
    have f2 := free_of (hWV.at HC.out (by simp)) 0
    have c2 := cell_of (hWV.at HC.out (by simp)) 0
    have HC2 := Lib.hid (hWV.at HC.out (by simp))
    have HFV := Lib.hid (HF.out.trans hWV)
    have HK := Lib.hid hK
    have HD : Hid (C + 1 < D) := Lib.hid (Nat.lt_of_lt_of_le (lt_of_block HC.out) (Nat.le_trans H2.out.size hD))
    clear hI hK hD hWV
    go_wp2
    rw [HFL.out]
    have hKD : (V.setCell ⟨C + 1, 0, none⟩ (.bool true)).heap[D]? = some (.deferred (some [])) := setCell_at HK.out (by have := HD.out; simp; omega) _
    have hb := block_setCell HC2.out 0 (.bool true)
    have hf8 : Frm [] w ((V.setCell ⟨C + 1, 0, none⟩ (.bool true)).putObj D (.deferred none)) :=
      (HFV.out.setCell _ (.inr (by have := HCC.out; simp; omega)) _).then (Frm.putObj _ D _) (by intro y hy; simp at hy; right; have := HD.out; have := HCC.out; omega)
    have hc : ((V.setCell ⟨C + 1, 0, none⟩ (.bool true)).putObj D (.deferred none)).cell? ⟨C + 1, 0, none⟩ = some (.bool true) := by
      refine (cell_of ((Frm.putObj _ D _).at hb (by have := HD.out; simp; omega)) 0).trans rfl
    refine leaves_mark hKD ⟨.bool true, ?_, rfl, hf8⟩
    generalize (V.setCell ⟨C + 1, 0, none⟩ (.bool true)).putObj D (.deferred none) = Wf at hc
    clear hf8 hKD hb f2 c2
    simp [results, Try.results36, go_sem, hc]
  · intro D c pre' x rest V hxs hD hI hK
    obtain rfl := hI.c
    have HFL := Lib.hid hI.no
    have HC2 := Lib.hid hI.at'
    have hCs : w.heap.size ≤ C + 1 := by rw [HCC.out]; omega
    have HFV : Hid (Frm [] w V) := Lib.hid ((HF.out.trans H2.out).then hI.fr (by intro y hy; simp at hy; right; omega))
    have HK := Lib.hid hK
    have HD : Hid (C + 1 < D) := Lib.hid (Nat.lt_of_lt_of_le (lt_of_block HC.out) (Nat.le_trans H2.out.size hD))
    clear hI hK hD hxs
    go_wp2
    rw [HFL.out]
    have hf8 : Frm [] w (V.putObj D (.deferred none)) := HFV.out.then (Frm.putObj _ D _) (by intro y hy; simp at hy; right; have := HD.out; omega)
    have hc : (V.putObj D (.deferred none)).cell? ⟨C + 1, 0, none⟩ = some (.bool false) := by
      refine (cell_of ((Frm.putObj _ D _).at HC2.out (by have := HD.out; simp; omega)) 0).trans rfl
    refine leaves_mark HK.out ⟨.bool false, ?_, rfl, hf8⟩
    generalize V.putObj D (.deferred none) = Wf at hc
    clear hf8
    simp [results, Try.results36, go_sem, hc]
end
end Go.Proofs.Ytefpfcheafbfdaa
namespace Go.Proofs.Ytefpfcheafbfdaa
open Go.RowKit Go.Maps Go.BigFrame

attribute [local go_sem] Oper.semAt_some

/-- a word, behind its length -/
def encW (x : Wd) : Wd := UInt8.ofNat x.length :: x
def encH (n : Nat) : Wd := [UInt8.ofNat (n / 256), UInt8.ofNat (n % 256)]
def encL (L : List Wd) : Wd := encH L.length ++ L.flatMap encW
/-- bytes appended onto a row of one's own: its block is the elder one or a new one -/
theorem app_new {ty : TypeId} {W : World} {base : Nat} {v sv : Value} {xs l : List UInt8} (ho : W.ownsRow base 5 1 v xs.length (xs.map u8)) (hs : Byts W sv l) (hn : xs.length + l.length ≤ 4000000) (hb : base ≤ W.heap.size) :
    ∃ v' W', (Builtin.append_ #[23, 23] ty #[v, sv]).run Try.prog W = .ok v' W' ∧ W'.ownsRow base 5 1 v' (xs ++ l).length ((xs ++ l).map u8) ∧ W.grownBy W' v.ownBlock ∧ ∀ k, v'.ownBlock = some k → v.ownBlock = some k ∨ W.heap.size ≤ k := by
  obtain ⟨i0, hi0, hz0, hz1, hz2⟩ := info_parts Try.info5
  have hsrc := hs.src
  have ho0 := ho
  cases l with
  | nil =>
    obtain ⟨ao, cp, rfl⟩ := own_shape ho
    have hcp : xs.length ≤ cp := by
      rcases ho.2 with ⟨h, h0⟩ | ⟨g, c, cur, h, -, -, h3, -⟩
      · omega
      · cases h; exact h3
    exact ⟨_, _, run_append_nothing W 23 23 ty 5 i0 Try.underlying23 hi0 ao xs.length cp hcp sv (by rw [hz1]; exact hsrc), by simpa using ho, ⟨rfl, rfl, rfl, Nat.le_refl _, fun _ _ _ => rfl⟩, fun k hk => .inl hk⟩
  | cons x l =>
    obtain ⟨ao, cap, rfl, h1, h2⟩ := hs
    obtain ⟨b, o, rfl, -⟩ := h2 0 x rfl
    have hnews : ∀ j u, ((x :: l).map u8)[j]? = some u → W.cell? ((⟨b, o, none⟩ : Addr).add j) = some u := fun j u hu => by
      rw [List.getElem?_map, Option.map_eq_some_iff] at hu
      obtain ⟨y, hy, rfl⟩ := hu
      obtain ⟨b', o', e, e2⟩ := h2 j y hy
      cases e
      rw [WideShapes.add_plain]; exact e2
    have hone : ∀ u ∈ (x :: l).map u8, u.oneCell' = true := fun u hu => by obtain ⟨x, -, rfl⟩ := List.mem_map.1 hu; rfl
    rw [List.length_append, List.map_append]
    rcases ho.2 with ⟨rfl, h0⟩ | ⟨g, cp, cur, rfl, hg, hh, h3, h4, h5, h6⟩
    · have hx0 : xs = [] := List.length_eq_zero_iff.1 h0
      subst hx0
      obtain ⟨v', W', hrun, r1, r2, -⟩ := run_append_own (P := Try.prog) W W.heap.size 23 ty 5 i0 (.int .u8 0) 1 1 Try.underlying23 hi0 hz0 hz1 hz2 rfl (by decide) _ 0 [] (World.ownsRow_nil _ _ _ _) ⟨b, o, none⟩ (x :: l).length cap ((x :: l).map u8) (by simp) hnews hone (by unfold maxLen; simp at hn ⊢; omega) (by simp at hn ⊢; omega) (Nat.le_refl _)
      exact ⟨v', W', hrun, own_low r1 hb, r2, fun k hk => .inr (ownBlock_ge r1 hk)⟩
    · by_cases hfit : xs.length + (x :: l).length ≤ cp
      · obtain ⟨W', hrun, r1, r2⟩ := run_append_fits (P := Try.prog) W base 23 ty 5 i0 1 Try.underlying23 hi0 hz1 g xs.length cp (xs.map u8) ho0 ⟨b, o, none⟩ (x :: l).length cap ((x :: l).map u8) (by simp) hnews hone hfit
        exact ⟨_, W', hrun, r1, r2, fun k hk => .inl hk⟩
      · obtain ⟨v', W', hrun, r1, r2⟩ := run_append_arg_grows (P := Try.prog) W 23 ty 5 i0 (.int .u8 0) 1 1 Try.underlying23 hi0 hz0 hz1 hz2 rfl (by decide) ⟨g, 0, none⟩ xs.length cp (xs.map u8) (by simp) (fun j u hu => by
          have hj : j < xs.length := by have := lt_of_some hu; simpa using this
          have e := World.ownsRow.cellAt ho0 j (by omega)
          rw [WideShapes.add_plain, Nat.zero_add, e]; exact hu) ⟨b, o, none⟩ (x :: l).length cap ((x :: l).map u8) (by simp) hnews (by omega) (by unfold maxLen; omega) (by omega)
        exact ⟨v', W', hrun, own_low r1 hb, { r2 with block := fun k hk _ => r2.block k hk (by simp) }, fun k hk => .inr (ownBlock_ge r1 hk)⟩
/-- bytes appended onto a row of one's own, in a round -/
theorem wpListIn_app_bytes {F : Fence} {n0 : Nat} {ops : Array Oper} {rest : List Oper} {o : Oper} {a : Act} {Q : Exit → Act → World → Prop} {w : World} (hgd : o.guard = none) (s x : Operand) (ho : o.op = .call { callee := .builtin .append, args := #[s, x], argTypes := #[23, 23] })
    (base : Nat) (v sv : Value) (hs : a.eval s = v) (hx : a.eval x = sv) (xs l : List UInt8) (hown : w.ownsRow base 5 1 v xs.length (xs.map u8)) (hsrc : Byts w sv l) (hn : xs.length + l.length ≤ 4000000) (hb : base ≤ w.heap.size)
    (h : ∀ ao cp w', w'.ownsRow base 5 1 (.slice ao (xs ++ l).length cp) (xs ++ l).length ((xs ++ l).map u8) → w.grownBy w' v.ownBlock → (∀ n c k, (Value.slice ao n c).ownBlock = some k → v.ownBlock = some k ∨ w.heap.size ≤ k) → wpListIn F n0 Try.prog ops Q rest (a.put o.dst (.slice ao (xs ++ l).length cp)) w') : wpListIn F n0 Try.prog ops Q (o :: rest) a w := by
  refine wpListIn_plain hgd fun K hK => ?_
  obtain ⟨v', w', hrun, r1, r2, r3⟩ := app_new (ty := o.type) hown hsrc hn hb
  obtain ⟨ao, cp, rfl⟩ := own_shape r1
  unfold Oper.wpIn
  refine ⟨?_, ?_⟩
  · simp [Oper.about, ho, resolve, Target.leads, Sem.run_pure]
  · rw [Oper.semAt_plain F _ _ (by rw [ho]; intro c hc'; cases hc')]
    simp [execOp, ho, resolve, invoke, builtin, hs, hx, hrun, Result.andThen]
    have hk := h ao cp w' r1 r2 (fun n c k hk => r3 k (by cases ao <;> exact hk))
    rw [List.length_append] at hk
    exact hK _ _ hk
/-- the same, its lengths by name -/
theorem wpListIn_app_n {F : Fence} {n0 : Nat} {ops : Array Oper} {rest : List Oper} {o : Oper} {a : Act} {Q : Exit → Act → World → Prop} {w : World} (hgd : o.guard = none) (s x : Operand) (ho : o.op = .call { callee := .builtin .append, args := #[s, x], argTypes := #[23, 23] })
    (base : Nat) (v sv : Value) (hs : a.eval s = v) (hx : a.eval x = sv) (xs l : List UInt8) (n m : Nat) (hn1 : xs.length = n) (hm1 : (xs ++ l).length = m) (hown : w.ownsRow base 5 1 v n (xs.map u8)) (hsrc : Byts w sv l) (hn : n + l.length ≤ 4000000) (hb : base ≤ w.heap.size)
    (h : ∀ ao cp w', w'.ownsRow base 5 1 (.slice ao m cp) m ((xs ++ l).map u8) → w.grownBy w' v.ownBlock → (∀ n c k, (Value.slice ao n c).ownBlock = some k → v.ownBlock = some k ∨ w.heap.size ≤ k) → wpListIn F n0 Try.prog ops Q rest (a.put o.dst (.slice ao m cp)) w') : wpListIn F n0 Try.prog ops Q (o :: rest) a w := by
  subst hn1 hm1
  exact wpListIn_app_bytes hgd s x ho base v sv hs hx xs l hown hsrc hn hb h
/-- while the words are appended -/
def EI (w w1 : World) (g k0 n : Nat) (s : List Wd) (W : World) : Prop :=
  Frm [g, k0] w1 W ∧ ∃ ao cap, W.heap[g]? = some (.cells #[.slice ao (encH n ++ s.flatMap encW).length cap] 23 (0, 0)) ∧
    W.ownsRow w.heap.size 5 1 (.slice ao (encH n ++ s.flatMap encW).length cap) (encH n ++ s.flatMap encW).length ((encH n ++ s.flatMap encW).map u8) ∧ ∀ k, (Value.slice ao (encH n ++ s.flatMap encW).length cap).ownBlock = some k → k = k0 ∨ w1.heap.size ≤ k
theorem EI.bk {w w1 W W' : World} {g k0 n B : Nat} {s : List Wd} (h : EI w w1 g k0 n s W) (hb : Bk B W W') (hB : w1.heap.size ≤ B) : EI w w1 g k0 n s W' := by
  obtain ⟨h1, ao, cap, h2, h3, h4⟩ := h
  exact ⟨hb.oldF h1 hB, ao, cap, hb.at h2 rfl, hb.frm.owns h3 (fun k hk => by
    obtain ⟨cl, hc⟩ := ownBlock_type h3 hk
    exact not_books hc rfl), h4⟩
theorem enc_keep {W w2 w3 : World} {g b b' n n2 : Nat} {A : Array Value} {v v2 : Value} {xs xs2 : List Value} (hg : W.heap[g]? = some (.cells A 23 (0, 0))) (ho : W.ownsRow b 5 1 v n xs) (f2 : Frm v.ownBlock.toList W w2) (o2 : w2.ownsRow b' 5 1 v2 n2 xs2) (f3 : Frm v2.ownBlock.toList w2 w3) : w3.heap[g]? = some (.cells A 23 (0, 0)) := by
  have h2 := f2.at hg (fun hx => by
    obtain ⟨c, hc⟩ := ownBlock_type ho (Option.mem_toList.1 hx)
    rw [hg] at hc; cases hc)
  exact f3.at h2 (fun hx => by
    obtain ⟨c, hc⟩ := ownBlock_type o2 (Option.mem_toList.1 hx)
    rw [h2] at hc; cases hc)
theorem encLen {L : List Wd} (h64 : ∀ x ∈ L, x.length ≤ 64) : (L.flatMap encW).length ≤ L.length * 65 := by
  induction L with
  | nil => simp
  | cons x L ih =>
    have h1 := ih (fun y hy => h64 y (List.mem_cons_of_mem _ hy))
    have h2 := h64 x List.mem_cons_self
    rw [List.flatMap_cons, List.length_append, List.length_cons]
    unfold encW
    rw [List.length_cons]
    unfold encW at h1
    omega
section
variable {w : World} {tb N : Nat} {L : List Wd} {S : Nat → Prop}
set_option maxHeartbeats 2000000 in
set_option maxRecDepth 100000 in
theorem St.encode (h : St w tb L S N) : Calls Try.prog 31 #[.pointer (some ⟨tb, 0, none⟩)] w (RetV fun v w' => ∃ v0, v = .tuple #[v0, .int .i64 0] ∧ Fresh w (encL L) v0 w') := by
  have CN := Lib.hid h.none'
  have HT := Lib.hid h
  have HM := Lib.hid h.len; have H64 := Lib.hid h.h64
  obtain ⟨n, hn⟩ : ∃ n, L.length = n := ⟨_, rfl⟩
  have hn1 : n ≤ 1000 := by rw [← hn]; exact h.len
  obtain ⟨NB, MB, h1, hS⟩ := h.ex
  have c1 := cell_of h1.top 1
  rw [hn] at c1
  have c1a : ∀ o, (w.alloc o).cell? ⟨tb, 1, none⟩ = some (.int .i64 n) := fun o => by
    have h2 := cell_of ((h1.frm0 ((Frm.refl [] w).alloc o)).top) 1
    rw [hn] at h2
    exact h2
  have HN := Lib.hid hn
  have CW : Hid (∀ W, Frm [] w W → Calls Try.prog 22 #[.pointer (some ⟨tb, 0, none⟩), .slice none 0 0] W (RetV fun v w' => ∃ B u, v = .func (.func 50) #[] #[.pointer (some ⟨B, 0, none⟩)] ∧ WdR B W.heap.size u L w' ∧ Frm [] W w')) := Lib.hid fun W hf => by
    have := (HT.out.frm0 hf).words (bv := .slice none 0 0) (b := []) (Byts.nil _) (by simp)
    rwa [withP_nil] at this
  clear h h1 hS hn
  refine calls_of_marks Try.func31 rfl ?_
  simp only [Try.ntmps31, List.size_toArray, List.length_cons, List.length_nil, Nat.reduceAdd, Nat.reduceSub, Array.replicate_succ, Array.replicate_zero, List.push_toArray, List.append_toArray, List.nil_append, List.cons_append]
  go_upto_region 3 with (first
    | (go_at_call 47; go_must (refine CN.out.mono ?_; clear CN; rintro e w' ⟨rfl, rfl⟩)))
  go_cut [4] from 9 to 20 (fun s4 wx => ∃ g k0, s4 = .pointer (some ⟨g, 0, none⟩) ∧ w.heap.size ≤ g ∧ w.heap.size ≤ k0 ∧ g ≠ k0 ∧ Frm [] w wx ∧ wx.heap[g]? = some (.cells #[.slice (some ⟨k0, 0, none⟩) 2 2] 23 (0, 0)) ∧ wx.ownsRow w.heap.size 5 1 (.slice (some ⟨k0, 0, none⟩) 2 2) 2 ((encH n).map u8))
  case first =>
    have e1 : Value.int .u8 ((n : Int) / 256) = u8 (UInt8.ofNat (n / 256)) := by
      unfold u8
      congr 1
      have : (UInt8.ofNat (n / 256)).toNat = n / 256 := by simp; omega
      rw [this]; omega
    have e2 : Value.int .u8 ((n : Int) % 256) = u8 (UInt8.ofNat (n % 256)) := by
      unfold u8
      congr 1
      have : (UInt8.ofNat (n % 256)).toNat = n % 256 := by simp
      rw [this]; omega
    have E1 := Lib.hid e1; have E2 := Lib.hid e2
    clear e1 e2
    go_region
    · go_wp2
      go_meet
      rw [E1.out, E2.out]
      refine ⟨_, _, rfl, Nat.le_succ _, Nat.le_refl _, by omega, (((Frm.refl [] w).alloc _).alloc _).drew, alloc_top (by simp), ?_⟩
      exact (((Frm.refl [] _).alloc _).drew).owns (own_lit (w := w) (base := w.heap.size) (encH n) (Nat.le_refl _) (by simp [encH])) (by simp)
    · go_wp2
      go_meet
      rw [E1.out, E2.out]
      refine ⟨_, _, rfl, Nat.le_refl _, Nat.le_succ _, by omega, (((Frm.refl [] w).alloc _).alloc _).drew, alloc_at (alloc_top rfl), ?_⟩
      have := own_lit (w := w.alloc (.cells #[.slice (some ⟨w.heap.size + 1, 0, none⟩) 2 2] 23)) (base := w.heap.size) (encH n) (by simp) (by simp [encH])
      rw [World.size_alloc] at this
      exact this
  case rest =>
    obtain ⟨g, k0, rfl, hg1, hk1, hgk, hfc, hgc, hoc⟩ := hcut
    have CW := Lib.hid (CW.out wc hfc)
    have HG1 := Lib.hid hg1; have HK1 := Lib.hid hk1; have HGK := Lib.hid hgk; have HFC := Lib.hid hfc; have HGC := Lib.hid hgc; have HOC := Lib.hid hoc
    clear c1 c1a hfc hgc hoc hg1 hk1 hgk
    go_wp2_with (first
      | (go_at_call 22; go_must (refine CW.out.mono ?_; clear CW; rintro e w1 ⟨v, rfl, B, u, rfl, h1, h2⟩; have H1 := Lib.hid h1; have H2 := Lib.hid h2; clear h1 h2)))
    have HE0 : Hid (EI w w1 g k0 n [] w1) := Lib.hid ⟨Frm.refl _ _, _, _, H2.out.at HGC.out (by simp), by simpa [encH] using H2.out.owns HOC.out (by simp), by simp [Value.ownBlock]⟩
    have HLT : Hid (g < wc.heap.size ∧ k0 < wc.heap.size) := Lib.hid ⟨lt_of_block HGC.out, ownBlock_lt HOC.out rfl⟩
    have HBN : Hid (B ∉ [g, k0]) := Lib.hid (fun hx => by
      have h0 := H1.out.1
      simp only [List.mem_cons, List.not_mem_nil, or_false] at hx
      rcases hx with rfl | rfl
      · rw [H2.out.at HGC.out (by simp)] at h0; cases h0
      · obtain ⟨cl, hc⟩ := ownBlock_type (H2.out.owns HOC.out (by simp)) rfl
        rw [hc] at h0; cases h0)
    refine wp_rangeWords rfl HM.out H64.out rfl (EI w w1 g k0 n) (fun _ _ _ => False) (fun _ _ _ h hb => h.bk hb (Nat.le_refl _)) (fun _ _ _ _ h _ => h)
      (fun s W h => ⟨h.1.at H1.out.1 (HBN.out), H1.out.2.frmB h.1 (fun k hk => by simp at hk; have := HLT.out; omega)⟩) HE0.out ?_ ?_ (fun _ _ _ _ _ _ _ _ h => h.elim)
    · intro l pre' x rest Wr v W1 hxs hI hfr hl hlr hs
      obtain ⟨va, vc, rfl⟩ := own_shape hfr.1
      have hI1 : EI w w1 g k0 n pre' W1 := hI.bk (hfr.2.bk w1.heap.size) (Nat.le_refl _)
      have hown := hI.2
      have HI1 := Lib.hid hI1
      have HI0 := Lib.hid hI
      have HFR := Lib.hid hfr
      have HXS := Lib.hid hxs
      have HS := Lib.hid hs
      clear hI hI1 hlr hl hxs hfr hs hown
      gi_wp2
      refine ⟨KB.refl _, fun Wq hbk _ => ?_⟩
      have hI2 := HI1.out.bk hbk (Nat.le_refl _)
      have hrow : Wq.ownsRow Wr.heap.size 5 1 (.slice va x.length vc) x.length (x.map u8) := hbk.frm.owns HFR.out.1 (fun k hk => by
        obtain ⟨cl, hc⟩ := ownBlock_type HFR.out.1 hk
        exact not_books hc rfl)
      have hx64 := H64.out x (by rw [HXS.out]; simp)
      have hRl : (encH n ++ pre'.flatMap encW).length ≤ 70000 := by
        have h1 := encLen (L := pre') (fun y hy => H64.out y (by rw [HXS.out]; simp [hy]))
        have h2 : pre'.length ≤ 1000 := by have := HM.out; rw [HXS.out] at this; simp at this; omega
        rw [List.length_append]
        simp [encH] at h1 ⊢
        omega
      obtain ⟨hfq, ao, cap, hgq, hoq, hoq2⟩ := hI2
      -- the row lies elsewhere than the word
      obtain ⟨_, ao1, cap1, hgr, horr, _⟩ := HI0.out
      have hbq : Frm [] Wr W1 := HFR.out.2
      have hsame : Value.slice ao (encH n ++ pre'.flatMap encW).length cap = .slice ao1 (encH n ++ pre'.flatMap encW).length cap1 := by
        have h1 := hbk.at (hbq.at hgr (by simp)) rfl
        rw [hgq] at h1
        simpa using h1
      have hdis : ∀ k, (Value.slice va x.length vc).ownBlock = some k → (Value.slice ao (encH n ++ pre'.flatMap encW).length cap).ownBlock ≠ some k := fun k h1 h2 => by
        rw [hsame] at h2
        have := ownBlock_ge hrow h1
        have := ownBlock_lt horr h2
        omega
      have HDIS := Lib.hid hdis
      have HROW := Lib.hid hrow; have HGQ := Lib.hid hgq; have HOQ := Lib.hid hoq; have HOQ2 := Lib.hid hoq2; have HFQ := Lib.hid hfq
      obtain ⟨R, hR⟩ : ∃ R, encH n ++ pre'.flatMap encW = R := ⟨_, rfl⟩
      rw [hR] at HDIS HGQ HOQ HOQ2 hRl
      have HR := Lib.hid hR
      obtain ⟨nr, hnr⟩ : ∃ nr, R.length = nr := ⟨_, rfl⟩
      rw [hnr] at HDIS HGQ HOQ HOQ2 hRl
      have HNR := Lib.hid hnr
      obtain ⟨nx, hnx⟩ : ∃ nx, x.length = nx := ⟨_, rfl⟩
      rw [hnx] at HDIS HROW hx64 ⊢
      have HNX := Lib.hid hnx
      have cg := cell_of HGQ.out 0
      have hws : w.heap.size ≤ Wq.heap.size := by have := HFC.out.size; have := H2.out.size; have := HFQ.out.size; omega
      have HWS := Lib.hid hws
      have HRL := Lib.hid hRl
      have hlb : Value.int .u8 (nx : Int) = u8 (UInt8.ofNat nx) := by
        unfold u8; congr 1
        have : (UInt8.ofNat nx).toNat = nx := by simp; omega
        rw [this]
      have HLB := Lib.hid hlb
      clear hbk hrow hgq hoq hoq2 hfq hgr horr hbq hsame hdis hR hnx hws hRl hlb hnr
      have HO1 : Hid (∀ o, (Wq.alloc o).ownsRow w.heap.size 5 1 (.slice ao nr cap) nr (R.map u8)) := Lib.hid fun o => ((Frm.refl [] Wq).alloc o).owns HOQ.out (by simp)
      have HB1 : Hid (Byts (Wq.alloc (.cells #[.int .u8 (nx : Int)] 5)) (.slice (some ⟨Wq.heap.size, 0, none⟩) 1 1) [UInt8.ofNat nx]) := Lib.hid (by
        rw [HLB.out]
        exact Byts.of_own (own_lit (base := 0) [UInt8.ofNat nx] (Nat.zero_le _) (by simp)))
      have HB2 : Hid (∀ w2 b2, (Wq.alloc b2).grownBy w2 (Value.slice ao nr cap).ownBlock → Byts w2 (.slice va nx vc) x ∧ Frm (Value.slice ao nr cap).ownBlock.toList Wq w2) := Lib.hid fun w2 b2 hg => by
        have hf : Frm (Value.slice ao nr cap).ownBlock.toList Wq w2 := ((Frm.refl _ _).alloc _).grown hg (fun k hk => .inl (by simp [hk]))
        have hb := Byts.of_own (l := x) (v := .slice va nx vc) (w := Wq) (base := Wr.heap.size) (by rw [HNX.out]; exact HROW.out)
        exact ⟨hb.frm hf (fun k hk hx => by simp at hx; exact HDIS.out k hk hx), hf⟩
      gi_wp2_with (first
        | (gi_at_builtin; refine wpListIn_app_n rfl _ _ rfl w.heap.size (.slice ao nr cap) _ rfl rfl R [UInt8.ofNat nx] nr (nr + 1) HNR.out (by simp [HNR.out]) (HO1.out _) HB1.out (by have := HRL.out; simp; omega) (by have := HWS.out; simp; omega) ?_; clear HO1 HB1; intro ao2 cp2 w2 hown2 hgrow2 hnew2; have O2 := Lib.hid hown2; have N2 := Lib.hid hnew2; obtain ⟨hb2, hf2⟩ := HB2.out _ _ hgrow2; have B2 := Lib.hid hb2; have F2 := Lib.hid hf2; clear hown2 hgrow2 hb2 hf2 hnew2)
        | (gi_at_builtin; refine wpListIn_app_n rfl _ _ rfl w.heap.size (.slice ao2 (nr + 1) cp2) _ rfl rfl (R ++ [UInt8.ofNat nx]) x (nr + 1) (nr + 1 + nx) (by simp [HNR.out]) (by simp [HNR.out, HNX.out]; omega) O2.out B2.out (by have := HRL.out; have := HNX.out; omega) (by have := HWS.out; have := F2.out.size; omega) ?_; intro ao3 cp3 w3 hown3 hgrow3 hnew3; have O3 := Lib.hid hown3; have N3 := Lib.hid hnew3; have F3 : Hid (Frm (Value.slice ao2 (nr + 1) cp2).ownBlock.toList w2 w3) := Lib.hid ((Frm.refl _ _).grown hgrow3 (fun k hk => .inl (by simp [hk]))); have G3 := Lib.hid (enc_keep HGQ.out HOQ.out F2.out O2.out F3.out); have cg3 := cell_of G3.out 0; have fg3 := free_of G3.out 0; clear hown3 hgrow3 hnew3 B2))
      have hkk : ∀ k, (Value.slice ao nr cap).ownBlock = some k → k = k0 ∨ w1.heap.size ≤ k := HOQ2.out
      have hsz : w1.heap.size ≤ Wq.heap.size := HFQ.out.size
      have hk2 : ∀ n c k, (Value.slice ao2 n c).ownBlock = some k → k = k0 ∨ w1.heap.size ≤ k := fun n c k hk => by
        rcases N2.out n c k hk with h | h
        · exact hkk k h
        · right; simp at h; omega
      have hk3 : ∀ n c k, (Value.slice ao3 n c).ownBlock = some k → k = k0 ∨ w1.heap.size ≤ k := fun n c k hk => by
        rcases N3.out n c k hk with h | h
        · exact hk2 _ _ k h
        · right; have := F2.out.size; omega
      have hs4 : Frm [g] w3 (w3.setCell ⟨g, 0, none⟩ (.slice ao3 (nr + 1 + nx) cp3)) := (Frm.refl _ _).setCell _ (.inl (by simp)) _
      have hb4 := block_setCell G3.out 0 (.slice ao3 (nr + 1 + nx) cp3)
      have hR2 : encH n ++ (pre' ++ [x]).flatMap encW = R ++ [UInt8.ofNat nx] ++ x := by
        rw [List.flatMap_append, ← List.append_assoc, HR.out]
        simp [encW, HNX.out]
      have hL2 : (R ++ [UInt8.ofNat nx] ++ x).length = nr + 1 + nx := by simp [HNR.out, HNX.out]; omega
      refine ⟨?_, ?_, ao3, cp3, ?_⟩
      · have hb5 : ∀ {W W' : World} {b n : Nat} {v : Value} {xs : List Value}, W.ownsRow b 5 1 v n xs → Frm v.ownBlock.toList W W' → KB W W' := fun ho hf => KB.frm hf (fun y hy => by
          obtain ⟨c, hc⟩ := ownBlock_type ho (Option.mem_toList.1 hy)
          exact not_books hc rfl)
        exact ((hb5 HOQ.out F2.out).trans (hb5 O2.out F3.out)).trans (KB.frm hs4 (fun y hy => by simp at hy; subst hy; exact not_books G3.out rfl))
      · have h1 : Frm [g, k0] w1 w2 := HFQ.out.then F2.out (fun k hk => by
          rcases hkk k (Option.mem_toList.1 hk) with h | h
          · left; simp [h]
          · exact .inr h)
        have h2 : Frm [g, k0] w1 w3 := h1.then F3.out (fun k hk => by
          rcases hk2 _ _ k (Option.mem_toList.1 hk) with h | h
          · left; simp [h]
          · exact .inr h)
        exact h2.trans (hs4.mono (by simp))
      · rw [hR2, hL2]
        refine ⟨hb4.trans rfl, hs4.owns O3.out (fun k hk hx => ?_), hk3 _ _⟩
        obtain ⟨c, hc⟩ := ownBlock_type O3.out hk
        simp at hx; subst hx
        rw [G3.out] at hc; cases hc
    · intro D V hD hI hK
      obtain ⟨h1, ao, cap, h2, h3, h4⟩ := hI
      have c0 := cell_of h2 0
      have he : encH n ++ L.flatMap encW = encL L := by unfold encL; rw [HN.out]
      rw [he] at h3 c0
      have hgw : ∀ x ∈ [g, k0], x ∈ ([] : List Nat) ∨ w.heap.size ≤ x := fun x hx => by
        simp at hx
        rcases hx with rfl | rfl
        · exact .inr HG1.out
        · exact .inr HK1.out
      have HFV : Hid (Frm [] w V) := Lib.hid ((HFC.out.trans H2.out).then h1 hgw)
      have HO := Lib.hid h3
      have HK := Lib.hid hK
      have HD : Hid (w.heap.size ≤ D) := Lib.hid (by have := HFC.out.size; have := H2.out.size; omega)
      obtain ⟨m, hm⟩ : ∃ m, (encL L).length = m := ⟨_, rfl⟩
      rw [hm] at c0
      have HM2 := Lib.hid hm
      clear h1 h2 h3 h4 hK hD he hm hgw
      go_wp2
      refine leaves_mark HK.out ⟨.tuple #[.slice ao m cap, .int .i64 0], ?_, _, rfl, .slice ao m cap, rfl, ?_, ?_⟩
      · simp [results, Try.results31, go_sem]
      · have h5 := HO.out
        rw [HM2.out] at h5 ⊢
        refine (Frm.putObj V D _).owns h5 (fun k hk hx => ?_)
        simp at hx; subst hx
        obtain ⟨c, hc⟩ := ownBlock_type h5 hk
        rw [HK.out] at hc; cases hc
      · exact HFV.out.then (Frm.putObj V D _) (by intro y hy; simp at hy; right; have := HD.out; omega)
end
end Go.Proofs.Ytefpfcheafbfdaa
