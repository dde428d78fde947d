/- maps.Keys of a node's map: its iterator. slices.AppendSeq and slices.Collect over the keys of a node's map. -/
import Derived.Test.YtefpfcheafbfdaaRangeP
import Derived.Test.YtefpfcheafbfdaaCount
import Derived.Sort.MapsRangeIn
import Derived.OwnWalkIn
import Derived.TacticsInMore
import Derived.LoopNIn
import Derived.LoopIn
namespace Go.Proofs.Ytefpfcheafbfdaa
open Go.RowKit Go.Maps Go.BigFrame

/-- what the iterator reads -/
def KeyR (B mo N : Nat) (om : Obj) (P : Wd → Bool) (NB : Wd → Nat) (p : Wd) (D : DataW Value) (W : World) : Prop :=
  W.heap[B]? = some (.cells #[.map (some mo)] 66 (0, 0)) ∧ W.heap[mo]? = some om ∧ KD W mo N P NB p D
/-- what may come next; what has come in all -/
def KMore (P : Wd → Bool) (p : Wd) (pre : List UInt8) (c : UInt8) : Prop := c ∉ pre ∧ P (p ++ [c]) = true
def KDone (P : Wd → Bool) (p : Wd) (xs : List UInt8) : Prop := xs.Nodup ∧ ∀ c, c ∈ xs ↔ P (p ++ [c]) = true
/-- what is known in a round -/
structure KRd (w : World) (mo r N : Nat) (P : Wd → Bool) (p : Wd) (D : DataW Value) (left : Lit → Bool) (cn : Nat) (pre : List UInt8) : Prop where
  rg : w.ranges Try.prog 5 rawR mo r N D left cn
  sub : ∀ kl, left kl = true → Maps.has D kl = true
  nodup : pre.Nodup
  mem : ∀ c, c ∈ pre → P (p ++ [c]) = true
  left' : ∀ c, P (p ++ [c]) = true → left (kl8 c) = false → c ∈ pre
  not : ∀ c, c ∈ pre → left (kl8 c) = false
theorem ranges_same {w w' : World} {mo r N : Nat} {D : DataW Value} {left : Lit → Bool} {cnt : Nat} (h : w.ranges Try.prog 5 rawR mo r N D left cnt) (h1 : w'.heap[mo]? = w.heap[mo]?) (h2 : w'.heap[r]? = w.heap[r]?) : w'.ranges Try.prog 5 rawR mo r N D left cnt := by
  obtain ⟨es, clock, since, seen, c0, q1, q2, q3, q4, q5, q⟩ := h
  exact ⟨es, clock, since, seen, c0, h1.trans q1, q2, q3, q4, h2.trans q5, q⟩
theorem ranges_it {w : World} {mo r N : Nat} {D : DataW Value} {left : Lit → Bool} {cnt : Nat} (h : w.ranges Try.prog 5 rawR mo r N D left cnt) : ∃ o, w.heap[r]? = some o ∧ isIt o = true := by
  obtain ⟨es, clock, since, seen, c0, q1, q2, q3, q4, q5, q⟩ := h
  exact ⟨_, q5, rfl⟩
theorem grown_ik {w w' : World} {r B : Nat} (h : w.grownBy w' (some r)) (hr : ∃ o, w.heap[r]? = some o ∧ isIt o = true) (hB : B ≤ r) : Ik B w w' :=
  ⟨h.os, h.tape, h.output, h.size, fun k o hk ho => by
    refine grown_at h hk ?_
    rintro e
    cases e
    obtain ⟨o', h1, h2⟩ := hr
    rw [hk] at h1; cases h1
    rcases ho with ho | ho
    · omega
    · rw [h2] at ho; cases ho⟩
set_option maxHeartbeats 1000000 in
set_option maxRecDepth 100000 in
theorem keys_iter (B mo N : Nat) (om : Obj) (P : Wd → Bool) (NB : Wd → Nat) (p : Wd) (D : DataW Value) :
    IterP Fence.wide 2 Try.prog 67 #[.pointer (some ⟨B, 0, none⟩)] (fun c : UInt8 => #[u8 c]) (KeyR B mo N om P NB p D) (KMore P p) (KDone P p) := by
  intro l W J Jx sJ sJx hJR hY h0
  have HJ := Lib.hid sJ; have HJR := Lib.hid hJR; have HY := Lib.hid hY
  clear sJ sJx hJR hY
  have hr := HJR.out _ _ h0
  have c0 := cell_of hr.1 0
  have HK := Lib.hid hr.2.2
  have H0 := Lib.hid h0
  clear hr h0
  unfold u8 at HY
  refine callsIn_of_wp Try.func67 rfl trivial ?_ rfl
  simp only [Try.ntmps67, List.size_toArray, List.length_cons, List.length_nil, Nat.reduceAdd, Nat.reduceSub, Array.replicate_succ, Array.replicate_zero, List.push_toArray, List.append_toArray, List.nil_append, List.cons_append]
  gi_wp2_with (first
    | (gi_at_range; refine wpListIn_range_own _ rfl _ 66 rfl 5 53 Try.key5 Try.underlying66 _ mo N D rfl HK.out.own ?_; intro w0 hrg0 hg0 hs0; have HR0 := Lib.hid hrg0; have HG0 := Lib.hid hg0; clear hrg0 hg0 hs0)
    | gi_in)
  try go_frame
  gi_loopw [3] (fun _ wr => ∃ left cn pre, KRd wr mo W.heap.size N P p D left cn pre ∧ J pre wr) (fun _ wr => wr.rangeLeft mo W.heap.size)
  case atStart =>
    refine ⟨_, _, [], ⟨HR0.out, fun _ h => h, List.nodup_nil, by simp, fun c hc hl => ?_, by simp⟩, HJ.out _ _ _ H0.out (Frm.ik ((Frm.refl [] W).grown HG0.out (by simp)) _)⟩
    rw [HK.out.has8 hc] at hl; cases hl
  case round =>
    obtain ⟨left, cn, pre, hk, hj⟩ := hrel
    have HKR := Lib.hid hk; have HJ1 := Lib.hid hj
    clear hk hj H0 HR0 HG0
    gi_wp2_with (first
      | (gi_at_next; refine wpListIn_next_ranges _ rfl _ rfl 5 Try.key5 rawR (Value.int .u8) (fun v : Value => v) (fun key kl hkey => by obtain ⟨x, e, -⟩ := Maps.keyOf_int_inv Try.underlying5 hkey; exact ⟨x, e⟩) (fun v y _ => ⟨v, rfl⟩) mo W.heap.size N D left cn rfl HKR.out.rg ?_ ?_)
      | gi_in)
    · intro _ hl0
      have HL := Lib.hid hl0
      clear hl0
      gi_wp2
      go_end0
      exact ⟨⟨_, rfl⟩, .inl ⟨pre, ⟨HKR.out.nodup, fun c => ⟨HKR.out.mem c, fun hc => HKR.out.left' c hc (HL.out _)⟩⟩, HJ1.out⟩⟩
    · intro x c kl y1 y2 w1 cnt1 hkey hlk hR hat hrg1 hlt1 hg1 hs1 hen
      obtain ⟨t, rfl, ht⟩ := HK.out.key (HKR.out.sub kl hlk)
      have hx : x = (t.toNat : Int) := by
        obtain ⟨t', e, h1, -⟩ := Maps.keyOf_int_inv Try.underlying5 hkey
        cases e
        unfold kl8 at h1
        simp at h1
        exact h1.symm
      subst hx
      have hnp : t ∉ pre := fun h => by have := HKR.out.not t h; rw [hlk] at this; cases this
      have hm : KMore P p pre t := ⟨hnp, ht⟩
      have hik : Ik W.heap.size wr w1 := grown_ik hg1 (ranges_it HKR.out.rg) (Nat.le_refl _)
      have hJ' := HJ.out _ _ _ HJ1.out hik
      obtain ⟨fn, tmps, assign, body, hy, hRR⟩ := HY.out pre t w1 hm hJ'
      have HRR := Lib.hid hRR; have HRG := Lib.hid hrg1; have HLT := Lib.hid hlt1; have HM := Lib.hid hm
      have HLK := Lib.hid hlk
      have HJ2 := Lib.hid hJ'
      clear hkey hlk hR hat hrg1 hlt1 hg1 hs1 hik hJ' hRR hm hnp
      gi_wp2
      refine HRR.out.mono ?_
      rintro e W3 (⟨rfl, hJ3, hki⟩ | ⟨rfl, hJx3, -⟩)
      · have HJ3 := Lib.hid hJ3
        have hrg3 : Hid (W3.ranges Try.prog 5 rawR mo W.heap.size N D (fun z => left z && !z.sameKey (kl8 t)) cnt1) := Lib.hid (ranges_same HRG.out (by rw [(HJR.out _ _ hJ3).2.1, (HJR.out _ _ HJ2.out).2.1]) (by
          obtain ⟨o, h1, h2⟩ := ranges_it HRG.out
          rw [hki _ _ h1 h2, h1]))
        clear hJ3 hki
        gi_wp2
        go_roundw
        case rel =>
          refine ⟨_, cnt1, pre ++ [t], ⟨hrg3.out, fun z hz => HKR.out.sub z (by simp at hz; exact hz.1), ?_, ?_, ?_, ?_⟩, HJ3.out⟩
          · rw [List.nodup_append]
            exact ⟨HKR.out.nodup, by simp, fun a ha b hb => by simp at hb; subst hb; rintro rfl; exact HM.out.1 ha⟩
          · intro c hc
            rcases List.mem_append.1 hc with hc | hc
            · exact HKR.out.mem c hc
            · simp at hc; subst hc; exact ht
          · intro c hc hl
            rw [kl8_same, Bool.and_eq_false_iff] at hl
            rcases hl with hl | hl
            · exact List.mem_append_left _ (HKR.out.left' c hc hl)
            · simp at hl; subst hl; simp
          · intro c hc
            rw [kl8_same]
            rcases List.mem_append.1 hc with hc | hc
            · rw [HKR.out.not c hc]; rfl
            · simp at hc; subst hc; simp
        case measure => rw [hrg3.out.left_eq, HKR.out.rg.left_eq]; exact HLT.out
      · have HJ3 := Lib.hid hJx3
        clear hJx3
        gi_wp2
        refine bodyPost_ret (results_none rfl _ _ _) rfl ?_
        exact ⟨⟨_, rfl⟩, .inr ⟨pre, t, HM.out, HJ3.out⟩⟩
/-- maps.Keys -/
theorem mkeys_any (mo : Nat) (w : World) : Calls Try.prog 63 #[.map (some mo)] w (Ret (.func (.func 67) #[] #[.pointer (some ⟨w.heap.size, 0, none⟩)]) (fun w' => w' = w.alloc (.cells #[.map (some mo)] 66))) := by
  go_enter Try.func63, Try.ntmps63
  go_wp2
  go_ret
  exact ⟨rfl, rfl⟩
end Go.Proofs.Ytefpfcheafbfdaa
namespace Go.Proofs.Ytefpfcheafbfdaa
open Go.RowKit Go.Maps Go.BigFrame
attribute [local go_sem] Oper.semAt_some

theorem Bk.owns {B : Nat} {w w' : World} (h : Bk B w w') {base e size n : Nat} {v : Value} {xs : List Value} (ho : w.ownsRow base e size v n xs) : w'.ownsRow base e size v n xs := by
  obtain ⟨h1, h2⟩ := ho
  refine ⟨h1, ?_⟩
  rcases h2 with h2 | ⟨g, cap, cur, hv, hg, hh, r⟩
  · exact .inl h2
  · exact .inr ⟨g, cap, cur, hv, hg, h.at hh rfl, r⟩
theorem Bk.oldF {F : List Nat} {B : Nat} {w0 w w' : World} (h : Bk B w w') (h0 : Frm F w0 w) (hB : w0.heap.size ≤ B) : Frm F w0 w' :=
  ⟨h.os.trans h0.os, h.tape.trans h0.tape, h.output.trans h0.output, Nat.le_trans h0.size h.size, fun k hk hn => by
    have e := h0.block k hk hn
    have hk' : w0.heap[k]? = some (w0.heap[k]) := Array.getElem?_eq_getElem hk
    rw [hk'] at e ⊢
    exact h.block k _ e (.inl (by omega))⟩
theorem nodup_sub : ∀ (l m : List UInt8), l.Nodup → (∀ x ∈ l, x ∈ m) → l.length ≤ m.length
  | [], _, _, _ => Nat.zero_le _
  | x :: l, m, hn, hs => by
    obtain ⟨h1, h2⟩ := List.nodup_cons.1 hn
    have hx := hs x List.mem_cons_self
    have ih := nodup_sub l (m.erase x) h2 (fun y hy => (List.mem_erase_of_ne (by rintro rfl; exact h1 hy)).2 (hs y (List.mem_cons_of_mem _ hy)))
    rw [List.length_erase_of_mem hx] at ih
    have := List.length_pos_of_mem hx
    rw [List.length_cons]
    omega
theorem nodup_256 {l : List UInt8} (h : l.Nodup) : l.length ≤ 256 := by
  have := nodup_sub l ((List.range 256).map UInt8.ofNat) h (fun x _ => mem_bytes x)
  simpa using this
theorem KD.frm {F : List Nat} {w w' : World} {mo N : Nat} {P : Wd → Bool} {NB : Wd → Nat} {p : Wd} {D : DataW Value} (h : KD w mo N P NB p D) (hf : Frm F w w') (hm : mo ∉ F) : KD w' mo N P NB p D := by
  refine { h with own := ?_ }
  obtain ⟨es, clock, h1, h2⟩ := h.own
  exact ⟨es, clock, hf.at h1 hm, h2⟩
theorem KeyR.frm {F : List Nat} {w w' : World} {B mo N : Nat} {om : Obj} {P : Wd → Bool} {NB : Wd → Nat} {p : Wd} {D : DataW Value} (h : KeyR B mo N om P NB p D w) (hf : Frm F w w') (hB : B ∉ F) (hm : mo ∉ F) : KeyR B mo N om P NB p D w' :=
  ⟨hf.at h.1 hB, hf.at h.2.1 hm, h.2.2.frm hf hm⟩
/-- while the box at xb collects the keys -/
structure XK (V : World) (xb : Nat) (pre : List UInt8) (W : World) : Prop where
  fr : Frm [xb] V W
  lt : xb < V.heap.size
  nd : pre.Nodup
  bx : ∃ v, W.heap[xb]? = some (.cells #[v] 23 (0, 0)) ∧ W.ownsRow V.heap.size 5 1 v pre.length (pre.map u8)
section
variable {V W W' w1 : World} {xb B : Nat} {pre : List UInt8}
theorem XK.bk (h : XK V xb pre W) (hb : Bk B W W') (hB : V.heap.size ≤ B) : XK V xb pre W' := by
  obtain ⟨v, h1, h2⟩ := h.bx
  exact ⟨hb.oldF h.fr hB, h.lt, h.nd, v, hb.at h1 rfl, hb.owns h2⟩
theorem XK.start (h : V.heap[xb]? = some (.cells #[.slice none 0 0] 23 (0, 0))) : XK V xb [] V := ⟨Frm.refl _ _, lt_of_block h, List.nodup_nil, _, h, World.ownsRow_nil _ _ _ _⟩
theorem XK.step (h : XK V xb pre W) {v v' : Value} {o : Obj} (x : UInt8) (hx : x ∉ pre) (hv : W.heap[xb]? = some (.cells #[v] 23 (0, 0)) ∧ W.ownsRow V.heap.size 5 1 v pre.length (pre.map u8))
    (hg : (W.alloc o).grownBy w1 v.ownBlock) (ho : w1.ownsRow V.heap.size 5 1 v' (pre.length + 1) ((pre.map u8) ++ [u8 x])) :
    KB W (w1.setCell ⟨xb, 0, none⟩ v') ∧ XK V xb (pre ++ [x]) (w1.setCell ⟨xb, 0, none⟩ v') := by
  have hge : ∀ k, v.ownBlock = some k → V.heap.size ≤ k := fun k hk => ownBlock_ge hv.2 hk
  have hlt := h.lt
  have h1 : Frm (xb :: v.ownBlock.toList) W w1 := ((Frm.refl _ _).alloc o).grown hg (fun k hk => .inl (by simp [hk]))
  have h2 : Frm [xb] w1 (w1.setCell ⟨xb, 0, none⟩ v') := (Frm.refl _ _).setCell _ (.inl (by simp)) _
  have hbx : w1.heap[xb]? = some (.cells #[v] 23 (0, 0)) := grown_at hg (alloc_at hv.1) (fun e => by have := hge _ e; omega)
  refine ⟨KB.frm (F := xb :: v.ownBlock.toList) (h1.trans (h2.mono (by simp))) (fun y hy => ?_), ?_, hlt, ?_, v', ?_, ?_⟩
  · simp only [List.mem_cons, Option.mem_toList] at hy
    rcases hy with rfl | hy
    · exact not_books hv.1 rfl
    · obtain ⟨c, hc⟩ := ownBlock_type hv.2 hy
      exact not_books hc rfl
  · refine (h.fr.then h1 (fun y hy => ?_)).trans h2
    simp only [List.mem_cons, Option.mem_toList] at hy
    rcases hy with rfl | hy
    · exact .inl (by simp)
    · exact .inr (hge _ hy)
  · rw [List.nodup_append]
    exact ⟨h.nd, by simp, fun a ha b hb => by simp at hb; subst hb; rintro rfl; exact hx ha⟩
  · refine (block_setCell hbx 0 _).trans ?_
    rfl
  · have h3 := h2.owns ho (fun k hk hx => by have := ownBlock_ge ho hk; simp at hx; omega)
    simpa using h3
theorem XK.facts {v : Value} {o : Obj} (hlt : xb < V.heap.size) (hv : W.heap[xb]? = some (.cells #[v] 23 (0, 0)) ∧ W.ownsRow V.heap.size 5 1 v pre.length (pre.map u8)) (hg : (W.alloc o).grownBy w1 v.ownBlock) :
    w1.cell? ⟨xb, 0, none⟩ = some v ∧ w1.frozen? ⟨xb, 0, none⟩ = false := by
  have hge : ∀ k, v.ownBlock = some k → V.heap.size ≤ k := fun k hk => ownBlock_ge hv.2 hk
  have hbx : w1.heap[xb]? = some (.cells #[v] 23 (0, 0)) := grown_at hg (alloc_at hv.1) (fun e => by have := hge _ e; omega)
  exact ⟨cell_of hbx 0, free_of hbx 0⟩
end
set_option maxHeartbeats 1000000 in
set_option maxRecDepth 100000 in
theorem apps_any (B mo N : Nat) (om : Obj) (P : Wd → Bool) (NB : Wd → Nat) (p : Wd) (D : DataW Value) (w : World) (h : KeyR B mo N om P NB p D w) :
    Calls Try.prog 69 #[.slice none 0 0, .func (.func 67) #[] #[.pointer (some ⟨B, 0, none⟩)]] w (RetV fun v w' => ∃ xs, KDone P p xs ∧ w'.ownsRow w.heap.size 5 1 v xs.length (xs.map u8) ∧ Frm [] w w') := by
  have hit := keys_iter B mo N om P NB p D
  have HK := Lib.hid h
  have hB := lt_of_block h.1
  have hM := lt_of_block h.2.1
  clear h
  refine calls_of_marks Try.func69 rfl ?_
  simp only [Try.ntmps69, List.size_toArray, List.length_nil, List.length_cons, Nat.reduceAdd, Nat.reduceSub, Array.replicate_succ, Array.replicate_zero, List.push_toArray, List.append_toArray, List.nil_append, List.cons_append]
  go_wp2
  obtain ⟨V, hV⟩ : ∃ V, w.alloc (.cells #[.slice none 0 0] 23) = V := ⟨_, rfl⟩
  have hb0 : V.heap[w.heap.size]? = some (.cells #[.slice none 0 0] 23 (0, 0)) := by rw [← hV]; exact alloc_top rfl
  have hf0 : Frm [] w V := by rw [← hV]; exact (Frm.refl _ _).alloc _
  have hs0 : V.heap.size = w.heap.size + 1 := by rw [← hV]; simp
  rw [hV]
  have HX := Lib.hid (XK.start hb0)
  have HF0 := Lib.hid hf0
  have HKR : Hid (∀ pre W, XK V w.heap.size pre W → KeyR B mo N om P NB p D W) := Lib.hid fun pre W h => (HK.out.frm HF0.out (by simp) (by simp)).frm h.fr (by simp; omega) (by simp; omega)
  clear hV hb0 hf0
  refine wp_rangeP rfl (enters_of Try.func67 (by kernel_rfl) rfl) hit (fun _ => rfl) (XK V w.heap.size) (fun _ _ _ => False) (fun _ _ _ h hb => h.bk hb (Nat.le_refl _)) (fun _ _ _ _ h _ => h) HKR.out HX.out ?_ ?_ (fun _ _ _ _ _ _ _ h => h.elim)
  · intro l0 pre x Wr hxs hI hl hlr
    have HI := Lib.hid hI
    have HXS := Lib.hid hxs
    clear hI hlr hl hxs
    unfold u8
    gi_wp2
    refine ⟨KB.refl _, fun Wq hbk _ => ?_⟩
    have HI2 := Lib.hid (HI.out.bk hbk (Nat.le_refl _))
    obtain ⟨v, hv⟩ := HI2.out.bx
    have cx := cell_of hv.1 0
    have HV := Lib.hid hv
    have hb3 : V.heap.size ≤ (Wq.alloc (.cells #[u8 x] 5)).heap.size := by have := HI2.out.fr.size; simp; omega
    have hpl := nodup_256 HI2.out.nd
    have hb1 : pre.length + 1 ≤ maxLen := by unfold maxLen; omega
    have hb2 : (pre.length + 1) * 1 ≤ 140737488355328 := by omega
    have HB1 := Lib.hid hb1; have HB2 := Lib.hid hb2; have HB3 := Lib.hid hb3
    clear hv hbk hb1 hb2 hb3 hpl
    obtain ⟨i0, hi0, hz0, hz1, hz2⟩ := info_parts Try.info5
    gi_wp2_with (gi_at_builtin; refine wpListIn_append_own _ rfl _ _ 23 rfl V.heap.size 5 i0 (.int .u8 0) 1 1 Try.underlying23 hi0 hz0 hz1 hz2 rfl (by decide) v pre.length (pre.map u8) rfl (HV.out.2.alloc _) ⟨Wq.heap.size, 0, none⟩ 1 1 [u8 x] rfl rfl (cell_one_new _ _ _) (by unfold u8; simp [Value.oneCell']) HB1.out HB2.out HB3.out ?_; intro v' w1 hown' hgrow _; obtain ⟨ao', cp', rfl⟩ := own_shape hown'; obtain ⟨fx1, fx2⟩ := XK.facts HI2.out.lt HV.out hgrow; have HO := Lib.hid hown'; have HG := Lib.hid hgrow; clear hown' hgrow)
    exact HI2.out.step x HXS.out.1 HV.out HG.out HO.out
  · intro D1 xs W hD hdn hI hK
    obtain ⟨v, hv⟩ := hI.bx
    have cx := cell_of hv.1 0
    have HV := Lib.hid hv; have HI := Lib.hid hI; have HKD := Lib.hid hK; have HDN := Lib.hid hdn
    have HD1 : Hid (w.heap.size ≤ D1) := Lib.hid (by omega)
    clear hv hI hK hdn hD
    go_wp2
    have hw : Frm [] w (W.putObj D1 (.deferred none)) := (HF0.out.then HI.out.fr (by intro y hy; simp at hy; right; omega)).then (Frm.putObj W D1 _) (by intro y hy; simp at hy; right; rw [hy]; exact HD1.out)
    have hD2 : ∀ k, v.ownBlock = some k → k ≠ D1 := fun k hk e => by
      obtain ⟨c, hc⟩ := ownBlock_type HV.out.2 hk
      rw [e, HKD.out] at hc; cases hc
    refine leaves_mark HKD.out ⟨v, ?_, v, rfl, xs, HDN.out, ?_, hw⟩
    · simp [results, Try.results69, go_sem]
    · exact own_low ((Frm.putObj W D1 _).owns HV.out.2 (fun k hk hx => by simp at hx; exact hD2 k hk hx)) (by omega)
end Go.Proofs.Ytefpfcheafbfdaa
