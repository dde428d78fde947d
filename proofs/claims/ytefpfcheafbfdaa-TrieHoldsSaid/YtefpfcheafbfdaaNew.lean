/- Slices of texts: what they read as; parts of them, appends. New. -/
import Derived.Test.YtefpfcheafbfdaaSet
namespace Go.Proofs.Ytefpfcheafbfdaa
open Go.RowKit Go.BigFrame

/-- a text's cell -/
def st (x : Wd) : Value := .string (txt x)
/-- a slice that reads as these words' texts -/
def Txts (w : World) (v : Value) (l : List Wd) : Prop :=
  ∃ ao cap, v = .slice ao l.length cap ∧ l.length ≤ cap ∧ ∀ k x, l[k]? = some x → ∃ b o, ao = some ⟨b, o, none⟩ ∧ w.cell? ⟨b, o + k, none⟩ = some (st x)
theorem Txts.nil (w : World) : Txts w (.slice none 0 0) [] := ⟨none, 0, rfl, Nat.le_refl _, fun k x h => by simp at h⟩
theorem Txts.frm {F : List Nat} {w w' : World} {v : Value} {l : List Wd} (h : Txts w v l) (hf : Frm F w w') (hn : ∀ k, v.ownBlock = some k → k ∉ F) : Txts w' v l := by
  obtain ⟨ao, cap, rfl, h1, h2⟩ := h
  refine ⟨ao, cap, rfl, h1, fun k x hk => ?_⟩
  obtain ⟨b, o, rfl, e⟩ := h2 k x hk
  exact ⟨b, o, rfl, hf.cellAt e (hn b rfl)⟩
theorem Txts.frm0 {w w' : World} {v : Value} {l : List Wd} (h : Txts w v l) (hf : Frm [] w w') : Txts w' v l := h.frm hf (by simp)
theorem Txts.len {w : World} {v : Value} {l : List Wd} (h : Txts w v l) : ∃ ao cap, v = .slice ao l.length cap ∧ l.length ≤ cap := by
  obtain ⟨ao, cap, h1, h2, -⟩ := h; exact ⟨ao, cap, h1, h2⟩
/-- cells of maps only change: the bytes stay -/
theorem Txts.keep {F : List Nat} {w w' : World} {v : Value} {l : List Wd} (h : Txts w v l) (hf : Frm F w w') (hF : ∀ k ∈ F, ∀ c t fr, w.heap[k]? ≠ some (.cells c t fr)) : Txts w' v l := by
  obtain ⟨ao, cap, rfl, h1, h2⟩ := h
  refine ⟨ao, cap, rfl, h1, fun k x hk => ?_⟩
  obtain ⟨b, o, rfl, e⟩ := h2 k x hk
  refine ⟨b, o, rfl, hf.cellAt e (fun hb => ?_)⟩
  have hlt := cell_lt e
  have hg : w.heap[b]? = some (w.heap[b]) := Array.getElem?_eq_getElem hlt
  have hF' := hF b hb
  simp only [World.cell?, hg] at e hF'
  cases hob : w.heap[b] with
  | cells c t fr => exact hF' c t fr (by rw [hob])
  | _ => rw [hob] at e; simp at e
theorem Txts.of_own {w : World} {base : Nat} {v : Value} {l : List Wd} (h : w.ownsRow base 9 1 v l.length (l.map st)) : Txts w v l := by
  rcases h.2 with ⟨rfl, h2⟩ | ⟨g, cap, cur, rfl, -, hh, h3, -, -, h4⟩
  · obtain rfl : l = [] := List.length_eq_zero_iff.1 h2
    exact Txts.nil w
  · refine ⟨_, _, rfl, h3, fun k x hk => ⟨g, 0, rfl, ?_⟩⟩
    have hl := lt_of_some hk
    rw [Nat.zero_add, World.ownsRow.cellAt h k (by omega)]
    simp [hk]
theorem Try.elem30 : Try.prog.elem 30 = 9 := by kernel_rfl
theorem Try.under30 : Try.prog.underlying 30 = some (.slice (Try.prog.elem 30)) := by rw [Try.elem30]; exact Try.underlying30
theorem Txts.sliced {w : World} {ao : Option Addr} {cap : Nat} {l : List Wd} (h : Txts w (.slice ao l.length cap) l) {i j m : Nat} (h1 : i ≤ j) (h2 : j ≤ l.length) (hm : j ≤ m) : Txts w (sliced ao i j m 1) ((l.take j).drop i) := by
  obtain ⟨ao', cap', e0, h3, h4⟩ := h
  cases e0
  have hlen : ((l.take j).drop i).length = j - i := by simp; omega
  refine ⟨_, _, by rw [hlen]; rfl, by omega, fun k x hk => ?_⟩
  have hk' := lt_of_some hk
  rw [hlen] at hk'
  rw [List.getElem?_drop, List.getElem?_take_of_lt (by omega)] at hk
  obtain ⟨b, o, rfl, e⟩ := h4 (i + k) x hk
  refine ⟨b, o + i, ?_, by rw [← e]; congr 2; omega⟩
  rw [if_neg (by omega), Option.map_some, WideShapes.add_plain, Nat.mul_one]
section
variable {w : World} {v : Value} {l : List Wd} {lo hi : Int} {i j : Nat}
/-- what a part of b leaves -/
def CutS (w : World) (v : Value) (l : List Wd) (lo hi mx : Option Value) : Prop :=
  ∃ v', (∀ W, (Instr.sliceAt 30 v lo hi mx).run Try.prog W = .ok v' W) ∧ Txts w v' l ∧ (∃ ao cap, v' = .slice ao l.length cap) ∧ ∀ k, v'.ownBlock = some k → v.ownBlock = some k
/-- b[:hi] -/
theorem Txts.cutH (h : Txts w v l) (hh : hi = j) (h2 : j ≤ l.length) : CutS w v (l.take j) none (some (.int .i64 hi)) none := by
  obtain ⟨ao, cap, rfl, h3⟩ := h.len
  subst hh
  have hb := h.sliced (i := 0) (m := cap) (Nat.zero_le j) h2 (by omega)
  rw [List.drop_zero] at hb
  refine ⟨_, fun W => ?_, hb, (let ⟨x, y, e, _⟩ := hb; ⟨x, y, e⟩), fun k hk => sliced_block hk⟩
  rw [run_sliceAt_slice W 30 _ _ _ _ Try.under30, run_slice_h W 30 ao l.length cap Try.under30 .i64 (j : Int) (by omega) (by omega), Try.elem30, Try.sizeOf9]
  simp [Result.andThen]
/-- b[lo:] -/
theorem Txts.cutL (h : Txts w v l) (hl : lo = i) (h2 : i ≤ l.length) : CutS w v (l.drop i) (some (.int .i64 lo)) none none := by
  obtain ⟨ao, cap, rfl, h3⟩ := h.len
  subst hl
  have hb := h.sliced (m := cap) h2 (Nat.le_refl _) (by omega)
  rw [List.take_length] at hb
  refine ⟨_, fun W => ?_, hb, (let ⟨x, y, e, _⟩ := hb; ⟨x, y, e⟩), fun k hk => sliced_block hk⟩
  rw [run_sliceAt_slice W 30 _ _ _ _ Try.under30, run_slice_l W 30 ao l.length cap Try.under30 .i64 (i : Int) (by omega) (by omega), Try.elem30, Try.sizeOf9]
  simp [Result.andThen]
end
theorem Try.info9 : (Try.prog.info? 9).map (fun i => (i.zero, i.size, i.bytes)) = some (some (.string { data := #[] }), 1, 16) := by kernel_rfl
theorem Txts.src {w : World} {v : Value} {l : List Wd} (h : Txts w v l) : Src Try.prog 1 30 v l.length (l.map st) w := by
  obtain ⟨ao, cap, rfl, h1, h2⟩ := h
  cases ao with
  | none =>
    cases l with
    | nil => exact Src.ofNil w Try.underlying30 cap
    | cons x l => obtain ⟨b, o, e, -⟩ := h2 0 x rfl; cases e
  | some ad =>
    refine Src.ofSlice w Try.underlying30 ad l.length cap _ (by simp) (fun j u hu => ?_) (fun u hu => by obtain ⟨x, -, rfl⟩ := List.mem_map.1 hu; rfl)
    rw [List.getElem?_map, Option.map_eq_some_iff] at hu
    obtain ⟨y, hy, rfl⟩ := hu
    obtain ⟨b, o, e, e2⟩ := h2 j y hy
    cases e
    rw [WideShapes.add_plain]; exact e2
/-- bytes appended onto a row of one's own, from wherever -/
theorem app_txts {ty : TypeId} {W : World} {base : Nat} {v sv : Value} {xs l : List Wd} (ho : W.ownsRow base 9 1 v xs.length (xs.map st)) (hs : Txts W sv l) (hn : xs.length + l.length ≤ 4000000) (hb : base ≤ W.heap.size) :
    ∃ v' W', (Builtin.append_ #[30, 30] ty #[v, sv]).run Try.prog W = .ok v' W' ∧ W'.ownsRow base 9 1 v' (xs ++ l).length ((xs ++ l).map st) ∧ W.grownBy W' v.ownBlock := by
  obtain ⟨i0, hi0, hz0, hz1, hz2⟩ := info_parts Try.info9
  have hsrc := hs.src
  cases l with
  | nil =>
    obtain ⟨ao, cp, rfl⟩ := own_shape ho
    have hcp : xs.length ≤ cp := by
      rcases ho.2 with ⟨h, h0⟩ | ⟨g, c, cur, h, -, -, h3, -⟩
      · omega
      · cases h; exact h3
    refine ⟨_, _, run_append_nothing W 30 30 ty 9 i0 Try.underlying30 hi0 ao xs.length cp hcp sv (by rw [hz1]; exact hsrc), by simpa using ho, ⟨rfl, rfl, rfl, Nat.le_refl _, fun _ _ _ => rfl⟩⟩
  | cons x l =>
    obtain ⟨ao, cap, rfl, h1, h2⟩ := hs
    obtain ⟨b, o, rfl, -⟩ := h2 0 x rfl
    obtain ⟨v', W', hrun, r1, r2, -⟩ := run_append_own (P := Try.prog) W base 30 ty 9 i0 (.string { data := #[] }) 1 16 Try.underlying30 hi0 hz0 hz1 hz2 rfl (by decide) v xs.length (xs.map st) ho ⟨b, o, none⟩ (x :: l).length cap ((x :: l).map st) (by simp) (fun j u hu => by
      rw [List.getElem?_map, Option.map_eq_some_iff] at hu
      obtain ⟨y, hy, rfl⟩ := hu
      obtain ⟨b', o', e, e2⟩ := h2 j y hy
      cases e
      rw [WideShapes.add_plain]; exact e2) (fun u hu => by obtain ⟨x, -, rfl⟩ := List.mem_map.1 hu; rfl) (by unfold maxLen; omega) (by omega) hb
    refine ⟨v', W', hrun, ?_, r2⟩
    rw [List.length_append, List.map_append]; exact r1
/-- the same at a step of the walk -/
theorem wpList_app_txts {ops : Array Oper} {rest : List Oper} {o : Oper} {a : Act} {Q : Exit → Act → World → Prop} {w : World} (hgd : o.guard = none) (s x : Operand) (ho : o.op = .call { callee := .builtin .append, args := #[s, x], argTypes := #[30, 30] })
    (base : Nat) (v sv : Value) (hs : a.eval s = v) (hx : a.eval x = sv) (xs l : List Wd) (hown : w.ownsRow base 9 1 v xs.length (xs.map st)) (hsrc : Txts w sv l) (hn : xs.length + l.length ≤ 4000000) (hb : base ≤ w.heap.size)
    (h : ∀ ao cp w', w'.ownsRow base 9 1 (.slice ao (xs ++ l).length cp) (xs ++ l).length ((xs ++ l).map st) → w.grownBy w' v.ownBlock → wpList Try.prog ops Q rest (a.put o.dst (.slice ao (xs ++ l).length cp)) w') : wpList Try.prog ops Q (o :: rest) a w := by
  refine wpList_plain hgd fun K hK => ?_
  obtain ⟨v', w', hrun, r1, r2⟩ := app_txts (ty := o.type) hown hsrc hn hb
  obtain ⟨ao, cp, rfl⟩ := own_shape r1
  unfold Oper.wp
  simp [execOp, ho, resolve, invoke, builtin, hs, hx, hrun, Result.andThen]
  have hk := h ao cp w' r1 r2
  rw [List.length_append] at hk
  exact hK _ _ hk
theorem own_lit_txts {w : World} {base : Nat} (l : List Wd) (hb : base ≤ w.heap.size) (hl : l.length ≤ 1000000) : (w.alloc (.cells (l.map st).toArray 9)).ownsRow base 9 1 (.slice (some ⟨w.heap.size, 0, none⟩) l.length l.length) l.length (l.map st) :=
  ⟨by simp, .inr ⟨_, _, _, rfl, hb, heap_alloc_new _ _, Nat.le_refl _, by unfold maxLen; omega, by simp, by rw [List.toList_toArray, List.take_of_length_le (by simp)]⟩⟩
end Go.Proofs.Ytefpfcheafbfdaa
namespace Go.Proofs.Ytefpfcheafbfdaa
open Go.RowKit Go.Maps Go.BigFrame

/-- the set of words, from L on; or the error -/
def newF (L : List Wd) : List Wd → List Wd × Int
  | [] => (L, 0)
  | x :: r => if insEL L x = 0 then newF (insL L x) r else ([], insEL L x)
/-- a slice of words -/
def Wds (w : World) (v : Value) (L : List Wd) : Prop :=
  ∃ ao cap, v = .slice ao L.length cap ∧ L.length ≤ cap ∧ ∀ k x, L[k]? = some x → ∃ b o ua uc, ao = some ⟨b, o, none⟩ ∧ w.cell? ⟨b, o + k, none⟩ = some (.slice ua x.length uc) ∧ Byts w (.slice ua x.length uc) x
theorem Wds.frm0 {w w' : World} {v : Value} {L : List Wd} (h : Wds w v L) (hf : Frm [] w w') : Wds w' v L := by
  obtain ⟨ao, cap, rfl, h1, h2⟩ := h
  refine ⟨ao, cap, rfl, h1, fun k x hk => ?_⟩
  obtain ⟨b, o, ua, uc, rfl, e1, e2⟩ := h2 k x hk
  exact ⟨b, o, ua, uc, rfl, hf.cellAt e1 (by simp), e2.frm0 hf⟩
theorem Wds.nil (w : World) : Wds w (.slice none 0 0) [] := ⟨none, 0, rfl, Nat.le_refl _, fun k x h => by simp at h⟩
theorem WL.wds {w : World} {base : Nat} {v : Value} {L : List Wd} (h : WL w base v L) : Wds w v L := by
  obtain ⟨vs, h1, h2⟩ := h
  have h0 := h1
  rcases h1.2 with ⟨rfl, h3⟩ | ⟨g, cap, cur, rfl, -, hh, h3, -, -, h4⟩
  · obtain rfl : L = [] := List.length_eq_zero_iff.1 h3
    exact Wds.nil w
  · refine ⟨_, _, rfl, h3, fun k x hk => ?_⟩
    have hl := lt_of_some hk
    obtain ⟨u, e1, e2⟩ := h2 k x hk
    obtain ⟨ua, uc, rfl⟩ : ∃ ua uc, u = .slice ua x.length uc := own_shape e2
    exact ⟨g, 0, ua, uc, rfl, by rw [Nat.zero_add, World.ownsRow.cellAt h0 k (by omega)]; exact e1, Byts.of_own e2⟩
/-- what New leaves -/
def NewTo (w : World) (r : List Wd × Int) (v : Value) (w' : World) : Prop :=
  Frm [] w w' ∧ ∃ xo, v = .tuple #[.pointer xo, .int .i64 r.2] ∧ ((r.2 ≠ 0 ∧ xo = none) ∨ (r.2 = 0 ∧ ∃ tb S N, xo = some ⟨tb, 0, none⟩ ∧ St w' tb r.1 S N ∧ (∀ k, S k → w.heap.size ≤ k) ∧ N ≤ 70000))
theorem St.fresh (w : World) : ∃ S, St (((w.alloc (.map #[] 0)).alloc (.cells #[.bool false, .map (some w.heap.size)] 68)).alloc (.cells #[.pointer (some ⟨w.heap.size + 1, 0, none⟩), .int .i64 0] 55)) (w.heap.size + 2) [] S 0 ∧ ∀ k, S k → w.heap.size ≤ k := by
  have hp : ∀ p, pre [] p = true → p = [] := fun p h => by rcases pre_iff.1 h with h | ⟨x, hx, -⟩ <;> simp_all
  have hk : ∀ p, kidsP (pre []) p = [] := fun p => List.eq_nil_iff_forall_not_mem.2 fun c hc => by
    have := hp _ (mem_kidsP.1 hc)
    simp at this
  refine ⟨Own (w.heap.size + 2) (pre []) (fun _ => w.heap.size + 1) (fun _ => w.heap.size), ⟨⟨fun _ => w.heap.size + 1, fun _ => w.heap.size, ⟨?_, pre_nil _, fun p c h => ?_, fun p h => ?_, fun p h => ?_, fun p q h1 h2 _ => ?_, fun p q h1 h2 _ => ?_⟩, rfl⟩, by simp [Sorted], by simp, by simp⟩, fun k hk => ?_⟩
  · exact alloc_top (by simp)
  · have := hp _ h; simp at this
  · obtain rfl := hp _ h
    exact alloc_at (alloc_top (by simp))
  · have e3 : (fU (kidF (pre []) (fun _ => w.heap.size + 1) p)) = fun _ => none := by
      funext x; unfold fU kidF; split
      · split
        · split
          · rename_i e; have := hp _ e; simp at this
          · rfl
        · rfl
      · rfl
    rw [e3, hk]
    exact ((MapAt.made Try.prog 5 w).frm ((Frm.refl [] _).alloc _) (fun b _ => by simp)).frm ((Frm.refl [] _).alloc _) (fun b _ => by simp)
  · rw [hp _ h1, hp _ h2]
  · rw [hp _ h1, hp _ h2]
  · rcases hk with rfl | ⟨p, -, rfl | rfl⟩
    · omega
    · exact Nat.le_succ _
    · exact Nat.le_refl _
set_option maxHeartbeats 1000000 in
set_option maxRecDepth 100000 in
theorem new_any (lv : Value) (W : List Wd) (w : World) (h : Wds w lv W) (hn : W.length ≤ 1000) (h64 : ∀ x ∈ W, x.length ≤ 1000000) : Calls Try.prog 13 #[lv] w (RetV (NewTo w (newF [] W))) := by
  have HW := Lib.hid h
  obtain ⟨ao, cap, rfl, hcap, hcs⟩ := h
  have HC := Lib.hid hcs; have H64 := Lib.hid h64
  obtain ⟨S0, hs0, hs1⟩ := St.fresh w
  have HS0 := Lib.hid hs0; have HS1 := Lib.hid hs1
  have hF0 : Frm [] w (((w.alloc (.map #[] 0)).alloc (.cells #[.bool false, .map (some w.heap.size)] 68)).alloc (.cells #[.pointer (some ⟨w.heap.size + 1, 0, none⟩), .int .i64 0] 55)) := (((Frm.refl _ _).alloc _).alloc _).alloc _
  have HF0 := Lib.hid hF0
  have HR0 : Hid (newF [] (W.drop 0) = newF [] W) := Lib.hid rfl
  generalize newF [] W = R at HR0 ⊢
  obtain ⟨n, hnn⟩ : ∃ n, W.length = n := ⟨_, rfl⟩
  have HN := Lib.hid hnn
  rw [hnn] at hcap hn ⊢
  have hmm := @run_makeMap Try.prog
  clear h64 hcs hs0 hs1 hF0 hnn
  go_enter Try.func13, Try.ntmps13
  go_wp2
  go_loopw [15] (fun s15 wr => ∃ (i : Nat) (L : List Wd) (S : Nat → Prop) (N : Nat), s15 = .int .i64 i ∧ i ≤ n ∧ newF L (W.drop i) = R ∧ St wr (w.heap.size + 2) L S N ∧ (∀ k, S k → w.heap.size ≤ k) ∧ N ≤ 64 * i ∧ Frm [] w wr) (fun s15 _ => n - (intOf s15).toNat)
  case atStart => exact ⟨0, [], S0, 0, rfl, Nat.zero_le _, HR0.out, HS0.out, HS1.out, by omega, HF0.out⟩
  case round =>
    obtain ⟨i, L, S, N, rfl, hi, hR, hst, hS, hN, hF⟩ := hrel
    by_cases hlt : i < n
    · have hlt' : (i : Int) < (n : Int) := by omega
      obtain ⟨x, hx⟩ : ∃ x, W[i]? = some x := ⟨_, List.getElem?_eq_getElem (by rw [HN.out]; exact hlt)⟩
      obtain ⟨b, o, ua, uc, rfl, cx, hb⟩ := HC.out i x hx
      have cx := hF.cellAt cx (by simp)
      have hd : W.drop i = x :: W.drop (i + 1) := (List.getElem_cons_drop (h := lt_of_some hx)).symm.trans (by rw [(List.getElem?_eq_some_iff.1 hx).2])
      rw [hd] at hR
      unfold newF at hR
      have CI := Lib.hid (hst.insert (by omega) (hb.frm0 hF) (H64.out x (List.mem_of_getElem? hx)))
      have HST := Lib.hid hst; have HS := Lib.hid hS; have HN2 := Lib.hid hN; have HF := Lib.hid hF
      by_cases he : insEL L x = 0
      · rw [if_pos he] at hR
        have HR := Lib.hid hR
        have e1 : insA L x = insL L x := by unfold insA; rw [if_pos he]
        rw [he, e1] at CI
        clear hR he hx hb hst hS hN hF hd e1 HS0 HS1 HF0 HR0
        go_wp2_with (go_at_call 20; go_must (refine CI.out.mono ?_; clear CI; rintro e w2 ⟨rfl, S2, N2, h2, h3, h4, h5⟩; have H2 := Lib.hid h2; have H3 := Lib.hid h3; have H4 := Lib.hid h4; have H5 := Lib.hid h5; clear h2 h3 h4 h5))
        refine ⟨⟨i + 1, _, S2, N2, by simp, hlt, HR.out, H2.out, fun k hk => ?_, by have := H5.out; have := HN2.out; omega, H3.out.old HF.out HS.out⟩, by simp [intOf]; omega⟩
        rcases H4.out k hk with h | h
        · exact HS.out k h
        · have := HF.out.size; omega
      · rw [if_neg he] at hR
        subst hR
        have HE := Lib.hid he
        obtain ⟨ie, hie⟩ : ∃ ie, insEL L x = ie := ⟨_, rfl⟩
        rw [hie] at CI he ⊢
        have hne : (ie == 0) = false := by rw [beq_eq_false_iff_ne]; exact he
        have HIE := Lib.hid hie
        clear hx hb hst hS hN hF hd HS0 HS1 HF0 HR0 hie
        go_wp2_with (go_at_call 20; go_must (refine CI.out.mono ?_; clear CI; rintro e w2 ⟨rfl, S2, N2, h2, h3, h4, h5⟩; have H3 := Lib.hid h3; clear h2 h3 h4 h5))
        go_ret2
        exact ⟨_, rfl, H3.out.old HF.out HS.out, none, rfl, .inl ⟨by rw [← HIE.out]; exact HE.out, rfl⟩⟩
    · obtain rfl : i = n := by omega
      have hge : ¬ (i : Int) < (i : Int) := by omega
      rw [List.drop_eq_nil_of_le (by rw [HN.out]; exact Nat.le_refl _)] at hR
      unfold newF at hR
      subst hR
      have HST := Lib.hid hst; have HS := Lib.hid hS; have HN2 := Lib.hid hN; have HF := Lib.hid hF
      clear hst hS hN hF HS0 HS1 HF0 HR0
      go_wp2
      go_ret2
      exact ⟨_, rfl, HF.out, _, rfl, .inr ⟨rfl, _, S, N, rfl, HST.out, HS.out, by have := HN2.out; omega⟩⟩
end Go.Proofs.Ytefpfcheafbfdaa
