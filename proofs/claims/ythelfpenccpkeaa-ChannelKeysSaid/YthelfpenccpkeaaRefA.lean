/- The reference: New, Put. -/
import Derived.Test.YthelfpenccpkeaaTwo
import Derived.ArgAppend
import Derived.Deep.Upon
namespace Go.Proofs.Ythelfpenccpkeaa
open Go.RowKit Go.BigFrame

theorem own_low {w : World} {base base' e size n : Nat} {v : Value} {xs : List Value} (h : w.ownsRow base e size v n xs) (hb : base' ≤ base) : w.ownsRow base' e size v n xs := by
  rcases h with ⟨h1, h2 | ⟨g, c, cur, h2, h3, h4⟩⟩
  · exact ⟨h1, .inl h2⟩
  · exact ⟨h1, .inr ⟨g, c, cur, h2, Nat.le_trans hb h3, h4⟩⟩
theorem alloc_top {w : World} {o : Obj} {n : Nat} (h : n = w.heap.size) : (w.alloc o).heap[n]? = some o := by subst h; exact heap_alloc_new _ _
theorem own_shape {w : World} {base e size n : Nat} {v : Value} {xs : List Value} (h : w.ownsRow base e size v n xs) : ∃ ao cp, v = .slice ao n cp := by
  rcases h.2 with ⟨rfl, rfl⟩ | ⟨g, c, cur, h2, -⟩
  · exact ⟨_, _, rfl⟩
  · exact ⟨_, _, h2⟩
theorem Lf.cells {W : World} {ao : Option Addr} {cap : Nat} {L : List ByteArray} (h : Lf W (.slice ao L.length cap) L) : ∀ b, ao = some b → ∀ j u, (L.map Value.string)[j]? = some u → W.cell? (b.add j) = some u := by
  intro b hb j u hu
  obtain ⟨ao', cap', hv, hcs⟩ := h.shape
  cases hv
  rw [List.getElem?_map, Option.map_eq_some_iff] at hu
  obtain ⟨y, hy, rfl⟩ := hu
  obtain ⟨g', hg', e⟩ := hcs j y hy
  rw [hb] at hg'
  cases hg'
  have e1 : (⟨g', 0, none⟩ : Addr).add j = ⟨g', j, none⟩ := by simp [Addr.add]; exact fun h => h.symm
  rw [e1]; exact e
/-- what is appended to a slice literal without elements: a row of its own -/
theorem app_any {ty : TypeId} (b : Nat) (W : World) (hb : W.heap[b]? = some (.cells #[] 9 (0, 0))) (sv : Value) (n : Nat) (news : List Value) (hs : Src Try.prog 1 22 sv n news W) (hk : 0 < n → ∃ ad c, sv = .slice (some ad) n c ∧ ∀ j u, news[j]? = some u → W.cell? (ad.add j) = some u) (hn : n ≤ 1000000) :
    ∃ ao cp W', (Builtin.append_ #[22, 22] ty #[.slice (some ⟨b, 0, none⟩) 0 0, sv]).run Try.prog W = .ok (.slice ao n cp) W' ∧ W'.ownsRow b 9 1 (.slice ao n cp) n news ∧ W.grownBy W' none := by
  obtain ⟨i0, hi0, hz0, hz1, hz2⟩ := info_parts Try.info9
  have hl := hs.newsLen
  cases n with
  | zero =>
    obtain rfl : news = [] := List.length_eq_zero_iff.1 (by simpa using hl)
    refine ⟨_, _, _, run_append_nothing W 22 22 _ 9 i0 Try.underlying22 hi0 (some ⟨b, 0, none⟩) 0 0 (Nat.le_refl _) _ (by rw [hz1]; exact hs), ⟨rfl, .inr ⟨b, 0, #[], rfl, Nat.le_refl _, hb, Nat.le_refl _, Nat.zero_le _, rfl, rfl⟩⟩, (Frm.refl [] W).grownNone⟩
  | succ n =>
    obtain ⟨ad, c, rfl, hc⟩ := hk (Nat.succ_pos n)
    obtain ⟨v', w', hrun, r1, r2⟩ := run_append_arg_grows (P := Try.prog) W 22 ty 9 i0 (.string { data := #[] }) 1 16 Try.underlying22 hi0 hz0 hz1 hz2 rfl (by decide) ⟨b, 0, none⟩ 0 0 [] (by simp) (fun j u hu => by simp at hu) ad (n + 1) c news hl hc (by omega) (by unfold maxLen; omega) (by omega)
    rw [Nat.zero_add, List.nil_append] at r1
    obtain ⟨ao, cp, rfl⟩ := own_shape r1
    exact ⟨ao, cp, w', hrun, own_low r1 (Nat.le_of_lt (lt_of_block hb)), r2⟩
/-- THE SAME AT A STEP OF THE WALK -/
theorem wpList_append_src {ops : Array Oper} {rest : List Oper} {o : Oper} {a : Act} {Q : Exit → Act → World → Prop} {w : World} (hgd : o.guard = none) (s x : Operand) (ho : o.op = .call { callee := .builtin .append, args := #[s, x], argTypes := #[22, 22] })
    (b : Nat) (hs : a.eval s = .slice (some ⟨b, 0, none⟩) 0 0) (hb : w.heap[b]? = some (.cells #[] 9 (0, 0))) (sv : Value) (hx : a.eval x = sv) (n : Nat) (news : List Value) (hsrc : Src Try.prog 1 22 sv n news w)
    (hk : 0 < n → ∃ ad c, sv = .slice (some ad) n c ∧ ∀ j u, news[j]? = some u → w.cell? (ad.add j) = some u) (hn : n ≤ 1000000)
    (h : ∀ ao cp w', w'.ownsRow b 9 1 (.slice ao n cp) n news → w.grownBy w' none → wpList Try.prog ops Q rest (a.put o.dst (.slice ao n cp)) w') : wpList Try.prog ops Q (o :: rest) a w := by
  refine wpList_plain hgd fun K hK => ?_
  obtain ⟨ao, cp, w', hrun, r1, r2⟩ := app_any b w hb sv n news hsrc hk hn
  have hrun' : (Builtin.append_ #[22, 22] o.type #[.slice (some ⟨b, 0, none⟩) 0 0, sv]).run Try.prog w = .ok (.slice ao n cp) w' := hrun
  unfold Oper.wp
  simp [execOp, ho, resolve, invoke, builtin, hs, hx, hrun', Result.andThen]
  exact hK _ _ (h ao cp w' r1 r2)
theorem Lf.src {W : World} {ao : Option Addr} {cap : Nat} {L : List ByteArray} (h : Lf W (.slice ao L.length cap) L) : Src Try.prog 1 22 (.slice ao L.length cap) L.length (L.map Value.string) W := by
  cases ao with
  | none =>
    obtain ⟨ao', cap', hv, hcs⟩ := h.shape
    cases hv
    have e : L = [] := by
      cases L with
      | nil => rfl
      | cons x l => obtain ⟨g, hg, -⟩ := hcs 0 x rfl; cases hg
    subst e
    exact Src.ofNil W Try.underlying22 cap
  | some ad => exact Src.ofSlice W Try.underlying22 ad L.length cap _ (by simp) (h.cells ad rfl) (by intro u hu; obtain ⟨x, -, rfl⟩ := List.mem_map.1 hu; rfl)
theorem Lf.some_addr {W : World} {ao : Option Addr} {cap : Nat} {L : List ByteArray} (h : Lf W (.slice ao L.length cap) L) (hpos : 0 < L.length) : ∃ ad c, Value.slice ao L.length cap = .slice (some ad) L.length c ∧ ∀ j u, (L.map Value.string)[j]? = some u → W.cell? (ad.add j) = some u := by
  obtain ⟨ao', cap', hv, hcs⟩ := h.shape
  cases hv
  cases L with
  | nil => simp at hpos
  | cons x l =>
    obtain ⟨g, rfl, -⟩ := hcs 0 x rfl
    exact ⟨_, _, rfl, h.cells _ rfl⟩
theorem Try.info48s : (Try.prog.info? 48).map (·.size) = some 3 := by kernel_rfl
theorem results_c2 {fn : Func} {p q : Tmp} (h : fn.results = #[.cell p 48, .tmp q]) {tmps : Array Value} {w : World} {g : Nat} {A : Array Value} {t : TypeId} {v : Value} (hp : tmps.getD p undef = .pointer (some ⟨g, 0, none⟩)) (hq : tmps.getD q undef = v) (hg : w.heap[g]? = some (.cells A t (0, 0))) (hs : A.size = 3) :
    (results fn tmps).run Try.prog w = .ok (.tuple #[.agg A, v]) w := by
  have hp' : tmps[p]?.getD undef = .pointer (some ⟨g, 0, none⟩) := by simpa using hp
  have hq' : tmps[q]?.getD undef = v := by simpa using hq
  simp [results, h, hp', hq', asAddr, run_loadVar_row w g t 48 A (0, 0) _ hg Try.underlying48 rfl (by rw [Try.info48s, hs])]
theorem results_c3 {fn : Func} {p q r : Tmp} (h : fn.results = #[.cell p 48, .tmp q, .tmp r]) {tmps : Array Value} {w : World} {g : Nat} {A : Array Value} {t : TypeId} {v u : Value} (hp : tmps.getD p undef = .pointer (some ⟨g, 0, none⟩)) (hq : tmps.getD q undef = v) (hr : tmps.getD r undef = u) (hg : w.heap[g]? = some (.cells A t (0, 0))) (hs : A.size = 3) :
    (results fn tmps).run Try.prog w = .ok (.tuple #[.agg A, v, u]) w := by
  have hp' : tmps[p]?.getD undef = .pointer (some ⟨g, 0, none⟩) := by simpa using hp
  have hq' : tmps[q]?.getD undef = v := by simpa using hq
  have hr' : tmps[r]?.getD undef = u := by simpa using hr
  simp [results, h, hp', hq', hr', asAddr, run_loadVar_row w g t 48 A (0, 0) _ hg Try.underlying48 rfl (by rw [Try.info48s, hs])]
/-- what a function of the reference answers: the channel behind it -/
def RfTo (w : World) (cls cap : Int) (lv : Value) (L' : List ByteArray) (mk : Value → Value) (v : Value) (w' : World) : Prop :=
  ∃ lv', v = mk (.agg #[.int .i64 cls, .int .i64 cap, lv']) ∧ Lf w' lv' L' ∧ Frm [] w w' ∧ ∀ k, lv'.ownBlock = some k → lv.ownBlock = some k ∨ w.heap.size ≤ k
theorem RfTo.same {w w' : World} {cls cap : Int} {lv : Value} {L : List ByteArray} {mk : Value → Value} (h : Lf w lv L) (hf : Frm [] w w') : RfTo w cls cap lv L mk (mk (.agg #[.int .i64 cls, .int .i64 cap, lv])) w' :=
  ⟨lv, rfl, h.frm hf (by simp), hf, fun _ hk => .inl hk⟩
theorem one3 (a b : Int) (ao : Option Addr) (n c : Nat) : (#[.int .i64 a, .int .i64 b, .slice ao n c] : Array Value).all (·.oneCell') = true := by
  rw [← Array.all_toList]; rfl
theorem ref_mid {w0 w1 wa : World} {p q b n : Nat} {A Z : Array Value} {X : Obj} {v1 : Value} {xs : List Value} (hp : w0.heap[p]? = some (.cells A 48 (0, 0))) (hq : w0.heap[q]? = some (.cells Z 48 (0, 0))) (ho1 : w1.ownsRow b 9 1 v1 n xs) (hb : w0.heap.size ≤ b)
    (hg1 : (w0.alloc (.cells #[] 9)).grownBy w1 none) (hg2 : (w1.alloc X).grownBy wa v1.ownBlock) : wa.heap[p]? = some (.cells A 48 (0, 0)) ∧ wa.heap[q]? = some (.cells Z 48 (0, 0)) ∧ Frm [] w0 wa := by
  have hl := lt_of_block hp
  have hl2 := lt_of_block hq
  refine ⟨grown_at hg2 (alloc_at (grown_at hg1 (alloc_at hp) (by simp))) (fun e => ?_), grown_at hg2 (alloc_at (grown_at hg1 (alloc_at hq) (by simp))) (fun e => ?_),
    ((((Frm.refl [] w0).alloc _).grown hg1 (by simp)).alloc _).grown hg2 (fun k hk => .inr (Nat.le_trans hb (ownBlock_ge ho1 hk)))⟩
  · have := ownBlock_ge ho1 e; omega
  · have := ownBlock_ge ho1 e; omega
/-- the last steps: the list is stored, the channel is handed out -/
theorem ref_end {w w0 wa W2 : World} {p q b n : Nat} {cls cap : Int} {lv v' x : Value} {mk : Value → Value} {L' : List ByteArray} (h0 : Frm [] w w0) (hp0 : w.heap.size ≤ p) (hq0 : w.heap.size ≤ q) (hpb : p < b) (hqb : q < b) (hf : Frm [] w0 wa)
    (hown : wa.ownsRow b 9 1 v' n (L'.map Value.string)) (hn : n = L'.length) (hf2 : Frm [q] (wa.setCell ⟨p, 2, none⟩ x) W2) : RfTo w cls cap lv L' mk (mk (.agg #[.int .i64 cls, .int .i64 cap, v'])) W2 := by
  subst hn
  have hge := fun k hk => ownBlock_ge hown (k := k) hk
  have hs : Strs wa v' L' := Strs.of_own hown
  have f1 : Frm [p] wa (wa.setCell ⟨p, 2, none⟩ x) := (Frm.refl [p] wa).setCell _ (.inl (by simp)) _
  refine ⟨v', rfl, .inl ((hs.frm f1 (fun k hk hm => ?_)).frm hf2 (fun k hk hm => ?_)), ?_, fun k hk => .inr ?_⟩
  · have := hge k hk; simp at hm; omega
  · have := hge k hk; simp at hm; omega
  · exact ((h0.trans hf).then f1 (by intro y hy; simp at hy; right; omega)).then hf2 (by intro y hy; simp at hy; right; omega)
  · have := hge k hk; omega
set_option maxHeartbeats 1000000 in
set_option maxRecDepth 100000 in
theorem refNew_bad (cls cap : Int) (w : World) (h : okC cls cap = false) : Calls Try.prog 20 #[.int .i64 cls, .int .i64 cap] w (Ret (.tuple #[.agg #[.int .i64 0, .int .i64 0, .slice none 0 0], .int .i64 2]) (Frm [] w)) := by
  have h' : (cls < 1) ∨ (¬ cls < 1 ∧ 3 < cls) ∨ (¬ cls < 1 ∧ ¬ 3 < cls ∧ cap < 1) ∨ (¬ cls < 1 ∧ ¬ 3 < cls ∧ ¬ cap < 1 ∧ 64 < cap) := by
    unfold okC at h
    rw [decide_eq_false_iff_not] at h
    omega
  rcases h' with h | ⟨h1, h2⟩ | ⟨h1, h2, h3⟩ | ⟨h1, h2, h3, h4⟩
  all_goals
    go_enter Try.func20, Try.ntmps20
    go_wp2
    exact bodyPost_ret (results_c2 rfl rfl rfl (heap_alloc_new _ _) rfl) rfl ⟨rfl, (Frm.refl [] w).alloc _⟩
set_option maxHeartbeats 1000000 in
set_option maxRecDepth 100000 in
theorem refNew_ok (cls cap : Int) (w : World) (h : okC cls cap = true) : Calls Try.prog 20 #[.int .i64 cls, .int .i64 cap] w (Ret (.tuple #[.agg #[.int .i64 cls, .int .i64 cap, .slice none 0 0], .int .i64 0]) (Frm [] w)) := by
  unfold okC at h
  rw [decide_eq_true_iff] at h
  obtain ⟨h1, h2, h3, h4⟩ := h
  have k1 : ¬ cls < 1 := by omega
  have k2 : ¬ 3 < cls := by omega
  have k3 : ¬ cap < 1 := by omega
  have k4 : ¬ 64 < cap := by omega
  go_enter Try.func20, Try.ntmps20
  go_wp2
  exact bodyPost_ret (results_c2 rfl rfl rfl (heap_alloc_new _ _) rfl) rfl ⟨rfl, (Frm.refl [] w).alloc _⟩
set_option maxHeartbeats 1000000 in
set_option maxRecDepth 100000 in
theorem refPut_any (cls cap : Int) (lv : Value) (L : List ByteArray) (m : ByteArray) (w : World) (h : Lf w lv L) (hL : L.length ≤ 64) :
    Calls Try.prog 31 #[.agg #[.int .i64 cls, .int .i64 cap, lv], .string m] w (RetV (RfTo w cls cap lv (putL cap L m) fun a => .tuple #[a, .int .i64 (putE cap L m)])) := by
  obtain ⟨ao, cp, rfl, -⟩ := h.shape
  have HL := Lib.hid h
  by_cases h1 : m.size < 1
  · have he : putE cap L m = 2 := by simp [putE, h1]
    have q1 : (m.size : Int) < 1 := by omega
    rw [putL, he, if_neg (by decide)]
    clear h h1 he
    go_enter Try.func31, Try.ntmps31
    go_wp2_with (first
      | (refine wpList_load_whole rfl 48 _ rfl _ rfl _ 48 (alloc_at (alloc_top (by simp))) _ Try.underlying48 rfl Try.info48s ?_))
    exact bodyPost_ret (results_c2 rfl rfl rfl (alloc_top (by simp)) rfl) rfl ⟨_, rfl, RfTo.same HL.out (((Frm.refl [] w).alloc _).alloc _)⟩
  · by_cases h2 : 32 < m.size
    · have he : putE cap L m = 2 := by simp [putE, h2]
      have q1 : ¬ (m.size : Int) < 1 := by omega
      have q2 : (32 : Int) < (m.size : Int) := by omega
      rw [putL, he, if_neg (by decide)]
      clear h h1 h2 he
      go_enter Try.func31, Try.ntmps31
      go_wp2_with (first
        | (refine wpList_load_whole rfl 48 _ rfl _ rfl _ 48 (alloc_at (alloc_top (by simp))) _ Try.underlying48 rfl Try.info48s ?_))
      exact bodyPost_ret (results_c2 rfl rfl rfl (alloc_top (by simp)) rfl) rfl ⟨_, rfl, RfTo.same HL.out (((Frm.refl [] w).alloc _).alloc _)⟩
    · by_cases h3 : (L.length : Int) = cap
      · have he : putE cap L m = 7 := by rw [putE, if_neg (by omega), if_pos h3]
        have q1 : ¬ (m.size : Int) < 1 := by omega
        have q2 : ¬ (32 : Int) < (m.size : Int) := by omega
        have q3 : ((L.length : Int) == cap) = true := by simpa using h3
        rw [putL, he, if_neg (by decide)]
        clear h h1 h2 h3 he
        go_enter Try.func31, Try.ntmps31
        go_wp2_with (first
          | (refine wpList_load_whole rfl 48 _ rfl _ rfl _ 48 (alloc_at (alloc_top (by simp))) _ Try.underlying48 rfl Try.info48s ?_))
        exact bodyPost_ret (results_c2 rfl rfl rfl (alloc_top (by simp)) rfl) rfl ⟨_, rfl, RfTo.same HL.out (((Frm.refl [] w).alloc _).alloc _)⟩
      · have he : putE cap L m = 0 := by rw [putE, if_neg (by omega), if_neg h3]
        have q1 : ¬ (m.size : Int) < 1 := by omega
        have q2 : ¬ (32 : Int) < (m.size : Int) := by omega
        have q3 : ((L.length : Int) == cap) = false := by simpa using h3
        rw [putL, he, if_pos rfl]
        clear h h1 h2 h3 he
        obtain ⟨i0, hi0, hz0, hz1, hz2⟩ := info_parts Try.info9
        go_enter Try.func31, Try.ntmps31
        go_wp2_with (first
          | (at_builtin; refine wpList_append_src rfl _ _ rfl _ rfl (alloc_top (by simp)) _ rfl L.length _ (HL.out.frm ((((Frm.refl [] w).alloc _).alloc _).alloc _) (by simp)).src (HL.out.frm ((((Frm.refl [] w).alloc _).alloc _).alloc _) (by simp)).some_addr (by omega) ?_; intro ao1 cp1 w1 ho1 hg1; have HO1 := Lib.hid ho1; have HG1 := Lib.hid hg1; clear ho1 hg1)
          | (at_builtin; refine wpList_append_own_at _ rfl _ _ 22 rfl (w.heap.size + 1 + 1) 9 i0 (.string { data := #[] }) 1 16 Try.underlying22 hi0 hz0 hz1 hz2 rfl (by decide) _ _ _ rfl (HO1.out.alloc _) ⟨w1.heap.size, 0, none⟩ 1 1 [.string m] rfl rfl (cell_one_new _ _ _) (by simp [Value.oneCell']) (by unfold maxLen; omega) (by omega) (by have := HG1.out.size; simp at this ⊢; omega) ?_; intro v' wa hown' hgrow hnil hloc; obtain ⟨ao2, cp2, rfl⟩ := own_shape hown'; have HO2 := Lib.hid hown'; have hm := ref_mid (p := w.heap.size) (q := w.heap.size + 1) (alloc_at (alloc_top (by simp))) (alloc_top (by simp)) HO1.out (by simp) HG1.out hgrow; have HM := Lib.hid hm; have ca := cell_of hm.1; have fa := free_of hm.1 2; have ca2 := ca 2; have HB := Lib.hid (block_setCell hm.1 2 (.slice ao2 (L.length + 1) cp2)); have HZ : Hid ((wa.setCell ⟨w.heap.size, 2, none⟩ (.slice ao2 (L.length + 1) cp2)).heap[w.heap.size + 1]? = some (.cells #[.int .i64 0, .int .i64 0, .slice none 0 0] 48 (0, 0))) := Lib.hid (setCell_at hm.2.1 (by simp) _); clear ca hm hown' hgrow hnil hloc)
          | (refine wpList_load_whole rfl 48 _ rfl _ rfl _ 48 HB.out _ Try.underlying48 rfl Try.info48s ?_)
          | (refine wpList_store_row rfl 48 _ _ rfl _ _ _ 48 rfl rfl HZ.out rfl Try.info48s (one3 _ _ _ _ _) ?_; intro w2 hb2 hf2))
        exact bodyPost_ret (results_c2 rfl rfl rfl hb2 rfl) rfl ⟨_, rfl, ref_end (p := w.heap.size) (q := w.heap.size + 1) (b := w.heap.size + 1 + 1) (L' := L ++ [m]) ((((Frm.refl [] w).alloc _).alloc _)) (Nat.le_refl _) (by omega) (by omega) (by omega) HM.out.2.2 (by simpa using HO2.out) (by simp) hf2⟩
end Go.Proofs.Ythelfpenccpkeaa
