/- A channel and a list beside it. The reference: New, Put. slices.Clone at slices of structs: a fresh row in which the same lies. (printed by gen_cln.py) -/
import Derived.Test.YtkphhjekfimmlaaGreatB04
import Derived.ArgAppend
import Derived.Deep.Upon
import Derived.Test.YtkphhjekfimmlaaGreatB03
import Derived.Lib.SliceRun
namespace Go.Proofs.YtkphhjekfimmlaaGreat
open Go.RowKit Go.BigFrame

/-- the list of what is left: its own, or one whose next element goes elsewhere -/
def Lf (w : World) (lv : Value) (L : List ByteArray) : Prop :=
  Strs w lv L ∨ ∃ g cur, lv = .slice (some ⟨g, 0, none⟩) L.length L.length ∧ w.heap[g]? = some (.cells cur 9 (0, 0)) ∧ cur.toList.take L.length = L.map Value.string
theorem Lf.shape {w : World} {lv : Value} {L : List ByteArray} (h : Lf w lv L) : ∃ ao cap, lv = .slice ao L.length cap ∧ (∀ k x, L[k]? = some x → ∃ g, ao = some ⟨g, 0, none⟩ ∧ w.cell? ⟨g, k, none⟩ = some (.string x)) := by
  rcases h with h | ⟨g, cur, rfl, hb, ht⟩
  · obtain ⟨ao, cap, h1, -, h2⟩ := h.shape
    exact ⟨ao, cap, h1, h2⟩
  · refine ⟨_, _, rfl, fun k x hk => ⟨g, rfl, ?_⟩⟩
    have hl := lt_of_some hk
    rw [cell_of hb]
    have h1 : (cur.toList.take L.length)[k]? = some (.string x) := by rw [ht]; simp [hk]
    rw [List.getElem?_take_of_lt hl] at h1
    simpa using h1
theorem Lf.room {w : World} {ao : Option Addr} {L : List ByteArray} {cap : Nat} (h : Lf w (.slice ao L.length cap) L) : L.length ≤ cap := by
  rcases h with h | ⟨g, cur, hv, hb, ht⟩
  · rcases h.2 with ⟨hv, hn⟩ | ⟨g, c, cur, hv, -, -, h1, -⟩
    · omega
    · cases hv; exact h1
  · cases hv; exact Nat.le_refl _
theorem Lf.frm {F : List Nat} {w w' : World} {lv : Value} {L : List ByteArray} (h : Lf w lv L) (hf : Frm F w w') (hn : ∀ k, lv.ownBlock = some k → k ∉ F) : Lf w' lv L := by
  rcases h with h | ⟨g, cur, rfl, hb, ht⟩
  · exact .inl (h.frm hf hn)
  · exact .inr ⟨g, cur, rfl, hf.at hb (hn g rfl), ht⟩
theorem Lf.lt {w : World} {lv : Value} {L : List ByteArray} (h : Lf w lv L) {k : Nat} (hk : lv.ownBlock = some k) : k < w.heap.size := by
  rcases h with h | ⟨g, cur, rfl, hb, ht⟩
  · exact ownBlock_lt h hk
  · cases hk; exact lt_of_block hb
/-- a channel with the messages LC, and a list LL beside it -/
structure OS (w : World) (cb : Nat) (cls cap : Int) (lv : Value) (LC LL : List ByteArray) (F : List Nat) (W : World) : Prop where
  c : Chn W cb cls cap LC F
  l : Lf W lv LL
  s : ∀ k, lv.ownBlock = some k → k ∉ F ∧ w.heap.size ≤ k
  f : ∀ x ∈ F, w.heap.size ≤ x
  o : Frm [] w W
section
variable {w W W' : World} {cb : Nat} {cls cap : Int} {lv lv' : Value} {LC LL L' : List ByteArray} {F : List Nat}
theorem OS.frm (h : OS w cb cls cap lv LC LL F W) (hf : Frm [] W W') : OS w cb cls cap lv LC LL F W' := ⟨h.c.frm hf (by simp), h.l.frm hf (by simp), h.s, h.f, h.o.trans hf⟩
theorem OS.chn (h : OS w cb cls cap lv LC LL F W) (t : ChnTo W cb cls cap L' F W') : ∃ F', OS w cb cls cap lv L' LL F' W' := by
  obtain ⟨F', k1, k2, k3⟩ := t
  refine ⟨F', k1, h.l.frm k2 (fun k hk => (h.s k hk).1), fun k hk => ⟨fun hx => ?_, (h.s k hk).2⟩, fun x hx => ?_, h.o.then k2 (fun x hx => .inr (h.f x hx))⟩
  · rcases k3 k hx with h1 | h1
    · exact (h.s k hk).1 h1
    · have := h.l.lt hk; omega
  · rcases k3 x hx with h1 | h1
    · exact h.f x h1
    · have := h.o.size; omega
theorem OS.left (h : OS w cb cls cap lv LC LL F W) (hf : Frm lv.ownBlock.toList W W') (hl : Lf W' lv' L') (hb : ∀ k, lv'.ownBlock = some k → lv.ownBlock = some k ∨ W.heap.size ≤ k) : OS w cb cls cap lv' LC L' F W' := by
  refine ⟨h.c.frm hf (fun x hx hy => (h.s x (by simpa using hy)).1 hx), hl, fun k hk => ?_, h.f, h.o.then hf (fun x hx => .inr (h.s x (by simpa using hx)).2)⟩
  rcases hb k hk with h1 | h1
  · exact h.s k h1
  · exact ⟨fun hx => by have := h.c.lt k hx; omega, by have := h.o.size; omega⟩
end
end Go.Proofs.YtkphhjekfimmlaaGreat
namespace Go.Proofs.YtkphhjekfimmlaaGreat
open Go.RowKit Go.BigFrame

theorem Lf.cells {W : World} {ao : Option Addr} {cap : Nat} {L : List ByteArray} (h : Lf W (.slice ao L.length cap) L) : ∀ b, ao = some b → ∀ j u, (L.map Value.string)[j]? = some u → W.cell? (b.add j) = some u := by
  intro b hb j u hu
  obtain ⟨ao', cap', hv, hcs⟩ := h.shape
  cases hv
  rw [List.getElem?_map, Option.map_eq_some_iff] at hu
  obtain ⟨y, hy, rfl⟩ := hu
  obtain ⟨g', hg', e⟩ := hcs j y hy
  rw [hb] at hg'
  cases hg'
  have e1 : (⟨g', 0, none⟩ : Addr).add j = ⟨g', j, none⟩ := by simp [Addr.add]; exact fun h => h.symm
  rw [e1]; exact e
/-- what is appended to a slice literal without elements: a row of its own -/
theorem app_any {ty : TypeId} (b : Nat) (W : World) (hb : W.heap[b]? = some (.cells #[] 9 (0, 0))) (sv : Value) (n : Nat) (news : List Value) (hs : Src Tryz.prog 1 86 sv n news W) (hk : 0 < n → ∃ ad c, sv = .slice (some ad) n c ∧ ∀ j u, news[j]? = some u → W.cell? (ad.add j) = some u) (hn : n ≤ 1000000) :
    ∃ ao cp W', (Builtin.append_ #[86, 86] ty #[.slice (some ⟨b, 0, none⟩) 0 0, sv]).run Tryz.prog W = .ok (.slice ao n cp) W' ∧ W'.ownsRow b 9 1 (.slice ao n cp) n news ∧ W.grownBy W' none := by
  obtain ⟨i0, hi0, hz0, hz1, hz2⟩ := info_parts Tryz.info9
  have hl := hs.newsLen
  cases n with
  | zero =>
    obtain rfl : news = [] := List.length_eq_zero_iff.1 (by simpa using hl)
    refine ⟨_, _, _, run_append_nothing W 86 86 _ 9 i0 Tryz.underlying86 hi0 (some ⟨b, 0, none⟩) 0 0 (Nat.le_refl _) _ (by rw [hz1]; exact hs), ⟨rfl, .inr ⟨b, 0, #[], rfl, Nat.le_refl _, hb, Nat.le_refl _, Nat.zero_le _, rfl, rfl⟩⟩, (Frm.refl [] W).grownNone⟩
  | succ n =>
    obtain ⟨ad, c, rfl, hc⟩ := hk (Nat.succ_pos n)
    obtain ⟨v', w', hrun, r1, r2⟩ := run_append_arg_grows (P := Tryz.prog) W 86 ty 9 i0 (.string { data := #[] }) 1 16 Tryz.underlying86 hi0 hz0 hz1 hz2 rfl (by decide) ⟨b, 0, none⟩ 0 0 [] (by simp) (fun j u hu => by simp at hu) ad (n + 1) c news hl hc (by omega) (by unfold maxLen; omega) (by omega)
    rw [Nat.zero_add, List.nil_append] at r1
    obtain ⟨ao, cp, rfl⟩ := own_shape r1
    exact ⟨ao, cp, w', hrun, own_low r1 (Nat.le_of_lt (lt_of_block hb)), r2⟩
/-- THE SAME AT A STEP OF THE WALK -/
theorem wpList_append_src {ops : Array Oper} {rest : List Oper} {o : Oper} {a : Act} {Q : Exit → Act → World → Prop} {w : World} (hgd : o.guard = none) (s x : Operand) (ho : o.op = .call { callee := .builtin .append, args := #[s, x], argTypes := #[86, 86] })
    (b : Nat) (hs : a.eval s = .slice (some ⟨b, 0, none⟩) 0 0) (hb : w.heap[b]? = some (.cells #[] 9 (0, 0))) (sv : Value) (hx : a.eval x = sv) (n : Nat) (news : List Value) (hsrc : Src Tryz.prog 1 86 sv n news w)
    (hk : 0 < n → ∃ ad c, sv = .slice (some ad) n c ∧ ∀ j u, news[j]? = some u → w.cell? (ad.add j) = some u) (hn : n ≤ 1000000)
    (h : ∀ ao cp w', w'.ownsRow b 9 1 (.slice ao n cp) n news → w.grownBy w' none → wpList Tryz.prog ops Q rest (a.put o.dst (.slice ao n cp)) w') : wpList Tryz.prog ops Q (o :: rest) a w := by
  refine wpList_plain hgd fun K hK => ?_
  obtain ⟨ao, cp, w', hrun, r1, r2⟩ := app_any b w hb sv n news hsrc hk hn
  have hrun' : (Builtin.append_ #[86, 86] o.type #[.slice (some ⟨b, 0, none⟩) 0 0, sv]).run Tryz.prog w = .ok (.slice ao n cp) w' := hrun
  unfold Oper.wp
  simp [execOp, ho, resolve, invoke, builtin, hs, hx, hrun', Result.andThen]
  exact hK _ _ (h ao cp w' r1 r2)
theorem Lf.src {W : World} {ao : Option Addr} {cap : Nat} {L : List ByteArray} (h : Lf W (.slice ao L.length cap) L) : Src Tryz.prog 1 86 (.slice ao L.length cap) L.length (L.map Value.string) W := by
  cases ao with
  | none =>
    obtain ⟨ao', cap', hv, hcs⟩ := h.shape
    cases hv
    have e : L = [] := by
      cases L with
      | nil => rfl
      | cons x l => obtain ⟨g, hg, -⟩ := hcs 0 x rfl; cases hg
    subst e
    exact Src.ofNil W Tryz.underlying86 cap
  | some ad => exact Src.ofSlice W Tryz.underlying86 ad L.length cap _ (by simp) (h.cells ad rfl) (by intro u hu; obtain ⟨x, -, rfl⟩ := List.mem_map.1 hu; rfl)
theorem Lf.some_addr {W : World} {ao : Option Addr} {cap : Nat} {L : List ByteArray} (h : Lf W (.slice ao L.length cap) L) (hpos : 0 < L.length) : ∃ ad c, Value.slice ao L.length cap = .slice (some ad) L.length c ∧ ∀ j u, (L.map Value.string)[j]? = some u → W.cell? (ad.add j) = some u := by
  obtain ⟨ao', cap', hv, hcs⟩ := h.shape
  cases hv
  cases L with
  | nil => simp at hpos
  | cons x l =>
    obtain ⟨g, rfl, -⟩ := hcs 0 x rfl
    exact ⟨_, _, rfl, h.cells _ rfl⟩
theorem Tryz.info168s : (Tryz.prog.info? 168).map (·.size) = some 3 := by kernel_rfl
theorem results_c2 {fn : Func} {p q : Tmp} (h : fn.results = #[.cell p 168, .tmp q]) {tmps : Array Value} {w : World} {g : Nat} {A : Array Value} {t : TypeId} {v : Value} (hp : tmps.getD p undef = .pointer (some ⟨g, 0, none⟩)) (hq : tmps.getD q undef = v) (hg : w.heap[g]? = some (.cells A t (0, 0))) (hs : A.size = 3) :
    (results fn tmps).run Tryz.prog w = .ok (.tuple #[.agg A, v]) w := by
  have hp' : tmps[p]?.getD undef = .pointer (some ⟨g, 0, none⟩) := by simpa using hp
  have hq' : tmps[q]?.getD undef = v := by simpa using hq
  simp [results, h, hp', hq', asAddr, run_loadVar_row w g t 168 A (0, 0) _ hg Tryz.underlying168 rfl (by rw [Tryz.info168s, hs])]
theorem results_c3 {fn : Func} {p q r : Tmp} (h : fn.results = #[.cell p 168, .tmp q, .tmp r]) {tmps : Array Value} {w : World} {g : Nat} {A : Array Value} {t : TypeId} {v u : Value} (hp : tmps.getD p undef = .pointer (some ⟨g, 0, none⟩)) (hq : tmps.getD q undef = v) (hr : tmps.getD r undef = u) (hg : w.heap[g]? = some (.cells A t (0, 0))) (hs : A.size = 3) :
    (results fn tmps).run Tryz.prog w = .ok (.tuple #[.agg A, v, u]) w := by
  have hp' : tmps[p]?.getD undef = .pointer (some ⟨g, 0, none⟩) := by simpa using hp
  have hq' : tmps[q]?.getD undef = v := by simpa using hq
  have hr' : tmps[r]?.getD undef = u := by simpa using hr
  simp [results, h, hp', hq', hr', asAddr, run_loadVar_row w g t 168 A (0, 0) _ hg Tryz.underlying168 rfl (by rw [Tryz.info168s, hs])]
/-- what a function of the reference answers: the channel behind it -/
def RfTo (w : World) (cls cap : Int) (lv : Value) (L' : List ByteArray) (mk : Value → Value) (v : Value) (w' : World) : Prop :=
  ∃ lv', v = mk (.agg #[.int .i64 cls, .int .i64 cap, lv']) ∧ Lf w' lv' L' ∧ Frm [] w w' ∧ ∀ k, lv'.ownBlock = some k → lv.ownBlock = some k ∨ w.heap.size ≤ k
theorem RfTo.same {w w' : World} {cls cap : Int} {lv : Value} {L : List ByteArray} {mk : Value → Value} (h : Lf w lv L) (hf : Frm [] w w') : RfTo w cls cap lv L mk (mk (.agg #[.int .i64 cls, .int .i64 cap, lv])) w' :=
  ⟨lv, rfl, h.frm hf (by simp), hf, fun _ hk => .inl hk⟩
theorem one3 (a b : Int) (ao : Option Addr) (n c : Nat) : (#[.int .i64 a, .int .i64 b, .slice ao n c] : Array Value).all (·.oneCell') = true := by
  rw [← Array.all_toList]; rfl
theorem ref_mid {w0 w1 wa : World} {p q b n : Nat} {A Z : Array Value} {X : Obj} {v1 : Value} {xs : List Value} (hp : w0.heap[p]? = some (.cells A 168 (0, 0))) (hq : w0.heap[q]? = some (.cells Z 168 (0, 0))) (ho1 : w1.ownsRow b 9 1 v1 n xs) (hb : w0.heap.size ≤ b)
    (hg1 : (w0.alloc (.cells #[] 9)).grownBy w1 none) (hg2 : (w1.alloc X).grownBy wa v1.ownBlock) : wa.heap[p]? = some (.cells A 168 (0, 0)) ∧ wa.heap[q]? = some (.cells Z 168 (0, 0)) ∧ Frm [] w0 wa := by
  have hl := lt_of_block hp
  have hl2 := lt_of_block hq
  refine ⟨grown_at hg2 (alloc_at (grown_at hg1 (alloc_at hp) (by simp))) (fun e => ?_), grown_at hg2 (alloc_at (grown_at hg1 (alloc_at hq) (by simp))) (fun e => ?_),
    ((((Frm.refl [] w0).alloc _).grown hg1 (by simp)).alloc _).grown hg2 (fun k hk => .inr (Nat.le_trans hb (ownBlock_ge ho1 hk)))⟩
  · have := ownBlock_ge ho1 e; omega
  · have := ownBlock_ge ho1 e; omega
/-- the last steps: the list is stored, the channel is handed out -/
theorem ref_end {w w0 wa W2 : World} {p q b n : Nat} {cls cap : Int} {lv v' x : Value} {mk : Value → Value} {L' : List ByteArray} (h0 : Frm [] w w0) (hp0 : w.heap.size ≤ p) (hq0 : w.heap.size ≤ q) (hpb : p < b) (hqb : q < b) (hf : Frm [] w0 wa)
    (hown : wa.ownsRow b 9 1 v' n (L'.map Value.string)) (hn : n = L'.length) (hf2 : Frm [q] (wa.setCell ⟨p, 2, none⟩ x) W2) : RfTo w cls cap lv L' mk (mk (.agg #[.int .i64 cls, .int .i64 cap, v'])) W2 := by
  subst hn
  have hge := fun k hk => ownBlock_ge hown (k := k) hk
  have hs : Strs wa v' L' := Strs.of_own hown
  have f1 : Frm [p] wa (wa.setCell ⟨p, 2, none⟩ x) := (Frm.refl [p] wa).setCell _ (.inl (by simp)) _
  refine ⟨v', rfl, .inl ((hs.frm f1 (fun k hk hm => ?_)).frm hf2 (fun k hk hm => ?_)), ?_, fun k hk => .inr ?_⟩
  · have := hge k hk; simp at hm; omega
  · have := hge k hk; simp at hm; omega
  · exact ((h0.trans hf).then f1 (by intro y hy; simp at hy; right; omega)).then hf2 (by intro y hy; simp at hy; right; omega)
  · have := hge k hk; omega
set_option maxHeartbeats 1000000 in
set_option maxRecDepth 100000 in
theorem refNew_bad (cls cap : Int) (w : World) (h : okC cls cap = false) : Calls Tryz.prog 101 #[.int .i64 cls, .int .i64 cap] w (Ret (.tuple #[.agg #[.int .i64 0, .int .i64 0, .slice none 0 0], .int .i64 2]) (Frm [] w)) := by
  have h' : (cls < 1) ∨ (¬ cls < 1 ∧ 3 < cls) ∨ (¬ cls < 1 ∧ ¬ 3 < cls ∧ cap < 1) ∨ (¬ cls < 1 ∧ ¬ 3 < cls ∧ ¬ cap < 1 ∧ 64 < cap) := by
    unfold okC at h
    rw [decide_eq_false_iff_not] at h
    omega
  rcases h' with h | ⟨h1, h2⟩ | ⟨h1, h2, h3⟩ | ⟨h1, h2, h3, h4⟩
  all_goals
    go_enter Tryz.func101, Tryz.ntmps101
    go_wp2
    exact bodyPost_ret (results_c2 rfl rfl rfl (heap_alloc_new _ _) rfl) rfl ⟨rfl, (Frm.refl [] w).alloc _⟩
set_option maxHeartbeats 1000000 in
set_option maxRecDepth 100000 in
theorem refNew_ok (cls cap : Int) (w : World) (h : okC cls cap = true) : Calls Tryz.prog 101 #[.int .i64 cls, .int .i64 cap] w (Ret (.tuple #[.agg #[.int .i64 cls, .int .i64 cap, .slice none 0 0], .int .i64 0]) (Frm [] w)) := by
  unfold okC at h
  rw [decide_eq_true_iff] at h
  obtain ⟨h1, h2, h3, h4⟩ := h
  have k1 : ¬ cls < 1 := by omega
  have k2 : ¬ 3 < cls := by omega
  have k3 : ¬ cap < 1 := by omega
  have k4 : ¬ 64 < cap := by omega
  go_enter Tryz.func101, Tryz.ntmps101
  go_wp2
  exact bodyPost_ret (results_c2 rfl rfl rfl (heap_alloc_new _ _) rfl) rfl ⟨rfl, (Frm.refl [] w).alloc _⟩
set_option maxHeartbeats 1000000 in
set_option maxRecDepth 100000 in
theorem refPut_any (cls cap : Int) (lv : Value) (L : List ByteArray) (m : ByteArray) (w : World) (h : Lf w lv L) (hL : L.length ≤ 64) :
    Calls Tryz.prog 87 #[.agg #[.int .i64 cls, .int .i64 cap, lv], .string m] w (RetV (RfTo w cls cap lv (putL cap L m) fun a => .tuple #[a, .int .i64 (putE cap L m)])) := by
  obtain ⟨ao, cp, rfl, -⟩ := h.shape
  have HL := Lib.hid h
  by_cases h1 : m.size < 1
  · have he : putE cap L m = 2 := by simp [putE, h1]
    have q1 : (m.size : Int) < 1 := by omega
    rw [putL, he, if_neg (by decide)]
    clear h h1 he
    go_enter Tryz.func87, Tryz.ntmps87
    go_wp2_with (first
      | (refine wpList_load_whole rfl 168 _ rfl _ rfl _ 168 (alloc_at (alloc_top (by simp))) _ Tryz.underlying168 rfl Tryz.info168s ?_))
    exact bodyPost_ret (results_c2 rfl rfl rfl (alloc_top (by simp)) rfl) rfl ⟨_, rfl, RfTo.same HL.out (((Frm.refl [] w).alloc _).alloc _)⟩
  · by_cases h2 : 32 < m.size
    · have he : putE cap L m = 2 := by simp [putE, h2]
      have q1 : ¬ (m.size : Int) < 1 := by omega
      have q2 : (32 : Int) < (m.size : Int) := by omega
      rw [putL, he, if_neg (by decide)]
      clear h h1 h2 he
      go_enter Tryz.func87, Tryz.ntmps87
      go_wp2_with (first
        | (refine wpList_load_whole rfl 168 _ rfl _ rfl _ 168 (alloc_at (alloc_top (by simp))) _ Tryz.underlying168 rfl Tryz.info168s ?_))
      exact bodyPost_ret (results_c2 rfl rfl rfl (alloc_top (by simp)) rfl) rfl ⟨_, rfl, RfTo.same HL.out (((Frm.refl [] w).alloc _).alloc _)⟩
    · by_cases h3 : (L.length : Int) = cap
      · have he : putE cap L m = 7 := by rw [putE, if_neg (by omega), if_pos h3]
        have q1 : ¬ (m.size : Int) < 1 := by omega
        have q2 : ¬ (32 : Int) < (m.size : Int) := by omega
        have q3 : ((L.length : Int) == cap) = true := by simpa using h3
        rw [putL, he, if_neg (by decide)]
        clear h h1 h2 h3 he
        go_enter Tryz.func87, Tryz.ntmps87
        go_wp2_with (first
          | (refine wpList_load_whole rfl 168 _ rfl _ rfl _ 168 (alloc_at (alloc_top (by simp))) _ Tryz.underlying168 rfl Tryz.info168s ?_))
        exact bodyPost_ret (results_c2 rfl rfl rfl (alloc_top (by simp)) rfl) rfl ⟨_, rfl, RfTo.same HL.out (((Frm.refl [] w).alloc _).alloc _)⟩
      · have he : putE cap L m = 0 := by rw [putE, if_neg (by omega), if_neg h3]
        have q1 : ¬ (m.size : Int) < 1 := by omega
        have q2 : ¬ (32 : Int) < (m.size : Int) := by omega
        have q3 : ((L.length : Int) == cap) = false := by simpa using h3
        rw [putL, he, if_pos rfl]
        clear h h1 h2 h3 he
        obtain ⟨i0, hi0, hz0, hz1, hz2⟩ := info_parts Tryz.info9
        go_enter Tryz.func87, Tryz.ntmps87
        go_wp2_with (first
          | (at_builtin; refine wpList_append_src rfl _ _ rfl _ rfl (alloc_top (by simp)) _ rfl L.length _ (HL.out.frm ((((Frm.refl [] w).alloc _).alloc _).alloc _) (by simp)).src (HL.out.frm ((((Frm.refl [] w).alloc _).alloc _).alloc _) (by simp)).some_addr (by omega) ?_; intro ao1 cp1 w1 ho1 hg1; have HO1 := Lib.hid ho1; have HG1 := Lib.hid hg1; clear ho1 hg1)
          | (at_builtin; refine wpList_append_own_at _ rfl _ _ 86 rfl (w.heap.size + 1 + 1) 9 i0 (.string { data := #[] }) 1 16 Tryz.underlying86 hi0 hz0 hz1 hz2 rfl (by decide) _ _ _ rfl (HO1.out.alloc _) ⟨w1.heap.size, 0, none⟩ 1 1 [.string m] rfl rfl (cell_one_new _ _ _) (by simp [Value.oneCell']) (by unfold maxLen; omega) (by omega) (by have := HG1.out.size; simp at this ⊢; omega) ?_; intro v' wa hown' hgrow hnil hloc; obtain ⟨ao2, cp2, rfl⟩ := own_shape hown'; have HO2 := Lib.hid hown'; have hm := ref_mid (p := w.heap.size) (q := w.heap.size + 1) (alloc_at (alloc_top (by simp))) (alloc_top (by simp)) HO1.out (by simp) HG1.out hgrow; have HM := Lib.hid hm; have ca := cell_of hm.1; have fa := free_of hm.1 2; have ca2 := ca 2; have HB := Lib.hid (block_setCell hm.1 2 (.slice ao2 (L.length + 1) cp2)); have HZ : Hid ((wa.setCell ⟨w.heap.size, 2, none⟩ (.slice ao2 (L.length + 1) cp2)).heap[w.heap.size + 1]? = some (.cells #[.int .i64 0, .int .i64 0, .slice none 0 0] 168 (0, 0))) := Lib.hid (setCell_at hm.2.1 (by simp) _); clear ca hm hown' hgrow hnil hloc)
          | (refine wpList_load_whole rfl 168 _ rfl _ rfl _ 168 HB.out _ Tryz.underlying168 rfl Tryz.info168s ?_)
          | (refine wpList_store_row rfl 168 _ _ rfl _ _ _ 168 rfl rfl HZ.out rfl Tryz.info168s (one3 _ _ _ _ _) ?_; intro w2 hb2 hf2))
        exact bodyPost_ret (results_c2 rfl rfl rfl hb2 rfl) rfl ⟨_, rfl, ref_end (p := w.heap.size) (q := w.heap.size + 1) (b := w.heap.size + 1 + 1) (L' := L ++ [m]) ((((Frm.refl [] w).alloc _).alloc _)) (Nat.le_refl _) (by omega) (by omega) (by omega) HM.out.2.2 (by simpa using HO2.out) (by simp) hf2⟩
end Go.Proofs.YtkphhjekfimmlaaGreat
namespace Go.Proofs.YtkphhjekfimmlaaGreat
open Go.RowKit Go.BigFrame

/-- what lies in k cells may lie elsewhere -/
def Movable {α : Type} (k : Nat) (At : World → Nat → Nat → α → Prop) : Prop :=
  ∀ w b o x, At w b o x → ∃ vs : List Value, vs.length = k ∧ (∀ u ∈ vs, u.oneCell' = true) ∧ (∀ (j : Nat) u, vs[j]? = some u → w.cell? ⟨b, o + j, none⟩ = some u) ∧
    ∀ w' b' o', Frm [] w w' → (∀ (j : Nat) u, vs[j]? = some u → w'.cell? ⟨b', o' + j, none⟩ = some u) → At w' b' o' x
/-- a fresh row -/
structure Fr {α : Type} (k : Nat) (e : TypeId) (At : World → Nat → Nat → α → Prop) (w : World) (xs : List α) (v : Value) (w' : World) : Prop where
  arr : Arr k At w' v xs
  frm : Frm [] w w'
  own : xs = [] ∨ ∃ news, w'.ownsRow w.heap.size e k v xs.length news
theorem mov_row {α : Type} {k : Nat} {At : World → Nat → Nat → α → Prop} (hM : Movable k At) {w : World} {b o : Nat} : ∀ (xs : List α) (d : Nat), (∀ (i : Nat) x, xs[i]? = some x → At w b (o + (d + i) * k) x) →
    ∃ news : List Value, news.length = xs.length * k ∧ (∀ u ∈ news, u.oneCell' = true) ∧ (∀ (j : Nat) u, news[j]? = some u → w.cell? ⟨b, o + d * k + j, none⟩ = some u) ∧
      ∀ w' b' o', Frm [] w w' → (∀ (j : Nat) u, news[j]? = some u → w'.cell? ⟨b', o' + j, none⟩ = some u) → ∀ (i : Nat) x, xs[i]? = some x → At w' b' (o' + i * k) x
  | [], d, _ => ⟨[], by simp, by simp, by simp, fun _ _ _ _ _ i x h => by simp at h⟩
  | x :: xs, d, h => by
    obtain ⟨vs, h1, h2, h3, h4⟩ := hM w b _ x (h 0 x rfl)
    obtain ⟨ns, g1, g2, g3, g4⟩ := mov_row hM xs (d + 1) (fun i y hy => by
      rw [show d + 1 + i = d + (i + 1) by omega]; exact h (i + 1) y (by simpa using hy))
    refine ⟨vs ++ ns, by rw [List.length_append, h1, g1, List.length_cons, Nat.add_mul]; omega, fun u hu => ?_, fun j u hu => ?_, fun w' b' o' hf hc i y hy => ?_⟩
    · rcases List.mem_append.1 hu with hu | hu
      · exact h2 u hu
      · exact g2 u hu
    · by_cases hj : j < k
      · rw [List.getElem?_append_left (by omega)] at hu
        have := h3 j u hu
        rw [Nat.add_zero] at this
        exact this
      · rw [List.getElem?_append_right (by omega), h1] at hu
        have := g3 (j - k) u hu
        rw [Nat.add_mul] at this
        rw [show o + d * k + j = o + (d * k + 1 * k) + (j - k) by omega]
        exact this
    · cases i with
      | zero =>
        simp only [List.getElem?_cons_zero, Option.some.injEq] at hy
        subst hy
        rw [Nat.zero_mul, Nat.add_zero]
        exact h4 w' b' o' hf fun j u hu => hc j u (by rw [List.getElem?_append_left (lt_of_some hu)]; exact hu)
      | succ i =>
        rw [show o' + (i + 1) * k = (o' + k) + i * k by rw [Nat.add_mul]; omega]
        refine g4 w' b' (o' + k) hf (fun j u hu => ?_) i y (by simpa using hy)
        rw [show o' + k + j = o' + (k + j) by omega]
        exact hc (k + j) u (by rw [List.getElem?_append_right (by omega), h1, show k + j - k = j by omega]; exact hu)
theorem Arr.shape {α : Type} {k : Nat} {At : World → Nat → Nat → α → Prop} {w : World} {v : Value} {xs : List α} (h : Arr k At w v xs) : ∃ ao cap, v = .slice ao xs.length cap := by
  obtain ⟨ao, cap, e, -⟩ := h; exact ⟨ao, cap, e⟩
theorem clone_run {α : Type} {k : Nat} {At : World → Nat → Nat → α → Prop} {t e ty : TypeId} {z : Value} {bytes : Nat} (ht : Tryz.prog.underlying t = some (.slice e)) (hi : (Tryz.prog.info? e).map (fun i => (i.zero, i.size, i.bytes)) = some (some z, k, bytes))
    (hzs : z.cells.size = k) (hk : 0 < k) (hb : bytes ≤ 1000) (hM : Movable k At) {ao : Option Addr} {cap d : Nat} {xs : List α} {w : World} (h : Arr k At w (.slice ao xs.length cap) xs) (hl : xs.length ≤ 100000) :
    ∃ ao' cap' w', (Builtin.append_ #[t, t] ty #[.slice (some ⟨d, 0, none⟩) 0 0, .slice ao xs.length cap]).run Tryz.prog w = .ok (.slice ao' xs.length cap') w' ∧ Fr k e At w xs (.slice ao' xs.length cap') w' := by
  obtain ⟨i0, hi0, hz0, hz1, hz2⟩ := info_parts hi
  obtain ⟨ao', cap', e', hx⟩ := h
  cases e'
  cases xs with
  | nil =>
    refine ⟨some ⟨d, 0, none⟩, 0, w, ?_, Arr.nil _ _ _, Frm.refl _ _, .inl rfl⟩
    cases ao with
    | none => exact run_append_nothing w t t ty e i0 ht hi0 (some ⟨d, 0, none⟩) 0 0 (Nat.le_refl _) _ (Src.ofNil w ht cap)
    | some ad => exact run_append_nothing w t t ty e i0 ht hi0 (some ⟨d, 0, none⟩) 0 0 (Nat.le_refl _) _ (Src.ofSlice w ht ad 0 cap [] (by simp) (fun j u hu => by simp at hu) (by simp))
  | cons x xs =>
    obtain ⟨b, o, rfl, -⟩ := hx 0 x rfl
    obtain ⟨news, n1, n2, n3, n4⟩ := mov_row hM (w := w) (b := b) (o := o) (x :: xs) 0 (fun i y hy => by
      obtain ⟨b', o', e', ha⟩ := hx i y hy
      cases e'
      rw [Nat.zero_add]; exact ha)
    have n3' : ∀ (j : Nat) u, news[j]? = some u → w.cell? ((⟨b, o, none⟩ : Addr).add j) = some u := fun j u hu => by
      have := n3 j u hu
      rw [Nat.zero_mul, Nat.add_zero] at this
      have e : (⟨b, o, none⟩ : Addr).add j = ⟨b, o + j, none⟩ := by simp [Addr.add]
      rw [e]; exact this
    have hbytes : (x :: xs).length * bytes ≤ 100000 * 1000 := Nat.mul_le_mul hl hb
    obtain ⟨v', w', hrun, r1, r2⟩ := run_append_arg_grows (P := Tryz.prog) w t ty e i0 z k bytes ht hi0 hz0 hz1 hz2 hzs hk ⟨d, 0, none⟩ 0 0 [] (by simp) (fun j u hu => by simp at hu) ⟨b, o, none⟩ (x :: xs).length cap news n1 n3'
      (by simp) (by unfold maxLen; omega) (by rw [Nat.zero_add]; omega)
    rw [Nat.zero_add, List.nil_append] at r1
    have hf : Frm [] w w' := (Frm.refl [] w).grown r2 (by simp)
    have r0 := r1
    obtain ⟨q1, q2⟩ := r1
    rcases q2 with ⟨-, q2⟩ | ⟨g, cap', cur, rfl, -, hb', -, -, -, q3⟩
    · simp at q2
    · refine ⟨some ⟨g, 0, none⟩, cap', w', hrun, ⟨_, cap', rfl, fun i y hy => ⟨g, 0, rfl, ?_⟩⟩, hf, .inr ⟨news, r0⟩⟩
      refine n4 w' g 0 hf (fun j u hu => ?_) i y hy
      rw [Nat.zero_add, cell_of hb', ← Array.getElem?_toList]
      have hj : j < (x :: xs).length * k := by rw [← n1]; exact lt_of_some hu
      rw [← q3, List.getElem?_take_of_lt hj] at hu
      exact hu
/-- THE SAME AT A STEP OF THE WALK -/
theorem wpList_clone {α : Type} {k : Nat} {At : World → Nat → Nat → α → Prop} {t e : TypeId} {z : Value} {bytes : Nat} {ops : Array Oper} {rest : List Oper} {o : Oper} {a : Act} {Q : Exit → Act → World → Prop} {w : World} (hgd : o.guard = none) (s x : Operand)
    (ho : o.op = .call { callee := .builtin .append, args := #[s, x], argTypes := #[t, t] }) {d : Nat} (hs : a.eval s = .slice (some ⟨d, 0, none⟩) 0 0) {ao : Option Addr} {n cap : Nat} (hx : a.eval x = .slice ao n cap)
    (ht : Tryz.prog.underlying t = some (.slice e)) (hi : (Tryz.prog.info? e).map (fun i => (i.zero, i.size, i.bytes)) = some (some z, k, bytes)) (hzs : z.cells.size = k) (hk : 0 < k) (hb : bytes ≤ 1000) (hM : Movable k At) {xs : List α} (hn : xs.length = n)
    (h : Arr k At w (.slice ao n cap) xs) (hl : n ≤ 100000) (hK : ∀ ao' cap' w', Fr k e At w xs (.slice ao' n cap') w' → wpList Tryz.prog ops Q rest (a.put o.dst (.slice ao' n cap')) w') : wpList Tryz.prog ops Q (o :: rest) a w := by
  subst hn
  refine wpList_plain hgd fun K hKK => ?_
  obtain ⟨ao', cap', w', hrun, r1⟩ := clone_run (ty := o.type) (d := d) ht hi hzs hk hb hM h hl
  unfold Oper.wp
  simp [execOp, ho, resolve, invoke, builtin, hs, hx, hrun, Result.andThen]
  exact hKK _ _ (hK ao' cap' w' r1)
theorem Fr.old {α : Type} {k : Nat} {e : TypeId} {At : World → Nat → Nat → α → Prop} {w w1 w' : World} {xs : List α} {v : Value} (h : Fr k e At w1 xs v w') (hf : Frm [] w w1) : Fr k e At w xs v w' :=
  ⟨h.arr, hf.trans h.frm, h.own.imp id fun ⟨news, ho⟩ => ⟨news, own_low ho hf.size⟩⟩
theorem StAt.mov : Movable 3 StAt := fun w b o x h => by
  obtain ⟨h0, h1, h2⟩ := h
  refine ⟨[.string x.name, .bool x.fin, .int .i64 x.wait], rfl, by simp [Value.oneCell'], fun j u hu => ?_, fun w' b' o' _ hc => ⟨hc 0 _ rfl, hc 1 _ rfl, hc 2 _ rfl⟩⟩
  match j, hu with
  | 0, hu => cases hu; exact h0
  | 1, hu => cases hu; exact h1
  | 2, hu => cases hu; exact h2
  | j + 3, hu => simp at hu
theorem CtAt.mov : Movable 2 CtAt := fun w b o x h => by
  obtain ⟨h0, h1⟩ := h
  refine ⟨[.string x.name, .int .i64 x.lim], rfl, by simp [Value.oneCell'], fun j u hu => ?_, fun w' b' o' _ hc => ⟨hc 0 _ rfl, hc 1 _ rfl⟩⟩
  match j, hu with
  | 0, hu => cases hu; exact h0
  | 1, hu => cases hu; exact h1
  | j + 2, hu => simp at hu
theorem SpAt.mov : Movable 9 SpAt := fun w b o t h => by
  obtain ⟨h0, h1, h2, h3, h4, h5, h6, h7, h8⟩ := h
  refine ⟨[.string t.frm, .string t.to, .int .i64 t.kind, .string t.msg, .string t.peer, .string t.ctr, .int .i64 t.low, .int .i64 t.high, .int .i64 t.add], rfl, by simp [Value.oneCell'], fun j u hu => ?_,
    fun w' b' o' _ hc => ⟨hc 0 _ rfl, hc 1 _ rfl, hc 2 _ rfl, hc 3 _ rfl, hc 4 _ rfl, hc 5 _ rfl, hc 6 _ rfl, hc 7 _ rfl, hc 8 _ rfl⟩⟩
  match j, hu with
  | 0, hu => cases hu; exact h0
  | 1, hu => cases hu; exact h1
  | 2, hu => cases hu; exact h2
  | 3, hu => cases hu; exact h3
  | 4, hu => cases hu; exact h4
  | 5, hu => cases hu; exact h5
  | 6, hu => cases hu; exact h6
  | 7, hu => cases hu; exact h7
  | 8, hu => cases hu; exact h8
  | j + 9, hu => simp at hu
theorem CnAt.mov : Movable 3 CnAt := fun w b o x h => by
  obtain ⟨h0, h1, h2⟩ := h
  refine ⟨[.string x.1.name, .int .i64 x.1.lim, .int .i64 x.2], rfl, by simp [Value.oneCell'], fun j u hu => ?_, fun w' b' o' _ hc => ⟨hc 0 _ rfl, hc 1 _ rfl, hc 2 _ rfl⟩⟩
  match j, hu with
  | 0, hu => cases hu; exact h0
  | 1, hu => cases hu; exact h1
  | 2, hu => cases hu; exact h2
  | j + 3, hu => simp at hu
theorem RlAt.mov : Movable 4 RlAt := fun w b o x h => by
  obtain ⟨sv, cv, tv, h0, h1, h2, h3, h4⟩ := h
  refine ⟨[.string x.name, sv, cv, tv], rfl, ?_, fun j u hu => ?_, fun w' b' o' hf hc => ⟨sv, cv, tv, hc 0 _ rfl, hc 1 _ rfl, hc 2 _ rfl, hc 3 _ rfl, h4.frm hf⟩⟩
  · obtain ⟨a1, c1, e1⟩ := h4.sts.shape
    obtain ⟨a2, c2, e2⟩ := h4.ctrs.shape
    obtain ⟨a3, c3, e3⟩ := h4.steps.shape
    rw [e1, e2, e3]
    simp [Value.oneCell']
  · match j, hu with
    | 0, hu => cases hu; exact h0
    | 1, hu => cases hu; exact h1
    | 2, hu => cases hu; exact h2
    | 3, hu => cases hu; exact h3
    | j + 4, hu => simp at hu
/-- a role in four cells, its slices those of the world w0 -/
def RoAt (w0 w : World) (b o : Nat) (r : RolD) : Prop :=
  ∃ sv cv tv, w.cell? ⟨b, o, none⟩ = some (.string r.name) ∧ w.cell? ⟨b, o + 1, none⟩ = some sv ∧ w.cell? ⟨b, o + 2, none⟩ = some cv ∧ w.cell? ⟨b, o + 3, none⟩ = some tv ∧ Rl3 w0 sv cv tv r
theorem RoAt.frm {w0 w w' : World} {b o : Nat} {r : RolD} (h : RoAt w0 w b o r) (hf : Frm [] w w') : RoAt w0 w' b o r := by
  obtain ⟨sv, cv, tv, h0, h1, h2, h3, h4⟩ := h
  exact ⟨sv, cv, tv, hf.keep h0, hf.keep h1, hf.keep h2, hf.keep h3, h4⟩
theorem RoAt.mov (w0 : World) : Movable 4 (RoAt w0) := fun w b o x h => by
  obtain ⟨sv, cv, tv, h0, h1, h2, h3, h4⟩ := h
  refine ⟨[.string x.name, sv, cv, tv], rfl, ?_, fun j u hu => ?_, fun w' b' o' hf hc => ⟨sv, cv, tv, hc 0 _ rfl, hc 1 _ rfl, hc 2 _ rfl, hc 3 _ rfl, h4⟩⟩
  · obtain ⟨a1, c1, e1⟩ := h4.sts.shape
    obtain ⟨a2, c2, e2⟩ := h4.ctrs.shape
    obtain ⟨a3, c3, e3⟩ := h4.steps.shape
    rw [e1, e2, e3]
    simp [Value.oneCell']
  · match j, hu with
    | 0, hu => cases hu; exact h0
    | 1, hu => cases hu; exact h1
    | 2, hu => cases hu; exact h2
    | 3, hu => cases hu; exact h3
    | j + 4, hu => simp at hu
/-- an actor whose bank is that of the world w0; a row of channels that is that of w0; a channel of w0 -/
def AoAt (w0 w : World) (b o : Nat) (x : Int × List (CtrD × Int)) : Prop := ∃ bb, w.cell? ⟨b, o, none⟩ = some (.int .i64 x.1) ∧ w.cell? ⟨b, o + 1, none⟩ = some (.pointer (some ⟨bb, 0, none⟩)) ∧ Bnk w0 bb x.2
def WoAt (cls cap : Int) (w0 w : World) (b o : Nat) (Ls : List (List ByteArray)) : Prop := ∃ v, w.cell? ⟨b, o, none⟩ = some v ∧ RowV cls cap w0 v Ls
def CoAt (cls cap : Int) (w0 w : World) (b o : Nat) (L : List ByteArray) : Prop := ∃ cb F, w.cell? ⟨b, o, none⟩ = some (.pointer (some ⟨cb, 0, none⟩)) ∧ Chn w0 cb cls cap L F
theorem AoAt.frm {w0 w w' : World} {b o : Nat} {x : Int × List (CtrD × Int)} (h : AoAt w0 w b o x) (hf : Frm [] w w') : AoAt w0 w' b o x := by
  obtain ⟨bb, h1, h2, h3⟩ := h
  exact ⟨bb, hf.keep h1, hf.keep h2, h3⟩
theorem WoAt.frm {cls cap : Int} {w0 w w' : World} {b o : Nat} {x : List (List ByteArray)} (h : WoAt cls cap w0 w b o x) (hf : Frm [] w w') : WoAt cls cap w0 w' b o x := by
  obtain ⟨v, h1, h2⟩ := h
  exact ⟨v, hf.keep h1, h2⟩
theorem CoAt.frm {cls cap : Int} {w0 w w' : World} {b o : Nat} {x : List ByteArray} (h : CoAt cls cap w0 w b o x) (hf : Frm [] w w') : CoAt cls cap w0 w' b o x := by
  obtain ⟨cb, F, h1, h2⟩ := h
  exact ⟨cb, F, hf.keep h1, h2⟩
theorem AoAt.mov (w0 : World) : Movable 2 (AoAt w0) := fun w b o x h => by
  obtain ⟨bb, h0, h1, h2⟩ := h
  refine ⟨[.int .i64 x.1, .pointer (some ⟨bb, 0, none⟩)], rfl, by simp [Value.oneCell'], fun j u hu => ?_, fun w' b' o' hf hc => ⟨bb, hc 0 _ rfl, hc 1 _ rfl, h2⟩⟩
  match j, hu with
  | 0, hu => cases hu; exact h0
  | 1, hu => cases hu; exact h1
  | j + 2, hu => simp at hu
theorem CoAt.mov (cls cap : Int) (w0 : World) : Movable 1 (CoAt cls cap w0) := fun w b o x h => by
  obtain ⟨cb, F, h0, h1⟩ := h
  refine ⟨[.pointer (some ⟨cb, 0, none⟩)], rfl, by simp [Value.oneCell'], fun j u hu => ?_, fun w' b' o' hf hc => ⟨cb, F, hc 0 _ rfl, h1⟩⟩
  match j, hu with
  | 0, hu => cases hu; exact h0
  | j + 1, hu => simp at hu
theorem WoAt.mov (cls cap : Int) (w0 : World) : Movable 1 (WoAt cls cap w0) := fun w b o x h => by
  obtain ⟨v, h0, h1⟩ := h
  refine ⟨[v], rfl, ?_, fun j u hu => ?_, fun w' b' o' hf hc => ⟨v, hc 0 _ rfl, h1⟩⟩
  · obtain ⟨a1, c1, e1⟩ := Arr.shape h1
    rw [e1]
    simp [Value.oneCell']
  · match j, hu with
    | 0, hu => cases hu; exact h0
    | j + 1, hu => simp at hu
theorem AcAt.mov : Movable 2 AcAt := fun w b o x h => by
  obtain ⟨bb, h0, h1, h2⟩ := h
  refine ⟨[.int .i64 x.1, .pointer (some ⟨bb, 0, none⟩)], rfl, by simp [Value.oneCell'], fun j u hu => ?_, fun w' b' o' hf hc => ⟨bb, hc 0 _ rfl, hc 1 _ rfl, h2.frm hf⟩⟩
  match j, hu with
  | 0, hu => cases hu; exact h0
  | 1, hu => cases hu; exact h1
  | j + 2, hu => simp at hu
theorem ChAt.mov (cls cap : Int) : Movable 1 (ChAt cls cap) := fun w b o x h => by
  obtain ⟨cb, F, h0, h1⟩ := h
  refine ⟨[.pointer (some ⟨cb, 0, none⟩)], rfl, by simp [Value.oneCell'], fun j u hu => ?_, fun w' b' o' hf hc => ⟨cb, F, hc 0 _ rfl, h1.frm hf (by simp)⟩⟩
  match j, hu with
  | 0, hu => cases hu; exact h0
  | j + 1, hu => simp at hu
theorem RwAt.mov (cls cap : Int) : Movable 1 (RwAt cls cap) := fun w b o x h => by
  obtain ⟨v, h0, h1⟩ := h
  refine ⟨[v], rfl, ?_, fun j u hu => ?_, fun w' b' o' hf hc => ⟨v, hc 0 _ rfl, h1.frm hf⟩⟩
  · obtain ⟨a1, c1, e1⟩ := Arr.shape h1
    rw [e1]
    simp [Value.oneCell']
  · match j, hu with
    | 0, hu => cases hu; exact h0
    | j + 1, hu => simp at hu
set_option maxHeartbeats 1000000 in
set_option maxRecDepth 100000 in
theorem clRole_any (v : Value) (xs : List RolD) (w : World) (h : Arr 4 RlAt w v xs) (hl : xs.length ≤ 100000) : Calls Tryz.prog 119 #[v] w (RetV (Fr 4 53 RlAt w xs)) := by
  have HA : Hid (∀ W, Frm [] w W → Arr 4 RlAt W v xs) := Lib.hid fun W hf => h.frm fun _ _ _ h => h.frm hf
  obtain ⟨ao, cq, rfl⟩ := h.shape
  obtain ⟨n, hn⟩ : ∃ n, xs.length = n := ⟨_, rfl⟩
  rw [hn] at HA hl ⊢
  have HN := Lib.hid hn
  have HL := Lib.hid hl
  cases ao with
  | none =>
    have hx : xs = [] := by
      obtain ⟨ao', cap', e', hx⟩ := h
      cases e'
      cases xs with
      | nil => rfl
      | cons x xs => obtain ⟨b, o, e, -⟩ := hx 0 x rfl; cases e
    have HX := Lib.hid hx
    obtain rfl : n = 0 := by rw [← hn, hx]; rfl
    have hq : ∀ W, (binOp .eql 22 (.slice none 0 cq) (.slice none 0 0)).run Tryz.prog W = .ok (.bool true) W := fun W => run_eql_nil_slice W _ _ _ _ _ _ _ Tryz.underlying22
    clear h hn hl hx
    go_enter Tryz.func119, Tryz.ntmps119
    go_wp2
    go_ret
    exact ⟨_, rfl, by rw [HX.out]; exact Arr.nil _ _ _, Frm.refl _ _, .inl HX.out⟩
  | some ad =>
    have hq : ∀ W, (binOp .eql 22 (.slice (some ad) n cq) (.slice none 0 0)).run Tryz.prog W = .ok (.bool false) W := fun W => Lib.run_eql_slice_nil W _ _ _ _ _ _ _ Tryz.underlying22
    clear h hn hl
    go_enter Tryz.func119, Tryz.ntmps119
    go_wp2_with (first
      | (at_builtin; refine wpList_clone (k := 4) (At := RlAt) (z := .agg #[.string { data := #[] }, .slice none 0 0, .slice none 0 0, .slice none 0 0]) (bytes := 88) rfl _ _ rfl rfl rfl Tryz.underlying22 (by kernel_rfl) rfl (by decide) (by decide) RlAt.mov HN.out (HA.out _ ((Frm.refl [] w).alloc _)) HL.out ?_; intro ao' cap' w' hr; have HR := Lib.hid hr; clear hr))
    go_ret
    exact ⟨_, rfl, HR.out.old ((Frm.refl [] w).alloc _)⟩
set_option maxHeartbeats 1000000 in
set_option maxRecDepth 100000 in
theorem clRoleAt_any (w0 : World) (v : Value) (xs : List RolD) (w : World) (h : Arr 4 (RoAt w0) w v xs) (hl : xs.length ≤ 100000) : Calls Tryz.prog 119 #[v] w (RetV (Fr 4 53 (RoAt w0) w xs)) := by
  have HA : Hid (∀ W, Frm [] w W → Arr 4 (RoAt w0) W v xs) := Lib.hid fun W hf => h.frm fun _ _ _ h => h.frm hf
  obtain ⟨ao, cq, rfl⟩ := h.shape
  obtain ⟨n, hn⟩ : ∃ n, xs.length = n := ⟨_, rfl⟩
  rw [hn] at HA hl ⊢
  have HN := Lib.hid hn
  have HL := Lib.hid hl
  cases ao with
  | none =>
    have hx : xs = [] := by
      obtain ⟨ao', cap', e', hx⟩ := h
      cases e'
      cases xs with
      | nil => rfl
      | cons x xs => obtain ⟨b, o, e, -⟩ := hx 0 x rfl; cases e
    have HX := Lib.hid hx
    obtain rfl : n = 0 := by rw [← hn, hx]; rfl
    have hq : ∀ W, (binOp .eql 22 (.slice none 0 cq) (.slice none 0 0)).run Tryz.prog W = .ok (.bool true) W := fun W => run_eql_nil_slice W _ _ _ _ _ _ _ Tryz.underlying22
    clear h hn hl hx
    go_enter Tryz.func119, Tryz.ntmps119
    go_wp2
    go_ret
    exact ⟨_, rfl, by rw [HX.out]; exact Arr.nil _ _ _, Frm.refl _ _, .inl HX.out⟩
  | some ad =>
    have hq : ∀ W, (binOp .eql 22 (.slice (some ad) n cq) (.slice none 0 0)).run Tryz.prog W = .ok (.bool false) W := fun W => Lib.run_eql_slice_nil W _ _ _ _ _ _ _ Tryz.underlying22
    clear h hn hl
    go_enter Tryz.func119, Tryz.ntmps119
    go_wp2_with (first
      | (at_builtin; refine wpList_clone (k := 4) (At := (RoAt w0)) (z := .agg #[.string { data := #[] }, .slice none 0 0, .slice none 0 0, .slice none 0 0]) (bytes := 88) rfl _ _ rfl rfl rfl Tryz.underlying22 (by kernel_rfl) rfl (by decide) (by decide) (RoAt.mov w0) HN.out (HA.out _ ((Frm.refl [] w).alloc _)) HL.out ?_; intro ao' cap' w' hr; have HR := Lib.hid hr; clear hr))
    go_ret
    exact ⟨_, rfl, HR.out.old ((Frm.refl [] w).alloc _)⟩
set_option maxHeartbeats 1000000 in
set_option maxRecDepth 100000 in
theorem clState_any (v : Value) (xs : List StD) (w : World) (h : Arr 3 StAt w v xs) (hl : xs.length ≤ 100000) : Calls Tryz.prog 120 #[v] w (RetV (Fr 3 62 StAt w xs)) := by
  have HA : Hid (∀ W, Frm [] w W → Arr 3 StAt W v xs) := Lib.hid fun W hf => h.frm fun _ _ _ h => h.frm hf
  obtain ⟨ao, cq, rfl⟩ := h.shape
  obtain ⟨n, hn⟩ : ∃ n, xs.length = n := ⟨_, rfl⟩
  rw [hn] at HA hl ⊢
  have HN := Lib.hid hn
  have HL := Lib.hid hl
  cases ao with
  | none =>
    have hx : xs = [] := by
      obtain ⟨ao', cap', e', hx⟩ := h
      cases e'
      cases xs with
      | nil => rfl
      | cons x xs => obtain ⟨b, o, e, -⟩ := hx 0 x rfl; cases e
    have HX := Lib.hid hx
    obtain rfl : n = 0 := by rw [← hn, hx]; rfl
    have hq : ∀ W, (binOp .eql 50 (.slice none 0 cq) (.slice none 0 0)).run Tryz.prog W = .ok (.bool true) W := fun W => run_eql_nil_slice W _ _ _ _ _ _ _ Tryz.underlying50
    clear h hn hl hx
    go_enter Tryz.func120, Tryz.ntmps120
    go_wp2
    go_ret
    exact ⟨_, rfl, by rw [HX.out]; exact Arr.nil _ _ _, Frm.refl _ _, .inl HX.out⟩
  | some ad =>
    have hq : ∀ W, (binOp .eql 50 (.slice (some ad) n cq) (.slice none 0 0)).run Tryz.prog W = .ok (.bool false) W := fun W => Lib.run_eql_slice_nil W _ _ _ _ _ _ _ Tryz.underlying50
    clear h hn hl
    go_enter Tryz.func120, Tryz.ntmps120
    go_wp2_with (first
      | (at_builtin; refine wpList_clone (k := 3) (At := StAt) (z := .agg #[.string { data := #[] }, .bool false, .int .i64 0]) (bytes := 32) rfl _ _ rfl rfl rfl Tryz.underlying50 (by kernel_rfl) rfl (by decide) (by decide) StAt.mov HN.out (HA.out _ ((Frm.refl [] w).alloc _)) HL.out ?_; intro ao' cap' w' hr; have HR := Lib.hid hr; clear hr))
    go_ret
    exact ⟨_, rfl, HR.out.old ((Frm.refl [] w).alloc _)⟩
set_option maxHeartbeats 1000000 in
set_option maxRecDepth 100000 in
theorem clCtr_any (v : Value) (xs : List CtrD) (w : World) (h : Arr 2 CtAt w v xs) (hl : xs.length ≤ 100000) : Calls Tryz.prog 121 #[v] w (RetV (Fr 2 182 CtAt w xs)) := by
  have HA : Hid (∀ W, Frm [] w W → Arr 2 CtAt W v xs) := Lib.hid fun W hf => h.frm fun _ _ _ h => h.frm hf
  obtain ⟨ao, cq, rfl⟩ := h.shape
  obtain ⟨n, hn⟩ : ∃ n, xs.length = n := ⟨_, rfl⟩
  rw [hn] at HA hl ⊢
  have HN := Lib.hid hn
  have HL := Lib.hid hl
  cases ao with
  | none =>
    have hx : xs = [] := by
      obtain ⟨ao', cap', e', hx⟩ := h
      cases e'
      cases xs with
      | nil => rfl
      | cons x xs => obtain ⟨b, o, e, -⟩ := hx 0 x rfl; cases e
    have HX := Lib.hid hx
    obtain rfl : n = 0 := by rw [← hn, hx]; rfl
    have hq : ∀ W, (binOp .eql 51 (.slice none 0 cq) (.slice none 0 0)).run Tryz.prog W = .ok (.bool true) W := fun W => run_eql_nil_slice W _ _ _ _ _ _ _ Tryz.underlying51
    clear h hn hl hx
    go_enter Tryz.func121, Tryz.ntmps121
    go_wp2
    go_ret
    exact ⟨_, rfl, by rw [HX.out]; exact Arr.nil _ _ _, Frm.refl _ _, .inl HX.out⟩
  | some ad =>
    have hq : ∀ W, (binOp .eql 51 (.slice (some ad) n cq) (.slice none 0 0)).run Tryz.prog W = .ok (.bool false) W := fun W => Lib.run_eql_slice_nil W _ _ _ _ _ _ _ Tryz.underlying51
    clear h hn hl
    go_enter Tryz.func121, Tryz.ntmps121
    go_wp2_with (first
      | (at_builtin; refine wpList_clone (k := 2) (At := CtAt) (z := .agg #[.string { data := #[] }, .int .i64 0]) (bytes := 24) rfl _ _ rfl rfl rfl Tryz.underlying51 (by kernel_rfl) rfl (by decide) (by decide) CtAt.mov HN.out (HA.out _ ((Frm.refl [] w).alloc _)) HL.out ?_; intro ao' cap' w' hr; have HR := Lib.hid hr; clear hr))
    go_ret
    exact ⟨_, rfl, HR.out.old ((Frm.refl [] w).alloc _)⟩
set_option maxHeartbeats 1000000 in
set_option maxRecDepth 100000 in
theorem clStep_any (v : Value) (xs : List StpD) (w : World) (h : Arr 9 SpAt w v xs) (hl : xs.length ≤ 100000) : Calls Tryz.prog 122 #[v] w (RetV (Fr 9 60 SpAt w xs)) := by
  have HA : Hid (∀ W, Frm [] w W → Arr 9 SpAt W v xs) := Lib.hid fun W hf => h.frm fun _ _ _ h => h.frm hf
  obtain ⟨ao, cq, rfl⟩ := h.shape
  obtain ⟨n, hn⟩ : ∃ n, xs.length = n := ⟨_, rfl⟩
  rw [hn] at HA hl ⊢
  have HN := Lib.hid hn
  have HL := Lib.hid hl
  cases ao with
  | none =>
    have hx : xs = [] := by
      obtain ⟨ao', cap', e', hx⟩ := h
      cases e'
      cases xs with
      | nil => rfl
      | cons x xs => obtain ⟨b, o, e, -⟩ := hx 0 x rfl; cases e
    have HX := Lib.hid hx
    obtain rfl : n = 0 := by rw [← hn, hx]; rfl
    have hq : ∀ W, (binOp .eql 49 (.slice none 0 cq) (.slice none 0 0)).run Tryz.prog W = .ok (.bool true) W := fun W => run_eql_nil_slice W _ _ _ _ _ _ _ Tryz.underlying49
    clear h hn hl hx
    go_enter Tryz.func122, Tryz.ntmps122
    go_wp2
    go_ret
    exact ⟨_, rfl, by rw [HX.out]; exact Arr.nil _ _ _, Frm.refl _ _, .inl HX.out⟩
  | some ad =>
    have hq : ∀ W, (binOp .eql 49 (.slice (some ad) n cq) (.slice none 0 0)).run Tryz.prog W = .ok (.bool false) W := fun W => Lib.run_eql_slice_nil W _ _ _ _ _ _ _ Tryz.underlying49
    clear h hn hl
    go_enter Tryz.func122, Tryz.ntmps122
    go_wp2_with (first
      | (at_builtin; refine wpList_clone (k := 9) (At := SpAt) (z := .agg #[.string { data := #[] }, .string { data := #[] }, .int .i64 0, .string { data := #[] }, .string { data := #[] }, .string { data := #[] }, .int .i64 0, .int .i64 0, .int .i64 0]) (bytes := 112) rfl _ _ rfl rfl rfl Tryz.underlying49 (by kernel_rfl) rfl (by decide) (by decide) SpAt.mov HN.out (HA.out _ ((Frm.refl [] w).alloc _)) HL.out ?_; intro ao' cap' w' hr; have HR := Lib.hid hr; clear hr))
    go_ret
    exact ⟨_, rfl, HR.out.old ((Frm.refl [] w).alloc _)⟩
set_option maxHeartbeats 1000000 in
set_option maxRecDepth 100000 in
theorem clCnt_any (v : Value) (xs : List (CtrD × Int)) (w : World) (h : Arr 3 CnAt w v xs) (hl : xs.length ≤ 100000) : Calls Tryz.prog 125 #[v] w (RetV (Fr 3 234 CnAt w xs)) := by
  have HA : Hid (∀ W, Frm [] w W → Arr 3 CnAt W v xs) := Lib.hid fun W hf => h.frm fun _ _ _ h => h.frm hf
  obtain ⟨ao, cq, rfl⟩ := h.shape
  obtain ⟨n, hn⟩ : ∃ n, xs.length = n := ⟨_, rfl⟩
  rw [hn] at HA hl ⊢
  have HN := Lib.hid hn
  have HL := Lib.hid hl
  cases ao with
  | none =>
    have hx : xs = [] := by
      obtain ⟨ao', cap', e', hx⟩ := h
      cases e'
      cases xs with
      | nil => rfl
      | cons x xs => obtain ⟨b, o, e, -⟩ := hx 0 x rfl; cases e
    have HX := Lib.hid hx
    obtain rfl : n = 0 := by rw [← hn, hx]; rfl
    have hq : ∀ W, (binOp .eql 230 (.slice none 0 cq) (.slice none 0 0)).run Tryz.prog W = .ok (.bool true) W := fun W => run_eql_nil_slice W _ _ _ _ _ _ _ Tryz.underlying230
    clear h hn hl hx
    go_enter Tryz.func125, Tryz.ntmps125
    go_wp2
    go_ret
    exact ⟨_, rfl, by rw [HX.out]; exact Arr.nil _ _ _, Frm.refl _ _, .inl HX.out⟩
  | some ad =>
    have hq : ∀ W, (binOp .eql 230 (.slice (some ad) n cq) (.slice none 0 0)).run Tryz.prog W = .ok (.bool false) W := fun W => Lib.run_eql_slice_nil W _ _ _ _ _ _ _ Tryz.underlying230
    clear h hn hl
    go_enter Tryz.func125, Tryz.ntmps125
    go_wp2_with (first
      | (at_builtin; refine wpList_clone (k := 3) (At := CnAt) (z := .agg #[.string { data := #[] }, .int .i64 0, .int .i64 0]) (bytes := 32) rfl _ _ rfl rfl rfl Tryz.underlying230 (by kernel_rfl) rfl (by decide) (by decide) CnAt.mov HN.out (HA.out _ ((Frm.refl [] w).alloc _)) HL.out ?_; intro ao' cap' w' hr; have HR := Lib.hid hr; clear hr))
    go_ret
    exact ⟨_, rfl, HR.out.old ((Frm.refl [] w).alloc _)⟩
set_option maxHeartbeats 1000000 in
set_option maxRecDepth 100000 in
theorem clActor_any (v : Value) (xs : List (Int × List (CtrD × Int))) (w : World) (h : Arr 2 AcAt w v xs) (hl : xs.length ≤ 100000) : Calls Tryz.prog 131 #[v] w (RetV (Fr 2 145 AcAt w xs)) := by
  have HA : Hid (∀ W, Frm [] w W → Arr 2 AcAt W v xs) := Lib.hid fun W hf => h.frm fun _ _ _ h => h.frm hf
  obtain ⟨ao, cq, rfl⟩ := h.shape
  obtain ⟨n, hn⟩ : ∃ n, xs.length = n := ⟨_, rfl⟩
  rw [hn] at HA hl ⊢
  have HN := Lib.hid hn
  have HL := Lib.hid hl
  cases ao with
  | none =>
    have hx : xs = [] := by
      obtain ⟨ao', cap', e', hx⟩ := h
      cases e'
      cases xs with
      | nil => rfl
      | cons x xs => obtain ⟨b, o, e, -⟩ := hx 0 x rfl; cases e
    have HX := Lib.hid hx
    obtain rfl : n = 0 := by rw [← hn, hx]; rfl
    have hq : ∀ W, (binOp .eql 116 (.slice none 0 cq) (.slice none 0 0)).run Tryz.prog W = .ok (.bool true) W := fun W => run_eql_nil_slice W _ _ _ _ _ _ _ Tryz.underlying116
    clear h hn hl hx
    go_enter Tryz.func131, Tryz.ntmps131
    go_wp2
    go_ret
    exact ⟨_, rfl, by rw [HX.out]; exact Arr.nil _ _ _, Frm.refl _ _, .inl HX.out⟩
  | some ad =>
    have hq : ∀ W, (binOp .eql 116 (.slice (some ad) n cq) (.slice none 0 0)).run Tryz.prog W = .ok (.bool false) W := fun W => Lib.run_eql_slice_nil W _ _ _ _ _ _ _ Tryz.underlying116
    clear h hn hl
    go_enter Tryz.func131, Tryz.ntmps131
    go_wp2_with (first
      | (at_builtin; refine wpList_clone (k := 2) (At := AcAt) (z := .agg #[.int .i64 0, .pointer none]) (bytes := 16) rfl _ _ rfl rfl rfl Tryz.underlying116 (by kernel_rfl) rfl (by decide) (by decide) AcAt.mov HN.out (HA.out _ ((Frm.refl [] w).alloc _)) HL.out ?_; intro ao' cap' w' hr; have HR := Lib.hid hr; clear hr))
    go_ret
    exact ⟨_, rfl, HR.out.old ((Frm.refl [] w).alloc _)⟩
set_option maxHeartbeats 1000000 in
set_option maxRecDepth 100000 in
theorem clActorAt_any (w0 : World) (v : Value) (xs : List (Int × List (CtrD × Int))) (w : World) (h : Arr 2 (AoAt w0) w v xs) (hl : xs.length ≤ 100000) : Calls Tryz.prog 131 #[v] w (RetV (Fr 2 145 (AoAt w0) w xs)) := by
  have HA : Hid (∀ W, Frm [] w W → Arr 2 (AoAt w0) W v xs) := Lib.hid fun W hf => h.frm fun _ _ _ h => h.frm hf
  obtain ⟨ao, cq, rfl⟩ := h.shape
  obtain ⟨n, hn⟩ : ∃ n, xs.length = n := ⟨_, rfl⟩
  rw [hn] at HA hl ⊢
  have HN := Lib.hid hn
  have HL := Lib.hid hl
  cases ao with
  | none =>
    have hx : xs = [] := by
      obtain ⟨ao', cap', e', hx⟩ := h
      cases e'
      cases xs with
      | nil => rfl
      | cons x xs => obtain ⟨b, o, e, -⟩ := hx 0 x rfl; cases e
    have HX := Lib.hid hx
    obtain rfl : n = 0 := by rw [← hn, hx]; rfl
    have hq : ∀ W, (binOp .eql 116 (.slice none 0 cq) (.slice none 0 0)).run Tryz.prog W = .ok (.bool true) W := fun W => run_eql_nil_slice W _ _ _ _ _ _ _ Tryz.underlying116
    clear h hn hl hx
    go_enter Tryz.func131, Tryz.ntmps131
    go_wp2
    go_ret
    exact ⟨_, rfl, by rw [HX.out]; exact Arr.nil _ _ _, Frm.refl _ _, .inl HX.out⟩
  | some ad =>
    have hq : ∀ W, (binOp .eql 116 (.slice (some ad) n cq) (.slice none 0 0)).run Tryz.prog W = .ok (.bool false) W := fun W => Lib.run_eql_slice_nil W _ _ _ _ _ _ _ Tryz.underlying116
    clear h hn hl
    go_enter Tryz.func131, Tryz.ntmps131
    go_wp2_with (first
      | (at_builtin; refine wpList_clone (k := 2) (At := (AoAt w0)) (z := .agg #[.int .i64 0, .pointer none]) (bytes := 16) rfl _ _ rfl rfl rfl Tryz.underlying116 (by kernel_rfl) rfl (by decide) (by decide) (AoAt.mov w0) HN.out (HA.out _ ((Frm.refl [] w).alloc _)) HL.out ?_; intro ao' cap' w' hr; have HR := Lib.hid hr; clear hr))
    go_ret
    exact ⟨_, rfl, HR.out.old ((Frm.refl [] w).alloc _)⟩
set_option maxHeartbeats 1000000 in
set_option maxRecDepth 100000 in
theorem clRowAt_any (cls cap : Int) (w0 : World) (v : Value) (xs : List (List ByteArray)) (w : World) (h : Arr 1 (CoAt cls cap w0) w v xs) (hl : xs.length ≤ 100000) : Calls Tryz.prog 133 #[v] w (RetV (Fr 1 138 (CoAt cls cap w0) w xs)) := by
  have HA : Hid (∀ W, Frm [] w W → Arr 1 (CoAt cls cap w0) W v xs) := Lib.hid fun W hf => h.frm fun _ _ _ h => h.frm hf
  obtain ⟨ao, cq, rfl⟩ := h.shape
  obtain ⟨n, hn⟩ : ∃ n, xs.length = n := ⟨_, rfl⟩
  rw [hn] at HA hl ⊢
  have HN := Lib.hid hn
  have HL := Lib.hid hl
  cases ao with
  | none =>
    have hx : xs = [] := by
      obtain ⟨ao', cap', e', hx⟩ := h
      cases e'
      cases xs with
      | nil => rfl
      | cons x xs => obtain ⟨b, o, e, -⟩ := hx 0 x rfl; cases e
    have HX := Lib.hid hx
    obtain rfl : n = 0 := by rw [← hn, hx]; rfl
    have hq : ∀ W, (binOp .eql 137 (.slice none 0 cq) (.slice none 0 0)).run Tryz.prog W = .ok (.bool true) W := fun W => run_eql_nil_slice W _ _ _ _ _ _ _ Tryz.underlying137
    clear h hn hl hx
    go_enter Tryz.func133, Tryz.ntmps133
    go_wp2
    go_ret
    exact ⟨_, rfl, by rw [HX.out]; exact Arr.nil _ _ _, Frm.refl _ _, .inl HX.out⟩
  | some ad =>
    have hq : ∀ W, (binOp .eql 137 (.slice (some ad) n cq) (.slice none 0 0)).run Tryz.prog W = .ok (.bool false) W := fun W => Lib.run_eql_slice_nil W _ _ _ _ _ _ _ Tryz.underlying137
    clear h hn hl
    go_enter Tryz.func133, Tryz.ntmps133
    go_wp2_with (first
      | (at_builtin; refine wpList_clone (k := 1) (At := (CoAt cls cap w0)) (z := .pointer none) (bytes := 8) rfl _ _ rfl rfl rfl Tryz.underlying137 (by kernel_rfl) rfl (by decide) (by decide) (CoAt.mov cls cap w0) HN.out (HA.out _ ((Frm.refl [] w).alloc _)) HL.out ?_; intro ao' cap' w' hr; have HR := Lib.hid hr; clear hr))
    go_ret
    exact ⟨_, rfl, HR.out.old ((Frm.refl [] w).alloc _)⟩
set_option maxHeartbeats 1000000 in
set_option maxRecDepth 100000 in
theorem clWaysAt_any (cls cap : Int) (w0 : World) (v : Value) (xs : List (List (List ByteArray))) (w : World) (h : Arr 1 (WoAt cls cap w0) w v xs) (hl : xs.length ≤ 100000) : Calls Tryz.prog 132 #[v] w (RetV (Fr 1 137 (WoAt cls cap w0) w xs)) := by
  have HA : Hid (∀ W, Frm [] w W → Arr 1 (WoAt cls cap w0) W v xs) := Lib.hid fun W hf => h.frm fun _ _ _ h => h.frm hf
  obtain ⟨ao, cq, rfl⟩ := h.shape
  obtain ⟨n, hn⟩ : ∃ n, xs.length = n := ⟨_, rfl⟩
  rw [hn] at HA hl ⊢
  have HN := Lib.hid hn
  have HL := Lib.hid hl
  cases ao with
  | none =>
    have hx : xs = [] := by
      obtain ⟨ao', cap', e', hx⟩ := h
      cases e'
      cases xs with
      | nil => rfl
      | cons x xs => obtain ⟨b, o, e, -⟩ := hx 0 x rfl; cases e
    have HX := Lib.hid hx
    obtain rfl : n = 0 := by rw [← hn, hx]; rfl
    have hq : ∀ W, (binOp .eql 117 (.slice none 0 cq) (.slice none 0 0)).run Tryz.prog W = .ok (.bool true) W := fun W => run_eql_nil_slice W _ _ _ _ _ _ _ Tryz.underlying117
    clear h hn hl hx
    go_enter Tryz.func132, Tryz.ntmps132
    go_wp2
    go_ret
    exact ⟨_, rfl, by rw [HX.out]; exact Arr.nil _ _ _, Frm.refl _ _, .inl HX.out⟩
  | some ad =>
    have hq : ∀ W, (binOp .eql 117 (.slice (some ad) n cq) (.slice none 0 0)).run Tryz.prog W = .ok (.bool false) W := fun W => Lib.run_eql_slice_nil W _ _ _ _ _ _ _ Tryz.underlying117
    clear h hn hl
    go_enter Tryz.func132, Tryz.ntmps132
    go_wp2_with (first
      | (at_builtin; refine wpList_clone (k := 1) (At := (WoAt cls cap w0)) (z := .slice none 0 0) (bytes := 24) rfl _ _ rfl rfl rfl Tryz.underlying117 (by kernel_rfl) rfl (by decide) (by decide) (WoAt.mov cls cap w0) HN.out (HA.out _ ((Frm.refl [] w).alloc _)) HL.out ?_; intro ao' cap' w' hr; have HR := Lib.hid hr; clear hr))
    go_ret
    exact ⟨_, rfl, HR.out.old ((Frm.refl [] w).alloc _)⟩
set_option maxHeartbeats 1000000 in
set_option maxRecDepth 100000 in
theorem clRow_any (cls cap : Int) (v : Value) (xs : List (List ByteArray)) (w : World) (h : Arr 1 (ChAt cls cap) w v xs) (hl : xs.length ≤ 100000) : Calls Tryz.prog 133 #[v] w (RetV (Fr 1 138 (ChAt cls cap) w xs)) := by
  have HA : Hid (∀ W, Frm [] w W → Arr 1 (ChAt cls cap) W v xs) := Lib.hid fun W hf => h.frm fun _ _ _ h => h.frm hf
  obtain ⟨ao, cq, rfl⟩ := h.shape
  obtain ⟨n, hn⟩ : ∃ n, xs.length = n := ⟨_, rfl⟩
  rw [hn] at HA hl ⊢
  have HN := Lib.hid hn
  have HL := Lib.hid hl
  cases ao with
  | none =>
    have hx : xs = [] := by
      obtain ⟨ao', cap', e', hx⟩ := h
      cases e'
      cases xs with
      | nil => rfl
      | cons x xs => obtain ⟨b, o, e, -⟩ := hx 0 x rfl; cases e
    have HX := Lib.hid hx
    obtain rfl : n = 0 := by rw [← hn, hx]; rfl
    have hq : ∀ W, (binOp .eql 137 (.slice none 0 cq) (.slice none 0 0)).run Tryz.prog W = .ok (.bool true) W := fun W => run_eql_nil_slice W _ _ _ _ _ _ _ Tryz.underlying137
    clear h hn hl hx
    go_enter Tryz.func133, Tryz.ntmps133
    go_wp2
    go_ret
    exact ⟨_, rfl, by rw [HX.out]; exact Arr.nil _ _ _, Frm.refl _ _, .inl HX.out⟩
  | some ad =>
    have hq : ∀ W, (binOp .eql 137 (.slice (some ad) n cq) (.slice none 0 0)).run Tryz.prog W = .ok (.bool false) W := fun W => Lib.run_eql_slice_nil W _ _ _ _ _ _ _ Tryz.underlying137
    clear h hn hl
    go_enter Tryz.func133, Tryz.ntmps133
    go_wp2_with (first
      | (at_builtin; refine wpList_clone (k := 1) (At := (ChAt cls cap)) (z := .pointer none) (bytes := 8) rfl _ _ rfl rfl rfl Tryz.underlying137 (by kernel_rfl) rfl (by decide) (by decide) (ChAt.mov cls cap) HN.out (HA.out _ ((Frm.refl [] w).alloc _)) HL.out ?_; intro ao' cap' w' hr; have HR := Lib.hid hr; clear hr))
    go_ret
    exact ⟨_, rfl, HR.out.old ((Frm.refl [] w).alloc _)⟩
set_option maxHeartbeats 1000000 in
set_option maxRecDepth 100000 in
theorem clWays_any (cls cap : Int) (v : Value) (xs : List (List (List ByteArray))) (w : World) (h : Arr 1 (RwAt cls cap) w v xs) (hl : xs.length ≤ 100000) : Calls Tryz.prog 132 #[v] w (RetV (Fr 1 137 (RwAt cls cap) w xs)) := by
  have HA : Hid (∀ W, Frm [] w W → Arr 1 (RwAt cls cap) W v xs) := Lib.hid fun W hf => h.frm fun _ _ _ h => h.frm hf
  obtain ⟨ao, cq, rfl⟩ := h.shape
  obtain ⟨n, hn⟩ : ∃ n, xs.length = n := ⟨_, rfl⟩
  rw [hn] at HA hl ⊢
  have HN := Lib.hid hn
  have HL := Lib.hid hl
  cases ao with
  | none =>
    have hx : xs = [] := by
      obtain ⟨ao', cap', e', hx⟩ := h
      cases e'
      cases xs with
      | nil => rfl
      | cons x xs => obtain ⟨b, o, e, -⟩ := hx 0 x rfl; cases e
    have HX := Lib.hid hx
    obtain rfl : n = 0 := by rw [← hn, hx]; rfl
    have hq : ∀ W, (binOp .eql 117 (.slice none 0 cq) (.slice none 0 0)).run Tryz.prog W = .ok (.bool true) W := fun W => run_eql_nil_slice W _ _ _ _ _ _ _ Tryz.underlying117
    clear h hn hl hx
    go_enter Tryz.func132, Tryz.ntmps132
    go_wp2
    go_ret
    exact ⟨_, rfl, by rw [HX.out]; exact Arr.nil _ _ _, Frm.refl _ _, .inl HX.out⟩
  | some ad =>
    have hq : ∀ W, (binOp .eql 117 (.slice (some ad) n cq) (.slice none 0 0)).run Tryz.prog W = .ok (.bool false) W := fun W => Lib.run_eql_slice_nil W _ _ _ _ _ _ _ Tryz.underlying117
    clear h hn hl
    go_enter Tryz.func132, Tryz.ntmps132
    go_wp2_with (first
      | (at_builtin; refine wpList_clone (k := 1) (At := (RwAt cls cap)) (z := .slice none 0 0) (bytes := 24) rfl _ _ rfl rfl rfl Tryz.underlying117 (by kernel_rfl) rfl (by decide) (by decide) (RwAt.mov cls cap) HN.out (HA.out _ ((Frm.refl [] w).alloc _)) HL.out ?_; intro ao' cap' w' hr; have HR := Lib.hid hr; clear hr))
    go_ret
    exact ⟨_, rfl, HR.out.old ((Frm.refl [] w).alloc _)⟩
end Go.Proofs.YtkphhjekfimmlaaGreat
