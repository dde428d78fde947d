/- What known reads: parts, boxes at a stage. -/
import Derived.Test.YtomjnbcaofebfaaOvr
import Derived.Test.YtomjnbcaofebfaaPack
import Derived.Test.YtomjnbcaofebfaaRefS
import Derived.Test.YtomjnbcaofebfaaSame
import Derived.Lib.SlBytesConst
namespace Go.Proofs.Ytomjnbcaofebfaa
open Go.RowKit Go.Maps Go.BigFrame

/-- a part, made -/
def PlTo (w : World) (m u c : Int) (l : List UInt8) (v : Value) (w' : World) : Prop := ∃ ao cap, v = .agg #[.int .i64 m, .int .i64 u, .int .i64 c, .slice ao l.length cap] ∧ Byts w' (.slice ao l.length cap) l ∧ Frm [] w w'
theorem part_l (m u c : Int) (l : List UInt8) (w : World) : Calls Try.prog 26 #[.int .i64 m, .int .i64 u, .int .i64 c, .string ⟨l.toArray⟩] w (RetV (PlTo w m u c l)) := by
  refine (part_any m u c ⟨l.toArray⟩ w).mono ?_
  rintro e w' ⟨v, rfl, bv, rfl, hb, hf⟩
  obtain ⟨ao, cap, rfl, -⟩ := hb.len
  exact ⟨_, rfl, ao, cap, rfl, hb, hf⟩
/-- parts, split off -/
def SpTo (w : World) (e : Int) (ps : List Prt) (v : Value) (w' : World) : Prop := ∃ ao cap, v = .tuple #[.slice ao ps.length cap, .int .i64 e] ∧ Prts 0 w' (.slice ao ps.length cap) ps ∧ Frm [] w w'
theorem Prts.low0 {B : Nat} {w : World} {v : Value} {ps : List Prt} (h : Prts B w v ps) : Prts 0 w v ps := by
  obtain ⟨ao, cap, e, h1, h2, h3⟩ := h
  refine ⟨ao, cap, e, h1, fun a ha => Nat.zero_le _, fun k p hk => ?_⟩
  obtain ⟨b, o, e2, h4⟩ := h3 k p hk
  exact ⟨b, o, e2, h4.low (Nat.zero_le _)⟩
theorem SpTo.of {w w' : World} {m size e : Int} {b : List UInt8} {v : Value} {ps : List Prt} (h : SplitTo w m b size v w') (he : splitE m size b.length = e) (hp : (if splitE m size b.length = 0 then splitL m b size.toNat (nparts b.length size.toNat) else []) = ps) : SpTo w e ps v w' := by
  obtain ⟨lv, rfl, h1, h2⟩ := h
  rw [hp] at h1
  have h0 := h1.low0
  obtain ⟨ao, cap, rfl, -⟩ := h1
  exact ⟨ao, cap, by rw [he], h0, h2⟩
theorem byts_mark (w : World) (l : List UInt8) (fr : Nat × Nat) : Byts (w.alloc (.cells (l.map u8).toArray 5 fr)) (.slice (some ⟨w.heap.size, 0, none⟩) l.length l.length) l :=
  ⟨_, _, rfl, Nat.le_refl _, fun k x hk => ⟨_, 0, rfl, by rw [Nat.zero_add, cell_of (heap_alloc_new _ _)]; simp [hk]⟩⟩
theorem sp1 (w : World) : Calls Try.prog 9 #[.int .i64 7, .slice (some ⟨w.heap.size, 0, none⟩) 5 5, .int .i64 2] (w.alloc (.cells #[.int .u8 97, .int .u8 98, .int .u8 99, .int .u8 100, .int .u8 101] 5 (5, 6)))
    (RetV (SpTo w 0 [⟨7, 0, 3, [97, 98]⟩, ⟨7, 1, 3, [99, 100]⟩, ⟨7, 2, 3, [101]⟩])) := by
  refine (split_any 7 2 [97, 98, 99, 100, 101] _ _ (byts_mark w [97, 98, 99, 100, 101] (5, 6)) (by simp)).mono ?_
  rintro e w' ⟨v, rfl, h⟩
  obtain ⟨ao, cap, h1, h2, h3⟩ := SpTo.of h (e := 0) (by decide) (ps := [⟨7, 0, 3, [97, 98]⟩, ⟨7, 1, 3, [99, 100]⟩, ⟨7, 2, 3, [101]⟩]) (by decide)
  exact ⟨_, rfl, ao, cap, h1, h2, ((Frm.refl [] w).alloc _).trans h3⟩
theorem sp2 (w : World) : Calls Try.prog 9 #[.int .i64 7, .slice none 0 0, .int .i64 2] w (RetV (SpTo w 0 [⟨7, 0, 1, []⟩])) := by
  refine (split_any 7 2 [] _ _ (Byts.nil w) (by simp)).mono ?_
  rintro e w' ⟨v, rfl, h⟩
  exact ⟨_, rfl, SpTo.of h (e := 0) (by decide) (ps := [⟨7, 0, 1, []⟩]) (by decide)⟩
theorem sp3 (w : World) : Calls Try.prog 9 #[.int .i64 7, .slice (some ⟨w.heap.size, 0, none⟩) 1 1, .int .i64 0] (w.alloc (.cells #[.int .u8 97] 5 (1, 2))) (RetV (SpTo w 2 [])) := by
  refine (split_any 7 0 [97] _ _ (byts_mark w [97] (1, 2)) (by simp)).mono ?_
  rintro e w' ⟨v, rfl, h⟩
  obtain ⟨ao, cap, h1, h2, h3⟩ := SpTo.of h (e := 2) (by decide) (ps := []) (by decide)
  exact ⟨_, rfl, ao, cap, h1, h2, ((Frm.refl [] w).alloc _).trans h3⟩
theorem prts1 {W : World} {g : Nat} {m u c : Int} {l : List UInt8} {bv : Value} {n : Nat} (hb : W.heap[g]? = some (.cells #[.int .i64 m, .int .i64 u, .int .i64 c, bv] 38 (0, 0))) (h : Byts W bv l) (hn : 1 ≤ n) : Prts 0 W (.slice (some ⟨g, 0, none⟩) 1 n) [⟨m, u, c, l⟩] := by
  refine ⟨_, n, rfl, hn, fun _ _ => Nat.zero_le _, fun k p hk => ?_⟩
  rcases k with _ | k
  · simp at hk; subst hk
    exact ⟨g, 0, rfl, bv, (cell_of hb 0).trans rfl, (cell_of hb 1).trans rfl, (cell_of hb 2).trans rfl, (cell_of hb 3).trans rfl, h, fun _ _ => Nat.zero_le _⟩
  · simp at hk
theorem prts3 {W : World} {g : Nat} {m u c m1 u1 c1 m2 u2 c2 : Int} {l l1 l2 : List UInt8} {bv bv1 bv2 : Value} {n : Nat} (hb : W.heap[g]? = some (.cells #[.int .i64 m, .int .i64 u, .int .i64 c, bv, .int .i64 m1, .int .i64 u1, .int .i64 c1, bv1, .int .i64 m2, .int .i64 u2, .int .i64 c2, bv2] 38 (0, 0)))
    (h : Byts W bv l) (h1 : Byts W bv1 l1) (h2 : Byts W bv2 l2) (hn : 3 ≤ n) : Prts 0 W (.slice (some ⟨g, 0, none⟩) 3 n) [⟨m, u, c, l⟩, ⟨m1, u1, c1, l1⟩, ⟨m2, u2, c2, l2⟩] := by
  refine ⟨_, n, rfl, hn, fun _ _ => Nat.zero_le _, fun k p hk => ?_⟩
  rcases k with _ | _ | _ | k
  · simp at hk; subst hk
    exact ⟨g, 0, rfl, bv, (cell_of hb 0).trans rfl, (cell_of hb 1).trans rfl, (cell_of hb 2).trans rfl, (cell_of hb 3).trans rfl, h, fun _ _ => Nat.zero_le _⟩
  · simp at hk; subst hk
    exact ⟨g, 0, rfl, bv1, (cell_of hb 4).trans rfl, (cell_of hb 5).trans rfl, (cell_of hb 6).trans rfl, (cell_of hb 7).trans rfl, h1, fun _ _ => Nat.zero_le _⟩
  · simp at hk; subst hk
    exact ⟨g, 0, rfl, bv2, (cell_of hb 8).trans rfl, (cell_of hb 9).trans rfl, (cell_of hb 10).trans rfl, (cell_of hb 11).trans rfl, h2, fun _ _ => Nat.zero_le _⟩
  · simp at hk
theorem kp1 {w5 w6 w7 w8 : World} {aA a6 a7 a8 : Option Addr} {cA c6 c7 c8 : Nat} (PA : Prts 0 w5 (.slice aA 3 cA) [⟨7, 0, 3, [97, 98]⟩, ⟨7, 1, 3, [99, 100]⟩, ⟨7, 2, 3, [101]⟩]) (h6 : Byts w6 (.slice a6 2 c6) [97, 98]) (h7 : Byts w7 (.slice a7 2 c7) [99, 100]) (h8 : Byts w8 (.slice a8 1 c8) [101])
    (G6 : Frm [] w5 w6) (G7 : Frm [] w6 w7) (G8 : Frm [] w7 w8) : Calls Try.prog 11 #[.slice aA 3 cA, .slice (some ⟨w8.heap.size, 0, none⟩) 3 3]
      (w8.alloc (.cells #[.int .i64 7, .int .i64 0, .int .i64 3, .slice a6 2 c6, .int .i64 7, .int .i64 1, .int .i64 3, .slice a7 2 c7, .int .i64 7, .int .i64 2, .int .i64 3, .slice a8 1 c8] 38)) (Ret (.bool true) (Frm [] w5)) := by
  refine (parts_ok 0 0 _ _ _ _ (PA.frm (((G6.trans G7).trans G8).alloc _) (by simp)) (prts3 (heap_alloc_new w8 _) (h6.frm0 ((G7.trans G8).alloc _)) (h7.frm0 (G8.alloc _)) (h8.frm0 ((Frm.refl [] w8).alloc _)) (Nat.le_refl _)) (by simp)).mono ?_
  rintro e w9 ⟨rfl, hf⟩
  exact ⟨rfl, (((G6.trans G7).trans G8).alloc _).trans hf⟩
theorem kp2 {w5 w9 w10 : World} {aB a10 : Option Addr} {cB c10 : Nat} (PB : Prts 0 w5 (.slice aB 1 cB) [⟨7, 0, 1, []⟩]) (h10 : Byts w10 (.slice a10 0 c10) []) (G9 : Frm [] w5 w9) (G10 : Frm [] w9 w10) :
    Calls Try.prog 11 #[.slice aB 1 cB, .slice (some ⟨w10.heap.size, 0, none⟩) 1 1] (w10.alloc (.cells #[.int .i64 7, .int .i64 0, .int .i64 1, .slice a10 0 c10] 38)) (Ret (.bool true) (Frm [] w5)) := by
  refine (parts_ok 0 0 _ _ _ _ (PB.frm ((G9.trans G10).alloc _) (by simp)) (prts1 (heap_alloc_new w10 _) (h10.frm0 ((Frm.refl [] w10).alloc _)) (Nat.le_refl _)) (by simp)).mono ?_
  rintro e w11 ⟨rfl, hf⟩
  exact ⟨rfl, ((G9.trans G10).alloc _).trans hf⟩
/-- the first packet -/
def PkTo (w : World) (v : Value) (w' : World) : Prop := ∃ ao cap, v = .tuple #[.slice ao 6 cap, .int .i64 0] ∧ (∃ l, Byts w' (.slice ao 6 cap) l ∧ l.length = 6 ∧ l.take 4 = [0, 7, 0, 1]) ∧ Frm [] w w'
theorem pk1 (bv : Value) (w : World) (hb : Byts w bv []) : Calls Try.prog 17 #[.agg #[.int .i64 7, .int .i64 0, .int .i64 1, bv]] w (RetV (PkTo w)) := by
  refine (pack_good ⟨7, 0, 1, []⟩ bv w hb (by decide)).mono ?_
  rintro e w' ⟨v, rfl, sv, rfl, h⟩
  have hl : (packL ⟨7, 0, 1, []⟩).length = 6 := by simp [packL, headL, sumL]
  have ht : (packL ⟨7, 0, 1, []⟩).take 4 = [0, 7, 0, 1] := by
    have : headL ⟨7, 0, 1, []⟩ = [0, 7, 0, 1] := by decide
    unfold packL; rw [this]; simp
  have hby := h.byts
  obtain ⟨ao, cap, rfl, -⟩ := hby.len
  rw [hl] at hby ⊢
  exact ⟨_, rfl, ao, cap, rfl, ⟨_, hby, hl, ht⟩, h.2⟩
/-- a box at a stage -/
def KX (w : World) (xb mo N : Nat) (S : St) (w' : World) : Prop := ∃ K N', BX w' xb mo 2 10 N' S K ∧ Lo w.heap.size mo S K ∧ N' ≤ N ∧ Frm [] w w'
section
variable {w w1 w2 : World} {xb mo N : Nat} {S : St}
theorem KX.frm0 (h : KX w xb mo N S w1) (hf : Frm [] w1 w2) : KX w xb mo N S w2 := by
  obtain ⟨K, N', h1, h2, h3, h4⟩ := h
  exact ⟨K, N', h1.frm0 hf, h2, h3, h4.trans hf⟩
theorem KX.fr (h : KX w xb mo N S w1) : Frm [] w w1 := by obtain ⟨K, N', -, -, -, h4⟩ := h; exact h4
theorem k_adds (h : KX w xb mo N S w1) {m u c : Int} {l : List UInt8} {S' : St} {b : List UInt8} {d : Bool} {e : Int} {bv : Value} (hb : Byts w1 bv l) (hr : addS 2 10 S ⟨m, u, c, l⟩ = (S', b, d, e)) (hn : l.length ≤ 100000) (hN : N ≤ 1000) :
    Calls Try.prog 14 #[.pointer (some ⟨xb, 0, none⟩), .agg #[.int .i64 m, .int .i64 u, .int .i64 c, bv], .string ⟨b.toArray⟩, .bool d, .int .i64 e] w1 (Ret (.bool true) (KX w xb mo (N + 2) S')) := by
  obtain ⟨K, N', h1, h2, h3, h4⟩ := h
  have hc := adds_ok h1 h2 h4.size ⟨m, u, c, l⟩ bv hb hn (by omega)
  rw [hr] at hc
  refine hc.mono ?_
  rintro e w' ⟨rfl, K2, N2, g1, g2, g3, g4⟩
  exact ⟨rfl, K2, N2, g1, g2, by omega, g4.old h4 (Nat.le_refl _)⟩
set_option maxHeartbeats 1000000 in
theorem k_new (w w1 : World) (hf : Frm [] w w1) : Calls Try.prog 13 #[.int .i64 2, .int .i64 10] w1 (RetV fun v w' => ∃ xb mo, v = .tuple #[.pointer (some ⟨xb, 0, none⟩), .int .i64 0] ∧ KX w xb mo 0 [] w') := by
  have hmm := @run_makeMap Try.prog
  have HF := Lib.hid hf
  have h1 : wi 2 1 64 = true := by decide
  have h2 : wi 10 1 1048576 = true := by decide
  clear hf
  go_enter Try.func13, Try.ntmps13
  go_wp2_with (go_at_call 28; go_must (refine (within_any _ _ _ _).mono ?_; rintro e w' ⟨rfl, rfl⟩))
  go_ret2
  refine ⟨_, rfl, w1.heap.size + 1, w1.heap.size, rfl, fun _ => 0, 0, ⟨alloc_top (by simp), (IM.made w1 _).frm0 ((Frm.refl [] _).alloc _), (fun t m ht => by cases ht), (fun t m ht => by cases ht), (fun t t' m m' ht => by cases ht), (by decide), (by decide), (by decide), (by decide), ?_, ?_, (fun t m ht => by cases ht), by omega⟩, ⟨HF.out.size, fun t m ht => by cases ht⟩, Nat.le_refl _, (HF.out.alloc _).alloc _⟩
  · simp
  · simp [heldS]
theorem k_mis (h : KX w xb mo N S w1) (t : Int) (m : Msg) (L : List Int) (ht : lk S t = some m) (h0 : 0 ≤ t) (h1 : t ≤ 65535) (hL : misK m.ps m.cnt.toNat = L) :
    Calls Try.prog 23 #[.pointer (some ⟨xb, 0, none⟩), .int .i64 t] w1 (RetV (MisTo w1 L)) := by
  obtain ⟨K, N', g1, -, -, -⟩ := h
  have := mis_any g1 t m ht h0 h1
  rwa [hL] at this
theorem k_held (h : KX w xb mo N S w1) (n : Int) (hn : (heldS S : Int) = n) : Calls Try.prog 16 #[.pointer (some ⟨xb, 0, none⟩)] w1 (Ret (.int .i64 n) (Frm [] w1)) := by
  obtain ⟨K, N', g1, -, -, -⟩ := h
  have := held_any g1
  rwa [hn] at this
theorem k_open (h : KX w xb mo N S w1) : Calls Try.prog 15 #[.pointer (some ⟨xb, 0, none⟩)] w1 (RetV (IntsTo w1 (sortK S))) := by
  obtain ⟨K, N', g1, -, -, -⟩ := h
  exact open_any g1
end
theorem ints_lit (W : World) (l : List Int) (g n : Nat) (hn : l.length = n) (hb : W.heap[g]? = some (.cells (l.map (Value.int .i64)).toArray 3 (0, 0))) : Ints W (.slice (some ⟨g, 0, none⟩) n n) l := by
  subst hn
  refine ⟨_, _, rfl, fun k x hk => ⟨g, 0, rfl, ?_⟩⟩
  rw [Nat.zero_add, cell_of hb]
  simp [hk]
end Go.Proofs.Ytomjnbcaofebfaa
