/- 'known': the chapter's examples hold. -/
import Derived.Test.YthelfpenccpkeaaChs
import Derived.Shelf.Abstract
namespace Go.Proofs.Ythelfpenccpkeaa
open Go.RowKit Go.BigFrame

attribute [local go_sem] Oper.semAt_some
abbrev vA : ByteArray := ⟨#[97]⟩
abbrev vB : ByteArray := ⟨#[98]⟩
abbrev vC : ByteArray := ⟨#[99]⟩
section
variable {w W : World} {D : List (Nat × Obj)} {a b c : Nat}
/-- the three channels of the examples -/
structure S (w : World) (D : List (Nat × Obj)) (a b c : Nat) (LA LB : List ByteArray) (W : World) : Prop where
  out : K3 w D ⟨a, 2, 3, LA⟩ ⟨b, 3, 2, LB⟩ ⟨c, 1, 1, []⟩ W
theorem S.frm {LA LB : List ByteArray} {W' : World} (h : S w D a b c LA LB W) (hf : Frm [] W W') : S w D a b c LA LB W' := ⟨h.out.frm hf⟩
theorem S.putA {LA LB LA' : List ByteArray} (h : S w D a b c LA LB W) (m : ByteArray) (x : Int) (e1 : putE 3 LA m = x) (e2 : putL 3 LA m = LA') : Calls Try.prog 11 #[.pointer (some ⟨a, 0, none⟩), .string m] W (Ret (.int .i64 x) (S w D a b c LA' LB)) := by
  subst e1; subst e2
  exact (h.out.put m).mono fun _ _ ⟨he, hr⟩ => ⟨he, ⟨hr⟩⟩
theorem S.putB {LA LB LB' : List ByteArray} (h : S w D a b c LA LB W) (m : ByteArray) (x : Int) (e1 : putE 2 LB m = x) (e2 : putL 2 LB m = LB') : Calls Try.prog 11 #[.pointer (some ⟨b, 0, none⟩), .string m] W (Ret (.int .i64 x) (S w D a b c LA LB')) := by
  subst e1; subst e2
  exact (h.out.rot.put m).mono fun _ _ ⟨he, hr⟩ => ⟨he, ⟨hr.rot.rot⟩⟩
theorem S.takeA {LA LB LA' : List ByteArray} (h : S w D a b c LA LB W) (p : Int) (m : ByteArray) (x : Int) (e0 : takeM 2 LA p = m) (e1 : takeE 2 LA p = x) (e2 : takeL 2 LA p = LA') : Calls Try.prog 18 #[.pointer (some ⟨a, 0, none⟩), .int .i64 p] W (Ret (.tuple #[.string m, .int .i64 x]) (S w D a b c LA' LB)) := by
  subst e0; subst e1; subst e2
  exact (h.out.take p).mono fun _ _ ⟨he, hr⟩ => ⟨he, ⟨hr⟩⟩
theorem S.takeB {LA LB LB' : List ByteArray} (h : S w D a b c LA LB W) (p : Int) (m : ByteArray) (x : Int) (e0 : takeM 3 LB p = m) (e1 : takeE 3 LB p = x) (e2 : takeL 3 LB p = LB') : Calls Try.prog 18 #[.pointer (some ⟨b, 0, none⟩), .int .i64 p] W (Ret (.tuple #[.string m, .int .i64 x]) (S w D a b c LA LB')) := by
  subst e0; subst e1; subst e2
  exact (h.out.rot.take p).mono fun _ _ ⟨he, hr⟩ => ⟨he, ⟨hr.rot.rot⟩⟩
theorem S.loseB {LA LB LB' : List ByteArray} (h : S w D a b c LA LB W) (m : ByteArray) (x : Int) (e0 : loseM 3 LB = m) (e1 : loseE 3 LB = x) (e2 : loseL 3 LB = LB') : Calls Try.prog 17 #[.pointer (some ⟨b, 0, none⟩)] W (Ret (.tuple #[.string m, .int .i64 x]) (S w D a b c LA LB')) := by
  subst e0; subst e1; subst e2
  exact (h.out.rot.lose).mono fun _ _ ⟨he, hr⟩ => ⟨he, ⟨hr.rot.rot⟩⟩
theorem S.loseC {LA LB : List ByteArray} (h : S w D a b c LA LB W) : Calls Try.prog 17 #[.pointer (some ⟨c, 0, none⟩)] W (Ret (.tuple #[.string { data := #[] }, .int .i64 8]) (S w D a b c LA LB)) :=
  (h.out.rot.rot.lose).mono fun _ _ ⟨he, hr⟩ => ⟨he, ⟨hr.rot⟩⟩
theorem S.keyA {LA LB : List ByteArray} (h : S w D a b c LA LB W) (k : ByteArray) (e : keyB (keyL 2 LA) = k) : Calls Try.prog 12 #[.pointer (some ⟨a, 0, none⟩)] W (Ret (.string k) (S w D a b c LA LB)) := by
  subst e
  exact h.out.key.mono fun _ _ ⟨he, hr⟩ => ⟨he, ⟨hr⟩⟩
theorem S.chooseA {LA LB : List ByteArray} (h : S w D a b c LA LB W) : Calls Try.prog 13 #[.pointer (some ⟨a, 0, none⟩)] W (RetV fun v W' => ChTo W a 2 LA v W' ∧ S w D a b c LA LB W') :=
  h.out.choose.mono fun _ _ ⟨v, he, hc, hr⟩ => ⟨v, he, hc, ⟨hr⟩⟩
theorem key_aa : keyL 2 [vA, vA] = [vA, vA] := List.perm_replicate.1 (show (keyL 2 [vA, vA]).Perm (List.replicate 2 vA) from keyL_perm [vA, vA])
theorem p1 (h : S w D a b c [] [] W) : Calls Try.prog 11 #[.pointer (some ⟨a, 0, none⟩), .string vA] W (Ret (.int .i64 0) (S w D a b c [vA] [])) := h.putA (LA' := [vA]) vA 0 (by decide +kernel) (by decide +kernel)
theorem p2 (h : S w D a b c [vA] [] W) : Calls Try.prog 11 #[.pointer (some ⟨a, 0, none⟩), .string vB] W (Ret (.int .i64 0) (S w D a b c [vA, vB] [])) := h.putA (LA' := [vA, vB]) vB 0 (by decide +kernel) (by decide +kernel)
theorem p3 (h : S w D a b c [vA, vB] [] W) : Calls Try.prog 11 #[.pointer (some ⟨a, 0, none⟩), .string vA] W (Ret (.int .i64 0) (S w D a b c [vA, vB, vA] [])) := h.putA (LA' := [vA, vB, vA]) vA 0 (by decide +kernel) (by decide +kernel)
theorem p4 (h : S w D a b c [vA, vB, vA] [] W) : Calls Try.prog 11 #[.pointer (some ⟨a, 0, none⟩), .string vC] W (Ret (.int .i64 7) (S w D a b c [vA, vB, vA] [])) := h.putA (LA' := [vA, vB, vA]) vC 7 (by decide +kernel) (by decide +kernel)
theorem t1 (h : S w D a b c [vA, vB, vA] [] W) : Calls Try.prog 18 #[.pointer (some ⟨a, 0, none⟩), .int .i64 2] W (Ret (.tuple #[.string ⟨#[]⟩, .int .i64 9]) (S w D a b c [vA, vB, vA] [])) := h.takeA (LA' := [vA, vB, vA]) 2 ⟨#[]⟩ 9 (by decide +kernel) (by decide +kernel) (by decide +kernel)
theorem t2 (h : S w D a b c [vA, vB, vA] [] W) : Calls Try.prog 18 #[.pointer (some ⟨a, 0, none⟩), .int .i64 1] W (Ret (.tuple #[.string vB, .int .i64 0]) (S w D a b c [vA, vA] [])) := h.takeA (LA' := [vA, vA]) 1 vB 0 (by decide +kernel) (by decide +kernel) (by decide +kernel)
theorem k1 (h : S w D a b c [vA, vA] [] W) : Calls Try.prog 12 #[.pointer (some ⟨a, 0, none⟩)] W (Ret (.string ⟨#[1, 97, 1, 97]⟩) (S w D a b c [vA, vA] [])) := h.keyA ⟨#[1, 97, 1, 97]⟩ (by rw [key_aa]; decide +kernel)
theorem q1 (h : S w D a b c [vA, vA] [] W) : Calls Try.prog 11 #[.pointer (some ⟨b, 0, none⟩), .string vA] W (Ret (.int .i64 0) (S w D a b c [vA, vA] [vA])) := h.putB (LB' := [vA]) vA 0 (by decide +kernel) (by decide +kernel)
theorem q2 (h : S w D a b c [vA, vA] [vA] W) : Calls Try.prog 11 #[.pointer (some ⟨b, 0, none⟩), .string vB] W (Ret (.int .i64 0) (S w D a b c [vA, vA] [vA, vB])) := h.putB (LB' := [vA, vB]) vB 0 (by decide +kernel) (by decide +kernel)
theorem r1 (h : S w D a b c [vA, vA] [vA, vB] W) : Calls Try.prog 18 #[.pointer (some ⟨b, 0, none⟩), .int .i64 1] W (Ret (.tuple #[.string ⟨#[]⟩, .int .i64 9]) (S w D a b c [vA, vA] [vA, vB])) := h.takeB (LB' := [vA, vB]) 1 ⟨#[]⟩ 9 (by decide +kernel) (by decide +kernel) (by decide +kernel)
theorem r2 (h : S w D a b c [vA, vA] [vA, vB] W) : Calls Try.prog 17 #[.pointer (some ⟨b, 0, none⟩)] W (Ret (.tuple #[.string vA, .int .i64 0]) (S w D a b c [vA, vA] [vB])) := h.loseB (LB' := [vB]) vA 0 (by decide +kernel) (by decide +kernel) (by decide +kernel)
theorem r3 (h : S w D a b c [vA, vA] [vB] W) : Calls Try.prog 18 #[.pointer (some ⟨b, 0, none⟩), .int .i64 0] W (Ret (.tuple #[.string vB, .int .i64 0]) (S w D a b c [vA, vA] [])) := h.takeB (LB' := []) 0 vB 0 (by decide +kernel) (by decide +kernel) (by decide +kernel)
theorem r4 (h : S w D a b c [vA, vA] [] W) : Calls Try.prog 17 #[.pointer (some ⟨b, 0, none⟩)] W (Ret (.tuple #[.string ⟨#[]⟩, .int .i64 9]) (S w D a b c [vA, vA] [])) := h.loseB (LB' := []) ⟨#[]⟩ 9 (by decide +kernel) (by decide +kernel) (by decide +kernel)
theorem chl_ab : chlK 2 [vA, vB, vA] 3 = [(0, vA), (1, vB)] := by decide +kernel
end
theorem eql_seq (w : World) (f : Nat) (lb : Array Value) : (binOp .eql 33 (.func (.func f) #[] lb) .nilFunc).run Try.prog w = .ok (.bool false) w := run_eql_func w 33 _ _ _ f lb Try.underlying33
/-- while the choices are gone through -/
structure KI (W5 : World) (nb : Nat) (pre : List (Nat × ByteArray)) (W : World) : Prop where
  fr : Frm [nb] W5 W
  nb : W.heap[nb]? = some (.cells #[.int .i64 pre.length] 3 (0, 0))
theorem Bk.oldF {F : List Nat} {B : Nat} {w0 w w' : World} (h : Bk B w w') (h0 : Frm F w0 w) (hB : w0.heap.size ≤ B) : Frm F w0 w' :=
  ⟨h.os.trans h0.os, h.tape.trans h0.tape, h.output.trans h0.output, Nat.le_trans h0.size h.size, fun k hk hn => by
    have e := h0.block k hk hn
    have hk' : w0.heap[k]? = some (w0.heap[k]) := Array.getElem?_eq_getElem hk
    rw [hk'] at e ⊢
    exact h.block k _ e (.inl (by omega))⟩
theorem KI.bk {W5 W W' : World} {nb B : Nat} {pre : List (Nat × ByteArray)} (h : KI W5 nb pre W) (hb : Bk B W W') (hB : W5.heap.size ≤ B) : KI W5 nb pre W' := ⟨hb.oldF h.fr hB, hb.at h.nb rfl⟩
theorem two_split {pre rest : List (Nat × ByteArray)} {x : Nat × ByteArray} (h : [(0, vA), (1, vB)] = pre ++ x :: rest) : (pre = [] ∧ x = (0, vA)) ∨ (pre = [(0, vA)] ∧ x = (1, vB)) := by
  rcases pre with _ | ⟨p, _ | ⟨q, pre⟩⟩
  · simp at h; exact .inl ⟨rfl, h.1.symm⟩
  · simp at h; exact .inr ⟨by rw [← h.1], h.2.1.symm⟩
  · simp at h
theorem iter_ab (bl bc cb : Nat) (sv : Value) : Iter Fence.wide 2 Try.prog 27 #[.pointer (some ⟨bl, 0, none⟩), .pointer (some ⟨bc, 0, none⟩)] encC (ChR bl bc cb 2 sv [vA, vB, vA]) [(0, vA), (1, vB)] := by
  have h := chc_iter bl bc cb 2 sv [vA, vB, vA] (by decide) (by decide) (by simp)
  rwa [show chlK 2 [vA, vB, vA] [vA, vB, vA].length = [(0, vA), (1, vB)] from chl_ab] at h
theorem Chn.lt' {w : World} {cb : Nat} {cls cap : Int} {L : List ByteArray} {F : List Nat} (h : Chn w cb cls cap L F) {k : Nat} (hk : k = cb) : k < w.heap.size := by
  subst hk
  obtain ⟨sv, e1, -⟩ := h; exact lt_of_block e1
theorem KI.chr {W5 x4 W : World} {bl bc cb : Nat} {cls : Int} {sv : Value} {L : List ByteArray} {pre : List (Nat × ByteArray)} {o : Obj} (h : KI W5 x4.heap.size pre W) (hc : ChR bl bc cb cls sv L W5) (h1 : (x4.alloc o).heap.size ≤ bl) (h2 : (x4.alloc o).heap.size ≤ bc)
    (h3 : ∀ k, sv.ownBlock = some k → (x4.alloc o).heap.size ≤ k) (h4 : cb < x4.heap.size) : ChR bl bc cb cls sv L W := by
  simp only [World.size_alloc] at h1 h2 h3
  refine ⟨h.fr.at hc.1 (by simp; omega), hc.2.1.frm h.fr (fun k hk hx => by have := h3 k hk; simp at hx; omega), h.fr.at hc.2.2.1 (by simp; omega), h.fr.cellAt hc.2.2.2 (by simp; omega)⟩
theorem KI.step {W5 W : World} {nb : Nat} {pre : List (Nat × ByteArray)} {X : Obj} {k : Int} (h : KI W5 nb pre W) (x : Nat × ByteArray) (hk : k = pre.length + 1) : KB W ((W.alloc X).setCell ⟨nb, 0, none⟩ (.int .i64 k)) ∧ KI W5 nb (pre ++ [x]) ((W.alloc X).setCell ⟨nb, 0, none⟩ (.int .i64 k)) := by
  subst hk
  have hf : Frm [nb] W ((W.alloc X).setCell ⟨nb, 0, none⟩ (.int .i64 ((pre.length : Int) + 1))) := ((Frm.refl _ _).alloc _).setCell _ (.inl (by simp)) _
  refine ⟨KB.frm hf (fun y hy => ?_), ⟨h.fr.trans hf, ?_⟩⟩
  · simp at hy; subst hy; exact not_books h.nb rfl
  · refine (block_setCell (alloc_at h.nb) 0 _).trans ?_
    simp
theorem n23 (w : World) : Calls Try.prog 9 #[.int .i64 2, .int .i64 3] w (Ret (.tuple #[.pointer (some ⟨w.heap.size, 0, none⟩), .int .i64 0]) (fun w' => Frm [] w w' ∧ Chn w' w.heap.size 2 3 [] [w.heap.size])) := new_ok 2 3 w (by decide)
theorem n32 (w : World) : Calls Try.prog 9 #[.int .i64 3, .int .i64 2] w (Ret (.tuple #[.pointer (some ⟨w.heap.size, 0, none⟩), .int .i64 0]) (fun w' => Frm [] w w' ∧ Chn w' w.heap.size 3 2 [] [w.heap.size])) := new_ok 3 2 w (by decide)
theorem n11 (w : World) : Calls Try.prog 9 #[.int .i64 1, .int .i64 1] w (Ret (.tuple #[.pointer (some ⟨w.heap.size, 0, none⟩), .int .i64 0]) (fun w' => Frm [] w w' ∧ Chn w' w.heap.size 1 1 [] [w.heap.size])) := new_ok 1 1 w (by decide)
theorem n41 (w : World) : Calls Try.prog 9 #[.int .i64 4, .int .i64 1] w (Ret (.tuple #[.pointer none, .int .i64 2]) (w = ·)) := new_bad 4 1 w (by decide)
theorem n165 (w : World) : Calls Try.prog 9 #[.int .i64 1, .int .i64 65] w (Ret (.tuple #[.pointer none, .int .i64 2]) (w = ·)) := new_bad 1 65 w (by decide)
set_option maxHeartbeats 1000000 in
set_option maxRecDepth 100000 in
theorem known_any (w : World) : Calls Try.prog 8 #[] w (Ret (.bool true) (Frm [] w)) := by
  have hqf := eql_seq
  have G1 := Lib.hid n23; have G2 := Lib.hid n32; have G3 := Lib.hid n11; have G4 := Lib.hid n41; have G5 := Lib.hid n165
  have HB : Hid ((w.alloc (.cells #[.bool false] 4)).heap[w.heap.size]? = some (.cells #[.bool false] 4 (0, 0))) := Lib.hid (heap_alloc_new _ _)
  refine calls_of_marks Try.func8 rfl ?_
  simp only [Try.ntmps8, List.size_toArray, List.length_nil, Nat.reduceSub, Array.replicate_succ, Array.replicate_zero, List.push_toArray, List.append_toArray, List.nil_append, List.cons_append]
  go_wp2_with (first
    | (go_at_call 9; go_must (first
        | (refine (G1.out _).mono ?_; clear G1; rintro e w1 ⟨rfl, h⟩; have N1 := Lib.hid h; clear h)
        | (refine (G2.out _).mono ?_; clear G2; rintro e w2 ⟨rfl, h⟩; have N2 := Lib.hid h; clear h)
        | (refine (G3.out _).mono ?_; clear G3; rintro e w3 ⟨rfl, h⟩; have H0 : Hid (S (w.alloc (.cells #[.bool false] 4)) [] (w.heap.size + 1) w1.heap.size w2.heap.size [] [] w3) := Lib.hid ⟨K3.mk3 rfl rfl rfl (by simp) rfl rfl N1.out N2.out h⟩; clear h)
        | (refine (G4.out _).mono ?_; clear G4; rintro e w' ⟨rfl, rfl⟩)
        | (refine (G5.out _).mono ?_; clear G5; rintro e w' ⟨rfl, rfl⟩)))
    | (go_at_call 10; go_must (refine (num_any _ _).mono ?_; rintro e w' ⟨rfl, rfl⟩))
    | (go_at_call 11; go_must (first
        | (refine (p1 H0.out).mono ?_; rintro e x1 ⟨rfl, h⟩; have H1 := Lib.hid h; clear h H0)
        | (refine (p2 H1.out).mono ?_; rintro e x2 ⟨rfl, h⟩; have H2 := Lib.hid h; clear h H1)
        | (refine (p3 H2.out).mono ?_; rintro e x3 ⟨rfl, h⟩; have H3 := Lib.hid h; clear h H2)
        | (refine (p4 H3.out).mono ?_; rintro e x4 ⟨rfl, h⟩; have H4 := Lib.hid h; clear h H3)))
    | (go_at_call 13; go_must (refine (S.chooseA (H4.out.frm ((Frm.refl [] x4).alloc (.cells #[.int .i64 0] 3)))).mono ?_; rintro e x5 ⟨v, rfl, ⟨bl, bc, sv, rfl, hch⟩, h⟩; have H5 := Lib.hid h; have HCH := Lib.hid hch; clear h hch)))
  have hit := iter_ab bl bc (w.heap.size + 1) sv
  have hx4 : w.heap.size + 1 < x4.heap.size := by
    obtain ⟨FA, FB, FC, k1, -⟩ := H4.out.out.out
    exact k1.lt' rfl
  have HCR : Hid (∀ pre W, KI x5 x4.heap.size pre W → ChR bl bc (w.heap.size + 1) 2 sv [vA, vB, vA] W) := Lib.hid fun pre W h => h.chr HCH.out.1 HCH.out.2.2.1 HCH.out.2.2.2.1 HCH.out.2.2.2.2 hx4
  have HN0 : Hid (KI x5 x4.heap.size [] x5) := Lib.hid ⟨Frm.refl _ _, HCH.out.2.1.at (heap_alloc_new _ _) (by simp)⟩
  have HX4 := Lib.hid HCH.out.2.1
  clear H5 HCH N1 N2 hx4
  refine wp_rangeList rfl (enters_of Try.func27 (by kernel_rfl) rfl) hit (fun _ => rfl)
    (KI x5 x4.heap.size) (fun _ _ _ => False) (fun _ _ _ h hb => h.bk hb (Nat.le_refl _)) (fun _ _ _ _ h _ => h) HCR.out HN0.out ?_ ?_ (fun _ _ _ _ _ _ _ _ h => h.elim)
  · intro l pre x rest Wr hxs hI hl hlr
    have HI := Lib.hid hI
    clear hI hlr hl
    simp only [encC]
    rcases two_split hxs with ⟨rfl, rfl⟩ | ⟨rfl, rfl⟩
    · clear hxs
      gi_wp2
      refine ⟨KB.refl _, fun Wq hbk _ => ?_⟩
      have HI2 := Lib.hid (HI.out.bk hbk (Nat.le_refl _))
      have cn := cell_of HI2.out.nb 0
      have cn2 := cell_of (alloc_at (x := .cells #[.string { data := #[97] }, .string { data := #[98] }] 9) HI2.out.nb) 0
      have fn2 := free_of (alloc_at (x := .cells #[.string { data := #[97] }, .string { data := #[98] }] 9) HI2.out.nb) 0
      clear hbk
      gi_wp2
      exact HI2.out.step (X := .cells #[.string { data := #[97] }, .string { data := #[98] }] 9) (0, vA) rfl
    · clear hxs
      gi_wp2
      refine ⟨KB.refl _, fun Wq hbk _ => ?_⟩
      have HI2 := Lib.hid (HI.out.bk hbk (Nat.le_refl _))
      have cn := cell_of HI2.out.nb 0
      have cn2 := cell_of (alloc_at (x := .cells #[.string { data := #[97] }, .string { data := #[98] }] 9) HI2.out.nb) 0
      have fn2 := free_of (alloc_at (x := .cells #[.string { data := #[97] }, .string { data := #[98] }] 9) HI2.out.nb) 0
      clear hbk
      gi_wp2
      exact HI2.out.step (X := .cells #[.string { data := #[97] }, .string { data := #[98] }] 9) (1, vB) rfl
  · intro D W hD hI hK
    have hxW : Frm [] x4 W := ((Frm.refl [] x4).alloc (.cells #[.int .i64 0] 3)).trans HX4.out |>.then hI.fr (by intro y hy; simp at hy; right; omega)
    have hDs : x4.heap.size ≤ D := Nat.le_trans (by have := HX4.out.size; simp at this; omega) hD
    have J0 : Hid (S (w.alloc (.cells #[.bool false] 4)) [(D, .deferred (some [])), (x4.heap.size, .cells #[.int .i64 2] 3 (0, 0)), (w.heap.size, .cells #[.bool false] 4 (0, 0))] (w.heap.size + 1) w1.heap.size w2.heap.size [vA, vB, vA] [] W) :=
      Lib.hid ⟨(H4.out.frm hxW).out.keep (by
        intro p hp
        simp only [List.mem_cons, List.not_mem_nil, or_false] at hp
        rcases hp with rfl | rfl | rfl
        · exact ⟨hK, rfl⟩
        · exact ⟨hI.nb, rfl⟩
        · exact ⟨hxW.at (H4.out.out.old.at HB.out (by simp)) (by simp), rfl⟩)⟩
    have HDS := Lib.hid hDs
    have HWS : Hid (w.heap.size + 1 ≤ x4.heap.size) := Lib.hid (by have := H4.out.out.old.size; simpa using this)
    clear hxW hD hI hK H4 hit HX4 HCR HN0 hDs HB
    go_wp2_with (first
      | (go_at_call 18; go_must (first
          | (refine (t1 J0.out).mono ?_; rintro e y1 ⟨rfl, h⟩; have J1 := Lib.hid h; clear h J0)
          | (refine (t2 J1.out).mono ?_; rintro e y2 ⟨rfl, h⟩; have J2 := Lib.hid h; have cn := cell_of (h.out.kept (p := (x4.heap.size, .cells #[.int .i64 2] 3 (0, 0))) (by simp)) 0; clear h J1)
          | (refine (r1 J5.out).mono ?_; rintro e y6 ⟨rfl, h⟩; have J6 := Lib.hid h; clear h J5)
          | (refine (r3 J7.out).mono ?_; rintro e y8 ⟨rfl, h⟩; have J8 := Lib.hid h; clear h J7)))
      | (go_at_call 12; go_must (refine (k1 J2.out).mono ?_; rintro e y3 ⟨rfl, h⟩; have J3 := Lib.hid h; clear h J2))
      | (go_at_call 10; go_must (refine (num_any _ _).mono ?_; rintro e w' ⟨rfl, rfl⟩))
      | (go_at_call 11; go_must (first
          | (refine (q1 J3.out).mono ?_; rintro e y4 ⟨rfl, h⟩; have J4 := Lib.hid h; clear h J3)
          | (refine (q2 J4.out).mono ?_; rintro e y5 ⟨rfl, h⟩; have J5 := Lib.hid h; clear h J4)))
      | (go_at_call 17; go_must (first
          | (refine (r2 J6.out).mono ?_; rintro e y7 ⟨rfl, h⟩; have J7 := Lib.hid h; clear h J6)
          | (refine (r4 J8.out).mono ?_; rintro e y9 ⟨rfl, h⟩; have J9 := Lib.hid h; clear h J8)
          | (refine (S.loseC J9.out).mono ?_; rintro e y10 ⟨rfl, h⟩; have J10 := Lib.hid h; have cr := cell_of (h.out.kept (p := (w.heap.size, .cells #[.bool false] 4 (0, 0))) (by simp)) 0; have fr := free_of (h.out.kept (p := (w.heap.size, .cells #[.bool false] 4 (0, 0))) (by simp)) 0; clear h J9))))
    have hKD : (y10.setCell ⟨w.heap.size, 0, none⟩ (.bool true)).heap[D]? = some (.deferred (some [])) :=
      setCell_at (J10.out.out.kept (p := (D, .deferred (some []))) (by simp)) (by have := HDS.out; have := HWS.out; simp; omega) _
    have hb := block_setCell (J10.out.out.kept (p := (w.heap.size, .cells #[.bool false] 4 (0, 0))) (by simp)) 0 (.bool true)
    have hf8 : Frm [] w ((y10.setCell ⟨w.heap.size, 0, none⟩ (.bool true)).putObj D (.deferred none)) :=
      ((((Frm.refl [] w).alloc _).trans J10.out.out.old).setCell _ (.inr (Nat.le_refl _)) _).then (Frm.putObj _ D _) (by intro x hx; simp at hx; right; have := HDS.out; have := HWS.out; omega)
    have hc : ((y10.setCell ⟨w.heap.size, 0, none⟩ (.bool true)).putObj D (.deferred none)).cell? ⟨w.heap.size, 0, none⟩ = some (.bool true) := by
      refine (cell_of ((Frm.putObj _ D _).at hb (by have := HDS.out; have := HWS.out; simp; omega)) 0).trans rfl
    refine leaves_mark hKD ⟨.bool true, ?_, rfl, hf8⟩
    generalize (y10.setCell ⟨w.heap.size, 0, none⟩ (.bool true)).putObj D (.deferred none) = Wf at hc
    clear hf8 hKD hb cr fr cn
    simp [results, Try.results8, go_sem, hc]
end Go.Proofs.Ythelfpenccpkeaa
