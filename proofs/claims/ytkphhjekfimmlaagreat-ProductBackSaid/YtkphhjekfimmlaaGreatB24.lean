/- product: systems and states that are none; a state of another system; numbers that do not exist. The law of layer 33: the session of the chapter's examples. The law of layer 33: the examples of the chapter hold. The reference of layer 28: two roles, two sessions that read alike are the same. -/
import Derived.Test.YtkphhjekfimmlaaGreatB14
import Derived.Test.YtkphhjekfimmlaaGreatB16
import Derived.Test.YtkphhjekfimmlaaGreatB23
import Derived.Lib.SliceRun
import Derived.Lib.Builder
import Derived.LaidEql
import Derived.Test.YtkphhjekfimmlaaGreatB20
namespace Go.Proofs.YtkphhjekfimmlaaGreat
open Go.RowKit Go.BigFrame

/-- a state that is nil or zero; a system that is nil or zero -/
def NoS (W : World) (xo : Option Addr) : Prop := xo = none ∨ ∃ xb, xo = some ⟨xb, 0, none⟩ ∧ W.heap[xb]? = some (.cells #[.pointer none, .slice none 0 0, .slice none 0 0] 119 (0, 0))
def NoY (W : World) (yo : Option Addr) : Prop := yo = none ∨ ∃ yb, yo = some ⟨yb, 0, none⟩ ∧ W.heap[yb]? = some (.cells #[.string { data := #[] }, .slice none 0 0, .int .i64 0, .int .i64 0, .pointer none] 114 (0, 0))
section
variable {w w' : World} {xo yo : Option Addr}
theorem NoS.frm (h : NoS w xo) (hf : Frm [] w w') : NoS w' xo := by
  rcases h with h | ⟨xb, h1, h2⟩
  · exact .inl h
  · exact .inr ⟨xb, h1, hf.at h2 (by simp)⟩
theorem NoY.frm (h : NoY w yo) (hf : Frm [] w w') : NoY w' yo := by
  rcases h with h | ⟨xb, h1, h2⟩
  · exact .inl h
  · exact .inr ⟨xb, h1, hf.at h2 (by simp)⟩
theorem pNone_no (h : NoY w yo) : Calls Tryz.prog 63 #[.pointer yo] w (Ret (.bool true) (w = ·)) := by
  rcases h with rfl | ⟨yb, rfl, h⟩
  · go_enter Tryz.func63, Tryz.ntmps63
    go_wp2
    go_ret
    exact ⟨rfl, rfl⟩
  · have c4 := cell_of h 4
    clear h
    go_enter Tryz.func63, Tryz.ntmps63
    go_wp2
    go_ret
    exact ⟨rfl, rfl⟩
theorem pSnone_no (h : NoS w xo) : Calls Tryz.prog 69 #[.pointer xo] w (Ret (.bool true) (w = ·)) := by
  rcases h with rfl | ⟨xb, rfl, h⟩
  · go_enter Tryz.func69, Tryz.ntmps69
    go_wp2
    go_ret
    exact ⟨rfl, rfl⟩
  · have c0 := cell_of h 0
    clear h
    go_enter Tryz.func69, Tryz.ntmps69
    go_wp2
    go_ret
    exact ⟨rfl, rfl⟩
/-- what check answers to a system that is none, or to a state that is none -/
theorem pCheck_noY (h : NoY w yo) (xo : Option Addr) : Calls Tryz.prog 56 #[.pointer yo, .pointer xo] w (Ret (.int .i64 1) (w = ·)) := by
  have C1 := Lib.hid (pNone_no h)
  clear h
  go_enter Tryz.func56, Tryz.ntmps56
  go_wp2_with (first
    | (go_at_call 63; go_must (refine C1.out.mono ?_; rintro e w' ⟨rfl, rfl⟩)))
  go_ret
  exact ⟨rfl, rfl⟩
theorem pCheck_noS (s : SesD) (yb fb : Nat) (h : SyR w s yb fb) (hx : NoS w xo) : Calls Tryz.prog 56 #[.pointer (some ⟨yb, 0, none⟩), .pointer xo] w (Ret (.int .i64 1) (w = ·)) := by
  have C1 := Lib.hid (pNone_any s yb fb w h)
  have C2 := Lib.hid (pSnone_no hx)
  clear h hx
  go_enter Tryz.func56, Tryz.ntmps56
  go_wp2_with (first
    | (go_at_call 63; go_must (refine C1.out.mono ?_; rintro e w' ⟨rfl, rfl⟩))
    | (go_at_call 69; go_must (refine C2.out.mono ?_; rintro e w' ⟨rfl, rfl⟩)))
  go_ret
  exact ⟨rfl, rfl⟩
theorem sys_other (a b : Nat) (hne : a ≠ b) (W : World) {ca cb : Array Value} {ta tb : TypeId} (ha : W.heap[a]? = some (.cells ca ta (0, 0))) (hb : W.heap[b]? = some (.cells cb tb (0, 0))) : (binOp .neq 29 (.pointer (some ⟨a, 0, none⟩)) (.pointer (some ⟨b, 0, none⟩))).run Tryz.prog W = .ok (.bool true) W := by
  have h : (Tryz.prog.info? 114).map (·.size) = some 5 := by kernel_rfl
  obtain ⟨j, hj, hs⟩ := Option.map_eq_some_iff.1 h
  have hab : (⟨a, 0, none⟩ : Addr) ≠ ⟨b, 0, none⟩ := fun e => by injection e with e; exact hne e
  have h2 : ∀ d : Nat, (Op.equalIn (d + 1) 29 (.pointer (some ⟨a, 0, none⟩)) (.pointer (some ⟨b, 0, none⟩))).run Tryz.prog W = .ok false W := fun d => by
    simp [Op.equalIn, run_underlying Tryz.underlying29, sizeOf, typeInfo, hj, hs, run_sameAddr_other (P := Tryz.prog) (w := W) hab ha hb]
  simp only [binOp]
  simp [Op.equal, Op.maxDepth, h2 9999]
theorem pCheck_other (s s2 : SesD) (yb fb y2 fb2 sb : Nat) (x : PS) (h : SyR w s yb fb) (h2 : SyR w s2 y2 fb2) (hx : StR w s2 y2 sb x) (hne : y2 ≠ yb) : Calls Tryz.prog 56 #[.pointer (some ⟨yb, 0, none⟩), .pointer (some ⟨sb, 0, none⟩)] w (Ret (.int .i64 2) (w = ·)) := by
  have C1 := Lib.hid (pNone_any s yb fb w h)
  have C2 := Lib.hid (pSnone_any s2 y2 sb x w hx)
  obtain ⟨av, wv, h1, -⟩ := hx.out
  have c0 := cell_of h1 0
  obtain ⟨r1, k1, -⟩ := h.out
  obtain ⟨r2, k2, -⟩ := h2.out
  have hq := sys_other y2 yb hne w k2 k1
  clear h h2 hx h1 hne k1 k2
  go_enter Tryz.func56, Tryz.ntmps56
  go_wp2_with (first
    | (go_at_call 63; go_must (refine C1.out.mono ?_; rintro e w' ⟨rfl, rfl⟩))
    | (go_at_call 69; go_must (refine C2.out.mono ?_; rintro e w' ⟨rfl, rfl⟩)))
  go_ret
  exact ⟨rfl, rfl⟩
/-- where check answers an error, so do Do and Final; Moves hands out none -/
theorem pDo_err (m : Mv) (e : Int) (he : e ≠ 0) (hc : ∀ W, Frm [] w W → Calls Tryz.prog 56 #[.pointer yo, .pointer xo] W (Ret (.int .i64 e) (W = ·))) :
    Calls Tryz.prog 24 #[.pointer yo, .pointer xo, mvV m] w (Ret (.tuple #[.pointer none, .int .i64 e]) (Frm [] w)) := by
  have CC := Lib.hid hc
  have q1 : (e == 0) = false := by simpa using he
  have q2 : (e != 0) = true := by simpa using he
  clear hc he
  go_enter Tryz.func24, Tryz.ntmps24
  go_wp2_with (first
    | (go_at_call 56; go_must (refine (CC.out _ ((Frm.refl [] w).alloc _)).mono ?_; rintro e' w' ⟨rfl, rfl⟩)))
  go_ret2
  exact ⟨rfl, (Frm.refl [] w).alloc _⟩
theorem pFinal_err (e : Int) (he : e ≠ 0) (hc : Calls Tryz.prog 56 #[.pointer yo, .pointer xo] w (Ret (.int .i64 e) (w = ·))) :
    Calls Tryz.prog 52 #[.pointer yo, .pointer xo] w (Ret (.tuple #[.bool false, .int .i64 e]) (w = ·)) := by
  have CC := Lib.hid hc
  have q1 : (e == 0) = false := by simpa using he
  have q2 : (e != 0) = true := by simpa using he
  clear hc he
  go_enter Tryz.func52, Tryz.ntmps52
  go_wp2_with (first
    | (go_at_call 56; go_must (refine CC.out.mono ?_; rintro e' w' ⟨rfl, rfl⟩)))
  go_ret2
  exact ⟨rfl, rfl⟩
theorem pMoves_err (e : Int) (he : e ≠ 0) (hc : Calls Tryz.prog 56 #[.pointer yo, .pointer xo] w (Ret (.int .i64 e) (w = ·))) :
    Calls Tryz.prog 16 #[.pointer yo, .pointer xo] w (RetV (MvsTo w [])) := by
  have CC := Lib.hid hc
  have q1 : (e == 0) = false := by simpa using he
  have q2 : (e != 0) = true := by simpa using he
  have C3 := Lib.hid (alMove_any (.slice none 0 0) [] w (Arr.nil _ _ _))
  clear hc he
  go_enter Tryz.func16, Tryz.ntmps16
  go_wp2_with (first
    | (go_at_call 56; go_must (refine CC.out.mono ?_; rintro e' w' ⟨rfl, rfl⟩))
    | (go_at_call 58; go_must (refine C3.out.mono ?_; rintro e w2 ⟨v, rfl, rfl, ha, hf⟩; have HB := Lib.hid ha; have HG := Lib.hid hf; clear ha hf)))
  go_ret
  exact ⟨_, rfl, _, _, rfl, HB.out, HG.out, Nat.le_refl _⟩
theorem pAt_no (h : NoS w xo) (i : Int) : Calls Tryz.prog 53 #[.pointer xo, .int .i64 i] w (Ret (.tuple #[.string { data := #[] }, .int .i64 1]) (w = ·)) := by
  have C1 := Lib.hid (pSnone_no h)
  clear h
  go_enter Tryz.func53, Tryz.ntmps53
  go_wp2_with (first
    | (go_at_call 69; go_must (refine C1.out.mono ?_; rintro e w' ⟨rfl, rfl⟩)))
  go_ret2
  exact ⟨rfl, rfl⟩
theorem pCounter_no (h : NoS w xo) (i : Int) (n : ByteArray) : Calls Tryz.prog 54 #[.pointer xo, .int .i64 i, .string n] w (Ret (.tuple #[.int .i64 0, .int .i64 1]) (w = ·)) := by
  have C1 := Lib.hid (pAt_no h i)
  clear h
  go_enter Tryz.func54, Tryz.ntmps54
  go_wp2_with (first
    | (go_at_call 53; go_must (refine C1.out.mono ?_; rintro e w' ⟨rfl, rfl⟩)))
  go_ret2
  exact ⟨rfl, rfl⟩
theorem pChannel_no (h : NoS w xo) (i k : Int) : Calls Tryz.prog 55 #[.pointer xo, .int .i64 i, .int .i64 k] w (Ret (.tuple #[.slice none 0 0, .int .i64 1]) (w = ·)) := by
  have C1 := Lib.hid (pSnone_no h)
  clear h
  go_enter Tryz.func55, Tryz.ntmps55
  go_wp2_with (first
    | (go_at_call 69; go_must (refine C1.out.mono ?_; rintro e w' ⟨rfl, rfl⟩)))
  go_ret2
  exact ⟨rfl, rfl⟩
/-- the numbers of Channel -/
def chB (n : Nat) (i k : Int) : Bool := decide (0 ≤ i) && decide (i < (n : Int)) && (decide (0 ≤ k) && decide (k < (n : Int))) && !decide (i = k)
theorem pChannel_bad (s : SesD) (yb sb : Nat) (x : PS) (i k : Int) (hx : StR w s yb sb x) (hb : chB s.roles.length i k = false) : Calls Tryz.prog 55 #[.pointer (some ⟨sb, 0, none⟩), .int .i64 i, .int .i64 k] w (Ret (.tuple #[.slice none 0 0, .int .i64 2]) (w = ·)) := by
  have C1 := Lib.hid (pSnone_any s yb sb x w hx)
  have C2 := Lib.hid (pFits_any s yb sb x i w hx)
  have C3 := Lib.hid (pFits_any s yb sb x k w hx)
  unfold chB at hb
  obtain ⟨p, hp⟩ : ∃ p, (decide (0 ≤ i) && decide (i < (s.roles.length : Int))) = p := ⟨_, rfl⟩
  obtain ⟨q, hq⟩ : ∃ q, (decide (0 ≤ k) && decide (k < (s.roles.length : Int))) = q := ⟨_, rfl⟩
  rw [hp] at hb C2
  rw [hq] at hb C3
  clear hp hq hx
  cases p with
  | false =>
    clear hb
    go_enter Tryz.func55, Tryz.ntmps55
    go_wp2_with (first
      | (go_at_call 69; go_must (refine C1.out.mono ?_; rintro e w' ⟨rfl, rfl⟩))
      | (go_at_call 105; go_must (first
          | (refine C2.out.mono ?_; clear C2; rintro e w' ⟨rfl, rfl⟩)
          | (refine C3.out.mono ?_; clear C3; rintro e w' ⟨rfl, rfl⟩))))
    go_ret2
    exact ⟨rfl, rfl⟩
  | true =>
    cases q with
    | false =>
      clear hb
      go_enter Tryz.func55, Tryz.ntmps55
      go_wp2_with (first
        | (go_at_call 69; go_must (refine C1.out.mono ?_; rintro e w' ⟨rfl, rfl⟩))
        | (go_at_call 105; go_must (first
            | (refine C2.out.mono ?_; clear C2; rintro e w' ⟨rfl, rfl⟩)
            | (refine C3.out.mono ?_; clear C3; rintro e w' ⟨rfl, rfl⟩))))
      go_ret2
      exact ⟨rfl, rfl⟩
    | true =>
      have e : i = k := by simpa using hb
      subst e
      have hq : (i == i) = true := by simp
      clear hb
      go_enter Tryz.func55, Tryz.ntmps55
      go_wp2_with (first
        | (go_at_call 69; go_must (refine C1.out.mono ?_; rintro e w' ⟨rfl, rfl⟩))
        | (go_at_call 105; go_must (first
            | (refine C2.out.mono ?_; clear C2; rintro e w' ⟨rfl, rfl⟩)
            | (refine C3.out.mono ?_; clear C3; rintro e w' ⟨rfl, rfl⟩))))
      go_ret2
      exact ⟨rfl, rfl⟩
theorem pDecode_no (h : NoY w yo) (key : ByteArray) : Calls Tryz.prog 21 #[.pointer yo, .string key] w (Ret (.tuple #[.pointer none, .int .i64 1]) (w = ·)) := by
  have C1 := Lib.hid (pNone_no h)
  clear h
  go_enter Tryz.func21, Tryz.ntmps21
  go_wp2_with (first
    | (go_at_call 63; go_must (refine C1.out.mono ?_; rintro e w' ⟨rfl, rfl⟩)))
  go_ret2
  exact ⟨rfl, rfl⟩
theorem pFirst_no (h : NoY w yo) : Calls Tryz.prog 20 #[.pointer yo] w (Ret (.pointer none) (w = ·)) := by
  have C1 := Lib.hid (pNone_no h)
  clear h
  go_enter Tryz.func20, Tryz.ntmps20
  go_wp2_with (first
    | (go_at_call 63; go_must (refine C1.out.mono ?_; rintro e w' ⟨rfl, rfl⟩)))
  go_ret
  exact ⟨rfl, rfl⟩
set_option maxRecDepth 100000 in
theorem pKey_no (h : NoS w xo) : Calls Tryz.prog 22 #[.pointer xo] w (Ret (.string { data := #[] }) (Frm [] w)) := by
  have hf0 : Frm [] w (w.alloc (.cells #[.slice none 0 0] 26)) := (Frm.refl [] w).alloc _
  have C1 := Lib.hid h
  clear h
  refine calls_of_marks Tryz.func22 rfl ?_
  simp only [Tryz.ntmps22, List.size_toArray, List.length_cons, List.length_nil, Nat.reduceAdd, Nat.reduceSub, Array.replicate_succ, Array.replicate_zero, List.push_toArray, List.append_toArray, List.nil_append, List.cons_append]
  go_wp2_with (first
    | (go_at_call 69; go_must (refine (pSnone_no C1.out).mono ?_; rintro e w' ⟨rfl, rfl⟩)))
  exact leaves_many [] _ List.nodup_nil (by simp) ⟨_, by simp [results, Tryz.results22, go_sem, unmark], rfl, Frm.refl _ _⟩
theorem pSession_no (h : NoY w yo) : Calls Tryz.prog 26 #[.pointer yo] w (Ret (.agg #[.string { data := #[] }, .slice none 0 0, .int .i64 0, .int .i64 0]) (Frm [] w)) := by
  have hf0 : Frm [] w (w.alloc (.cells #[.string { data := #[] }, .slice none 0 0, .int .i64 0, .int .i64 0] 25)) := (Frm.refl [] w).alloc _
  have C1 := Lib.hid (pNone_no (h.frm hf0))
  clear h
  go_enter Tryz.func26, Tryz.ntmps26
  go_wp2_with (first
    | (go_at_call 63; go_must (refine C1.out.mono ?_; rintro e w' ⟨rfl, rfl⟩))
    | (refine wpList_store_row rfl 25 _ _ rfl _ _ _ 25 rfl rfl (heap_alloc_new w _) rfl (by kernel_rfl) (by simp [Value.oneCell']) ?_; intro w2 hb2 hf2))
  exact bodyPost_ret (results_c1 (d := _) (Tryz.results26) rfl hb2 rfl Tryz.underlying25 (by kernel_rfl)) rfl ⟨rfl, ((Frm.refl [] w).alloc _).then hf2 (by intro y hy; simp at hy; right; omega)⟩
end
end Go.Proofs.YtkphhjekfimmlaaGreat
namespace Go.Proofs.YtkphhjekfimmlaaGreat
open Go.RowKit Go.BigFrame

def bA : ByteArray := { data := #[97] }
def bB : ByteArray := { data := #[98] }
def bX : ByteArray := { data := #[120] }
def bY : ByteArray := { data := #[121] }
def bM : ByteArray := { data := #[109] }
def bS : ByteArray := { data := #[115] }
/-- the session of the examples -/
def smS (cap : Int) : SesD := ⟨bS, [⟨bA, [⟨bX, true, 0⟩], [], [⟨bX, bX, 1, bM, bB, emptyS, 0, 0, 0⟩]⟩, ⟨bB, [⟨bY, true, 0⟩], [], [⟨bY, bY, 2, bM, bA, emptyS, 0, 0, 0⟩]⟩], 1, cap⟩
theorem smS_ck : ckSes (smS 1) = 0 := by decide +kernel
theorem smS_sm (cap : Int) : SmS (smS cap) := by
  refine ⟨by simp [smS], fun r hr => ?_⟩
  simp only [smS, List.mem_cons, List.not_mem_nil, or_false] at hr
  rcases hr with rfl | rfl
  all_goals
    refine ⟨by simp, by simp, by simp, fun x hx => ?_, fun x hx => ?_⟩
    · simp only [List.mem_cons, List.not_mem_nil, or_false] at hx
      subst hx
      unfold wf64; decide
    · simp only [List.mem_cons, List.not_mem_nil, or_false] at hx
      subst hx
      decide
set_option maxHeartbeats 2000000 in
set_option maxRecDepth 100000 in
theorem sample33_any (w : World) : Calls Tryz.prog 51 #[] w (RetV fun v w' => SesV w' v (smS 1) ∧ Frm [] w w') := by
  go_enter Tryz.func51, Tryz.ntmps51
  go_upto_region 3 with fail
  obtain ⟨X, hX⟩ : ∃ X, (((((((w.alloc (.cells #[.string { data := #[] }, .slice none 0 0, .int .i64 0, .int .i64 0] 25)).alloc (.cells #[.string { data := #[120] }, .bool true, .int .i64 0] 62)).alloc (.cells #[.string { data := #[120] }, .string { data := #[120] }, .int .i64 1, .string { data := #[109] }, .string { data := #[98] }, .string { data := #[] }, .int .i64 0, .int .i64 0, .int .i64 0] 60)).alloc (.cells #[.string { data := #[97] }, .slice (some ⟨w.heap.size + 1, 0, none⟩) 1 1, .slice none 0 0, .slice (some ⟨w.heap.size + 1 + 1, 0, none⟩) 1 1] 53)).alloc (.cells #[.string { data := #[121] }, .bool true, .int .i64 0] 62)).alloc (.cells #[.string { data := #[121] }, .string { data := #[121] }, .int .i64 2, .string { data := #[109] }, .string { data := #[97] }, .string { data := #[] }, .int .i64 0, .int .i64 0, .int .i64 0] 60)).alloc (.cells #[.string { data := #[98] }, .slice (some ⟨w.heap.size + 1 + 1 + 1 + 1, 0, none⟩) 1 1, .slice none 0 0, .slice (some ⟨w.heap.size + 1 + 1 + 1 + 1 + 1, 0, none⟩) 1 1] 53)) = X := ⟨_, rfl⟩
  have HF : Hid (Frm [] w X) := Lib.hid (by rw [← hX]; exact (((((((Frm.refl [] w).alloc _).alloc _).alloc _).alloc _).alloc _).alloc _).alloc _)
  have H0 : Hid (X.heap[w.heap.size]? = some (.cells #[.string { data := #[] }, .slice none 0 0, .int .i64 0, .int .i64 0] 25 (0, 0))) := Lib.hid (by rw [← hX]; exact alloc_at (alloc_at (alloc_at (alloc_at (alloc_at (alloc_at (alloc_top (by simp))))))))
  have H1 : Hid (X.heap[w.heap.size + 1]? = some (.cells #[.string { data := #[120] }, .bool true, .int .i64 0] 62 (0, 0))) := Lib.hid (by rw [← hX]; exact alloc_at (alloc_at (alloc_at (alloc_at (alloc_at (alloc_top (by simp)))))))
  have H2 : Hid (X.heap[w.heap.size + 1 + 1]? = some (.cells #[.string { data := #[120] }, .string { data := #[120] }, .int .i64 1, .string { data := #[109] }, .string { data := #[98] }, .string { data := #[] }, .int .i64 0, .int .i64 0, .int .i64 0] 60 (0, 0))) := Lib.hid (by rw [← hX]; exact alloc_at (alloc_at (alloc_at (alloc_at (alloc_top (by simp))))))
  have H3 : Hid (X.heap[w.heap.size + 1 + 1 + 1]? = some (.cells #[.string { data := #[97] }, .slice (some ⟨w.heap.size + 1, 0, none⟩) 1 1, .slice none 0 0, .slice (some ⟨w.heap.size + 1 + 1, 0, none⟩) 1 1] 53 (0, 0))) := Lib.hid (by rw [← hX]; exact alloc_at (alloc_at (alloc_at (alloc_top (by simp)))))
  have H4 : Hid (X.heap[w.heap.size + 1 + 1 + 1 + 1]? = some (.cells #[.string { data := #[121] }, .bool true, .int .i64 0] 62 (0, 0))) := Lib.hid (by rw [← hX]; exact alloc_at (alloc_at (alloc_top (by simp))))
  have H5 : Hid (X.heap[w.heap.size + 1 + 1 + 1 + 1 + 1]? = some (.cells #[.string { data := #[121] }, .string { data := #[121] }, .int .i64 2, .string { data := #[109] }, .string { data := #[97] }, .string { data := #[] }, .int .i64 0, .int .i64 0, .int .i64 0] 60 (0, 0))) := Lib.hid (by rw [← hX]; exact alloc_at (alloc_top (by simp)))
  have H6 : Hid (X.heap[w.heap.size + 1 + 1 + 1 + 1 + 1 + 1]? = some (.cells #[.string { data := #[98] }, .slice (some ⟨w.heap.size + 1 + 1 + 1 + 1, 0, none⟩) 1 1, .slice none 0 0, .slice (some ⟨w.heap.size + 1 + 1 + 1 + 1 + 1, 0, none⟩) 1 1] 53 (0, 0))) := Lib.hid (by rw [← hX]; exact alloc_top (by simp))
  rw [hX]
  have HB0 : Hid ((X.alloc (.cells #[.string { data := #[97] }, .slice (some ⟨w.heap.size + 1, 0, none⟩) 1 1, .slice none 0 0, .slice (some ⟨w.heap.size + 1 + 1, 0, none⟩) 1 1, .string { data := #[98] }, .slice (some ⟨w.heap.size + 1 + 1 + 1 + 1, 0, none⟩) 1 1, .slice none 0 0, .slice (some ⟨w.heap.size + 1 + 1 + 1 + 1 + 1, 0, none⟩) 1 1] 53)).heap[w.heap.size]? = some (.cells #[.string { data := #[] }, .slice none 0 0, .int .i64 0, .int .i64 0] 25 (0, 0))) := Lib.hid (alloc_at H0.out)
  clear hX
  go_wp2_with (first
    | (refine wpList_load_whole rfl 53 _ rfl _ rfl _ 53 H3.out _ Tryz.underlying53 rfl (by kernel_rfl) ?_)
    | (refine wpList_load_whole rfl 53 _ rfl _ rfl _ 53 H6.out _ Tryz.underlying53 rfl (by kernel_rfl) ?_)
    | (refine wpList_store_row rfl 25 _ _ rfl _ _ _ 25 rfl rfl HB0.out rfl (by kernel_rfl) (by simp [Value.oneCell']) ?_; intro w2 hb2 hf2))
  have hfX : Frm [w.heap.size] X w2 := ((Frm.refl [] X).alloc _).mono (by simp) |>.trans hf2
  have hr : w2.heap[X.heap.size]? = some (.cells #[.string { data := #[97] }, .slice (some ⟨w.heap.size + 1, 0, none⟩) 1 1, .slice none 0 0, .slice (some ⟨w.heap.size + 1 + 1, 0, none⟩) 1 1, .string { data := #[98] }, .slice (some ⟨w.heap.size + 1 + 1 + 1 + 1, 0, none⟩) 1 1, .slice none 0 0, .slice (some ⟨w.heap.size + 1 + 1 + 1 + 1 + 1, 0, none⟩) 1 1] 53 (0, 0)) := hf2.at (heap_alloc_new X _) (by have := HF.out.size; have := lt_of_block H0.out; simp; omega)
  have c1 := hfX.at H1.out (by simp <;> omega)
  have c2 := hfX.at H2.out (by simp <;> omega)
  have c4 := hfX.at H4.out (by simp <;> omega)
  have c5 := hfX.at H5.out (by simp <;> omega)
  refine bodyPost_ret (results_c1 (d := _) (Tryz.results51) rfl hb2 rfl Tryz.underlying25 (by kernel_rfl)) rfl ⟨_, rfl, ?_, HF.out.then hfX (by simp)⟩
  refine ⟨_, rfl, _, 2, rfl, fun i r hi => ?_⟩
  match i, hi with
  | 0, hi =>
    cases hi
    refine ⟨X.heap.size, 0, rfl, _, _, _, cell_of hr 0, cell_of hr 1, cell_of hr 2, cell_of hr 3, ⟨⟨_, 1, rfl, fun j x hj => ?_⟩, Arr.nil _ _ _, ⟨_, 1, rfl, fun j x hj => ?_⟩, fun _ _ _ e => by cases e; exact Nat.le_refl _⟩⟩
    · match j, hj with
      | 0, hj => cases hj; exact ⟨_, 0, rfl, cell_of c1 0, cell_of c1 1, cell_of c1 2⟩
      | j + 1, hj => simp at hj
    · match j, hj with
      | 0, hj => cases hj; exact ⟨_, 0, rfl, cell_of c2 0, cell_of c2 1, cell_of c2 2, cell_of c2 3, cell_of c2 4, cell_of c2 5, cell_of c2 6, cell_of c2 7, cell_of c2 8⟩
      | j + 1, hj => simp at hj
  | 1, hi =>
    cases hi
    refine ⟨X.heap.size, 0, rfl, _, _, _, cell_of hr 4, cell_of hr 5, cell_of hr 6, cell_of hr 7, ⟨⟨_, 1, rfl, fun j x hj => ?_⟩, Arr.nil _ _ _, ⟨_, 1, rfl, fun j x hj => ?_⟩, fun _ _ _ e => by cases e; exact Nat.le_refl _⟩⟩
    · match j, hj with
      | 0, hj => cases hj; exact ⟨_, 0, rfl, cell_of c4 0, cell_of c4 1, cell_of c4 2⟩
      | j + 1, hj => simp at hj
    · match j, hj with
      | 0, hj => cases hj; exact ⟨_, 0, rfl, cell_of c5 0, cell_of c5 1, cell_of c5 2, cell_of c5 3, cell_of c5 4, cell_of c5 5, cell_of c5 6, cell_of c5 7, cell_of c5 8⟩
      | j + 1, hj => simp at hj
  | i + 2, hi => simp [smS] at hi
end Go.Proofs.YtkphhjekfimmlaaGreat
namespace Go.Proofs.YtkphhjekfimmlaaGreat
open Go.RowKit Go.BigFrame

abbrev sm1 : SesD := smS 1
def kx0 : PS := firstP sm1
def km0 : Mv := ⟨1, 0, 0, 0⟩
def kx1 : PS := nextP sm1 kx0 km0
theorem k_moves0 : movesP sm1 kx0 = [km0] := by decide +kernel
theorem k_fin0 : finalB sm1 kx0 = true := by decide +kernel
theorem k_key0 : (⟨(keyP sm1 kx0).toArray⟩ : ByteArray) = { data := #[0, 0, 0, 0] } := by rw [show keyP sm1 kx0 = [0, 0, 0, 0] by decide +kernel]
theorem k_way1 : kx1.way 0 1 = [bM] := by decide +kernel
theorem k_moves1 : movesP sm1 kx1 = [⟨1, 1, 0, 0⟩] := by decide +kernel
theorem k_fin1 : finalB sm1 kx1 = false := by decide +kernel
theorem k_key1 : (⟨(keyP sm1 kx1).toArray⟩ : ByteArray) = { data := #[0, 0, 1, 1, 109, 0] } := by rw [show keyP sm1 kx1 = [0, 0, 1, 1, 109, 0] by decide +kernel]
theorem k_dec : decP sm1 (byt { data := #[0, 0, 2, 1, 109, 1, 109, 0] }) = none := by decide +kernel
theorem k_no : (⟨2, 0, 1, 0⟩ : Mv) ∉ movesP sm1 kx1 := by rw [k_moves1]; decide
theorem k_len : (movesP sm1 kx0).length ≤ 5000 ∧ (movesP sm1 kx1).length ≤ 5000 := by rw [k_moves0, k_moves1]; decide
theorem move_same (m : Mv) (w : World) : (binOp .neq 45 (mvV m) (mvV m)).run Tryz.prog w = .ok (.bool false) w ∧ (binOp .eql 45 (mvV m) (mvV m)).run Tryz.prog w = .ok (.bool true) w := by
  have h := eql_move m m w
  rw [decide_eq_true rfl] at h
  refine ⟨?_, h⟩
  have h2 : (Op.equalIn (9999 + 1) 45 (mvV m) (mvV m)).run Tryz.prog w = .ok true w := by
    rw [run_equalIn_struct w 9999 45 _ _ Tryz.undMv (by kernel_rfl)]
    simp [go_sem, Tryz.underlying45]
  simp only [binOp]
  simp [show Op.equal 45 (mvV m) (mvV m) = Op.equalIn (9999 + 1) 45 (mvV m) (mvV m) from rfl, h2]
set_option maxHeartbeats 4000000 in
set_option maxRecDepth 100000 in
theorem known33_any (w : World) : Calls Tryz.prog 14 #[] w (Ret (.bool true) (Frm [] w)) := by
  have CS := Lib.hid (sample33_any w)
  have hnum := fun e W => Lib.hid (num33_any e W)
  go_enter Tryz.func14, Tryz.ntmps14
  go_upto_region 4 with (first
    | (go_at_call 51; go_must (refine CS.out.mono ?_; rintro e w1 ⟨v, rfl, hs, hf⟩; have HF1 := Lib.hid hf; have CN := Lib.hid (pNew_ok v sm1 w1 hs (smS_sm 1) smS_ck); clear hs hf CS))
    | (go_at_call 18; go_must (refine CN.out.mono ?_; rintro e w2 ⟨v, rfl, hn⟩; obtain ⟨⟨yb, fb, rfl, -, hsy⟩, hf⟩ := hn; have HY := Lib.hid (hsy w2 (Agree.refl _ _)); have HF2 := Lib.hid (HF1.out.trans hf); clear hsy hf CN))
    | (go_at_call 19; go_must (refine (num33_any _ _).mono ?_; rintro e w' ⟨rfl, rfl⟩)))
  have C1 := Lib.hid (pFirst_any sm1 yb fb w2 HY.out)
  have HX : Hid (StR w2 sm1 yb fb kx0) := Lib.hid HY.out.first
  have C2 := Lib.hid (listed_any (some ⟨yb, 0, none⟩) (some ⟨fb, 0, none⟩) (movesP sm1 kx0) w2 k_len.1 fun W hW => pMoves_any sm1 yb fb fb kx0 W (HY.out.frm hW) (HX.out.frm hW))
  rw [k_moves0] at C2
  have C3 : Hid (∀ V, Frm [] w2 V → Calls Tryz.prog 52 #[.pointer (some ⟨yb, 0, none⟩), .pointer (some ⟨fb, 0, none⟩)] V (Ret (.tuple #[.bool true, .int .i64 0]) (Frm [] V))) := Lib.hid fun V hV => by
    rw [← k_fin0]; exact pFinal_any sm1 yb fb fb kx0 V (HY.out.frm hV) (HX.out.frm hV)
  have C4 : Hid (∀ V, Frm [] w2 V → Calls Tryz.prog 22 #[.pointer (some ⟨fb, 0, none⟩)] V (RetV fun v w' => v = .string { data := #[0, 0, 0, 0] } ∧ Frm [] V w')) := Lib.hid fun V hV => by
    rw [← k_key0]; exact pKey_any sm1 yb fb fb kx0 V (HY.out.frm hV) (HX.out.frm hV)
  have hms := fun W => (move_same km0 W).1
  unfold km0 at hms
  clear hnum
  go_upto_region 9 with (first
    | (go_at_call 20; go_must (refine C1.out.mono ?_; rintro e w' ⟨rfl, rfl⟩; clear C1))
    | (go_at_call 23; go_must (refine C2.out.mono ?_; rintro e w3 ⟨v, rfl, a1, c1, rfl, hm, hf⟩; obtain ⟨b1, o1, rfl, hat⟩ := hm.get (show [km0][0]? = some km0 from rfl); rw [Nat.zero_mul, Nat.add_zero] at hat; have HM := Lib.hid hat; have HF3 := Lib.hid hf; clear hm hf hat C2))
    | (go_at_call 52; go_must (refine (C3.out _ HF3.out).mono ?_; rintro e w4 ⟨rfl, hf⟩; have HM4 := Lib.hid (HM.out.frm hf); obtain ⟨k0, k1, k2, k3⟩ := HM4.out; simp only [km0] at k0 k1 k2 k3; have HF4 := Lib.hid (HF3.out.trans hf); clear hf C3))
    | (go_at_call 22; go_must (refine (C4.out _ HF4.out).mono ?_; rintro e w5 ⟨v, rfl, rfl, hf⟩; have HF5 := Lib.hid (HF4.out.trans hf); have HM5 := Lib.hid (HM4.out.frm hf); clear hf C4))
    | (go_at_call 19; go_must (refine (num33_any _ _).mono ?_; rintro e w' ⟨rfl, rfl⟩)))
  obtain ⟨k0, k1, k2, k3⟩ := HM5.out
  simp only [km0] at k0 k1 k2 k3
  have CD := Lib.hid (pDo_yes sm1 yb fb fb kx0 km0 w5 (HY.out.frm HF5.out) (HX.out.frm HF5.out) (by rw [k_moves0]; simp))
  go_upto_region 10 with (first
    | (go_at_call 24; go_must (refine CD.out.mono ?_; rintro e w6 ⟨v, rfl, xb, rfl, hs, hf⟩; have HZ := Lib.hid hs; have HF6 := Lib.hid (HF5.out.trans hf); clear hs hf CD)))
  have HYn := Lib.hid (HY.out.frm HF6.out)
  clear k0 k1 k2 k3 HM HM4 HM5 hms
  have E1 := Lib.hid (pChannel_ok sm1 yb xb 0 1 kx1 w6 HZ.out (by decide) (by decide) (by decide))
  rw [k_way1] at E1
  have E2 : Hid (∀ V, Frm [] w6 V → Calls Tryz.prog 23 #[.pointer (some ⟨yb, 0, none⟩), .pointer (some ⟨xb, 0, none⟩)] V (RetV (LsTo V [⟨1, 1, 0, 0⟩]))) := Lib.hid fun V hV => by
    rw [← k_moves1]
    exact listed_any (some ⟨yb, 0, none⟩) (some ⟨xb, 0, none⟩) (movesP sm1 kx1) V k_len.2 fun W hW => pMoves_any sm1 yb fb xb kx1 W (HYn.out.frm (hV.trans hW)) (HZ.out.frm (hV.trans hW))
  have E3 : Hid (∀ V, Frm [] w6 V → Calls Tryz.prog 52 #[.pointer (some ⟨yb, 0, none⟩), .pointer (some ⟨xb, 0, none⟩)] V (Ret (.tuple #[.bool false, .int .i64 0]) (Frm [] V))) := Lib.hid fun V hV => by
    rw [← k_fin1]; exact pFinal_any sm1 yb fb xb kx1 V (HYn.out.frm hV) (HZ.out.frm hV)
  have E4 : Hid (∀ V, Frm [] w6 V → Calls Tryz.prog 24 #[.pointer (some ⟨yb, 0, none⟩), .pointer (some ⟨xb, 0, none⟩), mvV ⟨2, 0, 1, 0⟩] V (Ret (.tuple #[.pointer none, .int .i64 9]) (Frm [] V))) := Lib.hid fun V hV => pDo_no sm1 yb fb xb kx1 ⟨2, 0, 1, 0⟩ V (HYn.out.frm hV) (HZ.out.frm hV) k_no
  have E5 : Hid (∀ V, Frm [] w6 V → Calls Tryz.prog 21 #[.pointer (some ⟨yb, 0, none⟩), .string { data := #[0, 0, 2, 1, 109, 1, 109, 0] }] V (RetV (DcTo V sm1 yb none))) := Lib.hid fun V hV => by
    rw [← k_dec]; exact pDecode_any sm1 yb fb _ V (HYn.out.frm hV)
  have E6 : Hid (∀ V, Frm [] w6 V → Calls Tryz.prog 22 #[.pointer (some ⟨xb, 0, none⟩)] V (RetV fun v w' => v = .string { data := #[0, 0, 1, 1, 109, 0] } ∧ Frm [] V w')) := Lib.hid fun V hV => by
    rw [← k_key1]; exact pKey_any sm1 yb fb xb kx1 V (HYn.out.frm hV) (HZ.out.frm hV)
  go_upto_region 15 with (first
    | (go_at_call 55; go_must (refine E1.out.mono ?_; rintro e w7 ⟨v, rfl, u, rfl, hs, hf, -⟩; have HG7 := Lib.hid hf; obtain ⟨ac, cc, rfl, -, hcs⟩ := hs.shape; obtain ⟨gc, rfl, hc0⟩ := hcs 0 bM rfl; have HC0 := Lib.hid hc0; clear hs hf hcs hc0 E1))
    | (go_at_call 23; go_must (refine (E2.out _ HG7.out).mono ?_; rintro e w8 ⟨v, rfl, a2, c2, rfl, hm, hf⟩; obtain ⟨b2, o2, rfl, hat⟩ := hm.get (show [(⟨1, 1, 0, 0⟩ : Mv)][0]? = some ⟨1, 1, 0, 0⟩ from rfl); rw [Nat.zero_mul, Nat.add_zero] at hat; have HM8 := Lib.hid hat; have HF78 := Lib.hid hf; have HG8 := Lib.hid (HG7.out.trans hf); clear hm hf hat E2))
    | (go_at_call 52; go_must (refine (E3.out _ HG8.out).mono ?_; rintro e w9 ⟨rfl, hf⟩; have HF89 := Lib.hid hf; have HG9 := Lib.hid (HG8.out.trans hf); clear hf E3))
    | (go_at_call 24; go_must (refine (E4.out _ HG9.out).mono ?_; rintro e w10 ⟨rfl, hf⟩; have HF910 := Lib.hid hf; have HG10 := Lib.hid (HG9.out.trans hf); clear hf E4))
    | (go_at_call 21; go_must (refine (E5.out _ HG10.out).mono ?_; rintro e w11 ⟨v, rfl, hf, rfl⟩; have HF1011 := Lib.hid hf; have HG11 := Lib.hid (HG10.out.trans hf); clear hf E5)))
  have HF8 : Hid (Frm [] w8 w11) := Lib.hid ((HF89.out.trans HF910.out).trans HF1011.out)
  obtain ⟨k0, k1, k2, k3⟩ := HM8.out.frm HF8.out
  simp only at k0 k1 k2 k3
  have c0 := HF8.out.keep (HF78.out.keep HC0.out)
  unfold bM at c0
  have hms := fun W => (move_same ⟨1, 1, 0, 0⟩ W).2
  go_wp2_with (first
    | (go_at_call 22; go_must (refine (E6.out _ HG11.out).mono ?_; rintro e w12 ⟨v, rfl, rfl, hf⟩; have HG12 := Lib.hid (HG11.out.trans hf); clear hf E6))
    | (go_at_call 19; go_must (refine (num33_any _ _).mono ?_; rintro e w' ⟨rfl, rfl⟩)))
  go_ret
  exact ⟨rfl, HF2.out.trans (HF6.out.trans HG12.out)⟩
end Go.Proofs.YtkphhjekfimmlaaGreat
namespace Go.Proofs.YtkphhjekfimmlaaGreat
open Go.RowKit Go.BigFrame

theorem Tryz.undCtr : Tryz.prog.underlying 182 = some (.struct (Tryz.prog.fieldsOf 182)) := by kernel_rfl
theorem Tryz.undState : Tryz.prog.underlying 62 = some (.struct (Tryz.prog.fieldsOf 62)) := by kernel_rfl
set_option maxHeartbeats 1000000 in
set_option maxRecDepth 100000 in
theorem neq_ctr (a : CtrD) (w : World) : (binOp .neq 182 (.agg #[.string a.name, .int .i64 a.lim]) (.agg #[.string a.name, .int .i64 a.lim])).run Tryz.prog w = .ok (.bool false) w := by
  have h : (Op.equalIn (9999 + 1) 182 (.agg #[.string a.name, .int .i64 a.lim]) (.agg #[.string a.name, .int .i64 a.lim])).run Tryz.prog w = .ok true w := by
    rw [run_equalIn_struct w 9999 182 _ _ Tryz.undCtr (by kernel_rfl)]
    simp [go_sem, Tryz.underlying182]
  simp only [binOp]
  simp [show Op.equal 182 (.agg #[.string a.name, .int .i64 a.lim]) (.agg #[.string a.name, .int .i64 a.lim]) = Op.equalIn (9999 + 1) 182 (.agg #[.string a.name, .int .i64 a.lim]) (.agg #[.string a.name, .int .i64 a.lim]) from rfl, h]
set_option maxHeartbeats 1000000 in
set_option maxRecDepth 100000 in
theorem neq_state (a : StD) (w : World) : (binOp .neq 62 (.agg #[.string a.name, .bool a.fin, .int .i64 a.wait]) (.agg #[.string a.name, .bool a.fin, .int .i64 a.wait])).run Tryz.prog w = .ok (.bool false) w := by
  have h : (Op.equalIn (9999 + 1) 62 (.agg #[.string a.name, .bool a.fin, .int .i64 a.wait]) (.agg #[.string a.name, .bool a.fin, .int .i64 a.wait])).run Tryz.prog w = .ok true w := by
    rw [run_equalIn_struct w 9999 62 _ _ Tryz.undState (by kernel_rfl)]
    simp [go_sem, Tryz.underlying62]
  simp only [binOp]
  simp [show Op.equal 62 (.agg #[.string a.name, .bool a.fin, .int .i64 a.wait]) (.agg #[.string a.name, .bool a.fin, .int .i64 a.wait]) = Op.equalIn (9999 + 1) 62 (.agg #[.string a.name, .bool a.fin, .int .i64 a.wait]) (.agg #[.string a.name, .bool a.fin, .int .i64 a.wait]) from rfl, h]
set_option maxHeartbeats 1000000 in
set_option maxRecDepth 100000 in
theorem neq_step (a : StpD) (w : World) : (binOp .neq 60 (stpV a) (stpV a)).run Tryz.prog w = .ok (.bool false) w := by
  have h : (Op.equalIn (9999 + 1) 60 (stpV a) (stpV a)).run Tryz.prog w = .ok true w := by
    rw [run_equalIn_struct w 9999 60 _ _ Tryz.und60 (by kernel_rfl)]
    simp [go_sem, Tryz.underlying60]
  simp only [binOp]
  simp [show Op.equal 60 (stpV a) (stpV a) = Op.equalIn (9999 + 1) 60 (stpV a) (stpV a) from rfl, h]
set_option maxHeartbeats 4000000 in
set_option maxRecDepth 100000 in
theorem aSame_any (v1 v2 : Value) (r : RolD) (w : World) (h1 : RlV w v1 r) (h2 : RlV w v2 r) (hl : r.sts.length ≤ 1000 ∧ r.ctrs.length ≤ 1000 ∧ r.steps.length ≤ 1000) : Calls Tryz.prog 80 #[v1, v2] w (Ret (.bool true) (Frm [] w)) := by
  obtain ⟨sv, cv, tv, rfl, g1⟩ := h1
  obtain ⟨sv', cv', tv', rfl, g2⟩ := h2
  obtain ⟨aS, cS, e, hS⟩ := g1.sts; subst e
  obtain ⟨aC, cC, e, hC⟩ := g1.ctrs; subst e
  obtain ⟨aT, cT, e, hT⟩ := g1.steps; subst e
  obtain ⟨bS, dS', e, kS⟩ := g2.sts; subst e
  obtain ⟨bC, dC', e, kC⟩ := g2.ctrs; subst e
  obtain ⟨bT, dT', e, kT⟩ := g2.steps; subst e
  have HS := Lib.hid hS; have HC := Lib.hid hC; have HT := Lib.hid hT; have KS := Lib.hid kS; have KC := Lib.hid kC; have KT := Lib.hid kT
  obtain ⟨n1, hn1⟩ : ∃ n, r.sts.length = n := ⟨_, rfl⟩
  obtain ⟨n2, hn2⟩ : ∃ n, r.ctrs.length = n := ⟨_, rfl⟩
  obtain ⟨n3, hn3⟩ : ∃ n, r.steps.length = n := ⟨_, rfl⟩
  have HN1 := Lib.hid hn1; have HN2 := Lib.hid hn2; have HN3 := Lib.hid hn3
  rw [hn1, hn2, hn3] at hl
  rw [hn1, hn2, hn3]
  obtain ⟨X, hX⟩ : ∃ X, (w.alloc (.cells #[.string r.name, .slice aS n1 cS, .slice aC n2 cC, .slice aT n3 cT] 53)).alloc (.cells #[.string r.name, .slice bS n1 dS', .slice bC n2 dC', .slice bT n3 dT'] 53) = X := ⟨_, rfl⟩
  have HF : Hid (Frm [] w X) := Lib.hid (by rw [← hX]; exact ((Frm.refl _ _).alloc _).alloc _)
  have HB : Hid (∀ V, Frm [] X V → (V.cell? ⟨w.heap.size, 0, none⟩ = some (.string r.name) ∧ V.cell? ⟨w.heap.size, 1, none⟩ = some (.slice aS n1 cS) ∧ V.cell? ⟨w.heap.size, 2, none⟩ = some (.slice aC n2 cC) ∧ V.cell? ⟨w.heap.size, 3, none⟩ = some (.slice aT n3 cT)) ∧
      (V.cell? ⟨w.heap.size + 1, 0, none⟩ = some (.string r.name) ∧ V.cell? ⟨w.heap.size + 1, 1, none⟩ = some (.slice bS n1 dS') ∧ V.cell? ⟨w.heap.size + 1, 2, none⟩ = some (.slice bC n2 dC') ∧ V.cell? ⟨w.heap.size + 1, 3, none⟩ = some (.slice bT n3 dT'))) := Lib.hid fun V hV => by
    have k1 : X.heap[w.heap.size]? = some (.cells #[.string r.name, .slice aS n1 cS, .slice aC n2 cC, .slice aT n3 cT] 53 (0, 0)) := by rw [← hX]; exact alloc_at (heap_alloc_new _ _)
    have k2 : X.heap[w.heap.size + 1]? = some (.cells #[.string r.name, .slice bS n1 dS', .slice bC n2 dC', .slice bT n3 dT'] 53 (0, 0)) := by rw [← hX]; exact alloc_top (by simp)
    have l1 := hV.at k1 (by simp)
    have l2 := hV.at k2 (by simp)
    exact ⟨⟨cell_of l1 0, cell_of l1 1, cell_of l1 2, cell_of l1 3⟩, cell_of l2 0, cell_of l2 1, cell_of l2 2, cell_of l2 3⟩
  have HE := Lib.hid hX
  clear g1 g2 hS hC hT kS kC kT hn1 hn2 hn3 hX
  obtain ⟨⟨e0, e1, e2, e3⟩, f0, f1, f2, f3⟩ := HB.out X (Frm.refl _ _)
  go_enter Tryz.func80, Tryz.ntmps80
  go_wp2_with (first | (rw [HE.out]))
  clear e0 e1 e2 e3 f0 f1 f2 f3
  have HL := Lib.hid (Frm.refl [] X)
  go_loopw [5] (fun s5 wl => ∃ i : Nat, s5 = .int .i64 i ∧ i ≤ n2 ∧ Frm [] X wl) (fun s5 _ => n2 - (intOf s5).toNat)
  case atStart => exact ⟨0, rfl, Nat.zero_le _, HL.out⟩
  case round =>
    obtain ⟨i, rfl, hi, hf⟩ := hrel
    have HR := Lib.hid hf
    clear hf HL
    obtain ⟨w1, hw1⟩ : ∃ w1, w1 = wr := ⟨_, rfl⟩
    subst hw1
    obtain ⟨⟨e0, e1, e2, e3⟩, f0, f1, f2, f3⟩ := HB.out w1 HR.out
    by_cases hlt : i < n2
    · have hlt' : (i : Int) < (n2 : Int) := by omega
      obtain ⟨x, hx⟩ : ∃ x, r.ctrs[i]? = some x := ⟨_, List.getElem?_eq_getElem (by rw [HN2.out]; exact hlt)⟩
      obtain ⟨ba, oa, rfl, hat⟩ := HC.out i x hx
      obtain ⟨bb, ob, rfl, hbt⟩ := KC.out i x hx
      obtain ⟨a0, a1⟩ := hat.frm (HF.out.trans HR.out)
      obtain ⟨b0, b1⟩ := hbt.frm (HF.out.trans HR.out)
      have hq := fun W => neq_ctr x W
      clear hat hbt hx
      go_upto_region 6 with fail
      refine wp_region_cq (by kernel_rfl) (by kernel_rfl) ?_
      repeat (first
        | go_big_quiet_skip
        | (refine wpQuiet_want (by rfl) (fun K hK => ?_)
           first
            | (refine quiet_move _ (by rfl) (hK _ ?_))
            | (refine quiet_assign _ (by rfl) (hK _ ?_))
            | (apply Exists.intro
               refine ⟨fun w' hC => ?_, hK _ ?_⟩
               · (unfold Oper.quietAt
                  obtain ⟨⟨z0, z1, z2, z3⟩, y0, y1, y2, y3⟩ := HB.out w' (HR.out.trans hC); have p0 := hC.keep a0; have p1 := hC.keep a1; have q0 := hC.keep b0; have q1 := hC.keep b1
                  clear hC
                  go_simp
                  try exact ⟨rfl, rfl⟩
                  try rfl))
           clear hK K
           try simp only [Act.put, List.setIfInBounds_toArray, List.set_cons_zero, List.set_cons_succ, Act.eval, Array.getD_eq_getD_getElem?, List.getElem?_toArray, List.getElem?_cons_zero, List.getElem?_cons_succ, Option.getD_some]))
      refine wpQuiet_nil ?_
      intro w2 hf2
      have HF2 := Lib.hid (HR.out.trans hf2)
      clear hf2 hq
      go_wp2
      exact ⟨⟨i + 1, congrArg (Value.int .i64) (by omega), hlt, HF2.out⟩, by simp [intOf]; omega⟩
    · obtain rfl : n2 = i := by omega
      have hge : ¬ (n2 : Int) < (n2 : Int) := by omega
      go_wp2
      clear e0 e1 e2 e3 f0 f1 f2 f3 hge
      have HL := HR
      go_loopw [6] (fun s6 wl => ∃ i : Nat, s6 = .int .i64 i ∧ i ≤ n1 ∧ Frm [] X wl) (fun s6 _ => n1 - (intOf s6).toNat)
      case atStart => exact ⟨0, rfl, Nat.zero_le _, HL.out⟩
      case round =>
        obtain ⟨i, rfl, hi, hf⟩ := hrel
        have HR := Lib.hid hf
        clear hf HL
        obtain ⟨w1, hw1⟩ : ∃ w1, w1 = wr := ⟨_, rfl⟩
        subst hw1
        obtain ⟨⟨e0, e1, e2, e3⟩, f0, f1, f2, f3⟩ := HB.out w1 HR.out
        by_cases hlt : i < n1
        · have hlt' : (i : Int) < (n1 : Int) := by omega
          obtain ⟨x, hx⟩ : ∃ x, r.sts[i]? = some x := ⟨_, List.getElem?_eq_getElem (by rw [HN1.out]; exact hlt)⟩
          obtain ⟨ba, oa, rfl, hat⟩ := HS.out i x hx
          obtain ⟨bb, ob, rfl, hbt⟩ := KS.out i x hx
          obtain ⟨a0, a1, a2⟩ := hat.frm (HF.out.trans HR.out)
          obtain ⟨b0, b1, b2⟩ := hbt.frm (HF.out.trans HR.out)
          have hq := fun W => neq_state x W
          clear hat hbt hx
          go_upto_region 11 with fail
          refine wp_region_cq (by kernel_rfl) (by kernel_rfl) ?_
          repeat (first
            | go_big_quiet_skip
            | (refine wpQuiet_want (by rfl) (fun K hK => ?_)
               first
                | (refine quiet_move _ (by rfl) (hK _ ?_))
                | (refine quiet_assign _ (by rfl) (hK _ ?_))
                | (apply Exists.intro
                   refine ⟨fun w' hC => ?_, hK _ ?_⟩
                   · (unfold Oper.quietAt
                      obtain ⟨⟨z0, z1, z2, z3⟩, y0, y1, y2, y3⟩ := HB.out w' (HR.out.trans hC); have p0 := hC.keep a0; have p1 := hC.keep a1; have p2 := hC.keep a2; have q0 := hC.keep b0; have q1 := hC.keep b1; have q2 := hC.keep b2
                      clear hC
                      go_simp
                      try exact ⟨rfl, rfl⟩
                      try rfl))
               clear hK K
               try simp only [Act.put, List.setIfInBounds_toArray, List.set_cons_zero, List.set_cons_succ, Act.eval, Array.getD_eq_getD_getElem?, List.getElem?_toArray, List.getElem?_cons_zero, List.getElem?_cons_succ, Option.getD_some]))
          refine wpQuiet_nil ?_
          intro w2 hf2
          have HF2 := Lib.hid (HR.out.trans hf2)
          clear hf2 hq
          go_wp2
          exact ⟨⟨i + 1, congrArg (Value.int .i64) (by omega), hlt, HF2.out⟩, by simp [intOf]; omega⟩
        · obtain rfl : n1 = i := by omega
          have hge : ¬ (n1 : Int) < (n1 : Int) := by omega
          go_wp2
          clear e0 e1 e2 e3 f0 f1 f2 f3 hge
          have HL := HR
          go_loopw [7] (fun s7 wl => ∃ i : Nat, s7 = .int .i64 i ∧ i ≤ n3 ∧ Frm [] X wl) (fun s7 _ => n3 - (intOf s7).toNat)
          case atStart => exact ⟨0, rfl, Nat.zero_le _, HL.out⟩
          case round =>
            obtain ⟨i, rfl, hi, hf⟩ := hrel
            have HR := Lib.hid hf
            clear hf HL
            obtain ⟨w1, hw1⟩ : ∃ w1, w1 = wr := ⟨_, rfl⟩
            subst hw1
            obtain ⟨⟨e0, e1, e2, e3⟩, f0, f1, f2, f3⟩ := HB.out w1 HR.out
            by_cases hlt : i < n3
            · have hlt' : (i : Int) < (n3 : Int) := by omega
              obtain ⟨x, hx⟩ : ∃ x, r.steps[i]? = some x := ⟨_, List.getElem?_eq_getElem (by rw [HN3.out]; exact hlt)⟩
              obtain ⟨ba, oa, rfl, hat⟩ := HT.out i x hx
              obtain ⟨bb, ob, rfl, hbt⟩ := KT.out i x hx
              obtain ⟨a0, a1, a2, a3, a4, a5, a6, a7, a8⟩ := hat.frm (HF.out.trans HR.out)
              obtain ⟨b0, b1, b2, b3, b4, b5, b6, b7, b8⟩ := hbt.frm (HF.out.trans HR.out)
              have hq := fun W => neq_step x W
              clear hat hbt hx
              go_upto_region 16 with fail
              refine wp_region_cq (by kernel_rfl) (by kernel_rfl) ?_
              repeat (first
                | go_big_quiet_skip
                | (refine wpQuiet_want (by rfl) (fun K hK => ?_)
                   first
                    | (refine quiet_move _ (by rfl) (hK _ ?_))
                    | (refine quiet_assign _ (by rfl) (hK _ ?_))
                    | (apply Exists.intro
                       refine ⟨fun w' hC => ?_, hK _ ?_⟩
                       · (unfold Oper.quietAt
                          obtain ⟨⟨z0, z1, z2, z3⟩, y0, y1, y2, y3⟩ := HB.out w' (HR.out.trans hC); have p0 := hC.keep a0; have p1 := hC.keep a1; have p2 := hC.keep a2; have p3 := hC.keep a3; have p4 := hC.keep a4; have p5 := hC.keep a5; have p6 := hC.keep a6; have p7 := hC.keep a7; have p8 := hC.keep a8; have q0 := hC.keep b0; have q1 := hC.keep b1; have q2 := hC.keep b2; have q3 := hC.keep b3; have q4 := hC.keep b4; have q5 := hC.keep b5; have q6 := hC.keep b6; have q7 := hC.keep b7; have q8 := hC.keep b8
                          clear hC
                          go_simp
                          try exact ⟨rfl, rfl⟩
                          try rfl))
                   clear hK K
                   try simp only [Act.put, List.setIfInBounds_toArray, List.set_cons_zero, List.set_cons_succ, Act.eval, Array.getD_eq_getD_getElem?, List.getElem?_toArray, List.getElem?_cons_zero, List.getElem?_cons_succ, Option.getD_some]))
              refine wpQuiet_nil ?_
              intro w2 hf2
              have HF2 := Lib.hid (HR.out.trans hf2)
              clear hf2 hq
              go_wp2
              exact ⟨⟨i + 1, congrArg (Value.int .i64) (by omega), hlt, HF2.out⟩, by simp [intOf]; omega⟩
            · obtain rfl : n3 = i := by omega
              have hge : ¬ (n3 : Int) < (n3 : Int) := by omega
              go_wp2
              clear e0 e1 e2 e3 f0 f1 f2 f3 hge
              have HL := HR
              go_ret
              exact ⟨rfl, HF.out.trans HL.out⟩
set_option maxHeartbeats 4000000 in
set_option maxRecDepth 100000 in
theorem aSameS_any (v1 v2 : Value) (s : SesD) (w : World) (h1 : SesV w v1 s) (h2 : SesV w v2 s) (hl : s.roles.length ≤ 1000) (hr : ∀ r ∈ s.roles, r.sts.length ≤ 1000 ∧ r.ctrs.length ≤ 1000 ∧ r.steps.length ≤ 1000) : Calls Tryz.prog 25 #[v1, v2] w (Ret (.bool true) (Frm [] w)) := by
  obtain ⟨rv, rfl, g1⟩ := h1
  obtain ⟨rv', rfl, g2⟩ := h2
  obtain ⟨aR, cR, e, -⟩ := id g1; subst e
  obtain ⟨bR, dR', e, -⟩ := id g2; subst e
  have HR1 := Lib.hid g1; have HR2 := Lib.hid g2; have HLN := Lib.hid hr
  obtain ⟨n, hn⟩ : ∃ n, s.roles.length = n := ⟨_, rfl⟩
  have HN := Lib.hid hn
  rw [hn] at hl HR1 HR2
  rw [hn]
  obtain ⟨X, hX⟩ : ∃ X, (w.alloc (.cells #[.string s.name, .slice aR n cR, .int .i64 s.cls, .int .i64 s.cap] 25)).alloc (.cells #[.string s.name, .slice bR n dR', .int .i64 s.cls, .int .i64 s.cap] 25) = X := ⟨_, rfl⟩
  have HF : Hid (Frm [] w X) := Lib.hid (by rw [← hX]; exact ((Frm.refl _ _).alloc _).alloc _)
  have HB : Hid (∀ V, Frm [] X V → (V.cell? ⟨w.heap.size, 0, none⟩ = some (.string s.name) ∧ V.cell? ⟨w.heap.size, 1, none⟩ = some (.slice aR n cR) ∧ V.cell? ⟨w.heap.size, 2, none⟩ = some (.int .i64 s.cls) ∧ V.cell? ⟨w.heap.size, 3, none⟩ = some (.int .i64 s.cap)) ∧
      (V.cell? ⟨w.heap.size + 1, 0, none⟩ = some (.string s.name) ∧ V.cell? ⟨w.heap.size + 1, 1, none⟩ = some (.slice bR n dR') ∧ V.cell? ⟨w.heap.size + 1, 2, none⟩ = some (.int .i64 s.cls) ∧ V.cell? ⟨w.heap.size + 1, 3, none⟩ = some (.int .i64 s.cap))) := Lib.hid fun V hV => by
    have k1 : X.heap[w.heap.size]? = some (.cells #[.string s.name, .slice aR n cR, .int .i64 s.cls, .int .i64 s.cap] 25 (0, 0)) := by rw [← hX]; exact alloc_at (heap_alloc_new _ _)
    have k2 : X.heap[w.heap.size + 1]? = some (.cells #[.string s.name, .slice bR n dR', .int .i64 s.cls, .int .i64 s.cap] 25 (0, 0)) := by rw [← hX]; exact alloc_top (by simp)
    have l1 := hV.at k1 (by simp)
    have l2 := hV.at k2 (by simp)
    exact ⟨⟨cell_of l1 0, cell_of l1 1, cell_of l1 2, cell_of l1 3⟩, cell_of l2 0, cell_of l2 1, cell_of l2 2, cell_of l2 3⟩
  have HE := Lib.hid hX
  clear g1 g2 hn hr hX
  obtain ⟨⟨e0, e1, e2, e3⟩, f0, f1, f2, f3⟩ := HB.out X (Frm.refl _ _)
  go_enter Tryz.func25, Tryz.ntmps25
  go_wp2_with (first | (rw [HE.out]))
  clear e0 e1 e2 e3 f0 f1 f2 f3
  have HL := Lib.hid (Frm.refl [] X)
  go_loopw [5] (fun s5 wl => ∃ i : Nat, s5 = .int .i64 i ∧ i ≤ n ∧ Frm [] X wl) (fun s5 _ => n - (intOf s5).toNat)
  case atStart => exact ⟨0, rfl, Nat.zero_le _, HL.out⟩
  case round =>
    obtain ⟨i, rfl, hi, hf⟩ := hrel
    have HR := Lib.hid hf
    clear hf HL
    obtain ⟨w1, hw1⟩ : ∃ w1, w1 = wr := ⟨_, rfl⟩
    subst hw1
    obtain ⟨⟨e0, e1, e2, e3⟩, f0, f1, f2, f3⟩ := HB.out w1 HR.out
    by_cases hlt : i < n
    · have hlt' : (i : Int) < (n : Int) := by omega
      have hin : i < s.roles.length := by rw [HN.out]; exact hlt
      have hmem : s.rol i ∈ s.roles := List.mem_of_getElem? (SesD.rol_some hin)
      obtain ⟨ba, oa, sv, cv, tv, rfl, ⟨a0, a1, a2, a3⟩, h3⟩ := Rls.at HR1.out hin
      obtain ⟨bb, ob, sv', cv', tv', rfl, ⟨b0, b1, b2, b3⟩, h3'⟩ := Rls.at HR2.out hin
      have CS : Hid (∀ V, Frm [] w V → Calls Tryz.prog 80 #[.agg #[.string (s.rol i).name, sv, cv, tv], .agg #[.string (s.rol i).name, sv', cv', tv']] V (Ret (.bool true) (Frm [] V))) := Lib.hid fun V hV =>
        aSame_any _ _ (s.rol i) V ⟨_, _, _, rfl, h3.frm hV⟩ ⟨_, _, _, rfl, h3'.frm hV⟩ (HLN.out _ hmem)
      obtain ⟨nm, hnm⟩ : ∃ q, (s.rol i).name = q := ⟨_, rfl⟩
      rw [hnm] at CS a0 b0
      have HU : Hid (∀ V, Frm [] w V → (V.cell? ⟨ba, oa + i * 4, none⟩ = some (.string nm) ∧ V.cell? ⟨ba, oa + i * 4 + 1, none⟩ = some sv ∧ V.cell? ⟨ba, oa + i * 4 + 2, none⟩ = some cv ∧ V.cell? ⟨ba, oa + i * 4 + 3, none⟩ = some tv) ∧
          (V.cell? ⟨bb, ob + i * 4, none⟩ = some (.string nm) ∧ V.cell? ⟨bb, ob + i * 4 + 1, none⟩ = some sv' ∧ V.cell? ⟨bb, ob + i * 4 + 2, none⟩ = some cv' ∧ V.cell? ⟨bb, ob + i * 4 + 3, none⟩ = some tv')) := Lib.hid fun V hV => ⟨⟨hV.keep a0, hV.keep a1, hV.keep a2, hV.keep a3⟩, hV.keep b0, hV.keep b1, hV.keep b2, hV.keep b3⟩
      clear h3 h3' hmem hin hnm a0 a1 a2 a3 b0 b1 b2 b3
      go_upto_region 6 with fail
      refine wp_region_cq (by kernel_rfl) (by kernel_rfl) ?_
      repeat (first
        | go_big_quiet_skip
        | (refine wpQuiet_want (by rfl) (fun K hK => ?_)
           first
            | (refine quiet_move _ (by rfl) (hK _ ?_))
            | (refine quiet_assign _ (by rfl) (hK _ ?_))
            | (refine cq_call (.bool true) 80 #[.agg #[.string nm, sv, cv, tv], .agg #[.string nm, sv', cv', tv']] (fun w' hC => ?_) (fun w' hC => Ret.cq (CS.out w' (HF.out.trans (HR.out.trans hC))) (fun w'' h => hC.trans h)) (hK _ ?_)
               · go_simp)
            | (apply Exists.intro
               refine ⟨fun w' hC => ?_, hK _ ?_⟩
               · (unfold Oper.quietAt
                  obtain ⟨⟨z0, z1, z2, z3⟩, y0, y1, y2, y3⟩ := HB.out w' (HR.out.trans hC); obtain ⟨⟨p0, p1, p2, p3⟩, q0, q1, q2, q3⟩ := HU.out w' (HF.out.trans (HR.out.trans hC))
                  clear hC
                  go_simp
                  try exact ⟨rfl, rfl⟩
                  try rfl))
           clear hK K
           try simp only [Act.put, List.setIfInBounds_toArray, List.set_cons_zero, List.set_cons_succ, Act.eval, Array.getD_eq_getD_getElem?, List.getElem?_toArray, List.getElem?_cons_zero, List.getElem?_cons_succ, Option.getD_some]))
      refine wpQuiet_nil ?_
      intro w2 hf2
      have HF2 := Lib.hid (HR.out.trans hf2)
      clear hf2
      go_wp2
      exact ⟨⟨i + 1, congrArg (Value.int .i64) (by omega), hlt, HF2.out⟩, by simp [intOf]; omega⟩
    · obtain rfl : n = i := by omega
      have hge : ¬ (n : Int) < (n : Int) := by omega
      go_wp2
      go_ret
      exact ⟨rfl, HF.out.trans HR.out⟩
end Go.Proofs.YtkphhjekfimmlaaGreat
