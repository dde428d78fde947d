/- check.Of, from the sum's methods. -/
import Derived.Test.YtomjnbcaofebfaaChk
namespace Go.Proofs.Ytomjnbcaofebfaa
open Go.RowKit Go.BigFrame

/-- what a sum's block holds -/
def CrcTo (w : World) (v : Value) (l : List UInt8) (w' : World) : Prop := v = .tuple #[.int .i64 (crcL l), .int .i64 0] ∧ Frm [] w w'
set_option maxHeartbeats 2000000 in
set_option maxRecDepth 100000 in
theorem write_any (g : Nat) (v : Value) (l : List UInt8) (w : World) (hg : w.heap[g]? = some (.cells #[.int .i64 65535, .int .i64 0, .int .i64 0, .int .i64 2] 113 (0, 0))) (h : Byts w v l) (hv : ∀ j, v.ownBlock = some j → j ≠ g) (hn : l.length ≤ 1000000) :
    Calls Try.prog 56 #[.pointer (some ⟨g, 0, none⟩), v] w (Ret (.int .i64 0) (CB w g (crcL l) (.int .i64 0) (.int .i64 l.length) (.int .i64 2))) := by
  have CN := Lib.hid (snone_any g w _ _ _ hg)
  have CD : Hid (∀ W, Frm [] w W → Calls Try.prog 84 #[.pointer (some ⟨g, 0, none⟩), v] W (Ret (.tuple #[]) (CB W g (crcL l) (.int .i64 0) (.int .i64 l.length) (.int .i64 2)))) := Lib.hid fun W hf => divide_any g v l W _ _ (hf.at hg (by simp)) (h.frm0 hf) hv hn
  have HG := Lib.hid hg
  have c3 := cell_of hg 3
  clear h hg
  go_enter Try.func56, Try.ntmps56
  go_upto_region 4 with (first
    | (go_at_call 63; go_must (refine CN.out.mono ?_; rintro e w' ⟨rfl, rfl⟩))
    | (go_at_call 62; go_must (refine (of2_any _).mono ?_; rintro e w2 ⟨rfl, hf⟩; unfold M2 fv; have HF := Lib.hid hf; clear hf)))
  obtain ⟨W3, hW3⟩ : ∃ W3, w2.alloc (.cells #[.int .i64 16, .int .i64 65535, .int .i64 0, .int .i64 0, .func (.func 84) #[] #[], .func (.func 85) #[] #[]] 109) = W3 := ⟨_, rfl⟩
  have e2 : W3.cell? ⟨w2.heap.size, 2, none⟩ = (#[.int .i64 16, .int .i64 65535, .int .i64 0, .int .i64 0, .func (.func 84) #[] #[], .func (.func 85) #[] #[]] : Array Value)[2]? := by rw [← hW3]; exact cell_of (heap_alloc_new w2 _) 2
  have e3 : W3.cell? ⟨w2.heap.size, 3, none⟩ = (#[.int .i64 16, .int .i64 65535, .int .i64 0, .int .i64 0, .func (.func 84) #[] #[], .func (.func 85) #[] #[]] : Array Value)[3]? := by rw [← hW3]; exact cell_of (heap_alloc_new w2 _) 3
  have e4 : W3.cell? ⟨w2.heap.size, 4, none⟩ = (#[.int .i64 16, .int .i64 65535, .int .i64 0, .int .i64 0, .func (.func 84) #[] #[], .func (.func 85) #[] #[]] : Array Value)[4]? := by rw [← hW3]; exact cell_of (heap_alloc_new w2 _) 4
  have e5 : W3.cell? ⟨w2.heap.size, 5, none⟩ = (#[.int .i64 16, .int .i64 65535, .int .i64 0, .int .i64 0, .func (.func 84) #[] #[], .func (.func 85) #[] #[]] : Array Value)[5]? := by rw [← hW3]; exact cell_of (heap_alloc_new w2 _) 5
  have HW3 : Hid (Frm [] w W3) := Lib.hid (by rw [← hW3]; exact HF.out.alloc _)
  rw [hW3]
  clear hW3
  clear c3
  go_still_tail 6, (by kernel_rfl)
  change wpList _ _ _ _ _ W3.drew
  have HW4 : Hid (Frm [] w W3.drew) := Lib.hid HW3.out.drew
  obtain ⟨W4, hW4⟩ : ∃ W4, W3.drew = W4 := ⟨_, rfl⟩
  rw [hW4] at HW4 ⊢
  clear hW4
  go_wp2_with (go_at_call 84; go_must (refine (CD.out _ HW4.out).mono ?_; rintro e w4 ⟨rfl, hcb⟩; have HB := Lib.hid hcb; clear hcb))
  go_ret
  exact ⟨rfl, (HW4.out.mono (by simp)).trans HB.out.1, HB.out.2⟩
set_option maxHeartbeats 2000000 in
set_option maxRecDepth 100000 in
theorem first_any (a b c : Int) (w : World) : Calls Try.prog 85 #[.agg #[.int .i64 a, .int .i64 b, .int .i64 c]] w (Ret (.int .i64 a) (Frm [] w)) := by
  go_enter Try.func85, Try.ntmps85
  go_wp2
  go_ret
  exact ⟨rfl, (Frm.refl _ _).alloc _⟩
set_option maxHeartbeats 2000000 in
set_option maxRecDepth 100000 in
theorem sumGet_any (g r n : Nat) (w : World) (hg : w.heap[g]? = some (.cells #[.int .i64 r, .int .i64 0, .int .i64 n, .int .i64 2] 113 (0, 0))) :
    Calls Try.prog 57 #[.pointer (some ⟨g, 0, none⟩)] w (Ret (.tuple #[.int .i64 r, .int .i64 0]) (Frm [] w)) := by
  have CN := Lib.hid (snone_any g w _ _ _ hg)
  have HG := Lib.hid hg
  have c3 := cell_of hg 3
  clear hg
  go_enter Try.func57, Try.ntmps57
  go_upto_region 4 with (first
    | (go_at_call 63; go_must (refine CN.out.mono ?_; rintro e w' ⟨rfl, rfl⟩))
    | (go_at_call 62; go_must (refine (of2_any _).mono ?_; rintro e w2 ⟨rfl, hf⟩; unfold M2 fv; have HF := Lib.hid hf; clear hf)))
  obtain ⟨W3, hW3⟩ : ∃ W3, w2.alloc (.cells #[.int .i64 16, .int .i64 65535, .int .i64 0, .int .i64 0, .func (.func 84) #[] #[], .func (.func 85) #[] #[]] 109) = W3 := ⟨_, rfl⟩
  have e2 : W3.cell? ⟨w2.heap.size, 2, none⟩ = (#[.int .i64 16, .int .i64 65535, .int .i64 0, .int .i64 0, .func (.func 84) #[] #[], .func (.func 85) #[] #[]] : Array Value)[2]? := by rw [← hW3]; exact cell_of (heap_alloc_new w2 _) 2
  have e3 : W3.cell? ⟨w2.heap.size, 3, none⟩ = (#[.int .i64 16, .int .i64 65535, .int .i64 0, .int .i64 0, .func (.func 84) #[] #[], .func (.func 85) #[] #[]] : Array Value)[3]? := by rw [← hW3]; exact cell_of (heap_alloc_new w2 _) 3
  have e4 : W3.cell? ⟨w2.heap.size, 4, none⟩ = (#[.int .i64 16, .int .i64 65535, .int .i64 0, .int .i64 0, .func (.func 84) #[] #[], .func (.func 85) #[] #[]] : Array Value)[4]? := by rw [← hW3]; exact cell_of (heap_alloc_new w2 _) 4
  have e5 : W3.cell? ⟨w2.heap.size, 5, none⟩ = (#[.int .i64 16, .int .i64 65535, .int .i64 0, .int .i64 0, .func (.func 84) #[] #[], .func (.func 85) #[] #[]] : Array Value)[5]? := by rw [← hW3]; exact cell_of (heap_alloc_new w2 _) 5
  have HW3 : Hid (Frm [] w W3) := Lib.hid (by rw [← hW3]; exact HF.out.alloc _)
  rw [hW3]
  clear hW3
  have d0 := cell_of (HW3.out.at HG.out (by simp)) 0
  have d1 := cell_of (HW3.out.at HG.out (by simp)) 1
  have d2 := cell_of (HW3.out.at HG.out (by simp)) 2
  clear c3
  go_still_tail 6, (by kernel_rfl)
  change wpList _ _ _ _ _ W3.drew
  have HW4 : Hid (Frm [] w W3.drew) := Lib.hid HW3.out.drew
  obtain ⟨W4, hW4⟩ : ∃ W4, W3.drew = W4 := ⟨_, rfl⟩
  rw [hW4] at HW4 ⊢
  clear hW4
  go_wp2_with (go_at_call 85; go_must (refine (first_any _ _ _ W4).mono ?_; rintro e w4 ⟨rfl, hf⟩; have HB := Lib.hid hf; clear hf))
  go_ret2
  exact ⟨rfl, HW4.out.trans HB.out⟩
set_option maxHeartbeats 2000000 in
set_option maxRecDepth 100000 in
theorem of_any (v : Value) (l : List UInt8) (w : World) (h : Byts w v l) (hn : l.length ≤ 1000000) (hlt : ∀ j, v.ownBlock = some j → j < w.heap.size) :
    Calls Try.prog 46 #[.int .i64 2, v] w (RetV (CrcTo w · l)) := by
  have HV := Lib.hid h; have HL := Lib.hid hlt
  clear h hlt
  go_enter Try.func46, Try.ntmps46
  go_wp2_with (first
    | (go_at_call 55; go_must (refine (sumNew_any _).mono ?_; rintro e w2 ⟨u, rfl, g, rfl, hg, hf, hge⟩; have HG := Lib.hid hg; have HF := Lib.hid hf; have HE := Lib.hid hge; clear hg hf hge))
    | (go_at_call 56; go_must (refine (write_any g v l w2 HG.out (HV.out.frm0 HF.out) (fun j hj => by have := HL.out j hj; have := HE.out; omega) hn).mono ?_; rintro e w3 ⟨rfl, hcb⟩; have HB := Lib.hid hcb; clear hcb))
    | (go_at_call 57; go_must (refine (sumGet_any g _ _ w3 HB.out.2).mono ?_; rintro e w4 ⟨rfl, hf⟩; have HF4 := Lib.hid hf; clear hf)))
  go_ret2
  trace_state
  exact ⟨_, rfl, rfl, ((HF.out.then HB.out.1 (by have := HE.out; simp; omega)).trans HF4.out)⟩
end Go.Proofs.Ytomjnbcaofebfaa
