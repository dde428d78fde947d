/- The iterator that Choices hands out. -/
import Derived.Test.YtkphhjekfimmlaaGreatB04
import Derived.Test.YtkphhjekfimmlaaGreatB06
import Derived.RangeFuncBound
import Derived.OwnWalkIn
import Derived.TacticsInMore
import Derived.LoopNIn
import Derived.LoopIn
import Derived.Sort.CutIn
import Derived.OrdersIn
namespace Go.Proofs.YtkphhjekfimmlaaGreat
open Go.RowKit Go.BigFrame

theorem via {T G : Prop} (main : T → G) (tail : T) : G := main tail
/-- what the iterator reads -/
def ChR (bl bc cb : Nat) (cls : Int) (sv : Value) (L : List ByteArray) (W : World) : Prop :=
  W.heap[bl]? = some (.cells #[sv] 86 (0, 0)) ∧ Strs W sv L ∧ W.heap[bc]? = some (.cells #[.pointer (some ⟨cb, 0, none⟩)] 138 (0, 0)) ∧ W.cell? ⟨cb, 0, none⟩ = some (.int .i64 cls)
theorem ChR.frm {bl bc cb : Nat} {cls : Int} {sv : Value} {L : List ByteArray} {W W' : World} (h : ChR bl bc cb cls sv L W) (hf : Frm [] W W') : ChR bl bc cb cls sv L W' :=
  ⟨hf.at h.1 (by simp), h.2.1.frm hf (by simp), hf.at h.2.2.1 (by simp), hf.keep h.2.2.2⟩
def encC (e : Nat × ByteArray) : Array Value := #[.int .i64 e.1, .string e.2]
set_option maxHeartbeats 8000000 in
set_option maxRecDepth 100000 in
theorem chc_iter (bl bc cb : Nat) (cls : Int) (sv : Value) (L : List ByteArray) (h1 : 1 ≤ cls) (h3 : cls ≤ 3) (hL : L.length ≤ 1000) :
    Iter Fence.wide 2 Tryz.prog 149 #[.pointer (some ⟨bl, 0, none⟩), .pointer (some ⟨bc, 0, none⟩)] encC (ChR bl bc cb cls sv L) (chlK cls L L.length) := by
  intro l J Jx sJ sJx hJR hY W h0
  have HJ := Lib.hid sJ; have HJR := Lib.hid hJR; have HY := Lib.hid hY
  clear sJ sJx hJR hY
  have hr := HJR.out _ _ h0
  have c0 := cell_of hr.1 0
  obtain ⟨ao, cap, hsv, -, -⟩ := hr.2.1.shape
  subst hsv
  have H0 := Lib.hid h0
  clear hr h0
  refine callsIn_of_wp Tryz.func149 rfl trivial ?_ rfl
  simp only [Tryz.ntmps149, List.size_toArray, List.length_cons, List.length_nil, Nat.reduceAdd, Nat.reduceSub, Array.replicate_succ, Array.replicate_zero, List.push_toArray, List.append_toArray, List.nil_append, List.cons_append]
  gi_wp2
  gi_loopw [8] (fun s wr => ∃ k : Nat, s = .int .i64 k ∧ k ≤ L.length ∧ J (chlK cls L k) wr) (fun s _ => L.length - (intOf s).toNat)
  case atStart => exact ⟨0, rfl, Nat.zero_le _, H0.out⟩
  case round =>
    obtain ⟨k, rfl, hk, hj⟩ := hrel
    have HJ1 := Lib.hid hj
    clear hj H0 c0
    by_cases hlt : k < L.length
    · have hr := HJR.out _ _ HJ1.out
      obtain ⟨x, hx⟩ : ∃ x, L[k]? = some x := ⟨_, List.getElem?_eq_getElem hlt⟩
      obtain ⟨ao', cap', hsv, -, hcs⟩ := hr.2.1.shape
      cases hsv
      obtain ⟨g, rfl, cx⟩ := hcs k x hx
      have cl : wr.cell? ⟨bl, 0, none⟩ = some (.slice (some ⟨g, 0, none⟩) L.length cap) := cell_of hr.1 0
      have cc : wr.cell? ⟨bc, 0, none⟩ = some (.pointer (some ⟨cb, 0, none⟩)) := cell_of hr.2.2.1 0
      have ck := hr.2.2.2
      have hlt' : (k : Int) < L.length := by omega
      have HST := Lib.hid hr.2.1
      clear hr hcs
      gi_upto_region 3 with (fail)
      rcases cls_cases h1 h3 with rfl | rfl | rfl
      · refine wpIn_region_any (by kernel_rfl) ?_
        change wpAnyIn _ _ _ _ _ _ _ _ _ (World.drew _)
        have ct : (wr.drew.alloc tabO).cell? ⟨wr.heap.size, 1, none⟩ = some (.func (.func 164) #[] #[]) := cell_of (heap_alloc_new wr.drew _) 1
        have ct2 : (wr.alloc tabO).cell? ⟨wr.heap.size, 1, none⟩ = some (.func (.func 164) #[] #[]) := cell_of (heap_alloc_new wr _) 1
        have cl2 : (wr.alloc tabO).cell? ⟨bl, 0, none⟩ = some (.slice (some ⟨g, 0, none⟩) L.length cap) := ((Frm.refl [] wr).alloc _).keep cl
        have cc2 : (wr.alloc tabO).cell? ⟨bc, 0, none⟩ = some (.pointer (some ⟨cb, 0, none⟩)) := ((Frm.refl [] wr).alloc _).keep cc
        have ck2 := ((Frm.refl [] wr).alloc tabO).keep ck
        apply via
        case main =>
          intro tail
          refine wpAnyIn_take (i := 8) (v := .int .i64 k) rfl rfl (by kernel_rfl) (by kernel_rfl) (by kernel_rfl) (fun _ _ _ h => h) ⟨Or.inl ⟨by rfl, fun w' => by go_simp⟩, fun _ => rfl⟩ ?_
          try simp only [Act.put, List.setIfInBounds_toArray]
          refine wpAnyIn_ready (rs := [0, 1, 7]) (by kernel_rfl) (by simp) (AllReadyIn.cons rfl (fun K hK => ?_) (AllReadyIn.cons rfl (fun K hK => ?_) (AllReadyIn.cons rfl (fun K hK => ?_) AllReadyIn.nil)))
          · rw [if_pos (by rfl)]
            go_simp
            refine ⟨trivial, (callsIn_wide.2 (choices_any _)).mono ?_⟩
            rintro e w1 ⟨rfl, rfl⟩
            refine hK _ _ ?_
            clear hK K
            try simp only [Act.put, List.setIfInBounds_toArray, List.set_cons_zero, List.set_cons_succ]
            refine wpAnyIn_ready (rs := [1, 7]) (by kernel_rfl) (by simp) (AllReadyIn.cons rfl (fun K hK => ?_) (AllReadyIn.cons rfl (fun K hK => ?_) AllReadyIn.nil))
            · rw [if_pos (by rfl)]
              go_simp
              refine hK _ _ ?_
              clear hK K
              try simp only [Act.put, List.setIfInBounds_toArray, List.set_cons_zero, List.set_cons_succ]
              refine wpAnyIn_take (i := 2) (v := .pointer (some ⟨cb, 0, none⟩)) rfl rfl (by kernel_rfl) (by kernel_rfl) (by kernel_rfl) (fun _ _ _ h => h) ⟨Or.inl ⟨by rfl, fun w' => by go_simp⟩, fun _ => rfl⟩ ?_
              try simp only [Act.put, List.setIfInBounds_toArray]
              refine wpAnyIn_take (i := 3) (v := .pointer (some ⟨cb, 0, none⟩)) rfl rfl (by kernel_rfl) (by kernel_rfl) (by kernel_rfl) (fun _ _ _ h => h) ⟨Or.inl ⟨by rfl, fun w' => by go_simp⟩, fun _ => rfl⟩ ?_
              try simp only [Act.put]
              refine wpAnyIn_ready (rs := [4, 7]) (by kernel_rfl) (by simp) (AllReadyIn.cons rfl (fun K hK => ?_) (AllReadyIn.cons rfl (fun K hK => ?_) AllReadyIn.nil))
              · rw [if_pos (by rfl)]
                go_simp
                refine hK _ _ ?_
                clear hK K
                try simp only [Act.put, List.setIfInBounds_toArray, List.set_cons_zero, List.set_cons_succ]
                refine wpAnyIn_take (i := 5) (v := .pointer (some ⟨wr.heap.size, 1, none⟩)) rfl rfl (by kernel_rfl) (by kernel_rfl) (by kernel_rfl) (fun _ _ _ h => h) ⟨Or.inl ⟨by rfl, fun w' => by go_simp⟩, fun _ => rfl⟩ ?_
                try simp only [Act.put, List.setIfInBounds_toArray]
                refine wpAnyIn_ready (rs := [6, 7]) (by kernel_rfl) (by simp) (AllReadyIn.cons rfl (fun K hK => ?_) (AllReadyIn.cons rfl (fun K hK => ?_) AllReadyIn.nil))
                · rw [if_pos (by rfl)]
                  go_simp
                  refine hK _ _ ?_
                  clear hK K
                  try simp only [Act.put, List.setIfInBounds_toArray, List.set_cons_zero, List.set_cons_succ]
                  refine wpAnyIn_ready (rs := [7]) (by kernel_rfl) (by simp) (AllReadyIn.cons rfl (fun K hK => ?_) AllReadyIn.nil)
                  · rw [if_pos (by rfl)]
                    go_simp
                    refine hK _ _ ?_
                    clear hK K
                    try simp only [Act.put, List.setIfInBounds_toArray, List.set_cons_zero, List.set_cons_succ]
                    exact tail
                · rw [if_pos (by rfl)]
                  go_simp
                  refine hK _ _ ?_
                  clear hK K
                  try simp only [Act.put, List.setIfInBounds_toArray, List.set_cons_zero, List.set_cons_succ]
                  refine wpAnyIn_ready (rs := [6]) (by kernel_rfl) (by simp) (AllReadyIn.cons rfl (fun K hK => ?_) AllReadyIn.nil)
                  · rw [if_pos (by rfl)]
                    go_simp
                    refine hK _ _ ?_
                    clear hK K
                    try simp only [Act.put, List.setIfInBounds_toArray, List.set_cons_zero, List.set_cons_succ]
                    exact tail
              · rw [if_pos (by rfl)]
                go_simp
                refine hK _ _ ?_
                clear hK K
                try simp only [Act.put, List.setIfInBounds_toArray, List.set_cons_zero, List.set_cons_succ]
                refine wpAnyIn_ready (rs := [4]) (by kernel_rfl) (by simp) (AllReadyIn.cons rfl (fun K hK => ?_) AllReadyIn.nil)
                · rw [if_pos (by rfl)]
                  go_simp
                  refine hK _ _ ?_
                  clear hK K
                  try simp only [Act.put, List.setIfInBounds_toArray, List.set_cons_zero, List.set_cons_succ]
                  refine wpAnyIn_take (i := 5) (v := .pointer (some ⟨wr.heap.size, 1, none⟩)) rfl rfl (by kernel_rfl) (by kernel_rfl) (by kernel_rfl) (fun _ _ _ h => h) ⟨Or.inl ⟨by rfl, fun w' => by go_simp⟩, fun _ => rfl⟩ ?_
                  try simp only [Act.put, List.setIfInBounds_toArray]
                  refine wpAnyIn_ready (rs := [6]) (by kernel_rfl) (by simp) (AllReadyIn.cons rfl (fun K hK => ?_) AllReadyIn.nil)
                  · rw [if_pos (by rfl)]
                    go_simp
                    refine hK _ _ ?_
                    clear hK K
                    try simp only [Act.put, List.setIfInBounds_toArray, List.set_cons_zero, List.set_cons_succ]
                    exact tail
            · rw [if_pos (by rfl)]
              go_simp
              refine hK _ _ ?_
              clear hK K
              try simp only [Act.put, List.setIfInBounds_toArray, List.set_cons_zero, List.set_cons_succ]
              refine wpAnyIn_ready (rs := [1]) (by kernel_rfl) (by simp) (AllReadyIn.cons rfl (fun K hK => ?_) AllReadyIn.nil)
              · rw [if_pos (by rfl)]
                go_simp
                refine hK _ _ ?_
                clear hK K
                try simp only [Act.put, List.setIfInBounds_toArray, List.set_cons_zero, List.set_cons_succ]
                refine wpAnyIn_take (i := 2) (v := .pointer (some ⟨cb, 0, none⟩)) rfl rfl (by kernel_rfl) (by kernel_rfl) (by kernel_rfl) (fun _ _ _ h => h) ⟨Or.inl ⟨by rfl, fun w' => by go_simp⟩, fun _ => rfl⟩ ?_
                try simp only [Act.put, List.setIfInBounds_toArray]
                refine wpAnyIn_take (i := 3) (v := .pointer (some ⟨cb, 0, none⟩)) rfl rfl (by kernel_rfl) (by kernel_rfl) (by kernel_rfl) (fun _ _ _ h => h) ⟨Or.inl ⟨by rfl, fun w' => by go_simp⟩, fun _ => rfl⟩ ?_
                try simp only [Act.put]
                refine wpAnyIn_ready (rs := [4]) (by kernel_rfl) (by simp) (AllReadyIn.cons rfl (fun K hK => ?_) AllReadyIn.nil)
                · rw [if_pos (by rfl)]
                  go_simp
                  refine hK _ _ ?_
                  clear hK K
                  try simp only [Act.put, List.setIfInBounds_toArray, List.set_cons_zero, List.set_cons_succ]
                  refine wpAnyIn_take (i := 5) (v := .pointer (some ⟨wr.heap.size, 1, none⟩)) rfl rfl (by kernel_rfl) (by kernel_rfl) (by kernel_rfl) (fun _ _ _ h => h) ⟨Or.inl ⟨by rfl, fun w' => by go_simp⟩, fun _ => rfl⟩ ?_
                  try simp only [Act.put, List.setIfInBounds_toArray]
                  refine wpAnyIn_ready (rs := [6]) (by kernel_rfl) (by simp) (AllReadyIn.cons rfl (fun K hK => ?_) AllReadyIn.nil)
                  · rw [if_pos (by rfl)]
                    go_simp
                    refine hK _ _ ?_
                    clear hK K
                    try simp only [Act.put, List.setIfInBounds_toArray, List.set_cons_zero, List.set_cons_succ]
                    exact tail
          · rw [if_pos (by rfl)]
            go_simp
            refine hK _ _ ?_
            clear hK K
            try simp only [Act.put, List.setIfInBounds_toArray, List.set_cons_zero, List.set_cons_succ]
            refine wpAnyIn_take (i := 2) (v := .pointer (some ⟨cb, 0, none⟩)) rfl rfl (by kernel_rfl) (by kernel_rfl) (by kernel_rfl) (fun _ _ _ h => h) ⟨Or.inl ⟨by rfl, fun w' => by go_simp⟩, fun _ => rfl⟩ ?_
            try simp only [Act.put, List.setIfInBounds_toArray]
            refine wpAnyIn_take (i := 3) (v := .pointer (some ⟨cb, 0, none⟩)) rfl rfl (by kernel_rfl) (by kernel_rfl) (by kernel_rfl) (fun _ _ _ h => h) ⟨Or.inl ⟨by rfl, fun w' => by go_simp⟩, fun _ => rfl⟩ ?_
            try simp only [Act.put]
            refine wpAnyIn_ready (rs := [0, 4, 7]) (by kernel_rfl) (by simp) (AllReadyIn.cons rfl (fun K hK => ?_) (AllReadyIn.cons rfl (fun K hK => ?_) (AllReadyIn.cons rfl (fun K hK => ?_) AllReadyIn.nil)))
            · rw [if_pos (by rfl)]
              go_simp
              refine ⟨trivial, (callsIn_wide.2 (choices_any _)).mono ?_⟩
              rintro e w1 ⟨rfl, rfl⟩
              refine hK _ _ ?_
              clear hK K
              try simp only [Act.put, List.setIfInBounds_toArray, List.set_cons_zero, List.set_cons_succ]
              refine wpAnyIn_ready (rs := [4, 7]) (by kernel_rfl) (by simp) (AllReadyIn.cons rfl (fun K hK => ?_) (AllReadyIn.cons rfl (fun K hK => ?_) AllReadyIn.nil))
              · rw [if_pos (by rfl)]
                go_simp
                refine hK _ _ ?_
                clear hK K
                try simp only [Act.put, List.setIfInBounds_toArray, List.set_cons_zero, List.set_cons_succ]
                refine wpAnyIn_take (i := 5) (v := .pointer (some ⟨wr.heap.size, 1, none⟩)) rfl rfl (by kernel_rfl) (by kernel_rfl) (by kernel_rfl) (fun _ _ _ h => h) ⟨Or.inl ⟨by rfl, fun w' => by go_simp⟩, fun _ => rfl⟩ ?_
                try simp only [Act.put, List.setIfInBounds_toArray]
                refine wpAnyIn_ready (rs := [6, 7]) (by kernel_rfl) (by simp) (AllReadyIn.cons rfl (fun K hK => ?_) (AllReadyIn.cons rfl (fun K hK => ?_) AllReadyIn.nil))
                · rw [if_pos (by rfl)]
                  go_simp
                  refine hK _ _ ?_
                  clear hK K
                  try simp only [Act.put, List.setIfInBounds_toArray, List.set_cons_zero, List.set_cons_succ]
                  refine wpAnyIn_ready (rs := [7]) (by kernel_rfl) (by simp) (AllReadyIn.cons rfl (fun K hK => ?_) AllReadyIn.nil)
                  · rw [if_pos (by rfl)]
                    go_simp
                    refine hK _ _ ?_
                    clear hK K
                    try simp only [Act.put, List.setIfInBounds_toArray, List.set_cons_zero, List.set_cons_succ]
                    exact tail
                · rw [if_pos (by rfl)]
                  go_simp
                  refine hK _ _ ?_
                  clear hK K
                  try simp only [Act.put, List.setIfInBounds_toArray, List.set_cons_zero, List.set_cons_succ]
                  refine wpAnyIn_ready (rs := [6]) (by kernel_rfl) (by simp) (AllReadyIn.cons rfl (fun K hK => ?_) AllReadyIn.nil)
                  · rw [if_pos (by rfl)]
                    go_simp
                    refine hK _ _ ?_
                    clear hK K
                    try simp only [Act.put, List.setIfInBounds_toArray, List.set_cons_zero, List.set_cons_succ]
                    exact tail
              · rw [if_pos (by rfl)]
                go_simp
                refine hK _ _ ?_
                clear hK K
                try simp only [Act.put, List.setIfInBounds_toArray, List.set_cons_zero, List.set_cons_succ]
                refine wpAnyIn_ready (rs := [4]) (by kernel_rfl) (by simp) (AllReadyIn.cons rfl (fun K hK => ?_) AllReadyIn.nil)
                · rw [if_pos (by rfl)]
                  go_simp
                  refine hK _ _ ?_
                  clear hK K
                  try simp only [Act.put, List.setIfInBounds_toArray, List.set_cons_zero, List.set_cons_succ]
                  refine wpAnyIn_take (i := 5) (v := .pointer (some ⟨wr.heap.size, 1, none⟩)) rfl rfl (by kernel_rfl) (by kernel_rfl) (by kernel_rfl) (fun _ _ _ h => h) ⟨Or.inl ⟨by rfl, fun w' => by go_simp⟩, fun _ => rfl⟩ ?_
                  try simp only [Act.put, List.setIfInBounds_toArray]
                  refine wpAnyIn_ready (rs := [6]) (by kernel_rfl) (by simp) (AllReadyIn.cons rfl (fun K hK => ?_) AllReadyIn.nil)
                  · rw [if_pos (by rfl)]
                    go_simp
                    refine hK _ _ ?_
                    clear hK K
                    try simp only [Act.put, List.setIfInBounds_toArray, List.set_cons_zero, List.set_cons_succ]
                    exact tail
            · rw [if_pos (by rfl)]
              go_simp
              refine hK _ _ ?_
              clear hK K
              try simp only [Act.put, List.setIfInBounds_toArray, List.set_cons_zero, List.set_cons_succ]
              refine wpAnyIn_ready (rs := [0, 7]) (by kernel_rfl) (by simp) (AllReadyIn.cons rfl (fun K hK => ?_) (AllReadyIn.cons rfl (fun K hK => ?_) AllReadyIn.nil))
              · rw [if_pos (by rfl)]
                go_simp
                refine ⟨trivial, (callsIn_wide.2 (choices_any _)).mono ?_⟩
                rintro e w1 ⟨rfl, rfl⟩
                refine hK _ _ ?_
                clear hK K
                try simp only [Act.put, List.setIfInBounds_toArray, List.set_cons_zero, List.set_cons_succ]
                refine wpAnyIn_take (i := 5) (v := .pointer (some ⟨wr.heap.size, 1, none⟩)) rfl rfl (by kernel_rfl) (by kernel_rfl) (by kernel_rfl) (fun _ _ _ h => h) ⟨Or.inl ⟨by rfl, fun w' => by go_simp⟩, fun _ => rfl⟩ ?_
                try simp only [Act.put, List.setIfInBounds_toArray]
                refine wpAnyIn_ready (rs := [6, 7]) (by kernel_rfl) (by simp) (AllReadyIn.cons rfl (fun K hK => ?_) (AllReadyIn.cons rfl (fun K hK => ?_) AllReadyIn.nil))
                · rw [if_pos (by rfl)]
                  go_simp
                  refine hK _ _ ?_
                  clear hK K
                  try simp only [Act.put, List.setIfInBounds_toArray, List.set_cons_zero, List.set_cons_succ]
                  refine wpAnyIn_ready (rs := [7]) (by kernel_rfl) (by simp) (AllReadyIn.cons rfl (fun K hK => ?_) AllReadyIn.nil)
                  · rw [if_pos (by rfl)]
                    go_simp
                    refine hK _ _ ?_
                    clear hK K
                    try simp only [Act.put, List.setIfInBounds_toArray, List.set_cons_zero, List.set_cons_succ]
                    exact tail
                · rw [if_pos (by rfl)]
                  go_simp
                  refine hK _ _ ?_
                  clear hK K
                  try simp only [Act.put, List.setIfInBounds_toArray, List.set_cons_zero, List.set_cons_succ]
                  refine wpAnyIn_ready (rs := [6]) (by kernel_rfl) (by simp) (AllReadyIn.cons rfl (fun K hK => ?_) AllReadyIn.nil)
                  · rw [if_pos (by rfl)]
                    go_simp
                    refine hK _ _ ?_
                    clear hK K
                    try simp only [Act.put, List.setIfInBounds_toArray, List.set_cons_zero, List.set_cons_succ]
                    exact tail
              · rw [if_pos (by rfl)]
                go_simp
                refine hK _ _ ?_
                clear hK K
                try simp only [Act.put, List.setIfInBounds_toArray, List.set_cons_zero, List.set_cons_succ]
                refine wpAnyIn_ready (rs := [0]) (by kernel_rfl) (by simp) (AllReadyIn.cons rfl (fun K hK => ?_) AllReadyIn.nil)
                · rw [if_pos (by rfl)]
                  go_simp
                  refine ⟨trivial, (callsIn_wide.2 (choices_any _)).mono ?_⟩
                  rintro e w1 ⟨rfl, rfl⟩
                  refine hK _ _ ?_
                  clear hK K
                  try simp only [Act.put, List.setIfInBounds_toArray, List.set_cons_zero, List.set_cons_succ]
                  refine wpAnyIn_take (i := 5) (v := .pointer (some ⟨wr.heap.size, 1, none⟩)) rfl rfl (by kernel_rfl) (by kernel_rfl) (by kernel_rfl) (fun _ _ _ h => h) ⟨Or.inl ⟨by rfl, fun w' => by go_simp⟩, fun _ => rfl⟩ ?_
                  try simp only [Act.put, List.setIfInBounds_toArray]
                  refine wpAnyIn_ready (rs := [6]) (by kernel_rfl) (by simp) (AllReadyIn.cons rfl (fun K hK => ?_) AllReadyIn.nil)
                  · rw [if_pos (by rfl)]
                    go_simp
                    refine hK _ _ ?_
                    clear hK K
                    try simp only [Act.put, List.setIfInBounds_toArray, List.set_cons_zero, List.set_cons_succ]
                    exact tail
            · rw [if_pos (by rfl)]
              go_simp
              refine hK _ _ ?_
              clear hK K
              try simp only [Act.put, List.setIfInBounds_toArray, List.set_cons_zero, List.set_cons_succ]
              refine wpAnyIn_ready (rs := [0, 4]) (by kernel_rfl) (by simp) (AllReadyIn.cons rfl (fun K hK => ?_) (AllReadyIn.cons rfl (fun K hK => ?_) AllReadyIn.nil))
              · rw [if_pos (by rfl)]
                go_simp
                refine ⟨trivial, (callsIn_wide.2 (choices_any _)).mono ?_⟩
                rintro e w1 ⟨rfl, rfl⟩
                refine hK _ _ ?_
                clear hK K
                try simp only [Act.put, List.setIfInBounds_toArray, List.set_cons_zero, List.set_cons_succ]
                refine wpAnyIn_ready (rs := [4]) (by kernel_rfl) (by simp) (AllReadyIn.cons rfl (fun K hK => ?_) AllReadyIn.nil)
                · rw [if_pos (by rfl)]
                  go_simp
                  refine hK _ _ ?_
                  clear hK K
                  try simp only [Act.put, List.setIfInBounds_toArray, List.set_cons_zero, List.set_cons_succ]
                  refine wpAnyIn_take (i := 5) (v := .pointer (some ⟨wr.heap.size, 1, none⟩)) rfl rfl (by kernel_rfl) (by kernel_rfl) (by kernel_rfl) (fun _ _ _ h => h) ⟨Or.inl ⟨by rfl, fun w' => by go_simp⟩, fun _ => rfl⟩ ?_
                  try simp only [Act.put, List.setIfInBounds_toArray]
                  refine wpAnyIn_ready (rs := [6]) (by kernel_rfl) (by simp) (AllReadyIn.cons rfl (fun K hK => ?_) AllReadyIn.nil)
                  · rw [if_pos (by rfl)]
                    go_simp
                    refine hK _ _ ?_
                    clear hK K
                    try simp only [Act.put, List.setIfInBounds_toArray, List.set_cons_zero, List.set_cons_succ]
                    exact tail
              · rw [if_pos (by rfl)]
                go_simp
                refine hK _ _ ?_
                clear hK K
                try simp only [Act.put, List.setIfInBounds_toArray, List.set_cons_zero, List.set_cons_succ]
                refine wpAnyIn_ready (rs := [0]) (by kernel_rfl) (by simp) (AllReadyIn.cons rfl (fun K hK => ?_) AllReadyIn.nil)
                · rw [if_pos (by rfl)]
                  go_simp
                  refine ⟨trivial, (callsIn_wide.2 (choices_any _)).mono ?_⟩
                  rintro e w1 ⟨rfl, rfl⟩
                  refine hK _ _ ?_
                  clear hK K
                  try simp only [Act.put, List.setIfInBounds_toArray, List.set_cons_zero, List.set_cons_succ]
                  refine wpAnyIn_take (i := 5) (v := .pointer (some ⟨wr.heap.size, 1, none⟩)) rfl rfl (by kernel_rfl) (by kernel_rfl) (by kernel_rfl) (fun _ _ _ h => h) ⟨Or.inl ⟨by rfl, fun w' => by go_simp⟩, fun _ => rfl⟩ ?_
                  try simp only [Act.put, List.setIfInBounds_toArray]
                  refine wpAnyIn_ready (rs := [6]) (by kernel_rfl) (by simp) (AllReadyIn.cons rfl (fun K hK => ?_) AllReadyIn.nil)
                  · rw [if_pos (by rfl)]
                    go_simp
                    refine hK _ _ ?_
                    clear hK K
                    try simp only [Act.put, List.setIfInBounds_toArray, List.set_cons_zero, List.set_cons_succ]
                    exact tail
          · rw [if_pos (by rfl)]
            go_simp
            refine hK _ _ ?_
            clear hK K
            try simp only [Act.put, List.setIfInBounds_toArray, List.set_cons_zero, List.set_cons_succ]
            refine wpAnyIn_ready (rs := [0, 1]) (by kernel_rfl) (by simp) (AllReadyIn.cons rfl (fun K hK => ?_) (AllReadyIn.cons rfl (fun K hK => ?_) AllReadyIn.nil))
            · rw [if_pos (by rfl)]
              go_simp
              refine ⟨trivial, (callsIn_wide.2 (choices_any _)).mono ?_⟩
              rintro e w1 ⟨rfl, rfl⟩
              refine hK _ _ ?_
              clear hK K
              try simp only [Act.put, List.setIfInBounds_toArray, List.set_cons_zero, List.set_cons_succ]
              refine wpAnyIn_ready (rs := [1]) (by kernel_rfl) (by simp) (AllReadyIn.cons rfl (fun K hK => ?_) AllReadyIn.nil)
              · rw [if_pos (by rfl)]
                go_simp
                refine hK _ _ ?_
                clear hK K
                try simp only [Act.put, List.setIfInBounds_toArray, List.set_cons_zero, List.set_cons_succ]
                refine wpAnyIn_take (i := 2) (v := .pointer (some ⟨cb, 0, none⟩)) rfl rfl (by kernel_rfl) (by kernel_rfl) (by kernel_rfl) (fun _ _ _ h => h) ⟨Or.inl ⟨by rfl, fun w' => by go_simp⟩, fun _ => rfl⟩ ?_
                try simp only [Act.put, List.setIfInBounds_toArray]
                refine wpAnyIn_take (i := 3) (v := .pointer (some ⟨cb, 0, none⟩)) rfl rfl (by kernel_rfl) (by kernel_rfl) (by kernel_rfl) (fun _ _ _ h => h) ⟨Or.inl ⟨by rfl, fun w' => by go_simp⟩, fun _ => rfl⟩ ?_
                try simp only [Act.put]
                refine wpAnyIn_ready (rs := [4]) (by kernel_rfl) (by simp) (AllReadyIn.cons rfl (fun K hK => ?_) AllReadyIn.nil)
                · rw [if_pos (by rfl)]
                  go_simp
                  refine hK _ _ ?_
                  clear hK K
                  try simp only [Act.put, List.setIfInBounds_toArray, List.set_cons_zero, List.set_cons_succ]
                  refine wpAnyIn_take (i := 5) (v := .pointer (some ⟨wr.heap.size, 1, none⟩)) rfl rfl (by kernel_rfl) (by kernel_rfl) (by kernel_rfl) (fun _ _ _ h => h) ⟨Or.inl ⟨by rfl, fun w' => by go_simp⟩, fun _ => rfl⟩ ?_
                  try simp only [Act.put, List.setIfInBounds_toArray]
                  refine wpAnyIn_ready (rs := [6]) (by kernel_rfl) (by simp) (AllReadyIn.cons rfl (fun K hK => ?_) AllReadyIn.nil)
                  · rw [if_pos (by rfl)]
                    go_simp
                    refine hK _ _ ?_
                    clear hK K
                    try simp only [Act.put, List.setIfInBounds_toArray, List.set_cons_zero, List.set_cons_succ]
                    exact tail
            · rw [if_pos (by rfl)]
              go_simp
              refine hK _ _ ?_
              clear hK K
              try simp only [Act.put, List.setIfInBounds_toArray, List.set_cons_zero, List.set_cons_succ]
              refine wpAnyIn_take (i := 2) (v := .pointer (some ⟨cb, 0, none⟩)) rfl rfl (by kernel_rfl) (by kernel_rfl) (by kernel_rfl) (fun _ _ _ h => h) ⟨Or.inl ⟨by rfl, fun w' => by go_simp⟩, fun _ => rfl⟩ ?_
              try simp only [Act.put, List.setIfInBounds_toArray]
              refine wpAnyIn_take (i := 3) (v := .pointer (some ⟨cb, 0, none⟩)) rfl rfl (by kernel_rfl) (by kernel_rfl) (by kernel_rfl) (fun _ _ _ h => h) ⟨Or.inl ⟨by rfl, fun w' => by go_simp⟩, fun _ => rfl⟩ ?_
              try simp only [Act.put]
              refine wpAnyIn_ready (rs := [0, 4]) (by kernel_rfl) (by simp) (AllReadyIn.cons rfl (fun K hK => ?_) (AllReadyIn.cons rfl (fun K hK => ?_) AllReadyIn.nil))
              · rw [if_pos (by rfl)]
                go_simp
                refine ⟨trivial, (callsIn_wide.2 (choices_any _)).mono ?_⟩
                rintro e w1 ⟨rfl, rfl⟩
                refine hK _ _ ?_
                clear hK K
                try simp only [Act.put, List.setIfInBounds_toArray, List.set_cons_zero, List.set_cons_succ]
                refine wpAnyIn_ready (rs := [4]) (by kernel_rfl) (by simp) (AllReadyIn.cons rfl (fun K hK => ?_) AllReadyIn.nil)
                · rw [if_pos (by rfl)]
                  go_simp
                  refine hK _ _ ?_
                  clear hK K
                  try simp only [Act.put, List.setIfInBounds_toArray, List.set_cons_zero, List.set_cons_succ]
                  refine wpAnyIn_take (i := 5) (v := .pointer (some ⟨wr.heap.size, 1, none⟩)) rfl rfl (by kernel_rfl) (by kernel_rfl) (by kernel_rfl) (fun _ _ _ h => h) ⟨Or.inl ⟨by rfl, fun w' => by go_simp⟩, fun _ => rfl⟩ ?_
                  try simp only [Act.put, List.setIfInBounds_toArray]
                  refine wpAnyIn_ready (rs := [6]) (by kernel_rfl) (by simp) (AllReadyIn.cons rfl (fun K hK => ?_) AllReadyIn.nil)
                  · rw [if_pos (by rfl)]
                    go_simp
                    refine hK _ _ ?_
                    clear hK K
                    try simp only [Act.put, List.setIfInBounds_toArray, List.set_cons_zero, List.set_cons_succ]
                    exact tail
              · rw [if_pos (by rfl)]
                go_simp
                refine hK _ _ ?_
                clear hK K
                try simp only [Act.put, List.setIfInBounds_toArray, List.set_cons_zero, List.set_cons_succ]
                refine wpAnyIn_ready (rs := [0]) (by kernel_rfl) (by simp) (AllReadyIn.cons rfl (fun K hK => ?_) AllReadyIn.nil)
                · rw [if_pos (by rfl)]
                  go_simp
                  refine ⟨trivial, (callsIn_wide.2 (choices_any _)).mono ?_⟩
                  rintro e w1 ⟨rfl, rfl⟩
                  refine hK _ _ ?_
                  clear hK K
                  try simp only [Act.put, List.setIfInBounds_toArray, List.set_cons_zero, List.set_cons_succ]
                  refine wpAnyIn_take (i := 5) (v := .pointer (some ⟨wr.heap.size, 1, none⟩)) rfl rfl (by kernel_rfl) (by kernel_rfl) (by kernel_rfl) (fun _ _ _ h => h) ⟨Or.inl ⟨by rfl, fun w' => by go_simp⟩, fun _ => rfl⟩ ?_
                  try simp only [Act.put, List.setIfInBounds_toArray]
                  refine wpAnyIn_ready (rs := [6]) (by kernel_rfl) (by simp) (AllReadyIn.cons rfl (fun K hK => ?_) AllReadyIn.nil)
                  · rw [if_pos (by rfl)]
                    go_simp
                    refine hK _ _ ?_
                    clear hK K
                    try simp only [Act.put, List.setIfInBounds_toArray, List.set_cons_zero, List.set_cons_succ]
                    exact tail
        case tail =>
          have HCH : Hid (Calls Tryz.prog 164 #[.slice (some ⟨g, 0, none⟩) L.length cap, .int .i64 k] (wr.alloc tabO).drew (Ret (.bool (chc 1 L k)) ((wr.alloc tabO).drew = ·))) :=
            Lib.hid (chc_any 1 _ L k _ (HST.out.frm ((Frm.refl [] wr).alloc _).drew (by simp)) (by omega) hlt)
          have HW : Hid (Frm [] wr (wr.alloc tabO).drew) := Lib.hid ((Frm.refl [] wr).alloc _).drew
          generalize (wr.alloc tabO).drew = wz at HCH HW ⊢
          clear ct ct2 cl2 cc2 ck2
          refine wpAnyIn_ready (rs := [9]) (by kernel_rfl) (by simp) (AllReadyIn.cons rfl (fun K hK => ?_) AllReadyIn.nil)
          rw [if_pos (by rfl)]
          go_simp
          refine ⟨trivial, (callsIn_wide.2 HCH.out).mono ?_⟩
          rintro e w1 ⟨rfl, rfl⟩
          refine hK _ _ ?_
          clear hK K
          try simp only [Act.put, List.setIfInBounds_toArray, List.set_cons_zero, List.set_cons_succ]
          cases hc : chc 1 L k with
          | false =>
            have HJ2 : Hid (J (chlK 1 L (k + 1)) wz) := by
              have h4 := HJ.out _ _ _ HJ1.out HW.out
              have h5 : J (chlK 1 L (k + 1)) wz := by simpa [chlK, hc] using h4
              exact Lib.hid h5
            refine wpAnyIn_take (i := 10) (v := .bool false) rfl rfl (by kernel_rfl) (by kernel_rfl) (by kernel_rfl) (fun _ _ _ h => h) ⟨Or.inl ⟨by rfl, fun w' => by go_simp⟩, fun _ => rfl⟩ ?_
            try simp only [Act.put, List.setIfInBounds_toArray]
            refine wpAnyIn_take (i := 11) (v := undef) rfl rfl (by kernel_rfl) (by kernel_rfl) (by kernel_rfl) (fun _ _ _ h => h) ⟨Or.inr ⟨by rfl, rfl⟩, fun _ => rfl⟩ ?_
            try simp only [Act.put]
            refine wpAnyIn_take (i := 12) (v := undef) rfl rfl (by kernel_rfl) (by kernel_rfl) (by kernel_rfl) (fun _ _ _ h => h) ⟨Or.inr ⟨by rfl, rfl⟩, fun _ => rfl⟩ ?_
            try simp only [Act.put]
            refine wpAnyIn_take (i := 13) (v := undef) rfl rfl (by kernel_rfl) (by kernel_rfl) (by kernel_rfl) (fun _ _ _ h => h) ⟨Or.inr ⟨by rfl, rfl⟩, fun _ => rfl⟩ ?_
            try simp only [Act.put]
            refine wpAnyIn_take (i := 14) (v := undef) rfl rfl (by kernel_rfl) (by kernel_rfl) (by kernel_rfl) (fun _ _ _ h => h) ⟨Or.inr ⟨by rfl, rfl⟩, fun _ => rfl⟩ ?_
            try simp only [Act.put]
            refine wpAnyIn_take (i := 15) (v := undef) rfl rfl (by kernel_rfl) (by kernel_rfl) (by kernel_rfl) (fun _ _ _ h => h) ⟨Or.inr ⟨by rfl, rfl⟩, fun _ => rfl⟩ ?_
            try simp only [Act.put]
            refine wpAnyIn_ready (rs := [16]) (by kernel_rfl) (by simp) (AllReadyIn.cons rfl (fun K hK => ?_) AllReadyIn.nil)
            rw [if_pos (by rfl)]
            go_simp
            refine hK _ _ ?_
            clear hK K
            try simp only [Act.put, List.setIfInBounds_toArray, List.set_cons_zero, List.set_cons_succ]
            refine wpAnyIn_done (by kernel_rfl) ?_ _
            clear hc HCH HY HJR HST cl cc ck cx hx
            gi_wp2
            go_roundw
            case rel => exact ⟨k + 1, by go_num, hlt, HJ2.out⟩
            case measure => simp [intOf]; omega
          | true =>
            obtain ⟨rest, hsp⟩ := chl_split hlt hc
            have hJ' := HJ.out _ _ _ HJ1.out HW.out
            have hgd : L.getD k ByteArray.empty = x := by rw [List.getD_eq_getElem?_getD, hx]; rfl
            rw [hgd] at hsp
            obtain ⟨fn, tmps, assign, body, hy, hR⟩ := HY.out _ _ _ _ hsp hJ'
            have HSP := Lib.hid hsp
            have HC1 : Hid (chlK 1 L (k + 1) = chlK 1 L k ++ [(k, x)]) := Lib.hid (by rw [chlK, hc, if_pos rfl, hgd])
            have HRR := Lib.hid hR
            simp only [encC] at hy
            clear hJ' hR hsp
            refine wpAnyIn_take (i := 10) (v := .bool true) rfl rfl (by kernel_rfl) (by kernel_rfl) (by kernel_rfl) (fun _ _ _ h => h) ⟨Or.inl ⟨by rfl, fun w' => by go_simp⟩, fun _ => rfl⟩ ?_
            try simp only [Act.put, List.setIfInBounds_toArray]
            refine wpAnyIn_take (i := 11) (v := .func (.yield l) #[] #[]) rfl rfl (by kernel_rfl) (by kernel_rfl) (by kernel_rfl) (fun _ _ _ h => h) ⟨Or.inl ⟨by rfl, fun w' => by go_simp⟩, fun _ => rfl⟩ ?_
            try simp only [Act.put]
            refine wpAnyIn_take (i := 12) (v := .int .i64 k) rfl rfl (by kernel_rfl) (by kernel_rfl) (by kernel_rfl) (fun _ _ _ h => h) ⟨Or.inl ⟨by rfl, fun w' => by go_simp⟩, fun _ => rfl⟩ ?_
            try simp only [Act.put]
            refine wpAnyIn_take (i := 13) (v := .string x) rfl rfl (by kernel_rfl) (by kernel_rfl) (by kernel_rfl) (fun _ _ _ h => h) ⟨Or.inl ⟨by rfl, fun w' => by go_simp⟩, fun _ => rfl⟩ ?_
            try simp only [Act.put]
            refine wpAnyIn_ready (rs := [14]) (by kernel_rfl) (by simp) (AllReadyIn.cons rfl (fun K hK => ?_) AllReadyIn.nil)
            rw [if_pos (by rfl)]
            go_simp
            refine HRR.out.mono ?_
            rintro e W3 (⟨rfl, hJ3⟩ | ⟨rfl, hJx3⟩)
            · have HJ3 := Lib.hid hJ3
              clear hJ3 hy
              refine hK _ _ ?_
              clear hK K
              try simp only [Act.put, List.setIfInBounds_toArray, List.set_cons_zero, List.set_cons_succ]
              refine wpAnyIn_take (i := 15) (v := .bool false) rfl rfl (by kernel_rfl) (by kernel_rfl) (by kernel_rfl) (fun _ _ _ h => h) ⟨Or.inl ⟨by rfl, fun w' => by go_simp⟩, fun _ => rfl⟩ ?_
              try simp only [Act.put, List.setIfInBounds_toArray]
              refine wpAnyIn_take (i := 16) (v := .bool false) rfl rfl (by kernel_rfl) (by kernel_rfl) (by kernel_rfl) (fun _ _ _ h => h) ⟨Or.inl ⟨by rfl, fun w' => by go_simp⟩, fun _ => rfl⟩ ?_
              try simp only [Act.put]
              refine wpAnyIn_done (by kernel_rfl) ?_ _
              gi_wp2
              go_roundw
              case rel => exact ⟨k + 1, by go_num, hlt, by rw [HC1.out]; exact HJ3.out⟩
              case measure => simp [intOf]; omega
            · have HJ3 := Lib.hid hJx3
              clear hJx3 hy
              refine hK _ _ ?_
              clear hK K
              try simp only [Act.put, List.setIfInBounds_toArray, List.set_cons_zero, List.set_cons_succ]
              refine wpAnyIn_take (i := 15) (v := .bool true) rfl rfl (by kernel_rfl) (by kernel_rfl) (by kernel_rfl) (fun _ _ _ h => h) ⟨Or.inl ⟨by rfl, fun w' => by go_simp⟩, fun _ => rfl⟩ ?_
              try simp only [Act.put, List.setIfInBounds_toArray]
              refine wpAnyIn_take (i := 16) (v := .bool true) rfl rfl (by kernel_rfl) (by kernel_rfl) (by kernel_rfl) (fun _ _ _ h => h) ⟨Or.inl ⟨by rfl, fun w' => by go_simp⟩, fun _ => rfl⟩ ?_
              try simp only [Act.put]
              refine wpAnyIn_done (by kernel_rfl) ?_ _
              gi_wp2
              refine bodyPost_ret (results_none rfl _ _ _) rfl ?_
              exact ⟨⟨_, rfl⟩, .inr ⟨_, _, _, ⟨_, HSP.out⟩, HJ3.out⟩⟩
      · refine wpIn_region_any (by kernel_rfl) ?_
        change wpAnyIn _ _ _ _ _ _ _ _ _ (World.drew _)
        have ct : (wr.drew.alloc tabO).cell? ⟨wr.heap.size, 2, none⟩ = some (.func (.func 165) #[] #[]) := cell_of (heap_alloc_new wr.drew _) 2
        have ct2 : (wr.alloc tabO).cell? ⟨wr.heap.size, 2, none⟩ = some (.func (.func 165) #[] #[]) := cell_of (heap_alloc_new wr _) 2
        have cl2 : (wr.alloc tabO).cell? ⟨bl, 0, none⟩ = some (.slice (some ⟨g, 0, none⟩) L.length cap) := ((Frm.refl [] wr).alloc _).keep cl
        have cc2 : (wr.alloc tabO).cell? ⟨bc, 0, none⟩ = some (.pointer (some ⟨cb, 0, none⟩)) := ((Frm.refl [] wr).alloc _).keep cc
        have ck2 := ((Frm.refl [] wr).alloc tabO).keep ck
        apply via
        case main =>
          intro tail
          refine wpAnyIn_take (i := 8) (v := .int .i64 k) rfl rfl (by kernel_rfl) (by kernel_rfl) (by kernel_rfl) (fun _ _ _ h => h) ⟨Or.inl ⟨by rfl, fun w' => by go_simp⟩, fun _ => rfl⟩ ?_
          try simp only [Act.put, List.setIfInBounds_toArray]
          refine wpAnyIn_ready (rs := [0, 1, 7]) (by kernel_rfl) (by simp) (AllReadyIn.cons rfl (fun K hK => ?_) (AllReadyIn.cons rfl (fun K hK => ?_) (AllReadyIn.cons rfl (fun K hK => ?_) AllReadyIn.nil)))
          · rw [if_pos (by rfl)]
            go_simp
            refine ⟨trivial, (callsIn_wide.2 (choices_any _)).mono ?_⟩
            rintro e w1 ⟨rfl, rfl⟩
            refine hK _ _ ?_
            clear hK K
            try simp only [Act.put, List.setIfInBounds_toArray, List.set_cons_zero, List.set_cons_succ]
            refine wpAnyIn_ready (rs := [1, 7]) (by kernel_rfl) (by simp) (AllReadyIn.cons rfl (fun K hK => ?_) (AllReadyIn.cons rfl (fun K hK => ?_) AllReadyIn.nil))
            · rw [if_pos (by rfl)]
              go_simp
              refine hK _ _ ?_
              clear hK K
              try simp only [Act.put, List.setIfInBounds_toArray, List.set_cons_zero, List.set_cons_succ]
              refine wpAnyIn_take (i := 2) (v := .pointer (some ⟨cb, 0, none⟩)) rfl rfl (by kernel_rfl) (by kernel_rfl) (by kernel_rfl) (fun _ _ _ h => h) ⟨Or.inl ⟨by rfl, fun w' => by go_simp⟩, fun _ => rfl⟩ ?_
              try simp only [Act.put, List.setIfInBounds_toArray]
              refine wpAnyIn_take (i := 3) (v := .pointer (some ⟨cb, 0, none⟩)) rfl rfl (by kernel_rfl) (by kernel_rfl) (by kernel_rfl) (fun _ _ _ h => h) ⟨Or.inl ⟨by rfl, fun w' => by go_simp⟩, fun _ => rfl⟩ ?_
              try simp only [Act.put]
              refine wpAnyIn_ready (rs := [4, 7]) (by kernel_rfl) (by simp) (AllReadyIn.cons rfl (fun K hK => ?_) (AllReadyIn.cons rfl (fun K hK => ?_) AllReadyIn.nil))
              · rw [if_pos (by rfl)]
                go_simp
                refine hK _ _ ?_
                clear hK K
                try simp only [Act.put, List.setIfInBounds_toArray, List.set_cons_zero, List.set_cons_succ]
                refine wpAnyIn_take (i := 5) (v := .pointer (some ⟨wr.heap.size, 2, none⟩)) rfl rfl (by kernel_rfl) (by kernel_rfl) (by kernel_rfl) (fun _ _ _ h => h) ⟨Or.inl ⟨by rfl, fun w' => by go_simp⟩, fun _ => rfl⟩ ?_
                try simp only [Act.put, List.setIfInBounds_toArray]
                refine wpAnyIn_ready (rs := [6, 7]) (by kernel_rfl) (by simp) (AllReadyIn.cons rfl (fun K hK => ?_) (AllReadyIn.cons rfl (fun K hK => ?_) AllReadyIn.nil))
                · rw [if_pos (by rfl)]
                  go_simp
                  refine hK _ _ ?_
                  clear hK K
                  try simp only [Act.put, List.setIfInBounds_toArray, List.set_cons_zero, List.set_cons_succ]
                  refine wpAnyIn_ready (rs := [7]) (by kernel_rfl) (by simp) (AllReadyIn.cons rfl (fun K hK => ?_) AllReadyIn.nil)
                  · rw [if_pos (by rfl)]
                    go_simp
                    refine hK _ _ ?_
                    clear hK K
                    try simp only [Act.put, List.setIfInBounds_toArray, List.set_cons_zero, List.set_cons_succ]
                    exact tail
                · rw [if_pos (by rfl)]
                  go_simp
                  refine hK _ _ ?_
                  clear hK K
                  try simp only [Act.put, List.setIfInBounds_toArray, List.set_cons_zero, List.set_cons_succ]
                  refine wpAnyIn_ready (rs := [6]) (by kernel_rfl) (by simp) (AllReadyIn.cons rfl (fun K hK => ?_) AllReadyIn.nil)
                  · rw [if_pos (by rfl)]
                    go_simp
                    refine hK _ _ ?_
                    clear hK K
                    try simp only [Act.put, List.setIfInBounds_toArray, List.set_cons_zero, List.set_cons_succ]
                    exact tail
              · rw [if_pos (by rfl)]
                go_simp
                refine hK _ _ ?_
                clear hK K
                try simp only [Act.put, List.setIfInBounds_toArray, List.set_cons_zero, List.set_cons_succ]
                refine wpAnyIn_ready (rs := [4]) (by kernel_rfl) (by simp) (AllReadyIn.cons rfl (fun K hK => ?_) AllReadyIn.nil)
                · rw [if_pos (by rfl)]
                  go_simp
                  refine hK _ _ ?_
                  clear hK K
                  try simp only [Act.put, List.setIfInBounds_toArray, List.set_cons_zero, List.set_cons_succ]
                  refine wpAnyIn_take (i := 5) (v := .pointer (some ⟨wr.heap.size, 2, none⟩)) rfl rfl (by kernel_rfl) (by kernel_rfl) (by kernel_rfl) (fun _ _ _ h => h) ⟨Or.inl ⟨by rfl, fun w' => by go_simp⟩, fun _ => rfl⟩ ?_
                  try simp only [Act.put, List.setIfInBounds_toArray]
                  refine wpAnyIn_ready (rs := [6]) (by kernel_rfl) (by simp) (AllReadyIn.cons rfl (fun K hK => ?_) AllReadyIn.nil)
                  · rw [if_pos (by rfl)]
                    go_simp
                    refine hK _ _ ?_
                    clear hK K
                    try simp only [Act.put, List.setIfInBounds_toArray, List.set_cons_zero, List.set_cons_succ]
                    exact tail
            · rw [if_pos (by rfl)]
              go_simp
              refine hK _ _ ?_
              clear hK K
              try simp only [Act.put, List.setIfInBounds_toArray, List.set_cons_zero, List.set_cons_succ]
              refine wpAnyIn_ready (rs := [1]) (by kernel_rfl) (by simp) (AllReadyIn.cons rfl (fun K hK => ?_) AllReadyIn.nil)
              · rw [if_pos (by rfl)]
                go_simp
                refine hK _ _ ?_
                clear hK K
                try simp only [Act.put, List.setIfInBounds_toArray, List.set_cons_zero, List.set_cons_succ]
                refine wpAnyIn_take (i := 2) (v := .pointer (some ⟨cb, 0, none⟩)) rfl rfl (by kernel_rfl) (by kernel_rfl) (by kernel_rfl) (fun _ _ _ h => h) ⟨Or.inl ⟨by rfl, fun w' => by go_simp⟩, fun _ => rfl⟩ ?_
                try simp only [Act.put, List.setIfInBounds_toArray]
                refine wpAnyIn_take (i := 3) (v := .pointer (some ⟨cb, 0, none⟩)) rfl rfl (by kernel_rfl) (by kernel_rfl) (by kernel_rfl) (fun _ _ _ h => h) ⟨Or.inl ⟨by rfl, fun w' => by go_simp⟩, fun _ => rfl⟩ ?_
                try simp only [Act.put]
                refine wpAnyIn_ready (rs := [4]) (by kernel_rfl) (by simp) (AllReadyIn.cons rfl (fun K hK => ?_) AllReadyIn.nil)
                · rw [if_pos (by rfl)]
                  go_simp
                  refine hK _ _ ?_
                  clear hK K
                  try simp only [Act.put, List.setIfInBounds_toArray, List.set_cons_zero, List.set_cons_succ]
                  refine wpAnyIn_take (i := 5) (v := .pointer (some ⟨wr.heap.size, 2, none⟩)) rfl rfl (by kernel_rfl) (by kernel_rfl) (by kernel_rfl) (fun _ _ _ h => h) ⟨Or.inl ⟨by rfl, fun w' => by go_simp⟩, fun _ => rfl⟩ ?_
                  try simp only [Act.put, List.setIfInBounds_toArray]
                  refine wpAnyIn_ready (rs := [6]) (by kernel_rfl) (by simp) (AllReadyIn.cons rfl (fun K hK => ?_) AllReadyIn.nil)
                  · rw [if_pos (by rfl)]
                    go_simp
                    refine hK _ _ ?_
                    clear hK K
                    try simp only [Act.put, List.setIfInBounds_toArray, List.set_cons_zero, List.set_cons_succ]
                    exact tail
          · rw [if_pos (by rfl)]
            go_simp
            refine hK _ _ ?_
            clear hK K
            try simp only [Act.put, List.setIfInBounds_toArray, List.set_cons_zero, List.set_cons_succ]
            refine wpAnyIn_take (i := 2) (v := .pointer (some ⟨cb, 0, none⟩)) rfl rfl (by kernel_rfl) (by kernel_rfl) (by kernel_rfl) (fun _ _ _ h => h) ⟨Or.inl ⟨by rfl, fun w' => by go_simp⟩, fun _ => rfl⟩ ?_
            try simp only [Act.put, List.setIfInBounds_toArray]
            refine wpAnyIn_take (i := 3) (v := .pointer (some ⟨cb, 0, none⟩)) rfl rfl (by kernel_rfl) (by kernel_rfl) (by kernel_rfl) (fun _ _ _ h => h) ⟨Or.inl ⟨by rfl, fun w' => by go_simp⟩, fun _ => rfl⟩ ?_
            try simp only [Act.put]
            refine wpAnyIn_ready (rs := [0, 4, 7]) (by kernel_rfl) (by simp) (AllReadyIn.cons rfl (fun K hK => ?_) (AllReadyIn.cons rfl (fun K hK => ?_) (AllReadyIn.cons rfl (fun K hK => ?_) AllReadyIn.nil)))
            · rw [if_pos (by rfl)]
              go_simp
              refine ⟨trivial, (callsIn_wide.2 (choices_any _)).mono ?_⟩
              rintro e w1 ⟨rfl, rfl⟩
              refine hK _ _ ?_
              clear hK K
              try simp only [Act.put, List.setIfInBounds_toArray, List.set_cons_zero, List.set_cons_succ]
              refine wpAnyIn_ready (rs := [4, 7]) (by kernel_rfl) (by simp) (AllReadyIn.cons rfl (fun K hK => ?_) (AllReadyIn.cons rfl (fun K hK => ?_) AllReadyIn.nil))
              · rw [if_pos (by rfl)]
                go_simp
                refine hK _ _ ?_
                clear hK K
                try simp only [Act.put, List.setIfInBounds_toArray, List.set_cons_zero, List.set_cons_succ]
                refine wpAnyIn_take (i := 5) (v := .pointer (some ⟨wr.heap.size, 2, none⟩)) rfl rfl (by kernel_rfl) (by kernel_rfl) (by kernel_rfl) (fun _ _ _ h => h) ⟨Or.inl ⟨by rfl, fun w' => by go_simp⟩, fun _ => rfl⟩ ?_
                try simp only [Act.put, List.setIfInBounds_toArray]
                refine wpAnyIn_ready (rs := [6, 7]) (by kernel_rfl) (by simp) (AllReadyIn.cons rfl (fun K hK => ?_) (AllReadyIn.cons rfl (fun K hK => ?_) AllReadyIn.nil))
                · rw [if_pos (by rfl)]
                  go_simp
                  refine hK _ _ ?_
                  clear hK K
                  try simp only [Act.put, List.setIfInBounds_toArray, List.set_cons_zero, List.set_cons_succ]
                  refine wpAnyIn_ready (rs := [7]) (by kernel_rfl) (by simp) (AllReadyIn.cons rfl (fun K hK => ?_) AllReadyIn.nil)
                  · rw [if_pos (by rfl)]
                    go_simp
                    refine hK _ _ ?_
                    clear hK K
                    try simp only [Act.put, List.setIfInBounds_toArray, List.set_cons_zero, List.set_cons_succ]
                    exact tail
                · rw [if_pos (by rfl)]
                  go_simp
                  refine hK _ _ ?_
                  clear hK K
                  try simp only [Act.put, List.setIfInBounds_toArray, List.set_cons_zero, List.set_cons_succ]
                  refine wpAnyIn_ready (rs := [6]) (by kernel_rfl) (by simp) (AllReadyIn.cons rfl (fun K hK => ?_) AllReadyIn.nil)
                  · rw [if_pos (by rfl)]
                    go_simp
                    refine hK _ _ ?_
                    clear hK K
                    try simp only [Act.put, List.setIfInBounds_toArray, List.set_cons_zero, List.set_cons_succ]
                    exact tail
              · rw [if_pos (by rfl)]
                go_simp
                refine hK _ _ ?_
                clear hK K
                try simp only [Act.put, List.setIfInBounds_toArray, List.set_cons_zero, List.set_cons_succ]
                refine wpAnyIn_ready (rs := [4]) (by kernel_rfl) (by simp) (AllReadyIn.cons rfl (fun K hK => ?_) AllReadyIn.nil)
                · rw [if_pos (by rfl)]
                  go_simp
                  refine hK _ _ ?_
                  clear hK K
                  try simp only [Act.put, List.setIfInBounds_toArray, List.set_cons_zero, List.set_cons_succ]
                  refine wpAnyIn_take (i := 5) (v := .pointer (some ⟨wr.heap.size, 2, none⟩)) rfl rfl (by kernel_rfl) (by kernel_rfl) (by kernel_rfl) (fun _ _ _ h => h) ⟨Or.inl ⟨by rfl, fun w' => by go_simp⟩, fun _ => rfl⟩ ?_
                  try simp only [Act.put, List.setIfInBounds_toArray]
                  refine wpAnyIn_ready (rs := [6]) (by kernel_rfl) (by simp) (AllReadyIn.cons rfl (fun K hK => ?_) AllReadyIn.nil)
                  · rw [if_pos (by rfl)]
                    go_simp
                    refine hK _ _ ?_
                    clear hK K
                    try simp only [Act.put, List.setIfInBounds_toArray, List.set_cons_zero, List.set_cons_succ]
                    exact tail
            · rw [if_pos (by rfl)]
              go_simp
              refine hK _ _ ?_
              clear hK K
              try simp only [Act.put, List.setIfInBounds_toArray, List.set_cons_zero, List.set_cons_succ]
              refine wpAnyIn_ready (rs := [0, 7]) (by kernel_rfl) (by simp) (AllReadyIn.cons rfl (fun K hK => ?_) (AllReadyIn.cons rfl (fun K hK => ?_) AllReadyIn.nil))
              · rw [if_pos (by rfl)]
                go_simp
                refine ⟨trivial, (callsIn_wide.2 (choices_any _)).mono ?_⟩
                rintro e w1 ⟨rfl, rfl⟩
                refine hK _ _ ?_
                clear hK K
                try simp only [Act.put, List.setIfInBounds_toArray, List.set_cons_zero, List.set_cons_succ]
                refine wpAnyIn_take (i := 5) (v := .pointer (some ⟨wr.heap.size, 2, none⟩)) rfl rfl (by kernel_rfl) (by kernel_rfl) (by kernel_rfl) (fun _ _ _ h => h) ⟨Or.inl ⟨by rfl, fun w' => by go_simp⟩, fun _ => rfl⟩ ?_
                try simp only [Act.put, List.setIfInBounds_toArray]
                refine wpAnyIn_ready (rs := [6, 7]) (by kernel_rfl) (by simp) (AllReadyIn.cons rfl (fun K hK => ?_) (AllReadyIn.cons rfl (fun K hK => ?_) AllReadyIn.nil))
                · rw [if_pos (by rfl)]
                  go_simp
                  refine hK _ _ ?_
                  clear hK K
                  try simp only [Act.put, List.setIfInBounds_toArray, List.set_cons_zero, List.set_cons_succ]
                  refine wpAnyIn_ready (rs := [7]) (by kernel_rfl) (by simp) (AllReadyIn.cons rfl (fun K hK => ?_) AllReadyIn.nil)
                  · rw [if_pos (by rfl)]
                    go_simp
                    refine hK _ _ ?_
                    clear hK K
                    try simp only [Act.put, List.setIfInBounds_toArray, List.set_cons_zero, List.set_cons_succ]
                    exact tail
                · rw [if_pos (by rfl)]
                  go_simp
                  refine hK _ _ ?_
                  clear hK K
                  try simp only [Act.put, List.setIfInBounds_toArray, List.set_cons_zero, List.set_cons_succ]
                  refine wpAnyIn_ready (rs := [6]) (by kernel_rfl) (by simp) (AllReadyIn.cons rfl (fun K hK => ?_) AllReadyIn.nil)
                  · rw [if_pos (by rfl)]
                    go_simp
                    refine hK _ _ ?_
                    clear hK K
                    try simp only [Act.put, List.setIfInBounds_toArray, List.set_cons_zero, List.set_cons_succ]
                    exact tail
              · rw [if_pos (by rfl)]
                go_simp
                refine hK _ _ ?_
                clear hK K
                try simp only [Act.put, List.setIfInBounds_toArray, List.set_cons_zero, List.set_cons_succ]
                refine wpAnyIn_ready (rs := [0]) (by kernel_rfl) (by simp) (AllReadyIn.cons rfl (fun K hK => ?_) AllReadyIn.nil)
                · rw [if_pos (by rfl)]
                  go_simp
                  refine ⟨trivial, (callsIn_wide.2 (choices_any _)).mono ?_⟩
                  rintro e w1 ⟨rfl, rfl⟩
                  refine hK _ _ ?_
                  clear hK K
                  try simp only [Act.put, List.setIfInBounds_toArray, List.set_cons_zero, List.set_cons_succ]
                  refine wpAnyIn_take (i := 5) (v := .pointer (some ⟨wr.heap.size, 2, none⟩)) rfl rfl (by kernel_rfl) (by kernel_rfl) (by kernel_rfl) (fun _ _ _ h => h) ⟨Or.inl ⟨by rfl, fun w' => by go_simp⟩, fun _ => rfl⟩ ?_
                  try simp only [Act.put, List.setIfInBounds_toArray]
                  refine wpAnyIn_ready (rs := [6]) (by kernel_rfl) (by simp) (AllReadyIn.cons rfl (fun K hK => ?_) AllReadyIn.nil)
                  · rw [if_pos (by rfl)]
                    go_simp
                    refine hK _ _ ?_
                    clear hK K
                    try simp only [Act.put, List.setIfInBounds_toArray, List.set_cons_zero, List.set_cons_succ]
                    exact tail
            · rw [if_pos (by rfl)]
              go_simp
              refine hK _ _ ?_
              clear hK K
              try simp only [Act.put, List.setIfInBounds_toArray, List.set_cons_zero, List.set_cons_succ]
              refine wpAnyIn_ready (rs := [0, 4]) (by kernel_rfl) (by simp) (AllReadyIn.cons rfl (fun K hK => ?_) (AllReadyIn.cons rfl (fun K hK => ?_) AllReadyIn.nil))
              · rw [if_pos (by rfl)]
                go_simp
                refine ⟨trivial, (callsIn_wide.2 (choices_any _)).mono ?_⟩
                rintro e w1 ⟨rfl, rfl⟩
                refine hK _ _ ?_
                clear hK K
                try simp only [Act.put, List.setIfInBounds_toArray, List.set_cons_zero, List.set_cons_succ]
                refine wpAnyIn_ready (rs := [4]) (by kernel_rfl) (by simp) (AllReadyIn.cons rfl (fun K hK => ?_) AllReadyIn.nil)
                · rw [if_pos (by rfl)]
                  go_simp
                  refine hK _ _ ?_
                  clear hK K
                  try simp only [Act.put, List.setIfInBounds_toArray, List.set_cons_zero, List.set_cons_succ]
                  refine wpAnyIn_take (i := 5) (v := .pointer (some ⟨wr.heap.size, 2, none⟩)) rfl rfl (by kernel_rfl) (by kernel_rfl) (by kernel_rfl) (fun _ _ _ h => h) ⟨Or.inl ⟨by rfl, fun w' => by go_simp⟩, fun _ => rfl⟩ ?_
                  try simp only [Act.put, List.setIfInBounds_toArray]
                  refine wpAnyIn_ready (rs := [6]) (by kernel_rfl) (by simp) (AllReadyIn.cons rfl (fun K hK => ?_) AllReadyIn.nil)
                  · rw [if_pos (by rfl)]
                    go_simp
                    refine hK _ _ ?_
                    clear hK K
                    try simp only [Act.put, List.setIfInBounds_toArray, List.set_cons_zero, List.set_cons_succ]
                    exact tail
              · rw [if_pos (by rfl)]
                go_simp
                refine hK _ _ ?_
                clear hK K
                try simp only [Act.put, List.setIfInBounds_toArray, List.set_cons_zero, List.set_cons_succ]
                refine wpAnyIn_ready (rs := [0]) (by kernel_rfl) (by simp) (AllReadyIn.cons rfl (fun K hK => ?_) AllReadyIn.nil)
                · rw [if_pos (by rfl)]
                  go_simp
                  refine ⟨trivial, (callsIn_wide.2 (choices_any _)).mono ?_⟩
                  rintro e w1 ⟨rfl, rfl⟩
                  refine hK _ _ ?_
                  clear hK K
                  try simp only [Act.put, List.setIfInBounds_toArray, List.set_cons_zero, List.set_cons_succ]
                  refine wpAnyIn_take (i := 5) (v := .pointer (some ⟨wr.heap.size, 2, none⟩)) rfl rfl (by kernel_rfl) (by kernel_rfl) (by kernel_rfl) (fun _ _ _ h => h) ⟨Or.inl ⟨by rfl, fun w' => by go_simp⟩, fun _ => rfl⟩ ?_
                  try simp only [Act.put, List.setIfInBounds_toArray]
                  refine wpAnyIn_ready (rs := [6]) (by kernel_rfl) (by simp) (AllReadyIn.cons rfl (fun K hK => ?_) AllReadyIn.nil)
                  · rw [if_pos (by rfl)]
                    go_simp
                    refine hK _ _ ?_
                    clear hK K
                    try simp only [Act.put, List.setIfInBounds_toArray, List.set_cons_zero, List.set_cons_succ]
                    exact tail
          · rw [if_pos (by rfl)]
            go_simp
            refine hK _ _ ?_
            clear hK K
            try simp only [Act.put, List.setIfInBounds_toArray, List.set_cons_zero, List.set_cons_succ]
            refine wpAnyIn_ready (rs := [0, 1]) (by kernel_rfl) (by simp) (AllReadyIn.cons rfl (fun K hK => ?_) (AllReadyIn.cons rfl (fun K hK => ?_) AllReadyIn.nil))
            · rw [if_pos (by rfl)]
              go_simp
              refine ⟨trivial, (callsIn_wide.2 (choices_any _)).mono ?_⟩
              rintro e w1 ⟨rfl, rfl⟩
              refine hK _ _ ?_
              clear hK K
              try simp only [Act.put, List.setIfInBounds_toArray, List.set_cons_zero, List.set_cons_succ]
              refine wpAnyIn_ready (rs := [1]) (by kernel_rfl) (by simp) (AllReadyIn.cons rfl (fun K hK => ?_) AllReadyIn.nil)
              · rw [if_pos (by rfl)]
                go_simp
                refine hK _ _ ?_
                clear hK K
                try simp only [Act.put, List.setIfInBounds_toArray, List.set_cons_zero, List.set_cons_succ]
                refine wpAnyIn_take (i := 2) (v := .pointer (some ⟨cb, 0, none⟩)) rfl rfl (by kernel_rfl) (by kernel_rfl) (by kernel_rfl) (fun _ _ _ h => h) ⟨Or.inl ⟨by rfl, fun w' => by go_simp⟩, fun _ => rfl⟩ ?_
                try simp only [Act.put, List.setIfInBounds_toArray]
                refine wpAnyIn_take (i := 3) (v := .pointer (some ⟨cb, 0, none⟩)) rfl rfl (by kernel_rfl) (by kernel_rfl) (by kernel_rfl) (fun _ _ _ h => h) ⟨Or.inl ⟨by rfl, fun w' => by go_simp⟩, fun _ => rfl⟩ ?_
                try simp only [Act.put]
                refine wpAnyIn_ready (rs := [4]) (by kernel_rfl) (by simp) (AllReadyIn.cons rfl (fun K hK => ?_) AllReadyIn.nil)
                · rw [if_pos (by rfl)]
                  go_simp
                  refine hK _ _ ?_
                  clear hK K
                  try simp only [Act.put, List.setIfInBounds_toArray, List.set_cons_zero, List.set_cons_succ]
                  refine wpAnyIn_take (i := 5) (v := .pointer (some ⟨wr.heap.size, 2, none⟩)) rfl rfl (by kernel_rfl) (by kernel_rfl) (by kernel_rfl) (fun _ _ _ h => h) ⟨Or.inl ⟨by rfl, fun w' => by go_simp⟩, fun _ => rfl⟩ ?_
                  try simp only [Act.put, List.setIfInBounds_toArray]
                  refine wpAnyIn_ready (rs := [6]) (by kernel_rfl) (by simp) (AllReadyIn.cons rfl (fun K hK => ?_) AllReadyIn.nil)
                  · rw [if_pos (by rfl)]
                    go_simp
                    refine hK _ _ ?_
                    clear hK K
                    try simp only [Act.put, List.setIfInBounds_toArray, List.set_cons_zero, List.set_cons_succ]
                    exact tail
            · rw [if_pos (by rfl)]
              go_simp
              refine hK _ _ ?_
              clear hK K
              try simp only [Act.put, List.setIfInBounds_toArray, List.set_cons_zero, List.set_cons_succ]
              refine wpAnyIn_take (i := 2) (v := .pointer (some ⟨cb, 0, none⟩)) rfl rfl (by kernel_rfl) (by kernel_rfl) (by kernel_rfl) (fun _ _ _ h => h) ⟨Or.inl ⟨by rfl, fun w' => by go_simp⟩, fun _ => rfl⟩ ?_
              try simp only [Act.put, List.setIfInBounds_toArray]
              refine wpAnyIn_take (i := 3) (v := .pointer (some ⟨cb, 0, none⟩)) rfl rfl (by kernel_rfl) (by kernel_rfl) (by kernel_rfl) (fun _ _ _ h => h) ⟨Or.inl ⟨by rfl, fun w' => by go_simp⟩, fun _ => rfl⟩ ?_
              try simp only [Act.put]
              refine wpAnyIn_ready (rs := [0, 4]) (by kernel_rfl) (by simp) (AllReadyIn.cons rfl (fun K hK => ?_) (AllReadyIn.cons rfl (fun K hK => ?_) AllReadyIn.nil))
              · rw [if_pos (by rfl)]
                go_simp
                refine ⟨trivial, (callsIn_wide.2 (choices_any _)).mono ?_⟩
                rintro e w1 ⟨rfl, rfl⟩
                refine hK _ _ ?_
                clear hK K
                try simp only [Act.put, List.setIfInBounds_toArray, List.set_cons_zero, List.set_cons_succ]
                refine wpAnyIn_ready (rs := [4]) (by kernel_rfl) (by simp) (AllReadyIn.cons rfl (fun K hK => ?_) AllReadyIn.nil)
                · rw [if_pos (by rfl)]
                  go_simp
                  refine hK _ _ ?_
                  clear hK K
                  try simp only [Act.put, List.setIfInBounds_toArray, List.set_cons_zero, List.set_cons_succ]
                  refine wpAnyIn_take (i := 5) (v := .pointer (some ⟨wr.heap.size, 2, none⟩)) rfl rfl (by kernel_rfl) (by kernel_rfl) (by kernel_rfl) (fun _ _ _ h => h) ⟨Or.inl ⟨by rfl, fun w' => by go_simp⟩, fun _ => rfl⟩ ?_
                  try simp only [Act.put, List.setIfInBounds_toArray]
                  refine wpAnyIn_ready (rs := [6]) (by kernel_rfl) (by simp) (AllReadyIn.cons rfl (fun K hK => ?_) AllReadyIn.nil)
                  · rw [if_pos (by rfl)]
                    go_simp
                    refine hK _ _ ?_
                    clear hK K
                    try simp only [Act.put, List.setIfInBounds_toArray, List.set_cons_zero, List.set_cons_succ]
                    exact tail
              · rw [if_pos (by rfl)]
                go_simp
                refine hK _ _ ?_
                clear hK K
                try simp only [Act.put, List.setIfInBounds_toArray, List.set_cons_zero, List.set_cons_succ]
                refine wpAnyIn_ready (rs := [0]) (by kernel_rfl) (by simp) (AllReadyIn.cons rfl (fun K hK => ?_) AllReadyIn.nil)
                · rw [if_pos (by rfl)]
                  go_simp
                  refine ⟨trivial, (callsIn_wide.2 (choices_any _)).mono ?_⟩
                  rintro e w1 ⟨rfl, rfl⟩
                  refine hK _ _ ?_
                  clear hK K
                  try simp only [Act.put, List.setIfInBounds_toArray, List.set_cons_zero, List.set_cons_succ]
                  refine wpAnyIn_take (i := 5) (v := .pointer (some ⟨wr.heap.size, 2, none⟩)) rfl rfl (by kernel_rfl) (by kernel_rfl) (by kernel_rfl) (fun _ _ _ h => h) ⟨Or.inl ⟨by rfl, fun w' => by go_simp⟩, fun _ => rfl⟩ ?_
                  try simp only [Act.put, List.setIfInBounds_toArray]
                  refine wpAnyIn_ready (rs := [6]) (by kernel_rfl) (by simp) (AllReadyIn.cons rfl (fun K hK => ?_) AllReadyIn.nil)
                  · rw [if_pos (by rfl)]
                    go_simp
                    refine hK _ _ ?_
                    clear hK K
                    try simp only [Act.put, List.setIfInBounds_toArray, List.set_cons_zero, List.set_cons_succ]
                    exact tail
        case tail =>
          have HCH : Hid (Calls Tryz.prog 165 #[.slice (some ⟨g, 0, none⟩) L.length cap, .int .i64 k] (wr.alloc tabO).drew (Ret (.bool (chc 2 L k)) ((wr.alloc tabO).drew = ·))) :=
            Lib.hid (chc_any 2 _ L k _ (HST.out.frm ((Frm.refl [] wr).alloc _).drew (by simp)) (by omega) hlt)
          have HW : Hid (Frm [] wr (wr.alloc tabO).drew) := Lib.hid ((Frm.refl [] wr).alloc _).drew
          generalize (wr.alloc tabO).drew = wz at HCH HW ⊢
          clear ct ct2 cl2 cc2 ck2
          refine wpAnyIn_ready (rs := [9]) (by kernel_rfl) (by simp) (AllReadyIn.cons rfl (fun K hK => ?_) AllReadyIn.nil)
          rw [if_pos (by rfl)]
          go_simp
          refine ⟨trivial, (callsIn_wide.2 HCH.out).mono ?_⟩
          rintro e w1 ⟨rfl, rfl⟩
          refine hK _ _ ?_
          clear hK K
          try simp only [Act.put, List.setIfInBounds_toArray, List.set_cons_zero, List.set_cons_succ]
          cases hc : chc 2 L k with
          | false =>
            have HJ2 : Hid (J (chlK 2 L (k + 1)) wz) := by
              have h4 := HJ.out _ _ _ HJ1.out HW.out
              have h5 : J (chlK 2 L (k + 1)) wz := by simpa [chlK, hc] using h4
              exact Lib.hid h5
            refine wpAnyIn_take (i := 10) (v := .bool false) rfl rfl (by kernel_rfl) (by kernel_rfl) (by kernel_rfl) (fun _ _ _ h => h) ⟨Or.inl ⟨by rfl, fun w' => by go_simp⟩, fun _ => rfl⟩ ?_
            try simp only [Act.put, List.setIfInBounds_toArray]
            refine wpAnyIn_take (i := 11) (v := undef) rfl rfl (by kernel_rfl) (by kernel_rfl) (by kernel_rfl) (fun _ _ _ h => h) ⟨Or.inr ⟨by rfl, rfl⟩, fun _ => rfl⟩ ?_
            try simp only [Act.put]
            refine wpAnyIn_take (i := 12) (v := undef) rfl rfl (by kernel_rfl) (by kernel_rfl) (by kernel_rfl) (fun _ _ _ h => h) ⟨Or.inr ⟨by rfl, rfl⟩, fun _ => rfl⟩ ?_
            try simp only [Act.put]
            refine wpAnyIn_take (i := 13) (v := undef) rfl rfl (by kernel_rfl) (by kernel_rfl) (by kernel_rfl) (fun _ _ _ h => h) ⟨Or.inr ⟨by rfl, rfl⟩, fun _ => rfl⟩ ?_
            try simp only [Act.put]
            refine wpAnyIn_take (i := 14) (v := undef) rfl rfl (by kernel_rfl) (by kernel_rfl) (by kernel_rfl) (fun _ _ _ h => h) ⟨Or.inr ⟨by rfl, rfl⟩, fun _ => rfl⟩ ?_
            try simp only [Act.put]
            refine wpAnyIn_take (i := 15) (v := undef) rfl rfl (by kernel_rfl) (by kernel_rfl) (by kernel_rfl) (fun _ _ _ h => h) ⟨Or.inr ⟨by rfl, rfl⟩, fun _ => rfl⟩ ?_
            try simp only [Act.put]
            refine wpAnyIn_ready (rs := [16]) (by kernel_rfl) (by simp) (AllReadyIn.cons rfl (fun K hK => ?_) AllReadyIn.nil)
            rw [if_pos (by rfl)]
            go_simp
            refine hK _ _ ?_
            clear hK K
            try simp only [Act.put, List.setIfInBounds_toArray, List.set_cons_zero, List.set_cons_succ]
            refine wpAnyIn_done (by kernel_rfl) ?_ _
            clear hc HCH HY HJR HST cl cc ck cx hx
            gi_wp2
            go_roundw
            case rel => exact ⟨k + 1, by go_num, hlt, HJ2.out⟩
            case measure => simp [intOf]; omega
          | true =>
            obtain ⟨rest, hsp⟩ := chl_split hlt hc
            have hJ' := HJ.out _ _ _ HJ1.out HW.out
            have hgd : L.getD k ByteArray.empty = x := by rw [List.getD_eq_getElem?_getD, hx]; rfl
            rw [hgd] at hsp
            obtain ⟨fn, tmps, assign, body, hy, hR⟩ := HY.out _ _ _ _ hsp hJ'
            have HSP := Lib.hid hsp
            have HC1 : Hid (chlK 2 L (k + 1) = chlK 2 L k ++ [(k, x)]) := Lib.hid (by rw [chlK, hc, if_pos rfl, hgd])
            have HRR := Lib.hid hR
            simp only [encC] at hy
            clear hJ' hR hsp
            refine wpAnyIn_take (i := 10) (v := .bool true) rfl rfl (by kernel_rfl) (by kernel_rfl) (by kernel_rfl) (fun _ _ _ h => h) ⟨Or.inl ⟨by rfl, fun w' => by go_simp⟩, fun _ => rfl⟩ ?_
            try simp only [Act.put, List.setIfInBounds_toArray]
            refine wpAnyIn_take (i := 11) (v := .func (.yield l) #[] #[]) rfl rfl (by kernel_rfl) (by kernel_rfl) (by kernel_rfl) (fun _ _ _ h => h) ⟨Or.inl ⟨by rfl, fun w' => by go_simp⟩, fun _ => rfl⟩ ?_
            try simp only [Act.put]
            refine wpAnyIn_take (i := 12) (v := .int .i64 k) rfl rfl (by kernel_rfl) (by kernel_rfl) (by kernel_rfl) (fun _ _ _ h => h) ⟨Or.inl ⟨by rfl, fun w' => by go_simp⟩, fun _ => rfl⟩ ?_
            try simp only [Act.put]
            refine wpAnyIn_take (i := 13) (v := .string x) rfl rfl (by kernel_rfl) (by kernel_rfl) (by kernel_rfl) (fun _ _ _ h => h) ⟨Or.inl ⟨by rfl, fun w' => by go_simp⟩, fun _ => rfl⟩ ?_
            try simp only [Act.put]
            refine wpAnyIn_ready (rs := [14]) (by kernel_rfl) (by simp) (AllReadyIn.cons rfl (fun K hK => ?_) AllReadyIn.nil)
            rw [if_pos (by rfl)]
            go_simp
            refine HRR.out.mono ?_
            rintro e W3 (⟨rfl, hJ3⟩ | ⟨rfl, hJx3⟩)
            · have HJ3 := Lib.hid hJ3
              clear hJ3 hy
              refine hK _ _ ?_
              clear hK K
              try simp only [Act.put, List.setIfInBounds_toArray, List.set_cons_zero, List.set_cons_succ]
              refine wpAnyIn_take (i := 15) (v := .bool false) rfl rfl (by kernel_rfl) (by kernel_rfl) (by kernel_rfl) (fun _ _ _ h => h) ⟨Or.inl ⟨by rfl, fun w' => by go_simp⟩, fun _ => rfl⟩ ?_
              try simp only [Act.put, List.setIfInBounds_toArray]
              refine wpAnyIn_take (i := 16) (v := .bool false) rfl rfl (by kernel_rfl) (by kernel_rfl) (by kernel_rfl) (fun _ _ _ h => h) ⟨Or.inl ⟨by rfl, fun w' => by go_simp⟩, fun _ => rfl⟩ ?_
              try simp only [Act.put]
              refine wpAnyIn_done (by kernel_rfl) ?_ _
              gi_wp2
              go_roundw
              case rel => exact ⟨k + 1, by go_num, hlt, by rw [HC1.out]; exact HJ3.out⟩
              case measure => simp [intOf]; omega
            · have HJ3 := Lib.hid hJx3
              clear hJx3 hy
              refine hK _ _ ?_
              clear hK K
              try simp only [Act.put, List.setIfInBounds_toArray, List.set_cons_zero, List.set_cons_succ]
              refine wpAnyIn_take (i := 15) (v := .bool true) rfl rfl (by kernel_rfl) (by kernel_rfl) (by kernel_rfl) (fun _ _ _ h => h) ⟨Or.inl ⟨by rfl, fun w' => by go_simp⟩, fun _ => rfl⟩ ?_
              try simp only [Act.put, List.setIfInBounds_toArray]
              refine wpAnyIn_take (i := 16) (v := .bool true) rfl rfl (by kernel_rfl) (by kernel_rfl) (by kernel_rfl) (fun _ _ _ h => h) ⟨Or.inl ⟨by rfl, fun w' => by go_simp⟩, fun _ => rfl⟩ ?_
              try simp only [Act.put]
              refine wpAnyIn_done (by kernel_rfl) ?_ _
              gi_wp2
              refine bodyPost_ret (results_none rfl _ _ _) rfl ?_
              exact ⟨⟨_, rfl⟩, .inr ⟨_, _, _, ⟨_, HSP.out⟩, HJ3.out⟩⟩
      · refine wpIn_region_any (by kernel_rfl) ?_
        change wpAnyIn _ _ _ _ _ _ _ _ _ (World.drew _)
        have ct : (wr.drew.alloc tabO).cell? ⟨wr.heap.size, 3, none⟩ = some (.func (.func 164) #[] #[]) := cell_of (heap_alloc_new wr.drew _) 3
        have ct2 : (wr.alloc tabO).cell? ⟨wr.heap.size, 3, none⟩ = some (.func (.func 164) #[] #[]) := cell_of (heap_alloc_new wr _) 3
        have cl2 : (wr.alloc tabO).cell? ⟨bl, 0, none⟩ = some (.slice (some ⟨g, 0, none⟩) L.length cap) := ((Frm.refl [] wr).alloc _).keep cl
        have cc2 : (wr.alloc tabO).cell? ⟨bc, 0, none⟩ = some (.pointer (some ⟨cb, 0, none⟩)) := ((Frm.refl [] wr).alloc _).keep cc
        have ck2 := ((Frm.refl [] wr).alloc tabO).keep ck
        apply via
        case main =>
          intro tail
          refine wpAnyIn_take (i := 8) (v := .int .i64 k) rfl rfl (by kernel_rfl) (by kernel_rfl) (by kernel_rfl) (fun _ _ _ h => h) ⟨Or.inl ⟨by rfl, fun w' => by go_simp⟩, fun _ => rfl⟩ ?_
          try simp only [Act.put, List.setIfInBounds_toArray]
          refine wpAnyIn_ready (rs := [0, 1, 7]) (by kernel_rfl) (by simp) (AllReadyIn.cons rfl (fun K hK => ?_) (AllReadyIn.cons rfl (fun K hK => ?_) (AllReadyIn.cons rfl (fun K hK => ?_) AllReadyIn.nil)))
          · rw [if_pos (by rfl)]
            go_simp
            refine ⟨trivial, (callsIn_wide.2 (choices_any _)).mono ?_⟩
            rintro e w1 ⟨rfl, rfl⟩
            refine hK _ _ ?_
            clear hK K
            try simp only [Act.put, List.setIfInBounds_toArray, List.set_cons_zero, List.set_cons_succ]
            refine wpAnyIn_ready (rs := [1, 7]) (by kernel_rfl) (by simp) (AllReadyIn.cons rfl (fun K hK => ?_) (AllReadyIn.cons rfl (fun K hK => ?_) AllReadyIn.nil))
            · rw [if_pos (by rfl)]
              go_simp
              refine hK _ _ ?_
              clear hK K
              try simp only [Act.put, List.setIfInBounds_toArray, List.set_cons_zero, List.set_cons_succ]
              refine wpAnyIn_take (i := 2) (v := .pointer (some ⟨cb, 0, none⟩)) rfl rfl (by kernel_rfl) (by kernel_rfl) (by kernel_rfl) (fun _ _ _ h => h) ⟨Or.inl ⟨by rfl, fun w' => by go_simp⟩, fun _ => rfl⟩ ?_
              try simp only [Act.put, List.setIfInBounds_toArray]
              refine wpAnyIn_take (i := 3) (v := .pointer (some ⟨cb, 0, none⟩)) rfl rfl (by kernel_rfl) (by kernel_rfl) (by kernel_rfl) (fun _ _ _ h => h) ⟨Or.inl ⟨by rfl, fun w' => by go_simp⟩, fun _ => rfl⟩ ?_
              try simp only [Act.put]
              refine wpAnyIn_ready (rs := [4, 7]) (by kernel_rfl) (by simp) (AllReadyIn.cons rfl (fun K hK => ?_) (AllReadyIn.cons rfl (fun K hK => ?_) AllReadyIn.nil))
              · rw [if_pos (by rfl)]
                go_simp
                refine hK _ _ ?_
                clear hK K
                try simp only [Act.put, List.setIfInBounds_toArray, List.set_cons_zero, List.set_cons_succ]
                refine wpAnyIn_take (i := 5) (v := .pointer (some ⟨wr.heap.size, 3, none⟩)) rfl rfl (by kernel_rfl) (by kernel_rfl) (by kernel_rfl) (fun _ _ _ h => h) ⟨Or.inl ⟨by rfl, fun w' => by go_simp⟩, fun _ => rfl⟩ ?_
                try simp only [Act.put, List.setIfInBounds_toArray]
                refine wpAnyIn_ready (rs := [6, 7]) (by kernel_rfl) (by simp) (AllReadyIn.cons rfl (fun K hK => ?_) (AllReadyIn.cons rfl (fun K hK => ?_) AllReadyIn.nil))
                · rw [if_pos (by rfl)]
                  go_simp
                  refine hK _ _ ?_
                  clear hK K
                  try simp only [Act.put, List.setIfInBounds_toArray, List.set_cons_zero, List.set_cons_succ]
                  refine wpAnyIn_ready (rs := [7]) (by kernel_rfl) (by simp) (AllReadyIn.cons rfl (fun K hK => ?_) AllReadyIn.nil)
                  · rw [if_pos (by rfl)]
                    go_simp
                    refine hK _ _ ?_
                    clear hK K
                    try simp only [Act.put, List.setIfInBounds_toArray, List.set_cons_zero, List.set_cons_succ]
                    exact tail
                · rw [if_pos (by rfl)]
                  go_simp
                  refine hK _ _ ?_
                  clear hK K
                  try simp only [Act.put, List.setIfInBounds_toArray, List.set_cons_zero, List.set_cons_succ]
                  refine wpAnyIn_ready (rs := [6]) (by kernel_rfl) (by simp) (AllReadyIn.cons rfl (fun K hK => ?_) AllReadyIn.nil)
                  · rw [if_pos (by rfl)]
                    go_simp
                    refine hK _ _ ?_
                    clear hK K
                    try simp only [Act.put, List.setIfInBounds_toArray, List.set_cons_zero, List.set_cons_succ]
                    exact tail
              · rw [if_pos (by rfl)]
                go_simp
                refine hK _ _ ?_
                clear hK K
                try simp only [Act.put, List.setIfInBounds_toArray, List.set_cons_zero, List.set_cons_succ]
                refine wpAnyIn_ready (rs := [4]) (by kernel_rfl) (by simp) (AllReadyIn.cons rfl (fun K hK => ?_) AllReadyIn.nil)
                · rw [if_pos (by rfl)]
                  go_simp
                  refine hK _ _ ?_
                  clear hK K
                  try simp only [Act.put, List.setIfInBounds_toArray, List.set_cons_zero, List.set_cons_succ]
                  refine wpAnyIn_take (i := 5) (v := .pointer (some ⟨wr.heap.size, 3, none⟩)) rfl rfl (by kernel_rfl) (by kernel_rfl) (by kernel_rfl) (fun _ _ _ h => h) ⟨Or.inl ⟨by rfl, fun w' => by go_simp⟩, fun _ => rfl⟩ ?_
                  try simp only [Act.put, List.setIfInBounds_toArray]
                  refine wpAnyIn_ready (rs := [6]) (by kernel_rfl) (by simp) (AllReadyIn.cons rfl (fun K hK => ?_) AllReadyIn.nil)
                  · rw [if_pos (by rfl)]
                    go_simp
                    refine hK _ _ ?_
                    clear hK K
                    try simp only [Act.put, List.setIfInBounds_toArray, List.set_cons_zero, List.set_cons_succ]
                    exact tail
            · rw [if_pos (by rfl)]
              go_simp
              refine hK _ _ ?_
              clear hK K
              try simp only [Act.put, List.setIfInBounds_toArray, List.set_cons_zero, List.set_cons_succ]
              refine wpAnyIn_ready (rs := [1]) (by kernel_rfl) (by simp) (AllReadyIn.cons rfl (fun K hK => ?_) AllReadyIn.nil)
              · rw [if_pos (by rfl)]
                go_simp
                refine hK _ _ ?_
                clear hK K
                try simp only [Act.put, List.setIfInBounds_toArray, List.set_cons_zero, List.set_cons_succ]
                refine wpAnyIn_take (i := 2) (v := .pointer (some ⟨cb, 0, none⟩)) rfl rfl (by kernel_rfl) (by kernel_rfl) (by kernel_rfl) (fun _ _ _ h => h) ⟨Or.inl ⟨by rfl, fun w' => by go_simp⟩, fun _ => rfl⟩ ?_
                try simp only [Act.put, List.setIfInBounds_toArray]
                refine wpAnyIn_take (i := 3) (v := .pointer (some ⟨cb, 0, none⟩)) rfl rfl (by kernel_rfl) (by kernel_rfl) (by kernel_rfl) (fun _ _ _ h => h) ⟨Or.inl ⟨by rfl, fun w' => by go_simp⟩, fun _ => rfl⟩ ?_
                try simp only [Act.put]
                refine wpAnyIn_ready (rs := [4]) (by kernel_rfl) (by simp) (AllReadyIn.cons rfl (fun K hK => ?_) AllReadyIn.nil)
                · rw [if_pos (by rfl)]
                  go_simp
                  refine hK _ _ ?_
                  clear hK K
                  try simp only [Act.put, List.setIfInBounds_toArray, List.set_cons_zero, List.set_cons_succ]
                  refine wpAnyIn_take (i := 5) (v := .pointer (some ⟨wr.heap.size, 3, none⟩)) rfl rfl (by kernel_rfl) (by kernel_rfl) (by kernel_rfl) (fun _ _ _ h => h) ⟨Or.inl ⟨by rfl, fun w' => by go_simp⟩, fun _ => rfl⟩ ?_
                  try simp only [Act.put, List.setIfInBounds_toArray]
                  refine wpAnyIn_ready (rs := [6]) (by kernel_rfl) (by simp) (AllReadyIn.cons rfl (fun K hK => ?_) AllReadyIn.nil)
                  · rw [if_pos (by rfl)]
                    go_simp
                    refine hK _ _ ?_
                    clear hK K
                    try simp only [Act.put, List.setIfInBounds_toArray, List.set_cons_zero, List.set_cons_succ]
                    exact tail
          · rw [if_pos (by rfl)]
            go_simp
            refine hK _ _ ?_
            clear hK K
            try simp only [Act.put, List.setIfInBounds_toArray, List.set_cons_zero, List.set_cons_succ]
            refine wpAnyIn_take (i := 2) (v := .pointer (some ⟨cb, 0, none⟩)) rfl rfl (by kernel_rfl) (by kernel_rfl) (by kernel_rfl) (fun _ _ _ h => h) ⟨Or.inl ⟨by rfl, fun w' => by go_simp⟩, fun _ => rfl⟩ ?_
            try simp only [Act.put, List.setIfInBounds_toArray]
            refine wpAnyIn_take (i := 3) (v := .pointer (some ⟨cb, 0, none⟩)) rfl rfl (by kernel_rfl) (by kernel_rfl) (by kernel_rfl) (fun _ _ _ h => h) ⟨Or.inl ⟨by rfl, fun w' => by go_simp⟩, fun _ => rfl⟩ ?_
            try simp only [Act.put]
            refine wpAnyIn_ready (rs := [0, 4, 7]) (by kernel_rfl) (by simp) (AllReadyIn.cons rfl (fun K hK => ?_) (AllReadyIn.cons rfl (fun K hK => ?_) (AllReadyIn.cons rfl (fun K hK => ?_) AllReadyIn.nil)))
            · rw [if_pos (by rfl)]
              go_simp
              refine ⟨trivial, (callsIn_wide.2 (choices_any _)).mono ?_⟩
              rintro e w1 ⟨rfl, rfl⟩
              refine hK _ _ ?_
              clear hK K
              try simp only [Act.put, List.setIfInBounds_toArray, List.set_cons_zero, List.set_cons_succ]
              refine wpAnyIn_ready (rs := [4, 7]) (by kernel_rfl) (by simp) (AllReadyIn.cons rfl (fun K hK => ?_) (AllReadyIn.cons rfl (fun K hK => ?_) AllReadyIn.nil))
              · rw [if_pos (by rfl)]
                go_simp
                refine hK _ _ ?_
                clear hK K
                try simp only [Act.put, List.setIfInBounds_toArray, List.set_cons_zero, List.set_cons_succ]
                refine wpAnyIn_take (i := 5) (v := .pointer (some ⟨wr.heap.size, 3, none⟩)) rfl rfl (by kernel_rfl) (by kernel_rfl) (by kernel_rfl) (fun _ _ _ h => h) ⟨Or.inl ⟨by rfl, fun w' => by go_simp⟩, fun _ => rfl⟩ ?_
                try simp only [Act.put, List.setIfInBounds_toArray]
                refine wpAnyIn_ready (rs := [6, 7]) (by kernel_rfl) (by simp) (AllReadyIn.cons rfl (fun K hK => ?_) (AllReadyIn.cons rfl (fun K hK => ?_) AllReadyIn.nil))
                · rw [if_pos (by rfl)]
                  go_simp
                  refine hK _ _ ?_
                  clear hK K
                  try simp only [Act.put, List.setIfInBounds_toArray, List.set_cons_zero, List.set_cons_succ]
                  refine wpAnyIn_ready (rs := [7]) (by kernel_rfl) (by simp) (AllReadyIn.cons rfl (fun K hK => ?_) AllReadyIn.nil)
                  · rw [if_pos (by rfl)]
                    go_simp
                    refine hK _ _ ?_
                    clear hK K
                    try simp only [Act.put, List.setIfInBounds_toArray, List.set_cons_zero, List.set_cons_succ]
                    exact tail
                · rw [if_pos (by rfl)]
                  go_simp
                  refine hK _ _ ?_
                  clear hK K
                  try simp only [Act.put, List.setIfInBounds_toArray, List.set_cons_zero, List.set_cons_succ]
                  refine wpAnyIn_ready (rs := [6]) (by kernel_rfl) (by simp) (AllReadyIn.cons rfl (fun K hK => ?_) AllReadyIn.nil)
                  · rw [if_pos (by rfl)]
                    go_simp
                    refine hK _ _ ?_
                    clear hK K
                    try simp only [Act.put, List.setIfInBounds_toArray, List.set_cons_zero, List.set_cons_succ]
                    exact tail
              · rw [if_pos (by rfl)]
                go_simp
                refine hK _ _ ?_
                clear hK K
                try simp only [Act.put, List.setIfInBounds_toArray, List.set_cons_zero, List.set_cons_succ]
                refine wpAnyIn_ready (rs := [4]) (by kernel_rfl) (by simp) (AllReadyIn.cons rfl (fun K hK => ?_) AllReadyIn.nil)
                · rw [if_pos (by rfl)]
                  go_simp
                  refine hK _ _ ?_
                  clear hK K
                  try simp only [Act.put, List.setIfInBounds_toArray, List.set_cons_zero, List.set_cons_succ]
                  refine wpAnyIn_take (i := 5) (v := .pointer (some ⟨wr.heap.size, 3, none⟩)) rfl rfl (by kernel_rfl) (by kernel_rfl) (by kernel_rfl) (fun _ _ _ h => h) ⟨Or.inl ⟨by rfl, fun w' => by go_simp⟩, fun _ => rfl⟩ ?_
                  try simp only [Act.put, List.setIfInBounds_toArray]
                  refine wpAnyIn_ready (rs := [6]) (by kernel_rfl) (by simp) (AllReadyIn.cons rfl (fun K hK => ?_) AllReadyIn.nil)
                  · rw [if_pos (by rfl)]
                    go_simp
                    refine hK _ _ ?_
                    clear hK K
                    try simp only [Act.put, List.setIfInBounds_toArray, List.set_cons_zero, List.set_cons_succ]
                    exact tail
            · rw [if_pos (by rfl)]
              go_simp
              refine hK _ _ ?_
              clear hK K
              try simp only [Act.put, List.setIfInBounds_toArray, List.set_cons_zero, List.set_cons_succ]
              refine wpAnyIn_ready (rs := [0, 7]) (by kernel_rfl) (by simp) (AllReadyIn.cons rfl (fun K hK => ?_) (AllReadyIn.cons rfl (fun K hK => ?_) AllReadyIn.nil))
              · rw [if_pos (by rfl)]
                go_simp
                refine ⟨trivial, (callsIn_wide.2 (choices_any _)).mono ?_⟩
                rintro e w1 ⟨rfl, rfl⟩
                refine hK _ _ ?_
                clear hK K
                try simp only [Act.put, List.setIfInBounds_toArray, List.set_cons_zero, List.set_cons_succ]
                refine wpAnyIn_take (i := 5) (v := .pointer (some ⟨wr.heap.size, 3, none⟩)) rfl rfl (by kernel_rfl) (by kernel_rfl) (by kernel_rfl) (fun _ _ _ h => h) ⟨Or.inl ⟨by rfl, fun w' => by go_simp⟩, fun _ => rfl⟩ ?_
                try simp only [Act.put, List.setIfInBounds_toArray]
                refine wpAnyIn_ready (rs := [6, 7]) (by kernel_rfl) (by simp) (AllReadyIn.cons rfl (fun K hK => ?_) (AllReadyIn.cons rfl (fun K hK => ?_) AllReadyIn.nil))
                · rw [if_pos (by rfl)]
                  go_simp
                  refine hK _ _ ?_
                  clear hK K
                  try simp only [Act.put, List.setIfInBounds_toArray, List.set_cons_zero, List.set_cons_succ]
                  refine wpAnyIn_ready (rs := [7]) (by kernel_rfl) (by simp) (AllReadyIn.cons rfl (fun K hK => ?_) AllReadyIn.nil)
                  · rw [if_pos (by rfl)]
                    go_simp
                    refine hK _ _ ?_
                    clear hK K
                    try simp only [Act.put, List.setIfInBounds_toArray, List.set_cons_zero, List.set_cons_succ]
                    exact tail
                · rw [if_pos (by rfl)]
                  go_simp
                  refine hK _ _ ?_
                  clear hK K
                  try simp only [Act.put, List.setIfInBounds_toArray, List.set_cons_zero, List.set_cons_succ]
                  refine wpAnyIn_ready (rs := [6]) (by kernel_rfl) (by simp) (AllReadyIn.cons rfl (fun K hK => ?_) AllReadyIn.nil)
                  · rw [if_pos (by rfl)]
                    go_simp
                    refine hK _ _ ?_
                    clear hK K
                    try simp only [Act.put, List.setIfInBounds_toArray, List.set_cons_zero, List.set_cons_succ]
                    exact tail
              · rw [if_pos (by rfl)]
                go_simp
                refine hK _ _ ?_
                clear hK K
                try simp only [Act.put, List.setIfInBounds_toArray, List.set_cons_zero, List.set_cons_succ]
                refine wpAnyIn_ready (rs := [0]) (by kernel_rfl) (by simp) (AllReadyIn.cons rfl (fun K hK => ?_) AllReadyIn.nil)
                · rw [if_pos (by rfl)]
                  go_simp
                  refine ⟨trivial, (callsIn_wide.2 (choices_any _)).mono ?_⟩
                  rintro e w1 ⟨rfl, rfl⟩
                  refine hK _ _ ?_
                  clear hK K
                  try simp only [Act.put, List.setIfInBounds_toArray, List.set_cons_zero, List.set_cons_succ]
                  refine wpAnyIn_take (i := 5) (v := .pointer (some ⟨wr.heap.size, 3, none⟩)) rfl rfl (by kernel_rfl) (by kernel_rfl) (by kernel_rfl) (fun _ _ _ h => h) ⟨Or.inl ⟨by rfl, fun w' => by go_simp⟩, fun _ => rfl⟩ ?_
                  try simp only [Act.put, List.setIfInBounds_toArray]
                  refine wpAnyIn_ready (rs := [6]) (by kernel_rfl) (by simp) (AllReadyIn.cons rfl (fun K hK => ?_) AllReadyIn.nil)
                  · rw [if_pos (by rfl)]
                    go_simp
                    refine hK _ _ ?_
                    clear hK K
                    try simp only [Act.put, List.setIfInBounds_toArray, List.set_cons_zero, List.set_cons_succ]
                    exact tail
            · rw [if_pos (by rfl)]
              go_simp
              refine hK _ _ ?_
              clear hK K
              try simp only [Act.put, List.setIfInBounds_toArray, List.set_cons_zero, List.set_cons_succ]
              refine wpAnyIn_ready (rs := [0, 4]) (by kernel_rfl) (by simp) (AllReadyIn.cons rfl (fun K hK => ?_) (AllReadyIn.cons rfl (fun K hK => ?_) AllReadyIn.nil))
              · rw [if_pos (by rfl)]
                go_simp
                refine ⟨trivial, (callsIn_wide.2 (choices_any _)).mono ?_⟩
                rintro e w1 ⟨rfl, rfl⟩
                refine hK _ _ ?_
                clear hK K
                try simp only [Act.put, List.setIfInBounds_toArray, List.set_cons_zero, List.set_cons_succ]
                refine wpAnyIn_ready (rs := [4]) (by kernel_rfl) (by simp) (AllReadyIn.cons rfl (fun K hK => ?_) AllReadyIn.nil)
                · rw [if_pos (by rfl)]
                  go_simp
                  refine hK _ _ ?_
                  clear hK K
                  try simp only [Act.put, List.setIfInBounds_toArray, List.set_cons_zero, List.set_cons_succ]
                  refine wpAnyIn_take (i := 5) (v := .pointer (some ⟨wr.heap.size, 3, none⟩)) rfl rfl (by kernel_rfl) (by kernel_rfl) (by kernel_rfl) (fun _ _ _ h => h) ⟨Or.inl ⟨by rfl, fun w' => by go_simp⟩, fun _ => rfl⟩ ?_
                  try simp only [Act.put, List.setIfInBounds_toArray]
                  refine wpAnyIn_ready (rs := [6]) (by kernel_rfl) (by simp) (AllReadyIn.cons rfl (fun K hK => ?_) AllReadyIn.nil)
                  · rw [if_pos (by rfl)]
                    go_simp
                    refine hK _ _ ?_
                    clear hK K
                    try simp only [Act.put, List.setIfInBounds_toArray, List.set_cons_zero, List.set_cons_succ]
                    exact tail
              · rw [if_pos (by rfl)]
                go_simp
                refine hK _ _ ?_
                clear hK K
                try simp only [Act.put, List.setIfInBounds_toArray, List.set_cons_zero, List.set_cons_succ]
                refine wpAnyIn_ready (rs := [0]) (by kernel_rfl) (by simp) (AllReadyIn.cons rfl (fun K hK => ?_) AllReadyIn.nil)
                · rw [if_pos (by rfl)]
                  go_simp
                  refine ⟨trivial, (callsIn_wide.2 (choices_any _)).mono ?_⟩
                  rintro e w1 ⟨rfl, rfl⟩
                  refine hK _ _ ?_
                  clear hK K
                  try simp only [Act.put, List.setIfInBounds_toArray, List.set_cons_zero, List.set_cons_succ]
                  refine wpAnyIn_take (i := 5) (v := .pointer (some ⟨wr.heap.size, 3, none⟩)) rfl rfl (by kernel_rfl) (by kernel_rfl) (by kernel_rfl) (fun _ _ _ h => h) ⟨Or.inl ⟨by rfl, fun w' => by go_simp⟩, fun _ => rfl⟩ ?_
                  try simp only [Act.put, List.setIfInBounds_toArray]
                  refine wpAnyIn_ready (rs := [6]) (by kernel_rfl) (by simp) (AllReadyIn.cons rfl (fun K hK => ?_) AllReadyIn.nil)
                  · rw [if_pos (by rfl)]
                    go_simp
                    refine hK _ _ ?_
                    clear hK K
                    try simp only [Act.put, List.setIfInBounds_toArray, List.set_cons_zero, List.set_cons_succ]
                    exact tail
          · rw [if_pos (by rfl)]
            go_simp
            refine hK _ _ ?_
            clear hK K
            try simp only [Act.put, List.setIfInBounds_toArray, List.set_cons_zero, List.set_cons_succ]
            refine wpAnyIn_ready (rs := [0, 1]) (by kernel_rfl) (by simp) (AllReadyIn.cons rfl (fun K hK => ?_) (AllReadyIn.cons rfl (fun K hK => ?_) AllReadyIn.nil))
            · rw [if_pos (by rfl)]
              go_simp
              refine ⟨trivial, (callsIn_wide.2 (choices_any _)).mono ?_⟩
              rintro e w1 ⟨rfl, rfl⟩
              refine hK _ _ ?_
              clear hK K
              try simp only [Act.put, List.setIfInBounds_toArray, List.set_cons_zero, List.set_cons_succ]
              refine wpAnyIn_ready (rs := [1]) (by kernel_rfl) (by simp) (AllReadyIn.cons rfl (fun K hK => ?_) AllReadyIn.nil)
              · rw [if_pos (by rfl)]
                go_simp
                refine hK _ _ ?_
                clear hK K
                try simp only [Act.put, List.setIfInBounds_toArray, List.set_cons_zero, List.set_cons_succ]
                refine wpAnyIn_take (i := 2) (v := .pointer (some ⟨cb, 0, none⟩)) rfl rfl (by kernel_rfl) (by kernel_rfl) (by kernel_rfl) (fun _ _ _ h => h) ⟨Or.inl ⟨by rfl, fun w' => by go_simp⟩, fun _ => rfl⟩ ?_
                try simp only [Act.put, List.setIfInBounds_toArray]
                refine wpAnyIn_take (i := 3) (v := .pointer (some ⟨cb, 0, none⟩)) rfl rfl (by kernel_rfl) (by kernel_rfl) (by kernel_rfl) (fun _ _ _ h => h) ⟨Or.inl ⟨by rfl, fun w' => by go_simp⟩, fun _ => rfl⟩ ?_
                try simp only [Act.put]
                refine wpAnyIn_ready (rs := [4]) (by kernel_rfl) (by simp) (AllReadyIn.cons rfl (fun K hK => ?_) AllReadyIn.nil)
                · rw [if_pos (by rfl)]
                  go_simp
                  refine hK _ _ ?_
                  clear hK K
                  try simp only [Act.put, List.setIfInBounds_toArray, List.set_cons_zero, List.set_cons_succ]
                  refine wpAnyIn_take (i := 5) (v := .pointer (some ⟨wr.heap.size, 3, none⟩)) rfl rfl (by kernel_rfl) (by kernel_rfl) (by kernel_rfl) (fun _ _ _ h => h) ⟨Or.inl ⟨by rfl, fun w' => by go_simp⟩, fun _ => rfl⟩ ?_
                  try simp only [Act.put, List.setIfInBounds_toArray]
                  refine wpAnyIn_ready (rs := [6]) (by kernel_rfl) (by simp) (AllReadyIn.cons rfl (fun K hK => ?_) AllReadyIn.nil)
                  · rw [if_pos (by rfl)]
                    go_simp
                    refine hK _ _ ?_
                    clear hK K
                    try simp only [Act.put, List.setIfInBounds_toArray, List.set_cons_zero, List.set_cons_succ]
                    exact tail
            · rw [if_pos (by rfl)]
              go_simp
              refine hK _ _ ?_
              clear hK K
              try simp only [Act.put, List.setIfInBounds_toArray, List.set_cons_zero, List.set_cons_succ]
              refine wpAnyIn_take (i := 2) (v := .pointer (some ⟨cb, 0, none⟩)) rfl rfl (by kernel_rfl) (by kernel_rfl) (by kernel_rfl) (fun _ _ _ h => h) ⟨Or.inl ⟨by rfl, fun w' => by go_simp⟩, fun _ => rfl⟩ ?_
              try simp only [Act.put, List.setIfInBounds_toArray]
              refine wpAnyIn_take (i := 3) (v := .pointer (some ⟨cb, 0, none⟩)) rfl rfl (by kernel_rfl) (by kernel_rfl) (by kernel_rfl) (fun _ _ _ h => h) ⟨Or.inl ⟨by rfl, fun w' => by go_simp⟩, fun _ => rfl⟩ ?_
              try simp only [Act.put]
              refine wpAnyIn_ready (rs := [0, 4]) (by kernel_rfl) (by simp) (AllReadyIn.cons rfl (fun K hK => ?_) (AllReadyIn.cons rfl (fun K hK => ?_) AllReadyIn.nil))
              · rw [if_pos (by rfl)]
                go_simp
                refine ⟨trivial, (callsIn_wide.2 (choices_any _)).mono ?_⟩
                rintro e w1 ⟨rfl, rfl⟩
                refine hK _ _ ?_
                clear hK K
                try simp only [Act.put, List.setIfInBounds_toArray, List.set_cons_zero, List.set_cons_succ]
                refine wpAnyIn_ready (rs := [4]) (by kernel_rfl) (by simp) (AllReadyIn.cons rfl (fun K hK => ?_) AllReadyIn.nil)
                · rw [if_pos (by rfl)]
                  go_simp
                  refine hK _ _ ?_
                  clear hK K
                  try simp only [Act.put, List.setIfInBounds_toArray, List.set_cons_zero, List.set_cons_succ]
                  refine wpAnyIn_take (i := 5) (v := .pointer (some ⟨wr.heap.size, 3, none⟩)) rfl rfl (by kernel_rfl) (by kernel_rfl) (by kernel_rfl) (fun _ _ _ h => h) ⟨Or.inl ⟨by rfl, fun w' => by go_simp⟩, fun _ => rfl⟩ ?_
                  try simp only [Act.put, List.setIfInBounds_toArray]
                  refine wpAnyIn_ready (rs := [6]) (by kernel_rfl) (by simp) (AllReadyIn.cons rfl (fun K hK => ?_) AllReadyIn.nil)
                  · rw [if_pos (by rfl)]
                    go_simp
                    refine hK _ _ ?_
                    clear hK K
                    try simp only [Act.put, List.setIfInBounds_toArray, List.set_cons_zero, List.set_cons_succ]
                    exact tail
              · rw [if_pos (by rfl)]
                go_simp
                refine hK _ _ ?_
                clear hK K
                try simp only [Act.put, List.setIfInBounds_toArray, List.set_cons_zero, List.set_cons_succ]
                refine wpAnyIn_ready (rs := [0]) (by kernel_rfl) (by simp) (AllReadyIn.cons rfl (fun K hK => ?_) AllReadyIn.nil)
                · rw [if_pos (by rfl)]
                  go_simp
                  refine ⟨trivial, (callsIn_wide.2 (choices_any _)).mono ?_⟩
                  rintro e w1 ⟨rfl, rfl⟩
                  refine hK _ _ ?_
                  clear hK K
                  try simp only [Act.put, List.setIfInBounds_toArray, List.set_cons_zero, List.set_cons_succ]
                  refine wpAnyIn_take (i := 5) (v := .pointer (some ⟨wr.heap.size, 3, none⟩)) rfl rfl (by kernel_rfl) (by kernel_rfl) (by kernel_rfl) (fun _ _ _ h => h) ⟨Or.inl ⟨by rfl, fun w' => by go_simp⟩, fun _ => rfl⟩ ?_
                  try simp only [Act.put, List.setIfInBounds_toArray]
                  refine wpAnyIn_ready (rs := [6]) (by kernel_rfl) (by simp) (AllReadyIn.cons rfl (fun K hK => ?_) AllReadyIn.nil)
                  · rw [if_pos (by rfl)]
                    go_simp
                    refine hK _ _ ?_
                    clear hK K
                    try simp only [Act.put, List.setIfInBounds_toArray, List.set_cons_zero, List.set_cons_succ]
                    exact tail
        case tail =>
          have HCH : Hid (Calls Tryz.prog 164 #[.slice (some ⟨g, 0, none⟩) L.length cap, .int .i64 k] (wr.alloc tabO).drew (Ret (.bool (chc 3 L k)) ((wr.alloc tabO).drew = ·))) :=
            Lib.hid (chc_any 3 _ L k _ (HST.out.frm ((Frm.refl [] wr).alloc _).drew (by simp)) (by omega) hlt)
          have HW : Hid (Frm [] wr (wr.alloc tabO).drew) := Lib.hid ((Frm.refl [] wr).alloc _).drew
          generalize (wr.alloc tabO).drew = wz at HCH HW ⊢
          clear ct ct2 cl2 cc2 ck2
          refine wpAnyIn_ready (rs := [9]) (by kernel_rfl) (by simp) (AllReadyIn.cons rfl (fun K hK => ?_) AllReadyIn.nil)
          rw [if_pos (by rfl)]
          go_simp
          refine ⟨trivial, (callsIn_wide.2 HCH.out).mono ?_⟩
          rintro e w1 ⟨rfl, rfl⟩
          refine hK _ _ ?_
          clear hK K
          try simp only [Act.put, List.setIfInBounds_toArray, List.set_cons_zero, List.set_cons_succ]
          cases hc : chc 3 L k with
          | false =>
            have HJ2 : Hid (J (chlK 3 L (k + 1)) wz) := by
              have h4 := HJ.out _ _ _ HJ1.out HW.out
              have h5 : J (chlK 3 L (k + 1)) wz := by simpa [chlK, hc] using h4
              exact Lib.hid h5
            refine wpAnyIn_take (i := 10) (v := .bool false) rfl rfl (by kernel_rfl) (by kernel_rfl) (by kernel_rfl) (fun _ _ _ h => h) ⟨Or.inl ⟨by rfl, fun w' => by go_simp⟩, fun _ => rfl⟩ ?_
            try simp only [Act.put, List.setIfInBounds_toArray]
            refine wpAnyIn_take (i := 11) (v := undef) rfl rfl (by kernel_rfl) (by kernel_rfl) (by kernel_rfl) (fun _ _ _ h => h) ⟨Or.inr ⟨by rfl, rfl⟩, fun _ => rfl⟩ ?_
            try simp only [Act.put]
            refine wpAnyIn_take (i := 12) (v := undef) rfl rfl (by kernel_rfl) (by kernel_rfl) (by kernel_rfl) (fun _ _ _ h => h) ⟨Or.inr ⟨by rfl, rfl⟩, fun _ => rfl⟩ ?_
            try simp only [Act.put]
            refine wpAnyIn_take (i := 13) (v := undef) rfl rfl (by kernel_rfl) (by kernel_rfl) (by kernel_rfl) (fun _ _ _ h => h) ⟨Or.inr ⟨by rfl, rfl⟩, fun _ => rfl⟩ ?_
            try simp only [Act.put]
            refine wpAnyIn_take (i := 14) (v := undef) rfl rfl (by kernel_rfl) (by kernel_rfl) (by kernel_rfl) (fun _ _ _ h => h) ⟨Or.inr ⟨by rfl, rfl⟩, fun _ => rfl⟩ ?_
            try simp only [Act.put]
            refine wpAnyIn_take (i := 15) (v := undef) rfl rfl (by kernel_rfl) (by kernel_rfl) (by kernel_rfl) (fun _ _ _ h => h) ⟨Or.inr ⟨by rfl, rfl⟩, fun _ => rfl⟩ ?_
            try simp only [Act.put]
            refine wpAnyIn_ready (rs := [16]) (by kernel_rfl) (by simp) (AllReadyIn.cons rfl (fun K hK => ?_) AllReadyIn.nil)
            rw [if_pos (by rfl)]
            go_simp
            refine hK _ _ ?_
            clear hK K
            try simp only [Act.put, List.setIfInBounds_toArray, List.set_cons_zero, List.set_cons_succ]
            refine wpAnyIn_done (by kernel_rfl) ?_ _
            clear hc HCH HY HJR HST cl cc ck cx hx
            gi_wp2
            go_roundw
            case rel => exact ⟨k + 1, by go_num, hlt, HJ2.out⟩
            case measure => simp [intOf]; omega
          | true =>
            obtain ⟨rest, hsp⟩ := chl_split hlt hc
            have hJ' := HJ.out _ _ _ HJ1.out HW.out
            have hgd : L.getD k ByteArray.empty = x := by rw [List.getD_eq_getElem?_getD, hx]; rfl
            rw [hgd] at hsp
            obtain ⟨fn, tmps, assign, body, hy, hR⟩ := HY.out _ _ _ _ hsp hJ'
            have HSP := Lib.hid hsp
            have HC1 : Hid (chlK 3 L (k + 1) = chlK 3 L k ++ [(k, x)]) := Lib.hid (by rw [chlK, hc, if_pos rfl, hgd])
            have HRR := Lib.hid hR
            simp only [encC] at hy
            clear hJ' hR hsp
            refine wpAnyIn_take (i := 10) (v := .bool true) rfl rfl (by kernel_rfl) (by kernel_rfl) (by kernel_rfl) (fun _ _ _ h => h) ⟨Or.inl ⟨by rfl, fun w' => by go_simp⟩, fun _ => rfl⟩ ?_
            try simp only [Act.put, List.setIfInBounds_toArray]
            refine wpAnyIn_take (i := 11) (v := .func (.yield l) #[] #[]) rfl rfl (by kernel_rfl) (by kernel_rfl) (by kernel_rfl) (fun _ _ _ h => h) ⟨Or.inl ⟨by rfl, fun w' => by go_simp⟩, fun _ => rfl⟩ ?_
            try simp only [Act.put]
            refine wpAnyIn_take (i := 12) (v := .int .i64 k) rfl rfl (by kernel_rfl) (by kernel_rfl) (by kernel_rfl) (fun _ _ _ h => h) ⟨Or.inl ⟨by rfl, fun w' => by go_simp⟩, fun _ => rfl⟩ ?_
            try simp only [Act.put]
            refine wpAnyIn_take (i := 13) (v := .string x) rfl rfl (by kernel_rfl) (by kernel_rfl) (by kernel_rfl) (fun _ _ _ h => h) ⟨Or.inl ⟨by rfl, fun w' => by go_simp⟩, fun _ => rfl⟩ ?_
            try simp only [Act.put]
            refine wpAnyIn_ready (rs := [14]) (by kernel_rfl) (by simp) (AllReadyIn.cons rfl (fun K hK => ?_) AllReadyIn.nil)
            rw [if_pos (by rfl)]
            go_simp
            refine HRR.out.mono ?_
            rintro e W3 (⟨rfl, hJ3⟩ | ⟨rfl, hJx3⟩)
            · have HJ3 := Lib.hid hJ3
              clear hJ3 hy
              refine hK _ _ ?_
              clear hK K
              try simp only [Act.put, List.setIfInBounds_toArray, List.set_cons_zero, List.set_cons_succ]
              refine wpAnyIn_take (i := 15) (v := .bool false) rfl rfl (by kernel_rfl) (by kernel_rfl) (by kernel_rfl) (fun _ _ _ h => h) ⟨Or.inl ⟨by rfl, fun w' => by go_simp⟩, fun _ => rfl⟩ ?_
              try simp only [Act.put, List.setIfInBounds_toArray]
              refine wpAnyIn_take (i := 16) (v := .bool false) rfl rfl (by kernel_rfl) (by kernel_rfl) (by kernel_rfl) (fun _ _ _ h => h) ⟨Or.inl ⟨by rfl, fun w' => by go_simp⟩, fun _ => rfl⟩ ?_
              try simp only [Act.put]
              refine wpAnyIn_done (by kernel_rfl) ?_ _
              gi_wp2
              go_roundw
              case rel => exact ⟨k + 1, by go_num, hlt, by rw [HC1.out]; exact HJ3.out⟩
              case measure => simp [intOf]; omega
            · have HJ3 := Lib.hid hJx3
              clear hJx3 hy
              refine hK _ _ ?_
              clear hK K
              try simp only [Act.put, List.setIfInBounds_toArray, List.set_cons_zero, List.set_cons_succ]
              refine wpAnyIn_take (i := 15) (v := .bool true) rfl rfl (by kernel_rfl) (by kernel_rfl) (by kernel_rfl) (fun _ _ _ h => h) ⟨Or.inl ⟨by rfl, fun w' => by go_simp⟩, fun _ => rfl⟩ ?_
              try simp only [Act.put, List.setIfInBounds_toArray]
              refine wpAnyIn_take (i := 16) (v := .bool true) rfl rfl (by kernel_rfl) (by kernel_rfl) (by kernel_rfl) (fun _ _ _ h => h) ⟨Or.inl ⟨by rfl, fun w' => by go_simp⟩, fun _ => rfl⟩ ?_
              try simp only [Act.put]
              refine wpAnyIn_done (by kernel_rfl) ?_ _
              gi_wp2
              refine bodyPost_ret (results_none rfl _ _ _) rfl ?_
              exact ⟨⟨_, rfl⟩, .inr ⟨_, _, _, ⟨_, HSP.out⟩, HJ3.out⟩⟩
    · obtain rfl : k = L.length := by omega
      have hge : ¬ (L.length : Int) < L.length := by omega
      gi_wp2
      go_end0
      exact ⟨⟨_, rfl⟩, .inl HJ1.out⟩
end Go.Proofs.YtkphhjekfimmlaaGreat
