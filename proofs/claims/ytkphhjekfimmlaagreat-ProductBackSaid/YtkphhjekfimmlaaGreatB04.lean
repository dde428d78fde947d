/- The channel's Take and Lose; slices.Delete. -/
import Derived.Test.YtkphhjekfimmlaaGreatB03
import Derived.Shelf.SlicesG.Delete
import Derived.Sort.OwnSorted
import Derived.OrdersHeld
namespace Go.Proofs.YtkphhjekfimmlaaGreat
open Go.RowKit Go.BigFrame Go.Sort

theorem enc_byt (L : List ByteArray) : (L.map byt).map encStr = L.map Value.string := by
  rw [List.map_map]; rfl
theorem Strs.holds {w : World} {g cap : Nat} {L : List ByteArray} (h : Strs w (.slice (some ⟨g, 0, none⟩) L.length cap) L) : Holds encStr w g 0 (L.map byt).toArray ∧ L.length ≤ cap ∧ cap ≤ maxLen ∧ ∃ cur, w.heap[g]? = some (.cells cur 9 (0, 0)) ∧ cur.size = cap * 1 := by
  obtain ⟨h1, h2⟩ := h
  rcases h2 with ⟨hv, hn⟩ | ⟨g', cap', cur, hv, hb, hh, q1, q2, q3, q4⟩
  · cases hv
  · cases hv
    refine ⟨holds_of_block hh ?_, q1, q2, cur, hh, q3⟩
    rw [enc_byt, ← q4]; simp
theorem Strs.prefix' {w : World} {g cap n : Nat} {xs : List Value} {L : List ByteArray} (h : w.ownsRow 0 9 1 (.slice (some ⟨g, 0, none⟩) n cap) n xs) (hx : xs.take L.length = L.map Value.string) (hn : L.length ≤ n) : Strs w (.slice (some ⟨g, 0, none⟩) L.length cap) L := by
  obtain ⟨h1, h2⟩ := h
  rcases h2 with ⟨hv, _⟩ | ⟨g', cap', cur, hv, hb, hh, q1, q2, q3, q4⟩
  · cases hv
  · cases hv
    refine ⟨by simp, .inr ⟨g, cap, cur, rfl, hb, hh, by omega, q2, q3, ?_⟩⟩
    rw [← hx, ← q4, List.take_take]
    congr 1; omega
theorem delete_any (v : Value) (L : List ByteArray) (p : Nat) (w : World) (h : Strs w v L) (hp : p < L.length) (hL : L.length ≤ 1000) :
    Calls Tryz.prog 137 #[v, .int .i64 p, .int .i64 ((p : Int) + 1)] w (RetV fun v' w' => Strs w' v' (L.eraseIdx p) ∧ v'.ownBlock = v.ownBlock ∧ Frm v.ownBlock.toList w w') := by
  obtain ⟨ao, cap, rfl, hn, hc⟩ := h.shape
  obtain ⟨g, rfl, -⟩ := hc p _ (List.getElem?_eq_getElem hp)
  obtain ⟨hH, q1, q2, cur, hh, q3⟩ := h.holds
  have hd := AnyG.slices_Delete_string Tryz.deleteS g 0 cap p (p + 1) (L.map byt) w hH (by simpa using q1) (by unfold maxLen at q2; omega) (by omega) (by simp; omega)
  rw [List.length_map] at hd
  refine (show Calls Tryz.prog 137 _ w _ from hd).mono ?_
  rintro e w' ⟨rfl, q, rfl⟩
  have hlen : (L.eraseIdx p).length = L.length - (p + 1 - p) := by rw [List.length_eraseIdx_of_lt hp]; omega
  refine ⟨_, rfl, ?_, rfl, ?_⟩
  · have ho := ownsRow_sorted (w := w) (base := 0) (g := g) (cap := cap) (n := q) (e := 9) (os := #[]) (cur := cur) (ss := L.map byt) (ts := (L.map byt).take p ++ (L.map byt).drop (p + 1) ++ List.replicate (p + 1 - p) []) (by simp; omega) (Nat.zero_le _) hh (by simpa using q1) q2 q3
    rw [grow_empty, List.length_map] at ho
    rw [← hlen]
    refine Strs.prefix' ho ?_ (by rw [hlen]; omega)
    have e1 : ((L.map byt).take p ++ (L.map byt).drop (p + 1)).map encStr = (L.eraseIdx p).map Value.string := by
      rw [← enc_byt, List.eraseIdx_eq_take_drop_succ, List.map_append (f := byt), List.map_take, List.map_drop]
    rw [List.map_append (f := encStr), e1, List.take_left' (by simp)]
  · have hb := grownBy_sorted (w := w) (g := g) (n := q) (os := #[]) ((L.map byt).take p ++ (L.map byt).drop (p + 1) ++ List.replicate (p + 1 - p) []).toArray
    rw [grow_empty] at hb
    exact (Frm.refl _ _).grown hb (fun k hk => by cases hk; exact .inl (by simp [Value.ownBlock]))
/-- the function at a class -/
def cfn (cls : Int) : Nat := if cls = 2 then 165 else 164
theorem chc_any (cls : Int) (v : Value) (L : List ByteArray) (i : Nat) (w : World) (h : Strs w v L) (hL : L.length ≤ 1000000) (hi : i < L.length) :
    Calls Tryz.prog (cfn cls) #[v, .int .i64 i] w (Ret (.bool (chc cls L i)) (w = ·)) := by
  unfold cfn chc
  split
  · exact second_any v L i _ w h hL (by rw [List.getD_eq_getElem?_getD, List.getElem?_eq_getElem hi]; rfl)
  · exact first_any v i w
theorem tab_at {cls : Int} (h1 : 1 ≤ cls) (h3 : cls ≤ 3) : ∃ k : Nat, cls = (k : Int) ∧ k < 4 ∧ (#[Value.nilFunc, .func (.func 164) #[] #[], .func (.func 165) #[] #[], .func (.func 164) #[] #[]] : Array Value)[k]? = some (.func (.func (cfn cls)) #[] #[]) := by
  have : cls = 1 ∨ cls = 2 ∨ cls = 3 := by omega
  rcases this with rfl | rfl | rfl
  · exact ⟨1, rfl, by decide, rfl⟩
  · exact ⟨2, rfl, by decide, rfl⟩
  · exact ⟨3, rfl, by decide, rfl⟩
theorem Good.erase {cls cap : Int} {L : List ByteArray} {p : Nat} (h : Good cls cap L) : Good cls cap (L.eraseIdx p) :=
  ⟨h.c1, h.c3, h.k1, h.k64, by have := h.len; have := List.length_eraseIdx_le L p; omega, fun x hx => h.sz x (List.mem_of_mem_eraseIdx hx)⟩
theorem take_end {w wc w1 w2 : World} {cb : Nat} {cls cap : Int} {L L' : List ByteArray} {sv v' v2 : Value} (h0 : w.heap[cb]? = some (.cells #[.int .i64 cls, .int .i64 cap, sv] 229 (0, 0))) (hg' : Good cls cap L')
    (hf : Frm [] w wc) (hr : Fresh wc L v' w1) (hst : Strs w2 v2 L') (ho : v2.ownBlock = v'.ownBlock) (h2 : Frm v'.ownBlock.toList w1 w2) (hca : w2.heap[cb]? = some (.cells #[.int .i64 cls, .int .i64 cap, sv] 229 (0, 0))) :
    ChnTo w cb cls cap L' (cb :: sv.ownBlock.toList) (w2.setCell ⟨cb, 2, none⟩ v2) := by
  have hlt := lt_of_block h0
  have hs := hf.size
  have hn : ∀ k, v'.ownBlock = some k → w.heap.size ≤ k := fun k hk => by have := hr.2.2 k hk; omega
  refine ⟨cb :: v2.ownBlock.toList, ⟨v2, (block_setCell hca 2 v2).trans rfl, ownsRow_setCell_other hst (fun e => ?_) v2, hg', rfl⟩, ?_, fun x hx => ?_⟩
  · rw [ho] at e; have h5 : w.heap.size ≤ cb := hn _ e; omega
  · refine Frm.setCell ?_ _ (.inl (by simp)) _
    exact ((hf.trans hr.2.1).mono (F' := cb :: sv.ownBlock.toList) (by simp)).then h2 (fun x hx => .inr (hn x (by simpa using hx)))
  · simp only [List.mem_cons, Option.mem_toList] at hx ⊢
    rcases hx with rfl | hx
    · exact .inl (.inl rfl)
    · rw [ho] at hx; exact .inr (hn x hx)
theorem cls_cases {cls : Int} (h1 : 1 ≤ cls) (h3 : cls ≤ 3) : cls = 1 ∨ cls = 2 ∨ cls = 3 := by omega
set_option maxHeartbeats 4000000 in
set_option maxRecDepth 100000 in
theorem take_ok (cb : Nat) (cls cap : Int) (L : List ByteArray) (F : List Nat) (p : Nat) (w : World) (h : Chn w cb cls cap L F) (hp : p < L.length) (hc : chc cls L p = true) :
    Calls Tryz.prog 77 #[.pointer (some ⟨cb, 0, none⟩), .int .i64 p] w (Ret (.tuple #[.string (L.getD p ByteArray.empty), .int .i64 0]) (ChnTo w cb cls cap (L.eraseIdx p) F)) := by
  have CN := Lib.hid (none_any cb cls cap L F w h)
  have HG := Lib.hid h.good
  have hg := h.good.lenN
  obtain ⟨sv, e1, e2, -, rfl⟩ := h
  have c0 := cell_of e1 0
  have c2 := cell_of e1 2
  obtain ⟨ao, c, rfl, -, hcs⟩ := e2.shape
  obtain ⟨g, rfl, cx⟩ := hcs p _ (List.getElem?_eq_getElem hp)
  have HE1 := Lib.hid e1; have HE2 := Lib.hid e2
  have hp0 : decide ((p : Int) < 0) = false := by simp
  have hp1 : decide (L.length ≤ p) = false := by simp; omega
  have HCH : Hid (∀ w', Frm [] w w' → Calls Tryz.prog (cfn cls) #[.slice (some ⟨g, 0, none⟩) L.length c, .int .i64 p] w' (Ret (.bool true) (w' = ·))) := Lib.hid fun w' hf => by
    have := chc_any cls _ L p w' (HE2.out.frm hf (by simp)) (by omega) hp
    rwa [hc] at this
  have c0' : w.cell? ⟨cb, 0, none⟩ = some (.int .i64 cls) := c0
  have c2' : w.cell? ⟨cb, 2, none⟩ = some (.slice (some ⟨g, 0, none⟩) L.length c) := c2
  clear e1 e2 hcs c0 c2
  go_enter Tryz.func77, Tryz.ntmps77
  go_wp2_with (first
    | (go_at_call 126; go_must (refine CN.out.mono ?_; rintro e w' ⟨rfl, rfl⟩)))
  go_cut [35] (fun s35 w' => s35 = .bool false ∧ Frm [] w w')
  case first =>
    rcases cls_cases HG.out.c1 HG.out.c3 with rfl | rfl | rfl
    · have HS : (fun w' : World => w'.cell? ⟨cb, 0, none⟩ = some (.int .i64 1) ∧ w'.cell? ⟨cb, 2, none⟩ = some (.slice (some ⟨g, 0, none⟩) L.length c)) w.drew := ⟨(Frm.refl [] w).drew.keep c0', (Frm.refl [] w).drew.keep c2'⟩
      refine wp_region_held_drew (S := (fun w' : World => w'.cell? ⟨cb, 0, none⟩ = some (.int .i64 1) ∧ w'.cell? ⟨cb, 2, none⟩ = some (.slice (some ⟨g, 0, none⟩) L.length c))) (by kernel_rfl) HS (fun _ => ?_)
      refine wpAnyH_take (i := 0) (v := .int .i64 p) rfl (by kernel_rfl) (by kernel_rfl) (by kernel_rfl) (fun _ _ _ h => h) (Or.inl ⟨by rfl, fun w' hS => ?_⟩) HS ?_
      · obtain ⟨e0, e2⟩ := hS
        go_simp
      try simp only [List.getElem_toArray, List.getElem_cons_zero, Act.put, List.setIfInBounds_toArray, List.set_cons_zero, List.set_cons_succ]
      refine wpAnyH_take (i := 1) (v := .bool false) rfl (by kernel_rfl) (by kernel_rfl) (by kernel_rfl) (fun _ _ _ h => h) (Or.inl ⟨by rfl, fun w' hS => ?_⟩) HS ?_
      · obtain ⟨e0, e2⟩ := hS
        go_simp
      try simp only [List.getElem_toArray, List.getElem_cons_zero, List.getElem_cons_succ, Act.put, List.setIfInBounds_toArray, List.set_cons_zero, List.set_cons_succ]
      refine wpAnyH_take (i := 2) (v := .bool false) rfl (by kernel_rfl) (by kernel_rfl) (by kernel_rfl) (fun _ _ _ h => h) (Or.inl ⟨by rfl, fun w' hS => ?_⟩) HS ?_
      · obtain ⟨e0, e2⟩ := hS
        go_simp
      try simp only [List.getElem_toArray, List.getElem_cons_zero, List.getElem_cons_succ, Act.put, List.setIfInBounds_toArray, List.set_cons_zero, List.set_cons_succ]
      refine wpAnyH_take (i := 3) (v := .int .i64 p) rfl (by kernel_rfl) (by kernel_rfl) (by kernel_rfl) (fun _ _ _ h => h) (Or.inl ⟨by rfl, fun w' hS => ?_⟩) HS ?_
      · obtain ⟨e0, e2⟩ := hS
        go_simp
      try simp only [List.getElem_toArray, List.getElem_cons_zero, List.getElem_cons_succ, Act.put, List.setIfInBounds_toArray, List.set_cons_zero, List.set_cons_succ]
      refine wpAnyH_take (i := 4) (v := .pointer (some ⟨cb, 0, none⟩)) rfl (by kernel_rfl) (by kernel_rfl) (by kernel_rfl) (fun _ _ _ h => h) (Or.inl ⟨by rfl, fun w' hS => ?_⟩) HS ?_
      · obtain ⟨e0, e2⟩ := hS
        go_simp
      try simp only [List.getElem_toArray, List.getElem_cons_zero, List.getElem_cons_succ, Act.put, List.setIfInBounds_toArray, List.set_cons_zero, List.set_cons_succ]
      refine wpAnyH_take (i := 5) (v := .pointer (some ⟨cb, 0, none⟩)) rfl (by kernel_rfl) (by kernel_rfl) (by kernel_rfl) (fun _ _ _ h => h) (Or.inl ⟨by rfl, fun w' hS => ?_⟩) HS ?_
      · obtain ⟨e0, e2⟩ := hS
        go_simp
      try simp only [List.getElem_toArray, List.getElem_cons_zero, List.getElem_cons_succ, Act.put, List.setIfInBounds_toArray, List.set_cons_zero, List.set_cons_succ]
      refine wpAnyH_take (i := 6) (v := .pointer (some ⟨cb, 2, none⟩)) rfl (by kernel_rfl) (by kernel_rfl) (by kernel_rfl) (fun _ _ _ h => h) (Or.inl ⟨by rfl, fun w' hS => ?_⟩) HS ?_
      · obtain ⟨e0, e2⟩ := hS
        go_simp
      try simp only [List.getElem_toArray, List.getElem_cons_zero, List.getElem_cons_succ, Act.put, List.setIfInBounds_toArray, List.set_cons_zero, List.set_cons_succ]
      refine wpAnyH_take (i := 7) (v := .slice (some ⟨g, 0, none⟩) L.length c) rfl (by kernel_rfl) (by kernel_rfl) (by kernel_rfl) (fun _ _ _ h => h) (Or.inl ⟨by rfl, fun w' hS => ?_⟩) HS ?_
      · obtain ⟨e0, e2⟩ := hS
        go_simp
      try simp only [List.getElem_toArray, List.getElem_cons_zero, List.getElem_cons_succ, Act.put, List.setIfInBounds_toArray, List.set_cons_zero, List.set_cons_succ]
      refine wpAnyH_take (i := 8) (v := .int .i64 L.length) rfl (by kernel_rfl) (by kernel_rfl) (by kernel_rfl) (fun _ _ _ h => h) (Or.inl ⟨by rfl, fun w' hS => ?_⟩) HS ?_
      · obtain ⟨e0, e2⟩ := hS
        go_simp
      try simp only [List.getElem_toArray, List.getElem_cons_zero, List.getElem_cons_succ, Act.put, List.setIfInBounds_toArray, List.set_cons_zero, List.set_cons_succ]
      refine wpAnyH_take (i := 9) (v := .bool false) rfl (by kernel_rfl) (by kernel_rfl) (by kernel_rfl) (fun _ _ _ h => h) (Or.inl ⟨by rfl, fun w' hS => ?_⟩) HS ?_
      · obtain ⟨e0, e2⟩ := hS
        go_simp
      try simp only [List.getElem_toArray, List.getElem_cons_zero, List.getElem_cons_succ, Act.put, List.setIfInBounds_toArray, List.set_cons_zero, List.set_cons_succ]
      refine wpAnyH_take (i := 10) (v := .bool false) rfl (by kernel_rfl) (by kernel_rfl) (by kernel_rfl) (fun _ _ _ h => h) (Or.inl ⟨by rfl, fun w' hS => ?_⟩) HS ?_
      · obtain ⟨e0, e2⟩ := hS
        go_simp
      try simp only [List.getElem_toArray, List.getElem_cons_zero, List.getElem_cons_succ, Act.put, List.setIfInBounds_toArray, List.set_cons_zero, List.set_cons_succ]
      refine wpAnyH_take (i := 11) (v := .bool false) rfl (by kernel_rfl) (by kernel_rfl) (by kernel_rfl) (fun _ _ _ h => h) (Or.inl ⟨by rfl, fun w' hS => ?_⟩) HS ?_
      · obtain ⟨e0, e2⟩ := hS
        go_simp
      try simp only [List.getElem_toArray, List.getElem_cons_zero, List.getElem_cons_succ, Act.put, List.setIfInBounds_toArray, List.set_cons_zero, List.set_cons_succ]
      refine wpAnyH_take (i := 13) (v := .pointer (some ⟨cb, 0, none⟩)) rfl (by kernel_rfl) (by kernel_rfl) (by kernel_rfl) (fun _ _ _ h => h) (Or.inl ⟨by rfl, fun w' hS => ?_⟩) HS ?_
      · obtain ⟨e0, e2⟩ := hS
        go_simp
      try simp only [List.getElem_toArray, List.getElem_cons_zero, List.getElem_cons_succ, Act.put, List.setIfInBounds_toArray, List.set_cons_zero, List.set_cons_succ]
      refine wpAnyH_take (i := 14) (v := .pointer (some ⟨cb, 0, none⟩)) rfl (by kernel_rfl) (by kernel_rfl) (by kernel_rfl) (fun _ _ _ h => h) (Or.inl ⟨by rfl, fun w' hS => ?_⟩) HS ?_
      · obtain ⟨e0, e2⟩ := hS
        go_simp
      try simp only [List.getElem_toArray, List.getElem_cons_zero, List.getElem_cons_succ, Act.put, List.setIfInBounds_toArray, List.set_cons_zero, List.set_cons_succ]
      refine wpAnyH_take (i := 15) (v := .pointer (some ⟨cb, 0, none⟩)) rfl (by kernel_rfl) (by kernel_rfl) (by kernel_rfl) (fun _ _ _ h => h) (Or.inl ⟨by rfl, fun w' hS => ?_⟩) HS ?_
      · obtain ⟨e0, e2⟩ := hS
        go_simp
      try simp only [List.getElem_toArray, List.getElem_cons_zero, List.getElem_cons_succ, Act.put, List.setIfInBounds_toArray, List.set_cons_zero, List.set_cons_succ]
      refine wpAnyH_take (i := 16) (v := .int .i64 1) rfl (by kernel_rfl) (by kernel_rfl) (by kernel_rfl) (fun _ _ _ h => h) (Or.inl ⟨by rfl, fun w' hS => ?_⟩) HS ?_
      · obtain ⟨e0, e2⟩ := hS
        go_simp
      try simp only [List.getElem_toArray, List.getElem_cons_zero, List.getElem_cons_succ, Act.put, List.setIfInBounds_toArray, List.set_cons_zero, List.set_cons_succ]
      refine wpAnyH_take (i := 19) (v := .pointer (some ⟨cb, 0, none⟩)) rfl (by kernel_rfl) (by kernel_rfl) (by kernel_rfl) (fun _ _ _ h => h) (Or.inl ⟨by rfl, fun w' hS => ?_⟩) HS ?_
      · obtain ⟨e0, e2⟩ := hS
        go_simp
      try simp only [List.getElem_toArray, List.getElem_cons_zero, List.getElem_cons_succ, Act.put, List.setIfInBounds_toArray, List.set_cons_zero, List.set_cons_succ]
      refine wpAnyH_take (i := 20) (v := .pointer (some ⟨cb, 0, none⟩)) rfl (by kernel_rfl) (by kernel_rfl) (by kernel_rfl) (fun _ _ _ h => h) (Or.inl ⟨by rfl, fun w' hS => ?_⟩) HS ?_
      · obtain ⟨e0, e2⟩ := hS
        go_simp
      try simp only [List.getElem_toArray, List.getElem_cons_zero, List.getElem_cons_succ, Act.put, List.setIfInBounds_toArray, List.set_cons_zero, List.set_cons_succ]
      refine wpAnyH_take (i := 21) (v := .pointer (some ⟨cb, 2, none⟩)) rfl (by kernel_rfl) (by kernel_rfl) (by kernel_rfl) (fun _ _ _ h => h) (Or.inl ⟨by rfl, fun w' hS => ?_⟩) HS ?_
      · obtain ⟨e0, e2⟩ := hS
        go_simp
      try simp only [List.getElem_toArray, List.getElem_cons_zero, List.getElem_cons_succ, Act.put, List.setIfInBounds_toArray, List.set_cons_zero, List.set_cons_succ]
      refine wpAnyH_take (i := 22) (v := .slice (some ⟨g, 0, none⟩) L.length c) rfl (by kernel_rfl) (by kernel_rfl) (by kernel_rfl) (fun _ _ _ h => h) (Or.inl ⟨by rfl, fun w' hS => ?_⟩) HS ?_
      · obtain ⟨e0, e2⟩ := hS
        go_simp
      try simp only [List.getElem_toArray, List.getElem_cons_zero, List.getElem_cons_succ, Act.put, List.setIfInBounds_toArray, List.set_cons_zero, List.set_cons_succ]
      refine wpAnyH_take (i := 23) (v := .int .i64 p) rfl (by kernel_rfl) (by kernel_rfl) (by kernel_rfl) (fun _ _ _ h => h) (Or.inl ⟨by rfl, fun w' hS => ?_⟩) HS ?_
      · obtain ⟨e0, e2⟩ := hS
        go_simp
      try simp only [List.getElem_toArray, List.getElem_cons_zero, List.getElem_cons_succ, Act.put, List.setIfInBounds_toArray, List.set_cons_zero, List.set_cons_succ]
      refine wpAnyH_ready (rs := [12]) (by kernel_rfl) (by simp) (AllReadyH.cons rfl (fun K hK => ?_) AllReadyH.nil)
      rw [if_pos (by rfl)]
      go_simp
      refine (choices_any w.drew).mono ?_
      rintro e w1 ⟨rfl, rfl⟩
      have HS : (fun w' : World => w'.cell? ⟨cb, 0, none⟩ = some (.int .i64 1) ∧ w'.cell? ⟨cb, 2, none⟩ = some (.slice (some ⟨g, 0, none⟩) L.length c)) (w.drew.alloc tabO) := ⟨((Frm.refl [] w).drew.alloc _).keep c0', ((Frm.refl [] w).drew.alloc _).keep c2'⟩
      refine hK.out _ _ HS (fun _ => ?_)
      clear hK K
      try simp only [List.getElem_toArray, List.getElem_cons_zero, List.getElem_cons_succ, Act.put, List.setIfInBounds_toArray, List.set_cons_zero, List.set_cons_succ]
      have ct : (w.drew.alloc tabO).cell? ⟨w.heap.size, 1, none⟩ = some (.func (.func 164) #[] #[]) := cell_of (heap_alloc_new w.drew _) 1
      have HCT := HCH.out _ ((Frm.refl [] w).drew.alloc tabO)
      have HWT : Frm [] w (w.drew.alloc tabO) := (Frm.refl [] w).drew.alloc _
      generalize w.drew.alloc tabO = wz at HS ct HCT HWT ⊢
      refine wpAnyH_take (i := 17) (v := .pointer (some ⟨w.heap.size, 1, none⟩)) rfl (by kernel_rfl) (by kernel_rfl) (by kernel_rfl) (fun _ _ _ h => h) (Or.inl ⟨by rfl, fun w' hS => ?_⟩) HS ?_
      · obtain ⟨e0, e2⟩ := hS
        go_simp
      try simp only [List.getElem_toArray, List.getElem_cons_zero, List.getElem_cons_succ, Act.put, List.setIfInBounds_toArray, List.set_cons_zero, List.set_cons_succ]
      refine wpAnyH_ready (rs := [18]) (by kernel_rfl) (by simp) (AllReadyH.cons rfl (fun K hK => ?_) AllReadyH.nil)
      rw [if_pos (by rfl)]
      go_simp
      have HS := HS
      refine hK.out _ _ HS (fun _ => ?_)
      clear hK K
      try simp only [List.getElem_toArray, List.getElem_cons_zero, List.getElem_cons_succ, Act.put, List.setIfInBounds_toArray, List.set_cons_zero, List.set_cons_succ]
      refine wpAnyH_ready (rs := [24]) (by kernel_rfl) (by simp) (AllReadyH.cons rfl (fun K hK => ?_) AllReadyH.nil)
      rw [if_pos (by rfl)]
      go_simp
      refine (show Calls Tryz.prog 164 _ _ _ from HCT).mono ?_
      rintro e w2 ⟨rfl, rfl⟩
      have HS := HS
      refine hK.out _ _ HS (fun _ => ?_)
      clear hK K
      try simp only [List.getElem_toArray, List.getElem_cons_zero, List.getElem_cons_succ, Act.put, List.setIfInBounds_toArray, List.set_cons_zero, List.set_cons_succ]
      refine wpAnyH_take (i := 25) (v := .bool false) rfl (by kernel_rfl) (by kernel_rfl) (by kernel_rfl) (fun _ _ _ h => h) (Or.inl ⟨by rfl, fun w' hS => ?_⟩) HS ?_
      · obtain ⟨e0, e2⟩ := hS
        go_simp
      try simp only [List.getElem_toArray, List.getElem_cons_zero, List.getElem_cons_succ, Act.put, List.setIfInBounds_toArray, List.set_cons_zero, List.set_cons_succ]
      refine wpAnyH_take (i := 26) (v := .bool false) rfl (by kernel_rfl) (by kernel_rfl) (by kernel_rfl) (fun _ _ _ h => h) (Or.inl ⟨by rfl, fun w' hS => ?_⟩) HS ?_
      · obtain ⟨e0, e2⟩ := hS
        go_simp
      try simp only [List.getElem_toArray, List.getElem_cons_zero, List.getElem_cons_succ, Act.put, List.setIfInBounds_toArray, List.set_cons_zero, List.set_cons_succ]
      refine wpAnyH_done (by kernel_rfl) ?_ _
      go_wp2
      go_meet
      exact ⟨rfl, HWT⟩
    · have HS : (fun w' : World => w'.cell? ⟨cb, 0, none⟩ = some (.int .i64 2) ∧ w'.cell? ⟨cb, 2, none⟩ = some (.slice (some ⟨g, 0, none⟩) L.length c)) w.drew := ⟨(Frm.refl [] w).drew.keep c0', (Frm.refl [] w).drew.keep c2'⟩
      refine wp_region_held_drew (S := (fun w' : World => w'.cell? ⟨cb, 0, none⟩ = some (.int .i64 2) ∧ w'.cell? ⟨cb, 2, none⟩ = some (.slice (some ⟨g, 0, none⟩) L.length c))) (by kernel_rfl) HS (fun _ => ?_)
      refine wpAnyH_take (i := 0) (v := .int .i64 p) rfl (by kernel_rfl) (by kernel_rfl) (by kernel_rfl) (fun _ _ _ h => h) (Or.inl ⟨by rfl, fun w' hS => ?_⟩) HS ?_
      · obtain ⟨e0, e2⟩ := hS
        go_simp
      try simp only [List.getElem_toArray, List.getElem_cons_zero, Act.put, List.setIfInBounds_toArray, List.set_cons_zero, List.set_cons_succ]
      refine wpAnyH_take (i := 1) (v := .bool false) rfl (by kernel_rfl) (by kernel_rfl) (by kernel_rfl) (fun _ _ _ h => h) (Or.inl ⟨by rfl, fun w' hS => ?_⟩) HS ?_
      · obtain ⟨e0, e2⟩ := hS
        go_simp
      try simp only [List.getElem_toArray, List.getElem_cons_zero, List.getElem_cons_succ, Act.put, List.setIfInBounds_toArray, List.set_cons_zero, List.set_cons_succ]
      refine wpAnyH_take (i := 2) (v := .bool false) rfl (by kernel_rfl) (by kernel_rfl) (by kernel_rfl) (fun _ _ _ h => h) (Or.inl ⟨by rfl, fun w' hS => ?_⟩) HS ?_
      · obtain ⟨e0, e2⟩ := hS
        go_simp
      try simp only [List.getElem_toArray, List.getElem_cons_zero, List.getElem_cons_succ, Act.put, List.setIfInBounds_toArray, List.set_cons_zero, List.set_cons_succ]
      refine wpAnyH_take (i := 3) (v := .int .i64 p) rfl (by kernel_rfl) (by kernel_rfl) (by kernel_rfl) (fun _ _ _ h => h) (Or.inl ⟨by rfl, fun w' hS => ?_⟩) HS ?_
      · obtain ⟨e0, e2⟩ := hS
        go_simp
      try simp only [List.getElem_toArray, List.getElem_cons_zero, List.getElem_cons_succ, Act.put, List.setIfInBounds_toArray, List.set_cons_zero, List.set_cons_succ]
      refine wpAnyH_take (i := 4) (v := .pointer (some ⟨cb, 0, none⟩)) rfl (by kernel_rfl) (by kernel_rfl) (by kernel_rfl) (fun _ _ _ h => h) (Or.inl ⟨by rfl, fun w' hS => ?_⟩) HS ?_
      · obtain ⟨e0, e2⟩ := hS
        go_simp
      try simp only [List.getElem_toArray, List.getElem_cons_zero, List.getElem_cons_succ, Act.put, List.setIfInBounds_toArray, List.set_cons_zero, List.set_cons_succ]
      refine wpAnyH_take (i := 5) (v := .pointer (some ⟨cb, 0, none⟩)) rfl (by kernel_rfl) (by kernel_rfl) (by kernel_rfl) (fun _ _ _ h => h) (Or.inl ⟨by rfl, fun w' hS => ?_⟩) HS ?_
      · obtain ⟨e0, e2⟩ := hS
        go_simp
      try simp only [List.getElem_toArray, List.getElem_cons_zero, List.getElem_cons_succ, Act.put, List.setIfInBounds_toArray, List.set_cons_zero, List.set_cons_succ]
      refine wpAnyH_take (i := 6) (v := .pointer (some ⟨cb, 2, none⟩)) rfl (by kernel_rfl) (by kernel_rfl) (by kernel_rfl) (fun _ _ _ h => h) (Or.inl ⟨by rfl, fun w' hS => ?_⟩) HS ?_
      · obtain ⟨e0, e2⟩ := hS
        go_simp
      try simp only [List.getElem_toArray, List.getElem_cons_zero, List.getElem_cons_succ, Act.put, List.setIfInBounds_toArray, List.set_cons_zero, List.set_cons_succ]
      refine wpAnyH_take (i := 7) (v := .slice (some ⟨g, 0, none⟩) L.length c) rfl (by kernel_rfl) (by kernel_rfl) (by kernel_rfl) (fun _ _ _ h => h) (Or.inl ⟨by rfl, fun w' hS => ?_⟩) HS ?_
      · obtain ⟨e0, e2⟩ := hS
        go_simp
      try simp only [List.getElem_toArray, List.getElem_cons_zero, List.getElem_cons_succ, Act.put, List.setIfInBounds_toArray, List.set_cons_zero, List.set_cons_succ]
      refine wpAnyH_take (i := 8) (v := .int .i64 L.length) rfl (by kernel_rfl) (by kernel_rfl) (by kernel_rfl) (fun _ _ _ h => h) (Or.inl ⟨by rfl, fun w' hS => ?_⟩) HS ?_
      · obtain ⟨e0, e2⟩ := hS
        go_simp
      try simp only [List.getElem_toArray, List.getElem_cons_zero, List.getElem_cons_succ, Act.put, List.setIfInBounds_toArray, List.set_cons_zero, List.set_cons_succ]
      refine wpAnyH_take (i := 9) (v := .bool false) rfl (by kernel_rfl) (by kernel_rfl) (by kernel_rfl) (fun _ _ _ h => h) (Or.inl ⟨by rfl, fun w' hS => ?_⟩) HS ?_
      · obtain ⟨e0, e2⟩ := hS
        go_simp
      try simp only [List.getElem_toArray, List.getElem_cons_zero, List.getElem_cons_succ, Act.put, List.setIfInBounds_toArray, List.set_cons_zero, List.set_cons_succ]
      refine wpAnyH_take (i := 10) (v := .bool false) rfl (by kernel_rfl) (by kernel_rfl) (by kernel_rfl) (fun _ _ _ h => h) (Or.inl ⟨by rfl, fun w' hS => ?_⟩) HS ?_
      · obtain ⟨e0, e2⟩ := hS
        go_simp
      try simp only [List.getElem_toArray, List.getElem_cons_zero, List.getElem_cons_succ, Act.put, List.setIfInBounds_toArray, List.set_cons_zero, List.set_cons_succ]
      refine wpAnyH_take (i := 11) (v := .bool false) rfl (by kernel_rfl) (by kernel_rfl) (by kernel_rfl) (fun _ _ _ h => h) (Or.inl ⟨by rfl, fun w' hS => ?_⟩) HS ?_
      · obtain ⟨e0, e2⟩ := hS
        go_simp
      try simp only [List.getElem_toArray, List.getElem_cons_zero, List.getElem_cons_succ, Act.put, List.setIfInBounds_toArray, List.set_cons_zero, List.set_cons_succ]
      refine wpAnyH_take (i := 13) (v := .pointer (some ⟨cb, 0, none⟩)) rfl (by kernel_rfl) (by kernel_rfl) (by kernel_rfl) (fun _ _ _ h => h) (Or.inl ⟨by rfl, fun w' hS => ?_⟩) HS ?_
      · obtain ⟨e0, e2⟩ := hS
        go_simp
      try simp only [List.getElem_toArray, List.getElem_cons_zero, List.getElem_cons_succ, Act.put, List.setIfInBounds_toArray, List.set_cons_zero, List.set_cons_succ]
      refine wpAnyH_take (i := 14) (v := .pointer (some ⟨cb, 0, none⟩)) rfl (by kernel_rfl) (by kernel_rfl) (by kernel_rfl) (fun _ _ _ h => h) (Or.inl ⟨by rfl, fun w' hS => ?_⟩) HS ?_
      · obtain ⟨e0, e2⟩ := hS
        go_simp
      try simp only [List.getElem_toArray, List.getElem_cons_zero, List.getElem_cons_succ, Act.put, List.setIfInBounds_toArray, List.set_cons_zero, List.set_cons_succ]
      refine wpAnyH_take (i := 15) (v := .pointer (some ⟨cb, 0, none⟩)) rfl (by kernel_rfl) (by kernel_rfl) (by kernel_rfl) (fun _ _ _ h => h) (Or.inl ⟨by rfl, fun w' hS => ?_⟩) HS ?_
      · obtain ⟨e0, e2⟩ := hS
        go_simp
      try simp only [List.getElem_toArray, List.getElem_cons_zero, List.getElem_cons_succ, Act.put, List.setIfInBounds_toArray, List.set_cons_zero, List.set_cons_succ]
      refine wpAnyH_take (i := 16) (v := .int .i64 2) rfl (by kernel_rfl) (by kernel_rfl) (by kernel_rfl) (fun _ _ _ h => h) (Or.inl ⟨by rfl, fun w' hS => ?_⟩) HS ?_
      · obtain ⟨e0, e2⟩ := hS
        go_simp
      try simp only [List.getElem_toArray, List.getElem_cons_zero, List.getElem_cons_succ, Act.put, List.setIfInBounds_toArray, List.set_cons_zero, List.set_cons_succ]
      refine wpAnyH_take (i := 19) (v := .pointer (some ⟨cb, 0, none⟩)) rfl (by kernel_rfl) (by kernel_rfl) (by kernel_rfl) (fun _ _ _ h => h) (Or.inl ⟨by rfl, fun w' hS => ?_⟩) HS ?_
      · obtain ⟨e0, e2⟩ := hS
        go_simp
      try simp only [List.getElem_toArray, List.getElem_cons_zero, List.getElem_cons_succ, Act.put, List.setIfInBounds_toArray, List.set_cons_zero, List.set_cons_succ]
      refine wpAnyH_take (i := 20) (v := .pointer (some ⟨cb, 0, none⟩)) rfl (by kernel_rfl) (by kernel_rfl) (by kernel_rfl) (fun _ _ _ h => h) (Or.inl ⟨by rfl, fun w' hS => ?_⟩) HS ?_
      · obtain ⟨e0, e2⟩ := hS
        go_simp
      try simp only [List.getElem_toArray, List.getElem_cons_zero, List.getElem_cons_succ, Act.put, List.setIfInBounds_toArray, List.set_cons_zero, List.set_cons_succ]
      refine wpAnyH_take (i := 21) (v := .pointer (some ⟨cb, 2, none⟩)) rfl (by kernel_rfl) (by kernel_rfl) (by kernel_rfl) (fun _ _ _ h => h) (Or.inl ⟨by rfl, fun w' hS => ?_⟩) HS ?_
      · obtain ⟨e0, e2⟩ := hS
        go_simp
      try simp only [List.getElem_toArray, List.getElem_cons_zero, List.getElem_cons_succ, Act.put, List.setIfInBounds_toArray, List.set_cons_zero, List.set_cons_succ]
      refine wpAnyH_take (i := 22) (v := .slice (some ⟨g, 0, none⟩) L.length c) rfl (by kernel_rfl) (by kernel_rfl) (by kernel_rfl) (fun _ _ _ h => h) (Or.inl ⟨by rfl, fun w' hS => ?_⟩) HS ?_
      · obtain ⟨e0, e2⟩ := hS
        go_simp
      try simp only [List.getElem_toArray, List.getElem_cons_zero, List.getElem_cons_succ, Act.put, List.setIfInBounds_toArray, List.set_cons_zero, List.set_cons_succ]
      refine wpAnyH_take (i := 23) (v := .int .i64 p) rfl (by kernel_rfl) (by kernel_rfl) (by kernel_rfl) (fun _ _ _ h => h) (Or.inl ⟨by rfl, fun w' hS => ?_⟩) HS ?_
      · obtain ⟨e0, e2⟩ := hS
        go_simp
      try simp only [List.getElem_toArray, List.getElem_cons_zero, List.getElem_cons_succ, Act.put, List.setIfInBounds_toArray, List.set_cons_zero, List.set_cons_succ]
      refine wpAnyH_ready (rs := [12]) (by kernel_rfl) (by simp) (AllReadyH.cons rfl (fun K hK => ?_) AllReadyH.nil)
      rw [if_pos (by rfl)]
      go_simp
      refine (choices_any w.drew).mono ?_
      rintro e w1 ⟨rfl, rfl⟩
      have HS : (fun w' : World => w'.cell? ⟨cb, 0, none⟩ = some (.int .i64 2) ∧ w'.cell? ⟨cb, 2, none⟩ = some (.slice (some ⟨g, 0, none⟩) L.length c)) (w.drew.alloc tabO) := ⟨((Frm.refl [] w).drew.alloc _).keep c0', ((Frm.refl [] w).drew.alloc _).keep c2'⟩
      refine hK.out _ _ HS (fun _ => ?_)
      clear hK K
      try simp only [List.getElem_toArray, List.getElem_cons_zero, List.getElem_cons_succ, Act.put, List.setIfInBounds_toArray, List.set_cons_zero, List.set_cons_succ]
      have ct : (w.drew.alloc tabO).cell? ⟨w.heap.size, 2, none⟩ = some (.func (.func 165) #[] #[]) := cell_of (heap_alloc_new w.drew _) 2
      have HCT := HCH.out _ ((Frm.refl [] w).drew.alloc tabO)
      have HWT : Frm [] w (w.drew.alloc tabO) := (Frm.refl [] w).drew.alloc _
      generalize w.drew.alloc tabO = wz at HS ct HCT HWT ⊢
      refine wpAnyH_take (i := 17) (v := .pointer (some ⟨w.heap.size, 2, none⟩)) rfl (by kernel_rfl) (by kernel_rfl) (by kernel_rfl) (fun _ _ _ h => h) (Or.inl ⟨by rfl, fun w' hS => ?_⟩) HS ?_
      · obtain ⟨e0, e2⟩ := hS
        go_simp
      try simp only [List.getElem_toArray, List.getElem_cons_zero, List.getElem_cons_succ, Act.put, List.setIfInBounds_toArray, List.set_cons_zero, List.set_cons_succ]
      refine wpAnyH_ready (rs := [18]) (by kernel_rfl) (by simp) (AllReadyH.cons rfl (fun K hK => ?_) AllReadyH.nil)
      rw [if_pos (by rfl)]
      go_simp
      have HS := HS
      refine hK.out _ _ HS (fun _ => ?_)
      clear hK K
      try simp only [List.getElem_toArray, List.getElem_cons_zero, List.getElem_cons_succ, Act.put, List.setIfInBounds_toArray, List.set_cons_zero, List.set_cons_succ]
      refine wpAnyH_ready (rs := [24]) (by kernel_rfl) (by simp) (AllReadyH.cons rfl (fun K hK => ?_) AllReadyH.nil)
      rw [if_pos (by rfl)]
      go_simp
      refine (show Calls Tryz.prog 165 _ _ _ from HCT).mono ?_
      rintro e w2 ⟨rfl, rfl⟩
      have HS := HS
      refine hK.out _ _ HS (fun _ => ?_)
      clear hK K
      try simp only [List.getElem_toArray, List.getElem_cons_zero, List.getElem_cons_succ, Act.put, List.setIfInBounds_toArray, List.set_cons_zero, List.set_cons_succ]
      refine wpAnyH_take (i := 25) (v := .bool false) rfl (by kernel_rfl) (by kernel_rfl) (by kernel_rfl) (fun _ _ _ h => h) (Or.inl ⟨by rfl, fun w' hS => ?_⟩) HS ?_
      · obtain ⟨e0, e2⟩ := hS
        go_simp
      try simp only [List.getElem_toArray, List.getElem_cons_zero, List.getElem_cons_succ, Act.put, List.setIfInBounds_toArray, List.set_cons_zero, List.set_cons_succ]
      refine wpAnyH_take (i := 26) (v := .bool false) rfl (by kernel_rfl) (by kernel_rfl) (by kernel_rfl) (fun _ _ _ h => h) (Or.inl ⟨by rfl, fun w' hS => ?_⟩) HS ?_
      · obtain ⟨e0, e2⟩ := hS
        go_simp
      try simp only [List.getElem_toArray, List.getElem_cons_zero, List.getElem_cons_succ, Act.put, List.setIfInBounds_toArray, List.set_cons_zero, List.set_cons_succ]
      refine wpAnyH_done (by kernel_rfl) ?_ _
      go_wp2
      go_meet
      exact ⟨rfl, HWT⟩
    · have HS : (fun w' : World => w'.cell? ⟨cb, 0, none⟩ = some (.int .i64 3) ∧ w'.cell? ⟨cb, 2, none⟩ = some (.slice (some ⟨g, 0, none⟩) L.length c)) w.drew := ⟨(Frm.refl [] w).drew.keep c0', (Frm.refl [] w).drew.keep c2'⟩
      refine wp_region_held_drew (S := (fun w' : World => w'.cell? ⟨cb, 0, none⟩ = some (.int .i64 3) ∧ w'.cell? ⟨cb, 2, none⟩ = some (.slice (some ⟨g, 0, none⟩) L.length c))) (by kernel_rfl) HS (fun _ => ?_)
      refine wpAnyH_take (i := 0) (v := .int .i64 p) rfl (by kernel_rfl) (by kernel_rfl) (by kernel_rfl) (fun _ _ _ h => h) (Or.inl ⟨by rfl, fun w' hS => ?_⟩) HS ?_
      · obtain ⟨e0, e2⟩ := hS
        go_simp
      try simp only [List.getElem_toArray, List.getElem_cons_zero, Act.put, List.setIfInBounds_toArray, List.set_cons_zero, List.set_cons_succ]
      refine wpAnyH_take (i := 1) (v := .bool false) rfl (by kernel_rfl) (by kernel_rfl) (by kernel_rfl) (fun _ _ _ h => h) (Or.inl ⟨by rfl, fun w' hS => ?_⟩) HS ?_
      · obtain ⟨e0, e2⟩ := hS
        go_simp
      try simp only [List.getElem_toArray, List.getElem_cons_zero, List.getElem_cons_succ, Act.put, List.setIfInBounds_toArray, List.set_cons_zero, List.set_cons_succ]
      refine wpAnyH_take (i := 2) (v := .bool false) rfl (by kernel_rfl) (by kernel_rfl) (by kernel_rfl) (fun _ _ _ h => h) (Or.inl ⟨by rfl, fun w' hS => ?_⟩) HS ?_
      · obtain ⟨e0, e2⟩ := hS
        go_simp
      try simp only [List.getElem_toArray, List.getElem_cons_zero, List.getElem_cons_succ, Act.put, List.setIfInBounds_toArray, List.set_cons_zero, List.set_cons_succ]
      refine wpAnyH_take (i := 3) (v := .int .i64 p) rfl (by kernel_rfl) (by kernel_rfl) (by kernel_rfl) (fun _ _ _ h => h) (Or.inl ⟨by rfl, fun w' hS => ?_⟩) HS ?_
      · obtain ⟨e0, e2⟩ := hS
        go_simp
      try simp only [List.getElem_toArray, List.getElem_cons_zero, List.getElem_cons_succ, Act.put, List.setIfInBounds_toArray, List.set_cons_zero, List.set_cons_succ]
      refine wpAnyH_take (i := 4) (v := .pointer (some ⟨cb, 0, none⟩)) rfl (by kernel_rfl) (by kernel_rfl) (by kernel_rfl) (fun _ _ _ h => h) (Or.inl ⟨by rfl, fun w' hS => ?_⟩) HS ?_
      · obtain ⟨e0, e2⟩ := hS
        go_simp
      try simp only [List.getElem_toArray, List.getElem_cons_zero, List.getElem_cons_succ, Act.put, List.setIfInBounds_toArray, List.set_cons_zero, List.set_cons_succ]
      refine wpAnyH_take (i := 5) (v := .pointer (some ⟨cb, 0, none⟩)) rfl (by kernel_rfl) (by kernel_rfl) (by kernel_rfl) (fun _ _ _ h => h) (Or.inl ⟨by rfl, fun w' hS => ?_⟩) HS ?_
      · obtain ⟨e0, e2⟩ := hS
        go_simp
      try simp only [List.getElem_toArray, List.getElem_cons_zero, List.getElem_cons_succ, Act.put, List.setIfInBounds_toArray, List.set_cons_zero, List.set_cons_succ]
      refine wpAnyH_take (i := 6) (v := .pointer (some ⟨cb, 2, none⟩)) rfl (by kernel_rfl) (by kernel_rfl) (by kernel_rfl) (fun _ _ _ h => h) (Or.inl ⟨by rfl, fun w' hS => ?_⟩) HS ?_
      · obtain ⟨e0, e2⟩ := hS
        go_simp
      try simp only [List.getElem_toArray, List.getElem_cons_zero, List.getElem_cons_succ, Act.put, List.setIfInBounds_toArray, List.set_cons_zero, List.set_cons_succ]
      refine wpAnyH_take (i := 7) (v := .slice (some ⟨g, 0, none⟩) L.length c) rfl (by kernel_rfl) (by kernel_rfl) (by kernel_rfl) (fun _ _ _ h => h) (Or.inl ⟨by rfl, fun w' hS => ?_⟩) HS ?_
      · obtain ⟨e0, e2⟩ := hS
        go_simp
      try simp only [List.getElem_toArray, List.getElem_cons_zero, List.getElem_cons_succ, Act.put, List.setIfInBounds_toArray, List.set_cons_zero, List.set_cons_succ]
      refine wpAnyH_take (i := 8) (v := .int .i64 L.length) rfl (by kernel_rfl) (by kernel_rfl) (by kernel_rfl) (fun _ _ _ h => h) (Or.inl ⟨by rfl, fun w' hS => ?_⟩) HS ?_
      · obtain ⟨e0, e2⟩ := hS
        go_simp
      try simp only [List.getElem_toArray, List.getElem_cons_zero, List.getElem_cons_succ, Act.put, List.setIfInBounds_toArray, List.set_cons_zero, List.set_cons_succ]
      refine wpAnyH_take (i := 9) (v := .bool false) rfl (by kernel_rfl) (by kernel_rfl) (by kernel_rfl) (fun _ _ _ h => h) (Or.inl ⟨by rfl, fun w' hS => ?_⟩) HS ?_
      · obtain ⟨e0, e2⟩ := hS
        go_simp
      try simp only [List.getElem_toArray, List.getElem_cons_zero, List.getElem_cons_succ, Act.put, List.setIfInBounds_toArray, List.set_cons_zero, List.set_cons_succ]
      refine wpAnyH_take (i := 10) (v := .bool false) rfl (by kernel_rfl) (by kernel_rfl) (by kernel_rfl) (fun _ _ _ h => h) (Or.inl ⟨by rfl, fun w' hS => ?_⟩) HS ?_
      · obtain ⟨e0, e2⟩ := hS
        go_simp
      try simp only [List.getElem_toArray, List.getElem_cons_zero, List.getElem_cons_succ, Act.put, List.setIfInBounds_toArray, List.set_cons_zero, List.set_cons_succ]
      refine wpAnyH_take (i := 11) (v := .bool false) rfl (by kernel_rfl) (by kernel_rfl) (by kernel_rfl) (fun _ _ _ h => h) (Or.inl ⟨by rfl, fun w' hS => ?_⟩) HS ?_
      · obtain ⟨e0, e2⟩ := hS
        go_simp
      try simp only [List.getElem_toArray, List.getElem_cons_zero, List.getElem_cons_succ, Act.put, List.setIfInBounds_toArray, List.set_cons_zero, List.set_cons_succ]
      refine wpAnyH_take (i := 13) (v := .pointer (some ⟨cb, 0, none⟩)) rfl (by kernel_rfl) (by kernel_rfl) (by kernel_rfl) (fun _ _ _ h => h) (Or.inl ⟨by rfl, fun w' hS => ?_⟩) HS ?_
      · obtain ⟨e0, e2⟩ := hS
        go_simp
      try simp only [List.getElem_toArray, List.getElem_cons_zero, List.getElem_cons_succ, Act.put, List.setIfInBounds_toArray, List.set_cons_zero, List.set_cons_succ]
      refine wpAnyH_take (i := 14) (v := .pointer (some ⟨cb, 0, none⟩)) rfl (by kernel_rfl) (by kernel_rfl) (by kernel_rfl) (fun _ _ _ h => h) (Or.inl ⟨by rfl, fun w' hS => ?_⟩) HS ?_
      · obtain ⟨e0, e2⟩ := hS
        go_simp
      try simp only [List.getElem_toArray, List.getElem_cons_zero, List.getElem_cons_succ, Act.put, List.setIfInBounds_toArray, List.set_cons_zero, List.set_cons_succ]
      refine wpAnyH_take (i := 15) (v := .pointer (some ⟨cb, 0, none⟩)) rfl (by kernel_rfl) (by kernel_rfl) (by kernel_rfl) (fun _ _ _ h => h) (Or.inl ⟨by rfl, fun w' hS => ?_⟩) HS ?_
      · obtain ⟨e0, e2⟩ := hS
        go_simp
      try simp only [List.getElem_toArray, List.getElem_cons_zero, List.getElem_cons_succ, Act.put, List.setIfInBounds_toArray, List.set_cons_zero, List.set_cons_succ]
      refine wpAnyH_take (i := 16) (v := .int .i64 3) rfl (by kernel_rfl) (by kernel_rfl) (by kernel_rfl) (fun _ _ _ h => h) (Or.inl ⟨by rfl, fun w' hS => ?_⟩) HS ?_
      · obtain ⟨e0, e2⟩ := hS
        go_simp
      try simp only [List.getElem_toArray, List.getElem_cons_zero, List.getElem_cons_succ, Act.put, List.setIfInBounds_toArray, List.set_cons_zero, List.set_cons_succ]
      refine wpAnyH_take (i := 19) (v := .pointer (some ⟨cb, 0, none⟩)) rfl (by kernel_rfl) (by kernel_rfl) (by kernel_rfl) (fun _ _ _ h => h) (Or.inl ⟨by rfl, fun w' hS => ?_⟩) HS ?_
      · obtain ⟨e0, e2⟩ := hS
        go_simp
      try simp only [List.getElem_toArray, List.getElem_cons_zero, List.getElem_cons_succ, Act.put, List.setIfInBounds_toArray, List.set_cons_zero, List.set_cons_succ]
      refine wpAnyH_take (i := 20) (v := .pointer (some ⟨cb, 0, none⟩)) rfl (by kernel_rfl) (by kernel_rfl) (by kernel_rfl) (fun _ _ _ h => h) (Or.inl ⟨by rfl, fun w' hS => ?_⟩) HS ?_
      · obtain ⟨e0, e2⟩ := hS
        go_simp
      try simp only [List.getElem_toArray, List.getElem_cons_zero, List.getElem_cons_succ, Act.put, List.setIfInBounds_toArray, List.set_cons_zero, List.set_cons_succ]
      refine wpAnyH_take (i := 21) (v := .pointer (some ⟨cb, 2, none⟩)) rfl (by kernel_rfl) (by kernel_rfl) (by kernel_rfl) (fun _ _ _ h => h) (Or.inl ⟨by rfl, fun w' hS => ?_⟩) HS ?_
      · obtain ⟨e0, e2⟩ := hS
        go_simp
      try simp only [List.getElem_toArray, List.getElem_cons_zero, List.getElem_cons_succ, Act.put, List.setIfInBounds_toArray, List.set_cons_zero, List.set_cons_succ]
      refine wpAnyH_take (i := 22) (v := .slice (some ⟨g, 0, none⟩) L.length c) rfl (by kernel_rfl) (by kernel_rfl) (by kernel_rfl) (fun _ _ _ h => h) (Or.inl ⟨by rfl, fun w' hS => ?_⟩) HS ?_
      · obtain ⟨e0, e2⟩ := hS
        go_simp
      try simp only [List.getElem_toArray, List.getElem_cons_zero, List.getElem_cons_succ, Act.put, List.setIfInBounds_toArray, List.set_cons_zero, List.set_cons_succ]
      refine wpAnyH_take (i := 23) (v := .int .i64 p) rfl (by kernel_rfl) (by kernel_rfl) (by kernel_rfl) (fun _ _ _ h => h) (Or.inl ⟨by rfl, fun w' hS => ?_⟩) HS ?_
      · obtain ⟨e0, e2⟩ := hS
        go_simp
      try simp only [List.getElem_toArray, List.getElem_cons_zero, List.getElem_cons_succ, Act.put, List.setIfInBounds_toArray, List.set_cons_zero, List.set_cons_succ]
      refine wpAnyH_ready (rs := [12]) (by kernel_rfl) (by simp) (AllReadyH.cons rfl (fun K hK => ?_) AllReadyH.nil)
      rw [if_pos (by rfl)]
      go_simp
      refine (choices_any w.drew).mono ?_
      rintro e w1 ⟨rfl, rfl⟩
      have HS : (fun w' : World => w'.cell? ⟨cb, 0, none⟩ = some (.int .i64 3) ∧ w'.cell? ⟨cb, 2, none⟩ = some (.slice (some ⟨g, 0, none⟩) L.length c)) (w.drew.alloc tabO) := ⟨((Frm.refl [] w).drew.alloc _).keep c0', ((Frm.refl [] w).drew.alloc _).keep c2'⟩
      refine hK.out _ _ HS (fun _ => ?_)
      clear hK K
      try simp only [List.getElem_toArray, List.getElem_cons_zero, List.getElem_cons_succ, Act.put, List.setIfInBounds_toArray, List.set_cons_zero, List.set_cons_succ]
      have ct : (w.drew.alloc tabO).cell? ⟨w.heap.size, 3, none⟩ = some (.func (.func 164) #[] #[]) := cell_of (heap_alloc_new w.drew _) 3
      have HCT := HCH.out _ ((Frm.refl [] w).drew.alloc tabO)
      have HWT : Frm [] w (w.drew.alloc tabO) := (Frm.refl [] w).drew.alloc _
      generalize w.drew.alloc tabO = wz at HS ct HCT HWT ⊢
      refine wpAnyH_take (i := 17) (v := .pointer (some ⟨w.heap.size, 3, none⟩)) rfl (by kernel_rfl) (by kernel_rfl) (by kernel_rfl) (fun _ _ _ h => h) (Or.inl ⟨by rfl, fun w' hS => ?_⟩) HS ?_
      · obtain ⟨e0, e2⟩ := hS
        go_simp
      try simp only [List.getElem_toArray, List.getElem_cons_zero, List.getElem_cons_succ, Act.put, List.setIfInBounds_toArray, List.set_cons_zero, List.set_cons_succ]
      refine wpAnyH_ready (rs := [18]) (by kernel_rfl) (by simp) (AllReadyH.cons rfl (fun K hK => ?_) AllReadyH.nil)
      rw [if_pos (by rfl)]
      go_simp
      have HS := HS
      refine hK.out _ _ HS (fun _ => ?_)
      clear hK K
      try simp only [List.getElem_toArray, List.getElem_cons_zero, List.getElem_cons_succ, Act.put, List.setIfInBounds_toArray, List.set_cons_zero, List.set_cons_succ]
      refine wpAnyH_ready (rs := [24]) (by kernel_rfl) (by simp) (AllReadyH.cons rfl (fun K hK => ?_) AllReadyH.nil)
      rw [if_pos (by rfl)]
      go_simp
      refine (show Calls Tryz.prog 164 _ _ _ from HCT).mono ?_
      rintro e w2 ⟨rfl, rfl⟩
      have HS := HS
      refine hK.out _ _ HS (fun _ => ?_)
      clear hK K
      try simp only [List.getElem_toArray, List.getElem_cons_zero, List.getElem_cons_succ, Act.put, List.setIfInBounds_toArray, List.set_cons_zero, List.set_cons_succ]
      refine wpAnyH_take (i := 25) (v := .bool false) rfl (by kernel_rfl) (by kernel_rfl) (by kernel_rfl) (fun _ _ _ h => h) (Or.inl ⟨by rfl, fun w' hS => ?_⟩) HS ?_
      · obtain ⟨e0, e2⟩ := hS
        go_simp
      try simp only [List.getElem_toArray, List.getElem_cons_zero, List.getElem_cons_succ, Act.put, List.setIfInBounds_toArray, List.set_cons_zero, List.set_cons_succ]
      refine wpAnyH_take (i := 26) (v := .bool false) rfl (by kernel_rfl) (by kernel_rfl) (by kernel_rfl) (fun _ _ _ h => h) (Or.inl ⟨by rfl, fun w' hS => ?_⟩) HS ?_
      · obtain ⟨e0, e2⟩ := hS
        go_simp
      try simp only [List.getElem_toArray, List.getElem_cons_zero, List.getElem_cons_succ, Act.put, List.setIfInBounds_toArray, List.set_cons_zero, List.set_cons_succ]
      refine wpAnyH_done (by kernel_rfl) ?_ _
      go_wp2
      go_meet
      exact ⟨rfl, HWT⟩
  case rest =>
    obtain ⟨rfl, hf⟩ := hcut
    have HF := Lib.hid hf
    have d2 := hf.keep c2'
    have dx := hf.keep cx
    have HE2' := Lib.hid (HE2.out.frm hf (by simp))
    clear hf HCH c0' c2' cx
    have fcb := HF.out.at HE1.out (by simp)
    have HCB := Lib.hid fcb
    clear fcb
    go_wp2_with (first
      | (go_at_call 127; go_must (refine (clone_any _ L wc HE2'.out (by omega)).mono ?_; rintro e w1 ⟨v', rfl, hr⟩; have HR := Lib.hid hr; clear hr))
      | (go_at_call 137; go_must (refine (delete_any v' L p w1 HR.out.1 hp (by omega)).mono ?_; rintro e w2 ⟨v2, rfl, hr⟩; have hst := hr.1; obtain ⟨ao', c', hv, -, -⟩ := hst.shape; rw [List.length_eraseIdx_of_lt hp] at hv; subst hv; have HD := Lib.hid hr; have hca := hr.2.2.at (HR.out.2.1.at HCB.out (by simp)) (fun hx => by have := HR.out.2.2 _ (by simpa using hx); have := lt_of_block HCB.out; omega); have HCA := Lib.hid hca; have k2 := cell_of hca 2; have kf := free_of hca 2; clear hst hr hca)))
    go_ret2
    refine ⟨?_, take_end HE1.out HG.out.erase HF.out HR.out HD.out.1 HD.out.2.1 HD.out.2.2 HCA.out⟩
    rw [List.getD_eq_getElem?_getD, List.getElem?_eq_getElem hp]; rfl
set_option maxHeartbeats 4000000 in
set_option maxRecDepth 100000 in
/-- a place that is none -/
theorem take_out (cb : Nat) (cls cap : Int) (L : List ByteArray) (F : List Nat) (p : Int) (w : World) (h : Chn w cb cls cap L F) (hp : p < 0 ∨ (L.length : Int) ≤ p) :
    Calls Tryz.prog 77 #[.pointer (some ⟨cb, 0, none⟩), .int .i64 p] w (Ret (.tuple #[.string { data := #[] }, .int .i64 9]) (Frm [] w)) := by
  have CN := Lib.hid (none_any cb cls cap L F w h)
  obtain ⟨sv, e1, e2, -, rfl⟩ := h
  have c2 := cell_of e1 2
  obtain ⟨ao, c, rfl, -, hcs⟩ := e2.shape
  have c2' : w.cell? ⟨cb, 2, none⟩ = some (.slice ao L.length c) := c2
  clear e1 e2 hcs c2
  by_cases hp0 : p < 0
  · have hq : decide (p < 0) = true := by simpa using hp0
    clear hp hp0
    go_enter Tryz.func77, Tryz.ntmps77
    go_wp2_with (first
      | (go_at_call 126; go_must (refine CN.out.mono ?_; rintro e w' ⟨rfl, rfl⟩)))
    go_quiet (fail)
    go_wp2
    go_ret2
    exact ⟨rfl, (Frm.refl [] w).drewN _⟩
  · obtain ⟨p, rfl⟩ := Int.eq_ofNat_of_zero_le (by omega : (0 : Int) ≤ p)
    have hq : decide ((p : Int) < 0) = false := by simp
    have hp1 : decide (L.length ≤ p) = true := by simp; omega
    clear hp hp0
    go_enter Tryz.func77, Tryz.ntmps77
    go_wp2_with (first
      | (go_at_call 126; go_must (refine CN.out.mono ?_; rintro e w' ⟨rfl, rfl⟩)))
    go_quiet (fail)
    go_wp2
    go_ret2
    exact ⟨rfl, (Frm.refl [] w).drewN _⟩
set_option maxHeartbeats 4000000 in
set_option maxRecDepth 100000 in
/-- a place that is no choice -/
theorem take_no (cb : Nat) (cls cap : Int) (L : List ByteArray) (F : List Nat) (p : Nat) (w : World) (h : Chn w cb cls cap L F) (hp : p < L.length) (hc : chc cls L p = false) :
    Calls Tryz.prog 77 #[.pointer (some ⟨cb, 0, none⟩), .int .i64 p] w (Ret (.tuple #[.string { data := #[] }, .int .i64 9]) (Frm [] w)) := by
  have CN := Lib.hid (none_any cb cls cap L F w h)
  have HG := Lib.hid h.good
  have hg := h.good.lenN
  obtain ⟨sv, e1, e2, -, rfl⟩ := h
  have c0 := cell_of e1 0
  have c2 := cell_of e1 2
  obtain ⟨ao, c, rfl, -, hcs⟩ := e2.shape
  obtain ⟨g, rfl, cx⟩ := hcs p _ (List.getElem?_eq_getElem hp)
  have HE1 := Lib.hid e1; have HE2 := Lib.hid e2
  have hp0 : decide ((p : Int) < 0) = false := by simp
  have hp1 : decide (L.length ≤ p) = false := by simp; omega
  have HCH : Hid (∀ w', Frm [] w w' → Calls Tryz.prog (cfn cls) #[.slice (some ⟨g, 0, none⟩) L.length c, .int .i64 p] w' (Ret (.bool false) (w' = ·))) := Lib.hid fun w' hf => by
    have := chc_any cls _ L p w' (HE2.out.frm hf (by simp)) (by omega) hp
    rwa [hc] at this
  have c0' : w.cell? ⟨cb, 0, none⟩ = some (.int .i64 cls) := c0
  have c2' : w.cell? ⟨cb, 2, none⟩ = some (.slice (some ⟨g, 0, none⟩) L.length c) := c2
  clear e1 e2 hcs c0 c2
  go_enter Tryz.func77, Tryz.ntmps77
  go_wp2_with (first
    | (go_at_call 126; go_must (refine CN.out.mono ?_; rintro e w' ⟨rfl, rfl⟩)))
  go_cut [35] (fun s35 w' => s35 = .bool true ∧ Frm [] w w')
  case first =>
    rcases cls_cases HG.out.c1 HG.out.c3 with rfl | rfl | rfl
    · have HS : (fun w' : World => w'.cell? ⟨cb, 0, none⟩ = some (.int .i64 1) ∧ w'.cell? ⟨cb, 2, none⟩ = some (.slice (some ⟨g, 0, none⟩) L.length c)) w.drew := ⟨(Frm.refl [] w).drew.keep c0', (Frm.refl [] w).drew.keep c2'⟩
      refine wp_region_held_drew (S := (fun w' : World => w'.cell? ⟨cb, 0, none⟩ = some (.int .i64 1) ∧ w'.cell? ⟨cb, 2, none⟩ = some (.slice (some ⟨g, 0, none⟩) L.length c))) (by kernel_rfl) HS (fun _ => ?_)
      refine wpAnyH_take (i := 0) (v := .int .i64 p) rfl (by kernel_rfl) (by kernel_rfl) (by kernel_rfl) (fun _ _ _ h => h) (Or.inl ⟨by rfl, fun w' hS => ?_⟩) HS ?_
      · obtain ⟨e0, e2⟩ := hS
        go_simp
      try simp only [List.getElem_toArray, List.getElem_cons_zero, Act.put, List.setIfInBounds_toArray, List.set_cons_zero, List.set_cons_succ]
      refine wpAnyH_take (i := 1) (v := .bool false) rfl (by kernel_rfl) (by kernel_rfl) (by kernel_rfl) (fun _ _ _ h => h) (Or.inl ⟨by rfl, fun w' hS => ?_⟩) HS ?_
      · obtain ⟨e0, e2⟩ := hS
        go_simp
      try simp only [List.getElem_toArray, List.getElem_cons_zero, List.getElem_cons_succ, Act.put, List.setIfInBounds_toArray, List.set_cons_zero, List.set_cons_succ]
      refine wpAnyH_take (i := 2) (v := .bool false) rfl (by kernel_rfl) (by kernel_rfl) (by kernel_rfl) (fun _ _ _ h => h) (Or.inl ⟨by rfl, fun w' hS => ?_⟩) HS ?_
      · obtain ⟨e0, e2⟩ := hS
        go_simp
      try simp only [List.getElem_toArray, List.getElem_cons_zero, List.getElem_cons_succ, Act.put, List.setIfInBounds_toArray, List.set_cons_zero, List.set_cons_succ]
      refine wpAnyH_take (i := 3) (v := .int .i64 p) rfl (by kernel_rfl) (by kernel_rfl) (by kernel_rfl) (fun _ _ _ h => h) (Or.inl ⟨by rfl, fun w' hS => ?_⟩) HS ?_
      · obtain ⟨e0, e2⟩ := hS
        go_simp
      try simp only [List.getElem_toArray, List.getElem_cons_zero, List.getElem_cons_succ, Act.put, List.setIfInBounds_toArray, List.set_cons_zero, List.set_cons_succ]
      refine wpAnyH_take (i := 4) (v := .pointer (some ⟨cb, 0, none⟩)) rfl (by kernel_rfl) (by kernel_rfl) (by kernel_rfl) (fun _ _ _ h => h) (Or.inl ⟨by rfl, fun w' hS => ?_⟩) HS ?_
      · obtain ⟨e0, e2⟩ := hS
        go_simp
      try simp only [List.getElem_toArray, List.getElem_cons_zero, List.getElem_cons_succ, Act.put, List.setIfInBounds_toArray, List.set_cons_zero, List.set_cons_succ]
      refine wpAnyH_take (i := 5) (v := .pointer (some ⟨cb, 0, none⟩)) rfl (by kernel_rfl) (by kernel_rfl) (by kernel_rfl) (fun _ _ _ h => h) (Or.inl ⟨by rfl, fun w' hS => ?_⟩) HS ?_
      · obtain ⟨e0, e2⟩ := hS
        go_simp
      try simp only [List.getElem_toArray, List.getElem_cons_zero, List.getElem_cons_succ, Act.put, List.setIfInBounds_toArray, List.set_cons_zero, List.set_cons_succ]
      refine wpAnyH_take (i := 6) (v := .pointer (some ⟨cb, 2, none⟩)) rfl (by kernel_rfl) (by kernel_rfl) (by kernel_rfl) (fun _ _ _ h => h) (Or.inl ⟨by rfl, fun w' hS => ?_⟩) HS ?_
      · obtain ⟨e0, e2⟩ := hS
        go_simp
      try simp only [List.getElem_toArray, List.getElem_cons_zero, List.getElem_cons_succ, Act.put, List.setIfInBounds_toArray, List.set_cons_zero, List.set_cons_succ]
      refine wpAnyH_take (i := 7) (v := .slice (some ⟨g, 0, none⟩) L.length c) rfl (by kernel_rfl) (by kernel_rfl) (by kernel_rfl) (fun _ _ _ h => h) (Or.inl ⟨by rfl, fun w' hS => ?_⟩) HS ?_
      · obtain ⟨e0, e2⟩ := hS
        go_simp
      try simp only [List.getElem_toArray, List.getElem_cons_zero, List.getElem_cons_succ, Act.put, List.setIfInBounds_toArray, List.set_cons_zero, List.set_cons_succ]
      refine wpAnyH_take (i := 8) (v := .int .i64 L.length) rfl (by kernel_rfl) (by kernel_rfl) (by kernel_rfl) (fun _ _ _ h => h) (Or.inl ⟨by rfl, fun w' hS => ?_⟩) HS ?_
      · obtain ⟨e0, e2⟩ := hS
        go_simp
      try simp only [List.getElem_toArray, List.getElem_cons_zero, List.getElem_cons_succ, Act.put, List.setIfInBounds_toArray, List.set_cons_zero, List.set_cons_succ]
      refine wpAnyH_take (i := 9) (v := .bool false) rfl (by kernel_rfl) (by kernel_rfl) (by kernel_rfl) (fun _ _ _ h => h) (Or.inl ⟨by rfl, fun w' hS => ?_⟩) HS ?_
      · obtain ⟨e0, e2⟩ := hS
        go_simp
      try simp only [List.getElem_toArray, List.getElem_cons_zero, List.getElem_cons_succ, Act.put, List.setIfInBounds_toArray, List.set_cons_zero, List.set_cons_succ]
      refine wpAnyH_take (i := 10) (v := .bool false) rfl (by kernel_rfl) (by kernel_rfl) (by kernel_rfl) (fun _ _ _ h => h) (Or.inl ⟨by rfl, fun w' hS => ?_⟩) HS ?_
      · obtain ⟨e0, e2⟩ := hS
        go_simp
      try simp only [List.getElem_toArray, List.getElem_cons_zero, List.getElem_cons_succ, Act.put, List.setIfInBounds_toArray, List.set_cons_zero, List.set_cons_succ]
      refine wpAnyH_take (i := 11) (v := .bool false) rfl (by kernel_rfl) (by kernel_rfl) (by kernel_rfl) (fun _ _ _ h => h) (Or.inl ⟨by rfl, fun w' hS => ?_⟩) HS ?_
      · obtain ⟨e0, e2⟩ := hS
        go_simp
      try simp only [List.getElem_toArray, List.getElem_cons_zero, List.getElem_cons_succ, Act.put, List.setIfInBounds_toArray, List.set_cons_zero, List.set_cons_succ]
      refine wpAnyH_take (i := 13) (v := .pointer (some ⟨cb, 0, none⟩)) rfl (by kernel_rfl) (by kernel_rfl) (by kernel_rfl) (fun _ _ _ h => h) (Or.inl ⟨by rfl, fun w' hS => ?_⟩) HS ?_
      · obtain ⟨e0, e2⟩ := hS
        go_simp
      try simp only [List.getElem_toArray, List.getElem_cons_zero, List.getElem_cons_succ, Act.put, List.setIfInBounds_toArray, List.set_cons_zero, List.set_cons_succ]
      refine wpAnyH_take (i := 14) (v := .pointer (some ⟨cb, 0, none⟩)) rfl (by kernel_rfl) (by kernel_rfl) (by kernel_rfl) (fun _ _ _ h => h) (Or.inl ⟨by rfl, fun w' hS => ?_⟩) HS ?_
      · obtain ⟨e0, e2⟩ := hS
        go_simp
      try simp only [List.getElem_toArray, List.getElem_cons_zero, List.getElem_cons_succ, Act.put, List.setIfInBounds_toArray, List.set_cons_zero, List.set_cons_succ]
      refine wpAnyH_take (i := 15) (v := .pointer (some ⟨cb, 0, none⟩)) rfl (by kernel_rfl) (by kernel_rfl) (by kernel_rfl) (fun _ _ _ h => h) (Or.inl ⟨by rfl, fun w' hS => ?_⟩) HS ?_
      · obtain ⟨e0, e2⟩ := hS
        go_simp
      try simp only [List.getElem_toArray, List.getElem_cons_zero, List.getElem_cons_succ, Act.put, List.setIfInBounds_toArray, List.set_cons_zero, List.set_cons_succ]
      refine wpAnyH_take (i := 16) (v := .int .i64 1) rfl (by kernel_rfl) (by kernel_rfl) (by kernel_rfl) (fun _ _ _ h => h) (Or.inl ⟨by rfl, fun w' hS => ?_⟩) HS ?_
      · obtain ⟨e0, e2⟩ := hS
        go_simp
      try simp only [List.getElem_toArray, List.getElem_cons_zero, List.getElem_cons_succ, Act.put, List.setIfInBounds_toArray, List.set_cons_zero, List.set_cons_succ]
      refine wpAnyH_take (i := 19) (v := .pointer (some ⟨cb, 0, none⟩)) rfl (by kernel_rfl) (by kernel_rfl) (by kernel_rfl) (fun _ _ _ h => h) (Or.inl ⟨by rfl, fun w' hS => ?_⟩) HS ?_
      · obtain ⟨e0, e2⟩ := hS
        go_simp
      try simp only [List.getElem_toArray, List.getElem_cons_zero, List.getElem_cons_succ, Act.put, List.setIfInBounds_toArray, List.set_cons_zero, List.set_cons_succ]
      refine wpAnyH_take (i := 20) (v := .pointer (some ⟨cb, 0, none⟩)) rfl (by kernel_rfl) (by kernel_rfl) (by kernel_rfl) (fun _ _ _ h => h) (Or.inl ⟨by rfl, fun w' hS => ?_⟩) HS ?_
      · obtain ⟨e0, e2⟩ := hS
        go_simp
      try simp only [List.getElem_toArray, List.getElem_cons_zero, List.getElem_cons_succ, Act.put, List.setIfInBounds_toArray, List.set_cons_zero, List.set_cons_succ]
      refine wpAnyH_take (i := 21) (v := .pointer (some ⟨cb, 2, none⟩)) rfl (by kernel_rfl) (by kernel_rfl) (by kernel_rfl) (fun _ _ _ h => h) (Or.inl ⟨by rfl, fun w' hS => ?_⟩) HS ?_
      · obtain ⟨e0, e2⟩ := hS
        go_simp
      try simp only [List.getElem_toArray, List.getElem_cons_zero, List.getElem_cons_succ, Act.put, List.setIfInBounds_toArray, List.set_cons_zero, List.set_cons_succ]
      refine wpAnyH_take (i := 22) (v := .slice (some ⟨g, 0, none⟩) L.length c) rfl (by kernel_rfl) (by kernel_rfl) (by kernel_rfl) (fun _ _ _ h => h) (Or.inl ⟨by rfl, fun w' hS => ?_⟩) HS ?_
      · obtain ⟨e0, e2⟩ := hS
        go_simp
      try simp only [List.getElem_toArray, List.getElem_cons_zero, List.getElem_cons_succ, Act.put, List.setIfInBounds_toArray, List.set_cons_zero, List.set_cons_succ]
      refine wpAnyH_take (i := 23) (v := .int .i64 p) rfl (by kernel_rfl) (by kernel_rfl) (by kernel_rfl) (fun _ _ _ h => h) (Or.inl ⟨by rfl, fun w' hS => ?_⟩) HS ?_
      · obtain ⟨e0, e2⟩ := hS
        go_simp
      try simp only [List.getElem_toArray, List.getElem_cons_zero, List.getElem_cons_succ, Act.put, List.setIfInBounds_toArray, List.set_cons_zero, List.set_cons_succ]
      refine wpAnyH_ready (rs := [12]) (by kernel_rfl) (by simp) (AllReadyH.cons rfl (fun K hK => ?_) AllReadyH.nil)
      rw [if_pos (by rfl)]
      go_simp
      refine (choices_any w.drew).mono ?_
      rintro e w1 ⟨rfl, rfl⟩
      have HS : (fun w' : World => w'.cell? ⟨cb, 0, none⟩ = some (.int .i64 1) ∧ w'.cell? ⟨cb, 2, none⟩ = some (.slice (some ⟨g, 0, none⟩) L.length c)) (w.drew.alloc tabO) := ⟨((Frm.refl [] w).drew.alloc _).keep c0', ((Frm.refl [] w).drew.alloc _).keep c2'⟩
      refine hK.out _ _ HS (fun _ => ?_)
      clear hK K
      try simp only [List.getElem_toArray, List.getElem_cons_zero, List.getElem_cons_succ, Act.put, List.setIfInBounds_toArray, List.set_cons_zero, List.set_cons_succ]
      have ct : (w.drew.alloc tabO).cell? ⟨w.heap.size, 1, none⟩ = some (.func (.func 164) #[] #[]) := cell_of (heap_alloc_new w.drew _) 1
      have HCT := HCH.out _ ((Frm.refl [] w).drew.alloc tabO)
      have HWT : Frm [] w (w.drew.alloc tabO) := (Frm.refl [] w).drew.alloc _
      generalize w.drew.alloc tabO = wz at HS ct HCT HWT ⊢
      refine wpAnyH_take (i := 17) (v := .pointer (some ⟨w.heap.size, 1, none⟩)) rfl (by kernel_rfl) (by kernel_rfl) (by kernel_rfl) (fun _ _ _ h => h) (Or.inl ⟨by rfl, fun w' hS => ?_⟩) HS ?_
      · obtain ⟨e0, e2⟩ := hS
        go_simp
      try simp only [List.getElem_toArray, List.getElem_cons_zero, List.getElem_cons_succ, Act.put, List.setIfInBounds_toArray, List.set_cons_zero, List.set_cons_succ]
      refine wpAnyH_ready (rs := [18]) (by kernel_rfl) (by simp) (AllReadyH.cons rfl (fun K hK => ?_) AllReadyH.nil)
      rw [if_pos (by rfl)]
      go_simp
      have HS := HS
      refine hK.out _ _ HS (fun _ => ?_)
      clear hK K
      try simp only [List.getElem_toArray, List.getElem_cons_zero, List.getElem_cons_succ, Act.put, List.setIfInBounds_toArray, List.set_cons_zero, List.set_cons_succ]
      refine wpAnyH_ready (rs := [24]) (by kernel_rfl) (by simp) (AllReadyH.cons rfl (fun K hK => ?_) AllReadyH.nil)
      rw [if_pos (by rfl)]
      go_simp
      refine (show Calls Tryz.prog 164 _ _ _ from HCT).mono ?_
      rintro e w2 ⟨rfl, rfl⟩
      have HS := HS
      refine hK.out _ _ HS (fun _ => ?_)
      clear hK K
      try simp only [List.getElem_toArray, List.getElem_cons_zero, List.getElem_cons_succ, Act.put, List.setIfInBounds_toArray, List.set_cons_zero, List.set_cons_succ]
      refine wpAnyH_take (i := 25) (v := .bool true) rfl (by kernel_rfl) (by kernel_rfl) (by kernel_rfl) (fun _ _ _ h => h) (Or.inl ⟨by rfl, fun w' hS => ?_⟩) HS ?_
      · obtain ⟨e0, e2⟩ := hS
        go_simp
      try simp only [List.getElem_toArray, List.getElem_cons_zero, List.getElem_cons_succ, Act.put, List.setIfInBounds_toArray, List.set_cons_zero, List.set_cons_succ]
      refine wpAnyH_take (i := 26) (v := .bool true) rfl (by kernel_rfl) (by kernel_rfl) (by kernel_rfl) (fun _ _ _ h => h) (Or.inl ⟨by rfl, fun w' hS => ?_⟩) HS ?_
      · obtain ⟨e0, e2⟩ := hS
        go_simp
      try simp only [List.getElem_toArray, List.getElem_cons_zero, List.getElem_cons_succ, Act.put, List.setIfInBounds_toArray, List.set_cons_zero, List.set_cons_succ]
      refine wpAnyH_done (by kernel_rfl) ?_ _
      go_wp2
      go_meet
      exact ⟨rfl, HWT⟩
    · have HS : (fun w' : World => w'.cell? ⟨cb, 0, none⟩ = some (.int .i64 2) ∧ w'.cell? ⟨cb, 2, none⟩ = some (.slice (some ⟨g, 0, none⟩) L.length c)) w.drew := ⟨(Frm.refl [] w).drew.keep c0', (Frm.refl [] w).drew.keep c2'⟩
      refine wp_region_held_drew (S := (fun w' : World => w'.cell? ⟨cb, 0, none⟩ = some (.int .i64 2) ∧ w'.cell? ⟨cb, 2, none⟩ = some (.slice (some ⟨g, 0, none⟩) L.length c))) (by kernel_rfl) HS (fun _ => ?_)
      refine wpAnyH_take (i := 0) (v := .int .i64 p) rfl (by kernel_rfl) (by kernel_rfl) (by kernel_rfl) (fun _ _ _ h => h) (Or.inl ⟨by rfl, fun w' hS => ?_⟩) HS ?_
      · obtain ⟨e0, e2⟩ := hS
        go_simp
      try simp only [List.getElem_toArray, List.getElem_cons_zero, Act.put, List.setIfInBounds_toArray, List.set_cons_zero, List.set_cons_succ]
      refine wpAnyH_take (i := 1) (v := .bool false) rfl (by kernel_rfl) (by kernel_rfl) (by kernel_rfl) (fun _ _ _ h => h) (Or.inl ⟨by rfl, fun w' hS => ?_⟩) HS ?_
      · obtain ⟨e0, e2⟩ := hS
        go_simp
      try simp only [List.getElem_toArray, List.getElem_cons_zero, List.getElem_cons_succ, Act.put, List.setIfInBounds_toArray, List.set_cons_zero, List.set_cons_succ]
      refine wpAnyH_take (i := 2) (v := .bool false) rfl (by kernel_rfl) (by kernel_rfl) (by kernel_rfl) (fun _ _ _ h => h) (Or.inl ⟨by rfl, fun w' hS => ?_⟩) HS ?_
      · obtain ⟨e0, e2⟩ := hS
        go_simp
      try simp only [List.getElem_toArray, List.getElem_cons_zero, List.getElem_cons_succ, Act.put, List.setIfInBounds_toArray, List.set_cons_zero, List.set_cons_succ]
      refine wpAnyH_take (i := 3) (v := .int .i64 p) rfl (by kernel_rfl) (by kernel_rfl) (by kernel_rfl) (fun _ _ _ h => h) (Or.inl ⟨by rfl, fun w' hS => ?_⟩) HS ?_
      · obtain ⟨e0, e2⟩ := hS
        go_simp
      try simp only [List.getElem_toArray, List.getElem_cons_zero, List.getElem_cons_succ, Act.put, List.setIfInBounds_toArray, List.set_cons_zero, List.set_cons_succ]
      refine wpAnyH_take (i := 4) (v := .pointer (some ⟨cb, 0, none⟩)) rfl (by kernel_rfl) (by kernel_rfl) (by kernel_rfl) (fun _ _ _ h => h) (Or.inl ⟨by rfl, fun w' hS => ?_⟩) HS ?_
      · obtain ⟨e0, e2⟩ := hS
        go_simp
      try simp only [List.getElem_toArray, List.getElem_cons_zero, List.getElem_cons_succ, Act.put, List.setIfInBounds_toArray, List.set_cons_zero, List.set_cons_succ]
      refine wpAnyH_take (i := 5) (v := .pointer (some ⟨cb, 0, none⟩)) rfl (by kernel_rfl) (by kernel_rfl) (by kernel_rfl) (fun _ _ _ h => h) (Or.inl ⟨by rfl, fun w' hS => ?_⟩) HS ?_
      · obtain ⟨e0, e2⟩ := hS
        go_simp
      try simp only [List.getElem_toArray, List.getElem_cons_zero, List.getElem_cons_succ, Act.put, List.setIfInBounds_toArray, List.set_cons_zero, List.set_cons_succ]
      refine wpAnyH_take (i := 6) (v := .pointer (some ⟨cb, 2, none⟩)) rfl (by kernel_rfl) (by kernel_rfl) (by kernel_rfl) (fun _ _ _ h => h) (Or.inl ⟨by rfl, fun w' hS => ?_⟩) HS ?_
      · obtain ⟨e0, e2⟩ := hS
        go_simp
      try simp only [List.getElem_toArray, List.getElem_cons_zero, List.getElem_cons_succ, Act.put, List.setIfInBounds_toArray, List.set_cons_zero, List.set_cons_succ]
      refine wpAnyH_take (i := 7) (v := .slice (some ⟨g, 0, none⟩) L.length c) rfl (by kernel_rfl) (by kernel_rfl) (by kernel_rfl) (fun _ _ _ h => h) (Or.inl ⟨by rfl, fun w' hS => ?_⟩) HS ?_
      · obtain ⟨e0, e2⟩ := hS
        go_simp
      try simp only [List.getElem_toArray, List.getElem_cons_zero, List.getElem_cons_succ, Act.put, List.setIfInBounds_toArray, List.set_cons_zero, List.set_cons_succ]
      refine wpAnyH_take (i := 8) (v := .int .i64 L.length) rfl (by kernel_rfl) (by kernel_rfl) (by kernel_rfl) (fun _ _ _ h => h) (Or.inl ⟨by rfl, fun w' hS => ?_⟩) HS ?_
      · obtain ⟨e0, e2⟩ := hS
        go_simp
      try simp only [List.getElem_toArray, List.getElem_cons_zero, List.getElem_cons_succ, Act.put, List.setIfInBounds_toArray, List.set_cons_zero, List.set_cons_succ]
      refine wpAnyH_take (i := 9) (v := .bool false) rfl (by kernel_rfl) (by kernel_rfl) (by kernel_rfl) (fun _ _ _ h => h) (Or.inl ⟨by rfl, fun w' hS => ?_⟩) HS ?_
      · obtain ⟨e0, e2⟩ := hS
        go_simp
      try simp only [List.getElem_toArray, List.getElem_cons_zero, List.getElem_cons_succ, Act.put, List.setIfInBounds_toArray, List.set_cons_zero, List.set_cons_succ]
      refine wpAnyH_take (i := 10) (v := .bool false) rfl (by kernel_rfl) (by kernel_rfl) (by kernel_rfl) (fun _ _ _ h => h) (Or.inl ⟨by rfl, fun w' hS => ?_⟩) HS ?_
      · obtain ⟨e0, e2⟩ := hS
        go_simp
      try simp only [List.getElem_toArray, List.getElem_cons_zero, List.getElem_cons_succ, Act.put, List.setIfInBounds_toArray, List.set_cons_zero, List.set_cons_succ]
      refine wpAnyH_take (i := 11) (v := .bool false) rfl (by kernel_rfl) (by kernel_rfl) (by kernel_rfl) (fun _ _ _ h => h) (Or.inl ⟨by rfl, fun w' hS => ?_⟩) HS ?_
      · obtain ⟨e0, e2⟩ := hS
        go_simp
      try simp only [List.getElem_toArray, List.getElem_cons_zero, List.getElem_cons_succ, Act.put, List.setIfInBounds_toArray, List.set_cons_zero, List.set_cons_succ]
      refine wpAnyH_take (i := 13) (v := .pointer (some ⟨cb, 0, none⟩)) rfl (by kernel_rfl) (by kernel_rfl) (by kernel_rfl) (fun _ _ _ h => h) (Or.inl ⟨by rfl, fun w' hS => ?_⟩) HS ?_
      · obtain ⟨e0, e2⟩ := hS
        go_simp
      try simp only [List.getElem_toArray, List.getElem_cons_zero, List.getElem_cons_succ, Act.put, List.setIfInBounds_toArray, List.set_cons_zero, List.set_cons_succ]
      refine wpAnyH_take (i := 14) (v := .pointer (some ⟨cb, 0, none⟩)) rfl (by kernel_rfl) (by kernel_rfl) (by kernel_rfl) (fun _ _ _ h => h) (Or.inl ⟨by rfl, fun w' hS => ?_⟩) HS ?_
      · obtain ⟨e0, e2⟩ := hS
        go_simp
      try simp only [List.getElem_toArray, List.getElem_cons_zero, List.getElem_cons_succ, Act.put, List.setIfInBounds_toArray, List.set_cons_zero, List.set_cons_succ]
      refine wpAnyH_take (i := 15) (v := .pointer (some ⟨cb, 0, none⟩)) rfl (by kernel_rfl) (by kernel_rfl) (by kernel_rfl) (fun _ _ _ h => h) (Or.inl ⟨by rfl, fun w' hS => ?_⟩) HS ?_
      · obtain ⟨e0, e2⟩ := hS
        go_simp
      try simp only [List.getElem_toArray, List.getElem_cons_zero, List.getElem_cons_succ, Act.put, List.setIfInBounds_toArray, List.set_cons_zero, List.set_cons_succ]
      refine wpAnyH_take (i := 16) (v := .int .i64 2) rfl (by kernel_rfl) (by kernel_rfl) (by kernel_rfl) (fun _ _ _ h => h) (Or.inl ⟨by rfl, fun w' hS => ?_⟩) HS ?_
      · obtain ⟨e0, e2⟩ := hS
        go_simp
      try simp only [List.getElem_toArray, List.getElem_cons_zero, List.getElem_cons_succ, Act.put, List.setIfInBounds_toArray, List.set_cons_zero, List.set_cons_succ]
      refine wpAnyH_take (i := 19) (v := .pointer (some ⟨cb, 0, none⟩)) rfl (by kernel_rfl) (by kernel_rfl) (by kernel_rfl) (fun _ _ _ h => h) (Or.inl ⟨by rfl, fun w' hS => ?_⟩) HS ?_
      · obtain ⟨e0, e2⟩ := hS
        go_simp
      try simp only [List.getElem_toArray, List.getElem_cons_zero, List.getElem_cons_succ, Act.put, List.setIfInBounds_toArray, List.set_cons_zero, List.set_cons_succ]
      refine wpAnyH_take (i := 20) (v := .pointer (some ⟨cb, 0, none⟩)) rfl (by kernel_rfl) (by kernel_rfl) (by kernel_rfl) (fun _ _ _ h => h) (Or.inl ⟨by rfl, fun w' hS => ?_⟩) HS ?_
      · obtain ⟨e0, e2⟩ := hS
        go_simp
      try simp only [List.getElem_toArray, List.getElem_cons_zero, List.getElem_cons_succ, Act.put, List.setIfInBounds_toArray, List.set_cons_zero, List.set_cons_succ]
      refine wpAnyH_take (i := 21) (v := .pointer (some ⟨cb, 2, none⟩)) rfl (by kernel_rfl) (by kernel_rfl) (by kernel_rfl) (fun _ _ _ h => h) (Or.inl ⟨by rfl, fun w' hS => ?_⟩) HS ?_
      · obtain ⟨e0, e2⟩ := hS
        go_simp
      try simp only [List.getElem_toArray, List.getElem_cons_zero, List.getElem_cons_succ, Act.put, List.setIfInBounds_toArray, List.set_cons_zero, List.set_cons_succ]
      refine wpAnyH_take (i := 22) (v := .slice (some ⟨g, 0, none⟩) L.length c) rfl (by kernel_rfl) (by kernel_rfl) (by kernel_rfl) (fun _ _ _ h => h) (Or.inl ⟨by rfl, fun w' hS => ?_⟩) HS ?_
      · obtain ⟨e0, e2⟩ := hS
        go_simp
      try simp only [List.getElem_toArray, List.getElem_cons_zero, List.getElem_cons_succ, Act.put, List.setIfInBounds_toArray, List.set_cons_zero, List.set_cons_succ]
      refine wpAnyH_take (i := 23) (v := .int .i64 p) rfl (by kernel_rfl) (by kernel_rfl) (by kernel_rfl) (fun _ _ _ h => h) (Or.inl ⟨by rfl, fun w' hS => ?_⟩) HS ?_
      · obtain ⟨e0, e2⟩ := hS
        go_simp
      try simp only [List.getElem_toArray, List.getElem_cons_zero, List.getElem_cons_succ, Act.put, List.setIfInBounds_toArray, List.set_cons_zero, List.set_cons_succ]
      refine wpAnyH_ready (rs := [12]) (by kernel_rfl) (by simp) (AllReadyH.cons rfl (fun K hK => ?_) AllReadyH.nil)
      rw [if_pos (by rfl)]
      go_simp
      refine (choices_any w.drew).mono ?_
      rintro e w1 ⟨rfl, rfl⟩
      have HS : (fun w' : World => w'.cell? ⟨cb, 0, none⟩ = some (.int .i64 2) ∧ w'.cell? ⟨cb, 2, none⟩ = some (.slice (some ⟨g, 0, none⟩) L.length c)) (w.drew.alloc tabO) := ⟨((Frm.refl [] w).drew.alloc _).keep c0', ((Frm.refl [] w).drew.alloc _).keep c2'⟩
      refine hK.out _ _ HS (fun _ => ?_)
      clear hK K
      try simp only [List.getElem_toArray, List.getElem_cons_zero, List.getElem_cons_succ, Act.put, List.setIfInBounds_toArray, List.set_cons_zero, List.set_cons_succ]
      have ct : (w.drew.alloc tabO).cell? ⟨w.heap.size, 2, none⟩ = some (.func (.func 165) #[] #[]) := cell_of (heap_alloc_new w.drew _) 2
      have HCT := HCH.out _ ((Frm.refl [] w).drew.alloc tabO)
      have HWT : Frm [] w (w.drew.alloc tabO) := (Frm.refl [] w).drew.alloc _
      generalize w.drew.alloc tabO = wz at HS ct HCT HWT ⊢
      refine wpAnyH_take (i := 17) (v := .pointer (some ⟨w.heap.size, 2, none⟩)) rfl (by kernel_rfl) (by kernel_rfl) (by kernel_rfl) (fun _ _ _ h => h) (Or.inl ⟨by rfl, fun w' hS => ?_⟩) HS ?_
      · obtain ⟨e0, e2⟩ := hS
        go_simp
      try simp only [List.getElem_toArray, List.getElem_cons_zero, List.getElem_cons_succ, Act.put, List.setIfInBounds_toArray, List.set_cons_zero, List.set_cons_succ]
      refine wpAnyH_ready (rs := [18]) (by kernel_rfl) (by simp) (AllReadyH.cons rfl (fun K hK => ?_) AllReadyH.nil)
      rw [if_pos (by rfl)]
      go_simp
      have HS := HS
      refine hK.out _ _ HS (fun _ => ?_)
      clear hK K
      try simp only [List.getElem_toArray, List.getElem_cons_zero, List.getElem_cons_succ, Act.put, List.setIfInBounds_toArray, List.set_cons_zero, List.set_cons_succ]
      refine wpAnyH_ready (rs := [24]) (by kernel_rfl) (by simp) (AllReadyH.cons rfl (fun K hK => ?_) AllReadyH.nil)
      rw [if_pos (by rfl)]
      go_simp
      refine (show Calls Tryz.prog 165 _ _ _ from HCT).mono ?_
      rintro e w2 ⟨rfl, rfl⟩
      have HS := HS
      refine hK.out _ _ HS (fun _ => ?_)
      clear hK K
      try simp only [List.getElem_toArray, List.getElem_cons_zero, List.getElem_cons_succ, Act.put, List.setIfInBounds_toArray, List.set_cons_zero, List.set_cons_succ]
      refine wpAnyH_take (i := 25) (v := .bool true) rfl (by kernel_rfl) (by kernel_rfl) (by kernel_rfl) (fun _ _ _ h => h) (Or.inl ⟨by rfl, fun w' hS => ?_⟩) HS ?_
      · obtain ⟨e0, e2⟩ := hS
        go_simp
      try simp only [List.getElem_toArray, List.getElem_cons_zero, List.getElem_cons_succ, Act.put, List.setIfInBounds_toArray, List.set_cons_zero, List.set_cons_succ]
      refine wpAnyH_take (i := 26) (v := .bool true) rfl (by kernel_rfl) (by kernel_rfl) (by kernel_rfl) (fun _ _ _ h => h) (Or.inl ⟨by rfl, fun w' hS => ?_⟩) HS ?_
      · obtain ⟨e0, e2⟩ := hS
        go_simp
      try simp only [List.getElem_toArray, List.getElem_cons_zero, List.getElem_cons_succ, Act.put, List.setIfInBounds_toArray, List.set_cons_zero, List.set_cons_succ]
      refine wpAnyH_done (by kernel_rfl) ?_ _
      go_wp2
      go_meet
      exact ⟨rfl, HWT⟩
    · have HS : (fun w' : World => w'.cell? ⟨cb, 0, none⟩ = some (.int .i64 3) ∧ w'.cell? ⟨cb, 2, none⟩ = some (.slice (some ⟨g, 0, none⟩) L.length c)) w.drew := ⟨(Frm.refl [] w).drew.keep c0', (Frm.refl [] w).drew.keep c2'⟩
      refine wp_region_held_drew (S := (fun w' : World => w'.cell? ⟨cb, 0, none⟩ = some (.int .i64 3) ∧ w'.cell? ⟨cb, 2, none⟩ = some (.slice (some ⟨g, 0, none⟩) L.length c))) (by kernel_rfl) HS (fun _ => ?_)
      refine wpAnyH_take (i := 0) (v := .int .i64 p) rfl (by kernel_rfl) (by kernel_rfl) (by kernel_rfl) (fun _ _ _ h => h) (Or.inl ⟨by rfl, fun w' hS => ?_⟩) HS ?_
      · obtain ⟨e0, e2⟩ := hS
        go_simp
      try simp only [List.getElem_toArray, List.getElem_cons_zero, Act.put, List.setIfInBounds_toArray, List.set_cons_zero, List.set_cons_succ]
      refine wpAnyH_take (i := 1) (v := .bool false) rfl (by kernel_rfl) (by kernel_rfl) (by kernel_rfl) (fun _ _ _ h => h) (Or.inl ⟨by rfl, fun w' hS => ?_⟩) HS ?_
      · obtain ⟨e0, e2⟩ := hS
        go_simp
      try simp only [List.getElem_toArray, List.getElem_cons_zero, List.getElem_cons_succ, Act.put, List.setIfInBounds_toArray, List.set_cons_zero, List.set_cons_succ]
      refine wpAnyH_take (i := 2) (v := .bool false) rfl (by kernel_rfl) (by kernel_rfl) (by kernel_rfl) (fun _ _ _ h => h) (Or.inl ⟨by rfl, fun w' hS => ?_⟩) HS ?_
      · obtain ⟨e0, e2⟩ := hS
        go_simp
      try simp only [List.getElem_toArray, List.getElem_cons_zero, List.getElem_cons_succ, Act.put, List.setIfInBounds_toArray, List.set_cons_zero, List.set_cons_succ]
      refine wpAnyH_take (i := 3) (v := .int .i64 p) rfl (by kernel_rfl) (by kernel_rfl) (by kernel_rfl) (fun _ _ _ h => h) (Or.inl ⟨by rfl, fun w' hS => ?_⟩) HS ?_
      · obtain ⟨e0, e2⟩ := hS
        go_simp
      try simp only [List.getElem_toArray, List.getElem_cons_zero, List.getElem_cons_succ, Act.put, List.setIfInBounds_toArray, List.set_cons_zero, List.set_cons_succ]
      refine wpAnyH_take (i := 4) (v := .pointer (some ⟨cb, 0, none⟩)) rfl (by kernel_rfl) (by kernel_rfl) (by kernel_rfl) (fun _ _ _ h => h) (Or.inl ⟨by rfl, fun w' hS => ?_⟩) HS ?_
      · obtain ⟨e0, e2⟩ := hS
        go_simp
      try simp only [List.getElem_toArray, List.getElem_cons_zero, List.getElem_cons_succ, Act.put, List.setIfInBounds_toArray, List.set_cons_zero, List.set_cons_succ]
      refine wpAnyH_take (i := 5) (v := .pointer (some ⟨cb, 0, none⟩)) rfl (by kernel_rfl) (by kernel_rfl) (by kernel_rfl) (fun _ _ _ h => h) (Or.inl ⟨by rfl, fun w' hS => ?_⟩) HS ?_
      · obtain ⟨e0, e2⟩ := hS
        go_simp
      try simp only [List.getElem_toArray, List.getElem_cons_zero, List.getElem_cons_succ, Act.put, List.setIfInBounds_toArray, List.set_cons_zero, List.set_cons_succ]
      refine wpAnyH_take (i := 6) (v := .pointer (some ⟨cb, 2, none⟩)) rfl (by kernel_rfl) (by kernel_rfl) (by kernel_rfl) (fun _ _ _ h => h) (Or.inl ⟨by rfl, fun w' hS => ?_⟩) HS ?_
      · obtain ⟨e0, e2⟩ := hS
        go_simp
      try simp only [List.getElem_toArray, List.getElem_cons_zero, List.getElem_cons_succ, Act.put, List.setIfInBounds_toArray, List.set_cons_zero, List.set_cons_succ]
      refine wpAnyH_take (i := 7) (v := .slice (some ⟨g, 0, none⟩) L.length c) rfl (by kernel_rfl) (by kernel_rfl) (by kernel_rfl) (fun _ _ _ h => h) (Or.inl ⟨by rfl, fun w' hS => ?_⟩) HS ?_
      · obtain ⟨e0, e2⟩ := hS
        go_simp
      try simp only [List.getElem_toArray, List.getElem_cons_zero, List.getElem_cons_succ, Act.put, List.setIfInBounds_toArray, List.set_cons_zero, List.set_cons_succ]
      refine wpAnyH_take (i := 8) (v := .int .i64 L.length) rfl (by kernel_rfl) (by kernel_rfl) (by kernel_rfl) (fun _ _ _ h => h) (Or.inl ⟨by rfl, fun w' hS => ?_⟩) HS ?_
      · obtain ⟨e0, e2⟩ := hS
        go_simp
      try simp only [List.getElem_toArray, List.getElem_cons_zero, List.getElem_cons_succ, Act.put, List.setIfInBounds_toArray, List.set_cons_zero, List.set_cons_succ]
      refine wpAnyH_take (i := 9) (v := .bool false) rfl (by kernel_rfl) (by kernel_rfl) (by kernel_rfl) (fun _ _ _ h => h) (Or.inl ⟨by rfl, fun w' hS => ?_⟩) HS ?_
      · obtain ⟨e0, e2⟩ := hS
        go_simp
      try simp only [List.getElem_toArray, List.getElem_cons_zero, List.getElem_cons_succ, Act.put, List.setIfInBounds_toArray, List.set_cons_zero, List.set_cons_succ]
      refine wpAnyH_take (i := 10) (v := .bool false) rfl (by kernel_rfl) (by kernel_rfl) (by kernel_rfl) (fun _ _ _ h => h) (Or.inl ⟨by rfl, fun w' hS => ?_⟩) HS ?_
      · obtain ⟨e0, e2⟩ := hS
        go_simp
      try simp only [List.getElem_toArray, List.getElem_cons_zero, List.getElem_cons_succ, Act.put, List.setIfInBounds_toArray, List.set_cons_zero, List.set_cons_succ]
      refine wpAnyH_take (i := 11) (v := .bool false) rfl (by kernel_rfl) (by kernel_rfl) (by kernel_rfl) (fun _ _ _ h => h) (Or.inl ⟨by rfl, fun w' hS => ?_⟩) HS ?_
      · obtain ⟨e0, e2⟩ := hS
        go_simp
      try simp only [List.getElem_toArray, List.getElem_cons_zero, List.getElem_cons_succ, Act.put, List.setIfInBounds_toArray, List.set_cons_zero, List.set_cons_succ]
      refine wpAnyH_take (i := 13) (v := .pointer (some ⟨cb, 0, none⟩)) rfl (by kernel_rfl) (by kernel_rfl) (by kernel_rfl) (fun _ _ _ h => h) (Or.inl ⟨by rfl, fun w' hS => ?_⟩) HS ?_
      · obtain ⟨e0, e2⟩ := hS
        go_simp
      try simp only [List.getElem_toArray, List.getElem_cons_zero, List.getElem_cons_succ, Act.put, List.setIfInBounds_toArray, List.set_cons_zero, List.set_cons_succ]
      refine wpAnyH_take (i := 14) (v := .pointer (some ⟨cb, 0, none⟩)) rfl (by kernel_rfl) (by kernel_rfl) (by kernel_rfl) (fun _ _ _ h => h) (Or.inl ⟨by rfl, fun w' hS => ?_⟩) HS ?_
      · obtain ⟨e0, e2⟩ := hS
        go_simp
      try simp only [List.getElem_toArray, List.getElem_cons_zero, List.getElem_cons_succ, Act.put, List.setIfInBounds_toArray, List.set_cons_zero, List.set_cons_succ]
      refine wpAnyH_take (i := 15) (v := .pointer (some ⟨cb, 0, none⟩)) rfl (by kernel_rfl) (by kernel_rfl) (by kernel_rfl) (fun _ _ _ h => h) (Or.inl ⟨by rfl, fun w' hS => ?_⟩) HS ?_
      · obtain ⟨e0, e2⟩ := hS
        go_simp
      try simp only [List.getElem_toArray, List.getElem_cons_zero, List.getElem_cons_succ, Act.put, List.setIfInBounds_toArray, List.set_cons_zero, List.set_cons_succ]
      refine wpAnyH_take (i := 16) (v := .int .i64 3) rfl (by kernel_rfl) (by kernel_rfl) (by kernel_rfl) (fun _ _ _ h => h) (Or.inl ⟨by rfl, fun w' hS => ?_⟩) HS ?_
      · obtain ⟨e0, e2⟩ := hS
        go_simp
      try simp only [List.getElem_toArray, List.getElem_cons_zero, List.getElem_cons_succ, Act.put, List.setIfInBounds_toArray, List.set_cons_zero, List.set_cons_succ]
      refine wpAnyH_take (i := 19) (v := .pointer (some ⟨cb, 0, none⟩)) rfl (by kernel_rfl) (by kernel_rfl) (by kernel_rfl) (fun _ _ _ h => h) (Or.inl ⟨by rfl, fun w' hS => ?_⟩) HS ?_
      · obtain ⟨e0, e2⟩ := hS
        go_simp
      try simp only [List.getElem_toArray, List.getElem_cons_zero, List.getElem_cons_succ, Act.put, List.setIfInBounds_toArray, List.set_cons_zero, List.set_cons_succ]
      refine wpAnyH_take (i := 20) (v := .pointer (some ⟨cb, 0, none⟩)) rfl (by kernel_rfl) (by kernel_rfl) (by kernel_rfl) (fun _ _ _ h => h) (Or.inl ⟨by rfl, fun w' hS => ?_⟩) HS ?_
      · obtain ⟨e0, e2⟩ := hS
        go_simp
      try simp only [List.getElem_toArray, List.getElem_cons_zero, List.getElem_cons_succ, Act.put, List.setIfInBounds_toArray, List.set_cons_zero, List.set_cons_succ]
      refine wpAnyH_take (i := 21) (v := .pointer (some ⟨cb, 2, none⟩)) rfl (by kernel_rfl) (by kernel_rfl) (by kernel_rfl) (fun _ _ _ h => h) (Or.inl ⟨by rfl, fun w' hS => ?_⟩) HS ?_
      · obtain ⟨e0, e2⟩ := hS
        go_simp
      try simp only [List.getElem_toArray, List.getElem_cons_zero, List.getElem_cons_succ, Act.put, List.setIfInBounds_toArray, List.set_cons_zero, List.set_cons_succ]
      refine wpAnyH_take (i := 22) (v := .slice (some ⟨g, 0, none⟩) L.length c) rfl (by kernel_rfl) (by kernel_rfl) (by kernel_rfl) (fun _ _ _ h => h) (Or.inl ⟨by rfl, fun w' hS => ?_⟩) HS ?_
      · obtain ⟨e0, e2⟩ := hS
        go_simp
      try simp only [List.getElem_toArray, List.getElem_cons_zero, List.getElem_cons_succ, Act.put, List.setIfInBounds_toArray, List.set_cons_zero, List.set_cons_succ]
      refine wpAnyH_take (i := 23) (v := .int .i64 p) rfl (by kernel_rfl) (by kernel_rfl) (by kernel_rfl) (fun _ _ _ h => h) (Or.inl ⟨by rfl, fun w' hS => ?_⟩) HS ?_
      · obtain ⟨e0, e2⟩ := hS
        go_simp
      try simp only [List.getElem_toArray, List.getElem_cons_zero, List.getElem_cons_succ, Act.put, List.setIfInBounds_toArray, List.set_cons_zero, List.set_cons_succ]
      refine wpAnyH_ready (rs := [12]) (by kernel_rfl) (by simp) (AllReadyH.cons rfl (fun K hK => ?_) AllReadyH.nil)
      rw [if_pos (by rfl)]
      go_simp
      refine (choices_any w.drew).mono ?_
      rintro e w1 ⟨rfl, rfl⟩
      have HS : (fun w' : World => w'.cell? ⟨cb, 0, none⟩ = some (.int .i64 3) ∧ w'.cell? ⟨cb, 2, none⟩ = some (.slice (some ⟨g, 0, none⟩) L.length c)) (w.drew.alloc tabO) := ⟨((Frm.refl [] w).drew.alloc _).keep c0', ((Frm.refl [] w).drew.alloc _).keep c2'⟩
      refine hK.out _ _ HS (fun _ => ?_)
      clear hK K
      try simp only [List.getElem_toArray, List.getElem_cons_zero, List.getElem_cons_succ, Act.put, List.setIfInBounds_toArray, List.set_cons_zero, List.set_cons_succ]
      have ct : (w.drew.alloc tabO).cell? ⟨w.heap.size, 3, none⟩ = some (.func (.func 164) #[] #[]) := cell_of (heap_alloc_new w.drew _) 3
      have HCT := HCH.out _ ((Frm.refl [] w).drew.alloc tabO)
      have HWT : Frm [] w (w.drew.alloc tabO) := (Frm.refl [] w).drew.alloc _
      generalize w.drew.alloc tabO = wz at HS ct HCT HWT ⊢
      refine wpAnyH_take (i := 17) (v := .pointer (some ⟨w.heap.size, 3, none⟩)) rfl (by kernel_rfl) (by kernel_rfl) (by kernel_rfl) (fun _ _ _ h => h) (Or.inl ⟨by rfl, fun w' hS => ?_⟩) HS ?_
      · obtain ⟨e0, e2⟩ := hS
        go_simp
      try simp only [List.getElem_toArray, List.getElem_cons_zero, List.getElem_cons_succ, Act.put, List.setIfInBounds_toArray, List.set_cons_zero, List.set_cons_succ]
      refine wpAnyH_ready (rs := [18]) (by kernel_rfl) (by simp) (AllReadyH.cons rfl (fun K hK => ?_) AllReadyH.nil)
      rw [if_pos (by rfl)]
      go_simp
      have HS := HS
      refine hK.out _ _ HS (fun _ => ?_)
      clear hK K
      try simp only [List.getElem_toArray, List.getElem_cons_zero, List.getElem_cons_succ, Act.put, List.setIfInBounds_toArray, List.set_cons_zero, List.set_cons_succ]
      refine wpAnyH_ready (rs := [24]) (by kernel_rfl) (by simp) (AllReadyH.cons rfl (fun K hK => ?_) AllReadyH.nil)
      rw [if_pos (by rfl)]
      go_simp
      refine (show Calls Tryz.prog 164 _ _ _ from HCT).mono ?_
      rintro e w2 ⟨rfl, rfl⟩
      have HS := HS
      refine hK.out _ _ HS (fun _ => ?_)
      clear hK K
      try simp only [List.getElem_toArray, List.getElem_cons_zero, List.getElem_cons_succ, Act.put, List.setIfInBounds_toArray, List.set_cons_zero, List.set_cons_succ]
      refine wpAnyH_take (i := 25) (v := .bool true) rfl (by kernel_rfl) (by kernel_rfl) (by kernel_rfl) (fun _ _ _ h => h) (Or.inl ⟨by rfl, fun w' hS => ?_⟩) HS ?_
      · obtain ⟨e0, e2⟩ := hS
        go_simp
      try simp only [List.getElem_toArray, List.getElem_cons_zero, List.getElem_cons_succ, Act.put, List.setIfInBounds_toArray, List.set_cons_zero, List.set_cons_succ]
      refine wpAnyH_take (i := 26) (v := .bool true) rfl (by kernel_rfl) (by kernel_rfl) (by kernel_rfl) (fun _ _ _ h => h) (Or.inl ⟨by rfl, fun w' hS => ?_⟩) HS ?_
      · obtain ⟨e0, e2⟩ := hS
        go_simp
      try simp only [List.getElem_toArray, List.getElem_cons_zero, List.getElem_cons_succ, Act.put, List.setIfInBounds_toArray, List.set_cons_zero, List.set_cons_succ]
      refine wpAnyH_done (by kernel_rfl) ?_ _
      go_wp2
      go_meet
      exact ⟨rfl, HWT⟩
  case rest =>
    obtain ⟨rfl, hf⟩ := hcut
    have HF := Lib.hid hf
    clear hf HCH c0' c2' cx
    go_wp2
    go_ret2
    exact ⟨rfl, HF.out⟩
theorem take_any (cb : Nat) (cls cap : Int) (L : List ByteArray) (F : List Nat) (p : Int) (w : World) (h : Chn w cb cls cap L F) :
    Calls Tryz.prog 77 #[.pointer (some ⟨cb, 0, none⟩), .int .i64 p] w (Ret (.tuple #[.string (takeM cls L p), .int .i64 (takeE cls L p)]) (ChnTo w cb cls cap (takeL cls L p) F)) := by
  by_cases hr : p < 0 ∨ (L.length : Int) ≤ p
  · have ho : takeOk cls L p = false := by unfold takeOk; rw [decide_eq_false (by omega)]; rfl
    simp only [takeM, takeE, takeL, ho, Bool.false_eq_true, if_false]
    exact (take_out cb cls cap L F p w h hr).mono fun e w' ⟨he, hf⟩ => ⟨he, h.to.frm hf⟩
  · obtain ⟨p, rfl⟩ := Int.eq_ofNat_of_zero_le (by omega : (0 : Int) ≤ p)
    have hp : p < L.length := by omega
    cases hc : chc cls L p with
    | false =>
      have ho : takeOk cls L (p : Int) = false := by unfold takeOk; simp [hc]
      simp only [takeM, takeE, takeL, ho, Bool.false_eq_true, if_false]
      exact (take_no cb cls cap L F p w h hp hc).mono fun e w' ⟨he, hf⟩ => ⟨he, h.to.frm hf⟩
    | true =>
      have ho : takeOk cls L (p : Int) = true := by unfold takeOk; simp [hc, hp]
      simp only [takeM, takeE, takeL, ho, if_true, Int.toNat_natCast]
      exact take_ok cb cls cap L F p w h hp hc
set_option maxHeartbeats 4000000 in
theorem lose_any (cb : Nat) (cls cap : Int) (L : List ByteArray) (F : List Nat) (w : World) (h : Chn w cb cls cap L F) :
    Calls Tryz.prog 75 #[.pointer (some ⟨cb, 0, none⟩)] w (Ret (.tuple #[.string (loseM cls L), .int .i64 (loseE cls L)]) (ChnTo w cb cls cap (loseL cls L) F)) := by
  have CN := Lib.hid (none_any cb cls cap L F w h)
  have HT := Lib.hid h.to
  have CT := Lib.hid (take_any cb cls cap L F 0 w h)
  obtain ⟨sv, e1, -, -, -⟩ := h
  have c0 : w.cell? ⟨cb, 0, none⟩ = some (.int .i64 cls) := cell_of e1 0
  clear e1
  by_cases h3 : cls = 3
  · subst h3
    simp only [loseM, loseE, loseL, if_true]
    go_enter Tryz.func75, Tryz.ntmps75
    go_wp2_with (first
      | (go_at_call 126; go_must (refine CN.out.mono ?_; rintro e w' ⟨rfl, rfl⟩))
      | (go_at_call 77; go_must (refine CT.out.mono ?_; rintro e w' ⟨rfl, hr⟩; have HR := Lib.hid hr; clear hr)))
    go_ret2
    exact ⟨rfl, HR.out⟩
  · simp only [loseM, loseE, loseL, if_neg h3]
    have hne : (cls == 3) = false := by simpa using h3
    go_enter Tryz.func75, Tryz.ntmps75
    go_wp2_with (first
      | (go_at_call 126; go_must (refine CN.out.mono ?_; rintro e w' ⟨rfl, rfl⟩)))
    go_ret2
    exact ⟨rfl, HT.out⟩
end Go.Proofs.YtkphhjekfimmlaaGreat
