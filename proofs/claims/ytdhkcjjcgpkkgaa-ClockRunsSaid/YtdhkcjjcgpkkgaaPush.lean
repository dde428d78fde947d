import Derived.Test.YtdhkcjjcgpkkgaaRows
import Derived.Test.YtdhkcjjcgpkkgaaHeap
import Derived.WalkLawsBesides
import Derived.Deep.QuietTactic
import Derived.BigQuiet
import Derived.BigRegion
import Derived.Deep.DeepMust
import Derived.Lib.Hide
import Derived.Deep.RegionHeld3
import Derived.Deep.AppendLies
import Derived.Deep.RegionLaw
import Derived.Deep.DeepCutAuto
namespace Go.Proofs.Ytdhkcjjcgpkkgaa
open Go.RowKit

theorem Try.info70 : (Try.prog.info? 70).map (fun i => (i.zero, i.size, i.bytes)) = some (some (.agg #[.int .i64 0, .int .i64 0]), 2, 16) := by kernel_rfl

set_option maxHeartbeats 400000 in
theorem compare_any (a b : Int) (w : World) :
    Calls Try.prog 44 #[.int .i64 a, .int .i64 b] w (Ret (.int .i64 (cmp3 a b)) (w = ·)) := by
  go_enter Try.func44, Try.ntmps44
  go_wp2
  all_goals go_ret
  · exact ⟨by simp [cmp3_lt (by assumption : a < b)], rfl⟩
  · exact ⟨by simp [cmp3_gt (by assumption : b < a)], rfl⟩
  · exact ⟨by simp [cmp3_eq (by assumption : b ≤ a) (by assumption : a ≤ b)], rfl⟩

set_option maxHeartbeats 400000 in
theorem or_two (b : Nat) (x y : Int) (w : World) (h0 : w.cell? ⟨b, 0, none⟩ = some (.int .i64 x)) (h1 : w.cell? ⟨b, 1, none⟩ = some (.int .i64 y)) :
    Calls Try.prog 43 #[.slice (some ⟨b, 0, none⟩) 2 2] w (Ret (.int .i64 (orTwo x y)) (w = ·)) := by
  go_enter Try.func43, Try.ntmps43
  go_wp2
  refine wp_loop_rounds 3 ?_
  rw [rounds_succ]
  go_wp2
  · go_ret
    have : (x != 0) = true := by assumption
    exact ⟨by simp_all [orTwo], rfl⟩
  rw [rounds_succ]
  go_wp2
  · go_ret
    have : (x != 0) = false := by simp_all
    exact ⟨by simp_all [orTwo], rfl⟩
  rw [rounds_succ]
  go_wp2
  go_ret
  exact ⟨by simp_all [orTwo], rfl⟩

set_option maxHeartbeats 400000 in
theorem before_any (a b : Int × Int) (w : World) :
    Calls Try.prog 37 #[.agg #[.int .i64 a.1, .int .i64 a.2], .agg #[.int .i64 b.1, .int .i64 b.2]] w (Ret (.int .i64 (ent a b)) (Frm [] w)) := by
  obtain ⟨d1, t1⟩ := a
  obtain ⟨d2, t2⟩ := b
  go_enter Try.func37, Try.ntmps37
  go_wp2
  generalize hW : (w.alloc (Obj.cells #[Value.int IntKind.i64 d1, Value.int IntKind.i64 t1] 70)).alloc (Obj.cells #[Value.int IntKind.i64 d2, Value.int IntKind.i64 t2] 70) = W
  have c0 : W.cell? ⟨w.heap.size, 0, none⟩ = some (.int .i64 d1) := by rw [← hW]; simp
  have c1 : W.cell? ⟨w.heap.size, 1, none⟩ = some (.int .i64 t1) := by rw [← hW]; simp
  have c2 : W.cell? ⟨w.heap.size+1, 0, none⟩ = some (.int .i64 d2) := by rw [← hW]; simp
  have c3 : W.cell? ⟨w.heap.size+1, 1, none⟩ = some (.int .i64 t2) := by rw [← hW]; simp
  have hB : Hid (Frm [] w W) := by rw [← hW]; exact ((Frm.refl _ _).alloc _).alloc _
  clear hW
  go_region_held3 (fun w' => w'.cell? ⟨w.heap.size, 0, none⟩ = some (.int .i64 d1) ∧ w'.cell? ⟨w.heap.size, 1, none⟩ = some (.int .i64 t1) ∧ w'.cell? ⟨w.heap.size+1, 0, none⟩ = some (.int .i64 d2) ∧ w'.cell? ⟨w.heap.size+1, 1, none⟩ = some (.int .i64 t2))
    (go_keep)
    (first | (go_at_call 44; refine (compare_any _ _ _).mono ?_; rintro e w' ⟨rfl, rfl⟩)
           | (go_at_call 43; go_must (refine (or_two W.heap.size (cmp3 d1 d2) (cmp3 t1 t2) _ (by simp) (by simp)).mono ?_; rintro e w' ⟨rfl, rfl⟩)))
  all_goals (
    go_wp2
    go_ret
    exact ⟨rfl, (hB.out.drew).alloc _⟩)

/-- the clock's block and its heap of pairs -/
def Hp (w : World) (cb : Nat) (now : Int) (mv sv : Value) (L : List (Int × Int)) : Prop :=
  w.heap[cb]? = some (.cells #[.int .i64 now, mv, sv] 27 (0, 0)) ∧ w.ownsRow 0 70 2 sv L.length (encL L)
/-- w' came of w by changes of a heap of pairs -/
def Turned (w w' : World) (cb : Nat) (sv sv' : Value) : Prop := Frm (cb :: sv.ownBlock.toList) w w' ∧ ∀ k, sv'.ownBlock = some k → sv.ownBlock = some k ∨ w.heap.size ≤ k
def Pushed (w : World) (cb : Nat) (now : Int) (mv sv : Value) (L : List (Int × Int)) (x : Int × Int) (w' : World) : Prop :=
  ∃ sv' L', Hp w' cb now mv sv' L' ∧ L'.length = L.length + 1 ∧ (∀ e, e ∈ L' ↔ e ∈ L ∨ e = x) ∧ Ord L' ∧ Turned w w' cb sv sv'
def Mid1 (w : World) (cb : Nat) (now : Int) (mv sv : Value) (L : List (Int × Int)) (x : Int × Int) (w' : World) : Prop :=
  ∃ g cap, Hp w' cb now mv (.slice (some ⟨g, 0, none⟩) (L.length + 1) cap) (L ++ [x]) ∧ Turned w w' cb sv (.slice (some ⟨g, 0, none⟩) (L.length + 1) cap)

theorem mid1_of {w W w1 : World} {cb g cap : Nat} {now : Int} {mv sv : Value} {L : List (Int × Int)} {xd xt : Int} {X : Obj} (hF : Frm [] w W)
    (hc1 : w1.heap[cb]? = some (.cells #[.int .i64 now, mv, sv] 27 (0, 0)))
    (hown1 : w1.ownsRow 0 70 2 (.slice (some ⟨g, 0, none⟩) (L.length + 1) cap) (L.length + 1) (encL L ++ [.int .i64 xd, .int .i64 xt])) (hgrow : (W.alloc X).drew.grownBy w1 sv.ownBlock)
    (hat : sv.ownBlock = some g ∨ g = W.heap.size + 1) : Mid1 w cb now mv sv L (xd, xt) (w1.setCell ⟨cb, 2, none⟩ (.slice (some ⟨g, 0, none⟩) (L.length + 1) cap)) := by
  have hs := hF.size
  have hgc : g ≠ cb := fun e => by
    obtain ⟨c, hh⟩ := ownBlock_type hown1 rfl
    simp only [e, hc1] at hh
    simp at hh
  refine ⟨g, cap, ⟨block_setCell hc1 2 _, ?_⟩, ?_, ?_⟩
  · rw [encL_append, List.length_append]
    exact ownsRow_setCell_other hown1 (by simpa [Value.ownBlock] using hgc) _
  · refine Frm.setCell ?_ _ (.inl (by simp)) _
    refine Frm.grown ?_ hgrow ?_
    · exact ((hF.mono (by simp)).alloc _).drew
    · intro k hk; left; simp [hk]
  · intro k hk
    simp [Value.ownBlock] at hk
    subst hk
    rcases hat with h | h
    · exact .inl h
    · right; omega

/-- the state at the head of a round of push -/
def PInv (w : World) (cb : Nat) (now : Int) (mv sv : Value) (L : List (Int × Int)) (x : Int × Int) (i : Nat) (wr : World) : Prop :=
  ∃ g cap L', Hp wr cb now mv (.slice (some ⟨g, 0, none⟩) L'.length cap) L' ∧ Turned w wr cb sv (.slice (some ⟨g, 0, none⟩) L'.length cap) ∧ L'.length = L.length + 1 ∧ (∀ e, e ∈ L' ↔ e ∈ L ∨ e = x) ∧ OrdUp L' i ∧ i < L'.length
theorem PInv.start {w wr : World} {cb : Nat} {now : Int} {mv sv : Value} {L : List (Int × Int)} {x : Int × Int} (h : Mid1 w cb now mv sv L x wr) (ho : Ord L) : PInv w cb now mv sv L x L.length wr := by
  obtain ⟨g, cap, h1, h2⟩ := h
  exact ⟨g, cap, L ++ [x], by simpa using h1, by simpa using h2, by simp, by simp, ordUp_push ho x, by simp⟩

/-- the world behind 'h[u], h[i] = h[i], h[u]' -/
def swapW (w : World) (g u i : Nat) (a b : Int × Int) : World :=
  (((w.setCell ⟨g, u * 2, none⟩ (.int .i64 b.1)).setCell ⟨g, u * 2 + 1, none⟩ (.int .i64 b.2)).setCell ⟨g, i * 2, none⟩ (.int .i64 a.1)).setCell ⟨g, i * 2 + 1, none⟩ (.int .i64 a.2)
theorem Hp.swap {w : World} {cb g cap : Nat} {now : Int} {mv : Value} {L : List (Int × Int)} {u i : Nat} {a b : Int × Int} (h : Hp w cb now mv (.slice (some ⟨g, 0, none⟩) L.length cap) L) :
    Hp (swapW w g u i a b) cb now mv (.slice (some ⟨g, 0, none⟩) (swp L u i a b).length cap) (swp L u i a b) ∧ Frm [g] w (swapW w g u i a b) := by
  obtain ⟨hc, ho⟩ := h
  have hgc : cb ≠ g := fun e => by
    obtain ⟨c, hh⟩ := ownBlock_type ho rfl
    simp only [← e, hc] at hh
    simp at hh
  have o1 := (ho.stored (u * 2) (.int .i64 b.1)).1
  have o2 := (o1.stored (u * 2 + 1) (.int .i64 b.2)).1
  have o3 := (o2.stored (i * 2) (.int .i64 a.1)).1
  have o4 := (o3.stored (i * 2 + 1) (.int .i64 a.2)).1
  rw [encL_set L u b, encL_set (L.set u b) i a] at o4
  refine ⟨⟨?_, ?_⟩, ?_⟩
  · unfold swapW
    rw [swp_length]
    exact setCell_at (p := ⟨g, _, none⟩) (setCell_at (p := ⟨g, _, none⟩) (setCell_at (p := ⟨g, _, none⟩) (setCell_at (p := ⟨g, _, none⟩) hc hgc _) hgc _) hgc _) hgc _
  · rw [swp_length]; exact o4
  · unfold swapW
    exact ((((Frm.refl _ _).setCell _ (.inl (by simp)) _).setCell _ (.inl (by simp)) _).setCell _ (.inl (by simp)) _).setCell _ (.inl (by simp)) _
theorem Hp.drew {w : World} {cb : Nat} {now : Int} {mv sv : Value} {L : List (Int × Int)} (h : Hp w cb now mv sv L) : Hp w.drew cb now mv sv L := h
theorem Turned.then {w w1 w2 : World} {cb : Nat} {sv : Value} {g n cap n' cap' : Nat} {F : List Nat} (h : Turned w w1 cb sv (.slice (some ⟨g, 0, none⟩) n cap)) (hf : Frm F w1 w2) (hF : ∀ x ∈ F, x = cb ∨ x = g ∨ w.heap.size ≤ x) :
    Turned w w2 cb sv (.slice (some ⟨g, 0, none⟩) n' cap') := by
  obtain ⟨h1, h2⟩ := h
  refine ⟨h1.then hf fun x hx => ?_, h2⟩
  rcases hF x hx with e | e | e
  · exact .inl (by simp [e])
  · subst e
    rcases h2 x rfl with k | k
    · exact .inl (by simp [k])
    · exact .inr k
  · exact .inr e
theorem PInv.done {w wr : World} {cb : Nat} {now : Int} {mv sv : Value} {L : List (Int × Int)} {x : Int × Int} (h : PInv w cb now mv sv L x 0 wr) : Pushed w cb now mv sv L x wr := by
  obtain ⟨g, cap, L', h1, h2, h3, h4, h5, h6⟩ := h
  exact ⟨_, L', h1, h3, h4, h5.done (.inl rfl), h2⟩

set_option maxHeartbeats 1000000 in
set_option maxRecDepth 100000 in
theorem push_any (cb : Nat) (now : Int) (mv sv : Value) (L : List (Int × Int)) (x : Int × Int) (w : World)
    (hp : Hp w cb now mv sv L) (hn : L.length ≤ 1000000) (ho : Ord L) :
    Calls Try.prog 28 #[.pointer (some ⟨cb, 0, none⟩), .agg #[.int .i64 x.1, .int .i64 x.2]] w (Ret (.tuple #[]) (Pushed w cb now mv sv L x)) := by
  obtain ⟨hc, hown⟩ := hp
  have HO := Lib.hid ho
  clear ho
  obtain ⟨xd, xt⟩ := x
  obtain ⟨i0, hi0, hz0, hz1, hz2⟩ := info_parts Try.info70
  have hcl := lt_of_block hc
  have hcs : Hid (sv.ownBlock ≠ some cb) := fun e => by
    obtain ⟨c, hh⟩ := ownBlock_type hown e
    rw [hc] at hh; cases hh
  have hlen := encL_length L
  go_enter Try.func28, Try.ntmps28
  go_wp2
  obtain ⟨W, hW⟩ : ∃ W, W = (w.alloc (Obj.cells #[Value.int IntKind.i64 xd, Value.int IntKind.i64 xt] 70)) := ⟨_, rfl⟩
  rw [← hW]
  have hF : Hid (Frm [] w W) := by rw [hW]; exact (Frm.refl _ _).alloc _
  have hWs : Hid (w.heap.size < W.heap.size) := by show _ < _; rw [hW]; simp
  have b0 : W.heap[w.heap.size]? = some (.cells #[.int .i64 xd, .int .i64 xt] 70) := by rw [hW]; exact heap_alloc_new _ _
  clear hW
  have hbs : Hid (sv.ownBlock ≠ some w.heap.size) := fun e => by have := ownBlock_lt hown e; omega
  have hcW := hF.out.at hc (by simp)
  have hownW : Hid (W.ownsRow 0 70 2 sv L.length (encL L)) := hF.out.owns hown (by simp)
  have c2 : W.cell? ⟨cb, 2, none⟩ = some sv := by rw [cell_of hcW]; rfl
  have x0 : W.cell? ⟨w.heap.size, 0, none⟩ = some (.int .i64 xd) := by rw [cell_of b0]; rfl
  have x1 : W.cell? ⟨w.heap.size, 1, none⟩ = some (.int .i64 xt) := by rw [cell_of b0]; rfl
  have f2 : W.frozen? ⟨cb, 2, none⟩ = false := free_of hcW 2
  have hcWlt : cb < W.heap.size := lt_of_block hcW
  have HC : Hid (W.heap[cb]? = some (.cells #[.int .i64 now, mv, sv] 27 (0, 0))) := hcW
  have Hb0 : Hid (W.heap[w.heap.size]? = some (.cells #[.int .i64 xd, .int .i64 xt] 70)) := b0
  clear hc hown hcW b0
  go_cut [] (fun w' => Mid1 w cb now mv sv L (xd, xt) w')
  case first =>
    go_region_law (first | (refine step_append_lies _ (by rfl) _ _ _ (by rfl) 0 70 i0 _ 2 16 Try.underlying25 hi0 hz0 hz1 hz2 rfl (by omega) sv L.length (encL L) (by rfl) (hownW.out.alloc _).drew         ⟨W.heap.size, 0, none⟩ 1 1 [.int .i64 xd, .int .i64 xt] (by rfl) (by rfl) (World.news_of_block (heap_alloc_new _ _)) (by simp [Value.oneCell'])         (by omega) (by unfold maxLen; omega) (by omega) (by simp) (W.heap.size + 1) (by simp) ?_; intro g cap w1 hown1 hgrow hat hlt; have hc1 := grown_at hgrow (alloc_at (x := .cells #[.int .i64 xd, .int .i64 xt] 70) HC.out) hcs.out; have hb1 := grown_at hgrow (alloc_at (x := .cells #[.int .i64 xd, .int .i64 xt] 70) Hb0.out) (hbs.out); have hf1 := free_of hc1 2; have hv1 : w1.cell? ⟨cb, 2, none⟩ = some sv := (cell_of hc1 2)))
    all_goals (go_wp2_with fail; go_meet; exact mid1_of hF.out hc1 hown1 hgrow hat)
  case rest =>
    obtain ⟨g, cap, ⟨hcc, hoo⟩, ht⟩ := hcut
    have HP := Lib.hid (PInv.start ⟨g, cap, ⟨hcc, hoo⟩, ht⟩ HO.out)
    have hc2 := cell_of hcc 2
    clear hcc hoo ht c2 x0 x1 f2
    go_wp2
    go_loopw [4] (fun s wr => ∃ i : Nat, s = .int .i64 i ∧ PInv w cb now mv sv L (xd, xt) i wr) (fun s _ => (intOf s).toNat)
    case atStart => exact ⟨L.length, rfl, HP.out⟩
    case round =>
      clear hc2 HP
      obtain ⟨i, rfl, hinv⟩ := hrel
      by_cases hi : i = 0
      · subst hi
        have HI := Lib.hid hinv; clear hinv
        go_wp2
        go_end0
        exact ⟨rfl, HI.out.done⟩
      · obtain ⟨g, cap, L', hh, ht, hl, hm, hup, hil⟩ := hinv
        obtain ⟨u, hu⟩ : ∃ u, u = (i - 1) / 2 := ⟨_, rfl⟩
        obtain ⟨a, ha⟩ : ∃ a, L'[u]? = some a := ⟨_, List.getElem?_eq_getElem (by omega)⟩
        obtain ⟨b, hb⟩ : ∃ b, L'[i]? = some b := ⟨_, List.getElem?_eq_getElem hil⟩
        have c2 := cell_of hh.1 2
        have hla := encL_length L'
        have hul : u < L'.length := by omega
        have a1 := (hh.2.cellAt (u * 2) (by omega)).trans (encL_at1 L' _ a ha)
        have a2 := (hh.2.cellAt (u * 2 + 1) (by omega)).trans (encL_at2 L' _ a ha)
        have b1 := (hh.2.cellAt (i * 2) (by omega)).trans (encL_at1 L' _ b hb)
        have b2 := (hh.2.cellAt (i * 2 + 1) (by omega)).trans (encL_at2 L' _ b hb)
        have FH := Lib.hid hh; have FT := Lib.hid ht; have FM := Lib.hid hm; have FU := Lib.hid hup; have FL := Lib.hid hl; have FA := Lib.hid ha; have FB := Lib.hid hb; have Fu := Lib.hid hu
        have hl2 : L'.length ≤ 1000001 := by omega
        have eu : ((i : Int) - 1) / 2 = (u : Int) := by omega
        have hpos : (0 : Int) < (i : Int) := by omega
        have hul' : (u : Int) < (L'.length : Int) := by omega
        have hil' : (i : Int) < (L'.length : Int) := by omega
        have hu0 : (0 : Int) ≤ (u : Int) := by omega
        have hi0 : (0 : Int) ≤ (i : Int) := by omega
        clear hh ht hm hup hl ha hb hla hu
        go_wp2_with fail
        simp only [eu]
        go_cut [42] (fun s42 w' => s42 = .bool (decide (ent a b ≤ 0)) ∧ Frm [] wr w')
        case first =>
          go_region_held3 (fun w' => w'.cell? ⟨cb, 2, none⟩ = some (.slice (some ⟨g, 0, none⟩) L'.length cap) ∧ w'.cell? ⟨g, u * 2, none⟩ = some (.int .i64 a.1) ∧ w'.cell? ⟨g, u * 2 + 1, none⟩ = some (.int .i64 a.2) ∧ w'.cell? ⟨g, i * 2, none⟩ = some (.int .i64 b.1) ∧ w'.cell? ⟨g, i * 2 + 1, none⟩ = some (.int .i64 b.2))
            (first
              | go_keep
              | (go_split_ands
                 refine ⟨?_, ?_, ?_, ?_, ?_⟩
                 all_goals (refine hf.keep ?_; assumption)))
            (first
              | (go_at_call 37; go_must (refine (before_any _ _ _).mono ?_; rintro e w' ⟨rfl, hf⟩)))
          all_goals
            (go_wp2_with fail
             go_meet
             exact ⟨rfl, hf.drewBack⟩)
        case rest =>
          obtain ⟨rfl, hf⟩ := hcut
          by_cases hle : ent a b ≤ 0
          · go_wp2
            go_end0
            exact ⟨rfl, _, L', ⟨hf.at FH.out.1 (by simp), hf.owns FH.out.2 (by simp)⟩, FL.out, FM.out, FU.out.done (.inr ⟨a, b, by rw [← Fu.out]; exact FA.out, FB.out, ent_le.1 hle⟩), FT.out.then hf (by simp)⟩
          · have hgt : 0 < ent a b := by omega
            have HLE := Lib.hid hle
            have hf2 := Lib.hid hf
            have c2' := hf.keep c2
            have a1' := hf.keep a1
            have a2' := hf.keep a2
            have b1' := hf.keep b1
            have b2' := hf.keep b2
            have FH' : Hid (Hp wc cb now mv (.slice (some ⟨g, 0, none⟩) L'.length cap) L') := ⟨hf.at FH.out.1 (by simp), hf.owns FH.out.2 (by simp)⟩
            have f1 := FH'.out.2.frozenAt (u * 2)
            have f2 := FH'.out.2.frozenAt (u * 2 + 1)
            have f3 := FH'.out.2.frozenAt (i * 2)
            have f4 := FH'.out.2.frozenAt (i * 2 + 1)
            clear hle hf c2 a1 a2 b1 b2
            go_wp2_with fail
            go_region
            go_wp2
            go_roundw
            case rel =>
              have hsw := (Hp.swap (u := u) (i := i) (a := a) (b := b) FH'.out)
              have hup := FU.out.up (by omega) (by rw [← Fu.out]; exact FA.out) FB.out (fun h => by have := ent_le.2 h; omega)
              rw [← Fu.out] at hup
              exact ⟨u, rfl, g, cap, swp L' u i a b, hsw.1.drew, Turned.then (n := 0) (cap := 0) (FT.out.then hf2.out (by simp)) hsw.2.drew (by simp), by rw [swp_length]; exact FL.out, fun e => (swp_mem FA.out FB.out e).trans (FM.out e), hup, by rw [swp_length]; omega⟩
            case measure => simp [intOf]; omega
end Go.Proofs.Ytdhkcjjcgpkkgaa
