import Derived.Test.YtdhkcjjcgpkkgaaPush
namespace Go.Proofs.Ytdhkcjjcgpkkgaa
open Go.RowKit

def ltAt (L : List (Int × Int)) (k l : Nat) : Bool := decide (ent (L.getD k (0, 0)) (L.getD l (0, 0)) < 0)
/-- the least of place i and its first j children -/
def lst (L : List (Int × Int)) (i : Nat) : Nat → Nat
  | 0 => i
  | j + 1 => if 2 * i + 1 + j < L.length ∧ ltAt L (2 * i + 1 + j) (lst L i j) = true then 2 * i + 1 + j else lst L i j
theorem lst_hit {L : List (Int × Int)} {i j : Nat} (h : 2 * i + 1 + j < L.length) (h2 : ltAt L (2 * i + 1 + j) (lst L i j) = true) : lst L i (j + 1) = 2 * i + 1 + j := by simp [lst, h, h2]
theorem lst_no {L : List (Int × Int)} {i j : Nat} (h : ¬ 2 * i + 1 + j < L.length) : lst L i (j + 1) = lst L i j := by simp [lst, h]
theorem lst_miss {L : List (Int × Int)} {i j : Nat} (h2 : ltAt L (2 * i + 1 + j) (lst L i j) = false) : lst L i (j + 1) = lst L i j := by simp [lst, h2]
theorem lst_le {L : List (Int × Int)} {i : Nat} (hi : i ≤ L.length) : ∀ j, lst L i j = i ∨ lst L i j < L.length
  | 0 => .inl rfl
  | j + 1 => by
    unfold lst; split
    · right; omega
    · exact lst_le hi j
theorem ltAt_false {L : List (Int × Int)} {k l : Nat} {a b : Int × Int} (ha : L[k]? = some a) (hb : L[l]? = some b) (h : ltAt L k l = false) : leE b a := by
  have : ¬ ent a b < 0 := by simpa [ltAt, List.getD, ha, hb] using h
  by_cases hl : leE b a
  · exact hl
  · exact absurd (ent_lt.2 hl) this
theorem ltAt_true {L : List (Int × Int)} {k l : Nat} {a b : Int × Int} (ha : L[k]? = some a) (hb : L[l]? = some b) (h : ltAt L k l = true) : ¬ leE b a := by
  have : ent a b < 0 := by simpa [ltAt, List.getD, ha, hb] using h
  exact ent_lt.1 this
theorem some_of_lt {L : List (Int × Int)} {k : Nat} (h : k < L.length) : ∃ a, L[k]? = some a := ⟨_, List.getElem?_eq_getElem h⟩
/-- the least is no greater than i and each child -/
theorem lst_min {L : List (Int × Int)} {i : Nat} (hi : i < L.length) : ∀ j, ∃ b, L[lst L i j]? = some b ∧ (∀ a, L[i]? = some a → leE b a) ∧ (∀ t c, t < j → L[2 * i + 1 + t]? = some c → leE b c) ∧
    (lst L i j ≠ i → (2 * i + 1 ≤ lst L i j ∧ lst L i j < 2 * i + 1 + j) ∧ ∀ a, L[i]? = some a → ¬ leE a b)
  | 0 => by
    obtain ⟨a, ha⟩ := some_of_lt hi
    exact ⟨a, ha, fun a' h => by rw [ha] at h; cases h; exact leE.refl _, fun t c ht => by omega, fun h => absurd rfl h⟩
  | j + 1 => by
    obtain ⟨b, hb, h1, h2, h3⟩ := lst_min hi j
    by_cases hlt : 2 * i + 1 + j < L.length
    · obtain ⟨c, hc⟩ := some_of_lt hlt
      cases hL : ltAt L (2 * i + 1 + j) (lst L i j) with
      | true =>
        have hn := ltAt_true hc hb hL
        have hcb := leE.total hn
        rw [lst_hit hlt hL]
        refine ⟨c, hc, fun a ha => hcb.trans (h1 a ha), fun t d ht hd => ?_, fun _ => ⟨by omega, fun a ha hac => hn ((h1 a ha).trans hac)⟩⟩
        by_cases e : t = j
        · subst e; rw [hc] at hd; cases hd; exact leE.refl _
        · exact hcb.trans (h2 t d (by omega) hd)
      | false =>
        rw [lst_miss hL]
        refine ⟨b, hb, h1, fun t d ht hd => ?_, fun h => ⟨by have := (h3 h).1; omega, (h3 h).2⟩⟩
        by_cases e : t = j
        · subst e; exact ltAt_false hd hb hL
        · exact h2 t d (by omega) hd
    · rw [lst_no hlt]
      refine ⟨b, hb, h1, fun t d ht hd => ?_, fun h => ⟨by have := (h3 h).1; omega, (h3 h).2⟩⟩
      by_cases e : t = j
      · subst e; rw [List.getElem?_eq_none (by omega)] at hd; cases hd
      · exact h2 t d (by omega) hd

/-- an owned row, cut short -/
theorem ownsRow_short {w : World} {base e size g n m cap : Nat} {xs : List Value} (h : w.ownsRow base e size (.slice (some ⟨g, 0, none⟩) n cap) n xs) (hm : m ≤ n) :
    w.ownsRow base e size (.slice (some ⟨g, 0, none⟩) m cap) m (xs.take (m * size)) := by
  obtain ⟨h1, h2⟩ := h
  have hms : m * size ≤ n * size := Nat.mul_le_mul_right _ hm
  refine ⟨by rw [List.length_take, h1]; omega, ?_⟩
  rcases h2 with ⟨h2, _⟩ | ⟨g', cap', cur, hv, hg, hh, hn, hc, hs, ht⟩
  · cases h2
  · cases hv
    exact .inr ⟨g, cap, cur, rfl, hg, hh, by omega, hc, hs, by rw [← ht, List.take_take, Nat.min_eq_left hms]⟩
theorem Hp.shape {w : World} {cb : Nat} {now : Int} {mv sv : Value} {L : List (Int × Int)} (h : Hp w cb now mv sv L) (hne : 0 < L.length) : ∃ g cap, sv = .slice (some ⟨g, 0, none⟩) L.length cap ∧ L.length ≤ cap ∧ g ≠ cb := by
  obtain ⟨hc, h1, h2⟩ := h
  rcases h2 with ⟨_, h2⟩ | ⟨g, cap, cur, hv, hg, hh, hlc, _⟩
  · omega
  · refine ⟨g, cap, hv, hlc, fun e => ?_⟩
    subst e
    rw [hc] at hh
    simp at hh
/-- what stays in a heap of which the first is taken off -/
def Mems (L L' : List (Int × Int)) : Prop := (∀ e ∈ L, L[0]? ≠ some e → e ∈ L') ∧ ∀ e ∈ L', e ∈ L
def Popped (w : World) (cb : Nat) (now : Int) (mv sv : Value) (L : List (Int × Int)) (w' : World) : Prop :=
  ∃ sv' L', Hp w' cb now mv sv' L' ∧ L'.length + 1 = L.length ∧ Mems L L' ∧ Ord L' ∧ Turned w w' cb sv sv'
/-- the state at the head of a round of pop -/
def DInv (w : World) (cb : Nat) (now : Int) (mv sv : Value) (L : List (Int × Int)) (i : Nat) (wr : World) : Prop :=
  ∃ g cap L', Hp wr cb now mv (.slice (some ⟨g, 0, none⟩) L'.length cap) L' ∧ Turned w wr cb sv (.slice (some ⟨g, 0, none⟩) L'.length cap) ∧ L'.length + 1 = L.length ∧ Mems L L' ∧ OrdDown L' i ∧ (i = 0 ∨ i < L'.length)
theorem DInv.start {w : World} {cb g cap : Nat} {now : Int} {mv : Value} {L : List (Int × Int)} {x : Int × Int} (h : Hp w cb now mv (.slice (some ⟨g, 0, none⟩) L.length cap) L) (ho : Ord L) (hne : 0 < L.length) (hx : L[L.length - 1]? = some x) :
    DInv w cb now mv (.slice (some ⟨g, 0, none⟩) L.length cap) L 0 (((w.setCell ⟨g, 0, none⟩ (.int .i64 x.1)).setCell ⟨g, 1, none⟩ (.int .i64 x.2)).setCell ⟨cb, 2, none⟩ (.slice (some ⟨g, 0, none⟩) (L.length - 1) cap)) := by
  obtain ⟨hc, hr⟩ := h
  have hgc : cb ≠ g := fun e => by
    obtain ⟨c, hh⟩ := ownBlock_type hr rfl
    simp only [← e, hc] at hh
    simp at hh
  have o1 := (hr.stored 0 (.int .i64 x.1)).1
  have o2 := (o1.stored 1 (.int .i64 x.2)).1
  have e0 := encL_set L 0 x
  simp only [Nat.zero_mul, Nat.zero_add] at e0
  rw [e0] at o2
  have o3 := ownsRow_short o2 (m := L.length - 1) (by omega)
  rw [encL_take] at o3
  have hc2 : (((w.setCell ⟨g, 0, none⟩ (.int .i64 x.1)).setCell ⟨g, 1, none⟩ (.int .i64 x.2))).heap[cb]? = _ := setCell_at (p := ⟨g, _, none⟩) (setCell_at (p := ⟨g, _, none⟩) hc hgc _) hgc _
  have hl : ((L.set 0 x).take (L.length - 1)).length = L.length - 1 := by simp
  have et : (L.set 0 x).take (L.length - 1) = (L.take (L.length - 1)).set 0 x := by
    cases L with
    | nil => rfl
    | cons y l => cases l <;> simp
  refine ⟨g, cap, (L.set 0 x).take (L.length - 1), ⟨?_, ?_⟩, ⟨?_, ?_⟩, by rw [hl]; omega, ?_, ?_, .inl rfl⟩
  · rw [hl]; exact block_setCell hc2 2 _
  · rw [hl]; exact ownsRow_setCell_other o3 (by simpa [Value.ownBlock] using hgc.symm) _
  · exact (((Frm.refl _ _).setCell _ (.inl (by simp [Value.ownBlock])) _).setCell _ (.inl (by simp [Value.ownBlock])) _).setCell _ (.inl (by simp)) _
  · intro k hk; exact .inl hk
  · refine ⟨fun e he hne0 => ?_, fun e he => ?_⟩
    case refine_2 =>
      rcases List.mem_or_eq_of_mem_set (List.mem_of_mem_take he) with h | h
      · exact h
      · subst h; exact List.mem_iff_getElem?.2 ⟨_, hx⟩
    obtain ⟨k, hk⟩ := List.mem_iff_getElem?.1 he
    have hkl := lt_of_some hk
    rw [et]
    by_cases h1 : k = L.length - 1
    · subst h1
      rw [hx] at hk; cases hk
      by_cases h2 : L.length - 1 = 0
      · rw [h2] at hx; exact absurd hx hne0
      · exact List.mem_iff_getElem?.2 ⟨0, by rw [List.getElem?_set_self (by rw [List.length_take]; omega)]⟩
    · have h0 : k ≠ 0 := fun h0 => by subst h0; exact hne0 hk
      exact List.mem_iff_getElem?.2 ⟨k, by rw [List.getElem?_set_ne (by omega), List.getElem?_take, if_pos (by omega)]; exact hk⟩
  · rw [et]; exact ordDown_pop ho x
theorem DInv.drew {w wr : World} {cb i : Nat} {now : Int} {mv sv : Value} {L : List (Int × Int)} (h : DInv w cb now mv sv L i wr) : DInv w cb now mv sv L i wr.drew := by
  obtain ⟨g, cap, L', h1, h2, h3, h4, h5⟩ := h
  exact ⟨g, cap, L', h1, ⟨h2.1.drew, h2.2⟩, h3, h4, h5⟩
theorem DInv.done {w wr w2 : World} {cb g cap i : Nat} {now : Int} {mv sv : Value} {L L' : List (Int × Int)} (h1 : Hp wr cb now mv (.slice (some ⟨g, 0, none⟩) L'.length cap) L') (h2 : Turned w wr cb sv (.slice (some ⟨g, 0, none⟩) L'.length cap))
    (h3 : L'.length + 1 = L.length) (h4 : Mems L L') (h5 : OrdDown L' i) (hl : lst L' i 2 = i) (hf : Frm [] wr w2) : Popped w cb now mv sv L w2 := by
  refine ⟨_, L', ⟨hf.at h1.1 (by simp), hf.owns h1.2 (by simp)⟩, h3, h4, h5.done fun k a b hk hki ha hb => ?_, h2.then hf (by simp)⟩
  obtain ⟨x, hx, hx1, hx2, hx3⟩ := lst_min (lt_of_some ha) 2
  rw [hl, ha] at hx
  cases hx
  obtain ⟨t, ht, rfl⟩ : ∃ t, t < 2 ∧ k = 2 * i + 1 + t := ⟨k - (2 * i + 1), by omega, by omega⟩
  exact hx2 t b ht hb
theorem DInv.next {w wr w2 : World} {cb g cap i : Nat} {now : Int} {mv sv : Value} {L L' : List (Int × Int)} {a b : Int × Int} (h1 : Hp wr cb now mv (.slice (some ⟨g, 0, none⟩) L'.length cap) L') (h2 : Turned w wr cb sv (.slice (some ⟨g, 0, none⟩) L'.length cap))
    (h3 : L'.length + 1 = L.length) (h4 : Mems L L') (h5 : OrdDown L' i) (hl : lst L' i 2 ≠ i) (ha : L'[i]? = some a) (hb : L'[lst L' i 2]? = some b) (hf : Frm [] wr w2) :
    DInv w cb now mv sv L (lst L' i 2) (swapW w2 g i (lst L' i 2) a b) := by
  have hp2 : Hp w2 cb now mv (.slice (some ⟨g, 0, none⟩) L'.length cap) L' := ⟨hf.at h1.1 (by simp), hf.owns h1.2 (by simp)⟩
  have hsw := Hp.swap (u := i) (i := lst L' i 2) (a := a) (b := b) hp2
  obtain ⟨x, hx, hx1, hx2, hx3⟩ := lst_min (lt_of_some ha) 2
  rw [hb] at hx
  cases hx
  obtain ⟨h7, h8⟩ := hx3 hl
  refine ⟨g, cap, swp L' i (lst L' i 2) a b, hsw.1, Turned.then (n := 0) (cap := 0) (h2.then hf (by simp)) hsw.2 (by simp), by rw [swp_length]; exact h3, ⟨fun e he hne => (swp_mem ha hb e).2 (h4.1 e he hne), fun e he => h4.2 e ((swp_mem ha hb e).1 he)⟩, ?_, .inr (by rw [swp_length]; exact lt_of_some hb)⟩
  refine h5.down (by omega) (by omega) ha hb (h8 a ha) fun k c hk hki hc => ?_
  obtain ⟨t, ht, rfl⟩ : ∃ t, t < 2 ∧ k = 2 * i + 1 + t := ⟨k - (2 * i + 1), by omega, by omega⟩
  exact hx2 t c ht hc

def hit (L : List (Int × Int)) (m k l : Nat) : Bool := decide (k < m) && ltAt L k l
theorem hit_false {L : List (Int × Int)} {m i j k l : Nat} (h : hit L m k l = false) (hm : L.length = m) (hk : k = 2 * i + 1 + j) (hl : l = lst L i j) : l = lst L i (j + 1) := by
  subst hm; subst hk; subst hl
  unfold hit at h
  by_cases h1 : 2 * i + 1 + j < L.length
  · simp [h1] at h; exact (lst_miss h).symm
  · exact (lst_no h1).symm
theorem hit_true {L : List (Int × Int)} {m i j k l : Nat} (h : hit L m k l = true) (hm : L.length = m) (hk : k = 2 * i + 1 + j) (hl : l = lst L i j) : k = lst L i (j + 1) := by
  subst hm; subst hk; subst hl
  simp [hit] at h
  exact (lst_hit h.1 h.2).symm

set_option maxHeartbeats 2000000 in
set_option maxRecDepth 100000 in
theorem pop_any (cb : Nat) (now : Int) (mv sv : Value) (L : List (Int × Int)) (w : World)
    (hp : Hp w cb now mv sv L) (hn : L.length ≤ 1000000) (hne : 0 < L.length) (ho : Ord L) :
    Calls Try.prog 39 #[.pointer (some ⟨cb, 0, none⟩)] w (Ret (.tuple #[]) (Popped w cb now mv sv L)) := by
  obtain ⟨g, cap, rfl, hlc, hgc⟩ := hp.shape hne
  obtain ⟨x, hx⟩ := some_of_lt (L := L) (k := L.length - 1) (by omega)
  have HS := Lib.hid (DInv.start hp ho hne hx)
  have c2 := cell_of hp.1 2
  have hla := encL_length L
  have fc := free_of hp.1 2
  obtain ⟨m, hm⟩ : ∃ m, L.length = m + 1 := ⟨L.length - 1, by omega⟩
  have hm1 : L.length - 1 = m := by omega
  have x1 := (hp.2.cellAt ((L.length - 1) * 2) (by omega)).trans (encL_at1 L _ x hx)
  have x2 := (hp.2.cellAt ((L.length - 1) * 2 + 1) (by omega)).trans (encL_at2 L _ x hx)
  obtain ⟨y, hy⟩ := some_of_lt (L := L) (k := 0) (by omega)
  have y1 := (hp.2.cellAt 0 (by omega)).trans (encL_at1 L 0 y hy)
  have y2 := (hp.2.cellAt 1 (by omega)).trans (encL_at2 L 0 y hy)
  have fy1 := hp.2.frozenAt 0
  have fy2 := hp.2.frozenAt 1
  have hgc' : cb ≠ g := Ne.symm hgc
  rw [hm1] at x1 x2 HS
  rw [hm] at c2 hlc
  have HL := Lib.hid hm
  have HX := Lib.hid hx
  have hmb : m ≤ 1000000 := by omega
  have hm0 : (0 : Int) < (m : Int) + 1 := by omega
  have hm2 : (m : Int) < (m : Int) + 1 := by omega
  have hm3 : (0 : Int) ≤ (m : Int) := by omega
  clear hp ho hx hy hla hm hm1 hne hn
  go_enter Try.func39, Try.ntmps39
  go_wp2_with fail
  go_region
  go_wp2
  clear x1 x2 y1 y2 fy1 fy2 fc c2
  go_loopw [3] (fun s wr => ∃ i : Nat, s = .int .i64 i ∧ DInv w cb now mv (.slice (some ⟨g, 0, none⟩) L.length cap) L i wr) (fun s _ => (m + 1 - (intOf s).toNat))
  case atStart => exact ⟨0, rfl, HS.out.drew⟩
  case round =>
    obtain ⟨i, rfl, hinv⟩ := hrel
    clear HS HX
    obtain ⟨wo, rfl⟩ : ∃ wo : World, wo = wr := ⟨_, rfl⟩
    obtain ⟨g1, cap1, L', hh, ht, hl, hm4, hdn, hil⟩ := hinv
    have hlm : L'.length = m := by have := HL.out; omega
    have c2 := cell_of hh.1 2
    have FH := Lib.hid hh; have FT := Lib.hid ht; have FM := Lib.hid hm4; have FD := Lib.hid hdn; have FL := Lib.hid hl; have FI := Lib.hid hil; have Fm := Lib.hid hlm
    have him : i ≤ m := by omega
    rw [hlm] at c2
    clear hh ht hm4 hdn hl hil hlm
    go_wp2_with fail
    generalize hW : (wo.alloc _) = W
    have k0 : W.cell? ⟨wo.heap.size, 0, none⟩ = some (.int .i64 (2 * i + 1)) := by rw [← hW]; simp
    have k1 : W.cell? ⟨wo.heap.size, 1, none⟩ = some (.int .i64 (2 * i + 2)) := by rw [← hW]; simp
    have hF : Hid (Frm [] wo W) := by rw [← hW]; exact (Frm.refl _ _).alloc _
    clear hW
    have HH : Hid (Hp W cb now mv (.slice (some ⟨g1, 0, none⟩) L'.length cap1) L') := ⟨hF.out.at FH.out.1 (by simp), hF.out.owns FH.out.2 (by simp)⟩
    have K0 := Lib.hid k0; have K1 := Lib.hid k1; have C2 := Lib.hid c2
    clear k0 k1 c2
    go_loopw [4, 43] (fun s4 s43 w2 => ∃ j : Nat, j ≤ 2 ∧ s43 = .int .i64 j ∧ s4 = .int .i64 (lst L' i j) ∧ Frm [] W w2) (fun _ s43 _ => 2 - (intOf s43).toNat)
    case atStart => exact ⟨0, by omega, rfl, rfl, Frm.refl _ _⟩
    case round =>
      obtain ⟨j, hj, rfl, rfl, hf⟩ := hrel
      by_cases hj2 : j < 2
      · have hk : wr.cell? ⟨wo.heap.size, j, none⟩ = some (.int .i64 ((2 * i + 1 + j : Nat) : Int)) := by
          match j, hj2 with
          | 0, _ => rw [hf.keep K0.out]; simp
          | 1, _ => rw [hf.keep K1.out]; simp; omega
        have c2 := hf.keep (hF.out.keep C2.out)
        obtain ⟨k, hkk⟩ : ∃ k, k = 2 * i + 1 + j := ⟨_, rfl⟩
        obtain ⟨l, hll⟩ : ∃ l, l = lst L' i j := ⟨_, rfl⟩
        rw [← hkk] at hk
        have Hk := Lib.hid hkk; have Hl := Lib.hid hll; have Hf := Lib.hid hf
        rw [← hll]
        have hj3 : (j : Int) < 2 := by omega
        have hj4 : (0 : Int) ≤ (j : Int) := by omega
        clear hkk hll hf
        go_upto_region 8 with fail
        go_cut [67] (fun s67 w' => s67 = .bool (hit L' m k l) ∧ Frm [] wr w')
        case first =>
          by_cases hkm : k < m
          · have hkl : k < L'.length := by rw [Fm.out]; exact hkm
            have hll : l < L'.length := by
              rw [Hl.out]
              rcases lst_le (L := L') (i := i) (by rw [Fm.out]; omega) j with h | h
              · rw [h, Fm.out]; have := Hk.out; omega
              · exact h
            obtain ⟨a, ha⟩ := some_of_lt hkl
            obtain ⟨b, hb⟩ := some_of_lt hll
            have hla := encL_length L'
            have a1 := Hf.out.keep ((HH.out.2.cellAt (k * 2) (by omega)).trans (encL_at1 L' _ a ha))
            have a2 := Hf.out.keep ((HH.out.2.cellAt (k * 2 + 1) (by omega)).trans (encL_at2 L' _ a ha))
            have b1 := Hf.out.keep ((HH.out.2.cellAt (l * 2) (by omega)).trans (encL_at1 L' _ b hb))
            have b2 := Hf.out.keep ((HH.out.2.cellAt (l * 2 + 1) (by omega)).trans (encL_at2 L' _ b hb))
            have hkm' : (k : Int) < (m : Int) := by omega
            have hlm' : (l : Int) < (m : Int) := by have := Fm.out; omega
            have hk0 : (0 : Int) ≤ (k : Int) := by omega
            have hl0 : (0 : Int) ≤ (l : Int) := by omega
            have Hhit : Hid (hit L' m k l = decide (ent a b < 0)) := by show _ = _; simp [hit, hkm, ltAt, List.getD, ha, hb]
            clear ha hb hla hkl hll hk
            go_region_held3 (fun w' => w'.cell? ⟨cb, 2, none⟩ = some (.slice (some ⟨g1, 0, none⟩) m cap1) ∧ w'.cell? ⟨g1, k * 2, none⟩ = some (.int .i64 a.1) ∧ w'.cell? ⟨g1, k * 2 + 1, none⟩ = some (.int .i64 a.2) ∧ w'.cell? ⟨g1, l * 2, none⟩ = some (.int .i64 b.1) ∧ w'.cell? ⟨g1, l * 2 + 1, none⟩ = some (.int .i64 b.2))
              (first
                | go_keep
                | (go_split_ands
                   refine ⟨?_, ?_, ?_, ?_, ?_⟩
                   all_goals (refine hf.keep ?_; assumption)))
              (first
                | (go_at_call 37; go_must (refine (before_any _ _ _).mono ?_; rintro e w' ⟨rfl, hf⟩)))
            all_goals
              (go_wp2_with fail
               go_meet
               exact ⟨by rw [Hhit.out], hf.drewBack⟩)
          · have hd : decide ((k : Int) < (m : Int)) = false := by simpa using hkm
            have Hhit : Hid (hit L' m k l = false) := by show _ = _; simp [hit, hkm]
            go_quiet (fail)
            go_wp2_with fail
            go_meet
            exact ⟨by rw [Hhit.out], (Frm.refl _ _).drewN _⟩
        case rest =>
          obtain ⟨rfl, hf⟩ := hcut
          obtain ⟨t, ht⟩ : ∃ t, hit L' m k l = t := ⟨_, rfl⟩
          rw [ht]
          have Ht := Lib.hid ht
          have Hf2 := Lib.hid hf
          clear ht hf hk c2
          cases t
          · go_wp2
            go_roundw
            case rel =>
              exact ⟨j + 1, by omega, by go_num, by rw [← hit_false Ht.out Fm.out Hk.out Hl.out], Hf.out.trans Hf2.out⟩
            case measure => simp [intOf]; omega
          · go_wp2
            go_roundw
            case rel =>
              exact ⟨j + 1, by omega, by go_num, by rw [← hit_true Ht.out Fm.out Hk.out Hl.out], Hf.out.trans Hf2.out⟩
            case measure => simp [intOf]; omega
      · obtain rfl : j = 2 := by omega
        by_cases hli : lst L' i 2 = i
        · rw [hli]
          have HLI := Lib.hid hli
          have HF := Lib.hid hf
          clear hli hf
          go_wp2
          go_end0
          exact ⟨rfl, DInv.done FH.out FT.out FL.out FM.out FD.out HLI.out (hF.out.trans HF.out)⟩
        · obtain ⟨l, hll⟩ : ∃ l, l = lst L' i 2 := ⟨_, rfl⟩
          have hlm : l < L'.length := by
            rcases lst_le (L := L') (i := i) (by rw [Fm.out]; exact him) 2 with h | h
            · exact absurd h hli
            · rw [hll]; exact h
          have hil : i < L'.length := by have := FI.out; have := (lst_min (L := L') (i := i)); omega
          rw [← hll]
          obtain ⟨a, ha⟩ := some_of_lt hil
          obtain ⟨b, hb⟩ := some_of_lt hlm
          have hla := encL_length L'
          have c2 := hf.keep (hF.out.keep C2.out)
          have a1 := hf.keep ((HH.out.2.cellAt (i * 2) (by omega)).trans (encL_at1 L' _ a ha))
          have a2 := hf.keep ((HH.out.2.cellAt (i * 2 + 1) (by omega)).trans (encL_at2 L' _ a ha))
          have b1 := hf.keep ((HH.out.2.cellAt (l * 2) (by omega)).trans (encL_at1 L' _ b hb))
          have b2 := hf.keep ((HH.out.2.cellAt (l * 2 + 1) (by omega)).trans (encL_at2 L' _ b hb))
          have HW : wr.ownsRow 0 70 2 _ _ _ := hf.owns HH.out.2 (by simp)
          have f1 := HW.frozenAt (i * 2)
          have f2 := HW.frozenAt (i * 2 + 1)
          have f3 := HW.frozenAt (l * 2)
          have f4 := HW.frozenAt (l * 2 + 1)
          have hne : l ≠ i := by rw [hll]; exact hli
          have hne2 : ((l : Int) == (i : Int)) = false := by rw [beq_eq_false_iff_ne]; omega
          have hil2 : i < l := by
            obtain ⟨_, _, _, _, h4⟩ := (lst_min (L := L') (i := i) hil 2)
            have h5 := (h4 hli).1
            rw [← hll] at h5; omega
          have hlm' : (l : Int) < (m : Int) := by have := Fm.out; omega
          have him' : (i : Int) < (m : Int) := by have := Fm.out; omega
          have hl0 : (0 : Int) ≤ (l : Int) := by omega
          have hi0 : (0 : Int) ≤ (i : Int) := by omega
          have HA := Lib.hid ha; have HB := Lib.hid hb; have HLL := Lib.hid hll; have HF := Lib.hid hf; have HN := Lib.hid hne
          have hlim : l < m := by have := Fm.out; omega
          clear hli ha hb hla hll hf HW hlm hil hne
          go_wp2_with fail
          go_region
          go_wp2
          go_roundw
          case rel =>
            have h := DInv.next FH.out FT.out FL.out FM.out FD.out (by rw [← HLL.out]; exact HN.out) HA.out (by rw [← HLL.out]; exact HB.out) (hF.out.trans HF.out)
            rw [← HLL.out] at h
            exact ⟨l, rfl, h.drew⟩
          case measure =>
            have h3 := (lst_min (L := L') (i := i) (by have := Fm.out; omega) 2)
            obtain ⟨_, _, _, _, h4⟩ := h3
            have h5 := (h4 (by rw [← HLL.out]; exact HN.out)).1
            rw [← HLL.out] at h5
            simp [intOf]; omega
end Go.Proofs.Ytdhkcjjcgpkkgaa
