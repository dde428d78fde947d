/- FragmentSplits: the walk. -/
import Derived.Test.YtomjnbcaofebfaaKnown
namespace Go.Proofs.Ytomjnbcaofebfaa
open Go.RowKit Go.BigFrame

/-- the bytes that are one's own, while they turn -/
def OW (n : Nat) (ao : Option Addr) (F : List Nat) (W : World) : Prop :=
  n = 0 ∨ ∃ g cur, ao = some ⟨g, 0, none⟩ ∧ F = [g] ∧ W.heap[g]? = some (.cells cur 5 (0, 0)) ∧ ∀ k, k < n → ∃ y : Int, cur[k]? = some (.int .u8 y)
theorem OW.of {w : World} {base n : Nat} {ao : Option Addr} {cap : Nat} {l : List UInt8} (h : w.ownsRow base 5 1 (.slice ao n cap) n (l.map u8)) (hn : l.length = n) : ∃ F : List Nat, OW n ao F w ∧ ∀ x ∈ F, x < w.heap.size ∧ base ≤ x := by
  rcases h.2 with ⟨h1, h2⟩ | ⟨g, c, cur, hv, hg, hb, h3, h4, h5, ht⟩
  · exact ⟨[], .inl h2, by simp⟩
  · cases hv
    refine ⟨[g], .inr ⟨g, cur, rfl, rfl, hb, fun k hk => ?_⟩, fun x hx => by simp at hx; subst hx; exact ⟨lt_of_block hb, hg⟩⟩
    obtain ⟨x, hx⟩ : ∃ x, l[k]? = some x := ⟨_, List.getElem?_eq_getElem (by omega)⟩
    refine ⟨x.toNat, ?_⟩
    have h6 : (cur.toList.take (n * 1))[k]? = some (u8 x) := by rw [ht]; simp [hx]
    rw [List.getElem?_take_of_lt (by omega)] at h6
    simpa [u8] using h6
theorem OW.frm0 {n : Nat} {ao : Option Addr} {F : List Nat} {w w' : World} (h : OW n ao F w) (hf : Frm [] w w') : OW n ao F w' := by
  rcases h with h | ⟨g, cur, h1, h2, h3, h4⟩
  · exact .inl h
  · exact .inr ⟨g, cur, h1, h2, hf.at h3 (by simp), h4⟩
theorem OW.set {n : Nat} {g : Nat} {F : List Nat} {w : World} (h : OW n (some ⟨g, 0, none⟩) F w) (i : Nat) (hi : i < n) (y : Int) : OW n (some ⟨g, 0, none⟩) F (w.setCell ⟨g, i, none⟩ (.int .u8 y)) ∧ Frm F w (w.setCell ⟨g, i, none⟩ (.int .u8 y)) := by
  rcases h with h | ⟨g', cur, h1, h2, h3, h4⟩
  · omega
  · cases h1
    subst h2
    refine ⟨.inr ⟨g, _, rfl, rfl, block_setCell h3 i _, fun k hk => ?_⟩, (Frm.refl _ _).setCell _ (.inl (by simp)) _⟩
    obtain ⟨z, hz⟩ := h4 k hk
    by_cases hki : k = i
    · subst hki
      refine ⟨y, ?_⟩
      rw [Array.getElem?_setIfInBounds_self_of_lt (Array.getElem?_eq_some_iff.1 hz).1]
    · exact ⟨z, by rw [Array.getElem?_setIfInBounds_ne (by omega)]; exact hz⟩
set_option maxHeartbeats 4000000 in
set_option maxRecDepth 100000 in
theorem splits_big (m size : Int) (ao : Option Addr) (n cap : Nat) (w : World) (hn : 3000 < n) : Calls Try.prog 3 #[.int .i64 m, .slice ao n cap, .int .i64 size] w (Ret (.bool true) (Frm [] w)) := by
  have hn' : (3000 : Int) < (n : Int) := by omega
  go_enter Try.func3, Try.ntmps3
  go_wp2_with (go_at_call 8; go_must (refine (known_any w).mono ?_; rintro e w2 ⟨rfl, hf⟩; have HF := Lib.hid hf; clear hf))
  go_ret
  exact ⟨rfl, HF.out⟩
theorem splitE_parts {m size : Int} {n : Nat} (h : splitE m size n = 0) : nparts n size.toNat ≤ 255 := by
  unfold splitE at h
  split at h
  · split at h
    · cases h
    · omega
  · cases h
set_option maxHeartbeats 4000000 in
set_option maxRecDepth 100000 in
theorem splits_any (m size : Int) (ao : Option Addr) (cap : Nat) (l : List UInt8) (w : World) (h : Byts w (.slice ao l.length cap) l) (hn : l.length ≤ 3000) : Calls Try.prog 3 #[.int .i64 m, .slice ao l.length cap, .int .i64 size] w (Ret (.bool true) (Frm [] w)) := by
  have hn' : ¬ (3000 : Int) < (l.length : Int) := by omega
  have HB := Lib.hid h; have HN := Lib.hid hn
  have HOL : Hid ((w.alloc (.cells #[] 5)).ownsRow w.heap.size 5 1 (.slice (some ⟨w.heap.size, 0, none⟩) 0 0) 0 []) := Lib.hid (own_lit (w := w) (base := w.heap.size) [] (Nat.le_refl _) (by simp))
  obtain ⟨ps, hps⟩ : ∃ ps, (if splitE m size l.length = 0 then splitL m l size.toNat (nparts l.length size.toNat) else []) = ps := ⟨_, rfl⟩
  obtain ⟨E, hE⟩ : ∃ E, splitE m size l.length = E := ⟨_, rfl⟩
  have CS1 : Hid (∀ W v, Byts W v l → Calls Try.prog 9 #[.int .i64 m, v, .int .i64 size] W (RetV fun v' w' => ∃ lv, v' = .tuple #[lv, .int .i64 E] ∧ Prts W.heap.size w' lv ps ∧ Frm [] W w')) := Lib.hid fun W v hv => by
    have := split_any m size l v W hv hn
    unfold SplitTo at this
    rw [hps, hE] at this
    exact this
  have CS2 : Hid (∀ W v, Byts W v l → Calls Try.prog 10 #[.int .i64 m, v, .int .i64 size] W (RetV fun v' w' => ∃ lv, v' = .tuple #[lv, .int .i64 E] ∧ Prts W.heap.size w' lv ps ∧ Frm [] W w')) := Lib.hid fun W v hv => by
    have := refSplit_any m size l v W hv hn
    unfold SplitTo at this
    rw [hps, hE] at this
    exact this
  have HPL : Hid (ps.length ≤ 100000) := Lib.hid (by
    rw [← hps]
    split
    · rw [splitL, List.length_map, List.length_range]
      exact Nat.le_trans (splitE_parts ‹_›) (by omega)
    · simp)
  clear h hn hps hE
  go_enter Try.func3, Try.ntmps3
  go_upto_region 6 with (first
    | (at_builtin; refine wpList_app_bytes rfl (.tmp 17) (.tmp 18) rfl w.heap.size _ _ rfl rfl [] l ?_ ?_ ?_ ?_ ?_; go_must ((exact HOL.out); (exact HB.out.frm0 ((Frm.refl [] w).alloc _)); (have := HN.out; simp; omega); (simp); intro av cv w1 hown hgrow; rw [List.nil_append] at hown ⊢; have HO := Lib.hid hown; have F1 : Hid (Frm [] w w1) := Lib.hid (((Frm.refl [] w).alloc _).grown hgrow (fun k hk => .inr (by cases hk; exact Nat.le_refl _))); clear hown hgrow))
    | (go_at_call 9; go_must (refine (CS1.out w1 _ (Byts.of_own HO.out)).mono ?_; clear CS1; rintro e w2 ⟨v, rfl, lv, rfl, hp, hf⟩; have PA := Lib.hid hp; obtain ⟨al, cl, rfl, -⟩ := hp; have G2 := Lib.hid hf; have F2 := Lib.hid (F1.out.trans hf); clear hf))
    | (go_at_call 10; go_must (refine (CS2.out w2 _ (HB.out.frm0 F2.out)).mono ?_; clear CS2; rintro e w3 ⟨v, rfl, rv, rfl, hp, hf⟩; have PB := Lib.hid hp; obtain ⟨ar, cr, rfl, -⟩ := hp; have F3 := Lib.hid (F2.out.trans hf); have G3 := Lib.hid hf; clear hf)))
  obtain ⟨F, hOW, hFb⟩ := OW.of HO.out rfl
  have HOW := Lib.hid (hOW.frm0 (G2.out.trans G3.out))
  have HFL : Hid (∀ x ∈ F, x < w1.heap.size ∧ w.heap.size ≤ x) := Lib.hid hFb
  clear hOW hFb HOL
  have HL3 : Hid (l.length ≤ 3000) := HN
  obtain ⟨n, hn⟩ : ∃ n, l.length = n := ⟨_, rfl⟩
  rw [hn] at HOW HL3 ⊢
  clear hn HN
  go_wp2
  go_loopw [12] (fun s12 wr => ∃ i : Nat, s12 = .int .i64 i ∧ i ≤ n ∧ OW n av F wr ∧ Frm F w3 wr) (fun s12 _ => n - (intOf s12).toNat)
  case atStart => exact ⟨0, rfl, Nat.zero_le _, HOW.out, Frm.refl _ _⟩
  case round =>
    obtain ⟨i, rfl, hi, how, hf⟩ := hrel
    have HW := Lib.hid how; have HF := Lib.hid hf
    clear how hf HOW
    by_cases hlt : i < n
    · have hlt' : (i : Int) < (n : Int) := by omega
      have hi0 : (0 : Int) ≤ (i : Int) := by omega
      have hi3 : (i : Int) < 3000 := by have := HL3.out; omega
      have how := HW.out
      rcases how with h | ⟨g, cur, rfl, hF, hb, hc⟩
      · omega
      · obtain ⟨y, hy⟩ := hc i hlt
        have ci : wr.cell? ⟨g, i, none⟩ = some (.int .u8 y) := (cell_of hb i).trans hy
        have fi := free_of hb i
        clear hF hb hc hy
        go_wp2
        refine ⟨⟨i + 1, by simp, hlt, (HW.out.set i hlt _).1, HF.out.trans (HW.out.set i hlt _).2⟩, by simp [intOf]; omega⟩
    · obtain rfl : i = n := by omega
      have hge : ¬ (i : Int) < (i : Int) := by omega
      have hfw : Frm [] w wr := F3.out.then HF.out (fun x hx => .inr (HFL.out x hx).2)
      have HFW := Lib.hid hfw
      have HPA := Lib.hid ((PA.out.frm G3.out (by simp)).frm HF.out (fun x hx => (HFL.out x hx).1))
      have HPB := Lib.hid (PB.out.frm HF.out (fun x hx => by have := (HFL.out x hx).1; have := G2.out.size; omega))
      clear hfw
      go_wp2_with (first
        | (go_at_call 11; go_must (refine (parts_ok _ _ _ _ _ _ HPA.out HPB.out HPL.out).mono ?_; rintro e w4 ⟨rfl, hf⟩; have F4 := Lib.hid (HFW.out.trans hf); clear hf))
        | (go_at_call 12; go_must (refine (num_any _ _).mono ?_; rintro e w' ⟨rfl, rfl⟩))
        | (go_at_call 8; go_must (refine (known_any _).mono ?_; rintro e w8 ⟨rfl, hf⟩; have F8 := Lib.hid (F4.out.trans hf); clear hf)))
      go_ret
      exact ⟨rfl, F8.out⟩
end Go.Proofs.Ytomjnbcaofebfaa
