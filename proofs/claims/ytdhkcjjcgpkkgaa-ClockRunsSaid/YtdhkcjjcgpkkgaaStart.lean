import Derived.Test.YtdhkcjjcgpkkgaaMeth
namespace Go.Proofs.Ytdhkcjjcgpkkgaa
open Go.RowKit Go.Maps

/-- the clock with a map that is made -/
def ClkM (w W : World) (cb : Nat) (now : Int) (D : DMap) (N : Nat) (F : List Nat) : Prop :=
  ∃ b sv L, Hp W cb now (.map (some b)) sv L ∧ Ord L ∧ L.length ≤ N ∧ (∀ t d, D t = some d → (d, t) ∈ L) ∧ (∀ e ∈ L, 0 ≤ e.2 ∧ e.2 < 256 ∧ 0 ≤ e.1 ∧ e.1 ≤ maxT) ∧
    MapAt Try.prog 3 W (some b) N (fInt D) (cnt D) ∧ Good now D ∧ Frm F w W ∧ (∀ x ∈ cb :: (sv.ownBlock.toList ++ [b]), x ∈ F ∨ w.heap.size ≤ x)
theorem ClkM.of_some {w : World} {cb b : Nat} {now : Int} {D : DMap} {N : Nat} {sv : Value} {L : List (Int × Int)} (hp : Hp w cb now (.map (some b)) sv L) (h1 : Ord L) (h2 : L.length ≤ N) (h3 : ∀ t d, D t = some d → (d, t) ∈ L)
    (h4 : ∀ e ∈ L, 0 ≤ e.2 ∧ e.2 < 256 ∧ 0 ≤ e.1 ∧ e.1 ≤ maxT) (hm : MapAt Try.prog 3 w (some b) N (fInt D) (cnt D)) (h5 : Good now D) : ClkM w w cb now D N (cb :: (sv.ownBlock.toList ++ [b])) :=
  ⟨b, sv, L, hp, h1, h2, h3, h4, hm, h5, Frm.refl _ _, fun _ hx => .inl hx⟩
theorem ClkM.of_none {w : World} {cb : Nat} {now : Int} {D : DMap} {N : Nat} {sv : Value} {L : List (Int × Int)} (hp : Hp w cb now (.map none) sv L) (h1 : Ord L) (h2 : L.length ≤ N) (h3 : ∀ t d, D t = some d → (d, t) ∈ L)
    (h4 : ∀ e ∈ L, 0 ≤ e.2 ∧ e.2 < 256 ∧ 0 ≤ e.1 ∧ e.1 ≤ maxT) (hm : MapAt Try.prog 3 w none N (fInt D) (cnt D)) (h5 : Good now D) :
    ClkM w ((w.setCell ⟨cb, 1, none⟩ (.map (some w.heap.size))).alloc (.map #[] 0)) cb now D N (cb :: (sv.ownBlock.toList ++ [])) := by
  have hcb := lt_of_block hp.1
  rw [← World.setCell_alloc_past (w := w) (.map #[] 0) cb 1 (.map (some w.heap.size)) hcb]
  have hc : (w.alloc (.map #[] 0)).heap[cb]? = _ := alloc_at hp.1
  have hf : Frm [] w (w.alloc (.map #[] 0)) := (Frm.refl _ _).alloc _
  have hcs : ∀ k, sv.ownBlock = some k → k ≠ cb := fun k hk e => by
    obtain ⟨c, hh⟩ := ownBlock_type hp.2 hk
    rw [e, hp.1] at hh; cases hh
  have hf2 : Frm [cb] (w.alloc (.map #[] 0)) ((w.alloc (.map #[] 0)).setCell ⟨cb, 1, none⟩ (.map (some w.heap.size))) := (Frm.refl _ _).setCell _ (.inl (by simp)) _
  rcases hm with ⟨_, hf0, hc0⟩ | ⟨b, _, h, _⟩
  · have hfe : fInt D = fun _ => none := funext hf0
    refine ⟨w.heap.size, sv, L, ⟨block_setCell hc 1 _, hf2.owns (hf.owns hp.2 (by simp)) (fun k hk hx => by simp at hx; exact hcs k hk hx)⟩, h1, h2, h3, h4, ?_, h5, (hf.mono (by simp)).then hf2 (by simp), ?_⟩
    · rw [hfe, hc0]
      exact ((MapAt.made Try.prog 3 w).mono (Nat.zero_le _)).frm hf2 (fun b hb hx => by simp at hx hb; omega)
    · intro x hx
      simp at hx
      rcases hx with rfl | hx | rfl
      · left; simp
      · left; simp [hx]
      · right; omega
  · cases h

theorem Clk.started {w W w2 w3 : World} {cb b : Nat} {now t k : Int} {sv : Value} {L : List (Int × Int)} {D : DMap} {N : Nat} {F : List Nat}
    (hp : Hp W cb now (.map (some b)) sv L) (hn : L.length ≤ N) (hL : ∀ t d, D t = some d → (d, t) ∈ L) (hE : ∀ e ∈ L, 0 ≤ e.2 ∧ e.2 < 256 ∧ 0 ≤ e.1 ∧ e.1 ≤ maxT)
    (hm : MapAt Try.prog 3 W (some b) N (fInt D) (cnt D)) (hg : Good now D) (hF : Frm F w W) (hs : ∀ x ∈ cb :: (sv.ownBlock.toList ++ [b]), x ∈ F ∨ w.heap.size ≤ x)
    (ht0 : 0 ≤ t) (ht1 : t < 256) (hk0 : 0 ≤ k) (hk1 : k ≤ maxT - now)
    (hm2 : MapAt Try.prog 3 w2 (some b) (N + 1) (updL (fInt D) (.int .i64 t) (some (.int .i64 (now + k)))) (if (fInt D (.int .i64 t)).isSome then cnt D else cnt D + 1)) (hf : Frm [b] W w2)
    (hq : Pushed w2 cb now (.map (some b)) sv L (now + k, t) w3) : ClkTo w cb now (upd D t (some (now + k))) (N + 1) F w3 := by
  obtain ⟨sv', L', hp', hl, hme, ho, hf3, hsv⟩ := hq
  have hb1 := hm.block rfl
  obtain ⟨es, cl, hbb⟩ := hb1
  have hbc : b ≠ cb := fun e => by rw [e, hp.1] at hbb; cases hbb
  have hbs : ∀ j, sv.ownBlock = some j → b ≠ j := fun j hj e => by
    obtain ⟨c, h3⟩ := ownBlock_type hp.2 hj
    rw [e, h3] at hbb; cases hbb
  have hlt := lt_of_block hbb
  have hsz := hf.size
  have hb2 := hm2.block rfl
  have hc := cnt_upd D ht0 ht1 (some (now + k))
  have hn1 := hg.1
  refine ⟨cb :: (sv'.ownBlock.toList ++ [b]), ⟨some b, sv', L', hp', ho, by omega, fun t' d' h => ?_, fun e he => ?_, ?_, hg.upd ht0 ht1 (by omega) (by omega), rfl⟩, ?_, ?_⟩
  · by_cases e : t' = t
    · subst e; rw [upd_same] at h; cases h; exact (hme _).2 (.inr rfl)
    · rw [upd_other _ _ e] at h; exact (hme _).2 (.inl (hL _ _ h))
  · rcases (hme e).1 he with h | h
    · exact hE e h
    · subst h; exact ⟨ht0, ht1, by show 0 ≤ now + k; omega, by show now + k ≤ maxT; omega⟩
  · have e1 := fInt_upd D t (some (now + k))
    rw [Option.map_some] at e1
    rw [e1, fInt_isSome] at hm2
    have : (if (D t).isSome then cnt D else cnt D + 1) = cnt (upd D t (some (now + k))) := by
      simp at hc; split at hc <;> simp_all <;> omega
    rw [this] at hm2
    exact hm2.frm hf3 (fun b' hb' hx => by
      cases hb'
      simp at hx
      rcases hx with h | h
      · exact hbc h
      · exact hbs _ h rfl)
  · refine (hF.then hf fun x hx => ?_).then hf3 fun x hx => ?_
    · simp at hx; subst hx; exact hs x (by simp)
    · simp at hx
      rcases hx with h | h
      · subst h; exact hs x (by simp)
      · exact hs x (by simp [h])
  · intro x hx
    simp at hx
    rcases hx with h | h | h
    · subst h; exact hs x (by simp)
    · rcases hsv x h with h | h
      · exact hs x (by simp [h])
      · right; have := hF.size; omega
    · subst h; exact hs x (by simp)

set_option maxHeartbeats 1000000 in
set_option maxRecDepth 100000 in
theorem start_any (cb : Nat) (now : Int) (D : DMap) (N : Nat) (F : List Nat) (t k : Int) (w : World) (h : Clk w cb now D N F) (hN : N ≤ 1000000) :
    Calls Try.prog 12 #[.pointer (some ⟨cb, 0, none⟩), .int .i64 t, .int .i64 k] w (Ret (.int .i64 (startE now t k)) (ClkTo w cb now (startD now D t k) (N + 1) F)) := by
  have hto := (h.mono (Nat.le_succ N)).to
  cases hok : okN t with
  | false =>
    have e1 : startE now t k = 2 := by simp [startE, hok]
    have e2 : startD now D t k = D := by simp [startD, e1]
    rw [e1, e2]
    have HC := Lib.hid hto
    have HK := Lib.hid hok
    clear e1 e2 h hto hok
    go_enter Try.func12, Try.ntmps12
    go_wp2_with (go_at_call 27; go_must (refine (fits_any _ _).mono ?_; rintro e w' ⟨rfl, rfl⟩; rw [HK.out]))
    go_ret
    exact ⟨rfl, HC.out⟩
  | true =>
    have hg := h.good
    have hn1 := hg.1
    have hn2 : now ≤ 1099511627776 := hg.2.1
    have HK := Lib.hid hok
    have hok2 : 0 ≤ t ∧ t < 256 := by simpa [okN] using hok
    obtain ⟨mb, sv, L, hp, h1, h2, h3, h4, hm, h5, rfl⟩ := h
    have c0 := cell_of hp.1 0
    by_cases hr : k < 0 ∨ maxT - now < k
    · have e1 : startE now t k = 3 := by simp [startE, hok, hr]
      have e2 : startD now D t k = D := by simp [startD, e1]
      rw [e1, e2]
      have HC := Lib.hid hto
      clear e1 e2 hto hok hg hok2 hp h1 h2 h3 h4 hm h5
      rcases hr with hr | hr
      · go_enter Try.func12, Try.ntmps12
        go_wp2_with (go_at_call 27; go_must (refine (fits_any _ _).mono ?_; rintro e w' ⟨rfl, rfl⟩; rw [HK.out]))
        go_ret
        exact ⟨rfl, HC.out⟩
      · have hr1 : decide (k < 0) = false := by simp; unfold maxT at hr; omega
        have hr2 : 1099511627776 - now < k := hr
        clear hr
        go_enter Try.func12, Try.ntmps12
        go_wp2_with (go_at_call 27; go_must (refine (fits_any _ _).mono ?_; rintro e w' ⟨rfl, rfl⟩; rw [HK.out]))
        go_ret
        exact ⟨rfl, HC.out⟩
    · have e1 : startE now t k = 0 := by simp [startE, hok, hr]
      have e2 : startD now D t k = upd D t (some (now + k)) := by simp [startD, e1]
      rw [e1, e2]
      have k0 : 0 ≤ k := by omega
      have k1 : k ≤ 1099511627776 - now := by unfold maxT at hr; omega
      have k0' : decide (k < 0) = false := by simp; omega
      have k1' : decide (1099511627776 - now < k) = false := by simp; omega
      have HL := Lib.hid hok2
      have c1 := cell_of hp.1 1
      have fc := free_of hp.1 1
      have hcb : cb < w.heap.size := lt_of_block hp.1
      clear e1 e2 hto hok hg hr
      cases mb with
      | none =>
        have HM := Lib.hid (ClkM.of_none hp h1 h2 h3 h4 hm h5)
        clear hp h1 h2 h3 h4 hm h5 hok2
        have hmm := @run_makeMap Try.prog
        have qT : ∀ (w : World) (r : Option Nat), (binOp .eql 24 (.map r) (.map none)).run Try.prog w = .ok (.bool r.isNone) w := fun w r => run_eql_map_nil w _ _ _ r Try.underlying24
        go_enter Try.func12, Try.ntmps12
        go_wp2_with (first | (go_at_call 27; go_must (refine (fits_any _ _).mono ?_; rintro e w' ⟨rfl, rfl⟩; rw [HK.out])))
        generalize hW : ((w.setCell ⟨cb, 1, none⟩ (.map (some w.heap.size))).alloc (.map #[] 0)) = W at HM ⊢
        clear hW c0 c1 fc
        obtain ⟨b, sv1, L1, hp, h1, h2, h3, h4, hm, h5, hF, hs⟩ := HM.out
        obtain ⟨w2, hrun, hm2, hf2⟩ := (hm.frm ((Frm.refl [] W).drew) (by simp)).store Try.key3 Try.underlying24 (by unfold maxLen; omega) (key_i64 (t := t) (by have := HL.out; omega) (by have := HL.out; omega)) trivial (.int .i64 (now + k))
        have d0 := cell_of hp.1 0
        have d1 := cell_of hp.1 1
        have hbc : b ≠ cb := fun e => by
          obtain ⟨es, cl, hh⟩ := hm.block rfl
          rw [e, hp.1] at hh; cases hh
        have hbs : ∀ j, sv1.ownBlock = some j → j ≠ b := fun j hj e => by
          obtain ⟨es, cl, hbb⟩ := hm.block rfl
          obtain ⟨c, h3⟩ := ownBlock_type hp.2 hj
          rw [e, hbb] at h3; cases h3
        have hf3 : Frm [b] W w2 := ((Frm.refl [b] W).drew).trans hf2
        have hp2 : Hp w2 cb now (.map (some b)) sv1 L1 := ⟨hf3.at hp.1 (by simp; exact Ne.symm hbc), hf3.owns hp.2 (fun j hj hx => hbs j hj (by simpa using hx))⟩
        have e0 := cell_of hp2.1 0
        have HP := Lib.hid (push_any cb now _ sv1 L1 (now + k, t) w2 hp2 (by omega) h1)
        have HS := Lib.hid (fun w3 => Clk.started (w := w) (w3 := w3) (t := t) (k := k) hp h2 h3 h4 hm h5 hF hs HL.out.1 HL.out.2 (by omega) k1 hm2 hf3)
        clear hp h1 h2 h3 h4 hm h5 hF hs hm2 hf2 hbc hbs hf3 hp2 HM
        go_region
        go_wp2_with (go_at_call 28; go_must (refine HP.out.mono ?_; rintro e w3 ⟨rfl, hq⟩))
        go_ret
        exact ⟨rfl, HS.out _ hq⟩
      | some b =>
        have HM := Lib.hid (ClkM.of_some hp h1 h2 h3 h4 hm h5)
        clear hp h1 h2 h3 h4 hm h5 hok2
        have qT : ∀ (w : World) (r : Option Nat), (binOp .eql 24 (.map r) (.map none)).run Try.prog w = .ok (.bool r.isNone) w := fun w r => run_eql_map_nil w _ _ _ r Try.underlying24
        go_enter Try.func12, Try.ntmps12
        go_wp2_with (go_at_call 27; go_must (refine (fits_any _ _).mono ?_; rintro e w' ⟨rfl, rfl⟩; rw [HK.out]))
        obtain ⟨W, hW⟩ : ∃ W, W = w := ⟨_, rfl⟩
        rw [← hW]
        have HM2 := HM.out
        conv at HM2 => arg 2; rw [← hW]
        clear hW c0 c1 fc hcb HM
        have HM := Lib.hid HM2
        clear HM2
        obtain ⟨b, sv1, L1, hp, h1, h2, h3, h4, hm, h5, hF, hs⟩ := HM.out
        obtain ⟨w2, hrun, hm2, hf2⟩ := (hm.frm ((Frm.refl [] W).drew) (by simp)).store Try.key3 Try.underlying24 (by unfold maxLen; omega) (key_i64 (t := t) (by have := HL.out; omega) (by have := HL.out; omega)) trivial (.int .i64 (now + k))
        have d0 := cell_of hp.1 0
        have d1 := cell_of hp.1 1
        have hbc : b ≠ cb := fun e => by
          obtain ⟨es, cl, hh⟩ := hm.block rfl
          rw [e, hp.1] at hh; cases hh
        have hbs : ∀ j, sv1.ownBlock = some j → j ≠ b := fun j hj e => by
          obtain ⟨es, cl, hbb⟩ := hm.block rfl
          obtain ⟨c, h3⟩ := ownBlock_type hp.2 hj
          rw [e, hbb] at h3; cases h3
        have hf3 : Frm [b] W w2 := ((Frm.refl [b] W).drew).trans hf2
        have hp2 : Hp w2 cb now (.map (some b)) sv1 L1 := ⟨hf3.at hp.1 (by simp; exact Ne.symm hbc), hf3.owns hp.2 (fun j hj hx => hbs j hj (by simpa using hx))⟩
        have e0 := cell_of hp2.1 0
        have HP := Lib.hid (push_any cb now _ sv1 L1 (now + k, t) w2 hp2 (by omega) h1)
        have HS := Lib.hid (fun w3 => Clk.started (w := w) (w3 := w3) (t := t) (k := k) hp h2 h3 h4 hm h5 hF hs HL.out.1 HL.out.2 (by omega) k1 hm2 hf3)
        clear hp h1 h2 h3 h4 hm h5 hF hs hm2 hf2 hbc hbs hf3 hp2 HM
        go_region
        go_wp2_with (go_at_call 28; go_must (refine HP.out.mono ?_; rintro e w3 ⟨rfl, hq⟩))
        go_ret
        exact ⟨rfl, HS.out _ hq⟩
end Go.Proofs.Ytdhkcjjcgpkkgaa
