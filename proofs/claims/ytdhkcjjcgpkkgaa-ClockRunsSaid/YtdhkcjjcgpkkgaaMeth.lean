import Derived.Test.YtdhkcjjcgpkkgaaRep
namespace Go.Proofs.Ytdhkcjjcgpkkgaa
open Go.RowKit Go.Maps

theorem Clk.stopped {w w' : World} {cb : Nat} {now t : Int} {mb : Option Nat} {sv : Value} {L : List (Int × Int)} {D : DMap} {N : Nat} {d : Int}
    (hp : Hp w cb now (.map mb) sv L) (ho : Ord L) (hn : L.length ≤ N) (hL : ∀ t d, D t = some d → (d, t) ∈ L) (hE : ∀ e ∈ L, 0 ≤ e.2 ∧ e.2 < 256 ∧ 0 ≤ e.1 ∧ e.1 ≤ maxT)
    (hg : Good now D) (hd : D t = some d) (hm : MapAt Try.prog 3 w mb N (fInt D) (cnt D)) (hm' : MapAt Try.prog 3 w' mb N (updL (fInt D) (.int .i64 t) none) (if (fInt D (.int .i64 t)).isSome then cnt D - 1 else cnt D)) (hf : Frm mb.toList w w') :
    ClkTo w cb now (upd D t none) N (cb :: (sv.ownBlock.toList ++ mb.toList)) w' := by
  have hb := hg.2.2 t d hd
  have hc := cnt_upd D hb.1 hb.2.1 none
  have hne1 : ∀ b, mb = some b → b ≠ cb := fun b e h => by
    obtain ⟨es, cl, hh⟩ := hm.block e
    rw [h, hp.1] at hh; cases hh
  have hne2 : ∀ b k, mb = some b → sv.ownBlock = some k → b ≠ k := fun b k e e2 h => by
    obtain ⟨es, cl, hh⟩ := hm.block e
    obtain ⟨c, h3⟩ := ownBlock_type hp.2 e2
    rw [h, h3] at hh; cases hh
  refine ⟨_, ⟨mb, sv, L, ⟨hf.at hp.1 ?_, hf.owns hp.2 ?_⟩, ho, hn, fun t' d' h => ?_, hE, ?_, hg.del t, rfl⟩, hf.mono ?_, fun x hx => .inl hx⟩
  · intro hx; simp at hx; exact hne1 _ hx rfl
  · intro k hk hx; simp at hx; exact hne2 _ k hx hk rfl
  · by_cases e : t' = t
    · subst e; rw [upd_same] at h; cases h
    · rw [upd_other _ _ e] at h; exact hL _ _ h
  · have e1 := fInt_upd D t none
    rw [Option.map_none] at e1
    rw [e1] at hm'
    rw [fInt_isSome] at hm'
    simp only [hd, Option.isSome_some, if_true, Option.isSome_none] at hm' hc
    have : cnt (upd D t none) = cnt D - 1 := by simp at hc; omega
    rw [this]; exact hm'
  · intro x hx; left; simp at hx; simp [hx]

set_option maxHeartbeats 400000 in
theorem stop_any (cb : Nat) (now : Int) (D : DMap) (N : Nat) (F : List Nat) (t : Int) (w : World) (h : Clk w cb now D N F) :
    Calls Try.prog 18 #[.pointer (some ⟨cb, 0, none⟩), .int .i64 t] w (Ret (.int .i64 (leftE D t)) (ClkTo w cb now (stopD D t) N F)) := by
  by_cases hz : leftE D t = 0
  · have hok : okN t = true := by
      cases hk : okN t with
      | true => rfl
      | false => simp [leftE, hk] at hz
    have hok2 : 0 ≤ t ∧ t < 256 := by simpa [okN] using hok
    obtain ⟨d, hd⟩ : ∃ d, D t = some d := by
      cases hd : D t with
      | some d => exact ⟨d, rfl⟩
      | none => simp [leftE, hok, hd] at hz
    obtain ⟨mb, sv, L, hp, h1, h2, h3, h4, hm, h5, rfl⟩ := h
    obtain ⟨w', hrun, hm', hf⟩ := hm.drop Try.key3 Try.underlying24 (key_i64 (t := t) (by omega) (by omega)) 0
    have HC := Lib.hid (Clk.stopped hp h1 h2 h3 h4 h5 hd hm hm' hf)
    have hst : stopD D t = upd D t none := by simp [stopD, hz]
    rw [hst, hz]
    have HL := Lib.hid (left_any cb now D N _ t w ⟨mb, sv, L, hp, h1, h2, h3, h4, hm, h5, rfl⟩)
    have HZ := Lib.hid hz
    have c1 := cell_of hp.1 1
    clear hp h1 h2 h3 h4 h5 hm hm' hf hst hd hok hok2 hz
    go_enter Try.func18, Try.ntmps18
    go_wp2_with (go_at_call 20; go_must (refine HL.out.mono ?_; rintro e w'' ⟨rfl, rfl⟩; rw [HZ.out]))
    go_ret
    exact ⟨rfl, HC.out⟩
  · have hst : stopD D t = D := by simp [stopD, hz]
    rw [hst]
    have HL := Lib.hid (left_any cb now D N _ t w h)
    have HC := Lib.hid h.to
    have hz2 : (leftE D t != 0) = true := by simpa using hz
    generalize leftE D t = x at *
    clear hst
    have HZ := Lib.hid hz; clear hz
    clear h
    go_enter Try.func18, Try.ntmps18
    go_wp2_with (go_at_call 20; go_must (refine HL.out.mono ?_; rintro e w'' ⟨rfl, rfl⟩))
    go_ret
    exact ⟨rfl, HC.out⟩
end Go.Proofs.Ytdhkcjjcgpkkgaa
