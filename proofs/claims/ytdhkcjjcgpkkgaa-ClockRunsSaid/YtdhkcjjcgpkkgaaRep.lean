import Derived.Test.YtdhkcjjcgpkkgaaPop
import Derived.Test.YtdhkcjjcgpkkgaaSpec
namespace Go.Proofs.Ytdhkcjjcgpkkgaa
open Go.RowKit Go.Maps

theorem Try.key3 : Keyed Try.prog 3 := int_keyed Try.underlying3
theorem Try.zero3 (w : World) : (zeroValue 3).run Try.prog w = .ok (.int .i64 0) w := by kernel_rfl
theorem wf_i64 {t : Int} (h0 : -9223372036854775808 ≤ t) (h1 : t ≤ 9223372036854775807) : (Lit.int .i64 t).wf = true := WalkArith.wf_i64 (by omega)
theorem key_i64 {t : Int} (h0 : -9223372036854775808 ≤ t) (h1 : t ≤ 9223372036854775807) : keyOf Try.prog 3 (.int .i64 t) = some (.int .i64 t) := keyOf_int_mk Try.underlying3 (wf_i64 h0 h1)

/-- the clock at block cb: its time, its timers; N: how long its heap may be; F: its blocks -/
def Clk (w : World) (cb : Nat) (now : Int) (D : DMap) (N : Nat) (F : List Nat) : Prop :=
  ∃ mb sv L, Hp w cb now (.map mb) sv L ∧ Ord L ∧ L.length ≤ N ∧ (∀ t d, D t = some d → (d, t) ∈ L) ∧ (∀ e ∈ L, 0 ≤ e.2 ∧ e.2 < 256 ∧ 0 ≤ e.1 ∧ e.1 ≤ maxT) ∧
    MapAt Try.prog 3 w mb N (fInt D) (cnt D) ∧ Good now D ∧ F = cb :: (sv.ownBlock.toList ++ mb.toList)
/-- behind a call on the clock -/
def ClkTo (w : World) (cb : Nat) (now : Int) (D : DMap) (N : Nat) (F : List Nat) (w' : World) : Prop :=
  ∃ F', Clk w' cb now D N F' ∧ Frm F w w' ∧ ∀ x ∈ F', x ∈ F ∨ w.heap.size ≤ x

theorem Clk.lt {w : World} {cb : Nat} {now : Int} {D : DMap} {N : Nat} {F : List Nat} (h : Clk w cb now D N F) : ∀ x ∈ F, x < w.heap.size := by
  obtain ⟨mb, sv, L, hp, _, _, _, _, hm, _, rfl⟩ := h
  intro x hx
  simp at hx
  rcases hx with rfl | hx | hx
  · exact lt_of_block hp.1
  · exact ownBlock_lt hp.2 hx
  · obtain ⟨es, cl, hb⟩ := hm.block hx; exact lt_of_block hb
theorem Clk.frm {w w' : World} {cb : Nat} {now : Int} {D : DMap} {N : Nat} {F G : List Nat} (h : Clk w cb now D N F) (hf : Frm G w w') (hn : ∀ x ∈ F, x ∉ G) : Clk w' cb now D N F := by
  obtain ⟨mb, sv, L, hp, h1, h2, h3, h4, hm, h5, rfl⟩ := h
  exact ⟨mb, sv, L, ⟨hf.at hp.1 (hn _ (by simp)), hf.owns hp.2 (fun k hk => hn k (by simp [hk]))⟩, h1, h2, h3, h4, hm.frm hf (fun b hb => hn b (by simp [hb])), h5, rfl⟩
theorem Clk.good {w : World} {cb : Nat} {now : Int} {D : DMap} {N : Nat} {F : List Nat} (h : Clk w cb now D N F) : Good now D := by
  obtain ⟨mb, sv, L, hp, h1, h2, h3, h4, hm, h5, rfl⟩ := h; exact h5
theorem Clk.mono {w : World} {cb : Nat} {now : Int} {D : DMap} {N N' : Nat} {F : List Nat} (h : Clk w cb now D N F) (hN : N ≤ N') : Clk w cb now D N' F := by
  obtain ⟨mb, sv, L, hp, h1, h2, h3, h4, hm, h5, rfl⟩ := h
  exact ⟨mb, sv, L, hp, h1, by omega, h3, h4, hm.mono hN, h5, rfl⟩
theorem Clk.to {w : World} {cb : Nat} {now : Int} {D : DMap} {N : Nat} {F : List Nat} (h : Clk w cb now D N F) : ClkTo w cb now D N F w := ⟨F, h, Frm.refl _ _, fun _ hx => .inl hx⟩
theorem ClkTo.drew {w w' : World} {cb : Nat} {now : Int} {D : DMap} {N : Nat} {F : List Nat} (h : ClkTo w cb now D N F w') : ClkTo w cb now D N F w'.drew := by
  obtain ⟨F', h1, h2, h3⟩ := h
  exact ⟨F', h1.frm ((Frm.refl [] _).drew) (by simp), h2.drew, h3⟩
theorem ClkTo.drewN {w w' : World} {cb : Nat} {now : Int} {D : DMap} {N : Nat} {F : List Nat} (h : ClkTo w cb now D N F w') (n : Nat) : ClkTo w cb now D N F (w'.drewN n) := by
  obtain ⟨F', h1, h2, h3⟩ := h
  exact ⟨F', h1.frm ((Frm.refl [] _).drewN n) (by simp), h2.drewN n, h3⟩
theorem ClkTo.frm {w w' w2 : World} {cb : Nat} {now : Int} {D : DMap} {N : Nat} {F : List Nat} (h : ClkTo w cb now D N F w') (hf : Frm [] w' w2) : ClkTo w cb now D N F w2 := by
  obtain ⟨F', h1, h2, h3⟩ := h
  exact ⟨F', h1.frm hf (by simp), h2.then hf (by simp), h3⟩
theorem ClkTo.trans {w w' w2 : World} {cb : Nat} {_ now' : Int} {_ D' : DMap} {_ N' : Nat} {F F' : List Nat} (h2 : Frm F w w') (h3 : ∀ x ∈ F', x ∈ F ∨ w.heap.size ≤ x) (k : ClkTo w' cb now' D' N' F' w2) : ClkTo w cb now' D' N' F w2 := by
  obtain ⟨F2, k1, k2, k3⟩ := k
  refine ⟨F2, k1, h2.then k2 h3, fun x hx => ?_⟩
  rcases k3 x hx with h | h
  · exact h3 x h
  · right; have := h2.size; omega
theorem Clk.zero {w : World} {cb : Nat} (h : w.heap[cb]? = some (.cells #[.int .i64 0, .map none, .slice none 0 0] 27 (0, 0))) : Clk w cb 0 D0 0 [cb] :=
  ⟨none, .slice none 0 0, [], ⟨h, World.ownsRow_nil _ _ _ _⟩, fun k a b _ ha => by simp at ha, by simp, fun _ _ h => (by cases h), by simp, .inl ⟨rfl, fun k => by unfold fInt; split <;> rfl, cntK_none (fun _ => rfl) 256⟩, ⟨by omega, by decide, fun _ _ h => (by cases h)⟩, rfl⟩

set_option maxHeartbeats 400000 in
theorem fits_any (t : Int) (w : World) : Calls Try.prog 27 #[.int .i64 t] w (Ret (.bool (okN t)) (w = ·)) := by
  by_cases h0 : 0 ≤ t
  · by_cases h1 : t < 256
    · go_enter Try.func27, Try.ntmps27
      go_wp2
      go_ret
      exact ⟨by simp [okN, h0, h1], rfl⟩
    · have h1' : decide (t < 256) = false := by simpa using h1
      go_enter Try.func27, Try.ntmps27
      go_wp2
      go_ret
      exact ⟨by simp [okN, h0, h1], rfl⟩
  · have h0' : decide (0 ≤ t) = false := by simpa using h0
    go_enter Try.func27, Try.ntmps27
    go_wp2
    go_ret
    exact ⟨by simp [okN, h0'], rfl⟩

set_option maxHeartbeats 400000 in
theorem now_any (cb : Nat) (now : Int) (D : DMap) (N : Nat) (F : List Nat) (w : World) (h : Clk w cb now D N F) : Calls Try.prog 22 #[.pointer (some ⟨cb, 0, none⟩)] w (Ret (.int .i64 now) (w = ·)) := by
  obtain ⟨mb, sv, L, hp, _⟩ := h
  have c0 := cell_of hp.1 0
  clear hp
  go_enter Try.func22, Try.ntmps22
  go_wp2
  go_ret
  exact ⟨rfl, rfl⟩
set_option maxHeartbeats 400000 in
theorem len_any (cb : Nat) (now : Int) (D : DMap) (N : Nat) (F : List Nat) (w : World) (h : Clk w cb now D N F) : Calls Try.prog 23 #[.pointer (some ⟨cb, 0, none⟩)] w (Ret (.int .i64 (cnt D)) (w = ·)) := by
  obtain ⟨mb, sv, L, hp, _, _, _, _, hm, _⟩ := h
  have c1 := cell_of hp.1 1
  have hl := hm.len Try.underlying24
  clear hp hm
  go_enter Try.func23, Try.ntmps23
  go_wp2
  go_ret
  exact ⟨rfl, rfl⟩
set_option maxHeartbeats 400000 in
theorem left_any (cb : Nat) (now : Int) (D : DMap) (N : Nat) (F : List Nat) (t : Int) (w : World) (h : Clk w cb now D N F) :
    Calls Try.prog 20 #[.pointer (some ⟨cb, 0, none⟩), .int .i64 t] w (Ret (.tuple #[.int .i64 (leftV now D t), .int .i64 (leftE D t)]) (w = ·)) := by
  have hg := h.good
  obtain ⟨mb, sv, L, hp, _, _, _, _, hm, _⟩ := h
  cases hok : okN t with
  | false =>
    have e1 : leftE D t = 2 := by simp [leftE, hok]
    have e2 : leftV now D t = 0 := by simp [leftV, e1]
    rw [e1, e2]
    clear e1 e2 hp hm hg
    have HK := Lib.hid hok; clear hok
    go_enter Try.func20, Try.ntmps20
    go_wp2_with (go_at_call 27; go_must (refine (fits_any _ _).mono ?_; rintro e w' ⟨rfl, rfl⟩; rw [HK.out]))
    go_ret2
    exact ⟨rfl, rfl⟩
  | true =>
    have hok2 : 0 ≤ t ∧ t < 256 := by simpa [okN] using hok
    have c1 := cell_of hp.1 1
    have c0 := cell_of hp.1 0
    have hl := hm.look_ok Try.key3 Try.underlying24 (Try.zero3 _) (key_i64 (t := t) (by omega) (by omega))
    cases hd : D t with
    | none =>
      have e1 : leftE D t = 9 := by simp [leftE, hok, hd]
      have e2 : leftV now D t = 0 := by simp [leftV, e1]
      rw [e1, e2]
      simp only [fInt, hd, Option.map_none, Option.getD_none, Option.isSome_none] at hl
      clear e1 e2 hp hm hg hok2 hd
      have HK := Lib.hid hok; clear hok
      go_enter Try.func20, Try.ntmps20
      go_wp2_with (go_at_call 27; go_must (refine (fits_any _ _).mono ?_; rintro e w' ⟨rfl, rfl⟩; rw [HK.out]))
      go_ret2
      exact ⟨rfl, rfl⟩
    | some d =>
      have e1 : leftE D t = 0 := by simp [leftE, hok, hd]
      have e2 : leftV now D t = d - now := by simp [leftV, e1, hd]
      have hb := hg.2.2 t d hd
      have hn1 := hg.1
      have hn2 : now ≤ 1099511627776 := hg.2.1
      have hb1 := hb.2.2.1
      have hb2 : d ≤ 1099511627776 := hb.2.2.2
      rw [e1, e2]
      simp only [fInt, hd, Option.map_some, Option.getD_some, Option.isSome_some] at hl
      clear e1 e2 hp hm hg hok2 hd hb
      have HK := Lib.hid hok; clear hok
      go_enter Try.func20, Try.ntmps20
      go_wp2_with (go_at_call 27; go_must (refine (fits_any _ _).mono ?_; rintro e w' ⟨rfl, rfl⟩; rw [HK.out]))
      go_ret2
      exact ⟨rfl, rfl⟩
end Go.Proofs.Ytdhkcjjcgpkkgaa
