/- Remove; sets as lists of words. -/
import Derived.Test.YtefpfcheafbfdaaCut
namespace Go.Proofs.Ytefpfcheafbfdaa
open Go.RowKit Go.Maps Go.BigFrame

def memB (L : List Wd) : Wd → Bool := fun q => decide (q ∈ L)
theorem memB_iff {L : List Wd} {q : Wd} : memB L q = true ↔ q ∈ L := by unfold memB; simp
def live (L : List Wd) (p : Wd) : Prop := ∃ x ∈ L, p <+: x
theorem cut_plain {L : List Wd} (hnd : L.Nodup) {b : Wd} (hb : b ∈ L) : ∀ (r p : Wd), p ++ r = b →
    (∀ q, (cutS r p (pre L) (memB L)).1 q = true ↔ pre L q = true ∧ ¬ (q <+: b ∧ p.length < q.length ∧ ¬ live (L.erase b) q)) ∧
    (∀ q, (cutS r p (pre L) (memB L)).2.1 q = memB (L.erase b) q) ∧ ((cutS r p (pre L) (memB L)).2.2 = true ↔ ¬ live (L.erase b) p) := by
  have hmem : ∀ x, x ∈ L.erase b ↔ x ≠ b ∧ x ∈ L := fun x => hnd.mem_erase_iff
  intro r
  induction r with
  | nil =>
    intro p hp
    rw [List.append_nil] at hp
    subst hp
    unfold cutS
    refine ⟨fun q => ⟨fun h => ⟨h, fun ⟨h1, h2, _⟩ => by have := h1.length_le; omega⟩, fun h => h.1⟩, fun q => ?_, ?_⟩
    · unfold setB
      rw [Bool.eq_iff_iff, memB_iff, hmem]
      by_cases e : q = p
      · simp [e]
      · simp [e, memB_iff]
    · simp only [beq_iff_eq, List.length_eq_zero_iff]
      constructor
      · rintro h ⟨x, hx, hpx⟩
        obtain ⟨hne, hxl⟩ := (hmem x).1 hx
        obtain ⟨c, hc, -⟩ := kid_of hxl hpx hne
        rw [kids_eq, h] at hc
        cases hc
      · intro h
        cases e : kidsP (pre L) p with
        | nil => rfl
        | cons c t =>
          exfalso
          have hc : c ∈ kidsP (pre L) p := by rw [e]; simp
          rcases pre_iff.1 (mem_kidsP.1 hc) with h1 | ⟨x, hx, hpx⟩
          · simp at h1
          · have hlen := hpx.length_le
            refine h ⟨x, (hmem x).2 ⟨fun e2 => ?_, hx⟩, (List.prefix_append p [c]).trans hpx⟩
            subst e2
            simp at hlen
            omega
  | cons c r ih =>
    intro p hp
    obtain ⟨i1, i2, i3⟩ := ih (p ++ [c]) (by simpa using hp)
    have hpb : p ++ [c] <+: b := ⟨r, by simpa using hp⟩
    have hlb : p.length < b.length := by rw [← hp]; simp
    have hpne : p ≠ b := fun e => by subst e; omega
    have hP2 : ∀ q, (if (cutS r (p ++ [c]) (pre L) (memB L)).2.2 = true then minP (cutS r (p ++ [c]) (pre L) (memB L)).1 (p ++ [c]) else (cutS r (p ++ [c]) (pre L) (memB L)).1) q = true ↔ pre L q = true ∧ ¬ (q <+: b ∧ p.length < q.length ∧ ¬ live (L.erase b) q) := fun q => by
      have huniq : q <+: b → q.length = p.length + 1 → q = p ++ [c] := fun h1 h2 => by
        have e1 := List.prefix_iff_eq_take.1 h1
        have e2 := List.prefix_iff_eq_take.1 hpb
        rw [e1, h2, e2]
        simp
      by_cases e : (cutS r (p ++ [c]) (pre L) (memB L)).2.2 = true
      · rw [if_pos e, minP_iff, i1]
        have hnl := i3.1 e
        simp only [List.length_append, List.length_singleton]
        constructor
        · rintro ⟨⟨h1, h2⟩, h3⟩
          refine ⟨h1, fun ⟨k1, k2, k3⟩ => ?_⟩
          by_cases e2 : q.length = p.length + 1
          · exact h3 (huniq k1 e2)
          · exact h2 ⟨k1, by omega, k3⟩
        · rintro ⟨h1, h2⟩
          refine ⟨⟨h1, fun ⟨k1, k2, k3⟩ => h2 ⟨k1, by omega, k3⟩⟩, fun e2 => ?_⟩
          subst e2
          exact h2 ⟨hpb, by simp, hnl⟩
      · rw [if_neg e, i1]
        have hnl : live (L.erase b) (p ++ [c]) := Classical.byContradiction fun h => e (i3.2 h)
        simp only [List.length_append, List.length_singleton]
        constructor
        · rintro ⟨h1, h2⟩
          refine ⟨h1, fun ⟨k1, k2, k3⟩ => ?_⟩
          by_cases e2 : q.length = p.length + 1
          · rw [huniq k1 e2] at k3; exact k3 hnl
          · exact h2 ⟨k1, by omega, k3⟩
        · rintro ⟨h1, h2⟩
          exact ⟨h1, fun ⟨k1, k2, k3⟩ => h2 ⟨k1, by omega, k3⟩⟩
    unfold cutS
    simp only
    refine ⟨hP2, i2, ?_⟩
    rw [Bool.and_eq_true, Bool.not_eq_true', i2, beq_iff_eq, List.length_eq_zero_iff]
    constructor
    · rintro ⟨h1, h2⟩ ⟨x, hx, hpx⟩
      obtain ⟨hne, hxl⟩ := (hmem x).1 hx
      by_cases e : x = p
      · subst e
        rw [memB_iff.2 hx] at h1; cases h1
      · obtain ⟨c', -, hc'⟩ := kid_of hxl hpx e
        have : c' ∈ kidsP (if (cutS r (p ++ [c]) (pre L) (memB L)).2.2 = true then minP (cutS r (p ++ [c]) (pre L) (memB L)).1 (p ++ [c]) else (cutS r (p ++ [c]) (pre L) (memB L)).1) p :=
          mem_kidsP.2 ((hP2 _).2 ⟨pre_iff.2 (.inr ⟨x, hxl, hc'⟩), fun ⟨_, _, k3⟩ => k3 ⟨x, hx, hc'⟩⟩)
        rw [h2] at this; cases this
    · intro h
      refine ⟨?_, ?_⟩
      · cases e : memB (L.erase b) p with
        | false => rfl
        | true => exact absurd ⟨p, memB_iff.1 e, List.prefix_rfl⟩ h
      · rw [List.eq_nil_iff_forall_not_mem]
        intro c' hc'
        obtain ⟨k1, k2⟩ := (hP2 _).1 (mem_kidsP.1 hc')
        rcases pre_iff.1 k1 with h1 | ⟨x, hx, hpx⟩
        · simp at h1
        · by_cases e : x = b
          · subst e
            refine k2 ⟨hpx, by simp, fun ⟨y, hy, hpy⟩ => h ⟨y, hy, (List.prefix_append p [c']).trans hpy⟩⟩
          · exact h ⟨x, (hmem x).2 ⟨e, hx⟩, (List.prefix_append p [c']).trans hpx⟩
theorem cut_root {L : List Wd} (hnd : L.Nodup) {b : Wd} (hb : b ∈ L) : (cutS b [] (pre L) (memB L)).1 = pre (L.erase b) ∧ (cutS b [] (pre L) (memB L)).2.1 = memB (L.erase b) := by
  obtain ⟨h1, h2, -⟩ := cut_plain hnd hb b [] rfl
  refine ⟨?_, funext h2⟩
  funext q
  rw [Bool.eq_iff_iff, h1, pre_iff (L := L.erase b), pre_iff]
  constructor
  · rintro ⟨k1 | ⟨x, hx, hqx⟩, k2⟩
    · exact .inl k1
    · by_cases e : q = []
      · exact .inl e
      · right
        by_cases ex : x = b
        · subst ex
          refine Classical.byContradiction fun hn => k2 ⟨hqx, ?_, hn⟩
          exact List.length_pos_iff.2 e
        · exact ⟨x, (hnd.mem_erase_iff).2 ⟨ex, hx⟩, hqx⟩
  · rintro (rfl | ⟨x, hx, hqx⟩)
    · exact ⟨.inl rfl, fun ⟨_, k, _⟩ => by simp at k⟩
    · exact ⟨.inr ⟨x, (List.mem_of_mem_erase hx), hqx⟩, fun ⟨_, _, k⟩ => k ⟨x, hx, hqx⟩⟩
def remE (L : List Wd) (b : Wd) : Int := if 64 < b.length then 5 else if b ∈ L then 0 else 9
/-- a set with these words -/
abbrev TL (w : World) (tb : Nat) (L : List Wd) (NB MB : Wd → Nat) (N : Nat) : Prop := TR w tb (pre L) (memB L) L.length NB MB N
theorem preB {L : List Wd} {b : Wd} : (pre L b && memB L b) = memB L b := by
  cases h : memB L b with
  | false => simp
  | true => rw [pre_mem (memB_iff.1 h)]; rfl
section
variable {w : World} {tb : Nat} {L : List Wd} {NB MB : Wd → Nat} {N : Nat}
theorem remove_t0 {xo : Option Addr} (h : T0 w xo) (bv : Value) : Calls Try.prog 18 #[.pointer xo, bv] w (Ret (.int .i64 1) (w = ·)) := by
  have CN := Lib.hid (none_t0 h)
  clear h
  go_enter Try.func18, Try.ntmps18
  go_wp2_with (go_at_call 47; go_must (refine CN.out.mono ?_; rintro e w' ⟨rfl, rfl⟩))
  go_ret
  exact ⟨rfl, rfl⟩
theorem remove_bad (h : TL w tb L NB MB N) (bv : Value) (b : List UInt8) (hb : Byts w bv b) (hn : b.length ≤ 1000000) (he : remE L b ≠ 0) : Calls Try.prog 18 #[.pointer (some ⟨tb, 0, none⟩), bv] w (Ret (.int .i64 (remE L b)) (w = ·)) := by
  obtain ⟨ao, cap, rfl, hcap⟩ := hb.len
  have CN := Lib.hid (none_any h)
  have CH := has_any h _ b hb hn
  rw [preB] at CH
  unfold remE at he ⊢
  by_cases h1 : 64 < b.length
  · rw [if_pos h1]
    have h1' : (64 : Int) < (b.length : Int) := by omega
    clear he h1 h CH hb
    go_enter Try.func18, Try.ntmps18
    go_wp2_with (go_at_call 47; go_must (refine CN.out.mono ?_; rintro e w' ⟨rfl, rfl⟩))
    go_ret
    exact ⟨rfl, rfl⟩
  · have h1' : ¬ (64 : Int) < (b.length : Int) := by omega
    rw [if_neg h1] at he ⊢
    by_cases h2 : b ∈ L
    · rw [if_pos h2] at he; exact absurd rfl he
    · rw [if_neg h2]
      have hm : memB L b = false := by unfold memB; simpa using h2
      rw [hm] at CH
      have CH := Lib.hid CH
      clear he h1 h hb h2 hm
      go_enter Try.func18, Try.ntmps18
      go_wp2_with (first
        | (go_at_call 47; go_must (refine CN.out.mono ?_; rintro e w' ⟨rfl, rfl⟩))
        | (go_at_call 28; go_must (refine CH.out.mono ?_; rintro e w' ⟨rfl, rfl⟩)))
      go_ret
      exact ⟨rfl, rfl⟩
/-- what Remove leaves -/
def RemTo (tb : Nat) (L : List Wd) (NB MB : Wd → Nat) (N : Nat) (b : Wd) (w w' : World) : Prop := TL w' tb (L.erase b) NB MB N ∧ FrS (Own tb (pre L) NB MB) w w' ∧ ∀ k, Own tb (pre (L.erase b)) NB MB k → Own tb (pre L) NB MB k
set_option maxHeartbeats 1000000 in
theorem remove_good (h : TL w tb L NB MB N) (hnd : L.Nodup) (bv : Value) (b : List UInt8) (hb : Byts w bv b) (h64 : b.length ≤ 64) (hbl : b ∈ L) (hn1 : L.length ≤ 1000000) : Calls Try.prog 18 #[.pointer (some ⟨tb, 0, none⟩), bv] w (Ret (.int .i64 0) (RemTo tb L NB MB N b w)) := by
  have CN := Lib.hid (none_any h)
  have CH := has_any h _ b hb (by omega)
  rw [preB, memB_iff.2 hbl] at CH
  have CH := Lib.hid CH
  obtain ⟨e1, e2⟩ := cut_root hnd hbl
  have CC := cut_any tb L.length N NB MB b [] bv w (pre L) (memB L) h (pre_mem hbl) hb (by omega)
  rw [e1, e2] at CC
  have CC := Lib.hid CC
  have c0 := cell_of h.top 0
  have hlen : (L.erase b).length = L.length - 1 := List.length_erase_of_mem hbl
  have hpos : 0 < L.length := List.length_pos_of_mem hbl
  obtain ⟨ao, cap, rfl, hcap⟩ := hb.len
  have h1' : ¬ (64 : Int) < (b.length : Int) := by omega
  unfold nodeV at c0 CC
  have HLEN : Hid ((L.erase b).length = L.length - 1 ∧ 0 < L.length) := Lib.hid ⟨hlen, hpos⟩
  have HSU : Hid (∀ k, Own tb (pre (L.erase b)) NB MB k → Own tb (pre L) NB MB k) := Lib.hid fun k hk => by
    rcases hk with rfl | ⟨q, hq, e⟩
    · exact .inl rfl
    · refine .inr ⟨q, ?_, e⟩
      rcases pre_iff.1 hq with rfl | ⟨x, hx, hp⟩
      · exact pre_nil L
      · exact pre_iff.2 (.inr ⟨x, List.mem_of_mem_erase hx, hp⟩)
  clear h hb e1 e2 hlen hpos hbl
  go_enter Try.func18, Try.ntmps18
  go_upto_region 8 with (first
    | (go_at_call 47; go_must (refine CN.out.mono ?_; rintro e w' ⟨rfl, rfl⟩))
    | (go_at_call 28; go_must (refine CH.out.mono ?_; rintro e w' ⟨rfl, rfl⟩))
    | (go_at_call 48; go_must (refine CC.out.mono ?_; clear CC; rintro e w2 ⟨rfl, ht, hf⟩; have HT := Lib.hid ht; have HF := Lib.hid hf; clear ht hf)))
  obtain ⟨ln, hln⟩ : ∃ ln, L.length = ln := ⟨_, rfl⟩
  have c1 := cell_of HT.out.top 1
  have f1 := free_of HT.out.top 1
  obtain ⟨t5, f5⟩ := HT.out.words (L.length - 1)
  have HT5 := Lib.hid t5; have HF5 := Lib.hid f5
  have hi1 : ((L.length - 1 : Nat) : Int) = (ln : Int) - 1 := by have := HLEN.out.2; omega
  have hl1 : 1 ≤ (ln : Int) := by have := HLEN.out.2; omega
  rw [hln] at c1 hn1
  have HI1 := Lib.hid hi1
  clear t5 f5 hln hi1
  go_wp2
  go_ret
  have ht5 := HT5.out
  have hf5 := HF5.out
  rw [HI1.out] at ht5 hf5
  refine ⟨rfl, ?_, HF.out.then hf5 (fun k hk => .inl (HSU.out k hk)), HSU.out⟩
  unfold TL
  rw [HLEN.out.1]
  exact ht5
end
end Go.Proofs.Ytefpfcheafbfdaa
