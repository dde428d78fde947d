/- keys of a node's map: sorted. Next. -/
import Derived.Test.YtefpfcheafbfdaaSrtI
import Derived.Test.YtefpfcheafbfdaaApp
namespace Go.Proofs.Ytefpfcheafbfdaa
open Go.RowKit Go.Maps Go.BigFrame Go.Sort

section
variable {B mo N : Nat} {om : Obj} {P : Wd → Bool} {NB : Wd → Nat} {p : Wd} {D : DataW Value} {w : World}
theorem coll_any (h : KeyR B mo N om P NB p D w) : Calls Try.prog 65 #[.func (.func 67) #[] #[.pointer (some ⟨B, 0, none⟩)]] w (RetV fun v w' => ∃ xs, KDone P p xs ∧ w'.ownsRow w.heap.size 5 1 v xs.length (xs.map u8) ∧ Frm [] w w') := by
  have C := Lib.hid (apps_any B mo N om P NB p D w h)
  clear h
  go_enter Try.func65, Try.ntmps65
  go_wp2_with (go_at_call 69; go_must (refine C.out.mono ?_; clear C; rintro e w1 ⟨v, rfl, h1⟩; have H1 := Lib.hid h1; clear h1))
  go_ret
  exact ⟨_, rfl, H1.out⟩
theorem kidsP_le (P : Wd → Bool) (p : Wd) : (kidsP P p).Pairwise (fun a b => a ≤ b) := by
  unfold kidsP
  refine List.Pairwise.filter _ ?_
  rw [List.pairwise_map]
  refine List.Pairwise.imp_of_mem ?_ List.pairwise_lt_range
  intro a b ha hb hab
  simp only [List.mem_range] at ha hb
  rw [UInt8.le_iff_toNat_le]
  simp
  omega
theorem kidsP_nd (P : Wd → Bool) (p : Wd) : (kidsP P p).Nodup := by
  unfold kidsP
  refine List.Pairwise.filter _ ?_
  rw [List.pairwise_map]
  refine List.Pairwise.imp_of_mem ?_ List.pairwise_lt_range
  intro a b ha hb hab e
  simp only [List.mem_range] at ha hb
  have := congrArg UInt8.toNat e
  simp at this
  omega
theorem done_sorted {xs ys : List UInt8} (h : KDone P p xs) (hp : ys.Perm xs) (hs : ys.Pairwise (fun a b => a ≤ b)) : ys = kidsP P p := by
  have h1 : xs.Perm (kidsP P p) := (List.perm_ext_iff_of_nodup h.1 (kidsP_nd P p)).2 (fun c => (h.2 c).trans mem_kidsP.symm)
  exact (hp.trans h1).eq_of_pairwise (fun a b _ _ h1 h2 => UInt8.le_antisymm h1 h2) hs (kidsP_le P p)
theorem sorted_any (h : KeyR B mo N om P NB p D w) : Calls Try.prog 62 #[.func (.func 67) #[] #[.pointer (some ⟨B, 0, none⟩)]] w (RetV (Fresh w (kidsP P p))) := by
  have C := Lib.hid (coll_any h)
  clear h
  go_enter Try.func62, Try.ntmps62
  go_upto_region 2 with (go_at_call 65; go_must (refine C.out.mono ?_; clear C; rintro e w1 ⟨v, rfl, xs, h1, h2, h3⟩; have HD := Lib.hid h1; have HO := Lib.hid h2; have HF := Lib.hid h3; clear h1 h2 h3))
  rcases own_SR HO.out with ⟨hv, hx⟩ | ⟨g, cap, hv, hg, hc, hsr⟩
  · subst hv
    have HX := Lib.hid hx
    have CS := Lib.hid (sort_nil w1)
    clear hx
    go_wp2_with (go_at_call 66; go_must (refine CS.out.mono ?_; clear CS; rintro e w2 ⟨rfl, rfl⟩))
    go_ret
    refine ⟨_, rfl, ?_⟩
    have hk : ([] : List UInt8) = kidsP P p := done_sorted HD.out (by rw [HX.out]) List.Pairwise.nil
    rw [← hk]
    exact ⟨World.ownsRow_nil _ _ _ _, HF.out⟩
  · have hlen : xs.length ≤ 256 := nodup_256 HD.out.1
    have hsz : xs.toArray.size = xs.length := by simp
    have CS0 := sort_row g cap xs.toArray w1 hsr (by rw [hsz]; omega)
    obtain ⟨hp, hs⟩ := sort_list xs
    have hk := done_sorted HD.out hp hs
    obtain ⟨R, hR⟩ : ∃ R, sort lt8 xs.toArray = R := ⟨_, rfl⟩
    rw [hR, hsz] at CS0
    rw [hR] at hk
    have CS := Lib.hid CS0
    have HK := Lib.hid hk
    obtain ⟨n, hn⟩ : ∃ n, xs.length = n := ⟨_, rfl⟩
    rw [hn] at CS hv
    subst hv
    have HG := Lib.hid (And.intro hg hc)
    clear CS0 hp hs hk hR hsz hsr hg hc hlen hn
    go_wp2_with (go_at_call 66; go_must (refine CS.out.mono ?_; clear CS; rintro e w2 ⟨rfl, hs2, hs3, hf3⟩; have HS2 := Lib.hid hs2; have HS3 := Lib.hid hs3; have HF3 := Lib.hid hf3; clear hs2 hs3 hf3))
    go_ret
    refine ⟨_, rfl, ?_, HF.out.then HF3.out (by intro x hx; simp at hx; subst hx; exact .inr HG.out.1)⟩
    have := SR_own HS3.out HG.out.1 HG.out.2
    rw [HK.out, HS2.out] at this
    have hl : (kidsP P p).length = n := by rw [← HK.out]; simpa using HS2.out
    rw [hl]
    exact this
end
section
variable {w : World} {tb n : Nat} {P W : Wd → Bool} {NB MB : Wd → Nat} {N : Nat} {p : Wd}
theorem keys_any (h : TR w tb P W n NB MB N) (hp : P p = true) : Calls Try.prog 56 #[.map (some (MB p))] w (RetV (Fresh w (kidsP P p))) := by
  obtain ⟨D, hD, -⟩ := h.kd hp
  obtain ⟨es, c, hm⟩ := h.isMap hp
  have CK := Lib.hid (mkeys_any (MB p) w)
  have hk : KeyR w.heap.size (MB p) N (.map es c) P NB p D (w.alloc (.cells #[.map (some (MB p))] 66)) :=
    ⟨alloc_top rfl, alloc_at hm, hD.frm ((Frm.refl [] w).alloc _) (by simp)⟩
  have CS := Lib.hid (sorted_any hk)
  clear h hD hm hk
  go_enter Try.func56, Try.ntmps56
  go_wp2_with (first
    | (go_at_call 63; go_must (refine CK.out.mono ?_; clear CK; rintro e w1 ⟨rfl, rfl⟩))
    | (go_at_call 62; go_must (refine CS.out.mono ?_; clear CS; rintro e w2 ⟨v, rfl, h1, h2⟩; have H1 := Lib.hid h1; have H2 := Lib.hid h2; clear h1 h2)))
  go_ret
  exact ⟨_, rfl, own_low H1.out (by simp), ((Frm.refl [] w).alloc _).trans H2.out⟩
end
end Go.Proofs.Ytefpfcheafbfdaa
