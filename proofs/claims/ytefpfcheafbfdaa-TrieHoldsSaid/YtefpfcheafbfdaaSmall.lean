/- The statements' small functions: longest, mark, few, texts. -/
import Derived.Test.YtefpfcheafbfdaaEnc
namespace Go.Proofs.Ytefpfcheafbfdaa
open Go.RowKit Go.Maps Go.BigFrame

theorem txt_size (b : Wd) : (txt b).size = b.length := by simp [txt, ByteArray.size]
/-- '[]byte(s)' -/
theorem bytes_of (w : World) (b : Wd) : ∃ g c W1, (convert 9 23 (.string (txt b))).run Try.prog w = .ok (.slice (some ⟨g, 0, none⟩) b.length c) W1 ∧ Byts W1 (.slice (some ⟨g, 0, none⟩) b.length c) b ∧ Frm [] w W1 := by
  have h := run_bytes_of_string (P := Try.prog) w 9 23 5 (txt b) Try.underlying9 Try.underlying23 Try.underlying5
  have hc : (txt b).size ≤ grownCap w (txt b).size 0 5 := grownCap_ge w (txt b).size 0 5
  have hb := bytes_row w.drew (txt b) (grownCap w (txt b).size 0 5) hc ((bytesRow (txt b) (grownCap w (txt b).size 0 5)).size, (bytesRow (txt b) (grownCap w (txt b).size 0 5)).size + 1)
  have e : (txt b).data.toList = b := by simp [txt]
  rw [e] at hb
  rw [txt_size] at h hb
  exact ⟨_, _, _, h, hb, ((Frm.refl [] w).drew).alloc _⟩
section
variable {w : World} {tb N : Nat} {L : List Wd} {S : Nat → Prop}
theorem lg_true (h : St w tb L S N) (b : Wd) (hb : b.length ≤ 1000) : Calls Try.prog 32 #[.pointer (some ⟨tb, 0, none⟩), .string (txt b), .int .i64 (longL (pre L) (memB L) b).1, .bool (longL (pre L) (memB L) b).2] w (Ret (.bool true) (Frm [] w)) := by
  obtain ⟨g, c, W1, hcv, hbv, hf⟩ := bytes_of w b
  have CL := Lib.hid ((h.frm0 hf).longest hbv hb)
  have HF := Lib.hid hf
  obtain ⟨m, hm⟩ : ∃ m, (longL (pre L) (memB L) b).1 = m := ⟨_, rfl⟩
  obtain ⟨i, hi⟩ : ∃ i, (longL (pre L) (memB L) b).2 = i := ⟨_, rfl⟩
  rw [hm, hi] at CL ⊢
  clear h hbv hf hm hi
  go_enter Try.func32, Try.ntmps32
  go_wp2_with (go_at_call 55; go_must (refine CL.out.mono ?_; clear CL; rintro e w' ⟨rfl, rfl⟩))
  go_ret
  exact ⟨rfl, HF.out⟩
theorem lg_t0 {xo : Option Addr} (h : T0 w xo) (b : Wd) : Calls Try.prog 32 #[.pointer xo, .string (txt b), .int .i64 0, .bool false] w (Ret (.bool true) (Frm [] w)) := by
  obtain ⟨g, c, W1, hcv, hbv, hf⟩ := bytes_of w b
  have CL := Lib.hid (longest_t0 (h.frm0 hf) _ b hbv)
  have HF := Lib.hid hf
  clear h hbv hf
  go_enter Try.func32, Try.ntmps32
  go_wp2_with (go_at_call 55; go_must (refine CL.out.mono ?_; clear CL; rintro e w' ⟨rfl, rfl⟩))
  go_ret
  exact ⟨rfl, HF.out⟩
theorem mk_true (h : St w tb L S N) (b : Wd) (hb : b.length ≤ 1000) : Calls Try.prog 35 #[.pointer (some ⟨tb, 0, none⟩), .string (txt b), .int .i64 (markL L b).1, .int .i64 (markL L b).2] w (Ret (.bool true) (Frm [] w)) := by
  obtain ⟨g, c, W1, hcv, hbv, hf⟩ := bytes_of w b
  have CL := Lib.hid ((h.frm0 hf).mark hbv hb)
  have HF := Lib.hid hf
  obtain ⟨m, hm⟩ : ∃ m, (markL L b).1 = m := ⟨_, rfl⟩
  obtain ⟨i, hi⟩ : ∃ i, (markL L b).2 = i := ⟨_, rfl⟩
  rw [hm, hi] at CL ⊢
  clear h hbv hf hm hi
  go_enter Try.func35, Try.ntmps35
  go_wp2_with (first
    | (go_at_call 57; go_must (refine CL.out.mono ?_; clear CL; rintro e w2 ⟨rfl, hf2⟩; have HF2 := Lib.hid hf2; clear hf2))
    | (go_at_call 16; go_must (refine (num_any _ _).mono ?_; rintro e w' ⟨rfl, rfl⟩)))
  go_ret
  exact ⟨by simp, HF.out.trans HF2.out⟩
theorem mk_t0 {xo : Option Addr} (h : T0 w xo) (b : Wd) : Calls Try.prog 35 #[.pointer xo, .string (txt b), .int .i64 0, .int .i64 1] w (Ret (.bool true) (Frm [] w)) := by
  obtain ⟨g, c, W1, hcv, hbv, hf⟩ := bytes_of w b
  have CL := Lib.hid (mark_t0 (h.frm0 hf) (.slice (some ⟨g, 0, none⟩) b.length c))
  have HF := Lib.hid hf
  clear h hbv hf
  go_enter Try.func35, Try.ntmps35
  go_wp2_with (first
    | (go_at_call 57; go_must (refine CL.out.mono ?_; clear CL; rintro e w2 ⟨rfl, rfl⟩))
    | (go_at_call 16; go_must (refine (num_any _ _).mono ?_; rintro e w' ⟨rfl, rfl⟩)))
  go_ret
  exact ⟨rfl, HF.out⟩
end
/-- few: at most so many words, of at most 80 bytes -/
def fewL (L : List Wd) (most : Nat) : Bool := decide (L.length ≤ most) && L.all fun x => decide (x.length ≤ 80)
set_option maxHeartbeats 1000000 in
theorem few_any (w : World) (v : Value) (L : List Wd) (most : Nat) (h : Wds w v L) (hL : L.length ≤ 1000000) : Calls Try.prog 11 #[v, .int .i64 most] w (Ret (.bool (fewL L most)) (w = ·)) := by
  obtain ⟨ao, cap, rfl, hcap, hcs⟩ := h
  have HC := Lib.hid hcs
  have hf0 : fewL L most = (decide (L.length ≤ most) && (L.drop 0).all fun x => decide (x.length ≤ 80)) := rfl
  obtain ⟨n, hn⟩ : ∃ n, L.length = n := ⟨_, rfl⟩
  have HN := Lib.hid hn
  rw [hn] at hcap hL hf0 ⊢
  by_cases hm : n ≤ most
  · have hm' : ¬ (most : Int) < (n : Int) := by omega
    rw [decide_eq_true hm, Bool.true_and] at hf0
    have HR0 : Hid ((L.drop 0).all (fun x => decide (x.length ≤ 80)) = fewL L most) := Lib.hid hf0.symm
    generalize fewL L most = R at HR0 ⊢
    clear hcs hn hf0
    go_enter Try.func11, Try.ntmps11
    go_wp2
    go_loopw [5] (fun s5 wr => ∃ i : Nat, s5 = .int .i64 i ∧ i ≤ n ∧ (L.drop i).all (fun x => decide (x.length ≤ 80)) = R ∧ w = wr) (fun s5 _ => n - (intOf s5).toNat)
    case atStart => exact ⟨0, rfl, Nat.zero_le _, HR0.out, rfl⟩
    case round =>
      obtain ⟨i, rfl, hi, hR, rfl⟩ := hrel
      by_cases hlt : i < n
      · have hlt' : (i : Int) < (n : Int) := by omega
        obtain ⟨x, hx⟩ : ∃ x, L[i]? = some x := ⟨_, List.getElem?_eq_getElem (by rw [HN.out]; exact hlt)⟩
        obtain ⟨b, o, ua, uc, rfl, cx, -⟩ := HC.out i x hx
        have hd : L.drop i = x :: L.drop (i + 1) := (List.getElem_cons_drop (h := lt_of_some hx)).symm.trans (by rw [(List.getElem?_eq_some_iff.1 hx).2])
        rw [hd, List.all_cons] at hR
        obtain ⟨nx, hnx⟩ : ∃ nx, x.length = nx := ⟨_, rfl⟩
        rw [hnx] at cx hR
        by_cases h8 : nx ≤ 80
        · have h8' : ¬ (80 : Int) < (nx : Int) := by omega
          rw [decide_eq_true h8, Bool.true_and] at hR
          have HR := Lib.hid hR
          clear hR hx hnx hd HR0
          go_wp2
          exact ⟨⟨i + 1, by simp, hlt, HR.out, trivial⟩, by simp [intOf]; omega⟩
        · have h8' : (80 : Int) < (nx : Int) := by omega
          rw [decide_eq_false h8, Bool.false_and] at hR
          subst hR
          clear hx hnx hd HR0
          go_wp2
          go_ret
          exact ⟨rfl, rfl⟩
      · obtain rfl : i = n := by omega
        have hge : ¬ (i : Int) < (i : Int) := by omega
        rw [List.drop_eq_nil_of_le (by rw [HN.out]; exact Nat.le_refl _)] at hR
        subst hR
        clear HR0
        go_wp2
        go_ret
        exact ⟨rfl, rfl⟩
  · have hm' : (most : Int) < (n : Int) := by omega
    rw [decide_eq_false hm, Bool.false_and] at hf0
    rw [hf0]
    clear hcs hn hf0
    go_enter Try.func11, Try.ntmps11
    go_wp2
    go_ret
    exact ⟨rfl, rfl⟩
/-- too many words: few says no at once -/
theorem few_big (w : World) (v : Value) (L : List Wd) (most : Nat) (h : Wds w v L) (hL : most < L.length) : Calls Try.prog 11 #[v, .int .i64 most] w (Ret (.bool false) (w = ·)) := by
  obtain ⟨ao, cap, rfl, -, -⟩ := h
  obtain ⟨n, hn⟩ : ∃ n, L.length = n := ⟨_, rfl⟩
  rw [hn] at hL ⊢
  have hm' : (most : Int) < (n : Int) := by omega
  clear hn
  go_enter Try.func11, Try.ntmps11
  go_wp2
  go_ret
  exact ⟨rfl, rfl⟩
end Go.Proofs.Ytefpfcheafbfdaa
