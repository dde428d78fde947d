/- The reference, first part: Begins, Has, With, Longest, Mark, Free; texts. -/
import Derived.Test.YtefpfcheafbfdaaSmall
import Derived.BigQuiet
namespace Go.Proofs.Ytefpfcheafbfdaa
open Go.RowKit Go.Maps Go.BigFrame

theorem txt_cut (x : Wd) (i j : Nat) : (txt x).extract i j = txt ((x.take j).drop i) := by
  apply ByteArray.ext
  rw [ByteArray.data_extract]
  apply Array.toList_inj.1
  simp [txt, List.extract_eq_take_drop, List.drop_take]
theorem pre_take_iff {a b : Wd} (h : b.length ≤ a.length) : (((txt a).extract 0 b.length).toList == (txt b).toList) = b.isPrefixOf a := by
  rw [str_beq, txt_cut, List.drop_zero, txt_eq, Bool.eq_iff_iff, decide_eq_true_iff, List.isPrefixOf_iff_prefix, List.prefix_iff_eq_take]
  exact ⟨fun e => e.symm, fun e => e.symm⟩
theorem beg_any (w : World) (a b : Wd) : Calls Try.prog 52 #[.string (txt a), .string (txt b)] w (Ret (.bool (b.isPrefixOf a)) (w = ·)) := by
  have ha := txt_size a; have hb := txt_size b
  by_cases h : b.length ≤ a.length
  · have hp := pre_take_iff h
    go_enter Try.func52, Try.ntmps52
    go_wp2
    go_ret
    exact ⟨rfl, rfl⟩
  · have hp : b.isPrefixOf a = false := by
      cases e : b.isPrefixOf a with
      | false => rfl
      | true => exact absurd (List.isPrefixOf_iff_prefix.1 e).length_le h
    rw [hp]
    have h' : ¬ (b.length : Int) ≤ (a.length : Int) := by omega
    go_enter Try.func52, Try.ntmps52
    go_wp2
    go_ret
    exact ⟨rfl, rfl⟩
section
variable {w : World} {lv : Value} {L : List Wd}
set_option maxHeartbeats 1000000 in
theorem rhas_any (h : Txts w lv L) (hn : L.length ≤ 1000000) (b : Wd) : Calls Try.prog 42 #[lv, .string (txt b)] w (Ret (.bool (memB L b)) (w = ·)) := by
  obtain ⟨ao, cap, rfl, hcap, hcs⟩ := h
  have HC := Lib.hid hcs
  have hf0 : memB L b = memB (L.drop 0) b := rfl
  obtain ⟨n, hnn⟩ : ∃ n, L.length = n := ⟨_, rfl⟩
  have HN := Lib.hid hnn
  rw [hnn] at hcap hn ⊢
  have HR0 : Hid (memB (L.drop 0) b = memB L b) := Lib.hid hf0.symm
  generalize memB L b = R at HR0 ⊢
  clear hcs hnn hf0
  go_enter Try.func42, Try.ntmps42
  go_wp2
  go_loopw [5] (fun s5 wr => ∃ i : Nat, s5 = .int .i64 i ∧ i ≤ n ∧ memB (L.drop i) b = R ∧ w = wr) (fun s5 _ => n - (intOf s5).toNat)
  case atStart => exact ⟨0, rfl, Nat.zero_le _, HR0.out, rfl⟩
  case round =>
    obtain ⟨i, rfl, hi, hR, rfl⟩ := hrel
    by_cases hlt : i < n
    · have hlt' : (i : Int) < (n : Int) := by omega
      obtain ⟨x, hx⟩ : ∃ x, L[i]? = some x := ⟨_, List.getElem?_eq_getElem (by rw [HN.out]; exact hlt)⟩
      obtain ⟨g, o, rfl, cx⟩ := HC.out i x hx
      unfold st at cx
      have hd : L.drop i = x :: L.drop (i + 1) := (List.getElem_cons_drop (h := lt_of_some hx)).symm.trans (by rw [(List.getElem?_eq_some_iff.1 hx).2])
      rw [hd] at hR
      by_cases h8 : x = b
      · subst h8
        have hR1 : true = R := by
          rw [← hR]
          exact (memB_iff.2 List.mem_cons_self).symm
        subst hR1
        clear hx hd HR0 hR
        go_wp2
        go_ret
        exact ⟨rfl, rfl⟩
      · have hR1 : memB (L.drop (i + 1)) b = R := by
          rw [← hR, Bool.eq_iff_iff, memB_iff, memB_iff, List.mem_cons]
          exact ⟨.inr, fun e => e.elim (fun e => absurd e.symm h8) id⟩
        have HR := Lib.hid hR1
        have hs : ((txt x).toList == (txt b).toList) = false := str_ne (fun e => h8 (txt_inj e))
        clear hR hx hd HR0 hR1
        go_wp2
        exact ⟨⟨i + 1, by simp, hlt, HR.out, trivial⟩, by simp [intOf]; omega⟩
    · obtain rfl : i = n := by omega
      have hge : ¬ (i : Int) < (i : Int) := by omega
      rw [List.drop_eq_nil_of_le (by rw [HN.out]; exact Nat.le_refl _)] at hR
      have hR1 : false = R := by rw [← hR]; simp [memB]
      subst hR1
      clear HR0
      go_wp2
      go_ret
      exact ⟨rfl, rfl⟩
/-- fresh texts -/
def FreshT (w : World) (l : List Wd) (v : Value) (w' : World) : Prop := w'.ownsRow w.heap.size 9 1 v l.length (l.map st) ∧ Frm [] w w'
theorem FreshT.txts {w w' : World} {l : List Wd} {v : Value} (h : FreshT w l v w') : Txts w' v l := Txts.of_own h.1
theorem take_snoc {α : Type} {L : List α} {i : Nat} {x : α} (hx : L[i]? = some x) : L.take (i + 1) = L.take i ++ [x] := by
  obtain ⟨hi, rfl⟩ := List.getElem?_eq_some_iff.1 hx
  exact List.take_succ_eq_append_getElem hi
/-- a list that grows, one text more -/
theorem app_txt1 {W : World} {base n : Nat} {v : Value} {xs : List Wd} (x : Wd) (ho : W.ownsRow base 9 1 v n (xs.map st)) (hn : xs.length = n) :
    (W.alloc (.cells #[st x] 9)).ownsRow base 9 1 v xs.length (xs.map st) ∧ Txts (W.alloc (.cells #[st x] 9)) (.slice (some ⟨W.heap.size, 0, none⟩) 1 1) [x] := by
  subst hn
  exact ⟨((Frm.refl [] W).alloc _).owns ho (by simp), Txts.of_own (own_lit_txts (base := 0) [x] (Nat.zero_le _) (by simp))⟩
set_option maxHeartbeats 1000000 in
set_option maxRecDepth 100000 in
theorem rwith_any (h : Txts w lv L) (hn : L.length ≤ 100000) (b : Wd) : Calls Try.prog 23 #[lv, .string (txt b)] w (RetV (FreshT w (withP L b))) := by
  obtain ⟨ao, cap, rfl, hcap, hcs⟩ := h
  have HC := Lib.hid hcs
  obtain ⟨n, hnn⟩ : ∃ n, L.length = n := ⟨_, rfl⟩
  have HN := Lib.hid hnn
  rw [hnn] at hcap hn ⊢
  have HR0 : Hid (withP (L.take n) b = withP L b) := Lib.hid (by rw [← hnn, List.take_length])
  generalize withP L b = R at HR0 ⊢
  clear hcs hnn
  go_enter Try.func23, Try.ntmps23
  go_wp2
  go_loopw [5, 6] (fun s5 s6 wr => ∃ (i m : Nat) (a5 : Option Addr) (c5 : Nat), s6 = .int .i64 i ∧ i ≤ n ∧ s5 = .slice a5 m c5 ∧ (withP (L.take i) b).length = m ∧ wr.ownsRow w.heap.size 9 1 (.slice a5 m c5) m ((withP (L.take i) b).map st) ∧ Frm [] w wr) (fun _ s6 _ => n - (intOf s6).toNat)
  case atStart => exact ⟨0, 0, none, 0, rfl, Nat.zero_le _, rfl, rfl, World.ownsRow_nil _ _ _ _, Frm.refl _ _⟩
  case round =>
    obtain ⟨i, m, a5, c5, rfl, hi, rfl, hm, ho, hf⟩ := hrel
    have HM := Lib.hid hm; have HO := Lib.hid ho; have HF := Lib.hid hf
    by_cases hlt : i < n
    · have hlt' : (i : Int) < (n : Int) := by omega
      obtain ⟨x, hx⟩ : ∃ x, L[i]? = some x := ⟨_, List.getElem?_eq_getElem (by rw [HN.out]; exact hlt)⟩
      obtain ⟨g, o, rfl, cx⟩ := HC.out i x hx
      have cx := hf.cellAt cx (by simp)
      unfold st at cx
      have hd := take_snoc hx
      have hml : m ≤ 100000 := by
        rw [← hm]
        refine Nat.le_trans (List.length_filter_le _ _) ?_
        rw [List.length_take]; omega
      have CB : Hid (∀ V, Calls Try.prog 52 #[.string (txt x), .string (txt b)] V (Ret (.bool (b.isPrefixOf x)) (V = ·))) := Lib.hid fun V => beg_any V x b
      have hws := hf.size
      cases hp : b.isPrefixOf x with
      | true =>
        rw [hp] at CB
        have hw : withP (L.take (i + 1)) b = withP (L.take i) b ++ [x] := by
          rw [hd]; unfold withP; rw [List.filter_append]; simp [hp]
        have HW := Lib.hid hw
        have HA := Lib.hid (app_txt1 x HO.out HM.out)
        have HML := Lib.hid hml; have HWS := Lib.hid hws
        have e1 : (withP (L.take i) b ++ [x]).length = m + 1 := by simp [HM.out]
        have HE1 := Lib.hid e1
        unfold st at HA
        clear hm ho hf hx hd hw hml hws hp HR0 e1
        go_wp2_with (first
          | (go_at_call 52; go_must (refine (CB.out _).mono ?_; rintro e w' ⟨rfl, rfl⟩))
          | (at_builtin; refine wpList_app_txts rfl _ _ rfl w.heap.size (.slice a5 m c5) _ rfl rfl (withP (L.take i) b) [x] HA.out.1 HA.out.2 (by have := HML.out; have := HM.out; simp; omega) (by have := HWS.out; simp; omega) ?_; intro ao' cp' w2 hown hgrow; rw [HE1.out] at hown ⊢; have HO2 := Lib.hid hown; have HG := Lib.hid hgrow; clear hown hgrow))
        refine ⟨⟨i + 1, m + 1, ao', cp', by simp, hlt, rfl, by rw [HW.out, HE1.out], by rw [HW.out]; exact HO2.out, ?_⟩, by simp [intOf]; omega⟩
        exact (HF.out.alloc _).grown HG.out (fun k hk => .inr (ownBlock_ge HO.out hk))
      | false =>
        rw [hp] at CB
        have hw : withP (L.take (i + 1)) b = withP (L.take i) b := by
          rw [hd]; unfold withP; rw [List.filter_append]; simp [hp]
        have HW := Lib.hid hw
        clear hm ho hf hx hd hw hml hws hp HR0
        go_wp2_with (first
          | (go_at_call 52; go_must (refine (CB.out _).mono ?_; rintro e w' ⟨rfl, rfl⟩)))
        exact ⟨⟨i + 1, m, a5, c5, by simp, hlt, rfl, by rw [HW.out]; exact HM.out, by rw [HW.out]; exact HO.out, HF.out⟩, by simp [intOf]; omega⟩
    · obtain rfl : i = n := by omega
      have hge : ¬ (i : Int) < (i : Int) := by omega
      clear hm ho hf
      go_wp2
      go_ret
      refine ⟨_, rfl, ?_, HF.out⟩
      have h1 := HO.out; have h2 := HM.out
      rw [HR0.out] at h1 h2
      rw [h2]; exact h1
def rlS (b : Wd) (acc : Nat × Bool) (x : Wd) : Nat × Bool := if x.isPrefixOf b = true ∧ acc.1 ≤ x.length then (x.length, true) else acc
/-- the longest word that b begins with, as the reference looks for it -/
def rlongL (L : List Wd) (b : Wd) : Nat × Bool := L.foldl (rlS b) (0, false)
set_option maxHeartbeats 1000000 in
set_option maxRecDepth 100000 in
theorem rlong_any (h : Txts w lv L) (hn : L.length ≤ 100000) (b : Wd) (h64 : ∀ x ∈ L, x.length ≤ 1000000) : Calls Try.prog 39 #[lv, .string (txt b)] w (Ret (.tuple #[.int .i64 (rlongL L b).1, .bool (rlongL L b).2]) (w = ·)) := by
  obtain ⟨ao, cap, rfl, hcap, hcs⟩ := h
  have HC := Lib.hid hcs; have H64 := Lib.hid h64
  obtain ⟨n, hnn⟩ : ∃ n, L.length = n := ⟨_, rfl⟩
  have HN := Lib.hid hnn
  rw [hnn] at hcap hn ⊢
  have HR0 : Hid ((L.take n).foldl (rlS b) (0, false) = rlongL L b) := Lib.hid (by rw [← hnn, List.take_length]; rfl)
  obtain ⟨RM, RI, hR⟩ : ∃ RM RI, rlongL L b = (RM, RI) := ⟨_, _, rfl⟩
  rw [hR] at HR0 ⊢
  clear hcs hnn h64 hR
  go_enter Try.func39, Try.ntmps39
  go_wp2
  go_loopw [6, 7, 8] (fun s6 s7 s8 wr => ∃ (i m : Nat) (z : Bool), s8 = .int .i64 i ∧ i ≤ n ∧ s6 = .int .i64 m ∧ s7 = .bool z ∧ (L.take i).foldl (rlS b) (0, false) = (m, z) ∧ m ≤ 1000000 ∧ w = wr) (fun _ _ s8 _ => n - (intOf s8).toNat)
  case atStart => exact ⟨0, 0, false, rfl, Nat.zero_le _, rfl, rfl, rfl, by omega, rfl⟩
  case round =>
    obtain ⟨i, m, z, rfl, hi, rfl, rfl, hm, hmb, rfl⟩ := hrel
    have HM := Lib.hid hm
    by_cases hlt : i < n
    · have hlt' : (i : Int) < (n : Int) := by omega
      obtain ⟨x, hx⟩ : ∃ x, L[i]? = some x := ⟨_, List.getElem?_eq_getElem (by rw [HN.out]; exact hlt)⟩
      obtain ⟨g, o, rfl, cx⟩ := HC.out i x hx
      unfold st at cx
      have hd : (L.take (i + 1)).foldl (rlS b) (0, false) = rlS b (m, z) x := by
        rw [take_snoc hx, List.foldl_append, hm]; rfl
      have hsz := txt_size x
      have hx64 := H64.out x (List.mem_of_getElem? hx)
      have CB : Hid (∀ V, Calls Try.prog 52 #[.string (txt b), .string (txt x)] V (Ret (.bool (x.isPrefixOf b)) (V = ·))) := Lib.hid fun V => beg_any V b x
      obtain ⟨nx, hnx⟩ : ∃ nx, x.length = nx := ⟨_, rfl⟩
      rw [hnx] at hsz hx64
      unfold rlS at hd
      rw [hnx] at hd
      cases hp : x.isPrefixOf b with
      | true =>
        rw [hp] at CB hd
        by_cases hle : m ≤ nx
        · have hle' : (m : Int) ≤ (nx : Int) := by omega
          rw [if_pos ⟨rfl, hle⟩] at hd
          have HD := Lib.hid hd
          clear hm hx hd hp HR0 hnx
          go_wp2_with (first
            | (go_at_call 52; go_must (refine (CB.out _).mono ?_; rintro e w' ⟨rfl, rfl⟩)))
          exact ⟨⟨i + 1, nx, true, by simp, hlt, rfl, rfl, HD.out, hx64, trivial⟩, by simp [intOf]; omega⟩
        · have hle' : ¬ (m : Int) ≤ (nx : Int) := by omega
          rw [if_neg (fun e => hle e.2)] at hd
          have HD := Lib.hid hd
          clear hm hx hd hp HR0 hnx
          go_wp2_with (first
            | (go_at_call 52; go_must (refine (CB.out _).mono ?_; rintro e w' ⟨rfl, rfl⟩)))
          exact ⟨⟨i + 1, m, z, by simp, hlt, rfl, rfl, HD.out, hmb, trivial⟩, by simp [intOf]; omega⟩
      | false =>
        rw [hp] at CB hd
        rw [if_neg (fun e => by cases e.1)] at hd
        have HD := Lib.hid hd
        clear hm hx hd hp HR0 hnx
        go_wp2_with (first
          | (go_at_call 52; go_must (refine (CB.out _).mono ?_; rintro e w' ⟨rfl, rfl⟩)))
        exact ⟨⟨i + 1, m, z, by simp, hlt, rfl, rfl, HD.out, hmb, trivial⟩, by simp [intOf]; omega⟩
    · obtain rfl : i = n := by omega
      have hge : ¬ (i : Int) < (i : Int) := by omega
      rw [HR0.out] at hm
      obtain ⟨rfl, rfl⟩ := Prod.mk.inj hm
      clear HM HR0
      go_wp2
      go_ret2
      exact ⟨rfl, rfl⟩
set_option maxHeartbeats 1000000 in
set_option maxRecDepth 100000 in
theorem rmark_any (h : Txts w lv L) (hn : L.length ≤ 100000) (b : Wd) (hb : b.length ≤ 1000000) : Calls Try.prog 40 #[lv, .string (txt b)] w (Ret (.tuple #[.int .i64 (markL L b).1, .int .i64 (markL L b).2]) (Frm [] w)) := by
  have HT := Lib.hid h
  have CH := Lib.hid (rhas_any h (by omega) b)
  obtain ⟨ao, cap, rfl, hcap, -⟩ := h
  have hsz := txt_size b
  have CW : Hid (∀ V k, Frm [] w V → Calls Try.prog 23 #[.slice ao L.length cap, .string (txt (b.take k))] V (RetV (FreshT V (withP L (b.take k))))) := Lib.hid fun V k hf => rwith_any (HT.out.frm0 hf) hn (b.take k)
  have hcut : ∀ k : Nat, (txt b).extract 0 k = txt (b.take k) := fun k => by rw [txt_cut, List.drop_zero]
  obtain ⟨nb, hnb⟩ : ∃ nb, b.length = nb := ⟨_, rfl⟩
  rw [hnb] at hsz hb
  have HNB := Lib.hid hnb
  by_cases h1 : 64 < nb
  · have h1' : (64 : Int) < (nb : Int) := by omega
    have hm : markL L b = (0, 5) := by unfold markL; rw [if_pos (by omega)]
    rw [hm]
    clear hnb hm
    go_enter Try.func40, Try.ntmps40
    go_wp2
    go_ret2
    exact ⟨rfl, Frm.refl _ _⟩
  · have h1' : ¬ (64 : Int) < (nb : Int) := by omega
    cases h2 : memB L b with
    | false =>
      have hm : markL L b = (0, 9) := by unfold markL; rw [if_neg (by omega), if_pos h2]
      rw [hm]
      rw [h2] at CH
      clear hnb hm
      go_enter Try.func40, Try.ntmps40
      go_wp2_with (go_at_call 42; go_must (refine CH.out.mono ?_; clear CH; rintro e w' ⟨rfl, rfl⟩))
      go_ret2
      exact ⟨rfl, Frm.refl _ _⟩
    | true =>
      have hm : markL L b = markF L b (nb + 1) 0 := by unfold markL; rw [if_neg (by omega), if_neg (by rw [h2]; simp), hnb]
      obtain ⟨RM, RE, hR⟩ : ∃ RM RE, markL L b = (RM, RE) := ⟨_, _, rfl⟩
      have HR0 : Hid (markF L b (nb + 1) 0 = (RM, RE)) := Lib.hid (by rw [← hm, hR])
      rw [hR]
      rw [h2] at CH
      have HCUT := Lib.hid hcut
      clear hnb hm hR hcut
      go_enter Try.func40, Try.ntmps40
      go_wp2_with (go_at_call 42; go_must (refine CH.out.mono ?_; clear CH; rintro e w' ⟨rfl, rfl⟩))
      go_loopw [6] (fun s6 wr => ∃ i k : Nat, s6 = .int .i64 i ∧ i + k = nb + 1 ∧ markF L b k i = (RM, RE) ∧ Frm [] w wr) (fun s6 _ => nb + 1 - (intOf s6).toNat)
      case atStart => exact ⟨0, nb + 1, rfl, by omega, HR0.out, Frm.refl _ _⟩
      case round =>
        obtain ⟨i, k, rfl, hik, hr, hf⟩ := hrel
        have HR := Lib.hid hr; have HF := Lib.hid hf
        clear hr hf HR0
        cases k with
        | zero =>
          have hge : ¬ (i : Int) ≤ (nb : Int) := by omega
          have hR : ((0 : Nat), (9 : Int)) = (RM, RE) := HR.out
          obtain ⟨rfl, rfl⟩ := Prod.mk.inj hR
          clear hR HR
          go_wp2
          go_ret2
          exact ⟨rfl, HF.out⟩
        | succ k =>
          have hle : (i : Int) ≤ (nb : Int) := by omega
          have hcut := HCUT.out i
          obtain ⟨cn, hcn⟩ : ∃ cn, (withP L (b.take i)).length = cn := ⟨_, rfl⟩
          have HCN := Lib.hid hcn
          have CL := Lib.hid (CW.out wr i HF.out)
          have hR : (if cn = 1 then (i, (0 : Int)) else markF L b k (i + 1)) = (RM, RE) := by
            have := HR.out
            unfold markF at this
            rwa [hcn] at this
          clear hcn
          by_cases h1c : cn = 1
          · rw [if_pos h1c] at hR
            obtain ⟨rfl, rfl⟩ := Prod.mk.inj hR
            subst h1c
            clear hR HR
            go_wp2_with (go_at_call 23; go_must (refine CL.out.mono ?_; clear CL; rintro e w1 ⟨v, rfl, h2, h3⟩; obtain ⟨va, vc, rfl⟩ := own_shape h2; have H3 := Lib.hid h3; clear h2 h3; rw [HCN.out]))
            go_ret2
            exact ⟨rfl, HF.out.trans H3.out⟩
          · rw [if_neg h1c] at hR
            have HR2 := Lib.hid hR
            have hne : ((cn : Int) == 1) = false := by rw [beq_eq_false_iff_ne]; omega
            have hne2 : ¬ (cn : Int) = 1 := by omega
            have hne3 : (cn == 1) = false := by simpa using h1c
            clear hR HR
            go_wp2_with (go_at_call 23; go_must (refine CL.out.mono ?_; clear CL; rintro e w1 ⟨v, rfl, h2, h3⟩; obtain ⟨va, vc, rfl⟩ := own_shape h2; have H3 := Lib.hid h3; clear h2 h3; rw [HCN.out]))
            exact ⟨⟨i + 1, k, by push_cast; rfl, by omega, HR2.out, HF.out.trans H3.out⟩, by simp [intOf]; omega⟩
end
end Go.Proofs.Ytefpfcheafbfdaa
