import Derived.Test.YtefpfcheafbfdaaDec
import Derived.Test.YtefpfcheafbfdaaRefD
namespace Go.Proofs.Ytefpfcheafbfdaa
open Go.RowKit Go.Maps Go.BigFrame
/-- byte k of a text, as a number -/
def byt (b : Wd) (k : Nat) : Nat := (b.getD k 0).toNat
theorem byt_lt (b : Wd) (k : Nat) : byt b k < 256 := UInt8.toNat_lt _
theorem byt_of {b : Wd} {k : Nat} {c : UInt8} (h : b[k]? = some c) : byt b k = c.toNat := by
  unfold byt; rw [List.getD_eq_getElem?_getD, h]; rfl
theorem txt_byt (b : Wd) : ∀ (k : Nat) (h : k < (txt b).size), ((txt b)[k]'h).toNat = byt b k := fun k h => by
  have h1 : k < b.length := by rw [← txt_size b]; exact h
  rw [byt_of (List.getElem?_eq_getElem h1)]
  rfl
theorem hdr_byt (b : Wd) : hdr b = byt b 0 * 256 + byt b 1 := rfl
set_option maxHeartbeats 2000000 in
theorem rdec_any (b : Wd) (hb : b.length ≤ 500) (w : World) : Calls Try.prog 38 #[.string (txt b)] w (RetV fun v w' => Frm [] w w' ∧ ∃ u, v = .tuple #[u, .int .i64 (decL b).2] ∧ Txts w' u (decL b).1) := by
  have hsz := txt_size b
  have H5 := Lib.hid hb
  obtain ⟨n, hn⟩ : ∃ n, b.length = n := ⟨_, rfl⟩
  have HN := Lib.hid hn
  rw [hn] at hsz hb
  by_cases h2 : n < 2
  · have h2' : (n : Int) < 2 := by omega
    have HD := Lib.hid (decL_short (b := b) (by omega))
    clear hn
    go_enter Try.func38, Try.ntmps38
    go_wp2
    go_ret2
    refine ⟨_, rfl, Frm.refl _ _, .slice none 0 0, by rw [HD.out]; rfl, by rw [HD.out]; exact Txts.nil _⟩
  · have h2' : ¬ (n : Int) < 2 := by omega
    have hp0 : 0 < n := by omega
    have hp1 : 1 < n := by omega
    have hbt := txt_byt b
    have hc0 := byt_lt b 0
    have hc1 := byt_lt b 1
    clear hn
    go_enter Try.func38, Try.ntmps38
    go_wp2
    obtain ⟨h, hh⟩ : ∃ h, hdr b = h := ⟨_, rfl⟩
    have HH := Lib.hid hh
    rw [hdr_byt] at hh
    have e4 : (256 * (byt b 0 : Int) + (byt b 1 : Int)) = (h : Int) := by omega
    have hh6 : h < 65536 := by omega
    have HBL := Lib.hid (byt_lt b)
    have HD0 : Hid (¬ b.length < 2) := Lib.hid (by rw [HN.out]; exact h2)
    go_quiet (fail)
    clear e4 hh hc0 hc1
    go_wp2
    go_loopw [5, 6, 7] (fun s5 s6 s7 wr => ∃ (p i : Nat) (ao : Option Addr) (cp : Nat) (L : List Wd), s5 = .int .i64 p ∧ s7 = .int .i64 i ∧ s6 = .slice ao i cp ∧ L.length = i ∧ i ≤ h ∧ i + 2 ≤ p ∧ p ≤ n ∧ wr.ownsRow w.heap.size 9 1 (.slice ao i cp) i (L.map st) ∧ pre' [] h (b.drop 2) = pre' L (h - i) (b.drop p) ∧ Frm [] w wr) (fun _ _ s7 _ => h - (intOf s7).toNat)
    case atStart => exact ⟨2, 0, none, 0, [], rfl, rfl, rfl, rfl, Nat.zero_le _, Nat.le_refl _, by omega, World.ownsRow_nil _ _ _ _, rfl, (Frm.refl _ _).drewN _⟩
    case round =>
      obtain ⟨p, i, ao, cp, L, rfl, rfl, rfl, hL, hi, hip, hp, ho, he, hf⟩ := hrel
      have HL := Lib.hid hL; have HO := Lib.hid ho; have HE := Lib.hid he; have HF := Lib.hid hf
      clear hL ho he hf
      by_cases hlt : i < h
      · have hlt' : (i : Int) < (h : Int) := by omega
        obtain ⟨m, hm⟩ : ∃ m, h - i = m + 1 := ⟨h - i - 1, by omega⟩
        by_cases hpn : p < n
        · have hpn' : ¬ (n : Int) ≤ (p : Int) := by omega
          obtain ⟨c, hc⟩ : ∃ c, b[p]? = some c := ⟨_, List.getElem?_eq_getElem (by rw [HN.out]; exact hpn)⟩
          have hr : b.drop p = c :: b.drop (p + 1) := by
            obtain ⟨l1, rfl⟩ := List.getElem?_eq_some_iff.1 hc
            exact List.drop_eq_getElem_cons l1
          have hcb := byt_of hc
          obtain ⟨k, hk⟩ : ∃ k, byt b p = k := ⟨_, rfl⟩
          have hk6 : k < 256 := by rw [← hk]; exact byt_lt b p
          have hck : c.toNat = k := by rw [← hcb, hk]
          by_cases hfit : p + 1 + k ≤ n
          · have hfit' : ¬ (n : Int) < (p : Int) + 1 + (k : Int) := by omega
            have he2 : pre' [] h (b.drop 2) = pre' (L ++ [(b.take (p + 1 + k)).drop (p + 1)]) (h - (i + 1)) (b.drop (p + 1 + k)) := by
              rw [HE.out, hm, pre'_some hr (by rw [List.length_drop, HN.out, hck]; omega), hck, List.drop_drop]
              congr 1
              · rw [List.drop_take]; congr 4; omega
              · omega
            have HE2 := Lib.hid he2
            obtain ⟨x, hx⟩ : ∃ x, (b.take (p + 1 + k)).drop (p + 1) = x := ⟨_, rfl⟩
            have hcut : (txt b).extract (p + 1) (p + 1 + k) = txt x := by rw [txt_cut, hx]
            rw [hx] at HE2
            have HA := Lib.hid (app_txt1 x HO.out HL.out)
            have HWS := Lib.hid HF.out.size
            have e1 : (L ++ [x]).length = i + 1 := by simp [HL.out]
            have HE1 := Lib.hid e1
            unfold st at HA
            clear hc hr hcb hck he2 hx e1 hm
            go_wp2_with (first
              | (at_builtin; refine wpList_app_txts rfl _ _ rfl w.heap.size (.slice ao i cp) _ rfl rfl L [x] HA.out.1 HA.out.2 (by have := HL.out; simp; omega) (by have := HWS.out; simp; omega) ?_; intro ao' cp' w2 hown hgrow; rw [HE1.out] at hown ⊢; have HO2 := Lib.hid hown; have HG := Lib.hid hgrow; clear hown hgrow))
            refine ⟨⟨p + 1 + k, i + 1, ao', cp', L ++ [x], by simp, by simp, rfl, HE1.out, hlt, by omega, hfit, HO2.out, HE2.out, ?_⟩, by simp [intOf]; omega⟩
            exact (HF.out.alloc _).grown HG.out (fun k hk => .inr (ownBlock_ge HO.out hk))
          · have hfit' : (n : Int) < (p : Int) + 1 + (k : Int) := by omega
            have HD := Lib.hid (decL_none HD0.out (by rw [HH.out, HE.out, hm]; exact pre'_none hr (by rw [List.length_drop, HN.out, hck]; omega)))
            clear hc hr hcb hck hm
            go_wp2
            go_ret2
            refine ⟨_, rfl, HF.out, .slice none 0 0, by rw [HD.out]; rfl, by rw [HD.out]; exact Txts.nil _⟩
        · have hpn' : (n : Int) ≤ (p : Int) := by omega
          have HD := Lib.hid (decL_none HD0.out (by rw [HH.out, HE.out, hm]; exact pre'_nil _ _ (List.drop_of_length_le (by rw [HN.out]; omega))))
          clear hm
          go_wp2
          go_ret2
          refine ⟨_, rfl, HF.out, .slice none 0 0, by rw [HD.out]; rfl, by rw [HD.out]; exact Txts.nil _⟩
      · obtain rfl : i = h := by omega
        have hge : ¬ (i : Int) < (i : Int) := by omega
        have HE3 : Hid (pre' [] (hdr b) (b.drop 2) = some (L, b.drop p)) := Lib.hid (by rw [HH.out, HE.out, Nat.sub_self]; rfl)
        by_cases hpn : p < n
        · have hpn' : (p : Int) < (n : Int) := by omega
          have HD := Lib.hid (decL_long HD0.out HE3.out (by intro e; have := congrArg List.length e; rw [List.length_drop, HN.out] at this; simp at this; omega))
          go_wp2
          go_ret2
          refine ⟨_, rfl, HF.out, .slice none 0 0, by rw [HD.out]; rfl, by rw [HD.out]; exact Txts.nil _⟩
        · have hpn' : ¬ (p : Int) < (n : Int) := by omega
          obtain rfl : p = n := by omega
          have hdn : b.drop p = [] := List.drop_of_length_le (by rw [HN.out]; exact Nat.le_refl _)
          rw [hdn] at HE3
          clear hdn HE
          go_wp2
          have HT : Hid (Txts wr (.slice ao i cp) L) := Lib.hid (Txts.of_own (by rw [HL.out]; exact HO.out))
          go_loopw [8] (fun s8 wq => ∃ j : Nat, s8 = .int .i64 j ∧ j ≤ i ∧ (∀ k x, k < j → L[k]? = some x → x.length ≤ 64) ∧ (∀ k x y, k + 1 < j → L[k]? = some x → L[k + 1]? = some y → x < y) ∧ Frm [] wr wq) (fun s8 _ => i - (intOf s8).toNat)
          case atStart => exact ⟨0, rfl, Nat.zero_le _, fun k x h => by omega, fun k x y h => by omega, Frm.refl _ _⟩
          case round =>
            obtain ⟨j, rfl, hj, h64, hso, hf⟩ := hrel
            have H64 := Lib.hid h64; have HSO := Lib.hid hso; have HF2 := Lib.hid hf
            clear h64 hso hf
            by_cases hjl : j < i
            · have hjl' : (j : Int) < (i : Int) := by omega
              have hi6 : decide ((1000 : Int) < (i : Int)) = false := decide_eq_false (by omega)
              obtain ⟨x, hx⟩ : ∃ x, L[j]? = some x := ⟨_, List.getElem?_eq_getElem (by rw [HL.out]; exact hjl)⟩
              have HX := Lib.hid hx
              have ht := HT.out
              obtain ⟨ao', cp', q0, -, hcs⟩ := ht
              injection q0 with q1 q2 q3
              subst q1; subst q3
              obtain ⟨g, o, rfl, c1⟩ := hcs j x hx
              have cx := HF2.out.cellAt c1 (by simp)
              unfold st at cx
              have hsx := txt_size x
              obtain ⟨nx, hnx⟩ : ∃ nx, x.length = nx := ⟨_, rfl⟩
              rw [hnx] at hsx
              have HNX := Lib.hid hnx
              clear hx q2 c1 hnx
              by_cases hl64 : 64 < nx
              · have hl64' : decide ((64 : Int) < (nx : Int)) = true := decide_eq_true (by omega)
                have HD := Lib.hid (decL_bad HD0.out HE3.out (fun h => by have := h.2 x (List.mem_of_getElem? HX.out); rw [HNX.out] at this; omega))
                clear hcs
                go_wp2
                go_quiet (fail)
                go_wp2
                go_ret2
                refine ⟨_, rfl, (HF.out.trans HF2.out).drewN _, .slice none 0 0, by rw [HD.out]; rfl, by rw [HD.out]; exact Txts.nil _⟩
              · have hl64' : decide ((64 : Int) < (nx : Int)) = false := decide_eq_false (by omega)
                have h64' : ∀ k z, k < j + 1 → L[k]? = some z → z.length ≤ 64 := fun k z hk hz => by
                  rcases Nat.lt_or_ge k j with h | h
                  · exact H64.out k z h hz
                  · obtain rfl : k = j := by omega
                    rw [HX.out] at hz; cases hz
                    rw [HNX.out]; omega
                have H65 := Lib.hid h64'
                clear h64'
                by_cases hj0 : j = 0
                · subst hj0
                  rw [Nat.add_zero] at cx
                  clear hcs
                  go_wp2
                  go_quiet (fail)
                  go_wp2
                  exact ⟨⟨1, by simp, hjl, H65.out, fun k x y h => by omega, HF2.out.drewN _⟩, by simp [intOf]; omega⟩
                · obtain ⟨d, rfl⟩ : ∃ d, j = d + 1 := ⟨j - 1, by omega⟩
                  obtain ⟨y, hy⟩ : ∃ y, L[d]? = some y := ⟨_, List.getElem?_eq_getElem (by rw [HL.out]; omega)⟩
                  have HY := Lib.hid hy
                  obtain ⟨g2, o2, e, c2⟩ := hcs d y hy
                  cases e
                  have cy := HF2.out.cellAt c2 (by simp)
                  unfold st at cy
                  have hlt0 : Op.bytesLess (txt x).toList (txt y).toList = decide (x < y) := str_lt x y
                  have heq0 : ((txt x).toList == (txt y).toList) = decide (x = y) := by rw [str_beq, txt_eq]
                  have hdj : decide ((0 : Int) < (d : Int) + 1) = true := decide_eq_true (by omega)
                  have e2 : ((d : Int) + 1 - 1) = (d : Int) := by omega
                  clear hcs hy c2
                  by_cases hyx : y < x
                  · rw [decide_eq_false (List.lt_asymm hyx)] at hlt0
                    rw [decide_eq_false (fun e => by subst e; exact List.lt_irrefl _ hyx)] at heq0
                    have hs' : ∀ k a c, k + 1 < d + 1 + 1 → L[k]? = some a → L[k + 1]? = some c → a < c := fun k a c hk ha hc => by
                      rcases Nat.lt_or_ge (k + 1) (d + 1) with h | h
                      · exact HSO.out k a c h ha hc
                      · obtain rfl : k = d := by omega
                        rw [HY.out] at ha; cases ha
                        rw [HX.out] at hc; cases hc
                        exact hyx
                    have HS2 := Lib.hid hs'
                    clear hyx hs'
                    go_wp2
                    go_quiet (fail)
                    go_wp2
                    exact ⟨⟨d + 1 + 1, by simp, hjl, H65.out, HS2.out, HF2.out.drewN _⟩, by simp [intOf]; omega⟩
                  · have HD := Lib.hid (decL_bad HD0.out HE3.out (fun h => hyx (sorted_adj h.1 HY.out HX.out)))
                    have hor : x < y ∨ x = y := by
                      rcases List.le_iff_lt_or_eq.1 (List.not_lt.1 hyx) with h | h
                      · exact .inl h
                      · exact .inr h
                    clear hyx
                    by_cases hxy : x < y
                    · rw [decide_eq_true hxy] at hlt0
                      clear hor hxy heq0
                      go_wp2
                      go_quiet (fail)
                      go_wp2
                      go_ret2
                      refine ⟨_, rfl, (HF.out.trans HF2.out).drewN _, .slice none 0 0, by rw [HD.out]; rfl, by rw [HD.out]; exact Txts.nil _⟩
                    · rw [decide_eq_false hxy] at hlt0
                      rw [decide_eq_true (hor.resolve_left hxy)] at heq0
                      clear hor hxy
                      go_wp2
                      go_quiet (fail)
                      go_wp2
                      go_ret2
                      refine ⟨_, rfl, (HF.out.trans HF2.out).drewN _, .slice none 0 0, by rw [HD.out]; rfl, by rw [HD.out]; exact Txts.nil _⟩
            · obtain rfl : j = i := by omega
              have hge2 : ¬ (j : Int) < (j : Int) := by omega
              have hok : okL L := ⟨adj_sorted L fun k x y hx hy => HSO.out k x y (by have := lt_of_some hy; rw [HL.out] at this; exact this) hx hy, fun x hx => by
                obtain ⟨k, hk⟩ := List.mem_iff_getElem?.1 hx
                exact H64.out k x (by have := lt_of_some hk; rw [HL.out] at this; exact this) hk⟩
              have HD := Lib.hid (decL_ok HD0.out HE3.out hok)
              clear hok
              go_wp2
              go_ret2
              refine ⟨_, rfl, HF.out.trans HF2.out, .slice ao j cp, by rw [HD.out]; rfl, by rw [HD.out]; exact HT.out.frm0 HF2.out⟩
end Go.Proofs.Ytefpfcheafbfdaa
