/- The reference, second part: Nodes, Next, Common, Free, Encode; texts. -/
import Derived.Test.YtefpfcheafbfdaaRefA
namespace Go.Proofs.Ytefpfcheafbfdaa
open Go.RowKit Go.Maps Go.BigFrame

theorem allPre_snoc : ∀ (A done : List Wd) (x : Wd), allPre done (A ++ [x]) = allPre done A ++ newPre (done ++ A) x
  | [], done, x => by simp [allPre]
  | a :: A, done, x => by
    rw [List.cons_append]
    unfold allPre
    rw [allPre_snoc A (done ++ [a]) x, List.append_assoc, List.append_assoc]
    simp
/-- of the first k beginnings of x, those that no word of D begins with -/
def cntK (D : List Wd) (x : Wd) (k : Nat) : Nat := (((List.range k).map x.take).filter fun p => !D.any fun y => p.isPrefixOf y).length
theorem cntK_succ (D : List Wd) (x : Wd) (k : Nat) : cntK D x (k + 1) = cntK D x k + (if (!D.any fun y => (x.take k).isPrefixOf y) = true then 1 else 0) := by
  unfold cntK
  rw [List.range_succ, List.map_append, List.filter_append, List.length_append]
  congr 1
  simp only [List.map_cons, List.map_nil, List.filter_cons, List.filter_nil]
  split <;> simp_all
theorem cntA_succ {L : List Wd} {i : Nat} {x : Wd} (hx : L[i]? = some x) : (allPre [] (L.take (i + 1))).length = (allPre [] (L.take i)).length + cntK (L.take i) x (x.length + 1) := by
  rw [take_snoc hx, allPre_snoc, List.length_append, List.nil_append]
  rfl
theorem cntK_le (D : List Wd) (x : Wd) (k : Nat) : cntK D x k ≤ k := by
  unfold cntK
  refine Nat.le_trans (List.length_filter_le _ _) ?_
  simp
section
variable {w : World} {lv : Value} {L : List Wd}
set_option maxHeartbeats 4000000 in
set_option maxRecDepth 100000 in
theorem rnodes_any (h : Txts w lv L) (hn : L.length ≤ 1000) (h64 : ∀ x ∈ L, x.length ≤ 64) : Calls Try.prog 41 #[lv] w (Ret (.int .i64 (nodesL L)) (Frm [] w)) := by
  obtain ⟨ao, cap, rfl, hcap, hcs⟩ := h
  have HC := Lib.hid hcs; have H64 := Lib.hid h64
  obtain ⟨n, hnn⟩ : ∃ n, L.length = n := ⟨_, rfl⟩
  have HN := Lib.hid hnn
  rw [hnn] at hcap hn ⊢
  have HR0 : Hid ((allPre [] (L.take n)).length = nodesL L) := Lib.hid (by rw [← hnn, List.take_length]; rfl)
  have HB : Hid (∀ i, i ≤ n → (allPre [] (L.take i)).length ≤ 65000) := Lib.hid (fun i hi => by
    refine Nat.le_trans (allPre_le _ _) (Nat.le_trans (sum_le_of (fun x hx => h64 x (List.mem_of_mem_take hx))) ?_)
    rw [List.length_take]; omega)
  generalize nodesL L = R at HR0 ⊢
  clear hcs hnn h64
  go_enter Try.func41, Try.ntmps41
  go_wp2
  go_loopw [3, 4] (fun s3 s4 wr => ∃ i c : Nat, s4 = .int .i64 i ∧ i ≤ n ∧ s3 = .int .i64 c ∧ (allPre [] (L.take i)).length = c ∧ Frm [] w wr) (fun _ s4 _ => n - (intOf s4).toNat)
  case atStart => exact ⟨0, 0, rfl, Nat.zero_le _, rfl, rfl, Frm.refl _ _⟩
  case round =>
    obtain ⟨i, c, rfl, hi, rfl, hc, hf⟩ := hrel
    have HCC := Lib.hid hc; have HF := Lib.hid hf
    by_cases hlt : i < n
    · have hlt' : (i : Int) < (n : Int) := by omega
      obtain ⟨x, hx⟩ : ∃ x, L[i]? = some x := ⟨_, List.getElem?_eq_getElem (by rw [HN.out]; exact hlt)⟩
      obtain ⟨g, o, rfl, cx0⟩ := HC.out i x hx
      have CX : Hid (∀ V, Frm [] w V → V.cell? ⟨g, o + i, none⟩ = some (.string (txt x))) := Lib.hid fun V hV => hV.cellAt cx0 (by simp)
      have hA := cntA_succ hx
      rw [hc] at hA
      have hcb : c ≤ 65000 := by rw [← hc]; exact HB.out i hi
      have hsz := txt_size x
      have hx64 := H64.out x (List.mem_of_getElem? hx)
      have hcut : ∀ k : Nat, (txt x).extract 0 k = txt (x.take k) := fun k => by rw [txt_cut, List.drop_zero]
      obtain ⟨nx, hnx⟩ : ∃ nx, x.length = nx := ⟨_, rfl⟩
      rw [hnx] at hsz hx64 hA
      have HA := Lib.hid hA
      have HCUT := Lib.hid hcut
      obtain ⟨wo, hwo⟩ : ∃ wo, wo = wr := ⟨_, rfl⟩
      subst hwo
      clear hc hf hx cx0 hA hcut hnx HR0
      go_wp2
      go_loopw [3, 5] (fun s3 s5 wr => ∃ k d : Nat, s5 = .int .i64 k ∧ k ≤ nx + 1 ∧ s3 = .int .i64 (c + d) ∧ cntK (L.take i) x k = d ∧ Frm [] w wr) (fun _ s5 _ => nx + 1 - (intOf s5).toNat)
      case atStart => exact ⟨0, 0, rfl, Nat.zero_le _, by simp, rfl, HF.out⟩
      case round =>
        obtain ⟨k, d, rfl, hk, rfl, hd, hf⟩ := hrel
        have HD := Lib.hid hd; have HF2 := Lib.hid hf
        have hdb : d ≤ 70 := by rw [← hd]; exact Nat.le_trans (cntK_le _ _ _) (by omega)
        have cx := CX.out wr hf
        by_cases hle : k ≤ nx
        · have hle' : (k : Int) ≤ (nx : Int) := by omega
          have hS := cntK_succ (L.take i) x k
          rw [hd] at hS
          have HS := Lib.hid hS
          obtain ⟨w2, hw2⟩ : ∃ w2, w2 = wr := ⟨_, rfl⟩
          subst hw2
          clear hd hf hS
          go_wp2
          go_loopw [6, 7] (fun s6 s7 wr => ∃ (j : Nat) (z : Bool), s7 = .int .i64 j ∧ j ≤ i ∧ s6 = .bool z ∧ (!(L.take j).any fun y => (x.take k).isPrefixOf y) = z ∧ Frm [] w wr) (fun _ s7 _ => i - (intOf s7).toNat)
          case atStart => exact ⟨0, true, rfl, Nat.zero_le _, rfl, rfl, HF2.out⟩
          case round =>
            obtain ⟨j, z, rfl, hj, rfl, hz, hf3⟩ := hrel
            have HZ := Lib.hid hz; have HF3 := Lib.hid hf3
            clear cx
            have cx := CX.out wr hf3
            by_cases hjlt : j < i
            · have hjlt' : (j : Int) < (i : Int) := by omega
              obtain ⟨y, hy⟩ : ∃ y, L[j]? = some y := ⟨_, List.getElem?_eq_getElem (by rw [HN.out]; omega)⟩
              obtain ⟨g2, o2, e2, cy⟩ := HC.out j y hy
              cases e2
              have cy := hf3.cellAt cy (by simp)
              unfold st at cy
              have hjn : (j : Int) < (n : Int) := by omega
              have hany : (!(L.take (j + 1)).any fun y => (x.take k).isPrefixOf y) = (z && !(x.take k).isPrefixOf y) := by
                rw [take_snoc hy, List.any_append, Bool.not_or, hz]
                simp
              have HAN := Lib.hid hany
              obtain ⟨bp, hbp⟩ : ∃ bp, (x.take k).isPrefixOf y = bp := ⟨_, rfl⟩
              rw [hbp] at HAN
              have CL : ∀ V, Calls Try.prog 52 #[.string (txt y), .string (txt (x.take k))] V (fun e w' => e = .returned (.bool bp) ∧ w' = V) := fun V => (beg_any V y (x.take k)).mono fun _ _ ⟨h1, h2⟩ => ⟨by rw [h1, hbp], h2.symm⟩
              have hcut := HCUT.out k
              clear hz hf3 hy hany
              cases z
              all_goals
                go_wp2
                go_quiet ((go_at_call 52; exact Calls.quiet_of_same (CL _)))
                go_wp2
                exact ⟨⟨j + 1, _, by simp, hjlt, rfl, by rw [HAN.out]; simp, HF3.out.drewN _⟩, by simp [intOf]; omega⟩
            · obtain rfl : j = i := by omega
              have hge : ¬ (j : Int) < (j : Int) := by omega
              have hS2 : cntK (L.take j) x (k + 1) = d + (if z = true then 1 else 0) := by rw [HS.out, hz]
              have HS2 := Lib.hid hS2
              clear hz hf3 hS2
              cases z
              · go_wp2
                exact ⟨⟨k + 1, d, by simp, by omega, rfl, by rw [HS2.out]; simp, HF3.out⟩, by simp [intOf]; omega⟩
              · go_wp2
                exact ⟨⟨k + 1, d + 1, by simp, by omega, by push_cast; rw [Int.add_assoc], by rw [HS2.out]; simp, HF3.out⟩, by simp [intOf]; omega⟩
        · obtain rfl : k = nx + 1 := by omega
          have hgt : ¬ ((nx : Int) + 1) ≤ (nx : Int) := by omega
          have hA2 : (allPre [] (L.take (i + 1))).length = c + d := by rw [HA.out, HD.out]
          have HA2 := Lib.hid hA2
          clear hd hf hA2
          go_wp2
          exact ⟨⟨i + 1, c + d, by simp, hlt, by simp, HA2.out, HF2.out⟩, by simp [intOf]; omega⟩
    · obtain rfl : i = n := by omega
      have hge : ¬ (i : Int) < (i : Int) := by omega
      rw [HR0.out] at hc
      subst hc
      clear hf HR0
      go_wp2
      go_ret
      exact ⟨rfl, HF.out⟩
theorem txt_app (a b : Wd) : txt a ++ txt b = txt (a ++ b) := by
  apply ByteArray.ext
  rw [ByteArray.data_append]
  simp [txt]
theorem txt_nil : txt [] = { data := #[] } := rfl
/-- of the first c bytes, those that follow b -/
def nxF (L : List Wd) (b : Wd) (c : Nat) : Wd := ((List.range c).map UInt8.ofNat).filter fun k => pre L (b ++ [k])
theorem nxF_succ (L : List Wd) (b : Wd) (c : Nat) : nxF L b (c + 1) = nxF L b c ++ (if pre L (b ++ [UInt8.ofNat c]) = true then [UInt8.ofNat c] else []) := by
  unfold nxF
  rw [List.range_succ, List.map_append, List.filter_append]
  congr 1
  simp only [List.map_cons, List.map_nil, List.filter_cons, List.filter_nil]
theorem pre_any {L : List Wd} {b : Wd} {c : UInt8} : pre L (b ++ [c]) = L.any fun x => (b ++ [c]).isPrefixOf x := by
  unfold pre
  have : (b ++ [c]).isEmpty = false := by cases b <;> rfl
  rw [this, Bool.false_or]
/-- one byte's text -/
theorem byte_txt (w : World) (c : Nat) (hc : c < 256) : (convert 23 9 (.slice (some ⟨w.heap.size, 0, none⟩) 1 1)).run Try.prog (w.alloc (.cells #[.int .u8 (c : Int)] 5)) = .ok (.string (txt [UInt8.ofNat c])) (w.alloc (.cells #[.int .u8 (c : Int)] 5)) := by
  have e : Value.int .u8 (c : Int) = u8 (UInt8.ofNat c) := by
    unfold u8; congr 1
    have : (UInt8.ofNat c).toNat = c := by simp; omega
    rw [this]
  rw [e]
  exact (Byts.of_own (own_lit (base := 0) [UInt8.ofNat c] (Nat.zero_le _) (by simp))).conv
set_option maxHeartbeats 4000000 in
set_option maxRecDepth 100000 in
theorem rnext_any (h : Txts w lv L) (hn : L.length ≤ 100000) (b : Wd) (hb : b.length ≤ 1000000) : Calls Try.prog 43 #[lv, .string (txt b)] w (Ret (.string (txt (kidsP (pre L) b))) (Frm [] w)) := by
  obtain ⟨ao, cap, rfl, hcap, hcs⟩ := h
  have HC := Lib.hid hcs
  obtain ⟨n, hnn⟩ : ∃ n, L.length = n := ⟨_, rfl⟩
  have HN := Lib.hid hnn
  rw [hnn] at hcap hn ⊢
  have HR0 : Hid (nxF L b 256 = kidsP (pre L) b) := Lib.hid rfl
  generalize kidsP (pre L) b = R at HR0 ⊢
  have HNX : Hid (nxF L b 0 = []) := Lib.hid rfl
  clear hcs hnn
  go_enter Try.func43, Try.ntmps43
  go_wp2
  go_loopw [5, 6] (fun s5 s6 wr => ∃ c : Nat, s6 = .int .i64 c ∧ c ≤ 256 ∧ s5 = .string (txt (nxF L b c)) ∧ Frm [] w wr) (fun _ s6 _ => 256 - (intOf s6).toNat)
  case atStart => exact ⟨0, rfl, by omega, rfl, Frm.refl _ _⟩
  case round =>
    obtain ⟨c, rfl, hc, rfl, hf⟩ := hrel
    have HF := Lib.hid hf
    by_cases hlt : c < 256
    · have hlt' : (c : Int) < 256 := by omega
      have hcv := byte_txt wr c hlt
      have happ := txt_app b [UInt8.ofNat c]
      have hs := nxF_succ L b c
      rw [pre_any] at hs
      have HS := Lib.hid hs
      obtain ⟨wo, hwo⟩ : ∃ wo, wo = wr := ⟨_, rfl⟩
      subst hwo
      obtain ⟨p, hp⟩ : ∃ p, b ++ [UInt8.ofNat c] = p := ⟨_, rfl⟩
      rw [hp] at happ HS
      obtain ⟨q, hq⟩ : ∃ q, nxF L b c = q := ⟨_, rfl⟩
      rw [hq] at HS
      rw [hq]
      have HQ := Lib.hid hq
      have hql : q.length ≤ 256 := by
        rw [← hq]; unfold nxF
        refine Nat.le_trans (List.length_filter_le _ _) ?_
        simp; omega
      have hszb := txt_size b; have hsz1 := txt_size [UInt8.ofNat c]; have hszq := txt_size q
      obtain ⟨nb, hnb⟩ : ∃ nb, b.length = nb := ⟨_, rfl⟩
      obtain ⟨nq, hnq⟩ : ∃ nq, q.length = nq := ⟨_, rfl⟩
      have h1 : [UInt8.ofNat c].length = 1 := rfl
      rw [hnb] at hszb
      rw [hnq] at hszq hql
      rw [h1] at hsz1
      have hb2 : nb ≤ 1000000 := by rw [← hnb]; exact hb
      have hany0 : (L.take 0).any (fun x => p.isPrefixOf x) = false := rfl
      have HA0 := Lib.hid hany0
      clear hf hs hp HR0 HNX hq hnb hnq h1 hb hany0
      go_wp2
      clear happ hcv
      have HFo : Hid (Frm [] w (wo.alloc (.cells #[.int .u8 (c : Int)] 5))) := Lib.hid (HF.out.alloc _)
      go_loopw [5, 8] (fun s5 s8 wr => ∃ i : Nat, s8 = .int .i64 i ∧ i ≤ n ∧ s5 = .string (txt q) ∧ (L.take i).any (fun x => p.isPrefixOf x) = false ∧ Frm [] w wr) (fun _ s8 _ => n - (intOf s8).toNat)
      case atStart => exact ⟨0, rfl, Nat.zero_le _, rfl, HA0.out, HFo.out⟩
      case round =>
        obtain ⟨i, rfl, hi, rfl, hany, hf⟩ := hrel
        have HF2 := Lib.hid hf
        by_cases hilt : i < n
        · have hilt' : (i : Int) < (n : Int) := by omega
          obtain ⟨x, hx⟩ : ∃ x, L[i]? = some x := ⟨_, List.getElem?_eq_getElem (by rw [HN.out]; exact hilt)⟩
          obtain ⟨g, o, rfl, cx⟩ := HC.out i x hx
          have cx := hf.cellAt cx (by simp)
          unfold st at cx
          have hany2 : (L.take (i + 1)).any (fun x => p.isPrefixOf x) = p.isPrefixOf x := by
            rw [take_snoc hx, List.any_append, hany]; simp
          have hmem : x ∈ L := List.mem_of_getElem? hx
          have CB : Hid (∀ V, Calls Try.prog 52 #[.string (txt x), .string (txt p)] V (Ret (.bool (p.isPrefixOf x)) (V = ·))) := Lib.hid fun V => beg_any V x p
          cases hpx : p.isPrefixOf x with
          | true =>
            have hs2 : nxF L b (c + 1) = q ++ [UInt8.ofNat c] := by
              rw [HS.out, if_pos (List.any_eq_true.2 ⟨x, hmem, hpx⟩)]
            have HS2 := Lib.hid hs2
            have hcv := byte_txt wr c hlt
            have happ := txt_app q [UInt8.ofNat c]
            rw [← hs2] at happ
            rw [hpx] at CB
            clear hany hf hx hany2 hmem hs2 hpx HA0
            go_wp2_with (go_at_call 52; go_must (refine (CB.out _).mono ?_; rintro e w' ⟨rfl, rfl⟩))
            exact ⟨⟨c + 1, by simp, by omega, rfl, HF2.out.alloc _⟩, by simp [intOf]; omega⟩
          | false =>
            rw [hpx] at CB hany2
            have HA2 := Lib.hid hany2
            clear hany hf hx hany2 hmem hpx HA0
            go_wp2_with (go_at_call 52; go_must (refine (CB.out _).mono ?_; rintro e w' ⟨rfl, rfl⟩))
            exact ⟨⟨i + 1, by simp, hilt, rfl, HA2.out, HF2.out⟩, by simp [intOf]; omega⟩
        · obtain rfl : i = n := by omega
          have hge : ¬ (i : Int) < (i : Int) := by omega
          have hs2 : nxF L b (c + 1) = q := by
            have h3 : L.any (fun x => p.isPrefixOf x) = false := by
              have := hany
              rwa [← HN.out, List.take_length] at this
            rw [HS.out, h3]; simp
          have HS2 := Lib.hid hs2
          clear hany hf hs2 HA0
          go_wp2
          exact ⟨⟨c + 1, by simp, by omega, by rw [HS2.out], HF2.out⟩, by simp [intOf]; omega⟩
    · obtain rfl : c = 256 := by omega
      have hge : ¬ ((256 : Nat) : Int) < 256 := by omega
      clear hf HNX
      go_wp2
      go_ret
      exact ⟨by rw [HR0.out]; rfl, HF.out⟩
/-- the longest beginning of x0, of at most m bytes, that x begins with -/
def dnF (x0 x : Wd) : Nat → Nat
  | 0 => 0
  | m + 1 => if (x0.take (m + 1)).isPrefixOf x = true then m + 1 else dnF x0 x m
theorem dnF_le (x0 x : Wd) : ∀ m, dnF x0 x m ≤ m
  | 0 => Nat.le_refl _
  | m + 1 => by
    unfold dnF
    split
    · exact Nat.le_refl _
    · exact Nat.le_succ_of_le (dnF_le x0 x m)
def rcN (x0 : Wd) (L : List Wd) : Nat := L.foldl (fun n x => dnF x0 x n) x0.length
/-- the longest common beginning, as the reference looks for it -/
def rcommL : List Wd → Wd
  | [] => []
  | x0 :: L => x0.take (rcN x0 (x0 :: L))
set_option maxHeartbeats 4000000 in
set_option maxRecDepth 100000 in
theorem rcomm_any (h : Txts w lv L) (hn : L.length ≤ 100000) (h64 : ∀ x ∈ L, x.length ≤ 1000000) : Calls Try.prog 44 #[lv] w (Ret (.string (txt (rcommL L))) (Frm [] w)) := by
  obtain ⟨ao, cap, rfl, hcap, hcs⟩ := h
  cases L with
  | nil =>
    clear hcs
    go_enter Try.func44, Try.ntmps44
    go_wp2
    go_ret
    exact ⟨rfl, Frm.refl _ _⟩
  | cons x0 L =>
    have HC := Lib.hid hcs
    obtain ⟨g, o, rfl, cx0⟩ := HC.out 0 x0 rfl
    have CX : Hid (∀ V, Frm [] w V → V.cell? ⟨g, o, none⟩ = some (.string (txt x0))) := Lib.hid fun V hV => hV.cellAt cx0 (by simp)
    obtain ⟨A, hA⟩ : ∃ A, x0 :: L = A := ⟨_, rfl⟩
    have hR0 : rcommL (x0 :: L) = x0.take (rcN x0 A) := by rw [← hA]; rfl
    rw [hR0]
    rw [hA] at HC hcap hn h64 ⊢
    obtain ⟨n, hnn⟩ : ∃ n, A.length = n := ⟨_, rfl⟩
    have HN := Lib.hid hnn
    have hn0 : (0 : Int) < (n : Int) := by rw [← hnn, ← hA, List.length_cons]; omega
    have hn0' : 0 < n := by omega
    rw [hnn] at hcap hn ⊢
    have hne : ((n : Int) == 0) = false := by rw [beq_eq_false_iff_ne]; omega
    have hne2 : n ≠ 0 := by omega
    have HR0 : Hid ((A.take n).foldl (fun n x => dnF x0 x n) x0.length = rcN x0 A) := Lib.hid (by rw [← hnn, List.take_length]; rfl)
    have hsz := txt_size x0
    have hx0 : x0.length ≤ 1000000 := h64 x0 (by rw [← hA]; simp)
    have hcut : ∀ k : Nat, (txt x0).extract 0 k = txt (x0.take k) := fun k => by rw [txt_cut, List.drop_zero]
    obtain ⟨n0, hn00⟩ : ∃ n0, x0.length = n0 := ⟨_, rfl⟩
    rw [hn00] at hsz hx0 HR0
    generalize rcN x0 A = RES at HR0 ⊢
    have hc0 := CX.out w (Frm.refl _ _)
    have HCUT := Lib.hid hcut
    clear cx0 hcs hA hR0 hnn hn00 h64
    have hR : txt (x0.take RES) = (txt x0).extract 0 RES := (hcut RES).symm
    rw [hR]
    clear hR hcut
    go_enter Try.func44, Try.ntmps44
    go_wp2
    go_loopw [3, 4] (fun s3 s4 wr => ∃ i m : Nat, s4 = .int .i64 i ∧ i ≤ n ∧ s3 = .int .i64 m ∧ m ≤ n0 ∧ (A.take i).foldl (fun n x => dnF x0 x n) n0 = m ∧ Frm [] w wr) (fun _ s4 _ => n - (intOf s4).toNat)
    case atStart => exact ⟨0, n0, rfl, Nat.zero_le _, rfl, Nat.le_refl _, rfl, Frm.refl _ _⟩
    case round =>
      obtain ⟨i, m, rfl, hi, rfl, hm0, hm, hf⟩ := hrel
      have HM := Lib.hid hm; have HF := Lib.hid hf
      clear hc0
      by_cases hlt : i < n
      · have hlt' : (i : Int) < (n : Int) := by omega
        obtain ⟨x, hx⟩ : ∃ x, A[i]? = some x := ⟨_, List.getElem?_eq_getElem (by rw [HN.out]; exact hlt)⟩
        obtain ⟨g2, o2, e2, cx1⟩ := HC.out i x hx
        cases e2
        have CY : Hid (∀ V, Frm [] w V → V.cell? ⟨g, o + i, none⟩ = some (.string (txt x))) := Lib.hid fun V hV => by
          have := hV.cellAt cx1 (by simp)
          unfold st at this
          exact this
        have hs : (A.take (i + 1)).foldl (fun n x => dnF x0 x n) n0 = dnF x0 x m := by
          rw [take_snoc hx, List.foldl_append, hm]; rfl
        have HS := Lib.hid hs
        obtain ⟨wo, hwo⟩ : ∃ wo, wo = wr := ⟨_, rfl⟩
        subst hwo
        generalize dnF x0 x m = RD at HS
        have HD0 : Hid (dnF x0 x m = RD) := Lib.hid (by rw [← HS.out, hs])
        clear hf hm hx cx1 hs HR0
        go_wp2
        go_loopw [3] (fun s3 wr => ∃ m : Nat, s3 = .int .i64 m ∧ m ≤ n0 ∧ dnF x0 x m = RD ∧ Frm [] w wr) (fun s3 _ => (intOf s3).toNat)
        case atStart => exact ⟨m, rfl, hm0, HD0.out, HF.out⟩
        case round =>
          obtain ⟨k, rfl, hk0, hk, hf⟩ := hrel
          have HK := Lib.hid hk; have HF2 := Lib.hid hf
          have cx := CX.out wr hf
          have cy := CY.out wr hf
          have hcut := HCUT.out k
          have hk0' : (k : Int) ≤ (n0 : Int) := by omega
          obtain ⟨bp, hbp⟩ : ∃ bp, (x0.take k).isPrefixOf x = bp := ⟨_, rfl⟩
          have HBP := Lib.hid hbp
          have CL : ∀ V, Calls Try.prog 52 #[.string (txt x), .string (txt (x0.take k))] V (fun e w' => e = .returned (.bool bp) ∧ w' = V) := fun V => (beg_any V x (x0.take k)).mono fun _ _ ⟨h1, h2⟩ => ⟨by rw [h1, hbp], h2.symm⟩
          clear hk hf hbp HD0
          cases bp with
          | true =>
            have hd : dnF x0 x k = k := by
              cases k with
              | zero => rfl
              | succ k => unfold dnF; rw [if_pos HBP.out]
            have hRD : RD = k := by rw [← HK.out, hd]
            subst hRD
            clear hd
            go_wp2
            go_quiet ((go_at_call 52; exact Calls.quiet_of_same (CL _)))
            go_wp2
            exact ⟨⟨i + 1, RD, by simp, hlt, rfl, hk0, HS.out, HF2.out.drewN _⟩, by simp [intOf]; omega⟩
          | false =>
            cases k with
            | zero =>
              have := HBP.out
              simp at this
            | succ k =>
              have hd : dnF x0 x k = RD := by
                have := HK.out
                unfold dnF at this
                rwa [if_neg (by rw [HBP.out]; simp)] at this
              have HD := Lib.hid hd
              have e1 : ((k + 1 : Nat) : Int) = (k : Int) + 1 := by omega
              rw [e1] at hk0' ⊢
              clear hd
              go_wp2
              go_quiet ((go_at_call 52; exact Calls.quiet_of_same (CL _)))
              go_wp2
              exact ⟨⟨k, by simp, by omega, HD.out, HF2.out.drewN _⟩, by simp [intOf]⟩
      · obtain rfl : i = n := by omega
        have hge : ¬ (i : Int) < (i : Int) := by omega
        have hc0 := CX.out wr hf
        rw [HR0.out] at hm
        subst hm
        have hm0' : (RES : Int) ≤ (n0 : Int) := by omega
        clear hf HR0
        go_wp2
        go_ret
        exact ⟨rfl, HF.out⟩
/-- every word has a mark -/
def rfreeL (L : List Wd) : Bool := L.all fun x => (markL L x).2 == 0
set_option maxHeartbeats 1000000 in
set_option maxRecDepth 100000 in
theorem rfree_any (h : Txts w lv L) (hn : L.length ≤ 100000) (h64 : ∀ x ∈ L, x.length ≤ 1000000) : Calls Try.prog 45 #[lv] w (Ret (.bool (rfreeL L)) (Frm [] w)) := by
  have HT := Lib.hid h
  obtain ⟨ao, cap, rfl, hcap, hcs⟩ := h
  have HC := Lib.hid hcs
  have CM : Hid (∀ V x, Frm [] w V → x ∈ L → Calls Try.prog 40 #[.slice ao L.length cap, .string (txt x)] V (Ret (.tuple #[.int .i64 (markL L x).1, .int .i64 (markL L x).2]) (Frm [] V))) := Lib.hid fun V x hf hx => rmark_any (HT.out.frm0 hf) hn x (h64 x hx)
  have hf0 : rfreeL L = (L.drop 0).all fun x => (markL L x).2 == 0 := rfl
  obtain ⟨n, hnn⟩ : ∃ n, L.length = n := ⟨_, rfl⟩
  have HN := Lib.hid hnn
  rw [hnn] at hcap hn CM ⊢
  have HR0 : Hid ((L.drop 0).all (fun x => (markL L x).2 == 0) = rfreeL L) := Lib.hid hf0.symm
  generalize rfreeL L = R at HR0 ⊢
  clear hcs hnn hf0 h64
  go_enter Try.func45, Try.ntmps45
  go_wp2
  go_loopw [3] (fun s3 wr => ∃ i : Nat, s3 = .int .i64 i ∧ i ≤ n ∧ (L.drop i).all (fun x => (markL L x).2 == 0) = R ∧ Frm [] w wr) (fun s3 _ => n - (intOf s3).toNat)
  case atStart => exact ⟨0, rfl, Nat.zero_le _, HR0.out, Frm.refl _ _⟩
  case round =>
    obtain ⟨i, rfl, hi, hR, hf⟩ := hrel
    have HF := Lib.hid hf
    by_cases hlt : i < n
    · have hlt' : (i : Int) < (n : Int) := by omega
      obtain ⟨x, hx⟩ : ∃ x, L[i]? = some x := ⟨_, List.getElem?_eq_getElem (by rw [HN.out]; exact hlt)⟩
      obtain ⟨g, o, rfl, cx⟩ := HC.out i x hx
      have cx := hf.cellAt cx (by simp)
      unfold st at cx
      have hd : L.drop i = x :: L.drop (i + 1) := (List.getElem_cons_drop (h := lt_of_some hx)).symm.trans (by rw [(List.getElem?_eq_some_iff.1 hx).2])
      rw [hd, List.all_cons] at hR
      have CL := Lib.hid (CM.out wr x hf (List.mem_of_getElem? hx))
      obtain ⟨m1, hm1⟩ : ∃ m1, (markL L x).1 = m1 := ⟨_, rfl⟩
      obtain ⟨m2, hm2⟩ : ∃ m2, (markL L x).2 = m2 := ⟨_, rfl⟩
      rw [hm1, hm2] at CL
      rw [hm2] at hR
      by_cases h0 : m2 = 0
      · subst h0
        have hR1 : (L.drop (i + 1)).all (fun x => (markL L x).2 == 0) = R := by rw [← hR]; simp
        have HR := Lib.hid hR1
        clear hR hR1 hx hf hd hm1 hm2 HR0
        go_wp2_with (go_at_call 40; go_must (refine CL.out.mono ?_; clear CL; rintro e w1 ⟨rfl, h3⟩; have H3 := Lib.hid h3; clear h3))
        exact ⟨⟨i + 1, by simp, hlt, HR.out, HF.out.trans H3.out⟩, by simp [intOf]; omega⟩
      · have hm0 : (m2 == 0) = false := by rw [beq_eq_false_iff_ne]; exact h0
        have hR1 : false = R := by rw [← hR, hm0]; rfl
        subst hR1
        clear hR hx hf hd hm1 hm2 HR0
        go_wp2_with (go_at_call 40; go_must (refine CL.out.mono ?_; clear CL; rintro e w1 ⟨rfl, h3⟩; have H3 := Lib.hid h3; clear h3))
        go_ret
        exact ⟨rfl, HF.out.trans H3.out⟩
    · obtain rfl : i = n := by omega
      have hge : ¬ (i : Int) < (i : Int) := by omega
      rw [List.drop_eq_nil_of_le (by rw [HN.out]; exact Nat.le_refl _)] at hR
      have hR1 : true = R := by rw [← hR]; rfl
      subst hR1
      clear hf HR0
      go_wp2
      go_ret
      exact ⟨rfl, HF.out⟩
set_option maxHeartbeats 4000000 in
set_option maxRecDepth 100000 in
theorem renc_any (h : Txts w lv L) (hn : L.length ≤ 1000) (h64 : ∀ x ∈ L, x.length ≤ 64) : Calls Try.prog 46 #[lv] w (Ret (.string (txt (encL L))) (Frm [] w)) := by
  obtain ⟨ao, cap, rfl, hcap, hcs⟩ := h
  have HC := Lib.hid hcs; have H64 := Lib.hid h64
  obtain ⟨n, hnn⟩ : ∃ n, L.length = n := ⟨_, rfl⟩
  have HN := Lib.hid hnn
  have HR0 : Hid (encH n ++ (L.take n).flatMap encW = encL L) := Lib.hid (by rw [← hnn, List.take_length]; rfl)
  have HL : Hid (∀ i, i ≤ n → (encH n ++ (L.take i).flatMap encW).length ≤ 70000) := Lib.hid fun i hi => by
    have := encLen (L := L.take i) (fun x hx => h64 x (List.mem_of_mem_take hx))
    rw [List.length_take] at this
    rw [List.length_append]
    simp only [encH, List.length_cons, List.length_nil]
    omega
  rw [hnn] at hcap hn ⊢
  generalize encL L = R at HR0 ⊢
  have e1 : Value.int .u8 ((n : Int) / 256) = u8 (UInt8.ofNat (n / 256)) := by
    unfold u8
    congr 1
    have : (UInt8.ofNat (n / 256)).toNat = n / 256 := by simp; omega
    rw [this]; omega
  have e2 : Value.int .u8 ((n : Int) % 256) = u8 (UInt8.ofNat (n % 256)) := by
    unfold u8
    congr 1
    have : (UInt8.ofNat (n % 256)).toNat = n % 256 := by simp
    rw [this]; omega
  have hcv : (convert 23 9 (.slice (some ⟨w.heap.size, 0, none⟩) 2 2)).run Try.prog (w.alloc (.cells #[.int .u8 ((n : Int) / 256), .int .u8 ((n : Int) % 256)] 5)) = .ok (.string (txt (encH n))) (w.alloc (.cells #[.int .u8 ((n : Int) / 256), .int .u8 ((n : Int) % 256)] 5)) := by
    rw [e1, e2]
    exact (Byts.of_own (own_lit (base := 0) (encH n) (Nat.zero_le _) (by simp [encH]))).conv
  clear hcs hnn h64 e1 e2
  go_enter Try.func46, Try.ntmps46
  go_wp2
  clear hcv
  have HF0 : Hid (Frm [] w (w.alloc (.cells #[.int .u8 ((n : Int) / 256), .int .u8 ((n : Int) % 256)] 5))) := Lib.hid ((Frm.refl _ _).alloc _)
  go_loopw [3, 4] (fun s3 s4 wr => ∃ i : Nat, s4 = .int .i64 i ∧ i ≤ n ∧ s3 = .string (txt (encH n ++ (L.take i).flatMap encW)) ∧ Frm [] w wr) (fun _ s4 _ => n - (intOf s4).toNat)
  case atStart => exact ⟨0, rfl, Nat.zero_le _, by simp, HF0.out⟩
  case round =>
    obtain ⟨i, rfl, hi, rfl, hf⟩ := hrel
    have HF := Lib.hid hf
    have hql := HL.out i hi
    by_cases hlt : i < n
    · have hlt' : (i : Int) < (n : Int) := by omega
      obtain ⟨x, hx⟩ : ∃ x, L[i]? = some x := ⟨_, List.getElem?_eq_getElem (by rw [HN.out]; exact hlt)⟩
      obtain ⟨g, o, rfl, cx⟩ := HC.out i x hx
      have cx0 := hf.cellAt cx (by simp)
      unfold st at cx0
      have cx1 : ∀ o', (wr.alloc o').cell? ⟨g, o + i, none⟩ = some (.string (txt x)) := fun o' => ((Frm.refl [] wr).alloc o').cellAt cx0 (by simp)
      have hx64 := H64.out x (List.mem_of_getElem? hx)
      have hs : encH n ++ (L.take (i + 1)).flatMap encW = (encH n ++ (L.take i).flatMap encW) ++ [UInt8.ofNat x.length] ++ x := by
        rw [take_snoc hx, List.flatMap_append]
        simp [encW]
      have HS := Lib.hid hs
      obtain ⟨q, hq⟩ : ∃ q, encH n ++ (L.take i).flatMap encW = q := ⟨_, rfl⟩
      rw [hq] at hql HS ⊢
      have hszx := txt_size x; have hszq := txt_size q
      have happ := txt_app q [UInt8.ofNat x.length]
      have happ2 := txt_app (q ++ [UInt8.ofNat x.length]) x
      have hsz1 := txt_size [UInt8.ofNat x.length]
      have hsz2 := txt_size (q ++ [UInt8.ofNat x.length])
      have hl1 : [UInt8.ofNat x.length].length = 1 := rfl
      have hl2 : (q ++ [UInt8.ofNat x.length]).length = q.length + 1 := by simp
      rw [hl1] at hsz1
      rw [hl2] at hsz2
      obtain ⟨nq, hnq⟩ : ∃ nq, q.length = nq := ⟨_, rfl⟩
      rw [hnq] at hszq hsz2 hql
      obtain ⟨nx, hnx⟩ : ∃ nx, x.length = nx := ⟨_, rfl⟩
      rw [hnx] at hszx happ happ2 hsz1 hsz2 hx64 HS
      have hcv0 := byte_txt wr nx (by omega)
      have hcv1 : (convert 23 9 (.slice (some ⟨wr.heap.size, 0, none⟩) 1 1)).run Try.prog (wr.alloc (.cells #[.int .u8 (nx : Int)] 5)).drew = .ok (.string (txt [UInt8.ofNat nx])) (wr.alloc (.cells #[.int .u8 (nx : Int)] 5)).drew := byte_txt wr.drew nx (by omega)
      clear hf hx cx hs hq hl1 hl2 hnq hnx HR0 hcv0
      go_wp2
      go_region
      all_goals
        go_wp2
        exact ⟨⟨i + 1, by simp, hlt, by rw [HS.out]; simp, (HF.out.alloc _).drew⟩, by simp [intOf]; omega⟩
    · obtain rfl : i = n := by omega
      have hge : ¬ (i : Int) < (i : Int) := by omega
      rw [HR0.out]
      clear hf hql HR0
      go_wp2
      go_ret
      exact ⟨rfl, HF.out⟩
set_option maxHeartbeats 1000000 in
set_option maxRecDepth 100000 in
theorem texts_any (h : Wds w lv L) (hn : L.length ≤ 100000) (h64 : ∀ x ∈ L, x.length ≤ 1000000) : Calls Try.prog 15 #[lv] w (RetV (FreshT w L)) := by
  obtain ⟨ao, cap, rfl, hcap, hcs⟩ := h
  have HC := Lib.hid hcs
  obtain ⟨n, hnn⟩ : ∃ n, L.length = n := ⟨_, rfl⟩
  have HN := Lib.hid hnn
  rw [hnn] at hcap hn ⊢
  clear hcs hnn h64
  go_enter Try.func15, Try.ntmps15
  go_wp2
  go_loopw [3, 4] (fun s3 s4 wr => ∃ (i : Nat) (a5 : Option Addr) (c5 : Nat), s4 = .int .i64 i ∧ i ≤ n ∧ s3 = .slice a5 i c5 ∧ wr.ownsRow w.heap.size 9 1 (.slice a5 i c5) i ((L.take i).map st) ∧ Frm [] w wr) (fun _ s4 _ => n - (intOf s4).toNat)
  case atStart => exact ⟨0, none, 0, rfl, Nat.zero_le _, rfl, World.ownsRow_nil _ _ _ _, Frm.refl _ _⟩
  case round =>
    obtain ⟨i, a5, c5, rfl, hi, rfl, ho, hf⟩ := hrel
    have HO := Lib.hid ho; have HF := Lib.hid hf
    by_cases hlt : i < n
    · have hlt' : (i : Int) < (n : Int) := by omega
      obtain ⟨x, hx⟩ : ∃ x, L[i]? = some x := ⟨_, List.getElem?_eq_getElem (by rw [HN.out]; exact hlt)⟩
      obtain ⟨g, o, ua, uc, rfl, cx, hb⟩ := HC.out i x hx
      have cx := hf.cellAt cx (by simp)
      have hcv := (hb.frm0 hf).conv
      have hd := take_snoc hx
      have HD := Lib.hid hd
      have hlen : (L.take i).length = i := by rw [List.length_take, HN.out]; omega
      have HLE := Lib.hid hlen
      have HA := Lib.hid (app_txt1 x HO.out hlen)
      have hws := hf.size
      have HWS := Lib.hid hws
      have e1 : (L.take i ++ [x]).length = i + 1 := by simp [hlen]
      have HE1 := Lib.hid e1
      unfold st at HA
      obtain ⟨nx, hnx⟩ : ∃ nx, x.length = nx := ⟨_, rfl⟩
      rw [hnx] at cx hcv
      clear ho hf hx hd hws hb hlen e1 hnx
      go_wp2_with (first
        | (at_builtin; refine wpList_app_txts rfl _ _ rfl w.heap.size (.slice a5 i c5) _ rfl rfl (L.take i) [x] (by have := HA.out.1; rwa [HLE.out] at this ⊢) HA.out.2 (by rw [HLE.out]; simp; omega) (by have := HWS.out; simp; omega) ?_; intro ao' cp' w2 hown hgrow; rw [HE1.out] at hown ⊢; have HO2 := Lib.hid hown; have HG := Lib.hid hgrow; clear hown hgrow))
      refine ⟨⟨i + 1, ao', cp', by simp, hlt, rfl, by rw [HD.out]; exact HO2.out, ?_⟩, by simp [intOf]; omega⟩
      exact (HF.out.alloc _).grown HG.out (fun k hk => .inr (ownBlock_ge HO.out hk))
    · obtain rfl : i = n := by omega
      have hge : ¬ (i : Int) < (i : Int) := by omega
      clear ho hf
      go_wp2
      go_ret
      refine ⟨_, rfl, ?_, HF.out⟩
      have h1 := HO.out
      rw [← HN.out, List.take_length] at h1
      rw [HN.out] at h1 ⊢
      exact h1
end
end Go.Proofs.Ytefpfcheafbfdaa
