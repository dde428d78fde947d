/- The reference's Pack. -/
import Derived.Test.YtomjnbcaofebfaaPack
import Derived.Test.YtomjnbcaofebfaaVal
import Derived.Test.YtomjnbcaofebfaaCsum
namespace Go.Proofs.Ytomjnbcaofebfaa
open Go.RowKit Go.BigFrame

set_option maxHeartbeats 2000000 in
set_option maxRecDepth 100000 in
theorem refPack_bad (p : Prt) (bv : Value) (w : World) (hb : Byts w bv p.b) (hn : p.b.length ≤ 1000000) (hr : rightB p = false) :
    Calls Try.prog 18 #[pv p bv] w (Ret (.tuple #[.slice none 0 0, .int .i64 2]) (Frm [] w)) := by
  obtain ⟨ao, cap, rfl, -⟩ := hb.len
  have CR : Hid (∀ W, Calls Try.prog 37 #[pv p (.slice ao p.b.length cap)] W (Ret (.bool false) (Frm [] W))) := Lib.hid fun W => by rw [← hr]; exact valid_any p ao cap W hn
  obtain ⟨m, u, c, b⟩ := p
  unfold pv at CR ⊢
  simp only at CR hn hb ⊢
  clear hb hr
  generalize b.length = n at *
  have hl := fun (g : Nat) (A : Array Value) (t : TypeId) (f : Nat × Nat) (W : World) (hg : W.heap[g]? = some (.cells A t f)) (hs : A.size = 4) => run_loadVar_row (P := Try.prog) W g t 38 A f _ hg Try.underlying38 rfl (by rw [hs]; kernel_rfl)
  have hl1 := hl w.heap.size #[.int .i64 m, .int .i64 u, .int .i64 c, .slice ao n cap] 38 (0, 0) _ (heap_alloc_new w _) rfl
  clear hl
  go_enter Try.func18, Try.ntmps18
  go_wp2_with (go_at_call 37; go_must (refine (CR.out _).mono ?_; rintro e w' ⟨rfl, hf⟩; have HF := Lib.hid hf; clear hf))
  go_ret2
  exact ⟨rfl, ((Frm.refl [] w).alloc _).trans HF.out⟩
set_option maxHeartbeats 2000000 in
set_option maxRecDepth 100000 in
theorem refPack_good (p : Prt) (bv : Value) (w : World) (hb : Byts w bv p.b) (hr : rightB p = true) :
    Calls Try.prog 18 #[pv p bv] w (RetV (PackTo w p)) := by
  obtain ⟨ao, cap, rfl, -⟩ := hb.len
  have hn := (rightB_len hr).1
  have hiff := (rightB_iff p.msg p.num p.cnt p.b).1 hr
  have CR : Hid (∀ W, Calls Try.prog 37 #[pv p (.slice ao p.b.length cap)] W (Ret (.bool true) (Frm [] W))) := Lib.hid fun W => by rw [← hr]; exact valid_any p ao cap W (by omega)
  have e0 := u8_low (p.msg / 256)
  have e1 := u8_low p.msg
  have e2 := u8_low p.num
  have e3 := u8_low p.cnt
  have EH : Hid (headL p = [lowB (p.msg / 256), lowB p.msg, lowB p.num, lowB p.cnt]) := Lib.hid rfl
  obtain ⟨hd, hhd⟩ : ∃ hd, headL p = hd := ⟨_, rfl⟩
  have EH2 := Lib.hid hhd
  have EM : Hid (hd.map u8 = [.int .u8 (p.msg / 256 % 256), .int .u8 (p.msg % 256), .int .u8 (p.num % 256), .int .u8 (p.cnt % 256)]) := Lib.hid (by rw [← hhd, EH.out]; simp only [List.map_cons, List.map_nil, e0, e1, e2, e3])
  have hlen : hd.length = 4 := by rw [← hhd, EH.out]; rfl
  have HLEN := Lib.hid hlen
  have HP : Hid (packL p = hd ++ p.b ++ sumL (hd ++ p.b)) := Lib.hid (by unfold packL; rw [hhd])
  unfold PackTo
  obtain ⟨pk, hpk⟩ : ∃ pk, packL p = pk := ⟨_, rfl⟩
  rw [hpk] at HP ⊢
  clear e0 e1 e2 e3 hhd hpk EH EH2 hlen
  have HB := Lib.hid hb
  obtain ⟨m, u, c, b⟩ := p
  unfold pv at CR ⊢
  simp only at CR hn HB HP EM ⊢
  clear hb hr
  have HN := Lib.hid hn
  obtain ⟨n, hbn⟩ : ∃ n, b.length = n := ⟨_, rfl⟩
  have HBN := Lib.hid hbn
  rw [hbn] at CR ⊢ hn
  clear hbn
  have hl := fun (g : Nat) (A : Array Value) (t : TypeId) (f : Nat × Nat) (W : World) (hg : W.heap[g]? = some (.cells A t f)) (hs : A.size = 4) => run_loadVar_row (P := Try.prog) W g t 38 A f _ hg Try.underlying38 rfl (by rw [hs]; kernel_rfl)
  have hl1 := hl w.heap.size #[.int .i64 m, .int .i64 u, .int .i64 c, .slice ao n cap] 38 (0, 0) _ (heap_alloc_new w _) rfl
  clear hl
  have HG0 := Lib.hid (heap_alloc_new w (.cells #[.int .i64 m, .int .i64 u, .int .i64 c, .slice ao n cap] 38))
  go_enter Try.func18, Try.ntmps18
  go_upto_region 3 with (go_at_call 37; go_must (refine (CR.out _).mono ?_; rintro e w2 ⟨rfl, hf⟩; have HF := Lib.hid hf; clear hf))
  have hg2 := HF.out.at HG0.out (by simp)
  obtain ⟨q1, q2, q3, q4, q5, q6, -⟩ := hiff
  have EM : Hid (hd.map u8 = [.int .u8 (m / 256), .int .u8 (m % 256), .int .u8 u, .int .u8 c]) := Lib.hid (by rw [EM.out, show m / 256 % 256 = m / 256 by omega, show u % 256 = u by omega, show c % 256 = c by omega])
  have hg3 := alloc_at (x := .cells #[.int .u8 (m / 256), .int .u8 (m % 256), .int .u8 u, .int .u8 c] 5) hg2
  have c0 := cell_of hg2 0
  have c1 := cell_of hg2 1
  have c2 := cell_of hg2 2
  have c3 := cell_of hg3 3
  have hfw := ((Frm.refl [] w).alloc _).trans HF.out
  have HFW := Lib.hid hfw
  have HOWN : Hid ((w2.alloc (.cells #[.int .u8 (m / 256), .int .u8 (m % 256), .int .u8 u, .int .u8 c] 5)).ownsRow w.heap.size 5 1 (.slice (some ⟨w2.heap.size, 0, none⟩) 4 4) hd.length (hd.map u8)) := Lib.hid (by
    have h := own_lit (w := w2) (base := w.heap.size) hd hfw.size (by have := HLEN.out; omega)
    rw [HLEN.out, EM.out] at h
    rw [HLEN.out, EM.out]
    exact h)
  obtain ⟨L, hL⟩ : ∃ L, hd ++ b = L := ⟨_, rfl⟩
  have HL := Lib.hid hL
  have HLL : Hid (L.length = 4 + n) := Lib.hid (by rw [← hL, List.length_append, HLEN.out, HBN.out])
  rw [hL] at HP
  have hcr := crcL_lt L
  have HSM : Hid (∀ W : World, Byts (W.alloc (.cells #[.int .u8 ((crcL L : Int) / 256), .int .u8 ((crcL L : Int) % 256)] 5)) (.slice (some ⟨W.heap.size, 0, none⟩) 2 2) (sumL L)) := Lib.hid fun W => by
    have e1 := u8_low ((crcL L : Int) / 256)
    have e2 := u8_low (crcL L : Int)
    rw [show (crcL L : Int) / 256 % 256 = (crcL L : Int) / 256 by omega] at e1
    have h := Byts.of_own (own_lit (w := W) (base := 0) (sumL L) (Nat.zero_le _) (by simp [sumL]))
    simp only [sumL, List.map_cons, List.map_nil, e1, e2] at h ⊢
    exact h
  clear hg2 hg3 hl1 hL hfw
  have HB2 : Hid (Byts (w2.alloc (.cells #[.int .u8 (m / 256), .int .u8 (m % 256), .int .u8 u, .int .u8 c] 5)) (.slice ao n cap) b) := Lib.hid (by
    have h := HB.out.frm0 (HFW.out.alloc (.cells #[.int .u8 (m / 256), .int .u8 (m % 256), .int .u8 u, .int .u8 c] 5))
    rw [HBN.out] at h
    exact h)
  go_wp2_with (first
    | (go_at_call 38; go_must (refine (csum_any _ L w3 (Byts.of_own HO3.out) (by have := HLL.out; omega)).mono ?_; rintro e w4 ⟨rfl, rfl⟩))
    | (at_builtin; refine wpList_app_bytes rfl (.tmp 24) (.tmp 26) rfl w.heap.size _ _ rfl rfl hd b HOWN.out HB2.out ?_ ?_ ?_; go_must ((have := HLEN.out; have := HBN.out; omega); (have := HFW.out.size; simp; omega); intro ao3 cp3 w3 hown hgrow; rw [HL.out] at hown ⊢; have HO3 := Lib.hid hown; have HF3 : Hid (Frm [] w w3) := Lib.hid ((HFW.out.alloc _).grown hgrow (fun k hk => .inr (ownBlock_ge HOWN.out hk))); clear hown hgrow))
    | (at_builtin; refine wpList_app_bytes rfl (.tmp 33) (.tmp 40) rfl w.heap.size _ _ rfl rfl L (sumL L) (((Frm.refl [] w3).alloc _).owns HO3.out (by simp)) (HSM.out w3) ?_ ?_ ?_; go_must ((have := HLL.out; unfold sumL; simp; omega); (have := HF3.out.size; simp; omega); intro ao5 cp5 w5 hown hgrow; rw [← HP.out] at hown ⊢; have HO5 := Lib.hid hown; have HF5 : Hid (Frm [] w w5) := Lib.hid ((HF3.out.alloc _).grown hgrow (fun k hk => .inr (ownBlock_ge HO3.out hk))); clear hown hgrow)))
  go_ret2
  exact ⟨_, rfl, _, rfl, HO5.out, HF5.out⟩
end Go.Proofs.Ytomjnbcaofebfaa
