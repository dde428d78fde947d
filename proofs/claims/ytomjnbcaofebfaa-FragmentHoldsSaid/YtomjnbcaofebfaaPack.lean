/- sum, Pack. -/
import Derived.Test.YtomjnbcaofebfaaChw
import Derived.Test.YtomjnbcaofebfaaLeaf
namespace Go.Proofs.Ytomjnbcaofebfaa
open Go.RowKit Go.BigFrame

/-- an int's low byte -/
def lowB (n : Int) : UInt8 := UInt8.ofNat (n % 256).toNat
theorem u8_low (n : Int) : u8 (lowB n) = .int .u8 (n % 256) := by
  unfold u8 lowB
  congr 1
  simp
  omega
def sumL (l : List UInt8) : List UInt8 := [lowB ((crcL l : Int) / 256), lowB (crcL l)]
set_option maxHeartbeats 2000000 in
set_option maxRecDepth 100000 in
theorem sum_any (v : Value) (l : List UInt8) (w : World) (h : Byts w v l) (hn : l.length ≤ 1000000) (hlt : ∀ j, v.ownBlock = some j → j < w.heap.size) :
    Calls Try.prog 36 #[v] w (RetV (Fresh w (sumL l))) := by
  have CO := Lib.hid (of_any v l w h hn hlt)
  have e1 := u8_low ((crcL l : Int) / 256)
  have e2 := u8_low (crcL l : Int)
  unfold sumL
  clear h hlt
  go_enter Try.func36, Try.ntmps36
  go_upto_region 2 with (go_at_call 46; go_must (refine CO.out.mono ?_; rintro e w2 ⟨u, rfl, rfl, hf⟩; have HF := Lib.hid hf; clear hf))
  go_wp2
  go_ret
  refine ⟨_, rfl, ?_, HF.out.alloc _⟩
  have h := own_lit (w := w2) (base := w.heap.size) [lowB ((crcL l : Int) / 256), lowB (crcL l)] HF.out.size (by simp)
  simp only [List.map_cons, List.map_nil, e1, e2] at h ⊢
  exact h
def headL (p : Prt) : List UInt8 := [lowB (p.msg / 256), lowB p.msg, lowB p.num, lowB p.cnt]
def packL (p : Prt) : List UInt8 := headL p ++ p.b ++ sumL (headL p ++ p.b)
/-- what Pack hands back -/
def PackTo (w : World) (p : Prt) (v : Value) (w' : World) : Prop := ∃ sv, v = .tuple #[sv, .int .i64 0] ∧ Fresh w (packL p) sv w'
theorem rightB_len {p : Prt} (h : rightB p = true) : p.b.length ≤ 1024 ∧ wi p.msg 0 65535 = true := by
  unfold rightB at h
  simp only [Bool.and_eq_true, decide_eq_true_eq] at h
  exact ⟨h.2.2.2, h.1⟩
set_option maxHeartbeats 2000000 in
set_option maxRecDepth 100000 in
theorem pack_bad (p : Prt) (bv : Value) (w : World) (hb : Byts w bv p.b) (hn : p.b.length ≤ 1000000) (hr : rightB p = false) :
    Calls Try.prog 17 #[pv p bv] w (Ret (.tuple #[.slice none 0 0, .int .i64 2]) (Frm [] w)) := by
  obtain ⟨ao, cap, rfl, -⟩ := hb.len
  have CR : Hid (∀ W, Calls Try.prog 35 #[pv p (.slice ao p.b.length cap)] W (Ret (.bool false) (Frm [] W))) := Lib.hid fun W => by rw [← hr]; exact right_any p ao cap W hn
  obtain ⟨m, u, c, b⟩ := p
  unfold pv at CR ⊢
  simp only at CR hn hb ⊢
  clear hb hr
  generalize b.length = n at *
  have hl := fun (g : Nat) (A : Array Value) (t : TypeId) (f : Nat × Nat) (W : World) (hg : W.heap[g]? = some (.cells A t f)) (hs : A.size = 4) => run_loadVar_row (P := Try.prog) W g t 38 A f _ hg Try.underlying38 rfl (by rw [hs]; kernel_rfl)
  have hl1 := hl w.heap.size #[.int .i64 m, .int .i64 u, .int .i64 c, .slice ao n cap] 38 (0, 0) _ (heap_alloc_new w _) rfl
  clear hl
  go_enter Try.func17, Try.ntmps17
  go_wp2_with (go_at_call 35; go_must (refine (CR.out _).mono ?_; rintro e w' ⟨rfl, hf⟩; have HF := Lib.hid hf; clear hf))
  go_ret2
  exact ⟨rfl, ((Frm.refl [] w).alloc _).trans HF.out⟩
set_option maxHeartbeats 2000000 in
set_option maxRecDepth 100000 in
theorem pack_good (p : Prt) (bv : Value) (w : World) (hb : Byts w bv p.b) (hr : rightB p = true) :
    Calls Try.prog 17 #[pv p bv] w (RetV (PackTo w p)) := by
  obtain ⟨ao, cap, rfl, -⟩ := hb.len
  have hn := (rightB_len hr).1
  have CR : Hid (∀ W, Calls Try.prog 35 #[pv p (.slice ao p.b.length cap)] W (Ret (.bool true) (Frm [] W))) := Lib.hid fun W => by rw [← hr]; exact right_any p ao cap W (by omega)
  have e0 := u8_low (p.msg / 256)
  have e1 := u8_low p.msg
  have e2 := u8_low p.num
  have e3 := u8_low p.cnt
  have EH : Hid (headL p = [lowB (p.msg / 256), lowB p.msg, lowB p.num, lowB p.cnt]) := Lib.hid rfl
  obtain ⟨hd, hhd⟩ : ∃ hd, headL p = hd := ⟨_, rfl⟩
  have EH2 := Lib.hid hhd
  have EM : Hid (hd.map u8 = [.int .u8 (p.msg / 256 % 256), .int .u8 (p.msg % 256), .int .u8 (p.num % 256), .int .u8 (p.cnt % 256)]) := Lib.hid (by rw [← hhd, EH.out]; simp only [List.map_cons, List.map_nil, e0, e1, e2, e3])
  have hlen : hd.length = 4 := by rw [← hhd, EH.out]; rfl
  have HLEN := Lib.hid hlen
  have HP : Hid (packL p = hd ++ p.b ++ sumL (hd ++ p.b)) := Lib.hid (by unfold packL; rw [hhd])
  unfold PackTo
  obtain ⟨pk, hpk⟩ : ∃ pk, packL p = pk := ⟨_, rfl⟩
  rw [hpk] at HP ⊢
  clear e0 e1 e2 e3 hhd hpk EH EH2 hlen
  have HB := Lib.hid hb
  obtain ⟨m, u, c, b⟩ := p
  unfold pv at CR ⊢
  simp only at CR hn HB HP EM ⊢
  clear hb hr
  have HN := Lib.hid hn
  obtain ⟨n, hbn⟩ : ∃ n, b.length = n := ⟨_, rfl⟩
  have HBN := Lib.hid hbn
  rw [hbn] at CR ⊢ hn
  clear hbn
  have hl := fun (g : Nat) (A : Array Value) (t : TypeId) (f : Nat × Nat) (W : World) (hg : W.heap[g]? = some (.cells A t f)) (hs : A.size = 4) => run_loadVar_row (P := Try.prog) W g t 38 A f _ hg Try.underlying38 rfl (by rw [hs]; kernel_rfl)
  have hl1 := hl w.heap.size #[.int .i64 m, .int .i64 u, .int .i64 c, .slice ao n cap] 38 (0, 0) _ (heap_alloc_new w _) rfl
  clear hl
  have HG0 := Lib.hid (heap_alloc_new w (.cells #[.int .i64 m, .int .i64 u, .int .i64 c, .slice ao n cap] 38))
  go_enter Try.func17, Try.ntmps17
  go_upto_region 3 with (go_at_call 35; go_must (refine (CR.out _).mono ?_; rintro e w2 ⟨rfl, hf⟩; have HF := Lib.hid hf; clear hf))
  have hg2 := HF.out.at HG0.out (by simp)
  have hg3 := alloc_at (x := .cells #[.int .u8 (m / 256 % 256), .int .u8 (m % 256), .int .u8 (u % 256), .int .u8 (c % 256)] 5) hg2
  have c0 := cell_of hg2 0
  have c1 := cell_of hg2 1
  have c2 := cell_of hg2 2
  have c3 := cell_of hg3 3
  have hfw := ((Frm.refl [] w).alloc _).trans HF.out
  have HFW := Lib.hid hfw
  have HOWN : Hid ((w2.alloc (.cells #[.int .u8 (m / 256 % 256), .int .u8 (m % 256), .int .u8 (u % 256), .int .u8 (c % 256)] 5)).ownsRow w.heap.size 5 1 (.slice (some ⟨w2.heap.size, 0, none⟩) 4 4) hd.length (hd.map u8)) := Lib.hid (by
    have h := own_lit (w := w2) (base := w.heap.size) hd hfw.size (by have := HLEN.out; omega)
    rw [HLEN.out, EM.out] at h
    rw [HLEN.out, EM.out]
    exact h)
  obtain ⟨L, hL⟩ : ∃ L, hd ++ b = L := ⟨_, rfl⟩
  have HL := Lib.hid hL
  have HLL : Hid (L.length = 4 + n) := Lib.hid (by rw [← hL, List.length_append, HLEN.out, HBN.out])
  rw [hL] at HP
  clear hg2 hg3 hl1 hL hfw
  have HB2 : Hid (Byts (w2.alloc (.cells #[.int .u8 (m / 256 % 256), .int .u8 (m % 256), .int .u8 (u % 256), .int .u8 (c % 256)] 5)) (.slice ao n cap) b) := Lib.hid (by
    have h := HB.out.frm0 (HFW.out.alloc (.cells #[.int .u8 (m / 256 % 256), .int .u8 (m % 256), .int .u8 (u % 256), .int .u8 (c % 256)] 5))
    rw [HBN.out] at h
    exact h)
  go_wp2_with (first
    | (go_at_call 36; go_must (refine (sum_any _ L w3 (Byts.of_own HO3.out) (by have := HLL.out; omega) (fun k hk => ownBlock_lt HO3.out hk)).mono ?_; rintro e w4 ⟨sv, rfl, hfr⟩; have HS4 := Lib.hid hfr; clear hfr))
    | (at_builtin; refine wpList_app_bytes rfl (.tmp 21) (.tmp 23) rfl w.heap.size _ _ rfl rfl hd b HOWN.out HB2.out ?_ ?_ ?_; go_must ((have := HLEN.out; have := HBN.out; omega); (have := HFW.out.size; simp; omega); intro ao3 cp3 w3 hown hgrow; rw [HL.out] at hown ⊢; have HO3 := Lib.hid hown; have HF3 : Hid (Frm [] w w3) := Lib.hid ((HFW.out.alloc _).grown hgrow (fun k hk => .inr (ownBlock_ge HOWN.out hk))); clear hown hgrow))
    | (at_builtin; refine wpList_app_bytes rfl (.tmp 25) (.tmp 27) rfl w.heap.size _ _ rfl rfl L (sumL L) (HS4.out.2.owns HO3.out (by simp)) HS4.out.byts ?_ ?_ ?_; go_must ((have := HLL.out; unfold sumL; simp; omega); (have := HF3.out.size; have := HS4.out.2.size; omega); intro ao5 cp5 w5 hown hgrow; rw [← HP.out] at hown ⊢; have HO5 := Lib.hid hown; have HF5 : Hid (Frm [] w w5) := Lib.hid ((HF3.out.trans HS4.out.2).grown hgrow (fun k hk => .inr (ownBlock_ge HO3.out hk))); clear hown hgrow)))
  go_ret2
  exact ⟨_, rfl, _, rfl, HO5.out, HF5.out⟩
end Go.Proofs.Ytomjnbcaofebfaa
