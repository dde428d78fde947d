/- ChannelOrders: the walk. -/
import Derived.Test.YthelfpenccpkeaaTwo
import Derived.Test.YthelfpenccpkeaaFew
import Derived.Test.YthelfpenccpkeaaKnown
import Derived.ArgAppend
import Derived.Deep.RegionLawGrows
import Derived.Deep.Upon
namespace Go.Proofs.Ythelfpenccpkeaa
open Go.RowKit Go.BigFrame

section
variable {w W W' : World} {cb : Nat} {cls cap : Int} {lv lv' : Value} {LC LL L' : List ByteArray} {F : List Nat}
theorem OS.put_own {X : Obj} {m : ByteArray} {n : Nat} (h : OS w cb cls cap lv LC LL F W) (hn : n = LL.length) (hown : W'.ownsRow 0 9 1 lv' (n + 1) (LL.map Value.string ++ [.string m])) (hg : (W.alloc X).grownBy W' lv.ownBlock) (hl : lv'.ownBlock = lv.ownBlock ∨ lv'.ownBlock = some (W.alloc X).heap.size) :
    OS w cb cls cap lv' LC (LL ++ [m]) F W' := by
  subst hn
  refine h.left (((Frm.refl _ _).alloc X).grown hg (fun k hk => .inl (by simp [hk]))) (.inl ?_) (fun k hk => ?_)
  · simpa [Strs] using hown
  · rcases hl with e | e
    · rw [e] at hk; exact .inl hk
    · rw [e] at hk; simp at hk; right; omega
theorem OS.put_tight {X : Obj} {m : ByteArray} {n : Nat} (h : OS w cb cls cap lv LC LL F W) (hn : n = LL.length) (hown : W'.ownsRow (W.alloc X).heap.size 9 1 lv' (n + 1) (LL.map Value.string ++ [.string m])) (hg : (W.alloc X).grownBy W' none) :
    OS w cb cls cap lv' LC (LL ++ [m]) F W' := by
  subst hn
  refine h.left (((Frm.refl _ _).alloc X).grown hg (fun k hk => by cases hk)) (.inl (Strs.of_own (base := (W.alloc X).heap.size) ?_)) (fun k hk => .inr ?_)
  · simpa using hown
  · have := ownBlock_ge hown hk; simp at this; omega
theorem lf_cells {g : Nat} {cur : Array Value} {L : List ByteArray} {X : Obj} (hb : W.heap[g]? = some (.cells cur 9 (0, 0))) (ht : cur.toList.take L.length = L.map Value.string) :
    ∀ b, some (⟨g, 0, none⟩ : Addr) = some b → ∀ j u, (L.map Value.string)[j]? = some u → (W.alloc X).cell? (b.add j) = some u := by
  intro b hbb j u hu
  cases hbb
  rw [← ht] at hu
  have hj : j < L.length := by
    have := (List.getElem?_eq_some_iff.1 hu).1
    simp at this; omega
  rw [List.getElem?_take_of_lt hj] at hu
  have e : (⟨g, 0, none⟩ : Addr).add j = ⟨g, j, none⟩ := by simp [Addr.add]; exact fun h => h.symm
  rw [e, cell_of (alloc_at hb)]
  simpa using hu
end
theorem append_zero (g k : Nat) (w : World) (i0 : TypeInfo) (hi0 : Try.prog.info? 9 = some i0) (ad : Addr) (c' : Nat) : (Builtin.append_ #[22, 22] 22 #[.slice (some ⟨g, 0, none⟩) k k, .slice (some ad) 0 c']).run Try.prog w = .ok (.slice (some ⟨g, 0, none⟩) k k) w :=
  run_append_nothing w 22 22 22 9 i0 Try.underlying22 hi0 (some ⟨g, 0, none⟩) k k (Nat.le_refl _) _ (Src.ofSlice w Try.underlying22 ad 0 c' [] (by simp) (fun j u h => by simp at h) (by simp))
theorem OS.trim {w W : World} {cb g k lc : Nat} {cls cap : Int} {LC LL : List ByteArray} {F : List Nat} (h : OS w cb cls cap (.slice (some ⟨g, 0, none⟩) LL.length lc) LC LL F W) (hk : k + 1 = LL.length) : OS w cb cls cap (.slice (some ⟨g, 0, none⟩) k k) LC (LL.eraseIdx k) F W.drew := by
  have hb : ∃ cur, W.heap[g]? = some (.cells cur 9 (0, 0)) ∧ cur.toList.take LL.length = LL.map Value.string := by
    rcases h.l with hl | ⟨g', cur, hv, hb, ht⟩
    · rcases hl.2 with ⟨hv, _⟩ | ⟨g', c, cur, hv, -, hb, -, -, -, ht⟩
      · cases hv
      · cases hv; exact ⟨cur, hb, by simpa using ht⟩
    · cases hv; exact ⟨cur, hb, ht⟩
  obtain ⟨cur, hb, ht⟩ := hb
  have e : LL.eraseIdx k = LL.take k := by rw [List.eraseIdx_eq_take_drop_succ, List.drop_of_length_le (by omega), List.append_nil]
  have e1 : (LL.take k).length = k := by rw [List.length_take]; omega
  refine h.left ((Frm.refl _ _).drew) (.inr ⟨g, cur, by rw [e, e1], hb, ?_⟩) (fun j hj => .inl (by simpa [Value.ownBlock] using hj))
  rw [e, e1, List.map_take, ← ht, List.take_take]
  congr 1; omega
theorem OS.cut {w W W' : World} {cb k : Nat} {cls cap : Int} {lv lv' : Value} {LC LL : List ByteArray} {F : List Nat} (h : OS w cb cls cap lv LC LL F W) (hk : k + 1 < LL.length)
    (hown : W'.ownsRow W.drew.heap.size 9 1 lv' (k + (LL.length - (k + 1))) ((LL.take k).map Value.string ++ (LL.drop (k + 1)).map Value.string)) (hg : W.drew.grownBy W' none) : OS w cb cls cap lv' LC (LL.eraseIdx k) F W' := by
  refine h.left (((Frm.refl _ _).drew).grown hg (fun k hk => by cases hk)) (.inl (Strs.of_own (base := W.drew.heap.size) ?_)) (fun j hj => .inr (ownBlock_ge hown hj))
  have e1 : (LL.eraseIdx k).length = k + (LL.length - (k + 1)) := by rw [List.length_eraseIdx_of_lt (by omega)]; omega
  have e2 : (LL.eraseIdx k).map Value.string = (LL.take k).map Value.string ++ (LL.drop (k + 1)).map Value.string := by rw [List.eraseIdx_eq_take_drop_succ, List.map_append]
  rw [e1, e2]
  exact hown
theorem take_cells {w : World} {g k : Nat} {L : List ByteArray} (h : ∀ k x, L[k]? = some x → w.cell? ⟨g, k, none⟩ = some (.string x)) : ∀ b, some (⟨g, 0, none⟩ : Addr) = some b → ∀ j u, ((L.take k).map Value.string)[j]? = some u → w.drew.cell? (b.add j) = some u := by
  intro b hb j u hu
  cases hb
  have e : (⟨g, 0, none⟩ : Addr).add j = ⟨g, j, none⟩ := by simp [Addr.add]; exact fun h => h.symm
  rw [e]
  rw [List.getElem?_map, Option.map_eq_some_iff] at hu
  obtain ⟨x, hx, rfl⟩ := hu
  have hj : j < k := by have := lt_of_some hx; simp at this; omega
  rw [List.getElem?_take_of_lt hj] at hx
  exact h j x hx
theorem drop_cells {w : World} {g k : Nat} {L : List ByteArray} (h : ∀ k x, L[k]? = some x → w.cell? ⟨g, k, none⟩ = some (.string x)) : ∀ j u, ((L.drop (k + 1)).map Value.string)[j]? = some u → w.drew.cell? ((⟨g, k + 1, none⟩ : Addr).add j) = some u := by
  intro j u hu
  have e : (⟨g, k + 1, none⟩ : Addr).add j = ⟨g, k + 1 + j, none⟩ := by cases j <;> simp [Addr.add]
  rw [e]
  rw [List.getElem?_map, Option.map_eq_some_iff] at hu
  obtain ⟨x, hx, rfl⟩ := hu
  rw [List.getElem?_drop] at hx
  exact h _ x hx
theorem str_ne {a b : ByteArray} (h : a ≠ b) : (a.toList == b.toList) = false := by
  cases hb : (a.toList == b.toList) with
  | false => rfl
  | true =>
    have h1 : a.toList = b.toList := eq_of_beq hb
    rw [ByteArray.toList_eq, ByteArray.toList_eq] at h1
    exact absurd (ByteArray.ext (Array.toList_inj.1 h1)) h
theorem idx_first {L : List ByteArray} {m : ByteArray} {p : Nat} (h : Lib.idxOfS L m = (p : Int)) : ∀ k, k < p → ∀ y, L[k]? = some y → y ≠ m := by
  intro k
  induction k using Nat.strongRecOn with
  | _ k ih =>
    intro hk y hy hym
    subst hym
    have hl := lt_of_some hy
    have h1 := Lib.idxOfS_hit L L.length k y hl (Nat.le_refl _) (by rw [List.getD_eq_getElem?_getD, hy]; rfl) (fun j hj he => by
      have hjl : j < L.length := by omega
      refine ih j hj (by omega) _ (List.getElem?_eq_getElem hjl) ?_
      rw [List.getD_eq_getElem?_getD, List.getElem?_eq_getElem hjl] at he
      exact he)
    rw [List.take_length, h] at h1
    omega
theorem take_cases (cls : Int) (L : List ByteArray) (q : Int) : (takeE cls L q ≠ 0 ∧ takeL cls L q = L) ∨
    ∃ p : Nat, q = (p : Int) ∧ L[p]? = some (takeM cls L q) ∧ takeE cls L q = 0 ∧ takeL cls L q = L.eraseIdx p ∧ (∀ k, k < p → ∀ y, L[k]? = some y → y ≠ takeM cls L q) ∧ (0 < p → cls = 2) := by
  cases ho : takeOk cls L q with
  | false => left; simp [takeE, takeL, ho]
  | true =>
    right
    unfold takeOk at ho
    rw [Bool.and_eq_true, decide_eq_true_iff] at ho
    obtain ⟨⟨h0, h1⟩, h2⟩ := ho
    obtain ⟨p, rfl⟩ := Int.eq_ofNat_of_zero_le h0
    have ho : takeOk cls L (p : Int) = true := by unfold takeOk; rw [h2]; simp; omega
    have hp : p < L.length := by omega
    have hM : takeM cls L (p : Int) = L.getD p ByteArray.empty := by simp [takeM, ho]
    refine ⟨p, rfl, ?_, by simp [takeE, ho], by simp [takeL, ho], ?_, ?_⟩
    · rw [hM, List.getD_eq_getElem?_getD, List.getElem?_eq_getElem hp]; rfl
    · rw [hM]
      simp only [Int.toNat_natCast, chc] at h2
      split at h2
      · exact idx_first (by simpa using h2)
      · intro k hk; simp at h2; omega
    · intro hpos
      simp only [Int.toNat_natCast, chc] at h2
      split at h2
      · assumption
      · simp at h2; omega
theorem take_zero {cls : Int} {L : List ByteArray} (h : takeE cls L 0 ≠ 0) : L.length = 0 := by
  cases L with
  | nil => rfl
  | cons x l =>
    exfalso; apply h
    have hc : chc cls (x :: l) 0 = true := by
      unfold chc
      split
      · have h1 := Lib.idxOfS_hit (x :: l) (x :: l).length 0 x (by simp) (Nat.le_refl _) rfl (fun j hj => by omega)
        rw [List.take_length] at h1
        simpa using h1
      · rfl
    have ho : takeOk cls (x :: l) 0 = true := by
      unfold takeOk
      rw [Bool.and_eq_true, decide_eq_true_iff]
      exact ⟨⟨Int.le_refl _, by simp only [List.length_cons]; omega⟩, hc⟩
    simp [takeE, ho]
/-- behind i rounds -/
def OI (w : World) (cb : Nat) (cls cap : Int) (n i : Nat) (lv : Value) (wr : World) : Prop :=
  ∃ L F, OS w cb cls cap lv L L F wr ∧ (n ≤ i → L.length ≤ 64 - (i - n))
/-- left with one message more -/
def PutTo (w : World) (cb : Nat) (cls cap : Int) (L : List ByteArray) (lv : Value) (W : World) : Prop := ∃ F, OS w cb cls cap lv L L F W
set_option maxHeartbeats 6000000 in
set_option maxRecDepth 100000 in
theorem orders_bad (cls cap : Int) (ao : Option Addr) (n cp : Nat) (w : World) (h : Acts w ao n) (hc : okC cls cap = false) :
    Calls Try.prog 4 #[.int .i64 cls, .int .i64 cap, .slice ao n cp] w (Ret (.bool true) (Frm [] w)) := by
  have CF := Lib.hid (few_any ao n cp w h)
  have CN := Lib.hid (fun w => new_bad cls cap w hc)
  clear h hc
  go_enter Try.func4, Try.ntmps4
  go_wp2_with (first
    | (go_at_call 16; go_must (refine CF.out.mono ?_; rintro e w1 ⟨v, rfl, b, rfl, hb, hf⟩; have HB := Lib.hid hb; have HF := Lib.hid hf; clear hb hf))
    | (go_at_call 8; go_must (refine (known_any _).mono ?_; rintro e w9 ⟨rfl, hf⟩; have HK := Lib.hid hf; clear hf))
    | (go_at_call 9; go_must (refine (CN.out _).mono ?_; rintro e w' ⟨rfl, rfl⟩))
    | (go_at_call 10; go_must (refine (num_any _ _).mono ?_; rintro e w' ⟨rfl, rfl⟩)))
  all_goals
    go_ret
    exact ⟨rfl, HF.out.trans HK.out⟩
set_option maxHeartbeats 40000000 in
set_option maxRecDepth 100000 in
theorem orders_any (cls cap : Int) (ao : Option Addr) (n cp : Nat) (w : World) (h : Acts w ao n) :
    Calls Try.prog 4 #[.int .i64 cls, .int .i64 cap, .slice ao n cp] w (Ret (.bool true) (Frm [] w)) := by
  cases hc : okC cls cap with
  | false => exact orders_bad cls cap ao n cp w h hc
  | true =>
    have HA := Lib.hid h
    have CF := Lib.hid (few_any ao n cp w h)
    have CN := Lib.hid (fun w => new_ok cls cap w hc)
    clear h hc
    go_enter Try.func4, Try.ntmps4
    go_wp2_with (first
      | (go_at_call 16; go_must (refine CF.out.mono ?_; rintro e w1 ⟨v, rfl, b, rfl, hb, hf⟩; have HB := Lib.hid hb; have HF := Lib.hid hf; clear hb hf))
      | (go_at_call 8; go_must (refine (known_any _).mono ?_; rintro e w9 ⟨rfl, hf⟩; have HK := Lib.hid hf; clear hf))
      | (go_at_call 9; go_must (refine (CN.out _).mono ?_; rintro e w2 ⟨rfl, hr⟩; have HR := Lib.hid hr; clear hr))
      | (go_at_call 10; go_must (refine (num_any _ _).mono ?_; rintro e w' ⟨rfl, rfl⟩)))
    · go_ret
      exact ⟨rfl, HF.out.trans HK.out⟩
    · have hI : Hid (OI w w1.heap.size cls cap n 0 (.slice none 0 0) w2) := by
        refine Lib.hid ⟨[], [w1.heap.size], ⟨HR.out.2, .inl (World.ownsRow_nil _ _ _ _), by simp [Value.ownBlock], fun x hx => by simp at hx; subst hx; exact HF.out.size, HF.out.trans HR.out.1⟩, fun _ => by simp⟩
      have hb : b = true := by simpa using ‹(!b) = false›
      have hn80 : n ≤ 80 := HB.out hb
      have HW1 : Hid (w.heap.size ≤ w1.heap.size) := Lib.hid HF.out.size
      subst hb
      clear CF CN HB HR HF
      go_loopw [9, 10] (fun s9 s10 wr => ∃ i : Nat, s10 = .int .i64 i ∧ i ≤ n + 70 ∧ OI w w1.heap.size cls cap n i s9 wr) (fun _ s10 _ => n + 70 - (intOf s10).toNat)
      case atStart => exact ⟨0, rfl, Nat.zero_le _, hI.out⟩
      case round =>
        clear hI
        obtain ⟨i, rfl, hi, hoi⟩ := hrel
        have HO := Lib.hid hoi
        clear hoi
        by_cases hlt : i < n + 70
        · have hlt' : (i : Int) < (n : Int) + 70 := by omega
          by_cases hin : i < n
          · have hin' : (i : Int) < (n : Int) := by omega
            obtain ⟨ab, o, what, ms, pl, rfl, e0, e1, e2⟩ := HA.out i hin
            obtain ⟨L, F, hos, hle⟩ := HO.out
            have hX : Frm [] wr (wr.alloc (.cells #[.int .i64 3, .string { data := #[] }, .int .i64 0] 41)) := (Frm.refl [] wr).alloc _
            have f0 := hX.keep (hos.o.keep e0)
            have f1 := hX.keep (hos.o.keep e1)
            have f2 := hX.keep (hos.o.keep e2)
            have HX : Hid (OS w w1.heap.size cls cap u9 L L F (wr.alloc (.cells #[.int .i64 what, .string ms, .int .i64 pl] 41))) := Lib.hid (hos.frm ((Frm.refl [] wr).alloc _))
            clear e0 e1 e2 hos hX
            go_upto_region 13 with (fail)
            clear f0 f1 f2
            obtain ⟨xb, hxb⟩ : ∃ xb, xb = wr.heap.size := ⟨_, rfl⟩
            obtain ⟨WX, hWX⟩ : ∃ WX, WX = wr.alloc (.cells #[.int .i64 what, .string ms, .int .i64 pl] 41) := ⟨_, rfl⟩
            have hbx : WX.heap[xb]? = some (.cells #[.int .i64 what, .string ms, .int .i64 pl] 41 (0, 0)) := by rw [hWX, hxb]; exact heap_alloc_new _ _
            rw [← hWX, ← hxb]
            rw [← hWX] at HX
            have HBX := Lib.hid hbx
            have x0 := cell_of hbx 0
            have x1 := cell_of hbx 1
            have x2 := cell_of hbx 2
            clear hWX hxb hbx
            obtain ⟨ao, lc, rfl, -⟩ := HX.out.l.shape
            have HXF : Hid (xb ∉ F) := Lib.hid (HX.out.c.mark ⟨HBX.out, rfl⟩)
            have hL64 := HX.out.c.good.lenN
            obtain ⟨i0, hi0, hz0, hz1, hz2⟩ := info_parts Try.info9
            by_cases hp : what = 0 ∨ what = 1 ∨ what = 2
            · by_cases hE : putE cap L ms = 0
              · have CP : Hid (Calls Try.prog 11 #[.pointer (some ⟨w1.heap.size, 0, none⟩), .string ms] WX (Ret (.int .i64 0) (ChnTo WX w1.heap.size cls cap (L ++ [ms]) F))) := by
                  have h := put_all w1.heap.size cls cap L F ms WX HX.out.c
                  rw [putL, hE, if_pos rfl] at h
                  exact Lib.hid h
                rcases hp with rfl | rfl | rfl
                · go_upto_region 20 with (first
                    | (go_at_call 11; go_must (refine CP.out.mono ?_; rintro e w3 ⟨rfl, hr⟩; have HS := Lib.hid (HX.out.chn hr); have x1b := cell_of (hr.choose_spec.2.1.at HBX.out HXF.out) 1; clear hr))
                    | (go_at_call 10; go_must (refine (num_any _ _).mono ?_; rintro e w' ⟨rfl, rfl⟩)))
                  obtain ⟨F3, hs3⟩ := HS.out
                  have HS5 := Lib.hid hs3
                  rcases hs3.l with hl | ⟨g, cur, hv, hb, ht⟩
                  · have HLW : Hid (w3.ownsRow 0 9 1 (.slice ao L.length lc) L.length (L.map Value.string)) := Lib.hid hl
                    clear hl hs3 HS
                    go_wp2_with (first
                      | (at_builtin; refine wpList_append_own_at _ rfl _ _ 22 rfl 0 9 i0 (.string { data := #[] }) 1 16 Try.underlying22 hi0 hz0 hz1 hz2 rfl (by decide) _ _ _ rfl (HLW.out.alloc _) ⟨w3.heap.size, 0, none⟩ 1 1 [.string ms] rfl rfl (cell_one_new _ _ _) (by simp [Value.oneCell']) (by unfold maxLen; omega) (by omega) (Nat.zero_le _) ?_; intro v' wa hown' hgrow hnil hloc; have HE := Lib.hid (OS.put_own HS5.out rfl hown' hgrow hloc); clear hown' hgrow hnil hloc))
                    exact ⟨⟨i + 1, by simp, by omega, L ++ [ms], F3, HE.out, fun h => by have := HE.out.c.good.lenN; omega⟩, by simp [intOf]; omega⟩
                  · cases hv
                    have HOLD : Hid (∀ b, some (⟨g, 0, none⟩ : Addr) = some b → ∀ j u, (L.map Value.string)[j]? = some u → (w3.alloc (.cells #[.string ms] 9)).cell? (b.add j) = some u) := Lib.hid (lf_cells hb ht)
                    clear hb ht hs3 HS
                    go_wp2_with (first
                      | (at_builtin; refine wpList_append_grows _ rfl _ _ 22 rfl 9 i0 (.string { data := #[] }) 1 16 Try.underlying22 hi0 hz0 hz1 hz2 rfl (by decide) (some ⟨g, 0, none⟩) L.length L.length (L.map Value.string) rfl (by simp) (by simp) HOLD.out ⟨w3.heap.size, 0, none⟩ 1 1 [.string ms] rfl rfl (cell_one_new _ _ _) (by simp [Value.oneCell']) (by omega) (by unfold maxLen; omega) (by omega) ?_; intro v' wa hown' hgrow; have HE := Lib.hid (OS.put_tight HS5.out rfl hown' hgrow); clear hown' hgrow))
                    exact ⟨⟨i + 1, by simp, by omega, L ++ [ms], F3, HE.out, fun h => by have := HE.out.c.good.lenN; omega⟩, by simp [intOf]; omega⟩
                · go_upto_region 20 with (first
                    | (go_at_call 11; go_must (refine CP.out.mono ?_; rintro e w3 ⟨rfl, hr⟩; have HS := Lib.hid (HX.out.chn hr); have x1b := cell_of (hr.choose_spec.2.1.at HBX.out HXF.out) 1; clear hr))
                    | (go_at_call 10; go_must (refine (num_any _ _).mono ?_; rintro e w' ⟨rfl, rfl⟩)))
                  obtain ⟨F3, hs3⟩ := HS.out
                  have HS5 := Lib.hid hs3
                  rcases hs3.l with hl | ⟨g, cur, hv, hb, ht⟩
                  · have HLW : Hid (w3.ownsRow 0 9 1 (.slice ao L.length lc) L.length (L.map Value.string)) := Lib.hid hl
                    clear hl hs3 HS
                    go_wp2_with (first
                      | (at_builtin; refine wpList_append_own_at _ rfl _ _ 22 rfl 0 9 i0 (.string { data := #[] }) 1 16 Try.underlying22 hi0 hz0 hz1 hz2 rfl (by decide) _ _ _ rfl (HLW.out.alloc _) ⟨w3.heap.size, 0, none⟩ 1 1 [.string ms] rfl rfl (cell_one_new _ _ _) (by simp [Value.oneCell']) (by unfold maxLen; omega) (by omega) (Nat.zero_le _) ?_; intro v' wa hown' hgrow hnil hloc; have HE := Lib.hid (OS.put_own HS5.out rfl hown' hgrow hloc); clear hown' hgrow hnil hloc))
                    exact ⟨⟨i + 1, by simp, by omega, L ++ [ms], F3, HE.out, fun h => by have := HE.out.c.good.lenN; omega⟩, by simp [intOf]; omega⟩
                  · cases hv
                    have HOLD : Hid (∀ b, some (⟨g, 0, none⟩ : Addr) = some b → ∀ j u, (L.map Value.string)[j]? = some u → (w3.alloc (.cells #[.string ms] 9)).cell? (b.add j) = some u) := Lib.hid (lf_cells hb ht)
                    clear hb ht hs3 HS
                    go_wp2_with (first
                      | (at_builtin; refine wpList_append_grows _ rfl _ _ 22 rfl 9 i0 (.string { data := #[] }) 1 16 Try.underlying22 hi0 hz0 hz1 hz2 rfl (by decide) (some ⟨g, 0, none⟩) L.length L.length (L.map Value.string) rfl (by simp) (by simp) HOLD.out ⟨w3.heap.size, 0, none⟩ 1 1 [.string ms] rfl rfl (cell_one_new _ _ _) (by simp [Value.oneCell']) (by omega) (by unfold maxLen; omega) (by omega) ?_; intro v' wa hown' hgrow; have HE := Lib.hid (OS.put_tight HS5.out rfl hown' hgrow); clear hown' hgrow))
                    exact ⟨⟨i + 1, by simp, by omega, L ++ [ms], F3, HE.out, fun h => by have := HE.out.c.good.lenN; omega⟩, by simp [intOf]; omega⟩
                · go_upto_region 20 with (first
                    | (go_at_call 11; go_must (refine CP.out.mono ?_; rintro e w3 ⟨rfl, hr⟩; have HS := Lib.hid (HX.out.chn hr); have x1b := cell_of (hr.choose_spec.2.1.at HBX.out HXF.out) 1; clear hr))
                    | (go_at_call 10; go_must (refine (num_any _ _).mono ?_; rintro e w' ⟨rfl, rfl⟩)))
                  obtain ⟨F3, hs3⟩ := HS.out
                  have HS5 := Lib.hid hs3
                  rcases hs3.l with hl | ⟨g, cur, hv, hb, ht⟩
                  · have HLW : Hid (w3.ownsRow 0 9 1 (.slice ao L.length lc) L.length (L.map Value.string)) := Lib.hid hl
                    clear hl hs3 HS
                    go_wp2_with (first
                      | (at_builtin; refine wpList_append_own_at _ rfl _ _ 22 rfl 0 9 i0 (.string { data := #[] }) 1 16 Try.underlying22 hi0 hz0 hz1 hz2 rfl (by decide) _ _ _ rfl (HLW.out.alloc _) ⟨w3.heap.size, 0, none⟩ 1 1 [.string ms] rfl rfl (cell_one_new _ _ _) (by simp [Value.oneCell']) (by unfold maxLen; omega) (by omega) (Nat.zero_le _) ?_; intro v' wa hown' hgrow hnil hloc; have HE := Lib.hid (OS.put_own HS5.out rfl hown' hgrow hloc); clear hown' hgrow hnil hloc))
                    exact ⟨⟨i + 1, by simp, by omega, L ++ [ms], F3, HE.out, fun h => by have := HE.out.c.good.lenN; omega⟩, by simp [intOf]; omega⟩
                  · cases hv
                    have HOLD : Hid (∀ b, some (⟨g, 0, none⟩ : Addr) = some b → ∀ j u, (L.map Value.string)[j]? = some u → (w3.alloc (.cells #[.string ms] 9)).cell? (b.add j) = some u) := Lib.hid (lf_cells hb ht)
                    clear hb ht hs3 HS
                    go_wp2_with (first
                      | (at_builtin; refine wpList_append_grows _ rfl _ _ 22 rfl 9 i0 (.string { data := #[] }) 1 16 Try.underlying22 hi0 hz0 hz1 hz2 rfl (by decide) (some ⟨g, 0, none⟩) L.length L.length (L.map Value.string) rfl (by simp) (by simp) HOLD.out ⟨w3.heap.size, 0, none⟩ 1 1 [.string ms] rfl rfl (cell_one_new _ _ _) (by simp [Value.oneCell']) (by omega) (by unfold maxLen; omega) (by omega) ?_; intro v' wa hown' hgrow; have HE := Lib.hid (OS.put_tight HS5.out rfl hown' hgrow); clear hown' hgrow))
                    exact ⟨⟨i + 1, by simp, by omega, L ++ [ms], F3, HE.out, fun h => by have := HE.out.c.good.lenN; omega⟩, by simp [intOf]; omega⟩
              · obtain ⟨xe, hxe⟩ : ∃ xe, putE cap L ms = xe := ⟨_, rfl⟩
                have CP : Hid (Calls Try.prog 11 #[.pointer (some ⟨w1.heap.size, 0, none⟩), .string ms] WX (Ret (.int .i64 xe) (ChnTo WX w1.heap.size cls cap L F))) := by
                  have h := put_all w1.heap.size cls cap L F ms WX HX.out.c
                  rw [putL, if_neg hE, hxe] at h
                  exact Lib.hid h
                have hx0 : (xe == 0) = false := by rw [hxe] at hE; simpa using hE
                clear hxe hE
                rcases hp with rfl | rfl | rfl
                · go_wp2_with (first
                    | (go_at_call 11; go_must (refine CP.out.mono ?_; rintro e w3 ⟨rfl, hr⟩; have HS := Lib.hid (HX.out.chn hr); have x1b := cell_of (hr.choose_spec.2.1.at HBX.out HXF.out) 1; clear hr))
                    | (go_at_call 10; go_must (refine (num_any _ _).mono ?_; rintro e w' ⟨rfl, rfl⟩)))
                  obtain ⟨F3, HE⟩ := HS.out
                  exact ⟨⟨i + 1, by simp, by omega, L, F3, HE, fun h => by have := HE.c.good.lenN; omega⟩, by simp [intOf]; omega⟩
                · go_wp2_with (first
                    | (go_at_call 11; go_must (refine CP.out.mono ?_; rintro e w3 ⟨rfl, hr⟩; have HS := Lib.hid (HX.out.chn hr); have x1b := cell_of (hr.choose_spec.2.1.at HBX.out HXF.out) 1; clear hr))
                    | (go_at_call 10; go_must (refine (num_any _ _).mono ?_; rintro e w' ⟨rfl, rfl⟩)))
                  obtain ⟨F3, HE⟩ := HS.out
                  exact ⟨⟨i + 1, by simp, by omega, L, F3, HE, fun h => by have := HE.c.good.lenN; omega⟩, by simp [intOf]; omega⟩
                · go_wp2_with (first
                    | (go_at_call 11; go_must (refine CP.out.mono ?_; rintro e w3 ⟨rfl, hr⟩; have HS := Lib.hid (HX.out.chn hr); have x1b := cell_of (hr.choose_spec.2.1.at HBX.out HXF.out) 1; clear hr))
                    | (go_at_call 10; go_must (refine (num_any _ _).mono ?_; rintro e w' ⟨rfl, rfl⟩)))
                  obtain ⟨F3, HE⟩ := HS.out
                  exact ⟨⟨i + 1, by simp, by omega, L, F3, HE, fun h => by have := HE.c.good.lenN; omega⟩, by simp [intOf]; omega⟩
            · have CT : Hid (∀ q, Calls Try.prog 18 #[.pointer (some ⟨w1.heap.size, 0, none⟩), .int .i64 q] WX (Ret (.tuple #[.string (takeM cls L q), .int .i64 (takeE cls L q)]) (ChnTo WX w1.heap.size cls cap (takeL cls L q) F))) := Lib.hid fun q => take_any w1.heap.size cls cap L F q WX HX.out.c
              have y0 : (what == 0) = false := by simp; omega
              have y1 : (what == 1) = false := by simp; omega
              have y2 : (what == 2) = false := by simp; omega
              rcases Decidable.em (what = 5) with rfl | h5
              · by_cases h3 : cls = 3
                · have CT : Hid (Calls Try.prog 17 #[.pointer (some ⟨w1.heap.size, 0, none⟩)] WX (Ret (.tuple #[.string (takeM cls L 0), .int .i64 (takeE cls L 0)]) (ChnTo WX w1.heap.size cls cap (takeL cls L 0) F))) := by
                    have h := lose_any w1.heap.size cls cap L F WX HX.out.c
                    rw [loseM, loseE, loseL, if_pos h3, if_pos h3, if_pos h3] at h
                    exact Lib.hid h
                  have z3 : (cls != 3) = false := by simpa using h3
                  have z4 : (cls == 3) = true := by simpa using h3
                  have z5 : (cls == 2) = false := by simp; omega
                  have H3 := Lib.hid h3
                  clear h3
                  rcases take_cases cls L 0 with ⟨t1, t2⟩ | ⟨p, t0, t1, t2, t3, t4, t5⟩
                  · obtain ⟨xe, hxe⟩ : ∃ xe, takeE cls L 0 = xe := ⟨_, rfl⟩
                    have hx0 : (xe == 0) = false := by rw [hxe] at t1; simpa using t1
                    have hx1 : (xe != 0) = true := by rw [hxe] at t1; simpa using t1
                    have CP := CT.out
                    rw [hxe, t2] at CP
                    have CQ := Lib.hid CP
                    clear CP CT t1 t2 hxe
                    go_wp2_with (first
                      | (go_at_call 17; go_must (refine CQ.out.mono ?_; rintro e w3 ⟨rfl, hr⟩; have HS := Lib.hid (HX.out.chn hr); clear hr))
                      | (go_at_call 10; go_must (refine (num_any _ _).mono ?_; rintro e w' ⟨rfl, rfl⟩)))
                    obtain ⟨F3, HE⟩ := HS.out
                    exact ⟨⟨i + 1, by simp, by omega, L, F3, HE, fun h => by have := HE.c.good.lenN; omega⟩, by simp [intOf]; omega⟩
                  · have CP := CT.out
                    rw [t2, t3] at CP
                    clear t0
                    obtain ⟨mm, hmm⟩ : ∃ mm, takeM cls L 0 = mm := ⟨_, rfl⟩
                    rw [hmm] at CP t1 t4
                    have CQ := Lib.hid CP; have HT1 := Lib.hid t1; have HT4 := Lib.hid t4; have HT5 := Lib.hid t5
                    have hpl := lt_of_some t1
                    clear CP CT t1 t2 t3 t4 t5 hmm
                    go_wp2_with (first
                      | (go_at_call 17; go_must (refine CQ.out.mono ?_; rintro e w3 ⟨rfl, hr⟩; have HS := Lib.hid (HX.out.chn hr); clear hr))
                      | (go_at_call 10; go_must (refine (num_any _ _).mono ?_; rintro e w' ⟨rfl, rfl⟩)))
                    obtain ⟨F3, hs3⟩ := HS.out
                    have HS5 := Lib.hid hs3
                    obtain ⟨ao', lc', hv, hcs⟩ := hs3.l.shape
                    cases hv
                    obtain ⟨g, rfl, -⟩ := hcs p mm HT1.out
                    have HCS : Hid (∀ k x, L[k]? = some x → w3.cell? ⟨g, k, none⟩ = some (.string x)) := Lib.hid fun k x hk => by
                      obtain ⟨g', hg', e⟩ := hcs k x hk
                      cases hg'; exact e
                    have hroom := hs3.l.room
                    clear hs3 hcs HS
                    go_loopw [14] (fun s14 wx => ∃ k : Nat, s14 = .int .i64 k ∧ k ≤ p ∧ wx = w3) (fun s14 _ => p - (intOf s14).toNat)
                    case atStart => exact ⟨0, rfl, Nat.zero_le _, rfl⟩
                    case round =>
                      obtain ⟨k, rfl, hk, rfl⟩ := hrel
                      by_cases hkp : k < p
                      · obtain ⟨y, hy⟩ : ∃ y, L[k]? = some y := ⟨_, List.getElem?_eq_getElem (by omega)⟩
                        have cy := HCS.out k y hy
                        have hyn : (y.toList == mm.toList) = false := str_ne (HT4.out k hkp y hy)
                        have hc2 := HT5.out (by omega)
                        rw [hc2] at z5
                        exact absurd z5 (by decide)
                      · obtain rfl : k = p := by omega
                        have cy := HCS.out k mm HT1.out
                        have hkl : (k : Int) < (L.length : Int) := by omega
                        have hkl2 : decide (L.length ≤ k) = false := by simp; omega
                        have hk1 : k ≤ lc := by omega
                        have hk2 : k + 1 ≤ lc := by omega
                        have hk3 : k + 1 ≤ L.length := by omega
                        have hwk : IntKind.i64.wrap ((k : Int) + 1) = (k : Int) + 1 := by simp [IntKind.wrap, show IntKind.i64.bits = 64 from rfl, show IntKind.i64.signed = true from rfl]; omega
                        have htn : ((k : Int) + 1).toNat = k + 1 := by omega
                        have hin2 : (k : Int) + 1 ≤ (L.length : Int) := by omega
                        have hin3 : (0 : Int) ≤ (k : Int) + 1 := by omega
                        go_wp2_with fail
                        have hkk : k + 1 ≤ L.length := by omega
                        by_cases hlast : k + 1 < L.length
                        · have hk4 : ¬ lc = k + 1 := by omega
                          have hH1 : Hid (∀ b, some (⟨g, 0, none⟩ : Addr) = some b → ∀ j u, ((L.take k).map Value.string)[j]? = some u → wr.drew.cell? (b.add j) = some u) := Lib.hid (take_cells HCS.out)
                          have hH2 : Hid (∀ j u, ((L.drop (k + 1)).map Value.string)[j]? = some u → wr.drew.cell? ((⟨g, k + 1, none⟩ : Addr).add j) = some u) := Lib.hid (drop_cells HCS.out)
                          go_region_law (first
                            | (refine step_append_grows rfl _ _ 22 rfl 9 i0 (.string { data := #[] }) 1 16 Try.underlying22 hi0 hz0 hz1 hz2 rfl (by decide) (some ⟨g, 0, none⟩) k k ((L.take k).map Value.string) ?_ (by simp) ?_ hH1.out ⟨g, k + 1, none⟩ (L.length - (k + 1)) (lc - (k + 1)) ((L.drop (k + 1)).map Value.string) ?_ ?_ hH2.out ?_ ?_ ?_ ?_ ?_; (focus (go_simp; done)); (focus (simp; omega)); (focus (go_simp; done)); (focus simp); (focus (intro u hu; obtain ⟨x, -, rfl⟩ := List.mem_map.1 hu; rfl)); (focus omega); (focus (unfold maxLen; omega)); (focus omega); intro v' wa hown' hgrow))
                          all_goals
                            have HE := Lib.hid (HS5.out.cut hlast hown' hgrow)
                            clear hown' hgrow hH1 hH2
                            go_wp2_with fail
                            exact ⟨⟨i + 1, by simp, by omega, L.eraseIdx k, F3, HE.out, fun h => by have := HE.out.c.good.lenN; omega⟩, by first | omega | (simp [intOf]; omega)⟩
                        · have hz : L.length - (k + 1) = 0 := by omega
                          have hap := append_zero g k wr.drew i0 hi0
                          have HE := Lib.hid (HS5.out.trim (k := k) (by omega))
                          by_cases hlc : lc = k + 1
                          · subst hlc
                            have hk5 : (k : Int) ≤ (k : Int) + 1 := by omega
                            go_region_law (first | fail)
                            all_goals
                              go_wp2_with fail
                              exact ⟨⟨i + 1, by simp, by omega, L.eraseIdx k, F3, HE.out, fun h => by have := HE.out.c.good.lenN; omega⟩, by first | omega | (simp [intOf]; omega)⟩
                          · go_region_law (first | fail)
                            all_goals
                              go_wp2_with fail
                              exact ⟨⟨i + 1, by simp, by omega, L.eraseIdx k, F3, HE.out, fun h => by have := HE.out.c.good.lenN; omega⟩, by first | omega | (simp [intOf]; omega)⟩
                · have CT : Hid (Calls Try.prog 17 #[.pointer (some ⟨w1.heap.size, 0, none⟩)] WX (Ret (.tuple #[.string { data := #[] }, .int .i64 8]) (ChnTo WX w1.heap.size cls cap L F))) := by
                    have h := lose_any w1.heap.size cls cap L F WX HX.out.c
                    rw [loseM, loseE, loseL, if_neg h3, if_neg h3, if_neg h3] at h
                    exact Lib.hid h
                  go_wp2_with (first
                    | (go_at_call 17; go_must (refine CT.out.mono ?_; rintro e w3 ⟨rfl, hr⟩; have HS := Lib.hid (HX.out.chn hr); clear hr))
                    | (go_at_call 10; go_must (refine (num_any _ _).mono ?_; rintro e w' ⟨rfl, rfl⟩)))
                  obtain ⟨F3, HE⟩ := HS.out
                  exact ⟨⟨i + 1, by simp, by omega, L, F3, HE, fun h => by have := HE.c.good.lenN; omega⟩, by simp [intOf]; omega⟩
              · have y5 : (what == 5) = false := by simpa using h5
                obtain ⟨q, hq⟩ : ∃ q, max 0 pl = q := ⟨_, rfl⟩
                rcases take_cases cls L q with ⟨t1, t2⟩ | ⟨p, rfl, t1, t2, t3, t4, t5⟩
                · obtain ⟨xe, hxe⟩ : ∃ xe, takeE cls L q = xe := ⟨_, rfl⟩
                  have hx0 : (xe == 0) = false := by rw [hxe] at t1; simpa using t1
                  have hx1 : (xe != 0) = true := by rw [hxe] at t1; simpa using t1
                  have CP := CT.out q
                  rw [hxe, t2] at CP
                  have CQ := Lib.hid CP
                  clear CP CT t1 t2 hxe
                  go_wp2_with (first
                    | (go_at_call 18; go_must (refine CQ.out.mono ?_; rintro e w3 ⟨rfl, hr⟩; have HS := Lib.hid (HX.out.chn hr); clear hr))
                    | (go_at_call 10; go_must (refine (num_any _ _).mono ?_; rintro e w' ⟨rfl, rfl⟩)))
                  obtain ⟨F3, HE⟩ := HS.out
                  exact ⟨⟨i + 1, by simp, by omega, L, F3, HE, fun h => by have := HE.c.good.lenN; omega⟩, by simp [intOf]; omega⟩
                · have CP := CT.out (p : Int)
                  rw [t2, t3] at CP
                  obtain ⟨mm, hmm⟩ : ∃ mm, takeM cls L (p : Int) = mm := ⟨_, rfl⟩
                  rw [hmm] at CP t1 t4
                  have CQ := Lib.hid CP; have HT1 := Lib.hid t1; have HT4 := Lib.hid t4; have HT5 := Lib.hid t5
                  have hpl := lt_of_some t1
                  clear CP CT t1 t2 t3 t4 t5 hmm
                  go_wp2_with (first
                    | (go_at_call 18; go_must (refine CQ.out.mono ?_; rintro e w3 ⟨rfl, hr⟩; have HS := Lib.hid (HX.out.chn hr); clear hr))
                    | (go_at_call 10; go_must (refine (num_any _ _).mono ?_; rintro e w' ⟨rfl, rfl⟩)))
                  obtain ⟨F3, hs3⟩ := HS.out
                  have HS5 := Lib.hid hs3
                  obtain ⟨ao', lc', hv, hcs⟩ := hs3.l.shape
                  cases hv
                  obtain ⟨g, rfl, -⟩ := hcs p mm HT1.out
                  have HCS : Hid (∀ k x, L[k]? = some x → w3.cell? ⟨g, k, none⟩ = some (.string x)) := Lib.hid fun k x hk => by
                    obtain ⟨g', hg', e⟩ := hcs k x hk
                    cases hg'; exact e
                  have hroom := hs3.l.room
                  clear hs3 hcs HS
                  go_loopw [14] (fun s14 wx => ∃ k : Nat, s14 = .int .i64 k ∧ k ≤ p ∧ wx = w3) (fun s14 _ => p - (intOf s14).toNat)
                  case atStart => exact ⟨0, rfl, Nat.zero_le _, rfl⟩
                  case round =>
                    obtain ⟨k, rfl, hk, rfl⟩ := hrel
                    by_cases hkp : k < p
                    · obtain ⟨y, hy⟩ : ∃ y, L[k]? = some y := ⟨_, List.getElem?_eq_getElem (by omega)⟩
                      have cy := HCS.out k y hy
                      have hyn : (y.toList == mm.toList) = false := str_ne (HT4.out k hkp y hy)
                      have hc2 : (cls == 2) = true := by have := HT5.out (by omega); simpa using this
                      have hkl : (k : Int) < (L.length : Int) := by omega
                      clear hy
                      go_wp2_with fail
                      exact ⟨⟨k + 1, by simp, hkp, trivial⟩, by simp [intOf]; omega⟩
                    · obtain rfl : k = p := by omega
                      have cy := HCS.out k mm HT1.out
                      have hkl : (k : Int) < (L.length : Int) := by omega
                      have hkl2 : decide (L.length ≤ k) = false := by simp; omega
                      have hk1 : k ≤ lc := by omega
                      have hk2 : k + 1 ≤ lc := by omega
                      have hk3 : k + 1 ≤ L.length := by omega
                      have hwk : IntKind.i64.wrap ((k : Int) + 1) = (k : Int) + 1 := by simp [IntKind.wrap, show IntKind.i64.bits = 64 from rfl, show IntKind.i64.signed = true from rfl]; omega
                      have htn : ((k : Int) + 1).toNat = k + 1 := by omega
                      have hin2 : (k : Int) + 1 ≤ (L.length : Int) := by omega
                      have hin3 : (0 : Int) ≤ (k : Int) + 1 := by omega
                      go_wp2_with fail
                      have hkk : k + 1 ≤ L.length := by omega
                      by_cases hlast : k + 1 < L.length
                      · have hk4 : ¬ lc = k + 1 := by omega
                        have hH1 : Hid (∀ b, some (⟨g, 0, none⟩ : Addr) = some b → ∀ j u, ((L.take k).map Value.string)[j]? = some u → wr.drew.cell? (b.add j) = some u) := Lib.hid (take_cells HCS.out)
                        have hH2 : Hid (∀ j u, ((L.drop (k + 1)).map Value.string)[j]? = some u → wr.drew.cell? ((⟨g, k + 1, none⟩ : Addr).add j) = some u) := Lib.hid (drop_cells HCS.out)
                        go_region_law (first
                          | (refine step_append_grows rfl _ _ 22 rfl 9 i0 (.string { data := #[] }) 1 16 Try.underlying22 hi0 hz0 hz1 hz2 rfl (by decide) (some ⟨g, 0, none⟩) k k ((L.take k).map Value.string) ?_ (by simp) ?_ hH1.out ⟨g, k + 1, none⟩ (L.length - (k + 1)) (lc - (k + 1)) ((L.drop (k + 1)).map Value.string) ?_ ?_ hH2.out ?_ ?_ ?_ ?_ ?_; (focus (go_simp; done)); (focus (simp; omega)); (focus (go_simp; done)); (focus simp); (focus (intro u hu; obtain ⟨x, -, rfl⟩ := List.mem_map.1 hu; rfl)); (focus omega); (focus (unfold maxLen; omega)); (focus omega); intro v' wa hown' hgrow))
                        all_goals
                          have HE := Lib.hid (HS5.out.cut hlast hown' hgrow)
                          clear hown' hgrow hH1 hH2
                          go_wp2_with fail
                          exact ⟨⟨i + 1, by simp, by omega, L.eraseIdx k, F3, HE.out, fun h => by have := HE.out.c.good.lenN; omega⟩, by first | omega | (simp [intOf]; omega)⟩
                      · have hz : L.length - (k + 1) = 0 := by omega
                        have hap := append_zero g k wr.drew i0 hi0
                        have HE := Lib.hid (HS5.out.trim (k := k) (by omega))
                        by_cases hlc : lc = k + 1
                        · subst hlc
                          have hk5 : (k : Int) ≤ (k : Int) + 1 := by omega
                          go_region_law (first | fail)
                          all_goals
                            go_wp2_with fail
                            exact ⟨⟨i + 1, by simp, by omega, L.eraseIdx k, F3, HE.out, fun h => by have := HE.out.c.good.lenN; omega⟩, by first | omega | (simp [intOf]; omega)⟩
                        · go_region_law (first | fail)
                          all_goals
                            go_wp2_with fail
                            exact ⟨⟨i + 1, by simp, by omega, L.eraseIdx k, F3, HE.out, fun h => by have := HE.out.c.good.lenN; omega⟩, by first | omega | (simp [intOf]; omega)⟩
          · have hin' : ¬ (i : Int) < (n : Int) := by omega
            obtain ⟨L, F, hos, hle⟩ := HO.out
            have HX : Hid (OS w w1.heap.size cls cap u9 L L F (wr.alloc (.cells #[.int .i64 3, .string { data := #[] }, .int .i64 0] 41))) := Lib.hid (hos.frm ((Frm.refl [] wr).alloc _))
            clear hos
            go_upto_region 13 with (fail)
            obtain ⟨xb, hxb⟩ : ∃ xb, xb = wr.heap.size := ⟨_, rfl⟩
            obtain ⟨WX, hWX⟩ : ∃ WX, WX = wr.alloc (.cells #[.int .i64 3, .string { data := #[] }, .int .i64 0] 41) := ⟨_, rfl⟩
            obtain ⟨what, pl, hwh, hpl⟩ : ∃ what pl : Int, 3 = what ∧ 0 = pl := ⟨_, _, rfl, rfl⟩
            have hbx : WX.heap[xb]? = some (.cells #[.int .i64 what, .string { data := #[] }, .int .i64 pl] 41 (0, 0)) := by rw [hWX, hxb, ← hwh, ← hpl]; exact heap_alloc_new _ _
            rw [← hWX, ← hxb]
            rw [← hWX] at HX
            have HBX := Lib.hid hbx
            have x0 := cell_of hbx 0
            have x1 := cell_of hbx 1
            have x2 := cell_of hbx 2
            clear hWX hxb hbx
            obtain ⟨ao, lc, rfl, -⟩ := HX.out.l.shape
            have hL64 := HX.out.c.good.lenN
            obtain ⟨i0, hi0, hz0, hz1, hz2⟩ := info_parts Try.info9
            have CT : Hid (∀ q, Calls Try.prog 18 #[.pointer (some ⟨w1.heap.size, 0, none⟩), .int .i64 q] WX (Ret (.tuple #[.string (takeM cls L q), .int .i64 (takeE cls L q)]) (ChnTo WX w1.heap.size cls cap (takeL cls L q) F))) := Lib.hid fun q => take_any w1.heap.size cls cap L F q WX HX.out.c
            have y0 : (what == 0) = false := by simp; omega
            have y1 : (what == 1) = false := by simp; omega
            have y2 : (what == 2) = false := by simp; omega
            have y5 : (what == 5) = false := by simp; omega
            obtain ⟨q, hq⟩ : ∃ q, max 0 pl = q := ⟨_, rfl⟩
            have hq0 : q = 0 := by omega
            clear hwh hpl
            rcases take_cases cls L q with ⟨t1, t2⟩ | ⟨p, rfl, t1, t2, t3, t4, t5⟩
            · obtain ⟨xe, hxe⟩ : ∃ xe, takeE cls L q = xe := ⟨_, rfl⟩
              have HZ := Lib.hid (take_zero (hq0 ▸ t1))
              clear hq0
              have hx0 : (xe == 0) = false := by rw [hxe] at t1; simpa using t1
              have hx1 : (xe != 0) = true := by rw [hxe] at t1; simpa using t1
              have CP := CT.out q
              rw [hxe, t2] at CP
              have CQ := Lib.hid CP
              clear CP CT t1 t2 hxe
              go_wp2_with (first
                | (go_at_call 18; go_must (refine CQ.out.mono ?_; rintro e w3 ⟨rfl, hr⟩; have HS := Lib.hid (HX.out.chn hr); clear hr))
                | (go_at_call 10; go_must (refine (num_any _ _).mono ?_; rintro e w' ⟨rfl, rfl⟩)))
              obtain ⟨F3, HE⟩ := HS.out
              have hL0 : L.length = 0 := HZ.out
              exact ⟨⟨i + 1, by simp, by omega, L, F3, HE, fun _ => by omega⟩, by simp [intOf]; omega⟩
            · clear hq0
              have CP := CT.out (p : Int)
              rw [t2, t3] at CP
              obtain ⟨mm, hmm⟩ : ∃ mm, takeM cls L (p : Int) = mm := ⟨_, rfl⟩
              rw [hmm] at CP t1 t4
              have CQ := Lib.hid CP; have HT1 := Lib.hid t1; have HT4 := Lib.hid t4; have HT5 := Lib.hid t5
              have hpl := lt_of_some t1
              clear CP CT t1 t2 t3 t4 t5 hmm
              go_wp2_with (first
                | (go_at_call 18; go_must (refine CQ.out.mono ?_; rintro e w3 ⟨rfl, hr⟩; have HS := Lib.hid (HX.out.chn hr); clear hr))
                | (go_at_call 10; go_must (refine (num_any _ _).mono ?_; rintro e w' ⟨rfl, rfl⟩)))
              obtain ⟨F3, hs3⟩ := HS.out
              have HS5 := Lib.hid hs3
              obtain ⟨ao', lc', hv, hcs⟩ := hs3.l.shape
              cases hv
              obtain ⟨g, rfl, -⟩ := hcs p mm HT1.out
              have HCS : Hid (∀ k x, L[k]? = some x → w3.cell? ⟨g, k, none⟩ = some (.string x)) := Lib.hid fun k x hk => by
                obtain ⟨g', hg', e⟩ := hcs k x hk
                cases hg'; exact e
              have hroom := hs3.l.room
              clear hs3 hcs HS
              go_loopw [14] (fun s14 wx => ∃ k : Nat, s14 = .int .i64 k ∧ k ≤ p ∧ wx = w3) (fun s14 _ => p - (intOf s14).toNat)
              case atStart => exact ⟨0, rfl, Nat.zero_le _, rfl⟩
              case round =>
                obtain ⟨k, rfl, hk, rfl⟩ := hrel
                by_cases hkp : k < p
                · obtain ⟨y, hy⟩ : ∃ y, L[k]? = some y := ⟨_, List.getElem?_eq_getElem (by omega)⟩
                  have cy := HCS.out k y hy
                  have hyn : (y.toList == mm.toList) = false := str_ne (HT4.out k hkp y hy)
                  have hc2 : (cls == 2) = true := by have := HT5.out (by omega); simpa using this
                  have hkl : (k : Int) < (L.length : Int) := by omega
                  clear hy
                  go_wp2_with fail
                  exact ⟨⟨k + 1, by simp, hkp, trivial⟩, by simp [intOf]; omega⟩
                · obtain rfl : k = p := by omega
                  have cy := HCS.out k mm HT1.out
                  have hkl : (k : Int) < (L.length : Int) := by omega
                  have hkl2 : decide (L.length ≤ k) = false := by simp; omega
                  have hk1 : k ≤ lc := by omega
                  have hk2 : k + 1 ≤ lc := by omega
                  have hk3 : k + 1 ≤ L.length := by omega
                  have hwk : IntKind.i64.wrap ((k : Int) + 1) = (k : Int) + 1 := by simp [IntKind.wrap, show IntKind.i64.bits = 64 from rfl, show IntKind.i64.signed = true from rfl]; omega
                  have htn : ((k : Int) + 1).toNat = k + 1 := by omega
                  have hin2 : (k : Int) + 1 ≤ (L.length : Int) := by omega
                  have hin3 : (0 : Int) ≤ (k : Int) + 1 := by omega
                  go_wp2_with fail
                  have hkk : k + 1 ≤ L.length := by omega
                  by_cases hlast : k + 1 < L.length
                  · have hk4 : ¬ lc = k + 1 := by omega
                    have hH1 : Hid (∀ b, some (⟨g, 0, none⟩ : Addr) = some b → ∀ j u, ((L.take k).map Value.string)[j]? = some u → wr.drew.cell? (b.add j) = some u) := Lib.hid (take_cells HCS.out)
                    have hH2 : Hid (∀ j u, ((L.drop (k + 1)).map Value.string)[j]? = some u → wr.drew.cell? ((⟨g, k + 1, none⟩ : Addr).add j) = some u) := Lib.hid (drop_cells HCS.out)
                    go_region_law (first
                      | (refine step_append_grows rfl _ _ 22 rfl 9 i0 (.string { data := #[] }) 1 16 Try.underlying22 hi0 hz0 hz1 hz2 rfl (by decide) (some ⟨g, 0, none⟩) k k ((L.take k).map Value.string) ?_ (by simp) ?_ hH1.out ⟨g, k + 1, none⟩ (L.length - (k + 1)) (lc - (k + 1)) ((L.drop (k + 1)).map Value.string) ?_ ?_ hH2.out ?_ ?_ ?_ ?_ ?_; (focus (go_simp; done)); (focus (simp; omega)); (focus (go_simp; done)); (focus simp); (focus (intro u hu; obtain ⟨x, -, rfl⟩ := List.mem_map.1 hu; rfl)); (focus omega); (focus (unfold maxLen; omega)); (focus omega); intro v' wa hown' hgrow))
                    all_goals
                      have HE := Lib.hid (HS5.out.cut hlast hown' hgrow)
                      clear hown' hgrow hH1 hH2
                      go_wp2_with fail
                      exact ⟨⟨i + 1, by simp, by omega, L.eraseIdx k, F3, HE.out, fun h => by rw [List.length_eraseIdx_of_lt (by omega)]; have := hle (by omega); omega⟩, by first | omega | (simp [intOf]; omega)⟩
                  · have hz : L.length - (k + 1) = 0 := by omega
                    have hap := append_zero g k wr.drew i0 hi0
                    have HE := Lib.hid (HS5.out.trim (k := k) (by omega))
                    by_cases hlc : lc = k + 1
                    · subst hlc
                      have hk5 : (k : Int) ≤ (k : Int) + 1 := by omega
                      go_region_law (first | fail)
                      all_goals
                        go_wp2_with fail
                        exact ⟨⟨i + 1, by simp, by omega, L.eraseIdx k, F3, HE.out, fun h => by rw [List.length_eraseIdx_of_lt (by omega)]; have := hle (by omega); omega⟩, by first | omega | (simp [intOf]; omega)⟩
                    · go_region_law (first | fail)
                      all_goals
                        go_wp2_with fail
                        exact ⟨⟨i + 1, by simp, by omega, L.eraseIdx k, F3, HE.out, fun h => by rw [List.length_eraseIdx_of_lt (by omega)]; have := hle (by omega); omega⟩, by first | omega | (simp [intOf]; omega)⟩
        · have hni : ¬ (i : Int) < (n : Int) + 70 := by omega
          obtain ⟨L, F, hos, hle⟩ := HO.out
          obtain rfl : L = [] := List.length_eq_zero_iff.1 (by have := hle (by omega); omega)
          obtain ⟨ao, lc, rfl, -⟩ := hos.l.shape
          have CL : Hid (Calls Try.prog 19 #[.pointer (some ⟨w1.heap.size, 0, none⟩)] wr (Ret (.int .i64 0) (Frm [] wr))) := Lib.hid (len_any hos.c)
          have HO5 := Lib.hid hos.o
          clear hos hle HO
          go_wp2_with (first
            | (go_at_call 19; go_must (refine CL.out.mono ?_; rintro e w3 ⟨rfl, hf⟩; have HL := Lib.hid hf; clear hf))
            | (go_at_call 8; go_must (refine (known_any _).mono ?_; rintro e w9 ⟨rfl, hf⟩; have HK := Lib.hid hf; clear hf)))
          go_ret
          exact ⟨rfl, (HO5.out.trans HL.out).trans HK.out⟩
end Go.Proofs.Ythelfpenccpkeaa
