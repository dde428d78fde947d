/- Lists of parts of one's own; the reference's Split. -/
import Derived.Test.YtomjnbcaofebfaaSame
namespace Go.Proofs.Ytomjnbcaofebfaa
open Go.RowKit Go.BigFrame

def cells4 (p : Prt) (bv : Value) : List Value := [.int .i64 p.msg, .int .i64 p.num, .int .i64 p.cnt, bv]
def flatP (ps : List Prt) (bvs : List Value) : List Value := (ps.zip bvs).flatMap fun x => cells4 x.1 x.2
theorem flat4_at {α : Type} (f : α → List Value) (hf : ∀ x, (f x).length = 4) : ∀ (l : List α) (k j : Nat) (x : α), j < 4 → l[k]? = some x → (l.flatMap f)[k * 4 + j]? = (f x)[j]?
  | [], k, j, x, _, h => by simp at h
  | y :: l, 0, j, x, hj, h => by
    simp only [List.getElem?_cons_zero, Option.some.injEq] at h
    subst h
    rw [List.flatMap_cons, Nat.zero_mul, Nat.zero_add, List.getElem?_append_left (by rw [hf]; exact hj)]
  | y :: l, k + 1, j, x, hj, h => by
    rw [List.flatMap_cons, List.getElem?_append_right (by rw [hf]; omega), hf]
    have ih := flat4_at f hf l k j x hj (by simpa using h)
    rw [← ih]
    congr 1
    omega
theorem flatP_at {ps : List Prt} {bvs : List Value} {k j : Nat} {p : Prt} {bv : Value} (hj : j < 4) (hp : ps[k]? = some p) (hb : bvs[k]? = some bv) : (flatP ps bvs)[k * 4 + j]? = (cells4 p bv)[j]? :=
  flat4_at (fun x : Prt × Value => cells4 x.1 x.2) (fun _ => rfl) (ps.zip bvs) k j (p, bv) hj (by simp [List.zip, List.getElem?_zipWith, hp, hb])
theorem flatP_snoc {ps : List Prt} {bvs : List Value} (h : bvs.length = ps.length) (p : Prt) (bv : Value) : flatP (ps ++ [p]) (bvs ++ [bv]) = flatP ps bvs ++ cells4 p bv := by
  unfold flatP
  rw [List.zip_append h.symm, List.flatMap_append]
  simp
/-- a list of parts that is one's own, bytes too -/
def OwnP (B : Nat) (w : World) (v : Value) (ps : List Prt) : Prop :=
  ∃ bvs : List Value, bvs.length = ps.length ∧ w.ownsRow B 38 4 v ps.length (flatP ps bvs) ∧ ∀ (k : Nat) (p : Prt) (bv : Value), ps[k]? = some p → bvs[k]? = some bv → w.ownsRow B 5 1 bv p.b.length (p.b.map u8)
theorem OwnP.nil (B : Nat) (w : World) : OwnP B w (.slice none 0 0) [] := ⟨[], rfl, World.ownsRow_nil _ _ _ _, fun k p bv h => by simp at h⟩
theorem OwnP.frm {B : Nat} {F : List Nat} {w w' : World} {v : Value} {ps : List Prt} (h : OwnP B w v ps) (hf : Frm F w w') (hF : ∀ x ∈ F, x < B) : OwnP B w' v ps := by
  obtain ⟨bvs, h1, h2, h3⟩ := h
  exact ⟨bvs, h1, hf.owns h2 (fun k hk hx => by have := ownBlock_ge h2 hk; have := hF k hx; omega), fun k p bv hp hb => hf.owns (h3 k p bv hp hb) (fun j hj hx => by have := ownBlock_ge (h3 k p bv hp hb) hj; have := hF j hx; omega)⟩
theorem OwnP.parts {B : Nat} {w : World} {v : Value} {ps : List Prt} (h : OwnP B w v ps) : Prts B w v ps := by
  obtain ⟨bvs, h1, h2, h3⟩ := h
  rcases h2.2 with ⟨rfl, h4⟩ | ⟨g, cap, cur, rfl, hg, hh, h5, -, -, h6⟩
  · obtain rfl : ps = [] := List.length_eq_zero_iff.1 h4
    exact Prts.nil _ _
  · refine ⟨_, cap, rfl, h5, (fun a ha => by cases ha; exact hg), fun k p hk => ⟨g, 0, rfl, ?_⟩⟩
    have hl := lt_of_some hk
    obtain ⟨bv, hb⟩ : ∃ bv, bvs[k]? = some bv := ⟨_, List.getElem?_eq_getElem (by omega)⟩
    have hc : ∀ j, j < 4 → w.cell? ⟨g, k * 4 + j, none⟩ = (cells4 p bv)[j]? := fun j hj => by
      rw [World.ownsRow.cellAt h2 (k * 4 + j) (by omega), flatP_at hj hk hb]
    rw [Nat.zero_add]
    exact ⟨bv, hc 0 (by omega), hc 1 (by omega), hc 2 (by omega), hc 3 (by omega), Byts.of_own (h3 k p bv hk hb), fun j hj => ownBlock_ge (h3 k p bv hk hb) hj⟩
/-- append(list, part) -/
theorem wpList_app_part {ops : Array Oper} {rest : List Oper} {o : Oper} {a : Act} {Q : Exit → Act → World → Prop} {w : World} (hgd : o.guard = none) (s x : Operand) (ho : o.op = .call { callee := .builtin .append, args := #[s, x], argTypes := #[24, 24] })
    (B : Nat) (v : Value) (ps : List Prt) (hown : OwnP B w v ps) (g c : Nat) (p : Prt) (bv : Value) (hs : a.eval s = v) (hx : a.eval x = .slice (some ⟨g, 0, none⟩) 1 c) (hg : w.heap[g]? = some (.cells #[.int .i64 p.msg, .int .i64 p.num, .int .i64 p.cnt, bv] 38 (0, 0)))
    (hbv : w.ownsRow B 5 1 bv p.b.length (p.b.map u8)) (hn : ps.length ≤ 100000) (hB : B ≤ w.heap.size)
    (h : ∀ ao cp w', OwnP B w' (.slice ao (ps.length + 1) cp) (ps ++ [p]) → w.grownBy w' v.ownBlock → wpList Try.prog ops Q rest (a.put o.dst (.slice ao (ps.length + 1) cp)) w') : wpList Try.prog ops Q (o :: rest) a w := by
  obtain ⟨i0, hi0, hz0, hz1, hz2⟩ := info_parts Try.info38
  obtain ⟨bvs, h1, h2, h3⟩ := hown
  obtain ⟨c0, hc0⟩ := own_shape hbv
  obtain ⟨cp0, hbv0⟩ := hc0
  refine wpList_append_own_at w hgd s x 24 ho B 38 i0 (.agg #[.int .i64 0, .int .i64 0, .int .i64 0, .slice none 0 0]) 4 48 Try.underlying24 hi0 hz0 hz1 hz2 rfl (by decide) v ps.length (flatP ps bvs) hs h2 ⟨g, 0, none⟩ 1 c (cells4 p bv) hx rfl (fun j u hu => ?_) (fun u hu => ?_) (by unfold maxLen; omega) (by omega) hB ?_
  · rw [WideShapes.add_plain, Nat.zero_add, cell_of hg]
    have e : (#[.int .i64 p.msg, .int .i64 p.num, .int .i64 p.cnt, bv] : Array Value) = (cells4 p bv).toArray := rfl
    rw [e, List.getElem?_toArray]; exact hu
  · simp only [cells4, List.mem_cons, List.not_mem_nil, or_false] at hu
    rcases hu with rfl | rfl | rfl | rfl
    · rfl
    · rfl
    · rfl
    · rw [hbv0]; rfl
  · intro v' w' k1 k2 _ _
    obtain ⟨ao, cp, rfl⟩ := own_shape k1
    have hne : ∀ {u : Value} {b : List UInt8}, w.ownsRow B 5 1 u b.length (b.map u8) → w'.ownsRow B 5 1 u b.length (b.map u8) := fun {u b} hu =>
      (((Frm.refl v.ownBlock.toList w)).grown k2 (fun k hk => .inl (by simp [hk]))).owns hu (fun k hk hx => by
        simp only [Option.mem_toList] at hx
        obtain ⟨c1, hc1⟩ := ownBlock_type hu hk
        obtain ⟨c2, hc2⟩ := ownBlock_type h2 hx
        rw [hc1] at hc2; cases hc2)
    refine h ao cp w' ⟨bvs ++ [bv], by simp [h1], by rw [flatP_snoc h1, List.length_append]; exact k1, fun k q u hq hu => ?_⟩ k2
    rcases Nat.lt_or_ge k ps.length with hk | hk
    · rw [List.getElem?_append_left hk] at hq
      rw [List.getElem?_append_left (by omega)] at hu
      exact hne (h3 k q u hq hu)
    · have hk2 : k = ps.length := by have := lt_of_some hq; rw [List.length_append, List.length_cons, List.length_nil] at this; omega
      subst hk2
      rw [List.getElem?_append_right (by omega)] at hq
      rw [List.getElem?_append_right (by omega), h1] at hu
      simp at hq hu
      subst hq hu
      exact hne hbv
/-- behind i rounds -/
structure RS (w : World) (m : Int) (b : List UInt8) (s n : Nat) (v : Value) (i : Nat) (wr : World) : Prop where
  fr : Frm [] w wr
  ow : OwnP w.heap.size wr v ((splitL m b s n).take i)
theorem OwnP.ge {B : Nat} {w : World} {v : Value} {ps : List Prt} (h : OwnP B w v ps) : ∀ k, v.ownBlock = some k → B ≤ k := by
  obtain ⟨bvs, h1, h2, -⟩ := h
  exact fun k hk => ownBlock_ge h2 hk
theorem OwnP.shape {B : Nat} {w : World} {v : Value} {ps : List Prt} (h : OwnP B w v ps) : ∃ ao cp, v = .slice ao ps.length cp := by
  obtain ⟨bvs, h1, h2, -⟩ := h
  exact own_shape h2
theorem splitL_length (m : Int) (b : List UInt8) (s n : Nat) : (splitL m b s n).length = n := by simp [splitL]
theorem splitL_take {m : Int} {b : List UInt8} {s n i : Nat} (h : i < n) : (splitL m b s n).take (i + 1) = (splitL m b s n).take i ++ [⟨m, i, n, chunk b s i⟩] := by
  have hl : i < (splitL m b s n).length := by rw [splitL_length]; exact h
  rw [List.take_succ_eq_append_getElem hl]
  have h2 := (splitL_at (List.getElem?_eq_getElem hl)).2
  rw [h2]
theorem RS.shape {w wr : World} {m : Int} {b : List UInt8} {s n i : Nat} {v : Value} (h : RS w m b s n v i wr) (hi : i ≤ n) : ∃ ao cp, v = .slice ao i cp := by
  obtain ⟨ao, cp, e⟩ := h.ow.shape
  rw [List.length_take, splitL_length, Nat.min_eq_left hi] at e
  exact ⟨ao, cp, e⟩
theorem RS.own {w wr w2 : World} {m : Int} {b : List UInt8} {s n i : Nat} {v : Value} {o : Obj} (h : RS w m b s n v i wr) (hf : Frm [] wr w2) : OwnP w.heap.size (w2.alloc o) v ((splitL m b s n).take i) := h.ow.frm (hf.alloc o) (by simp)
set_option maxHeartbeats 1000000 in
set_option maxRecDepth 100000 in
theorem refSplit_bad (m size : Int) (b : List UInt8) (bv : Value) (w : World) (h : Byts w bv b) (hn : b.length ≤ 3000) (he : splitE m size b.length ≠ 0) : Calls Try.prog 10 #[.int .i64 m, bv, .int .i64 size] w (RetV (SplitTo w m b size)) := by
  obtain ⟨ao, cap, rfl, hcap⟩ := h.len
  have E : ∀ e : Int, splitE m size b.length = e → e ≠ 0 → SplitTo w m b size (.tuple #[.slice none 0 0, .int .i64 e]) w := fun e he h0 => ⟨_, by rw [he], by rw [if_neg (by rw [he]; exact h0)]; exact Prts.nil _ _, Frm.refl _ _⟩
  by_cases hw : wi m 0 65535 = true ∧ wi size 1 1024 = true
  · obtain ⟨h1, h2⟩ := hw
    obtain ⟨hs1, hs2⟩ := wi_iff.1 h2
    obtain ⟨hm1, hm2⟩ := wi_iff.1 h1
    obtain ⟨s, rfl⟩ := Int.eq_ofNat_of_zero_le (show 0 ≤ size by omega)
    have h255 : 255 < nparts b.length s := by
      unfold splitE at he
      simp only [h1, h2, Bool.and_self, if_true, Int.toNat_natCast] at he
      by_cases h : 255 < nparts b.length s
      · exact h
      · rw [if_neg h] at he; exact absurd rfl he
    have HE := Lib.hid (E 5 (by unfold splitE; simp [h1, h2, h255]) (by decide))
    clear E h he h1 h2
    generalize b.length = len at *
    have hq : 255 < ((len : Int) + (s : Int) - 1) / (s : Int) := by
      have := nparts_int (len := len) (s := s) (by omega)
      omega
    have k1 : decide (m < 0) = false := by simp; omega
    have k2 : decide (65535 < m) = false := by simp; omega
    have k3 : decide ((s : Int) < 1) = false := by simp; omega
    have k4 : decide (1024 < (s : Int)) = false := by simp; omega
    have k5 : (((len : Int) + (s : Int) - 1) / (s : Int) == 0) = false := by rw [beq_eq_false_iff_ne]; omega
    go_enter Try.func10, Try.ntmps10
    go_wp2
    go_ret2
    exact ⟨_, rfl, HE.out⟩
  · have HE := Lib.hid (E 2 (by unfold splitE; rw [if_neg]; simpa using hw) (by decide))
    have hcase : m < 0 ∨ (0 ≤ m ∧ 65535 < m) ∨ (0 ≤ m ∧ m ≤ 65535 ∧ size < 1) ∨ (0 ≤ m ∧ m ≤ 65535 ∧ 1 ≤ size ∧ 1024 < size) := by
      rw [wi_iff, wi_iff] at hw
      omega
    clear E h he hw
    rcases hcase with k1 | ⟨k0, k1⟩ | ⟨k0, k2, k1⟩ | ⟨k0, k2, k3, k1⟩
    · go_enter Try.func10, Try.ntmps10
      go_wp2
      go_ret2
      exact ⟨_, rfl, HE.out⟩
    · go_enter Try.func10, Try.ntmps10
      go_wp2
      go_ret2
      exact ⟨_, rfl, HE.out⟩
    · go_enter Try.func10, Try.ntmps10
      go_wp2
      go_ret2
      exact ⟨_, rfl, HE.out⟩
    · go_enter Try.func10, Try.ntmps10
      go_wp2
      go_ret2
      exact ⟨_, rfl, HE.out⟩
set_option maxHeartbeats 1000000 in
set_option maxRecDepth 100000 in
theorem refSplit_good (m size : Int) (b : List UInt8) (bv : Value) (w : World) (h : Byts w bv b) (hn : b.length ≤ 3000) (he : splitE m size b.length = 0) : Calls Try.prog 10 #[.int .i64 m, bv, .int .i64 size] w (RetV (SplitTo w m b size)) := by
  obtain ⟨ao, cap, rfl, hcap⟩ := h.len
  have h1 : wi m 0 65535 = true := by
    cases h1 : wi m 0 65535 with
    | true => rfl
    | false => unfold splitE at he; simp [h1] at he
  have h2 : wi size 1 1024 = true := by
    cases h2 : wi size 1 1024 with
    | true => rfl
    | false => unfold splitE at he; simp [h2] at he
  obtain ⟨hs1, hs2⟩ := wi_iff.1 h2
  obtain ⟨hm1, hm2⟩ := wi_iff.1 h1
  obtain ⟨s, rfl⟩ := Int.eq_ofNat_of_zero_le (show 0 ≤ size by omega)
  have h255 : nparts b.length s ≤ 255 := by
    unfold splitE at he
    simp only [h1, h2, Bool.and_self, if_true, Int.toNat_natCast] at he
    by_cases h : 255 < nparts b.length s
    · rw [if_pos h] at he; cases he
    · omega
  have hmx := nparts_int (len := b.length) (s := s) (by omega)
  have HCL := Lib.hid (fun i (hi : i < nparts b.length s) => chunk_le (len := b.length) (s := s) (by omega) hi)
  have HE := Lib.hid he
  have HB := Lib.hid h
  have hp := nparts_pos b.length s
  obtain ⟨n, hnn⟩ : ∃ n, nparts b.length s = n := ⟨_, rfl⟩
  have HN := Lib.hid hnn
  rw [hnn] at h255 hmx HCL hp
  have k1 : decide (m < 0) = false := by simp; omega
  have k2 : decide (65535 < m) = false := by simp; omega
  have k3 : decide ((s : Int) < 1) = false := by simp; omega
  have k4 : decide (1024 < (s : Int)) = false := by simp; omega
  have k6 : decide (255 < (n : Int)) = false := by simp; omega
  obtain ⟨r, hr⟩ : ∃ r, ((b.length : Int) + (s : Int) - 1) / (s : Int) = r := ⟨_, rfl⟩
  have HS0 : Hid (∀ W, Frm [] w W → RS w m b s n (.slice none 0 0) 0 W) := Lib.hid fun W hf => ⟨hf, by rw [List.take_zero]; exact OwnP.nil _ _⟩
  have HNZ : Hid (r ≠ 0 → (n : Int) = r) := Lib.hid (fun h0 => by have : 0 ≤ r := (by rw [← hr]; exact Int.ediv_nonneg (by omega) (by omega)); rw [hr] at hmx; omega)
  have HZN : Hid (r = 0 → n = 1) := Lib.hid (fun h0 => by rw [hr] at hmx; omega)
  have hr0 : 0 ≤ r := by rw [← hr]; exact Int.ediv_nonneg (by omega) (by omega)
  clear h he hnn h1 h2 hmx
  go_enter Try.func10, Try.ntmps10
  go_upto_if 34 with fail
  go_cut [8] from 26 to 36 (fun s8 w' => s8 = .int .i64 n ∧ w = w')
  case first =>
    by_cases h0 : r = 0
    · have hb : (r == 0) = true := by simpa using h0
      have hn1 := HZN.out h0
      subst hn1
      go_wp2
      go_meet
      exact ⟨rfl, rfl⟩
    · have hb : (r == 0) = false := by simpa using h0
      have hn1 := HNZ.out h0
      go_wp2
      go_meet
      exact ⟨by rw [hn1, hr], rfl⟩
  case rest =>
    obtain ⟨rfl, rfl⟩ := hcut
    go_wp2
    go_loopw [9, 10] (fun s9 s10 wr => ∃ i : Nat, s10 = .int .i64 i ∧ i ≤ n ∧ RS w m b s n s9 i wr) (fun _ s10 _ => n - (intOf s10).toNat)
    case atStart => exact ⟨0, rfl, Nat.zero_le _, HS0.out _ (Frm.refl _ _)⟩
    case round =>
      clear HS0
      obtain ⟨i, rfl, hi, hsi⟩ := hrel
      have HI := Lib.hid hsi
      obtain ⟨ao1, cp1, rfl⟩ := hsi.shape hi
      have HI := Lib.hid hsi
      clear hsi
      by_cases hlt : i < n
      · have hlt' : (i : Int) < (n : Int) := by omega
        have hcl := HCL.out i hlt
        obtain ⟨p0, hp0⟩ : ∃ p, i * s = p := ⟨_, rfl⟩
        obtain ⟨p1, hp1⟩ : ∃ p, (i + 1) * s = p := ⟨_, rfl⟩
        have hms : ((i : Int) + 1) * (s : Int) = (p1 : Int) := by rw [← hp1]; push_cast; rfl
        have hms2 : (i : Int) * (s : Int) = (p0 : Int) := by rw [← hp0]; push_cast; rfl
        rw [hp0] at hcl
        have hsum : p1 = p0 + s := by rw [← hp1, ← hp0, Nat.add_mul]; omega
        obtain ⟨q, hq⟩ : ∃ q, min b.length p1 = q := ⟨_, rfl⟩
        have hmn : min (b.length : Int) (p1 : Int) = (q : Int) := by omega
        have hq1 : p0 ≤ q := by omega
        have hq2 : q ≤ b.length := by omega
        have hc3 := HB.out.cut2 (lo := (p0 : Int)) (hi := (q : Int)) rfl rfl hq1 hq2
        have hlL : ((b.take q).drop p0).length ≤ 3000 := by simp; omega
        obtain ⟨L, hL⟩ : ∃ L, (b.take q).drop p0 = L := ⟨_, rfl⟩
        have HCH : Hid (chunk b s i = L) := Lib.hid (by rw [chunk, hp0, hp1, hq, hL])
        rw [hL] at hc3 hlL
        obtain ⟨v', hcut, hbv, ⟨ao', cap', rfl⟩, -⟩ := hc3
        have HBV := Lib.hid hbv
        have hb1 : p1 ≤ 5000 := by omega
        have hb0 : p0 ≤ 3000 := by omega
        have HSZ := Lib.hid HI.out.fr.size
        clear hbv hp0 hp1 hq hsum hL
        go_wp2_with (first
          | (at_builtin; refine wpList_app_bytes (w := wr.alloc (.cells #[] 5)) rfl (.tmp 53) (.tmp 59) rfl wr.heap.size _ _ rfl rfl [] L ?_ ?_ ?_ ?_ ?_; (exact own_lit [] (Nat.le_refl _) (by simp)); (exact HBV.out.frm0 (HI.out.fr.alloc _)); (simp; omega); (simp); intro ao2 cp2 w2 hown hgrow; rw [List.nil_append] at hown; have HO := Lib.hid hown; have HF2 : Hid (Frm [] wr w2) := Lib.hid (((Frm.refl [] wr).alloc _).grown hgrow (fun k hk => by cases hk; exact .inr (Nat.le_refl _))); clear hown hgrow)
          | (at_builtin; refine wpList_app_part rfl (.tmp 49) (.tmp 62) rfl w.heap.size (.slice ao1 i cp1) ((splitL m b s n).take i) ?_ w2.heap.size 1 (Prt.mk m (i : Int) (n : Int) L) (.slice ao2 L.length cp2) ?_ ?_ ?_ ?_ ?_ ?_ ?_; go_must ((exact HI.out.own HF2.out); (focus (go_simp; done)); (focus (go_simp; done)); (exact heap_alloc_new _ _); (exact own_low (Frm.owns ((Frm.refl [] w2).alloc _) HO.out (by simp)) HSZ.out); (simp; omega); (have h1 := HSZ.out; have h2 := HF2.out.size; simp; omega); intro ao3 cp3 w3 hop hgrow; have HP := Lib.hid hop; have HG := Lib.hid hgrow; clear hop hgrow)))
        have hge := HI.out.ow.ge
        have hop := HP.out
        rw [List.length_take] at hop
        exact ⟨⟨i + 1, by simp, hlt, ((HI.out.fr.trans HF2.out).alloc _).grown HG.out (fun k hk => .inr (hge k hk)), by rw [splitL_take hlt, HCH.out]; exact hop⟩, by simp [intOf]; omega⟩
      · obtain rfl : i = n := by omega
        have hge : ¬ (i : Int) < (i : Int) := by omega
        go_wp2
        go_ret2
        refine ⟨_, rfl, .slice ao1 i cp1, by rw [HE.out]; rfl, ?_, HI.out.fr⟩
        rw [if_pos HE.out, Int.toNat_natCast, HN.out]
        have hop := HI.out.ow.parts
        rwa [List.take_of_length_le (by rw [splitL_length]; exact Nat.le_refl _)] at hop
theorem split_any (m size : Int) (b : List UInt8) (bv : Value) (w : World) (h : Byts w bv b) (hn : b.length ≤ 3000) : Calls Try.prog 9 #[.int .i64 m, bv, .int .i64 size] w (RetV (SplitTo w m b size)) := by
  by_cases he : splitE m size b.length = 0
  · exact split_good m size b bv w h hn he
  · exact split_bad m size b bv w h hn he
theorem refSplit_any (m size : Int) (b : List UInt8) (bv : Value) (w : World) (h : Byts w bv b) (hn : b.length ≤ 3000) : Calls Try.prog 10 #[.int .i64 m, bv, .int .i64 size] w (RetV (SplitTo w m b size)) := by
  by_cases he : splitE m size b.length = 0
  · exact refSplit_good m size b bv w h hn he
  · exact refSplit_bad m size b bv w h hn he
end Go.Proofs.Ytomjnbcaofebfaa
