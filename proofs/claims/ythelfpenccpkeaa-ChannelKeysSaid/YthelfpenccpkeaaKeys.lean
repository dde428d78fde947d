/- ChannelKeys: the walk. -/
import Derived.Test.YthelfpenccpkeaaKeysA
import Derived.Test.YthelfpenccpkeaaLTurn
import Derived.Test.YthelfpenccpkeaaKeysB
import Derived.Deep.DeepCutAuto
namespace Go.Proofs.Ythelfpenccpkeaa
open Go.RowKit Go.BigFrame

attribute [local go_sem] Oper.semAt_some
set_option maxHeartbeats 4000000 in
set_option maxRecDepth 100000 in
theorem keys_long (cls cap by_ : Int) (ao ao2 : Option Addr) (l more : List ByteArray) (cp cp2 : Nat) (w : World) (h : 20 < l.length ∨ 40 < more.length) :
    Calls Try.prog 3 #[.int .i64 cls, .int .i64 cap, .slice ao l.length cp, .int .u8 by_, .slice ao2 more.length cp2] w (Ret (.bool true) (Frm [] w)) := by
  by_cases h20 : 20 < l.length
  · have k : (20 : Int) < l.length := by omega
    clear h h20
    refine calls_of_marks Try.func3 rfl ?_
    simp only [Try.ntmps3, List.size_toArray, List.length_cons, List.length_nil, Nat.reduceAdd, Nat.reduceSub, Array.replicate_succ, Array.replicate_zero, List.push_toArray, List.append_toArray, List.nil_append, List.cons_append]
    go_wp2_with (go_at_call 8; go_must (refine (known_any _).mono ?_; rintro e w9 ⟨rfl, hf⟩; have HZ := Lib.hid hf; clear hf))
    exact leaves_none ⟨.bool true, by simp [results, Try.results3, go_sem], rfl, HZ.out⟩
  · have k : decide ((20 : Int) < l.length) = false := by simp; omega
    have k2 : (40 : Int) < more.length := by omega
    clear h h20
    refine calls_of_marks Try.func3 rfl ?_
    simp only [Try.ntmps3, List.size_toArray, List.length_cons, List.length_nil, Nat.reduceAdd, Nat.reduceSub, Array.replicate_succ, Array.replicate_zero, List.push_toArray, List.append_toArray, List.nil_append, List.cons_append]
    go_wp2_with (go_at_call 8; go_must (refine (known_any _).mono ?_; rintro e w9 ⟨rfl, hf⟩; have HZ := Lib.hid hf; clear hf))
    exact leaves_none ⟨.bool true, by simp [results, Try.results3, go_sem], rfl, HZ.out⟩
set_option maxHeartbeats 4000000 in
set_option maxRecDepth 100000 in
theorem keys_bad (cls cap by_ : Int) (ao ao2 : Option Addr) (l more : List ByteArray) (cp cp2 : Nat) (w : World) (h20 : l.length ≤ 20) (h40 : more.length ≤ 40) (hc : okC cls cap = false ∨ (okC cls cap = true ∧ cap < l.length)) :
    Calls Try.prog 3 #[.int .i64 cls, .int .i64 cap, .slice ao l.length cp, .int .u8 by_, .slice ao2 more.length cp2] w (Ret (.bool true) (Frm [] w)) := by
  have k : decide ((20 : Int) < l.length) = false := by simp; omega
  have k2 : decide ((40 : Int) < more.length) = false := by simp; omega
  rcases hc with hc | ⟨hc, hlt⟩
  · have CN := Lib.hid (fun w => new_bad cls cap w hc)
    clear hc h20 h40
    refine calls_of_marks Try.func3 rfl ?_
    simp only [Try.ntmps3, List.size_toArray, List.length_cons, List.length_nil, Nat.reduceAdd, Nat.reduceSub, Array.replicate_succ, Array.replicate_zero, List.push_toArray, List.append_toArray, List.nil_append, List.cons_append]
    go_wp2_with (first
      | (go_at_call 8; go_must (refine (known_any _).mono ?_; rintro e w9 ⟨rfl, hf⟩; have HZ := Lib.hid hf; clear hf))
      | (go_at_call 9; go_must (refine (CN.out _).mono ?_; rintro e w' ⟨rfl, rfl⟩))
      | (go_at_call 10; go_must (refine (num_any _ _).mono ?_; rintro e w' ⟨rfl, rfl⟩)))
    exact leaves_none ⟨.bool true, by simp [results, Try.results3, go_sem], rfl, HZ.out⟩
  · have CN := Lib.hid (fun w => new_ok cls cap w hc)
    have CN1 := Lib.hid (new_ok cls cap w hc)
    clear hc h20 h40
    refine calls_of_marks Try.func3 rfl ?_
    simp only [Try.ntmps3, List.size_toArray, List.length_cons, List.length_nil, Nat.reduceAdd, Nat.reduceSub, Array.replicate_succ, Array.replicate_zero, List.push_toArray, List.append_toArray, List.nil_append, List.cons_append]
    go_wp2_with (first
      | (go_at_call 8; go_must (refine (known_any _).mono ?_; rintro e w9 ⟨rfl, hf⟩; have HZ := Lib.hid hf; clear hf))
      | (go_at_call 9; go_must (first | (refine CN1.out.mono ?_; clear CN1; rintro e w1 ⟨rfl, hr⟩; have HN1 := Lib.hid hr; clear hr) | (refine (CN.out _).mono ?_; rintro e w2 ⟨rfl, hr⟩; have HN2 := Lib.hid hr; clear hr)))
      | (go_at_call 10; go_must (refine (num_any _ _).mono ?_; rintro e w' ⟨rfl, rfl⟩)))
    exact leaves_none ⟨.bool true, by simp [results, Try.results3, go_sem], rfl, (HN1.out.1.trans HN2.out.1).trans HZ.out⟩
theorem pf_take {cap : Int} {l : List ByteArray} {i : Nat} {x : ByteArray} (h : l[i]? = some x) : pf cap (l.take (i + 1)) = putL cap (pf cap (l.take i)) x := by
  obtain ⟨hi, rfl⟩ := List.getElem?_eq_some_iff.1 h
  rw [List.take_succ_eq_append_getElem hi, pf_snoc]
theorem rot_at {l : List ByteArray} {i b : Nat} {y : ByteArray} (hi : i < l.length) (h : l[(i + b) % l.length]? = some y) : (rot l b)[i]? = some y := by
  rw [rot, List.getElem?_map, List.getElem?_range hi]
  simp only [Option.map_some]
  rw [List.getD_eq_getElem?_getD, h]; rfl
set_option maxHeartbeats 4000000 in
set_option maxRecDepth 100000 in
theorem keys_main (cls cap by_ : Int) (ao ao2 : Option Addr) (l more : List ByteArray) (cp cp2 : Nat) (w : World) (hl : Txts w ao l) (hm : Txts w ao2 more) (hb0 : 0 ≤ by_) (hb1 : by_ ≤ 255) (h20 : l.length ≤ 20) (h40 : more.length ≤ 40) (hc : okC cls cap = true) (hlt : (l.length : Int) ≤ cap) :
    Calls Try.prog 3 #[.int .i64 cls, .int .i64 cap, .slice ao l.length cp, .int .u8 by_, .slice ao2 more.length cp2] w (Ret (.bool true) (Frm [] w)) := by
  have HL := Lib.hid hl; have HM := Lib.hid hm
  have k : decide ((20 : Int) < l.length) = false := by simp; omega
  have k2 : decide ((40 : Int) < more.length) = false := by simp; omega
  have k3 : decide (cap < (l.length : Int)) = false := by simp; omega
  have CN := Lib.hid (fun w => new_ok cls cap w hc)
  have CN1 := Lib.hid (new_ok cls cap w hc)
  have H20 := Lib.hid h20; have H40 := Lib.hid h40; have HLT := Lib.hid hlt
  clear hl hm hc h20 h40 hlt
  refine calls_of_marks Try.func3 rfl ?_
  simp only [Try.ntmps3, List.size_toArray, List.length_cons, List.length_nil, Nat.reduceAdd, Nat.reduceSub, Array.replicate_succ, Array.replicate_zero, List.push_toArray, List.append_toArray, List.nil_append, List.cons_append]
  go_wp2_with (first
    | (go_at_call 8; go_must (refine (known_any _).mono ?_; rintro e w9 ⟨rfl, hf⟩; have HZ := Lib.hid hf; clear hf))
    | (go_at_call 9; go_must (first | (refine CN1.out.mono ?_; clear CN1; rintro e w1 ⟨rfl, hr⟩; have HN1 := Lib.hid hr; clear hr) | (refine (CN.out _).mono ?_; rintro e w2 ⟨rfl, hr⟩; have HN2 := Lib.hid hr; clear hr)))
    | (go_at_call 10; go_must (refine (num_any _ _).mono ?_; rintro e w' ⟨rfl, rfl⟩)))
  obtain ⟨bn, rfl⟩ := Int.eq_ofNat_of_zero_le hb0
  have hbn : bn ≤ 255 := by omega
  have HP0 : Hid (∃ FA FB, KP w w.heap.size w1.heap.size cls cap (pf cap (l.take 0)) (pf cap ((rot l bn).take 0)) FA FB w2) := Lib.hid ⟨_, _, KP.mk0 HN1.out HN2.out⟩
  have HRL : Hid ((rot l bn).length = l.length) := Lib.hid (by simp [rot])
  clear HN1 HN2 CN k k2 k3 hb0 hb1
  go_loopw [15] (fun s15 wr => ∃ i : Nat, s15 = .int .i64 i ∧ i ≤ l.length ∧ (∀ j, j < i → ∀ x, l[j]? = some x → x.size ≤ 32) ∧ ∃ FA FB, KP w w.heap.size w1.heap.size cls cap (pf cap (l.take i)) (pf cap ((rot l bn).take i)) FA FB wr) (fun s15 _ => l.length - (intOf s15).toNat)
  case atStart => exact ⟨0, rfl, Nat.zero_le _, fun j hj => by omega, HP0.out⟩
  case round =>
    clear HP0
    obtain ⟨i, rfl, hi, hsz, FA, FB, hkp⟩ := hrel
    have HS := Lib.hid hsz; have HK := Lib.hid hkp
    clear hsz hkp
    have h20 := H20.out
    by_cases hlt : i < l.length
    · have hlt' : (i : Int) < (l.length : Int) := by omega
      obtain ⟨x, hx⟩ : ∃ x, l[i]? = some x := ⟨_, List.getElem?_eq_getElem hlt⟩
      have hml : (i + bn) % l.length < l.length := Nat.mod_lt _ (by omega)
      obtain ⟨y, hy⟩ : ∃ y, l[(i + bn) % l.length]? = some y := ⟨_, List.getElem?_eq_getElem hml⟩
      obtain ⟨b, o, rfl, cx0⟩ := HL.out i x hx
      obtain ⟨b', o', hbo, cy0⟩ := HL.out _ y hy
      cases hbo
      have cx := HK.out.o.keep cx0
      have cy := HK.out.o.keep cy0
      have HX := Lib.hid hx; have HY := Lib.hid hy; have HCY := Lib.hid cy0
      have HE1 : Hid (pf cap (l.take (i + 1)) = putL cap (pf cap (l.take i)) x) := Lib.hid (pf_take hx)
      have HE2 : Hid (pf cap ((rot l bn).take (i + 1)) = putL cap (pf cap ((rot l bn).take i)) y) := Lib.hid (pf_take (rot_at hlt hy))
      clear hx hy cx0 cy0
      by_cases hbig : 32 < x.size
      · have hbig' : (32 : Int) < (x.size : Int) := by omega
        go_wp2_with (first
          | (go_at_call 8; go_must (refine (known_any _).mono ?_; rintro e w9 ⟨rfl, hf⟩; have HZ := Lib.hid hf; clear hf)))
        exact leaves_none ⟨.bool true, by simp [results, Try.results3, go_sem], rfl, HK.out.o.trans HZ.out⟩
      · have hbig' : ¬ (32 : Int) < (x.size : Int) := by omega
        have CA := Lib.hid (put_all w.heap.size cls cap _ FA x wr HK.out.a)
        have hwk : IntKind.i64.wrap ((i : Int) + (bn : Int)) = (i : Int) + (bn : Int) := by simp [IntKind.wrap, show IntKind.i64.bits = 64 from rfl, show IntKind.i64.signed = true from rfl]; omega
        have hn0 : ((l.length : Int) == 0) = false := by rw [beq_eq_false_iff_ne]; omega
        have hm1 : ((i : Int) + (bn : Int)) % (l.length : Int) = (((i + bn) % l.length : Nat) : Int) := by push_cast; rfl
        have hm0 : (((i + bn) % l.length : Nat) : Int) < (l.length : Int) := by omega
        have hm2 : ((i : Int) + (bn : Int)) % (l.length : Int) < (l.length : Int) := by rw [hm1]; exact hm0
        have hm3 : 0 ≤ ((i : Int) + (bn : Int)) % (l.length : Int) := by rw [hm1]; omega
        have hm4 : (((i : Int) + (bn : Int)) % (l.length : Int)).toNat = (i + bn) % l.length := by rw [hm1]; exact Int.toNat_natCast _
        clear hm0 hm1
        clear cy
        go_wp2_with (first
          | (go_at_call 11; go_must (first
              | (refine CA.out.mono ?_; clear CA; rintro e w3 ⟨rfl, ht⟩; obtain ⟨FA2, hk3⟩ := HK.out.sa ht; have HK3 := Lib.hid hk3; have cy := hk3.o.keep HCY.out; clear ht hk3)
              | (refine (put_all w1.heap.size cls cap _ FB y w3 HK3.out.b).mono ?_; rintro e w4 ⟨rfl, ht⟩; obtain ⟨FB2, hk4⟩ := HK3.out.sb ht; have HK4 := Lib.hid hk4; clear ht hk4))))
        exact ⟨⟨i + 1, by simp, by omega, fun j hj z hz => by
          by_cases e : j < i
          · exact HS.out j e z hz
          · have e2 : j = i := by omega
            subst e2
            have h1 := HX.out
            rw [hz] at h1; cases h1
            omega, FA2, FB2, by rw [HE1.out, HE2.out]; exact HK4.out⟩, by simp [intOf]; omega⟩
    · obtain rfl : i = l.length := by omega
      have hlt' : ¬ (l.length : Int) < (l.length : Int) := by omega
      have hsz : ∀ m ∈ l, m.size ≤ 32 := fun m hm => by
        obtain ⟨j, hj, e⟩ := List.getElem_of_mem hm
        exact HS.out j hj m (by rw [List.getElem?_eq_getElem hj, e])
      have hpp := pf_perm (b := bn) hsz HLT.out
      have hk0 := HK.out
      rw [List.take_length, List.take_of_length_le (by rw [HRL.out]; exact Nat.le_refl _)] at hk0
      obtain ⟨A, hA⟩ : ∃ A, pf cap l = A := ⟨_, rfl⟩
      obtain ⟨B, hB⟩ : ∃ B, pf cap (rot l bn) = B := ⟨_, rfl⟩
      rw [hA, hB] at hk0 hpp
      have HK0 := Lib.hid hk0; have HPP := Lib.hid hpp
      have CKA := Lib.hid (fun W (hf : Frm [] wr W) => key_any w.heap.size cls cap A FA W (hk0.frm hf).a)
      have CKB := Lib.hid (fun W (hf : Frm [] wr W) => key_any w1.heap.size cls cap B FB W (hk0.frm hf).b)
      have HRL2 : Hid (keyB (keyL cls A) = keyB (keyL cls B) → Rl cls A B) := Lib.hid (keys_rl (fun x hx => (hk0.a.good.sz x hx).2) (fun x hx => (hk0.b.good.sz x hx).2))
      clear hA hB hk0 hpp hsz HS HK HRL HL
      by_cases hkk : keyB (keyL cls A) = keyB (keyL cls B)
      · have HRL := Lib.hid (HRL2.out hkk)
        obtain ⟨ka, hka⟩ : ∃ ka, keyB (keyL cls A) = ka := ⟨_, rfl⟩
        rw [← hkk] at CKB
        rw [hka] at CKA CKB
        clear hkk hka HRL2
        have HL2 : Hid (2 = 2) := Lib.hid rfl
        have KA1 := CKA; have KB1 := CKB; have KA2 := CKA; have KB2 := CKB
        clear CKA CKB
        go_upto_region 16 with (fail)
        go_cut [100] from 92 to 99 (fun s100 w' => s100 = .bool false ∧ Frm [] wr w')
        case first =>
          have FX := Lib.hid (Frm.refl [] wr)
          by_cases h2 : cls = 2
          · have b2 : (cls == 2) = true := by simpa using h2
            have H2 := Lib.hid h2
            clear h2
            go_wp2_with (first
              | (go_at_call 12; go_must (first
                  | (refine (KA1.out _ FX.out).mono ?_; clear KA1; rintro e w5 ⟨rfl, hf⟩; have FX := Lib.hid (FX.out.trans hf); clear hf)
                  | (refine (KB1.out _ FX.out).mono ?_; clear KB1; rintro e w5 ⟨rfl, hf⟩; have FX := Lib.hid (FX.out.trans hf); clear hf))))
            go_meet
            exact ⟨rfl, FX.out⟩
          · have b2 : (cls == 2) = false := by simpa using h2
            have H2 := Lib.hid h2
            clear h2
            go_wp2
            go_meet
            exact ⟨rfl, FX.out⟩
        case rest =>
          obtain ⟨rfl, hcf⟩ := hcut
          have FX := Lib.hid hcf
          clear hcf
          go_wp2_with (first
            | (go_at_call 12; go_must (first
                | (refine (KA2.out _ FX.out).mono ?_; clear KA2; rintro e w5 ⟨rfl, hf⟩; have FX := Lib.hid (FX.out.trans hf); clear hf)
                | (refine (KB2.out _ FX.out).mono ?_; clear KB2; rintro e w5 ⟨rfl, hf⟩; have FX := Lib.hid (FX.out.trans hf); clear hf))))
          have HKL : Hid (KL w w1.heap.size cls cap more.length (.int .i64 ((0 : Nat) : Int)) [] w5) := Lib.hid ⟨0, A, B, FA, FB, rfl, Nat.zero_le _, HRL.out, HK0.out.frm FX.out, List.nodup_nil, fun D hD => by simp at hD⟩
          refine wp_loop (fun a' w' => ∃ ds, ∃ y10 y16 y17 y18 y19 y21 y22 y24 y107 y108 y109 y110 y111 y112 y113 y114 y115 y116 y117 y118 y119 y120 y121 y122 y123 y124 y125 y126 y127 y128 y129 y130 y131 y132 y133 y134 y135 y136 y137 y138 y139 y140 y141 y142 y143 y144 y145 y146 y147 y148 y149 y150 y151 y152 y153 y154 y155 y156 y157 y158 y159 y160 y161 y162 y163 y164 y165 y166 y167 y168 y169 y170 y171 y172 y173 y174 y175 y176 y177 y178 y179 y180 y181 y182 y183 y184 y185 y186 y187 y188 y189 y190 y191 y192 : Value, KL w w1.heap.size cls cap more.length y16 ds w' ∧ a' = { tmps := #[Value.int IntKind.i64 cls, Value.int IntKind.i64 cap, Value.slice ao l.length cp, Value.int IntKind.u8 ↑bn, Value.slice ao2 more.length cp2, undef, undef, undef, undef, undef, y10, Value.pointer (some { block := w.heap.size, off := 0 }), Value.int IntKind.i64 0, Value.pointer (some { block := w1.heap.size, off := 0 }), Value.int IntKind.i64 0, Value.int IntKind.i64 ↑l.length, y16, y17, y18, y19, undef, y21, y22, undef, y24, Value.slice ao l.length cp, Value.int IntKind.i64 ↑l.length, Value.bool false, Value.bool false, Value.slice ao2 more.length cp2, Value.int IntKind.i64 ↑more.length, Value.bool false, Value.bool false, undef, Value.tuple #[Value.pointer (some { block := w.heap.size, off := 0 }), Value.int IntKind.i64 0], Value.int IntKind.i64 cls, Value.int IntKind.i64 cap, Value.tuple #[Value.pointer (some { block := w.heap.size, off := 0 }), Value.int IntKind.i64 0], Value.pointer (some { block := w.heap.size, off := 0 }), Value.int IntKind.i64 0, Value.tuple #[Value.pointer (some { block := w1.heap.size, off := 0 }), Value.int IntKind.i64 0], Value.int IntKind.i64 cls, Value.int IntKind.i64 cap, Value.tuple #[Value.pointer (some { block := w1.heap.size, off := 0 }), Value.int IntKind.i64 0], Value.pointer (some { block := w1.heap.size, off := 0 }), Value.int IntKind.i64 0, Value.int IntKind.i64 0, Value.int IntKind.i64 0, Value.int IntKind.i64 0, Value.int IntKind.i64 0, Value.bool false, Value.int IntKind.i64 0, Value.int IntKind.i64 0, Value.bool false, Value.bool false, Value.slice ao l.length cp, Value.int IntKind.i64 ↑l.length, Value.int IntKind.i64 cap, Value.bool false, Value.bool false, undef, Value.int IntKind.i64 ↑l.length, Value.slice ao l.length cp, Value.int IntKind.i64 ↑l.length, Value.bool false, u65, u66, u67, u68, u69, u70, u71, u72, u73, u74, u75, u76, u77, u78, u79, u80, u81, u82, u83, u84, u85, u86, u87, u88, u89, u90, u91, u92, u93, u94, u95, u96, u97, u98, u99, Value.bool false, Value.pointer (some { block := w.heap.size, off := 0 }), Value.string ka, Value.pointer (some { block := w1.heap.size, off := 0 }), Value.string ka, Value.bool false, undef, y107, y108, y109, y110, y111, y112, y113, y114, y115, y116, y117, y118, y119, y120, y121, y122, y123, y124, y125, y126, y127, y128, y129, y130, y131, y132, y133, y134, y135, y136, y137, y138, y139, y140, y141, y142, y143, y144, y145, y146, y147, y148, y149, y150, y151, y152, y153, y154, y155, y156, y157, y158, y159, y160, y161, y162, y163, y164, y165, y166, y167, y168, y169, y170, y171, y172, y173, y174, y175, y176, y177, y178, y179, y180, y181, y182, y183, y184, y185, y186, y187, y188, y189, y190, y191, y192, undef], defers := marks ds }) (fun a' _ => more.length + 1 - (intOf (a'.tmps.getD 16 undef)).toNat) ?_ ?_
          · refine ⟨[], ?_⟩
            (repeat apply Exists.intro)
            exact ⟨HKL.out, rfl⟩
          · clear HKL HK0 FX HRL KA1 KB1 HL2 HPP HLT
            intro a' wr2 hinv
            obtain ⟨ds, hinv⟩ := hinv
            obtain ⟨y10, hinv⟩ := hinv
            obtain ⟨y16, hinv⟩ := hinv
            obtain ⟨y17, hinv⟩ := hinv
            obtain ⟨y18, hinv⟩ := hinv
            obtain ⟨y19, hinv⟩ := hinv
            obtain ⟨y21, hinv⟩ := hinv
            obtain ⟨y22, hinv⟩ := hinv
            obtain ⟨y24, hinv⟩ := hinv
            obtain ⟨y107, hinv⟩ := hinv
            obtain ⟨y108, hinv⟩ := hinv
            obtain ⟨y109, hinv⟩ := hinv
            obtain ⟨y110, hinv⟩ := hinv
            obtain ⟨y111, hinv⟩ := hinv
            obtain ⟨y112, hinv⟩ := hinv
            obtain ⟨y113, hinv⟩ := hinv
            obtain ⟨y114, hinv⟩ := hinv
            obtain ⟨y115, hinv⟩ := hinv
            obtain ⟨y116, hinv⟩ := hinv
            obtain ⟨y117, hinv⟩ := hinv
            obtain ⟨y118, hinv⟩ := hinv
            obtain ⟨y119, hinv⟩ := hinv
            obtain ⟨y120, hinv⟩ := hinv
            obtain ⟨y121, hinv⟩ := hinv
            obtain ⟨y122, hinv⟩ := hinv
            obtain ⟨y123, hinv⟩ := hinv
            obtain ⟨y124, hinv⟩ := hinv
            obtain ⟨y125, hinv⟩ := hinv
            obtain ⟨y126, hinv⟩ := hinv
            obtain ⟨y127, hinv⟩ := hinv
            obtain ⟨y128, hinv⟩ := hinv
            obtain ⟨y129, hinv⟩ := hinv
            obtain ⟨y130, hinv⟩ := hinv
            obtain ⟨y131, hinv⟩ := hinv
            obtain ⟨y132, hinv⟩ := hinv
            obtain ⟨y133, hinv⟩ := hinv
            obtain ⟨y134, hinv⟩ := hinv
            obtain ⟨y135, hinv⟩ := hinv
            obtain ⟨y136, hinv⟩ := hinv
            obtain ⟨y137, hinv⟩ := hinv
            obtain ⟨y138, hinv⟩ := hinv
            obtain ⟨y139, hinv⟩ := hinv
            obtain ⟨y140, hinv⟩ := hinv
            obtain ⟨y141, hinv⟩ := hinv
            obtain ⟨y142, hinv⟩ := hinv
            obtain ⟨y143, hinv⟩ := hinv
            obtain ⟨y144, hinv⟩ := hinv
            obtain ⟨y145, hinv⟩ := hinv
            obtain ⟨y146, hinv⟩ := hinv
            obtain ⟨y147, hinv⟩ := hinv
            obtain ⟨y148, hinv⟩ := hinv
            obtain ⟨y149, hinv⟩ := hinv
            obtain ⟨y150, hinv⟩ := hinv
            obtain ⟨y151, hinv⟩ := hinv
            obtain ⟨y152, hinv⟩ := hinv
            obtain ⟨y153, hinv⟩ := hinv
            obtain ⟨y154, hinv⟩ := hinv
            obtain ⟨y155, hinv⟩ := hinv
            obtain ⟨y156, hinv⟩ := hinv
            obtain ⟨y157, hinv⟩ := hinv
            obtain ⟨y158, hinv⟩ := hinv
            obtain ⟨y159, hinv⟩ := hinv
            obtain ⟨y160, hinv⟩ := hinv
            obtain ⟨y161, hinv⟩ := hinv
            obtain ⟨y162, hinv⟩ := hinv
            obtain ⟨y163, hinv⟩ := hinv
            obtain ⟨y164, hinv⟩ := hinv
            obtain ⟨y165, hinv⟩ := hinv
            obtain ⟨y166, hinv⟩ := hinv
            obtain ⟨y167, hinv⟩ := hinv
            obtain ⟨y168, hinv⟩ := hinv
            obtain ⟨y169, hinv⟩ := hinv
            obtain ⟨y170, hinv⟩ := hinv
            obtain ⟨y171, hinv⟩ := hinv
            obtain ⟨y172, hinv⟩ := hinv
            obtain ⟨y173, hinv⟩ := hinv
            obtain ⟨y174, hinv⟩ := hinv
            obtain ⟨y175, hinv⟩ := hinv
            obtain ⟨y176, hinv⟩ := hinv
            obtain ⟨y177, hinv⟩ := hinv
            obtain ⟨y178, hinv⟩ := hinv
            obtain ⟨y179, hinv⟩ := hinv
            obtain ⟨y180, hinv⟩ := hinv
            obtain ⟨y181, hinv⟩ := hinv
            obtain ⟨y182, hinv⟩ := hinv
            obtain ⟨y183, hinv⟩ := hinv
            obtain ⟨y184, hinv⟩ := hinv
            obtain ⟨y185, hinv⟩ := hinv
            obtain ⟨y186, hinv⟩ := hinv
            obtain ⟨y187, hinv⟩ := hinv
            obtain ⟨y188, hinv⟩ := hinv
            obtain ⟨y189, hinv⟩ := hinv
            obtain ⟨y190, hinv⟩ := hinv
            obtain ⟨y191, hinv⟩ := hinv
            obtain ⟨y192, hinv⟩ := hinv
            obtain ⟨hrel, ha⟩ := hinv
            subst ha
            obtain ⟨i2, A2, B2, FA2, FB2, rfl, hi2, hrl, hkp, hnd, hds⟩ := hrel
            try dsimp only
            have HRL := Lib.hid hrl; have HK := Lib.hid hkp; have HND := Lib.hid hnd; have HDS := Lib.hid hds
            have ha64 := hkp.a.good.lenN
            have hb64 := hkp.b.good.lenN
            have hgc1 := hkp.a.good.c1
            have hgc3 := hkp.a.good.c3
            have hxb : w.heap.size < wr2.heap.size := hkp.a.lt _ (by obtain ⟨sv, -, -, -, rfl⟩ := hkp.a; simp)
            have hyb : w1.heap.size < wr2.heap.size := hkp.b.lt _ (by obtain ⟨sv, -, -, -, rfl⟩ := hkp.b; simp)
            have hxFA : wr2.heap.size ∉ FA2 := fun hx => by have := hkp.a.lt _ hx; omega
            have hxFB : wr2.heap.size ∉ FB2 := fun hx => by have := hkp.b.lt _ hx; omega
            have hyFA : wr2.heap.size + 1 ∉ FA2 := fun hx => by have := hkp.a.lt _ hx; omega
            have hyFB : wr2.heap.size + 1 ∉ FB2 := fun hx => by have := hkp.b.lt _ hx; omega
            have HX4 := Lib.hid (And.intro hxFA (And.intro hxFB (And.intro hyFA hyFB)))
            have HXB := Lib.hid (And.intro hxb hyb)
            have HG4 := Lib.hid (And.intro ha64 (And.intro hb64 (And.intro hgc1 hgc3)))
            clear hrl hkp hnd hds ha64 hb64 hgc1 hgc3 hxb hyb hxFA hxFB hyFA hyFB
            have CA := Lib.hid (fun W (hf : Frm [] wr2 W) => choose_any w.heap.size cls cap A2 FA2 W (HK.out.frm hf).a)
            have hqf := eql_seq
            have h40 := H40.out
            have hlt3 : (i2 : Int) ≤ (more.length : Int) := by omega
            go_wp2_with (first
              | (go_at_call 13; go_must (refine (CA.out _ (((Frm.refl [] wr2).alloc _).alloc _)).mono ?_; clear CA; rintro e x8 ⟨v, rfl, ⟨bl, bc, sv, rfl, hch⟩⟩; have HCH := Lib.hid hch; clear hch)))
            have HX0 : Hid (((wr2.alloc (.cells #[.slice none 0 0] 22)).alloc (.cells #[.slice none 0 0] 22)).heap[wr2.heap.size]? = some (.cells #[.slice none 0 0] 22 (0, 0))) := Lib.hid (alloc_at (heap_alloc_new _ _))
            have HN0 := Lib.hid (XI.go HX0.out HCH.out (by have := HXB.out.1; omega))
            have HY0 : Hid (x8.heap[wr2.heap.size + 1]? = some (.cells #[.slice none 0 0] 22 (0, 0))) := Lib.hid (HCH.out.2.1.at (alloc_top (by simp)) (by simp))
            have HK8 : Hid (KP w w.heap.size w1.heap.size cls cap A2 B2 FA2 FB2 x8) := Lib.hid (HK.out.frm ((((Frm.refl [] wr2).alloc _).alloc _).trans HCH.out.2.1))
            have HD8 : Hid (∀ D ∈ ds, w.heap.size ≤ D ∧ x8.heap[D]? = some (.deferred (some []))) := Lib.hid fun D hD => ⟨(HDS.out D hD).1, HCH.out.2.1.at (alloc_at (alloc_at (HDS.out D hD).2)) (by simp)⟩
            have hit := chc_iter bl bc w.heap.size cls sv A2 HG4.out.2.2.1 HG4.out.2.2.2 (by have := HG4.out.1; omega)
            have hs8 := HCH.out.2.1.size
            have HS8 : Hid (wr2.heap.size + 2 ≤ x8.heap.size) := Lib.hid (by simpa using hs8)
            clear HX0 HCH hs8 HDS HK
            have h64 := HG4.out.1
            refine wp_rangeList rfl (enters_of Try.func27 (by kernel_rfl) rfl) hit (fun _ => rfl) (XI x8 wr2.heap.size) (fun _ _ _ => False) (fun _ _ _ h hb => h.bk hb (Nat.le_refl _)) (fun _ _ _ _ h _ => h) HN0.out.2 HN0.out.1 ?_ ?_ (fun _ _ _ _ _ _ _ _ h => h.elim)
            · intro l0 pre x rest Wr hxs hI hl hlr
              have HI := Lib.hid hI
              have hpl := pre_le hxs
              clear hI hlr hl hxs
              obtain ⟨xi, xm⟩ := x
              simp only [encC]
              gi_wp2
              refine ⟨KB.refl _, fun Wq hbk _ => ?_⟩
              have HI2 := Lib.hid (HI.out.bk hbk (Nat.le_refl _))
              obtain ⟨v, hv⟩ := HI2.out.bx
              have cx := cell_of hv.1 0
              have HV := Lib.hid hv
              have hb3 : x8.heap.size ≤ (Wq.alloc (.cells #[.string xm] 9)).heap.size := by have := HI2.out.fr.size; simp; omega
              have hb1 : pre.length + 1 ≤ maxLen := by unfold maxLen; omega
              have hb2 : (pre.length + 1) * 16 ≤ 140737488355328 := by omega
              have HB1 := Lib.hid hb1; have HB2 := Lib.hid hb2; have HB3 := Lib.hid hb3
              clear hv hbk hb1 hb2 hb3
              obtain ⟨i0, hi0, hz0, hz1, hz2⟩ := info_parts Try.info9
              gi_wp2_with (gi_at_builtin; refine wpListIn_append_own _ rfl _ _ 22 rfl x8.heap.size 9 i0 (.string { data := #[] }) 1 16 Try.underlying22 hi0 hz0 hz1 hz2 rfl (by decide) v pre.length (pre.map fun x => Value.string x.2) rfl (HV.out.2.alloc _) ⟨Wq.heap.size, 0, none⟩ 1 1 [.string xm] rfl rfl (cell_one_new _ _ _) (by simp [Value.oneCell']) HB1.out HB2.out HB3.out ?_; intro v' w1 hown' hgrow _; obtain ⟨ao', cp', rfl⟩ := own_shape hown'; obtain ⟨fx1, fx2⟩ := XI.facts HI2.out.lt HV.out hgrow; have HO := Lib.hid hown'; have HG := Lib.hid hgrow; clear hown' hgrow)
              exact HI2.out.step (xi, xm) HV.out HG.out HO.out
            · intro D W hD hI hK
              obtain ⟨v1, hr1⟩ := (RX.first HK8.out HND.out HD8.out HN0.out.1 hI hD hK HX4.out.1 HX4.out.2.1 (by have := HXB.out.1; omega))
              have HR1 := Lib.hid hr1
              clear hr1
              have HY1 : Hid (W.heap[wr2.heap.size + 1]? = some (.cells #[.slice none 0 0] 22 (0, 0))) := Lib.hid (hI.fr.at HY0.out (by simp))
              clear hI hK hD HN0 HY0 HK8 HD8 HND hit
              have CB := Lib.hid (fun W' (hf : Frm [] W W') => choose_any w1.heap.size cls cap B2 FB2 W' (HR1.out.frm hf).kp.b)
              have h64b := HG4.out.2.1
              go_wp2_with (first
                | (go_at_call 13; go_must (refine (CB.out _ (Frm.refl [] W)).mono ?_; clear CB; rintro e x9 ⟨v, rfl, ⟨bl2, bc2, sv2, rfl, hch⟩⟩; have HCH := Lib.hid hch; clear hch)))
              have HR9 := Lib.hid (HR1.out.frm HCH.out.2.1)
              have HN1 := Lib.hid (XI.go HY1.out HCH.out (by have := HXB.out.2; omega))
              have hit := chc_iter bl2 bc2 w1.heap.size cls sv2 B2 HG4.out.2.2.1 HG4.out.2.2.2 (by omega)
              clear HCH HY1 HR1
              refine wp_rangeList rfl (enters_of Try.func27 (by kernel_rfl) rfl) hit (fun _ => rfl) (XI x9 (wr2.heap.size + 1)) (fun _ _ _ => False) (fun _ _ _ h hb => h.bk hb (Nat.le_refl _)) (fun _ _ _ _ h _ => h) HN1.out.2 HN1.out.1 ?_ ?_ (fun _ _ _ _ _ _ _ _ h => h.elim)
              · intro l0 pre x rest Wr hxs hI hl hlr
                have HI := Lib.hid hI
                have hpl := pre_le hxs
                clear hI hlr hl hxs
                obtain ⟨xi, xm⟩ := x
                simp only [encC]
                gi_wp2
                refine ⟨KB.refl _, fun Wq hbk _ => ?_⟩
                have HI2 := Lib.hid (HI.out.bk hbk (Nat.le_refl _))
                obtain ⟨v, hv⟩ := HI2.out.bx
                have cx := cell_of hv.1 0
                have HV := Lib.hid hv
                have hb3 : x9.heap.size ≤ (Wq.alloc (.cells #[.string xm] 9)).heap.size := by have := HI2.out.fr.size; simp; omega
                have hb1 : pre.length + 1 ≤ maxLen := by unfold maxLen; omega
                have hb2 : (pre.length + 1) * 16 ≤ 140737488355328 := by omega
                have HB1 := Lib.hid hb1; have HB2 := Lib.hid hb2; have HB3 := Lib.hid hb3
                clear hv hbk hb1 hb2 hb3
                obtain ⟨i0, hi0, hz0, hz1, hz2⟩ := info_parts Try.info9
                gi_wp2_with (gi_at_builtin; refine wpListIn_append_own _ rfl _ _ 22 rfl x9.heap.size 9 i0 (.string { data := #[] }) 1 16 Try.underlying22 hi0 hz0 hz1 hz2 rfl (by decide) v pre.length (pre.map fun x => Value.string x.2) rfl (HV.out.2.alloc _) ⟨Wq.heap.size, 0, none⟩ 1 1 [.string xm] rfl rfl (cell_one_new _ _ _) (by simp [Value.oneCell']) HB1.out HB2.out HB3.out ?_; intro v' w1 hown' hgrow _; obtain ⟨ao', cp', rfl⟩ := own_shape hown'; obtain ⟨fx1, fx2⟩ := XI.facts HI2.out.lt HV.out hgrow; have HO := Lib.hid hown'; have HG := Lib.hid hgrow; clear hown' hgrow)
                exact HI2.out.step (xi, xm) HV.out HG.out HO.out
              · intro D2 W2 hD2 hI hK
                have HR2 := Lib.hid (RX.second HR9.out HN1.out.1 hI hD2 hK HX4.out.2.2.1 HX4.out.2.2.2 (by omega) (by have := HXB.out.1; omega))
                clear hI hK hD2 HN1 HR9 hit
                have hch := rl_chm HRL.out
                have hla := chm_le cls A2
                have hlb := chm_le cls B2
                have HTK : Hid (∀ m ∈ chm cls A2 A2.length, Rl cls (tkL cls A2 m) (tkL cls B2 m)) := Lib.hid (fun m hm => rl_take HRL.out hm)
                have HR2 := HR2
                obtain ⟨MA, hMA⟩ : ∃ MA, chm cls A2 A2.length = MA := ⟨_, rfl⟩
                obtain ⟨MB, hMB⟩ : ∃ MB, chm cls B2 B2.length = MB := ⟨_, rfl⟩
                rw [hMA, hMB] at HR2 hch
                rw [hMA] at hla HTK
                rw [hMB] at hlb
                clear hMA hMB
                obtain ⟨n, hn⟩ : ∃ n, MA.length = n := ⟨_, rfl⟩
                obtain ⟨e1, e2, e3⟩ := HR2.out.1.bx
                obtain ⟨v2, e4, e5⟩ := HR2.out.2.out
                have CE := Lib.hid (equal_any v1 v2 MA MB W2 (.inl e2) (.inl e5) (by omega) (by omega) hch.1 hch.2)
                obtain ⟨a1, c1, hv1, -, -⟩ := e2.shape
                rw [hn] at hv1
                subst hv1
                obtain ⟨a2, c2, rfl, -, -⟩ := e5.shape
                have d1 := cell_of e1 0
                have d2 := cell_of e4 0
                have HR3 := Lib.hid HR2.out.1
                have HLA := Lib.hid hla; have HN := Lib.hid hn
                clear e1 e2 e3 e4 e5 hch hla hlb HR2 hn
                go_upto_region 38 with (first
                  | (go_at_call 14; go_must (refine CE.out.mono ?_; clear CE d1 d2; rintro e x10 ⟨rfl, hf⟩; have HR4 := Lib.hid (HR3.out.frm hf); clear hf HR3)))
                have HWK : Hid (IntKind.i64.wrap ((i2 : Int) + 1) = ((i2 + 1 : Nat) : Int)) := Lib.hid (by rw [IntWalk.i64_in _ (by omega)]; simp)
                by_cases hie : i2 = more.length
                · have b1 : ((i2 : Int) == (more.length : Int)) = true := by simp [hie]
                  clear hie
                  go_wp2_with (go_at_call 8; go_must (refine (known_any _).mono ?_; rintro e w9 ⟨rfl, hf⟩; have HZ := Lib.hid hf; clear hf))
                  exact keys_end HR4.out HZ.out (fun W' => by simp [results, Try.results3, go_sem])
                · have b1 : ((i2 : Int) == (more.length : Int)) = false := by rw [beq_eq_false_iff_ne]; omega
                  have hlt4 : i2 < more.length := by omega
                  obtain ⟨z, hz⟩ : ∃ z, more[i2]? = some z := ⟨_, List.getElem?_eq_getElem hlt4⟩
                  obtain ⟨bq, oq, rfl, cz0⟩ := HM.out i2 z hz
                  have HCZ : Hid (∀ W', Frm [] w W' → W'.cell? ⟨bq, oq + i2, none⟩ = some (.string z)) := Lib.hid (fun W' hf => hf.keep cz0)
                  have cz := HCZ.out _ HR4.out.kp.o
                  have hlt5 : (i2 : Int) < (more.length : Int) := by omega
                  clear hz cz0
                  by_cases h32 : 32 < z.size
                  · have b2 : (32 : Int) < (z.size : Int) := by omega
                    clear h32 hie
                    go_wp2_with (go_at_call 8; go_must (refine (known_any _).mono ?_; rintro e w9 ⟨rfl, hf⟩; have HZ := Lib.hid hf; clear hf))
                    exact keys_end HR4.out HZ.out (fun W' => by simp [results, Try.results3, go_sem])
                  · have b2 : decide ((32 : Int) < (z.size : Int)) = false := by simp; omega
                    clear h32 hie
                    by_cases hze : z.toList.isEmpty = true
                    · rcases n with _ | k
                      · have d3 := cell_of HR4.out.bx.1 0
                        go_wp2
                        refine ⟨⟨D2 :: D :: ds, ?_⟩, ?_⟩
                        · (repeat apply Exists.intro)
                          exact ⟨HR4.out.kl hlt4 HRL.out, rfl⟩
                        · simp [intOf]; omega
                      · have hk : k < MA.length := by have := HN.out; omega
                        obtain ⟨m, hm⟩ : ∃ m, MA[k]? = some m := ⟨_, List.getElem?_eq_getElem hk⟩
                        have HMM := Lib.hid hm
                        have HT := Lib.hid (HTK.out m (List.mem_of_getElem? hm))
                        obtain ⟨g, rfl, d3, d4⟩ := HR4.out.last hm
                        have hk64 : k ≤ 64 := by have := HLA.out; have := HG4.out.1; omega
                        have hk1 : ((k : Int) + 1 == 0) = false := by rw [beq_eq_false_iff_ne]; omega
                        clear hm hk
                        have CTA := Lib.hid (take_msg w.heap.size cls cap A2 FA2 m x10 HR4.out.kp.a)
                        have CKX := Lib.hid (fun (L : List ByteArray) (F : List Nat) W h => key_any w.heap.size cls cap L F W h)
                        go_wp2_with (first
                          | (go_at_call 15; go_must (first
                              | (refine CTA.out.mono ?_; clear CTA d3 d4; rintro e x11 ⟨v, rfl, ht⟩; obtain ⟨FA3, hr⟩ := HR4.out.sw0 ht; have HR5 := Lib.hid hr; obtain ⟨_, hg', d3, d4⟩ := hr.last HMM.out; cases hg'; clear ht hr)
                              | (refine (take_msg w1.heap.size cls cap B2 FB2 m x11 HR5.out.kp.b).mono ?_; clear d3 d4; rintro e x12 ⟨v2, rfl, ht⟩; obtain ⟨FB3, hr⟩ := HR5.out.sw1 ht; have HR6 := Lib.hid hr; have CK1 := Lib.hid (key_any w.heap.size cls cap _ FA3 x12 hr.kp.a); have CK2 := Lib.hid (fun W (hf : Frm [] x12 W) => key_any w1.heap.size cls cap _ FB3 W (hr.frm hf).kp.b); rw [rl_keys HT.out] at CK1; clear ht hr)))
                          | (go_at_call 12; go_must (first
                              | (refine CK1.out.mono ?_; clear CK1; rintro e x13 ⟨rfl, hf⟩; have HF13 := Lib.hid hf; clear hf)
                              | (refine (CK2.out _ HF13.out).mono ?_; clear CK2; rintro e x14 ⟨rfl, hf⟩; have HR7 := Lib.hid (HR6.out.frm (HF13.out.trans hf)); clear hf))))
                        refine ⟨⟨D2 :: D :: ds, ?_⟩, ?_⟩
                        · (repeat apply Exists.intro)
                          exact ⟨HR7.out.kl hlt4 HT.out, rfl⟩
                        · simp [intOf]; omega
                    · have hz2 : z.toList.isEmpty = false := by simpa using hze
                      clear hze
                      obtain ⟨q, hq⟩ : ∃ q, putE cap A2 z = q := ⟨_, rfl⟩
                      have hpr := rl_put HRL.out (cap := cap) z
                      have HPR := Lib.hid hpr.2
                      have hq2 : putE cap B2 z = q := hpr.1.symm.trans hq
                      have CPA : Hid (∀ W F, Chn W w.heap.size cls cap A2 F → Calls Try.prog 11 #[.pointer (some ⟨w.heap.size, 0, none⟩), .string z] W (Ret (.int .i64 q) (ChnTo W w.heap.size cls cap (putL cap A2 z) F))) := Lib.hid (fun W F h => hq ▸ put_all w.heap.size cls cap A2 F z W h)
                      have CPB : Hid (∀ W F, Chn W w1.heap.size cls cap B2 F → Calls Try.prog 11 #[.pointer (some ⟨w1.heap.size, 0, none⟩), .string z] W (Ret (.int .i64 q) (ChnTo W w1.heap.size cls cap (putL cap B2 z) F))) := Lib.hid (fun W F h => hq2 ▸ put_all w1.heap.size cls cap B2 F z W h)
                      clear hq hq2 hpr
                      have HR5 := Lib.hid (HR4.out.frm (Frm.refl [] x10).drew)
                      have hi0 : (0 : Int) ≤ (i2 : Int) := by omega
                      go_upto_region 40 with fail
                      go_region_held3 (fun W' => W'.cell? ⟨bq, oq + i2, none⟩ = some (.string z))
                        (first
                          | exact HCZ.out _ HR5.out.kp.o
                          | exact HCZ.out _ HR6.out.kp.o
                          | exact HCZ.out _ HR7.out.kp.o)
                        (first | (go_at_call 11; go_must (first
                          | (refine (CPA.out _ _ HR5.out.kp.a).mono ?_; clear CPA; rintro e x11 ⟨rfl, ht⟩; obtain ⟨FA3, hr⟩ := HR5.out.sw0 ht; have HR6 := Lib.hid hr; clear ht hr HR5)
                          | (refine (CPB.out _ _ HR5.out.kp.b).mono ?_; clear CPB; rintro e x11 ⟨rfl, ht⟩; obtain ⟨FB3, hr⟩ := HR5.out.sw1 ht; have HR6 := Lib.hid hr; clear ht hr HR5)
                          | (refine (CPA.out _ _ HR6.out.kp.a).mono ?_; clear CPA; rintro e x12 ⟨rfl, ht⟩; obtain ⟨FA3, hr⟩ := HR6.out.sw0 ht; have HR7 := Lib.hid hr; clear ht hr)
                          | (refine (CPB.out _ _ HR6.out.kp.b).mono ?_; clear CPB; rintro e x12 ⟨rfl, ht⟩; obtain ⟨FB3, hr⟩ := HR6.out.sw1 ht; have HR7 := Lib.hid hr; clear ht hr))))
                      all_goals
                        go_wp2
                        refine ⟨⟨D2 :: D :: ds, ?_⟩, ?_⟩
                        · (repeat apply Exists.intro)
                          exact ⟨HR7.out.kl hlt4 HPR.out, rfl⟩
                        · simp [intOf]; omega
      · have h2 : cls ≠ 2 := fun h2 => hkk (by subst h2; rw [rl_keys (cls := 2) (A := A) (B := B) (by unfold Rl; rw [if_pos rfl]; exact HPP.out)])
        have b2 : (cls == 2) = false := by simpa using h2
        have H2 := Lib.hid h2
        obtain ⟨ka, hka⟩ : ∃ ka, keyB (keyL cls A) = ka := ⟨_, rfl⟩
        obtain ⟨kb, hkb⟩ : ∃ kb, keyB (keyL cls B) = kb := ⟨_, rfl⟩
        rw [hka] at CKA hkk
        rw [hkb] at CKB hkk
        have hne : (ka.toList == kb.toList) = false := str_ne hkk
        clear hkk hka hkb HRL2 h2
        have FX := Lib.hid (Frm.refl [] wr)
        have KA1 := CKA; have KB1 := CKB; have KA2 := CKA; have KB2 := CKB
        clear CKA CKB
        go_wp2_with (first
          | (go_at_call 12; go_must (first
              | (refine (KA1.out _ FX.out).mono ?_; clear KA1; rintro e w5 ⟨rfl, hf⟩; have FX := Lib.hid (FX.out.trans hf); clear hf)
              | (refine (KB1.out _ FX.out).mono ?_; clear KB1; rintro e w5 ⟨rfl, hf⟩; have FX := Lib.hid (FX.out.trans hf); clear hf)
              | (refine (KA2.out _ FX.out).mono ?_; clear KA2; rintro e w5 ⟨rfl, hf⟩; have FX := Lib.hid (FX.out.trans hf); clear hf)
              | (refine (KB2.out _ FX.out).mono ?_; clear KB2; rintro e w5 ⟨rfl, hf⟩; have FX := Lib.hid (FX.out.trans hf); clear hf)))
          | (go_at_call 8; go_must (refine (known_any _).mono ?_; rintro e w9 ⟨rfl, hf⟩; have HZ := Lib.hid (FX.out.trans hf); clear hf)))
        exact leaves_none ⟨.bool true, by simp [results, Try.results3, go_sem], rfl, HK0.out.o.trans HZ.out⟩
end Go.Proofs.Ythelfpenccpkeaa
