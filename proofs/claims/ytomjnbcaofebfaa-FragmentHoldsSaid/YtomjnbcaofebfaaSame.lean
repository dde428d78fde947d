/- Same, parts. -/
import Derived.Test.YtomjnbcaofebfaaSpl
namespace Go.Proofs.Ytomjnbcaofebfaa
open Go.RowKit Go.BigFrame

set_option maxHeartbeats 1000000 in
theorem same_any (p q : Prt) (av bv : Value) (w : World) (ha : Byts w av p.b) (hb : Byts w bv q.b) : Calls Try.prog 21 #[pv p av, pv q bv] w (Ret (.bool (decide (p = q))) (Frm [] w)) := by
  obtain ⟨m, u, c, b⟩ := p
  obtain ⟨m', u', c', b'⟩ := q
  unfold pv
  simp only at ha hb ⊢
  by_cases h1 : m = m'
  · subst h1
    by_cases h2 : u = u'
    · subst h2
      by_cases h3 : c = c'
      · subst h3
        have k1 := (ha.frm0 (((Frm.refl [] w).alloc (.cells #[.int .i64 m, .int .i64 u, .int .i64 c, av] 38)).alloc (.cells #[.int .i64 m, .int .i64 u, .int .i64 c, bv] 38))).conv
        have k2 := (hb.frm0 (((Frm.refl [] w).alloc (.cells #[.int .i64 m, .int .i64 u, .int .i64 c, av] 38)).alloc (.cells #[.int .i64 m, .int .i64 u, .int .i64 c, bv] 38))).conv
        have he := str_beq (txt b) (txt b')
        rw [txt_eq] at he
        have hd : decide ((⟨m, u, c, b⟩ : Prt) = ⟨m, u, c, b'⟩) = decide (b = b') := by simp
        rw [hd]
        clear hd
        obtain ⟨_, _, rfl, -⟩ := ha.len
        obtain ⟨_, _, rfl, -⟩ := hb.len
        clear ha hb
        go_enter Try.func21, Try.ntmps21
        go_wp2
        go_ret
        exact ⟨rfl, ((Frm.refl _ _).alloc _).alloc _⟩
      · have hd : decide ((⟨m, u, c, b⟩ : Prt) = ⟨m, u, c', b'⟩) = false := by simp [h3]
        have k1 : (c == c') = false := by simpa using h3
        rw [hd]
        clear hd ha hb h3
        go_enter Try.func21, Try.ntmps21
        go_wp2
        go_ret
        exact ⟨rfl, ((Frm.refl _ _).alloc _).alloc _⟩
    · have hd : decide ((⟨m, u, c, b⟩ : Prt) = ⟨m, u', c', b'⟩) = false := by simp [h2]
      have k1 : (u == u') = false := by simpa using h2
      rw [hd]
      clear hd ha hb h2
      go_enter Try.func21, Try.ntmps21
      go_wp2
      go_ret
      exact ⟨rfl, ((Frm.refl _ _).alloc _).alloc _⟩
  · have hd : decide ((⟨m, u, c, b⟩ : Prt) = ⟨m', u', c', b'⟩) = false := by simp [h1]
    have k1 : (m == m') = false := by simpa using h1
    rw [hd]
    clear hd ha hb h1
    go_enter Try.func21, Try.ntmps21
    go_wp2
    go_ret
    exact ⟨rfl, ((Frm.refl _ _).alloc _).alloc _⟩
/-- the lists are equal -/
theorem Prts.shape {base : Nat} {w : World} {v : Value} {ps : List Prt} (h : Prts base w v ps) : ∃ ao cap, v = .slice ao ps.length cap ∧ ps.length ≤ cap ∧ ∀ k p, ps[k]? = some p → ∃ b o, ao = some ⟨b, o, none⟩ ∧ PrtAt base w b (o + k * 4) p := by
  obtain ⟨ao, cap, h1, h2, -, h3⟩ := h; exact ⟨ao, cap, h1, h2, h3⟩
set_option maxHeartbeats 2000000 in
set_option maxRecDepth 100000 in
theorem parts_ok (B B' : Nat) (av bv : Value) (ps : List Prt) (w : World) (ha : Prts B w av ps) (hb : Prts B' w bv ps) (hn : ps.length ≤ 100000) : Calls Try.prog 11 #[av, bv] w (Ret (.bool true) (Frm [] w)) := by
  obtain ⟨a1, c1, rfl, h0, h1⟩ := ha.shape
  obtain ⟨a2, c2, rfl, h0', h2⟩ := hb.shape
  have H1 := Lib.hid h1; have H2 := Lib.hid h2
  clear ha hb h1 h2
  go_enter Try.func11, Try.ntmps11
  go_wp2
  go_loopw [5] (fun s5 wr => ∃ i : Nat, s5 = .int .i64 i ∧ i ≤ ps.length ∧ Frm [] w wr) (fun s5 _ => ps.length - (intOf s5).toNat)
  case atStart => exact ⟨0, rfl, Nat.zero_le _, Frm.refl _ _⟩
  case round =>
    obtain ⟨i, rfl, hi, hf⟩ := hrel
    have HF := Lib.hid hf
    clear hf
    by_cases hlt : i < ps.length
    · have hlt' : (i : Int) < (ps.length : Int) := by omega
      have hi0 : (0 : Int) ≤ (i : Int) := by omega
      obtain ⟨p, hp⟩ : ∃ p, ps[i]? = some p := ⟨_, List.getElem?_eq_getElem hlt⟩
      obtain ⟨b, o, rfl, bv1, p0, p1, p2, p3, p4, -⟩ := H1.out i p hp
      obtain ⟨b', o', rfl, bv2, q0, q1, q2, q3, q4, -⟩ := H2.out i p hp
      have HSK : Hid (∀ W, Frm [] wr W → W.cell? ⟨b, o + i * 4, none⟩ = some (.int .i64 p.msg) ∧ W.cell? ⟨b, o + i * 4 + 1, none⟩ = some (.int .i64 p.num) ∧ W.cell? ⟨b, o + i * 4 + 2, none⟩ = some (.int .i64 p.cnt) ∧ W.cell? ⟨b, o + i * 4 + 3, none⟩ = some bv1 ∧
          W.cell? ⟨b', o' + i * 4, none⟩ = some (.int .i64 p.msg) ∧ W.cell? ⟨b', o' + i * 4 + 1, none⟩ = some (.int .i64 p.num) ∧ W.cell? ⟨b', o' + i * 4 + 2, none⟩ = some (.int .i64 p.cnt) ∧ W.cell? ⟨b', o' + i * 4 + 3, none⟩ = some bv2) := Lib.hid fun W hf => by
        have g := HF.out.trans hf
        exact ⟨g.keep p0, g.keep p1, g.keep p2, g.keep p3, g.keep q0, g.keep q1, g.keep q2, g.keep q3⟩
      have CS : Hid (∀ W, Frm [] wr W → Calls Try.prog 21 #[pv p bv1, pv p bv2] W (Ret (.bool true) (Frm [] W))) := Lib.hid fun W hf => by
        have := same_any p p bv1 bv2 W (p4.frm0 (HF.out.trans hf)) (q4.frm0 (HF.out.trans hf))
        simpa using this
      unfold pv at CS
      clear p0 p1 p2 p3 p4 q0 q1 q2 q3 q4 hp
      go_upto_region 6 with fail
      go_region_held3 (fun W => W.cell? ⟨b, o + i * 4, none⟩ = some (.int .i64 p.msg) ∧ W.cell? ⟨b, o + i * 4 + 1, none⟩ = some (.int .i64 p.num) ∧ W.cell? ⟨b, o + i * 4 + 2, none⟩ = some (.int .i64 p.cnt) ∧ W.cell? ⟨b, o + i * 4 + 3, none⟩ = some bv1 ∧
          W.cell? ⟨b', o' + i * 4, none⟩ = some (.int .i64 p.msg) ∧ W.cell? ⟨b', o' + i * 4 + 1, none⟩ = some (.int .i64 p.num) ∧ W.cell? ⟨b', o' + i * 4 + 2, none⟩ = some (.int .i64 p.cnt) ∧ W.cell? ⟨b', o' + i * 4 + 3, none⟩ = some bv2)
        (first
          | exact HSK.out _ ((Frm.refl [] wr).drew)
          | exact HSK.out _ HF4.out)
        (first
          | (go_at_call 21; go_must (refine (CS.out _ ((Frm.refl [] wr).drew)).mono ?_; rintro e w4 ⟨rfl, hf⟩; have HF4 : Hid (Frm [] wr w4) := Lib.hid (((Frm.refl [] wr).drew).trans hf); clear hf)))
      go_wp2
      exact ⟨⟨i + 1, by simp, hlt, HF.out.trans HF4.out⟩, by simp [intOf]; omega⟩
    · obtain rfl : i = ps.length := by omega
      have hge : ¬ (ps.length : Int) < (ps.length : Int) := by omega
      go_wp2
      go_ret
      exact ⟨rfl, HF.out⟩
end Go.Proofs.Ytomjnbcaofebfaa
