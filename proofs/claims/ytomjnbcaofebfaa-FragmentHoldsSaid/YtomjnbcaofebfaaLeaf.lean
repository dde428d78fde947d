/- within, num, right, Valid, bytes.Equal, slices.Clone, part, Same. -/
import Derived.Test.YtomjnbcaofebfaaByt
namespace Go.Proofs.Ytomjnbcaofebfaa
open Go.RowKit Go.BigFrame

theorem str_ne {a b : ByteArray} (h : a ≠ b) : (a.toList == b.toList) = false := by
  cases hb : (a.toList == b.toList) with
  | false => rfl
  | true =>
    have h1 : a.toList = b.toList := eq_of_beq hb
    rw [ByteArray.toList_eq, ByteArray.toList_eq] at h1
    exact absurd (ByteArray.ext (Array.toList_inj.1 h1)) h
theorem str_beq (a b : ByteArray) : (a.toList == b.toList) = decide (a = b) := by
  by_cases h : a = b
  · subst h; simp
  · rw [str_ne h, decide_eq_false h]
theorem txt_eq (a b : List UInt8) : decide (txt a = txt b) = decide (a = b) := by
  by_cases h : a = b
  · subst h; simp
  · rw [decide_eq_false h, decide_eq_false (fun e => h (txt_inj e))]
def wi (v a b : Int) : Bool := decide (a ≤ v) && decide (v ≤ b)
theorem wi_iff {v a b : Int} : wi v a b = true ↔ a ≤ v ∧ v ≤ b := by unfold wi; simp
theorem num_any (e : Int) (w : World) : Calls Try.prog 12 #[.int .i64 e] w (Ret (.int .i64 e) (w = ·)) := by
  go_enter Try.func12, Try.ntmps12
  go_wp2
  go_ret
  exact ⟨rfl, rfl⟩
theorem within_any (v a b : Int) (w : World) : Calls Try.prog 28 #[.int .i64 v, .int .i64 a, .int .i64 b] w (Ret (.bool (wi v a b)) (w = ·)) := by
  by_cases h1 : a ≤ v
  · by_cases h2 : v ≤ b
    · have e : wi v a b = true := by unfold wi; simp [h1, h2]
      rw [e]
      have k1 : decide (a ≤ v) = true := by simpa using h1
      clear e
      go_enter Try.func28, Try.ntmps28
      go_wp2
      go_ret
      exact ⟨rfl, rfl⟩
    · have e : wi v a b = false := by unfold wi; simp [h2]
      rw [e]
      clear e
      go_enter Try.func28, Try.ntmps28
      go_wp2
      go_ret
      exact ⟨rfl, rfl⟩
  · have e : wi v a b = false := by unfold wi; simp [h1]
    rw [e]
    clear e
    go_enter Try.func28, Try.ntmps28
    go_wp2
    go_ret
    exact ⟨rfl, rfl⟩
/-- a part -/
structure Prt where
  msg : Int
  num : Int
  cnt : Int
  b : List UInt8
deriving DecidableEq
def rightB (p : Prt) : Bool := wi p.msg 0 65535 && (wi p.cnt 1 255 && (wi p.num 0 (p.cnt - 1) && decide (p.b.length ≤ 1024)))
/-- a part's value, with its bytes at bv -/
def pv (p : Prt) (bv : Value) : Value := .agg #[.int .i64 p.msg, .int .i64 p.num, .int .i64 p.cnt, bv]
set_option maxHeartbeats 1000000 in
theorem right_any (p : Prt) (ao : Option Addr) (cap : Nat) (w : World) (hn : p.b.length ≤ 1000000) : Calls Try.prog 35 #[pv p (.slice ao p.b.length cap)] w (Ret (.bool (rightB p)) (Frm [] w)) := by
  obtain ⟨m, u, c, b⟩ := p
  unfold pv rightB
  simp only at hn ⊢
  generalize b.length = n at hn ⊢
  cases h1 : wi m 0 65535 with
  | false =>
    go_enter Try.func35, Try.ntmps35
    go_wp2_with (go_at_call 28; go_must (refine (within_any _ _ _ _).mono ?_; rintro e w' ⟨rfl, rfl⟩))
    go_ret
    exact ⟨by simp, (Frm.refl _ _).alloc _⟩
  | true =>
    cases h2 : wi c 1 255 with
    | false =>
      go_enter Try.func35, Try.ntmps35
      go_wp2_with (go_at_call 28; go_must (refine (within_any _ _ _ _).mono ?_; rintro e w' ⟨rfl, rfl⟩))
      go_ret
      exact ⟨by simp, (Frm.refl _ _).alloc _⟩
    | true =>
      have hc1 := (wi_iff.1 h2).1
      have hc2 := (wi_iff.1 h2).2
      cases h3 : wi u 0 (c - 1) with
      | false =>
        go_enter Try.func35, Try.ntmps35
        go_wp2_with (go_at_call 28; go_must (refine (within_any _ _ _ _).mono ?_; rintro e w' ⟨rfl, rfl⟩))
        go_ret
        exact ⟨by simp, (Frm.refl _ _).alloc _⟩
      | true =>
        go_enter Try.func35, Try.ntmps35
        go_wp2_with (go_at_call 28; go_must (refine (within_any _ _ _ _).mono ?_; rintro e w' ⟨rfl, rfl⟩))
        go_ret
        exact ⟨by simp; omega, (Frm.refl _ _).alloc _⟩
set_option maxHeartbeats 1000000 in
theorem equal_any (av bv : Value) (a b : List UInt8) (w : World) (ha : Byts w av a) (hb : Byts w bv b) : Calls Try.prog 39 #[av, bv] w (Ret (.bool (decide (a = b))) (w = ·)) := by
  have c1 := ha.conv
  have c2 := hb.conv
  have he := str_beq (txt a) (txt b)
  rw [txt_eq] at he
  obtain ⟨_, _, rfl, -⟩ := ha.len
  obtain ⟨_, _, rfl, -⟩ := hb.len
  clear ha hb
  go_enter Try.func39, Try.ntmps39
  go_wp2
  go_ret
  exact ⟨rfl, rfl⟩
/-- fresh bytes -/
def Fresh (w : World) (l : List UInt8) (v : Value) (w' : World) : Prop := w'.ownsRow w.heap.size 5 1 v l.length (l.map u8) ∧ Frm [] w w'
theorem Fresh.byts {w w' : World} {l : List UInt8} {v : Value} (h : Fresh w l v w') : Byts w' v l := Byts.of_own h.1
theorem eql_sl (w : World) (a : Option Addr) (n c n' c' : Nat) : (binOp .eql 22 (.slice a n c) (.slice none n' c')).run Try.prog w = .ok (.bool a.isNone) w := Lib.run_eql_slice_nil (P := Try.prog) w 22 5 a n c n' c' Try.underlying22
set_option maxHeartbeats 1000000 in
theorem clone_any (v : Value) (l : List UInt8) (w : World) (h : Byts w v l) (hn : l.length ≤ 900000) : Calls Try.prog 29 #[v] w (RetV (Fresh w l)) := by
  obtain ⟨ao, cap, rfl, hcap⟩ := h.len
  have q := eql_sl
  cases ao with
  | none =>
    have hl : l = [] := by
      obtain ⟨ao', cap', e, -, h2⟩ := h
      cases l with
      | nil => rfl
      | cons x l => obtain ⟨b, o, e', -⟩ := h2 0 x rfl; subst e'; cases e
    subst hl
    clear h
    go_enter Try.func29, Try.ntmps29
    go_wp2
    go_ret
    exact ⟨_, rfl, World.ownsRow_nil _ _ _ _, Frm.refl _ _⟩
  | some a =>
    have H := Lib.hid h
    clear h
    go_enter Try.func29, Try.ntmps29
    go_wp2_with (at_builtin; refine wpList_app_bytes rfl _ _ rfl w.heap.size _ _ rfl rfl [] l ?_ ?_ ?_ ?_ ?_; (exact own_lit [] (Nat.le_refl _) (by simp)); (exact H.out.frm0 ((Frm.refl _ _).alloc _)); (simp; omega); (simp); intro ao cp w1 hown hgrow; rw [List.nil_append] at hown; have HO := Lib.hid hown; have HG := Lib.hid hgrow; clear hown hgrow)
    go_ret
    exact ⟨_, rfl, by simpa using HO.out, ((Frm.refl [] w).alloc _).grown HG.out (fun k hk => by cases hk; exact .inr (Nat.le_refl _))⟩
/-- what part hands back -/
def PartTo (w : World) (p : Prt) (v : Value) (w' : World) : Prop := ∃ bv, v = pv p bv ∧ Byts w' bv p.b ∧ Frm [] w w'
theorem results_c38 {fn : Func} {p : Tmp} (h : fn.results = #[.cell p 38]) {tmps : Array Value} {w : World} {g : Nat} {A : Array Value} {t : TypeId} {f : Nat × Nat} (hp : tmps.getD p undef = .pointer (some ⟨g, 0, none⟩)) (hg : w.heap[g]? = some (.cells A t f)) (hs : A.size = 4) :
    (results fn tmps).run Try.prog w = .ok (.agg A) w := by
  have hp' : tmps[p]?.getD undef = .pointer (some ⟨g, 0, none⟩) := by simpa using hp
  simp [results, h, hp', asAddr, run_loadVar_row w g t 38 A f _ hg Try.underlying38 rfl (by rw [hs]; kernel_rfl)]
theorem bytes_row (w : World) (s : ByteArray) (c : Nat) (hc : s.size ≤ c) (fr : Nat × Nat) : Byts (w.alloc (.cells (bytesRow s c) 5 fr)) (.slice (some ⟨w.heap.size, 0, none⟩) s.size c) s.data.toList := by
  refine ⟨_, c, by rw [Array.length_toList]; rfl, by rw [Array.length_toList]; exact hc, fun k x hk => ⟨_, 0, rfl, ?_⟩⟩
  have hl : k < s.data.size := by have := lt_of_some hk; simpa using this
  rw [Nat.zero_add, cell_of (heap_alloc_new _ _) k, bytesRow_at s c k hl]
  simp only [Array.getElem?_toList, Array.getElem?_eq_getElem hl, Option.some.injEq] at hk
  subst hk; rfl
set_option maxHeartbeats 1000000 in
theorem part_any (m u c : Int) (s : ByteArray) (w : World) : Calls Try.prog 26 #[.int .i64 m, .int .i64 u, .int .i64 c, .string s] w (RetV (PartTo w ⟨m, u, c, s.data.toList⟩)) := by
  have hcv := fun (W : World) => run_bytes_of_string W 9 22 5 s Try.underlying9 Try.underlying22 Try.underlying5
  go_enter Try.func26, Try.ntmps26
  go_wp2
  have hc := grownCap_ge (w.alloc (Obj.cells #[Value.int IntKind.i64 0, Value.int IntKind.i64 0, Value.int IntKind.i64 0, Value.slice none 0 0] 38)) s.size 0 5
  generalize grownCap (w.alloc (Obj.cells #[Value.int IntKind.i64 0, Value.int IntKind.i64 0, Value.int IntKind.i64 0, Value.slice none 0 0] 38)) s.size 0 5 = cp at hc ⊢
  refine bodyPost_ret (results_c38 rfl rfl (alloc_at (heap_alloc_new _ _)) rfl) rfl ⟨_, rfl, _, rfl, ?_, ?_⟩
  · have h := bytes_row (w.alloc (.cells #[.int .i64 m, .int .i64 u, .int .i64 c, .slice (some ⟨w.heap.size + 1, 0, none⟩) s.size cp] 38)) s cp hc ((bytesRow s cp).size, (bytesRow s cp).size + 1)
    have h2 := h.frm0 ((Frm.refl [] _).drew)
    simpa using h2
  · exact (((Frm.refl [] w).alloc _).alloc _).drew
end Go.Proofs.Ytomjnbcaofebfaa
