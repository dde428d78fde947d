/- num, slices.Clone of bytes, cmp.Less; strings. -/
import Derived.Test.YtefpfcheafbfdaaByt
namespace Go.Proofs.Ytefpfcheafbfdaa
open Go.RowKit Go.BigFrame

theorem str_ne {a b : ByteArray} (h : a ≠ b) : (a.toList == b.toList) = false := by
  cases hb : (a.toList == b.toList) with
  | false => rfl
  | true =>
    have h1 : a.toList = b.toList := eq_of_beq hb
    rw [ByteArray.toList_eq, ByteArray.toList_eq] at h1
    exact absurd (ByteArray.ext (Array.toList_inj.1 h1)) h
theorem str_beq (a b : ByteArray) : (a.toList == b.toList) = decide (a = b) := by
  by_cases h : a = b
  · subst h; simp
  · rw [str_ne h, decide_eq_false h]
theorem txt_eq (a b : List UInt8) : decide (txt a = txt b) = decide (a = b) := by
  by_cases h : a = b
  · subst h; simp
  · rw [decide_eq_false h, decide_eq_false (fun e => h (txt_inj e))]
theorem num_any (e : Int) (w : World) : Calls Try.prog 16 #[.int .i64 e] w (Ret (.int .i64 e) (w = ·)) := by
  go_enter Try.func16, Try.ntmps16
  go_wp2
  go_ret
  exact ⟨rfl, rfl⟩
/-- fresh bytes -/
def Fresh (w : World) (l : List UInt8) (v : Value) (w' : World) : Prop := w'.ownsRow w.heap.size 5 1 v l.length (l.map u8) ∧ Frm [] w w'
theorem Fresh.byts {w w' : World} {l : List UInt8} {v : Value} (h : Fresh w l v w') : Byts w' v l := Byts.of_own h.1
theorem eql_sl (w : World) (a : Option Addr) (n c n' c' : Nat) : (binOp .eql 23 (.slice a n c) (.slice none n' c')).run Try.prog w = .ok (.bool a.isNone) w := Lib.run_eql_slice_nil (P := Try.prog) w 23 5 a n c n' c' Try.underlying23
set_option maxHeartbeats 1000000 in
theorem clone_any (v : Value) (l : List UInt8) (w : World) (h : Byts w v l) (hn : l.length ≤ 900000) : Calls Try.prog 51 #[v] w (RetV (Fresh w l)) := by
  obtain ⟨ao, cap, rfl, hcap⟩ := h.len
  have q := eql_sl
  cases ao with
  | none =>
    have hl : l = [] := by
      obtain ⟨ao', cap', e, -, h2⟩ := h
      cases l with
      | nil => rfl
      | cons x l => obtain ⟨b, o, e', -⟩ := h2 0 x rfl; subst e'; cases e
    subst hl
    clear h
    go_enter Try.func51, Try.ntmps51
    go_wp2
    go_ret
    exact ⟨_, rfl, World.ownsRow_nil _ _ _ _, Frm.refl _ _⟩
  | some a =>
    have H := Lib.hid h
    clear h
    go_enter Try.func51, Try.ntmps51
    go_wp2_with (at_builtin; refine wpList_app_bytes rfl _ _ rfl w.heap.size _ _ rfl rfl [] l ?_ ?_ ?_ ?_ ?_; (exact own_lit [] (Nat.le_refl _) (by simp)); (exact H.out.frm0 ((Frm.refl _ _).alloc _)); (simp; omega); (simp); intro ao cp w1 hown hgrow; rw [List.nil_append] at hown; have HO := Lib.hid hown; have HG := Lib.hid hgrow; clear hown hgrow)
    go_ret
    exact ⟨_, rfl, by simpa using HO.out, ((Frm.refl [] w).alloc _).grown HG.out (fun k hk => by cases hk; exact .inr (Nat.le_refl _))⟩
theorem bytes_row (w : World) (s : ByteArray) (c : Nat) (hc : s.size ≤ c) (fr : Nat × Nat) : Byts (w.alloc (.cells (bytesRow s c) 5 fr)) (.slice (some ⟨w.heap.size, 0, none⟩) s.size c) s.data.toList := by
  refine ⟨_, c, by rw [Array.length_toList]; rfl, by rw [Array.length_toList]; exact hc, fun k x hk => ⟨_, 0, rfl, ?_⟩⟩
  have hl : k < s.data.size := by have := lt_of_some hk; simpa using this
  rw [Nat.zero_add, cell_of (heap_alloc_new _ _) k, bytesRow_at s c k hl]
  simp only [Array.getElem?_toList, Array.getElem?_eq_getElem hl, Option.some.injEq] at hk
  subst hk; rfl
end Go.Proofs.Ytefpfcheafbfdaa
