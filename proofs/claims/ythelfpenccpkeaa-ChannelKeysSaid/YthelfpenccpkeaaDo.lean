/- do: one call, done twice. -/
import Derived.Test.YthelfpenccpkeaaRefC
import Derived.Test.YthelfpenccpkeaaAgr
namespace Go.Proofs.Ythelfpenccpkeaa
open Go.RowKit Go.BigFrame
section
variable {w W W' : World} {cb : Nat} {cls cap : Int} {lv lv' : Value} {LC LL L' : List ByteArray} {F : List Nat}
theorem OS.mark48 (h : OS w cb cls cap lv LC LL F W) {d : Nat} {A : Array Value} (hd : W.heap[d]? = some (.cells A 48 (0, 0))) : d ∉ F ∧ lv.ownBlock ≠ some d := by
  refine ⟨h.c.mark ⟨hd, rfl⟩, fun e => ?_⟩
  rcases h.l with hl | ⟨g, cur, rfl, hb, -⟩
  · obtain ⟨c, hc⟩ := ownBlock_type hl e
    rw [hd] at hc; cases hc
  · cases e
    rw [hd] at hb; cases hb
theorem OS.frmZ (h : OS w cb cls cap lv LC LL F W) {d : Nat} {A : Array Value} (hd : W.heap[d]? = some (.cells A 48 (0, 0))) (hw : w.heap.size ≤ d) (hf : Frm [d] W W') : OS w cb cls cap lv LC LL F W' := by
  obtain ⟨h1, h2⟩ := h.mark48 hd
  exact ⟨h.c.frm hf (fun x hx hy => by simp at hy; subst hy; exact h1 hx), h.l.frm hf (fun k hk hy => by simp at hy; subst hy; exact h2 hk), h.s, h.f, h.o.then hf (by intro x hx; simp at hx; right; omega)⟩
theorem OS.ref (h : OS w cb cls cap lv LC LL F W) (hl : Lf W' lv' L') (hf : Frm [] W W') (hn : ∀ k, lv'.ownBlock = some k → lv.ownBlock = some k ∨ W.heap.size ≤ k) : OS w cb cls cap lv' LC L' F W' :=
  h.left (hf.mono (by simp)) hl hn
theorem OS.chn' (h : OS w cb cls cap lv LC LL F W) (t : ChnTo W cb cls cap L' F W') : ∃ F', OS w cb cls cap lv L' LL F' W' ∧ ∀ (d : Nat) (A : Array Value), W.heap[d]? = some (.cells A 48 (0, 0)) → W'.heap[d]? = some (.cells A 48 (0, 0)) := by
  have hm := fun (d : Nat) (A : Array Value) (hd : W.heap[d]? = some (Obj.cells A 48 (0, 0))) => (h.mark48 hd).1
  obtain ⟨F', h'⟩ := h.chn t
  refine ⟨F', h', fun d A hd => ?_⟩
  obtain ⟨F1, k1, k2, k3⟩ := t
  exact k2.at hd (hm d A hd)
end
theorem results_tct {fn : Func} {p q r : Tmp} (h : fn.results = #[.tmp p, .cell q 48, .tmp r]) {tmps : Array Value} {w : World} {g : Nat} {A : Array Value} {t : TypeId} {v u : Value} (hp : tmps.getD p undef = v) (hq : tmps.getD q undef = .pointer (some ⟨g, 0, none⟩)) (hr : tmps.getD r undef = u) (hg : w.heap[g]? = some (.cells A t (0, 0))) (hs : A.size = 3) :
    (results fn tmps).run Try.prog w = .ok (.tuple #[v, .agg A, u]) w := by
  have hp' : tmps[p]?.getD undef = v := by simpa using hp
  have hq' : tmps[q]?.getD undef = .pointer (some ⟨g, 0, none⟩) := by simpa using hq
  have hr' : tmps[r]?.getD undef = u := by simpa using hr
  simp [results, h, hp', hq', hr', asAddr, run_loadVar_row w g t 48 A (0, 0) _ hg Try.underlying48 rfl (by rw [Try.info48s, hs])]
/-- behind one call -/
def DoTo (w0 w : World) (cls cap : Int) (v : Value) (w' : World) : Prop := ∃ cb lv L F, v = .tuple #[.pointer (some ⟨cb, 0, none⟩), .agg #[.int .i64 cls, .int .i64 cap, lv], .bool true] ∧ OS w0 cb cls cap lv L L F w' ∧ ∀ (d : Nat) (A : Array Value), w.heap[d]? = some (.cells A 48 (0, 0)) → w'.heap[d]? = some (.cells A 48 (0, 0))
def row3 (a b c : Value) (z : Nat) (W : World) : World := ((W.setCell ⟨z, 0, none⟩ a).setCell ⟨z, 1, none⟩ b).setCell ⟨z, 2, none⟩ c
theorem row3_at {a b c : Value} {z : Nat} {W : World} {x y u : Value} (h : W.heap[z]? = some (.cells #[x, y, u] 48 (0, 0))) : (row3 a b c z W).heap[z]? = some (.cells #[a, b, c] 48 (0, 0)) :=
  (block_setCell (block_setCell (block_setCell h 0 a) 1 b) 2 c).trans rfl
theorem row3_frm (a b c : Value) (z : Nat) (W : World) : Frm [z] W (row3 a b c z W) :=
  (((Frm.refl [z] W).setCell _ (.inl (by simp)) _).setCell _ (.inl (by simp)) _).setCell _ (.inl (by simp)) _
/-- a channel, and beside it a copy that goes on -/
structure P2 (w0 : World) (cb db : Nat) (cls cap : Int) (lv : Value) (LC LD : List ByteArray) (F Fd : List Nat) (W : World) : Prop where
  c : Chn W cb cls cap LC F
  os : OS w0 db cls cap lv LD LD Fd W
  dis : ∀ x ∈ F, x ∉ Fd
  own : ∀ k, lv.ownBlock = some k → k ∉ F
  f : ∀ x ∈ F, w0.heap.size ≤ x
theorem P2.frm {w0 W W' : World} {cb db : Nat} {cls cap : Int} {lv : Value} {LC LD : List ByteArray} {F Fd : List Nat} (h : P2 w0 cb db cls cap lv LC LD F Fd W) (hf : Frm [] W W') : P2 w0 cb db cls cap lv LC LD F Fd W' := ⟨h.c.frm hf (by simp), h.os.frm hf, h.dis, h.own, h.f⟩
theorem P2.mk0 {w0 W W' : World} {cb db : Nat} {cls cap : Int} {lv : Value} {L : List ByteArray} {F Fd : List Nat} (h : OS w0 cb cls cap lv L L F W) (hc : Chn W' db cls cap L Fd) (hf : Frm [] W W') (hd : ∀ x ∈ Fd, W.heap.size ≤ x) : P2 w0 cb db cls cap lv L L F Fd W' := by
  have h' := h.frm hf
  have hs := h.o.size
  refine ⟨h'.c, ⟨hc, h'.l, fun k hk => ⟨fun hx => ?_, (h.s k hk).2⟩, fun x hx => by have := hd x hx; omega, h'.o⟩, fun x hx hy => ?_, fun k hk => (h.s k hk).1, h.f⟩
  · have := hd k hx; have := h.l.lt hk; omega
  · have := hd x hy; have := h.c.lt x hx; omega
theorem P2.step {w0 W W' : World} {cb db : Nat} {cls cap : Int} {lv : Value} {LC LD L' : List ByteArray} {F Fd : List Nat} (h : P2 w0 cb db cls cap lv LC LD F Fd W) (t : ChnTo W cb cls cap L' F W') :
    ∃ F', P2 w0 cb db cls cap lv L' LD F' Fd W' ∧ ∀ (d : Nat) (A : Array Value), W.heap[d]? = some (.cells A 48 (0, 0)) → W'.heap[d]? = some (.cells A 48 (0, 0)) := by
  obtain ⟨F', k1, k2, k3⟩ := t
  have hs := h.os.o.size
  refine ⟨F', ⟨k1, ⟨h.os.c.frm k2 (fun x hx hy => h.dis x hy hx), h.os.l.frm k2 (fun k hk => h.own k hk), h.os.s, h.os.f, h.os.o.then k2 (fun x hx => .inr (h.f x hx))⟩, fun x hx hy => ?_, fun k hk hx => ?_, fun x hx => ?_⟩, fun d A hd => k2.at hd (fun hx => ?_)⟩
  · rcases k3 x hx with h1 | h1
    · exact h.dis x h1 hy
    · have := h.os.c.lt x hy; omega
  · rcases k3 k hx with h1 | h1
    · exact h.own k hk h1
    · have := h.os.l.lt hk; omega
  · rcases k3 x hx with h1 | h1
    · exact h.f x h1
    · omega
  · exact h.c.mark ⟨hd, rfl⟩ hx
set_option maxHeartbeats 4000000 in
set_option maxRecDepth 100000 in
theorem do_put (w0 : World) (cb : Nat) (cls cap : Int) (lv : Value) (L : List ByteArray) (F : List Nat) (what : Int) (ms : ByteArray) (pl : Int) (w : World) (h : OS w0 cb cls cap lv L L F w) (hw : what = 0 ∨ what = 1 ∨ what = 2) :
    Calls Try.prog 21 #[.pointer (some ⟨cb, 0, none⟩), .agg #[.int .i64 cls, .int .i64 cap, lv], .agg #[.int .i64 what, .string ms, .int .i64 pl]] w (RetV (DoTo w0 w cls cap)) := by
  obtain ⟨ao, cp, rfl, -⟩ := h.l.shape
  have HO := Lib.hid h
  have hL64 := h.c.good.lenN
  have HW0 : Hid (w0.heap.size ≤ w.heap.size) := Lib.hid h.o.size
  clear h
  obtain ⟨L', hL'⟩ : ∃ L', putL cap L ms = L' := ⟨_, rfl⟩
  obtain ⟨xe, hxe⟩ : ∃ xe, putE cap L ms = xe := ⟨_, rfl⟩
  have CRef := Lib.hid (fun W (hf : Frm [] w W) => refPut_any cls cap _ L ms W (HO.out.frm hf).l hL64)
  have CCh := Lib.hid (fun W F' lv' LL (ho : OS w0 cb cls cap lv' L LL F' W) => put_all cb cls cap L F' ms W ho.c)
  simp only [hL', hxe] at CRef CCh
  clear hL' hxe
  rcases hw with rfl | rfl | rfl
  · go_enter Try.func21, Try.ntmps21
    go_wp2_with (first
      | (go_at_call 31; go_must (refine (CRef.out _ (((((Frm.refl [] w).alloc _).alloc _).alloc _))).mono ?_; rintro e w1 ⟨v, rfl, lv', rfl, hl, hf, hn⟩; obtain ⟨ao', cp', rfl, -⟩ := hl.shape; have HO1 := Lib.hid ((HO.out.frm (((((Frm.refl [] w).alloc _).alloc _).alloc _))).ref hl hf hn); have HF1 := Lib.hid hf; have HZ1 := Lib.hid (hf.at (alloc_top (o := .cells #[.int .i64 0, .int .i64 0, .slice none 0 0] 48) (n := w.heap.size + 1 + 1) (by simp)) (by simp)); have hxb := hf.at (alloc_at (alloc_top (o := .cells #[.int .i64 0, .string ms, .int .i64 pl] 41) (n := w.heap.size + 1) (by simp))) (by simp); have cx1 : (w1.alloc (.cells #[.int .i64 cls, .int .i64 cap, .slice ao' L'.length cp'] 48)).cell? ⟨w.heap.size + 1, 1, none⟩ = some (.string ms) := cell_of (alloc_at hxb) 1; clear hl hf hn hxb))
      | (go_at_call 11; go_must (refine (CCh.out _ _ _ _ (HO1.out.frm ((Frm.refl [] w1).alloc _))).mono ?_; rintro e w3 ⟨rfl, ht⟩; obtain ⟨F3, ho3, hk⟩ := (HO1.out.frm ((Frm.refl [] w1).alloc _)).chn' ht; have HO3 := Lib.hid ho3; have HN3 := Lib.hid (hk _ _ (alloc_top (n := w1.heap.size) rfl)); have HZ3 := Lib.hid (hk _ _ (alloc_at HZ1.out)); have HK3 := Lib.hid hk; clear ht hk ho3 cx1)))
    clear CRef CCh
    have HSK : Hid (∀ W', Frm [w.heap.size + 1 + 1] w3 W' → W'.cell? ⟨w1.heap.size, 0, none⟩ = some (.int .i64 cls) ∧ W'.cell? ⟨w1.heap.size, 1, none⟩ = some (.int .i64 cap) ∧ W'.cell? ⟨w1.heap.size, 2, none⟩ = some (.slice ao' L'.length cp')) := Lib.hid fun W' hf => by
      have hlt : w.heap.size + 1 + 1 < w1.heap.size := by have := HF1.out.size; simp at this; omega
      have h := cell_of (hf.at HN3.out (by simp; omega))
      exact ⟨h 0, h 1, h 2⟩
    go_wp2
    go_region_held3 (fun W' => W'.cell? ⟨w1.heap.size, 0, none⟩ = some (.int .i64 cls) ∧ W'.cell? ⟨w1.heap.size, 1, none⟩ = some (.int .i64 cap) ∧ W'.cell? ⟨w1.heap.size, 2, none⟩ = some (.slice ao' L'.length cp'))
      (first
        | exact HSK.out _ ((Frm.refl [w.heap.size + 1 + 1] w3).drew)
        | exact HSK.out _ (F4.out.mono (by simp))
        | exact HSK.out _ ((F4.out.mono (by simp)).trans (row3_frm _ _ _ _ _)))
      (first
        | (go_at_call 10; go_must (refine (num_any _ _).mono ?_; rintro e w' ⟨rfl, rfl⟩))
        | (go_at_call 32; go_must (refine (agrees_any cb cls cap L' F3 _ w3.drew (HO3.out.frm ((Frm.refl [] w3).drew)).c (HO3.out.frm ((Frm.refl [] w3).drew)).l).mono ?_; rintro e w4 ⟨rfl, hf⟩; have F4 : Hid (Frm [] w3 w4) := Lib.hid (((Frm.refl [] w3).drew).trans hf); have hz := F4.out.at HZ3.out (by simp); have HZ4 := Lib.hid hz; have z0 := cell_of hz 0; have z1 := cell_of hz 1; have z2 := cell_of hz 2; have f0 := free_of hz 0; have f1 := free_of hz 1; have f2 := free_of hz 2; clear hf hz)))
    go_wp2
    exact bodyPost_ret (results_tct rfl rfl rfl rfl (row3_at HZ4.out) rfl) rfl ⟨_, rfl, cb, _, L', F3, rfl, (HO3.out.frm F4.out).frmZ HZ4.out (by have := HW0.out; omega) (row3_frm _ _ _ _ w4), fun d A hd => (row3_frm _ _ _ _ w4).at (F4.out.at (HK3.out d A (alloc_at (HF1.out.at (alloc_at (alloc_at (alloc_at hd))) (by simp)))) (by simp)) (by have := lt_of_block hd; simp; omega)⟩
  · go_enter Try.func21, Try.ntmps21
    go_wp2_with (first
      | (go_at_call 31; go_must (refine (CRef.out _ (((((Frm.refl [] w).alloc _).alloc _).alloc _))).mono ?_; rintro e w1 ⟨v, rfl, lv', rfl, hl, hf, hn⟩; obtain ⟨ao', cp', rfl, -⟩ := hl.shape; have HO1 := Lib.hid ((HO.out.frm (((((Frm.refl [] w).alloc _).alloc _).alloc _))).ref hl hf hn); have HF1 := Lib.hid hf; have HZ1 := Lib.hid (hf.at (alloc_top (o := .cells #[.int .i64 0, .int .i64 0, .slice none 0 0] 48) (n := w.heap.size + 1 + 1) (by simp)) (by simp)); have hxb := hf.at (alloc_at (alloc_top (o := .cells #[.int .i64 1, .string ms, .int .i64 pl] 41) (n := w.heap.size + 1) (by simp))) (by simp); have cx1 : (w1.alloc (.cells #[.int .i64 cls, .int .i64 cap, .slice ao' L'.length cp'] 48)).cell? ⟨w.heap.size + 1, 1, none⟩ = some (.string ms) := cell_of (alloc_at hxb) 1; clear hl hf hn hxb))
      | (go_at_call 11; go_must (refine (CCh.out _ _ _ _ (HO1.out.frm ((Frm.refl [] w1).alloc _))).mono ?_; rintro e w3 ⟨rfl, ht⟩; obtain ⟨F3, ho3, hk⟩ := (HO1.out.frm ((Frm.refl [] w1).alloc _)).chn' ht; have HO3 := Lib.hid ho3; have HN3 := Lib.hid (hk _ _ (alloc_top (n := w1.heap.size) rfl)); have HZ3 := Lib.hid (hk _ _ (alloc_at HZ1.out)); have HK3 := Lib.hid hk; clear ht hk ho3 cx1)))
    clear CRef CCh
    have HSK : Hid (∀ W', Frm [w.heap.size + 1 + 1] w3 W' → W'.cell? ⟨w1.heap.size, 0, none⟩ = some (.int .i64 cls) ∧ W'.cell? ⟨w1.heap.size, 1, none⟩ = some (.int .i64 cap) ∧ W'.cell? ⟨w1.heap.size, 2, none⟩ = some (.slice ao' L'.length cp')) := Lib.hid fun W' hf => by
      have hlt : w.heap.size + 1 + 1 < w1.heap.size := by have := HF1.out.size; simp at this; omega
      have h := cell_of (hf.at HN3.out (by simp; omega))
      exact ⟨h 0, h 1, h 2⟩
    go_wp2
    go_region_held3 (fun W' => W'.cell? ⟨w1.heap.size, 0, none⟩ = some (.int .i64 cls) ∧ W'.cell? ⟨w1.heap.size, 1, none⟩ = some (.int .i64 cap) ∧ W'.cell? ⟨w1.heap.size, 2, none⟩ = some (.slice ao' L'.length cp'))
      (first
        | exact HSK.out _ ((Frm.refl [w.heap.size + 1 + 1] w3).drew)
        | exact HSK.out _ (F4.out.mono (by simp))
        | exact HSK.out _ ((F4.out.mono (by simp)).trans (row3_frm _ _ _ _ _)))
      (first
        | (go_at_call 10; go_must (refine (num_any _ _).mono ?_; rintro e w' ⟨rfl, rfl⟩))
        | (go_at_call 32; go_must (refine (agrees_any cb cls cap L' F3 _ w3.drew (HO3.out.frm ((Frm.refl [] w3).drew)).c (HO3.out.frm ((Frm.refl [] w3).drew)).l).mono ?_; rintro e w4 ⟨rfl, hf⟩; have F4 : Hid (Frm [] w3 w4) := Lib.hid (((Frm.refl [] w3).drew).trans hf); have hz := F4.out.at HZ3.out (by simp); have HZ4 := Lib.hid hz; have z0 := cell_of hz 0; have z1 := cell_of hz 1; have z2 := cell_of hz 2; have f0 := free_of hz 0; have f1 := free_of hz 1; have f2 := free_of hz 2; clear hf hz)))
    go_wp2
    exact bodyPost_ret (results_tct rfl rfl rfl rfl (row3_at HZ4.out) rfl) rfl ⟨_, rfl, cb, _, L', F3, rfl, (HO3.out.frm F4.out).frmZ HZ4.out (by have := HW0.out; omega) (row3_frm _ _ _ _ w4), fun d A hd => (row3_frm _ _ _ _ w4).at (F4.out.at (HK3.out d A (alloc_at (HF1.out.at (alloc_at (alloc_at (alloc_at hd))) (by simp)))) (by simp)) (by have := lt_of_block hd; simp; omega)⟩
  · go_enter Try.func21, Try.ntmps21
    go_wp2_with (first
      | (go_at_call 31; go_must (refine (CRef.out _ (((((Frm.refl [] w).alloc _).alloc _).alloc _))).mono ?_; rintro e w1 ⟨v, rfl, lv', rfl, hl, hf, hn⟩; obtain ⟨ao', cp', rfl, -⟩ := hl.shape; have HO1 := Lib.hid ((HO.out.frm (((((Frm.refl [] w).alloc _).alloc _).alloc _))).ref hl hf hn); have HF1 := Lib.hid hf; have HZ1 := Lib.hid (hf.at (alloc_top (o := .cells #[.int .i64 0, .int .i64 0, .slice none 0 0] 48) (n := w.heap.size + 1 + 1) (by simp)) (by simp)); have hxb := hf.at (alloc_at (alloc_top (o := .cells #[.int .i64 2, .string ms, .int .i64 pl] 41) (n := w.heap.size + 1) (by simp))) (by simp); have cx1 : (w1.alloc (.cells #[.int .i64 cls, .int .i64 cap, .slice ao' L'.length cp'] 48)).cell? ⟨w.heap.size + 1, 1, none⟩ = some (.string ms) := cell_of (alloc_at hxb) 1; clear hl hf hn hxb))
      | (go_at_call 11; go_must (refine (CCh.out _ _ _ _ (HO1.out.frm ((Frm.refl [] w1).alloc _))).mono ?_; rintro e w3 ⟨rfl, ht⟩; obtain ⟨F3, ho3, hk⟩ := (HO1.out.frm ((Frm.refl [] w1).alloc _)).chn' ht; have HO3 := Lib.hid ho3; have HN3 := Lib.hid (hk _ _ (alloc_top (n := w1.heap.size) rfl)); have HZ3 := Lib.hid (hk _ _ (alloc_at HZ1.out)); have HK3 := Lib.hid hk; clear ht hk ho3 cx1)))
    clear CRef CCh
    have HSK : Hid (∀ W', Frm [w.heap.size + 1 + 1] w3 W' → W'.cell? ⟨w1.heap.size, 0, none⟩ = some (.int .i64 cls) ∧ W'.cell? ⟨w1.heap.size, 1, none⟩ = some (.int .i64 cap) ∧ W'.cell? ⟨w1.heap.size, 2, none⟩ = some (.slice ao' L'.length cp')) := Lib.hid fun W' hf => by
      have hlt : w.heap.size + 1 + 1 < w1.heap.size := by have := HF1.out.size; simp at this; omega
      have h := cell_of (hf.at HN3.out (by simp; omega))
      exact ⟨h 0, h 1, h 2⟩
    go_wp2
    go_region_held3 (fun W' => W'.cell? ⟨w1.heap.size, 0, none⟩ = some (.int .i64 cls) ∧ W'.cell? ⟨w1.heap.size, 1, none⟩ = some (.int .i64 cap) ∧ W'.cell? ⟨w1.heap.size, 2, none⟩ = some (.slice ao' L'.length cp'))
      (first
        | exact HSK.out _ ((Frm.refl [w.heap.size + 1 + 1] w3).drew)
        | exact HSK.out _ (F4.out.mono (by simp))
        | exact HSK.out _ ((F4.out.mono (by simp)).trans (row3_frm _ _ _ _ _)))
      (first
        | (go_at_call 10; go_must (refine (num_any _ _).mono ?_; rintro e w' ⟨rfl, rfl⟩))
        | (go_at_call 32; go_must (refine (agrees_any cb cls cap L' F3 _ w3.drew (HO3.out.frm ((Frm.refl [] w3).drew)).c (HO3.out.frm ((Frm.refl [] w3).drew)).l).mono ?_; rintro e w4 ⟨rfl, hf⟩; have F4 : Hid (Frm [] w3 w4) := Lib.hid (((Frm.refl [] w3).drew).trans hf); have hz := F4.out.at HZ3.out (by simp); have HZ4 := Lib.hid hz; have z0 := cell_of hz 0; have z1 := cell_of hz 1; have z2 := cell_of hz 2; have f0 := free_of hz 0; have f1 := free_of hz 1; have f2 := free_of hz 2; clear hf hz)))
    go_wp2
    exact bodyPost_ret (results_tct rfl rfl rfl rfl (row3_at HZ4.out) rfl) rfl ⟨_, rfl, cb, _, L', F3, rfl, (HO3.out.frm F4.out).frmZ HZ4.out (by have := HW0.out; omega) (row3_frm _ _ _ _ w4), fun d A hd => (row3_frm _ _ _ _ w4).at (F4.out.at (HK3.out d A (alloc_at (HF1.out.at (alloc_at (alloc_at (alloc_at hd))) (by simp)))) (by simp)) (by have := lt_of_block hd; simp; omega)⟩
set_option maxHeartbeats 4000000 in
set_option maxRecDepth 100000 in
theorem do_take (w0 : World) (cb : Nat) (cls cap : Int) (lv : Value) (L : List ByteArray) (F : List Nat) (what : Int) (ms : ByteArray) (pl : Int) (w : World) (h : OS w0 cb cls cap lv L L F w) (hw : what = 3 ∨ what = 4) :
    Calls Try.prog 21 #[.pointer (some ⟨cb, 0, none⟩), .agg #[.int .i64 cls, .int .i64 cap, lv], .agg #[.int .i64 what, .string ms, .int .i64 pl]] w (RetV (DoTo w0 w cls cap)) := by
  obtain ⟨ao, cp, rfl, -⟩ := h.l.shape
  have HO := Lib.hid h
  have hL64 := h.c.good.lenN
  have HW0 : Hid (w0.heap.size ≤ w.heap.size) := Lib.hid h.o.size
  clear h
  obtain ⟨L', hL'⟩ : ∃ L', takeL cls L pl = L' := ⟨_, rfl⟩
  obtain ⟨xe, hxe⟩ : ∃ xe, takeE cls L pl = xe := ⟨_, rfl⟩
  obtain ⟨mm, hmm⟩ : ∃ mm, takeM cls L pl = mm := ⟨_, rfl⟩
  have CRef := Lib.hid (fun W (hf : Frm [] w W) => refTake_any cls cap _ L pl W (HO.out.frm hf).l hL64)
  have CCh := Lib.hid (fun W F' lv' LL (ho : OS w0 cb cls cap lv' L LL F' W) => take_any cb cls cap L F' pl W ho.c)
  simp only [hL', hxe, hmm] at CRef CCh
  clear hL' hxe hmm
  rcases hw with rfl | rfl
  · go_enter Try.func21, Try.ntmps21
    go_wp2_with (first
      | (go_at_call 33; go_must (refine (CRef.out _ (((((Frm.refl [] w).alloc _).alloc _).alloc _))).mono ?_; rintro e w1 ⟨v, rfl, lv', rfl, hl, hf, hn⟩; obtain ⟨ao', cp', rfl, -⟩ := hl.shape; have HO1 := Lib.hid ((HO.out.frm (((((Frm.refl [] w).alloc _).alloc _).alloc _))).ref hl hf hn); have HF1 := Lib.hid hf; have HZ1 := Lib.hid (hf.at (alloc_top (o := .cells #[.int .i64 0, .int .i64 0, .slice none 0 0] 48) (n := w.heap.size + 1 + 1) (by simp)) (by simp)); have hxb := hf.at (alloc_at (alloc_top (o := .cells #[.int .i64 3, .string ms, .int .i64 pl] 41) (n := w.heap.size + 1) (by simp))) (by simp); have cx1 : (w1.alloc (.cells #[.int .i64 cls, .int .i64 cap, .slice ao' L'.length cp'] 48)).cell? ⟨w.heap.size + 1, 2, none⟩ = some (.int .i64 pl) := cell_of (alloc_at hxb) 2; clear hl hf hn hxb))
      | (go_at_call 18; go_must (refine (CCh.out _ _ _ _ (HO1.out.frm ((Frm.refl [] w1).alloc _))).mono ?_; rintro e w3 ⟨rfl, ht⟩; obtain ⟨F3, ho3, hk⟩ := (HO1.out.frm ((Frm.refl [] w1).alloc _)).chn' ht; have HO3 := Lib.hid ho3; have HN3 := Lib.hid (hk _ _ (alloc_top (n := w1.heap.size) rfl)); have HZ3 := Lib.hid (hk _ _ (alloc_at HZ1.out)); have HK3 := Lib.hid hk; clear ht hk ho3 cx1)))
    clear CRef CCh
    have HSK : Hid (∀ W', Frm [w.heap.size + 1 + 1] w3 W' → W'.cell? ⟨w1.heap.size, 0, none⟩ = some (.int .i64 cls) ∧ W'.cell? ⟨w1.heap.size, 1, none⟩ = some (.int .i64 cap) ∧ W'.cell? ⟨w1.heap.size, 2, none⟩ = some (.slice ao' L'.length cp')) := Lib.hid fun W' hf => by
      have hlt : w.heap.size + 1 + 1 < w1.heap.size := by have := HF1.out.size; simp at this; omega
      have h := cell_of (hf.at HN3.out (by simp; omega))
      exact ⟨h 0, h 1, h 2⟩
    go_wp2
    go_region_held3 (fun W' => W'.cell? ⟨w1.heap.size, 0, none⟩ = some (.int .i64 cls) ∧ W'.cell? ⟨w1.heap.size, 1, none⟩ = some (.int .i64 cap) ∧ W'.cell? ⟨w1.heap.size, 2, none⟩ = some (.slice ao' L'.length cp'))
      (first
        | exact HSK.out _ ((Frm.refl [w.heap.size + 1 + 1] w3).drew)
        | exact HSK.out _ (F4.out.mono (by simp))
        | exact HSK.out _ ((F4.out.mono (by simp)).trans (row3_frm _ _ _ _ _)))
      (first
        | (go_at_call 10; go_must (refine (num_any _ _).mono ?_; rintro e w' ⟨rfl, rfl⟩))
        | (go_at_call 32; go_must (refine (agrees_any cb cls cap L' F3 _ w3.drew (HO3.out.frm ((Frm.refl [] w3).drew)).c (HO3.out.frm ((Frm.refl [] w3).drew)).l).mono ?_; rintro e w4 ⟨rfl, hf⟩; have F4 : Hid (Frm [] w3 w4) := Lib.hid (((Frm.refl [] w3).drew).trans hf); have hz := F4.out.at HZ3.out (by simp); have HZ4 := Lib.hid hz; have z0 := cell_of hz 0; have z1 := cell_of hz 1; have z2 := cell_of hz 2; have f0 := free_of hz 0; have f1 := free_of hz 1; have f2 := free_of hz 2; clear hf hz)))
    go_wp2
    exact bodyPost_ret (results_tct rfl rfl rfl rfl (row3_at HZ4.out) rfl) rfl ⟨_, rfl, cb, _, L', F3, rfl, (HO3.out.frm F4.out).frmZ HZ4.out (by have := HW0.out; omega) (row3_frm _ _ _ _ w4), fun d A hd => (row3_frm _ _ _ _ w4).at (F4.out.at (HK3.out d A (alloc_at (HF1.out.at (alloc_at (alloc_at (alloc_at hd))) (by simp)))) (by simp)) (by have := lt_of_block hd; simp; omega)⟩
  · go_enter Try.func21, Try.ntmps21
    go_wp2_with (first
      | (go_at_call 33; go_must (refine (CRef.out _ (((((Frm.refl [] w).alloc _).alloc _).alloc _))).mono ?_; rintro e w1 ⟨v, rfl, lv', rfl, hl, hf, hn⟩; obtain ⟨ao', cp', rfl, -⟩ := hl.shape; have HO1 := Lib.hid ((HO.out.frm (((((Frm.refl [] w).alloc _).alloc _).alloc _))).ref hl hf hn); have HF1 := Lib.hid hf; have HZ1 := Lib.hid (hf.at (alloc_top (o := .cells #[.int .i64 0, .int .i64 0, .slice none 0 0] 48) (n := w.heap.size + 1 + 1) (by simp)) (by simp)); have hxb := hf.at (alloc_at (alloc_top (o := .cells #[.int .i64 4, .string ms, .int .i64 pl] 41) (n := w.heap.size + 1) (by simp))) (by simp); have cx1 : (w1.alloc (.cells #[.int .i64 cls, .int .i64 cap, .slice ao' L'.length cp'] 48)).cell? ⟨w.heap.size + 1, 2, none⟩ = some (.int .i64 pl) := cell_of (alloc_at hxb) 2; clear hl hf hn hxb))
      | (go_at_call 18; go_must (refine (CCh.out _ _ _ _ (HO1.out.frm ((Frm.refl [] w1).alloc _))).mono ?_; rintro e w3 ⟨rfl, ht⟩; obtain ⟨F3, ho3, hk⟩ := (HO1.out.frm ((Frm.refl [] w1).alloc _)).chn' ht; have HO3 := Lib.hid ho3; have HN3 := Lib.hid (hk _ _ (alloc_top (n := w1.heap.size) rfl)); have HZ3 := Lib.hid (hk _ _ (alloc_at HZ1.out)); have HK3 := Lib.hid hk; clear ht hk ho3 cx1)))
    clear CRef CCh
    have HSK : Hid (∀ W', Frm [w.heap.size + 1 + 1] w3 W' → W'.cell? ⟨w1.heap.size, 0, none⟩ = some (.int .i64 cls) ∧ W'.cell? ⟨w1.heap.size, 1, none⟩ = some (.int .i64 cap) ∧ W'.cell? ⟨w1.heap.size, 2, none⟩ = some (.slice ao' L'.length cp')) := Lib.hid fun W' hf => by
      have hlt : w.heap.size + 1 + 1 < w1.heap.size := by have := HF1.out.size; simp at this; omega
      have h := cell_of (hf.at HN3.out (by simp; omega))
      exact ⟨h 0, h 1, h 2⟩
    go_wp2
    go_region_held3 (fun W' => W'.cell? ⟨w1.heap.size, 0, none⟩ = some (.int .i64 cls) ∧ W'.cell? ⟨w1.heap.size, 1, none⟩ = some (.int .i64 cap) ∧ W'.cell? ⟨w1.heap.size, 2, none⟩ = some (.slice ao' L'.length cp'))
      (first
        | exact HSK.out _ ((Frm.refl [w.heap.size + 1 + 1] w3).drew)
        | exact HSK.out _ (F4.out.mono (by simp))
        | exact HSK.out _ ((F4.out.mono (by simp)).trans (row3_frm _ _ _ _ _)))
      (first
        | (go_at_call 10; go_must (refine (num_any _ _).mono ?_; rintro e w' ⟨rfl, rfl⟩))
        | (go_at_call 32; go_must (refine (agrees_any cb cls cap L' F3 _ w3.drew (HO3.out.frm ((Frm.refl [] w3).drew)).c (HO3.out.frm ((Frm.refl [] w3).drew)).l).mono ?_; rintro e w4 ⟨rfl, hf⟩; have F4 : Hid (Frm [] w3 w4) := Lib.hid (((Frm.refl [] w3).drew).trans hf); have hz := F4.out.at HZ3.out (by simp); have HZ4 := Lib.hid hz; have z0 := cell_of hz 0; have z1 := cell_of hz 1; have z2 := cell_of hz 2; have f0 := free_of hz 0; have f1 := free_of hz 1; have f2 := free_of hz 2; clear hf hz)))
    go_wp2
    exact bodyPost_ret (results_tct rfl rfl rfl rfl (row3_at HZ4.out) rfl) rfl ⟨_, rfl, cb, _, L', F3, rfl, (HO3.out.frm F4.out).frmZ HZ4.out (by have := HW0.out; omega) (row3_frm _ _ _ _ w4), fun d A hd => (row3_frm _ _ _ _ w4).at (F4.out.at (HK3.out d A (alloc_at (HF1.out.at (alloc_at (alloc_at (alloc_at hd))) (by simp)))) (by simp)) (by have := lt_of_block hd; simp; omega)⟩
set_option maxHeartbeats 4000000 in
set_option maxRecDepth 100000 in
theorem do_lose (w0 : World) (cb : Nat) (cls cap : Int) (lv : Value) (L : List ByteArray) (F : List Nat) (what : Int) (ms : ByteArray) (pl : Int) (w : World) (h : OS w0 cb cls cap lv L L F w) (hw : what = 5) :
    Calls Try.prog 21 #[.pointer (some ⟨cb, 0, none⟩), .agg #[.int .i64 cls, .int .i64 cap, lv], .agg #[.int .i64 what, .string ms, .int .i64 pl]] w (RetV (DoTo w0 w cls cap)) := by
  obtain ⟨ao, cp, rfl, -⟩ := h.l.shape
  have HO := Lib.hid h
  have hL64 := h.c.good.lenN
  have HW0 : Hid (w0.heap.size ≤ w.heap.size) := Lib.hid h.o.size
  clear h
  obtain ⟨L', hL'⟩ : ∃ L', loseL cls L = L' := ⟨_, rfl⟩
  obtain ⟨xe, hxe⟩ : ∃ xe, loseE cls L = xe := ⟨_, rfl⟩
  obtain ⟨mm, hmm⟩ : ∃ mm, loseM cls L = mm := ⟨_, rfl⟩
  have CRef := Lib.hid (fun W (hf : Frm [] w W) => refLose_any cls cap _ L W (HO.out.frm hf).l hL64)
  have CCh := Lib.hid (fun W F' lv' LL (ho : OS w0 cb cls cap lv' L LL F' W) => lose_any cb cls cap L F' W ho.c)
  simp only [hL', hxe, hmm] at CRef CCh
  clear hL' hxe hmm
  subst hw
  go_enter Try.func21, Try.ntmps21
  go_wp2_with (first
    | (go_at_call 34; go_must (refine (CRef.out _ (((((Frm.refl [] w).alloc _).alloc _).alloc _))).mono ?_; rintro e w1 ⟨v, rfl, lv', rfl, hl, hf, hn⟩; obtain ⟨ao', cp', rfl, -⟩ := hl.shape; have HO1 := Lib.hid ((HO.out.frm (((((Frm.refl [] w).alloc _).alloc _).alloc _))).ref hl hf hn); have HF1 := Lib.hid hf; have HZ1 := Lib.hid (hf.at (alloc_top (o := .cells #[.int .i64 0, .int .i64 0, .slice none 0 0] 48) (n := w.heap.size + 1 + 1) (by simp)) (by simp)); have hxb := hf.at (alloc_at (alloc_top (o := .cells #[.int .i64 5, .string ms, .int .i64 pl] 41) (n := w.heap.size + 1) (by simp))) (by simp); have cx1 : (w1.alloc (.cells #[.int .i64 cls, .int .i64 cap, .slice ao' L'.length cp'] 48)).cell? ⟨w.heap.size + 1, 2, none⟩ = some (.int .i64 pl) := cell_of (alloc_at hxb) 2; clear hl hf hn hxb))
    | (go_at_call 17; go_must (refine (CCh.out _ _ _ _ (HO1.out.frm ((Frm.refl [] w1).alloc _))).mono ?_; rintro e w3 ⟨rfl, ht⟩; obtain ⟨F3, ho3, hk⟩ := (HO1.out.frm ((Frm.refl [] w1).alloc _)).chn' ht; have HO3 := Lib.hid ho3; have HN3 := Lib.hid (hk _ _ (alloc_top (n := w1.heap.size) rfl)); have HZ3 := Lib.hid (hk _ _ (alloc_at HZ1.out)); have HK3 := Lib.hid hk; clear ht hk ho3 cx1)))
  clear CRef CCh
  have HSK : Hid (∀ W', Frm [w.heap.size + 1 + 1] w3 W' → W'.cell? ⟨w1.heap.size, 0, none⟩ = some (.int .i64 cls) ∧ W'.cell? ⟨w1.heap.size, 1, none⟩ = some (.int .i64 cap) ∧ W'.cell? ⟨w1.heap.size, 2, none⟩ = some (.slice ao' L'.length cp')) := Lib.hid fun W' hf => by
    have hlt : w.heap.size + 1 + 1 < w1.heap.size := by have := HF1.out.size; simp at this; omega
    have h := cell_of (hf.at HN3.out (by simp; omega))
    exact ⟨h 0, h 1, h 2⟩
  go_wp2
  go_region_held3 (fun W' => W'.cell? ⟨w1.heap.size, 0, none⟩ = some (.int .i64 cls) ∧ W'.cell? ⟨w1.heap.size, 1, none⟩ = some (.int .i64 cap) ∧ W'.cell? ⟨w1.heap.size, 2, none⟩ = some (.slice ao' L'.length cp'))
    (first
      | exact HSK.out _ ((Frm.refl [w.heap.size + 1 + 1] w3).drew)
      | exact HSK.out _ (F4.out.mono (by simp))
      | exact HSK.out _ ((F4.out.mono (by simp)).trans (row3_frm _ _ _ _ _)))
    (first
      | (go_at_call 10; go_must (refine (num_any _ _).mono ?_; rintro e w' ⟨rfl, rfl⟩))
      | (go_at_call 32; go_must (refine (agrees_any cb cls cap L' F3 _ w3.drew (HO3.out.frm ((Frm.refl [] w3).drew)).c (HO3.out.frm ((Frm.refl [] w3).drew)).l).mono ?_; rintro e w4 ⟨rfl, hf⟩; have F4 : Hid (Frm [] w3 w4) := Lib.hid (((Frm.refl [] w3).drew).trans hf); have hz := F4.out.at HZ3.out (by simp); have HZ4 := Lib.hid hz; have z0 := cell_of hz 0; have z1 := cell_of hz 1; have z2 := cell_of hz 2; have f0 := free_of hz 0; have f1 := free_of hz 1; have f2 := free_of hz 2; clear hf hz)))
  go_wp2
  exact bodyPost_ret (results_tct rfl rfl rfl rfl (row3_at HZ4.out) rfl) rfl ⟨_, rfl, cb, _, L', F3, rfl, (HO3.out.frm F4.out).frmZ HZ4.out (by have := HW0.out; omega) (row3_frm _ _ _ _ w4), fun d A hd => (row3_frm _ _ _ _ w4).at (F4.out.at (HK3.out d A (alloc_at (HF1.out.at (alloc_at (alloc_at (alloc_at hd))) (by simp)))) (by simp)) (by have := lt_of_block hd; simp; omega)⟩
set_option maxHeartbeats 4000000 in
set_option maxRecDepth 100000 in
theorem do_copy (w0 : World) (cb : Nat) (cls cap : Int) (lv : Value) (L : List ByteArray) (F : List Nat) (what : Int) (ms : ByteArray) (pl : Int) (w : World) (h : OS w0 cb cls cap lv L L F w) (hw : what ≠ 0 ∧ what ≠ 1 ∧ what ≠ 2 ∧ what ≠ 3 ∧ what ≠ 4 ∧ what ≠ 5) :
    Calls Try.prog 21 #[.pointer (some ⟨cb, 0, none⟩), .agg #[.int .i64 cls, .int .i64 cap, lv], .agg #[.int .i64 what, .string ms, .int .i64 pl]] w (RetV (DoTo w0 w cls cap)) := by
  obtain ⟨ao, cp, rfl, -⟩ := h.l.shape
  have HO := Lib.hid h
  have hL64 := h.c.good.lenN
  have HW0 : Hid (w0.heap.size ≤ w.heap.size) := Lib.hid h.o.size
  clear h
  have y0 : (what == 0) = false := by simp; omega
  have y1 : (what == 1) = false := by simp; omega
  have y2 : (what == 2) = false := by simp; omega
  have y3 : (what == 3) = false := by simp; omega
  have y4 : (what == 4) = false := by simp; omega
  have y5 : (what == 5) = false := by simp; omega
  clear hw
  have CCp := Lib.hid (fun W (hf : Frm [] w W) => copy_any (HO.out.frm hf).c)
  go_enter Try.func21, Try.ntmps21
  go_wp2_with (first
    | (go_at_call 24; go_must (refine (CCp.out _ (((((Frm.refl [] w).alloc _).alloc _).alloc _))).mono ?_; rintro e w1 ⟨v, rfl, db, Fd, rfl, hc, hf, hd⟩; have HP1 := Lib.hid (P2.mk0 (HO.out.frm (((((Frm.refl [] w).alloc _).alloc _).alloc _))) hc hf hd); have HZ1 := Lib.hid (hf.at (alloc_top (o := .cells #[.int .i64 0, .int .i64 0, .slice none 0 0] 48) (n := w.heap.size + 1 + 1) (by simp)) (by simp)); have HR1 := Lib.hid (hf.at (alloc_at (alloc_at (alloc_top (o := .cells #[.int .i64 cls, .int .i64 cap, .slice ao L.length cp] 48) (n := w.heap.size) rfl))) (by simp)); have HF1 := Lib.hid hf; clear hc hf hd))
    | (go_at_call 18; go_must (refine (take_any cb cls cap L F 0 w1 HP1.out.c).mono ?_; rintro e w2 ⟨rfl, ht⟩; obtain ⟨F2, hp2, hk⟩ := HP1.out.step ht; have HP2 := Lib.hid hp2; have HR2 := Lib.hid (hk _ _ HR1.out); have HZ2 := Lib.hid (hk _ _ HZ1.out); have HK2 := Lib.hid hk; clear ht hk hp2))
    | (go_at_call 11; go_must (refine (put_all cb cls cap _ F2 _ w2 HP2.out.c).mono ?_; rintro e w3 ⟨rfl, ht⟩; obtain ⟨F3, hp3, hk⟩ := HP2.out.step ht; have HP3 := Lib.hid hp3; have HN3 := Lib.hid (hk _ _ HR2.out); have HZ3 := Lib.hid (hk _ _ HZ2.out); have HK3 := Lib.hid hk; clear ht hk hp3)))
  have HO3 := Lib.hid HP3.out.os
  have HSK : Hid (∀ W', Frm [w.heap.size + 1 + 1] w3 W' → W'.cell? ⟨w.heap.size, 0, none⟩ = some (.int .i64 cls) ∧ W'.cell? ⟨w.heap.size, 1, none⟩ = some (.int .i64 cap) ∧ W'.cell? ⟨w.heap.size, 2, none⟩ = some (.slice ao L.length cp)) := Lib.hid fun W' hf => by
    have h := cell_of (hf.at HN3.out (by simp; omega))
    exact ⟨h 0, h 1, h 2⟩
  go_wp2
  go_region_held3 (fun W' => W'.cell? ⟨w.heap.size, 0, none⟩ = some (.int .i64 cls) ∧ W'.cell? ⟨w.heap.size, 1, none⟩ = some (.int .i64 cap) ∧ W'.cell? ⟨w.heap.size, 2, none⟩ = some (.slice ao L.length cp))
    (first
      | exact HSK.out _ ((Frm.refl [w.heap.size + 1 + 1] w3).drew)
      | exact HSK.out _ (F4.out.mono (by simp))
      | exact HSK.out _ ((F4.out.mono (by simp)).trans (row3_frm _ _ _ _ _)))
    (first
      | (go_at_call 32; go_must (refine (agrees_any db cls cap L Fd _ w3.drew (HO3.out.frm ((Frm.refl [] w3).drew)).c (HO3.out.frm ((Frm.refl [] w3).drew)).l).mono ?_; rintro e w4 ⟨rfl, hf⟩; have F4 : Hid (Frm [] w3 w4) := Lib.hid (((Frm.refl [] w3).drew).trans hf); have hz := F4.out.at HZ3.out (by simp); have HZ4 := Lib.hid hz; have z0 := cell_of hz 0; have z1 := cell_of hz 1; have z2 := cell_of hz 2; have f0 := free_of hz 0; have f1 := free_of hz 1; have f2 := free_of hz 2; clear hf hz)))
  go_wp2
  exact bodyPost_ret (results_tct rfl rfl rfl rfl (row3_at HZ4.out) rfl) rfl ⟨_, rfl, db, _, L, Fd, rfl, (HO3.out.frm F4.out).frmZ HZ4.out (by have := HW0.out; omega) (row3_frm _ _ _ _ w4), fun d A hd => (row3_frm _ _ _ _ w4).at (F4.out.at (HK3.out d A (HK2.out d A (HF1.out.at (alloc_at (alloc_at (alloc_at hd))) (by simp)))) (by simp)) (by have := lt_of_block hd; simp; omega)⟩
theorem do_any (w0 : World) (cb : Nat) (cls cap : Int) (lv : Value) (L : List ByteArray) (F : List Nat) (what : Int) (ms : ByteArray) (pl : Int) (w : World) (h : OS w0 cb cls cap lv L L F w) :
    Calls Try.prog 21 #[.pointer (some ⟨cb, 0, none⟩), .agg #[.int .i64 cls, .int .i64 cap, lv], .agg #[.int .i64 what, .string ms, .int .i64 pl]] w (RetV (DoTo w0 w cls cap)) := by
  by_cases h1 : what = 0 ∨ what = 1 ∨ what = 2
  · exact do_put w0 cb cls cap lv L F what ms pl w h h1
  · by_cases h2 : what = 3 ∨ what = 4
    · exact do_take w0 cb cls cap lv L F what ms pl w h h2
    · by_cases h3 : what = 5
      · exact do_lose w0 cb cls cap lv L F what ms pl w h h3
      · exact do_copy w0 cb cls cap lv L F what ms pl w h (by omega)
end Go.Proofs.Ythelfpenccpkeaa
