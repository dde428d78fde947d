/- is: a set is as specified. -/
import Derived.Test.YtefpfcheafbfdaaEqs
import Derived.Test.YtefpfcheafbfdaaHeldG
namespace Go.Proofs.Ytefpfcheafbfdaa
open Go.RowKit Go.Maps Go.BigFrame

/-- what '[]byte(s)' lays, and its room -/
def bC (V : World) (b : Wd) : Nat := grownCap V (txt b).size 0 5
def bW (V : World) (b : Wd) : World := V.drew.alloc (.cells (bytesRow (txt b) (bC V b)) 5 ((bytesRow (txt b) (bC V b)).size, (bytesRow (txt b) (bC V b)).size + 1))
theorem bW_run (V : World) (b : Wd) : (convert 9 23 (.string (txt b))).run Try.prog V = .ok (.slice (some ⟨V.heap.size, 0, none⟩) b.length (bC V b)) (bW V b) := by
  have h := run_bytes_of_string (P := Try.prog) V 9 23 5 (txt b) Try.underlying9 Try.underlying23 Try.underlying5
  rw [h, txt_size]
  unfold bW bC
  rw [txt_size]
theorem bW_frm (V : World) (b : Wd) : Frm [] V (bW V b) := ((Frm.refl [] V).drew).alloc _
theorem bW_byts (V : World) (b : Wd) : Byts (bW V b) (.slice (some ⟨V.heap.size, 0, none⟩) b.length (bC V b)) b := by
  have hc : (txt b).size ≤ bC V b := grownCap_ge V (txt b).size 0 5
  have hb := bytes_row V.drew (txt b) (bC V b) hc ((bytesRow (txt b) (bC V b)).size, (bytesRow (txt b) (bC V b)).size + 1)
  have e : (txt b).data.toList = b := by simp [txt]
  rw [e, txt_size] at hb
  exact hb
/-- what stays while a set is looked through -/
structure IX (w : World) (tb : Nat) (L : List Wd) (S : Nat → Prop) (N : Nat) (lv : Value) (Bs : List (Value × Wd)) (V : World) : Prop where
  bs : ∀ p ∈ Bs, Byts V p.1 p.2
  st : St V tb L S N
  tx : Txts V lv L
  fr : Frm [] w V
section
variable {w V V' : World} {tb N : Nat} {L : List Wd} {S : Nat → Prop} {lv : Value} {Bs : List (Value × Wd)}
theorem IX.frm (h : IX w tb L S N lv Bs V) (hf : Frm [] V V') : IX w tb L S N lv Bs V' := ⟨fun p hp => (h.bs p hp).frm0 hf, h.st.frm0 hf, h.tx.frm0 hf, h.fr.trans hf⟩
theorem IX.add {v : Value} {l : Wd} (h : IX w tb L S N lv Bs V) (hb : Byts V v l) : IX w tb L S N lv ((v, l) :: Bs) V := ⟨fun p hp => by
  rcases List.mem_cons.1 hp with rfl | hp
  · exact hb
  · exact h.bs p hp, h.st, h.tx, h.fr⟩
theorem IX.enc {v : Value} {l : Wd} (h : IX w tb L S N lv ((v, l) :: Bs) V) : Byts V v l := h.bs (v, l) List.mem_cons_self
theorem WdR.frm0 {B base : Nat} {u : Value} {M : List Wd} (h : WdR B base u M V) (hf : Frm [] V V') : WdR B base u M V' := ⟨hf.at h.1 (by simp), h.2.frm0 hf⟩
theorem IX.byt (h : IX w tb L S N lv Bs V) (b : Wd) : IX w tb L S N lv Bs (bW V b) := h.frm (bW_frm V b)
set_option maxHeartbeats 8000000 in
set_option maxRecDepth 100000 in
theorem is_any (h : St w tb L S N) (ht : Txts w lv L) (b : Wd) (hb : b.length ≤ 1000) (many : Int) : Calls Try.prog 17 #[.pointer (some ⟨tb, 0, none⟩), lv, .string (txt b), .int .i64 many] w (Ret (.bool true) (Frm [] w)) := by
  have X0 : Hid (IX w tb L S N lv [] w) := Lib.hid ⟨by simp, h, ht, Frm.refl _ _⟩
  have hcb := fun V => bW_run V b
  have HBY := Lib.hid (fun V => bW_byts V b)
  have hlen := h.len
  have H64 : Hid (∀ x ∈ L, x.length ≤ 64) := Lib.hid h.h64
  have HBG : Hid (∀ x ∈ L, x.length ≤ 1000000) := Lib.hid (fun x hx => by have := h.h64 x hx; omega)
  have HLE := Lib.hid hlen
  have C39 : Hid (Calls Try.prog 39 #[lv, .string (txt b)] w (Ret (.tuple #[.int .i64 (longL (pre L) (memB L) b).1, .bool (longL (pre L) (memB L) b).2]) (w = ·))) := Lib.hid (by
    rw [← long_eq]; exact rlong_any ht (by omega) b HBG.out)
  have C40 := Lib.hid (rmark_any ht (by omega) b (by omega))
  have C32 : Hid (∀ V Bs, IX w tb L S N lv Bs V → Calls Try.prog 32 #[.pointer (some ⟨tb, 0, none⟩), .string (txt b), .int .i64 (longL (pre L) (memB L) b).1, .bool (longL (pre L) (memB L) b).2] V (Ret (.bool true) (Frm [] V))) := Lib.hid fun V Bs hx => lg_true hx.st b hb
  have C35 : Hid (∀ V Bs, IX w tb L S N lv Bs V → Calls Try.prog 35 #[.pointer (some ⟨tb, 0, none⟩), .string (txt b), .int .i64 (markL L b).1, .int .i64 (markL L b).2] V (Ret (.bool true) (Frm [] V))) := Lib.hid fun V Bs hx => mk_true hx.st b hb
  have C44 : Hid (∀ V Bs, IX w tb L S N lv Bs V → Calls Try.prog 44 #[lv] V (Ret (.string (txt (commL L))) (Frm [] V))) := Lib.hid fun V Bs hx => by
    rw [← comm_eq H64.out]; exact rcomm_any hx.tx (by have := HLE.out; omega) HBG.out
  have HSR := Lib.hid h.srt
  have C45 : Hid (∀ V Bs, IX w tb L S N lv Bs V → Calls Try.prog 45 #[lv] V (Ret (.bool (freeL L)) (Frm [] V))) := Lib.hid fun V Bs hx => by
    rw [← free_eq HSR.out H64.out]; exact rfree_any hx.tx (by have := HLE.out; omega) HBG.out
  have C34 : Hid (∀ V Bs, IX w tb L S N lv Bs V → Calls Try.prog 34 #[.pointer (some ⟨tb, 0, none⟩)] V (RetV (Fresh V (commL L)))) := Lib.hid fun V Bs hx => by
    obtain ⟨NB, MB, h2, -⟩ := hx.st.ex
    exact common_any h2 H64.out
  have C25 : Hid (∀ V Bs, IX w tb L S N lv Bs V → Calls Try.prog 25 #[.pointer (some ⟨tb, 0, none⟩)] V (Ret (.int .i64 L.length) (V = ·))) := Lib.hid fun V Bs hx => hx.st.len'
  obtain ⟨lm, hlm⟩ : ∃ lm, (longL (pre L) (memB L) b).1 = lm := ⟨_, rfl⟩
  obtain ⟨li, hli⟩ : ∃ li, (longL (pre L) (memB L) b).2 = li := ⟨_, rfl⟩
  obtain ⟨mm, hmm⟩ : ∃ mm, (markL L b).1 = mm := ⟨_, rfl⟩
  obtain ⟨mi, hmi⟩ : ∃ mi, (markL L b).2 = mi := ⟨_, rfl⟩
  rw [hlm, hli] at C39 C32
  rw [hmm, hmi] at C40 C35
  obtain ⟨n, hn⟩ : ∃ n, L.length = n := ⟨_, rfl⟩
  have HN := Lib.hid hn
  have HL6 : Hid (L.length ≤ 100000) := Lib.hid (by omega)
  have HL7 : Hid (L.length ≤ 1000000) := Lib.hid (by omega)
  have HB6 : Hid (b.length ≤ 1000000) := Lib.hid (by omega)
  have HWL : Hid ((withP L b).length ≤ 1000) := Lib.hid (Nat.le_trans (List.length_filter_le _ _) hlen)
  have HW6 : Hid (∀ x ∈ withP L b, x.length ≤ 64) := Lib.hid (fun x hx => H64.out x (mem_with.1 hx).1)
  obtain ⟨la, lc, rfl, -⟩ := ht.len
  rw [hn] at X0 C25 C39 C32 C40 C35 C44 C45 C34 ⊢
  have HB := Lib.hid hb
  obtain ⟨nb, hnb⟩ : ∃ nb, b.length = nb := ⟨_, rfl⟩
  rw [hnb] at hcb HBY
  clear h ht hlm hli hmm hmi hn hlen hb hnb
  go_enter Try.func17, Try.ntmps17
  go_wp2_with (first
    | (go_at_call 39; go_must (refine C39.out.mono ?_; clear C39; rintro e w' ⟨rfl, rfl⟩))
    | (go_at_call 40; go_must (refine C40.out.mono ?_; clear C40; rintro e w1 ⟨rfl, hf⟩; have X1 := Lib.hid (X0.out.frm hf); clear hf X0))
    | (go_at_call 31; go_must (refine X1.out.st.encode.mono ?_; rintro e w2 ⟨v, rfl, v0, rfl, he, hf⟩; obtain ⟨ea, ec, rfl⟩ := own_shape he; have X2 := Lib.hid ((X1.out.frm hf).add (Byts.of_own he)); clear hf he X1)))
  simp only [List.append_eq, List.cons_append, List.nil_append]
  have X := Lib.hid (X2.out.frm (Frm.refl [] w2).drew)
  clear X2
  refine heldG_start (by kernel_rfl) ?_
  refine heldG_take (i := 0) (.pointer (some ⟨tb, 0, none⟩)) rfl (by kernel_rfl) (by kernel_rfl) (by kernel_rfl) (fun _ _ _ h => h) (by rfl) (fun w' hW => ?_) ?_
  · go_simp
  try simp only [List.getElem_toArray, List.getElem_cons_zero, Act.put, List.setIfInBounds_toArray, List.set_cons_zero, List.set_cons_succ]
  refine heldG_take (i := 2) (.slice la n lc) rfl (by kernel_rfl) (by kernel_rfl) (by kernel_rfl) (fun _ _ _ h => h) (by rfl) (fun w' hW => ?_) ?_
  · go_simp
  try simp only [List.getElem_toArray, List.getElem_cons_zero, List.getElem_cons_succ, Act.put, List.setIfInBounds_toArray, List.set_cons_zero, List.set_cons_succ]
  refine heldG_take (i := 3) (.int .i64 n) rfl (by kernel_rfl) (by kernel_rfl) (by kernel_rfl) (fun _ _ _ h => h) (by rfl) (fun w' hW => ?_) ?_
  · go_simp
  try simp only [List.getElem_toArray, List.getElem_cons_zero, List.getElem_cons_succ, Act.put, List.setIfInBounds_toArray, List.set_cons_zero, List.set_cons_succ]
  refine heldG_step (i := 1) rfl (by kernel_rfl) (by rfl) (fun K hK => ?_)
  go_simp
  refine (C25.out _ _ X.out).mono ?_
  rintro e w' ⟨rfl, rfl⟩
  refine hK.out _ _ (Frm.refl _ _) ?_
  clear hK K
  try simp only [List.getElem_toArray, List.getElem_cons_zero, List.getElem_cons_succ, Act.put, List.setIfInBounds_toArray, List.set_cons_zero, List.set_cons_succ]
  refine heldG_take (i := 4) (.bool true) rfl (by kernel_rfl) (by kernel_rfl) (by kernel_rfl) (fun _ _ _ h => h) (by rfl) (fun w' hW => ?_) ?_
  · go_simp
  try simp only [List.getElem_toArray, List.getElem_cons_zero, List.getElem_cons_succ, Act.put, List.setIfInBounds_toArray, List.set_cons_zero, List.set_cons_succ]
  refine heldG_take (i := 5) (.bool true) rfl (by kernel_rfl) (by kernel_rfl) (by kernel_rfl) (fun _ _ _ h => h) (by rfl) (fun w' hW => ?_) ?_
  · go_simp
  try simp only [List.getElem_toArray, List.getElem_cons_zero, List.getElem_cons_succ, Act.put, List.setIfInBounds_toArray, List.set_cons_zero, List.set_cons_succ]
  refine heldG_take (i := 6) (.pointer (some ⟨tb, 0, none⟩)) rfl (by kernel_rfl) (by kernel_rfl) (by kernel_rfl) (fun _ _ _ h => h) (by rfl) (fun w' hW => ?_) ?_
  · go_simp
  try simp only [List.getElem_toArray, List.getElem_cons_zero, List.getElem_cons_succ, Act.put, List.setIfInBounds_toArray, List.set_cons_zero, List.set_cons_succ]
  refine heldG_take (i := 8) (.slice la n lc) rfl (by kernel_rfl) (by kernel_rfl) (by kernel_rfl) (fun _ _ _ h => h) (by rfl) (fun w' hW => ?_) ?_
  · go_simp
  try simp only [List.getElem_toArray, List.getElem_cons_zero, List.getElem_cons_succ, Act.put, List.setIfInBounds_toArray, List.set_cons_zero, List.set_cons_succ]
  refine heldG_step (i := 7) rfl (by kernel_rfl) (by rfl) (fun K hK => ?_)
  go_simp
  refine (X.out.st.nodes).mono ?_
  rintro e w3 ⟨rfl, hf⟩
  have X := Lib.hid (X.out.frm hf)
  refine hK.out _ _ (hf) ?_
  clear hK K
  try simp only [List.getElem_toArray, List.getElem_cons_zero, List.getElem_cons_succ, Act.put, List.setIfInBounds_toArray, List.set_cons_zero, List.set_cons_succ]
  clear hf
  refine heldG_step (i := 9) rfl (by kernel_rfl) (by rfl) (fun K hK => ?_)
  go_simp
  refine (rnodes_any X.out.tx HLE.out H64.out).mono ?_
  rintro e w4 ⟨rfl, hf⟩
  have X := Lib.hid (X.out.frm hf)
  refine hK.out _ _ (hf) ?_
  clear hK K
  try simp only [List.getElem_toArray, List.getElem_cons_zero, List.getElem_cons_succ, Act.put, List.setIfInBounds_toArray, List.set_cons_zero, List.set_cons_succ]
  clear hf
  refine heldG_take (i := 10) (.bool true) rfl (by kernel_rfl) (by kernel_rfl) (by kernel_rfl) (fun _ _ _ h => h) (by rfl) (fun w' hW => ?_) ?_
  · go_simp
  try simp only [List.getElem_toArray, List.getElem_cons_zero, List.getElem_cons_succ, Act.put, List.setIfInBounds_toArray, List.set_cons_zero, List.set_cons_succ]
  refine heldG_take (i := 11) (.bool true) rfl (by kernel_rfl) (by kernel_rfl) (by kernel_rfl) (fun _ _ _ h => h) (by rfl) (fun w' hW => ?_) ?_
  · go_simp
  try simp only [List.getElem_toArray, List.getElem_cons_zero, List.getElem_cons_succ, Act.put, List.setIfInBounds_toArray, List.set_cons_zero, List.set_cons_succ]
  refine heldG_take (i := 12) (.bool true) rfl (by kernel_rfl) (by kernel_rfl) (by kernel_rfl) (fun _ _ _ h => h) (by rfl) (fun w' hW => ?_) ?_
  · go_simp
  try simp only [List.getElem_toArray, List.getElem_cons_zero, List.getElem_cons_succ, Act.put, List.setIfInBounds_toArray, List.set_cons_zero, List.set_cons_succ]
  refine heldG_take (i := 13) (.pointer (some ⟨tb, 0, none⟩)) rfl (by kernel_rfl) (by kernel_rfl) (by kernel_rfl) (fun _ _ _ h => h) (by rfl) (fun w' hW => ?_) ?_
  · go_simp
  try simp only [List.getElem_toArray, List.getElem_cons_zero, List.getElem_cons_succ, Act.put, List.setIfInBounds_toArray, List.set_cons_zero, List.set_cons_succ]
  refine heldG_take (i := 14) (.string (txt b)) rfl (by kernel_rfl) (by kernel_rfl) (by kernel_rfl) (fun _ _ _ h => h) (by rfl) (fun w' hW => ?_) ?_
  · go_simp
  try simp only [List.getElem_toArray, List.getElem_cons_zero, List.getElem_cons_succ, Act.put, List.setIfInBounds_toArray, List.set_cons_zero, List.set_cons_succ]
  refine heldG_take (i := 17) (.slice la n lc) rfl (by kernel_rfl) (by kernel_rfl) (by kernel_rfl) (fun _ _ _ h => h) (by rfl) (fun w' hW => ?_) ?_
  · go_simp
  try simp only [List.getElem_toArray, List.getElem_cons_zero, List.getElem_cons_succ, Act.put, List.setIfInBounds_toArray, List.set_cons_zero, List.set_cons_succ]
  refine heldG_take (i := 18) (.string (txt b)) rfl (by kernel_rfl) (by kernel_rfl) (by kernel_rfl) (fun _ _ _ h => h) (by rfl) (fun w' hW => ?_) ?_
  · go_simp
  try simp only [List.getElem_toArray, List.getElem_cons_zero, List.getElem_cons_succ, Act.put, List.setIfInBounds_toArray, List.set_cons_zero, List.set_cons_succ]
  refine heldG_step (i := 15) rfl (by kernel_rfl) (by rfl) (fun K hK => ?_)
  go_simp
  refine hK.out _ _ (bW_frm _ _) ?_
  clear hK K
  try simp only [List.getElem_toArray, List.getElem_cons_zero, List.getElem_cons_succ, Act.put, List.setIfInBounds_toArray, List.set_cons_zero, List.set_cons_succ]
  have X := Lib.hid (X.out.byt b)
  refine heldG_step (i := 16) rfl (by kernel_rfl) (by rfl) (fun K hK => ?_)
  go_simp
  refine (X.out.st.has (HBY.out _) HB6.out).mono ?_
  rintro e w' ⟨rfl, rfl⟩
  refine hK.out _ _ (Frm.refl _ _) ?_
  clear hK K
  try simp only [List.getElem_toArray, List.getElem_cons_zero, List.getElem_cons_succ, Act.put, List.setIfInBounds_toArray, List.set_cons_zero, List.set_cons_succ]
  refine heldG_step (i := 19) rfl (by kernel_rfl) (by rfl) (fun K hK => ?_)
  go_simp
  refine (rhas_any X.out.tx HL7.out b).mono ?_
  rintro e w' ⟨rfl, rfl⟩
  refine hK.out _ _ (Frm.refl _ _) ?_
  clear hK K
  try simp only [List.getElem_toArray, List.getElem_cons_zero, List.getElem_cons_succ, Act.put, List.setIfInBounds_toArray, List.set_cons_zero, List.set_cons_succ]
  refine heldG_take (i := 20) (.bool true) rfl (by kernel_rfl) (by kernel_rfl) (by kernel_rfl) (fun _ _ _ h => h) (by rfl) (fun w' hW => ?_) ?_
  · go_simp
  try simp only [List.getElem_toArray, List.getElem_cons_zero, List.getElem_cons_succ, Act.put, List.setIfInBounds_toArray, List.set_cons_zero, List.set_cons_succ]
  refine heldG_take (i := 21) (.bool true) rfl (by kernel_rfl) (by kernel_rfl) (by kernel_rfl) (fun _ _ _ h => h) (by rfl) (fun w' hW => ?_) ?_
  · go_simp
  try simp only [List.getElem_toArray, List.getElem_cons_zero, List.getElem_cons_succ, Act.put, List.setIfInBounds_toArray, List.set_cons_zero, List.set_cons_succ]
  refine heldG_take (i := 22) (.bool true) rfl (by kernel_rfl) (by kernel_rfl) (by kernel_rfl) (fun _ _ _ h => h) (by rfl) (fun w' hW => ?_) ?_
  · go_simp
  try simp only [List.getElem_toArray, List.getElem_cons_zero, List.getElem_cons_succ, Act.put, List.setIfInBounds_toArray, List.set_cons_zero, List.set_cons_succ]
  refine heldG_take (i := 23) (.pointer (some ⟨tb, 0, none⟩)) rfl (by kernel_rfl) (by kernel_rfl) (by kernel_rfl) (fun _ _ _ h => h) (by rfl) (fun w' hW => ?_) ?_
  · go_simp
  try simp only [List.getElem_toArray, List.getElem_cons_zero, List.getElem_cons_succ, Act.put, List.setIfInBounds_toArray, List.set_cons_zero, List.set_cons_succ]
  refine heldG_take (i := 24) (.string (txt b)) rfl (by kernel_rfl) (by kernel_rfl) (by kernel_rfl) (fun _ _ _ h => h) (by rfl) (fun w' hW => ?_) ?_
  · go_simp
  try simp only [List.getElem_toArray, List.getElem_cons_zero, List.getElem_cons_succ, Act.put, List.setIfInBounds_toArray, List.set_cons_zero, List.set_cons_succ]
  refine heldG_take (i := 25) (.int .i64 lm) rfl (by kernel_rfl) (by kernel_rfl) (by kernel_rfl) (fun _ _ _ h => h) (by rfl) (fun w' hW => ?_) ?_
  · go_simp
  try simp only [List.getElem_toArray, List.getElem_cons_zero, List.getElem_cons_succ, Act.put, List.setIfInBounds_toArray, List.set_cons_zero, List.set_cons_succ]
  refine heldG_take (i := 26) (.bool li) rfl (by kernel_rfl) (by kernel_rfl) (by kernel_rfl) (fun _ _ _ h => h) (by rfl) (fun w' hW => ?_) ?_
  · go_simp
  try simp only [List.getElem_toArray, List.getElem_cons_zero, List.getElem_cons_succ, Act.put, List.setIfInBounds_toArray, List.set_cons_zero, List.set_cons_succ]
  refine heldG_step (i := 27) rfl (by kernel_rfl) (by rfl) (fun K hK => ?_)
  go_simp
  refine (C32.out _ _ X.out).mono ?_
  clear C32
  rintro e w5 ⟨rfl, hf⟩
  have X := Lib.hid (X.out.frm hf)
  refine hK.out _ _ (hf) ?_
  clear hK K
  try simp only [List.getElem_toArray, List.getElem_cons_zero, List.getElem_cons_succ, Act.put, List.setIfInBounds_toArray, List.set_cons_zero, List.set_cons_succ]
  clear hf
  refine heldG_take (i := 28) (.bool true) rfl (by kernel_rfl) (by kernel_rfl) (by kernel_rfl) (fun _ _ _ h => h) (by rfl) (fun w' hW => ?_) ?_
  · go_simp
  try simp only [List.getElem_toArray, List.getElem_cons_zero, List.getElem_cons_succ, Act.put, List.setIfInBounds_toArray, List.set_cons_zero, List.set_cons_succ]
  refine heldG_take (i := 29) (.bool true) rfl (by kernel_rfl) (by kernel_rfl) (by kernel_rfl) (fun _ _ _ h => h) (by rfl) (fun w' hW => ?_) ?_
  · go_simp
  try simp only [List.getElem_toArray, List.getElem_cons_zero, List.getElem_cons_succ, Act.put, List.setIfInBounds_toArray, List.set_cons_zero, List.set_cons_succ]
  refine heldG_take (i := 30) (.pointer (some ⟨tb, 0, none⟩)) rfl (by kernel_rfl) (by kernel_rfl) (by kernel_rfl) (fun _ _ _ h => h) (by rfl) (fun w' hW => ?_) ?_
  · go_simp
  try simp only [List.getElem_toArray, List.getElem_cons_zero, List.getElem_cons_succ, Act.put, List.setIfInBounds_toArray, List.set_cons_zero, List.set_cons_succ]
  refine heldG_take (i := 31) (.string (txt b)) rfl (by kernel_rfl) (by kernel_rfl) (by kernel_rfl) (fun _ _ _ h => h) (by rfl) (fun w' hW => ?_) ?_
  · go_simp
  try simp only [List.getElem_toArray, List.getElem_cons_zero, List.getElem_cons_succ, Act.put, List.setIfInBounds_toArray, List.set_cons_zero, List.set_cons_succ]
  refine heldG_take (i := 35) (.slice la n lc) rfl (by kernel_rfl) (by kernel_rfl) (by kernel_rfl) (fun _ _ _ h => h) (by rfl) (fun w' hW => ?_) ?_
  · go_simp
  try simp only [List.getElem_toArray, List.getElem_cons_zero, List.getElem_cons_succ, Act.put, List.setIfInBounds_toArray, List.set_cons_zero, List.set_cons_succ]
  refine heldG_take (i := 36) (.string (txt b)) rfl (by kernel_rfl) (by kernel_rfl) (by kernel_rfl) (fun _ _ _ h => h) (by rfl) (fun w' hW => ?_) ?_
  · go_simp
  try simp only [List.getElem_toArray, List.getElem_cons_zero, List.getElem_cons_succ, Act.put, List.setIfInBounds_toArray, List.set_cons_zero, List.set_cons_succ]
  refine heldG_step (i := 32) rfl (by kernel_rfl) (by rfl) (fun K hK => ?_)
  go_simp
  refine hK.out _ _ (bW_frm _ _) ?_
  clear hK K
  try simp only [List.getElem_toArray, List.getElem_cons_zero, List.getElem_cons_succ, Act.put, List.setIfInBounds_toArray, List.set_cons_zero, List.set_cons_succ]
  have X := Lib.hid (X.out.byt b)
  refine heldG_step (i := 33) rfl (by kernel_rfl) (by rfl) (fun K hK => ?_)
  go_simp
  refine (X.out.st.next (HBY.out _) HB6.out).mono ?_
  rintro e w6 ⟨v, rfl, hk, hf⟩
  obtain ⟨ka, kc, rfl, -⟩ := hk.len
  have HK := Lib.hid hk
  have X := Lib.hid (X.out.frm hf)
  refine hK.out _ _ (hf) ?_
  clear hK K
  try simp only [List.getElem_toArray, List.getElem_cons_zero, List.getElem_cons_succ, Act.put, List.setIfInBounds_toArray, List.set_cons_zero, List.set_cons_succ]
  clear hf hk
  refine heldG_take (i := 34) (.string (txt (kidsP (pre L) b))) rfl (by kernel_rfl) (by kernel_rfl) (by kernel_rfl) (fun _ _ _ h => h) (by rfl) (fun w' hW => ?_) ?_
  · have hcv := (HK.out.frm0 hW).conv
    go_simp
  try simp only [List.getElem_toArray, List.getElem_cons_zero, List.getElem_cons_succ, Act.put, List.setIfInBounds_toArray, List.set_cons_zero, List.set_cons_succ]
  refine heldG_step (i := 37) rfl (by kernel_rfl) (by rfl) (fun K hK => ?_)
  go_simp
  refine (rnext_any X.out.tx HL6.out b HB6.out).mono ?_
  rintro e w7 ⟨rfl, hf⟩
  have X := Lib.hid (X.out.frm hf)
  refine hK.out _ _ (hf) ?_
  clear hK K
  try simp only [List.getElem_toArray, List.getElem_cons_zero, List.getElem_cons_succ, Act.put, List.setIfInBounds_toArray, List.set_cons_zero, List.set_cons_succ]
  clear hf
  refine heldG_take (i := 38) (.bool true) rfl (by kernel_rfl) (by kernel_rfl) (by kernel_rfl) (fun _ _ _ h => h) (by rfl) (fun w' hW => ?_) ?_
  · go_simp
  try simp only [List.getElem_toArray, List.getElem_cons_zero, List.getElem_cons_succ, Act.put, List.setIfInBounds_toArray, List.set_cons_zero, List.set_cons_succ]
  refine heldG_take (i := 39) (.bool true) rfl (by kernel_rfl) (by kernel_rfl) (by kernel_rfl) (fun _ _ _ h => h) (by rfl) (fun w' hW => ?_) ?_
  · go_simp
  try simp only [List.getElem_toArray, List.getElem_cons_zero, List.getElem_cons_succ, Act.put, List.setIfInBounds_toArray, List.set_cons_zero, List.set_cons_succ]
  refine heldG_take (i := 40) (.bool true) rfl (by kernel_rfl) (by kernel_rfl) (by kernel_rfl) (fun _ _ _ h => h) (by rfl) (fun w' hW => ?_) ?_
  · go_simp
  try simp only [List.getElem_toArray, List.getElem_cons_zero, List.getElem_cons_succ, Act.put, List.setIfInBounds_toArray, List.set_cons_zero, List.set_cons_succ]
  refine heldG_take (i := 41) (.pointer (some ⟨tb, 0, none⟩)) rfl (by kernel_rfl) (by kernel_rfl) (by kernel_rfl) (fun _ _ _ h => h) (by rfl) (fun w' hW => ?_) ?_
  · go_simp
  try simp only [List.getElem_toArray, List.getElem_cons_zero, List.getElem_cons_succ, Act.put, List.setIfInBounds_toArray, List.set_cons_zero, List.set_cons_succ]
  refine heldG_take (i := 44) (.slice la n lc) rfl (by kernel_rfl) (by kernel_rfl) (by kernel_rfl) (fun _ _ _ h => h) (by rfl) (fun w' hW => ?_) ?_
  · go_simp
  try simp only [List.getElem_toArray, List.getElem_cons_zero, List.getElem_cons_succ, Act.put, List.setIfInBounds_toArray, List.set_cons_zero, List.set_cons_succ]
  refine heldG_step (i := 42) rfl (by kernel_rfl) (by rfl) (fun K hK => ?_)
  go_simp
  refine (C34.out _ _ X.out).mono ?_
  clear C34
  rintro e w8 ⟨v, rfl, hk, hf⟩
  obtain ⟨ka2, kc2, rfl⟩ := own_shape hk
  have HK := Lib.hid (Byts.of_own hk)
  have X := Lib.hid (X.out.frm hf)
  refine hK.out _ _ (hf) ?_
  clear hK K
  try simp only [List.getElem_toArray, List.getElem_cons_zero, List.getElem_cons_succ, Act.put, List.setIfInBounds_toArray, List.set_cons_zero, List.set_cons_succ]
  clear hf hk
  refine heldG_take (i := 43) (.string (txt (commL L))) rfl (by kernel_rfl) (by kernel_rfl) (by kernel_rfl) (fun _ _ _ h => h) (by rfl) (fun w' hW => ?_) ?_
  · have hcv := (HK.out.frm0 hW).conv
    go_simp
  try simp only [List.getElem_toArray, List.getElem_cons_zero, List.getElem_cons_succ, Act.put, List.setIfInBounds_toArray, List.set_cons_zero, List.set_cons_succ]
  refine heldG_step (i := 45) rfl (by kernel_rfl) (by rfl) (fun K hK => ?_)
  go_simp
  refine (C44.out _ _ X.out).mono ?_
  clear C44
  rintro e w9 ⟨rfl, hf⟩
  have X := Lib.hid (X.out.frm hf)
  refine hK.out _ _ (hf) ?_
  clear hK K
  try simp only [List.getElem_toArray, List.getElem_cons_zero, List.getElem_cons_succ, Act.put, List.setIfInBounds_toArray, List.set_cons_zero, List.set_cons_succ]
  clear hf
  refine heldG_take (i := 46) (.bool true) rfl (by kernel_rfl) (by kernel_rfl) (by kernel_rfl) (fun _ _ _ h => h) (by rfl) (fun w' hW => ?_) ?_
  · go_simp
  try simp only [List.getElem_toArray, List.getElem_cons_zero, List.getElem_cons_succ, Act.put, List.setIfInBounds_toArray, List.set_cons_zero, List.set_cons_succ]
  refine heldG_take (i := 47) (.bool true) rfl (by kernel_rfl) (by kernel_rfl) (by kernel_rfl) (fun _ _ _ h => h) (by rfl) (fun w' hW => ?_) ?_
  · go_simp
  try simp only [List.getElem_toArray, List.getElem_cons_zero, List.getElem_cons_succ, Act.put, List.setIfInBounds_toArray, List.set_cons_zero, List.set_cons_succ]
  refine heldG_take (i := 48) (.bool true) rfl (by kernel_rfl) (by kernel_rfl) (by kernel_rfl) (fun _ _ _ h => h) (by rfl) (fun w' hW => ?_) ?_
  · go_simp
  try simp only [List.getElem_toArray, List.getElem_cons_zero, List.getElem_cons_succ, Act.put, List.setIfInBounds_toArray, List.set_cons_zero, List.set_cons_succ]
  refine heldG_take (i := 49) (.pointer (some ⟨tb, 0, none⟩)) rfl (by kernel_rfl) (by kernel_rfl) (by kernel_rfl) (fun _ _ _ h => h) (by rfl) (fun w' hW => ?_) ?_
  · go_simp
  try simp only [List.getElem_toArray, List.getElem_cons_zero, List.getElem_cons_succ, Act.put, List.setIfInBounds_toArray, List.set_cons_zero, List.set_cons_succ]
  refine heldG_take (i := 50) (.string (txt b)) rfl (by kernel_rfl) (by kernel_rfl) (by kernel_rfl) (fun _ _ _ h => h) (by rfl) (fun w' hW => ?_) ?_
  · go_simp
  try simp only [List.getElem_toArray, List.getElem_cons_zero, List.getElem_cons_succ, Act.put, List.setIfInBounds_toArray, List.set_cons_zero, List.set_cons_succ]
  refine heldG_take (i := 53) (.slice la n lc) rfl (by kernel_rfl) (by kernel_rfl) (by kernel_rfl) (fun _ _ _ h => h) (by rfl) (fun w' hW => ?_) ?_
  · go_simp
  try simp only [List.getElem_toArray, List.getElem_cons_zero, List.getElem_cons_succ, Act.put, List.setIfInBounds_toArray, List.set_cons_zero, List.set_cons_succ]
  refine heldG_take (i := 54) (.string (txt b)) rfl (by kernel_rfl) (by kernel_rfl) (by kernel_rfl) (fun _ _ _ h => h) (by rfl) (fun w' hW => ?_) ?_
  · go_simp
  try simp only [List.getElem_toArray, List.getElem_cons_zero, List.getElem_cons_succ, Act.put, List.setIfInBounds_toArray, List.set_cons_zero, List.set_cons_succ]
  refine heldG_take (i := 56) (.int .i64 many) rfl (by kernel_rfl) (by kernel_rfl) (by kernel_rfl) (fun _ _ _ h => h) (by rfl) (fun w' hW => ?_) ?_
  · go_simp
  try simp only [List.getElem_toArray, List.getElem_cons_zero, List.getElem_cons_succ, Act.put, List.setIfInBounds_toArray, List.set_cons_zero, List.set_cons_succ]
  refine heldG_step (i := 51) rfl (by kernel_rfl) (by rfl) (fun K hK => ?_)
  go_simp
  refine hK.out _ _ (bW_frm _ _) ?_
  clear hK K
  try simp only [List.getElem_toArray, List.getElem_cons_zero, List.getElem_cons_succ, Act.put, List.setIfInBounds_toArray, List.set_cons_zero, List.set_cons_succ]
  have X := Lib.hid (X.out.byt b)
  refine heldG_step (i := 52) rfl (by kernel_rfl) (by rfl) (fun K hK => ?_)
  go_simp
  refine (X.out.st.words (HBY.out _) HB.out).mono ?_
  rintro e w10 ⟨v, rfl, B, u, rfl, hr, hf⟩
  have WR := Lib.hid hr
  have X := Lib.hid (X.out.frm hf)
  refine hK.out _ _ (hf) ?_
  clear hK K
  try simp only [List.getElem_toArray, List.getElem_cons_zero, List.getElem_cons_succ, Act.put, List.setIfInBounds_toArray, List.set_cons_zero, List.set_cons_succ]
  clear hf hr
  refine heldG_step (i := 55) rfl (by kernel_rfl) (by rfl) (fun K hK => ?_)
  go_simp
  refine (rwith_any X.out.tx HL6.out b).mono ?_
  rintro e w11 ⟨v, rfl, hk, hf⟩
  obtain ⟨ka3, kc3, rfl⟩ := own_shape hk
  have TX := Lib.hid (Txts.of_own hk)
  have WR := Lib.hid (WR.out.frm0 hf)
  have X := Lib.hid (X.out.frm hf)
  refine hK.out _ _ (hf) ?_
  clear hK K
  try simp only [List.getElem_toArray, List.getElem_cons_zero, List.getElem_cons_succ, Act.put, List.setIfInBounds_toArray, List.set_cons_zero, List.set_cons_succ]
  clear hf hk
  refine heldG_step (i := 57) rfl (by kernel_rfl) (by rfl) (fun K hK => ?_)
  go_simp
  refine (over_any B _ u _ (withP L b) many _ WR.out TX.out HWL.out HW6.out).mono ?_
  rintro e w12 ⟨rfl, hf⟩
  have X := Lib.hid (X.out.frm hf)
  refine hK.out _ _ (hf) ?_
  clear hK K
  try simp only [List.getElem_toArray, List.getElem_cons_zero, List.getElem_cons_succ, Act.put, List.setIfInBounds_toArray, List.set_cons_zero, List.set_cons_succ]
  clear hf WR TX
  refine heldG_take (i := 58) (.bool true) rfl (by kernel_rfl) (by kernel_rfl) (by kernel_rfl) (fun _ _ _ h => h) (by rfl) (fun w' hW => ?_) ?_
  · go_simp
  try simp only [List.getElem_toArray, List.getElem_cons_zero, List.getElem_cons_succ, Act.put, List.setIfInBounds_toArray, List.set_cons_zero, List.set_cons_succ]
  refine heldG_take (i := 59) (.bool true) rfl (by kernel_rfl) (by kernel_rfl) (by kernel_rfl) (fun _ _ _ h => h) (by rfl) (fun w' hW => ?_) ?_
  · go_simp
  try simp only [List.getElem_toArray, List.getElem_cons_zero, List.getElem_cons_succ, Act.put, List.setIfInBounds_toArray, List.set_cons_zero, List.set_cons_succ]
  refine heldG_take (i := 60) (.pointer (some ⟨tb, 0, none⟩)) rfl (by kernel_rfl) (by kernel_rfl) (by kernel_rfl) (fun _ _ _ h => h) (by rfl) (fun w' hW => ?_) ?_
  · go_simp
  try simp only [List.getElem_toArray, List.getElem_cons_zero, List.getElem_cons_succ, Act.put, List.setIfInBounds_toArray, List.set_cons_zero, List.set_cons_succ]
  refine heldG_take (i := 61) (.string (txt b)) rfl (by kernel_rfl) (by kernel_rfl) (by kernel_rfl) (fun _ _ _ h => h) (by rfl) (fun w' hW => ?_) ?_
  · go_simp
  try simp only [List.getElem_toArray, List.getElem_cons_zero, List.getElem_cons_succ, Act.put, List.setIfInBounds_toArray, List.set_cons_zero, List.set_cons_succ]
  refine heldG_take (i := 62) (.int .i64 mm) rfl (by kernel_rfl) (by kernel_rfl) (by kernel_rfl) (fun _ _ _ h => h) (by rfl) (fun w' hW => ?_) ?_
  · go_simp
  try simp only [List.getElem_toArray, List.getElem_cons_zero, List.getElem_cons_succ, Act.put, List.setIfInBounds_toArray, List.set_cons_zero, List.set_cons_succ]
  refine heldG_take (i := 63) (.int .i64 mi) rfl (by kernel_rfl) (by kernel_rfl) (by kernel_rfl) (fun _ _ _ h => h) (by rfl) (fun w' hW => ?_) ?_
  · go_simp
  try simp only [List.getElem_toArray, List.getElem_cons_zero, List.getElem_cons_succ, Act.put, List.setIfInBounds_toArray, List.set_cons_zero, List.set_cons_succ]
  refine heldG_step (i := 64) rfl (by kernel_rfl) (by rfl) (fun K hK => ?_)
  go_simp
  refine (C35.out _ _ X.out).mono ?_
  clear C35
  rintro e w13 ⟨rfl, hf⟩
  have X := Lib.hid (X.out.frm hf)
  refine hK.out _ _ (hf) ?_
  clear hK K
  try simp only [List.getElem_toArray, List.getElem_cons_zero, List.getElem_cons_succ, Act.put, List.setIfInBounds_toArray, List.set_cons_zero, List.set_cons_succ]
  clear hf
  refine heldG_take (i := 65) (.bool true) rfl (by kernel_rfl) (by kernel_rfl) (by kernel_rfl) (fun _ _ _ h => h) (by rfl) (fun w' hW => ?_) ?_
  · go_simp
  try simp only [List.getElem_toArray, List.getElem_cons_zero, List.getElem_cons_succ, Act.put, List.setIfInBounds_toArray, List.set_cons_zero, List.set_cons_succ]
  refine heldG_take (i := 66) (.bool true) rfl (by kernel_rfl) (by kernel_rfl) (by kernel_rfl) (fun _ _ _ h => h) (by rfl) (fun w' hW => ?_) ?_
  · go_simp
  try simp only [List.getElem_toArray, List.getElem_cons_zero, List.getElem_cons_succ, Act.put, List.setIfInBounds_toArray, List.set_cons_zero, List.set_cons_succ]
  refine heldG_take (i := 67) (.pointer (some ⟨tb, 0, none⟩)) rfl (by kernel_rfl) (by kernel_rfl) (by kernel_rfl) (fun _ _ _ h => h) (by rfl) (fun w' hW => ?_) ?_
  · go_simp
  try simp only [List.getElem_toArray, List.getElem_cons_zero, List.getElem_cons_succ, Act.put, List.setIfInBounds_toArray, List.set_cons_zero, List.set_cons_succ]
  refine heldG_take (i := 69) (.slice la n lc) rfl (by kernel_rfl) (by kernel_rfl) (by kernel_rfl) (fun _ _ _ h => h) (by rfl) (fun w' hW => ?_) ?_
  · go_simp
  try simp only [List.getElem_toArray, List.getElem_cons_zero, List.getElem_cons_succ, Act.put, List.setIfInBounds_toArray, List.set_cons_zero, List.set_cons_succ]
  refine heldG_step (i := 68) rfl (by kernel_rfl) (by rfl) (fun K hK => ?_)
  go_simp
  refine (X.out.st.free).mono ?_
  rintro e w14 ⟨rfl, hf⟩
  have X := Lib.hid (X.out.frm hf)
  refine hK.out _ _ (hf) ?_
  clear hK K
  try simp only [List.getElem_toArray, List.getElem_cons_zero, List.getElem_cons_succ, Act.put, List.setIfInBounds_toArray, List.set_cons_zero, List.set_cons_succ]
  clear hf
  refine heldG_step (i := 70) rfl (by kernel_rfl) (by rfl) (fun K hK => ?_)
  go_simp
  refine (C45.out _ _ X.out).mono ?_
  clear C45
  rintro e w15 ⟨rfl, hf⟩
  have X := Lib.hid (X.out.frm hf)
  refine hK.out _ _ (hf) ?_
  clear hK K
  try simp only [List.getElem_toArray, List.getElem_cons_zero, List.getElem_cons_succ, Act.put, List.setIfInBounds_toArray, List.set_cons_zero, List.set_cons_succ]
  clear hf
  refine heldG_take (i := 71) (.bool true) rfl (by kernel_rfl) (by kernel_rfl) (by kernel_rfl) (fun _ _ _ h => h) (by rfl) (fun w' hW => ?_) ?_
  · go_simp
  try simp only [List.getElem_toArray, List.getElem_cons_zero, List.getElem_cons_succ, Act.put, List.setIfInBounds_toArray, List.set_cons_zero, List.set_cons_succ]
  refine heldG_take (i := 72) (.bool true) rfl (by kernel_rfl) (by kernel_rfl) (by kernel_rfl) (fun _ _ _ h => h) (by rfl) (fun w' hW => ?_) ?_
  · go_simp
  try simp only [List.getElem_toArray, List.getElem_cons_zero, List.getElem_cons_succ, Act.put, List.setIfInBounds_toArray, List.set_cons_zero, List.set_cons_succ]
  refine heldG_take (i := 73) (.bool true) rfl (by kernel_rfl) (by kernel_rfl) (by kernel_rfl) (fun _ _ _ h => h) (by rfl) (fun w' hW => ?_) ?_
  · go_simp
  try simp only [List.getElem_toArray, List.getElem_cons_zero, List.getElem_cons_succ, Act.put, List.setIfInBounds_toArray, List.set_cons_zero, List.set_cons_succ]
  refine heldG_take (i := 74) (.int .i64 0) rfl (by kernel_rfl) (by kernel_rfl) (by kernel_rfl) (fun _ _ _ h => h) (by rfl) (fun w' hW => ?_) ?_
  · go_simp
  try simp only [List.getElem_toArray, List.getElem_cons_zero, List.getElem_cons_succ, Act.put, List.setIfInBounds_toArray, List.set_cons_zero, List.set_cons_succ]
  refine heldG_step (i := 75) rfl (by kernel_rfl) (by rfl) (fun K hK => ?_)
  go_simp
  refine (num_any _ _).mono ?_
  rintro e w' ⟨rfl, rfl⟩
  refine hK.out _ _ (Frm.refl _ _) ?_
  clear hK K
  try simp only [List.getElem_toArray, List.getElem_cons_zero, List.getElem_cons_succ, Act.put, List.setIfInBounds_toArray, List.set_cons_zero, List.set_cons_succ]
  refine heldG_take (i := 76) (.bool true) rfl (by kernel_rfl) (by kernel_rfl) (by kernel_rfl) (fun _ _ _ h => h) (by rfl) (fun w' hW => ?_) ?_
  · go_simp
  try simp only [List.getElem_toArray, List.getElem_cons_zero, List.getElem_cons_succ, Act.put, List.setIfInBounds_toArray, List.set_cons_zero, List.set_cons_succ]
  refine heldG_take (i := 77) (.bool true) rfl (by kernel_rfl) (by kernel_rfl) (by kernel_rfl) (fun _ _ _ h => h) (by rfl) (fun w' hW => ?_) ?_
  · go_simp
  try simp only [List.getElem_toArray, List.getElem_cons_zero, List.getElem_cons_succ, Act.put, List.setIfInBounds_toArray, List.set_cons_zero, List.set_cons_succ]
  refine heldG_take (i := 78) (.bool true) rfl (by kernel_rfl) (by kernel_rfl) (by kernel_rfl) (fun _ _ _ h => h) (by rfl) (fun w' hW => ?_) ?_
  · go_simp
  try simp only [List.getElem_toArray, List.getElem_cons_zero, List.getElem_cons_succ, Act.put, List.setIfInBounds_toArray, List.set_cons_zero, List.set_cons_succ]
  refine heldG_take (i := 79) (.slice ea (encL L).length ec) rfl (by kernel_rfl) (by kernel_rfl) (by kernel_rfl) (fun _ _ _ h => h) (by rfl) (fun w' hW => ?_) ?_
  · go_simp
  try simp only [List.getElem_toArray, List.getElem_cons_zero, List.getElem_cons_succ, Act.put, List.setIfInBounds_toArray, List.set_cons_zero, List.set_cons_succ]
  refine heldG_take (i := 80) (.string (txt (encL L))) rfl (by kernel_rfl) (by kernel_rfl) (by kernel_rfl) (fun _ _ _ h => h) (by rfl) (fun w' hW => ?_) ?_
  · have hcv := (X.out.enc.frm0 hW).conv
    go_simp
  try simp only [List.getElem_toArray, List.getElem_cons_zero, List.getElem_cons_succ, Act.put, List.setIfInBounds_toArray, List.set_cons_zero, List.set_cons_succ]
  refine heldG_take (i := 81) (.slice la n lc) rfl (by kernel_rfl) (by kernel_rfl) (by kernel_rfl) (fun _ _ _ h => h) (by rfl) (fun w' hW => ?_) ?_
  · go_simp
  try simp only [List.getElem_toArray, List.getElem_cons_zero, List.getElem_cons_succ, Act.put, List.setIfInBounds_toArray, List.set_cons_zero, List.set_cons_succ]
  refine heldG_step (i := 82) rfl (by kernel_rfl) (by rfl) (fun K hK => ?_)
  go_simp
  refine (renc_any X.out.tx HLE.out H64.out).mono ?_
  rintro e w16 ⟨rfl, hf⟩
  have X := Lib.hid (X.out.frm hf)
  refine hK.out _ _ (hf) ?_
  clear hK K
  try simp only [List.getElem_toArray, List.getElem_cons_zero, List.getElem_cons_succ, Act.put, List.setIfInBounds_toArray, List.set_cons_zero, List.set_cons_succ]
  clear hf
  refine heldG_take (i := 83) (.bool true) rfl (by kernel_rfl) (by kernel_rfl) (by kernel_rfl) (fun _ _ _ h => h) (by rfl) (fun w' hW => ?_) ?_
  · go_simp
  try simp only [List.getElem_toArray, List.getElem_cons_zero, List.getElem_cons_succ, Act.put, List.setIfInBounds_toArray, List.set_cons_zero, List.set_cons_succ]
  refine heldG_take (i := 84) (.bool true) rfl (by kernel_rfl) (by kernel_rfl) (by kernel_rfl) (fun _ _ _ h => h) (by rfl) (fun w' hW => ?_) ?_
  · go_simp
  try simp only [List.getElem_toArray, List.getElem_cons_zero, List.getElem_cons_succ, Act.put, List.setIfInBounds_toArray, List.set_cons_zero, List.set_cons_succ]
  refine heldG_take (i := 85) (.bool true) rfl (by kernel_rfl) (by kernel_rfl) (by kernel_rfl) (fun _ _ _ h => h) (by rfl) (fun w' hW => ?_) ?_
  · go_simp
  try simp only [List.getElem_toArray, List.getElem_cons_zero, List.getElem_cons_succ, Act.put, List.setIfInBounds_toArray, List.set_cons_zero, List.set_cons_succ]
  refine wpAnyH_done (by kernel_rfl) ?_ _
  go_wp2
  go_ret
  exact ⟨rfl, X.out.fr⟩
end
end Go.Proofs.Ytefpfcheafbfdaa
