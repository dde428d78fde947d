/- A set as the list of its words in order: the methods' contracts, packed. Common. -/
import Derived.Test.YtefpfcheafbfdaaWords
import Derived.Test.YtefpfcheafbfdaaLong
import Derived.Test.YtefpfcheafbfdaaCount
import Derived.Test.YtefpfcheafbfdaaIter
namespace Go.Proofs.Ytefpfcheafbfdaa
open Go.RowKit Go.Maps Go.BigFrame

def ltB (b x : Wd) : Bool := decide (x < b)
/-- a word more, in its place -/
def insL (L : List Wd) (b : Wd) : List Wd := L.takeWhile (ltB b) ++ b :: L.dropWhile (ltB b)
def insEL (L : List Wd) (b : Wd) : Int := if 64 < b.length then 5 else if b ∈ L then 11 else if L.length = 1000 then 7 else 0
def insA (L : List Wd) (b : Wd) : List Wd := if insEL L b = 0 then insL L b else L
def remA (L : List Wd) (b : Wd) : List Wd := if remE L b = 0 then L.erase b else L
theorem mem_insL {L : List Wd} {b x : Wd} : x ∈ insL L b ↔ x = b ∨ x ∈ L := by
  have e : x ∈ L ↔ x ∈ L.takeWhile (ltB b) ∨ x ∈ L.dropWhile (ltB b) := by
    rw [← List.mem_append, List.takeWhile_append_dropWhile]
  unfold insL
  rw [List.mem_append, List.mem_cons, e]
  constructor
  · rintro (h | h | h)
    · exact .inr (.inl h)
    · exact .inl h
    · exact .inr (.inr h)
  · rintro (h | h | h)
    · exact .inr (.inl h)
    · exact .inl h
    · exact .inr (.inr h)
theorem length_insL (L : List Wd) (b : Wd) : (insL L b).length = L.length + 1 := by
  have e := congrArg List.length (List.takeWhile_append_dropWhile (p := ltB b) (l := L))
  rw [List.length_append] at e
  unfold insL
  rw [List.length_append, List.length_cons]
  omega
theorem sorted_insL {L : List Wd} {b : Wd} (h : Sorted L) (hb : b ∉ L) : Sorted (insL L b) := by
  induction L with
  | nil => simp [insL, Sorted]
  | cons a L ih =>
    obtain ⟨h1, h2⟩ := List.pairwise_cons.1 h
    have hab : a ≠ b := fun e => hb (by simp [e])
    have hbL : b ∉ L := fun e => hb (List.mem_cons_of_mem _ e)
    by_cases hlt : a < b
    · have e : insL (a :: L) b = a :: insL L b := by
        unfold insL
        rw [List.takeWhile_cons_of_pos (by simpa [ltB] using hlt), List.dropWhile_cons_of_pos (by simpa [ltB] using hlt), List.cons_append]
      rw [e]
      refine List.pairwise_cons.2 ⟨fun x hx => ?_, ih h2 hbL⟩
      rcases mem_insL.1 hx with rfl | hx
      · exact hlt
      · exact h1 x hx
    · have e : insL (a :: L) b = b :: a :: L := by
        unfold insL
        rw [List.takeWhile_cons_of_neg (by simpa [ltB] using hlt), List.dropWhile_cons_of_neg (by simpa [ltB] using hlt), List.nil_append]
      have hba : b < a := by
        rcases List.le_iff_lt_or_eq.1 (List.not_lt.1 hlt) with h | h
        · exact h
        · exact absurd h.symm hab
      rw [e]
      refine List.pairwise_cons.2 ⟨fun x hx => ?_, h⟩
      rcases List.mem_cons.1 hx with rfl | hx
      · exact hba
      · exact List.lt_trans hba (h1 x hx)
theorem pre_insL (L : List Wd) (b : Wd) : pre (insL L b) = addP (pre L) b := by
  funext q
  rw [pre_congr (L' := b :: L) (fun x => by rw [mem_insL, List.mem_cons]), Bool.eq_iff_iff, pre_cons, addP_iff]
theorem memB_insL (L : List Wd) (b : Wd) : memB (insL L b) = fun q => if q = b then true else memB L q := by
  funext q
  rw [Bool.eq_iff_iff, memB_iff, mem_insL]
  by_cases e : q = b
  · simp [e]
  · simp [e, memB_iff]
theorem insE_list (L : List Wd) (b : Wd) : insE (pre L) (memB L) L.length b = insEL L b := by
  unfold insE insEL
  rw [preB]
  simp only [memB_iff]
/-- a set -/
structure St (w : World) (tb : Nat) (L : List Wd) (S : Nat → Prop) (N : Nat) : Prop where
  ex : ∃ NB MB, TL w tb L NB MB N ∧ S = Own tb (pre L) NB MB
  srt : Sorted L
  h64 : ∀ x ∈ L, x.length ≤ 64
  len : L.length ≤ 1000
/-- what is no part of a set stays -/
def KT (w w' : World) : Prop := ∀ (k : Nat) (o : Obj), w.heap[k]? = some o → isT o = false → w'.heap[k]? = some o
/-- behind a call that turns the set -/
def StTo (tb : Nat) (S : Nat → Prop) (N : Nat) (L' : List Wd) (w w' : World) : Prop :=
  ∃ S' N', St w' tb L' S' N' ∧ FrS S w w' ∧ (∀ k, S' k → S k ∨ w.heap.size ≤ k) ∧ N' ≤ N + 64
section
variable {w w' : World} {tb N : Nat} {L : List Wd} {S S' : Nat → Prop} {bv : Value} {b : List UInt8}
theorem St.frm0 (h : St w tb L S N) (hf : Frm [] w w') : St w' tb L S N := by
  obtain ⟨NB, MB, h1, h2⟩ := h.ex
  exact { h with ex := ⟨NB, MB, h1.frm0 hf, h2⟩ }
theorem St.frS (h : St w tb L S N) (hf : FrS S' w w') (hS : ∀ k, S' k → ¬ S k) : St w' tb L S N := by
  obtain ⟨NB, MB, h1, rfl⟩ := h.ex
  exact { h with ex := ⟨NB, MB, h1.frS hf hS, rfl⟩ }
theorem St.own (h : St w tb L S N) {k : Nat} (hk : S k) : ∃ o, w.heap[k]? = some o ∧ isT o = true := by
  obtain ⟨NB, MB, h1, rfl⟩ := h.ex
  exact h1.own_t hk
theorem St.lt (h : St w tb L S N) {k : Nat} (hk : S k) : k < w.heap.size := by
  obtain ⟨o, ho, -⟩ := h.own hk
  exact lt_of_block ho
theorem St.kt (h : St w tb L S N) (hf : FrS S w w') : KT w w' := fun k o hk ho => hf.at hk (fun hx => by
  obtain ⟨o', h1, h2⟩ := h.own hx
  rw [hk] at h1; cases h1; rw [ho] at h2; cases h2)
theorem St.byts (h : St w tb L S N) (hf : FrS S w w') {v : Value} {l : List UInt8} (hb : Byts w v l) : Byts w' v l := by
  obtain ⟨NB, MB, h1, rfl⟩ := h.ex
  exact h1.byts hf (fun _ hk => hk) hb
theorem St.same (h : St w tb L S N) (hf : Frm [] w w') : StTo tb S N L w w' := ⟨S, N, h.frm0 hf, FrS.of hf (by simp), fun k hk => .inl hk, by omega⟩
theorem St.insert (h : St w tb L S N) (hN : N ≤ 900000) (hb : Byts w bv b) (hn : b.length ≤ 1000000) : Calls Try.prog 20 #[.pointer (some ⟨tb, 0, none⟩), bv] w (Ret (.int .i64 (insEL L b)) (StTo tb S N (insA L b) w)) := by
  have h0 := h
  obtain ⟨NB, MB, h1, rfl⟩ := h.ex
  by_cases he : insEL L b = 0
  · have he' := he
    rw [← insE_list] at he'
    refine (insert_good h1 (fun q hq => pre_mem (memB_iff.1 hq)) bv b hb he' h.len hN).mono ?_
    rintro e w' ⟨rfl, NB', MB', N', k1, k2, k3, k4⟩
    refine ⟨by rw [he], _, N', ⟨⟨NB', MB', ?_, rfl⟩, ?_, ?_, ?_⟩, k2, ?_, k4⟩
    · unfold TL insA
      rw [if_pos he, pre_insL, memB_insL, length_insL]
      exact k1
    · unfold insA
      rw [if_pos he]
      refine sorted_insL h.srt (fun hbl => ?_)
      unfold insEL at he
      rw [if_pos hbl] at he
      split at he <;> cases he
    · unfold insA
      rw [if_pos he]
      intro x hx
      rcases mem_insL.1 hx with rfl | hx
      · unfold insEL at he
        split at he
        · cases he
        · omega
      · exact h.h64 x hx
    · unfold insA
      rw [if_pos he, length_insL]
      unfold insEL at he
      have := h.len
      split at he
      · cases he
      · split at he
        · cases he
        · split at he
          · cases he
          · omega
    · unfold insA
      rw [if_pos he, pre_insL]
      exact k3
  · have he' := he
    rw [← insE_list] at he'
    refine (insert_bad h1 bv b hb hn he').mono ?_
    rintro e w' ⟨rfl, rfl⟩
    refine ⟨by rw [insE_list], ?_⟩
    unfold insA
    rw [if_neg he]
    exact h0.same (Frm.refl _ _)
theorem St.remove (h : St w tb L S N) (hb : Byts w bv b) (hn : b.length ≤ 1000000) : Calls Try.prog 18 #[.pointer (some ⟨tb, 0, none⟩), bv] w (Ret (.int .i64 (remE L b)) (StTo tb S N (remA L b) w)) := by
  have h0 := h
  obtain ⟨NB, MB, h1, rfl⟩ := h.ex
  by_cases he : remE L b = 0
  · have h64 : b.length ≤ 64 := by
      unfold remE at he
      split at he
      · cases he
      · omega
    have hbl : b ∈ L := by
      unfold remE at he
      rw [if_neg (by omega)] at he
      split at he
      · assumption
      · cases he
    have hl := h.len
    refine (remove_good h1 h.srt.nodup bv b hb h64 hbl (by omega)).mono ?_
    rintro e w' ⟨rfl, k1, k2, k3⟩
    unfold remA
    rw [if_pos he]
    have hle : (L.erase b).length = L.length - 1 := List.length_erase_of_mem hbl
    exact ⟨by rw [he], _, N, ⟨⟨NB, MB, k1, rfl⟩, List.Pairwise.sublist List.erase_sublist h.srt, fun x hx => h.h64 x (List.mem_of_mem_erase hx), by omega⟩, k2, fun k hk => .inl (k3 k hk), by omega⟩
  · refine (remove_bad h1 bv b hb hn he).mono ?_
    rintro e w' ⟨rfl, rfl⟩
    refine ⟨rfl, ?_⟩
    unfold remA
    rw [if_neg he]
    exact h0.same (Frm.refl _ _)
theorem St.has (h : St w tb L S N) (hb : Byts w bv b) (hn : b.length ≤ 1000000) : Calls Try.prog 28 #[.pointer (some ⟨tb, 0, none⟩), bv] w (Ret (.bool (memB L b)) (w = ·)) := by
  obtain ⟨NB, MB, h1, rfl⟩ := h.ex
  have := has_any h1 bv b hb hn
  rwa [preB] at this
theorem St.len' (h : St w tb L S N) : Calls Try.prog 25 #[.pointer (some ⟨tb, 0, none⟩)] w (Ret (.int .i64 L.length) (w = ·)) := by
  obtain ⟨NB, MB, h1, rfl⟩ := h.ex
  exact len_any h1
theorem St.none' (h : St w tb L S N) : Calls Try.prog 47 #[.pointer (some ⟨tb, 0, none⟩)] w (Ret (.bool false) (w = ·)) := by
  obtain ⟨NB, MB, h1, rfl⟩ := h.ex
  exact none_any h1
theorem St.nodes (h : St w tb L S N) : Calls Try.prog 26 #[.pointer (some ⟨tb, 0, none⟩)] w (Ret (.int .i64 (nodesL L)) (Frm [] w)) := by
  obtain ⟨NB, MB, h1, rfl⟩ := h.ex
  exact nodes_any h1 h.h64 h.len
theorem St.longest (h : St w tb L S N) (hb : Byts w bv b) (hn : b.length ≤ 1000) : Calls Try.prog 55 #[.pointer (some ⟨tb, 0, none⟩), bv] w (Ret (.tuple #[.int .i64 (longL (pre L) (memB L) b).1, .bool (longL (pre L) (memB L) b).2]) (w = ·)) := by
  obtain ⟨NB, MB, h1, rfl⟩ := h.ex
  exact longest_any h1 bv b hb hn
theorem St.next (h : St w tb L S N) (hb : Byts w bv b) (hn : b.length ≤ 1000000) : Calls Try.prog 33 #[.pointer (some ⟨tb, 0, none⟩), bv] w (RetV fun v w' => Byts w' v (kidsP (pre L) b) ∧ Frm [] w w') := by
  obtain ⟨NB, MB, h1, rfl⟩ := h.ex
  exact next_any h1 bv b hb hn
theorem St.list (h : St w tb L S N) (hb : Byts w bv b) (hn : b.length ≤ 1000) : Calls Try.prog 49 #[.pointer (some ⟨tb, 0, none⟩), bv] w (RetV fun v w' => WL w' w.heap.size v (withP L b) ∧ Frm [] w w') := by
  obtain ⟨NB, MB, h1, rfl⟩ := h.ex
  exact list_any h1 h.srt h.h64 h.len bv b hb hn
theorem St.words (h : St w tb L S N) (hb : Byts w bv b) (hn : b.length ≤ 1000) : Calls Try.prog 22 #[.pointer (some ⟨tb, 0, none⟩), bv] w (RetV fun v w' => ∃ B u, v = .func (.func 50) #[] #[.pointer (some ⟨B, 0, none⟩)] ∧ WdR B w.heap.size u (withP L b) w' ∧ Frm [] w w') :=
  words_of (h.list hb hn)
theorem St.mark (h : St w tb L S N) (hb : Byts w bv b) (hn : b.length ≤ 1000) : Calls Try.prog 57 #[.pointer (some ⟨tb, 0, none⟩), bv] w (Ret (.tuple #[.int .i64 (markL L b).1, .int .i64 (markL L b).2]) (Frm [] w)) := by
  obtain ⟨NB, MB, h1, rfl⟩ := h.ex
  exact mark_any h1 h.srt h.h64 h.len bv b hb hn
/-- the node of a word that is there: what follows it -/
theorem St.find (h : St w tb L S N) (hp : pre L b = true) (hb : Byts w bv b) (hn : b.length ≤ 1000000) : ∃ nb mb, w.heap[nb]? = some (.cells #[.bool (memB L b), .map (some mb)] 68 (0, 0)) ∧
    (∀ w2, Frm [] w w2 → (Builtin.len_ #[66] 3 #[.map (some mb)]).run Try.prog w2 = .ok (.int .i64 (kidsP (pre L) b).length) w2) ∧ Calls Try.prog 54 #[.pointer (some ⟨tb, 0, none⟩), bv] w (Ret (.pointer (some ⟨nb, 0, none⟩)) (w = ·)) := by
  obtain ⟨NB, MB, h1, rfl⟩ := h.ex
  have := find_any h1 bv b hb hn
  unfold findV at this
  rw [if_pos hp] at this
  exact ⟨NB b, MB b, h1.node b hp, fun w2 hf => (h1.frm0 hf).len hp 3, this⟩
end
end Go.Proofs.Ytefpfcheafbfdaa
namespace Go.Proofs.Ytefpfcheafbfdaa
open Go.RowKit Go.Maps Go.BigFrame

def commF (L : List Wd) : Nat → Wd → Wd
  | 0, p => p
  | k + 1, p => if memB L p = false ∧ (kidsP (pre L) p).length = 1 then commF L k (p ++ [(kidsP (pre L) p).headD 0]) else p
/-- the longest common beginning -/
def commL (L : List Wd) : Wd := commF L 65 []
def lenV : Value → Nat | .slice _ n _ => n | _ => 0
/-- what is collected: it ends in RES -/
structure CB (w : World) (L : List Wd) (RES p : Wd) (v : Value) (wr : World) : Prop where
  row : wr.ownsRow w.heap.size 5 1 v p.length (p.map u8)
  fr : Frm [] w wr
  pp : pre L p = true
  res : commF L (65 - p.length) p = RES
/-- while the one byte is gone through: ahead of it, behind it -/
def CS (w : World) (L : List Wd) (RES p : Wd) (c : UInt8) (NB : Wd → Nat) (ao : Option Addr) (cap np : Nat) (left : Lit → Bool) (r : Nat) (w0 : World) (s2 s3 : Value) (wr : World) : Prop :=
  (s2 = .slice ao np cap ∧ s3 = nodeV NB p ∧ left (kl8 c) = true ∧ Frm [r] w0 wr) ∨ ((∀ kl, left kl = false) ∧ ∃ ao' cap', s2 = .slice ao' (np + 1) cap' ∧ s3 = nodeV NB (p ++ [c]) ∧ CB w L RES (p ++ [c]) s2 wr)
theorem pre_len {L : List Wd} (h64 : ∀ x ∈ L, x.length ≤ 64) {p : Wd} (hp : pre L p = true) : p.length ≤ 64 := by
  rcases pre_iff.1 hp with rfl | ⟨x, hx, hpx⟩
  · simp
  · have := h64 x hx; have := hpx.length_le; omega
section
variable {w : World} {tb N : Nat} {L : List Wd} {NB MB : Wd → Nat}
set_option maxHeartbeats 2000000 in
set_option maxRecDepth 100000 in
theorem common_any (h : TL w tb L NB MB N) (h64 : ∀ x ∈ L, x.length ≤ 64) : Calls Try.prog 34 #[.pointer (some ⟨tb, 0, none⟩)] w (RetV (Fresh w (commL L))) := by
  have CN := Lib.hid (none_any h)
  have c0 := cell_of h.top 0
  unfold nodeV at c0
  have HT := Lib.hid h; have H64 := Lib.hid h64
  have HI0 : Hid (CB w L (commL L) [] (.slice none 0 0) w) := Lib.hid ⟨World.ownsRow_nil _ _ _ _, Frm.refl _ _, pre_nil L, rfl⟩
  generalize commL L = RES at HI0 ⊢
  clear h h64
  go_enter Try.func34, Try.ntmps34
  go_wp2_with (go_at_call 47; go_must (refine CN.out.mono ?_; rintro e w' ⟨rfl, rfl⟩))
  clear c0
  go_loopw [2, 3] (fun s2 s3 wr => ∃ (p : Wd) (np : Nat) (ao : Option Addr) (cap : Nat), p.length = np ∧ s2 = .slice ao np cap ∧ s3 = nodeV NB p ∧ CB w L RES p (.slice ao np cap) wr) (fun s2 _ _ => 65 - lenV s2)
  case atStart => exact ⟨[], 0, none, 0, rfl, rfl, rfl, HI0.out⟩
  case round =>
    obtain ⟨p, np, ao, cap, hnp, rfl, rfl, hI⟩ := hrel
    have HI := Lib.hid hI
    have HNP := Lib.hid hnp
    have hT := HT.out.frm0 hI.fr
    have hp := hI.pp
    have hle := pre_len H64.out hp
    have c0 := cell_of (hT.node p hp) 0
    have c1 := cell_of (hT.node p hp) 1
    have hln := hT.len hp 3
    have hres := hI.res
    rw [show 65 - p.length = (64 - p.length) + 1 by omega] at hres
    unfold commF at hres
    obtain ⟨kn, hkn⟩ : ∃ kn, (kidsP (pre L) p).length = kn := ⟨_, rfl⟩
    rw [hkn] at hln hres
    have HKN := Lib.hid hkn
    have HLE : Hid (np ≤ 64) := Lib.hid (by omega)
    unfold nodeV
    have fin : (memB L p = true ∨ kn ≠ 1) → Hid (p = RES) := fun hx => Lib.hid (by
      rw [if_neg (fun e => by rcases hx with hx | hx
                              · rw [hx] at e; cases e.1
                              · exact hx e.2)] at hres
      exact hres)
    cases hm : memB L p with
    | true =>
      have HR := fin (.inl hm)
      rw [hm] at c0
      clear hI hT hp hle hres fin hm HI0 hkn hnp
      go_wp2
      go_ret
      refine ⟨_, rfl, ?_, HI.out.fr⟩
      have := HI.out.row
      rw [HNP.out] at this
      rw [← HR.out, HNP.out]
      exact this
    | false =>
      rw [hm] at c0
      by_cases hk : kn = 1
      · rw [if_pos ⟨hm, hk⟩] at hres
        subst hk
        obtain ⟨c, hc⟩ : ∃ c, kidsP (pre L) p = [c] := List.length_eq_one_iff.1 hkn
        rw [hc] at hres
        have HRES : Hid (commF L (64 - p.length) (p ++ [c]) = RES) := Lib.hid hres
        have HC := Lib.hid hc
        have hpc : pre L (p ++ [c]) = true := mem_kidsP.1 (by rw [hc]; simp)
        have HPC := Lib.hid hpc
        obtain ⟨D, hD, -⟩ := hT.kd hp
        have HD := Lib.hid hD
        have HM := Lib.hid hm
        have hmb : ∃ es cl, wr.heap[MB p]? = some (.map es cl) := hT.isMap hp
        have HMB := Lib.hid hmb
        obtain ⟨W, hW⟩ : ∃ W, W = wr := ⟨_, rfl⟩
        subst hW
        have c0' : W.cell? ⟨NB p, 0, none⟩ = some (.bool false) := c0
        clear hI hT hle hres fin hm HI0 hkn hnp hc hpc hp hD hmb
        go_wp2_with (at_range; refine wpList_range_own _ rfl _ 66 rfl 5 53 Try.key5 Try.underlying66 _ (MB p) N D rfl HD.out.own ?_; intro w0 hrg0 hg0 hs0; have HR0 := Lib.hid hrg0; have HG0 := Lib.hid hg0; clear hrg0 hg0 hs0)
        have HF0 : Hid (Frm [] W w0) := Lib.hid ((Frm.refl [] W).grown HG0.out (by simp))
        have HI1 : Hid (∃ left cn, w0.ranges Try.prog 5 rawR (MB p) W.heap.size N D left cn ∧ (∀ kl, left kl = true → Maps.has D kl = true) ∧ CS w L RES p c NB ao cap np left W.heap.size w0 (.slice ao np cap) (nodeV NB p) w0) := Lib.hid ⟨_, _, HR0.out, fun _ h => h, .inl ⟨rfl, rfl, HD.out.has8 HPC.out, Frm.refl _ _⟩⟩
        clear HR0
        go_frame
        go_loopw [2, 3] (fun s2 s3 wr => ∃ (left : Lit → Bool) (cn : Nat) (ao2 : Option Addr) (n2 cap2 : Nat) (q : Wd), s2 = .slice ao2 n2 cap2 ∧ s3 = .pointer (some ⟨NB q, 0, none⟩) ∧ wr.ranges Try.prog 5 rawR (MB p) W.heap.size N D left cn ∧ (∀ kl, left kl = true → Maps.has D kl = true) ∧ CS w L RES p c NB ao cap np left W.heap.size w0 (.slice ao2 n2 cap2) (.pointer (some ⟨NB q, 0, none⟩)) wr) (fun _ _ wr => wr.rangeLeft (MB p) W.heap.size)
        case atStart => (obtain ⟨left, cn, a1, a2, a3⟩ := HI1.out; exact ⟨left, cn, _, _, _, _, rfl, rfl, a1, a2, a3⟩)
        case round =>
          obtain ⟨left, cn, ao2, n2, cap2, q, rfl, rfl, hrg, hsub, hs⟩ := hrel
          have HRG := Lib.hid hrg; have HSUB := Lib.hid hsub; have HCS := Lib.hid hs
          clear HI1 hrg hsub hs c0' c1
          go_wp2_with (first
            | (at_next; refine wpList_next_ranges _ rfl _ rfl 5 Try.key5 rawR (Value.int .u8) (fun v : Value => v) (fun key kl hkey => by obtain ⟨x, e, -⟩ := Maps.keyOf_int_inv Try.underlying5 hkey; exact ⟨x, e⟩) (fun v y _ => ⟨v, rfl⟩) (MB p) W.heap.size N D left cn rfl HRG.out ?_ ?_))
          · intro _ hl0
            obtain ⟨ao', cap', e2, e3, hcb⟩ : ∃ ao' cap', Value.slice ao2 n2 cap2 = .slice ao' (np + 1) cap' ∧ Value.pointer (some ⟨NB q, 0, none⟩) = nodeV NB (p ++ [c]) ∧ CB w L RES (p ++ [c]) (.slice ao2 n2 cap2) wr := by
              rcases HCS.out with ⟨-, -, hl, -⟩ | ⟨-, h⟩
              · rw [hl0] at hl; cases hl
              · exact h
            cases e2
            have HCB := Lib.hid hcb
            have HE3 := Lib.hid e3
            clear hl0 e3 hcb
            go_wp2
            exact ⟨⟨p ++ [c], np + 1, ao2, cap2, by simp [HNP.out], rfl, HE3.out, HCB.out⟩, by simp [lenV]; have := HLE.out; omega⟩
          · intro x y kl y1 y2 w1 cnt1 hkey hlk hR hat hrg1 hlt1 hg1 hs1 hen
            obtain ⟨t, rfl, ht⟩ := HD.out.key (HSUB.out kl hlk)
            have htc : t = c := by have := mem_kidsP.2 ht; rw [HC.out] at this; simpa using this
            subst htc
            have hy : y = nodeV NB (p ++ [t]) := by
              simp only [rawR, Option.some.injEq, Prod.mk.injEq] at hR
              have h1 := hat .nil
              rw [← hR.1, HD.out.at' t ht] at h1
              simpa using h1.symm
            subst hy
            obtain ⟨e2, hfr⟩ : Value.slice ao2 n2 cap2 = .slice ao np cap ∧ Frm [W.heap.size] w0 wr := by
              rcases HCS.out with ⟨h1, -, -, h2⟩ | ⟨h, -⟩
              · exact ⟨h1, h2⟩
              · rw [h] at hlk; cases hlk
            cases e2
            have hx : x = (t.toNat : Int) := by
              obtain ⟨x', ex, h1, -⟩ := Maps.keyOf_int_inv Try.underlying5 hkey
              simp only [Value.int.injEq, true_and] at ex; unfold kl8 at h1; simp only [Lit.int.injEq, true_and] at h1; omega
            subst hx
            have hF1 : Frm [W.heap.size] w0 w1 := hfr.trans ((Frm.refl _ _).grown hg1 (by simp))
            have HF1 := Lib.hid hF1
            have HRG1 := Lib.hid hrg1; have HLT := Lib.hid hlt1
            have HL2 : Hid (∀ z, (left z && !z.sameKey (kl8 t)) = false) := Lib.hid fun z => by
              cases e : left z with
              | false => rfl
              | true =>
                obtain ⟨t2, rfl, ht2⟩ := HD.out.key (HSUB.out z e)
                have := mem_kidsP.2 ht2
                rw [HC.out] at this
                simp only [List.mem_singleton] at this
                subst this
                rw [kl8_same]; simp
            have HOW : Hid (w1.ownsRow w.heap.size 5 1 (.slice ao np cap) p.length (p.map u8)) := Lib.hid (hF1.owns (HF0.out.owns HI.out.row (by simp)) (fun k hk hx => by
              have := ownBlock_lt HI.out.row hk
              simp at hx; omega))
            unfold nodeV at hen
            clear hkey hlk hR hat hrg1 hlt1 hg1 hs1 ht hF1 hfr
            have HB1 : Hid (Byts (w1.alloc (.cells #[.int .u8 (t.toNat : Int)] 5)) (.slice (some ⟨w1.heap.size, 0, none⟩) 1 1) [t]) := Lib.hid (Byts.of_own (own_lit (base := 0) [t] (Nat.zero_le _) (by simp)))
            have HOW2 : Hid ((w1.alloc (.cells #[.int .u8 (t.toNat : Int)] 5)).ownsRow w.heap.size 5 1 (.slice ao np cap) p.length (p.map u8)) := Lib.hid (((Frm.refl [] w1).alloc _).owns HOW.out (by simp))
            have hLEN : p.length + [t].length ≤ 4000000 := by have := HLE.out; have := HNP.out; simp; omega
            have HLEN := Lib.hid hLEN
            have hWS : w.heap.size ≤ (w1.alloc (.cells #[.int .u8 (t.toNat : Int)] 5)).heap.size := by
              have h1 := HI.out.fr.size; have h2 := HF0.out.size; have h3 := HF1.out.size
              simp; omega
            have HWS := Lib.hid hWS
            have e1 : (p ++ [t]).length = np + 1 := by simp [HNP.out]
            clear hLEN hWS
            go_wp2_with (first
              | (at_builtin; refine wpList_app_bytes rfl _ _ rfl w.heap.size (.slice ao np cap) _ rfl rfl p [t] HOW2.out HB1.out HLEN.out HWS.out ?_; intro ao' cp' w2 hown hgrow; rw [e1] at hown ⊢; have HO := Lib.hid hown; have HG := Lib.hid hgrow; clear hown hgrow))
            have hF2 : Frm (Value.slice ao np cap).ownBlock.toList w1 w2 := ((Frm.refl _ _).alloc _).grown HG.out (fun k hk => .inl (by simp [hk]))
            have hge : ∀ k ∈ (Value.slice ao np cap).ownBlock.toList, w.heap.size ≤ k ∧ k < W.heap.size ∧ ∃ cl, W.heap[k]? = some (.cells cl 5 (0, 0)) := fun k hk => by
              simp only [Option.mem_toList] at hk
              exact ⟨ownBlock_ge HI.out.row hk, ownBlock_lt HI.out.row hk, ownBlock_type HI.out.row hk⟩
            have hrg2 := ranges_frm HRG1.out hF2 (fun hx => by
              obtain ⟨-, -, cl, h2⟩ := hge _ hx
              obtain ⟨es, cl', h3⟩ := HMB.out
              rw [h2] at h3; cases h3) (fun hx => by have := (hge _ hx).2.1; omega)
            have hW0 := HI.out.fr.size
            refine ⟨⟨_, cnt1, ao', np + 1, cp', p ++ [t], rfl, rfl, hrg2, fun z hz => HSUB.out z (by simp at hz; exact hz.1), .inr ⟨HL2.out, ao', cp', rfl, rfl, ?_, ?_, HPC.out, ?_⟩⟩, ?_⟩
            · rw [e1]; exact HO.out
            · exact ((HI.out.fr.trans HF0.out).then HF1.out (by intro x hx; simp at hx; right; omega)).then hF2 (fun x hx => .inr (hge x hx).1)
            · rw [e1, ← HRES.out, HNP.out]
              congr 1; omega
            · rw [hrg2.left_eq, HRG.out.left_eq]
              exact HLT.out
      · have HR := fin (.inr hk)
        have hk' : ((kn : Int) == 1) = false := by rw [beq_eq_false_iff_ne]; omega
        have hk2 : ¬ (kn : Int) = 1 := by omega
        clear hI hT hp hle hres fin hm HI0 hkn hnp
        go_wp2
        go_ret
        refine ⟨_, rfl, ?_, HI.out.fr⟩
        have := HI.out.row
        rw [HNP.out] at this
        rw [← HR.out, HNP.out]
        exact this
end
end Go.Proofs.Ytefpfcheafbfdaa
