/- Held: the bytes of all parts, the messages in whatever order. -/
import Derived.Test.YtomjnbcaofebfaaVisit
namespace Go.Proofs.Ytomjnbcaofebfaa
open Go.RowKit Go.Maps Go.BigFrame

/-- the bytes that are still to come -/
def remS (left : Lit → Bool) (S : St) : Nat := (S.map fun m => if left (.int .i64 m.1) then sizeP m.2.ps else 0).sum
theorem remS_cons (left : Lit → Bool) (m : Int × Msg) (S : St) : remS left (m :: S) = (if left (.int .i64 m.1) then sizeP m.2.ps else 0) + remS left S := by simp [remS]
theorem heldS_cons (m : Int × Msg) (S : St) : heldS (m :: S) = sizeP m.2.ps + heldS S := by simp [heldS]
theorem remS_all {left : Lit → Bool} : ∀ {S : St}, (∀ t ∈ keysI S, left (.int .i64 t) = true) → remS left S = heldS S
  | [], _ => rfl
  | m :: S, h => by
    have ih := remS_all (left := left) (S := S) (fun t ht => h t (by simp only [keysI, List.map_cons, List.mem_cons] at ht ⊢; exact .inr ht))
    rw [remS_cons, heldS_cons, ih, if_pos (h m.1 (by simp [keysI]))]
theorem remS_none {left : Lit → Bool} : ∀ {S : St}, (∀ kl, left kl = false) → remS left S = 0
  | [], _ => rfl
  | m :: S, h => by
    rw [remS_cons, remS_none (left := left) (S := S) h, if_neg (by rw [h]; simp)]
theorem remS_congr {l l' : Lit → Bool} : ∀ {S : St}, (∀ t ∈ keysI S, l (.int .i64 t) = l' (.int .i64 t)) → remS l S = remS l' S
  | [], _ => rfl
  | m :: S, h => by
    have ih := remS_congr (l := l) (l' := l') (S := S) (fun t ht => h t (by simp only [keysI, List.map_cons, List.mem_cons] at ht ⊢; exact .inr ht))
    rw [remS_cons, remS_cons, ih, h m.1 (by simp [keysI])]
theorem remS_strike {left : Lit → Bool} {t : Int} : ∀ {S : St} {m : Msg}, (keysI S).Nodup → lk S t = some m → left (.int .i64 t) = true → remS (fun z => left z && !z.sameKey (.int .i64 t)) S + sizeP m.ps = remS left S
  | [], m, _, h, _ => by cases h
  | (k, u) :: S, m, hn, h, hl => by
    simp only [keysI, List.map_cons, List.nodup_cons] at hn
    unfold lk at h
    by_cases hk : t = k
    · subst hk
      rw [if_pos rfl] at h
      cases h
      have hc := remS_congr (S := S) (l := fun z => left z && !z.sameKey (.int .i64 t)) (l' := left) (fun t' ht' => by
        have : t' ≠ t := fun e => hn.1 (e ▸ ht')
        simp [Lit.sameKey, this])
      rw [remS_cons, remS_cons, hc, if_pos hl, if_neg (by simp [Lit.sameKey])]
      simp only
      omega
    · rw [if_neg hk] at h
      have ih := remS_strike hn.2 h hl
      have hs : (Lit.int .i64 k).sameKey (.int .i64 t) = false := by simp [Lit.sameKey]; exact fun e => hk e.symm
      rw [remS_cons, remS_cons, hs, Bool.not_false, Bool.and_true]
      simp only at ih ⊢
      omega
/-- the map's entries, one at a time -/
structure MD (w : World) (mo N : Nat) (S : St) (K : Int → Nat) (D : DataW Value) : Prop where
  own : w.ownsMap Try.prog 3 rawR mo N D
  has : ∀ kl, Maps.has D kl = (fI (fun t => (lk S t).map fun m => mv m.cnt (K t)) kl).isSome
  at' : ∀ t m, lk S t = some m → ∀ z, D.atKey (.int .i64 t) z = .held (mv m.cnt (K t))
theorem MD.of {w : World} {mo N : Nat} {S : St} {K : Int → Nat} (h : IM w mo N S (fun t m => mv m.cnt (K t))) : ∃ D, MD w mo N S K D := by
  rcases h.1 with ⟨h, _⟩ | ⟨b', D0, h, ho, h1, h2, h3⟩
  · cases h
  · cases h
    exact ⟨D0, ho, h1, fun t m ht z => h2 (.int .i64 t) _ (by simp [fI, ht]) z⟩
theorem MD.key {w : World} {mo N : Nat} {S : St} {K : Int → Nat} {D : DataW Value} (h : MD w mo N S K D) {kl : Lit} (hk : Maps.has D kl = true) : ∃ t m, kl = .int .i64 t ∧ lk S t = some m := by
  rw [h.has] at hk
  unfold fI at hk
  split at hk
  · rename_i t
    obtain ⟨m, hm⟩ := Option.isSome_iff_exists.1 hk
    rw [Option.map_eq_some_iff] at hm
    obtain ⟨m', hm', -⟩ := hm
    exact ⟨t, m', rfl, hm'⟩
  · cases hk
/-- while the messages are gone through -/
structure HI (w1 : World) (nb r mo N : Nat) (S : St) (D : DataW Value) (left : Lit → Bool) (cnt : Nat) (wr : World) : Prop where
  rg : wr.ranges Try.prog 3 rawR mo r N D left cnt
  sub : ∀ kl, left kl = true → Maps.has D kl = true
  fr : Frm [nb, r] w1 wr
  cell : ∃ n : Nat, wr.heap[nb]? = some (.cells #[.int .i64 n] 3 (0, 0)) ∧ n + remS left S = heldS S
theorem ranges_frm {F : List Nat} {w w' : World} {mo r N : Nat} {D : DataW Value} {left : Lit → Bool} {cnt : Nat} (h : w.ranges Try.prog 3 rawR mo r N D left cnt) (hf : Frm F w w') (h1 : mo ∉ F) (h2 : r ∉ F) : w'.ranges Try.prog 3 rawR mo r N D left cnt := by
  obtain ⟨es, clock, since, seen, c0, q1, q2, q3, q4, q5, q⟩ := h
  exact ⟨es, clock, since, seen, c0, hf.at q1 h1, q2, q3, q4, hf.at q5 h2, q⟩
theorem results_c3 {fn : Func} {p : Tmp} (h : fn.results = #[.cell p 3]) {tmps : Array Value} {w : World} {g : Nat} {v : Int} {t : TypeId} {f : Nat × Nat} (hp : tmps.getD p undef = .pointer (some ⟨g, 0, none⟩)) (hg : w.heap[g]? = some (.cells #[.int .i64 v] t f)) :
    (results fn tmps).run Try.prog w = .ok (.int .i64 v) w := by
  have hp' : tmps[p]?.getD undef = .pointer (some ⟨g, 0, none⟩) := by simpa using hp
  have hc := cell_of hg 0
  simp [results, h, hp', go_sem, hc]
set_option maxHeartbeats 2000000 in
set_option maxRecDepth 100000 in
theorem held_any {w : World} {xb mo : Nat} {M B : Int} {N : Nat} {S : St} {K : Int → Nat} (h : BX w xb mo M B N S K) : Calls Try.prog 16 #[.pointer (some ⟨xb, 0, none⟩)] w (Ret (.int .i64 (heldS S)) (Frm [] w)) := by
  obtain ⟨D, hD⟩ := MD.of h.hm
  have HX := Lib.hid h
  have HD := Lib.hid hD
  have CN := Lib.hid (fun W (hf : Frm [] w W) => none_any (h.frm0 hf))
  have c2 : (w.alloc (.cells #[.int .i64 0] 3)).cell? ⟨xb, 2, none⟩ = some (.map (some mo)) := ((Frm.refl [] w).alloc _).keep (cell_of h.hx 2)
  clear h hD
  go_enter Try.func16, Try.ntmps16
  go_wp2_with (first
    | (go_at_call 31; go_must (refine (CN.out _ ((Frm.refl [] w).alloc _)).mono ?_; rintro e w' ⟨rfl, rfl⟩))
    | (at_range; refine wpList_range_own _ rfl _ 56 rfl 3 75 Try.key3 Try.underlying56 _ mo N D rfl (HD.out.own.alloc _) ?_; intro w0 hrg0 hg0 hs0; rw [World.size_alloc] at hrg0; have HR0 := Lib.hid hrg0; have HG0 := Lib.hid hg0; clear hrg0 hg0 hs0))
  have HW0 : Hid (Frm [] w w0) := Lib.hid (((Frm.refl [] w).alloc _).grown HG0.out (by simp))
  have HMO : Hid (mo < w.heap.size) := Lib.hid (by obtain ⟨es, c, hb⟩ := HX.out.hm.block; exact lt_of_block hb)
  have HI0 : Hid (HI w0 w.heap.size (w.heap.size + 1) mo N S D (Maps.has D) (Maps.size D) w0) := Lib.hid ⟨HR0.out, fun _ h => h, Frm.refl _ _, 0, grown_at HG0.out (heap_alloc_new _ _) (by simp), by
    rw [Nat.zero_add]
    exact remS_all (fun t ht => by
      obtain ⟨m, hm⟩ := Option.isSome_iff_exists.1 (lk_some.2 ht)
      rw [HD.out.has]; simp [fI, hm])⟩
  clear HR0
  rw [World.size_alloc]
  go_frame
  go_loopw [12] (fun _ wr => ∃ left cnt, HI w0 w.heap.size (w.heap.size + 1) mo N S D left cnt wr) (fun _ wr => wr.rangeLeft mo (w.heap.size + 1))
  case atStart => exact ⟨_, _, HI0.out⟩
  case round =>
    obtain ⟨left, cnt, hI⟩ := hrel
    have HH := Lib.hid hI
    clear hI HI0
    go_wp2_with (first
      | (at_next; refine wpList_next_ranges _ rfl _ rfl 3 Try.key3 rawR (Value.int .i64) (fun v : Value => v) (fun key kl hkey => by obtain ⟨x, e, -⟩ := Maps.keyOf_int_inv Try.underlying3 hkey; exact ⟨x, e⟩) (fun v y _ => ⟨v, rfl⟩) mo (w.heap.size + 1) N D left cnt rfl HH.out.rg ?_ ?_))
    · intro _ hl0
      obtain ⟨n, hc, hn⟩ := HH.out.cell
      rw [remS_none hl0, Nat.add_zero] at hn
      subst hn
      have c0 := cell_of hc 0
      have f0 := free_of hc 0
      have HC := Lib.hid hc
      clear hc hl0
      go_wp2
      have hb := block_setCell HC.out 0 (.int .i64 (heldS S))
      have hs := HW0.out.size
      refine bodyPost_ret (results_c3 rfl rfl hb) rfl ⟨rfl, ((HW0.out.then HH.out.fr (by intro x hx; simp at hx; omega)).setCell _ (.inr (by simp)) _)⟩
    · intro x c kl y1 y2 w1 cnt1 hkey hlk hR hat hrg1 hlt1 hg1 hs1 hen
      obtain ⟨t, m, rfl, hm⟩ := HD.out.key (HH.out.sub kl hlk)
      have hc : c = mv m.cnt (K t) := by
        simp only [rawR, Option.some.injEq, Prod.mk.injEq] at hR
        have h1 := hat .nil
        rw [← hR.1, HD.out.at' t m hm] at h1
        simpa using h1.symm
      subst hc
      have hs0 := HW0.out.size
      have hFW : Frm [] w wr := HW0.out.then HH.out.fr (by intro x hx; simp at hx; omega)
      have hF1 : Frm [w.heap.size + 1] wr w1 := (Frm.refl _ _).grown hg1 (by simp)
      have hFW1 : Frm [] w w1 := hFW.then hF1 (by intro x hx; simp at hx; omega)
      obtain ⟨n, hcell, hn⟩ := HH.out.cell
      have hcell1 := hF1.at hcell (by simp)
      have hst := remS_strike HX.out.hm.2 hm hlk
      have hsm := HX.out.small t m hm
      have hhb := HX.out.held
      have hb20 := HX.out.b20
      have CV : Hid (∀ W, Frm [] w1 W → Calls Try.prog 33 #[mv m.cnt (K t), .func (.func 34) #[] #[.pointer (some ⟨w.heap.size, 0, none⟩)]] W (Ret (.tuple #[]) (fun w' => Frm [w.heap.size] W w' ∧ w'.heap[w.heap.size]? = some (.cells #[.int .i64 (n + sizeP m.ps)] 3 (0, 0))))) := Lib.hid fun W hf =>
        visit34 m.cnt (K t) N m.ps w.heap.size n W ((HX.out.hp t m hm).frm0 (hFW1.trans hf)) (by omega) (hf.at hcell1 (by simp)) (by omega) (by omega)
      have HRG := Lib.hid hrg1; have HLT := Lib.hid hlt1; have HF1 := Lib.hid hF1; have HN := Lib.hid hn; have HST := Lib.hid hst; have HLK := Lib.hid hlk
      have HFW1 := Lib.hid hFW1
      unfold mv at hen CV
      clear hkey hlk hR hat hrg1 hlt1 hg1 hs1 hFW hF1 hFW1 hcell hcell1 hn hst hm hsm hhb hb20 hs0
      go_wp2_with (first
        | (go_at_call 33; go_must (refine (CV.out _ ((Frm.refl [] w1).alloc _)).mono ?_; clear CV; rintro e w4 ⟨rfl, hf4, hc4⟩; have HF4 := Lib.hid hf4; have HC4 := Lib.hid hc4; clear hf4 hc4)))
      have hmo := HMO.out
      have h14 : Frm [w.heap.size] w1 w4 := (((Frm.refl [] w1).alloc _).mono (by simp)).trans HF4.out
      have hrg4 := ranges_frm HRG.out h14 (by simp; omega) (by simp)
      refine ⟨⟨_, cnt1, hrg4, fun z hz => HH.out.sub z (by simp at hz; exact hz.1), (HH.out.fr.trans (HF1.out.mono (by simp))).trans (h14.mono (by simp)), n + sizeP m.ps, by push_cast; exact HC4.out, by have h1 := HN.out; have h2 := HST.out; omega⟩, ?_⟩
      rw [hrg4.left_eq, HH.out.rg.left_eq]
      exact HLT.out
end Go.Proofs.Ytomjnbcaofebfaa
