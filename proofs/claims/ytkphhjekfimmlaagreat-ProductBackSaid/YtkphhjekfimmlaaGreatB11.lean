/- product: change: a copy of a state with a channel that may be changed. product: the walk of change. Moves held against each other; whether a move is among moves. Keys read back: the state with a key; the key of a state reads back as this state, with the messages of a mixed channel in order. -/
import Derived.Test.YtkphhjekfimmlaaGreatB09
import Derived.Deep.RegionHeld3
import Derived.Test.YtkphhjekfimmlaaGreatB07
import Derived.Laws.StructEq
namespace Go.Proofs.YtkphhjekfimmlaaGreat
open Go.RowKit Go.BigFrame

/-- a state under change: block xb; its actors at row ab, its rows at row gb, the row 'f' at row rb; the channel at cb, blocks F, messages L; nothing else of it is one's own -/
structure ChS (w : World) (s : SesD) (x : PS) (yb xb ab gb rb cb f t : Nat) (F : List Nat) (L : List ByteArray) (W : World) : Prop where
  fr : Frm [] w W
  new : w.heap.size ≤ xb ∧ w.heap.size ≤ ab ∧ w.heap.size ≤ gb ∧ w.heap.size ≤ rb ∧ ∀ k ∈ F, w.heap.size ≤ k
  hx : ∃ ca cg, W.heap[xb]? = some (.cells #[.pointer (some ⟨yb, 0, none⟩), .slice (some ⟨ab, 0, none⟩) s.roles.length ca, .slice (some ⟨gb, 0, none⟩) s.roles.length cg] 119 (0, 0))
  ha : ∃ cur, W.heap[ab]? = some (.cells cur 145 (0, 0))
  act : ∀ i, i < s.roles.length → ∃ bb, W.cell? ⟨ab, i * 2, none⟩ = some (.int .i64 ((x.at i : Nat) : Int)) ∧ W.cell? ⟨ab, i * 2 + 1, none⟩ = some (.pointer (some ⟨bb, 0, none⟩)) ∧ Bnk w bb (x.ctr s i)
  row : ∀ i, i < s.roles.length → i ≠ f → ∃ rv, W.cell? ⟨gb, i, none⟩ = some rv ∧ RowV s.cls s.cap w rv (x.ways.getD i [])
  rowf : ∃ cr, W.cell? ⟨gb, f, none⟩ = some (.slice (some ⟨rb, 0, none⟩) s.roles.length cr)
  chs : ∀ k, k < s.roles.length → k ≠ t → ∃ c G, W.cell? ⟨rb, k, none⟩ = some (.pointer (some ⟨c, 0, none⟩)) ∧ Chn w c s.cls s.cap (x.way f k) G
  cht : W.cell? ⟨rb, t, none⟩ = some (.pointer (some ⟨cb, 0, none⟩))
  chn : Chn W cb s.cls s.cap L F
  types : (∃ c fr, W.heap[gb]? = some (.cells c 137 fr)) ∧ ∃ c fr, W.heap[rb]? = some (.cells c 138 fr)
/-- the same before the channel is copied -/
structure Ch2 (w : World) (s : SesD) (x : PS) (yb xb ab gb rb f : Nat) (W : World) : Prop where
  fr : Frm [] w W
  new : w.heap.size ≤ xb ∧ w.heap.size ≤ ab ∧ w.heap.size ≤ gb ∧ w.heap.size ≤ rb
  hx : ∃ ca cg, W.heap[xb]? = some (.cells #[.pointer (some ⟨yb, 0, none⟩), .slice (some ⟨ab, 0, none⟩) s.roles.length ca, .slice (some ⟨gb, 0, none⟩) s.roles.length cg] 119 (0, 0))
  ha : ∃ cur, W.heap[ab]? = some (.cells cur 145 (0, 0))
  act : ∀ i, i < s.roles.length → ∃ bb, W.cell? ⟨ab, i * 2, none⟩ = some (.int .i64 ((x.at i : Nat) : Int)) ∧ W.cell? ⟨ab, i * 2 + 1, none⟩ = some (.pointer (some ⟨bb, 0, none⟩)) ∧ Bnk w bb (x.ctr s i)
  row : ∀ i, i < s.roles.length → i ≠ f → ∃ rv, W.cell? ⟨gb, i, none⟩ = some rv ∧ RowV s.cls s.cap w rv (x.ways.getD i [])
  rowf : ∃ cr, W.cell? ⟨gb, f, none⟩ = some (.slice (some ⟨rb, 0, none⟩) s.roles.length cr)
  chs : ∀ k, k < s.roles.length → ∃ c G, W.cell? ⟨rb, k, none⟩ = some (.pointer (some ⟨c, 0, none⟩)) ∧ Chn w c s.cls s.cap (x.way f k) G
  tg : ∃ c, W.heap[gb]? = some (.cells c 137 (0, 0))
  tr : ∃ c, W.heap[rb]? = some (.cells c 138 (0, 0))
section
variable {w W W' : World} {s : SesD} {x : PS} {yb xb ab gb rb cb f t : Nat} {F F' : List Nat} {L L' : List ByteArray}
/-- the blocks of a channel are of channels or of texts -/
theorem Chn.types (h : Chn W cb s.cls s.cap L F) {k : Nat} (hk : k ∈ F) : ∃ c e, W.heap[k]? = some (.cells c e (0, 0)) ∧ (e = 229 ∨ e = 9) := by
  obtain ⟨sv, h1, h2, -, rfl⟩ := h
  simp only [List.mem_cons, Option.mem_toList] at hk
  rcases hk with rfl | hk
  · exact ⟨_, _, h1, .inl rfl⟩
  · obtain ⟨c, hc⟩ := ownBlock_type h2 hk
    exact ⟨c, 9, hc, .inr rfl⟩
theorem Ch2.frm (h : Ch2 w s x yb xb ab gb rb f W) (hf : Frm [] W W') : Ch2 w s x yb xb ab gb rb f W' := by
  obtain ⟨ca, cg, hx⟩ := h.hx
  obtain ⟨cur, ha⟩ := h.ha
  obtain ⟨c1, t1⟩ := h.tg
  obtain ⟨c2, t2⟩ := h.tr
  obtain ⟨cr, hr⟩ := h.rowf
  refine ⟨h.fr.trans hf, h.new, ⟨ca, cg, hf.at hx (by simp)⟩, ⟨cur, hf.at ha (by simp)⟩, fun i hi => ?_, fun i hi hn => ?_, ⟨cr, hf.keep hr⟩, fun k hk => ?_, ⟨c1, hf.at t1 (by simp)⟩, c2, hf.at t2 (by simp)⟩
  · obtain ⟨bb, a1, a2, a3⟩ := h.act i hi
    exact ⟨bb, hf.keep a1, hf.keep a2, a3⟩
  · obtain ⟨rv, a1, a2⟩ := h.row i hi hn
    exact ⟨rv, hf.keep a1, a2⟩
  · obtain ⟨c, G, a1, a2⟩ := h.chs k hk
    exact ⟨c, G, hf.keep a1, a2⟩
/-- the row f is copied and stored -/
theorem ch2_mk {w3 w5 : World} {cab cgb crb n : Nat} {curg curr : Array Value} (hn : s.roles.length = n) (hok : PSok s x) (hfl : f < s.roles.length) (fr : Frm [] w w5) (f35 : Frm [] w3 w5) (n1 : w.heap.size ≤ xb) (n2 : w.heap.size ≤ ab) (n3 : w.heap.size ≤ gb) (n4 : w3.heap.size ≤ rb)
    (hx : w3.heap[xb]? = some (.cells #[.pointer (some ⟨yb, 0, none⟩), .slice (some ⟨ab, 0, none⟩) n cab, .slice (some ⟨gb, 0, none⟩) n cgb] 119 (0, 0))) {cura : Array Value} (ha : w3.heap[ab]? = some (.cells cura 145 (0, 0))) (hae : ∀ (i : Nat) a, (actsP s x)[i]? = some a → AoAt w w3 ab (i * 2) a)
    (hg : w5.heap[gb]? = some (.cells curg 137 (0, 0))) (hg3 : w3.heap[gb]? = some (.cells curg 137 (0, 0))) (hge : ∀ (i : Nat) R, x.ways[i]? = some R → WoAt s.cls s.cap w w3 gb (i * 1) R) (hr : w5.heap[rb]? = some (.cells curr 138 (0, 0))) (hre : ∀ (k : Nat) M, (x.ways.getD f [])[k]? = some M → CoAt s.cls s.cap w w5 rb (k * 1) M) :
    Ch2 w s x yb xb ab gb rb f (w5.setCell ⟨gb, f, none⟩ (.slice (some ⟨rb, 0, none⟩) n crb)) := by
  have hF : Frm [gb] w5 (w5.setCell ⟨gb, f, none⟩ (.slice (some ⟨rb, 0, none⟩) n crb)) := (Frm.refl _ _).setCell _ (.inl (by simp)) _
  have hb := block_setCell hg f (.slice (some ⟨rb, 0, none⟩) n crb)
  have x5 := f35.at hx (by simp)
  have a5 := f35.at ha (by simp)
  have nx : xb ∉ [gb] := fun e => by simp at e; subst e; rw [x5] at hg; cases hg
  have na : ab ∉ [gb] := fun e => by simp at e; subst e; rw [a5] at hg; cases hg
  have nr : rb ∉ [gb] := fun e => by simp at e; subst e; rw [hr] at hg; cases hg
  have hgf : f < curg.size := by
    obtain ⟨v, h1, -⟩ := hge f _ (some_getD (d := []) (by rw [hok.wl]; exact hfl))
    rw [Nat.mul_one, cell_of hg3] at h1
    exact (Array.getElem?_eq_some_iff.1 h1).1
  have hs5 := f35.size
  have hs0 := lt_of_block hg3
  refine ⟨fr.then hF (by intro y hy; simp at hy; subst hy; exact .inr n3), ⟨n1, n2, n3, by omega⟩, ⟨cab, cgb, by rw [hn]; exact hF.at x5 nx⟩, ⟨cura, hF.at a5 na⟩, fun i hi => ?_, fun i hi hne => ?_, ⟨crb, ?_⟩, fun k hk => ?_, ⟨_, hb⟩, curr, hF.at hr nr⟩
  · obtain ⟨bb, b1, b2, b3⟩ := hae i _ (actsP_at hi)
    exact ⟨bb, hF.cellAt (f35.keep b1) na, hF.cellAt (f35.keep b2) na, b3⟩
  · obtain ⟨v, b1, b2⟩ := hge i _ (some_getD (d := []) (by rw [hok.wl]; exact hi))
    rw [Nat.mul_one] at b1
    refine ⟨v, ?_, b2⟩
    rw [cell_of hb, Array.getElem?_setIfInBounds_ne (by omega), ← cell_of hg3]
    exact b1
  · rw [cell_of hb, Array.getElem?_setIfInBounds_self_of_lt hgf, hn]
  · obtain ⟨c, G, b1, b2⟩ := hre k _ (some_getD (d := []) (by rw [hok.wr f hfl]; exact hk))
    rw [Nat.mul_one] at b1
    exact ⟨c, G, hF.cellAt b1 nr, b2⟩
/-- the channel is copied and stored -/
theorem Ch2.fin {w7 : World} (h : Ch2 w s x yb xb ab gb rb f W) (hf : Frm [] W w7) (hc : Chn w7 cb s.cls s.cap L F) (hF : ∀ k ∈ F, W.heap.size ≤ k) (ht : t < s.roles.length) : ChS w s x yb xb ab gb rb cb f t F L (w7.setCell ⟨rb, t, none⟩ (.pointer (some ⟨cb, 0, none⟩))) := by
  have h7 := h.frm hf
  obtain ⟨ca, cg, hx⟩ := h7.hx
  obtain ⟨cur, ha⟩ := h7.ha
  obtain ⟨c1, t1⟩ := h7.tg
  obtain ⟨c2, t2⟩ := h7.tr
  obtain ⟨cr, hr⟩ := h7.rowf
  have hS : Frm [rb] w7 (w7.setCell ⟨rb, t, none⟩ (.pointer (some ⟨cb, 0, none⟩))) := (Frm.refl _ _).setCell _ (.inl (by simp)) _
  have hb := block_setCell t2 t (.pointer (some ⟨cb, 0, none⟩))
  have nx : xb ∉ [rb] := fun e => by simp at e; subst e; rw [hx] at t2; cases t2
  have na : ab ∉ [rb] := fun e => by simp at e; subst e; rw [ha] at t2; cases t2
  have ng : gb ∉ [rb] := fun e => by simp at e; subst e; rw [t1] at t2; cases t2
  have nF : ∀ k ∈ F, k ∉ [rb] := fun k hk e => by
    obtain ⟨c, e', a1, a2⟩ := hc.types hk
    simp at e; subst e
    rw [t2] at a1; cases a1
    revert a2; decide
  have hsz : t < c2.size := by
    obtain ⟨c, G, a1, -⟩ := h7.chs t ht
    rw [cell_of t2] at a1
    exact (Array.getElem?_eq_some_iff.1 a1).1
  have hs := h.fr.size
  refine ⟨h7.fr.then hS (by intro y hy; simp at hy; subst hy; exact .inr h.new.2.2.2), ⟨h.new.1, h.new.2.1, h.new.2.2.1, h.new.2.2.2, fun k hk => by have := hF k hk; omega⟩, ⟨ca, cg, hS.at hx nx⟩, ⟨cur, hS.at ha na⟩, fun i hi => ?_, fun i hi hn => ?_, ⟨cr, hS.cellAt hr ng⟩, fun k hk hn => ?_, ?_, hc.frm hS nF, ⟨c1, (0, 0), hS.at t1 ng⟩, _, (0, 0), hb⟩
  · obtain ⟨bb, a1, a2, a3⟩ := h7.act i hi
    exact ⟨bb, hS.cellAt a1 na, hS.cellAt a2 na, a3⟩
  · obtain ⟨rv, a1, a2⟩ := h7.row i hi hn
    exact ⟨rv, hS.cellAt a1 ng, a2⟩
  · obtain ⟨c, G, a1, a2⟩ := h7.chs k hk
    refine ⟨c, G, ?_, a2⟩
    rw [cell_of hb, Array.getElem?_setIfInBounds_ne (by omega), ← cell_of t2]
    exact a1
  · rw [cell_of hb, Array.getElem?_setIfInBounds_self_of_lt hsz]
theorem ChS.frm (h : ChS w s x yb xb ab gb rb cb f t F L W) (hf : Frm [] W W') : ChS w s x yb xb ab gb rb cb f t F L W' := by
  obtain ⟨ca, cg, hx⟩ := h.hx
  obtain ⟨cur, ha⟩ := h.ha
  obtain ⟨⟨c1, f1, t1⟩, c2, f2, t2⟩ := h.types
  obtain ⟨cr, hr⟩ := h.rowf
  refine ⟨h.fr.trans hf, h.new, ⟨ca, cg, hf.at hx (by simp)⟩, ⟨cur, hf.at ha (by simp)⟩, fun i hi => ?_, fun i hi hn => ?_, ⟨cr, hf.keep hr⟩, fun k hk hn => ?_, hf.keep h.cht, h.chn.frm hf (by simp), ⟨c1, f1, hf.at t1 (by simp)⟩, c2, f2, hf.at t2 (by simp)⟩
  · obtain ⟨bb, a1, a2, a3⟩ := h.act i hi
    exact ⟨bb, hf.keep a1, hf.keep a2, a3⟩
  · obtain ⟨rv, a1, a2⟩ := h.row i hi hn
    exact ⟨rv, hf.keep a1, a2⟩
  · obtain ⟨c, G, a1, a2⟩ := h.chs k hk hn
    exact ⟨c, G, hf.keep a1, a2⟩
/-- the channel was changed -/
theorem ChS.chan (h : ChS w s x yb xb ab gb rb cb f t F L W) (hc : ChnTo W cb s.cls s.cap L' F W') : ∃ F', ChS w s x yb xb ab gb rb cb f t F' L' W' := by
  obtain ⟨F', k1, k2, k3⟩ := hc
  obtain ⟨ca, cg, hx⟩ := h.hx
  obtain ⟨cur, ha⟩ := h.ha
  obtain ⟨⟨c1, f1, t1⟩, c2, f2, t2⟩ := h.types
  obtain ⟨cr, hr⟩ := h.rowf
  have nx : xb ∉ F := fun hk => by obtain ⟨c, e, a1, a2⟩ := h.chn.types hk; rw [hx] at a1; cases a1; revert a2; decide
  have na : ab ∉ F := fun hk => by obtain ⟨c, e, a1, a2⟩ := h.chn.types hk; rw [ha] at a1; cases a1; revert a2; decide
  have ng : gb ∉ F := fun hk => by obtain ⟨c, e, a1, a2⟩ := h.chn.types hk; rw [t1] at a1; cases a1; revert a2; decide
  have nr : rb ∉ F := fun hk => by obtain ⟨c, e, a1, a2⟩ := h.chn.types hk; rw [t2] at a1; cases a1; revert a2; decide
  have hs := h.fr.size
  refine ⟨F', h.fr.then k2 (fun k hk => .inr (h.new.2.2.2.2 k hk)), ⟨h.new.1, h.new.2.1, h.new.2.2.1, h.new.2.2.2.1, fun k hk => ?_⟩, ⟨ca, cg, k2.at hx nx⟩, ⟨cur, k2.at ha na⟩, fun i hi => ?_, fun i hi hn => ?_, ⟨cr, k2.cellAt hr ng⟩, fun k hk hn => ?_, k2.cellAt h.cht nr, k1, ⟨c1, f1, k2.at t1 ng⟩, c2, f2, k2.at t2 nr⟩
  · rcases k3 k hk with a | a
    · exact h.new.2.2.2.2 k a
    · omega
  · obtain ⟨bb, a1, a2, a3⟩ := h.act i hi
    exact ⟨bb, k2.cellAt a1 na, k2.cellAt a2 na, a3⟩
  · obtain ⟨rv, a1, a2⟩ := h.row i hi hn
    exact ⟨rv, k2.cellAt a1 ng, a2⟩
  · obtain ⟨c, G, a1, a2⟩ := h.chs k hk hn
    exact ⟨c, G, k2.cellAt a1 nr, a2⟩
/-- the ways behind it -/
theorem ChS.ways (h : ChS w s x yb xb ab gb rb cb f t F L W) (hx : PSok s x) (hf : f < s.roles.length) (_ : t < s.roles.length) : ∃ cg ca, W.heap[xb]? = some (.cells #[.pointer (some ⟨yb, 0, none⟩), .slice (some ⟨ab, 0, none⟩) s.roles.length ca, .slice (some ⟨gb, 0, none⟩) s.roles.length cg] 119 (0, 0)) ∧
    Arr 1 (RwAt s.cls s.cap) W (.slice (some ⟨gb, 0, none⟩) s.roles.length cg) (setWay x.ways f t L) := by
  obtain ⟨ca, cg, hxb⟩ := h.hx
  obtain ⟨cr, hr⟩ := h.rowf
  refine ⟨cg, ca, hxb, some ⟨gb, 0, none⟩, cg, by rw [setWay_length, hx.wl], fun i R hR => ⟨gb, 0, rfl, ?_⟩⟩
  have hi := lt_of_some hR
  rw [setWay_length, hx.wl] at hi
  rw [Nat.zero_add, Nat.mul_one]
  unfold setWay at hR
  rw [List.getElem?_set] at hR
  by_cases e : f = i
  · subst e
    rw [if_pos rfl, if_pos (by rw [hx.wl]; exact hi)] at hR
    cases hR
    refine ⟨_, hr, some ⟨rb, 0, none⟩, cr, by rw [List.length_set, hx.wr f hf], fun k M hM => ⟨rb, 0, rfl, ?_⟩⟩
    have hk := lt_of_some hM
    rw [List.length_set, hx.wr f hf] at hk
    rw [Nat.zero_add, Nat.mul_one]
    rw [List.getElem?_set] at hM
    by_cases e2 : t = k
    · subst e2
      rw [if_pos rfl, if_pos (by rw [hx.wr f hf]; exact hk)] at hM
      cases hM
      exact ⟨cb, F, h.cht, h.chn⟩
    · rw [if_neg e2] at hM
      obtain ⟨c, G, a1, a2⟩ := h.chs k hk (fun e => e2 e.symm)
      have : x.way f k = M := by unfold PS.way wayOf; exact getD_some hM
      rw [this] at a2
      exact ⟨c, G, a1, a2.frm h.fr (by simp)⟩
  · rw [if_neg e] at hR
    obtain ⟨rv, a1, a2⟩ := h.row i hi (fun e' => e e'.symm)
    rw [getD_some hR] at a2
    exact ⟨rv, a1, a2.frm h.fr⟩
/-- a state in which the channel alone was changed -/
theorem ChS.str (h : ChS w s x yb xb ab gb rb cb f t F L W) (hx : PSok s x) (hf : f < s.roles.length) (ht : t < s.roles.length) (ho : PSok s { x with ways := setWay x.ways f t L }) : StR W s yb xb { x with ways := setWay x.ways f t L } := by
  obtain ⟨cg, ca, h1, h2⟩ := h.ways hx hf ht
  refine ⟨⟨_, _, h1, ⟨some ⟨ab, 0, none⟩, ca, by rw [actsP_len], fun i a ha => ⟨ab, 0, rfl, ?_⟩⟩, h2⟩, ho⟩
  have hi : i < s.roles.length := by have := lt_of_some ha; rwa [actsP_len] at this
  rw [actsP_at hi] at ha
  cases ha
  obtain ⟨bb, a1, a2, a3⟩ := h.act i hi
  rw [Nat.zero_add]
  exact ⟨bb, a1, a2, a3.frm h.fr⟩
end
end Go.Proofs.YtkphhjekfimmlaaGreat
namespace Go.Proofs.YtkphhjekfimmlaaGreat
open Go.RowKit Go.BigFrame

theorem Arr.imp {α : Type} {k : Nat} {At At' : World → Nat → Nat → α → Prop} {w w' : World} {v : Value} {xs : List α} (hA : ∀ b o x, At w b o x → At' w' b o x) (h : Arr k At w v xs) : Arr k At' w' v xs := by
  obtain ⟨ao, cap, h1, h2⟩ := h
  refine ⟨ao, cap, h1, fun i x hx => ?_⟩
  obtain ⟨b, o, e, h3⟩ := h2 i x hx
  exact ⟨b, o, e, hA _ _ _ h3⟩
theorem Fr.row {α : Type} {k : Nat} {e : TypeId} {At : World → Nat → Nat → α → Prop} {w w' : World} {xs : List α} {v : Value} (h : Fr k e At w xs v w') (hn : xs.length ≠ 0) :
    ∃ g cap cur, v = .slice (some ⟨g, 0, none⟩) xs.length cap ∧ w.heap.size ≤ g ∧ w'.heap[g]? = some (.cells cur e (0, 0)) ∧ ∀ (i : Nat) x, xs[i]? = some x → At w' g (i * k) x := by
  rcases h.own with e | ⟨news, ho⟩
  · rw [e] at hn; simp at hn
  · obtain ⟨g, cap, cur, rfl, hg, hc⟩ := own_block ho hn
    refine ⟨g, cap, cur, rfl, hg, hc, fun i x hx => ?_⟩
    obtain ⟨b, o, e, ha⟩ := h.arr.get hx
    cases e
    rw [Nat.zero_add] at ha
    exact ha
set_option maxHeartbeats 4000000 in
set_option maxRecDepth 100000 in
theorem pChange_any (s : SesD) (yb sb f t : Nat) (x : PS) (w : World) (hx : StR w s yb sb x) (hf : f < s.roles.length) (ht : t < s.roles.length) (h4 : s.roles.length ≤ 4) :
    Calls Tryz.prog 74 #[.pointer (some ⟨sb, 0, none⟩), .int .i64 f, .int .i64 t] w (RetV fun v w' => ∃ xb ab gb rb cb F, v = .tuple #[.pointer (some ⟨xb, 0, none⟩), .pointer (some ⟨cb, 0, none⟩)] ∧ ChS w s x yb xb ab gb rb cb f t F (x.way f t) w') := by
  have HST := Lib.hid hx
  obtain ⟨av, wv, h1, h2, h3⟩ := hx.out
  have hok := hx.ok
  obtain ⟨aa, ca, rfl⟩ := h2.shape
  obtain ⟨aw, cw, rfl⟩ := h3.shape
  obtain ⟨n, hn⟩ : ∃ n, s.roles.length = n := ⟨_, rfl⟩
  have CA : Hid (∀ V, Frm [] w V → Calls Tryz.prog 131 #[.slice aa n ca] V (RetV (Fr 2 145 (AoAt w) V (actsP s x)))) := Lib.hid fun V hV => by
    have := clActorAt_any w (.slice aa (actsP s x).length ca) (actsP s x) V (h2.imp fun _ _ _ h => AoAt.frm h hV) (by rw [actsP_len]; omega)
    rwa [actsP_len, hn] at this
  have CW : Hid (∀ V, Frm [] w V → Calls Tryz.prog 132 #[.slice aw n cw] V (RetV (Fr 1 137 (WoAt s.cls s.cap w) V x.ways))) := Lib.hid fun V hV => by
    have := clWaysAt_any s.cls s.cap w (.slice aw x.ways.length cw) x.ways V (h3.imp fun _ _ _ h => WoAt.frm h hV) (by rw [hok.wl]; omega)
    rwa [hok.wl, hn] at this
  rw [actsP_len, hok.wl, hn] at h1
  have HS : Hid (∀ V, Frm [] w V → V.cell? ⟨sb, 0, none⟩ = some (.pointer (some ⟨yb, 0, none⟩)) ∧ V.cell? ⟨sb, 1, none⟩ = some (.slice aa n ca) ∧ V.cell? ⟨sb, 2, none⟩ = some (.slice aw n cw)) := Lib.hid fun V hV => ⟨hV.keep (cell_of h1 0), hV.keep (cell_of h1 1), hV.keep (cell_of h1 2)⟩
  have HN := Lib.hid hn; have HOK := Lib.hid hok; have HFL := Lib.hid hf; have HTL := Lib.hid ht
  have hfn : (f : Int) < (n : Int) := by omega
  have htn : (t : Int) < (n : Int) := by omega
  clear h1 h2 h3 hx hok hn hf ht
  go_enter Tryz.func74, Tryz.ntmps74
  go_upto_region 1 with fail
  go_region_held3 (fun V => V.cell? ⟨sb, 0, none⟩ = some (.pointer (some ⟨yb, 0, none⟩)) ∧ V.cell? ⟨sb, 1, none⟩ = some (.slice aa n ca) ∧ V.cell? ⟨sb, 2, none⟩ = some (.slice aw n cw))
    (first
      | exact HS.out _ ((Frm.refl [] w).drew)
      | exact HS.out _ F1.out
      | exact HS.out _ F2.out
      | exact HS.out _ (F2.out.alloc _))
    (first
      | (go_at_call 131; go_must (refine (CA.out _ ((Frm.refl [] w).drew)).mono ?_; rintro e w1 ⟨u, rfl, hr⟩; have F1 : Hid (Frm [] w w1) := Lib.hid ((Frm.refl [] w).drew.trans hr.frm); have hrr := hr.row (by rw [actsP_len, HN.out]; omega); rw [actsP_len, HN.out] at hrr; obtain ⟨ab, cab, cura, rfl, hab, hba, hae⟩ := hrr; have HAB := Lib.hid hab; have HBA := Lib.hid hba; have HAE := Lib.hid hae; clear hab hba hae hr))
      | (go_at_call 132; go_must (refine (CW.out _ F1.out).mono ?_; rintro e w2 ⟨u, rfl, hr⟩; have F2 : Hid (Frm [] w w2) := Lib.hid (F1.out.trans hr.frm); have F12 := Lib.hid hr.frm; have hrr := hr.row (by rw [HOK.out.wl, HN.out]; omega); rw [HOK.out.wl, HN.out] at hrr; obtain ⟨gb, cgb, curg, rfl, hgb, hbg, hge⟩ := hrr; have HGB := Lib.hid hgb; have HBG := Lib.hid hbg; have HGE := Lib.hid hge; clear hgb hbg hge hr)))
  obtain ⟨w3, hw3⟩ : ∃ w3, w2.alloc (.cells #[.pointer (some ⟨yb, 0, none⟩), .slice (some ⟨ab, 0, none⟩) n cab, .slice (some ⟨gb, 0, none⟩) n cgb] 119) = w3 := ⟨_, rfl⟩
  have F3 : Hid (Frm [] w w3) := Lib.hid (by rw [← hw3]; exact F2.out.alloc _)
  have F13 : Hid (Frm [] w1 w3) := Lib.hid (by rw [← hw3]; exact F12.out.alloc _)
  have F23 : Hid (Frm [] w2 w3) := Lib.hid (by rw [← hw3]; exact (Frm.refl _ _).alloc _)
  have X3 : Hid (w3.heap[w2.heap.size]? = some (.cells #[.pointer (some ⟨yb, 0, none⟩), .slice (some ⟨ab, 0, none⟩) n cab, .slice (some ⟨gb, 0, none⟩) n cgb] 119 (0, 0))) := Lib.hid (by rw [← hw3]; exact heap_alloc_new _ _)
  have HE3 := Lib.hid hw3
  have hfl : (x.ways)[f]? = some (x.ways.getD f []) := some_getD (by rw [HOK.out.wl]; exact HFL.out)
  obtain ⟨rvf, q0, q1⟩ := HGE.out f _ hfl
  obtain ⟨ar, cr, rfl⟩ := q1.shape
  rw [HOK.out.wr f HFL.out, HN.out, Nat.mul_one] at q0
  have CR : Hid (∀ V, Frm [] w V → Calls Tryz.prog 133 #[.slice ar n cr] V (RetV (Fr 1 138 (CoAt s.cls s.cap w) V (x.ways.getD f [])))) := Lib.hid fun V hV => by
    have := clRowAt_any s.cls s.cap w (.slice ar (x.ways.getD f []).length cr) (x.ways.getD f []) V (q1.imp fun _ _ _ h => CoAt.frm h hV) (by rw [HOK.out.wr f HFL.out]; omega)
    rwa [HOK.out.wr f HFL.out, HN.out] at this
  have HQ0 := Lib.hid q0
  have HS3 : Hid (∀ V, Frm [] w3 V → V.cell? ⟨w2.heap.size, 2, none⟩ = some (.slice (some ⟨gb, 0, none⟩) n cgb) ∧ V.cell? ⟨gb, f, none⟩ = some (.slice ar n cr)) := Lib.hid fun V hV => ⟨hV.keep (cell_of X3.out 2), (F23.out.trans hV).keep HQ0.out⟩
  clear hw3 hfl q0 q1 CA CW HS
  go_upto_region 2 with fail
  rw [HE3.out]
  have HAE3 : Hid (∀ (i : Nat) a, (actsP s x)[i]? = some a → AoAt w w3 ab (i * 2) a) := Lib.hid fun i a ha => (HAE.out i a ha).frm F13.out
  have HGE3 : Hid (∀ (i : Nat) R, x.ways[i]? = some R → WoAt s.cls s.cap w w3 gb (i * 1) R) := Lib.hid fun i R hR => (HGE.out i R hR).frm F23.out
  have BA3 := Lib.hid (F13.out.at HBA.out (by simp))
  have BG3 := Lib.hid (F23.out.at HBG.out (by simp))
  have HL : Hid (w.heap.size ≤ w2.heap.size ∧ w.heap.size ≤ ab ∧ w.heap.size ≤ gb) := Lib.hid ⟨F2.out.size, HAB.out, Nat.le_trans F1.out.size HGB.out⟩
  obtain ⟨xb, hxb⟩ : ∃ xb, w2.heap.size = xb := ⟨_, rfl⟩
  rw [hxb] at HS3 X3 HL ⊢
  clear hxb F12 HAE HGE HBA HBG HAB HGB HE3 F13 F23 HQ0 F1 F2
  obtain ⟨y1, y2⟩ := HS3.out w3 (Frm.refl _ _)
  have hgl := cell_lt y2
  go_cut [] (fun wc => ∃ rb, Ch2 w s x yb xb ab gb rb f wc)
  case first =>
    go_region_law (first
      | (go_simp; go_at_call 133; go_must (refine (CR.out _ F3.out.drew).mono ?_; rintro e w5 ⟨u, rfl, hr⟩; have F35 : Hid (Frm [] w3 w5) := Lib.hid ((Frm.refl [] w3).drew.trans hr.frm); have hrr := hr.row (by rw [HOK.out.wr f HFL.out, HN.out]; omega); rw [HOK.out.wr f HFL.out, HN.out] at hrr; obtain ⟨rb, crb, curr, rfl, hrb, hbr, hre⟩ := hrr; have HRB := Lib.hid hrb; have HBR := Lib.hid hbr; have HRE := Lib.hid hre; have bg5 := F35.out.at BG3.out (by simp); obtain ⟨cx5, cg5⟩ := HS3.out _ F35.out; have fg5 := free_of bg5 f; have BG5 := Lib.hid bg5; clear hrb hbr hre hr bg5)))
    all_goals
      go_wp2
      go_meet
      exact ⟨rb, ch2_mk HN.out HOK.out HFL.out (F3.out.trans F35.out) F35.out HL.out.1 HL.out.2.1 HL.out.2.2 HRB.out X3.out BA3.out HAE3.out BG5.out BG3.out HGE3.out HBR.out HRE.out⟩
  case rest =>
    obtain ⟨rb, h2⟩ := hcut
    have H2 := Lib.hid h2
    clear h2 y1 y2 hgl HS3 X3 HAE3 HGE3 BA3 BG3 HL CR
    have h3 := H2.out
    obtain ⟨cax, cgx, hx3⟩ := h3.hx
    obtain ⟨cr3, hr3⟩ := h3.rowf
    obtain ⟨c0, G0, hc3, hch⟩ := h3.chs t HTL.out
    obtain ⟨cg3, tg3⟩ := h3.tg
    obtain ⟨ct3, tr3⟩ := h3.tr
    rw [HN.out] at hx3 hr3
    have FW := Lib.hid h3.fr
    have HCH := Lib.hid hch
    have HS4 : Hid (∀ V, Frm [] wc V → V.cell? ⟨xb, 2, none⟩ = some (.slice (some ⟨gb, 0, none⟩) n cgx) ∧ V.cell? ⟨gb, f, none⟩ = some (.slice (some ⟨rb, 0, none⟩) n cr3) ∧ V.cell? ⟨rb, t, none⟩ = some (.pointer (some ⟨c0, 0, none⟩)) ∧ V.frozen? ⟨rb, t, none⟩ = false) :=
      Lib.hid fun V hV => ⟨hV.keep (cell_of hx3 2), hV.keep hr3, hV.keep hc3, free_of (hV.at tr3 (by simp)) t⟩
    have CC := Lib.hid (copy_any (hch.frm h3.fr.drew (by simp)))
    have y1 := cell_of hx3 2
    have hl1 := cell_lt y1
    have hl2 := cell_lt hr3
    have hl3 := cell_lt hc3
    clear h3 hx3 tg3 tr3 hch
    go_upto_region 3 with fail
    go_cut [] (fun wd => ∃ cb F, ChS w s x yb xb ab gb rb cb f t F (x.way f t) wd)
    case first =>
      go_region_law (first
        | (go_simp; go_at_call 67; go_must (refine CC.out.mono ?_; rintro e w7 ⟨u, rfl, cb, F, rfl, hcn, hfr, hF⟩; have F7 : Hid (Frm [] wc w7) := Lib.hid ((Frm.refl [] wc).drew.trans hfr); have HCN := Lib.hid hcn; have HFF := Lib.hid hF; obtain ⟨a1, a2, a3, a4⟩ := HS4.out _ F7.out; clear hcn hfr hF)))
      all_goals
        go_wp2
        go_meet
        exact ⟨cb, F, H2.out.fin F7.out HCN.out HFF.out HTL.out⟩
    case rest =>
      obtain ⟨cb, F, hcs⟩ := hcut
      have HCS := Lib.hid hcs
      obtain ⟨cax', cgx', hx4⟩ := hcs.hx
      obtain ⟨cr4, hr4⟩ := hcs.rowf
      rw [HN.out] at hx4 hr4
      have HS5 : Hid (∀ V, Frm [] wc V → V.cell? ⟨xb, 2, none⟩ = some (.slice (some ⟨gb, 0, none⟩) n cgx') ∧ V.cell? ⟨gb, f, none⟩ = some (.slice (some ⟨rb, 0, none⟩) n cr4) ∧ V.cell? ⟨rb, t, none⟩ = some (.pointer (some ⟨cb, 0, none⟩))) :=
        Lib.hid fun V hV => ⟨hV.keep (cell_of hx4 2), hV.keep hr4, hV.keep hcs.cht⟩
      clear hcs hx4 hr4 y1 hl1 hl2 hl3 hc3 hr3 HS4 CC H2
      go_upto_region 4 with fail
      refine wp_region_cq (by kernel_rfl) (by kernel_rfl) ?_
      repeat (first
        | go_big_quiet_skip
        | (refine wpQuiet_want (by rfl) (fun K hK => ?_)
           first
            | (refine quiet_move _ (by rfl) (hK _ ?_))
            | (refine quiet_assign _ (by rfl) (hK _ ?_))
            | (apply Exists.intro
               refine ⟨fun w' hC => ?_, hK _ ?_⟩
               · (unfold Oper.quietAt
                  obtain ⟨z1, z2, z3⟩ := HS5.out w' hC
                  clear hC
                  go_simp
                  try exact ⟨rfl, rfl⟩
                  try rfl))
           clear hK K
           try simp only [Act.put, List.setIfInBounds_toArray, List.set_cons_zero, List.set_cons_succ, Act.eval, Array.getD_eq_getD_getElem?, List.getElem?_toArray, List.getElem?_cons_zero, List.getElem?_cons_succ, Option.getD_some]))
      refine wpQuiet_nil ?_
      intro w9 hf9
      go_wp2
      go_ret2
      exact ⟨_, rfl, xb, ab, gb, rb, cb, F, rfl, HCS.out.frm hf9⟩
end Go.Proofs.YtkphhjekfimmlaaGreat
namespace Go.Proofs.YtkphhjekfimmlaaGreat
open Go.RowKit Go.BigFrame
abbrev encM (m : Mv) : Array Value := #[.int .i64 m.kind, .int .i64 m.role, .int .i64 m.step, .int .i64 m.place]
theorem Tryz.undMv : Tryz.prog.underlying 45 = some (.struct (Tryz.prog.fieldsOf 45)) := by kernel_rfl
set_option maxHeartbeats 1000000 in
set_option maxRecDepth 100000 in
theorem eql_move (a b : Mv) (w : World) : (binOp .eql 45 (.agg (encM a)) (.agg (encM b))).run Tryz.prog w = .ok (.bool (decide (a = b))) w := by
  have h : (Op.equalIn (9999 + 1) 45 (.agg (encM a)) (.agg (encM b))).run Tryz.prog w = .ok (decide (a = b)) w := by
    rw [run_equalIn_struct w 9999 45 _ _ Tryz.undMv (by kernel_rfl)]
    simp [go_sem, encM, Tryz.underlying45]
    obtain ⟨a1, a2, a3, a4⟩ := a
    obtain ⟨b1, b2, b3, b4⟩ := b
    simp only [Mv.mk.injEq]
    repeat' split
    all_goals simp [*]
  simp only [binOp]
  simp [show Op.equal 45 (.agg (encM a)) (.agg (encM b)) = Op.equalIn (9999 + 1) 45 (.agg (encM a)) (.agg (encM b)) from rfl, h]
set_option maxHeartbeats 1000000 in
theorem inMove_any (v : Value) (xs : List Mv) (y : Mv) (w : World) (h : Arr 4 MvAt w v xs) (hl : xs.length ≤ 5000) :
    Calls Tryz.prog 130 #[v, .agg (encM y)] w (Ret (.int .i64 (ixf (fun x => decide (y = x)) xs)) (Frm [] w)) := by
  obtain ⟨ao, cap, rfl, hx⟩ := h
  have HX := Lib.hid hx
  obtain ⟨n, hn⟩ : ∃ n, xs.length = n := ⟨_, rfl⟩
  rw [hn] at hl ⊢
  have HN := Lib.hid hn
  obtain ⟨W0, hW0⟩ : ∃ W0, w.alloc (.cells (encM y) 45) = W0 := ⟨_, rfl⟩
  have HW0 : Hid (Frm [] w W0) := Lib.hid (by rw [← hW0]; exact (Frm.refl _ _).alloc _)
  have HB : Hid (W0.heap[w.heap.size]? = some (.cells (encM y) 45 (0, 0))) := Lib.hid (by rw [← hW0]; exact heap_alloc_new w _)
  have HE := Lib.hid hW0
  clear hx hn hW0
  go_enter Tryz.func130, Tryz.ntmps130
  go_wp2_with (refine wpList_box_row rfl 45 _ rfl (encM y) rfl ?_; rw [HE.out])
  clear HE
  go_loopw [8, 5] (fun s8 s5 wr => ∃ i : Nat, s8 = .int .i64 i ∧ i ≤ n ∧ Frm [] W0 wr ∧ ∀ j x, j < i → xs[j]? = some x → decide (y = x) = false) (fun s8 _ _ => n - (intOf s8).toNat)
  case atStart => exact ⟨0, rfl, Nat.zero_le _, Frm.refl _ _, fun j x hj => by omega⟩
  case round =>
    obtain ⟨i, rfl, hi, hf, hno⟩ := hrel
    have HF := Lib.hid hf; have HNO := Lib.hid hno
    clear hf hno
    by_cases hlt : i < n
    · have hlt' : (i : Int) < (n : Int) := by omega
      obtain ⟨x, hx⟩ : ∃ x, xs[i]? = some x := ⟨_, List.getElem?_eq_getElem (by rw [HN.out]; exact hlt)⟩
      obtain ⟨b, o, rfl, hat⟩ := HX.out i x hx
      obtain ⟨c0, c1, c2, c3⟩ := hat.frm (HW0.out.trans HF.out)
      have hbb := HF.out.at HB.out (by simp)
      have d0 : wr.cell? ⟨w.heap.size, 0, none⟩ = some (.int .i64 y.kind) := cell_of hbb 0
      have d1 : wr.cell? ⟨w.heap.size, 1, none⟩ = some (.int .i64 y.role) := cell_of hbb 1
      have d2 : wr.cell? ⟨w.heap.size, 2, none⟩ = some (.int .i64 y.step) := cell_of hbb 2
      have d3 : wr.cell? ⟨w.heap.size, 3, none⟩ = some (.int .i64 y.place) := cell_of hbb 3
      have hq : ∀ V, (binOp .eql 45 (mvV y) (mvV x)).run Tryz.prog V = .ok (.bool (decide (y = x))) V := fun V => eql_move y x V
      have HXI := Lib.hid hx
      clear hat hx hbb
      cases hpx : decide (y = x) with
      | true =>
        rw [hpx] at hq
        have HPX := Lib.hid hpx
        clear hpx
        go_wp2
        go_quiet (fail)
        go_wp2
        go_ret
        exact ⟨by rw [ixf_some HXI.out HPX.out HNO.out]; rfl, HW0.out.trans (HF.out.drewN _)⟩
      | false =>
        rw [hpx] at hq
        have HPX := Lib.hid hpx
        clear hpx
        go_wp2
        go_quiet (fail)
        go_wp2
        refine ⟨⟨i + 1, by simp, hlt, HF.out.drewN _, fun j z hj hz => ?_⟩, by simp [intOf]; omega⟩
        by_cases e : j = i
        · subst e; rw [HXI.out] at hz; cases hz; exact HPX.out
        · exact HNO.out j z (by omega) hz
    · have hge : ¬ (i : Int) < (n : Int) := by omega
      go_wp2
      go_ret
      refine ⟨?_, HW0.out.trans HF.out⟩
      have e := ixf_none (p := fun x => decide (y = x)) (l := xs) fun x hx => by
        obtain ⟨j, hj⟩ := List.getElem?_of_mem hx
        exact HNO.out j x (by have := lt_of_some hj; rw [HN.out] at this; omega) hj
      rw [e]; rfl
theorem mem_ixm {xs : List Mv} {y : Mv} : decide (0 ≤ ixf (fun x => decide (y = x)) xs) = decide (y ∈ xs) := by
  by_cases h : y ∈ xs
  · rw [decide_eq_true (ixf_ex (p := fun x => decide (y = x)) h (by simp)), decide_eq_true h]
  · rw [decide_eq_false h, decide_eq_false]
    intro h2
    obtain ⟨i, hi, -⟩ := ixf_nat h2
    obtain ⟨x, h3, h4, -⟩ := ixf_at hi
    rw [decide_eq_true_eq] at h4
    subst h4
    exact h (List.mem_of_getElem? h3)
set_option maxHeartbeats 1000000 in
/-- whether a step is among steps -/
theorem coMove_any (v : Value) (xs : List Mv) (y : Mv) (w : World) (h : Arr 4 MvAt w v xs) (hl : xs.length ≤ 5000) :
    Calls Tryz.prog 73 #[v, .agg (encM y)] w (Ret (.bool (decide (y ∈ xs))) (Frm [] w)) := by
  obtain ⟨ao, cap, e, -⟩ := id h
  subst e
  have hf0 : Frm [] w (w.alloc (.cells (encM y) 45)) := (Frm.refl _ _).alloc _
  have C1 := Lib.hid (inMove_any (.slice ao xs.length cap) xs y (w.alloc (.cells (encM y) 45)) (h.frm fun _ _ _ h => h.frm hf0) hl)
  have HF0 := Lib.hid hf0
  rw [← mem_ixm]
  obtain ⟨q, hq⟩ : ∃ q, ixf (fun x => decide (y = x)) xs = q := ⟨_, rfl⟩
  rw [hq] at C1 ⊢
  have hb : (w.alloc (.cells (encM y) 45)).heap[w.heap.size]? = some (.cells (encM y) 45 (0, 0)) := heap_alloc_new w _
  obtain ⟨W0, hW0⟩ : ∃ W0, w.alloc (.cells (encM y) 45) = W0 := ⟨_, rfl⟩
  rw [hW0] at C1 HF0 hb
  have HB := Lib.hid hb
  have HW := Lib.hid hW0
  clear h hf0 hq hW0 hb
  go_enter Tryz.func73, Tryz.ntmps73
  go_wp2_with (first
    | (refine wpList_box_row rfl 45 _ rfl (encM y) rfl ?_; rw [HW.out])
    | (refine wpList_load_whole rfl 45 _ rfl _ rfl _ 45 HB.out _ Tryz.underlying45 rfl (by kernel_rfl) ?_)
    | (go_at_call 130; go_must (refine C1.out.mono ?_; rintro e w1 ⟨rfl, hf1⟩; have HF1 := Lib.hid hf1; clear hf1)))
  go_ret
  exact ⟨rfl, HF0.out.trans HF1.out⟩
end Go.Proofs.YtkphhjekfimmlaaGreat
namespace Go.Proofs.YtkphhjekfimmlaaGreat
open Go

/-- the first n values of these bytes -/
def valsOf (b : List UInt8) : Nat → List Int
  | 0 => []
  | n + 1 => valsOf b n ++ [256 * ((b.getD (2 * n) 0).toNat : Int) + ((b.getD (2 * n + 1) 0).toNat : Int)]
def fitsV (cs : List CtrD) (vs : List Int) : Bool := (cs.zip vs).all fun e => decide (e.2 ≤ e.1.lim)
def parseRole (r : RolD) : List UInt8 → Option (Nat × List Int × List UInt8)
  | [] => none
  | a :: b =>
    if r.sts.length ≤ a.toNat then none
    else if b.length < 2 * r.ctrs.length then none
    else if fitsV r.ctrs (valsOf b r.ctrs.length) then some (a.toNat, valsOf b r.ctrs.length, b.drop (2 * r.ctrs.length))
    else none
def parseRoles (s : SesD) (b : List UInt8) : Nat → Option (List Nat × List (List Int) × List UInt8)
  | 0 => some ([], [], b)
  | n + 1 => match parseRoles s b n with
    | none => none
    | some (ps, vs, b') => match parseRole (s.rol n) b' with
      | none => none
      | some (p, v, b'') => some (ps ++ [p], vs ++ [v], b'')
def parseMsg (cap : Int) (L : List ByteArray) : List UInt8 → Option (List ByteArray × List UInt8)
  | [] => none
  | n :: b =>
    if b.length < n.toNat then none
    else if putE cap L ⟨(b.take n.toNat).toArray⟩ = 0 then some (L ++ [⟨(b.take n.toNat).toArray⟩], b.drop n.toNat)
    else none
def parseMsgs (cap : Int) (b : List UInt8) : Nat → Option (List ByteArray × List UInt8)
  | 0 => some ([], b)
  | n + 1 => match parseMsgs cap b n with
    | none => none
    | some (L, b') => parseMsg cap L b'
def parseWay (cap : Int) (i k : Nat) (b : List UInt8) : Option (List ByteArray × List UInt8) :=
  if i = k then some ([], b)
  else match b with
    | [] => none
    | n :: b => parseMsgs cap b n.toNat
def parseRow (cap : Int) (i : Nat) (b : List UInt8) : Nat → Option (List (List ByteArray) × List UInt8)
  | 0 => some ([], b)
  | k + 1 => match parseRow cap i b k with
    | none => none
    | some (R, b') => match parseWay cap i k b' with
      | none => none
      | some (L, b'') => some (R ++ [L], b'')
def parseWays (s : SesD) (b : List UInt8) : Nat → Option (List (List (List ByteArray)) × List UInt8)
  | 0 => some ([], b)
  | n + 1 => match parseWays s b n with
    | none => none
    | some (W, b') => match parseRow s.cap n b' s.roles.length with
      | none => none
      | some (R, b'') => some (W ++ [R], b'')
def parseP (s : SesD) (b : List UInt8) : Option PS :=
  match parseRoles s b s.roles.length with
  | none => none
  | some (ps, vs, b') => match parseWays s b' s.roles.length with
    | none => none
    | some (W, _) => some ⟨ps, vs, W⟩
/-- the state with a key -/
def decP (s : SesD) (b : List UInt8) : Option PS :=
  match parseP s b with
  | none => none
  | some x => if keyP s x = b then some x else none

/-- the state with the messages of its mixed channels in order -/
def canon (s : SesD) (x : PS) : PS := { x with ways := x.ways.map fun R => R.map (keyL s.cls) }
section
variable {s : SesD} {x : PS}
theorem keyL_nil (cls : Int) : keyL cls [] = [] := by
  have := keyL_length cls []
  exact List.length_eq_zero_iff.1 (by simpa using this)
theorem canon_way (s : SesD) (x : PS) (i k : Nat) : (canon s x).way i k = keyL s.cls (x.way i k) := by
  show ((x.ways.map fun R => R.map (keyL s.cls)).getD i []).getD k [] = keyL s.cls ((x.ways.getD i []).getD k [])
  simp only [List.getD_eq_getElem?_getD, List.getElem?_map]
  cases x.ways[i]? with
  | none => simp [keyL_nil]
  | some R =>
    simp only [Option.map_some, Option.getD_some, List.getElem?_map]
    cases R[k]? with
    | none => simp [keyL_nil]
    | some L => rfl
theorem canon_ok (hx : PSok s x) : PSok s (canon s x) := by
  refine ⟨hx.pl, hx.pb, hx.vl, hx.vb, by simpa [canon] using hx.wl, fun i hi => ?_, fun i k hi hk => ?_, fun i => ?_⟩
  · rw [← hx.wr i hi]
    show ((x.ways.map fun R => R.map (keyL s.cls)).getD i []).length = _
    simp only [List.getD_eq_getElem?_getD, List.getElem?_map]
    cases x.ways[i]? <;> simp
  · rw [canon_way, keyL_length]
    obtain ⟨h1, h2⟩ := hx.wb i k hi hk
    exact ⟨h1, fun m hm => h2 m (keyL_mem hm)⟩
  · rw [canon_way, hx.wd, keyL_nil]
theorem keyL_idem (cls : Int) (L : List ByteArray) : keyL cls (keyL cls L) = keyL cls L := by
  by_cases h : cls = 2
  · subst h; exact rl_keys (cls := 2) (by unfold Rl; rw [if_pos rfl]; exact keyL_perm L)
  · unfold keyL; rw [if_neg h, if_neg h]
theorem canon_key (s : SesD) (x : PS) : keyP s (canon s x) = keyP s x := by
  unfold keyP
  have e1 : keyRole (canon s x) = keyRole x := rfl
  have e2 : keyWay s (canon s x) = keyWay s x := by
    funext i k
    unfold keyWay
    rw [canon_way, keyL_length, keyL_idem]
  rw [e1, e2]
theorem parseMsgs_key {cap : Int} : ∀ (L : List ByteArray) (rest : List UInt8), (∀ m ∈ L, 1 ≤ m.size ∧ m.size ≤ 32) → (L.length : Int) ≤ cap → ∀ n, n ≤ L.length →
    parseMsgs cap (byt (keyB L) ++ rest) n = some (L.take n, byt (keyB (L.drop n)) ++ rest) := by
  intro L rest hs hc n hn
  induction n with
  | zero => simp [parseMsgs]
  | succ n ih =>
    rw [parseMsgs, ih (by omega)]
    simp only
    have hlt : n < L.length := by omega
    obtain ⟨h1, h2⟩ := hs L[n] (List.getElem_mem hlt)
    rw [List.drop_eq_getElem_cons hlt]
    have e1 : byt (keyB (L[n] :: L.drop (n + 1))) ++ rest = UInt8.ofNat L[n].size :: (byt L[n] ++ (byt (keyB (L.drop (n + 1))) ++ rest)) := by
      rw [keyB_bytes, List.flatMap_cons, ← keyB_bytes]; simp
    rw [e1]
    have hn8 : (UInt8.ofNat L[n].size).toNat = L[n].size := by simp; omega
    have hl : (byt L[n]).length = L[n].size := byt_length _
    unfold parseMsg
    simp only [hn8]
    have e2 : (byt L[n] ++ (byt (keyB (L.drop (n + 1))) ++ rest)).take L[n].size = byt L[n] := by rw [← hl]; exact List.take_left
    have e3 : (byt L[n] ++ (byt (keyB (L.drop (n + 1))) ++ rest)).drop L[n].size = byt (keyB (L.drop (n + 1))) ++ rest := by rw [← hl]; exact List.drop_left
    have e4 : (⟨(byt L[n]).toArray⟩ : ByteArray) = L[n] := byt_inj (by simp [byt])
    rw [if_neg (by rw [List.length_append]; omega), e2, e3, e4, if_pos]
    · rw [List.take_succ_eq_append_getElem hlt]
    · unfold putE
      rw [if_neg (by omega), if_neg (by rw [List.length_take]; omega)]
theorem parseWay_key (hx : PSok s x) (h : SesOk s) {i k : Nat} (hi : i < s.roles.length) (hk : k < s.roles.length) (rest : List UInt8) :
    parseWay s.cap i k (keyWay s x i k ++ rest) = some (keyL s.cls (x.way i k), rest) := by
  unfold parseWay keyWay
  by_cases e : i = k
  · subst e
    rw [if_pos rfl, if_pos rfl, hx.wd, keyL_nil]; rfl
  · rw [if_neg e, if_neg e]
    obtain ⟨h1, h2⟩ := hx.wb i k hi hk
    have h4 := h.k4
    have hn8 : (UInt8.ofNat (x.way i k).length).toNat = (keyL s.cls (x.way i k)).length := by rw [keyL_length]; simp; omega
    show parseMsgs s.cap (byt (keyB (keyL s.cls (x.way i k))) ++ rest) (UInt8.ofNat (x.way i k).length).toNat = _
    rw [hn8, parseMsgs_key _ _ (fun m hm => h2 m (keyL_mem hm)) (by rw [keyL_length]; exact h1) _ (Nat.le_refl _)]
    simp [keyB, byt]
theorem parseRow_key (hx : PSok s x) (h : SesOk s) {i : Nat} (hi : i < s.roles.length) (rest : List UInt8) : ∀ (n d : Nat), n + d = s.roles.length →
    parseRow s.cap i (cat (keyWay s x i) s.roles.length ++ rest) n = some (((x.ways.getD i []).map (keyL s.cls)).take n, (List.range' n d).flatMap (keyWay s x i) ++ rest) := by
  have hl : (x.ways.getD i []).length = s.roles.length := hx.wr i hi
  have hcat : ∀ n, cat (keyWay s x i) n = (List.range' 0 n).flatMap (keyWay s x i) := by
    intro n
    induction n with
    | zero => rfl
    | succ n ih => rw [cat, ih, ← List.range'_append_1 (s := 0) (m := n) (n := 1)]; simp
  intro n
  induction n with
  | zero =>
    intro d hd
    obtain rfl : d = s.roles.length := by omega
    rw [hcat]; simp [parseRow]
  | succ n ih =>
    intro d hd
    rw [parseRow, ih (d + 1) (by omega)]
    simp only
    rw [List.range'_succ, List.flatMap_cons, List.append_assoc, parseWay_key hx h hi (by omega)]
    simp only
    congr 2
    have hlt : n < ((x.ways.getD i []).map (keyL s.cls)).length := by rw [List.length_map]; omega
    rw [List.take_succ_eq_append_getElem hlt, List.getElem_map]
    congr 3
    unfold PS.way wayOf
    rw [List.getD_eq_getElem?_getD (l := x.ways.getD i []), List.getElem?_eq_getElem (by omega)]; rfl
theorem cat_flat {α : Type} (f : Nat → List α) : ∀ n, cat f n = (List.range' 0 n).flatMap f
  | 0 => rfl
  | n + 1 => by rw [cat, cat_flat f n, ← List.range'_append_1 (s := 0) (m := n) (n := 1)]; simp
theorem parseWays_key (hx : PSok s x) (h : SesOk s) (rest : List UInt8) : ∀ (n d : Nat), n + d = s.roles.length →
    parseWays s (cat (fun i => cat (keyWay s x i) s.roles.length) s.roles.length ++ rest) n = some ((x.ways.map fun R => R.map (keyL s.cls)).take n, (List.range' n d).flatMap (fun i => cat (keyWay s x i) s.roles.length) ++ rest) := by
  intro n
  induction n with
  | zero =>
    intro d hd
    obtain rfl : d = s.roles.length := by omega
    rw [cat_flat]; simp [parseWays]
  | succ n ih =>
    intro d hd
    rw [parseWays, ih (d + 1) (by omega)]
    simp only
    rw [List.range'_succ, List.flatMap_cons, List.append_assoc, parseRow_key hx h (by omega) _ s.roles.length 0 (by omega)]
    simp only [List.range'_zero, List.flatMap_nil, List.nil_append]
    congr 2
    have hl : x.ways.length = s.roles.length := hx.wl
    have hlt : n < (x.ways.map fun R => R.map (keyL s.cls)).length := by rw [List.length_map]; omega
    rw [List.take_succ_eq_append_getElem hlt, List.getElem_map]
    congr 2
    have e : x.ways.getD n [] = x.ways[n]'(by omega) := by rw [List.getD_eq_getElem?_getD, List.getElem?_eq_getElem]; rfl
    rw [e, List.take_of_length_le]
    rw [List.length_map, ← e, hx.wr n (by omega)]
    exact Nat.le_refl _
theorem valsOf_two : ∀ (vs : List Int) (rest : List UInt8), (∀ v ∈ vs, 0 ≤ v ∧ v ≤ 65535) → ∀ n, n ≤ vs.length → valsOf (vs.flatMap two ++ rest) n = vs.take n := by
  intro vs rest hv n hn
  have hlen : ∀ l : List Int, (l.flatMap two).length = 2 * l.length := by
    intro l
    induction l with
    | nil => rfl
    | cons a l ih => rw [List.flatMap_cons, List.length_append, ih]; simp [two]; omega
  induction n with
  | zero => rfl
  | succ n ih =>
    have hlt : n < vs.length := by omega
    obtain ⟨h0, h1⟩ := hv vs[n] (List.getElem_mem hlt)
    rw [valsOf, ih (by omega), List.take_succ_eq_append_getElem hlt]
    congr 2
    have e : vs.flatMap two ++ rest = (vs.take n).flatMap two ++ (two vs[n] ++ ((vs.drop (n + 1)).flatMap two ++ rest)) := by
      have e1 : vs.flatMap two = ((vs.take n) ++ vs[n] :: vs.drop (n + 1)).flatMap two := by
        rw [← List.drop_eq_getElem_cons hlt, List.take_append_drop]
      rw [e1, List.flatMap_append, List.flatMap_cons]; simp
    have hl : ((vs.take n).flatMap two).length = 2 * n := by rw [hlen, List.length_take]; omega
    have g : ∀ j (hj : j < 2), (vs.flatMap two ++ rest).getD (2 * n + j) 0 = (two vs[n]).getD j 0 := by
      intro j hj
      rw [e, List.getD_eq_getElem?_getD, List.getD_eq_getElem?_getD, List.getElem?_append_right (by omega), hl, List.getElem?_append_left (by simp [two]; omega)]
      congr 2; omega
    have g0 := g 0 (by omega)
    have g1 := g 1 (by omega)
    rw [Nat.add_zero] at g0
    rw [g0, g1]
    simp only [two, List.getD_cons_zero, List.getD_cons_succ]
    obtain ⟨m, hm⟩ := Int.eq_ofNat_of_zero_le h0
    rw [hm]
    simp only [Int.toNat_natCast]
    have : (UInt8.ofNat (m / 256)).toNat = m / 256 := by simp; omega
    have : (UInt8.ofNat (m % 256)).toNat = m % 256 := by simp
    omega
theorem bank_bound (h : SesOk s) (hx : PSok s x) {i : Nat} (hi : i < s.roles.length) : ∀ v ∈ x.bank i, 0 ≤ v ∧ v ≤ 1000 := by
  intro v hv
  obtain ⟨k, hk⟩ := List.getElem?_of_mem hv
  obtain ⟨hl, hb⟩ := hx.vb i hi
  have hlt := lt_of_some hk
  have hc := some_getD (l := (s.rol i).ctrs) (i := k) (d := dC) (by omega)
  have := hb k _ hc
  rw [getD_some hk] at this
  have h2 := (h.at hi).cN _ (List.mem_of_getElem? hc)
  omega
theorem parseRole_key (h : SesOk s) (hx : PSok s x) {i : Nat} (hi : i < s.roles.length) (rest : List UInt8) :
    parseRole (s.rol i) (keyRole x i ++ rest) = some (x.at i, x.bank i, rest) := by
  obtain ⟨hl, hb⟩ := hx.vb i hi
  have hp := hx.pb i hi
  have hs := (h.at hi).s24
  have e : (UInt8.ofNat (x.at i)).toNat = x.at i := by simp; omega
  have hbb := bank_bound h hx hi
  have hlen : ∀ l : List Int, (l.flatMap two).length = 2 * l.length := by
    intro l
    induction l with
    | nil => rfl
    | cons a l ih => rw [List.flatMap_cons, List.length_append, ih]; simp [two]; omega
  have ev : valsOf ((x.bank i).flatMap two ++ rest) (s.rol i).ctrs.length = x.bank i := by
    rw [valsOf_two _ _ (fun v hv => by have := hbb v hv; omega) _ (by omega), ← hl, List.take_length]
  unfold keyRole
  show parseRole _ (_ :: ((x.bank i).flatMap two ++ rest)) = _
  unfold parseRole
  simp only
  rw [e, if_neg (by omega), if_neg (by rw [List.length_append, hlen]; omega), ev, if_pos]
  · congr 3
    rw [← hl, ← hlen]; exact List.drop_left
  · unfold fitsV
    rw [List.all_eq_true]
    intro p hp
    obtain ⟨k, hk⟩ := List.getElem?_of_mem hp
    rw [List.getElem?_zip_eq_some] at hk
    have := hb k p.1 hk.1
    rw [getD_some hk.2] at this
    simp; omega
theorem parseRoles_key (h : SesOk s) (hx : PSok s x) (rest : List UInt8) : ∀ (n d : Nat), n + d = s.roles.length →
    parseRoles s (cat (keyRole x) s.roles.length ++ rest) n = some (x.pos.take n, x.vals.take n, (List.range' n d).flatMap (keyRole x) ++ rest) := by
  intro n
  induction n with
  | zero =>
    intro d hd
    obtain rfl : d = s.roles.length := by omega
    rw [cat_flat]; simp [parseRoles]
  | succ n ih =>
    intro d hd
    rw [parseRoles, ih (d + 1) (by omega)]
    simp only
    rw [List.range'_succ, List.flatMap_cons, List.append_assoc, parseRole_key h hx (by omega)]
    simp only
    have h1 : n < x.pos.length := by rw [hx.pl]; omega
    have h2 : n < x.vals.length := by rw [hx.vl]; omega
    rw [List.take_succ_eq_append_getElem h1, List.take_succ_eq_append_getElem h2]
    have e1 : x.at n = x.pos[n] := by unfold PS.at; rw [List.getD_eq_getElem?_getD, List.getElem?_eq_getElem h1]; rfl
    have e2 : x.bank n = x.vals[n] := by unfold PS.bank; rw [List.getD_eq_getElem?_getD, List.getElem?_eq_getElem h2]; rfl
    rw [e1, e2]
theorem parse_key (h : SesOk s) (hx : PSok s x) : parseP s (keyP s x) = some (canon s x) := by
  unfold parseP keyP
  rw [parseRoles_key h hx _ s.roles.length 0 (by omega)]
  simp only [List.range'_zero, List.flatMap_nil, List.nil_append]
  have hw := parseWays_key hx h [] s.roles.length 0 (by omega)
  rw [List.append_nil] at hw
  rw [hw]
  simp only
  have e1 : x.pos.take s.roles.length = x.pos := List.take_of_length_le (by rw [hx.pl]; exact Nat.le_refl _)
  have e2 : x.vals.take s.roles.length = x.vals := List.take_of_length_le (by rw [hx.vl]; exact Nat.le_refl _)
  have e3 : (x.ways.map fun R => R.map (keyL s.cls)).take s.roles.length = x.ways.map fun R => R.map (keyL s.cls) := List.take_of_length_le (by rw [List.length_map, hx.wl]; exact Nat.le_refl _)
  rw [e1, e2, e3]; rfl
/-- DECODING A KEY -/
theorem dec_key (h : SesOk s) (hx : PSok s x) : decP s (keyP s x) = some (canon s x) := by
  unfold decP
  rw [parse_key h hx]
  simp only
  rw [if_pos (canon_key s x)]
end
end Go.Proofs.YtkphhjekfimmlaaGreat
