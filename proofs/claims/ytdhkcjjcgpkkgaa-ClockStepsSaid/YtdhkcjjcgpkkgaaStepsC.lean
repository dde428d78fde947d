/- ClockSteps: the state of the second loop. -/
import Derived.Test.YtdhkcjjcgpkkgaaStepsA
namespace Go.Proofs.Ytdhkcjjcgpkkgaa
open Go.RowKit Go.Maps Go.BigFrame

/-- behind i rounds of the second loop: the clock at cb, the book at ub, the copy at db, what was fired in v -/
structure SB (w : World) (cb ub db : Nat) (D : DMap) (N : Nat) (Fd : List Nat) (i : Nat) (now : Int) (v : Value) (D1 : DMap) (F : List Nat) (out : List Int) (wr : World) : Prop where
  clk : Clk wr cb now D1 N F
  due : wr.heap[ub]? = some (.cells (dueA D1) 28 (0, 0))
  cpy : Clk wr db 0 D N Fd
  old : Frm [] w wr
  Fw : ∀ x ∈ F, w.heap.size ≤ x
  Fdw : ∀ x ∈ Fd, w.heap.size ≤ x
  uw : w.heap.size ≤ ub
  uF : ub ∉ F
  uFd : ub ∉ Fd
  FF : ∀ x ∈ F, x ∉ Fd
  own : wr.ownsRow w.heap.size 3 1 v out.length (out.map (Value.int .i64))
  vF : ∀ k, v.ownBlock = some k → k ∉ F ∧ k ∉ Fd ∧ k ≠ ub
  zero : i = 0 → now = 0 ∧ out = [] ∧ D1 = D
  more : 0 < i → fire 257 D now = (out, D1)
  nn : 0 ≤ now
  nb : now ≤ 100 * i
def SBx (w : World) (cb ub db : Nat) (D : DMap) (N : Nat) (Fd : List Nat) (i : Nat) (now : Int) (v : Value) (wr : World) : Prop := ∃ D1 F out, SB w cb ub db D N Fd i now v D1 F out wr
theorem SB.start {w w5 w7 : World} {cb ub i : Nat} {D : DMap} {F : List Nat} {v : Value} (p1 : Clk w5 cb 0 D i F) (p2 : w5.heap[ub]? = some (.cells (dueA D) 28 (0, 0))) (p3 : Frm [] w w5) (p4 : ∀ x ∈ F, w.heap.size ≤ x) (p5 : ub ∉ F) (p6 : w.heap.size ≤ ub)
    (hcp : CopyTo w5 cb 0 D i F v w7) : ∃ db Fd, v = .pointer (some ⟨db, 0, none⟩) ∧ SBx w cb ub db D i Fd 0 0 (.slice none 0 0) w7 := by
  obtain ⟨db, Fd, rfl, c1, c2, c3, c4⟩ := hcp
  have hu := lt_of_block p2
  have hs := p3.size
  exact ⟨db, Fd, rfl, D, F, [], c2, c3.at p2 (by simp), c1, p3.trans c3, p4, fun x hx => by have := c4 x hx; omega, p6, p5, fun hx => by have := c4 _ hx; omega, fun x hx hy => by have := p1.lt x hx; have := c4 x hy; omega,
    World.ownsRow_nil _ _ _ _, by simp [Value.ownBlock], fun _ => ⟨rfl, rfl, rfl⟩, fun h => by omega, by omega, by omega⟩
theorem SB.out_le {w : World} {cb ub db : Nat} {D : DMap} {N : Nat} {Fd : List Nat} {i : Nat} {now : Int} {v : Value} {D1 : DMap} {F : List Nat} {out : List Int} {wr : World} (h : SB w cb ub db D N Fd i now v D1 F out wr) : out.length ≤ 257 := by
  by_cases hi : i = 0
  · rw [(h.zero hi).2.1]; simp
  · have := h.more (by omega)
    have h2 := congrArg (fun p => p.1.length) this
    have h3 := fire_short 257 D now
    simp at h2; omega
/-- what the next firing appends to -/
theorem SB.fires {w : World} {cb ub db : Nat} {D : DMap} {N : Nat} {Fd : List Nat} {i : Nat} {now : Int} {v : Value} {D1 : DMap} {F : List Nat} {out : List Int} {wr : World} (h : SB w cb ub db D N Fd i now v D1 F out wr) (n2 : Int) (hn : now ≤ n2) :
    fire 257 D n2 = (out ++ (fire 257 D1 n2).1, (fire 257 D1 n2).2) := by
  by_cases hi : i = 0
  · obtain ⟨rfl, rfl, rfl⟩ := h.zero hi
    simp
  · have := h.more (by omega)
    have h2 := fire_two hn 257 D h.cpy.good (cnt_lt D)
    rw [this] at h2
    exact h2
theorem SB.late {w : World} {cb ub db : Nat} {D : DMap} {N : Nat} {Fd : List Nat} {i : Nat} {now : Int} {v : Value} {D1 : DMap} {F : List Nat} {out : List Int} {wr : World} (h : SB w cb ub db D N Fd i now v D1 F out wr) (hi : 0 < i) {t d : Int} (hd : D1 t = some d) : now < d := by
  have := h.more hi
  have h2 := (fire_spec now 257 D h.cpy.good (cnt_lt D)).2.2.2 t d
  rw [this] at h2
  exact h2 hd
/-- behind Advance -/
structure SM (w : World) (cb ub db : Nat) (D : DMap) (N : Nat) (Fd : List Nat) (n2 : Int) (v : Value) (D1 : DMap) (out l : List Int) (u : Value) (wa : World) (F1 : List Nat) : Prop where
  clk : Clk wa cb n2 (fire 257 D1 n2).2 N F1
  due : wa.heap[ub]? = some (.cells (dueA D1) 28 (0, 0))
  cpy : Clk wa db 0 D N Fd
  old : Frm [] w wa
  Fw : ∀ x ∈ F1, w.heap.size ≤ x
  uF : ub ∉ F1
  FF : ∀ x ∈ F1, x ∉ Fd
  own : wa.ownsRow w.heap.size 3 1 v out.length (out.map (Value.int .i64))
  vF : ∀ k, v.ownBlock = some k → k ∉ F1 ∧ k ∉ Fd ∧ k ≠ ub
  src : Ints wa u l
  uub : ∀ k, u.ownBlock = some k → k ≠ ub
  l_eq : l = (fire 257 D1 n2).1
theorem SB.adv {w wr wa : World} {cb ub db : Nat} {D : DMap} {N : Nat} {Fd : List Nat} {i : Nat} {now n2 : Int} {v u : Value} {D1 : DMap} {F : List Nat} {out : List Int} (h : SB w cb ub db D N Fd i now v D1 F out wr) (hA : AEnd wr cb n2 D1 N F u wa) :
    ∃ F1, SM w cb ub db D N Fd n2 v D1 out (fire 257 D1 n2).1 u wa F1 := by
  obtain ⟨F1, l, k1, k2, k3, rfl, k5, k6⟩ := hA
  have hs := h.old.size
  have hu := lt_of_block h.due
  refine ⟨F1, k1, k2.at h.due h.uF, h.cpy.frm k2 (fun x hx hy => h.FF x hy hx), h.old.then k2 (fun x hx => .inr (h.Fw x hx)), fun x hx => ?_, fun hx => ?_, fun x hx hy => ?_, k2.owns h.own (fun k hk => (h.vF k hk).1), fun k hk => ⟨fun hx => ?_, (h.vF k hk).2⟩, Ints.of_own k5, fun k hk e => ?_, rfl⟩
  · rcases k3 x hx with g | g
    · exact h.Fw x g
    · omega
  · rcases k3 _ hx with g | g
    · exact h.uF g
    · omega
  · rcases k3 x hx with g | g
    · exact h.FF x g hy
    · have := h.cpy.lt x hy; omega
  · rcases k3 k hx with g | g
    · exact (h.vF k hk).1 g
    · have := ownBlock_lt h.own hk; omega
  · subst e
    obtain ⟨h1, h2⟩ := k5
    rcases h2 with ⟨rfl, _⟩ | ⟨g, cap, cur, rfl, hg, hh, r⟩
    · simp [Value.ownBlock] at hk
    · simp [Value.ownBlock] at hk; omega
/-- the end of a round -/
theorem SM.next {w wr wa wb wc : World} {cb ub db : Nat} {D : DMap} {N : Nat} {Fd F1 : List Nat} {i : Nat} {now n2 : Int} {v v' u : Value} {D1 : DMap} {F : List Nat} {out l : List Int} (h : SB w cb ub db D N Fd i now v D1 F out wr) (hm : SM w cb ub db D N Fd n2 v D1 out l u wa F1)
    (hn : now ≤ n2) (hb : n2 ≤ now + 100) (hf : Frm [ub] wa wb) (hd : wb.heap[ub]? = some (.cells (dueA (without D1 l)) 28 (0, 0)))
    (ho : wc.ownsRow w.heap.size 3 1 v' (out.length + l.length) (out.map (Value.int .i64) ++ l.map (Value.int .i64))) (hg2 : Frm v.ownBlock.toList wb wc) (hv : v'.ownBlock = v.ownBlock ∨ v'.ownBlock = some wb.heap.size) :
    SBx w cb ub db D N Fd (i + 1) n2 v' wc := by
  have hl := hm.l_eq
  subst hl
  have hgood := h.clk.good
  rw [fire_without hgood] at hd
  have hfw : Frm [ub] wa wb := hf
  have hcb : Clk wb cb n2 (fire 257 D1 n2).2 N F1 := hm.clk.frm hf (fun x hx hy => hm.uF (by simp at hy; exact hy ▸ hx))
  have hdb : Clk wb db 0 D N Fd := hm.cpy.frm hf (fun x hx hy => h.uFd (by simp at hy; exact hy ▸ hx))
  have hvl : ∀ k, v.ownBlock = some k → k ∉ F1 ∧ k ∉ Fd ∧ k ≠ ub := hm.vF
  have hfire := h.fires n2 hn
  have hbs : w.heap.size ≤ wb.heap.size := Nat.le_trans hm.old.size hf.size
  refine ⟨_, F1, _, hcb.frm hg2 (fun x hx hy => ?_), hg2.at hd (fun hx => ?_), hdb.frm hg2 (fun x hx hy => ?_), ?_, hm.Fw, h.Fdw, h.uw, hm.uF, h.uFd, hm.FF, by simpa using ho, fun k hk => ?_, fun e => by omega, fun _ => hfire, by have := h.nn; omega, by have := h.nb; push_cast; omega⟩
  · simp at hy; exact (hvl x hy).1 hx
  · simp at hx; exact (hvl _ hx).2.2 rfl
  · simp at hy; exact (hvl x hy).2.1 hx
  · refine (hm.old.then hf (fun x hx => ?_)).then hg2 (fun x hx => ?_)
    · simp at hx; subst hx; exact .inr h.uw
    · simp at hx
      right
      obtain ⟨_, h2⟩ := hm.own
      rcases h2 with ⟨rfl, _⟩ | ⟨g, cap, cur, rfl, hg, _⟩
      · simp [Value.ownBlock] at hx
      · simp [Value.ownBlock] at hx; omega
  · rcases hv with e | e
    · rw [e] at hk; exact hvl k hk
    · rw [e] at hk; cases hk
      exact ⟨fun hx => by have := hcb.lt _ hx; omega, fun hx => by have := hdb.lt _ hx; omega, fun e => by have := lt_of_block hd; omega⟩
theorem due_next {D : DMap} {l : List Int} {k tx : Nat} (hx : l[k]? = some (tx : Int)) (h : tx < 256) : (dueA (without D (l.take k))).setIfInBounds tx (.int .i64 0) = dueA (without D (l.take (k + 1))) := by
  rw [List.take_add_one, hx]
  show _ = dueA (without D (l.take k ++ [(tx : Int)]))
  rw [without_snoc]
  exact dueA_set (without D (l.take k)) tx none h
theorem SM.start {w wa w' : World} {cb ub db : Nat} {D : DMap} {N : Nat} {Fd F1 : List Nat} {n2 : Int} {v u : Value} {D1 : DMap} {out l : List Int} (_ : SM w cb ub db D N Fd n2 v D1 out l u wa F1) {k tx : Nat} (hd : w'.heap[ub]? = some (.cells (dueA (without D1 (l.take k))) 28 (0, 0)))
    (hf : Frm [ub] wa w') (hx : l[k]? = some (tx : Int)) (ht : tx < 256) (n : Nat) :
    ((w'.drewN n).setCell ⟨ub, tx, none⟩ (.int .i64 0)).heap[ub]? = some (.cells (dueA (without D1 (l.take (k + 1)))) 28 (0, 0)) ∧ Frm [ub] wa ((w'.drewN n).setCell ⟨ub, tx, none⟩ (.int .i64 0)) := by
  refine ⟨?_, (hf.drewN n).setCell _ (.inl (by simp)) _⟩
  rw [← due_next hx ht]
  exact block_setCell (w := w'.drewN n) hd tx _
/-- the source of the append -/
theorem Ints.form {w : World} {v : Value} {l : List Int} (h : Ints w v l) : (v = .slice none 0 0 ∧ l = []) ∨ ∃ g cap, v = .slice (some ⟨g, 0, none⟩) l.length cap ∧ ∀ k x, l[k]? = some x → w.cell? ⟨g, k, none⟩ = some (.int .i64 x) := by
  have h0 := h
  obtain ⟨h1, h2⟩ := h
  rcases h2 with ⟨hv, hn⟩ | ⟨g, cap, cur, hv, _⟩
  · exact .inl ⟨hv, List.eq_nil_of_length_eq_zero hn⟩
  · refine .inr ⟨g, cap, hv, fun k x hk => ?_⟩
    rw [hv] at h0
    rw [World.ownsRow.cellAt h0 k (by have := lt_of_some hk; omega)]
    simp [hk]
theorem advNow_add {now s : Int} (h0 : 0 ≤ s) (h1 : now + s ≤ maxT) : advNow now (now + s) = now + s := by
  unfold advNow; rw [if_neg (by omega)]; split <;> omega
theorem ints_one (l : List Int) : ∀ u ∈ l.map (Value.int .i64), u.oneCell' = true := by
  intro u hu; simp at hu; obtain ⟨x, _, rfl⟩ := hu; rfl
/-- behind the firing at once -/
structure SE (w : World) (ub : Nat) (D1 : DMap) (out : List Int) (v u : Value) (we : World) : Prop where
  old : Frm [] w we
  due : we.heap[ub]? = some (.cells (dueA D1) 28 (0, 0))
  i1 : Ints we v out
  i2 : Ints we u out
theorem SB.end {w wr we : World} {cb ub db : Nat} {D : DMap} {N : Nat} {Fd : List Nat} {i : Nat} {now : Int} {v u : Value} {D1 : DMap} {F : List Nat} {out : List Int} (h : SB w cb ub db D N Fd i now v D1 F out wr) (hi : 0 < i) (hA : AEnd wr db now D N Fd u we) : SE w ub D1 out v u we := by
  obtain ⟨F1, l, k1, k2, k3, rfl, k5, k6⟩ := hA
  rw [h.more hi] at k5
  exact ⟨h.old.then k2 (fun x hx => .inr (h.Fdw x hx)), k2.at h.due h.uFd, (Ints.of_own h.own).frm k2 (fun k hk => (h.vF k hk).2.1), Ints.of_own k5⟩
end Go.Proofs.Ytdhkcjjcgpkkgaa
