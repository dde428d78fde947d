/- Sessions in the heap: slices of structs that are only read; roles, states, counters, steps. The contracts of package slices that channels need, laid at this dump by the kit (lay-plain.mjs). A region that draws its order, walked once, in the order of the text: each operation leaves one and the same value in every world that grew out of the one at hand (C), and such a world. Slices of bytes: what they read as; conversions, parts of them, appends. The channel in the heap: what lies where; the contract of slices.Clone. -/
import Derived.Test.YtkphhjekfimmlaaGreatB01
import Derived.Shelf.SlGeneric
import Derived.Shelf.SlLaysN
import Derived.Shelf.SlLaysM
import Derived.Ground.SlgnProg
import Derived.Ground.SlgmProg
import Derived.Test.YtkphhjekfimmlaaGreatProg
import Derived.BigQuiet
import Derived.StillTail
import Derived.Laws.IdiomStrings
import Derived.Shelf.Bytes.SlSmallAll
import Derived.Deep.Upon
import Derived.ArgAppend
import Derived.Deep.AppendLies
import Derived.Maps.AppendAt
import Derived.Lib.Hide
import Derived.Deep.DeepMust
import Derived.WalkLawsBesides
import Derived.BigRegion
import Derived.Deep.RegionHeld3
import Derived.Deep.RegionLaw
import Derived.Deep.DeepCutAuto
import Derived.Shelf.SlicesG.Clone
namespace Go.Proofs.YtkphhjekfimmlaaGreat
open Go.RowKit

/-- a slice whose element i lies in k cells, of which At speaks -/
def Arr {α : Type} (k : Nat) (At : World → Nat → Nat → α → Prop) (w : World) (v : Value) (xs : List α) : Prop :=
  ∃ ao cap, v = .slice ao xs.length cap ∧ ∀ i x, xs[i]? = some x → ∃ b o, ao = some ⟨b, o, none⟩ ∧ At w b (o + i * k) x
section
variable {α : Type} {k : Nat} {At : World → Nat → Nat → α → Prop} {w w' : World} {v : Value} {xs : List α}
theorem Arr.frm (hA : ∀ b o x, At w b o x → At w' b o x) (h : Arr k At w v xs) : Arr k At w' v xs := by
  obtain ⟨ao, cap, h1, h2⟩ := h
  refine ⟨ao, cap, h1, fun i x hx => ?_⟩
  obtain ⟨b, o, e, h3⟩ := h2 i x hx
  exact ⟨b, o, e, hA _ _ _ h3⟩
theorem Arr.nil (w : World) (cap : Nat) (ao : Option Addr) : Arr k At w (.slice ao 0 cap) [] := ⟨ao, cap, rfl, fun i x hx => by simp at hx⟩
end
def StAt (w : World) (b o : Nat) (s : StD) : Prop := w.cell? ⟨b, o, none⟩ = some (.string s.name) ∧ w.cell? ⟨b, o + 1, none⟩ = some (.bool s.fin) ∧ w.cell? ⟨b, o + 2, none⟩ = some (.int .i64 s.wait)
def CtAt (w : World) (b o : Nat) (c : CtrD) : Prop := w.cell? ⟨b, o, none⟩ = some (.string c.name) ∧ w.cell? ⟨b, o + 1, none⟩ = some (.int .i64 c.lim)
structure SpAt (w : World) (b o : Nat) (t : StpD) : Prop where
  c0 : w.cell? ⟨b, o, none⟩ = some (.string t.frm)
  c1 : w.cell? ⟨b, o + 1, none⟩ = some (.string t.to)
  c2 : w.cell? ⟨b, o + 2, none⟩ = some (.int .i64 t.kind)
  c3 : w.cell? ⟨b, o + 3, none⟩ = some (.string t.msg)
  c4 : w.cell? ⟨b, o + 4, none⟩ = some (.string t.peer)
  c5 : w.cell? ⟨b, o + 5, none⟩ = some (.string t.ctr)
  c6 : w.cell? ⟨b, o + 6, none⟩ = some (.int .i64 t.low)
  c7 : w.cell? ⟨b, o + 7, none⟩ = some (.int .i64 t.high)
  c8 : w.cell? ⟨b, o + 8, none⟩ = some (.int .i64 t.add)
/-- the three slices of a role -/
structure Rl3 (w : World) (sv cv tv : Value) (r : RolD) : Prop where
  sts : Arr 3 StAt w sv r.sts
  ctrs : Arr 2 CtAt w cv r.ctrs
  steps : Arr 9 SpAt w tv r.steps
  cap : ∀ ao n c, tv = .slice ao n c → n ≤ c
def RlAt (w : World) (b o : Nat) (r : RolD) : Prop :=
  ∃ sv cv tv, w.cell? ⟨b, o, none⟩ = some (.string r.name) ∧ w.cell? ⟨b, o + 1, none⟩ = some sv ∧ w.cell? ⟨b, o + 2, none⟩ = some cv ∧ w.cell? ⟨b, o + 3, none⟩ = some tv ∧ Rl3 w sv cv tv r
/-- a role as a value -/
def RlV (w : World) (v : Value) (r : RolD) : Prop := ∃ sv cv tv, v = .agg #[.string r.name, sv, cv, tv] ∧ Rl3 w sv cv tv r
/-- the roles of a session; the session as a value -/
abbrev Rls (w : World) (v : Value) (l : List RolD) : Prop := Arr 4 RlAt w v l
def SesV (w : World) (v : Value) (s : SesD) : Prop := ∃ rv, v = .agg #[.string s.name, rv, .int .i64 s.cls, .int .i64 s.cap] ∧ Rls w rv s.roles
section
variable {w w' : World} {b o : Nat} {v sv cv tv : Value}
theorem StAt.frm {s : StD} (h : StAt w b o s) (hf : Frm [] w w') : StAt w' b o s := ⟨hf.keep h.1, hf.keep h.2.1, hf.keep h.2.2⟩
theorem CtAt.frm {s : CtrD} (h : CtAt w b o s) (hf : Frm [] w w') : CtAt w' b o s := ⟨hf.keep h.1, hf.keep h.2⟩
theorem SpAt.frm {s : StpD} (h : SpAt w b o s) (hf : Frm [] w w') : SpAt w' b o s :=
  ⟨hf.keep h.c0, hf.keep h.c1, hf.keep h.c2, hf.keep h.c3, hf.keep h.c4, hf.keep h.c5, hf.keep h.c6, hf.keep h.c7, hf.keep h.c8⟩
theorem Rl3.frm {r : RolD} (h : Rl3 w sv cv tv r) (hf : Frm [] w w') : Rl3 w' sv cv tv r :=
  ⟨h.sts.frm fun _ _ _ h => h.frm hf, h.ctrs.frm fun _ _ _ h => h.frm hf, h.steps.frm fun _ _ _ h => h.frm hf, h.cap⟩
theorem RlAt.frm {r : RolD} (h : RlAt w b o r) (hf : Frm [] w w') : RlAt w' b o r := by
  obtain ⟨sv, cv, tv, h1, h2, h3, h4, h5⟩ := h
  exact ⟨sv, cv, tv, hf.keep h1, hf.keep h2, hf.keep h3, hf.keep h4, h5.frm hf⟩
theorem RlV.frm {r : RolD} (h : RlV w v r) (hf : Frm [] w w') : RlV w' v r := by
  obtain ⟨sv, cv, tv, h1, h2⟩ := h
  exact ⟨sv, cv, tv, h1, h2.frm hf⟩
theorem Rls.frm {l : List RolD} (h : Rls w v l) (hf : Frm [] w w') : Rls w' v l := Arr.frm (fun _ _ _ h => h.frm hf) h
theorem SesV.frm {s : SesD} (h : SesV w v s) (hf : Frm [] w w') : SesV w' v s := by
  obtain ⟨rv, h1, h2⟩ := h
  exact ⟨rv, h1, h2.frm hf⟩
theorem str_ne {a b : ByteArray} (h : a ≠ b) : (a.toList == b.toList) = false := by
  cases hb : (a.toList == b.toList) with
  | false => rfl
  | true =>
    exact absurd ((Lib.bytes_beq_iff a b).1 hb) h
theorem str_beq (a b : ByteArray) : (a.toList == b.toList) = decide (a = b) := by
  by_cases h : a = b
  · subst h; simp
  · rw [str_ne h, decide_eq_false h]
end
end Go.Proofs.YtkphhjekfimmlaaGreat
namespace Go.Proofs
open Go.Shelf
def Tryz.cloneS_ren : Go.Shelf.Ren := ⟨fun | 42 => 127 | n => n, fun | 25 => 86 | 26 => 9 | 4 => 4 | n => n, fun | n => n⟩
theorem Tryz.cloneS : Go.Proofs.SlLaysN.n42 Tryz.prog Tryz.cloneS_ren := {
  mixed := by kernel_rfl
  f42 := ⟨Tryz.f127.name, by decide, Tryz.func127.trans (congrArg some (by kernel_rfl))⟩
  t4 := Tryz.underlying4
  a4 := Tryz.isAgg4
  z4 := Tryz.sizeOf4
  v4 := Tryz.zeroValue4
  t25 := Tryz.underlying86
  a25 := Tryz.isAgg86
  z25 := Tryz.sizeOf86
  v25 := Tryz.zeroValue86
  t26 := Tryz.underlying9
  a26 := Tryz.isAgg9
  z26 := Tryz.sizeOf9
  v26 := Tryz.zeroValue9
  i26 := by kernel_rfl }
def Tryz.deleteS_ren : Go.Shelf.Ren := ⟨fun | 46 => 137 | n => n, fun | 25 => 86 | 26 => 9 | 3 => 3 | 4 => 4 | 0 => 0 | n => n, fun | n => n⟩
theorem Tryz.deleteS : Go.Proofs.SlLaysN.n46 Tryz.prog Tryz.deleteS_ren := {
  mixed := by kernel_rfl
  f46 := ⟨Tryz.f137.name, by decide, Tryz.func137.trans (congrArg some (by kernel_rfl))⟩
  t0 := Tryz.underlying0
  a0 := Tryz.isAgg0
  z0 := Tryz.sizeOf0
  v0 := Tryz.zeroValue0
  t3 := Tryz.underlying3
  a3 := Tryz.isAgg3
  z3 := Tryz.sizeOf3
  v3 := Tryz.zeroValue3
  t4 := Tryz.underlying4
  a4 := Tryz.isAgg4
  z4 := Tryz.sizeOf4
  v4 := Tryz.zeroValue4
  t25 := Tryz.underlying86
  a25 := Tryz.isAgg86
  z25 := Tryz.sizeOf86
  v25 := Tryz.zeroValue86
  t26 := Tryz.underlying9
  a26 := Tryz.isAgg9
  z26 := Tryz.sizeOf9
  v26 := Tryz.zeroValue9
  i26 := by kernel_rfl }
def Tryz.indexS_ren : Go.Shelf.Ren := ⟨fun | 30 => 166 | n => n, fun | 25 => 86 | 26 => 9 | 3 => 3 | 0 => 0 | 4 => 4 | n => n, fun | n => n⟩
theorem Tryz.indexS : Go.Proofs.SlLaysN.n30 Tryz.prog Tryz.indexS_ren := {
  mixed := by kernel_rfl
  f30 := ⟨Tryz.f166.name, by decide, Tryz.func166.trans (congrArg some (by kernel_rfl))⟩
  t0 := Tryz.underlying0
  a0 := Tryz.isAgg0
  z0 := Tryz.sizeOf0
  v0 := Tryz.zeroValue0
  t3 := Tryz.underlying3
  a3 := Tryz.isAgg3
  z3 := Tryz.sizeOf3
  v3 := Tryz.zeroValue3
  t4 := Tryz.underlying4
  a4 := Tryz.isAgg4
  z4 := Tryz.sizeOf4
  v4 := Tryz.zeroValue4
  t25 := Tryz.underlying86
  a25 := Tryz.isAgg86
  z25 := Tryz.sizeOf86
  v25 := Tryz.zeroValue86
  t26 := Tryz.underlying9
  a26 := Tryz.isAgg9
  z26 := Tryz.sizeOf9
  v26 := Tryz.zeroValue9 }
def Tryz.sortS_ren : Go.Shelf.Ren := ⟨fun | 6 => 129 | 8 => 163 | 9 => 162 | 19 => 184 | 20 => 185 | 21 => 175 | 22 => 176 | 23 => 177 | 24 => 178 | 25 => 179 | 26 => 180 | 27 => 181 | 28 => 182 | 29 => 183 | 36 => 188 | 31 => 189 | 32 => 190 | 37 => 191 | 38 => 192 | 39 => 193 | 41 => 194 | n => n, fun | 27 => 86 | 29 => 9 | 3 => 3 | 32 => 150 | 26 => 86 | 0 => 0 | 44 => 279 | 46 => 281 | 4 => 4 | 36 => 272 | 35 => 271 | 41 => 193 | 5 => 5 | 9 => 9 | 53 => 283 | 57 => 287 | 63 => 289 | 64 => 107 | n => n, fun | n => n⟩
theorem Tryz.sortS : Go.Proofs.SlLaysM.n6 Tryz.prog Tryz.sortS_ren := {
  mixed := by kernel_rfl
  f6 := ⟨Tryz.f129.name, by decide, Tryz.func129.trans (congrArg some (by kernel_rfl))⟩
  f8 := Tryz.func163.trans (congrArg some (by kernel_rfl))
  f9 := ⟨Tryz.f162.name, by decide, Tryz.func162.trans (congrArg some (by kernel_rfl))⟩
  f19 := Tryz.func184.trans (congrArg some (by kernel_rfl))
  f20 := Tryz.func185.trans (congrArg some (by kernel_rfl))
  f21 := ⟨Tryz.f175.name, by decide, Tryz.func175.trans (congrArg some (by kernel_rfl))⟩
  f22 := ⟨Tryz.f176.name, by decide, Tryz.func176.trans (congrArg some (by kernel_rfl))⟩
  f23 := ⟨Tryz.f177.name, by decide, Tryz.func177.trans (congrArg some (by kernel_rfl))⟩
  f24 := ⟨Tryz.f178.name, by decide, Tryz.func178.trans (congrArg some (by kernel_rfl))⟩
  f25 := ⟨Tryz.f179.name, by decide, Tryz.func179.trans (congrArg some (by kernel_rfl))⟩
  f26 := ⟨Tryz.f180.name, by decide, Tryz.func180.trans (congrArg some (by kernel_rfl))⟩
  f27 := ⟨Tryz.f181.name, by decide, Tryz.func181.trans (congrArg some (by kernel_rfl))⟩
  f28 := ⟨Tryz.f182.name, by decide, Tryz.func182.trans (congrArg some (by kernel_rfl))⟩
  f29 := ⟨Tryz.f183.name, by decide, Tryz.func183.trans (congrArg some (by kernel_rfl))⟩
  f31 := Tryz.func189.trans (congrArg some (by kernel_rfl))
  f32 := Tryz.func190.trans (congrArg some (by kernel_rfl))
  f36 := ⟨Tryz.f188.name, by decide, Tryz.func188.trans (congrArg some (by kernel_rfl))⟩
  f37 := ⟨Tryz.f191.name, by decide, Tryz.func191.trans (congrArg some (by kernel_rfl))⟩
  f38 := ⟨Tryz.f192.name, by decide, Tryz.func192.trans (congrArg some (by kernel_rfl))⟩
  f39 := ⟨Tryz.f193.name, by decide, Tryz.func193.trans (congrArg some (by kernel_rfl))⟩
  f41 := ⟨Tryz.f194.name, by decide, Tryz.func194.trans (congrArg some (by kernel_rfl))⟩
  t0 := Tryz.underlying0
  a0 := Tryz.isAgg0
  z0 := Tryz.sizeOf0
  v0 := Tryz.zeroValue0
  t3 := Tryz.underlying3
  a3 := Tryz.isAgg3
  z3 := Tryz.sizeOf3
  v3 := Tryz.zeroValue3
  t4 := Tryz.underlying4
  a4 := Tryz.isAgg4
  z4 := Tryz.sizeOf4
  v4 := Tryz.zeroValue4
  t5 := Tryz.underlying5
  a5 := Tryz.isAgg5
  z5 := Tryz.sizeOf5
  v5 := Tryz.zeroValue5
  t9 := Tryz.underlying9
  a9 := Tryz.isAgg9
  z9 := Tryz.sizeOf9
  v9 := Tryz.zeroValue9
  t26 := Tryz.underlying86
  a26 := Tryz.isAgg86
  z26 := Tryz.sizeOf86
  v26 := Tryz.zeroValue86
  t27 := Tryz.underlying86
  a27 := Tryz.isAgg86
  z27 := Tryz.sizeOf86
  v27 := Tryz.zeroValue86
  t29 := Tryz.underlying9
  a29 := Tryz.isAgg9
  z29 := Tryz.sizeOf9
  v29 := Tryz.zeroValue9
  t32 := Tryz.underlying150
  a32 := Tryz.isAgg150
  z32 := Tryz.sizeOf150
  v32 := Tryz.zeroValue150
  t35 := Tryz.underlying271
  a35 := Tryz.isAgg271
  z35 := Tryz.sizeOf271
  v35 := Tryz.zeroValue271
  t36 := Tryz.underlying272
  a36 := Tryz.isAgg272
  z36 := Tryz.sizeOf272
  v36 := Tryz.zeroValue272
  t41 := Tryz.underlying193
  a41 := Tryz.isAgg193
  z41 := Tryz.sizeOf193
  v41 := Tryz.zeroValue193
  t44 := Tryz.underlying279
  a44 := Tryz.isAgg279
  z44 := Tryz.sizeOf279
  v44 := Tryz.zeroValue279
  t46 := Tryz.underlying281
  a46 := Tryz.isAgg281
  z46 := Tryz.sizeOf281
  v46 := Tryz.zeroValue281
  t53 := Tryz.underlying283
  a53 := Tryz.isAgg283
  z53 := Tryz.sizeOf283
  v53 := Tryz.zeroValue283
  t57 := Tryz.underlying287
  a57 := Tryz.isAgg287
  z57 := Tryz.sizeOf287
  v57 := Tryz.zeroValue287
  t63 := Tryz.underlying289
  a63 := Tryz.isAgg289
  z63 := Tryz.sizeOf289
  v63 := Tryz.zeroValue289
  t64 := Tryz.underlying107
  a64 := Tryz.isAgg107
  z64 := Tryz.sizeOf107
  v64 := Tryz.zeroValue107 }
end Go.Proofs
namespace Go.Proofs.YtkphhjekfimmlaaGreat
open Go.RowKit Go.BigFrame

section
variable {P : Program} {ops : Array Oper} {md : Region.Mode} {C : World → Prop}
/-- whatever order is picked from here on among the operations below n, f of them; then L -/
def wpAnyT (P : Program) (md : Region.Mode) (ops : Array Oper) (C : World → Prop) (n : Nat) (L : Array Bool → Act → Prop) : Nat → Array Bool → Act → Prop
  | 0, listed, a => L listed a
  | f + 1, listed, a => Region.ready md ops listed ≠ [] ∧ ∀ i ∈ Region.ready md ops listed, i < n ∧ qOp P ops C i (wpAnyT P md ops C n L f (listed.setIfInBounds i true)) a
theorem wpAny_of_headT {n g : Nat} {L : Array Bool → Act → Prop} {Q' : Exit → Act → World → Prop} (hL : ∀ listed a w, C w → L listed a → wpAny P md ops Q' g listed a w) :
    ∀ (f : Nat) (listed : Array Bool) (a : Act) (w : World), C w → wpAnyT P md ops C n L f listed a → wpAny P md ops Q' (f + g) listed a w
  | 0, listed, a, w, hw, h => by rw [Nat.zero_add]; exact hL _ _ _ hw h
  | f + 1, listed, a, w, hw, h => by
    rw [show f + 1 + g = (f + g) + 1 by omega]
    exact ⟨fun h0 => absurd h0 h.1, fun i hi => wpOp_of_qOp hw (fun a' w' hw' h' => wpAny_of_headT hL f _ a' w' hw' h') (h.2 i hi).2⟩
theorem wpAnyT_first {n i : Nat} {oi : Oper} {v : Value} {L : Array Bool → Act → Prop} (hi : ops[i]? = some oi) (hsel : ∀ (j : Nat) (o : Oper) cs b, ops[j]? = some o → o.op ≠ .select cs b)
    (hs : Region.sinkB md ops n = true) (hc : Region.chainB md ops n = true) (hn : n < ops.size) (hin : i < n)
    (hdone : ∀ listed a, L listed a → ∀ j ∈ Region.ready md ops listed, n ≤ j) :
    ∀ (f : Nat) (listed : Array Bool) (a : Act), HeadInv md ops n listed →
      (∀ j oj, ops[j]? = some oj → j ≠ i → listed.getD j true = false → (∀ e ∈ oj.after, Region.binds md e = true → e.on ≠ i) → oi.apart ops oj = true) →
      i ∈ Region.ready md ops listed → YieldsIn P ops C oi v a →
      wpAnyT P md ops C n L f (listed.setIfInBounds i true) (a.put oi.dst v) → wpAnyT P md ops C n L (f + 1) listed a := by
  intro f
  induction f with
  | zero =>
    intro listed a inv _ hr hy H
    have hun := (mem_ready.1 hr).1
    refine ⟨fun h => (by rw [h] at hr; cases hr), fun j hj => ?_⟩
    have hjn : j < n := by
      rcases Nat.lt_or_ge j n with h | h
      · exact h
      · exact absurd hj (tail_waits hs hc hn inv _ i rfl hin hun j h)
    refine ⟨hjn, ?_⟩
    by_cases hji : j = i
    · subst hji; exact hy.qOp hi H
    · have := hdone _ _ H j (ready_mono hj hji)
      omega
  | succ f ih =>
    intro listed a inv hfree hr hy H
    have hun := (mem_ready.1 hr).1
    refine ⟨fun h => (by rw [h] at hr; cases hr), fun j hj => ?_⟩
    have hjn : j < n := by
      rcases Nat.lt_or_ge j n with h | h
      · exact h
      · exact absurd hj (tail_waits hs hc hn inv _ i rfl hin hun j h)
    refine ⟨hjn, ?_⟩
    by_cases hji : j = i
    · subst hji; exact hy.qOp hi H
    · have h1 := (H.2 j (ready_mono hj hji)).2
      obtain ⟨hjun, oj, hoj, hall⟩ := mem_ready.1 hj
      have hnot : ∀ e ∈ oj.after, Region.binds md e = true → e.on ≠ i := fun e he hb heq => by
        have h1 := hall e he hb
        rw [heq, getD_both hun] at h1
        cases h1
      have h2 := qOp_put hoj (hfree j oj hoj hji hjun hnot) (fun cs b => hsel i oi cs b hi) (fun cs b => hsel j oj cs b hoj) hy h1
      have hfree' : ∀ k ok, ops[k]? = some ok → k ≠ i → (listed.setIfInBounds j true).getD k true = false →
          (∀ e ∈ ok.after, Region.binds md e = true → e.on ≠ i) → oi.apart ops ok = true := fun k ok hk hki hun hno => by
        refine hfree k ok hk hki ?_ hno
        by_cases hjk : j = k
        · subst hjk; exact hjun
        · rw [getD_set_ne true hjk] at hun; exact hun
      refine qOp_mono (fun a' h3 => ih (listed.setIfInBounds j true) a' (inv.set hj hjn) hfree' (ready_mono hr (Ne.symm hji)) h3.1 ?_) h2
      rw [Array.setIfInBounds_comm _ _ hji]
      exact h3.2
theorem wpAnyT_lex {n g : Nat} {Lq : Act → Prop} (hsel : Region.noSelect ops = true) (hs : Region.sinkB md ops n = true) (hc : Region.chainB md ops n = true) (hn : n < ops.size) :
    ∀ (l : List Oper) (k : Nat) (listed : Array Bool) (a : Act), (∀ j, j < l.length → l[j]? = ops[k + j]?) → k + l.length = n → HeadInv md ops n listed →
    Region.lexHead md ops g l.length k listed = true → wpQuiet P ops C Lq l a →
    wpAnyT P md ops C n (fun listed' a' => Region.seqB md ops g n listed' = true ∧ Lq a') l.length listed a
  | [], k, listed, a, _, hk, _, hB, h => by
    have : k = n := by simpa using hk
    subst this
    exact ⟨by simpa [Region.lexHead] using hB, h⟩
  | o :: l, k, listed, a, hl, hk, inv, hB, h => by
    have h0 : ops[k]? = some o := by simpa using (hl 0 (by simp)).symm
    simp only [List.length_cons, Region.lexHead, Bool.and_eq_true] at hB
    obtain ⟨⟨hr, hf⟩, hB'⟩ := hB
    have hkn : k < n := by simp only [List.length_cons] at hk; omega
    have hr' : k ∈ Region.ready md ops listed := by simpa using hr
    have hst : qOp P ops C k (wpQuiet P ops C Lq l) a := by unfold qOp; simp only [h0]; exact h
    obtain ⟨v, hy, hK⟩ := yieldsIn_of_qOp h0 hst
    exact wpAnyT_first h0 (Region.noSelect_spec hsel) hs hc hn hkn (fun listed' a' hL => seqB_ready hL.1) l.length listed a inv (Region.free_spec h0 hf) hr' hy
      (wpAnyT_lex hsel hs hc hn l (k + 1) _ _ (fun j hj => by have := hl (j + 1) (by simp; omega); simpa [Nat.add_assoc, Nat.add_comm 1 j] using this) (by simp only [List.length_cons] at hk; omega) (inv.set hr' hkn) hB' hK)
/-- A region whose first n operations are quiet in the class C, and whose others come up in the order of the text, behind them. -/
theorem wp_region_cq_tail (C : World → Prop) {id : Nat} {Q : Exit → Act → World → Prop} {a : Act} {w : World} {l : List Oper} (n : Nat) (hm : P.follows .mixedOrders = true) (hB : Region.lexTailB .any l.toArray n = true)
    (hC : C { w with drawn := w.drawn + 1 }) (h : wpQuiet P l.toArray C (fun a' => ∀ w', C w' → wpList P l.toArray Q (l.drop n) a' w') (l.take n) a) : (Code.region id l.toArray true).wp P Q a w := by
  simp only [Region.lexTailB, Bool.and_eq_true, decide_eq_true_eq] at hB
  obtain ⟨⟨⟨⟨hsel, hn⟩, hs⟩, hc⟩, hlex⟩ := hB
  have hn' : n < l.length := by simpa using hn
  have htl : (l.take n).length = n := by simp; omega
  have hdl : (l.drop n).length = l.toArray.size - n := by simp
  have inv0 : HeadInv .any l.toArray n (Array.replicate l.toArray.size false) :=
    ⟨by simp, fun j oj _ hl => (by rw [getD_replicate_false] at hl; cases hl), fun t _ ht => getD_in (by simpa using ht) (getD_replicate_false _ _)⟩
  have H := wpAnyT_lex (md := .any) (g := l.toArray.size - n) hsel hs hc hn (l.take n) 0 _ a (fun j hj => by
    have hj' : j < n := by rw [htl] at hj; exact hj
    simp [hj']) (by simpa using htl) inv0 (by rw [htl]; exact hlex) h
  refine wp_region_any hm ?_
  have := wpAny_of_headT (Q' := Q) (g := l.toArray.size - n) (fun listed a' w' hw' hL => by
    have := wpAny_of_seq (md := .any) (Q' := Q) (l.drop n) n listed a' w' (fun j => by simp [List.getElem?_drop]) (by rw [hdl]; exact hL.1) (hL.2 w' hw')
    rwa [hdl] at this) _ _ _ _ hC H
  rw [htl, show n + (l.toArray.size - n) = l.toArray.size by omega] at this
  exact this
end
theorem wp_region_cq {P : Program} {id : Nat} {Q : Exit → Act → World → Prop} {a : Act} {w : World} {l : List Oper} (hm : P.follows .mixedOrders = true) (hB : Region.lexB .any l.toArray = true)
    (h : wpQuiet P l.toArray (Frm [] w) (fun a' => ∀ w', Frm [] w w' → Q .normal a' w') l a) : (Code.region id l.toArray true).wp P Q a w :=
  wp_region_quiet (C := Frm [] w) hm hB ⟨rfl, rfl, rfl, Nat.le_refl _, fun _ _ _ => rfl⟩ (by simpa using h)
/-- the same, with a tail that comes up in the order of the text -/
theorem wp_region_cqt {P : Program} {id : Nat} {Q : Exit → Act → World → Prop} {a : Act} {w : World} {l : List Oper} (n : Nat) (hm : P.follows .mixedOrders = true) (hB : Region.lexTailB .any l.toArray n = true)
    (h : wpQuiet P l.toArray (Frm [] w) (fun a' => ∀ w', Frm [] w w' → wpList P l.toArray Q (l.drop n) a' w') (l.take n) a) : (Code.region id l.toArray true).wp P Q a w :=
  wp_region_cq_tail (Frm [] w) n hm hB ⟨rfl, rfl, rfl, Nat.le_refl _, fun _ _ _ => rfl⟩ h
section
variable {P : Program} {o : Oper} {a : Act} {C : World → Prop} {K : Act → Prop}
theorem cq_val (v : Value) (h : ∀ w, C w → (execOp a.eval o).run P w = .ok (.value v) w) (hk : K (a.put o.dst v)) : o.quiet P a C K :=
  ⟨v, fun w hC => by unfold Oper.quietAt; rw [h w hC]; exact ⟨rfl, rfl⟩, hk⟩
theorem cq_call (v : Value) (f : FuncId) (args : Array Value) (h : ∀ w, C w → (execOp a.eval o).run P w = .ok (.enter f args) w) (hc : ∀ w, C w → Calls P f args w fun e w' => e = .returned v ∧ C w') (hk : K (a.put o.dst v)) : o.quiet P a C K :=
  ⟨v, fun w hC => by unfold Oper.quietAt; rw [h w hC]; exact ⟨rfl, hc w hC⟩, hk⟩
theorem cq_rowC (ty : TypeId) (x : Operand) (ho : o.op = .load ty x) (b : Nat) (hx : a.eval x = .pointer (some ⟨b, 0, none⟩)) (A : Array Value) (t : TypeId) (hb : ∀ w, C w → w.heap[b]? = some (.cells A t (0, 0)))
    (d : TypeDesc) (hu : P.underlying ty = some d) (hd : (match d with | .struct _ | .array _ _ => true | _ => false) = true) (hi : (P.info? ty).map (·.size) = some A.size) (hk : K (a.put o.dst (.agg A))) : o.quiet P a C K :=
  cq_val (.agg A) (fun w hC => by
    unfold execOp
    simp only [ho, hx, Instr.loadAt, Instr.sureAddr, Sem.run_bind, Sem.run_pure, Result.andThen_ok, run_loadVar_row w b t ty A (0, 0) d (hb w hC) hu hd hi]) hk
theorem cq_row {w0 : World} (ty : TypeId) (x : Operand) (ho : o.op = .load ty x) (b : Nat) (hx : a.eval x = .pointer (some ⟨b, 0, none⟩)) (A : Array Value) (t : TypeId) (hb : w0.heap[b]? = some (.cells A t (0, 0)))
    (d : TypeDesc) (hu : P.underlying ty = some d) (hd : (match d with | .struct _ | .array _ _ => true | _ => false) = true) (hi : (P.info? ty).map (·.size) = some A.size) (hk : K (a.put o.dst (.agg A))) : o.quiet P a (Frm [] w0) K :=
  cq_val (.agg A) (fun w hC => by
    unfold execOp
    simp only [ho, hx, Instr.loadAt, Instr.sureAddr, Sem.run_bind, Sem.run_pure, Result.andThen_ok, run_loadVar_row w b t ty A (0, 0) d (hC.at hb (by simp)) hu hd hi]) hk
end
theorem Ret.cq {v : Value} {R : World → Prop} {C : World → Prop} {P : Program} {f : FuncId} {args : Array Value} {w : World} (h : Calls P f args w (Ret v R)) (hR : ∀ w', R w' → C w') : Calls P f args w fun e w' => e = .returned v ∧ C w' :=
  h.mono fun _ w' ⟨he, hr⟩ => ⟨he, hR w' hr⟩
end Go.Proofs.YtkphhjekfimmlaaGreat
namespace Go.Proofs.YtkphhjekfimmlaaGreat
open Go.RowKit Go.BigFrame

theorem alloc_top {w : World} {o : Obj} {n : Nat} (h : n = w.heap.size) : (w.alloc o).heap[n]? = some o := by subst h; exact heap_alloc_new _ _
theorem own_shape {w : World} {base e size n : Nat} {v : Value} {xs : List Value} (h : w.ownsRow base e size v n xs) : ∃ ao cp, v = .slice ao n cp := by
  rcases h.2 with ⟨rfl, rfl⟩ | ⟨g, c, cur, h2, -⟩
  · exact ⟨_, _, rfl⟩
  · exact ⟨_, _, h2⟩
theorem own_low {w : World} {base base' e size n : Nat} {v : Value} {xs : List Value} (h : w.ownsRow base e size v n xs) (hb : base' ≤ base) : w.ownsRow base' e size v n xs := by
  rcases h with ⟨h1, h2 | ⟨g, c, cur, h2, h3, h4⟩⟩
  · exact ⟨h1, .inl h2⟩
  · exact ⟨h1, .inr ⟨g, c, cur, h2, Nat.le_trans hb h3, h4⟩⟩
theorem ownBlock_ge {w : World} {base e size n : Nat} {v : Value} {xs : List Value} (ho : w.ownsRow base e size v n xs) {k : Nat} (hk : v.ownBlock = some k) : base ≤ k := by
  obtain ⟨_, h2⟩ := ho
  rcases h2 with ⟨rfl, _⟩ | ⟨g, cap, cur, rfl, hg, hh, r⟩
  · simp [Value.ownBlock] at hk
  · simp [Value.ownBlock] at hk; subst hk; exact hg
theorem cell_lt {w : World} {k o : Nat} {v : Value} (h : w.cell? ⟨k, o, none⟩ = some v) : k < w.heap.size := World.block_lt_of_cell? _ _ h

/-- a byte's cell -/
def u8 (x : UInt8) : Value := .int .u8 (x.toNat : Int)
/-- a slice that reads as these bytes -/
def Byts (w : World) (v : Value) (l : List UInt8) : Prop :=
  ∃ ao cap, v = .slice ao l.length cap ∧ l.length ≤ cap ∧ ∀ k x, l[k]? = some x → ∃ b o, ao = some ⟨b, o, none⟩ ∧ w.cell? ⟨b, o + k, none⟩ = some (u8 x)
theorem Byts.nil (w : World) : Byts w (.slice none 0 0) [] := ⟨none, 0, rfl, Nat.le_refl _, fun k x h => by simp at h⟩
theorem Byts.frm {F : List Nat} {w w' : World} {v : Value} {l : List UInt8} (h : Byts w v l) (hf : Frm F w w') (hn : ∀ k, v.ownBlock = some k → k ∉ F) : Byts w' v l := by
  obtain ⟨ao, cap, rfl, h1, h2⟩ := h
  refine ⟨ao, cap, rfl, h1, fun k x hk => ?_⟩
  obtain ⟨b, o, rfl, e⟩ := h2 k x hk
  exact ⟨b, o, rfl, hf.cellAt e (hn b rfl)⟩
theorem Byts.frm0 {w w' : World} {v : Value} {l : List UInt8} (h : Byts w v l) (hf : Frm [] w w') : Byts w' v l := h.frm hf (by simp)
theorem Byts.len {w : World} {v : Value} {l : List UInt8} (h : Byts w v l) : ∃ ao cap, v = .slice ao l.length cap ∧ l.length ≤ cap := by
  obtain ⟨ao, cap, h1, h2, -⟩ := h; exact ⟨ao, cap, h1, h2⟩
/-- cells of maps only change: the bytes stay -/
theorem Byts.keep {F : List Nat} {w w' : World} {v : Value} {l : List UInt8} (h : Byts w v l) (hf : Frm F w w') (hF : ∀ k ∈ F, ∀ c t fr, w.heap[k]? ≠ some (.cells c t fr)) : Byts w' v l := by
  obtain ⟨ao, cap, rfl, h1, h2⟩ := h
  refine ⟨ao, cap, rfl, h1, fun k x hk => ?_⟩
  obtain ⟨b, o, rfl, e⟩ := h2 k x hk
  refine ⟨b, o, rfl, hf.cellAt e (fun hb => ?_)⟩
  have hlt := cell_lt e
  have hg : w.heap[b]? = some (w.heap[b]) := Array.getElem?_eq_getElem hlt
  have hF' := hF b hb
  simp only [World.cell?, hg] at e hF'
  cases hob : w.heap[b] with
  | cells c t fr => exact hF' c t fr (by rw [hob])
  | _ => rw [hob] at e; simp at e
theorem Byts.of_own {w : World} {base : Nat} {v : Value} {l : List UInt8} (h : w.ownsRow base 5 1 v l.length (l.map u8)) : Byts w v l := by
  rcases h.2 with ⟨rfl, h2⟩ | ⟨g, cap, cur, rfl, -, hh, h3, -, -, h4⟩
  · obtain rfl : l = [] := List.length_eq_zero_iff.1 h2
    exact Byts.nil w
  · refine ⟨_, _, rfl, h3, fun k x hk => ⟨g, 0, rfl, ?_⟩⟩
    have hl := lt_of_some hk
    rw [Nat.zero_add, World.ownsRow.cellAt h k (by omega)]
    simp [hk]
theorem Byts.ints {w : World} {v : Value} {l : List UInt8} (h : Byts w v l) : ∃ ao cap, v = .slice ao l.length cap ∧ Lib.BytesIn w ao l.length (l.map fun x => (x.toNat : Int)) := by
  obtain ⟨ao, cap, rfl, h1, h2⟩ := h
  refine ⟨ao, cap, rfl, fun hn => ?_⟩
  obtain ⟨x, hx⟩ : ∃ x, l[0]? = some x := ⟨_, List.getElem?_eq_getElem hn⟩
  obtain ⟨b, o, rfl, -⟩ := h2 0 x hx
  refine ⟨b, o, rfl, fun i hi => ?_⟩
  obtain ⟨b', o', hb, e⟩ := h2 i _ (List.getElem?_eq_getElem hi)
  cases hb
  rw [e]
  simp [u8, hi]
/-- the text of bytes -/
def txt (l : List UInt8) : ByteArray := ⟨l.toArray⟩
theorem txt_inj {a b : List UInt8} (h : txt a = txt b) : a = b := by
  have := congrArg (fun x : ByteArray => x.data.toList) h
  simpa [txt] using this
theorem Byts.conv {w : World} {v : Value} {l : List UInt8} (h : Byts w v l) : (convert 26 9 v).run Tryz.prog w = .ok (.string (txt l)) w := by
  obtain ⟨ao, cap, rfl, h1, h2⟩ := h
  cases l with
  | nil => exact run_convert_bytes_zero w 26 5 Tryz.underlying26 Tryz.underlying5 ao cap 9 Tryz.underlying9
  | cons x l =>
    obtain ⟨b, o, rfl, -⟩ := h2 0 x rfl
    refine run_convert_bytes_back w 26 9 5 ⟨b, o, none⟩ cap (x :: l) Tryz.underlying26 Tryz.underlying5 Tryz.underlying9 (fun j hj => ?_)
    obtain ⟨b', o', hb, e⟩ := h2 j _ (List.getElem?_eq_getElem hj)
    cases hb
    rw [WideShapes.add_plain]
    exact e
theorem Tryz.elem26 : Tryz.prog.elem 26 = 5 := by kernel_rfl
theorem Tryz.under26 : Tryz.prog.underlying 26 = some (.slice (Tryz.prog.elem 26)) := by rw [Tryz.elem26]; exact Tryz.underlying26
theorem sliced_block {ao : Option Addr} {i j m n c : Nat} {k : Nat} (hk : (sliced ao i j m 1).ownBlock = some k) : (Value.slice ao n c).ownBlock = some k := by
  cases ao with
  | none => simp only [sliced] at hk; split at hk <;> simp [Value.ownBlock] at hk
  | some a =>
    have ha : (a.add i).block = a.block := by unfold Addr.add; split <;> rfl
    simp only [sliced] at hk
    split at hk
    · exact hk
    · simp only [Option.map_some, Nat.mul_one, Value.ownBlock, Option.some.injEq] at hk
      rw [ha] at hk
      simp [Value.ownBlock, hk]
theorem Byts.sliced {w : World} {ao : Option Addr} {cap : Nat} {l : List UInt8} (h : Byts w (.slice ao l.length cap) l) {i j m : Nat} (h1 : i ≤ j) (h2 : j ≤ l.length) (hm : j ≤ m) : Byts w (sliced ao i j m 1) ((l.take j).drop i) := by
  obtain ⟨ao', cap', e0, h3, h4⟩ := h
  cases e0
  have hlen : ((l.take j).drop i).length = j - i := by simp; omega
  refine ⟨_, _, by rw [hlen]; rfl, by omega, fun k x hk => ?_⟩
  have hk' := lt_of_some hk
  rw [hlen] at hk'
  rw [List.getElem?_drop, List.getElem?_take_of_lt (by omega)] at hk
  obtain ⟨b, o, rfl, e⟩ := h4 (i + k) x hk
  refine ⟨b, o + i, ?_, by rw [← e]; congr 2; omega⟩
  rw [if_neg (by omega), Option.map_some, WideShapes.add_plain, Nat.mul_one]
section
variable {w : World} {v : Value} {l : List UInt8} {lo hi : Int} {i j : Nat}
/-- what a part of b leaves -/
def CutTo (w : World) (v : Value) (l : List UInt8) (lo hi mx : Option Value) : Prop :=
  ∃ v', (∀ W, (Instr.sliceAt 26 v lo hi mx).run Tryz.prog W = .ok v' W) ∧ Byts w v' l ∧ (∃ ao cap, v' = .slice ao l.length cap) ∧ ∀ k, v'.ownBlock = some k → v.ownBlock = some k
/-- b[lo:hi:hi] -/
theorem Byts.cut3 (h : Byts w v l) (hl : lo = i) (hh : hi = j) (h1 : i ≤ j) (h2 : j ≤ l.length) : CutTo w v ((l.take j).drop i) (some (.int .i64 lo)) (some (.int .i64 hi)) (some (.int .i64 hi)) := by
  obtain ⟨ao, cap, rfl, h3⟩ := h.len
  subst hl hh
  have hb := h.sliced h1 h2 (Nat.le_refl j)
  refine ⟨_, fun W => ?_, hb, (let ⟨x, y, e, _⟩ := hb; ⟨x, y, e⟩), fun k hk => sliced_block hk⟩
  rw [run_sliceAt_slice W 26 _ _ _ _ Tryz.under26, run_slice_lhm W 26 ao l.length cap Tryz.under26 .i64 .i64 .i64 (i : Int) (j : Int) (j : Int) (by omega) (by omega) (by omega) (by omega), Tryz.elem26, Tryz.sizeOf5]
  simp [Result.andThen]
/-- b[lo:hi] -/
theorem Byts.cut2 (h : Byts w v l) (hl : lo = i) (hh : hi = j) (h1 : i ≤ j) (h2 : j ≤ l.length) : CutTo w v ((l.take j).drop i) (some (.int .i64 lo)) (some (.int .i64 hi)) none := by
  obtain ⟨ao, cap, rfl, h3⟩ := h.len
  subst hl hh
  have hb := h.sliced (m := cap) h1 h2 (by omega)
  refine ⟨_, fun W => ?_, hb, (let ⟨x, y, e, _⟩ := hb; ⟨x, y, e⟩), fun k hk => sliced_block hk⟩
  rw [run_sliceAt_slice W 26 _ _ _ _ Tryz.under26, run_slice_lh W 26 ao l.length cap Tryz.under26 .i64 .i64 (i : Int) (j : Int) (by omega) (by omega) (by omega), Tryz.elem26, Tryz.sizeOf5]
  simp [Result.andThen]
/-- b[:hi] -/
theorem Byts.cutH (h : Byts w v l) (hh : hi = j) (h2 : j ≤ l.length) : CutTo w v (l.take j) none (some (.int .i64 hi)) none := by
  obtain ⟨ao, cap, rfl, h3⟩ := h.len
  subst hh
  have hb := h.sliced (i := 0) (m := cap) (Nat.zero_le j) h2 (by omega)
  rw [List.drop_zero] at hb
  refine ⟨_, fun W => ?_, hb, (let ⟨x, y, e, _⟩ := hb; ⟨x, y, e⟩), fun k hk => sliced_block hk⟩
  rw [run_sliceAt_slice W 26 _ _ _ _ Tryz.under26, run_slice_h W 26 ao l.length cap Tryz.under26 .i64 (j : Int) (by omega) (by omega), Tryz.elem26, Tryz.sizeOf5]
  simp [Result.andThen]
/-- b[lo:] -/
theorem Byts.cutL (h : Byts w v l) (hl : lo = i) (h2 : i ≤ l.length) : CutTo w v (l.drop i) (some (.int .i64 lo)) none none := by
  obtain ⟨ao, cap, rfl, h3⟩ := h.len
  subst hl
  have hb := h.sliced (m := cap) h2 (Nat.le_refl _) (by omega)
  rw [List.take_length] at hb
  refine ⟨_, fun W => ?_, hb, (let ⟨x, y, e, _⟩ := hb; ⟨x, y, e⟩), fun k hk => sliced_block hk⟩
  rw [run_sliceAt_slice W 26 _ _ _ _ Tryz.under26, run_slice_l W 26 ao l.length cap Tryz.under26 .i64 (i : Int) (by omega) (by omega), Tryz.elem26, Tryz.sizeOf5]
  simp [Result.andThen]
end
theorem Tryz.info5 : (Tryz.prog.info? 5).map (fun i => (i.zero, i.size, i.bytes)) = some (some (.int .u8 0), 1, 1) := by kernel_rfl
theorem Byts.src {w : World} {v : Value} {l : List UInt8} (h : Byts w v l) : Src Tryz.prog 1 26 v l.length (l.map u8) w := by
  obtain ⟨ao, cap, rfl, h1, h2⟩ := h
  cases ao with
  | none =>
    cases l with
    | nil => exact Src.ofNil w Tryz.underlying26 cap
    | cons x l => obtain ⟨b, o, e, -⟩ := h2 0 x rfl; cases e
  | some ad =>
    refine Src.ofSlice w Tryz.underlying26 ad l.length cap _ (by simp) (fun j u hu => ?_) (fun u hu => by obtain ⟨x, -, rfl⟩ := List.mem_map.1 hu; rfl)
    rw [List.getElem?_map, Option.map_eq_some_iff] at hu
    obtain ⟨y, hy, rfl⟩ := hu
    obtain ⟨b, o, e, e2⟩ := h2 j y hy
    cases e
    rw [WideShapes.add_plain]; exact e2
/-- bytes appended onto a row of one's own, from wherever -/
theorem app_bytes {ty : TypeId} {W : World} {base : Nat} {v sv : Value} {xs l : List UInt8} (ho : W.ownsRow base 5 1 v xs.length (xs.map u8)) (hs : Byts W sv l) (hn : xs.length + l.length ≤ 4000000) (hb : base ≤ W.heap.size) :
    ∃ v' W', (Builtin.append_ #[26, 26] ty #[v, sv]).run Tryz.prog W = .ok v' W' ∧ W'.ownsRow base 5 1 v' (xs ++ l).length ((xs ++ l).map u8) ∧ W.grownBy W' v.ownBlock := by
  obtain ⟨i0, hi0, hz0, hz1, hz2⟩ := info_parts Tryz.info5
  have hsrc := hs.src
  cases l with
  | nil =>
    obtain ⟨ao, cp, rfl⟩ := own_shape ho
    have hcp : xs.length ≤ cp := by
      rcases ho.2 with ⟨h, h0⟩ | ⟨g, c, cur, h, -, -, h3, -⟩
      · omega
      · cases h; exact h3
    refine ⟨_, _, run_append_nothing W 26 26 ty 5 i0 Tryz.underlying26 hi0 ao xs.length cp hcp sv (by rw [hz1]; exact hsrc), by simpa using ho, ⟨rfl, rfl, rfl, Nat.le_refl _, fun _ _ _ => rfl⟩⟩
  | cons x l =>
    obtain ⟨ao, cap, rfl, h1, h2⟩ := hs
    obtain ⟨b, o, rfl, -⟩ := h2 0 x rfl
    obtain ⟨v', W', hrun, r1, r2, -⟩ := run_append_own (P := Tryz.prog) W base 26 ty 5 i0 (.int .u8 0) 1 1 Tryz.underlying26 hi0 hz0 hz1 hz2 rfl (by decide) v xs.length (xs.map u8) ho ⟨b, o, none⟩ (x :: l).length cap ((x :: l).map u8) (by simp) (fun j u hu => by
      rw [List.getElem?_map, Option.map_eq_some_iff] at hu
      obtain ⟨y, hy, rfl⟩ := hu
      obtain ⟨b', o', e, e2⟩ := h2 j y hy
      cases e
      rw [WideShapes.add_plain]; exact e2) (fun u hu => by obtain ⟨x, -, rfl⟩ := List.mem_map.1 hu; rfl) (by unfold maxLen; omega) (by omega) hb
    refine ⟨v', W', hrun, ?_, r2⟩
    rw [List.length_append, List.map_append]; exact r1
/-- the same at a step of the walk -/
theorem wpList_app_bytes {ops : Array Oper} {rest : List Oper} {o : Oper} {a : Act} {Q : Exit → Act → World → Prop} {w : World} (hgd : o.guard = none) (s x : Operand) (ho : o.op = .call { callee := .builtin .append, args := #[s, x], argTypes := #[26, 26] })
    (base : Nat) (v sv : Value) (hs : a.eval s = v) (hx : a.eval x = sv) (xs l : List UInt8) (hown : w.ownsRow base 5 1 v xs.length (xs.map u8)) (hsrc : Byts w sv l) (hn : xs.length + l.length ≤ 4000000) (hb : base ≤ w.heap.size)
    (h : ∀ ao cp w', w'.ownsRow base 5 1 (.slice ao (xs ++ l).length cp) (xs ++ l).length ((xs ++ l).map u8) → w.grownBy w' v.ownBlock → wpList Tryz.prog ops Q rest (a.put o.dst (.slice ao (xs ++ l).length cp)) w') : wpList Tryz.prog ops Q (o :: rest) a w := by
  refine wpList_plain hgd fun K hK => ?_
  obtain ⟨v', w', hrun, r1, r2⟩ := app_bytes (ty := o.type) hown hsrc hn hb
  obtain ⟨ao, cp, rfl⟩ := own_shape r1
  unfold Oper.wp
  simp [execOp, ho, resolve, invoke, builtin, hs, hx, hrun, Result.andThen]
  have hk := h ao cp w' r1 r2
  rw [List.length_append] at hk
  exact hK _ _ hk
/-- a slice literal of bytes is a row of one's own -/
theorem own_lit {w : World} {base : Nat} (l : List UInt8) (hb : base ≤ w.heap.size) (hl : l.length ≤ 1000000) : (w.alloc (.cells (l.map u8).toArray 5)).ownsRow base 5 1 (.slice (some ⟨w.heap.size, 0, none⟩) l.length l.length) l.length (l.map u8) :=
  ⟨by simp, .inr ⟨_, _, _, rfl, hb, heap_alloc_new _ _, Nat.le_refl _, by unfold maxLen; omega, by simp, by rw [List.toList_toArray, List.take_of_length_le (by simp)]⟩⟩
theorem bytes_row (w : World) (s : ByteArray) (c : Nat) (hc : s.size ≤ c) (fr : Nat × Nat) : Byts (w.alloc (.cells (bytesRow s c) 5 fr)) (.slice (some ⟨w.heap.size, 0, none⟩) s.size c) s.data.toList := by
  refine ⟨_, c, by rw [Array.length_toList]; rfl, by rw [Array.length_toList]; exact hc, fun k x hk => ⟨_, 0, rfl, ?_⟩⟩
  have hl : k < s.data.size := by have := lt_of_some hk; simpa using this
  rw [Nat.zero_add, cell_of (heap_alloc_new _ _) k, bytesRow_at s c k hl]
  simp only [Array.getElem?_toList, Array.getElem?_eq_getElem hl, Option.some.injEq] at hk
  subst hk; rfl
end Go.Proofs.YtkphhjekfimmlaaGreat
namespace Go.Proofs.YtkphhjekfimmlaaGreat
open Go.RowKit Go.BigFrame

/-- a slice that reads as a list of strings -/
def Strs (w : World) (v : Value) (l : List ByteArray) : Prop := w.ownsRow 0 9 1 v l.length (l.map Value.string)
theorem Strs.of_own {w : World} {base : Nat} {v : Value} {l : List ByteArray} (h : w.ownsRow base 9 1 v l.length (l.map Value.string)) : Strs w v l := by
  obtain ⟨h1, h2⟩ := h
  exact ⟨h1, h2.imp id fun ⟨g, cap, cur, q1, q2, q3⟩ => ⟨g, cap, cur, q1, Nat.zero_le _, q3⟩⟩
theorem Strs.shape {w : World} {v : Value} {l : List ByteArray} (h : Strs w v l) : ∃ ao cap, v = .slice ao l.length cap ∧ (ao = none → l = []) ∧ (∀ k x, l[k]? = some x → ∃ g, ao = some ⟨g, 0, none⟩ ∧ w.cell? ⟨g, k, none⟩ = some (.string x)) := by
  have h0 := h
  obtain ⟨h1, h2⟩ := h
  rcases h2 with ⟨hv, hn⟩ | ⟨g, cap, cur, hv, _⟩
  · exact ⟨none, 0, by rw [hv, hn], fun _ => List.length_eq_zero_iff.1 hn, fun k x hk => by have := lt_of_some hk; omega⟩
  · refine ⟨some ⟨g, 0, none⟩, cap, hv, (fun h => by cases h), fun k x hk => ⟨g, rfl, ?_⟩⟩
    rw [hv] at h0
    rw [World.ownsRow.cellAt h0 k (by have := lt_of_some hk; omega)]
    simp [hk]
theorem Strs.frm {F : List Nat} {w w' : World} {v : Value} {l : List ByteArray} (h : Strs w v l) (hf : Frm F w w') (hn : ∀ k, v.ownBlock = some k → k ∉ F) : Strs w' v l := hf.owns h hn
/-- a fresh slice of strings -/
def Fresh (w : World) (L : List ByteArray) (v : Value) (w' : World) : Prop := Strs w' v L ∧ Frm [] w w' ∧ ∀ k, v.ownBlock = some k → w.heap.size ≤ k
theorem clone_any (v : Value) (L : List ByteArray) (w : World) (h : Strs w v L) (hL : L.length ≤ 1000000) : Calls Tryz.prog 127 #[v] w (RetV (Fresh w L)) := by
  obtain ⟨ao, cap, rfl, hn, hc⟩ := h.shape
  cases ao with
  | none =>
    obtain rfl := hn rfl
    refine (AnyG.slices_Clone_string_nil Tryz.cloneS 0 cap w).mono ?_
    rintro e w' ⟨rfl, rfl⟩
    exact ⟨_, rfl, World.ownsRow_nil _ _ _ _, Frm.refl _ _, by simp [Value.ownBlock]⟩
  | some a =>
    cases L with
    | nil =>
      refine (AnyG.slices_Clone_string_zero Tryz.cloneS a cap w).mono ?_
      rintro e w' ⟨v', rfl, ho, -, hb⟩
      exact ⟨_, rfl, Strs.of_own ho, Frm.of_below hb _, fun k hk => ownBlock_ge ho hk⟩
    | cons x xs =>
      obtain ⟨g, hg, -⟩ := hc 0 x rfl
      cases hg
      refine (AnyG.slices_Clone_string Tryz.cloneS g 0 (x :: xs).length cap (x :: xs) w (Nat.le_refl _) (by omega) (fun j hj => ?_)).mono ?_
      · have hx : (x :: xs)[j]? = some ((x :: xs).getD j ByteArray.empty) := by rw [List.getD_eq_getElem?_getD, List.getElem?_eq_getElem hj]; rfl
        obtain ⟨g', hg', e⟩ := hc j _ hx
        cases hg'
        rw [Nat.zero_add]; exact e
      · rintro e w' ⟨v', rfl, ho, -, hb⟩
        rw [List.take_length] at ho
        exact ⟨_, rfl, Strs.of_own ho, Frm.of_below hb _, fun k hk => ownBlock_ge ho hk⟩
/-- what a channel must be -/
structure Good (cls cap : Int) (L : List ByteArray) : Prop where
  c1 : 1 ≤ cls
  c3 : cls ≤ 3
  k1 : 1 ≤ cap
  k64 : cap ≤ 64
  len : (L.length : Int) ≤ cap
  sz : ∀ m ∈ L, 1 ≤ m.size ∧ m.size ≤ 32
/-- the channel at block cb; F: its blocks -/
def Chn (w : World) (cb : Nat) (cls cap : Int) (L : List ByteArray) (F : List Nat) : Prop :=
  ∃ sv, w.heap[cb]? = some (.cells #[.int .i64 cls, .int .i64 cap, sv] 229 (0, 0)) ∧ Strs w sv L ∧ Good cls cap L ∧ F = cb :: sv.ownBlock.toList
/-- behind a call on the channel -/
def ChnTo (w : World) (cb : Nat) (cls cap : Int) (L : List ByteArray) (F : List Nat) (w' : World) : Prop :=
  ∃ F', Chn w' cb cls cap L F' ∧ Frm F w w' ∧ ∀ x ∈ F', x ∈ F ∨ w.heap.size ≤ x
section
variable {w w' w2 : World} {cb : Nat} {cls cap : Int} {L L' : List ByteArray} {F F' G : List Nat}
theorem Chn.lt (h : Chn w cb cls cap L F) : ∀ x ∈ F, x < w.heap.size := by
  obtain ⟨sv, h1, h2, h3, rfl⟩ := h
  intro x hx
  simp at hx
  rcases hx with rfl | hx
  · exact lt_of_block h1
  · exact ownBlock_lt h2 hx
theorem Chn.frm (h : Chn w cb cls cap L F) (hf : Frm G w w') (hn : ∀ x ∈ F, x ∉ G) : Chn w' cb cls cap L F := by
  obtain ⟨sv, h1, h2, h3, rfl⟩ := h
  exact ⟨sv, hf.at h1 (hn _ (by simp)), h2.frm hf (fun k hk => hn k (by simp [hk])), h3, rfl⟩
theorem Chn.good (h : Chn w cb cls cap L F) : Good cls cap L := by
  obtain ⟨sv, h1, h2, h3, rfl⟩ := h; exact h3
theorem Chn.to (h : Chn w cb cls cap L F) : ChnTo w cb cls cap L F w := ⟨F, h, Frm.refl _ _, fun _ hx => .inl hx⟩
theorem ChnTo.frm (h : ChnTo w cb cls cap L F w') (hf : Frm [] w' w2) : ChnTo w cb cls cap L F w2 := by
  obtain ⟨F', h1, h2, h3⟩ := h
  exact ⟨F', h1.frm hf (by simp), h2.then hf (by simp), h3⟩
theorem ChnTo.trans (h2 : Frm F w w') (h3 : ∀ x ∈ F', x ∈ F ∨ w.heap.size ≤ x) (k : ChnTo w' cb cls cap L F' w2) : ChnTo w cb cls cap L F w2 := by
  obtain ⟨F2, k1, k2, k3⟩ := k
  refine ⟨F2, k1, h2.then k2 h3, fun x hx => ?_⟩
  rcases k3 x hx with h | h
  · exact h3 x h
  · right; have := h2.size; omega
end
theorem none_nil (w : World) : Calls Tryz.prog 126 #[.pointer none] w (Ret (.bool true) (w = ·)) := by
  go_enter Tryz.func126, Tryz.ntmps126
  go_wp2
  go_ret
  exact ⟨rfl, rfl⟩
theorem none_zero (cb : Nat) (w : World) (cls : Int) (sv : Value) (h : w.heap[cb]? = some (.cells #[.int .i64 cls, .int .i64 0, sv] 229 (0, 0))) : Calls Tryz.prog 126 #[.pointer (some ⟨cb, 0, none⟩)] w (Ret (.bool true) (w = ·)) := by
  have c1 := cell_of h 1
  clear h
  go_enter Tryz.func126, Tryz.ntmps126
  go_wp2
  go_ret
  exact ⟨rfl, rfl⟩
theorem none_any (cb : Nat) (cls cap : Int) (L : List ByteArray) (F : List Nat) (w : World) (h : Chn w cb cls cap L F) : Calls Tryz.prog 126 #[.pointer (some ⟨cb, 0, none⟩)] w (Ret (.bool false) (w = ·)) := by
  have hg := h.good.k1
  have hz : (cap == 0) = false := by simp; omega
  obtain ⟨sv, h1, -, -, -⟩ := h
  have c1 := cell_of h1 1
  clear h1
  go_enter Tryz.func126, Tryz.ntmps126
  go_wp2
  go_ret
  exact ⟨rfl, rfl⟩
end Go.Proofs.YtkphhjekfimmlaaGreat
