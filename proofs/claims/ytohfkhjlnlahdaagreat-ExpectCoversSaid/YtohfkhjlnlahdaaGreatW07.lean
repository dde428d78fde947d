/- Part of the proof. -/
import Derived.Test.YtohfkhjlnlahdaaGreatW01
import Derived.Deep.MidRow
import Derived.Deep.WholeRow
import Derived.Test.YtohfkhjlnlahdaaGreatW06
import Derived.Lib.SlicesS
set_option linter.all false
namespace Go.Proofs.YtohfkhjlnlahdaaGreat
open Go.RowKit
def Arr {α:Type} (k:Nat) (At:World→Nat→Nat→α→Prop) (w:World) (v:Value) (xs:List α):Prop:=
 ∃ ao cap,v=.slice ao xs.length cap∧∀ i x,xs[i]?=some x→∃ b o,ao=some ⟨b,o,none⟩∧At w b (o + i * k) x
section
variable {α:Type} {k:Nat} {At:World→Nat→Nat→α→Prop} {w w':World} {v:Value} {xs:List α}
theorem Arr.frm (hA:∀ b o x,At w b o x→At w' b o x) (h:Arr k At w v xs):Arr k At w' v xs:=by
 obtain⟨ao,cap,h1,h2⟩:=h
 refine⟨ao,cap,h1,fun i x hx=>?_⟩
 obtain⟨b,o,e,h3⟩:=h2 i x hx
 exact⟨b,o,e,hA _ _ _ h3⟩
theorem Arr.nil (w:World) (cap:Nat) (ao:Option Addr):Arr k At w (.slice ao 0 cap) []:=⟨ao,cap,rfl,fun i x hx=>by simp at hx⟩
end
def StAt (w:World) (b o:Nat) (s:StD):Prop:=w.cell? ⟨b,o,none⟩=some (.string s.name)∧w.cell? ⟨b,o + 1,none⟩=some (.bool s.fin)∧w.cell? ⟨b,o + 2,none⟩=some (.int .i64 s.wait)
def CtAt (w:World) (b o:Nat) (c:CtrD):Prop:=w.cell? ⟨b,o,none⟩=some (.string c.name)∧w.cell? ⟨b,o + 1,none⟩=some (.int .i64 c.lim)
structure SpAt (w:World) (b o:Nat) (t:StpD):Prop where
 c0:w.cell? ⟨b,o,none⟩=some (.string t.frm)
 c1:w.cell? ⟨b,o + 1,none⟩=some (.string t.to)
 c2:w.cell? ⟨b,o + 2,none⟩=some (.int .i64 t.kind)
 c3:w.cell? ⟨b,o + 3,none⟩=some (.string t.msg)
 c4:w.cell? ⟨b,o + 4,none⟩=some (.string t.peer)
 c5:w.cell? ⟨b,o + 5,none⟩=some (.string t.ctr)
 c6:w.cell? ⟨b,o + 6,none⟩=some (.int .i64 t.low)
 c7:w.cell? ⟨b,o + 7,none⟩=some (.int .i64 t.high)
 c8:w.cell? ⟨b,o + 8,none⟩=some (.int .i64 t.add)
structure Rl3 (w:World) (sv cv tv:Value) (r:RolD):Prop where
 sts:Arr 3 StAt w sv r.sts
 ctrs:Arr 2 CtAt w cv r.ctrs
 steps:Arr 9 SpAt w tv r.steps
 cap:∀ ao n c,tv=.slice ao n c→n≤c
def RlAt (w:World) (b o:Nat) (r:RolD):Prop:=
 ∃ sv cv tv,w.cell? ⟨b,o,none⟩=some (.string r.name)∧w.cell? ⟨b,o + 1,none⟩=some sv∧w.cell? ⟨b,o + 2,none⟩=some cv∧w.cell? ⟨b,o + 3,none⟩=some tv∧Rl3 w sv cv tv r
def RlV (w:World) (v:Value) (r:RolD):Prop:=∃ sv cv tv,v=.agg #[.string r.name,sv,cv,tv]∧Rl3 w sv cv tv r
abbrev Rls (w:World) (v:Value) (l:List RolD):Prop:=Arr 4 RlAt w v l
def SesV (w:World) (v:Value) (s:SesD):Prop:=∃ rv,v=.agg #[.string s.name,rv,.int .i64 s.cls,.int .i64 s.cap]∧Rls w rv s.roles
section
variable {w w':World} {b o:Nat} {v sv cv tv:Value}
theorem StAt.frm {s:StD} (h:StAt w b o s) (hf:Frm [] w w'):StAt w' b o s:=⟨hf.keep h.1,hf.keep h.2.1,hf.keep h.2.2⟩
theorem CtAt.frm {s:CtrD} (h:CtAt w b o s) (hf:Frm [] w w'):CtAt w' b o s:=⟨hf.keep h.1,hf.keep h.2⟩
theorem SpAt.frm {s:StpD} (h:SpAt w b o s) (hf:Frm [] w w'):SpAt w' b o s:=
 ⟨hf.keep h.c0,hf.keep h.c1,hf.keep h.c2,hf.keep h.c3,hf.keep h.c4,hf.keep h.c5,hf.keep h.c6,hf.keep h.c7,hf.keep h.c8⟩
theorem Rl3.frm {r:RolD} (h:Rl3 w sv cv tv r) (hf:Frm [] w w'):Rl3 w' sv cv tv r:=
 ⟨h.sts.frm fun _ _ _ h=>h.frm hf,h.ctrs.frm fun _ _ _ h=>h.frm hf,h.steps.frm fun _ _ _ h=>h.frm hf,h.cap⟩
theorem RlAt.frm {r:RolD} (h:RlAt w b o r) (hf:Frm [] w w'):RlAt w' b o r:=by
 obtain⟨sv,cv,tv,h1,h2,h3,h4,h5⟩:=h
 exact⟨sv,cv,tv,hf.keep h1,hf.keep h2,hf.keep h3,hf.keep h4,h5.frm hf⟩
theorem Rls.frm {l:List RolD} (h:Rls w v l) (hf:Frm [] w w'):Rls w' v l:=Arr.frm (fun _ _ _ h=>h.frm hf) h
theorem SesV.frm {s:SesD} (h:SesV w v s) (hf:Frm [] w w'):SesV w' v s:=by
 obtain⟨rv,h1,h2⟩:=h
 exact⟨rv,h1,h2.frm hf⟩
theorem str_ne {a b:ByteArray} (h:a≠b):(a.toList == b.toList)=false:=by
 cases hb:(a.toList == b.toList) with
 | false=>rfl
 | true =>
   exact absurd ((Lib.bytes_beq_iff a b).1 hb) h
theorem str_beq (a b:ByteArray):(a.toList == b.toList)=decide (a=b):=by
 by_cases h:a=b
 ·subst h;simp
 ·rw[str_ne h,decide_eq_false h]
end
end Go.Proofs.YtohfkhjlnlahdaaGreat
