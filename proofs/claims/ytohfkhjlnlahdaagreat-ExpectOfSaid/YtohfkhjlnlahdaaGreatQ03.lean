/- Part of the proof. -/
import Derived.Test.YtohfkhjlnlahdaaGreatQ01
import Derived.Deep.MidRow
import Derived.Deep.WholeRow
import Derived.Test.YtohfkhjlnlahdaaGreatQ02
import Derived.Lib.SlicesS
set_option linter.all false
namespace Go.Proofs.YtohfkhjlnlahdaaGreat
open Go.RowKit
def Arr {α:Type} (k:Nat) (At:World→Nat→Nat→α→Prop) (w:World) (v:Value) (xs:List α):Prop:=
 ∃ ao cap,v=.slice ao xs.length cap∧∀ i x,xs[i]?=some x→∃ b o,ao=some ⟨b,o,none⟩∧At w b (o+i*k) x
section
variable {α:Type} {k:Nat} {At:World→Nat→Nat→α→Prop} {w w':World} {v:Value} {xs:List α}
theorem Arr.frm (G:∀ b o x,At w b o x→At w' b o x) (a:Arr k At w v xs):Arr k At w' v xs:=by
 obtain⟨ao,cap,h,A⟩:=a
 refine⟨ao,cap,h,fun i x H=>?_⟩
 obtain⟨b,o,e,E⟩:=A i x H
 exact⟨b,o,e,G _ _ _ E⟩
theorem Arr.nil (w:World) (cap:Nat) (ao:Option Addr):Arr k At w (.slice ao 0 cap) []:=⟨ao,cap,rfl,fun i x a=>by simp at a⟩
end
def StAt (w:World) (b o:Nat) (s:StD):Prop:=w.cell? ⟨b,o,none⟩=some (.string s.name)∧w.cell? ⟨b,o+1,none⟩=some (.bool s.fin)∧w.cell? ⟨b,o+2,none⟩=some (.int .i64 s.wait)
def CtAt (w:World) (b o:Nat) (c:CtrD):Prop:=w.cell? ⟨b,o,none⟩=some (.string c.name)∧w.cell? ⟨b,o+1,none⟩=some (.int .i64 c.lim)
structure SpAt (w:World) (b o:Nat) (t:StpD):Prop where
 c0:w.cell? ⟨b,o,none⟩=some (.string t.frm)
 c1:w.cell? ⟨b,o+1,none⟩=some (.string t.to)
 c2:w.cell? ⟨b,o+2,none⟩=some (.int .i64 t.kind)
 c3:w.cell? ⟨b,o+3,none⟩=some (.string t.msg)
 c4:w.cell? ⟨b,o+4,none⟩=some (.string t.peer)
 c5:w.cell? ⟨b,o+5,none⟩=some (.string t.ctr)
 c6:w.cell? ⟨b,o+6,none⟩=some (.int .i64 t.low)
 c7:w.cell? ⟨b,o+7,none⟩=some (.int .i64 t.high)
 c8:w.cell? ⟨b,o+8,none⟩=some (.int .i64 t.add)
structure Rl3 (w:World) (sv cv tv:Value) (r:RolD):Prop where
 sts:Arr 3 StAt w sv r.sts
 ctrs:Arr 2 CtAt w cv r.ctrs
 steps:Arr 9 SpAt w tv r.steps
 cap:∀ ao n c,tv=.slice ao n c→n≤c
def RlAt (w:World) (b o:Nat) (r:RolD):Prop:=
 ∃ sv cv tv,w.cell? ⟨b,o,none⟩=some (.string r.name)∧w.cell? ⟨b,o+1,none⟩=some sv∧w.cell? ⟨b,o+2,none⟩=some cv∧w.cell? ⟨b,o+3,none⟩=some tv∧Rl3 w sv cv tv r
def RlV (w:World) (v:Value) (r:RolD):Prop:=∃ sv cv tv,v=.agg #[.string r.name,sv,cv,tv]∧Rl3 w sv cv tv r
abbrev Rls (w:World) (v:Value) (l:List RolD):Prop:=Arr 4 RlAt w v l
def SesV (w:World) (v:Value) (s:SesD):Prop:=∃ a,v=.agg #[.string s.name,a,.int .i64 s.cls,.int .i64 s.cap]∧Rls w a s.roles
section
variable {w w':World} {b o:Nat} {v sv cv tv:Value}
theorem StAt.frm {s:StD} (a:StAt w b o s) (h:Frm [] w w'):StAt w' b o s:=⟨h.keep a.1,h.keep a.2.1,h.keep a.2.2⟩
theorem CtAt.frm {s:CtrD} (a:CtAt w b o s) (h:Frm [] w w'):CtAt w' b o s:=⟨h.keep a.1,h.keep a.2⟩
theorem SpAt.frm {s:StpD} (a:SpAt w b o s) (h:Frm [] w w'):SpAt w' b o s:=
 ⟨h.keep a.c0,h.keep a.c1,h.keep a.c2,h.keep a.c3,h.keep a.c4,h.keep a.c5,h.keep a.c6,h.keep a.c7,h.keep a.c8⟩
theorem Rl3.frm {r:RolD} (a:Rl3 w sv cv tv r) (h:Frm [] w w'):Rl3 w' sv cv tv r:=
 ⟨a.sts.frm fun _ _ _ a=>a.frm h,a.ctrs.frm fun _ _ _ a=>a.frm h,a.steps.frm fun _ _ _ a=>a.frm h,a.cap⟩
theorem RlAt.frm {r:RolD} (h:RlAt w b o r) (a:Frm [] w w'):RlAt w' b o r:=by
 obtain⟨sv,cv,tv,A,E,G,H,I⟩:=h
 exact⟨sv,cv,tv,a.keep A,a.keep E,a.keep G,a.keep H,I.frm a⟩
theorem Rls.frm {l:List RolD} (a:Rls w v l) (h:Frm [] w w'):Rls w' v l:=Arr.frm (fun _ _ _ a=>a.frm h) a
theorem SesV.frm {s:SesD} (a:SesV w v s) (E:Frm [] w w'):SesV w' v s:=by
 obtain⟨G,h,A⟩:=a
 exact⟨G,h,A.frm E⟩
theorem nA {a b:ByteArray} (h:a≠b):(a.toList == b.toList)=false:=by
 cases hb:(a.toList == b.toList) with
 | false=>rfl
 | true =>
   exact absurd ((Lib.bytes_beq_iff a b).1 hb) h
theorem aK (a b:ByteArray):(a.toList == b.toList)=decide (a=b):=by
 by_cases h:a=b
 ·subst h;simp
 ·rw[nA h,decide_eq_false h]
end
end Go.Proofs.YtohfkhjlnlahdaaGreat
