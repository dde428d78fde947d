/- Part of the proof. -/
import Derived.Test.YtohfkhjlnlahdaaGreatQ03
import Derived.Test.YtohfkhjlnlahdaaGreatQ10
import Derived.Test.YtohfkhjlnlahdaaGreatQ11
set_option linter.all false
namespace Go.Proofs.YtohfkhjlnlahdaaGreat
open Go.RowKit
def CnAt (w:World) (b o:Nat) (c:CtrD × Int):Prop:=w.cell? ⟨b,o,none⟩=some (.string c.1.name)∧w.cell? ⟨b,o+1,none⟩=some (.int .i64 c.1.lim)∧w.cell? ⟨b,o+2,none⟩=some (.int .i64 c.2)
def Bnk (w:World) (bb:Nat) (l:List (CtrD × Int)):Prop:=∃ a,w.heap[bb]?=some (.cells #[.bool true,a] 248 (0,0))∧Arr 3 CnAt w a l
def AcAt (w:World) (b o:Nat) (x:Int × List (CtrD × Int)):Prop:=∃ bb,w.cell? ⟨b,o,none⟩=some (.int .i64 x.1)∧w.cell? ⟨b,o+1,none⟩=some (.pointer (some ⟨bb,0,none⟩))∧Bnk w bb x.2
def ChAt (cls cap:Int) (w:World) (b o:Nat) (L:List ByteArray):Prop:=∃ cb F,w.cell? ⟨b,o,none⟩=some (.pointer (some ⟨cb,0,none⟩))∧Chn w cb cls cap L F
abbrev RowV (cls cap:Int) (w:World) (v:Value) (Ls:List (List ByteArray)):Prop:=Arr 1 (ChAt cls cap) w v Ls
def RwAt (cls cap:Int) (w:World) (b o:Nat) (a:List (List ByteArray)):Prop:=∃ v,w.cell? ⟨b,o,none⟩=some v∧RowV cls cap w v a
section
variable {w w':World} {b o bb:Nat} {cls cap:Int}
theorem CnAt.frm {c:CtrD × Int} (a:CnAt w b o c) (h:Frm [] w w'):CnAt w' b o c:=⟨h.keep a.1,h.keep a.2.1,h.keep a.2.2⟩
theorem Bnk.frm {l:List (CtrD × Int)} (a:Bnk w bb l) (h:Frm [] w w'):Bnk w' bb l:=by
 obtain⟨G,A,E⟩:=a
 exact⟨G,h.at A (by simp),E.frm fun _ _ _ a=>a.frm h⟩
theorem AcAt.frm {x:Int × List (CtrD × Int)} (h:AcAt w b o x) (a:Frm [] w w'):AcAt w' b o x:=by
 obtain⟨bb,A,E,G⟩:=h
 exact⟨bb,a.keep A,a.keep E,G.frm a⟩
theorem ChAt.frm {L:List ByteArray} (h:ChAt cls cap w b o L) (a:Frm [] w w'):ChAt cls cap w' b o L:=by
 obtain⟨cb,F,A,E⟩:=h
 exact⟨cb,F,a.keep A,E.frm a (by simp)⟩
theorem RowV.frm {v:Value} {h:List (List ByteArray)} (a:RowV cls cap w v h) (A:Frm [] w w'):RowV cls cap w' v h:=Arr.frm (fun _ _ _ a=>a.frm A) a
theorem RwAt.frm {a:List (List ByteArray)} (A:RwAt cls cap w b o a) (h:Frm [] w w'):RwAt cls cap w' b o a:=by
 obtain⟨v,E,G⟩:=A
 exact⟨v,h.keep E,G.frm h⟩
end
def PS.ctr (s:SesD) (x:PS) (i:Nat):List (CtrD × Int):=(s.rol i).ctrs.zip (x.bank i)
def fD (s:SesD) (x:PS):List (Int × List (CtrD × Int)):=(List.range s.roles.length).map fun i=>((x.at i:Nat) ,x.ctr s i)
structure StR (w:World) (s:SesD) (yb sb:Nat) (x:PS):Prop where
 out:∃ av wv,w.heap[sb]?=some (.cells #[.pointer (some ⟨yb,0,none⟩),av,wv] 147 (0,0))∧Arr 2 AcAt w av (fD s x)∧Arr 1 (RwAt s.cls s.cap) w wv x.ways
 ok:PSok s x
theorem StR.frm {w w':World} {s:SesD} {A sb:Nat} {x:PS} (a:StR w s A sb x) (h:Frm [] w w'):StR w' s A sb x:=by
 obtain⟨E,J,G,H,I⟩:=a.out
 exact⟨⟨E,J,h.at G (by simp),H.frm fun _ _ _ a=>a.frm h,I.frm fun _ _ _ a=>a.frm h⟩,a.ok⟩
structure SyR (w:World) (s:SesD) (yb fb:Nat):Prop where
 out:∃ rv,w.heap[yb]?=some (.cells #[.string s.name,rv,.int .i64 s.cls,.int .i64 s.cap,.pointer (some ⟨fb,0,none⟩)] 116 (0,0))∧Rls w rv s.roles
 ok:SesOk s
 first:StR w s yb fb (bg s)
theorem SyR.frm {w w':World} {s:SesD} {E A:Nat} (a:SyR w s E A) (h:Frm [] w w'):SyR w' s E A:=by
 obtain⟨I,G,H⟩:=a.out
 exact⟨⟨I,h.at G (by simp),H.frm h⟩,a.ok,a.first.frm h⟩
end Go.Proofs.YtohfkhjlnlahdaaGreat
