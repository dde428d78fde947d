/- Part of the proof. -/
import Derived.Test.YtohfkhjlnlahdaaGreatW07
import Derived.Test.YtohfkhjlnlahdaaGreatW05
import Derived.Test.YtohfkhjlnlahdaaGreatW08
set_option linter.all false
namespace Go.Proofs.YtohfkhjlnlahdaaGreat
open Go.RowKit
def CnAt (w:World) (b o:Nat) (c:CtrD × Int):Prop:=w.cell? ⟨b,o,none⟩=some (.string c.1.name)∧w.cell? ⟨b,o + 1,none⟩=some (.int .i64 c.1.lim)∧w.cell? ⟨b,o + 2,none⟩=some (.int .i64 c.2)
def Bnk (w:World) (bb:Nat) (l:List (CtrD × Int)):Prop:=∃ lv,w.heap[bb]?=some (.cells #[.bool true,lv] 248 (0,0))∧Arr 3 CnAt w lv l
def AcAt (w:World) (b o:Nat) (x:Int × List (CtrD × Int)):Prop:=∃ bb,w.cell? ⟨b,o,none⟩=some (.int .i64 x.1)∧w.cell? ⟨b,o + 1,none⟩=some (.pointer (some ⟨bb,0,none⟩))∧Bnk w bb x.2
def ChAt (cls cap:Int) (w:World) (b o:Nat) (L:List ByteArray):Prop:=∃ cb F,w.cell? ⟨b,o,none⟩=some (.pointer (some ⟨cb,0,none⟩))∧Chn w cb cls cap L F
abbrev RowV (cls cap:Int) (w:World) (v:Value) (Ls:List (List ByteArray)):Prop:=Arr 1 (ChAt cls cap) w v Ls
def RwAt (cls cap:Int) (w:World) (b o:Nat) (Ls:List (List ByteArray)):Prop:=∃ v,w.cell? ⟨b,o,none⟩=some v∧RowV cls cap w v Ls
section
variable {w w':World} {b o bb:Nat} {cls cap:Int}
theorem CnAt.frm {c:CtrD × Int} (h:CnAt w b o c) (hf:Frm [] w w'):CnAt w' b o c:=⟨hf.keep h.1,hf.keep h.2.1,hf.keep h.2.2⟩
theorem Bnk.frm {l:List (CtrD × Int)} (h:Bnk w bb l) (hf:Frm [] w w'):Bnk w' bb l:=by
 obtain⟨lv,h1,h2⟩:=h
 exact⟨lv,hf.at h1 (by simp),h2.frm fun _ _ _ h=>h.frm hf⟩
theorem AcAt.frm {x:Int × List (CtrD × Int)} (h:AcAt w b o x) (hf:Frm [] w w'):AcAt w' b o x:=by
 obtain⟨bb,h1,h2,h3⟩:=h
 exact⟨bb,hf.keep h1,hf.keep h2,h3.frm hf⟩
theorem ChAt.frm {L:List ByteArray} (h:ChAt cls cap w b o L) (hf:Frm [] w w'):ChAt cls cap w' b o L:=by
 obtain⟨cb,F,h1,h2⟩:=h
 exact⟨cb,F,hf.keep h1,h2.frm hf (by simp)⟩
theorem RowV.frm {v:Value} {Ls:List (List ByteArray)} (h:RowV cls cap w v Ls) (hf:Frm [] w w'):RowV cls cap w' v Ls:=Arr.frm (fun _ _ _ h=>h.frm hf) h
theorem RwAt.frm {Ls:List (List ByteArray)} (h:RwAt cls cap w b o Ls) (hf:Frm [] w w'):RwAt cls cap w' b o Ls:=by
 obtain⟨v,h1,h2⟩:=h
 exact⟨v,hf.keep h1,h2.frm hf⟩
end
def PS.ctr (s:SesD) (x:PS) (i:Nat):List (CtrD × Int):=(s.rol i).ctrs.zip (x.bank i)
def actsP (s:SesD) (x:PS):List (Int × List (CtrD × Int)):=(List.range s.roles.length).map fun i=>((x.at i:Nat) ,x.ctr s i)
structure StR (w:World) (s:SesD) (yb sb:Nat) (x:PS):Prop where
 out:∃ av wv,w.heap[sb]?=some (.cells #[.pointer (some ⟨yb,0,none⟩),av,wv] 147 (0,0))∧Arr 2 AcAt w av (actsP s x)∧Arr 1 (RwAt s.cls s.cap) w wv x.ways
 ok:PSok s x
theorem StR.frm {w w':World} {s:SesD} {yb sb:Nat} {x:PS} (h:StR w s yb sb x) (hf:Frm [] w w'):StR w' s yb sb x:=by
 obtain⟨av,wv,h1,h2,h3⟩:=h.out
 exact⟨⟨av,wv,hf.at h1 (by simp),h2.frm fun _ _ _ h=>h.frm hf,h3.frm fun _ _ _ h=>h.frm hf⟩,h.ok⟩
structure SyR (w:World) (s:SesD) (yb fb:Nat):Prop where
 out:∃ rv,w.heap[yb]?=some (.cells #[.string s.name,rv,.int .i64 s.cls,.int .i64 s.cap,.pointer (some ⟨fb,0,none⟩)] 116 (0,0))∧Rls w rv s.roles
 ok:SesOk s
 first:StR w s yb fb (firstP s)
theorem SyR.frm {w w':World} {s:SesD} {yb fb:Nat} (h:SyR w s yb fb) (hf:Frm [] w w'):SyR w' s yb fb:=by
 obtain⟨rv,h1,h2⟩:=h.out
 exact⟨⟨rv,hf.at h1 (by simp),h2.frm hf⟩,h.ok,h.first.frm hf⟩
end Go.Proofs.YtohfkhjlnlahdaaGreat
