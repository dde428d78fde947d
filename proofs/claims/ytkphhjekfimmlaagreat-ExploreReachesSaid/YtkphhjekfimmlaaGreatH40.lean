/- Part of the proof. -/
import Derived.Laws.OwnMore
import Derived.Maps.OwnSet
import Derived.Maps.OwnOps
import Derived.Laws.StructEq
import Derived.Laws.EntriesVeiled
import Derived.Laws.Concat
import Derived.Test.YtkphhjekfimmlaaGreatH34
import Derived.Lib.Builder
import Derived.Shelf.SortM.Plain
import Derived.Shelf.SortM.SortNone
import Derived.Lib.AppendStr
set_option linter.all false
namespace Go.Proofs.YtkphhjekfimmlaaGreat
open Go.RowKit Go.BigFrame
def acP (s:SesD) (ps:List Nat) (vs:List (List Int)) (i:Nat):List (Int × List (CtrD × Int)):=(List.range i).map fun j=>(((ps.getD j 0:Nat):Int),(s.rol j).ctrs.zip (vs.getD j []))
structure D1 (w:World) (s:SesD) (yb i:Nat) (ps:List Nat) (vs:List (List Int)) (W:World):Prop where
 out:∃ cs,GO 119 145 2 w (w.heap.size + 1) 1 #[pv yb,undef,.slice none 0 0] i cs W∧ActC (w.heap.size≤·) W cs (acP s ps vs i)
 p:ps.length=i
 v:vs.length=i
structure D3 (w:World) (s:SesD) (yb:Nat) (av:Value) (As:List (Int × List (CtrD × Int))) (i:Nat) (Ws:List (List (List ByteArray))) (W:World):Prop where
 out:∃ rs,GO 119 137 1 w (w.heap.size + 1) 2 #[pv yb,av,undef] i rs W∧WayC (w.heap.size≤·) W s.cls s.cap rs Ws
 n:Ws.length=i
 acts:ActsO (w.heap.size≤·) W av As
structure D5 (Wi V:World) (ub cb:Nat) (s:SesD) (v:Value) (k:Nat) (cells:List Value) (L:List ByteArray) (W:World):Prop where
 row:W.ownsRow Wi.heap.size 138 1 v k cells
 ch:ChO (V.heap.size≤·) W cb s.cls s.cap L
 kp:Kp (fun _=>True) [148,138] V W
 fr:Frm [ub] Wi W
 sz:V.heap.size≤W.heap.size
end Go.Proofs.YtkphhjekfimmlaaGreat
