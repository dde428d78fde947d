/- Part of the proof. -/
import Derived.Laws.OwnMore
import Derived.Maps.OwnSet
import Derived.Maps.OwnOps
import Derived.Laws.StructEq
import Derived.Laws.EntriesVeiled
import Derived.Laws.Concat
import Derived.Test.YtohfkhjlnlahdaaGreatQ30
import Derived.Lib.Builder
import Derived.Test.YtohfkhjlnlahdaaGreatQ24
import Derived.Shelf.SortM.Plain
import Derived.Shelf.SortM.SortNone
import Derived.Lib.AppendStr
set_option linter.all false
namespace Go.Proofs.YtohfkhjlnlahdaaGreat
open Go.RowKit Go.BigFrame
theorem Chn.ty {h:World} {cb:Nat} {cls cap:Int} {L:List ByteArray} {F:List Nat} (G:Chn h cb cls cap L F):∀ x∈F,Ty h x 233∨Ty h x 9:=by
 obtain⟨I,A,E,H,rfl⟩:=G
 intro x a
 rcases List.mem_cons.1 a with rfl | a
 ·exact .inl ⟨_,A⟩
 ·rw[Option.mem_toList] at a
  exact .inr (je E a)
theorem iS {h:World} {base:Nat} {v:Value} {a:List Int} {k:Nat} (A:h.ownsRow base 3 1 v k (a.map iv)) (H:a.length=k):Arr 1 IAt h v a:=by
 subst H
 obtain⟨ao,E,rfl⟩:=an A
 refine⟨ao,E,rfl,fun i x I=>?_⟩
 obtain⟨g,c,e,G⟩:=fP A (j:=i) (u:=iv x) (by rw[List.getElem?_map,I];rfl)
 cases e
 exact⟨g,0,rfl,by unfold IAt;rw[Nat.zero_add,Nat.mul_one];exact G⟩
end Go.Proofs.YtohfkhjlnlahdaaGreat
