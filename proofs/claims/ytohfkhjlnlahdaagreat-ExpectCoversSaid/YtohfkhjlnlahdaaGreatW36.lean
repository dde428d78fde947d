/- Part of the proof. -/
import Derived.Laws.OwnMore
import Derived.Maps.OwnSet
import Derived.Maps.OwnOps
import Derived.Laws.StructEq
import Derived.Laws.EntriesVeiled
import Derived.Laws.Concat
import Derived.Test.YtohfkhjlnlahdaaGreatW33
import Derived.Lib.Builder
import Derived.Test.YtohfkhjlnlahdaaGreatW23
import Derived.Shelf.SortM.Plain
import Derived.Shelf.SortM.SortNone
import Derived.Lib.AppendStr
set_option linter.all false
namespace Go.Proofs.YtohfkhjlnlahdaaGreat
open Go.RowKit Go.BigFrame
theorem Chn.ty {W:World} {cb:Nat} {cls cap:Int} {L:List ByteArray} {F:List Nat} (h:Chn W cb cls cap L F):∀ x∈F,Ty W x 233∨Ty W x 9:=by
 obtain⟨sv,g1,g2,g3,rfl⟩:=h
 intro x hx
 rcases List.mem_cons.1 hx with rfl | hx
 ·exact .inl ⟨_,g1⟩
 ·rw[Option.mem_toList] at hx
  exact .inr (own_ty g2 hx)
theorem int_arr {W:World} {base:Nat} {v:Value} {vs:List Int} {k:Nat} (h:W.ownsRow base 3 1 v k (vs.map iv)) (hk:vs.length=k):Arr 1 IAt W v vs:=by
 subst hk
 obtain⟨ao,cp,rfl⟩:=own_shape h
 refine⟨ao,cp,rfl,fun i x hx=>?_⟩
 obtain⟨g,c,e,hc⟩:=own_cell h (j:=i) (u:=iv x) (by rw[List.getElem?_map,hx];rfl)
 cases e
 exact⟨g,0,rfl,by unfold IAt;rw[Nat.zero_add,Nat.mul_one];exact hc⟩
end Go.Proofs.YtohfkhjlnlahdaaGreat
