/- Part of the proof. -/
import Derived.Test.YtemjlpahohmajaaGreatU36
import Derived.Test.YtemjlpahohmajaaGreatU32
import Derived.Sort.CutIn
import Derived.OrdersIn
import Derived.Lib.Builder
import Derived.Shelf.SortM.Plain
import Derived.Shelf.SortM.SortNone
import Derived.Lib.AppendStr
import Derived.Laws.OwnMore
import Derived.LaidEql
import Derived.Test.YtemjlpahohmajaaGreatU37
import Derived.Sort.BigQuietIn
set_option linter.all false
namespace Go.Proofs.YtemjlpahohmajaaGreat
open Go.RowKit Go.BigFrame
def rolBig6 (r:RolD):Bool:=(decide (4 < r.ctrs.length) || decide (6 < r.sts.length) || decide (12 < r.steps.length) || decide (60 < r.name.size)) || r.steps.any stepBig
def large6B (s:SesD):Bool:=(decide (4 < s.roles.length) || decide (60 < s.name.size)) || s.roles.any rolBig6
def gvB (s:SesD):Bool:=!large6B s && decide (ckSes s=0)
theorem rolBig6_ways (r:RolD):((4 < (r.ctrs.length:Int))∧rolBig6 r=true)∨(¬ 4 < (r.ctrs.length:Int)∧(6 < (r.sts.length:Int))∧rolBig6 r=true)∨(¬ 4 < (r.ctrs.length:Int)∧¬ 6 < (r.sts.length:Int)∧12 < (r.steps.length:Int)∧rolBig6 r=true) ∨
  (¬ 4 < (r.ctrs.length:Int)∧¬ 6 < (r.sts.length:Int)∧¬ 12 < (r.steps.length:Int)∧60 < (r.name.size:Int)∧rolBig6 r=true)∨(¬ 4 < (r.ctrs.length:Int)∧¬ 6 < (r.sts.length:Int)∧¬ 12 < (r.steps.length:Int)∧¬ 60 < (r.name.size:Int)∧rolBig6 r=r.steps.any stepBig):=by
 unfold rolBig6
 by_cases h1:4 < r.ctrs.length
 ·left;exact⟨by omega,by simp[h1]⟩
 by_cases h2:6 < r.sts.length
 ·right;left;exact⟨by omega,by omega,by simp[h2]⟩
 by_cases h3:12 < r.steps.length
 ·right;right;left;exact⟨by omega,by omega,by omega,by simp[h3]⟩
 by_cases h4:60 < r.name.size
 ·right;right;right;left;exact⟨by omega,by omega,by omega,by omega,by simp[h4]⟩
 right;right;right;right
 refine⟨by omega,by omega,by omega,by omega,?_⟩
 rw[decide_eq_false h1,decide_eq_false h2,decide_eq_false h3,decide_eq_false h4];rfl
theorem sm_of6 {s:SesD} (h:WfS s) (hl:large6B s=false):SmS s:=by
 unfold large6B at hl
 simp only[Bool.or_eq_false_iff,decide_eq_false_iff_not,List.any_eq_false] at hl
 obtain⟨⟨h1,-⟩,h3⟩:=hl
 refine⟨by omega,fun r hr=>?_⟩
 have hb:=h3 r hr
 unfold rolBig6 at hb
 simp only[Bool.or_eq_true,decide_eq_true_eq,List.any_eq_true,not_or,not_exists,not_and] at hb
 obtain⟨⟨⟨⟨b1,b2⟩,b3⟩,b4⟩,b5⟩:=hb
 refine⟨by omega,by omega,by omega,h r hr,fun x hx=>?_⟩
 have:=b5 x hx
 unfold stepBig at this
 simp only[Bool.or_eq_true,decide_eq_true_eq,not_or] at this
 omega
def GvTo (w:World) (s:SesD) (v:Value) (w':World):Prop:=Frm [] w w'∧((gvB s=false∧v=.tuple #[.pointer none,.bool false])∨(gvB s=true∧∃ yb fb,v=.tuple #[.pointer (some ⟨yb,0,none⟩),.bool true]∧SyR w' s yb fb))
end Go.Proofs.YtemjlpahohmajaaGreat
namespace Go.Proofs.YtemjlpahohmajaaGreat
open Go.RowKit Go.BigFrame Go.Maps
theorem gv_ok {s:SesD} (h:gvB s=true):SesOk s:=by
 unfold gvB at h
 rw[Bool.and_eq_true] at h
 exact ses_ok (of_decide_eq_true h.2)
section
variable {W:World} {s:SesD} {yb pb:Nat} {whole:Bool} {N:List (Nd × Nat)}
theorem xWhole_eq (h:SpO W s yb whole pb N):Calls Tryz.prog 15 #[.pointer (some ⟨pb,0,none⟩)] W (Ret (.bool whole) (W=·)):=by
 have C1:=Lib.hid (xNone_any h)
 obtain⟨qb,mb,lim,ao,cap,h1,h2,-⟩:=h.out
 have c0:=cell_of h1 0
 have c1:=cell_of h2 1
 clear h1 h2 h
 go_enter Tryz.func15,Tryz.ntmps15
 go_wp2_with (first
  | (go_at_call 51;go_must (refine C1.out.mono ?_;rintro e w' ⟨rfl,rfl⟩)))
 go_ret
 exact⟨rfl,rfl⟩
end
theorem some_map {α β:Type} {f:α→β} {L:List α} {i:Nat} {y:β} (h:(L.map f)[i]?=some y):∃ x,L[i]?=some x∧f x=y:=by
 rw[List.getElem?_map] at h
 cases hz:L[i]? with
 | none=>rw[hz] at h;cases h
 | some z=>rw[hz] at h;exact⟨z,rfl,Option.some.inj h⟩
end Go.Proofs.YtemjlpahohmajaaGreat
