/- Part of the proof. -/
import Derived.Test.YtkphhjekfimmlaaGreatH02
import Derived.Lib.SlicesS
import Derived.Test.YtkphhjekfimmlaaGreatH21
import Derived.Laws.StructEq
import Derived.Shelf.SlGeneric
import Derived.Shelf.SlLaysN
import Derived.Shelf.SlLaysM
import Derived.Ground.SlgnProg
import Derived.Ground.SlgmProg
import Derived.Shelf.SlicesG.Clone
import Derived.Shelf.SlicesG.Turned
import Derived.Shelf.SlicesG.Delete
import Derived.Sort.OwnSorted
import Derived.OrdersHeld
import Derived.Lib.SliceRun
import Derived.RangeFuncNested
import Derived.RangeFuncLeaves
import Derived.RangeFuncCalls
import Derived.RangeFuncBound
import Derived.OwnWalkIn
import Derived.TacticsInMore
import Derived.LoopNIn
import Derived.LoopIn
import Derived.Laws.EntriesVeiled
import Derived.Laws.Concat
import Derived.ProofKit
import Derived.SizedLaws
import Derived.Deep.Slices
import Derived.Test.YtkphhjekfimmlaaGreatRows
import Derived.Lib.SmallJoins
import Derived.Test.YtkphhjekfimmlaaGreatH10
import Derived.Test.YtkphhjekfimmlaaGreatH03
import Derived.Sort.BigQuietIn
import Derived.WalkKit
import Derived.WalkSpells
import Derived.Deep.QuietTactic
import Derived.Deep.MidRow
import Derived.Deep.WholeRow
import Derived.Test.YtkphhjekfimmlaaGreatProg
import Derived.BigQuiet
import Derived.StillTail
import Derived.Laws.IdiomStrings
import Derived.Shelf.Bytes.SlSmallAll
import Derived.Deep.Upon
import Derived.ArgAppend
import Derived.Deep.AppendLies
import Derived.Maps.AppendAt
import Derived.Lib.Hide
import Derived.Deep.DeepMust
import Derived.WalkLawsBesides
import Derived.BigRegion
import Derived.Deep.RegionHeld3
import Derived.Deep.RegionLaw
import Derived.Deep.DeepCutAuto
import Derived.LoopTactic
import Derived.Lib.Builder
import Derived.Shelf.SortM.Plain
import Derived.Shelf.SortM.SortNone
import Derived.Sort.CutIn
import Derived.OrdersIn
import Derived.Laws.OwnMore
import Derived.Maps.OwnSet
import Derived.Maps.OwnOps
import Derived.Lib.AppendStr
import Derived.LaidEql
import Derived.Test.YtkphhjekfimmlaaGreatH01
set_option linter.all false
namespace Go.Proofs.YtkphhjekfimmlaaGreat
open Go
def tkV (b:List UInt8) (n:Nat):List UInt8:=if b.length < n then List.replicate n 0 else b.take n
section
variable {s:SesD} {key:List UInt8} {i:Nat} {ps:List Nat} {vs:List (List Int)} {b b':List UInt8} {bad bad':Bool} {vals:List Int}
abbrev hd1 (b:List UInt8):UInt8:=(tkV b 1).getD 0 0
end
end Go.Proofs.YtkphhjekfimmlaaGreat
namespace Go.Proofs.YtkphhjekfimmlaaGreat
open Go.RowKit Go.BigFrame
def stepBig (t:StpD):Bool:=decide (60 < t.msg.size) || decide (60 < t.peer.size)
def WfS (s:SesD):Prop:=∀ r∈s.roles,∀ x∈r.steps,wf64 x.kind
end Go.Proofs.YtkphhjekfimmlaaGreat
namespace Go.Proofs.YtkphhjekfimmlaaGreat
open Go.ChangeShapes Go.WideShapes Go.ChangeAt Go.RowKit Go.Deep
section
variable {H:Type} {enc:TypeId × Value→H} {W:World}
theorem open_arr {α:Type} [Inhabited α] {t e:TypeId} {k:Nat} {At:World→Nat→Nat→α→Prop} {Q:α→Prop} (ht:Tryz.prog.underlying t=some (.slice e)) (hc:Tryz.prog.cellsOf e=k) (hk:0 < k)
  (hel:∀ b o cs n y,(∀ i,i < k→W.cell? ⟨b,o + i,none⟩=cs[i]?)→cs.length=k→DataW.trod enc Tryz.prog W 0 (fun _=>true) true n e cs=some y→∃ x,At W b o x∧Q x)
  {fuel:Nat} {c:Value} {x:DataW H × List MemPlace} (hf:DataW.trod enc Tryz.prog W 0 (fun _=>true) true fuel t [c]=some x) :
  ∃ xs,Arr k At W c xs∧(∀ x∈xs,Q x)∧∀ ao n c',c=.slice ao n c'→n≤c':=by
 rcases open_slice ht hf with ⟨hcs,_⟩ | ⟨a,len,cap,m,n,D,Pl,hcs,_,hl,_,hm,_,hx⟩
 ·simp only[List.cons.injEq,and_true] at hcs
  subst hcs
  exact⟨[],Arr.nil _ _ _,by simp,fun ao n c' h=>by cases h;omega⟩
 ·simp only[List.cons.injEq,and_true] at hcs
  subst hcs
  simp only[if_true] at hm
  subst hm
  obtain⟨ab,ao,spot⟩:=a
  have hspot:0 < len→spot=none:=fun h=>by
   obtain⟨cs',h1,h2⟩:=hx 0 (by omega)
   obtain⟨_,hlen,hcell⟩:=World.cells?_some h1
   rw[hc] at hlen hcell
   have h0:=hcell 0 hk
   rw[List.getElem?_eq_getElem (by omega)] at h0
   simpa[Addr.add] using World.cell?_spot h0
  obtain⟨f,hf⟩:=choose_lt (α:=α) (p:=fun i x=>spot=none∧At W ab (ao + i * k) x∧Q x) (n:=len) (fun i hi=>by
   obtain⟨cs',h1,h2⟩:=hx i (by omega)
   obtain⟨_,hlen,hcell⟩:=World.cells?_some h1
   rw[hc] at hlen hcell
   have hs:=hspot (by omega)
   subst hs
   obtain⟨x,h3,h4⟩:=hel ab (ao + i * k) cs' n _ (fun j hj=>by
    have:=hcell j hj
    rw[add_plain,add_plain] at this
    exact this) hlen h2
   exact⟨x,rfl,h3,h4⟩)
  refine⟨(List.range len).map f,⟨some ⟨ab,ao,spot⟩,m,by simp,fun i x hi=>?_⟩,fun x hx'=>?_,fun ao n c' h=>by cases h;omega⟩
  ·have hil:i < len:=by have:=lt_of_some hi;simpa using this
   rw[List.getElem?_map,List.getElem?_range hil,Option.map_some,Option.some.injEq] at hi
   subst hi
   obtain⟨h1,h2,_⟩:=hf i hil
   subst h1
   exact⟨ab,ao,rfl,h2⟩
  ·rw[List.mem_map] at hx'
   obtain⟨i,hi,rfl⟩:=hx'
   rw[List.mem_range] at hi
   exact(hf i hi).2.2
instance:Inhabited StD:=⟨dS⟩
instance:Inhabited CtrD:=⟨dC⟩
instance:Inhabited StpD:=⟨dT⟩
instance:Inhabited RolD:=⟨dR⟩
theorem Tryz.cellsStr:Tryz.prog.cellsOf 9=1:=by kernel_rfl
theorem Tryz.cellsBool:Tryz.prog.cellsOf 4=1:=by kernel_rfl
theorem Tryz.cellsInt:Tryz.prog.cellsOf 3=1:=by kernel_rfl
theorem Tryz.cellsKnd:Tryz.prog.cellsOf 58=1:=by kernel_rfl
theorem Tryz.cellsCls:Tryz.prog.cellsOf 23=1:=by kernel_rfl
theorem Tryz.cellsSts:Tryz.prog.cellsOf 50=1:=by kernel_rfl
theorem Tryz.cellsCts:Tryz.prog.cellsOf 51=1:=by kernel_rfl
theorem Tryz.cellsStps:Tryz.prog.cellsOf 49=1:=by kernel_rfl
theorem Tryz.cellsRls:Tryz.prog.cellsOf 22=1:=by kernel_rfl
theorem Tryz.cellsSt:Tryz.prog.cellsOf 62=3:=by kernel_rfl
theorem Tryz.cellsCt:Tryz.prog.cellsOf 182=2:=by kernel_rfl
theorem Tryz.cellsStp:Tryz.prog.cellsOf 60=9:=by kernel_rfl
theorem Tryz.cellsRl:Tryz.prog.cellsOf 53=4:=by kernel_rfl
theorem Tryz.cellsSes:Tryz.prog.cellsOf 25=4:=by kernel_rfl
theorem list2 {α:Type} {cs:List α} (h:cs.length=2):∃ a b,cs=[a,b]:=by
 match cs,h with
 | [a,b],_=>exact⟨a,b,rfl⟩
theorem list3 {α:Type} {cs:List α} (h:cs.length=3):∃ a b c,cs=[a,b,c]:=by
 match cs,h with
 | [a,b,c],_=>exact⟨a,b,c,rfl⟩
theorem list4 {α:Type} {cs:List α} (h:cs.length=4):∃ a b c d,cs=[a,b,c,d]:=by
 match cs,h with
 | [a,b,c,d],_=>exact⟨a,b,c,d,rfl⟩
theorem list9 {α:Type} {cs:List α} (h:cs.length=9):∃ a b c d e f g i j,cs=[a,b,c,d,e,f,g,i,j]:=by
 match cs,h with
 | [a,b,c,d,e,f,g,i,j],_=>exact⟨a,b,c,d,e,f,g,i,j,rfl⟩
set_option maxRecDepth 10000 in
theorem open_st {b o n:Nat} {cs:List Value} {y:DataW H × List MemPlace} (hc:∀ i,i < 3→W.cell? ⟨b,o + i,none⟩=cs[i]?) (hl:cs.length=3) (hf:DataW.trod enc Tryz.prog W 0 (fun _=>true) true n 62 cs=some y):∃ x:StD,StAt W b o x∧True:=by
 obtain⟨c0,c1,c2,rfl⟩:=list3 hl
 obtain⟨y0,y1,y2,n',_,_,t0,t1,t2⟩:=trod_struct3 Tryz.underlying62 hf
 simp only[Tryz.cellsStr,Tryz.cellsBool,Tryz.cellsInt,List.drop,List.take] at t0 t1 t2
 obtain⟨s,e0,_⟩:=DataW.trod_string Tryz.underlying9 t0
 obtain⟨bb,e1,_⟩:=DataW.trod_bool Tryz.underlying4 t1
 obtain⟨i,e2,_⟩:=DataW.trod_int Tryz.underlying3 t2
 simp only[List.cons.injEq,and_true] at e0 e1 e2
 subst e0;subst e1;subst e2
 exact⟨⟨s,bb,i⟩,⟨hc 0 (by omega),hc 1 (by omega),hc 2 (by omega)⟩,trivial⟩
set_option maxRecDepth 10000 in
theorem open_ct {b o n:Nat} {cs:List Value} {y:DataW H × List MemPlace} (hc:∀ i,i < 2→W.cell? ⟨b,o + i,none⟩=cs[i]?) (hl:cs.length=2) (hf:DataW.trod enc Tryz.prog W 0 (fun _=>true) true n 182 cs=some y):∃ x:CtrD,CtAt W b o x∧True:=by
 obtain⟨c0,c1,rfl⟩:=list2 hl
 obtain⟨y0,y1,n',_,_,t0,t1⟩:=trod_struct2 Tryz.underlying182 hf
 simp only[Tryz.cellsStr,Tryz.cellsInt,List.drop,List.take] at t0 t1
 obtain⟨s,e0,_⟩:=DataW.trod_string Tryz.underlying9 t0
 obtain⟨i,e1,_⟩:=DataW.trod_int Tryz.underlying3 t1
 simp only[List.cons.injEq,and_true] at e0 e1
 subst e0;subst e1
 exact⟨⟨s,i⟩,⟨hc 0 (by omega),hc 1 (by omega)⟩,trivial⟩
set_option maxRecDepth 10000 in
theorem open_stp {b o n:Nat} {cs:List Value} {y:DataW H × List MemPlace} (hc:∀ i,i < 9→W.cell? ⟨b,o + i,none⟩=cs[i]?) (hl:cs.length=9) (hf:DataW.trod enc Tryz.prog W 0 (fun _=>true) true n 60 cs=some y):∃ x:StpD,SpAt W b o x∧wf64 x.kind:=by
 obtain⟨c0,c1,c2,c3,c4,c5,c6,c7,c8,rfl⟩:=list9 hl
 obtain⟨xs,n',_,_,_,hlen,hfs⟩:=DataW.trod_struct Tryz.underlying60 hf
 match xs,hlen with
 | [y0,y1,y2,y3,y4,y5,y6,y7,y8],_ =>
   have t0:=hfs 0 _ rfl
   have t1:=hfs 1 _ rfl
   have t2:=hfs 2 _ rfl
   have t3:=hfs 3 _ rfl
   have t4:=hfs 4 _ rfl
   have t5:=hfs 5 _ rfl
   have t6:=hfs 6 _ rfl
   have t7:=hfs 7 _ rfl
   have t8:=hfs 8 _ rfl
   simp only[List.getElem_toArray,List.getElem_cons_zero,List.getElem_cons_succ,Tryz.cellsStr,Tryz.cellsKnd,Tryz.cellsInt,List.drop,List.take,List.getElem?_cons_zero,List.getElem?_cons_succ] at t0 t1 t2 t3 t4 t5 t6 t7 t8
   obtain⟨s0,e0,_⟩:=DataW.trod_string Tryz.underlying9 t0
   obtain⟨s1,e1,_⟩:=DataW.trod_string Tryz.underlying9 t1
   obtain⟨i2,e2,_,hw⟩:=DataW.trod_int Tryz.underlying58 t2
   obtain⟨s3,e3,_⟩:=DataW.trod_string Tryz.underlying9 t3
   obtain⟨s4,e4,_⟩:=DataW.trod_string Tryz.underlying9 t4
   obtain⟨s5,e5,_⟩:=DataW.trod_string Tryz.underlying9 t5
   obtain⟨i6,e6,_⟩:=DataW.trod_int Tryz.underlying3 t6
   obtain⟨i7,e7,_⟩:=DataW.trod_int Tryz.underlying3 t7
   obtain⟨i8,e8,_⟩:=DataW.trod_int Tryz.underlying3 t8
   simp only[List.cons.injEq,and_true] at e0 e1 e2 e3 e4 e5 e6 e7 e8
   subst e0;subst e1;subst e2;subst e3;subst e4;subst e5;subst e6;subst e7;subst e8
   refine⟨⟨s0,s1,i2,s3,s4,s5,i6,i7,i8⟩,⟨hc 0 (by omega),hc 1 (by omega),hc 2 (by omega),hc 3 (by omega),hc 4 (by omega),hc 5 (by omega),hc 6 (by omega),hc 7 (by omega),hc 8 (by omega)⟩,?_⟩
   simp only[Lit.wf,show IntKind.i64.min=-9223372036854775808 from rfl,show IntKind.i64.max=9223372036854775807 from rfl,Bool.and_eq_true,decide_eq_true_eq] at hw
   exact hw
set_option maxRecDepth 10000 in
theorem open_rol {b o n:Nat} {cs:List Value} {y:DataW H × List MemPlace} (hc:∀ i,i < 4→W.cell? ⟨b,o + i,none⟩=cs[i]?) (hl:cs.length=4) (hf:DataW.trod enc Tryz.prog W 0 (fun _=>true) true n 53 cs=some y):∃ x:RolD,RlAt W b o x∧∀ t∈x.steps,wf64 t.kind:=by
 obtain⟨c0,c1,c2,c3,rfl⟩:=list4 hl
 obtain⟨y0,y1,y2,y3,n',_,_,t0,t1,t2,t3⟩:=Go.Joins.trod_struct4 Tryz.underlying53 hf
 simp only[Tryz.cellsStr,Tryz.cellsSts,Tryz.cellsCts,Tryz.cellsStps,List.drop,List.take] at t0 t1 t2 t3
 obtain⟨s,e0,_⟩:=DataW.trod_string Tryz.underlying9 t0
 simp only[List.cons.injEq,and_true] at e0
 subst e0
 obtain⟨l1,a1,-,-⟩:=open_arr (At:=StAt) (Q:=fun _=>True) Tryz.underlying50 Tryz.cellsSt (by omega) (fun b o cs n y h1 h2 h3=>open_st h1 h2 h3) t1
 obtain⟨l2,a2,-,-⟩:=open_arr (At:=CtAt) (Q:=fun _=>True) Tryz.underlying51 Tryz.cellsCt (by omega) (fun b o cs n y h1 h2 h3=>open_ct h1 h2 h3) t2
 obtain⟨l3,a3,q3,k3⟩:=open_arr (At:=SpAt) (Q:=fun t=>wf64 t.kind) Tryz.underlying49 Tryz.cellsStp (by omega) (fun b o cs n y h1 h2 h3=>open_stp h1 h2 h3) t3
 exact⟨⟨s,l1,l2,l3⟩,⟨_,_,_,hc 0 (by omega),hc 1 (by omega),hc 2 (by omega),hc 3 (by omega),a1,a2,a3,k3⟩,q3⟩
set_option maxRecDepth 10000 in
theorem open_ses {base:Nat} {v:Value} {d:DataW H} {p:List MemPlace} (hv:Value.okWide Tryz.prog W .any base 25 v) (h:DataW.Trod enc Tryz.prog W 0 (fun _=>true) true 25 v d p):∃ s,SesV W v s∧WfS s:=by
 obtain⟨cs,rfl,hsz⟩:=okWide_struct Tryz.underlying25 hv
 obtain⟨fuel,hf⟩:=h
 obtain⟨y0,y1,y2,y3,n,_,_,t0,t1,t2,t3⟩:=Go.Joins.trod_struct4 Tryz.underlying25 hf
 rw[Tryz.cellsSes] at hsz
 obtain⟨c0,c1,c2,c3,rfl⟩:=Go.Joins.array4 hsz
 simp only[Value.cells,Tryz.cellsStr,Tryz.cellsRls,Tryz.cellsCls,Tryz.cellsInt,List.drop,List.take] at t0 t1 t2 t3
 obtain⟨s,e0,_⟩:=DataW.trod_string Tryz.underlying9 t0
 obtain⟨i2,e2,_⟩:=DataW.trod_int Tryz.underlying23 t2
 obtain⟨i3,e3,_⟩:=DataW.trod_int Tryz.underlying3 t3
 simp only[List.cons.injEq,and_true] at e0 e2 e3
 subst e0;subst e2;subst e3
 obtain⟨l,a1,q1,-⟩:=open_arr (At:=RlAt) (Q:=fun r:RolD=>∀ t∈r.steps,wf64 t.kind) Tryz.underlying22 Tryz.cellsRl (by omega) (fun b o cs n y h1 h2 h3=>open_rol h1 h2 h3) t1
 exact⟨⟨s,l,i2,i3⟩,⟨c1,rfl,a1⟩,q1⟩
end
end Go.Proofs.YtkphhjekfimmlaaGreat
namespace Go.Proofs.YtkphhjekfimmlaaGreat
open Go.RowKit
section
variable {F:Fence} {n:Nat} {P:Program} {ops:Array Oper} {md:Region.Mode} {C:World→Prop}
theorem wpIn_of_quiet_r {o:Oper} {a:Act} {K:Act→Prop} {K':Act→World→Prop} {Q':Exit→Act→World→Prop} {w:World} (hro:∀ c,o.op≠.defer c) (hw:C w) (h:∀ a w',C w'→K a→K' a w')
  (ha:o.askedIn F P a C) (hh:o.quietIn F n P a C K):o.wpIn F n P a w K' Q':=by
 obtain⟨v,h1,h2⟩:=hh
 have h3:=h1 w hw
 unfold Oper.quietAtIn at h3
 unfold Oper.wpIn
 refine⟨ha w hw,?_⟩
 rw[Oper.semAt_eq _ _ _ hro]
 generalize (execOp a.eval o).run P w=r at *
 cases r with
 | ok x w' =>
   cases x <;> simp only[Oper.quietUponIn] at h3 <;> simp only[Oper.uponIn]
   case value u =>
    obtain⟨e1,e2⟩:=h3
    rw[e1,e2]
    exact h _ _ hw h2
   case skip =>
    obtain⟨e1,e2⟩:=h3
    rw[e1,← e2]
    exact h _ _ hw h2
   case enter f args =>
    obtain⟨e1,hd,hc⟩:=h3
    rw[e1]
    exact⟨hd,hc.mono fun e w'' ⟨he,hw''⟩=>by subst he;exact h _ _ hw'' h2⟩
 | halt x w'=>simp only[Oper.quietUponIn] at h3
def noDefer (ops:List Oper):Bool:=ops.all fun o=>match o.op with | .defer _=>false | _=>true
theorem noDefer_at {l:List Oper} (h:noDefer l=true) {o:Oper} (ho:o∈l):∀ c,o.op≠.defer c:=fun c e=>by
 have:=List.all_eq_true.1 h o ho
 rw[e] at this
 cases this
theorem wpOpIn_of_qOpIn_r {i:Nat} {a:Act} {K:Act→Prop} {K':Act→World→Prop} {Q':Exit→Act→World→Prop} {w:World} (hro:noDefer ops.toList=true) (hC:C w) (h:∀ a w',C w'→K a→K' a w')
  (hh:qOpIn F n P ops C i K a):wpOpIn F n P ops Q' i K' a w:=by
 unfold qOpIn at hh
 unfold wpOpIn
 split
 ·rename_i ho;simp only[ho] at hh;exact h _ _ hC hh
 ·rename_i o ho
  simp only[ho] at hh
  obtain⟨ha,hh⟩:=hh
  have hmem:o∈ops.toList:=by
   rw[← Array.getElem?_toList] at ho
   exact List.mem_of_getElem? ho
  split
  ·rename_i hw;simp only[hw,if_true] at hh;exact wpIn_of_quiet_r (noDefer_at hro hmem) hC h ha hh
  ·rename_i hw;simp only[hw] at hh;exact⟨ha w hC,h _ _ hC hh⟩
theorem wpAnyIn_of_quiet_r {Q:Act→Prop} {Q':Exit→Act→World→Prop} (hro:noDefer ops.toList=true) (hQ:∀ a w,C w→Q a→Q' .normal a w):∀ (fuel:Nat) (listed:Array Bool) (a:Act) (w:World),C w →
  wpAnyQIn F n P md ops C Q fuel listed a→wpAnyIn F n P md ops Q' fuel listed a w
 | 0,_,_,_,hw,h=>⟨h.1,hQ _ _ hw h.2⟩
 | fuel + 1,_,_,_,hw,h=>⟨fun h0=>hQ _ _ hw (h.1 h0),fun i hi=>wpOpIn_of_qOpIn_r hro hw (fun a' w' hw'=>wpAnyIn_of_quiet_r hro hQ fuel _ a' w' hw') (h.2 i hi)⟩
end
end Go.Proofs.YtkphhjekfimmlaaGreat
namespace Go.Proofs.YtkphhjekfimmlaaGreat
open Go.RowKit Go.BigFrame
section
variable {F:Fence} {n:Nat} {P:Program}
theorem wpIn_region_cq {id:Nat} {Q:Exit→Act→World→Prop} {a:Act} {w:World} {l:List Oper} (hro:noDefer l=true) (hm:P.follows .mixedOrders=true) (hB:Region.lexB .any l.toArray=true)
  (h:wpQuietIn F n P l.toArray (Frm [] w) (fun a'=>∀ w',Frm [] w w'→Q .normal a' w') l a):(Code.region id l.toArray true).wpIn F n P Q a w:=by
 simp only[Region.lexB,Bool.and_eq_true] at hB
 refine wpIn_region_any hm (wpAnyIn_of_quiet_r (C:=Frm [] w) (Q:=fun a'=>∀ w',Frm [] w w'→Q .normal a' w') (by simpa using hro) (fun _ w' hw' h=>h w' hw') _ _ _ _ ⟨rfl,rfl,rfl,Nat.le_refl _,fun _ _ _=>rfl⟩ ?_)
 have:=wpAnyQIn_lex (F:=F) (n:=n) (C:=Frm [] w) (md:=.any) hB.1 l 0 (Array.replicate l.toArray.size false) a (by simp) (by simpa using hB.2) (by simpa using h)
 simpa using this
theorem cqi_call {o:Oper} {a:Act} {C:World→Prop} {K:Act→Prop} (v:Value) (f:FuncId) (args:Array Value) (h:∀ w,C w→(execOp a.eval o).run P w=.ok (.enter f args) w) (hd:F.depth.isSome=true→1≤n)
  (hc:∀ w,C w→CallsIn F (n - 1) P f args w fun e w'=>e=.returned v∧C w') (hk:K (a.put o.dst v)):o.quietIn F n P a C K:=
 ⟨v,fun w hC=>by unfold Oper.quietAtIn;rw[h w hC];exact⟨rfl,hd,hc w hC⟩,hk⟩
end
end Go.Proofs.YtkphhjekfimmlaaGreat
