/- Part of the proof. -/
import Derived.WalkKit
import Derived.WalkSpells
import Derived.Deep.QuietTactic
import Derived.Deep.MidRow
import Derived.Deep.WholeRow
import Derived.Lib.SlicesS
import Derived.Shelf.SlGeneric
import Derived.Shelf.SlLaysN
import Derived.Shelf.SlLaysM
import Derived.Ground.SlgnProg
import Derived.Ground.SlgmProg
import Derived.Test.YtkphhjekfimmlaaGreatProg
import Derived.BigQuiet
import Derived.StillTail
import Derived.Laws.IdiomStrings
import Derived.Shelf.Bytes.SlSmallAll
import Derived.Deep.Upon
import Derived.ArgAppend
import Derived.Deep.AppendLies
import Derived.Maps.AppendAt
import Derived.Lib.Hide
import Derived.Deep.DeepMust
import Derived.WalkLawsBesides
import Derived.BigRegion
import Derived.Deep.RegionHeld3
import Derived.Deep.RegionLaw
import Derived.Deep.DeepCutAuto
import Derived.Shelf.SlicesG.Clone
import Derived.Shelf.SlicesG.Turned
import Derived.Shelf.SlicesG.Delete
import Derived.Sort.OwnSorted
import Derived.OrdersHeld
import Derived.Lib.SliceRun
import Derived.LoopTactic
import Derived.RangeFuncNested
import Derived.RangeFuncLeaves
import Derived.RangeFuncCalls
import Derived.RangeFuncBound
import Derived.OwnWalkIn
import Derived.TacticsInMore
import Derived.LoopNIn
import Derived.LoopIn
import Derived.Test.YtkphhjekfimmlaaGreatH01
import Derived.Test.YtkphhjekfimmlaaGreatH10
import Derived.Test.YtkphhjekfimmlaaGreatH11
import Derived.Shelf.SortM.Plain
import Derived.Shelf.SortM.SortNone
import Derived.Sort.CutIn
import Derived.OrdersIn
import Derived.Test.YtkphhjekfimmlaaGreatH34
import Derived.Lib.AppendStr
import Derived.Laws.OwnMore
import Derived.Maps.OwnSet
import Derived.Maps.OwnOps
import Derived.Laws.EntriesVeiled
import Derived.Laws.Concat
import Derived.LaidEql
import Derived.ProofKit
import Derived.SizedLaws
import Derived.Deep.Slices
import Derived.Test.YtkphhjekfimmlaaGreatH31
import Derived.Laws.StructEq
import Derived.Lib.Builder
import Derived.Test.YtkphhjekfimmlaaGreatRows
import Derived.Lib.SmallJoins
import Derived.Test.YtkphhjekfimmlaaGreatH28
import Derived.Test.YtkphhjekfimmlaaGreatH20
import Derived.Test.YtkphhjekfimmlaaGreatH16
import Derived.Test.YtkphhjekfimmlaaGreatH23
import Derived.Test.YtkphhjekfimmlaaGreatH36
set_option linter.all false
namespace Go.Proofs.YtkphhjekfimmlaaGreat
open Go.RowKit Go.BigFrame
def RowG (G:Value→Prop) (e:TypeId) (v:Value) (w:World):Prop:=∀ g cur,v.ownBlock=some g→w.heap[g]?=some (.cells cur e (0,0))→∀ u∈cur,G u
theorem zeroCells_all {zero:Array Value} {n:Nat} {G:Value→Prop} (h0:0 < zero.size) (h:∀ u∈zero,G u):∀ u∈Builtin.zeroCells zero n,G u:=by
 intro u hu
 unfold Builtin.zeroCells at hu
 simp only[Array.mem_map,Array.mem_range] at hu
 obtain⟨i,-,rfl⟩:=hu
 have hi:i % zero.size < zero.size:=Nat.mod_lt _ h0
 rw[getElem!_pos zero _ hi]
 exact h _ (Array.getElem_mem hi)
theorem append_all {P:Program} (w:World) (G:Value→Prop) (base:Nat) (t ty e:TypeId) (i:TypeInfo) (z:Value) (size bytes:Nat) (ht:P.underlying t=some (.slice e)) (hi:P.info? e=some i) (hz:i.zero=some z)
  (hsize:i.size=size) (hby:i.bytes=bytes) (hzs:z.cells.size=size) (hsz:0 < size) (v:Value) (n:Nat) (xs:List Value) (hown:w.ownsRow base e size v n xs)
  (a:Addr) (m c:Nat) (news:List Value) (hl:news.length=m * size) (hnews:∀ j u,news[j]?=some u→w.cell? (a.add j)=some u) (h1:∀ u∈news,u.oneCell'=true)
  (h63:n + m≤maxLen) (hbytes:(n + m) * bytes≤140737488355328) (hbase:base≤w.heap.size) (hm:0 < m) (hG:RowG G e v w) (hGz:∀ u∈z.cells,G u) (hGn:∀ u∈news,G u) :
  ∃ v' w',(Builtin.append_ #[t,t] ty #[v,.slice (some a) m c]).run P w=.ok v' w'∧w'.ownsRow base e size v' (n + m) (xs ++ news)∧w.grownBy w' v.ownBlock∧RowG G e v' w'∧(v'.ownBlock=v.ownBlock∨v'.ownBlock=some w.heap.size):=by
 obtain⟨v',w',hr,h2,h3,-,h5⟩:=run_append_own_at (P:=P) w base t ty e i z size bytes ht hi hz hsize hby hzs hsz v n xs hown a m c news hl hnews h1 h63 hbytes hbase
 refine⟨v',w',hr,h2,h3,?_,h5⟩
 clear h5
 subst hsize
 subst hby
 have hsmall:n + m≤9223372036854775807:=by simp only[maxLen] at h63;omega
 have hold:∀ g cap,v=.slice (some ⟨g,0,none⟩) n cap→∀ u∈xs,G u:=by
  rintro g cap rfl u hu
  obtain⟨-,⟨e1,-⟩ | ⟨g',cap',cur,e1,-,hg,-,-,-,htake⟩⟩:=hown
  ·cases e1
  ·cases e1
   rw[← htake] at hu
   exact hG g cur rfl hg u (by simpa using List.mem_of_mem_take hu)
 rcases hown.2 with ⟨rfl,rfl⟩ | ⟨g,cap,cur,rfl,hbg,hg,hnc,hcm,hcs,htake⟩
 ·have hx:xs=[]:=List.eq_nil_of_length_eq_zero (by simpa using hown.1)
  subst hx
  have hr2:=run_append_nil (P:=P) w t ty e i z ht hi hz a m c news hl hnews hm (by omega) (by have hb:=hbytes;simp only[Nat.zero_add] at hb;omega)
  rw[hr2] at hr
  injection hr with e1 e2
  subst e1
  subst e2
  intro g' cur' hg' hc' u hu
  simp only[Value.ownBlock,Option.some.injEq] at hg'
  subst hg'
  have hh:=heap_alloc_new w.drew (.cells (news.toArray ++ Builtin.zeroCells z.cells (grownCap w m 0 e - m)) e)
  rw[show w.drew.heap.size=w.heap.size from rfl] at hh
  rw[hh] at hc'
  cases hc'
  rcases Array.mem_append.1 hu with hu | hu
  ·exact hGn u (by simpa using hu)
  ·exact zeroCells_all (by omega) hGz u hu
 ·by_cases hroom:n + m≤cap
  ·have hfit:n * i.size + news.length≤cur.size:=by rw[hl,hcs,← Nat.add_mul];exact Nat.mul_le_mul_right _ hroom
   have hr2:=run_append_room (P:=P) w t ty e i ht hi g n cap cur hg a m c news hl hnews h1 hroom hfit
   rw[hr2] at hr
   injection hr with e1 e2
   subst e1
   subst e2
   intro g' cur' hg' hc' u hu
   simp only[Value.ownBlock,Option.some.injEq] at hg'
   subst hg'
   rw[setRow_heap w g cur _ e _ hg] at hc'
   cases hc'
   simp only[List.mem_toArray,List.mem_append] at hu
   rcases hu with (hu | hu) | hu
   ·exact hG g cur rfl hg u (by simpa using List.mem_of_mem_take hu)
   ·exact hGn u hu
   ·exact hG g cur rfl hg u (by simpa using List.mem_of_mem_drop hu)
  ·have holds:∀ j u,xs[j]?=some u→w.cell? ((⟨g,0,none⟩:Addr).add j)=some u:=hown.cells (g:=g) rfl
   have hr2:=run_append_grow (P:=P) w t ty e i z ht hi hz ⟨g,0,none⟩ n cap xs hown.1 holds a m c news hl hnews (by omega) (by omega) (growslice_fits (by omega) hbytes)
   rw[hr2] at hr
   injection hr with e1 e2
   subst e1
   subst e2
   intro g' cur' hg' hc' u hu
   simp only[Value.ownBlock,Option.some.injEq] at hg'
   subst hg'
   have hh:=heap_alloc_new w.drew (.cells (xs.toArray ++ news.toArray ++ Builtin.zeroCells z.cells (grownCap w (n + m) cap e - (n + m))) e)
   rw[show w.drew.heap.size=w.heap.size from rfl] at hh
   rw[hh] at hc'
   cases hc'
   simp only[Array.mem_append,List.mem_toArray] at hu
   rcases hu with (hu | hu) | hu
   ·exact hold g cap rfl u hu
   ·exact hGn u hu
   ·exact zeroCells_all (by omega) hGz u hu
theorem wp_append_all {P:Program} {o:Oper} {a:Act} {w:World} {K:Act→World→Prop} {Q:Exit→Act→World→Prop} (G:Value→Prop) (s x:Operand) (t:TypeId)
  (ho:o.op=.call { callee:=.builtin .append,args:=#[s,x],argTypes:=#[t,t] })
  (base:Nat) (e:TypeId) (i:TypeInfo) (z:Value) (size bytes:Nat) (ht:P.underlying t=some (.slice e)) (hi:P.info? e=some i) (hz:i.zero=some z)
  (hsize:i.size=size) (hby:i.bytes=bytes) (hzs:z.cells.size=size) (hsz:0 < size)
  (v:Value) (n:Nat) (xs:List Value) (hs:a.eval s=v) (hown:w.ownsRow base e size v n xs)
  (ad:Addr) (m c:Nat) (news:List Value) (hx:a.eval x=.slice (some ad) m c) (hl:news.length=m * size) (hnews:∀ j u,news[j]?=some u→w.cell? (ad.add j)=some u) (h1:∀ u∈news,u.oneCell'=true)
  (h63:n + m≤maxLen) (hbytes:(n + m) * bytes≤140737488355328) (hbase:base≤w.heap.size) (hm:0 < m) (hG:RowG G e v w) (hGz:∀ u∈z.cells,G u) (hGn:∀ u∈news,G u)
  (h:∀ v' w',w'.ownsRow base e size v' (n + m) (xs ++ news)→w.grownBy w' v.ownBlock→RowG G e v' w'→(v'.ownBlock=v.ownBlock∨v'.ownBlock=some w.heap.size)→K (a.put o.dst v') w') :
  Oper.wp P o a w K Q:=by
 obtain⟨v',w',hr,h2,h3,h4,h5⟩:=append_all (P:=P) w G base t o.type e i z size bytes ht hi hz hsize hby hzs hsz v n xs hown ad m c news hl hnews h1 h63 hbytes hbase hm hG hGz hGn
 unfold Oper.wp execOp
 simp only[ho,resolve,invoke,builtin,Sem.run_bind,Sem.run_pure,Result.andThen_ok,List.map_toArray,List.map_cons,List.map_nil,hs,hx,hr]
 exact h v' w' h2 h3 h4 h5
end Go.Proofs.YtkphhjekfimmlaaGreat
namespace Go.Proofs.YtkphhjekfimmlaaGreat
open Go.RowKit Go.BigFrame
def Ty (W:World) (g:Nat) (e:TypeId):Prop:=∃ cur,W.heap[g]?=some (.cells cur e (0,0))
theorem Ty.frm {F:List Nat} {W V:World} {g:Nat} {e:TypeId} (h:Ty W g e) (hf:Frm F W V) (hn:g∉F):Ty V g e:=by obtain⟨c,h⟩:=h;exact⟨c,hf.at h hn⟩
theorem own_ty {W:World} {base e size n:Nat} {v:Value} {xs:List Value} (h:W.ownsRow base e size v n xs) {k:Nat} (hk:v.ownBlock=some k):Ty W k e:=ownBlock_type h hk
end Go.Proofs.YtkphhjekfimmlaaGreat
namespace Go.Proofs.YtkphhjekfimmlaaGreat
open Go.RowKit Go.BigFrame
def sysT:List TypeId:=[119,232,229,9,114]
structure FgB (W:World) (b:Nat):Prop where
 ty:∀ C t,W.heap[b]?=some (.cells C t (0,0))→t∉sysT
 str:∀ (o:Nat) x,W.cell? ⟨b,o,none⟩≠some (.string x)
 ptr:∀ (o p:Nat),W.cell? ⟨b,o,none⟩=some (.pointer (some ⟨p,0,none⟩))→∀ C t,W.heap[p]?=some (.cells C t (0,0))→t≠232∧t≠229
 slc:∀ (o g o' p n c:Nat),W.cell? ⟨b,o,none⟩=some (.slice (some ⟨g,o',none⟩) n c)→W.cell? ⟨g,o',none⟩=some (.pointer (some ⟨p,0,none⟩))→∀ C t,W.heap[p]?=some (.cells C t (0,0))→t≠229
section
variable {W V:World} {F:List Nat}
theorem FgB.ne (h:∀ b∈F,FgB W b) {k:Nat} {C:Array Value} {t:TypeId} (hk:W.heap[k]?=some (.cells C t (0,0))) (ht:t∈sysT):k∉F:=fun hm=>(h k hm).ty _ _ hk ht
theorem FgB.str' (h:∀ b∈F,FgB W b) {k o:Nat} {x:ByteArray} (hu:W.cell? ⟨k,o,none⟩=some (.string x)):k∉F:=fun hm=>(h k hm).str _ _ hu
theorem FgB.bank (h:∀ b∈F,FgB W b) {k o p:Nat} {C:Array Value} (hu:W.cell? ⟨k,o,none⟩=some (.pointer (some ⟨p,0,none⟩))) (hp:W.heap[p]?=some (.cells C 232 (0,0))):k∉F:=fun hm=>((h k hm).ptr _ _ hu _ _ hp).1 rfl
theorem FgB.chan (h:∀ b∈F,FgB W b) {k o p:Nat} {C:Array Value} (hu:W.cell? ⟨k,o,none⟩=some (.pointer (some ⟨p,0,none⟩))) (hp:W.heap[p]?=some (.cells C 229 (0,0))):k∉F:=fun hm=>((h k hm).ptr _ _ hu _ _ hp).2 rfl
theorem Chn.fg {cb:Nat} {cls cap:Int} {L:List ByteArray} {G:List Nat} (h:Chn W cb cls cap L G) (hb:∀ b∈F,FgB W b) (hf:Frm F W V):Chn V cb cls cap L G:=h.frm hf fun x hx=>by
 obtain⟨sv,g1,g2,g3,rfl⟩:=h
 rcases List.mem_cons.1 hx with rfl | hx
 ·exact FgB.ne hb g1 (by simp[sysT])
 ·rw[Option.mem_toList] at hx
  obtain⟨D,hD⟩:=own_ty g2 hx
  exact FgB.ne hb hD (by simp[sysT])
theorem StR.fg {s:SesD} {yb sb:Nat} {x:PS} (h:StR W s yb sb x) (hs:0 < s.roles.length) (hb:∀ b∈F,FgB W b) (hf:Frm F W V):StR V s yb sb x:=by
 obtain⟨av,wv,h1,h2,h3⟩:=h.out
 refine⟨⟨av,wv,hf.at h1 (FgB.ne hb h1 (by simp[sysT])),h2.frm fun k o y hy=>?_,?_⟩,h.ok⟩
 ·obtain⟨bb,a1,a2,lv,a3,a4⟩:=hy
  have hk:=FgB.bank hb a2 a3
  exact⟨bb,hf.cellAt a1 hk,hf.cellAt a2 hk,lv,hf.at a3 (FgB.ne hb a3 (by simp[sysT])),a4.frm fun k o y hy=>by
   have hk:=FgB.str' hb hy.1
   exact⟨hf.cellAt hy.1 hk,hf.cellAt hy.2.1 hk,hf.cellAt hy.2.2 hk⟩⟩
 ·obtain⟨ao,cap,e,h4⟩:=h3
  refine⟨ao,cap,e,fun i R hR=>?_⟩
  obtain⟨g,o,e2,rv,c1,c2⟩:=h4 i R hR
  have hi:=lt_of_some hR
  have hl:R.length=s.roles.length:=by
   have:=h.ok.wr i (by rw[← h.ok.wl];exact hi)
   rwa [getD_some hR] at this
  have hg:g∉F:=fun hm=>by
   obtain⟨a',c',e4,h5⟩:=c2
   obtain⟨L,hL⟩:∃ L,R[0]?=some L:=⟨_,List.getElem?_eq_getElem (by omega)⟩
   obtain⟨k,o',e5,cb,G,q1,sv,q2,-⟩:=h5 0 L hL
   rw[Nat.zero_mul,Nat.add_zero] at q1
   subst e4
   subst e5
   exact(hb g hm).slc _ _ _ _ _ _ c1 q1 _ _ q2 rfl
  refine⟨g,o,e2,rv,hf.cellAt c1 hg,Arr.frm (fun k o' L hL=>?_) c2⟩
  obtain⟨cb,G,q1,q2⟩:=hL
  have hk:k∉F:=by
   obtain⟨sv,q3,-⟩:=id q2
   exact FgB.chan hb q1 q3
  exact⟨cb,G,hf.cellAt q1 hk,q2.fg hb hf⟩
theorem Rls.fg {v:Value} {l:List RolD} (h:Rls W v l) (hb:∀ b∈F,FgB W b) (hf:Frm F W V):Rls V v l:=Arr.frm (fun k o r hr=>by
 obtain⟨sv,cv,tv,c0,c1,c2,c3,c4⟩:=hr
 have hk:=FgB.str' hb c0
 refine⟨sv,cv,tv,hf.cellAt c0 hk,hf.cellAt c1 hk,hf.cellAt c2 hk,hf.cellAt c3 hk,⟨c4.sts.frm fun g o y hy=>?_,c4.ctrs.frm fun g o y hy=>?_,c4.steps.frm fun g o y hy=>?_,c4.cap⟩⟩
 ·have hk:=FgB.str' hb hy.1
  exact⟨hf.cellAt hy.1 hk,hf.cellAt hy.2.1 hk,hf.cellAt hy.2.2 hk⟩
 ·have hk:=FgB.str' hb hy.1
  exact⟨hf.cellAt hy.1 hk,hf.cellAt hy.2 hk⟩
 ·have hk:=FgB.str' hb hy.c0
  exact⟨hf.cellAt hy.c0 hk,hf.cellAt hy.c1 hk,hf.cellAt hy.c2 hk,hf.cellAt hy.c3 hk,hf.cellAt hy.c4 hk,hf.cellAt hy.c5 hk,hf.cellAt hy.c6 hk,hf.cellAt hy.c7 hk,hf.cellAt hy.c8 hk⟩) h
theorem SyR.fg {s:SesD} {yb fb:Nat} (h:SyR W s yb fb) (hb:∀ b∈F,FgB W b) (hf:Frm F W V):SyR V s yb fb:=by
 obtain⟨rv,h1,h2⟩:=h.out
 exact⟨⟨rv,hf.at h1 (FgB.ne hb h1 (by simp[sysT])),h2.fg hb hf⟩,h.ok,h.first.fg (by have:=h.ok.n2;omega) hb hf⟩
end
end Go.Proofs.YtkphhjekfimmlaaGreat
namespace Go.Proofs.YtkphhjekfimmlaaGreat
open Go.RowKit
section
variable {F:List Nat} {P:Program} {ops:Array Oper} {Q:Exit→Act→World→Prop} {md:Region.Mode} {S S':World→Prop} {T:Nat→Bool}
def wpAnyL (P:Program) (md:Region.Mode) (ops:Array Oper) (Q:Exit→Act→World→Prop) (S:World→Prop) (T:Nat→Bool):Nat→Bool→Array Bool→Act→World→Prop
 | 0,_,listed,a,w=>Region.ready md ops listed=[]∧Q .normal a w
 | fuel + 1,b,listed,a,w =>
   (Region.ready md ops listed=[]→Q .normal a w) ∧
   ∀ i∈Region.ready md ops listed,wpOp P ops Q i (fun a' w'=>((b || T i)=false→S w')∧wpAnyL P md ops Q S T fuel (b || T i) (listed.setIfInBounds i true) a' w') a w
theorem wpAny_of_L:∀ (fuel:Nat) (b:Bool) (listed:Array Bool) (a:Act) (w:World),wpAnyL P md ops Q S T fuel b listed a w→wpAny P md ops Q fuel listed a w
 | 0,_,_,_,_,h=>h
 | fuel + 1,_,_,_,_,h=>⟨h.1,fun i hi=>wpOp_mono (fun a' w' h'=>wpAny_of_L fuel _ _ a' w' h'.2) (h.2 i hi)⟩
theorem wpAnyL_sub (hSS:∀ W,S' W→S W):∀ (fuel:Nat) (b:Bool) (listed:Array Bool) (a:Act) (w:World),wpAnyL P md ops Q S' T fuel b listed a w→wpAnyL P md ops Q S T fuel b listed a w
 | 0,_,_,_,_,h=>h
 | fuel + 1,_,_,_,_,h=>⟨h.1,fun i hi=>wpOp_mono (fun a' w' h'=>⟨fun hb=>hSS _ (h'.1 hb),wpAnyL_sub hSS fuel _ _ a' w' h'.2⟩) (h.2 i hi)⟩
def depB (md:Region.Mode) (ops:Array Oper):Nat→Nat→Nat→Bool
 | 0,_,_=>false
 | f + 1,j,i=>((ops[j]?).map fun o=>o.after.any fun e=>Region.binds md e && (e.on == i || depB md ops f e.on i)).getD false
def Closed (md:Region.Mode) (ops:Array Oper) (listed:Array Bool):Prop:=∀ (k:Nat) o,ops[k]?=some o→listed.getD k false=true→∀ e∈o.after,Region.binds md e=true→listed.getD e.on false=true
def closedB (md:Region.Mode) (ops:Array Oper) (listed:Array Bool):Bool:=(List.range ops.size).all fun k=>!listed.getD k false || ((ops[k]?).map fun o=>o.after.all fun e=>!Region.binds md e || listed.getD e.on false).getD true
theorem closed_of {listed:Array Bool} (h:closedB md ops listed=true):Closed md ops listed:=fun k o ho hk e he hb=>by
 have:=(List.all_eq_true.1 h) k (List.mem_range.2 (Array.getElem?_eq_some_iff.1 ho).1)
 rw[ho,hk] at this
 simp only[Bool.not_true,Option.map_some,Option.getD_some,Bool.false_or] at this
 have:=(Array.all_eq_true_iff_forall_mem.1 this) e he
 simpa[hb] using this
theorem dep_no {listed:Array Bool} {i:Nat} (hc:Closed md ops listed) (hi:listed.getD i false=false):∀ (f j:Nat),depB md ops f j i=true→(∀ o,ops[j]?=some o→∀ e∈o.after,Region.binds md e=true→listed.getD e.on false=true)→False
 | 0,_,h,_=>by cases h
 | f + 1,j,h,hj=>by
   unfold depB at h
   cases ho:ops[j]? with
   | none=>rw[ho] at h;cases h
   | some o =>
     rw[ho] at h
     simp only[Option.map_some,Option.getD_some] at h
     obtain⟨e,he,hb⟩:=Array.any_eq_true'.1 h
     simp only[Bool.and_eq_true,Bool.or_eq_true,beq_iff_eq] at hb
     have hl:=hj o ho e he hb.1
     rcases hb.2 with hb | hb
     ·rw[hb,hi] at hl;cases hl
     ·exact dep_no hc hi f e.on hb fun o' ho'=>hc e.on o' ho' hl
def waitsB (md:Region.Mode) (ops:Array Oper) (T:Nat→Bool) (i:Nat):Bool:=(List.range ops.size).all fun j=>!T j || depB md ops 4 j i
theorem wpAnyL_first {i:Nat} {oi:Oper} {v:Value} (hi:ops[i]?=some oi) (hT:T i=false) (hw:waitsB md ops T i=true) (hsel:∀ (j:Nat) (o:Oper) cs b,ops[j]?=some o→o.op≠.select cs b)
  (hQ:∀ c a w,Q (.panic c) (a.put oi.dst v) w→Q (.panic c) a w) :
  ∀ (fuel:Nat) (listed:Array Bool) (a:Act) (w:World),Closed md ops listed →
    (∀ j oj,ops[j]?=some oj→j≠i→listed.getD j true=false→(∀ e∈oj.after,Region.binds md e=true→e.on≠i)→oi.apart ops oj=true) →
    i∈Region.ready md ops listed→YieldsIf P ops S oi v a→S w →
    wpAnyL P md ops Q S T fuel false (listed.setIfInBounds i true) (a.put oi.dst v) w→wpAnyL P md ops Q S T (fuel + 1) false listed a w:=by
 intro fuel
 induction fuel with
 | zero =>
   intro listed a w _ _ hr hy hS H
   refine⟨fun h=>(by rw[h] at hr;cases hr),fun j hj=>?_⟩
   by_cases hji:j=i
   ·subst hji
    rw[Bool.false_or,hT]
    exact hy.wpOp hi hS ⟨fun _=>hS,H⟩
   ·have:=ready_mono hj hji
    rw[H.1] at this
    cases this
 | succ fuel ih =>
   intro listed a w hcl hfree hr hy hS H
   refine⟨fun h=>(by rw[h] at hr;cases hr),fun j hj=>?_⟩
   by_cases hji:j=i
   ·subst hji
    rw[Bool.false_or,hT]
    exact hy.wpOp hi hS ⟨fun _=>hS,H⟩
   ·have h1:=H.2 j (ready_mono hj hji)
    obtain⟨hjun,oj,hoj,hall⟩:=mem_ready.1 hj
    have hnot:∀ e∈oj.after,Region.binds md e=true→e.on≠i:=fun e he hb heq=>by
     have h1:=hall e he hb
     have h0:=(mem_ready.1 hr).1
     rw[heq] at h1
     rcases Nat.lt_or_ge i listed.size with h' | h'
     ·simp[h'] at h0 h1;rw[h0] at h1;cases h1
     ·simp[Array.getElem?_eq_none h'] at h1
    have hTj:T j=false:=by
     have hjs:j < ops.size:=(Array.getElem?_eq_some_iff.1 hoj).1
     have:=(List.all_eq_true.1 hw) j (List.mem_range.2 hjs)
     simp only[Bool.or_eq_true,Bool.not_eq_true'] at this
     rcases this with h | h
     ·exact h
     ·refine(dep_no hcl ?_ 4 j h fun o ho e he hb=>?_).elim
      ·have h0:=(mem_ready.1 hr).1
       rcases Nat.lt_or_ge i listed.size with h' | h'
       ·simp[h'] at h0 ⊢;exact h0
       ·simp[h'] at h0
      ·rw[hoj] at ho
       cases ho
       exact hall e he hb
    rw[Bool.false_or,hTj] at h1 ⊢
    have h2:=wpOp_putIf hoj (hfree j oj hoj hji hjun hnot) (fun cs b=>hsel i oi cs b hi) (fun cs b=>hsel j oj cs b hoj) hQ hy h1
    have hfree':∀ k ok,ops[k]?=some ok→k≠i→(listed.setIfInBounds j true).getD k true=false →
      (∀ e∈ok.after,Region.binds md e=true→e.on≠i)→oi.apart ops ok=true:=fun k ok hk hki hun hno=>by
     refine hfree k ok hk hki ?_ hno
     by_cases hjk:j=k
     ·subst hjk;exact hjun
     ·rw[getD_set_ne true hjk] at hun;exact hun
    have hcl':Closed md ops (listed.setIfInBounds j true):=fun k o ho hk e he hb=>by
     have up:∀ q,listed.getD q false=true→(listed.setIfInBounds j true).getD q false=true:=fun q hq=>by
      by_cases e:j=q
      ·subst e
       rcases Nat.lt_or_ge j listed.size with h' | h'
       ·simp[h']
       ·simp[Array.getElem?_eq_none h'] at hq
      ·rw[getD_set_ne false e];exact hq
     by_cases ek:j=k
     ·subst ek
      rw[hoj] at ho
      cases ho
      exact up _ (hall e he hb)
     ·rw[getD_set_ne false ek] at hk
      exact up _ (hcl k o ho hk e he hb)
    refine wpOp_mono (fun a' w' h3=>⟨fun _=>h3.2.1 rfl,ih (listed.setIfInBounds j true) a' w' hcl' hfree' (ready_mono hr (Ne.symm hji)) h3.1 (h3.2.1 rfl) ?_⟩) h2
    rw[Array.setIfInBounds_comm _ _ hji]
    exact h3.2.2
theorem wpAnyL_firstP {i:Nat} {oi:Oper} {v:Value} (hi:ops[i]?=some oi) (hT:T i=false) (hsel:∀ (j:Nat) (o:Oper) cs b,ops[j]?=some o→o.op≠.select cs b)
  (hQ:∀ c a w,Q (.panic c) (a.put oi.dst v) w→Q (.panic c) a w) :
  ∀ (fuel:Nat) (b:Bool) (listed:Array Bool) (a:Act) (w:World),
    (∀ j oj,ops[j]?=some oj→j≠i→listed.getD j true=false→(∀ e∈oj.after,Region.binds md e=true→e.on≠i)→oi.apart ops oj=true) →
    i∈Region.ready md ops listed→YieldsIf P ops (fun _=>True) oi v a→(b=false→S w) →
    wpAnyL P md ops Q S T fuel b (listed.setIfInBounds i true) (a.put oi.dst v) w→wpAnyL P md ops Q S T (fuel + 1) b listed a w:=by
 intro fuel
 induction fuel with
 | zero =>
   intro b listed a w _ hr hy hS H
   refine⟨fun h=>(by rw[h] at hr;cases hr),fun j hj=>?_⟩
   by_cases hji:j=i
   ·subst hji
    rw[hT,Bool.or_false]
    exact hy.wpOp hi trivial ⟨hS,H⟩
   ·have:=ready_mono hj hji
    rw[H.1] at this
    cases this
 | succ fuel ih =>
   intro b listed a w hfree hr hy hS H
   refine⟨fun h=>(by rw[h] at hr;cases hr),fun j hj=>?_⟩
   by_cases hji:j=i
   ·subst hji
    rw[hT,Bool.or_false]
    exact hy.wpOp hi trivial ⟨hS,H⟩
   ·have h1:=H.2 j (ready_mono hj hji)
    obtain⟨hjun,oj,hoj,hall⟩:=mem_ready.1 hj
    have hnot:∀ e∈oj.after,Region.binds md e=true→e.on≠i:=fun e he hb heq=>by
     have h1:=hall e he hb
     have h0:=(mem_ready.1 hr).1
     rw[heq] at h1
     rcases Nat.lt_or_ge i listed.size with h' | h'
     ·simp[h'] at h0 h1;rw[h0] at h1;cases h1
     ·simp[Array.getElem?_eq_none h'] at h1
    have h2:=wpOp_putIf hoj (hfree j oj hoj hji hjun hnot) (fun cs b=>hsel i oi cs b hi) (fun cs b=>hsel j oj cs b hoj) hQ hy h1
    have hfree':∀ k ok,ops[k]?=some ok→k≠i→(listed.setIfInBounds j true).getD k true=false →
      (∀ e∈ok.after,Region.binds md e=true→e.on≠i)→oi.apart ops ok=true:=fun k ok hk hki hun hno=>by
     refine hfree k ok hk hki ?_ hno
     by_cases hjk:j=k
     ·subst hjk;exact hjun
     ·rw[getD_set_ne true hjk] at hun;exact hun
    refine wpOp_mono (fun a' w' h3=>⟨h3.2.1,ih (b || T j) (listed.setIfInBounds j true) a' w' hfree' (ready_mono hr (Ne.symm hji)) h3.1 h3.2.1 ?_⟩) h2
    rw[Array.setIfInBounds_comm _ _ hji]
    exact h3.2.2
def wrFrom (n:Nat) (j:Nat):Bool:=decide (n≤j)
theorem heldL_start (F:List Nat) (T:Nat→Bool) {id:Nat} {a:Act} {w:World} (hm:P.follows .mixedOrders=true) (h:wpAnyL P .any ops Q (Frm F w.drew) T ops.size false (Array.replicate ops.size false) a w.drew):(Code.region id ops true).wp P Q a w:=
 wp_region_any hm (wpAny_of_L _ _ _ _ _ h)
theorem heldL_take {i:Nat} {oi:Oper} {fuel:Nat} {listed:Array Bool} {a:Act} {w:World} (v:Value) (hi:ops[i]?=some oi)
  (hs:Region.noSelect ops=true) (hf:Region.free md ops listed i=true) (hr:(Region.ready md ops listed).contains i=true) (hT:T i=false) (hwt:(waitsB md ops T i && closedB md ops listed)=true)
  (hQ:∀ c a w,Q (.panic c) (a.put oi.dst v) w→Q (.panic c) a w) (hw:Region.wanted oi (yielded ops a.tmps)=true) (hy:∀ w',Frm F w w'→(execOp a.eval oi).run P w'=.ok (.value v) w')
  (h:wpAnyL P md ops Q (Frm F w) T fuel false (listed.setIfInBounds i true) (a.put oi.dst v) w):wpAnyL P md ops Q (Frm F w) T (fuel + 1) false listed a w:=
 wpAnyL_first hi hT (Bool.and_eq_true_iff.1 hwt).1 (Region.noSelect_spec hs) hQ fuel listed a w (closed_of (Bool.and_eq_true_iff.1 hwt).2) (Region.free_spec hi hf) (List.contains_iff_mem.1 hr) (.inl ⟨hw,hy⟩) (Frm.refl F w) h
theorem heldL_takep {b:Bool} {i:Nat} {oi:Oper} {fuel:Nat} {listed:Array Bool} {a:Act} {w:World} (v:Value) (hi:ops[i]?=some oi)
  (hs:Region.noSelect ops=true) (hf:Region.free md ops listed i=true) (hr:(Region.ready md ops listed).contains i=true) (hT:T i=false)
  (hQ:∀ c a w,Q (.panic c) (a.put oi.dst v) w→Q (.panic c) a w) (hw:Region.wanted oi (yielded ops a.tmps)=true) (hy:∀ w',(execOp a.eval oi).run P w'=.ok (.value v) w')
  (h:wpAnyL P md ops Q (Frm F w) T fuel b (listed.setIfInBounds i true) (a.put oi.dst v) w):wpAnyL P md ops Q (Frm F w) T (fuel + 1) b listed a w:=
 wpAnyL_firstP hi hT (Region.noSelect_spec hs) hQ fuel b listed a w (Region.free_spec hi hf) (List.contains_iff_mem.1 hr) (.inl ⟨hw,fun w' _=>hy w'⟩) (fun _=>Frm.refl F w) h
theorem heldL_all {rs:List Nat} {fuel:Nat} {b:Bool} {listed:Array Bool} {a:Act} {w:World} (hr:Region.ready md ops listed=rs) (hne:rs≠[])
  (h:∀ i∈rs,wpOp P ops Q i (fun a' w'=>((b || T i)=false→S w')∧wpAnyL P md ops Q S T fuel (b || T i) (listed.setIfInBounds i true) a' w') a w):wpAnyL P md ops Q S T (fuel + 1) b listed a w:=
 ⟨fun h0=>absurd (hr.symm.trans h0) hne,fun i hi=>h i (hr ▸ hi)⟩
theorem allL_nil {p:Nat→Prop}:∀ i∈([]:List Nat),p i:=fun _ h=>by cases h
theorem allL_cons {p:Nat→Prop} {i:Nat} {rs:List Nat} (h:p i) (hs:∀ j∈rs,p j):∀ j∈i :: rs,p j:=fun j hj=>by
 rcases List.mem_cons.1 hj with rfl | hj
 ·exact h
 ·exact hs j hj
theorem heldL_step {i:Nat} {oi:Oper} {fuel:Nat} {listed:Array Bool} {a:Act} {w:World} (hi:ops[i]?=some oi) (hT:T i=false) (hw:Region.wanted oi (yielded ops a.tmps)=true)
  (h:∀ K':Act→World→Prop,Shut (∀ a' w',Frm F w w'→wpAnyL P md ops Q (Frm F w') T fuel false (listed.setIfInBounds i true) a' w'→K' a' w')→Oper.wp P oi a w K' Q) :
  wpOp P ops Q i (fun a' w'=>((false || T i)=false→Frm F w w')∧wpAnyL P md ops Q (Frm F w) T fuel (false || T i) (listed.setIfInBounds i true) a' w') a w:=by
 unfold wpOp
 simp only[hi,hw,if_true]
 refine .inl (h _ (fun a' w' hf hk=>⟨fun _=>hf,?_⟩))
 rw[Bool.false_or,hT]
 exact wpAnyL_sub (fun W hW=>hf.trans hW) _ _ _ _ _ hk
theorem heldL_write {b:Bool} {i:Nat} {oi:Oper} {fuel:Nat} {listed:Array Bool} {a:Act} {w:World} (hi:ops[i]?=some oi) (hT:(b || T i)=true) (hw:Region.wanted oi (yielded ops a.tmps)=true)
  (h:∀ K':Act→World→Prop,Shut (∀ a' w',wpAnyL P md ops Q S T fuel true (listed.setIfInBounds i true) a' w'→K' a' w')→Oper.wp P oi a w K' Q) :
  wpOp P ops Q i (fun a' w'=>((b || T i)=false→S w')∧wpAnyL P md ops Q S T fuel (b || T i) (listed.setIfInBounds i true) a' w') a w:=by
 unfold wpOp
 simp only[hi,hw,if_true]
 rw[hT]
 exact .inl (h _ (fun a' w' hk=>⟨(fun h0=>by cases h0),hk⟩))
theorem heldL_done {b:Bool} {listed:Array Bool} {a:Act} {w:World} (hr:Region.ready md ops listed=[]) (h:Q .normal a w):∀ fuel,wpAnyL P md ops Q S T fuel b listed a w
 | 0=>⟨hr,h⟩
 | _ + 1=>⟨fun _=>h,fun i hi=>by rw[hr] at hi;cases hi⟩
theorem htL (i:Nat) {oi:Oper} {fuel:Nat} {listed:Array Bool} {a:Act} {w:World} (v:Value) (hy:∀ w',Frm F w w'→(execOp a.eval oi).run P w'=.ok (.value v) w')
  (h:wpAnyL P md ops Q (Frm F w) T fuel false (listed.setIfInBounds i true) (a.put oi.dst v) w) (hi:ops[i]?=some oi:=by rfl) (hb:(Region.noSelect ops && Region.free md ops listed i && (Region.ready md ops listed).contains i && !T i && (waitsB md ops T i && closedB md ops listed))=true:=by kernel_rfl)
  (hQ:∀ c a w,Q (.panic c) (a.put oi.dst v) w→Q (.panic c) a w:=by exact fun _ _ _ h=>h) (hw:Region.wanted oi (yielded ops a.tmps)=true:=by rfl):wpAnyL P md ops Q (Frm F w) T (fuel + 1) false listed a w:=by
 obtain⟨h1,h2⟩:=Bool.and_eq_true_iff.1 hb
 simp only[Bool.and_eq_true,Bool.not_eq_true'] at h1
 exact heldL_take v hi h1.1.1.1 h1.1.1.2 h1.1.2 h1.2 h2 hQ hw hy h
theorem htP {b:Bool} (i:Nat) {oi:Oper} {fuel:Nat} {listed:Array Bool} {a:Act} {w:World} (v:Value) (hy:∀ w',(execOp a.eval oi).run P w'=.ok (.value v) w')
  (h:wpAnyL P md ops Q (Frm F w) T fuel b (listed.setIfInBounds i true) (a.put oi.dst v) w) (hi:ops[i]?=some oi:=by rfl) (hb:(Region.noSelect ops && Region.free md ops listed i && (Region.ready md ops listed).contains i && !T i)=true:=by kernel_rfl)
  (hQ:∀ c a w,Q (.panic c) (a.put oi.dst v) w→Q (.panic c) a w:=by exact fun _ _ _ h=>h) (hw:Region.wanted oi (yielded ops a.tmps)=true:=by rfl):wpAnyL P md ops Q (Frm F w) T (fuel + 1) b listed a w:=by
 simp only[Bool.and_eq_true,Bool.not_eq_true'] at hb
 exact heldL_takep v hi hb.1.1.1 hb.1.1.2 hb.1.2 hb.2 hQ hw hy h
theorem honL (i:Nat) {fuel:Nat} {b:Bool} {listed:Array Bool} {a:Act} {w:World}
  (h:wpOp P ops Q i (fun a' w'=>((b || T i)=false→S w')∧wpAnyL P md ops Q S T fuel (b || T i) (listed.setIfInBounds i true) a' w') a w) (hr:Region.ready md ops listed=[i]:=by kernel_rfl):wpAnyL P md ops Q S T (fuel + 1) b listed a w:=
 heldL_all hr (by simp) (allL_cons h allL_nil)
theorem hcL {i:Nat} {oi:Oper} {fuel:Nat} {listed:Array Bool} {a:Act} {w:World} (v:Value) (hy:∀ w',Frm F w w'→(execOp a.eval oi).run P w'=.ok (.value v) w')
  (h:Cnt (i + 1) (wpAnyL P md ops Q (Frm F w) T fuel false (listed.setIfInBounds i true) (a.put oi.dst v) w)) (hi:ops[i]?=some oi:=by rfl) (hb:(Region.noSelect ops && Region.free md ops listed i && (Region.ready md ops listed).contains i && !T i && (waitsB md ops T i && closedB md ops listed))=true:=by kernel_rfl)
  (hQ:∀ c a w,Q (.panic c) (a.put oi.dst v) w→Q (.panic c) a w:=by exact fun _ _ _ h=>h) (hw:Region.wanted oi (yielded ops a.tmps)=true:=by rfl):Cnt i (wpAnyL P md ops Q (Frm F w) T (fuel + 1) false listed a w):=
 htL i v hy h hi hb hQ hw
theorem hcP {b:Bool} {i:Nat} {oi:Oper} {fuel:Nat} {listed:Array Bool} {a:Act} {w:World} (v:Value) (hy:∀ w',(execOp a.eval oi).run P w'=.ok (.value v) w')
  (h:Cnt (i + 1) (wpAnyL P md ops Q (Frm F w) T fuel b (listed.setIfInBounds i true) (a.put oi.dst v) w)) (hi:ops[i]?=some oi:=by rfl) (hb:(Region.noSelect ops && Region.free md ops listed i && (Region.ready md ops listed).contains i && !T i)=true:=by kernel_rfl)
  (hQ:∀ c a w,Q (.panic c) (a.put oi.dst v) w→Q (.panic c) a w:=by exact fun _ _ _ h=>h) (hw:Region.wanted oi (yielded ops a.tmps)=true:=by rfl):Cnt i (wpAnyL P md ops Q (Frm F w) T (fuel + 1) b listed a w):=
 htP i v hy h hi hb hQ hw
end
end Go.Proofs.YtkphhjekfimmlaaGreat
namespace Go.Proofs.YtkphhjekfimmlaaGreat
open Go.RowKit Go.BigFrame
def km0:Mv:=⟨1,0,0,0⟩
theorem move_same (m:Mv) (w:World):(binOp .neq 45 (mvV m) (mvV m)).run Tryz.prog w=.ok (.bool false) w∧(binOp .eql 45 (mvV m) (mvV m)).run Tryz.prog w=.ok (.bool true) w:=by
 have h:=eql_move m m w
 rw[decide_eq_true rfl] at h
 refine⟨?_,h⟩
 have h2:(Op.equalIn (9999 + 1) 45 (mvV m) (mvV m)).run Tryz.prog w=.ok true w:=by
  rw[run_equalIn_struct w 9999 45 _ _ Tryz.undMv (by kernel_rfl)]
  simp[go_sem,Tryz.underlying45]
 simp only[binOp]
 simp[show Op.equal 45 (mvV m) (mvV m)=Op.equalIn (9999 + 1) 45 (mvV m) (mvV m) from rfl,h2]
end Go.Proofs.YtkphhjekfimmlaaGreat
namespace Go.Proofs.YtkphhjekfimmlaaGreat
open Go.ChangeShapes Go.WideShapes Go.ChangeAt Go.RowKit
theorem trodAll_below {H:Type} {enc:TypeId × Value→H} {P:Program} (hl:laidOutB P=true) {W W':World} (hb:Below W.heap.size W W'):∀ (ts:List TypeId) (vs:List Value) (ds:List (DataW H)) (ps:List MemPlace),
  (ts.all fun t=>P.readableRec t && decide (t < P.types.size))=true→DataW.TrodAll enc P W 0 (fun _=>true) true ts vs ds ps→(∀ x∈ps,x.block < W.heap.size) →
  DataW.TrodAll enc P W' 0 (fun b=>decide (b < W.heap.size)) true ts vs ds ps
 | [],vs,ds,ps,_,h,_=>by
   obtain⟨rfl,rfl,rfl⟩:=trodAll_nil h
   exact rfl
 | t :: ts,vs,ds,ps,ht,h,hlt=>by
   obtain⟨v,vs',d,ds',p,q,rfl,rfl,rfl,h1,h2⟩:=trodAll_cons h
   simp only[List.all_cons,Bool.and_eq_true,decide_eq_true_eq] at ht
   exact⟨p,q,Below.trod hl ht.1.1 ht.1.2 h1 hb (fun x hx=>hlt x (by simp[hx])),trodAll_below hl hb ts vs' ds' q ht.2 h2 (fun x hx=>hlt x (by simp[hx])),rfl⟩
theorem trodAll_length {H:Type} {enc:TypeId × Value→H} {P:Program} {W:World} {base:Nat} {sp:Nat→Bool} {held:Bool}:∀ (ts:List TypeId) (vs:List Value) (ds:List (DataW H)) (ps:List MemPlace),
  DataW.TrodAll enc P W base sp held ts vs ds ps→ds.length=ts.length
 | [],vs,ds,ps,h=>by
   obtain⟨rfl,rfl,rfl⟩:=trodAll_nil h
   rfl
 | t :: ts,vs,ds,ps,h=>by
   obtain⟨v,vs',d,ds',p,q,rfl,rfl,rfl,h1,h2⟩:=trodAll_cons h
   simp[trodAll_length ts vs' ds' q h2]
theorem law_lifted {C:Checked} (own:ownKnob C.prog.godebug=none) (laid:laidOutB C.prog=true) {os:Os} (started:os.Started) {H:Type} (enc:TypeId × Value→H) (f:FuncId) (fn:Func) (s:ChangeSpec) (tb:TypeId)
  (noInit:C.prog.inits.idxOf? f=none) (hfn:C.prog.funcs[f]?=some fn)
  (witness:∃ (w:World) (tape:Tape) (i:Input),w.os=os∧(w.forCall tape i).Shaped C.prog∧i.vars=[]∧Input.okWide C.prog (w.forCall tape i) .any w.heap.size f i ∧
   s.pre6 enc C.prog fn [] false (w.forCall tape i).memory i.args∧({}:Assume).holds C.prog (lone (Frame.enter C.prog f i.args .normal) [] (w.forCall tape i)))
  (hv:s.vars=[]) (hrt:fn.resultTypes=#[tb]) (htb:C.prog.underlying tb=some .bool)
  (hts:(fn.params.toList.all fun t=>C.prog.readableRec t && decide (t < C.prog.types.size))=true)
  (hspec:∀ ds:List (DataW H),ds.length=fn.params.toList.length→s.fn H ds={ results:=[.lit (.bool true)],args:=ds })
  (walk:∀ (W:World) (base:Nat) (args:Array Value) (ds:List (DataW H)) (p:List MemPlace),
   (∀ (j:Nat) t v,fn.params[j]?=some t→args[j]?=some v→Value.okWide C.prog W .any base t v) →
   DataW.TrodAll enc C.prog W 0 (fun _=>true) true fn.params.toList args.toList ds p →
   (∀ x∈p,x.block < W.heap.size) →
   (DataW.weightsEach C.prog fn.params.toList ds).all (·≤reachBytes)=true →
   Calls C.prog f args W (Ret (.bool true) (Frm [] W))) :
  ReturnsInHanded {} C os f .any (s.pre6 enc C.prog fn [] false) (s.post enc C.prog fn false true false false):=by
 refine returnsInHanded_of_change_sized (C:=C) own started noInit hfn witness ?_
 intro W base args ds gs before hval hW _ hsz _
 have hvt:s.plain.varTypes C.prog=[]:=by
  simp[DataSpec.varTypes,ChangeSpec.plain,hv]
 have hW':=hW
 obtain⟨p,q,hA,hV,rfl,_,_⟩:=hW
 rw[hv] at hV
 obtain⟨rfl,rfl⟩:=trodVars_none hV
 simp only[List.append_nil] at hW'
 rw[hvt,List.append_nil,List.append_nil] at hsz
 have hlt:∀ x∈p,x.block < W.heap.size:=fun x hx=>by simpa using hW'.lt x hx
 refine(walk W base args ds p hval hA hlt hsz).mono ?_
 rintro e W' ⟨rfl,hf⟩
 have hB:Below W.heap.size W W':=hf.below (Nat.le_refl _) (by simp)
 have hsp:=hspec ds (trodAll_length _ _ _ _ hA)
 refine⟨_,rfl,ds,[],p,[],p,[],hW',?_,?_,?_,hB.frame _,fun h=>by cases h⟩
 ·rw[List.append_nil,hsp,hrt]
  exact trodAll_mk1 (shut_bool htb _)
 ·rw[List.append_nil,hsp]
  exact trodAll_below laid hB _ _ _ _ hts hA hlt
 ·rw[List.append_nil,hsp,hv]
  rfl
end Go.Proofs.YtkphhjekfimmlaaGreat
namespace Go.Proofs.YtkphhjekfimmlaaGreat
open Go.RowKit Go.BigFrame
theorem numL_snd {α:Type} (L:List α):(numL L).map Prod.snd=L:=by
 refine List.ext_getElem? fun i=>?_
 rw[List.getElem?_map,numL_at]
 cases L[i]? <;> rfl
theorem numL_pre {α:Type} {L:List α} {pre rest:List (Nat × α)} {y:Nat × α} (h:numL L=pre ++ y :: rest):y.1=pre.length∧pre.length < L.length:=by
 have h1:(numL L)[pre.length]?=some y:=by rw[h,List.getElem?_append_right (Nat.le_refl _),Nat.sub_self];rfl
 rw[numL_at,Option.map_eq_some_iff] at h1
 obtain⟨m,hm,rfl⟩:=h1
 exact⟨rfl,lt_of_some hm⟩
attribute [local go_sem] Oper.semAt_some
end Go.Proofs.YtkphhjekfimmlaaGreat
namespace Go.Proofs.YtkphhjekfimmlaaGreat
open Go.RowKit Go.BigFrame
def NoY (W:World) (yo:Option Addr):Prop:=yo=none∨∃ yb,yo=some ⟨yb,0,none⟩∧W.heap[yb]?=some (.cells #[.string { data:=#[] },.slice none 0 0,.int .i64 0,.int .i64 0,.pointer none] 114 (0,0))
section
variable {w w':World} {xo yo:Option Addr}
theorem NoY.frm (h:NoY w yo) (hf:Frm [] w w'):NoY w' yo:=by
 rcases h with h | ⟨xb,h1,h2⟩
 ·exact .inl h
 ·exact .inr ⟨xb,h1,hf.at h2 (by simp)⟩
theorem pNone_no (h:NoY w yo):Calls Tryz.prog 63 #[.pointer yo] w (Ret (.bool true) (w=·)):=by
 rcases h with rfl | ⟨yb,rfl,h⟩
 ·go_enter Tryz.func63,Tryz.ntmps63
  go_wp2
  go_ret
  exact⟨rfl,rfl⟩
 ·have c4:=cell_of h 4
  clear h
  go_enter Tryz.func63,Tryz.ntmps63
  go_wp2
  go_ret
  exact⟨rfl,rfl⟩
theorem pFirst_no (h:NoY w yo):Calls Tryz.prog 20 #[.pointer yo] w (Ret (.pointer none) (w=·)):=by
 have C1:=Lib.hid (pNone_no h)
 clear h
 go_enter Tryz.func20,Tryz.ntmps20
 go_wp2_with (first
  | (go_at_call 63;go_must (refine C1.out.mono ?_;rintro e w' ⟨rfl,rfl⟩)))
 go_ret
 exact⟨rfl,rfl⟩
end
end Go.Proofs.YtkphhjekfimmlaaGreat
namespace Go.Proofs.YtkphhjekfimmlaaGreat
open Go.ChangeShapes Go.WideShapes Go.ChangeAt Go.RowKit Go.Deep
theorem trodAll_two {H:Type} {enc:TypeId × Value→H} {P:Program} {w:World} {base:Nat} {spare:TypeId→Bool} {held:Bool} {t0 t1:TypeId} {args:Array Value} {ds:List (DataW H)} {ps:List MemPlace}
  (h:DataW.TrodAll enc P w base spare held [t0,t1] args.toList ds ps) :
  ∃ v0 v1 d0 d1 p0 p1,args=#[v0,v1]∧ds=[d0,d1]∧ps=p0 ++ p1∧DataW.Trod enc P w base spare held t0 v0 d0 p0∧DataW.Trod enc P w base spare held t1 v1 d1 p1:=by
 obtain⟨v0,_,d0,_,p0,_,hargs,rfl,rfl,h0,hrest⟩:=trodAll_cons h
 obtain⟨v1,_,d1,_,p1,_,rfl,rfl,rfl,h1,hrest⟩:=trodAll_cons hrest
 obtain⟨rfl,rfl,rfl⟩:=trodAll_nil hrest
 exact⟨v0,v1,d0,d1,p0,p1,by cases args;simp_all,rfl,by simp,h0,h1⟩
theorem trodAll_three {H:Type} {enc:TypeId × Value→H} {P:Program} {w:World} {base:Nat} {spare:TypeId→Bool} {held:Bool} {t0 t1 t2:TypeId} {args:Array Value} {ds:List (DataW H)} {ps:List MemPlace}
  (h:DataW.TrodAll enc P w base spare held [t0,t1,t2] args.toList ds ps) :
  ∃ v0 v1 v2 d0 d1 d2 p0 p1 p2,args=#[v0,v1,v2]∧ds=[d0,d1,d2]∧ps=p0 ++ p1 ++ p2∧DataW.Trod enc P w base spare held t0 v0 d0 p0∧DataW.Trod enc P w base spare held t1 v1 d1 p1∧DataW.Trod enc P w base spare held t2 v2 d2 p2:=by
 obtain⟨v0,_,d0,_,p0,_,hargs,rfl,rfl,h0,hrest⟩:=trodAll_cons h
 obtain⟨v1,_,d1,_,p1,_,rfl,rfl,rfl,h1,hrest⟩:=trodAll_cons hrest
 obtain⟨v2,_,d2,_,p2,_,rfl,rfl,rfl,h2,hrest⟩:=trodAll_cons hrest
 obtain⟨rfl,rfl,rfl⟩:=trodAll_nil hrest
 exact⟨v0,v1,v2,d0,d1,d2,p0,p1,p2,by cases args;simp_all,rfl,by simp,h0,h1,h2⟩
end Go.Proofs.YtkphhjekfimmlaaGreat
namespace Go.Proofs.YtkphhjekfimmlaaGreat
open Go.ChangeShapes Go.WideShapes Go.ChangeAt Go.RowKit
theorem Tryz.own:ownKnob Tryz.prog.godebug=none:=by kernel_rfl
theorem Tryz.laidOut:laidOutB Tryz.prog=true:=by kernel_rfl
end Go.Proofs.YtkphhjekfimmlaaGreat
namespace Go.Proofs.YtkphhjekfimmlaaGreat
open Go
structure Nd where
 st:PS
 par:Int
 mv:Mv
 lvl:Nat
 deriving DecidableEq
def mv0:Mv:=⟨0,0,0,0⟩
def hasK (s:SesD) (N:List Nd) (k:List UInt8):Bool:=N.any fun d=>decide (keyP s d.st=k)
def addMv (s:SesD) (lim:Nat) (x:PS) (n lvl:Nat):List Nd→List Mv→List Nd × Bool
 | N,[]=>(N,true)
 | N,m :: ms =>
   if hasK s N (keyP s (nextP s x m)) then addMv s lim x n lvl N ms
   else if N.length=lim then (N,false)
   else addMv s lim x n lvl (N ++ [⟨nextP s x m,n,m,lvl + 1⟩]) ms
def bfs (s:SesD) (lim:Nat):Nat→Nat→List Nd→List Nd × Bool
 | 0,_,N=>(N,true)
 | f + 1,n,N=>match N[n]? with
   | none=>(N,true)
   | some d=>match addMv s lim d.st n d.lvl N (movesP s d.st) with
     | (N',true)=>bfs s lim f (n + 1) N'
     | (N',false)=>(N',false)
def nd0 (s:SesD):Nd:=⟨firstP s,-1,mv0,0⟩
def searchP (s:SesD) (lim:Nat):List Nd × Bool:=bfs s lim (lim + 1) 0 [nd0 s]
structure SI (s:SesD) (lim:Nat) (n:Nat) (N:List Nd):Prop where
 ok:∀ d∈N,PSok s d.st
 one:N[0]?=some (nd0 s)
 top:N.length≤lim
 nn:n≤N.length
 dist:∀ (i j:Nat) (a b:Nd),N[i]?=some a→N[j]?=some b→keyP s a.st=keyP s b.st→i=j
 par:∀ (i:Nat) (a:Nd),N[i]?=some a→0 < i→∃ (p:Nat) (b:Nd),a.par=p∧p < i∧N[p]?=some b∧a.mv∈movesP s b.st∧a.st=nextP s b.st a.mv∧a.lvl=b.lvl + 1
 mono:∀ (i j:Nat) (a b:Nd),N[i]?=some a→N[j]?=some b→i≤j→a.lvl≤b.lvl
theorem hasK_iff {s:SesD} {N:List Nd} {k:List UInt8}:hasK s N k=true↔∃ (i:Nat) (d:Nd),N[i]?=some d∧keyP s d.st=k:=by
 unfold hasK
 rw[List.any_eq_true]
 constructor
 ·rintro⟨d,hd,h⟩
  obtain⟨i,hi⟩:=List.getElem?_of_mem hd
  exact⟨i,d,hi,of_decide_eq_true h⟩
 ·rintro⟨i,d,hi,h⟩
  exact⟨d,List.mem_of_getElem? hi,decide_eq_true h⟩
section
variable {s:SesD} {lim:Nat}
theorem SI.start (h:SesOk s) (hl:1≤lim):SI s lim 0 [nd0 s]:=by
 refine⟨fun d hd=>?_,rfl,by simpa using hl,Nat.zero_le _,fun i j a b hi hj _=>?_,fun i a hi h0=>?_,fun i j a b hi hj _=>?_⟩
 ·rw[List.mem_singleton] at hd;subst hd;exact first_ok h
 ·have h1:=lt_of_some hi;have h2:=lt_of_some hj;simp at h1 h2;omega
 ·have h1:=lt_of_some hi;simp at h1;omega
 ·have h1:=lt_of_some hi;have h2:=lt_of_some hj
  simp at h1 h2
  subst h1;subst h2
  rw[hi] at hj;cases hj;exact Nat.le_refl _
structure SJ (s:SesD) (lim:Nat) (n:Nat) (d:Nd) (N:List Nd):Prop extends SI s lim n N where
 at':N[n]?=some d
 deep:∀ a∈N,a.lvl≤d.lvl + 1
theorem SJ.add {n:Nat} {d:Nd} {N:List Nd} (hs:SesOk s) (h:SJ s lim n d N) {m:Mv} (hm:m∈movesP s d.st) (hk:hasK s N (keyP s (nextP s d.st m))=false) (hl:N.length≠lim) :
  SJ s lim n d (N ++ [⟨nextP s d.st m,n,m,d.lvl + 1⟩]):=by
 have hd:=h.ok d (List.mem_of_getElem? h.at')
 have hn:=lt_of_some h.at'
 have hlen:(N ++ [(⟨nextP s d.st m,n,m,d.lvl + 1⟩:Nd)]).length=N.length + 1:=by simp
 have hg:∀ (i:Nat) (a:Nd),(N ++ [⟨nextP s d.st m,n,m,d.lvl + 1⟩])[i]?=some a→N[i]?=some a∨i=N.length∧a=⟨nextP s d.st m,n,m,d.lvl + 1⟩:=by
  intro i a hi
  by_cases e:i < N.length
  ·rw[List.getElem?_append_left e] at hi;exact .inl hi
  ·rw[List.getElem?_append_right (by omega)] at hi
   have h1:=lt_of_some hi
   simp at h1
   obtain rfl:i=N.length:=by omega
   simp at hi
   exact .inr ⟨rfl,hi.symm⟩
 have hk':∀ (i:Nat) (a:Nd),N[i]?=some a→keyP s a.st≠keyP s (nextP s d.st m):=by
  intro i a hi e
  rw[hasK_iff.2 ⟨i,a,hi,e⟩] at hk;cases hk
 have hlim:=h.top
 refine⟨⟨fun a ha=>?_,?_,by omega,?_,?_,?_,?_⟩,?_,?_⟩
 ·rcases List.mem_append.1 ha with ha | ha
  ·exact h.ok a ha
  ·rw[List.mem_singleton] at ha;subst ha;exact next_ok hs hd hm
 ·rw[List.getElem?_append_left (by omega)];exact h.one
 ·have:=h.nn;omega
 ·intro i j a b hi hj e
  rcases hg i a hi with h1 | ⟨rfl,rfl⟩ <;> rcases hg j b hj with h2 | ⟨rfl,rfl⟩
  ·exact h.dist i j a b h1 h2 e
  ·exact absurd e (hk' i a h1)
  ·exact absurd e.symm (hk' j b h2)
  ·rfl
 ·intro i a hi h0
  rcases hg i a hi with h1 | ⟨rfl,rfl⟩
  ·obtain⟨p,b,e1,e2,e3,e4⟩:=h.par i a h1 h0
   exact⟨p,b,e1,e2,by rw[List.getElem?_append_left (lt_of_some e3)];exact e3,e4⟩
  ·exact⟨n,d,rfl,hn,by rw[List.getElem?_append_left hn];exact h.at',hm,rfl,rfl⟩
 ·intro i j a b hi hj hij
  rcases hg i a hi with h1 | ⟨rfl,rfl⟩ <;> rcases hg j b hj with h2 | ⟨rfl,rfl⟩
  ·exact h.mono i j a b h1 h2 hij
  ·exact h.deep a (List.mem_of_getElem? h1)
  ·have:=lt_of_some h2;omega
  ·exact Nat.le_refl _
 ·rw[List.getElem?_append_left hn];exact h.at'
 ·intro a ha
  rcases List.mem_append.1 ha with ha | ha
  ·exact h.deep a ha
  ·rw[List.mem_singleton] at ha;subst ha;exact Nat.le_refl _
theorem hasK_append {N M:List Nd} {k:List UInt8} (h:hasK s N k=true):hasK s (N ++ M) k=true:=by
 unfold hasK at h ⊢
 rw[List.any_append,h];rfl
theorem addMv_ok (hs:SesOk s) {n:Nat} {d:Nd}:∀ (ms:List Mv) (N:List Nd),SJ s lim n d N→(∀ m∈ms,m∈movesP s d.st) →
  SJ s lim n d (addMv s lim d.st n d.lvl N ms).1∧(∃ M,(addMv s lim d.st n d.lvl N ms).1=N ++ M) ∧
  ((addMv s lim d.st n d.lvl N ms).2=true→∀ m∈ms,hasK s (addMv s lim d.st n d.lvl N ms).1 (keyP s (nextP s d.st m))=true) ∧
  ((addMv s lim d.st n d.lvl N ms).2=false→(addMv s lim d.st n d.lvl N ms).1.length=lim∧∃ m∈ms,hasK s (addMv s lim d.st n d.lvl N ms).1 (keyP s (nextP s d.st m))=false)
 | [],N,h,_=>⟨h,⟨[],by simp[addMv]⟩,fun _ m hm=>by simp at hm,fun e=>by cases e⟩
 | m :: ms,N,h,hm=>by
   rw[addMv]
   cases hk:hasK s N (keyP s (nextP s d.st m)) with
   | true =>
     simp only[if_true]
     obtain⟨h1,⟨M,h2⟩,h3,h4⟩:=addMv_ok hs ms N h (fun x hx=>hm x (by simp[hx]))
     refine⟨h1,⟨M,h2⟩,fun e x hx=>?_,fun e=>?_⟩
     ·rcases List.mem_cons.1 hx with rfl | hx
      ·rw[h2];exact hasK_append hk
      ·exact h3 e x hx
     ·obtain⟨g1,x,g2,g3⟩:=h4 e
      exact⟨g1,x,by simp[g2],g3⟩
   | false =>
     simp only[Bool.false_eq_true,if_false]
     by_cases hl:N.length=lim
     ·rw[if_pos hl]
      exact⟨h,⟨[],by simp⟩,(fun e=>by cases e),fun _=>⟨hl,m,by simp,hk⟩⟩
     ·rw[if_neg hl]
      obtain⟨h1,⟨M,h2⟩,h3,h4⟩:=addMv_ok hs ms _ (h.add hs (hm m (by simp)) hk hl) (fun x hx=>hm x (by simp[hx]))
      refine⟨h1,⟨[⟨nextP s d.st m,n,m,d.lvl + 1⟩] ++ M,by rw[h2];simp⟩,fun e x hx=>?_,fun e=>?_⟩
      ·rcases List.mem_cons.1 hx with rfl | hx
       ·rw[h2]
        refine hasK_append (hasK_iff.2 ⟨N.length,⟨nextP s d.st x,n,x,d.lvl + 1⟩,by simp,rfl⟩)
       ·exact h3 e x hx
      ·obtain⟨g1,x,g2,g3⟩:=h4 e
       exact⟨g1,x,by simp[g2],g3⟩
def ClosedN (s:SesD) (n:Nat) (N:List Nd):Prop:=∀ (i:Nat) (a:Nd),i < n→N[i]?=some a→∀ m∈movesP s a.st,∃ (j:Nat) (b:Nd),N[j]?=some b∧keyP s b.st=keyP s (nextP s a.st m)∧b.lvl≤a.lvl + 1
structure Found (s:SesD) (lim:Nat) (R:List Nd × Bool) (n:Nat):Prop extends SI s lim n R.1 where
 closed:ClosedN s n R.1
 deep:∀ (i:Nat) (a:Nd),n≤i→R.1[i]?=some a→∀ b∈R.1,b.lvl≤a.lvl + 1
 whole:R.2=true→n=R.1.length
 cut:R.2=false→R.1.length=lim∧n < R.1.length
theorem SI.next {n:Nat} {d:Nd} {N:List Nd} (h:SI s lim n N) (hd:N[n]?=some d) (hb:∀ a∈N,a.lvl≤d.lvl + 1):SJ s lim n d N:=⟨h,hd,hb⟩
theorem SI.up {n:Nat} {N:List Nd} (h:SI s lim n N) (hn:n < N.length):SI s lim (n + 1) N:=⟨h.ok,h.one,h.top,hn,h.dist,h.par,h.mono⟩
theorem ClosedN.more {n k:Nat} {N M:List Nd} (h:ClosedN s n N) (hk:k≤n) (hn:n≤N.length):ClosedN s k (N ++ M):=by
 intro i a hi ha m hm
 rw[List.getElem?_append_left (by omega)] at ha
 obtain⟨j,b,h1,h2⟩:=h i a (by omega) ha m hm
 exact⟨j,b,by rw[List.getElem?_append_left (lt_of_some h1)];exact h1,h2⟩
theorem bfs_ok (hs:SesOk s):∀ (f n:Nat) (N:List Nd),SI s lim n N→ClosedN s n N→(∀ (d:Nd),N[n]?=some d→∀ a∈N,a.lvl≤d.lvl + 1)→lim + 1≤n + f→∃ k,Found s lim (bfs s lim f n N) k
 | 0,n,N,h,hc,hb,hf=>by
   have:=h.nn;have:=h.top;omega
 | f + 1,n,N,h,hc,hb,hf=>by
   rw[bfs]
   cases hd:N[n]? with
   | none =>
     have hn:N.length≤n:=List.getElem?_eq_none_iff.1 hd
     have hnn:=h.nn
     exact⟨n,h,hc,(fun i a hi ha=>by have:=lt_of_some ha;simp only at this;omega),(fun _=>by simp only;omega),fun e=>by cases e⟩
   | some d =>
     simp only
     have hj:=h.next hd (hb d hd)
     obtain⟨h1,⟨M,h2⟩,h3,h4⟩:=addMv_ok hs (movesP s d.st) N hj (fun m hm=>hm)
     generalize hR:addMv s lim d.st n d.lvl N (movesP s d.st)=R at h1 h2 h3 h4
     obtain⟨N',b⟩:=R
     simp only at h1 h2 h3 h4
     have hn:=lt_of_some h1.at'
     have hold:∀ (i:Nat) (a:Nd),i < N.length→N'[i]?=some a→N[i]?=some a:=fun i a hi ha=>by rw[h2,List.getElem?_append_left hi] at ha;exact ha
     have hdeep:∀ (i:Nat) (a:Nd),n≤i→N'[i]?=some a→∀ b∈N',b.lvl≤a.lvl + 1:=fun i a hi ha b hb=>by
      have h5:=h1.deep b hb
      have h6:=h1.mono n i d a h1.at' ha hi
      omega
     cases b with
     | true =>
       simp only
       refine bfs_ok hs f (n + 1) N' (h1.toSI.up hn) (fun i a hi ha m hm=>?_) (fun e he a ha=>hdeep (n + 1) e (by omega) he a ha) (by omega)
       by_cases e:i=n
       ·subst e
        rw[h1.at'] at ha
        cases ha
        obtain⟨j,b,g1,g2⟩:=hasK_iff.1 (h3 rfl m hm)
        exact⟨j,b,g1,g2,h1.deep b (List.mem_of_getElem? g1)⟩
       ·have h5:=hc.more (M:=M) (Nat.le_refl _) h.nn
        rw[← h2] at h5
        exact h5 i a (by omega) ha m hm
     | false =>
       simp only
       refine⟨n,h1.toSI,?_,hdeep,(fun e=>by cases e),fun _=>⟨(h4 rfl).1,hn⟩⟩
       simp only
       rw[h2]
       exact hc.more (Nat.le_refl _) h.nn
theorem search_ok (hs:SesOk s) (hl:1≤lim):∃ n,Found s lim (searchP s lim) n:=
 bfs_ok hs (lim + 1) 0 [nd0 s] (SI.start hs hl) (fun i a hi _=>by omega) (fun d hd a ha=>by
  rw[List.mem_singleton] at ha
  subst ha
  exact Nat.zero_le _) (by omega)
theorem Found.move {R:List Nd × Bool} {n:Nat} (h:Found s lim R n) {i j:Nat} {a b:Nd} (ha:R.1[i]?=some a) (hb:R.1[j]?=some b) {m:Mv} (hm:m∈movesP s a.st) (hk:keyP s b.st=keyP s (nextP s a.st m)):b.lvl≤a.lvl + 1:=by
 by_cases e:i < n
 ·obtain⟨j',b',h1,h2,h3⟩:=h.closed i a e ha m hm
  obtain rfl:=h.dist j j' b b' hb h1 (by rw[hk,h2])
  rw[hb] at h1;cases h1
  exact h3
 ·exact h.deep i a (by omega) ha b (List.mem_of_getElem? hb)
def trc (N:List Nd):Nat→Nat→List Mv
 | 0,_=>[]
 | f + 1,n=>match N[n]? with
   | none=>[]
   | some d=>if d.par < 0 then [] else trc N f d.par.toNat ++ [d.mv]
def traceP (N:List Nd) (n:Nat):List Mv:=trc N (n + 1) n
theorem trc_more {n:Nat} {N:List Nd} (h:SI s lim n N):∀ (f k:Nat),k < f→trc N f k=traceP N k:=by
 intro f
 induction f using Nat.strongRecOn with
 | _ f ih =>
   intro k hk
   match f,ih,hk with
   | 0,_,hk=>omega
   | f + 1,ih,hk =>
     unfold traceP
     rw[trc,trc]
     cases hd:N[k]? with
     | none=>rfl
     | some d =>
       simp only
       by_cases e:d.par < 0
       ·rw[if_pos e,if_pos e]
       ·rw[if_neg e,if_neg e]
        have hp:∃ p:Nat,d.par=p∧p < k:=by
         rcases Nat.eq_zero_or_pos k with h0 | h0
         ·subst h0
          rw[h.one] at hd;cases hd
          exact absurd (show (-1:Int) < 0 by decide) e
         ·obtain⟨p,b,e1,e2,-⟩:=h.par k d hd h0
          exact⟨p,e1,e2⟩
        obtain⟨p,e1,e2⟩:=hp
        rw[e1,Int.toNat_natCast]
        by_cases hkf:k=f
        ·subst hkf;rfl
        ·rw[ih f (by omega) p (by omega),ih k (by omega) p (by omega)]
theorem trace_zero {n:Nat} {N:List Nd} (h:SI s lim n N):traceP N 0=[]:=by
 unfold traceP
 rw[trc,h.one]
 rfl
theorem trace_step {n:Nat} {N:List Nd} (h:SI s lim n N) {i p:Nat} {d:Nd} (hd:N[i]?=some d) (hp:d.par=p) (hpi:p < i):traceP N i=traceP N p ++ [d.mv]:=by
 rw[← trc_more h (i + 1) i (by omega),trc,hd]
 simp only
 rw[hp,if_neg (by omega),Int.toNat_natCast,trc_more h _ _ hpi]
def follow (s:SesD):PS→List Mv→Option PS
 | x,[]=>some x
 | x,m :: l=>if m∈movesP s x then follow s (nextP s x m) l else none
theorem follow_append (s:SesD):∀ (l k:List Mv) (x:PS),follow s x (l ++ k)=(follow s x l).bind fun z=>follow s z k
 | [],k,x=>rfl
 | m :: l,k,x=>by
   rw[List.cons_append,follow,follow]
   split
   ·exact follow_append s l k _
   ·rfl
theorem trace_leads {n:Nat} {N:List Nd} (h:SI s lim n N):∀ (i:Nat) (d:Nd),N[i]?=some d→follow s (firstP s) (traceP N i)=some d.st∧(traceP N i).length=d.lvl:=by
 intro i
 induction i using Nat.strongRecOn with
 | _ i ih =>
   intro d hd
   rcases Nat.eq_zero_or_pos i with h0 | h0
   ·subst h0
    rw[h.one] at hd;cases hd
    rw[trace_zero h]
    exact⟨rfl,rfl⟩
   ·obtain⟨p,b,e1,e2,e3,e4,e5,e6⟩:=h.par i d hd h0
    obtain⟨g1,g2⟩:=ih p e2 b e3
    rw[trace_step h hd e1 e2,follow_append,g1]
    refine⟨?_,by rw[List.length_append,g2,e6];rfl⟩
    show follow s b.st [d.mv]=_
    rw[follow,if_pos e4,follow,e5]
end
end Go.Proofs.YtkphhjekfimmlaaGreat
namespace Go.Proofs.YtkphhjekfimmlaaGreat
open Go.RowKit Go.BigFrame Go.Maps
def ndC1 (d:Nd × Nat):List Value:=[.pointer (some ⟨d.2,0,none⟩),.int .i64 d.1.par,.int .i64 d.1.mv.kind,.int .i64 d.1.mv.role,.int .i64 d.1.mv.step,.int .i64 d.1.mv.place,.int .i64 d.1.lvl]
abbrev ndV (d:Nd × Nat):Value:=.agg #[.pointer (some ⟨d.2,0,none⟩),.int .i64 d.1.par,.int .i64 d.1.mv.kind,.int .i64 d.1.mv.role,.int .i64 d.1.mv.step,.int .i64 d.1.mv.place,.int .i64 d.1.lvl]
def ndC (N:List (Nd × Nat)):List Value:=N.flatMap ndC1
theorem ndC_length (N:List (Nd × Nat)):(ndC N).length=N.length * 7:=by
 induction N with
 | nil=>rfl
 | cons d N ih=>unfold ndC at ih ⊢;rw[List.flatMap_cons,List.length_append,ih];simp[ndC1];omega
theorem ndC_append (A B:List (Nd × Nat)):ndC (A ++ B)=ndC A ++ ndC B:=by unfold ndC;rw[List.flatMap_append]
theorem ndC_one (d:Nd × Nat):ndC [d]=ndC1 d:=by unfold ndC;simp
theorem ndC_at {N:List (Nd × Nat)}:∀ {i:Nat} {d:Nd × Nat},N[i]?=some d→∀ j,j < 7→(ndC N)[i * 7 + j]?=(ndC1 d)[j]?:=by
 induction N with
 | nil=>intro i d h;simp at h
 | cons a N ih =>
   intro i d h j hj
   have e:ndC (a :: N)=ndC1 a ++ ndC N:=rfl
   have h7:(ndC1 a).length=7:=rfl
   rw[e]
   cases i with
   | zero=>simp at h;subst h;rw[List.getElem?_append_left (by omega)];congr 1;omega
   | succ i=>rw[List.getElem?_append_right (by omega),h7,show (i + 1) * 7 + j - 7=i * 7 + j by omega];exact ih (by simpa using h) j hj
structure NdAt (W:World) (b o:Nat) (d:Nd × Nat):Prop where
 c0:W.cell? ⟨b,o,none⟩=some (.pointer (some ⟨d.2,0,none⟩))
 c1:W.cell? ⟨b,o + 1,none⟩=some (.int .i64 d.1.par)
 c2:W.cell? ⟨b,o + 2,none⟩=some (.int .i64 d.1.mv.kind)
 c3:W.cell? ⟨b,o + 3,none⟩=some (.int .i64 d.1.mv.role)
 c4:W.cell? ⟨b,o + 4,none⟩=some (.int .i64 d.1.mv.step)
 c5:W.cell? ⟨b,o + 5,none⟩=some (.int .i64 d.1.mv.place)
 c6:W.cell? ⟨b,o + 6,none⟩=some (.int .i64 d.1.lvl)
theorem NdAt.frm {W V:World} {b o:Nat} {d:Nd × Nat} (h:NdAt W b o d) (hf:Frm [] W V):NdAt V b o d:=⟨hf.keep h.c0,hf.keep h.c1,hf.keep h.c2,hf.keep h.c3,hf.keep h.c4,hf.keep h.c5,hf.keep h.c6⟩
theorem nd_arr {W:World} {base:Nat} {v:Value} {N:List (Nd × Nat)} (h:W.ownsRow base 192 7 v N.length (ndC N)):Arr 7 NdAt W v N:=by
 obtain⟨ao,cap,rfl⟩:=own_shape h
 refine⟨ao,cap,rfl,fun i d hd=>?_⟩
 have hl:=lt_of_some hd
 obtain⟨g,c,cur,e,-,-⟩:=own_block h (by omega)
 cases e
 have hc:=fun j hj=>World.ownsRow.cellAt h j hj
 have a:=ndC_at hd
 have hlen:=ndC_length N
 refine⟨g,0,rfl,?_⟩
 rw[Nat.zero_add]
 have k:∀ j u,j < 7→(ndC1 d)[j]?=some u→W.cell? ⟨g,i * 7 + j,none⟩=some u:=fun j u hj hu=>(hc _ (by omega)).trans ((a j hj).trans hu)
 exact⟨k 0 _ (by omega) rfl,k 1 _ (by omega) rfl,k 2 _ (by omega) rfl,k 3 _ (by omega) rfl,k 4 _ (by omega) rfl,k 5 _ (by omega) rfl,k 6 _ (by omega) rfl⟩
def findP (s:SesD) (N:List Nd) (k:List UInt8):Option Nat:=N.findIdx? fun d=>decide (keyP s d.st=k)
def keyF (s:SesD) (N:List Nd):Lit→Option Value
 | .string k=>(findP s N k).map fun i=>.int .i64 (i:Nat)
 | _=>none
theorem findP_none {s:SesD} {N:List Nd} {k:List UInt8}:(findP s N k).isSome=hasK s N k:=by
 unfold findP hasK
 rw[List.findIdx?_isSome]
theorem findP_at {s:SesD} {N:List Nd} {k:List UInt8} {i:Nat} (h:findP s N k=some i):∃ d,N[i]?=some d∧keyP s d.st=k:=by
 unfold findP at h
 obtain⟨hl,h1,-⟩:=List.findIdx?_eq_some_iff_getElem.1 h
 exact⟨_,List.getElem?_eq_getElem hl,of_decide_eq_true h1⟩
theorem keyF_nil (s:SesD):keyF s []=fun _=>none:=by
 funext k
 cases k <;> rfl
theorem keyF_snoc {s:SesD} {N:List Nd} {d:Nd} (h:hasK s N (keyP s d.st)=false):keyF s (N ++ [d])=updL (keyF s N) (.string (keyP s d.st)) (some (.int .i64 (N.length:Nat))):=by
 funext k
 by_cases e:k=.string (keyP s d.st)
 ·subst e
  rw[updL_same]
  have h0:findP s N (keyP s d.st)=none:=by rw[← Option.not_isSome_iff_eq_none,findP_none,h];simp
  unfold findP at h0
  simp only[keyF,findP,List.findIdx?_append,h0]
  simp[List.findIdx?_cons]
 ·rw[updL_other _ _ e]
  cases k with
  | string b =>
    have hne:¬ keyP s d.st=b:=fun e'=>e (by rw[e'])
    simp only[keyF,findP,List.findIdx?_append]
    simp[List.findIdx?_cons,hne]
  | _=>rfl
def NdG (W:World) (u:Value):Prop:=(∀ x,u≠.string x)∧(∀ a n c,u≠.slice a n c)∧∀ p,u=.pointer (some ⟨p,0,none⟩)→Ty W p 119
theorem NdG.frm {W V:World} {F:List Nat} {u:Value} (h:NdG W u) (hf:Frm F W V) (hn:∀ p,Ty W p 119→p∉F):NdG V u:=⟨h.1,h.2.1,fun p e=>(h.2.2 p e).frm hf (hn p (h.2.2 p e))⟩
structure SpR (w:World) (s:SesD) (yb:Nat) (lim:Int) (whole:Bool) (qb mb:Nat) (N:List (Nd × Nat)) (W:World):Prop where
 fr:Frm [] w W
 lq:w.heap.size≤qb
 lm:w.heap.size≤mb
 bx:∃ ao cap,W.heap[qb]?=some (.cells #[.int .i64 lim,.bool whole,.slice ao N.length cap,.map (some mb)] 190 (0,0))∧W.ownsRow w.heap.size 192 7 (.slice ao N.length cap) N.length (ndC N)∧RowG (NdG W) 192 (.slice ao N.length cap) W
 mp:MapAt Tryz.prog 9 W (some mb) N.length (keyF s (N.map Prod.fst)) N.length
 st:∀ d∈N,StR W s yb d.2 d.1.st
structure SpO (W:World) (s:SesD) (yb:Nat) (whole:Bool) (pb:Nat) (N:List (Nd × Nat)):Prop where
 out:∃ qb mb lim ao cap,W.heap[pb]?=some (.cells #[.pointer (some ⟨qb,0,none⟩)] 129 (0,0))∧W.heap[qb]?=some (.cells #[.int .i64 lim,.bool whole,.slice ao N.length cap,.map (some mb)] 190 (0,0)) ∧
  Arr 7 NdAt W (.slice ao N.length cap) N∧MapAt Tryz.prog 9 W (some mb) N.length (keyF s (N.map Prod.fst)) N.length
 st:∀ d∈N,StR W s yb d.2 d.1.st
def RowOf (W:World) (qb k:Nat):Prop:=∃ a b v m,W.heap[qb]?=some (.cells #[a,b,v,m] 190 (0,0))∧v.ownBlock=some k
def SpB (W:World) (qb b:Nat):Prop:=FgB W b∧((∃ es c,W.heap[b]?=some (.map es c))∨Ty W b 190∨(Ty W b 192∧RowOf W qb b))
theorem cell_map {W:World} {b o:Nat} {es:Array MapEntry} {c:Nat} (h:W.heap[b]?=some (.map es c)):W.cell? ⟨b,o,none⟩=none:=by simp[World.cell?,h]
section
variable {w W V:World} {s:SesD} {yb qb mb pb:Nat} {lim:Int} {whole:Bool} {N:List (Nd × Nat)}
theorem SpR.frm (h:SpR w s yb lim whole qb mb N W) (hf:Frm [] W V):SpR w s yb lim whole qb mb N V:=by
 obtain⟨ao,cap,h1,h2,h3⟩:=h.bx
 refine⟨h.fr.trans hf,h.lq,h.lm,⟨ao,cap,hf.at h1 (by simp),hf.owns h2 (by simp),fun g cur hg hc u hu=>?_⟩,h.mp.frm hf (by simp),fun d hd=>(h.st d hd).frm hf⟩
 obtain⟨c,hc'⟩:=ownBlock_type h2 hg
 have:=hf.at hc' (by simp)
 rw[this] at hc
 cases hc
 exact(h3 g _ hg hc' u hu).frm hf (by simp)
theorem SpO.frm (h:SpO W s yb whole pb N) (hf:Frm [] W V):SpO V s yb whole pb N:=by
 obtain⟨qb,mb,lim,ao,cap,h1,h2,h3,h4⟩:=h.out
 exact⟨⟨qb,mb,lim,ao,cap,hf.at h1 (by simp),hf.at h2 (by simp),h3.frm fun _ _ _ h=>h.frm hf,h4.frm hf (by simp)⟩,fun d hd=>(h.st d hd).frm hf⟩
theorem SpR.done (h:SpR w s yb lim whole qb mb N W) (hp:W.heap[pb]?=some (.cells #[.pointer (some ⟨qb,0,none⟩)] 129 (0,0))):SpO W s yb whole pb N:=by
 obtain⟨ao,cap,h1,h2,h3⟩:=h.bx
 exact⟨⟨qb,mb,lim,ao,cap,hp,h1,nd_arr h2,h.mp⟩,h.st⟩
theorem SpR.fgm (h:SpR w s yb lim whole qb mb N W):SpB W qb mb:=by
 obtain⟨es,c,hb⟩:=h.mp.block rfl
 exact⟨⟨fun C t e=>(by rw[hb] at e;cases e),fun o x e=>(by rw[cell_map hb] at e;cases e),fun o p e=>(by rw[cell_map hb] at e;cases e),fun o g o' p n c e=>(by rw[cell_map hb] at e;cases e)⟩,.inl ⟨_,_,hb⟩⟩
theorem SpR.fgq (h:SpR w s yb lim whole qb mb N W):SpB W qb qb:=by
 obtain⟨ao,cap,h1,h2,h3⟩:=h.bx
 have c:=fun o=>cell_of h1 o
 refine⟨⟨fun C t e=>?_,fun o x e=>?_,fun o p e=>?_,fun o g o' p n c' e e2=>?_⟩,.inr (.inl ⟨_,h1⟩)⟩
 ·rw[h1] at e;cases e;decide
 ·rw[c] at e
  match o,e with
  | 0,e=>cases e
  | 1,e=>cases e
  | 2,e=>cases e
  | 3,e=>cases e
  | o + 4,e=>simp at e
 ·rw[c] at e
  match o,e with
  | 0,e=>cases e
  | 1,e=>cases e
  | 2,e=>cases e
  | 3,e=>cases e
  | o + 4,e=>simp at e
 ·rw[c] at e
  match o,e with
  | 0,e=>cases e
  | 1,e=>cases e
  | 2,e =>
    cases e
    obtain⟨cu,hcu⟩:=ownBlock_type h2 rfl
    have hu:∃ u∈cu,u=Value.pointer (some ⟨p,0,none⟩):=by
     rw[cell_of hcu] at e2
     exact⟨_,Array.mem_of_getElem? e2,rfl⟩
    obtain⟨u,hu,rfl⟩:=hu
    obtain⟨d,hd⟩:=(h3 g _ rfl hcu _ hu).2.2 p rfl
    intro C t e3
    rw[hd] at e3;cases e3
    decide
  | 3,e=>cases e
  | o + 4,e=>simp at e
theorem SpR.fgr {ao:Option Addr} {cap g:Nat} (h1:W.heap[qb]?=some (.cells #[.int .i64 lim,.bool whole,.slice ao N.length cap,.map (some mb)] 190 (0,0))) (h2:W.ownsRow w.heap.size 192 7 (.slice ao N.length cap) N.length (ndC N)) (h3:RowG (NdG W) 192 (.slice ao N.length cap) W) (hg:(Value.slice ao N.length cap).ownBlock=some g):SpB W qb g:=by
 obtain⟨cu,hcu⟩:=ownBlock_type h2 hg
 have k:∀ o u,W.cell? ⟨g,o,none⟩=some u→NdG W u:=fun o u e=>by
  rw[cell_of hcu] at e
  exact h3 g _ hg hcu u (Array.mem_of_getElem? e)
 refine⟨⟨fun C t e=>?_,fun o x e=>(k o _ e).1 x rfl,fun o p e C t e2=>?_,fun o g o' p n c e=>absurd rfl ((k o _ e).2.1 _ _ _)⟩,.inr (.inr ⟨⟨_,hcu⟩,_,_,_,_,h1,hg⟩)⟩
 ·rw[hcu] at e;cases e;decide
 ·obtain⟨D,hD⟩:=(k o _ e).2.2 p rfl
  rw[hD] at e2;cases e2
  exact⟨by decide,by decide⟩
theorem SpB.at {F:List Nat} (hb:∀ b∈F,SpB W qb b) (hf:Frm F W V) {k:Nat} {C:Array Value} {t:TypeId} (hk:W.heap[k]?=some (.cells C t (0,0))) (h1:t≠190) (h2:t≠192∨¬ RowOf W qb k):V.heap[k]?=some (.cells C t (0,0)):=
 hf.at hk fun hm=>by
  rcases (hb k hm).2 with ⟨es,c,e⟩ | ⟨D,e⟩ | ⟨⟨D,e⟩,e2⟩ <;> rw[hk] at e <;> cases e
  ·exact h1 rfl
  ·rcases h2 with h2 | h2
   ·exact h2 rfl
   ·exact h2 e2
theorem SpB.fg {F:List Nat} (hb:∀ b∈F,SpB W qb b):∀ b∈F,FgB W b:=fun b hm=>(hb b hm).1
theorem SpR.spB {ao:Option Addr} {cap:Nat} (h:SpR w s yb lim whole qb mb N W) (b1:W.heap[qb]?=some (.cells #[.int .i64 lim,.bool whole,.slice ao N.length cap,.map (some mb)] 190 (0,0))) (b2:W.ownsRow w.heap.size 192 7 (.slice ao N.length cap) N.length (ndC N)) (b3:RowG (NdG W) 192 (.slice ao N.length cap) W):∀ b∈mb :: qb :: (Value.slice ao N.length cap).ownBlock.toList,SpB W qb b:=fun b hb=>by
 rcases List.mem_cons.1 hb with rfl | hb
 ·exact h.fgm
 rcases List.mem_cons.1 hb with rfl | hb
 ·exact h.fgq
 rw[Option.mem_toList] at hb
 exact SpR.fgr b1 b2 b3 hb
theorem SpR.add {W1 W2 W3:World} {d:Nd} {sb:Nat} {ao:Option Addr} {cap:Nat} {v':Value} (h:SpR w s yb lim whole qb mb N W) (hs:0 < s.roles.length) (hd:StR W s yb sb d.st) (hk:hasK s (N.map Prod.fst) (keyP s d.st)=false)
  (b1:W.heap[qb]?=some (.cells #[.int .i64 lim,.bool whole,.slice ao N.length cap,.map (some mb)] 190 (0,0))) (b2:W.ownsRow w.heap.size 192 7 (.slice ao N.length cap) N.length (ndC N)) (b3:RowG (NdG W) 192 (.slice ao N.length cap) W)
  (hm:MapAt Tryz.prog 9 W1 (some mb) (N.length + 1) (updL (keyF s (N.map Prod.fst)) (.string (keyP s d.st)) (some (.int .i64 (N.length:Nat)))) (N.length + 1)) (f1:Frm [mb] W W1) (f2:Frm [] W1 W2)
  (hg:W2.grownBy W3 (Value.slice ao N.length cap).ownBlock) (ho:W3.ownsRow w.heap.size 192 7 v' (N.length + 1) (ndC N ++ ndC1 (d,sb))) (hG:RowG (NdG W2) 192 v' W3) :
  SpR w s yb lim whole qb mb (N ++ [(d,sb)]) (W3.setCell ⟨qb,2,none⟩ v')∧Frm (mb :: qb :: (Value.slice ao N.length cap).ownBlock.toList) W (W3.setCell ⟨qb,2,none⟩ v')∧(W3.setCell ⟨qb,2,none⟩ v').heap[qb]?=some (.cells #[.int .i64 lim,.bool whole,v',.map (some mb)] 190 (0,0)):=by
 obtain⟨F,hF⟩:∃ F,F=mb :: qb :: (Value.slice ao N.length cap).ownBlock.toList:=⟨_,rfl⟩
 have hB:∀ b∈F,SpB W qb b:=fun b hb=>h.spB b1 b2 b3 b (by rwa [hF] at hb)
 obtain⟨es,c,hmb⟩:=h.mp.block rfl
 have hne:qb≠mb:=fun e=>by subst e;rw[b1] at hmb;cases hmb
 have hrq:(Value.slice ao N.length cap).ownBlock≠some qb:=fun e=>by
  obtain⟨c,hc⟩:=ownBlock_type b2 e
  rw[b1] at hc;cases hc
 have g1:W2.heap[qb]?=some (.cells #[.int .i64 lim,.bool whole,.slice ao N.length cap,.map (some mb)] 190 (0,0)):=f2.at (f1.at b1 (by simpa using hne)) (by simp)
 have g2:=grown_at hg g1 hrq
 have hv:v'.ownBlock≠some qb:=fun e=>by
  obtain⟨c,hc⟩:=ownBlock_type ho e
  rw[g2] at hc;cases hc
 obtain⟨ao',cap',rfl⟩:=own_shape ho
 obtain⟨W4,hW4⟩:∃ W4,W3.setCell ⟨qb,2,none⟩ (.slice ao' (N.length + 1) cap')=W4:=⟨_,rfl⟩
 have f3:Frm F W W3:=((f1.mono (F':=F) (by rw[hF];simp)).then f2 (by simp)).grown hg fun k hk=>.inl (by rw[hF];simp[hk])
 have f4:Frm F W W4:=by rw[← hW4];exact f3.setCell _ (.inl (by rw[hF];simp)) _
 have hfg:=SpB.fg hB
 have hps:∀ {X:World},Frm F W X→∀ p,Ty W p 119→Ty X p 119:=fun hf p hp=>hp.frm hf fun hm=>by
  obtain⟨D,hD⟩:=hp
  exact FgB.ne hfg hD (by simp[sysT]) hm
 have f34:Frm [qb] W3 W4:=by rw[← hW4];exact(Frm.refl _ _).setCell _ (.inl (by simp)) _
 have g4:W4.heap[qb]?=some (.cells #[.int .i64 lim,.bool whole,.slice ao' (N.length + 1) cap',.map (some mb)] 190 (0,0)):=by rw[← hW4];exact(block_setCell g2 2 _).trans rfl
 have hlen:(N ++ [(d,sb)]).length=N.length + 1:=by simp
 have f2w:Frm F W W2:=(f1.mono (F':=F) (by rw[hF];simp)).then f2 (by simp)
 have hfr0:Frm [] w W4:=h.fr.then f4 fun x hx=>.inr (by
  rw[hF] at hx
  rcases List.mem_cons.1 hx with rfl | hx
  ·exact h.lm
  rcases List.mem_cons.1 hx with rfl | hx
  ·exact h.lq
  rw[Option.mem_toList] at hx
  exact ownBlock_ge b2 hx)
 rw[hW4]
 refine⟨⟨hfr0,h.lq,h.lm,⟨ao',cap',?_,?_,?_⟩,?_,fun e he=>?_⟩,by rw[← hF];exact f4,g4⟩
 ·rw[hlen];exact g4
 ·rw[hlen,ndC_append,ndC_one];exact f34.owns ho (by intro k hk hm;simp at hm;subst hm;exact hv hk)
 ·rw[hlen]
  intro g cur hgk hc u hu
  have hgq:g≠qb:=fun e=>hv (by rw[← e];exact hgk)
  obtain⟨cu,hcu⟩:=ownBlock_type ho hgk
  have hcu4:=f34.at hcu (by simpa using hgq)
  rw[hcu4] at hc
  cases hc
  have hu':=hG g _ hgk hcu u hu
  refine⟨hu'.1,hu'.2.1,fun p e=>?_⟩
  have h2:=hu'.2.2 p e
  by_cases hp:p < W.heap.size
  ·have:Ty W p 119:=by
    obtain⟨D,hD⟩:=h2
    by_cases hpm:p∈F
    ·exfalso
     have hD3:=hD
     rcases (hB p hpm).2 with ⟨es,c,e⟩ | ⟨D',e⟩ | ⟨⟨D',e⟩,-⟩
     ·have hpmb:p=mb:=by
       rw[hF] at hpm
       rcases List.mem_cons.1 hpm with rfl | hpm
       ·rfl
       rcases List.mem_cons.1 hpm with rfl | hpm
       ·rw[b1] at e;cases e
       rw[Option.mem_toList] at hpm
       obtain⟨c,hc⟩:=ownBlock_type b2 hpm
       rw[hc] at e;cases e
      subst hpmb
      obtain⟨es',c',e'⟩:=(hm.frm f2 (by simp)).block rfl
      rw[e'] at hD3;cases hD3
     ·have hpq:p≠mb:=fun e'=>by subst e';rw[hmb] at e;cases e
      rw[f2.at (f1.at e (by simpa using hpq)) (by simp)] at hD3
      cases hD3
     ·have hpq:p≠mb:=fun e'=>by subst e';rw[hmb] at e;cases e
      rw[f2.at (f1.at e (by simpa using hpq)) (by simp)] at hD3
      cases hD3
    ·have:=f2w.block p hp hpm
     rw[this] at hD
     exact⟨D,hD⟩
   exact hps f4 p this
  ·obtain⟨D,hD⟩:=h2
   have hpr:(Value.slice ao N.length cap).ownBlock≠some p:=fun e=>by
    have:=ownBlock_lt b2 e;omega
   have hD3:=grown_at hg hD hpr
   have hpq:p≠qb:=fun e=>by subst e;rw[g2] at hD3;cases hD3
   exact⟨D,f34.at hD3 (by simpa using hpq)⟩
 ·rw[hlen,List.map_append,List.map_cons,List.map_nil,keyF_snoc hk,List.length_map]
  refine hm.frm (F:=qb :: (Value.slice ao N.length cap).ownBlock.toList) ?_ ?_
  ·rw[← hW4]
   exact((f2.mono (F':=qb :: (Value.slice ao N.length cap).ownBlock.toList) (by simp)).grown hg fun k hk=>.inl (by simp[hk])).setCell _ (.inl (by simp)) _
  ·intro b hb hm'
   cases hb
   rcases List.mem_cons.1 hm' with e | hm'
   ·exact hne e.symm
   ·rw[Option.mem_toList] at hm'
    obtain⟨c,hc⟩:=ownBlock_type b2 hm'
    rw[hmb] at hc;cases hc
 ·rcases List.mem_append.1 he with he | he
  ·exact(h.st e he).fg hs hfg f4
  ·rw[List.mem_singleton] at he;subst he
   exact hd.fg hs hfg f4
end
end Go.Proofs.YtkphhjekfimmlaaGreat
namespace Go.Proofs.YtkphhjekfimmlaaGreat
open Go.RowKit Go.BigFrame Go.Maps
def NoP (W:World) (po:Option Addr):Prop:=po=none∨∃ pb,po=some ⟨pb,0,none⟩∧W.heap[pb]?=some (.cells #[.pointer none] 129 (0,0))
abbrev ndZ:Value:=.agg #[.pointer none,.int .i64 0,.int .i64 0,.int .i64 0,.int .i64 0,.int .i64 0,.int .i64 0]
section
variable {W V:World} {s:SesD} {yb pb:Nat} {whole:Bool} {N:List (Nd × Nat)} {po:Option Addr}
theorem NoP.frm (h:NoP W po) (hf:Frm [] W V):NoP V po:=by
 rcases h with h | ⟨xb,h1,h2⟩
 ·exact .inl h
 ·exact .inr ⟨xb,h1,hf.at h2 (by simp)⟩
theorem xNone_any (h:SpO W s yb whole pb N):Calls Tryz.prog 94 #[.pointer (some ⟨pb,0,none⟩)] W (Ret (.bool false) (W=·)):=by
 obtain⟨qb,mb,lim,ao,cap,h1,-⟩:=h.out
 have c0:=cell_of h1 0
 clear h1 h
 go_enter Tryz.func94,Tryz.ntmps94
 go_wp2
 go_ret
 exact⟨rfl,rfl⟩
theorem xNone_no (h:NoP W po):Calls Tryz.prog 94 #[.pointer po] W (Ret (.bool true) (W=·)):=by
 rcases h with rfl | ⟨yb,rfl,h⟩
 ·go_enter Tryz.func94,Tryz.ntmps94
  go_wp2
  go_ret
  exact⟨rfl,rfl⟩
 ·have c0:=cell_of h 0
  clear h
  go_enter Tryz.func94,Tryz.ntmps94
  go_wp2
  go_ret
  exact⟨rfl,rfl⟩
set_option maxRecDepth 100000 in
theorem xLen_any (h:SpO W s yb whole pb N):Calls Tryz.prog 35 #[.pointer (some ⟨pb,0,none⟩)] W (Ret (.int .i64 (N.length:Nat)) (Frm [] W)):=by
 have C1:=Lib.hid (xNone_any h)
 obtain⟨qb,mb,lim,ao,cap,h1,h2,-⟩:=h.out
 have c0:=cell_of h1 0
 have c2:=cell_of h2 2
 clear h1 h2 h
 go_enter Tryz.func35,Tryz.ntmps35
 go_wp2_with (first
  | (go_at_call 94;go_must (refine C1.out.mono ?_;rintro e w' ⟨rfl,rfl⟩)))
 go_ret
 exact⟨rfl,Frm.refl _ _⟩
set_option maxRecDepth 100000 in
theorem xLen_no (h:NoP W po):Calls Tryz.prog 35 #[.pointer po] W (Ret (.int .i64 0) (W=·)):=by
 have C1:=Lib.hid (xNone_no h)
 clear h
 go_enter Tryz.func35,Tryz.ntmps35
 go_wp2_with (first
  | (go_at_call 94;go_must (refine C1.out.mono ?_;rintro e w' ⟨rfl,rfl⟩)))
 go_ret
 exact⟨rfl,rfl⟩
set_option maxRecDepth 100000 in
theorem xWhole_any (h:SpO W s yb whole pb N):Calls Tryz.prog 36 #[.pointer (some ⟨pb,0,none⟩)] W (Ret (.bool whole) (Frm [] W)):=by
 have C1:=Lib.hid (xNone_any h)
 obtain⟨qb,mb,lim,ao,cap,h1,h2,-⟩:=h.out
 have c0:=cell_of h1 0
 have c1:=cell_of h2 1
 clear h1 h2 h
 go_enter Tryz.func36,Tryz.ntmps36
 go_wp2_with (first
  | (go_at_call 94;go_must (refine C1.out.mono ?_;rintro e w' ⟨rfl,rfl⟩)))
 go_ret
 exact⟨rfl,Frm.refl _ _⟩
set_option maxRecDepth 100000 in
theorem xWhole_no (h:NoP W po):Calls Tryz.prog 36 #[.pointer po] W (Ret (.bool false) (W=·)):=by
 have C1:=Lib.hid (xNone_no h)
 clear h
 go_enter Tryz.func36,Tryz.ntmps36
 go_wp2_with (first
  | (go_at_call 94;go_must (refine C1.out.mono ?_;rintro e w' ⟨rfl,rfl⟩)))
 go_ret
 exact⟨rfl,rfl⟩
theorem one_nd (p:Option Addr) (a b c d e f:Int):(#[.pointer p,.int .i64 a,.int .i64 b,.int .i64 c,.int .i64 d,.int .i64 e,.int .i64 f]:Array Value).all (·.oneCell')=true:=by
 rw[← Array.all_toList];rfl
theorem Tryz.infoNode:(Tryz.prog.info? 192).map (·.size)=some 7:=by kernel_rfl
set_option maxRecDepth 100000 in
theorem xNode_in (h:SpO W s yb whole pb N) {i:Nat} {d:Nd × Nat} (hd:N[i]?=some d) (h5:N.length≤1000000):Calls Tryz.prog 95 #[.pointer (some ⟨pb,0,none⟩),.int .i64 i] W (Ret (.tuple #[ndV d,.int .i64 0]) (Frm [] W)):=by
 have C1:Hid (∀ V,Frm [] W V→Calls Tryz.prog 94 #[.pointer (some ⟨pb,0,none⟩)] V (Ret (.bool false) (V=·))):=Lib.hid fun V hV=>xNone_any (h.frm hV)
 obtain⟨qb,mb,lim,ao,cap,h1,h2,h3,-⟩:=h.out
 obtain⟨b,o,rfl,hn⟩:=h3.get hd
 have hl:=lt_of_some hd
 have hl':(i:Int) < (N.length:Int):=by omega
 have hge:decide ((N.length:Int)≤(i:Int))=false:=decide_eq_false (by omega)
 have c0:=cell_of h1 0
 have c2:=cell_of h2 2
 have f0:=(Frm.refl [] W).alloc (.cells #[.pointer none,.int .i64 0,.int .i64 0,.int .i64 0,.int .i64 0,.int .i64 0,.int .i64 0] 192)
 have HA:=Lib.hid (heap_alloc_new W (.cells #[.pointer none,.int .i64 0,.int .i64 0,.int .i64 0,.int .i64 0,.int .i64 0,.int .i64 0] 192))
 obtain⟨W0,hW0⟩:∃ W0,W.alloc (.cells #[.pointer none,.int .i64 0,.int .i64 0,.int .i64 0,.int .i64 0,.int .i64 0,.int .i64 0] 192)=W0:=⟨_,rfl⟩
 rw[hW0] at f0 HA
 have C2:=Lib.hid (C1.out _ f0)
 have d0:W0.cell? ⟨pb,0,none⟩=some (.pointer (some ⟨qb,0,none⟩)):=f0.keep c0
 have d2:W0.cell? ⟨qb,2,none⟩=some (.slice (some ⟨b,o,none⟩) N.length cap):=f0.keep c2
 obtain⟨n0,n1,n2,n3,n4,n5,n6⟩:=hn.frm f0
 have HE:=Lib.hid hW0;have HF0:=Lib.hid f0
 clear h1 h2 h3 h hd c0 c2 C1 f0 hW0
 go_enter Tryz.func95,Tryz.ntmps95
 go_upto_region 1 with fail
 rw[HE.out]
 go_upto_region 5 with (first
  | (go_at_call 94;go_must (refine C2.out.mono ?_;rintro e w' ⟨rfl,rfl⟩)))
 go_wp2_with (first
  | (refine wpList_store_row rfl 192 _ _ rfl _ _ _ 192 rfl rfl HA.out rfl Tryz.infoNode (one_nd _ _ _ _ _ _ _) ?_;intro w2 hb2 hf2;have HB2:=Lib.hid hb2;have HF2:=Lib.hid hf2;clear hb2 hf2 n0 n1 n2 n3 n4 n5 n6;have r0:=cell_of HB2.out 0;have r1:=cell_of HB2.out 1;have r2:=cell_of HB2.out 2;have r3:=cell_of HB2.out 3;have r4:=cell_of HB2.out 4;have r5:=cell_of HB2.out 5;have r6:=cell_of HB2.out 6))
 refine bodyPost_ret (v:=.tuple #[ndV d,.int .i64 0]) (by simp[results,Tryz.results95,go_sem,r0,r1,r2,r3,r4,r5,r6]) rfl ?_
 exact⟨rfl,HF0.out.then HF2.out (by intro k hk;simp at hk;subst hk;exact .inr (Nat.le_refl _))⟩
set_option maxRecDepth 100000 in
theorem xNode_out (h:SpO W s yb whole pb N) {n:Int} (hn:n < 0∨(N.length:Int)≤n):Calls Tryz.prog 95 #[.pointer (some ⟨pb,0,none⟩),.int .i64 n] W (Ret (.tuple #[ndZ,.int .i64 3]) (Frm [] W)):=by
 obtain⟨W0,hW0⟩:∃ W0,W.alloc (.cells #[.pointer none,.int .i64 0,.int .i64 0,.int .i64 0,.int .i64 0,.int .i64 0,.int .i64 0] 192)=W0:=⟨_,rfl⟩
 have f0:Frm [] W W0:=by rw[← hW0];exact(Frm.refl [] W).alloc _
 have HA:Hid (W0.heap[W.heap.size]?=some (.cells #[.pointer none,.int .i64 0,.int .i64 0,.int .i64 0,.int .i64 0,.int .i64 0,.int .i64 0] 192 (0,0))):=Lib.hid (by rw[← hW0];exact heap_alloc_new W _)
 have HE:=Lib.hid hW0;have HF0:=Lib.hid f0
 have C2:=Lib.hid (xNone_any (h.frm f0))
 obtain⟨qb,mb,lim,ao,cap,h1,h2,h3,-⟩:=h.out
 have d0:W0.cell? ⟨pb,0,none⟩=some (.pointer (some ⟨qb,0,none⟩)):=f0.keep (cell_of h1 0)
 have d2:W0.cell? ⟨qb,2,none⟩=some (.slice ao N.length cap):=f0.keep (cell_of h2 2)
 have HN:=Lib.hid hn
 clear h1 h2 h3 h f0 hW0 hn
 go_enter Tryz.func95,Tryz.ntmps95
 go_upto_region 1 with fail
 rw[HE.out]
 by_cases hn:n < 0
 ·go_wp2_with (first
   | (go_at_call 94;go_must (refine C2.out.mono ?_;rintro e w' ⟨rfl,rfl⟩))
   | (refine wpList_store_row rfl 192 _ _ rfl _ _ _ 192 rfl rfl HA.out rfl Tryz.infoNode (one_nd _ _ _ _ _ _ _) ?_;intro w2 hb2 hf2;have HB2:=Lib.hid hb2;have HF2:=Lib.hid hf2;clear hb2 hf2;have r0:=cell_of HB2.out 0;have r1:=cell_of HB2.out 1;have r2:=cell_of HB2.out 2;have r3:=cell_of HB2.out 3;have r4:=cell_of HB2.out 4;have r5:=cell_of HB2.out 5;have r6:=cell_of HB2.out 6))
  refine bodyPost_ret (v:=.tuple #[ndZ,.int .i64 3]) (by simp[results,Tryz.results95,go_sem,r0,r1,r2,r3,r4,r5,r6]) rfl ?_
  exact⟨rfl,HF0.out.then HF2.out (by intro k hk;simp at hk;subst hk;exact .inr (Nat.le_refl _))⟩
 ·have hn2:(N.length:Int)≤n:=HN.out.resolve_left hn
  go_wp2_with (first
   | (go_at_call 94;go_must (refine C2.out.mono ?_;rintro e w' ⟨rfl,rfl⟩))
   | (refine wpList_store_row rfl 192 _ _ rfl _ _ _ 192 rfl rfl HA.out rfl Tryz.infoNode (one_nd _ _ _ _ _ _ _) ?_;intro w2 hb2 hf2;have HB2:=Lib.hid hb2;have HF2:=Lib.hid hf2;clear hb2 hf2;have r0:=cell_of HB2.out 0;have r1:=cell_of HB2.out 1;have r2:=cell_of HB2.out 2;have r3:=cell_of HB2.out 3;have r4:=cell_of HB2.out 4;have r5:=cell_of HB2.out 5;have r6:=cell_of HB2.out 6))
  refine bodyPost_ret (v:=.tuple #[ndZ,.int .i64 3]) (by simp[results,Tryz.results95,go_sem,r0,r1,r2,r3,r4,r5,r6]) rfl ?_
  exact⟨rfl,HF0.out.then HF2.out (by intro k hk;simp at hk;subst hk;exact .inr (Nat.le_refl _))⟩
set_option maxRecDepth 100000 in
theorem xNode_no (h:NoP W po) (n:Int):Calls Tryz.prog 95 #[.pointer po,.int .i64 n] W (Ret (.tuple #[ndZ,.int .i64 1]) (Frm [] W)):=by
 obtain⟨W0,hW0⟩:∃ W0,W.alloc (.cells #[.pointer none,.int .i64 0,.int .i64 0,.int .i64 0,.int .i64 0,.int .i64 0,.int .i64 0] 192)=W0:=⟨_,rfl⟩
 have f0:Frm [] W W0:=by rw[← hW0];exact(Frm.refl [] W).alloc _
 have HA:Hid (W0.heap[W.heap.size]?=some (.cells #[.pointer none,.int .i64 0,.int .i64 0,.int .i64 0,.int .i64 0,.int .i64 0,.int .i64 0] 192 (0,0))):=Lib.hid (by rw[← hW0];exact heap_alloc_new W _)
 have HE:=Lib.hid hW0;have HF0:=Lib.hid f0
 have C2:=Lib.hid (xNone_no (h.frm f0))
 clear h f0 hW0
 go_enter Tryz.func95,Tryz.ntmps95
 go_upto_region 1 with fail
 rw[HE.out]
 go_wp2_with (first
  | (go_at_call 94;go_must (refine C2.out.mono ?_;rintro e w' ⟨rfl,rfl⟩))
  | (refine wpList_store_row rfl 192 _ _ rfl _ _ _ 192 rfl rfl HA.out rfl Tryz.infoNode (one_nd _ _ _ _ _ _ _) ?_;intro w2 hb2 hf2;have HB2:=Lib.hid hb2;have HF2:=Lib.hid hf2;clear hb2 hf2;have r0:=cell_of HB2.out 0;have r1:=cell_of HB2.out 1;have r2:=cell_of HB2.out 2;have r3:=cell_of HB2.out 3;have r4:=cell_of HB2.out 4;have r5:=cell_of HB2.out 5;have r6:=cell_of HB2.out 6))
 refine bodyPost_ret (v:=.tuple #[ndZ,.int .i64 1]) (by simp[results,Tryz.results95,go_sem,r0,r1,r2,r3,r4,r5,r6]) rfl ?_
 exact⟨rfl,HF0.out.then HF2.out (by intro k hk;simp at hk;subst hk;exact .inr (Nat.le_refl _))⟩
theorem xState_of {po:Option Addr} {n e:Int} {p:Option Addr} {a1 a2 a3 a4 a5 a6:Int} (hc:Calls Tryz.prog 95 #[.pointer po,.int .i64 n] W (Ret (.tuple #[.agg #[.pointer p,.int .i64 a1,.int .i64 a2,.int .i64 a3,.int .i64 a4,.int .i64 a5,.int .i64 a6],.int .i64 e]) (Frm [] W))) :
  Calls Tryz.prog 39 #[.pointer po,.int .i64 n] W (Ret (.tuple #[.pointer p,.int .i64 e]) (Frm [] W)):=by
 have HC:=Lib.hid hc
 clear hc
 go_enter Tryz.func39,Tryz.ntmps39
 go_wp2_with (first
  | (go_at_call 95;go_must (refine HC.out.mono ?_;rintro e w1 ⟨rfl,hf⟩;have HF:=Lib.hid hf;clear hf)))
 go_ret2
 exact⟨rfl,HF.out.alloc _⟩
theorem xLevel_of {po:Option Addr} {n e:Int} {p:Option Addr} {a1 a2 a3 a4 a5 a6:Int} (hc:Calls Tryz.prog 95 #[.pointer po,.int .i64 n] W (Ret (.tuple #[.agg #[.pointer p,.int .i64 a1,.int .i64 a2,.int .i64 a3,.int .i64 a4,.int .i64 a5,.int .i64 a6],.int .i64 e]) (Frm [] W))) :
  Calls Tryz.prog 40 #[.pointer po,.int .i64 n] W (Ret (.tuple #[.int .i64 a6,.int .i64 e]) (Frm [] W)):=by
 have HC:=Lib.hid hc
 clear hc
 go_enter Tryz.func40,Tryz.ntmps40
 go_wp2_with (first
  | (go_at_call 95;go_must (refine HC.out.mono ?_;rintro e w1 ⟨rfl,hf⟩;have HF:=Lib.hid hf;clear hf)))
 go_ret2
 exact⟨rfl,HF.out.alloc _⟩
theorem xDepth_of {po:Option Addr} {n l e:Int} (h1:Calls Tryz.prog 35 #[.pointer po] W (Ret (.int .i64 n) (Frm [] W))) (h2:∀ V,Frm [] W V→Calls Tryz.prog 40 #[.pointer po,.int .i64 (n - 1)] V (Ret (.tuple #[.int .i64 l,.int .i64 e]) (Frm [] V))) (hn:0≤n∧n≤1000000) :
  Calls Tryz.prog 37 #[.pointer po] W (Ret (.int .i64 l) (Frm [] W)):=by
 have C1:=Lib.hid h1
 have C2:=Lib.hid h2
 have hw:IntKind.i64.wrap (n - 1)=n - 1:=by rw[IntKind.wrap_i64];omega
 clear h1 h2
 go_enter Tryz.func37,Tryz.ntmps37
 go_wp2_with (first
  | (go_at_call 35;go_must (refine C1.out.mono ?_;rintro e w1 ⟨rfl,hf⟩;have HF:=Lib.hid hf;clear hf))
  | (go_at_call 40;go_must (refine(C2.out _ HF.out).mono ?_;rintro e w2 ⟨rfl,hf2⟩;have HF2:=Lib.hid hf2;clear hf2)))
 go_ret
 exact⟨rfl,HF.out.trans HF2.out⟩
theorem Tryz.zeroInt (w:World):(zeroValue 3).run Tryz.prog w=.ok (.int .i64 0) w:=
 (zero_of_info (show (Tryz.prog.info? 3).map (fun i=>(i.zero,i.size))=some (some (.int .i64 0),1) by kernel_rfl)).1 w
theorem Tryz.keyedS:Keyed Tryz.prog 9:=string_keyed Tryz.underlying9
theorem keyF_get (s:SesD) (N:List Nd) (k:List UInt8):(keyF s N (.string k)).getD (.int .i64 0)=.int .i64 ((findP s N k).getD 0:Nat)∧(keyF s N (.string k)).isSome=(findP s N k).isSome:=by
 have e:keyF s N (.string k)=(findP s N k).map fun i=>.int .i64 (i:Nat):=rfl
 rw[e]
 cases findP s N k <;> exact⟨rfl,rfl⟩
theorem SpO.look {W V:World} {mb:Nat} {n:Nat} (h4:MapAt Tryz.prog 9 W (some mb) n (keyF s (N.map Prod.fst)) n) (hf:Frm [] W V) (k:ByteArray) (hk:k.size≤maxLen) :
  (Instr.lookup 187 (.map (some mb)) (.string k) true).run Tryz.prog V=.ok (.tuple #[.int .i64 ((findP s (N.map Prod.fst) k.data.toList).getD 0:Nat),.bool (findP s (N.map Prod.fst) k.data.toList).isSome]) V:=by
 have h:=(h4.frm hf (by simp)).look_ok Tryz.keyedS Tryz.underlying187 (Tryz.zeroInt V) (WideMaps.keyOf_string_mk Tryz.underlying9 hk)
 obtain⟨e1,e2⟩:=keyF_get s (N.map Prod.fst) k.data.toList
 rw[e1,e2] at h
 exact h
def fndV (s:SesD) (N:List Nd) (k:List UInt8):Value:=match findP s N k with | some i=>.tuple #[.int .i64 (i:Nat),.int .i64 0] | none=>.tuple #[.int .i64 0,.int .i64 9]
set_option maxRecDepth 100000 in
theorem xFind_any (h:SpO W s yb whole pb N) (k:ByteArray) (hk:k.size≤maxLen):Calls Tryz.prog 42 #[.pointer (some ⟨pb,0,none⟩),.string k] W (Ret (fndV s (N.map Prod.fst) k.data.toList) (Frm [] W)):=by
 have C1:=Lib.hid (xNone_any h)
 obtain⟨qb,mb,lim,ao,cap,h1,h2,h3,h4⟩:=h.out
 have c0:=cell_of h1 0
 have c3:=cell_of h2 3
 have hl:=fun V hV=>SpO.look h4 hV k hk (V:=V)
 have hl0:=hl W (Frm.refl _ _)
 unfold fndV
 cases hf:findP s (N.map Prod.fst) k.data.toList with
 | some i =>
   rw[hf] at hl0
   clear h1 h2 h3 h4 h hl hf
   go_enter Tryz.func42,Tryz.ntmps42
   go_wp2_with (first
    | (go_at_call 94;go_must (refine C1.out.mono ?_;rintro e w' ⟨rfl,rfl⟩)))
   go_ret2
   exact⟨rfl,Frm.refl _ _⟩
 | none =>
   rw[hf] at hl0
   clear h1 h2 h3 h4 h hl hf
   go_enter Tryz.func42,Tryz.ntmps42
   go_wp2_with (first
    | (go_at_call 94;go_must (refine C1.out.mono ?_;rintro e w' ⟨rfl,rfl⟩)))
   go_ret2
   exact⟨rfl,Frm.refl _ _⟩
set_option maxRecDepth 100000 in
theorem xFind_no (h:NoP W po) (k:ByteArray):Calls Tryz.prog 42 #[.pointer po,.string k] W (Ret (.tuple #[.int .i64 0,.int .i64 1]) (Frm [] W)):=by
 have C1:=Lib.hid (xNone_no h)
 clear h
 go_enter Tryz.func42,Tryz.ntmps42
 go_wp2_with (first
  | (go_at_call 94;go_must (refine C1.out.mono ?_;rintro e w' ⟨rfl,rfl⟩)))
 go_ret2
 exact⟨rfl,Frm.refl _ _⟩
end
end Go.Proofs.YtkphhjekfimmlaaGreat
namespace Go.Proofs.YtkphhjekfimmlaaGreat
open Go.RowKit Go.BigFrame Go.Maps
set_option maxHeartbeats 4000000 in
set_option maxRecDepth 100000 in
theorem xSearch_bad (s:SesD) (yb fb:Nat) (lim:Int) (w:World) (h:SyR w s yb fb) (hl:lim < 1∨200000 < lim) :
  Calls Tryz.prog 32 #[.pointer (some ⟨yb,0,none⟩),.int .i64 lim] w (RetV fun v w'=>v=.tuple #[.pointer none,.int .i64 2]∧Frm [] w w'):=by
 obtain⟨w0,hw0⟩:∃ w0,w.alloc (.cells #[.pointer (some ⟨yb,0,none⟩)] 29)=w0:=⟨_,rfl⟩
 have hf0:Frm [] w w0:=by rw[← hw0];exact(Frm.refl _ _).alloc _
 have hb0:w0.heap[w.heap.size]?=some (.cells #[.pointer (some ⟨yb,0,none⟩)] 29 (0,0)):=by rw[← hw0];exact heap_alloc_new _ _
 have CF:=Lib.hid (pFirst_any s yb fb w0 (h.frm hf0))
 have y0:=cell_of hb0 0
 have HF0:=Lib.hid hf0;have HE:=Lib.hid hw0
 clear h hf0 hb0 hw0
 go_enter Tryz.func32,Tryz.ntmps32
 go_upto_region 1 with fail
 rw[HE.out]
 refine wp_scope_straight ?_
 by_cases h1:lim < 1
 ·go_wp2_with (first
   | (go_at_call 20;go_must (refine CF.out.mono ?_;rintro e w' ⟨rfl,rfl⟩)))
  try rw[Exit.noGoto_ret]
  go_ret2
  exact⟨_,rfl,rfl,HF0.out⟩
 ·have h2:200000 < lim:=hl.resolve_left h1
  clear hl
  go_wp2_with (first
   | (go_at_call 20;go_must (refine CF.out.mono ?_;rintro e w' ⟨rfl,rfl⟩)))
  try rw[Exit.noGoto_ret]
  go_ret2
  exact⟨_,rfl,rfl,HF0.out⟩
set_option maxHeartbeats 4000000 in
set_option maxRecDepth 100000 in
theorem xSearch_no {yo:Option Addr} (lim:Int) (w:World) (h:NoY w yo) :
  Calls Tryz.prog 32 #[.pointer yo,.int .i64 lim] w (RetV fun v w'=>v=.tuple #[.pointer none,.int .i64 1]∧Frm [] w w'):=by
 obtain⟨w0,hw0⟩:∃ w0,w.alloc (.cells #[.pointer yo] 29)=w0:=⟨_,rfl⟩
 have hf0:Frm [] w w0:=by rw[← hw0];exact(Frm.refl _ _).alloc _
 have hb0:w0.heap[w.heap.size]?=some (.cells #[.pointer yo] 29 (0,0)):=by rw[← hw0];exact heap_alloc_new _ _
 have CF:=Lib.hid (pFirst_no (h.frm hf0))
 have y0:=cell_of hb0 0
 have HF0:=Lib.hid hf0;have HE:=Lib.hid hw0
 clear h hf0 hb0 hw0
 go_enter Tryz.func32,Tryz.ntmps32
 go_upto_region 1 with fail
 rw[HE.out]
 refine wp_scope_straight ?_
 go_wp2_with (first
  | (go_at_call 20;go_must (refine CF.out.mono ?_;rintro e w' ⟨rfl,rfl⟩)))
 try rw[Exit.noGoto_ret]
 go_ret2
 exact⟨_,rfl,rfl,HF0.out⟩
set_option maxHeartbeats 4000000 in
set_option maxRecDepth 100000 in
theorem xFollow_no {yo:Option Addr} (v:Value) (w:World) (h:NoY w yo) :
  Calls Tryz.prog 46 #[.pointer yo,v] w (RetV fun u w'=>u=.tuple #[.pointer none,.int .i64 0,.int .i64 1]∧Frm [] w w'):=by
 have CF:=Lib.hid (pFirst_no h)
 clear h
 go_enter Tryz.func46,Tryz.ntmps46
 go_wp2_with (first
  | (go_at_call 20;go_must (refine CF.out.mono ?_;rintro e w' ⟨rfl,rfl⟩)))
 refine bodyPost_ret (v:=.tuple #[.pointer none,.int .i64 0,.int .i64 1]) (by simp[results,Tryz.results46,go_sem]) rfl ?_
 exact⟨_,rfl,rfl,Frm.refl _ _⟩
end Go.Proofs.YtkphhjekfimmlaaGreat
namespace Go.Proofs.YtkphhjekfimmlaaGreat
open Go.RowKit Go.BigFrame
theorem setCells_at:∀ (vs:List Value) (o:Nat) (w:World) (b:Nat) (c:Array Value) (t:TypeId),w.heap[b]?=some (.cells c t (0,0))→o + vs.length≤c.size →
  ∃ c',(w.setCells b o vs).heap[b]?=some (.cells c' t (0,0))∧c'.size=c.size∧(∀ j,j < o∨o + vs.length≤j→c'[j]?=c[j]?)∧(∀ j v,vs[j]?=some v→c'[o + j]?=some v)∧Frm [b] w (w.setCells b o vs)
 | [],o,w,b,c,t,h,_=>⟨c,h,rfl,fun _ _=>rfl,fun j v h=>by simp at h,Frm.refl _ _⟩
 | v :: vs,o,w,b,c,t,h,hl=>by
   have hb:=block_setCell h o v
   simp only[List.length_cons] at hl
   obtain⟨c',h1,h2,h3,h4,h5⟩:=setCells_at vs (o + 1) (w.setCell ⟨b,o,none⟩ v) b _ t hb (by simp;omega)
   refine⟨c',h1,by simpa using h2,fun j hj=>?_,fun j u hu=>?_,((Frm.refl _ _).setCell _ (.inl (by simp)) _).trans h5⟩
   ·simp only[List.length_cons] at hj
    rw[h3 j (by omega),Array.getElem?_setIfInBounds_ne (by omega)]
   ·cases j with
    | zero =>
      simp at hu;subst hu
      rw[Nat.add_zero,h3 o (by omega),Array.getElem?_setIfInBounds_self_of_lt (by omega)]
    | succ j =>
      rw[show o + (j + 1)=o + 1 + j by omega]
      exact h4 j u (by simpa using hu)
def mv00:Mv:=⟨0,0,0,0⟩
def RvR (W:World) (g n:Nat) (M:Nat→Mv):Prop:=∃ cur,W.heap[g]?=some (.cells cur 45 (0,0))∧n * 4≤cur.size ∧
 ∀ k,k < n→cur[k * 4]?=some (.int .i64 (M k).kind)∧cur[k * 4 + 1]?=some (.int .i64 (M k).role)∧cur[k * 4 + 2]?=some (.int .i64 (M k).step)∧cur[k * 4 + 3]?=some (.int .i64 (M k).place)
theorem RvR.frm {W V:World} {g n:Nat} {M:Nat→Mv} (h:RvR W g n M) (hf:Frm [] W V):RvR V g n M:=by
 obtain⟨cur,h1,h2⟩:=h
 exact⟨cur,hf.at h1 (by simp),h2⟩
theorem RvR.at {W:World} {g n k:Nat} {M:Nat→Mv} (h:RvR W g n M) (hk:k < n):MvAt W g (k * 4) (M k):=by
 obtain⟨cur,h1,h2,h3⟩:=h
 obtain⟨a,b,c,d⟩:=h3 k hk
 exact⟨(cell_of h1 _).trans a,(cell_of h1 _).trans b,(cell_of h1 _).trans c,(cell_of h1 _).trans d⟩
theorem RvR.set {W:World} {g n i:Nat} {M:Nat→Mv} (h:RvR W g n M) (hi:i < n) (m:Mv):RvR (W.setCells g (i * 4) (mvC1 m)) g n (fun k=>if k=i then m else M k)∧Frm [g] W (W.setCells g (i * 4) (mvC1 m)):=by
 obtain⟨cur,h1,h2,h3⟩:=h
 obtain⟨c',g1,g2,g3,g4,g5⟩:=setCells_at (mvC1 m) (i * 4) W g cur _ h1 (by simp[mvC1];omega)
 refine⟨⟨c',g1,by omega,fun k hk=>?_⟩,g5⟩
 by_cases e:k=i
 ·subst e
  simp only[if_true]
  exact⟨g4 0 _ rfl,g4 1 _ rfl,g4 2 _ rfl,g4 3 _ rfl⟩
 ·simp only[if_neg e]
  have hl:(mvC1 m).length=4:=rfl
  obtain⟨a,b,c,d⟩:=h3 k hk
  refine⟨(g3 _ ?_).trans a,(g3 _ ?_).trans b,(g3 _ ?_).trans c,(g3 _ ?_).trans d⟩ <;> rw[hl] <;> omega
theorem RvR.there {W:World} {g n i:Nat} {M:Nat→Mv} (h:RvR W g n M) (hi:i < n):W.there g (i * 4) 4:=by
 obtain⟨cur,h1,h2,h3⟩:=h
 intro j hj
 refine⟨?_,free_of h1 _⟩
 rw[cell_of h1,Array.getElem?_eq_getElem (by omega)]
 rfl
theorem mv_rv {W:World} {base:Nat} {v:Value} {L:List Mv} (h:W.ownsRow base 45 4 v L.length (mvC L)) (hn:L.length≠0):∃ g cap,v=.slice (some ⟨g,0,none⟩) L.length cap∧RvR W g L.length (fun k=>L.getD k mv00):=by
 obtain⟨-,⟨-,h2⟩ | ⟨g,cap,cur,rfl,-,hh,hc,-,hs,ht⟩⟩:=h
 ·exact absurd h2 hn
 ·refine⟨g,cap,rfl,cur,hh,by rw[hs];exact Nat.mul_le_mul_right _ hc,fun k hk=>?_⟩
  obtain⟨a,b,c,d⟩:=mvC_at (some_getD (d:=mv00) hk)
  have e:∀ j,j < L.length * 4→cur[j]?=(mvC L)[j]?:=fun j hj=>by
   rw[← ht,List.getElem?_take_of_lt hj,Array.getElem?_toList]
  exact⟨(e _ (by omega)).trans a,(e _ (by omega)).trans b,(e _ (by omega)).trans c,(e _ (by omega)).trans d⟩
theorem rv_arr {W:World} {g n cap:Nat} {M:Nat→Mv} {L:List Mv} (h:RvR W g n M) (hn:L.length=n) (hM:∀ k m,L[k]?=some m→M k=m):Arr 4 MvAt W (.slice (some ⟨g,0,none⟩) n cap) L:=
 ⟨_,_,by rw[hn],fun i m hm=>⟨g,0,rfl,by
  have:=h.at (k:=i) (by rw[← hn];exact lt_of_some hm)
  rw[hM i m hm] at this
  rwa [Nat.zero_add]⟩⟩
def revM (L:List Mv) (i k:Nat):Mv:=if k < i∨L.length≤k + i then L.getD (L.length - 1 - k) mv00 else L.getD k mv00
theorem revM_step {L:List Mv} {i j:Nat} (hj:L.length=i + j + 1) (hij:i < j) (k:Nat):(if k=j then revM L i i else if k=i then revM L i j else revM L i k)=revM L (i + 1) k:=by
 unfold revM
 by_cases h1:k=j
 ·subst h1
  rw[if_pos rfl,if_neg (by omega),if_pos (by omega),show L.length - 1 - k=i by omega]
 rw[if_neg h1]
 by_cases h2:k=i
 ·subst h2
  rw[if_pos rfl,if_neg (by omega),if_pos (by omega),show L.length - 1 - k=j by omega]
 rw[if_neg h2]
 by_cases h3:k < i∨L.length≤k + i
 ·rw[if_pos h3,if_pos (by omega)]
 ·rw[if_neg h3,if_neg (by omega)]
theorem revM_end {L:List Mv} {i:Nat} (h:L.length≤i + i + 1) {k:Nat} {m:Mv} (hm:L.reverse[k]?=some m):revM L i k=m:=by
 have hk:k < L.length:=by have:=lt_of_some hm;simpa using this
 rw[List.getElem?_reverse hk] at hm
 have h2:=getD_some (d:=mv00) hm
 unfold revM
 by_cases h3:k < i∨L.length≤k + i
 ·rw[if_pos h3];exact h2
 ·rw[if_neg h3,show k=L.length - 1 - k by omega];exact h2
theorem Tryz.infoMvS:(Tryz.prog.info? 45).map (·.size)=some 4:=by kernel_rfl
theorem one_mv (a b c d:Int):(#[.int .i64 a,.int .i64 b,.int .i64 c,.int .i64 d]:Array Value).all (·.oneCell')=true:=by
 rw[← Array.all_toList];rfl
theorem wp_store_mv {op:Oper} {a:Act} {w:World} {K:Act→World→Prop} {Q:Exit→Act→World→Prop} {g n i:Nat} {M:Nat→Mv} (x y:Operand) (m:Mv) (ho:op.op=.store 45 x y) (hx:a.eval x=.pointer (some ⟨g,i * 4,none⟩)) (hy:a.eval y=mvV m)
  (hR:RvR w g n M) (hi:i < n) (h:∀ w',RvR w' g n (fun k=>if k=i then m else M k)→Frm [g] w w'→K (a.put op.dst undef) w'):op.wp Tryz.prog a w K Q:=
 wp_store_mid 45 x y ho g (i * 4) #[.int .i64 m.kind,.int .i64 m.role,.int .i64 m.step,.int .i64 m.place] hx hy (hR.there hi) Tryz.infoMvS (one_mv _ _ _ _) (h _ (hR.set hi m).1 (hR.set hi m).2)
set_option maxHeartbeats 4000000 in
set_option maxRecDepth 100000 in
theorem rvMove_any (g n cap:Nat) (L:List Mv) (w:World) (hn:L.length=n) (h1:1≤n) (h5:n≤1000000) (h:RvR w g n (fun k=>L.getD k mv00)) :
  Calls Tryz.prog 144 #[.slice (some ⟨g,0,none⟩) n cap] w (RetV fun _ w'=>Arr 4 MvAt w' (.slice (some ⟨g,0,none⟩) n cap) L.reverse∧Frm [g] w w'):=by
 have HN:=Lib.hid hn
 have h0:RvR w g n (revM L 0):=by
  obtain⟨cur,g1,g2,g3⟩:=h
  refine⟨cur,g1,g2,fun k hk=>?_⟩
  have e:revM L 0 k=L.getD k mv00:=by unfold revM;rw[if_neg (by omega)]
  rw[e]
  exact g3 k hk
 have H0:=Lib.hid h0
 have hw:wrap64 ((n:Int) - 1)=((n - 1:Nat):Int):=by unfold wrap64;omega
 clear h hn
 go_enter Tryz.func144,Tryz.ntmps144
 go_wp2
 go_loopw [2,3] (fun s2 s3 wr=>∃ i:Nat,(s2=.int .i64 i∧s3=.int .i64 ((n - 1 - i:Nat):Int))∧2 * i≤n∧i < n∧RvR wr g n (revM L i)∧Frm [g] w wr) (fun s2 _ _=>n - (intOf s2).toNat)
 case atStart=>exact⟨0,⟨rfl,by congr 1;omega⟩,by omega,by omega,H0.out,Frm.refl _ _⟩
 case round =>
  obtain⟨i,⟨rfl,rfl⟩,hi2,hi,hr,hf⟩:=hrel
  obtain⟨j,hj⟩:∃ j,n - 1 - i=j:=⟨_,rfl⟩
  rw[hj]
  have HJ:=Lib.hid hj;have HR:=Lib.hid hr;have HF:=Lib.hid hf
  obtain⟨wq,hwq⟩:∃ wq,wq=wr:=⟨_,rfl⟩
  subst hwq
  clear hr hf hw
  by_cases hlt:i < j
  ·have hlt':(i:Int) < (j:Int):=by omega
   have hjn:j < n:=by omega
   go_upto_region 3 with (fail)
   generalize hQQ:Exit.inBlock _ _=QQ
   refine wp_mono (Q:=fun e a' w'=>match e with | .normal=>QQ .normal a' w' | _=>False) ?_ (fun e a' w' h=>by cases e <;> first | exact h | exact h.elim)
   have HCT:Hid (∀ V,Frm [] wq V→MvAt V g (j * 4) (revM L i j)∧MvAt V g (i * 4) (revM L i i)):=Lib.hid fun V hV=>⟨(HR.out.frm hV).at hjn,(HR.out.frm hV).at hi⟩
   refine heldL_start [] (wrFrom 13) (by kernel_rfl) ?_
   refine cnt 2 ?_
   iterate 2
    refine hcP ?_ ?_ ?_
    rotate_left
    ·intro w'
     go_simp
     try rfl
    try simp only[nrm,Nat.reduceAdd]
   refine tcn ?_
   refine cnt 0 ?_
   iterate 2
    refine hcL ?_ ?_ ?_
    rotate_left
    ·intro w' hC
     obtain⟨⟨x0,x1,x2,x3⟩,⟨y0,y1,y2,y3⟩⟩:=HCT.out w' ((Frm.refl [] wq).drew.trans hC)
     clear hC
     go_simp
     try rfl
    try simp only[nrm,Nat.reduceAdd]
   refine tcn ?_
   refine cnt 4 ?_
   iterate 9
    refine hcL ?_ ?_ ?_
    rotate_left
    ·intro w' hC
     obtain⟨⟨x0,x1,x2,x3⟩,⟨y0,y1,y2,y3⟩⟩:=HCT.out w' ((Frm.refl [] wq).drew.trans hC)
     clear hC
     go_simp
     try rfl
    try simp only[nrm,Nat.reduceAdd]
   refine tcn ?_
   refine honL 13 ?_
   refine heldL_write (i:=13) rfl (by rfl) (by rfl) (fun K' hK'=>?_)
   refine wp_store_mv (g:=g) (n:=n) (i:=i) (M:=revM L i) _ _ (revM L i j) rfl rfl rfl (HR.out.frm ((Frm.refl _ _).drew)) hi ?_
   intro wa hra hfa
   have HRA:=Lib.hid hra
   have HFA:Hid (Frm [g] wq wa):=Lib.hid ((((Frm.refl [] wq).drew).mono (by simp)).trans hfa)
   clear hra hfa
   refine hK'.out _ _ ?_
   clear hK' K'
   try simp only[nrm]
   refine honL 14 ?_
   refine heldL_write (i:=14) rfl (by rfl) (by rfl) (fun K' hK'=>?_)
   go_simp
   (skip)
   refine hK'.out _ _ ?_
   clear hK' K'
   try simp only[nrm]
   refine honL 15 ?_
   refine heldL_write (i:=15) rfl (by rfl) (by rfl) (fun K' hK'=>?_)
   refine wp_store_mv (g:=g) (n:=n) (i:=j) (M:=fun k=>if k=i then revM L i j else revM L i k) _ _ (revM L i i) rfl rfl rfl HRA.out hjn ?_
   intro wb hrb hfb
   have HRB:=Lib.hid hrb
   have HFB:Hid (Frm [g] wq wb):=Lib.hid (HFA.out.trans hfb)
   clear hrb hfb
   refine hK'.out _ _ ?_
   clear hK' K'
   try simp only[nrm]
   refine heldL_done (by kernel_rfl) ?_ _
   subst hQQ
   have hn9:=HN.out
   have hr9:RvR wb g n (revM L (i + 1)):=by
    have:=HRB.out
    rwa [show (fun k=>if k=j then revM L i i else if k=i then revM L i j else revM L i k)=revM L (i + 1) from funext fun k=>revM_step (by omega) hlt k] at this
   have HR9:=Lib.hid hr9
   clear hr9
   go_wp2
   exact⟨⟨i + 1,⟨rfl,by congr 1;omega⟩,by omega,by omega,HR9.out,HF.out.trans HFB.out⟩,by simp[intOf];omega⟩
  ·have hlt':¬ (i:Int) < (j:Int):=by omega
   go_wp2
   refine bodyPost_ret (results_none rfl _ _ _) rfl ?_
   exact⟨_,rfl,rv_arr HR.out (by simpa using HN.out) (fun k m hm=>revM_end (by have:=HN.out;omega) hm),HF.out⟩
end Go.Proofs.YtkphhjekfimmlaaGreat
namespace Go.Proofs.YtkphhjekfimmlaaGreat
open Go.RowKit Go.BigFrame Go.Maps
set_option maxRecDepth 100000 in
theorem rvMove_nil (ao:Option Addr) (cap:Nat) (w:World):Calls Tryz.prog 144 #[.slice ao 0 cap] w (RetV fun _ w'=>w=w'):=by
 go_enter Tryz.func144,Tryz.ntmps144
 go_wp2
 go_loopw [2,3] (fun s2 s3 wr=>(s2=.int .i64 0∧s3=.int .i64 (-1))∧w=wr) (fun _ _ _=>0)
 case atStart=>exact⟨⟨rfl,rfl⟩,rfl⟩
 case round =>
  obtain⟨⟨rfl,rfl⟩,rfl⟩:=hrel
  go_wp2
  refine bodyPost_ret (results_none rfl _ _ _) rfl ?_
  exact⟨_,rfl,rfl⟩
set_option maxRecDepth 100000 in
theorem xTurned_any {L:List Mv} {base:Nat} {v:Value} {w:World} (h:w.ownsRow base 45 4 v L.length (mvC L)) (h5:L.length≤1000000) :
  Calls Tryz.prog 96 #[v] w (RetV fun u w'=>u=v∧Arr 4 MvAt w' v L.reverse∧Frm v.ownBlock.toList w w'):=by
 by_cases h0:L.length=0
 ·obtain⟨ao,cap,rfl⟩:=own_shape h
  have hL:L=[]:=List.length_eq_zero_iff.1 h0
  subst hL
  have C1:=Lib.hid (rvMove_nil ao cap w)
  have hA:Hid (Arr 4 MvAt w (.slice ao 0 cap) (List.reverse [])):=Lib.hid ⟨_,_,rfl,fun i m hm=>by simp at hm⟩
  clear h
  simp only[List.length_nil]
  go_enter Tryz.func96,Tryz.ntmps96
  go_wp2_with (first
   | (go_at_call 144;go_must (refine C1.out.mono ?_;rintro e w' ⟨v,rfl,rfl⟩)))
  go_ret
  exact⟨_,rfl,rfl,hA.out,Frm.refl _ _⟩
 ·obtain⟨g,cap,rfl,hr⟩:=mv_rv h h0
  have C1:=Lib.hid (rvMove_any g L.length cap L w rfl (by omega) h5 hr)
  clear h hr
  go_enter Tryz.func96,Tryz.ntmps96
  go_wp2_with (first
   | (go_at_call 144;go_must (refine C1.out.mono ?_;rintro e w' ⟨v,rfl,h1,h2⟩;have H1:=Lib.hid h1;have H2:=Lib.hid h2;clear h1 h2)))
  go_ret
  exact⟨_,rfl,rfl,H1.out,H2.out⟩
def parOf (nb:Nat) (w:World):Nat:=(intOf ((w.cell? ⟨nb,1,none⟩).getD undef) + 1).toNat
abbrev ndA (d:Nd × Nat):Array Value:=#[.pointer (some ⟨d.2,0,none⟩),.int .i64 d.1.par,.int .i64 d.1.mv.kind,.int .i64 d.1.mv.role,.int .i64 d.1.mv.step,.int .i64 d.1.mv.place,.int .i64 d.1.lvl]
theorem parOf_at {nb:Nat} {w:World} {d:Nd × Nat} {t:TypeId} (h:w.heap[nb]?=some (.cells (ndA d) t (0,0))):parOf nb w=(d.1.par + 1).toNat:=by
 have h2:w.cell? ⟨nb,1,none⟩=some (.int .i64 d.1.par):=cell_of h 1
 unfold parOf
 rw[h2]
 rfl
set_option maxHeartbeats 4000000 in
set_option maxRecDepth 100000 in
theorem xTrace_any {W:World} {s:SesD} {yb pb lim nn i:Nat} {whole:Bool} {N:List (Nd × Nat)} (h:SpO W s yb whole pb N) (hi:SI s lim nn (N.map Prod.fst)) (hlt:i < N.length) (h5:N.length≤200000) :
  Calls Tryz.prog 41 #[.pointer (some ⟨pb,0,none⟩),.int .i64 i] W (RetV fun v w'=>∃ u,v=.tuple #[u,.int .i64 0]∧Arr 4 MvAt w' u (traceP (N.map Prod.fst) i)∧Frm [] W w'):=by
 have HS:=Lib.hid h;have HI:=Lib.hid hi
 obtain⟨d,hd⟩:∃ d,N[i]?=some d:=⟨_,List.getElem?_eq_getElem hlt⟩
 have C1:=Lib.hid (xNode_in h hd (by omega))
 have HD:=Lib.hid hd
 clear h hi hd
 go_enter Tryz.func41,Tryz.ntmps41
 go_wp2_with (first
  | (go_at_call 95;go_must (refine C1.out.mono ?_;rintro e w1 ⟨rfl,hf⟩;have HF:=Lib.hid hf;clear hf)))
 have hnb0:=heap_alloc_new w1 (.cells (ndA d) 192)
 have hf0:Frm [] W (w1.alloc (.cells (ndA d) 192)):=HF.out.alloc _
 have hle:W.heap.size≤w1.heap.size:=HF.out.size
 obtain⟨nb,hnb⟩:∃ nb,w1.heap.size=nb:=⟨_,rfl⟩
 rw[hnb] at hnb0 hle ⊢
 have HN0:=Lib.hid hnb0;have HF0:=Lib.hid hf0;have HLE:=Lib.hid hle
 clear hnb0 hf0 hle HF C1
 go_loopw [4,5] (fun s4 s5 wr=>∃ (c:Nat) (e:Nd × Nat) (R:List Mv) (ao:Option Addr) (cp:Nat),(s4=.slice ao R.length cp∧s5=.int .i64 0)∧N[c]?=some e∧R.length + c≤i∧traceP (N.map Prod.fst) i=traceP (N.map Prod.fst) c ++ R.reverse∧wr.ownsRow W.heap.size 45 4 (.slice ao R.length cp) R.length (mvC R)∧wr.heap[nb]?=some (.cells (ndA e) 192 (0,0))∧Frm [] W wr) (fun _ _ w=>parOf nb w)
 case atStart=>exact⟨i,d,[],none,0,⟨rfl,rfl⟩,HD.out,by simp,by simp,World.ownsRow_nil _ _ _ _,HN0.out,HF0.out⟩
 case round =>
  obtain⟨c,e,R,ao,cp,⟨rfl,rfl⟩,he,hRc,htr,ho,hn,hf⟩:=hrel
  obtain⟨wq,hwq⟩:∃ wq,wq=wr:=⟨_,rfl⟩
  subst hwq
  have HTR:=Lib.hid htr;have HO:=Lib.hid ho;have HNB:=Lib.hid hn;have HFQ:=Lib.hid hf
  have hm:(N.map Prod.fst)[c]?=some e.1:=by rw[List.getElem?_map,he];rfl
  have n1:wq.cell? ⟨nb,1,none⟩=some (.int .i64 e.1.par):=cell_of hn 1
  by_cases hp:0≤e.1.par
  ·have hc0:0 < c:=by
    rcases Nat.eq_zero_or_pos c with h0 | h0
    ·subst h0
     rw[HI.out.one] at hm
     rw[← Option.some.inj hm] at hp
     exact absurd hp (show ¬ (0:Int)≤-1 by decide)
    ·exact h0
   obtain⟨p,b,hpar,hpc,hb,-⟩:=HI.out.par c e.1 hm hc0
   have hcl:=lt_of_some he
   obtain⟨e',he'⟩:∃ e',N[p]?=some e':=⟨_,List.getElem?_eq_getElem (by omega)⟩
   have hm':(N.map Prod.fst)[p]?=some e'.1:=by rw[List.getElem?_map,he'];rfl
   have hlow:e'.1.par < p:=by
    rcases Nat.eq_zero_or_pos p with h0 | h0
    ·subst h0
     rw[HI.out.one] at hm'
     rw[← Option.some.inj hm']
     exact(show (-1:Int) < 0 by decide)
    ·obtain⟨p2,b2,h1,h2,-⟩:=HI.out.par p e'.1 hm' h0
     rw[h1];omega
   have HST:=Lib.hid (trace_step HI.out hm hpar hpc)
   have n2:wq.cell? ⟨nb,2,none⟩=some (.int .i64 e.1.mv.kind):=cell_of hn 2
   have n3:wq.cell? ⟨nb,3,none⟩=some (.int .i64 e.1.mv.role):=cell_of hn 3
   have n4:wq.cell? ⟨nb,4,none⟩=some (.int .i64 e.1.mv.step):=cell_of hn 4
   have n5:wq.cell? ⟨nb,5,none⟩=some (.int .i64 e.1.mv.place):=cell_of hn 5
   rw[hpar] at n1
   have hpz:(0:Int)≤(p:Int):=by omega
   have HE':=Lib.hid he';have HPAR:=Lib.hid hpar;have HLOW:=Lib.hid hlow
   obtain⟨i0,hi0,hz0,hz1,hz2⟩:=info_parts Tryz.infoMv
   have hsz:W.heap.size≤(wq.alloc (.cells #[.int .i64 e.1.mv.kind,.int .i64 e.1.mv.role,.int .i64 e.1.mv.step,.int .i64 e.1.mv.place] 45)).heap.size:=by have:=hf.size;simp;omega
   have hne:(Value.slice ao R.length cp).ownBlock≠some nb:=fun h=>by
    obtain⟨cu,hcu⟩:=ownBlock_type ho h
    rw[hn] at hcu;cases hcu
   have HNE:=Lib.hid hne
   clear htr ho hn hf hm hm' hp hpar hb he he' hlow hne
   go_wp2_with (first
    | (at_builtin;refine wpList_append_own_at _ rfl _ _ 67 rfl W.heap.size 45 i0 (.agg #[.int .i64 0,.int .i64 0,.int .i64 0,.int .i64 0]) 4 32 Tryz.underlying67 hi0 hz0 hz1 hz2 rfl (by decide) (.slice ao R.length cp) R.length (mvC R) rfl (HO.out.alloc _) ⟨wq.heap.size,0,none⟩ 1 1 (mvC1 e.1.mv) rfl rfl (new_row _ _ _) (by simp[mvC1,Value.oneCell']) (by unfold maxLen;omega) (by omega) hsz ?_;intro v' w6 hown' hgrow _ _;obtain⟨ao',cp',rfl⟩:=own_shape hown';have hf6:Frm [] W w6:=(HFQ.out.alloc _).grown hgrow (fun k hk=>.inr (ownBlock_ge HO.out hk));have h6:=grown_at hgrow (alloc_at HNB.out) HNE.out;have HF6:=Lib.hid hf6;have HNB6:=Lib.hid h6;have HO6:=Lib.hid hown';have m1:w6.cell? ⟨nb,1,none⟩=some (.int .i64 (p:Int)):=by { rw[← HPAR.out];exact cell_of h6 1 };clear hgrow hown' h6 hf6 n1 n2 n3 n4 n5)
    | (go_at_call 95;go_must (refine(xNode_in (HS.out.frm HF6.out) HE'.out (by omega)).mono ?_;rintro en w7 ⟨rfl,hf7⟩;have HF7:=Lib.hid hf7;have HNB7:=Lib.hid (hf7.at HNB6.out (by simp));clear hf7 m1))
    | (refine wpList_store_row rfl 192 _ _ rfl _ _ _ 192 rfl rfl HNB7.out rfl Tryz.infoNode (one_nd _ _ _ _ _ _ _) ?_;intro w8 hb8 hf8;have HB8:=Lib.hid hb8;have HF8:=Lib.hid hf8;clear hb8 hf8))
   have hm1:parOf nb w8 < parOf nb wq:=by
    rw[parOf_at (d:=e') HB8.out,parOf_at HNB.out,HPAR.out]
    have:=HLOW.out
    omega
   have hlen:(R ++ [e.1.mv]).length=R.length + 1:=by simp
   have hO8:w8.ownsRow W.heap.size 45 4 (.slice ao' (R.length + 1) cp') (R.length + 1) (mvC (R ++ [e.1.mv])):=by
    have h0:(Value.slice ao' (R.length + 1) cp').ownBlock≠some nb:=fun h=>by
     obtain⟨cu,hcu⟩:=ownBlock_type HO6.out h
     rw[HNB6.out] at hcu;cases hcu
    have e9:mvC (R ++ [e.1.mv])=mvC R ++ mvC1 e.1.mv:=by rw[mvC_append];simp[mvC]
    rw[e9]
    exact HF8.out.owns (HF7.out.owns HO6.out (by simp)) (fun k hk hm=>by
     rw[List.mem_singleton] at hm
     rw[hm] at hk
     exact h0 hk)
   refine⟨⟨p,e',R ++ [e.1.mv],ao',cp',⟨by rw[hlen],rfl⟩,HE'.out,by rw[hlen];omega,?_,by rw[hlen];exact hO8,HB8.out,(HF6.out.trans HF7.out).then HF8.out (fun k hk=>?_)⟩,hm1⟩
   ·rw[HTR.out,HST.out,List.reverse_append,List.append_assoc];rfl
   ·rw[List.mem_singleton] at hk
    subst hk
    exact .inr HLE.out
  ·have hp':¬ (0:Int)≤e.1.par:=hp
   have hc0:c=0:=by
    rcases Nat.eq_zero_or_pos c with h0 | h0
    ·exact h0
    ·obtain⟨p,b,hpar,-⟩:=HI.out.par c e.1 hm h0
     omega
   subst hc0
   have hz:=trace_zero HI.out
   have CT:=Lib.hid (xTurned_any ho (by omega))
   have HZ:=Lib.hid hz
   clear htr ho hn hf hm hz
   go_wp2_with (first
    | (go_at_call 96;go_must (refine CT.out.mono ?_;rintro en w7 ⟨v,rfl,rfl,h1,h2⟩;have H1:=Lib.hid h1;have H2:=Lib.hid h2;clear h1 h2)))
   go_ret2
   refine⟨_,rfl,_,rfl,?_,HFQ.out.then H2.out (fun k hk=>?_)⟩
   ·rw[HTR.out,HZ.out,List.nil_append];exact H1.out
   ·rw[Option.mem_toList] at hk;exact .inr (ownBlock_ge HO.out hk)
set_option maxRecDepth 100000 in
theorem xTrace_err {W:World} {po:Option Addr} {n e:Int} (hc:Calls Tryz.prog 95 #[.pointer po,.int .i64 n] W (Ret (.tuple #[ndZ,.int .i64 e]) (Frm [] W))) (he:e≠0) :
  Calls Tryz.prog 41 #[.pointer po,.int .i64 n] W (RetV fun v w'=>v=.tuple #[.slice none 0 0,.int .i64 e]∧Frm [] W w'):=by
 have C1:=Lib.hid hc
 have CT:Hid (∀ V,Calls Tryz.prog 96 #[.slice none 0 0] V (RetV fun u w'=>u=.slice none 0 0∧Arr 4 MvAt w' (.slice none 0 0) (List.reverse [])∧Frm (Value.slice none 0 0).ownBlock.toList V w')):=Lib.hid fun V=>xTurned_any (L:=[]) (World.ownsRow_nil V 0 _ _) (by simp)
 clear hc
 go_enter Tryz.func41,Tryz.ntmps41
 go_wp2_with (first
  | (go_at_call 95;go_must (refine C1.out.mono ?_;rintro en w1 ⟨rfl,hf⟩;have HF:=Lib.hid hf;clear hf)))
 go_loopw [4,5] (fun s4 s5 wr=>(s4=.slice none 0 0∧s5=.int .i64 e)∧Frm [] W wr) (fun _ _ _=>0)
 case atStart=>exact⟨⟨rfl,rfl⟩,HF.out.alloc _⟩
 case round =>
  obtain⟨⟨rfl,rfl⟩,hf⟩:=hrel
  have HFR:=Lib.hid hf
  clear hf
  go_wp2_with (first
   | (go_at_call 96;go_must (refine(CT.out _).mono ?_;rintro en w7 ⟨v,rfl,rfl,h1,h2⟩;have H2:=Lib.hid h2;clear h1 h2)))
  go_ret2
  exact⟨_,rfl,rfl,HFR.out.trans H2.out⟩
end Go.Proofs.YtkphhjekfimmlaaGreat
namespace Go.Proofs.YtkphhjekfimmlaaGreat
open Go.RowKit Go.BigFrame
theorem law_end {w W:World} {ds:List Nat} {r rb:Nat} {fn:Func} {tmps:Array Value} (hF:Frm [] w W) (hb:W.heap[rb]?=some (.cells #[.bool false] 4 (0,0))) (hrb:w.heap.size≤rb) (hm:Ms w ds W)
  (hf:fn.results=#[.cell r 4]:=by rfl) (ht:tmps.getD r undef=.pointer (some ⟨rb,0,none⟩):=by rfl) :
  LeavesInM Fence.wide 3 Tryz.prog fn tmps (Ret (.bool true) (Frm [] w)) (marks ds) .returning (W.setCell ⟨rb,0,none⟩ (.bool true)):=by
 have hs:=block_setCell hb 0 (.bool true)
 have hne:∀ D∈ds,D≠rb:=fun D hD e=>by
  have:=(hm.dl D hD).2
  rw[e,hb] at this;cases this
 refine leaves_many ds _ hm.nd (fun D hD=>setCell_at (hm.dl D hD).2 (hne D hD) _) ⟨.bool true,?_,rfl,(hF.setCell _ (.inr hrb) _).then (unmark_frm ds _) (fun D hD=>.inr (hm.dl D hD).1)⟩
 have hc:(unmark ds (W.setCell ⟨rb,0,none⟩ (.bool true))).cell? ⟨rb,0,none⟩=some (.bool true):=(cell_of ((unmark_frm ds _).at hs (fun h=>hne rb h rfl)) 0).trans rfl
 generalize unmark ds (W.setCell ⟨rb,0,none⟩ (.bool true))=Wf at hc
 have ht':tmps[r]?.getD undef=.pointer (some ⟨rb,0,none⟩):=by simpa using ht
 simp[results,hf,go_sem,hc,ht']
theorem meas_upS {m k:Nat} (hk:k < m):m - (intOf (.int .i64 ((k:Int) + 1))).toNat < m - (intOf (.int .i64 (k:Int))).toNat:=by
 simp only[intOf]
 omega
end Go.Proofs.YtkphhjekfimmlaaGreat
