/- Part of the proof. -/
import Derived.WalkKit
import Derived.WalkSpells
import Derived.Deep.QuietTactic
import Derived.Deep.MidRow
import Derived.Deep.WholeRow
import Derived.Lib.SlicesS
import Derived.Shelf.SlGeneric
import Derived.Shelf.SlLaysN
import Derived.Shelf.SlLaysM
import Derived.Ground.SlgnProg
import Derived.Ground.SlgmProg
import Derived.Test.YtohfkhjlnlahdaaGreatProg
import Derived.BigQuiet
import Derived.StillTail
import Derived.Laws.IdiomStrings
import Derived.Shelf.Bytes.SlSmallAll
import Derived.Deep.Upon
import Derived.ArgAppend
import Derived.Deep.AppendLies
import Derived.Maps.AppendAt
import Derived.Lib.Hide
import Derived.Deep.DeepMust
import Derived.WalkLawsBesides
import Derived.BigRegion
import Derived.Deep.RegionHeld3
import Derived.Deep.RegionLaw
import Derived.Deep.DeepCutAuto
import Derived.Shelf.SlicesG.Clone
import Derived.Shelf.SlicesG.Turned
import Derived.Shelf.SlicesG.Delete
import Derived.Sort.OwnSorted
import Derived.OrdersHeld
import Derived.Lib.SliceRun
import Derived.LoopTactic
import Derived.RangeFuncNested
import Derived.RangeFuncLeaves
import Derived.RangeFuncCalls
import Derived.RangeFuncBound
import Derived.OwnWalkIn
import Derived.TacticsInMore
import Derived.LoopNIn
import Derived.LoopIn
import Derived.Test.YtohfkhjlnlahdaaGreatQ04
import Derived.Test.YtohfkhjlnlahdaaGreatQ23
import Derived.Test.YtohfkhjlnlahdaaGreatQ25
import Derived.Test.YtohfkhjlnlahdaaGreatQ11
import Derived.Test.YtohfkhjlnlahdaaGreatQ24
import Derived.Test.YtohfkhjlnlahdaaGreatQ12
import Derived.Test.YtohfkhjlnlahdaaGreatQ21
import Derived.Laws.StructEq
import Derived.Laws.EntriesVeiled
import Derived.Laws.Concat
import Derived.OrdersIn
import Derived.Lib.Builder
import Derived.Shelf.SortM.Plain
import Derived.Shelf.SortM.SortNone
import Derived.Sort.CutIn
import Derived.Lib.AppendStr
import Derived.Laws.OwnMore
import Derived.Maps.OwnSet
import Derived.Maps.OwnOps
import Derived.LaidEql
import Derived.Test.YtohfkhjlnlahdaaGreatQ01
import Derived.ProofKit
import Derived.SizedLaws
import Derived.Deep.Slices
import Derived.Test.YtohfkhjlnlahdaaGreatQ08
import Derived.Test.YtohfkhjlnlahdaaGreatQ05
import Derived.Test.YtohfkhjlnlahdaaGreatRows
import Derived.Lib.SmallJoins
import Derived.Test.YtohfkhjlnlahdaaGreatQ03
set_option linter.all false
namespace Go.Proofs.YtohfkhjlnlahdaaGreat
open Go.RowKit Go.BigFrame
def jQ (a:Value→Prop) (e:TypeId) (v:Value) (w:World):Prop:=∀ g cur,v.ownBlock=some g→w.heap[g]?=some (.cells cur e (0,0))→∀ u∈cur,a u
theorem gh {a:Array Value} {n:Nat} {A:Value→Prop} (H:0<a.size) (G:∀ u∈a,A u):∀ u∈Builtin.zeroCells a n,A u:=by
 intro u h
 unfold Builtin.zeroCells at h
 simp only[Array.mem_map,Array.mem_range] at h
 obtain⟨i,-,rfl⟩:=h
 have E:i % a.size<a.size:=Nat.mod_lt _ H
 rw[getElem!_pos a _ E]
 exact G _ (Array.getElem_mem E)
theorem nE {P:Program} (w:World) (R:Value→Prop) (base:Nat) (t ty e:TypeId) (i:TypeInfo) (z:Value) (J bytes:Nat) (Y:P.underlying t=some (.slice e)) (W:P.info? e=some i) (af:i.zero=some z)
  (am:i.size=J) (al:i.bytes=bytes) (aB:z.cells.size=J) (az:0<J) (v:Value) (n:Nat) (H:List Value) (O:w.ownsRow base e J v n H)
  (K:Addr) (m c:Nat) (h:List Value) (U:h.length=m*J) (X:∀ j u,h[j]?=some u→w.cell? (K.add j)=some u) (ah:∀ u∈h,u.oneCell'=true)
  (aj:n+m≤maxLen) (ae:(n+m)*bytes≤140737488355328) (ar:base≤w.heap.size) (aw:0<m) (ab:jQ R e v w) (ak:∀ u∈z.cells,R u) (ad:∀ u∈h,R u) :
  ∃ v' w',(Builtin.append_ #[t,t] ty #[v,.slice (some K) m c]).run P w=.ok v' w'∧w'.ownsRow base e J v' (n+m) (H++h)∧w.grownBy w' v.ownBlock∧jQ R e v' w'∧(v'.ownBlock=v.ownBlock∨v'.ownBlock=some w.heap.size):=by
 obtain⟨v',w',I,ap,aq,-,ai⟩:=run_append_own_at (P:=P) w base t ty e i z J bytes Y W af am al aB az v n H O K m c h U X ah aj ae ar
 refine⟨v',w',I,ap,aq,?_,ai⟩
 clear ai
 subst am
 subst al
 have aG:n+m≤9223372036854775807:=by simp only[maxLen] at aj;omega
 have ax:∀ g cap,v=.slice (some ⟨g,0,none⟩) n cap→∀ u∈H,R u:=by
  rintro g cap rfl u a
  obtain⟨-,⟨A,-⟩ | ⟨aa,aC,cur,A,-,N,-,-,-,an⟩⟩:=O
  ·cases A
  ·cases A
   rw[← an] at a
   exact ab g cur rfl N u (by simpa using List.mem_of_mem_take a)
 rcases O.2 with ⟨rfl,rfl⟩ | ⟨g,cap,cur,rfl,aD,N,aF,aE,au,an⟩
 ·have aA:H=[]:=List.eq_nil_of_length_eq_zero (by simpa using O.1)
  subst aA
  have V:=run_append_nil (P:=P) w t ty e i z Y W af K m c h U X aw (by omega) (by have hb:=ae;simp only[Nat.zero_add] at hb;omega)
  rw[V] at I
  injection I with A e2
  subst A
  subst e2
  intro aa ag G E u a
  simp only[Value.ownBlock,Option.some.injEq] at G
  subst G
  have S:=heap_alloc_new w.drew (.cells (h.toArray++Builtin.zeroCells z.cells (grownCap w m 0 e - m)) e)
  rw[show w.drew.heap.size=w.heap.size from rfl] at S
  rw[S] at E
  cases E
  rcases Array.mem_append.1 a with a | a
  ·exact ad u (by simpa using a)
  ·exact gh (by omega) ak u a
 ·by_cases hroom:n+m≤cap
  ·have av:n*i.size+h.length≤cur.size:=by rw[U,au,← Nat.add_mul];exact Nat.mul_le_mul_right _ hroom
   have V:=run_append_room (P:=P) w t ty e i Y W g n cap cur N K m c h U X ah hroom av
   rw[V] at I
   injection I with A e2
   subst A
   subst e2
   intro aa ag G E u a
   simp only[Value.ownBlock,Option.some.injEq] at G
   subst G
   rw[setRow_heap w g cur _ e _ N] at E
   cases E
   simp only[List.mem_toArray,List.mem_append] at a
   rcases a with (a | a) | a
   ·exact ab g cur rfl N u (by simpa using List.mem_of_mem_take a)
   ·exact ad u a
   ·exact ab g cur rfl N u (by simpa using List.mem_of_mem_drop a)
  ·have ay:∀ j u,H[j]?=some u→w.cell? ((⟨g,0,none⟩:Addr).add j)=some u:=O.cells (g:=g) rfl
   have V:=run_append_grow (P:=P) w t ty e i z Y W af ⟨g,0,none⟩ n cap H O.1 ay K m c h U X (by omega) (by omega) (growslice_fits (by omega) ae)
   rw[V] at I
   injection I with A e2
   subst A
   subst e2
   intro aa ag G E u a
   simp only[Value.ownBlock,Option.some.injEq] at G
   subst G
   have S:=heap_alloc_new w.drew (.cells (H.toArray++h.toArray++Builtin.zeroCells z.cells (grownCap w (n+m) cap e - (n+m))) e)
   rw[show w.drew.heap.size=w.heap.size from rfl] at S
   rw[S] at E
   cases E
   simp only[Array.mem_append,List.mem_toArray] at a
   rcases a with (a | a) | a
   ·exact ax g cap rfl u a
   ·exact ad u a
   ·exact gh (by omega) ak u a
theorem jR {P:Program} {o:Oper} {E:Act} {w:World} {I:Act→World→Prop} {Q:Exit→Act→World→Prop} (A:Value→Prop) (s x:Operand) (t:TypeId)
  (ah:o.op=.call { callee:=.builtin .append,args:=#[s,x],argTypes:=#[t,t] })
  (base:Nat) (e:TypeId) (i:TypeInfo) (z:Value) (a bytes:Nat) (an:P.underlying t=some (.slice e)) (ad:P.info? e=some i) (aq:i.zero=some z)
  (al:i.size=a) (aa:i.bytes=bytes) (ar:z.cells.size=a) (am:0<a)
  (v:Value) (n:Nat) (H:List Value) (ak:E.eval s=v) (ai:w.ownsRow base e a v n H)
  (G:Addr) (m c:Nat) (h:List Value) (ap:E.eval x=.slice (some G) m c) (ae:h.length=m*a) (ag:∀ j u,h[j]?=some u→w.cell? (G.add j)=some u) (K:∀ u∈h,u.oneCell'=true)
  (U:n+m≤maxLen) (ab:(n+m)*bytes≤140737488355328) (Y:base≤w.heap.size) (af:0<m) (V:jQ A e v w) (X:∀ u∈z.cells,A u) (W:∀ u∈h,A u)
  (J:∀ v' w',w'.ownsRow base e a v' (n+m) (H++h)→w.grownBy w' v.ownBlock→jQ A e v' w'→(v'.ownBlock=v.ownBlock∨v'.ownBlock=some w.heap.size)→I (E.put o.dst v') w') :
  Oper.wp P o E w I Q:=by
 obtain⟨v',w',aj,N,O,R,S⟩:=nE (P:=P) w A base t o.type e i z a bytes an ad aq al aa ar am v n H ai G m c h ae ag K U ab Y af V X W
 unfold Oper.wp execOp
 simp only[ah,resolve,invoke,builtin,Sem.run_bind,Sem.run_pure,Result.andThen_ok,List.map_toArray,List.map_cons,List.map_nil,ak,ap,aj]
 exact J v' w' N O R S
end Go.Proofs.YtohfkhjlnlahdaaGreat
namespace Go.Proofs.YtohfkhjlnlahdaaGreat
open Go.RowKit Go.BigFrame Go.Sort
theorem pE (L:List ByteArray):(L.map byt).map encStr=L.map Value.string:=by
 rw[List.map_map];rfl
theorem Strs.holds {w:World} {g cap:Nat} {L:List ByteArray} (A:Strs w (.slice (some ⟨g,0,none⟩) L.length cap) L):Holds encStr w g 0 (L.map byt).toArray∧L.length≤cap∧cap≤maxLen∧∃ cur,w.heap[g]?=some (.cells cur 9 (0,0))∧cur.size=cap*1:=by
 obtain⟨O,E⟩:=A
 rcases E with ⟨a,R⟩ | ⟨N,K,cur,a,hb,h,G,H,I,J⟩
 ·cases a
 ·cases a
  refine⟨holds_of_block h ?_,G,H,cur,h,I⟩
  rw[pE,← J];simp
theorem Strs.prefix' {w:World} {g cap n:Nat} {h:List Value} {L:List ByteArray} (A:w.ownsRow 0 9 1 (.slice (some ⟨g,0,none⟩) n cap) n h) (H:h.take L.length=L.map Value.string) (S:L.length≤n):Strs w (.slice (some ⟨g,0,none⟩) L.length cap) L:=by
 obtain⟨R,E⟩:=A
 rcases E with ⟨a,_⟩ | ⟨O,N,cur,a,hb,G,U,I,J,K⟩
 ·cases a
 ·cases a
  refine⟨by simp,.inr ⟨g,cap,cur,rfl,hb,G,by omega,I,J,?_⟩⟩
  rw[← H,← K,List.take_take]
  congr 1;omega
theorem oL (v:Value) (L:List ByteArray) (p:Nat) (w:World) (a:Strs w v L) (G:p<L.length) (U:L.length≤1000) :
  Calls Tryz.prog 132 #[v,.int .i64 p,.int .i64 ((p:Int)+1)] w (aU fun v' w'=>Strs w' v' (L.eraseIdx p)∧v'.ownBlock=v.ownBlock∧Frm v.ownBlock.toList w w'):=by
 obtain⟨ao,cap,rfl,V,N⟩:=a.shape
 obtain⟨g,rfl,-⟩:=N p _ (List.getElem?_eq_getElem G)
 obtain⟨K,H,I,cur,O,S⟩:=a.holds
 have h:=AnyG.slices_Delete_string Tryz.deleteS g 0 cap p (p+1) (L.map byt) w K (by simpa using H) (by unfold maxLen at I;omega) (by omega) (by simp;omega)
 rw[List.length_map] at h
 refine(show Calls Tryz.prog 132 _ w _ from h).mono ?_
 rintro e w' ⟨rfl,q,rfl⟩
 have A:(L.eraseIdx p).length=L.length - (p+1 - p):=by rw[List.length_eraseIdx_of_lt G];omega
 refine⟨_,rfl,?_,rfl,?_⟩
 ·have E:=ownsRow_sorted (w:=w) (base:=0) (g:=g) (cap:=cap) (n:=q) (e:=9) (os:=#[]) (cur:=cur) (ss:=L.map byt) (ts:=(L.map byt).take p++(L.map byt).drop (p+1)++List.replicate (p+1 - p) []) (by simp;omega) (Nat.zero_le _) O (by simpa using H) I S
  rw[grow_empty,List.length_map] at E
  rw[← A]
  refine Strs.prefix' E ?_ (by rw[A];omega)
  have J:((L.map byt).take p++(L.map byt).drop (p+1)).map encStr=(L.eraseIdx p).map Value.string:=by
   rw[← pE,List.eraseIdx_eq_take_drop_succ,List.map_append (f:=byt),List.map_take,List.map_drop]
  rw[List.map_append (f:=encStr),J,List.take_left' (by simp)]
 ·have hb:=grownBy_sorted (w:=w) (g:=g) (n:=q) (os:=#[]) ((L.map byt).take p++(L.map byt).drop (p+1)++List.replicate (p+1 - p) []).toArray
  rw[grow_empty] at hb
  exact(Frm.refl _ _).grown hb (fun k R=>by cases R;exact .inl (by simp[Value.ownBlock]))
def cfn (cls:Int):Nat:=if cls=2 then 180 else 179
theorem pF (cls:Int) (v:Value) (L:List ByteArray) (i:Nat) (w:World) (a:Strs w v L) (h:L.length≤1000000) (A:i<L.length) :
  Calls Tryz.prog (cfn cls) #[v,.int .i64 i] w (Ret (.bool (chc cls L i)) (w=·)):=by
 unfold cfn chc
 split
 ·exact nM v L i _ w a h (by rw[List.getD_eq_getElem?_getD,List.getElem?_eq_getElem A];rfl)
 ·exact pT v i w
theorem uC {cls:Int} (a:1≤cls) (h:cls≤3):∃ k:Nat,cls=(k:Int)∧k<4∧(#[Value.nilFunc,.func (.func 179) #[] #[],.func (.func 180) #[] #[],.func (.func 179) #[] #[]]:Array Value)[k]?=some (.func (.func (cfn cls)) #[] #[]):=by
 have:cls=1∨cls=2∨cls=3:=by omega
 rcases this with rfl | rfl | rfl
 ·exact⟨1,rfl,by decide,rfl⟩
 ·exact⟨2,rfl,by decide,rfl⟩
 ·exact⟨3,rfl,by decide,rfl⟩
theorem Good.erase {cls cap:Int} {L:List ByteArray} {p:Nat} (a:Good cls cap L):Good cls cap (L.eraseIdx p):=
 ⟨a.c1,a.c3,a.k1,a.k64,by have:=a.len;have:=List.length_eraseIdx_le L p;omega,fun x h=>a.sz x (List.mem_of_mem_eraseIdx h)⟩
theorem sq {w wc K E:World} {cb:Nat} {cls cap:Int} {L L':List ByteArray} {A v' h:Value} (N:w.heap[cb]?=some (.cells #[.int .i64 cls,.int .i64 cap,A] 233 (0,0))) (S:Good cls cap L')
  (H:Frm [] w wc) (J:o4 wc L v' K) (V:Strs E h L') (I:h.ownBlock=v'.ownBlock) (O:Frm v'.ownBlock.toList K E) (R:E.heap[cb]?=some (.cells #[.int .i64 cls,.int .i64 cap,A] 233 (0,0))) :
  ChnTo w cb cls cap L' (cb :: A.ownBlock.toList) (E.setCell ⟨cb,2,none⟩ h):=by
 have X:=lt_of_block N
 have Y:=H.size
 have G:∀ k,v'.ownBlock=some k→w.heap.size≤k:=fun k U=>by have:=J.2.2 k U;omega
 refine⟨cb :: h.ownBlock.toList,⟨h,(ap R 2 h).trans rfl,ownsRow_setCell_other V (fun e=>?_) h,S,rfl⟩,?_,fun x a=>?_⟩
 ·rw[I] at e;have W:w.heap.size≤cb:=G _ e;omega
 ·refine Frm.setCell ?_ _ (.inl (by simp)) _
  exact((H.trans J.2.1).mono (F':=cb :: A.ownBlock.toList) (by simp)).then O (fun x a=>.inr (G x (by simpa using a)))
 ·simp only[List.mem_cons,Option.mem_toList] at a ⊢
  rcases a with rfl | a
  ·exact .inl (.inl rfl)
  ·rw[I] at a;exact .inr (G x a)
theorem qp {cls:Int} (a:1≤cls) (h:cls≤3):cls=1∨cls=2∨cls=3:=by omega
set_option maxHeartbeats 4000000 in
set_option maxRecDepth 100000 in
theorem tP (cb:Nat) (cls cap:Int) (L:List ByteArray) (F:List Nat) (p:Nat) (w:World) (O:Chn w cb cls cap L F) (I:p<L.length) :
  Calls Tryz.prog 68 #[.pointer (some ⟨cb,0,none⟩),.int .i64 p] w (Ret (.tuple #[.string (dm cls L p),.int .i64 (cZ cls L p)]) (ChnTo w cb cls cap (dG cls L p) F)):=by
 have ay:=vi (dd cb cls cap L F w O)
 have ab:=vi O.good
 have aA:=vi O.to
 have aJ:=O.good.lenN
 obtain⟨aO,X,H,-,rfl⟩:=O
 have c0:=ae X 0
 have K:=ae X 2
 obtain⟨ao,c,rfl,-,au⟩:=H.shape
 obtain⟨g,rfl,ag⟩:=au p _ (List.getElem?_eq_getElem I)
 have al:=vi X;have am:=vi H
 have aK:decide ((p:Int)<0)=false:=by simp
 have aL:decide (L.length≤p)=false:=by simp;omega
 obtain⟨r,ah⟩:∃ r,chc cls L p=r:=⟨_,rfl⟩
 have S:Hid (∀ w',Frm [] w w'→Calls Tryz.prog (cfn cls) #[.slice (some ⟨g,0,none⟩) L.length c,.int .i64 p] w' (Ret (.bool r) (w'=·))):=vi fun w' h=>by
  have:=pF cls _ L p w' (am.out.frm h (by simp)) (by omega) I
  rwa [ah] at this
 have ai:=vi ah
 have W:w.cell? ⟨cb,0,none⟩=some (.int .i64 cls):=c0
 have N:w.cell? ⟨cb,2,none⟩=some (.slice (some ⟨g,0,none⟩) L.length c):=K
 have G:Hid (∀ w',Frm [] w w'→w'.cell? ⟨cb,0,none⟩=some (.int .i64 cls)∧w'.cell? ⟨cb,2,none⟩=some (.slice (some ⟨g,0,none⟩) L.length c)):=vi fun w' h=>⟨h.keep W,h.keep N⟩
 clear X H au c0 K ah
 go_enter Tryz.func68,Tryz.ntmps68
 go_wp2_with (first
  | (go_at_call 128;go_must (refine ay.out.mono ?_;rintro e w' ⟨rfl,rfl⟩)))
 go_cut [35] (fun s35 w'=>s35=.bool (!r)∧Frm [] w w')
 case first =>
  rcases qp ab.out.c1 ab.out.c3 with e | e | e
  all_goals
   rw[e] at G S
   clear e W N
   refine fS (by kernel_rfl) ?_
   refine cnt 0 ?_
   iterate 12
    refine tcG ?_ ?_ ?_
    rotate_left
    ·intro w' a
     obtain⟨aq,H⟩:=G.out w' ((Frm.refl [] w).drew.trans a)
     clear a
     go_simp
     try rfl
    try simp only[nrm,Nat.reduceAdd]
   refine tcn ?_
   refine cnt 13 ?_
   iterate 4
    refine tcG ?_ ?_ ?_
    rotate_left
    ·intro w' a
     obtain⟨aq,H⟩:=G.out w' ((Frm.refl [] w).drew.trans a)
     clear a
     go_simp
     try rfl
    try simp only[nrm,Nat.reduceAdd]
   refine tcn ?_
   refine cnt 19 ?_
   iterate 5
    refine tcG ?_ ?_ ?_
    rotate_left
    ·intro w' a
     obtain⟨aq,H⟩:=G.out w' ((Frm.refl [] w).drew.trans a)
     clear a
     go_simp
     try rfl
    try simp only[nrm,Nat.reduceAdd]
   refine tcn ?_
   refine stG 12 (fun J A=>?_)
   go_simp
   (refine(ix w.drew).mono ?_;rintro e ax ⟨rfl,rfl⟩)
   refine A.out _ _ ((Frm.refl [] w.drew).alloc ge) ?_
   clear A J
   try simp only[nrm]
   have an:(w.drew.alloc ge).cell? ⟨w.heap.size,1,none⟩=some (.func (.func 179) #[] #[]):=ae (heap_alloc_new w.drew _) 1
   have K:(w.drew.alloc ge).cell? ⟨w.heap.size,2,none⟩=some (.func (.func 180) #[] #[]):=ae (heap_alloc_new w.drew _) 2
   have ap:(w.drew.alloc ge).cell? ⟨w.heap.size,3,none⟩=some (.func (.func 179) #[] #[]):=ae (heap_alloc_new w.drew _) 3
   have af:Frm [] w (w.drew.alloc ge):=(Frm.refl [] w).drew.alloc _
   generalize w.drew.alloc ge=wz at an K ap af ⊢
   refine tkG 17 ?_ ?_ ?_
   rotate_left
   ·intro w' a
    have aG:=a.keep an
    have aB:=a.keep K
    have aH:=a.keep ap
    clear a
    go_simp
    try rfl
   try simp only[nrm]
   refine stG 18 (fun J A=>?_)
   go_simp
   (skip)
   refine A.out _ _ (Frm.refl [] _) ?_
   clear A J
   try simp only[nrm]
   refine stG 24 (fun J A=>?_)
   go_simp
   (refine(S.out _ af).mono ?_;rintro e aD ⟨rfl,rfl⟩)
   refine A.out _ _ (Frm.refl [] _) ?_
   clear A J
   try simp only[nrm]
   refine cnt 25 ?_
   iterate 2
    refine tcG ?_ ?_ ?_
    rotate_left
    ·intro w' a
     clear a
     go_simp
     try rfl
    try simp only[nrm,Nat.reduceAdd]
   refine tcn ?_
   refine wpAnyH_done (by kernel_rfl) ?_ _
   go_wp2
   go_meet
   exact⟨rfl,af⟩
 case rest =>
  obtain⟨rfl,h⟩:=hcut
  cases r with
  | false =>
    have R:cK cls L (p:Int)=false:=by unfold cK;simp[ai.out]
    have U:=vi h
    have ad:=vi R
    clear h S W N ag R
    go_wp2
    go_ret2
    simp only[dm,cZ,dG,ad.out,Bool.false_eq_true,if_false]
    exact⟨rfl,aA.out.frm U.out⟩
  | true =>
    have R:cK cls L (p:Int)=true:=by unfold cK;simp[ai.out,I]
    have ad:=vi R
    clear R
    have U:=vi h
    have aB:=h.keep N
    have aI:=h.keep ag
    have az:=vi (am.out.frm h (by simp))
    clear h S W N ag
    have ar:=U.out.at al.out (by simp)
    have ak:=vi ar
    clear ar
    go_wp2_with (first
     | (go_at_call 133;go_must (refine(ia _ L wc az.out (by omega)).mono ?_;rintro e ax ⟨v',rfl,E⟩;have V:=vi E;clear E))
     | (go_at_call 132;go_must (refine(oL v' L p ax V.out.1 I (by omega)).mono ?_;rintro e aD ⟨aP,rfl,E⟩;have av:=E.1;obtain⟨aE,aF,aw,-,-⟩:=av.shape;rw[List.length_eraseIdx_of_lt I] at aw;subst aw;have aa:=vi E;have Y:=E.2.2.at (V.out.2.1.at ak.out (by simp)) (fun aC=>by have:=V.out.2.2 _ (by simpa using aC);have:=lt_of_block ak.out;omega);have G:=vi Y;have aM:=ae Y 2;have aN:=aj Y 2;clear av E Y)))
    go_ret2
    simp only[dm,cZ,dG,ad.out,if_true,Int.toNat_natCast]
    refine⟨?_,sq al.out ab.out.erase U.out V.out aa.out.1 aa.out.2.1 aa.out.2.2 G.out⟩
    rw[List.getD_eq_getElem?_getD,List.getElem?_eq_getElem I];rfl
set_option maxHeartbeats 4000000 in
set_option maxRecDepth 100000 in
theorem sr (cb:Nat) (cls cap:Int) (L:List ByteArray) (F:List Nat) (p:Int) (w:World) (G:Chn w cb cls cap L F) (H:p<0∨(L.length:Int)≤p) :
  Calls Tryz.prog 68 #[.pointer (some ⟨cb,0,none⟩),.int .i64 p] w (Ret (.tuple #[.string { data:=#[] },.int .i64 9]) (Frm [] w)):=by
 have a:=vi (dd cb cls cap L F w G)
 obtain⟨O,A,E,-,rfl⟩:=G
 have h:=ae A 2
 obtain⟨ao,c,rfl,-,I⟩:=E.shape
 have K:w.cell? ⟨cb,2,none⟩=some (.slice ao L.length c):=h
 clear A E I h
 by_cases hp0:p<0
 ·have J:decide (p<0)=true:=by simpa using hp0
  clear H hp0
  go_enter Tryz.func68,Tryz.ntmps68
  go_wp2_with (first
   | (go_at_call 128;go_must (refine a.out.mono ?_;rintro e w' ⟨rfl,rfl⟩)))
  go_quiet (fail)
  go_wp2
  go_ret2
  exact⟨rfl,(Frm.refl [] w).drewN _⟩
 ·obtain⟨p,rfl⟩:=Int.eq_ofNat_of_zero_le (by omega:(0:Int)≤p)
  have J:decide ((p:Int)<0)=false:=by simp
  have N:decide (L.length≤p)=true:=by simp;omega
  clear H hp0
  go_enter Tryz.func68,Tryz.ntmps68
  go_wp2_with (first
   | (go_at_call 128;go_must (refine a.out.mono ?_;rintro e w' ⟨rfl,rfl⟩)))
  go_quiet (fail)
  go_wp2
  go_ret2
  exact⟨rfl,(Frm.refl [] w).drewN _⟩
theorem m8 (cb:Nat) (cls cap:Int) (L:List ByteArray) (F:List Nat) (p:Int) (w:World) (a:Chn w cb cls cap L F) :
  Calls Tryz.prog 68 #[.pointer (some ⟨cb,0,none⟩),.int .i64 p] w (Ret (.tuple #[.string (dm cls L p),.int .i64 (cZ cls L p)]) (ChnTo w cb cls cap (dG cls L p) F)):=by
 by_cases hr:p<0∨(L.length:Int)≤p
 ·have E:cK cls L p=false:=by unfold cK;rw[decide_eq_false (by omega)];rfl
  simp only[dm,cZ,dG,E,Bool.false_eq_true,if_false]
  exact(sr cb cls cap L F p w a hr).mono fun e w' ⟨h,A⟩=>⟨h,a.to.frm A⟩
 ·obtain⟨p,rfl⟩:=Int.eq_ofNat_of_zero_le (by omega:(0:Int)≤p)
  exact tP cb cls cap L F p w a (by omega)
set_option maxHeartbeats 4000000 in
theorem su (cb:Nat) (cls cap:Int) (L:List ByteArray) (F:List Nat) (w:World) (a:Chn w cb cls cap L F) :
  Calls Tryz.prog 65 #[.pointer (some ⟨cb,0,none⟩)] w (Ret (.tuple #[.string (iX cls L),.int .i64 (fJ cls L)]) (ChnTo w cb cls cap (eZ cls L) F)):=by
 have h:=vi (dd cb cls cap L F w a)
 have I:=vi a.to
 have G:=vi (m8 cb cls cap L F 0 w a)
 obtain⟨K,A,-,-,-⟩:=a
 have c0:w.cell? ⟨cb,0,none⟩=some (.int .i64 cls):=ae A 0
 clear A
 by_cases h3:cls=3
 ·subst h3
  simp only[iX,fJ,eZ,if_true]
  go_enter Tryz.func65,Tryz.ntmps65
  go_wp2_with (first
   | (go_at_call 128;go_must (refine h.out.mono ?_;rintro e w' ⟨rfl,rfl⟩))
   | (go_at_call 68;go_must (refine G.out.mono ?_;rintro e w' ⟨rfl,E⟩;have H:=vi E;clear E)))
  go_ret2
  exact⟨rfl,H.out⟩
 ·simp only[iX,fJ,eZ,if_neg h3]
  have J:(cls == 3)=false:=by simpa using h3
  go_enter Tryz.func65,Tryz.ntmps65
  go_wp2_with (first
   | (go_at_call 128;go_must (refine h.out.mono ?_;rintro e w' ⟨rfl,rfl⟩)))
  go_ret2
  exact⟨rfl,I.out⟩
end Go.Proofs.YtohfkhjlnlahdaaGreat
namespace Go.Proofs.YtohfkhjlnlahdaaGreat
open Go
section
variable {s:SesD} {x z u:PS}
theorem ez (s:SesD) (x:PS) (i k:Nat) (p:Int):bh s x ⟨1,i,k,p⟩ =
  { pos:=x.pos.set i (bK (s.rol i) ((s.rol i).stp k).to).toNat
    vals:=x.vals.set i (cJ (s.rol i).ctrs (x.bank i) ((s.rol i).stp k))
    ways:=
     if ((s.rol i).stp k).kind=1 then setWay x.ways i (bd s ((s.rol i).stp k)) (gv s.cap (x.way i (bd s ((s.rol i).stp k))) ((s.rol i).stp k).msg)
     else if ((s.rol i).stp k).kind=2 then setWay x.ways (bd s ((s.rol i).stp k)) i (dG s.cls (x.way (bd s ((s.rol i).stp k)) i) p)
     else x.ways }:=by
 unfold bh
 rw[if_neg (show ¬ (1:Int)=2 by decide)]
 rfl
theorem j1 (s:SesD) (x:PS) (i k:Nat) (p:Int):bh s x ⟨2,i,k,p⟩={ x with ways:=setWay x.ways i k (eZ s.cls (x.way i k)) }:=by
 unfold bh
 rw[if_pos rfl]
 rfl
end
end Go.Proofs.YtohfkhjlnlahdaaGreat
namespace Go.Proofs.YtohfkhjlnlahdaaGreat
open Go
structure Nd where
 st:PS
 par:Int
 mv:Mv
 lvl:Nat
 deriving DecidableEq
def mv0:Mv:=⟨0,0,0,0⟩
def eP (s:SesD) (a:List Nd) (k:List UInt8):Bool:=a.any fun d=>decide (cY s d.st=k)
def cH (s:SesD) (lim:Nat) (x:PS) (n a:Nat):List Nd→List Mv→List Nd × Bool
 | N,[]=>(N,true)
 | N,m :: ms =>
   if eP s N (cY s (bh s x m)) then cH s lim x n a N ms
   else if N.length=lim then (N,false)
   else cH s lim x n a (N++[⟨bh s x m,n,m,a+1⟩]) ms
def bfs (s:SesD) (lim:Nat):Nat→Nat→List Nd→List Nd × Bool
 | 0,_,N=>(N,true)
 | f+1,n,N=>match N[n]? with
   | none=>(N,true)
   | some d=>match cH s lim d.st n d.lvl N (aN s d.st) with
     | (N',true)=>bfs s lim f (n+1) N'
     | (N',false)=>(N',false)
def nd0 (s:SesD):Nd:=⟨bg s,-1,mv0,0⟩
def aQ (s:SesD) (lim:Nat):List Nd × Bool:=bfs s lim (lim+1) 0 [nd0 s]
structure SI (s:SesD) (lim:Nat) (n:Nat) (N:List Nd):Prop where
 ok:∀ d∈N,PSok s d.st
 one:N[0]?=some (nd0 s)
 top:N.length≤lim
 nn:n≤N.length
 dist:∀ (i j:Nat) (a b:Nd),N[i]?=some a→N[j]?=some b→cY s a.st=cY s b.st→i=j
 par:∀ (i:Nat) (a:Nd),N[i]?=some a→0<i→∃ (p:Nat) (b:Nd),a.par=p∧p<i∧N[p]?=some b∧a.mv∈aN s b.st∧a.st=bh s b.st a.mv∧a.lvl=b.lvl+1
 mono:∀ (i j:Nat) (a b:Nd),N[i]?=some a→N[j]?=some b→i≤j→a.lvl≤b.lvl
theorem hasK_iff {s:SesD} {A:List Nd} {k:List UInt8}:eP s A k=true↔∃ (i:Nat) (d:Nd),A[i]?=some d∧cY s d.st=k:=by
 unfold eP
 rw[List.any_eq_true]
 constructor
 ·rintro⟨d,E,a⟩
  obtain⟨i,h⟩:=List.getElem?_of_mem E
  exact⟨i,d,h,of_decide_eq_true a⟩
 ·rintro⟨i,d,h,a⟩
  exact⟨d,List.mem_of_getElem? h,decide_eq_true a⟩
section
variable {s:SesD} {lim:Nat}
theorem SI.start (I:SesOk s) (J:1≤lim):SI s lim 0 [nd0 s]:=by
 refine⟨fun d H=>?_,rfl,by simpa using J,Nat.zero_le _,fun i j G b h A _=>?_,fun i G h K=>?_,fun i j G b h A _=>?_⟩
 ·rw[List.mem_singleton] at H;subst H;exact gF I
 ·have a:=ag h;have E:=ag A;simp at a E;omega
 ·have a:=ag h;simp at a;omega
 ·have a:=ag h;have E:=ag A
  simp at a E
  subst a;subst E
  rw[h] at A;cases A;exact Nat.le_refl _
structure SJ (s:SesD) (lim:Nat) (n:Nat) (d:Nd) (N:List Nd):Prop extends SI s lim n N where
 at':N[n]?=some d
 deep:∀ a∈N,a.lvl≤d.lvl+1
theorem SJ.add {n:Nat} {d:Nd} {G:List Nd} (ad:SesOk s) (h:SJ s lim n d G) {m:Mv} (U:m∈aN s d.st) (R:eP s G (cY s (bh s d.st m))=false) (ae:G.length≠lim) :
  SJ s lim n d (G++[⟨bh s d.st m,n,m,d.lvl+1⟩]):=by
 have aa:=h.ok d (List.mem_of_getElem? h.at')
 have N:=ag h.at'
 have af:(G++[(⟨bh s d.st m,n,m,d.lvl+1⟩:Nd)]).length=G.length+1:=by simp
 have J:∀ (i:Nat) (a:Nd),(G++[⟨bh s d.st m,n,m,d.lvl+1⟩])[i]?=some a→G[i]?=some a∨i=G.length∧a=⟨bh s d.st m,n,m,d.lvl+1⟩:=by
  intro i a A
  by_cases e:i<G.length
  ·rw[List.getElem?_append_left e] at A;exact .inl A
  ·rw[List.getElem?_append_right (by omega)] at A
   have H:=ag A
   simp at H
   obtain rfl:i=G.length:=by omega
   simp at A
   exact .inr ⟨rfl,A.symm⟩
 have S:∀ (i:Nat) (a:Nd),G[i]?=some a→cY s a.st≠cY s (bh s d.st m):=by
  intro i a A e
  rw[hasK_iff.2 ⟨i,a,A,e⟩] at R;cases R
 have ah:=h.top
 refine⟨⟨fun a E=>?_,?_,by omega,?_,?_,?_,?_⟩,?_,?_⟩
 ·rcases List.mem_append.1 E with E | E
  ·exact h.ok a E
  ·rw[List.mem_singleton] at E;subst E;exact fj ad aa U
 ·rw[List.getElem?_append_left (by omega)];exact h.one
 ·have:=h.nn;omega
 ·intro i j a b A K e
  rcases J i a A with H | ⟨rfl,rfl⟩ <;> rcases J j b K with I | ⟨rfl,rfl⟩
  ·exact h.dist i j a b H I e
  ·exact absurd e (S i a H)
  ·exact absurd e.symm (S j b I)
  ·rfl
 ·intro i a A Y
  rcases J i a A with H | ⟨rfl,rfl⟩
  ·obtain⟨p,b,V,W,O,X⟩:=h.par i a H Y
   exact⟨p,b,V,W,by rw[List.getElem?_append_left (ag O)];exact O,X⟩
  ·exact⟨n,d,rfl,N,by rw[List.getElem?_append_left N];exact h.at',U,rfl,rfl⟩
 ·intro i j a b A K ab
  rcases J i a A with H | ⟨rfl,rfl⟩ <;> rcases J j b K with I | ⟨rfl,rfl⟩
  ·exact h.mono i j a b H I ab
  ·exact h.deep a (List.mem_of_getElem? H)
  ·have:=ag I;omega
  ·exact Nat.le_refl _
 ·rw[List.getElem?_append_left N];exact h.at'
 ·intro a E
  rcases List.mem_append.1 E with E | E
  ·exact h.deep a E
  ·rw[List.mem_singleton] at E;subst E;exact Nat.le_refl _
theorem iw {a M:List Nd} {k:List UInt8} (h:eP s a k=true):eP s (a++M) k=true:=by
 unfold eP at h ⊢
 rw[List.any_append,h];rfl
theorem ji (S:SesOk s) {n:Nat} {d:Nd}:∀ (A:List Mv) (a:List Nd),SJ s lim n d a→(∀ m∈A,m∈aN s d.st) →
  SJ s lim n d (cH s lim d.st n d.lvl a A).1∧(∃ M,(cH s lim d.st n d.lvl a A).1=a++M) ∧
  ((cH s lim d.st n d.lvl a A).2=true→∀ m∈A,eP s (cH s lim d.st n d.lvl a A).1 (cY s (bh s d.st m))=true) ∧
  ((cH s lim d.st n d.lvl a A).2=false→(cH s lim d.st n d.lvl a A).1.length=lim∧∃ m∈A,eP s (cH s lim d.st n d.lvl a A).1 (cY s (bh s d.st m))=false)
 | [],a,h,_=>⟨h,⟨[],by simp[cH]⟩,fun _ m H=>by simp at H,fun e=>by cases e⟩
 | m :: A,a,h,H=>by
   rw[cH]
   cases hk:eP s a (cY s (bh s d.st m)) with
   | true =>
     simp only[if_true]
     obtain⟨N,⟨M,G⟩,O,R⟩:=ji S A a h (fun x E=>H x (by simp[E]))
     refine⟨N,⟨M,G⟩,fun e x E=>?_,fun e=>?_⟩
     ·rcases List.mem_cons.1 E with rfl | E
      ·rw[G];exact iw hk
      ·exact O e x E
     ·obtain⟨I,x,J,K⟩:=R e
      exact⟨I,x,by simp[J],K⟩
   | false =>
     simp only[Bool.false_eq_true,if_false]
     by_cases hl:a.length=lim
     ·rw[if_pos hl]
      exact⟨h,⟨[],by simp⟩,(fun e=>by cases e),fun _=>⟨hl,m,by simp,hk⟩⟩
     ·rw[if_neg hl]
      obtain⟨N,⟨M,G⟩,O,R⟩:=ji S A _ (h.add S (H m (by simp)) hk hl) (fun x E=>H x (by simp[E]))
      refine⟨N,⟨[⟨bh s d.st m,n,m,d.lvl+1⟩]++M,by rw[G];simp⟩,fun e x E=>?_,fun e=>?_⟩
      ·rcases List.mem_cons.1 E with rfl | E
       ·rw[G]
        refine iw (hasK_iff.2 ⟨a.length,⟨bh s d.st x,n,x,d.lvl+1⟩,by simp,rfl⟩)
       ·exact O e x E
      ·obtain⟨I,x,J,K⟩:=R e
       exact⟨I,x,by simp[J],K⟩
def ClosedN (s:SesD) (n:Nat) (h:List Nd):Prop:=∀ (i:Nat) (a:Nd),i<n→h[i]?=some a→∀ m∈aN s a.st,∃ (j:Nat) (b:Nd),h[j]?=some b∧cY s b.st=cY s (bh s a.st m)∧b.lvl≤a.lvl+1
structure Found (s:SesD) (lim:Nat) (R:List Nd × Bool) (n:Nat):Prop extends SI s lim n R.1 where
 closed:ClosedN s n R.1
 deep:∀ (i:Nat) (a:Nd),n≤i→R.1[i]?=some a→∀ b∈R.1,b.lvl≤a.lvl+1
 whole:R.2=true→n=R.1.length
 cut:R.2=false→R.1.length=lim∧n<R.1.length
theorem SI.next {n:Nat} {d:Nd} {a:List Nd} (A:SI s lim n a) (E:a[n]?=some d) (hb:∀ h∈a,h.lvl≤d.lvl+1):SJ s lim n d a:=⟨A,E,hb⟩
theorem SI.up {n:Nat} {h:List Nd} (a:SI s lim n h) (A:n<h.length):SI s lim (n+1) h:=⟨a.ok,a.one,a.top,A,a.dist,a.par,a.mono⟩
theorem ClosedN.more {n k:Nat} {a M:List Nd} (G:ClosedN s n a) (K:k≤n) (N:n≤a.length):ClosedN s k (a++M):=by
 intro i E J A m I
 rw[List.getElem?_append_left (by omega)] at A
 obtain⟨j,b,h,H⟩:=G i E (by omega) A m I
 exact⟨j,b,by rw[List.getElem?_append_left (ag h)];exact h,H⟩
theorem qN (X:SesOk s):∀ (f n:Nat) (A:List Nd),SI s lim n A→ClosedN s n A→(∀ (d:Nd),A[n]?=some d→∀ a∈A,a.lvl≤d.lvl+1)→lim+1≤n+f→∃ k,Found s lim (bfs s lim f n A) k
 | 0,n,A,h,hc,hb,hf=>by
   have:=h.nn;have:=h.top;omega
 | f+1,n,A,h,hc,hb,hf=>by
   rw[bfs]
   cases hd:A[n]? with
   | none =>
     have U:A.length≤n:=List.getElem?_eq_none_iff.1 hd
     have af:=h.nn
     exact⟨n,h,hc,(fun i a I E=>by have:=ag E;simp only at this;omega),(fun _=>by simp only;omega),fun e=>by cases e⟩
   | some d =>
     simp only
     have ab:=h.next hd (hb d hd)
     obtain⟨G,⟨M,H⟩,N,O⟩:=ji X (aN s d.st) A ab (fun m K=>K)
     generalize ae:cH s lim d.st n d.lvl A (aN s d.st)=R at G H N O
     obtain⟨J,b⟩:=R
     simp only at G H N O
     have U:=ag G.at'
     have ah:∀ (i:Nat) (a:Nd),i<A.length→J[i]?=some a→A[i]?=some a:=fun i a I E=>by rw[H,List.getElem?_append_left I] at E;exact E
     have W:∀ (i:Nat) (a:Nd),n≤i→J[i]?=some a→∀ b∈J,b.lvl≤a.lvl+1:=fun i a I E b hb=>by
      have S:=G.deep b hb
      have ad:=G.mono n i d a G.at' E I
      omega
     cases b with
     | true =>
       simp only
       refine qN X f (n+1) J (G.toSI.up U) (fun i a I E m K=>?_) (fun e aa a E=>W (n+1) e (by omega) aa a E) (by omega)
       by_cases e:i=n
       ·subst e
        rw[G.at'] at E
        cases E
        obtain⟨j,b,V,Y⟩:=hasK_iff.1 (N rfl m K)
        exact⟨j,b,V,Y,G.deep b (List.mem_of_getElem? V)⟩
       ·have S:=hc.more (M:=M) (Nat.le_refl _) h.nn
        rw[← H] at S
        exact S i a (by omega) E m K
     | false =>
       simp only
       refine⟨n,G.toSI,?_,W,(fun e=>by cases e),fun _=>⟨(O rfl).1,U⟩⟩
       simp only
       rw[H]
       exact hc.more (Nat.le_refl _) h.nn
theorem j4 (h:SesOk s) (E:1≤lim):∃ n,Found s lim (aQ s lim) n:=
 qN h (lim+1) 0 [nd0 s] (SI.start h E) (fun i A H _=>by omega) (fun d G A a=>by
  rw[List.mem_singleton] at a
  subst a
  exact Nat.zero_le _) (by omega)
def trc (a:List Nd):Nat→Nat→List Mv
 | 0,_=>[]
 | f+1,n=>match a[n]? with
   | none=>[]
   | some d=>if d.par<0 then [] else trc a f d.par.toNat++[d.mv]
def dq (a:List Nd) (n:Nat):List Mv:=trc a (n+1) n
theorem lO {n:Nat} {a:List Nd} (H:SI s lim n a):∀ (f k:Nat),k<f→trc a f k=dq a k:=by
 intro f
 induction f using Nat.strongRecOn with
 | _ f ih =>
   intro k E
   match f,ih,E with
   | 0,_,E=>omega
   | f+1,ih,E =>
     unfold dq
     rw[trc,trc]
     cases hd:a[k]? with
     | none=>rfl
     | some d =>
       simp only
       by_cases e:d.par<0
       ·rw[if_pos e,if_pos e]
       ·rw[if_neg e,if_neg e]
        have I:∃ p:Nat,d.par=p∧p<k:=by
         rcases Nat.eq_zero_or_pos k with A | A
         ·subst A
          rw[H.one] at hd;cases hd
          exact absurd (show (-1:Int)<0 by decide) e
         ·obtain⟨p,b,h,G,-⟩:=H.par k d hd A
          exact⟨p,h,G⟩
        obtain⟨p,h,G⟩:=I
        rw[h,Int.toNat_natCast]
        by_cases hkf:k=f
        ·subst hkf;rfl
        ·rw[ih f (by omega) p (by omega),ih k (by omega) p (by omega)]
theorem nB {n:Nat} {a:List Nd} (h:SI s lim n a):dq a 0=[]:=by
 unfold dq
 rw[trc,h.one]
 rfl
theorem nD {n:Nat} {a:List Nd} (h:SI s lim n a) {i p:Nat} {d:Nd} (A:a[i]?=some d) (E:d.par=p) (G:p<i):dq a i=dq a p++[d.mv]:=by
 rw[← lO h (i+1) i (by omega),trc,A]
 simp only
 rw[E,if_neg (by omega),Int.toNat_natCast,lO h _ _ G]
end
end Go.Proofs.YtohfkhjlnlahdaaGreat
namespace Go.Proofs.YtohfkhjlnlahdaaGreat
open Go
structure Sp where
 role:Nat
 peer:Nat
 msg:ByteArray
 deriving DecidableEq
def fc (s:SesD) (x:PS) (i:Nat):ByteArray:=((s.rol i).sts.getD (x.at i) dS).name
def dw (s:SesD) (x:PS) (i p:Nat) (m:ByteArray) (t:StpD):Bool:=
 decide (t.kind=2) && decide (t.msg=m) && decide (t.peer=(s.rol p).name) && decide (t.frm=fc s x i) && bY (s.rol i).ctrs (x.bank i) t
def jd (s:SesD) (x:PS) (i p:Nat) (m:ByteArray):Bool:=(s.rol i).steps.any (dw s x i p m)
def dP (s:SesD) (x:PS) (i p:Nat) (l:List (Nat × ByteArray)):List Sp:=l.filterMap fun e=>if jd s x i p e.2 then none else some ⟨i,p,e.2⟩
def cR (s:SesD) (x:PS) (i p:Nat):List Sp:=dP s x i p (cX s.cls (x.way p i) (x.way p i).length)
def ofP (s:SesD) (x:PS):List Sp:=cat (fun i=>cat (fun p=>cR s x i p) s.roles.length) s.roles.length
def dZ (s:SesD) (a:List Nd):List (Nat × Sp):=cat (fun n=>(ofP s ((a.map Nd.st).getD n ⟨[],[],[]⟩)).map fun u=>(n,u)) a.length
def qH (s:SesD) (i p:Nat) (m:ByteArray):Bool:=(s.rol i).steps.any fun t=>decide (t.kind=2) && decide (t.msg=m) && decide (t.peer=(s.rol p).name)
def sF (s:SesD) (i p:Nat) (t:StpD):Bool:=decide (i≠p) && decide (t.kind=1) && decide (t.peer=(s.rol i).name) && !qH s i p t.msg
def g9 (a:List Sp) (u:Sp):List Sp:=if u∈a then a else a++[u]
def iR (s:SesD) (i p k:Nat) (a:List Sp):List Sp:=if sF s i p ((s.rol p).stp k) then g9 a ⟨i,p,((s.rol p).stp k).msg⟩ else a
def bW (s:SesD) (i p:Nat) (a:List Sp):Nat→List Sp
 | 0=>a
 | k+1=>iR s i p k (bW s i p a k)
def bm (s:SesD) (i:Nat) (a:List Sp):Nat→List Sp
 | 0=>a
 | p+1=>bW s i p (bm s i a p) (s.rol p).steps.length
def aX (s:SesD):Nat→List Sp
 | 0=>[]
 | i+1=>bm s i (aX s i) s.roles.length
def kG (s:SesD):List Sp:=aX s s.roles.length
def d9 (s:SesD) (a:List Nd) (i k:Nat):Bool:=a.any fun d=>(aN s d.st).any fun m=>decide (m.kind=1) && decide (m.role=i) && decide (m.step=k)
section
variable {s:SesD} {x z:PS}
theorem nl {r:RolD} {t:StpD} {a:List Int} (A:StpOk s r t) (G:a.length=r.ctrs.length∧∀ (k:Nat) (c:CtrD),r.ctrs[k]?=some c→0≤a.getD k 0∧a.getD k 0≤c.lim) :
  bY r.ctrs a t=(decide (t.ctr=aG) || (decide (t.low≤a.getD (bL r.ctrs t.ctr).toNat 0) && decide (a.getD (bL r.ctrs t.ctr).toNat 0≤t.high))):=by
 unfold bY
 by_cases e:t.ctr=aG
 ·rw[if_pos e,decide_eq_true e];rfl
 ·rw[if_neg e,decide_eq_false e,Bool.false_or]
  obtain⟨k,c,E,h,H⟩:=A.ctr e
  rw[E,decide_eq_true (by omega),Bool.true_and,Int.toNat_natCast,aW h]
  unfold cD
  have:=G.2 k c h
  rw[Bool.eq_iff_iff]
  simp only[Bool.and_eq_true,decide_eq_true_eq]
  omega
theorem mem_allSp {h:List Nd} {n:Nat} {u:Sp}:(n,u)∈dZ s h↔∃ d,h[n]?=some d∧u∈ofP s d.st:=by
 unfold dZ
 rw[gH]
 constructor
 ·rintro⟨k,E,G⟩
  obtain⟨H,a,e⟩:=List.mem_map.1 G
  cases e
  refine⟨h[n],List.getElem?_eq_getElem E,?_⟩
  rw[List.getD_eq_getElem?_getD,List.getElem?_map,List.getElem?_eq_getElem E] at a
  exact a
 ·rintro⟨d,A,a⟩
  refine⟨n,ag A,List.mem_map.2 ⟨u,?_,rfl⟩⟩
  rw[List.getD_eq_getElem?_getD,List.getElem?_map,A]
  exact a
end
end Go.Proofs.YtohfkhjlnlahdaaGreat
namespace Go.Proofs.YtohfkhjlnlahdaaGreat
open Go.RowKit Go.BigFrame
def lA:List TypeId:=[147,248,233,9,116]
structure FgB (W:World) (b:Nat):Prop where
 ty:∀ C t,W.heap[b]?=some (.cells C t (0,0))→t∉lA
 str:∀ (o:Nat) x,W.cell? ⟨b,o,none⟩≠some (.string x)
 ptr:∀ (o p:Nat),W.cell? ⟨b,o,none⟩=some (.pointer (some ⟨p,0,none⟩))→∀ C t,W.heap[p]?=some (.cells C t (0,0))→t≠248∧t≠233
 slc:∀ (o g o' p n c:Nat),W.cell? ⟨b,o,none⟩=some (.slice (some ⟨g,o',none⟩) n c)→W.cell? ⟨g,o',none⟩=some (.pointer (some ⟨p,0,none⟩))→∀ C t,W.heap[p]?=some (.cells C t (0,0))→t≠233
section
variable {W V:World} {F:List Nat}
theorem FgB.ne (a:∀ b∈F,FgB W b) {k:Nat} {C:Array Value} {t:TypeId} (h:W.heap[k]?=some (.cells C t (0,0))) (E:t∈lA):k∉F:=fun A=>(a k A).ty _ _ h E
theorem FgB.str' (a:∀ b∈F,FgB W b) {k o:Nat} {x:ByteArray} (A:W.cell? ⟨k,o,none⟩=some (.string x)):k∉F:=fun h=>(a k h).str _ _ A
theorem FgB.bank (a:∀ b∈F,FgB W b) {k o p:Nat} {C:Array Value} (E:W.cell? ⟨k,o,none⟩=some (.pointer (some ⟨p,0,none⟩))) (A:W.heap[p]?=some (.cells C 248 (0,0))):k∉F:=fun h=>((a k h).ptr _ _ E _ _ A).1 rfl
theorem FgB.chan (a:∀ b∈F,FgB W b) {k o p:Nat} {C:Array Value} (E:W.cell? ⟨k,o,none⟩=some (.pointer (some ⟨p,0,none⟩))) (A:W.heap[p]?=some (.cells C 233 (0,0))):k∉F:=fun h=>((a k h).ptr _ _ E _ _ A).2 rfl
theorem Chn.fg {cb:Nat} {cls cap:Int} {L:List ByteArray} {h:List Nat} (A:Chn W cb cls cap L h) (hb:∀ b∈F,FgB W b) (I:Frm F W V):Chn V cb cls cap L h:=A.frm I fun x a=>by
 obtain⟨K,E,G,J,rfl⟩:=A
 rcases List.mem_cons.1 a with rfl | a
 ·exact FgB.ne hb E (by simp[lA])
 ·rw[Option.mem_toList] at a
  obtain⟨D,H⟩:=je G a
  exact FgB.ne hb H (by simp[lA])
theorem StR.fg {s:SesD} {Y sb:Nat} {x:PS} (G:StR W s Y sb x) (aB:0<s.roles.length) (hb:∀ b∈F,FgB W b) (a:Frm F W V):StR V s Y sb x:=by
 obtain⟨ad,ay,X,aj,ak⟩:=G.out
 refine⟨⟨ad,ay,a.at X (FgB.ne hb X (by simp[lA])),aj.frm fun k o y A=>?_,?_⟩,G.ok⟩
 ·obtain⟨ae,aa,R,ar,J,ab⟩:=A
  have h:=FgB.bank hb R J
  exact⟨ae,a.cellAt aa h,a.cellAt R h,ar,a.at J (FgB.ne hb J (by simp[lA])),ab.frm fun k o y A=>by
   have h:=FgB.str' hb A.1
   exact⟨a.cellAt A.1 h,a.cellAt A.2.1 h,a.cellAt A.2.2 h⟩⟩
 ·obtain⟨ao,cap,e,al⟩:=ak
  refine⟨ao,cap,e,fun i I N=>?_⟩
  obtain⟨g,o,af,aw,S,U⟩:=al i I N
  have ap:=ag N
  have aA:I.length=s.roles.length:=by
   have:=G.ok.wr i (by rw[← G.ok.wl];exact ap)
   rwa [aW N] at this
  have an:g∉F:=fun aq=>by
   obtain⟨a',az,ah,am⟩:=U
   obtain⟨L,K⟩:∃ L,I[0]?=some L:=⟨_,List.getElem?_eq_getElem (by omega)⟩
   obtain⟨k,au,ai,cb,O,E,ax,H,-⟩:=am 0 L K
   rw[Nat.zero_mul,Nat.add_zero] at E
   subst ah
   subst ai
   exact(hb g aq).slc _ _ _ _ _ _ S E _ _ H rfl
  refine⟨g,o,af,aw,a.cellAt S an,Arr.frm (fun k au L K=>?_) U⟩
  obtain⟨cb,O,E,H⟩:=K
  have h:k∉F:=by
   obtain⟨ax,av,-⟩:=id H
   exact FgB.chan hb E av
  exact⟨cb,O,a.cellAt E h,H.fg hb a⟩
theorem Rls.fg {v:Value} {l:List RolD} (K:Rls W v l) (hb:∀ b∈F,FgB W b) (A:Frm F W V):Rls V v l:=Arr.frm (fun k o r N=>by
 obtain⟨O,J,R,c0,G,H,I,E⟩:=N
 have a:=FgB.str' hb c0
 refine⟨O,J,R,A.cellAt c0 a,A.cellAt G a,A.cellAt H a,A.cellAt I a,⟨E.sts.frm fun g o y h=>?_,E.ctrs.frm fun g o y h=>?_,E.steps.frm fun g o y h=>?_,E.cap⟩⟩
 ·have a:=FgB.str' hb h.1
  exact⟨A.cellAt h.1 a,A.cellAt h.2.1 a,A.cellAt h.2.2 a⟩
 ·have a:=FgB.str' hb h.1
  exact⟨A.cellAt h.1 a,A.cellAt h.2 a⟩
 ·have a:=FgB.str' hb h.c0
  exact⟨A.cellAt h.c0 a,A.cellAt h.c1 a,A.cellAt h.c2 a,A.cellAt h.c3 a,A.cellAt h.c4 a,A.cellAt h.c5 a,A.cellAt h.c6 a,A.cellAt h.c7 a,A.cellAt h.c8 a⟩) K
theorem SesV.fg {v:Value} {s:SesD} (a:SesV W v s) (hb:∀ b∈F,FgB W b) (A:Frm F W V):SesV V v s:=by
 obtain⟨E,e,h⟩:=a
 exact⟨E,e,h.fg hb A⟩
theorem SyR.fg {s:SesD} {G A:Nat} (a:SyR W s G A) (hb:∀ b∈F,FgB W b) (h:Frm F W V):SyR V s G A:=by
 obtain⟨I,E,H⟩:=a.out
 exact⟨⟨I,h.at E (FgB.ne hb E (by simp[lA])),H.fg hb h⟩,a.ok,a.first.fg (by have:=a.ok.n2;omega) hb h⟩
end
end Go.Proofs.YtohfkhjlnlahdaaGreat
namespace Go.Proofs.YtohfkhjlnlahdaaGreat
open Go.RowKit Go.BigFrame
section
variable {P:Program} {n m l l0:Nat}
theorem me (l n:Nat):(Fence.wide.inRound l).room n:=fun _ a=>by simp[Fence.wide] at a
theorem mf {f:FuncId} {args:Array Value} {w:World} {a:Ending→World→Prop} (h:CallsIn Fence.wide m P f args w a):CallsIn (Fence.wide.inRound l) n P f args w a:=
 ⟨h.1,fun A _=>h.2 A (room_wide _)⟩
theorem mg {f:FuncId} {tmps:Array Value} {assign body:Code} {w:World} {a:Ending→World→Prop} (h:RoundIn (Fence.wide.inRound l0) n P l f tmps assign body w a):RoundIn Fence.wide m P l f tmps assign body w a:=
 ⟨h.1,fun c A _=>h.2 c A (me _ _)⟩
theorem mh {args:Array Value} {w:World} {a:Ending→World→Prop} (h:YieldAt (Fence.wide.inRound l0) n P l args w a):YieldAt Fence.wide m P l args w a:=by
 obtain⟨fn,tmps,assign,body,A,E⟩:=h
 exact⟨fn,tmps,assign,body,A,mg E⟩
theorem mi {c:Code} {Q:Exit→Act→World→Prop} {a:Act} {w:World} (A:c.wpIn (Fence.wide.inRound l) m P Q a w):c.wpIn (Fence.wide.inRound l) n P Q a w:=
 fun b k h E G _=>A b k h E G (me _ _)
theorem Iter.inRound {α:Type} {g:Nat} {E:Array Value} {A:α→Array Value} {h:World→Prop} {G:List α} (l0:Nat) (J:Iter Fence.wide 2 P g E A h G):Iter (Fence.wide.inRound l0) n P g E A h G:=
 fun l H I V W N O a K=>mf (J l H I V W N (fun U x rest a S R=>mh (O U x rest a S R)) a K)
end
variable {P:Program}
theorem fH {α:Type} {g:Operand} {ps:Array Tmp} {assign body:Code} {Q:Exit→Act→World→Prop} {Y:Act} {w:World} {l0:Nat} (an:∃ r,w.heap[l0]?=some (.loop r))
  {aa:Nat} {ai:Array Value} (aH:Y.eval g=.func (.func aa) #[] ai) (ay:∀ args w,(callFunc aa args).run P w=.ok (.enter aa args) w)
  {ag:α→Array Value} {au:World→Prop} {ak:List α} (aI:Iter Fence.wide 2 P aa ai ag au ak) (aL:∀ x,(ag x).size=ps.size)
  (K:List α→World→Prop) (ab:Code→List α→World→Prop) (aj:∀ s a A,K s a→Bk w.heap.size a A→K s A) (af:∀ c s a A,ab c s a→Bk w.heap.size a A→ab c s A)
  (aE:∀ s a,K s a→au a) (aA:K [] w)
  (aM:∀ (l:Nat) (h:List α) (x:α) (rest:List α) (a:World),ak=h++x :: rest→K h a→w.heap.size≤l→(∃ r,a.heap[l]?=some (.loop r)) →
   assign.wpIn (Fence.wide.inRound l) 1 P (Exit.then (fun a' A=>KB a A∧∀ R,Bk w.heap.size A R→(∃ r,R.heap[l]?=some (.loop r))→body.wpIn (Fence.wide.inRound l) 1 P (jr K ab (h++[x]) R) a' R) (fun _ _ _=>False))
    { tmps:=(ps.zip (ag x)).foldl (fun t (p,v)=>t.setIfInBounds p v) Y.tmps,defers:=[] } a)
  (aF:∀ (a:World),K ak a→Q .normal Y a)
  (aN:∀ (c:Code) (h:List α) (x:α) (rest:List α) (a:World),ak=h++x :: rest→ab c (h++[x]) a→c.wpIn (Fence.wide.inRound l0) 1 P Q Y a) :
  (Code.rangeFunc g ps assign body).wpIn (Fence.wide.inRound l0) 1 P Q Y w:=by
 obtain⟨aP,an⟩:=an
 refine wpIn_rangeFunc ?_
 intro fn aG
 rw[show (Fence.wide.inRound l0).round=some l0 from rfl]
 obtain⟨rec,J⟩:∃ rec:LoopState→Option Code→Loop,rec=fun aQ aO=>{ state:=aQ,pending:=aO,fn,tmps:=Y.tmps,params:=ps,assign,body,defers:=aP.defers }:=⟨_,rfl⟩
 obtain⟨N,al⟩:∃ N,w.alloc (.loop (rec .ready none))=N:=⟨_,rfl⟩
 have aD:N.heap[w.heap.size]?=some (.loop (rec .ready none)):=by rw[← al];exact World.alloc_heap_new w _
 have aB:Frm [] w N:=by rw[← al];exact(Frm.refl _ _).alloc _
 have aC:K [] N:=aj _ _ _ aA (aB.bk _)
 refine⟨w.heap.size,[],N,{ target:=.fn (.func aa) ai,args:=#[.func (.yield w.heap.size) #[] #[]] },N,aa,
  #[.func (.yield w.heap.size) #[] #[]]++ai,N,?_,?_,?_,?_,fun az=>by simp[Fence.wide] at az,?_⟩
 ·rw[← al,J];exact run_enterLoop_inner an _ _ _ _ _
 ·simp only[resolve,aH]
  simp[go_sem]
 ·intro aS aT;trivial
 ·simp[invoke,go_sem,ay]
 ·refine((Iter.inRound (n:=0) l0 aI) w.heap.size
   (fun h a=>K h a∧a.heap[w.heap.size]?=some (.loop (rec .ready none)))
   (fun h a=>∃ c,ab c h a∧a.heap[w.heap.size]?=some (.loop (rec .done (some c))))
   (fun h a A S ad=>⟨aj _ _ _ S.1 (ad.bk _),ad.at S.2 (by simp)⟩)
   (fun h a A ⟨c,S⟩ ad=>⟨c,af _ _ _ _ S.1 (ad.bk _),ad.at S.2 (by simp)⟩)
   (fun h a S=>aE _ _ S.1) ?_ N ⟨aC,aD⟩).mono ?_
  ·rintro h x rest a aq ⟨ae,I⟩
   have aw:=run_yield (P:=P) (args:=ag x) I (by rw[J];exact aL x)
   rw[J] at aw
   refine⟨fn,_,assign,body,aw,roundIn_of_wpIn aG (mi (l:=w.heap.size) (m:=1) (wpIn_mono (aM w.heap.size h x rest a aq ae (Nat.le_refl _) ⟨_,I⟩) ?_))⟩
   intro e a' A G
   cases e with
   | normal =>
     obtain⟨aJ,hb⟩:=G
     have am:=aJ _ _ I rfl
     have aK:w.heap.size<A.heap.size:=lt_of_block am
     refine⟨_,run_beginRound am (by rw[J]),?_⟩
     have av:(A.putObj w.heap.size (.loop { rec .ready none with state:=.busy })).heap[w.heap.size]?=some (.loop { rec .ready none with state:=.busy }):=World.putObj_heap_same aK
     refine mi (l:=w.heap.size) (m:=1) (wpIn_mono (hb _ (Bk.putObj A _ am rfl (Nat.le_refl _)) ⟨_,av⟩) ?_)
     have ah:∀ (H:Option Code) (E:World),KB (A.putObj w.heap.size (.loop { rec .ready none with state:=.busy })) E →
       (Instr.endRound w.heap.size H).run P E=.ok (.bool H.isNone) (E.putObj w.heap.size (.loop (rec (if H.isNone then .ready else .done) H))) ∧
       Bk w.heap.size E (E.putObj w.heap.size (.loop (rec (if H.isNone then .ready else .done) H))) ∧
       (E.putObj w.heap.size (.loop (rec (if H.isNone then .ready else .done) H))).heap[w.heap.size]?=some (.loop (rec (if H.isNone then .ready else .done) H)):=fun H E O=>by
      have ap:=O _ _ av rfl
      have:=run_endRound (P:=P) H ap
      rw[J] at this ⊢
      exact⟨this,Bk.putObj E _ ap rfl (Nat.le_refl _),World.putObj_heap_same (lt_of_block ap)⟩
     rintro e aR E G
     cases e with
     | normal =>
       obtain⟨O,V⟩:=G
       obtain⟨X,U,W⟩:=ah none E O
       exact⟨_,_,X,.inl ⟨rfl,aj _ _ _ V U,W⟩⟩
     | ret =>
       obtain⟨O,V⟩:=G
       obtain⟨X,U,W⟩:=ah (some .ret) E O
       exact⟨_,_,X,.inr ⟨rfl,.ret,af _ _ _ _ V U,W⟩⟩
     | exit ar =>
       obtain⟨O,V⟩:=G
       obtain⟨X,U,W⟩:=ah (some (.exit ar)) E O
       exact⟨_,_,X,.inr ⟨rfl,.exit ar,af _ _ _ _ V U,W⟩⟩
     | goto t =>
       obtain⟨O,V⟩:=G
       obtain⟨X,U,W⟩:=ah (some (.goto t)) E O
       exact⟨_,_,X,.inr ⟨rfl,.goto t,af _ _ _ _ V U,W⟩⟩
     | panic ax=>exact G.elim
     | outgrown=>exact G.elim
   | ret=>exact G.elim
   | exit ar=>exact G.elim
   | goto t=>exact G.elim
   | panic ax=>exact G.elim
   | outgrown=>exact G.elim
  ·rintro e R ⟨⟨v,rfl⟩,(⟨ae,I⟩ | ⟨h,x,rest,aq,c,ae,I⟩)⟩
   ·exact⟨none,_,by have:=run_endLoop (P:=P) I (by rw[J];simp);rw[J] at this;exact this,aF _ (aj _ _ _ ae (by rw[J] at I;exact Bk.putObj R _ I rfl (Nat.le_refl _)))⟩
   ·exact⟨some c,_,by have:=run_endLoop (P:=P) I (by rw[J];simp);rw[J] at this;exact this,aN c h x rest _ aq (af _ _ _ _ ae (by rw[J] at I;exact Bk.putObj R _ I rfl (Nat.le_refl _)))⟩
end Go.Proofs.YtohfkhjlnlahdaaGreat
namespace Go.Proofs.YtohfkhjlnlahdaaGreat
open Go.RowKit Go.BigFrame
theorem Bk.weak {B B':Nat} {w w':World} (a:Bk B w w') (E:B'≤B):Bk B' w w':=⟨a.os,a.tape,a.output,a.size,fun k o h A=>a.block k o h (A.elim (fun a=>.inl (by omega)) .inr)⟩
structure Kc (T:TypeId→Prop) (B:Nat) (W W':World):Prop where
 size:W.heap.size≤W'.heap.size
 cells:∀ (k:Nat) (c:Array Value) (t:TypeId) (fr:Nat × Nat),W.heap[k]?=some (.cells c t fr)→¬ T t→W'.heap[k]?=some (.cells c t fr)
 books:∀ (k:Nat) (o:Obj),B≤k→W.heap[k]?=some o→eG o=true→W'.heap[k]?=some o
section
variable {T:TypeId→Prop} {B B':Nat} {W W' W2:World}
theorem Kc.refl (T:TypeId→Prop) (B:Nat) (W:World):Kc T B W W:=⟨Nat.le_refl _,fun _ _ _ _ a _=>a,fun _ _ _ a _=>a⟩
theorem Kc.trans (a:Kc T B W W') (k:Kc T B W' W2):Kc T B W W2:=⟨Nat.le_trans a.size k.size,fun i c t A h H=>k.cells i c t A (a.cells i c t A h H) H,fun i o E h G=>k.books i o E (a.books i o E h G) G⟩
theorem Kc.low (a:Kc T B W W') (h:B≤B'):Kc T B' W W':=⟨a.size,a.cells,fun k o A=>a.books k o (by omega)⟩
theorem Kc.sub {h:TypeId→Prop} (a:Kc T B W W') (G:∀ t,T t→h t):Kc h B W W':=⟨a.size,fun k c t A H I=>a.cells k c t A H fun E=>I (G t E),a.books⟩
theorem Kc.frm (a:Frm [] W W'):Kc T B W W':=⟨a.size,fun _ _ _ _ h _=>a.at h (by simp),fun _ _ _ h _=>a.at h (by simp)⟩
theorem Kc.put {l:Nat} {o I:Obj} (h:Kc T B W W') (A:W'.heap[l]?=some o) (G:eG o=true) (K:l<B):Kc T B W (W'.putObj l I):=by
 refine h.trans ⟨by simp[World.putObj],fun k c t J a _=>?_,fun k x a H _=>?_⟩
 ·have E:k≠l:=fun e=>by subst e;rw[A] at a;cases a;cases G
  exact(World.putObj_heap_other E).trans a
 ·exact(World.putObj_heap_other (by omega)).trans H
theorem Kc.set {b:Nat} {c:Array Value} {t:TypeId} {I:Nat × Nat} (J:Kc T B W W') (hb:W'.heap[b]?=some (.cells c t I)) (N:T t) (o:Nat) (u:Value):Kc T B W (W'.setCell ⟨b,o,none⟩ u):=by
 have H:∀ {k:Nat} {x:Obj},W'.heap[k]?=some x→(∀ E A G,x=.cells E A G→¬ T A)→k≠b:=fun a h e=>by
  subst e
  rw[hb] at a
  cases a
  exact h _ _ _ rfl N
 refine J.trans ⟨by simp[World.setCell],fun k E A G a O=>?_,fun k x _ h K=>?_⟩
 ·exact(Below.heap_setCell _ _ _ _ (H a fun _ _ _ e=>by cases e;exact O)).trans a
 ·exact(Below.heap_setCell _ _ _ _ (H h fun _ _ _ e=>by subst e;cases K)).trans h
end
abbrev jV:TypeId→Prop:=fun _=>True
def kp {α:Type} (T:TypeId→Prop) (B:Nat) (h:List α→World→Prop) (a:Code→List α→World→Prop) (s:List α) (W:World):Exit→Act→World→Prop
 | .normal,_,W'=>Kc T B W W'∧h s W'
 | .ret,_,W'=>Kc jV B W W'∧a .ret s W'
 | .exit id,_,W'=>Kc jV B W W'∧a (.exit id) s W'
 | .goto t,_,W'=>Kc jV B W W'∧a (.goto t) s W'
 | .panic _,_,_=>False
 | .outgrown,_,_=>False
def pf {α:Type} (T:TypeId→Prop) (F:Fence) (n:Nat) (P:Program) (g:Nat) (G:Array Value) (E:α→Array Value) (A:World→Prop) (h:List α):Prop:=
 ∀ (B l:Nat) (J Jx:List α→World→Prop),
   (∀ a W W',J a W→Bk B W W'→J a W')→(∀ a W W',Jx a W→Bk B W W'→Jx a W')→(∀ a W,J a W→A W) →
   (∀ a x rest W,B≤W.heap.size→h=a++x :: rest→J a W→YieldAt F (n - 1) P l (E x) W fun e W' =>
    (e=.returned (.bool true)∧Kc T B W W'∧J (a++[x]) W')∨(e=.returned (.bool false)∧Kc jV B W W'∧Jx (a++[x]) W')) →
   ∀ W,B≤W.heap.size→J [] W→CallsIn F n P g (#[.func (.yield l) #[] #[]]++G) W fun e W'=>(∃ v,e=.returned v)∧(J h W'∨∃ a x rest,h=a++x :: rest∧Jx (a++[x]) W')
theorem Iter.toT {α:Type} {T:TypeId→Prop} {F:Fence} {n:Nat} {P:Program} {g:Nat} {K:Array Value} {J:α→Array Value} {I:World→Prop} {N:List α} (A:Iter F n P g K J I N):pf T F n P g K J I N:=
 fun B l O R ab ad V X W U S=>(A l (fun h W=>O h W∧B≤W.heap.size) R (fun h W W' a E=>⟨ab h W W' a.1 (E.bk _),Nat.le_trans a.2 E.size⟩) (fun h W W' a E=>ad h W W' a (E.bk _)) (fun h W a=>V h W a.1)
  (fun h x rest W aa a=>(X h x rest W a.2 aa a.1).mono fun e W' A=>by
   rcases A with ⟨G,Y,H⟩ | ⟨G,-,H⟩
   ·exact .inl ⟨G,H,Nat.le_trans a.2 Y.size⟩
   ·exact .inr ⟨G,H⟩) W ⟨S,U⟩).mono fun e W' A=>⟨A.1,A.2.imp (fun A=>A.1) id⟩
section
variable {P:Program} {n m l l0:Nat}
theorem mu {f:FuncId} {tmps:Array Value} {assign body:Code} {w:World} {a:Ending→World→Prop} (h:RoundIn Fence.wide m P l f tmps assign body w a):RoundIn (Fence.wide.inRound l0) n P l f tmps assign body w a:=
 ⟨h.1,fun c A _=>h.2 c A (room_wide _)⟩
theorem mw {args:Array Value} {w:World} {a:Ending→World→Prop} (h:YieldAt Fence.wide m P l args w a):YieldAt (Fence.wide.inRound l0) n P l args w a:=by
 obtain⟨fn,tmps,assign,body,A,E⟩:=h
 exact⟨fn,tmps,assign,body,A,mu E⟩
end
variable {F:Fence} {n:Nat} {P:Program}
theorem iN {α:Type} {T:TypeId→Prop} {g:Operand} {ps:Array Tmp} {assign body:Code} {Q:Exit→Act→World→Prop} {O:Act} {w:World}
  (aU:F.round=none) (aE:1≤n) {R:Nat} {an:Array Value} (aO:O.eval g=.func (.func R) #[] an) (aG:F.fn R) (aB:∀ args w,(callFunc R args).run P w=.ok (.enter R args) w)
  {aj:α→Array Value} {aw:World→Prop} {aq:List α} (aP:pf T F (n - 1) P R an aj aw aq) (aT:∀ x,(aj x).size=ps.size)
  (K:List α→World→Prop) (ad:Code→List α→World→Prop) (ap:∀ s W W',K s W→Bk w.heap.size W W'→K s W') (ah:∀ c s W W',ad c s W→Bk w.heap.size W W'→ad c s W')
  (aK:∀ s W,K s W→aw W) (aD:K [] w)
  (aV:∀ (l:Nat) (a:List α) (x:α) (rest:List α) (W:World),aq=a++x :: rest→K a W→w.heap.size≤l→(∃ r,W.heap[l]?=some (.loop r)) →
   assign.wpIn (F.inRound l) (n - 1 - 1) P (Exit.then (fun a' W'=>Kc T w.heap.size W W'∧∀ W2,Bk w.heap.size W' W2→(∃ r,W2.heap[l]?=some (.loop r))→body.wpIn (F.inRound l) (n - 1 - 1) P (kp T w.heap.size K ad (a++[x]) W2) a' W2) (fun _ _ _=>False))
    { tmps:=(ps.zip (aj x)).foldl (fun t (p,v)=>t.setIfInBounds p v) O.tmps,defers:=[] } W)
  (aM:∀ (D:Nat) (W:World),w.heap.size≤D→K aq W→W.heap[D]?=some (.deferred (some []))→Q .normal { O with defers:={ target:=.collected D,args:=#[] } :: O.defers } W)
  (aW:∀ (D:Nat) (c:Code) (a:List α) (x:α) (rest:List α) (W:World),aq=a++x :: rest→w.heap.size≤D→ad c (a++[x]) W→W.heap[D]?=some (.deferred (some []))→c.wpIn F n P Q { O with defers:={ target:=.collected D,args:=#[] } :: O.defers } W) :
  (Code.rangeFunc g ps assign body).wpIn F n P Q O w:=by
 refine wpIn_rangeFunc ?_
 intro fn aN
 rw[aU]
 obtain⟨rec,J⟩:∃ rec:LoopState→Option Code→Loop,rec=fun aY aX=>{ state:=aY,pending:=aX,fn,tmps:=O.tmps,params:=ps,assign,body,defers:=w.heap.size }:=⟨_,rfl⟩
 obtain⟨E,ae⟩:∃ E,(w.alloc (.deferred (some []))).alloc (.loop (rec .ready none))=E:=⟨_,rfl⟩
 have aJ:E.heap[w.heap.size+1]?=some (.loop (rec .ready none)):=by
  rw[← ae];have:=World.alloc_heap_new (w.alloc (.deferred (some []))) (.loop (rec .ready none));rwa [World.size_alloc] at this
 have aI:E.heap[w.heap.size]?=some (.deferred (some [])):=by
  rw[← ae];exact(Below.heap_alloc _ _ _ (by simp)).trans (World.alloc_heap_new w _)
 have aF:Frm [] w E:=by rw[← ae];exact((Frm.refl _ _).alloc _).alloc _
 have aH:K [] E:=ap _ _ _ aD (aF.bk _)
 refine⟨w.heap.size+1,[{ target:=.collected w.heap.size,args:=#[] }],E,{ target:=.fn (.func R) an,args:=#[.func (.yield (w.heap.size+1)) #[] #[]] },E,R,
  #[.func (.yield (w.heap.size+1)) #[] #[]]++an,E,?_,?_,?_,?_,fun _=>aE,?_⟩
 ·rw[← ae,J];exact run_enterLoop_outer _ _ _ _ _
 ·simp only[resolve,aO]
  simp[go_sem]
 ·intro a0 ax;simp[Target.leads] at ax;subst ax;exact aG
 ·simp[invoke,go_sem,aB]
 ·have a2:E.heap.size=w.heap.size+2:=by rw[← ae];simp
  refine(aP E.heap.size (w.heap.size+1)
   (fun a W=>K a W∧W.heap[w.heap.size+1]?=some (.loop (rec .ready none))∧W.heap[w.heap.size]?=some (.deferred (some [])))
   (fun a W=>∃ c,ad c a W∧W.heap[w.heap.size+1]?=some (.loop (rec .done (some c)))∧W.heap[w.heap.size]?=some (.deferred (some [])))
   (fun a W W' N V=>⟨ap _ _ _ N.1 (V.weak (by omega)),V.block _ _ N.2.1 (.inl (by omega)),V.block _ _ N.2.2 (.inl (by omega))⟩)
   (fun a W W' ⟨c,N⟩ V=>⟨c,ah _ _ _ _ N.1 (V.weak (by omega)),V.block _ _ N.2.1 (.inl (by omega)),V.block _ _ N.2.2 (.inl (by omega))⟩)
   (fun a W N=>aK _ _ N.1) ?_ E (Nat.le_refl _) ⟨aH,aJ,aI⟩).mono ?_
  ·rintro a x rest W a1 au ⟨af,I,ag⟩
   have az:=run_yield (P:=P) (args:=aj x) I (by rw[J];exact aT x)
   rw[J] at az
   refine⟨fn,_,assign,body,az,roundIn_of_wpIn aN (wpIn_mono (aV (w.heap.size+1) a x rest W au af (by omega) ⟨_,I⟩) ?_)⟩
   intro e a' W' G
   cases e with
   | normal =>
     obtain⟨ar,hb⟩:=G
     have al:=ar.books _ _ (by omega) I rfl
     have aQ:=ar.books _ _ (by omega) ag rfl
     have aS:w.heap.size+1<W'.heap.size:=lt_of_block al
     refine⟨_,run_beginRound al (by rw[J]),?_⟩
     have ay:(W'.putObj (w.heap.size+1) (.loop { rec .ready none with state:=.busy })).heap[w.heap.size+1]?=some (.loop { rec .ready none with state:=.busy }):=World.putObj_heap_same aS
     have aR:(W'.putObj (w.heap.size+1) (.loop { rec .ready none with state:=.busy })).heap[w.heap.size]?=some (.deferred (some [])):=(World.putObj_heap_other (by omega)).trans aQ
     refine wpIn_mono (hb _ (Bk.putObj W' _ al rfl (by omega)) ⟨_,ay⟩) ?_
     have ak:∀ (ai:TypeId→Prop) (_:∀ t,T t→ai t) (h:Option Code) (A:World),Kc ai w.heap.size (W'.putObj (w.heap.size+1) (.loop { rec .ready none with state:=.busy })) A →
       (Instr.endRound (w.heap.size+1) h).run P A=.ok (.bool h.isNone) (A.putObj (w.heap.size+1) (.loop (rec (if h.isNone then .ready else .done) h))) ∧
       Bk w.heap.size A (A.putObj (w.heap.size+1) (.loop (rec (if h.isNone then .ready else .done) h))) ∧
       (A.putObj (w.heap.size+1) (.loop (rec (if h.isNone then .ready else .done) h))).heap[w.heap.size+1]?=some (.loop (rec (if h.isNone then .ready else .done) h)) ∧
       (A.putObj (w.heap.size+1) (.loop (rec (if h.isNone then .ready else .done) h))).heap[w.heap.size]?=some (.deferred (some [])) ∧
       Kc ai E.heap.size W (A.putObj (w.heap.size+1) (.loop (rec (if h.isNone then .ready else .done) h))):=fun ai aL h A H=>by
      have am:=H.books _ _ (by omega) ay rfl
      have:=run_endRound (P:=P) h am
      rw[J] at this ⊢
      exact⟨this,Bk.putObj A _ am rfl (by omega),World.putObj_heap_same (lt_of_block am),(World.putObj_heap_other (by omega)).trans (H.books _ _ (by omega) aR rfl),
       ((((ar.sub aL).low (by omega)).put al rfl (by omega)).trans (H.low (by omega))).put am rfl (by omega)⟩
     rintro e aZ A G
     cases e with
     | normal =>
       obtain⟨H,X⟩:=G
       obtain⟨ab,S,aa,Y,U⟩:=ak T (fun _ aC=>aC) none A H
       exact⟨_,_,ab,.inl ⟨rfl,U,ap _ _ _ X S,aa,Y⟩⟩
     | ret =>
       obtain⟨H,X⟩:=G
       obtain⟨ab,S,aa,Y,U⟩:=ak jV (fun _ _=>trivial) (some .ret) A H
       exact⟨_,_,ab,.inr ⟨rfl,U,.ret,ah _ _ _ _ X S,aa,Y⟩⟩
     | exit av =>
       obtain⟨H,X⟩:=G
       obtain⟨ab,S,aa,Y,U⟩:=ak jV (fun _ _=>trivial) (some (.exit av)) A H
       exact⟨_,_,ab,.inr ⟨rfl,U,.exit av,ah _ _ _ _ X S,aa,Y⟩⟩
     | goto t =>
       obtain⟨H,X⟩:=G
       obtain⟨ab,S,aa,Y,U⟩:=ak jV (fun _ _=>trivial) (some (.goto t)) A H
       exact⟨_,_,ab,.inr ⟨rfl,U,.goto t,ah _ _ _ _ X S,aa,Y⟩⟩
     | panic aA=>exact G.elim
     | outgrown=>exact G.elim
   | ret=>exact G.elim
   | exit av=>exact G.elim
   | goto t=>exact G.elim
   | panic aA=>exact G.elim
   | outgrown=>exact G.elim
  ·rintro e W2 ⟨⟨v,rfl⟩,(⟨af,I,ag⟩ | ⟨a,x,rest,au,c,af,I,ag⟩)⟩
   ·exact⟨none,_,by have:=run_endLoop (P:=P) I (by rw[J];simp);rw[J] at this;exact this,aM _ _ (Nat.le_refl _) (ap _ _ _ af (by rw[J] at I;exact Bk.putObj W2 _ I rfl (by omega))) ((World.putObj_heap_other (by omega)).trans ag)⟩
   ·exact⟨some c,_,by have:=run_endLoop (P:=P) I (by rw[J];simp);rw[J] at this;exact this,aW _ c a x rest _ au (Nat.le_refl _) (ah _ _ _ _ af (by rw[J] at I;exact Bk.putObj W2 _ I rfl (by omega))) ((World.putObj_heap_other (by omega)).trans ag)⟩
theorem eX {α:Type} {T:TypeId→Prop} {g:Operand} {ps:Array Tmp} {assign body:Code} {Q:Exit→Act→World→Prop} {A:Act} {w:World}
  {G:Nat} {K:Array Value} (Y:A.eval g=.func (.func G) #[] K) (N:∀ args w,(callFunc G args).run P w=.ok (.enter G args) w)
  {I:α→Array Value} {J:World→Prop} {H:List α} (aa:pf T Fence.wide 2 P G K I J H) (ab:∀ x,(I x).size=ps.size)
  (a:List α→World→Prop) (E:Code→List α→World→Prop) (ae:∀ s W W',a s W→Bk w.heap.size W W'→a s W') (af:∀ c s W W',E c s W→Bk w.heap.size W W'→E c s W')
  (X:∀ s W,a s W→J W) (O:a [] w)
  (ad:∀ (l:Nat) (h:List α) (x:α) (rest:List α) (W:World),H=h++x :: rest→a h W→w.heap.size≤l→(∃ r,W.heap[l]?=some (.loop r)) →
   assign.wpIn (Fence.wide.inRound l) 1 P (Exit.then (fun a' W'=>Kc T w.heap.size W W'∧∀ W2,Bk w.heap.size W' W2→(∃ r,W2.heap[l]?=some (.loop r))→body.wpIn (Fence.wide.inRound l) 1 P (kp T w.heap.size a E (h++[x]) W2) a' W2) (fun _ _ _=>False))
    { tmps:=(ps.zip (I x)).foldl (fun t (p,v)=>t.setIfInBounds p v) A.tmps,defers:=[] } W)
  (hdone:∀ (D:Nat) (W:World),w.heap.size≤D→a H W→W.heap[D]?=some (.deferred (some []))→Q .normal { A with defers:={ target:=.collected D,args:=#[] } :: A.defers } W)
  (hstop:∀ (D:Nat) (c:Code) (h:List α) (x:α) (rest:List α) (W:World),H=h++x :: rest→w.heap.size≤D→E c (h++[x]) W→W.heap[D]?=some (.deferred (some []))→c.wp P Q { A with defers:={ target:=.collected D,args:=#[] } :: A.defers } W) :
  (Code.rangeFunc g ps assign body).wp P Q A w:=
 wpIn_wide.1 (iN (F:=Fence.wide) (n:=3) rfl (by omega) Y trivial N aa ab a E ae af X O ad hdone (fun D c h x rest W R S U V=>wpIn_wide.2 (hstop D c h x rest W R S U V)))
end Go.Proofs.YtohfkhjlnlahdaaGreat
namespace Go.Proofs.YtohfkhjlnlahdaaGreat
open Go.RowKit Go.BigFrame
def er (t:StpD):Bool:=decide (60<t.msg.size) || decide (60<t.peer.size)
def WfS (s:SesD):Prop:=∀ r∈s.roles,∀ x∈r.steps,gL x.kind
end Go.Proofs.YtohfkhjlnlahdaaGreat
namespace Go.Proofs.YtohfkhjlnlahdaaGreat
open Go.RowKit
def jZ (D:Nat→Bool) (i:Nat):Nat→Bool:=fun j=>if j=i then true else D j
def ls (f:Nat→Value) (i:Nat) (v:Value):Nat→Value:=fun j=>if j=i then v else f j
section
variable {P:Program} {ops:Array Oper} {Q:Exit→Act→World→Prop}
def iV (ops:Array Oper) (D:Nat→Bool):Prop:=∀ (k:Nat) o,ops[k]?=some o→D k=true→∀ e∈o.after,Region.binds .any e=true→D e.on=true
def pu (ops:Array Oper):Bool:=(List.range ops.size).all fun i=>((ops[i]?).map fun o=>o.after.all fun e=>!Region.binds .any e || decide (e.on<i)).getD true
theorem pw (h:pu ops=true) {i:Nat} {o:Oper} (a:ops[i]?=some o):∀ e∈o.after,Region.binds .any e=true→e.on<i:=fun e A hb=>by
 have:=(List.all_eq_true.1 h) i (List.mem_range.2 (Array.getElem?_eq_some_iff.1 a).1)
 rw[a] at this
 simp only[Option.map_some,Option.getD_some] at this
 have:=(Array.all_eq_true_iff_forall_mem.1 this) e A
 simpa[hb] using this
theorem iF {p q:Nat→Bool} (A:∀ x,q x=true→p x=true) {i:Nat} (E:p i=true) (G:q i=false):∀ {l:List Nat},i∈l→l.countP q<l.countP p
 | [],h=>by cases h
 | a :: l,h=>by
   have K:l.countP q≤l.countP p:=List.countP_mono_left fun x _ J=>A x J
   rw[List.countP_cons,List.countP_cons]
   rcases List.mem_cons.1 h with rfl | h
   ·rw[E,G]
    simp
    omega
   ·have ih:=iF A E G h
    have:(if q a=true then 1 else 0)≤(if p a=true then 1 else 0):=by
     split
     ·rename_i H
      rw[if_pos (A a H)]
      omega
     ·omega
    omega
def DL (listed:Array Bool):Nat→Bool:=fun i=>listed.getD i false
theorem ut {listed:Array Bool} {i:Nat} (h:i<listed.size):DL (listed.setIfInBounds i true)=jZ (DL listed) i:=by
 funext j
 unfold DL jZ
 split
 ·rename_i e;subst e;simp[h]
 ·rename_i e
  exact getD_set_ne false (fun a=>e a.symm)
variable (FR:(Nat→Value)→Act) (I:(Nat→Bool)→(Nat→Value)→World→Prop)
def io (p:Nat→Oper→Prop):Nat→List Oper→Prop
 | _,[]=>True
 | k,o :: l=>p k o∧io p (k+1) l
theorem gW {p:Nat→Oper→Prop}:∀ {l:List Oper} {k i:Nat} {o:Oper},io p k l→l[i]?=some o→p (k+i) o
 | [],_,_,_,_,h=>by simp at h
 | a :: l,k,0,o,hp,h=>by
   simp at h
   subst h
   exact hp.1
 | a :: l,k,i+1,o,hp,h=>by
   have:=gW (l:=l) (k:=k+1) (i:=i) hp.2 (by simpa using h)
   rwa [show k+(i+1)=k+1+i by omega]
end
end Go.Proofs.YtohfkhjlnlahdaaGreat
namespace Go.Proofs.YtohfkhjlnlahdaaGreat
open Go.RowKit
section
variable {F:Fence} {n:Nat} {P:Program} {ops:Array Oper} {Q:Exit→Act→World→Prop}
variable (FR:(Nat→Value)→Act) (I:(Nat→Bool)→(Nat→Value)→World→Prop)
theorem mY (ab:pu ops=true)
  (ak:∀ i o,ops[i]?=some o→∀ D f w,I D f w→D i=false→(∀ e∈o.after,Region.binds .any e=true→D e.on=true)→iV ops D →
   Region.wanted o (yielded ops (FR f).tmps)=true∧o.wpIn F n P (FR f) w (fun a' w'=>∃ v,a'=FR (ls f i v)∧I (jZ D i) (ls f i v) w') Q)
  (aa:∀ D f w,(∀ i,i<ops.size→D i=true)→I D f w→Q .normal (FR f) w) :
  ∀ (G:Nat) (listed:Array Bool) (f:Nat→Value) (w:World),listed.size=ops.size→(List.range ops.size).countP (fun i=>!DL listed i)≤G→iV ops (DL listed)→I (DL listed) f w→wpAnyIn F n P .any ops Q G listed (FR f) w:=by
 have aj:∀ listed:Array Bool,listed.size=ops.size→Region.ready .any ops listed=[]→∀ i,i<ops.size→DL listed i=true:=fun listed E H i=>by
  induction i using Nat.strongRecOn with
  | _ i ih =>
  intro h
  obtain⟨o,a⟩:∃ o,ops[i]?=some o:=⟨_,Array.getElem?_eq_getElem h⟩
  cases hD:DL listed i with
  | true=>rfl
  | false =>
    exfalso
    have ae:i∈Region.ready .any ops listed:=mem_ready.2 ⟨by
     unfold DL at hD
     simpa[E,h] using hD,o,a,fun e J hb=>ih e.on (pw ab a e J hb) (by have:=pw ab a e J hb;omega)⟩
    rw[H] at ae
    cases ae
 intro G
 induction G with
 | zero =>
   intro listed f w E Y V R
   have af:∀ i,i<ops.size→DL listed i=true:=fun i h=>by
    have H:=List.countP_eq_zero.1 (Nat.le_zero.1 Y) i (List.mem_range.2 h)
    simpa using H
   refine⟨?_,aa _ f w af R⟩
   rw[List.eq_nil_iff_forall_not_mem]
   intro i h
   obtain⟨N,o,a,-⟩:=mem_ready.1 h
   have A:=af i (Array.getElem?_eq_some_iff.1 a).1
   have O:i<listed.size:=by rw[E];exact(Array.getElem?_eq_some_iff.1 a).1
   unfold DL at A
   simp[O] at N A
   rw[N] at A
   cases A
 | succ G ih =>
   intro listed f w E Y V R
   refine⟨fun H=>aa _ f w (aj listed E H) R,fun i h=>?_⟩
   obtain⟨N,o,a,A⟩:=mem_ready.1 h
   have ad:i<ops.size:=(Array.getElem?_eq_some_iff.1 a).1
   have O:i<listed.size:=by rw[E];exact ad
   have X:DL listed i=false:=by unfold DL;simpa[O] using N
   obtain⟨al,am⟩:=ak i o a (DL listed) f w R X A V
   unfold wpOpIn
   simp only[a,al,if_true]
   refine Oper.wpIn_mono (fun a' w' ah=>?_) am
   obtain⟨v,rfl,ai⟩:=ah
   have S:=ut (listed:=listed) O
   refine ih (listed.setIfInBounds i true) (ls f i v) w' (by simpa using E) ?_ ?_ (by rw[S];exact ai)
   ·have ap:=iF (p:=fun j=>!DL listed j) (q:=fun j=>!DL (listed.setIfInBounds i true) j) (fun x K=>by
     rw[S] at K
     unfold jZ at K
     split at K
     ·cases K
     ·exact K) (i:=i) (by simp[X]) (by rw[S];simp[jZ]) (List.mem_range.2 ad)
    omega
   ·rw[S]
    intro k an W U e J hb
    unfold jZ at U ⊢
    split
    ·rfl
    ·split at U
     ·rename_i ag
      subst ag
      rw[a] at W
      cases W
      exact A e J hb
     ·exact V k an W U e J hb
theorem iO {O:Nat} {A:Act} {w:World} (K:P.follows .mixedOrders=true) (J:pu ops=true) (a:Nat→Value) (G:A=FR a) (E:I (fun _=>false) a w.drew)
  (N:∀ i o,ops[i]?=some o→∀ D f w,I D f w→D i=false→(∀ e∈o.after,Region.binds .any e=true→D e.on=true)→iV ops D →
   Region.wanted o (yielded ops (FR f).tmps)=true∧o.wpIn F n P (FR f) w (fun a' w'=>∃ v,a'=FR (ls f i v)∧I (jZ D i) (ls f i v) w') Q)
  (H:∀ D f w,(∀ i,i<ops.size→D i=true)→I D f w→Q .normal (FR f) w):(Code.region O ops true).wpIn F n P Q A w:=by
 refine wpIn_region_any K ?_
 have e:DL (Array.replicate ops.size false)=fun _=>false:=by
  funext j
  unfold DL
  by_cases h:j<ops.size <;> simp[h]
 subst G
 refine mY FR I J N H ops.size (Array.replicate ops.size false) a _ (by simp) ?_ (by rw[e];intro k o _ h;cases h) (by rw[e];exact E)
 exact Nat.le_trans List.countP_le_length (by simp)
def tO (F:Fence) (n:Nat) (P:Program) (ops:Array Oper) (Q:Exit→Act→World→Prop) (FR:(Nat→Value)→Act) (I:(Nat→Bool)→(Nat→Value)→World→Prop) (i:Nat) (o:Oper):Prop:=
 ∀ D f w,I D f w→D i=false→(∀ e∈o.after,Region.binds .any e=true→D e.on=true)→iV ops D →
   Region.wanted o (yielded ops (FR f).tmps)=true∧(∀ v,(FR f).put o.dst v=FR (ls f i v)) ∧
   ∀ a:Act→World→Prop,Shut (∀ a' w' v,a'=(FR f).put o.dst v→I (jZ D i) (ls f i v) w'→a a' w')→o.wpIn F n P (FR f) w a Q
theorem fh {ae:Nat} {A:Act} {w:World} {l:List Oper} (a:Nat→Value) (Y:P.follows .mixedOrders=true) (W:pu l.toArray=true) (R:A=FR a) (N:I (fun _=>false) a w.drew)
  (ab:io (tO F n P l.toArray Q FR I) 0 l) (U:∀ D f w,(∀ i,i<l.length→D i=true)→I D f w→Q .normal (FR f) w):(Code.region ae l.toArray true).wpIn F n P Q A w:=
 iO FR I Y W a R N (fun i o aa D f w h O V S=>by
  have E:=gW ab (i:=i) (o:=o) (by simpa using aa)
  rw[Nat.zero_add] at E
  obtain⟨G,H,J⟩:=E D f w h O V S
  refine⟨G,J _ (fun a' w' v e ad=>⟨v,?_,ad⟩)⟩
  rw[e,H]) (fun D f w K h=>U D f w (fun i X=>K i (by simpa using X)) h)
end
end Go.Proofs.YtohfkhjlnlahdaaGreat
namespace Go.Proofs.YtohfkhjlnlahdaaGreat
open Go.RowKit Go.BigFrame
def km0:Mv:=⟨1,0,0,0⟩
end Go.Proofs.YtohfkhjlnlahdaaGreat
namespace Go.Proofs.YtohfkhjlnlahdaaGreat
open Go.RowKit Go.BigFrame
def bA:ByteArray:={ data:=#[97] }
def bB:ByteArray:={ data:=#[98] }
def bX:ByteArray:={ data:=#[120] }
def bM:ByteArray:={ data:=#[109] }
def bS:ByteArray:={ data:=#[115] }
end Go.Proofs.YtohfkhjlnlahdaaGreat
namespace Go.Proofs.YtohfkhjlnlahdaaGreat
open Go.RowKit
section
variable {F:List Nat} {P:Program} {ops:Array Oper} {Q:Exit→Act→World→Prop} {md:Region.Mode} {S S':World→Prop}
theorem jB (H:∀ A,S' A→S A):∀ (a:Nat) (listed:Array Bool) (E:Act) (w:World),wpAnyH P md ops Q S' a listed E w→wpAnyH P md ops Q S a listed E w
 | 0,_,_,_,h=>h
 | a+1,_,_,_,h=>⟨h.1,fun i I=>wpOp_mono (fun a' w' G=>⟨H _ G.1,jB H a _ a' w' G.2⟩) (h.2 i I)⟩
theorem bI {E:Nat} {a:Act} {w:World} (A:P.follows .mixedOrders=true) (h:wpAnyH P .any ops Q (Frm F w.drew) ops.size (Array.replicate ops.size false) a w.drew):(Code.region E ops true).wp P Q a w:=
 wp_region_held A h
theorem ol {i:Nat} {h:Oper} {A:Nat} {listed:Array Bool} {a:Act} {w:World} (v:Value) (I:ops[i]?=some h)
  (K:Region.noSelect ops=true) (H:Region.free md ops listed i=true) (J:(Region.ready md ops listed).contains i=true)
  (G:∀ c a w,Q (.panic c) (a.put h.dst v) w→Q (.panic c) a w) (N:Region.wanted h (yielded ops a.tmps)=true) (O:∀ w',Frm F w w'→(execOp a.eval h).run P w'=.ok (.value v) w')
  (E:wpAnyH P md ops Q (Frm F w) A (listed.setIfInBounds i true) (a.put h.dst v) w):wpAnyH P md ops Q (Frm F w) (A+1) listed a w:=
 wpAnyH_take I K H J G (.inl ⟨N,O⟩) (Frm.refl F _) E
theorem om {i:Nat} {h:Oper} {A:Nat} {listed:Array Bool} {a:Act} {w:World} (I:ops[i]?=some h)
  (K:Region.noSelect ops=true) (H:Region.free md ops listed i=true) (J:(Region.ready md ops listed).contains i=true)
  (G:∀ c a w,Q (.panic c) (a.put h.dst undef) w→Q (.panic c) a w) (N:Region.wanted h (yielded ops a.tmps)=false)
  (E:wpAnyH P md ops Q (Frm F w) A (listed.setIfInBounds i true) (a.put h.dst undef) w):wpAnyH P md ops Q (Frm F w) (A+1) listed a w:=
 wpAnyH_take I K H J G (.inr ⟨N,rfl⟩) (Frm.refl F _) E
theorem oq {i:Nat} {h:Oper} {E:Nat} {listed:Array Bool} {a:Act} {w:World} (K:ops[i]?=some h) (O:Region.ready md ops listed=[i]) (R:Region.wanted h (yielded ops a.tmps)=true)
  (I:∀ A:Act→World→Prop,Shut (∀ a' w',Frm F w w'→wpAnyH P md ops Q (Frm F w') E (listed.setIfInBounds i true) a' w'→A a' w')→Oper.wp P h a w A Q):wpAnyH P md ops Q (Frm F w) (E+1) listed a w:=by
 refine wpAnyH_all O (by simp) (fun j H=>?_)
 simp only[List.mem_singleton] at H
 subst H
 unfold wpOp
 simp only[K,R,if_true]
 exact .inl (I _ (fun a' w' G N=>⟨G,jB (fun U J=>G.trans J) _ _ _ _ N⟩))
theorem htF (i:Nat) {h:Oper} {E:Nat} {listed:Array Bool} {a:Act} {w:World} (v:Value) (H:∀ w',Frm F w w'→(execOp a.eval h).run P w'=.ok (.value v) w')
  (A:wpAnyH P md ops Q (Frm F w) E (listed.setIfInBounds i true) (a.put h.dst v) w) (G:ops[i]?=some h:=by rfl) (hb:(Region.noSelect ops && Region.free md ops listed i && (Region.ready md ops listed).contains i)=true:=by kernel_rfl)
  (hQ:∀ c a w,Q (.panic c) (a.put h.dst v) w→Q (.panic c) a w:=by exact fun _ _ _ A=>A) (hw:Region.wanted h (yielded ops a.tmps)=true:=by rfl):wpAnyH P md ops Q (Frm F w) (E+1) listed a w:=by
 simp only[Bool.and_eq_true] at hb
 exact ol v G hb.1.1 hb.1.2 hb.2 hQ hw H A
theorem hsF (i:Nat) {h:Oper} {E:Nat} {listed:Array Bool} {a:Act} {w:World}
  (A:wpAnyH P md ops Q (Frm F w) E (listed.setIfInBounds i true) (a.put h.dst undef) w) (G:ops[i]?=some h:=by rfl) (hb:(Region.noSelect ops && Region.free md ops listed i && (Region.ready md ops listed).contains i)=true:=by kernel_rfl)
  (hQ:∀ c a w,Q (.panic c) (a.put h.dst undef) w→Q (.panic c) a w:=by exact fun _ _ _ A=>A) (hw:Region.wanted h (yielded ops a.tmps)=false:=by rfl):wpAnyH P md ops Q (Frm F w) (E+1) listed a w:=by
 simp only[Bool.and_eq_true] at hb
 exact om G hb.1.1 hb.1.2 hb.2 hQ hw A
theorem gd (i:Nat) {h:Oper} {E:Nat} {listed:Array Bool} {a:Act} {w:World}
 (G:∀ A:Act→World→Prop,Shut (∀ a' w',Frm F w w'→wpAnyH P md ops Q (Frm F w') E (listed.setIfInBounds i true) a' w'→A a' w')→Oper.wp P h a w A Q) (H:ops[i]?=some h:=by rfl)
 (hr:Region.ready md ops listed=[i]:=by kernel_rfl) (hw:Region.wanted h (yielded ops a.tmps)=true:=by rfl):wpAnyH P md ops Q (Frm F w) (E+1) listed a w:=oq H hr hw G
theorem hcF {i:Nat} {h:Oper} {E:Nat} {listed:Array Bool} {a:Act} {w:World} (v:Value) (H:∀ w',Frm F w w'→(execOp a.eval h).run P w'=.ok (.value v) w')
  (A:Cnt (i+1) (wpAnyH P md ops Q (Frm F w) E (listed.setIfInBounds i true) (a.put h.dst v) w)) (G:ops[i]?=some h:=by rfl) (hb:(Region.noSelect ops && Region.free md ops listed i && (Region.ready md ops listed).contains i)=true:=by kernel_rfl)
  (hQ:∀ c a w,Q (.panic c) (a.put h.dst v) w→Q (.panic c) a w:=by exact fun _ _ _ A=>A) (hw:Region.wanted h (yielded ops a.tmps)=true:=by rfl):Cnt i (wpAnyH P md ops Q (Frm F w) (E+1) listed a w):=
 htF i v H A G hb hQ hw
theorem hdF {i:Nat} {h:Oper} {E:Nat} {listed:Array Bool} {a:Act} {w:World}
  (A:Cnt (i+1) (wpAnyH P md ops Q (Frm F w) E (listed.setIfInBounds i true) (a.put h.dst undef) w)) (G:ops[i]?=some h:=by rfl) (hb:(Region.noSelect ops && Region.free md ops listed i && (Region.ready md ops listed).contains i)=true:=by kernel_rfl)
  (hQ:∀ c a w,Q (.panic c) (a.put h.dst undef) w→Q (.panic c) a w:=by exact fun _ _ _ A=>A) (hw:Region.wanted h (yielded ops a.tmps)=false:=by rfl):Cnt i (wpAnyH P md ops Q (Frm F w) (E+1) listed a w):=
 hsF i A G hb hQ hw
end
end Go.Proofs.YtohfkhjlnlahdaaGreat
namespace Go.Proofs.YtohfkhjlnlahdaaGreat
open Go.ChangeShapes Go.WideShapes Go.ChangeAt Go.RowKit
theorem gg {G:Type} {enc:TypeId × Value→G} {P:Program} (I:laidOutB P=true) {a H:World} (hb:Below a.heap.size a H):∀ (ts:List TypeId) (A:List Value) (ds:List (DataW G)) (ps:List MemPlace),
  (ts.all fun t=>P.readableRec t && decide (t<P.types.size))=true→DataW.TrodAll enc P a 0 (fun _=>true) true ts A ds ps→(∀ x∈ps,x.block<a.heap.size) →
  DataW.TrodAll enc P H 0 (fun b=>decide (b<a.heap.size)) true ts A ds ps
 | [],A,ds,ps,_,h,_=>by
   obtain⟨rfl,rfl,rfl⟩:=trodAll_nil h
   exact rfl
 | t :: ts,A,ds,ps,ht,h,hlt=>by
   obtain⟨v,O,d,J,p,q,rfl,rfl,rfl,K,N⟩:=trodAll_cons h
   simp only[List.all_cons,Bool.and_eq_true,decide_eq_true_eq] at ht
   exact⟨p,q,Below.trod I ht.1.1 ht.1.2 K hb (fun x E=>hlt x (by simp[E])),gg I hb ts O J q ht.2 N (fun x E=>hlt x (by simp[E])),rfl⟩
theorem fN {A:Type} {enc:TypeId × Value→A} {P:Program} {E:World} {base:Nat} {J:Nat→Bool} {I:Bool}:∀ (ts:List TypeId) (a:List Value) (ds:List (DataW A)) (ps:List MemPlace),
  DataW.TrodAll enc P E base J I ts a ds ps→ds.length=ts.length
 | [],a,ds,ps,h=>by
   obtain⟨rfl,rfl,rfl⟩:=trodAll_nil h
   rfl
 | t :: ts,a,ds,ps,h=>by
   obtain⟨v,K,d,G,p,q,rfl,rfl,rfl,N,H⟩:=trodAll_cons h
   simp[fN ts K G q H]
theorem nu {C:Checked} (aj:ownKnob C.prog.godebug=none) (ah:laidOutB C.prog=true) {os:Os} (ak:os.Started) {h:Type} (enc:TypeId × Value→h) (f:FuncId) (fn:Func) (s:ChangeSpec) (S:TypeId)
  (ai:C.prog.inits.idxOf? f=none) (X:C.prog.funcs[f]?=some fn)
  (am:∃ (w:World) (A:Tape) (i:Input),w.os=os∧(w.forCall A i).Shaped C.prog∧i.vars=[]∧Input.okWide C.prog (w.forCall A i) .any w.heap.size f i ∧
   s.pre6 enc C.prog fn [] false (w.forCall A i).memory i.args∧({}:Assume).holds C.prog (lone (Frame.enter C.prog f i.args .normal) [] (w.forCall A i)))
  (I:s.vars=[]) (Y:fn.resultTypes=#[S]) (ab:C.prog.underlying S=some .bool)
  (ad:(fn.params.toList.all fun t=>C.prog.readableRec t && decide (t<C.prog.types.size))=true)
  (aa:∀ ds:List (DataW h),ds.length=fn.params.toList.length→s.fn h ds={ results:=[.lit (.bool true)],args:=ds })
  (al:∀ (a:World) (base:Nat) (args:Array Value) (ds:List (DataW h)) (p:List MemPlace),
   (∀ (j:Nat) t v,fn.params[j]?=some t→args[j]?=some v→Value.okWide C.prog a .any base t v) →
   DataW.TrodAll enc C.prog a 0 (fun _=>true) true fn.params.toList args.toList ds p →
   (∀ x∈p,x.block<a.heap.size) →
   (DataW.weightsEach C.prog fn.params.toList ds).all (·≤reachBytes)=true →
   Calls C.prog f args a (Ret (.bool true) (Frm [] a))) :
  ReturnsInHanded {} C os f .any (s.pre6 enc C.prog fn [] false) (s.post enc C.prog fn false true false false):=by
 refine returnsInHanded_of_change_sized (C:=C) aj ak ai X am ?_
 intro a base args ds ap an ae N _ R _
 have af:s.plain.varTypes C.prog=[]:=by
  simp[DataSpec.varTypes,ChangeSpec.plain,I]
 have G:=N
 obtain⟨p,q,E,K,rfl,_,_⟩:=N
 rw[I] at K
 obtain⟨rfl,rfl⟩:=trodVars_none K
 simp only[List.append_nil] at G
 rw[af,List.append_nil,List.append_nil] at R
 have O:∀ x∈p,x.block<a.heap.size:=fun x ag=>by simpa using G.lt x ag
 refine(al a base args ds p ae E O R).mono ?_
 rintro e U ⟨rfl,W⟩
 have J:Below a.heap.size a U:=W.below (Nat.le_refl _) (by simp)
 have H:=aa ds (fN _ _ _ _ E)
 refine⟨_,rfl,ds,[],p,[],p,[],G,?_,?_,?_,J.frame _,fun V=>by cases V⟩
 ·rw[List.append_nil,H,Y]
  exact trodAll_mk1 (shut_bool ab _)
 ·rw[List.append_nil,H]
  exact gg ah J _ _ _ _ ad E O
 ·rw[List.append_nil,H,I]
  rfl
end Go.Proofs.YtohfkhjlnlahdaaGreat
namespace Go.Proofs.YtohfkhjlnlahdaaGreat
open Go.ChangeShapes Go.WideShapes Go.ChangeAt Go.RowKit Go.Deep
theorem lP {N:Type} {enc:TypeId × Value→N} {P:Program} {w:World} {base:Nat} {K:TypeId→Bool} {I:Bool} {O R:TypeId} {args:Array Value} {ds:List (DataW N)} {ps:List MemPlace}
  (S:DataW.TrodAll enc P w base K I [O,R] args.toList ds ps) :
  ∃ G H a h A E,args=#[G,H]∧ds=[a,h]∧ps=A++E∧DataW.Trod enc P w base K I O G a A∧DataW.Trod enc P w base K I R H h E:=by
 obtain⟨G,_,a,_,A,_,W,rfl,rfl,U,J⟩:=trodAll_cons S
 obtain⟨H,_,h,_,E,_,rfl,rfl,rfl,V,J⟩:=trodAll_cons J
 obtain⟨rfl,rfl,rfl⟩:=trodAll_nil J
 exact⟨G,H,a,h,A,E,by cases args;simp_all,rfl,by simp,U,V⟩
theorem Tryz.cells5':Tryz.prog.cellsOf 5=1:=by kernel_rfl
set_option maxRecDepth 10000 in
theorem nG {K:Type} {enc:TypeId × Value→K} {G:World} {U:Nat} {c:Value} {x:DataW K × List MemPlace} (V:DataW.trod enc Tryz.prog G 0 (fun _=>true) true U 26 [c]=some x) :
  ∃ ao cap l,c=.slice ao (List.length l) cap∧Byts G c l:=by
 rcases open_ints Tryz.underlying26 Tryz.underlying5 Tryz.cells5' V with ⟨a,aa⟩ | ⟨H,J,cap,E,a,_,ae,af,ab,aa,N,Y⟩
 ·simp only[List.cons.injEq,and_true] at a
  subst a
  exact⟨none,0,[],rfl,Byts.nil G⟩
 ·simp only[List.cons.injEq,and_true] at a
  subst a
  simp only[if_true] at ab
  have A:((E.take J).map fun n=>UInt8.ofNat n.toNat).length=J:=by simp;omega
  refine⟨some H,cap,(E.take J).map fun n=>UInt8.ofNat n.toNat,by rw[A],some H,cap,by rw[A],by rw[A];omega,fun k x h=>?_⟩
  have R:=ag h
  rw[A] at R
  obtain⟨S,ao,ad⟩:=H
  have W:ad=none:=by simpa[Addr.add] using World.cell?_spot (N 0 (by omega))
  subst W
  have O:=N k (by omega)
  rw[Addr.add_lit] at O
  refine⟨S,ao,rfl,?_⟩
  rw[O]
  have I:k<E.length:=by omega
  rw[List.getElem?_map,List.getElem?_take_of_lt R,List.getElem?_eq_getElem I] at h
  simp only[Option.map_some,Option.some.injEq] at h
  subst h
  have X:=Y E[k] (List.getElem_mem I)
  simp only[Lit.wf,show IntKind.u8.min=0 from rfl,show IntKind.u8.max=255 from rfl,Bool.and_eq_true,decide_eq_true_eq] at X
  unfold u8
  rw[List.getD_eq_getElem?_getD,List.getElem?_eq_getElem I]
  simp
  omega
set_option maxRecDepth 10000 in
theorem pR {h:Type} {enc:TypeId × Value→h} {a:World} {base:Nat} {v:Value} {d:DataW h} {p:List MemPlace} (G:Value.okWide Tryz.prog a .any base 26 v) (A:DataW.Trod enc Tryz.prog a 0 (fun _=>true) true 26 v d p) :
  ∃ ao cap l,v=.slice ao (List.length l) cap∧Byts a v l:=by
 obtain⟨H,J,cap,rfl⟩:=okWide_slice Tryz.underlying26 G
 obtain⟨I,E⟩:=A
 exact nG E
end Go.Proofs.YtohfkhjlnlahdaaGreat
namespace Go.Proofs.YtohfkhjlnlahdaaGreat
open Go.ChangeShapes Go.WideShapes Go.ChangeAt Go.RowKit Go.Deep
section
variable {H:Type} {enc:TypeId × Value→H} {W:World}
theorem gR {α:Type} [Inhabited α] {t e:TypeId} {k:Nat} {At:World→Nat→Nat→α→Prop} {Q:α→Prop} (ar:Tryz.prog.underlying t=some (.slice e)) (Y:Tryz.prog.cellsOf e=k) (an:0<k)
  (al:∀ b o S n y,(∀ i,i<k→W.cell? ⟨b,o+i,none⟩=S[i]?)→S.length=k→DataW.trod enc Tryz.prog W 0 (fun _=>true) true n e S=some y→∃ x,At W b o x∧Q x)
  {ai:Nat} {c:Value} {x:DataW H × List MemPlace} (N:DataW.trod enc Tryz.prog W 0 (fun _=>true) true ai t [c]=some x) :
  ∃ af,Arr k At W c af∧(∀ x∈af,Q x)∧∀ ao n I,c=.slice ao n I→n≤I:=by
 rcases open_slice ar N with ⟨E,_⟩ | ⟨ah,R,cap,m,n,D,au,E,_,av,_,ab,_,ad⟩
 ·simp only[List.cons.injEq,and_true] at E
  subst E
  exact⟨[],Arr.nil _ _ _,by simp,fun ao n I J=>by cases J;omega⟩
 ·simp only[List.cons.injEq,and_true] at E
  subst E
  simp only[if_true] at ab
  subst ab
  obtain⟨G,ao,U⟩:=ah
  have aq:0<R→U=none:=fun J=>by
   obtain⟨V,h,K⟩:=ad 0 (by omega)
   obtain⟨_,O,A⟩:=World.cells?_some h
   rw[Y] at O A
   have X:=A 0 an
   rw[List.getElem?_eq_getElem (by omega)] at X
   simpa[Addr.add] using World.cell?_spot X
  obtain⟨f,N⟩:=choose_lt (α:=α) (p:=fun i x=>U=none∧At W G (ao+i*k) x∧Q x) (n:=R) (fun i a=>by
   obtain⟨V,h,K⟩:=ad i (by omega)
   obtain⟨_,O,A⟩:=World.cells?_some h
   rw[Y] at O A
   have ap:=aq (by omega)
   subst ap
   obtain⟨x,aj,ak⟩:=al G (ao+i*k) V n _ (fun j am=>by
    have:=A j am
    rw[add_plain,add_plain] at this
    exact this) O K
   exact⟨x,rfl,aj,ak⟩)
  refine⟨(List.range R).map f,⟨some ⟨G,ao,U⟩,m,by simp,fun i x a=>?_⟩,fun x ae=>?_,fun ao n I J=>by cases J;omega⟩
  ·have aa:i<R:=by have:=ag a;simpa using this
   rw[List.getElem?_map,List.getElem?_range aa,Option.map_some,Option.some.injEq] at a
   subst a
   obtain⟨h,K,_⟩:=N i aa
   subst h
   exact⟨G,ao,rfl,K⟩
  ·rw[List.mem_map] at ae
   obtain⟨i,a,rfl⟩:=ae
   rw[List.mem_range] at a
   exact(N i a).2.2
instance:Inhabited StD:=⟨dS⟩
instance:Inhabited CtrD:=⟨dC⟩
instance:Inhabited StpD:=⟨dT⟩
instance:Inhabited RolD:=⟨dR⟩
theorem Tryz.cellsStr:Tryz.prog.cellsOf 9=1:=by kernel_rfl
theorem Tryz.cellsBool:Tryz.prog.cellsOf 4=1:=by kernel_rfl
theorem Tryz.cellsInt:Tryz.prog.cellsOf 3=1:=by kernel_rfl
theorem Tryz.cellsKnd:Tryz.prog.cellsOf 135=1:=by kernel_rfl
theorem Tryz.cellsCls:Tryz.prog.cellsOf 23=1:=by kernel_rfl
theorem Tryz.cellsSts:Tryz.prog.cellsOf 83=1:=by kernel_rfl
theorem Tryz.cellsCts:Tryz.prog.cellsOf 84=1:=by kernel_rfl
theorem Tryz.cellsStps:Tryz.prog.cellsOf 85=1:=by kernel_rfl
theorem Tryz.cellsRls:Tryz.prog.cellsOf 22=1:=by kernel_rfl
theorem Tryz.cellsSt:Tryz.prog.cellsOf 206=3:=by kernel_rfl
theorem Tryz.cellsCt:Tryz.prog.cellsOf 244=2:=by kernel_rfl
theorem Tryz.cellsStp:Tryz.prog.cellsOf 137=9:=by kernel_rfl
theorem Tryz.cellsRl:Tryz.prog.cellsOf 87=4:=by kernel_rfl
theorem Tryz.cellsSes:Tryz.prog.cellsOf 25=4:=by kernel_rfl
theorem uM {α:Type} {h:List α} (A:h.length=2):∃ a b,h=[a,b]:=by
 match h,A with
 | [a,b],_=>exact⟨a,b,rfl⟩
theorem uN {α:Type} {h:List α} (A:h.length=3):∃ a b c,h=[a,b,c]:=by
 match h,A with
 | [a,b,c],_=>exact⟨a,b,c,rfl⟩
theorem uO {α:Type} {h:List α} (A:h.length=4):∃ a b c d,h=[a,b,c,d]:=by
 match h,A with
 | [a,b,c,d],_=>exact⟨a,b,c,d,rfl⟩
theorem uP {α:Type} {h:List α} (A:h.length=9):∃ a b c d e f g i j,h=[a,b,c,d,e,f,g,i,j]:=by
 match h,A with
 | [a,b,c,d,e,f,g,i,j],_=>exact⟨a,b,c,d,e,f,g,i,j,rfl⟩
set_option maxRecDepth 10000 in
theorem tl {b o n:Nat} {a:List Value} {y:DataW H × List MemPlace} (h:∀ i,i<3→W.cell? ⟨b,o+i,none⟩=a[i]?) (R:a.length=3) (O:DataW.trod enc Tryz.prog W 0 (fun _=>true) true n 206 a=some y):∃ x:StD,StAt W b o x∧True:=by
 obtain⟨c0,S,U,rfl⟩:=uN R
 obtain⟨X,Y,aa,V,_,_,I,J,K⟩:=trod_struct3 Tryz.underlying206 O
 simp only[Tryz.cellsStr,Tryz.cellsBool,Tryz.cellsInt,List.drop,List.take] at I J K
 obtain⟨s,A,_⟩:=DataW.trod_string Tryz.underlying9 I
 obtain⟨N,E,_⟩:=DataW.trod_bool Tryz.underlying4 J
 obtain⟨i,G,_⟩:=DataW.trod_int Tryz.underlying3 K
 simp only[List.cons.injEq,and_true] at A E G
 subst A;subst E;subst G
 exact⟨⟨s,N,i⟩,⟨h 0 (by omega),h 1 (by omega),h 2 (by omega)⟩,trivial⟩
set_option maxRecDepth 10000 in
theorem tm {b o n:Nat} {a:List Value} {y:DataW H × List MemPlace} (E:∀ i,i<2→W.cell? ⟨b,o+i,none⟩=a[i]?) (K:a.length=2) (J:DataW.trod enc Tryz.prog W 0 (fun _=>true) true n 244 a=some y):∃ x:CtrD,CtAt W b o x∧True:=by
 obtain⟨c0,N,rfl⟩:=uM K
 obtain⟨R,S,O,_,_,G,I⟩:=trod_struct2 Tryz.underlying244 J
 simp only[Tryz.cellsStr,Tryz.cellsInt,List.drop,List.take] at G I
 obtain⟨s,h,_⟩:=DataW.trod_string Tryz.underlying9 G
 obtain⟨i,A,_⟩:=DataW.trod_int Tryz.underlying3 I
 simp only[List.cons.injEq,and_true] at h A
 subst h;subst A
 exact⟨⟨s,i⟩,⟨E 0 (by omega),E 1 (by omega)⟩,trivial⟩
set_option maxRecDepth 10000 in
theorem rm {b o n:Nat} {A:List Value} {y:DataW H × List MemPlace} (a:∀ i,i<9→W.cell? ⟨b,o+i,none⟩=A[i]?) (ai:A.length=9) (ah:DataW.trod enc Tryz.prog W 0 (fun _=>true) true n 137 A=some y):∃ x:StpD,SpAt W b o x∧gL x.kind:=by
 obtain⟨c0,aq,ar,au,av,aw,ax,ay,az,rfl⟩:=uP ai
 obtain⟨ap,aA,_,_,_,aj,h⟩:=DataW.trod_struct Tryz.underlying137 ah
 match ap,aj with
 | [y0,y1,y2,y3,y4,y5,y6,y7,y8],_ =>
   have V:=h 0 _ rfl
   have X:=h 1 _ rfl
   have Y:=h 2 _ rfl
   have aa:=h 3 _ rfl
   have ab:=h 4 _ rfl
   have ad:=h 5 _ rfl
   have ae:=h 6 _ rfl
   have af:=h 7 _ rfl
   have ag:=h 8 _ rfl
   simp only[List.getElem_toArray,List.getElem_cons_zero,List.getElem_cons_succ,Tryz.cellsStr,Tryz.cellsKnd,Tryz.cellsInt,List.drop,List.take,List.getElem?_cons_zero,List.getElem?_cons_succ] at V X Y aa ab ad ae af ag
   obtain⟨s0,E,_⟩:=DataW.trod_string Tryz.underlying9 V
   obtain⟨s1,G,_⟩:=DataW.trod_string Tryz.underlying9 X
   obtain⟨ak,I,_,U⟩:=DataW.trod_int Tryz.underlying135 Y
   obtain⟨s3,J,_⟩:=DataW.trod_string Tryz.underlying9 aa
   obtain⟨s4,K,_⟩:=DataW.trod_string Tryz.underlying9 ab
   obtain⟨s5,N,_⟩:=DataW.trod_string Tryz.underlying9 ad
   obtain⟨al,O,_⟩:=DataW.trod_int Tryz.underlying3 ae
   obtain⟨am,R,_⟩:=DataW.trod_int Tryz.underlying3 af
   obtain⟨an,S,_⟩:=DataW.trod_int Tryz.underlying3 ag
   simp only[List.cons.injEq,and_true] at E G I J K N O R S
   subst E;subst G;subst I;subst J;subst K;subst N;subst O;subst R;subst S
   refine⟨⟨s0,s1,ak,s3,s4,s5,al,am,an⟩,⟨a 0 (by omega),a 1 (by omega),a 2 (by omega),a 3 (by omega),a 4 (by omega),a 5 (by omega),a 6 (by omega),a 7 (by omega),a 8 (by omega)⟩,?_⟩
   simp only[Lit.wf,show IntKind.i64.min=-9223372036854775808 from rfl,show IntKind.i64.max=9223372036854775807 from rfl,Bool.and_eq_true,decide_eq_true_eq] at U
   exact U
set_option maxRecDepth 10000 in
theorem rn {b o n:Nat} {a:List Value} {y:DataW H × List MemPlace} (G:∀ i,i<4→W.cell? ⟨b,o+i,none⟩=a[i]?) (X:a.length=4) (V:DataW.trod enc Tryz.prog W 0 (fun _=>true) true n 87 a=some y):∃ x:RolD,RlAt W b o x∧∀ t∈x.steps,gL t.kind:=by
 obtain⟨c0,af,ag,ah,rfl⟩:=uO X
 obtain⟨aj,ak,al,am,ai,_,_,J,K,N,O⟩:=Go.Joins.trod_struct4 Tryz.underlying87 V
 simp only[Tryz.cellsStr,Tryz.cellsSts,Tryz.cellsCts,Tryz.cellsStps,List.drop,List.take] at J K N O
 obtain⟨s,I,_⟩:=DataW.trod_string Tryz.underlying9 J
 simp only[List.cons.injEq,and_true] at I
 subst I
 obtain⟨aa,R,-,-⟩:=gR (At:=StAt) (Q:=fun _=>True) Tryz.underlying83 Tryz.cellsSt (by omega) (fun b o a n y h A E=>tl h A E) K
 obtain⟨ab,S,-,-⟩:=gR (At:=CtAt) (Q:=fun _=>True) Tryz.underlying84 Tryz.cellsCt (by omega) (fun b o a n y h A E=>tm h A E) N
 obtain⟨ad,U,ae,Y⟩:=gR (At:=SpAt) (Q:=fun t=>gL t.kind) Tryz.underlying85 Tryz.cellsStp (by omega) (fun b o a n y h A E=>rm h A E) O
 exact⟨⟨s,aa,ab,ad⟩,⟨_,_,_,G 0 (by omega),G 1 (by omega),G 2 (by omega),G 3 (by omega),R,S,U,Y⟩,ae⟩
set_option maxRecDepth 10000 in
theorem rp {base:Nat} {v:Value} {d:DataW H} {p:List MemPlace} (aa:Value.okWide Tryz.prog W .any base 25 v) (S:DataW.Trod enc Tryz.prog W 0 (fun _=>true) true 25 v d p):∃ s,SesV W v s∧WfS s:=by
 obtain⟨R,rfl,E⟩:=okWide_struct Tryz.underlying25 aa
 obtain⟨ah,Y⟩:=S
 obtain⟨ai,aj,ak,al,n,_,_,G,I,J,K⟩:=Go.Joins.trod_struct4 Tryz.underlying25 Y
 rw[Tryz.cellsSes] at E
 obtain⟨c0,O,af,ag,rfl⟩:=Go.Joins.array4 E
 simp only[Value.cells,Tryz.cellsStr,Tryz.cellsRls,Tryz.cellsCls,Tryz.cellsInt,List.drop,List.take] at G I J K
 obtain⟨s,a,_⟩:=DataW.trod_string Tryz.underlying9 G
 obtain⟨ab,h,_⟩:=DataW.trod_int Tryz.underlying23 J
 obtain⟨ad,A,_⟩:=DataW.trod_int Tryz.underlying3 K
 simp only[List.cons.injEq,and_true] at a h A
 subst a;subst h;subst A
 obtain⟨l,N,ae,-⟩:=gR (At:=RlAt) (Q:=fun r:RolD=>∀ t∈r.steps,gL t.kind) Tryz.underlying22 Tryz.cellsRl (by omega) (fun b o R n y U V X=>rn U V X) I
 exact⟨⟨s,l,ab,ad⟩,⟨O,rfl,N⟩,ae⟩
end
end Go.Proofs.YtohfkhjlnlahdaaGreat
namespace Go.Proofs.YtohfkhjlnlahdaaGreat
open Go.ChangeShapes Go.WideShapes Go.ChangeAt Go.RowKit
theorem Tryz.own:ownKnob Tryz.prog.godebug=none:=by kernel_rfl
theorem Tryz.laidOut:laidOutB Tryz.prog=true:=by kernel_rfl
end Go.Proofs.YtohfkhjlnlahdaaGreat
