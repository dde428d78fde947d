/- Part of the proof. -/
import Derived.WalkKit
import Derived.WalkSpells
import Derived.Deep.QuietTactic
import Derived.Deep.MidRow
import Derived.Deep.WholeRow
import Derived.Lib.SlicesS
import Derived.Shelf.SlGeneric
import Derived.Shelf.SlLaysN
import Derived.Shelf.SlLaysM
import Derived.Ground.SlgnProg
import Derived.Ground.SlgmProg
import Derived.Test.YtohfkhjlnlahdaaGreatProg
import Derived.BigQuiet
import Derived.StillTail
import Derived.Laws.IdiomStrings
import Derived.Shelf.Bytes.SlSmallAll
import Derived.Deep.Upon
import Derived.ArgAppend
import Derived.Deep.AppendLies
import Derived.Maps.AppendAt
import Derived.Lib.Hide
import Derived.Deep.DeepMust
import Derived.WalkLawsBesides
import Derived.BigRegion
import Derived.Deep.RegionHeld3
import Derived.Deep.RegionLaw
import Derived.Deep.DeepCutAuto
import Derived.Shelf.SlicesG.Clone
import Derived.Shelf.SlicesG.Turned
import Derived.Shelf.SlicesG.Delete
import Derived.Sort.OwnSorted
import Derived.OrdersHeld
import Derived.Lib.SliceRun
import Derived.LoopTactic
import Derived.RangeFuncNested
import Derived.RangeFuncLeaves
import Derived.RangeFuncCalls
import Derived.RangeFuncBound
import Derived.OwnWalkIn
import Derived.TacticsInMore
import Derived.LoopNIn
import Derived.LoopIn
import Derived.Sort.CutIn
import Derived.OrdersIn
import Derived.Test.YtohfkhjlnlahdaaGreatV19
import Derived.Test.YtohfkhjlnlahdaaGreatV01
import Derived.Test.YtohfkhjlnlahdaaGreatV09
import Derived.Test.YtohfkhjlnlahdaaGreatV08
import Derived.Test.YtohfkhjlnlahdaaGreatV20
import Derived.Test.YtohfkhjlnlahdaaGreatV03
set_option linter.all false
namespace Go.Proofs.YtohfkhjlnlahdaaGreat
open Go.RowKit Go.BigFrame
def RowG (G:Value→Prop) (e:TypeId) (v:Value) (w:World):Prop:=∀ g cur,v.ownBlock=some g→w.heap[g]?=some (.cells cur e (0,0))→∀ u∈cur,G u
theorem zeroCells_all {zero:Array Value} {n:Nat} {G:Value→Prop} (h0:0 < zero.size) (h:∀ u∈zero,G u):∀ u∈Builtin.zeroCells zero n,G u:=by
 intro u hu
 unfold Builtin.zeroCells at hu
 simp only[Array.mem_map,Array.mem_range] at hu
 obtain⟨i,-,rfl⟩:=hu
 have hi:i % zero.size < zero.size:=Nat.mod_lt _ h0
 rw[getElem!_pos zero _ hi]
 exact h _ (Array.getElem_mem hi)
theorem append_all {P:Program} (w:World) (G:Value→Prop) (base:Nat) (t ty e:TypeId) (i:TypeInfo) (z:Value) (size bytes:Nat) (ht:P.underlying t=some (.slice e)) (hi:P.info? e=some i) (hz:i.zero=some z)
  (hsize:i.size=size) (hby:i.bytes=bytes) (hzs:z.cells.size=size) (hsz:0 < size) (v:Value) (n:Nat) (xs:List Value) (hown:w.ownsRow base e size v n xs)
  (a:Addr) (m c:Nat) (news:List Value) (hl:news.length=m * size) (hnews:∀ j u,news[j]?=some u→w.cell? (a.add j)=some u) (h1:∀ u∈news,u.oneCell'=true)
  (h63:n + m≤maxLen) (hbytes:(n + m) * bytes≤140737488355328) (hbase:base≤w.heap.size) (hm:0 < m) (hG:RowG G e v w) (hGz:∀ u∈z.cells,G u) (hGn:∀ u∈news,G u) :
  ∃ v' w',(Builtin.append_ #[t,t] ty #[v,.slice (some a) m c]).run P w=.ok v' w'∧w'.ownsRow base e size v' (n + m) (xs ++ news)∧w.grownBy w' v.ownBlock∧RowG G e v' w'∧(v'.ownBlock=v.ownBlock∨v'.ownBlock=some w.heap.size):=by
 obtain⟨v',w',hr,h2,h3,-,h5⟩:=run_append_own_at (P:=P) w base t ty e i z size bytes ht hi hz hsize hby hzs hsz v n xs hown a m c news hl hnews h1 h63 hbytes hbase
 refine⟨v',w',hr,h2,h3,?_,h5⟩
 clear h5
 subst hsize
 subst hby
 have hsmall:n + m≤9223372036854775807:=by simp only[maxLen] at h63;omega
 have hold:∀ g cap,v=.slice (some ⟨g,0,none⟩) n cap→∀ u∈xs,G u:=by
  rintro g cap rfl u hu
  obtain⟨-,⟨e1,-⟩ | ⟨g',cap',cur,e1,-,hg,-,-,-,htake⟩⟩:=hown
  ·cases e1
  ·cases e1
   rw[← htake] at hu
   exact hG g cur rfl hg u (by simpa using List.mem_of_mem_take hu)
 rcases hown.2 with ⟨rfl,rfl⟩ | ⟨g,cap,cur,rfl,hbg,hg,hnc,hcm,hcs,htake⟩
 ·have hx:xs=[]:=List.eq_nil_of_length_eq_zero (by simpa using hown.1)
  subst hx
  have hr2:=run_append_nil (P:=P) w t ty e i z ht hi hz a m c news hl hnews hm (by omega) (by have hb:=hbytes;simp only[Nat.zero_add] at hb;omega)
  rw[hr2] at hr
  injection hr with e1 e2
  subst e1
  subst e2
  intro g' cur' hg' hc' u hu
  simp only[Value.ownBlock,Option.some.injEq] at hg'
  subst hg'
  have hh:=heap_alloc_new w.drew (.cells (news.toArray ++ Builtin.zeroCells z.cells (grownCap w m 0 e - m)) e)
  rw[show w.drew.heap.size=w.heap.size from rfl] at hh
  rw[hh] at hc'
  cases hc'
  rcases Array.mem_append.1 hu with hu | hu
  ·exact hGn u (by simpa using hu)
  ·exact zeroCells_all (by omega) hGz u hu
 ·by_cases hroom:n + m≤cap
  ·have hfit:n * i.size + news.length≤cur.size:=by rw[hl,hcs,← Nat.add_mul];exact Nat.mul_le_mul_right _ hroom
   have hr2:=run_append_room (P:=P) w t ty e i ht hi g n cap cur hg a m c news hl hnews h1 hroom hfit
   rw[hr2] at hr
   injection hr with e1 e2
   subst e1
   subst e2
   intro g' cur' hg' hc' u hu
   simp only[Value.ownBlock,Option.some.injEq] at hg'
   subst hg'
   rw[setRow_heap w g cur _ e _ hg] at hc'
   cases hc'
   simp only[List.mem_toArray,List.mem_append] at hu
   rcases hu with (hu | hu) | hu
   ·exact hG g cur rfl hg u (by simpa using List.mem_of_mem_take hu)
   ·exact hGn u hu
   ·exact hG g cur rfl hg u (by simpa using List.mem_of_mem_drop hu)
  ·have holds:∀ j u,xs[j]?=some u→w.cell? ((⟨g,0,none⟩:Addr).add j)=some u:=hown.cells (g:=g) rfl
   have hr2:=run_append_grow (P:=P) w t ty e i z ht hi hz ⟨g,0,none⟩ n cap xs hown.1 holds a m c news hl hnews (by omega) (by omega) (growslice_fits (by omega) hbytes)
   rw[hr2] at hr
   injection hr with e1 e2
   subst e1
   subst e2
   intro g' cur' hg' hc' u hu
   simp only[Value.ownBlock,Option.some.injEq] at hg'
   subst hg'
   have hh:=heap_alloc_new w.drew (.cells (xs.toArray ++ news.toArray ++ Builtin.zeroCells z.cells (grownCap w (n + m) cap e - (n + m))) e)
   rw[show w.drew.heap.size=w.heap.size from rfl] at hh
   rw[hh] at hc'
   cases hc'
   simp only[Array.mem_append,List.mem_toArray] at hu
   rcases hu with (hu | hu) | hu
   ·exact hold g cap rfl u hu
   ·exact hGn u hu
   ·exact zeroCells_all (by omega) hGz u hu
theorem wp_append_all {P:Program} {o:Oper} {a:Act} {w:World} {K:Act→World→Prop} {Q:Exit→Act→World→Prop} (G:Value→Prop) (s x:Operand) (t:TypeId)
  (ho:o.op=.call { callee:=.builtin .append,args:=#[s,x],argTypes:=#[t,t] })
  (base:Nat) (e:TypeId) (i:TypeInfo) (z:Value) (size bytes:Nat) (ht:P.underlying t=some (.slice e)) (hi:P.info? e=some i) (hz:i.zero=some z)
  (hsize:i.size=size) (hby:i.bytes=bytes) (hzs:z.cells.size=size) (hsz:0 < size)
  (v:Value) (n:Nat) (xs:List Value) (hs:a.eval s=v) (hown:w.ownsRow base e size v n xs)
  (ad:Addr) (m c:Nat) (news:List Value) (hx:a.eval x=.slice (some ad) m c) (hl:news.length=m * size) (hnews:∀ j u,news[j]?=some u→w.cell? (ad.add j)=some u) (h1:∀ u∈news,u.oneCell'=true)
  (h63:n + m≤maxLen) (hbytes:(n + m) * bytes≤140737488355328) (hbase:base≤w.heap.size) (hm:0 < m) (hG:RowG G e v w) (hGz:∀ u∈z.cells,G u) (hGn:∀ u∈news,G u)
  (h:∀ v' w',w'.ownsRow base e size v' (n + m) (xs ++ news)→w.grownBy w' v.ownBlock→RowG G e v' w'→(v'.ownBlock=v.ownBlock∨v'.ownBlock=some w.heap.size)→K (a.put o.dst v') w') :
  Oper.wp P o a w K Q:=by
 obtain⟨v',w',hr,h2,h3,h4,h5⟩:=append_all (P:=P) w G base t o.type e i z size bytes ht hi hz hsize hby hzs hsz v n xs hown ad m c news hl hnews h1 h63 hbytes hbase hm hG hGz hGn
 unfold Oper.wp execOp
 simp only[ho,resolve,invoke,builtin,Sem.run_bind,Sem.run_pure,Result.andThen_ok,List.map_toArray,List.map_cons,List.map_nil,hs,hx,hr]
 exact h v' w' h2 h3 h4 h5
end Go.Proofs.YtohfkhjlnlahdaaGreat
namespace Go.Proofs.YtohfkhjlnlahdaaGreat
open Go.RowKit Go.BigFrame
theorem step_append_own_at {P:Program} {ops:Array Oper} {o:Oper} {a:Act} {w:World} {K:Act→World→Prop} {Q:Exit→Act→World→Prop} {E:Prop} (hgd:o.guard=none) (s x:Operand) (t:TypeId)
  (ho:o.op=.call { callee:=.builtin .append,args:=#[s,x],argTypes:=#[t,t] })
  (base:Nat) (e:TypeId) (i:TypeInfo) (z:Value) (size bytes:Nat) (ht:P.underlying t=some (.slice e)) (hi:P.info? e=some i) (hz:i.zero=some z)
  (hsize:i.size=size) (hby:i.bytes=bytes) (hzs:z.cells.size=size) (hsz:0 < size)
  (v:Value) (n:Nat) (xs:List Value) (hs:a.eval s=v) (hown:w.ownsRow base e size v n xs)
  (ad:Addr) (m c:Nat) (news:List Value) (hx:a.eval x=.slice (some ad) m c) (hl:news.length=m * size) (hnews:∀ j u,news[j]?=some u→w.cell? (ad.add j)=some u) (h1:∀ u∈news,u.oneCell'=true)
  (h63:n + m≤maxLen) (hbytes:(n + m) * bytes≤140737488355328) (hbase:base≤w.heap.size)
  (h:∀ v' w',w'.ownsRow base e size v' (n + m) (xs ++ news)→w.grownBy w' v.ownBlock→K (a.put o.dst v') w') :
  if Region.wanted o (yielded ops a.tmps)=true then Oper.wp P o a w K Q else E:=by
 have hw:Region.wanted o (yielded ops a.tmps)=true:=by simp[Region.wanted,hgd]
 rw[if_pos hw]
 obtain⟨v',w',hr,h2,h3,h4,h5⟩:=run_append_own_at (P:=P) w base t o.type e i z size bytes ht hi hz hsize hby hzs hsz v n xs hown ad m c news hl hnews h1 h63 hbytes hbase
 unfold Oper.wp execOp
 simp only[ho,resolve,invoke,builtin,Sem.run_bind,Sem.run_pure,Result.andThen_ok,List.map_toArray,List.map_cons,List.map_nil,hs,hx,hr]
 exact h v' w' h2 h3
end Go.Proofs.YtohfkhjlnlahdaaGreat
namespace Go.Proofs.YtohfkhjlnlahdaaGreat
open Go.RowKit Go.BigFrame
def marks (ds:List Nat):List Deferred:=ds.map fun D=>{ target:=.collected D,args:=#[] }
def unmark (ds:List Nat) (w:World):World:=ds.foldl (fun w D=>w.putObj D (.deferred none)) w
theorem unmark_frm:∀ (ds:List Nat) (w:World),Frm ds w (unmark ds w)
 | [],w=>Frm.refl _ _
 | D :: ds,w=>((Frm.putObj w D _).mono (by intro x hx;simp at hx;subst hx;exact .inl (by simp))).then (unmark_frm ds _) (fun x hx=>.inl (by simp[hx]))
theorem leaves_many {fn:Func} {tmps:Array Value} {R:Ending→World→Prop}:∀ (ds:List Nat) (w:World),ds.Nodup→(∀ D∈ds,w.heap[D]?=some (.deferred (some []))) →
  (∃ v,(results fn tmps).run Tryz.prog (unmark ds w)=.ok v (unmark ds w)∧R (.returned v) (unmark ds w))→LeavesInM Fence.wide 3 Tryz.prog fn tmps R (marks ds) .returning w
 | [],w,_,_,h=>h
 | D :: ds,w,hn,hd,h=>by
   rw[List.nodup_cons] at hn
   refine⟨by simp,.inl ⟨D,_,rfl,run_takeDeferred (hd D (by simp)),leaves_many ds _ hn.2 (fun E hE=>?_) h⟩⟩
   have hne:E≠D:=fun e=>hn.1 (e ▸ hE)
   exact(World.putObj_heap_other hne).trans (hd E (by simp[hE]))
structure Ms (w:World) (ds:List Nat) (W:World):Prop where
 nd:ds.Nodup
 dl:∀ D∈ds,w.heap.size≤D∧W.heap[D]?=some (.deferred (some []))
theorem Ms.nil (w W:World):Ms w [] W:=⟨List.nodup_nil,fun D h=>by simp at h⟩
structure Kt (T:List TypeId) (W W':World):Prop where
 os:W'.os=W.os
 tape:W'.tape=W.tape
 output:W'.output=W.output
 size:W.heap.size≤W'.heap.size
 at':∀ (k:Nat) (o:Obj),W.heap[k]?=some o→(∀ c t fr,o=.cells c t fr→t∉T)→W'.heap[k]?=some o
section
variable {T:List TypeId} {w V W W' W2:World} {ds:List Nat}
theorem Kt.refl (T:List TypeId) (W:World):Kt T W W:=⟨rfl,rfl,rfl,Nat.le_refl _,fun _ _ h _=>h⟩
theorem Kt.trans (h:Kt T W W') (k:Kt T W' W2):Kt T W W2:=
 ⟨k.os.trans h.os,k.tape.trans h.tape,k.output.trans h.output,Nat.le_trans h.size k.size,fun i o hi ho=>k.at' i o (h.at' i o hi ho) ho⟩
theorem Kt.frm (h:Frm [] W W'):Kt T W W':=⟨h.os,h.tape,h.output,h.size,fun _ _ hk _=>h.at hk (by simp)⟩
theorem Kt.cells (h:Kt T W W') {k:Nat} {c:Array Value} {t:TypeId} {fr:Nat × Nat} (hk:W.heap[k]?=some (.cells c t fr)) (ht:t∉T):W'.heap[k]?=some (.cells c t fr):=
 h.at' k _ hk (fun c' t' fr' e=>by cases e;exact ht)
theorem Kt.mark (h:Kt T W W') {D:Nat} {x:Option (List Deferred)} (hk:W.heap[D]?=some (.deferred x)):W'.heap[D]?=some (.deferred x):=h.at' D _ hk (fun _ _ _ e=>by cases e)
theorem Kt.kb (h:Kt T W W'):KB W W':=fun k o hk ho=>h.at' k o hk (fun c t fr e=>by subst e;cases ho)
theorem Kt.bk (h:Kt T V W) (hb:Bk V.heap.size W W'):Kt T V W':=
 ⟨hb.os.trans h.os,hb.tape.trans h.tape,hb.output.trans h.output,Nat.le_trans h.size hb.size,fun k o hk ho=>hb.block k o (h.at' k o hk ho) (.inl (lt_of_block hk))⟩
theorem Kt.row (h:Kt T W W') {base e size n:Nat} {v:Value} {xs:List Value} (ho:W.ownsRow base e size v n xs) (he:e∉T):W'.ownsRow base e size v n xs:=by
 obtain⟨h1,h2⟩:=ho
 refine⟨h1,?_⟩
 rcases h2 with h2 | ⟨g,cap,cur,hv,hg,hh,r⟩
 ·exact .inl h2
 ·exact .inr ⟨g,cap,cur,hv,hg,h.cells hh he,r⟩
theorem Kt.grown {row:Option Nat} (h:Kt T V W) (hg:W.grownBy W' row) (hr:∀ k,row=some k→∃ c t fr,W.heap[k]?=some (.cells c t fr)∧t∈T):Kt T V W':=
 h.trans ⟨hg.os,hg.tape,hg.output,hg.size,fun k o hk ho=>(hg.block k (lt_of_block hk) (fun e=>by
  obtain⟨c,t,fr,h1,h2⟩:=hr k e.symm
  rw[hk] at h1;cases h1
  exact ho _ _ _ rfl h2)).trans hk⟩
theorem Kt.set (h:Kt T V W) {b o:Nat} {c:Array Value} {t:TypeId} {fr:Nat × Nat} (hb:W.heap[b]?=some (.cells c t fr)) (ht:t∈T) (u:Value):Kt T V (W.setCell ⟨b,o,none⟩ u):=
 h.trans ⟨rfl,rfl,rfl,by simp[World.setCell],fun k x hk hx=>by
  have hne:k≠b:=fun e=>by subst e;rw[hb] at hk;cases hk;exact hx _ _ _ rfl ht
  exact(Below.heap_setCell _ _ _ _ hne).trans hk⟩
theorem Kt.alloc (h:Kt T V W) (o:Obj):Kt T V (W.alloc o):=h.trans (Kt.frm ((Frm.refl [] W).alloc o))
theorem Ms.kt (h:Ms w ds W) (hk:Kt T W W'):Ms w ds W':=⟨h.nd,fun D hD=>⟨(h.dl D hD).1,hk.mark (h.dl D hD).2⟩⟩
theorem Ms.frm (h:Ms w ds W) (hf:Frm [] W W'):Ms w ds W':=h.kt (T:=[]) (Kt.frm hf)
theorem Ms.more {D:Nat} (h:Ms w ds V) (hf:w.heap.size≤V.heap.size) (hk:Kt T V W) (hD:V.heap.size≤D) (hm:W.heap[D]?=some (.deferred (some []))):Ms w (D :: ds) W:=by
 have h1:=h.kt hk
 refine⟨List.nodup_cons.2 ⟨fun hx=>?_,h.nd⟩,fun E hE=>?_⟩
 ·have:=lt_of_block (h.dl D hx).2;omega
 ·rcases List.mem_cons.1 hE with rfl | hE
  ·exact⟨by omega,hm⟩
  ·exact h1.dl E hE
end
theorem new_row (W:World) (A:Array Value) (t:TypeId):∀ (j:Nat) u,A.toList[j]?=some u→(W.alloc (.cells A t)).cell? ((⟨W.heap.size,0,none⟩:Addr).add j)=some u:=fun j u hu=>by
 have e:(⟨W.heap.size,0,none⟩:Addr).add j=⟨W.heap.size,j,none⟩:=by simp[Addr.add];exact fun h=>h.symm
 rw[e,cell_of (heap_alloc_new W (.cells A t)),← Array.getElem?_toList]
 exact hu
structure BO (ty e k:Nat) (w:World) (ob n:Nat) (xs:List Value) (W:World):Prop where
 fr:Frm [] w W
 new:w.heap.size≤ob
 bx:∃ ao cap,W.heap[ob]?=some (.cells #[.slice ao n cap] ty (0,0))∧W.ownsRow w.heap.size e k (.slice ao n cap) n xs
section
variable {ty e k:Nat} {w V W W' w1:World} {ob n m:Nat} {xs news:List Value}
theorem BO.frm (h:BO ty e k w ob n xs W) (hf:Frm [] W W'):BO ty e k w ob n xs W':=by
 obtain⟨ao,cap,h1,h2⟩:=h.bx
 exact⟨h.fr.trans hf,h.new,ao,cap,hf.at h1 (by simp),hf.owns h2 (by simp)⟩
theorem BO.bk {B:Nat} (h:BO ty e k w ob n xs W) (hb:Bk B W W') (hB:w.heap.size≤B):BO ty e k w ob n xs W':=by
 obtain⟨ao,cap,h1,h2⟩:=h.bx
 refine⟨hb.old h.fr hB,h.new,ao,cap,hb.at h1 rfl,h2.1,?_⟩
 rcases h2.2 with h3 | ⟨g,cp,cur,hv,hg,hh,r⟩
 ·exact .inl h3
 ·exact .inr ⟨g,cp,cur,hv,hg,hb.at hh rfl,r⟩
theorem BO.facts {ao:Option Addr} {cap:Nat} {o:Obj} (h1:W.heap[ob]?=some (.cells #[.slice ao n cap] ty (0,0))) (h2:W.ownsRow w.heap.size e k (.slice ao n cap) n xs) (hne:ty≠e) (hg:(W.alloc o).grownBy w1 (Value.slice ao n cap).ownBlock) :
  w1.heap[ob]?=some (.cells #[.slice ao n cap] ty (0,0)):=
 grown_at hg (alloc_at h1) (fun e'=>by
  obtain⟨c,hc⟩:=ownBlock_type h2 e'
  rw[h1] at hc;cases hc;exact hne rfl)
theorem BO.step {ao:Option Addr} {cap:Nat} {o:Obj} {v':Value} (h:BO ty e k w ob n xs W) (h1:W.heap[ob]?=some (.cells #[.slice ao n cap] ty (0,0))) (h2:W.ownsRow w.heap.size e k (.slice ao n cap) n xs) (hne:ty≠e)
  (hg:(W.alloc o).grownBy w1 (Value.slice ao n cap).ownBlock) (ho:w1.ownsRow w.heap.size e k v' (n + m) (xs ++ news)) :
  BO ty e k w ob (n + m) (xs ++ news) (w1.setCell ⟨ob,0,none⟩ v')∧Kt [ty,e] W (w1.setCell ⟨ob,0,none⟩ v'):=by
 have hb:=BO.facts h1 h2 hne hg
 have hge:∀ q,(Value.slice ao n cap).ownBlock=some q→w.heap.size≤q:=fun q hq=>ownBlock_ge h2 hq
 have k1:Kt [ty,e] W w1:=((Kt.refl _ W).alloc o).grown hg (fun q hq=>by
  obtain⟨c,hc⟩:=ownBlock_type h2 hq
  exact⟨c,e,(0,0),alloc_at hc,by simp⟩)
 have f1:Frm [] w w1:=(h.fr.alloc o).grown hg (fun q hq=>.inr (hge q hq))
 obtain⟨ao',cp',rfl⟩:=own_shape ho
 refine⟨⟨f1.setCell _ (.inr h.new) _,h.new,ao',cp',(block_setCell hb 0 _).trans rfl,?_⟩,k1.set hb (by simp) _⟩
 refine ownsRow_setCell_other ho (fun e'=>?_) _
 obtain⟨c,hc⟩:=ownBlock_type ho e'
 rw[hb] at hc;cases hc;exact hne rfl
theorem BO.made (w:World) (ty e k:Nat) {W:World} {ob:Nat} (hf:Frm [] w W) (hn:w.heap.size≤ob) (h:W.heap[ob]?=some (.cells #[.slice none 0 0] ty (0,0))):BO ty e k w ob 0 [] W:=
 ⟨hf,hn,none,0,h,World.ownsRow_nil _ _ _ _⟩
end
end Go.Proofs.YtohfkhjlnlahdaaGreat
namespace Go.Proofs.YtohfkhjlnlahdaaGreat
open Go.RowKit Go.BigFrame
structure GO (ty e k:Nat) (w:World) (ob o:Nat) (A:Array Value) (n:Nat) (xs:List Value) (W:World):Prop where
 fr:Frm [] w W
 new:w.heap.size≤ob
 bx:∃ ao cap,W.heap[ob]?=some (.cells (A.setIfInBounds o (.slice ao n cap)) ty (0,0))∧W.ownsRow w.heap.size e k (.slice ao n cap) n xs
section
variable {ty e k:Nat} {w V W W' w0 w1:World} {ob o n m:Nat} {A:Array Value} {xs news:List Value}
theorem GO.frm (h:GO ty e k w ob o A n xs W) (hf:Frm [] W W'):GO ty e k w ob o A n xs W':=by
 obtain⟨ao,cap,h1,h2⟩:=h.bx
 exact⟨h.fr.trans hf,h.new,ao,cap,hf.at h1 (by simp),hf.owns h2 (by simp)⟩
theorem GO.facts {ao:Option Addr} {cap:Nat} {B:Array Value} (h1:W.heap[ob]?=some (.cells B ty (0,0))) (h2:W.ownsRow w.heap.size e k (.slice ao n cap) n xs) (hne:ty≠e) (hf:Frm [] W w0) (hg:w0.grownBy w1 (Value.slice ao n cap).ownBlock) :
  w1.heap[ob]?=some (.cells B ty (0,0)):=
 grown_at hg (hf.at h1 (by simp)) (fun e'=>by
  obtain⟨c,hc⟩:=ownBlock_type h2 e'
  rw[h1] at hc;cases hc;exact hne rfl)
theorem GO.step {ao:Option Addr} {cap:Nat} {v':Value} (h:GO ty e k w ob o A n xs W) (h1:W.heap[ob]?=some (.cells (A.setIfInBounds o (.slice ao n cap)) ty (0,0))) (h2:W.ownsRow w.heap.size e k (.slice ao n cap) n xs) (hne:ty≠e)
  (hf:Frm [] W w0) (hg:w0.grownBy w1 (Value.slice ao n cap).ownBlock) (ho:w1.ownsRow w.heap.size e k v' (n + m) (xs ++ news)) :
  GO ty e k w ob o A (n + m) (xs ++ news) (w1.setCell ⟨ob,o,none⟩ v')∧Kt [ty,e] W (w1.setCell ⟨ob,o,none⟩ v'):=by
 have hb:=GO.facts h1 h2 hne hf hg
 have hge:∀ q,(Value.slice ao n cap).ownBlock=some q→w.heap.size≤q:=fun q hq=>ownBlock_ge h2 hq
 have k1:Kt [ty,e] W w1:=(Kt.frm hf).grown hg (fun q hq=>by
  obtain⟨c,hc⟩:=ownBlock_type h2 hq
  exact⟨c,e,(0,0),hf.at hc (by simp),by simp⟩)
 have f1:Frm [] w w1:=(h.fr.trans hf).grown hg (fun q hq=>.inr (hge q hq))
 obtain⟨ao',cp',rfl⟩:=own_shape ho
 refine⟨⟨f1.setCell _ (.inr h.new) _,h.new,ao',cp',(block_setCell hb o _).trans (by rw[Array.setIfInBounds_setIfInBounds]),?_⟩,k1.set hb (by simp) _⟩
 refine ownsRow_setCell_other ho (fun e'=>?_) _
 obtain⟨c,hc⟩:=ownBlock_type ho e'
 rw[hb] at hc;cases hc;exact hne rfl
theorem GO.made {B:Array Value} (hf:Frm [] w W) (hn:w.heap.size≤ob) (h:W.heap[ob]?=some (.cells B ty (0,0))) (hB:B=A.setIfInBounds o (.slice none 0 0)):GO ty e k w ob o A 0 [] W:=
 ⟨hf,hn,none,0,by rw[h,hB],World.ownsRow_nil _ _ _ _⟩
def cnC (l:List (CtrD × Int)):List Value:=l.flatMap fun c=>[.string c.1.name,.int .i64 c.1.lim,.int .i64 c.2]
theorem cnC_append (A B:List (CtrD × Int)):cnC (A ++ B)=cnC A ++ cnC B:=by unfold cnC;rw[List.flatMap_append]
theorem cnC_at:∀ {L:List (CtrD × Int)} {i:Nat} {c:CtrD × Int},L[i]?=some c→(cnC L)[i * 3]?=some (.string c.1.name)∧(cnC L)[i * 3 + 1]?=some (.int .i64 c.1.lim)∧(cnC L)[i * 3 + 2]?=some (.int .i64 c.2)
 | [],i,c,h=>by simp at h
 | a :: L,0,c,h=>by
   simp at h;subst h
   exact⟨rfl,rfl,rfl⟩
 | a :: L,i + 1,c,h=>by
   have h':L[i]?=some c:=by simpa using h
   obtain⟨h1,h2,h3⟩:=cnC_at h'
   have e:cnC (a :: L)=[.string a.1.name,.int .i64 a.1.lim,.int .i64 a.2] ++ cnC L:=rfl
   rw[e]
   refine⟨?_,?_,?_⟩
   ·rw[List.getElem?_append_right (by simp;omega),show (i + 1) * 3 - [Value.string a.1.name,.int .i64 a.1.lim,.int .i64 a.2].length=i * 3 by simp;omega];exact h1
   ·rw[List.getElem?_append_right (by simp;omega),show (i + 1) * 3 + 1 - [Value.string a.1.name,.int .i64 a.1.lim,.int .i64 a.2].length=i * 3 + 1 by simp;omega];exact h2
   ·rw[List.getElem?_append_right (by simp;omega),show (i + 1) * 3 + 2 - [Value.string a.1.name,.int .i64 a.1.lim,.int .i64 a.2].length=i * 3 + 2 by simp;omega];exact h3
theorem cn_arr {base:Nat} {v:Value} {L:List (CtrD × Int)} (h:W.ownsRow base 246 3 v L.length (cnC L)):Arr 3 CnAt W v L:=by
 rcases h.2 with ⟨rfl,hn⟩ | ⟨g,c,cur,rfl,-,hh,-,-,-,ht⟩
 ·obtain rfl:L=[]:=List.length_eq_zero_iff.1 hn
  exact Arr.nil _ _ _
 ·refine⟨_,_,rfl,fun i x hx=>⟨g,0,rfl,?_⟩⟩
  obtain⟨a0,a1,a2⟩:=cnC_at hx
  have hl:=lt_of_some hx
  have hc:∀ j,j < L.length * 3→W.cell? ⟨g,j,none⟩=(cnC L)[j]?:=fun j hj=>by
   rw[cell_of hh,← ht,List.getElem?_take_of_lt hj,Array.getElem?_toList]
  rw[Nat.zero_add]
  exact⟨(hc _ (by omega)).trans a0,(hc _ (by omega)).trans a1,(hc _ (by omega)).trans a2⟩
end
end Go.Proofs.YtohfkhjlnlahdaaGreat
namespace Go.Proofs.YtohfkhjlnlahdaaGreat
open Go
section
variable {s:SesD} {x:PS}
theorem mem_hits {m:ByteArray} {i k:Nat} {l:List (Nat × ByteArray)} {v:Mv}:v∈hits m i k l↔∃ e∈l,e.2=m∧v=⟨1,i,k,e.1⟩:=by
 unfold hits
 rw[List.mem_filterMap]
 constructor
 ·rintro⟨e,he,h⟩
  split at h
  ·rename_i h2;exact⟨e,he,h2,by simpa using h.symm⟩
  ·cases h
 ·rintro⟨e,he,h2,rfl⟩
  exact⟨e,he,by rw[if_pos h2]⟩
theorem mem_movesP {v:Mv}:v∈movesP s x↔(∃ i k,i < s.roles.length∧k < (s.rol i).steps.length∧v∈stepMv s x i k)∨(∃ i k,i < s.roles.length∧k < s.roles.length∧v∈loseMv s x i k):=by
 unfold movesP
 rw[List.mem_append,mem_cat,mem_cat]
 simp only[mem_cat]
 constructor
 ·rintro(⟨i,h1,k,h2,h3⟩ | ⟨i,h1,k,h2,h3⟩)
  ·exact .inl ⟨i,k,h1,h2,h3⟩
  ·exact .inr ⟨i,k,h1,h2,h3⟩
 ·rintro(⟨i,k,h1,h2,h3⟩ | ⟨i,k,h1,h2,h3⟩)
  ·exact .inl ⟨i,h1,k,h2,h3⟩
  ·exact .inr ⟨i,h1,k,h2,h3⟩
theorem mem_stepMv {v:Mv} {i k:Nat} (h:v∈stepMv s x i k):v.kind=1∧v.role=i∧v.step=k∧possB s x i k=true ∧
  (((s.rol i).stp k).kind=2→∃ p:Nat,v.place=p∧(p,((s.rol i).stp k).msg)∈chlK s.cls (x.way (peerN s ((s.rol i).stp k)) i) (x.way (peerN s ((s.rol i).stp k)) i).length) ∧
  (((s.rol i).stp k).kind≠2→v.place=0)∧(((s.rol i).stp k).kind=1→((x.way i (peerN s ((s.rol i).stp k))).length:Int) < s.cap):=by
 unfold stepMv at h
 cases hp:possB s x i k with
 | false=>rw[if_pos hp] at h;cases h
 | true =>
   rw[if_neg (by rw[hp];decide)] at h
   by_cases h2:((s.rol i).stp k).kind=2
   ·rw[if_pos h2] at h
    obtain⟨e,he,e2,rfl⟩:=mem_hits.1 h
    exact⟨rfl,rfl,rfl,rfl,fun _=>⟨e.1,rfl,by rw[← e2];exact he⟩,fun h3=>absurd h2 h3,fun h3=>by rw[h2] at h3;cases h3⟩
   ·rw[if_neg h2] at h
    split at h
    ·cases h
    ·rename_i h3
     simp only[List.mem_singleton] at h
     subst h
     exact⟨rfl,rfl,rfl,rfl,fun h4=>absurd h4 h2,fun _=>rfl,fun h4=>by
      rcases Int.lt_or_le ((x.way i (peerN s ((s.rol i).stp k))).length:Int) s.cap with h5 | h5
      ·exact h5
      ·exact absurd ⟨h4,h5⟩ h3⟩
theorem mem_loseMv {v:Mv} {i k:Nat}:v∈loseMv s x i k↔v=⟨2,i,k,0⟩∧s.cls=3∧0 < (x.way i k).length:=by
 unfold loseMv
 split
 ·rename_i h;simp[h]
 ·rename_i h
  exact⟨fun h1=>absurd h1 (by simp),fun h1=>absurd h1.2 h⟩
theorem takeL_mem {cls:Int} {L:List ByteArray} {p:Int}:(takeL cls L p).length≤L.length∧∀ m∈takeL cls L p,m∈L:=by
 unfold takeL
 split
 ·exact⟨List.length_eraseIdx_le _ _,fun m hm=>List.mem_of_mem_eraseIdx hm⟩
 ·exact⟨Nat.le_refl _,fun m hm=>hm⟩
theorem loseL_mem {cls:Int} {L:List ByteArray}:(loseL cls L).length≤L.length∧∀ m∈loseL cls L,m∈L:=by
 unfold loseL
 split
 ·exact takeL_mem
 ·exact⟨Nat.le_refl _,fun m hm=>hm⟩
theorem bank_at (h:SesOk s) (hx:PSok s x) {i k:Nat} (hi:i < s.roles.length) (hk:k < (s.rol i).steps.length) :
  (bankDo (s.rol i).ctrs (x.bank i) ((s.rol i).stp k)).length=(s.rol i).ctrs.length ∧
  (bankOk (s.rol i).ctrs (x.bank i) ((s.rol i).stp k)=true→∀ (j:Nat) (c:CtrD),(s.rol i).ctrs[j]?=some c→0≤(bankDo (s.rol i).ctrs (x.bank i) ((s.rol i).stp k)).getD j 0∧(bankDo (s.rol i).ctrs (x.bank i) ((s.rol i).stp k)).getD j 0≤c.lim):=by
 obtain⟨hl,hb⟩:=hx.vb i hi
 unfold bankDo bankOk
 by_cases he:((s.rol i).stp k).ctr=emptyS
 ·rw[if_pos he];exact⟨hl,fun _=>hb⟩
 ·rw[if_neg he,if_neg he]
  refine⟨by rw[List.length_set];exact hl,fun hok j c hj=>?_⟩
  obtain⟨n,d,e1,e2,-⟩:=(h.stp hi hk).ctr he
  rw[e1] at hok ⊢
  simp only[Int.toNat_natCast,Bool.and_eq_true] at hok ⊢
  rw[List.getD_eq_getElem?_getD,List.getElem?_set]
  by_cases hn:n=j
  ·subst hn
   have hlt:=lt_of_some hj
   rw[if_pos rfl,if_pos (by omega)]
   have hdc:(s.rol i).ctrs.getD n dC=c:=getD_some hj
   rw[hdc] at hok
   have h2:=hok.2
   simp only[allowsV,Bool.and_eq_true,decide_eq_true_eq] at h2
   simp only[Option.getD_some]
   constructor <;> omega
  ·rw[if_neg hn,← List.getD_eq_getElem?_getD]
   exact hb j c hj
theorem next_ok (h:SesOk s) (hx:PSok s x) {v:Mv} (hv:v∈movesP s x):PSok s (nextP s x v):=by
 rcases mem_movesP.1 hv with ⟨i,k,hi,hk,hm⟩ | ⟨i,k,hi,hk,hm⟩
 ·obtain⟨e1,e2,e3,e4,e5,e6,e7⟩:=mem_stepMv hm
  have hst:=h.stp hi hk
  obtain⟨bl,bb⟩:=bank_at h hx hi hk
  have hp:bankOk (s.rol i).ctrs (x.bank i) ((s.rol i).stp k)=true:=by
   unfold possB at e4;rw[Bool.and_eq_true] at e4;exact e4.1
  have bb:=bb hp
  have h0:∀ ws,PSok s { x with ways:=ws }→PSok s { pos:=x.pos.set i (stIx (s.rol i) ((s.rol i).stp k).to).toNat,vals:=x.vals.set i (bankDo (s.rol i).ctrs (x.bank i) ((s.rol i).stp k)),ways:=ws }:=by
   intro ws hw
   refine⟨by simpa using hx.pl,fun j hj=>?_,by simpa using hx.vl,fun j hj=>?_,hw.wl,hw.wr,hw.wb,hw.wd⟩
   ·show (x.pos.set i _).getD j 0 < _
    rw[List.getD_eq_getElem?_getD,List.getElem?_set]
    by_cases e:i=j
    ·subst e
     rw[if_pos rfl,if_pos (by rw[hx.pl];exact hi)]
     obtain⟨q,hq,hql⟩:=ixf_nat hst.to
     have e':stIx (s.rol i) ((s.rol i).stp k).to=q:=hq
     rw[e']
     simpa using hql
    ·rw[if_neg e,← List.getD_eq_getElem?_getD];exact hx.pb j hj
   ·show ((x.vals.set i _).getD j []).length=_∧∀ (k:Nat) (c:CtrD),_→0≤((x.vals.set i _).getD j []).getD k 0∧((x.vals.set i _).getD j []).getD k 0≤_
    have e9:(x.vals.set i (bankDo (s.rol i).ctrs (x.bank i) ((s.rol i).stp k))).getD j []=if i=j then bankDo (s.rol i).ctrs (x.bank i) ((s.rol i).stp k) else x.bank j:=by
     rw[List.getD_eq_getElem?_getD,List.getElem?_set]
     by_cases e:i=j
     ·subst e;rw[if_pos rfl,if_pos (by rw[hx.vl];exact hi),if_pos rfl];rfl
     ·rw[if_neg e,if_neg e,← List.getD_eq_getElem?_getD];rfl
    rw[e9]
    by_cases e:i=j
    ·subst e;rw[if_pos rfl];exact⟨bl,bb⟩
    ·rw[if_neg e];exact hx.vb j hj
  unfold nextP
  rw[if_neg (by rw[e1];decide),e2,e3,Int.toNat_natCast,Int.toNat_natCast]
  apply h0
  by_cases k1:((s.rol i).stp k).kind=1
  ·rw[if_pos k1]
   obtain⟨-,p1,p2⟩:=h.peer hi hk (by omega)
   refine hx.set hi p1 (fun e=>p2 e.symm) ?_
   obtain⟨w1,w2⟩:=hx.wb i _ hi p1
   unfold putL
   split
   ·refine⟨by rw[List.length_append];simp;have:=e7 k1;omega,fun m hm=>?_⟩
    rcases List.mem_append.1 hm with hm | hm
    ·exact w2 m hm
    ·rw[List.mem_singleton] at hm;subst hm;exact hst.msg (by omega)
   ·exact⟨w1,w2⟩
  ·rw[if_neg k1]
   by_cases k2:((s.rol i).stp k).kind=2
   ·rw[if_pos k2]
    obtain⟨-,p1,p2⟩:=h.peer hi hk (by omega)
    refine hx.set p1 hi p2 ?_
    obtain⟨w1,w2⟩:=hx.wb _ i p1 hi
    have:=takeL_mem (cls:=s.cls) (L:=x.way (peerN s ((s.rol i).stp k)) i) (p:=v.place)
    exact⟨by omega,fun m hm=>w2 m (this.2 m hm)⟩
   ·rw[if_neg k2];exact hx
 ·obtain⟨rfl,e2,e3⟩:=mem_loseMv.1 hm
  unfold nextP
  rw[if_pos rfl,Int.toNat_natCast,Int.toNat_natCast]
  have hne:i≠k:=fun e=>by subst e;rw[hx.wd] at e3;simp at e3
  refine hx.set hi hk hne ?_
  obtain⟨w1,w2⟩:=hx.wb i k hi hk
  have:=loseL_mem (cls:=s.cls) (L:=x.way i k)
  exact⟨by omega,fun m hm=>w2 m (this.2 m hm)⟩
theorem first_way (s:SesD) (i k:Nat):(firstP s).way i k=[]:=by
 show ((s.roles.map fun _=>s.roles.map fun _=>([]:List ByteArray)).getD i []).getD k []=[]
 simp only[List.getD_eq_getElem?_getD,List.getElem?_map]
 cases s.roles[i]? with
 | none=>simp
 | some r=>simp only[Option.map_some,Option.getD_some,List.getElem?_map];cases s.roles[k]? <;> simp
theorem first_ok (h:SesOk s):PSok s (firstP s):=by
 refine⟨by simp[firstP],fun i hi=>?_,by simp[firstP],fun i hi=>?_,by simp[firstP],fun i hi=>?_,fun i k _ _=>?_,fun i=>first_way s i i⟩
 ·have e:(firstP s).at i=0:=by
   show (s.roles.map fun _=>0).getD i 0=0
   simp only[List.getD_eq_getElem?_getD,List.getElem?_map];cases s.roles[i]? <;> simp
  rw[e]
  exact(h.at hi).s1
 ·have e:(firstP s).bank i=(s.rol i).ctrs.map fun _=>0:=by
   show (s.roles.map fun r=>r.ctrs.map fun _=>(0:Int)).getD i []=_
   rw[List.getD_eq_getElem?_getD,List.getElem?_map,SesD.rol_some hi];rfl
  rw[e]
  refine⟨by simp,fun k c hc=>?_⟩
  have:=(h.at hi).cN c (List.mem_of_getElem? hc)
  rw[List.getD_eq_getElem?_getD,List.getElem?_map,hc]
  exact⟨by simp,by simp;omega⟩
 ·show ((s.roles.map fun _=>s.roles.map fun _=>([]:List ByteArray)).getD i []).length=_
  rw[List.getD_eq_getElem?_getD,List.getElem?_map,SesD.rol_some hi];simp
 ·rw[first_way];exact⟨by simp;have:=h.k1;omega,by simp⟩
theorem if_iff {α:Type} {p q:Prop} [Decidable p] [Decidable q] (h:p↔q) (a b:α):(if p then a else b)=if q then a else b:=by
 by_cases hp:p
 ·rw[if_pos hp,if_pos (h.1 hp)]
 ·rw[if_neg hp,if_neg (fun hq=>hp (h.2 hq))]
end
end Go.Proofs.YtohfkhjlnlahdaaGreat
namespace Go.Proofs.YtohfkhjlnlahdaaGreat
open Go.RowKit Go.BigFrame
theorem few_any {α:Type} (p:Nat→α→Bool) (d:α) (l:List α) (least most:Nat):(l.length < least∨most < l.length∨anyIx p 0 l=true)↔0≤fewI l.length least most (fun i=>p i (l.getD i d)):=by
 rw[fewI_iff (by omega)]
 have e:(∃ i,i < l.length∧p i (l.getD i d)=true)↔anyIx p 0 l=true:=by
  rw[anyIx_iff]
  constructor
  ·rintro⟨i,h1,h2⟩
   exact⟨i,l.getD i d,some_getD h1,by rw[Nat.zero_add];exact h2⟩
  ·rintro⟨i,x,h1,h2⟩
   rw[Nat.zero_add] at h2
   exact⟨i,lt_of_some h1,by rw[getD_some h1];exact h2⟩
 rw[e]
 have e1:(l.length < least)↔((l.length:Int) < (least:Int)):=by omega
 have e2:(most < l.length)↔((most:Int) < (l.length:Int)):=by omega
 rw[e1,e2]
def fewC (r:RolD):Int:=fewI r.ctrs.length 0 4 (fun i=>ctrBad r i (r.ctrs.getD i dC))
def fewS (r:RolD):Int:=fewI r.sts.length 1 24 (fun i=>stBad r i (r.sts.getD i dS))
def fewT (r:RolD):Int:=fewI r.steps.length 0 80 (fun i=>!stepB r i (r.steps.getD i dT))
theorem ck_few (r:RolD):ckRole r=if nameB r.name=false then 290 else if 0≤fewC r then 291 else if 0≤fewS r then 292 else if 0≤fewT r then 293 else 0:=by
 have h1:=few_any (ctrBad r) dC r.ctrs 0 4
 have h2:=few_any (stBad r) dS r.sts 1 24
 have h3:=few_any (fun i s=>!stepB r i s) dT r.steps 0 80
 have g1:(4 < r.ctrs.length∨anyIx (ctrBad r) 0 r.ctrs=true)↔0≤fewC r:=by
  refine Iff.trans ?_ h1
  constructor
  ·exact fun h=>.inr h
  ·rintro(h | h)
   ·omega
   ·exact h
 have g3:(80 < r.steps.length∨anyIx (fun i s=>!stepB r i s) 0 r.steps=true)↔0≤fewT r:=by
  refine Iff.trans ?_ h3
  constructor
  ·exact fun h=>.inr h
  ·rintro(h | h)
   ·omega
   ·exact h
 have g2:(r.sts.length < 1∨24 < r.sts.length∨anyIx (stBad r) 0 r.sts=true)↔0≤fewS r:=h2
 unfold ckRole
 rw[if_iff g1,if_iff g2,if_iff g3]
theorem fewC_neg {r:RolD} (h:fewC r < 0):r.ctrs.length≤4∧∀ c∈r.ctrs,1≤c.lim∧c.lim≤1000:=by
 have h1:¬ 0≤fewC r:=by omega
 rw[show (0≤fewC r)↔_ from (few_any (ctrBad r) dC r.ctrs 0 4).symm] at h1
 have ha:anyIx (ctrBad r) 0 r.ctrs=false:=by
  cases h2:anyIx (ctrBad r) 0 r.ctrs with
  | false=>rfl
  | true=>exact absurd (.inr (.inr h2)) h1
 have h4:¬ 4 < r.ctrs.length:=fun h2=>h1 (.inr (.inl h2))
 refine⟨by omega,fun c hc=>?_⟩
 obtain⟨k,hk⟩:=List.getElem?_of_mem hc
 have:=(anyIx_false.1 ha) k c hk
 unfold ctrBad at this
 simp only[Bool.or_eq_false_iff,decide_eq_false_iff_not] at this
 omega
end Go.Proofs.YtohfkhjlnlahdaaGreat
namespace Go.Proofs.YtohfkhjlnlahdaaGreat
open Go
section
variable {s:SesD} {x z u:PS}
theorem next_step (s:SesD) (x:PS) (i k:Nat) (p:Int):nextP s x ⟨1,i,k,p⟩ =
  { pos:=x.pos.set i (stIx (s.rol i) ((s.rol i).stp k).to).toNat
    vals:=x.vals.set i (bankDo (s.rol i).ctrs (x.bank i) ((s.rol i).stp k))
    ways:=
     if ((s.rol i).stp k).kind=1 then setWay x.ways i (peerN s ((s.rol i).stp k)) (putL s.cap (x.way i (peerN s ((s.rol i).stp k))) ((s.rol i).stp k).msg)
     else if ((s.rol i).stp k).kind=2 then setWay x.ways (peerN s ((s.rol i).stp k)) i (takeL s.cls (x.way (peerN s ((s.rol i).stp k)) i) p)
     else x.ways }:=by
 unfold nextP
 rw[if_neg (show ¬ (1:Int)=2 by decide)]
 rfl
theorem next_lose (s:SesD) (x:PS) (i k:Nat) (p:Int):nextP s x ⟨2,i,k,p⟩={ x with ways:=setWay x.ways i k (loseL s.cls (x.way i k)) }:=by
 unfold nextP
 rw[if_pos rfl]
 rfl
end
end Go.Proofs.YtohfkhjlnlahdaaGreat
namespace Go.Proofs.YtohfkhjlnlahdaaGreat
open Go
structure Nd where
 st:PS
 par:Int
 mv:Mv
 lvl:Nat
 deriving DecidableEq
def mv0:Mv:=⟨0,0,0,0⟩
def hasK (s:SesD) (N:List Nd) (k:List UInt8):Bool:=N.any fun d=>decide (keyP s d.st=k)
def addMv (s:SesD) (lim:Nat) (x:PS) (n lvl:Nat):List Nd→List Mv→List Nd × Bool
 | N,[]=>(N,true)
 | N,m :: ms =>
   if hasK s N (keyP s (nextP s x m)) then addMv s lim x n lvl N ms
   else if N.length=lim then (N,false)
   else addMv s lim x n lvl (N ++ [⟨nextP s x m,n,m,lvl + 1⟩]) ms
def bfs (s:SesD) (lim:Nat):Nat→Nat→List Nd→List Nd × Bool
 | 0,_,N=>(N,true)
 | f + 1,n,N=>match N[n]? with
   | none=>(N,true)
   | some d=>match addMv s lim d.st n d.lvl N (movesP s d.st) with
     | (N',true)=>bfs s lim f (n + 1) N'
     | (N',false)=>(N',false)
def nd0 (s:SesD):Nd:=⟨firstP s,-1,mv0,0⟩
def searchP (s:SesD) (lim:Nat):List Nd × Bool:=bfs s lim (lim + 1) 0 [nd0 s]
structure SI (s:SesD) (lim:Nat) (n:Nat) (N:List Nd):Prop where
 ok:∀ d∈N,PSok s d.st
 one:N[0]?=some (nd0 s)
 top:N.length≤lim
 nn:n≤N.length
 dist:∀ (i j:Nat) (a b:Nd),N[i]?=some a→N[j]?=some b→keyP s a.st=keyP s b.st→i=j
 par:∀ (i:Nat) (a:Nd),N[i]?=some a→0 < i→∃ (p:Nat) (b:Nd),a.par=p∧p < i∧N[p]?=some b∧a.mv∈movesP s b.st∧a.st=nextP s b.st a.mv∧a.lvl=b.lvl + 1
 mono:∀ (i j:Nat) (a b:Nd),N[i]?=some a→N[j]?=some b→i≤j→a.lvl≤b.lvl
theorem hasK_iff {s:SesD} {N:List Nd} {k:List UInt8}:hasK s N k=true↔∃ (i:Nat) (d:Nd),N[i]?=some d∧keyP s d.st=k:=by
 unfold hasK
 rw[List.any_eq_true]
 constructor
 ·rintro⟨d,hd,h⟩
  obtain⟨i,hi⟩:=List.getElem?_of_mem hd
  exact⟨i,d,hi,of_decide_eq_true h⟩
 ·rintro⟨i,d,hi,h⟩
  exact⟨d,List.mem_of_getElem? hi,decide_eq_true h⟩
section
variable {s:SesD} {lim:Nat}
theorem SI.start (h:SesOk s) (hl:1≤lim):SI s lim 0 [nd0 s]:=by
 refine⟨fun d hd=>?_,rfl,by simpa using hl,Nat.zero_le _,fun i j a b hi hj _=>?_,fun i a hi h0=>?_,fun i j a b hi hj _=>?_⟩
 ·rw[List.mem_singleton] at hd;subst hd;exact first_ok h
 ·have h1:=lt_of_some hi;have h2:=lt_of_some hj;simp at h1 h2;omega
 ·have h1:=lt_of_some hi;simp at h1;omega
 ·have h1:=lt_of_some hi;have h2:=lt_of_some hj
  simp at h1 h2
  subst h1;subst h2
  rw[hi] at hj;cases hj;exact Nat.le_refl _
structure SJ (s:SesD) (lim:Nat) (n:Nat) (d:Nd) (N:List Nd):Prop extends SI s lim n N where
 at':N[n]?=some d
 deep:∀ a∈N,a.lvl≤d.lvl + 1
theorem SJ.add {n:Nat} {d:Nd} {N:List Nd} (hs:SesOk s) (h:SJ s lim n d N) {m:Mv} (hm:m∈movesP s d.st) (hk:hasK s N (keyP s (nextP s d.st m))=false) (hl:N.length≠lim) :
  SJ s lim n d (N ++ [⟨nextP s d.st m,n,m,d.lvl + 1⟩]):=by
 have hd:=h.ok d (List.mem_of_getElem? h.at')
 have hn:=lt_of_some h.at'
 have hlen:(N ++ [(⟨nextP s d.st m,n,m,d.lvl + 1⟩:Nd)]).length=N.length + 1:=by simp
 have hg:∀ (i:Nat) (a:Nd),(N ++ [⟨nextP s d.st m,n,m,d.lvl + 1⟩])[i]?=some a→N[i]?=some a∨i=N.length∧a=⟨nextP s d.st m,n,m,d.lvl + 1⟩:=by
  intro i a hi
  by_cases e:i < N.length
  ·rw[List.getElem?_append_left e] at hi;exact .inl hi
  ·rw[List.getElem?_append_right (by omega)] at hi
   have h1:=lt_of_some hi
   simp at h1
   obtain rfl:i=N.length:=by omega
   simp at hi
   exact .inr ⟨rfl,hi.symm⟩
 have hk':∀ (i:Nat) (a:Nd),N[i]?=some a→keyP s a.st≠keyP s (nextP s d.st m):=by
  intro i a hi e
  rw[hasK_iff.2 ⟨i,a,hi,e⟩] at hk;cases hk
 have hlim:=h.top
 refine⟨⟨fun a ha=>?_,?_,by omega,?_,?_,?_,?_⟩,?_,?_⟩
 ·rcases List.mem_append.1 ha with ha | ha
  ·exact h.ok a ha
  ·rw[List.mem_singleton] at ha;subst ha;exact next_ok hs hd hm
 ·rw[List.getElem?_append_left (by omega)];exact h.one
 ·have:=h.nn;omega
 ·intro i j a b hi hj e
  rcases hg i a hi with h1 | ⟨rfl,rfl⟩ <;> rcases hg j b hj with h2 | ⟨rfl,rfl⟩
  ·exact h.dist i j a b h1 h2 e
  ·exact absurd e (hk' i a h1)
  ·exact absurd e.symm (hk' j b h2)
  ·rfl
 ·intro i a hi h0
  rcases hg i a hi with h1 | ⟨rfl,rfl⟩
  ·obtain⟨p,b,e1,e2,e3,e4⟩:=h.par i a h1 h0
   exact⟨p,b,e1,e2,by rw[List.getElem?_append_left (lt_of_some e3)];exact e3,e4⟩
  ·exact⟨n,d,rfl,hn,by rw[List.getElem?_append_left hn];exact h.at',hm,rfl,rfl⟩
 ·intro i j a b hi hj hij
  rcases hg i a hi with h1 | ⟨rfl,rfl⟩ <;> rcases hg j b hj with h2 | ⟨rfl,rfl⟩
  ·exact h.mono i j a b h1 h2 hij
  ·exact h.deep a (List.mem_of_getElem? h1)
  ·have:=lt_of_some h2;omega
  ·exact Nat.le_refl _
 ·rw[List.getElem?_append_left hn];exact h.at'
 ·intro a ha
  rcases List.mem_append.1 ha with ha | ha
  ·exact h.deep a ha
  ·rw[List.mem_singleton] at ha;subst ha;exact Nat.le_refl _
theorem hasK_append {N M:List Nd} {k:List UInt8} (h:hasK s N k=true):hasK s (N ++ M) k=true:=by
 unfold hasK at h ⊢
 rw[List.any_append,h];rfl
theorem addMv_ok (hs:SesOk s) {n:Nat} {d:Nd}:∀ (ms:List Mv) (N:List Nd),SJ s lim n d N→(∀ m∈ms,m∈movesP s d.st) →
  SJ s lim n d (addMv s lim d.st n d.lvl N ms).1∧(∃ M,(addMv s lim d.st n d.lvl N ms).1=N ++ M) ∧
  ((addMv s lim d.st n d.lvl N ms).2=true→∀ m∈ms,hasK s (addMv s lim d.st n d.lvl N ms).1 (keyP s (nextP s d.st m))=true) ∧
  ((addMv s lim d.st n d.lvl N ms).2=false→(addMv s lim d.st n d.lvl N ms).1.length=lim∧∃ m∈ms,hasK s (addMv s lim d.st n d.lvl N ms).1 (keyP s (nextP s d.st m))=false)
 | [],N,h,_=>⟨h,⟨[],by simp[addMv]⟩,fun _ m hm=>by simp at hm,fun e=>by cases e⟩
 | m :: ms,N,h,hm=>by
   rw[addMv]
   cases hk:hasK s N (keyP s (nextP s d.st m)) with
   | true =>
     simp only[if_true]
     obtain⟨h1,⟨M,h2⟩,h3,h4⟩:=addMv_ok hs ms N h (fun x hx=>hm x (by simp[hx]))
     refine⟨h1,⟨M,h2⟩,fun e x hx=>?_,fun e=>?_⟩
     ·rcases List.mem_cons.1 hx with rfl | hx
      ·rw[h2];exact hasK_append hk
      ·exact h3 e x hx
     ·obtain⟨g1,x,g2,g3⟩:=h4 e
      exact⟨g1,x,by simp[g2],g3⟩
   | false =>
     simp only[Bool.false_eq_true,if_false]
     by_cases hl:N.length=lim
     ·rw[if_pos hl]
      exact⟨h,⟨[],by simp⟩,(fun e=>by cases e),fun _=>⟨hl,m,by simp,hk⟩⟩
     ·rw[if_neg hl]
      obtain⟨h1,⟨M,h2⟩,h3,h4⟩:=addMv_ok hs ms _ (h.add hs (hm m (by simp)) hk hl) (fun x hx=>hm x (by simp[hx]))
      refine⟨h1,⟨[⟨nextP s d.st m,n,m,d.lvl + 1⟩] ++ M,by rw[h2];simp⟩,fun e x hx=>?_,fun e=>?_⟩
      ·rcases List.mem_cons.1 hx with rfl | hx
       ·rw[h2]
        refine hasK_append (hasK_iff.2 ⟨N.length,⟨nextP s d.st x,n,x,d.lvl + 1⟩,by simp,rfl⟩)
       ·exact h3 e x hx
      ·obtain⟨g1,x,g2,g3⟩:=h4 e
       exact⟨g1,x,by simp[g2],g3⟩
def ClosedN (s:SesD) (n:Nat) (N:List Nd):Prop:=∀ (i:Nat) (a:Nd),i < n→N[i]?=some a→∀ m∈movesP s a.st,∃ (j:Nat) (b:Nd),N[j]?=some b∧keyP s b.st=keyP s (nextP s a.st m)∧b.lvl≤a.lvl + 1
structure Found (s:SesD) (lim:Nat) (R:List Nd × Bool) (n:Nat):Prop extends SI s lim n R.1 where
 closed:ClosedN s n R.1
 deep:∀ (i:Nat) (a:Nd),n≤i→R.1[i]?=some a→∀ b∈R.1,b.lvl≤a.lvl + 1
 whole:R.2=true→n=R.1.length
 cut:R.2=false→R.1.length=lim∧n < R.1.length
theorem SI.next {n:Nat} {d:Nd} {N:List Nd} (h:SI s lim n N) (hd:N[n]?=some d) (hb:∀ a∈N,a.lvl≤d.lvl + 1):SJ s lim n d N:=⟨h,hd,hb⟩
theorem SI.up {n:Nat} {N:List Nd} (h:SI s lim n N) (hn:n < N.length):SI s lim (n + 1) N:=⟨h.ok,h.one,h.top,hn,h.dist,h.par,h.mono⟩
theorem ClosedN.more {n k:Nat} {N M:List Nd} (h:ClosedN s n N) (hk:k≤n) (hn:n≤N.length):ClosedN s k (N ++ M):=by
 intro i a hi ha m hm
 rw[List.getElem?_append_left (by omega)] at ha
 obtain⟨j,b,h1,h2⟩:=h i a (by omega) ha m hm
 exact⟨j,b,by rw[List.getElem?_append_left (lt_of_some h1)];exact h1,h2⟩
theorem bfs_ok (hs:SesOk s):∀ (f n:Nat) (N:List Nd),SI s lim n N→ClosedN s n N→(∀ (d:Nd),N[n]?=some d→∀ a∈N,a.lvl≤d.lvl + 1)→lim + 1≤n + f→∃ k,Found s lim (bfs s lim f n N) k
 | 0,n,N,h,hc,hb,hf=>by
   have:=h.nn;have:=h.top;omega
 | f + 1,n,N,h,hc,hb,hf=>by
   rw[bfs]
   cases hd:N[n]? with
   | none =>
     have hn:N.length≤n:=List.getElem?_eq_none_iff.1 hd
     have hnn:=h.nn
     exact⟨n,h,hc,(fun i a hi ha=>by have:=lt_of_some ha;simp only at this;omega),(fun _=>by simp only;omega),fun e=>by cases e⟩
   | some d =>
     simp only
     have hj:=h.next hd (hb d hd)
     obtain⟨h1,⟨M,h2⟩,h3,h4⟩:=addMv_ok hs (movesP s d.st) N hj (fun m hm=>hm)
     generalize hR:addMv s lim d.st n d.lvl N (movesP s d.st)=R at h1 h2 h3 h4
     obtain⟨N',b⟩:=R
     simp only at h1 h2 h3 h4
     have hn:=lt_of_some h1.at'
     have hold:∀ (i:Nat) (a:Nd),i < N.length→N'[i]?=some a→N[i]?=some a:=fun i a hi ha=>by rw[h2,List.getElem?_append_left hi] at ha;exact ha
     have hdeep:∀ (i:Nat) (a:Nd),n≤i→N'[i]?=some a→∀ b∈N',b.lvl≤a.lvl + 1:=fun i a hi ha b hb=>by
      have h5:=h1.deep b hb
      have h6:=h1.mono n i d a h1.at' ha hi
      omega
     cases b with
     | true =>
       simp only
       refine bfs_ok hs f (n + 1) N' (h1.toSI.up hn) (fun i a hi ha m hm=>?_) (fun e he a ha=>hdeep (n + 1) e (by omega) he a ha) (by omega)
       by_cases e:i=n
       ·subst e
        rw[h1.at'] at ha
        cases ha
        obtain⟨j,b,g1,g2⟩:=hasK_iff.1 (h3 rfl m hm)
        exact⟨j,b,g1,g2,h1.deep b (List.mem_of_getElem? g1)⟩
       ·have h5:=hc.more (M:=M) (Nat.le_refl _) h.nn
        rw[← h2] at h5
        exact h5 i a (by omega) ha m hm
     | false =>
       simp only
       refine⟨n,h1.toSI,?_,hdeep,(fun e=>by cases e),fun _=>⟨(h4 rfl).1,hn⟩⟩
       simp only
       rw[h2]
       exact hc.more (Nat.le_refl _) h.nn
theorem search_ok (hs:SesOk s) (hl:1≤lim):∃ n,Found s lim (searchP s lim) n:=
 bfs_ok hs (lim + 1) 0 [nd0 s] (SI.start hs hl) (fun i a hi _=>by omega) (fun d hd a ha=>by
  rw[List.mem_singleton] at ha
  subst ha
  exact Nat.zero_le _) (by omega)
def trc (N:List Nd):Nat→Nat→List Mv
 | 0,_=>[]
 | f + 1,n=>match N[n]? with
   | none=>[]
   | some d=>if d.par < 0 then [] else trc N f d.par.toNat ++ [d.mv]
def traceP (N:List Nd) (n:Nat):List Mv:=trc N (n + 1) n
theorem trc_more {n:Nat} {N:List Nd} (h:SI s lim n N):∀ (f k:Nat),k < f→trc N f k=traceP N k:=by
 intro f
 induction f using Nat.strongRecOn with
 | _ f ih =>
   intro k hk
   match f,ih,hk with
   | 0,_,hk=>omega
   | f + 1,ih,hk =>
     unfold traceP
     rw[trc,trc]
     cases hd:N[k]? with
     | none=>rfl
     | some d =>
       simp only
       by_cases e:d.par < 0
       ·rw[if_pos e,if_pos e]
       ·rw[if_neg e,if_neg e]
        have hp:∃ p:Nat,d.par=p∧p < k:=by
         rcases Nat.eq_zero_or_pos k with h0 | h0
         ·subst h0
          rw[h.one] at hd;cases hd
          exact absurd (show (-1:Int) < 0 by decide) e
         ·obtain⟨p,b,e1,e2,-⟩:=h.par k d hd h0
          exact⟨p,e1,e2⟩
        obtain⟨p,e1,e2⟩:=hp
        rw[e1,Int.toNat_natCast]
        by_cases hkf:k=f
        ·subst hkf;rfl
        ·rw[ih f (by omega) p (by omega),ih k (by omega) p (by omega)]
theorem trace_zero {n:Nat} {N:List Nd} (h:SI s lim n N):traceP N 0=[]:=by
 unfold traceP
 rw[trc,h.one]
 rfl
theorem trace_step {n:Nat} {N:List Nd} (h:SI s lim n N) {i p:Nat} {d:Nd} (hd:N[i]?=some d) (hp:d.par=p) (hpi:p < i):traceP N i=traceP N p ++ [d.mv]:=by
 rw[← trc_more h (i + 1) i (by omega),trc,hd]
 simp only
 rw[hp,if_neg (by omega),Int.toNat_natCast,trc_more h _ _ hpi]
end
end Go.Proofs.YtohfkhjlnlahdaaGreat
namespace Go.Proofs.YtohfkhjlnlahdaaGreat
open Go
structure Sp where
 role:Nat
 peer:Nat
 msg:ByteArray
 deriving DecidableEq
def hereN (s:SesD) (x:PS) (i:Nat):ByteArray:=((s.rol i).sts.getD (x.at i) dS).name
def hearB (s:SesD) (x:PS) (i p:Nat) (m:ByteArray) (t:StpD):Bool:=
 decide (t.kind=2) && decide (t.msg=m) && decide (t.peer=(s.rol p).name) && decide (t.frm=hereN s x i) && bankOk (s.rol i).ctrs (x.bank i) t
def expB (s:SesD) (x:PS) (i p:Nat) (m:ByteArray):Bool:=(s.rol i).steps.any (hearB s x i p m)
def spOf (s:SesD) (x:PS) (i p:Nat) (l:List (Nat × ByteArray)):List Sp:=l.filterMap fun e=>if expB s x i p e.2 then none else some ⟨i,p,e.2⟩
def spAt (s:SesD) (x:PS) (i p:Nat):List Sp:=spOf s x i p (chlK s.cls (x.way p i) (x.way p i).length)
def ofP (s:SesD) (x:PS):List Sp:=cat (fun i=>cat (fun p=>spAt s x i p) s.roles.length) s.roles.length
def allSp (s:SesD) (N:List Nd):List (Nat × Sp):=cat (fun n=>(ofP s ((N.map Nd.st).getD n ⟨[],[],[]⟩)).map fun u=>(n,u)) N.length
def heardB (s:SesD) (i p:Nat) (m:ByteArray):Bool:=(s.rol i).steps.any fun t=>decide (t.kind=2) && decide (t.msg=m) && decide (t.peer=(s.rol p).name)
def nevT (s:SesD) (i p:Nat) (t:StpD):Bool:=decide (i≠p) && decide (t.kind=1) && decide (t.peer=(s.rol i).name) && !heardB s i p t.msg
def addNew (out:List Sp) (u:Sp):List Sp:=if u∈out then out else out ++ [u]
def nevStep (s:SesD) (i p k:Nat) (out:List Sp):List Sp:=if nevT s i p ((s.rol p).stp k) then addNew out ⟨i,p,((s.rol p).stp k).msg⟩ else out
def nevSteps (s:SesD) (i p:Nat) (out:List Sp):Nat→List Sp
 | 0=>out
 | k + 1=>nevStep s i p k (nevSteps s i p out k)
def nevPeers (s:SesD) (i:Nat) (out:List Sp):Nat→List Sp
 | 0=>out
 | p + 1=>nevSteps s i p (nevPeers s i out p) (s.rol p).steps.length
def nevRoles (s:SesD):Nat→List Sp
 | 0=>[]
 | i + 1=>nevPeers s i (nevRoles s i) s.roles.length
def neverP (s:SesD):List Sp:=nevRoles s s.roles.length
def usedP (s:SesD) (N:List Nd) (i k:Nat):Bool:=N.any fun d=>(movesP s d.st).any fun m=>decide (m.kind=1) && decide (m.role=i) && decide (m.step=k)
section
variable {s:SesD} {x z:PS}
theorem bank_guard {r:RolD} {t:StpD} {vs:List Int} (h:StpOk s r t) (hv:vs.length=r.ctrs.length∧∀ (k:Nat) (c:CtrD),r.ctrs[k]?=some c→0≤vs.getD k 0∧vs.getD k 0≤c.lim) :
  bankOk r.ctrs vs t=(decide (t.ctr=emptyS) || (decide (t.low≤vs.getD (ctrIx r.ctrs t.ctr).toNat 0) && decide (vs.getD (ctrIx r.ctrs t.ctr).toNat 0≤t.high))):=by
 unfold bankOk
 by_cases e:t.ctr=emptyS
 ·rw[if_pos e,decide_eq_true e];rfl
 ·rw[if_neg e,decide_eq_false e,Bool.false_or]
  obtain⟨k,c,h1,h2,h3⟩:=h.ctr e
  rw[h1,decide_eq_true (by omega),Bool.true_and,Int.toNat_natCast,getD_some h2]
  unfold allowsV
  have:=hv.2 k c h2
  rw[Bool.eq_iff_iff]
  simp only[Bool.and_eq_true,decide_eq_true_eq]
  omega
theorem mem_allSp {N:List Nd} {n:Nat} {u:Sp}:(n,u)∈allSp s N↔∃ d,N[n]?=some d∧u∈ofP s d.st:=by
 unfold allSp
 rw[mem_cat]
 constructor
 ·rintro⟨k,hk,h⟩
  obtain⟨u',hu,e⟩:=List.mem_map.1 h
  cases e
  refine⟨N[n],List.getElem?_eq_getElem hk,?_⟩
  rw[List.getD_eq_getElem?_getD,List.getElem?_map,List.getElem?_eq_getElem hk] at hu
  exact hu
 ·rintro⟨d,hd,hu⟩
  refine⟨n,lt_of_some hd,List.mem_map.2 ⟨u,?_,rfl⟩⟩
  rw[List.getD_eq_getElem?_getD,List.getElem?_map,hd]
  exact hu
end
end Go.Proofs.YtohfkhjlnlahdaaGreat
namespace Go.Proofs.YtohfkhjlnlahdaaGreat
open Go.RowKit Go.BigFrame
def Ty (W:World) (g:Nat) (e:TypeId):Prop:=∃ cur,W.heap[g]?=some (.cells cur e (0,0))
theorem Ty.frm {F:List Nat} {W V:World} {g:Nat} {e:TypeId} (h:Ty W g e) (hf:Frm F W V) (hn:g∉F):Ty V g e:=by obtain⟨c,h⟩:=h;exact⟨c,hf.at h hn⟩
theorem own_ty {W:World} {base e size n:Nat} {v:Value} {xs:List Value} (h:W.ownsRow base e size v n xs) {k:Nat} (hk:v.ownBlock=some k):Ty W k e:=ownBlock_type h hk
end Go.Proofs.YtohfkhjlnlahdaaGreat
namespace Go.Proofs.YtohfkhjlnlahdaaGreat
open Go.RowKit Go.BigFrame
def sysT:List TypeId:=[147,248,233,9,116]
structure FgB (W:World) (b:Nat):Prop where
 ty:∀ C t,W.heap[b]?=some (.cells C t (0,0))→t∉sysT
 str:∀ (o:Nat) x,W.cell? ⟨b,o,none⟩≠some (.string x)
 ptr:∀ (o p:Nat),W.cell? ⟨b,o,none⟩=some (.pointer (some ⟨p,0,none⟩))→∀ C t,W.heap[p]?=some (.cells C t (0,0))→t≠248∧t≠233
 slc:∀ (o g o' p n c:Nat),W.cell? ⟨b,o,none⟩=some (.slice (some ⟨g,o',none⟩) n c)→W.cell? ⟨g,o',none⟩=some (.pointer (some ⟨p,0,none⟩))→∀ C t,W.heap[p]?=some (.cells C t (0,0))→t≠233
section
variable {W V:World} {F:List Nat}
theorem FgB.ne (h:∀ b∈F,FgB W b) {k:Nat} {C:Array Value} {t:TypeId} (hk:W.heap[k]?=some (.cells C t (0,0))) (ht:t∈sysT):k∉F:=fun hm=>(h k hm).ty _ _ hk ht
theorem FgB.str' (h:∀ b∈F,FgB W b) {k o:Nat} {x:ByteArray} (hu:W.cell? ⟨k,o,none⟩=some (.string x)):k∉F:=fun hm=>(h k hm).str _ _ hu
theorem FgB.bank (h:∀ b∈F,FgB W b) {k o p:Nat} {C:Array Value} (hu:W.cell? ⟨k,o,none⟩=some (.pointer (some ⟨p,0,none⟩))) (hp:W.heap[p]?=some (.cells C 248 (0,0))):k∉F:=fun hm=>((h k hm).ptr _ _ hu _ _ hp).1 rfl
theorem FgB.chan (h:∀ b∈F,FgB W b) {k o p:Nat} {C:Array Value} (hu:W.cell? ⟨k,o,none⟩=some (.pointer (some ⟨p,0,none⟩))) (hp:W.heap[p]?=some (.cells C 233 (0,0))):k∉F:=fun hm=>((h k hm).ptr _ _ hu _ _ hp).2 rfl
theorem Chn.fg {cb:Nat} {cls cap:Int} {L:List ByteArray} {G:List Nat} (h:Chn W cb cls cap L G) (hb:∀ b∈F,FgB W b) (hf:Frm F W V):Chn V cb cls cap L G:=h.frm hf fun x hx=>by
 obtain⟨sv,g1,g2,g3,rfl⟩:=h
 rcases List.mem_cons.1 hx with rfl | hx
 ·exact FgB.ne hb g1 (by simp[sysT])
 ·rw[Option.mem_toList] at hx
  obtain⟨D,hD⟩:=own_ty g2 hx
  exact FgB.ne hb hD (by simp[sysT])
theorem StR.fg {s:SesD} {yb sb:Nat} {x:PS} (h:StR W s yb sb x) (hs:0 < s.roles.length) (hb:∀ b∈F,FgB W b) (hf:Frm F W V):StR V s yb sb x:=by
 obtain⟨av,wv,h1,h2,h3⟩:=h.out
 refine⟨⟨av,wv,hf.at h1 (FgB.ne hb h1 (by simp[sysT])),h2.frm fun k o y hy=>?_,?_⟩,h.ok⟩
 ·obtain⟨bb,a1,a2,lv,a3,a4⟩:=hy
  have hk:=FgB.bank hb a2 a3
  exact⟨bb,hf.cellAt a1 hk,hf.cellAt a2 hk,lv,hf.at a3 (FgB.ne hb a3 (by simp[sysT])),a4.frm fun k o y hy=>by
   have hk:=FgB.str' hb hy.1
   exact⟨hf.cellAt hy.1 hk,hf.cellAt hy.2.1 hk,hf.cellAt hy.2.2 hk⟩⟩
 ·obtain⟨ao,cap,e,h4⟩:=h3
  refine⟨ao,cap,e,fun i R hR=>?_⟩
  obtain⟨g,o,e2,rv,c1,c2⟩:=h4 i R hR
  have hi:=lt_of_some hR
  have hl:R.length=s.roles.length:=by
   have:=h.ok.wr i (by rw[← h.ok.wl];exact hi)
   rwa [getD_some hR] at this
  have hg:g∉F:=fun hm=>by
   obtain⟨a',c',e4,h5⟩:=c2
   obtain⟨L,hL⟩:∃ L,R[0]?=some L:=⟨_,List.getElem?_eq_getElem (by omega)⟩
   obtain⟨k,o',e5,cb,G,q1,sv,q2,-⟩:=h5 0 L hL
   rw[Nat.zero_mul,Nat.add_zero] at q1
   subst e4
   subst e5
   exact(hb g hm).slc _ _ _ _ _ _ c1 q1 _ _ q2 rfl
  refine⟨g,o,e2,rv,hf.cellAt c1 hg,Arr.frm (fun k o' L hL=>?_) c2⟩
  obtain⟨cb,G,q1,q2⟩:=hL
  have hk:k∉F:=by
   obtain⟨sv,q3,-⟩:=id q2
   exact FgB.chan hb q1 q3
  exact⟨cb,G,hf.cellAt q1 hk,q2.fg hb hf⟩
theorem Rls.fg {v:Value} {l:List RolD} (h:Rls W v l) (hb:∀ b∈F,FgB W b) (hf:Frm F W V):Rls V v l:=Arr.frm (fun k o r hr=>by
 obtain⟨sv,cv,tv,c0,c1,c2,c3,c4⟩:=hr
 have hk:=FgB.str' hb c0
 refine⟨sv,cv,tv,hf.cellAt c0 hk,hf.cellAt c1 hk,hf.cellAt c2 hk,hf.cellAt c3 hk,⟨c4.sts.frm fun g o y hy=>?_,c4.ctrs.frm fun g o y hy=>?_,c4.steps.frm fun g o y hy=>?_,c4.cap⟩⟩
 ·have hk:=FgB.str' hb hy.1
  exact⟨hf.cellAt hy.1 hk,hf.cellAt hy.2.1 hk,hf.cellAt hy.2.2 hk⟩
 ·have hk:=FgB.str' hb hy.1
  exact⟨hf.cellAt hy.1 hk,hf.cellAt hy.2 hk⟩
 ·have hk:=FgB.str' hb hy.c0
  exact⟨hf.cellAt hy.c0 hk,hf.cellAt hy.c1 hk,hf.cellAt hy.c2 hk,hf.cellAt hy.c3 hk,hf.cellAt hy.c4 hk,hf.cellAt hy.c5 hk,hf.cellAt hy.c6 hk,hf.cellAt hy.c7 hk,hf.cellAt hy.c8 hk⟩) h
theorem SesV.fg {v:Value} {s:SesD} (h:SesV W v s) (hb:∀ b∈F,FgB W b) (hf:Frm F W V):SesV V v s:=by
 obtain⟨rv,e,h1⟩:=h
 exact⟨rv,e,h1.fg hb hf⟩
theorem SyR.fg {s:SesD} {yb fb:Nat} (h:SyR W s yb fb) (hb:∀ b∈F,FgB W b) (hf:Frm F W V):SyR V s yb fb:=by
 obtain⟨rv,h1,h2⟩:=h.out
 exact⟨⟨rv,hf.at h1 (FgB.ne hb h1 (by simp[sysT])),h2.fg hb hf⟩,h.ok,h.first.fg (by have:=h.ok.n2;omega) hb hf⟩
end
end Go.Proofs.YtohfkhjlnlahdaaGreat
