/- Part of the proof. -/
import Derived.Shelf.SlGeneric
import Derived.Shelf.SlLaysN
import Derived.Shelf.SlLaysM
import Derived.Ground.SlgnProg
import Derived.Ground.SlgmProg
import Derived.Test.YtkphhjekfimmlaaGreatProg
import Derived.Lib.SlicesS
import Derived.WalkKit
import Derived.WalkSpells
import Derived.Deep.QuietTactic
import Derived.Deep.MidRow
import Derived.Deep.WholeRow
import Derived.BigQuiet
import Derived.StillTail
import Derived.Laws.IdiomStrings
import Derived.Shelf.Bytes.SlSmallAll
import Derived.Deep.Upon
import Derived.ArgAppend
import Derived.Deep.AppendLies
import Derived.Maps.AppendAt
import Derived.Lib.Hide
import Derived.Deep.DeepMust
import Derived.WalkLawsBesides
import Derived.BigRegion
import Derived.Deep.RegionHeld3
import Derived.Deep.RegionLaw
import Derived.Deep.DeepCutAuto
import Derived.Shelf.SlicesG.Clone
import Derived.Shelf.SlicesG.Turned
import Derived.Shelf.SlicesG.Delete
import Derived.Sort.OwnSorted
import Derived.OrdersHeld
import Derived.RangeFuncNested
import Derived.RangeFuncLeaves
import Derived.RangeFuncCalls
import Derived.RangeFuncBound
import Derived.OwnWalkIn
import Derived.TacticsInMore
import Derived.LoopNIn
import Derived.LoopIn
import Derived.Sort.CutIn
import Derived.OrdersIn
import Derived.Test.YtkphhjekfimmlaaGreatH28
import Derived.Test.YtkphhjekfimmlaaGreatH07
import Derived.Test.YtkphhjekfimmlaaGreatH11
import Derived.LoopTactic
import Derived.Lib.SliceRun
import Derived.Test.YtkphhjekfimmlaaGreatH16
import Derived.Lib.Builder
import Derived.Test.YtkphhjekfimmlaaGreatH10
set_option linter.all false
namespace Go.Proofs.YtkphhjekfimmlaaGreat
open Go.RowKit Go.BigFrame
theorem step_append_own_at {P:Program} {ops:Array Oper} {o:Oper} {a:Act} {w:World} {K:Act→World→Prop} {Q:Exit→Act→World→Prop} {E:Prop} (hgd:o.guard=none) (s x:Operand) (t:TypeId)
  (ho:o.op=.call { callee:=.builtin .append,args:=#[s,x],argTypes:=#[t,t] })
  (base:Nat) (e:TypeId) (i:TypeInfo) (z:Value) (size bytes:Nat) (ht:P.underlying t=some (.slice e)) (hi:P.info? e=some i) (hz:i.zero=some z)
  (hsize:i.size=size) (hby:i.bytes=bytes) (hzs:z.cells.size=size) (hsz:0 < size)
  (v:Value) (n:Nat) (xs:List Value) (hs:a.eval s=v) (hown:w.ownsRow base e size v n xs)
  (ad:Addr) (m c:Nat) (news:List Value) (hx:a.eval x=.slice (some ad) m c) (hl:news.length=m * size) (hnews:∀ j u,news[j]?=some u→w.cell? (ad.add j)=some u) (h1:∀ u∈news,u.oneCell'=true)
  (h63:n + m≤maxLen) (hbytes:(n + m) * bytes≤140737488355328) (hbase:base≤w.heap.size)
  (h:∀ v' w',w'.ownsRow base e size v' (n + m) (xs ++ news)→w.grownBy w' v.ownBlock→K (a.put o.dst v') w') :
  if Region.wanted o (yielded ops a.tmps)=true then Oper.wp P o a w K Q else E:=by
 have hw:Region.wanted o (yielded ops a.tmps)=true:=by simp[Region.wanted,hgd]
 rw[if_pos hw]
 obtain⟨v',w',hr,h2,h3,h4,h5⟩:=run_append_own_at (P:=P) w base t o.type e i z size bytes ht hi hz hsize hby hzs hsz v n xs hown ad m c news hl hnews h1 h63 hbytes hbase
 unfold Oper.wp execOp
 simp only[ho,resolve,invoke,builtin,Sem.run_bind,Sem.run_pure,Result.andThen_ok,List.map_toArray,List.map_cons,List.map_nil,hs,hx,hr]
 exact h v' w' h2 h3
end Go.Proofs.YtkphhjekfimmlaaGreat
namespace Go.Proofs.YtkphhjekfimmlaaGreat
open Go.RowKit Go.BigFrame
def marks (ds:List Nat):List Deferred:=ds.map fun D=>{ target:=.collected D,args:=#[] }
def unmark (ds:List Nat) (w:World):World:=ds.foldl (fun w D=>w.putObj D (.deferred none)) w
theorem unmark_frm:∀ (ds:List Nat) (w:World),Frm ds w (unmark ds w)
 | [],w=>Frm.refl _ _
 | D :: ds,w=>((Frm.putObj w D _).mono (by intro x hx;simp at hx;subst hx;exact .inl (by simp))).then (unmark_frm ds _) (fun x hx=>.inl (by simp[hx]))
theorem leaves_many {fn:Func} {tmps:Array Value} {R:Ending→World→Prop}:∀ (ds:List Nat) (w:World),ds.Nodup→(∀ D∈ds,w.heap[D]?=some (.deferred (some []))) →
  (∃ v,(results fn tmps).run Tryz.prog (unmark ds w)=.ok v (unmark ds w)∧R (.returned v) (unmark ds w))→LeavesInM Fence.wide 3 Tryz.prog fn tmps R (marks ds) .returning w
 | [],w,_,_,h=>h
 | D :: ds,w,hn,hd,h=>by
   rw[List.nodup_cons] at hn
   refine⟨by simp,.inl ⟨D,_,rfl,run_takeDeferred (hd D (by simp)),leaves_many ds _ hn.2 (fun E hE=>?_) h⟩⟩
   have hne:E≠D:=fun e=>hn.1 (e ▸ hE)
   exact(World.putObj_heap_other hne).trans (hd E (by simp[hE]))
structure Ms (w:World) (ds:List Nat) (W:World):Prop where
 nd:ds.Nodup
 dl:∀ D∈ds,w.heap.size≤D∧W.heap[D]?=some (.deferred (some []))
theorem Ms.nil (w W:World):Ms w [] W:=⟨List.nodup_nil,fun D h=>by simp at h⟩
structure Kt (T:List TypeId) (W W':World):Prop where
 os:W'.os=W.os
 tape:W'.tape=W.tape
 output:W'.output=W.output
 size:W.heap.size≤W'.heap.size
 at':∀ (k:Nat) (o:Obj),W.heap[k]?=some o→(∀ c t fr,o=.cells c t fr→t∉T)→W'.heap[k]?=some o
section
variable {T:List TypeId} {w V W W' W2:World} {ds:List Nat}
theorem Kt.refl (T:List TypeId) (W:World):Kt T W W:=⟨rfl,rfl,rfl,Nat.le_refl _,fun _ _ h _=>h⟩
theorem Kt.trans (h:Kt T W W') (k:Kt T W' W2):Kt T W W2:=
 ⟨k.os.trans h.os,k.tape.trans h.tape,k.output.trans h.output,Nat.le_trans h.size k.size,fun i o hi ho=>k.at' i o (h.at' i o hi ho) ho⟩
theorem Kt.frm (h:Frm [] W W'):Kt T W W':=⟨h.os,h.tape,h.output,h.size,fun _ _ hk _=>h.at hk (by simp)⟩
theorem Kt.cells (h:Kt T W W') {k:Nat} {c:Array Value} {t:TypeId} {fr:Nat × Nat} (hk:W.heap[k]?=some (.cells c t fr)) (ht:t∉T):W'.heap[k]?=some (.cells c t fr):=
 h.at' k _ hk (fun c' t' fr' e=>by cases e;exact ht)
theorem Kt.mark (h:Kt T W W') {D:Nat} {x:Option (List Deferred)} (hk:W.heap[D]?=some (.deferred x)):W'.heap[D]?=some (.deferred x):=h.at' D _ hk (fun _ _ _ e=>by cases e)
theorem Kt.kb (h:Kt T W W'):KB W W':=fun k o hk ho=>h.at' k o hk (fun c t fr e=>by subst e;cases ho)
theorem Kt.bk (h:Kt T V W) (hb:Bk V.heap.size W W'):Kt T V W':=
 ⟨hb.os.trans h.os,hb.tape.trans h.tape,hb.output.trans h.output,Nat.le_trans h.size hb.size,fun k o hk ho=>hb.block k o (h.at' k o hk ho) (.inl (lt_of_block hk))⟩
theorem Kt.row (h:Kt T W W') {base e size n:Nat} {v:Value} {xs:List Value} (ho:W.ownsRow base e size v n xs) (he:e∉T):W'.ownsRow base e size v n xs:=by
 obtain⟨h1,h2⟩:=ho
 refine⟨h1,?_⟩
 rcases h2 with h2 | ⟨g,cap,cur,hv,hg,hh,r⟩
 ·exact .inl h2
 ·exact .inr ⟨g,cap,cur,hv,hg,h.cells hh he,r⟩
theorem Kt.grown {row:Option Nat} (h:Kt T V W) (hg:W.grownBy W' row) (hr:∀ k,row=some k→∃ c t fr,W.heap[k]?=some (.cells c t fr)∧t∈T):Kt T V W':=
 h.trans ⟨hg.os,hg.tape,hg.output,hg.size,fun k o hk ho=>(hg.block k (lt_of_block hk) (fun e=>by
  obtain⟨c,t,fr,h1,h2⟩:=hr k e.symm
  rw[hk] at h1;cases h1
  exact ho _ _ _ rfl h2)).trans hk⟩
theorem Kt.set (h:Kt T V W) {b o:Nat} {c:Array Value} {t:TypeId} {fr:Nat × Nat} (hb:W.heap[b]?=some (.cells c t fr)) (ht:t∈T) (u:Value):Kt T V (W.setCell ⟨b,o,none⟩ u):=
 h.trans ⟨rfl,rfl,rfl,by simp[World.setCell],fun k x hk hx=>by
  have hne:k≠b:=fun e=>by subst e;rw[hb] at hk;cases hk;exact hx _ _ _ rfl ht
  exact(Below.heap_setCell _ _ _ _ hne).trans hk⟩
theorem Kt.alloc (h:Kt T V W) (o:Obj):Kt T V (W.alloc o):=h.trans (Kt.frm ((Frm.refl [] W).alloc o))
theorem Ms.kt (h:Ms w ds W) (hk:Kt T W W'):Ms w ds W':=⟨h.nd,fun D hD=>⟨(h.dl D hD).1,hk.mark (h.dl D hD).2⟩⟩
theorem Ms.frm (h:Ms w ds W) (hf:Frm [] W W'):Ms w ds W':=h.kt (T:=[]) (Kt.frm hf)
theorem Ms.more {D:Nat} (h:Ms w ds V) (hf:w.heap.size≤V.heap.size) (hk:Kt T V W) (hD:V.heap.size≤D) (hm:W.heap[D]?=some (.deferred (some []))):Ms w (D :: ds) W:=by
 have h1:=h.kt hk
 refine⟨List.nodup_cons.2 ⟨fun hx=>?_,h.nd⟩,fun E hE=>?_⟩
 ·have:=lt_of_block (h.dl D hx).2;omega
 ·rcases List.mem_cons.1 hE with rfl | hE
  ·exact⟨by omega,hm⟩
  ·exact h1.dl E hE
end
theorem new_row (W:World) (A:Array Value) (t:TypeId):∀ (j:Nat) u,A.toList[j]?=some u→(W.alloc (.cells A t)).cell? ((⟨W.heap.size,0,none⟩:Addr).add j)=some u:=fun j u hu=>by
 have e:(⟨W.heap.size,0,none⟩:Addr).add j=⟨W.heap.size,j,none⟩:=by simp[Addr.add];exact fun h=>h.symm
 rw[e,cell_of (heap_alloc_new W (.cells A t)),← Array.getElem?_toList]
 exact hu
structure BO (ty e k:Nat) (w:World) (ob n:Nat) (xs:List Value) (W:World):Prop where
 fr:Frm [] w W
 new:w.heap.size≤ob
 bx:∃ ao cap,W.heap[ob]?=some (.cells #[.slice ao n cap] ty (0,0))∧W.ownsRow w.heap.size e k (.slice ao n cap) n xs
section
variable {ty e k:Nat} {w V W W' w1:World} {ob n m:Nat} {xs news:List Value}
theorem BO.frm (h:BO ty e k w ob n xs W) (hf:Frm [] W W'):BO ty e k w ob n xs W':=by
 obtain⟨ao,cap,h1,h2⟩:=h.bx
 exact⟨h.fr.trans hf,h.new,ao,cap,hf.at h1 (by simp),hf.owns h2 (by simp)⟩
theorem BO.bk {B:Nat} (h:BO ty e k w ob n xs W) (hb:Bk B W W') (hB:w.heap.size≤B):BO ty e k w ob n xs W':=by
 obtain⟨ao,cap,h1,h2⟩:=h.bx
 refine⟨hb.old h.fr hB,h.new,ao,cap,hb.at h1 rfl,h2.1,?_⟩
 rcases h2.2 with h3 | ⟨g,cp,cur,hv,hg,hh,r⟩
 ·exact .inl h3
 ·exact .inr ⟨g,cp,cur,hv,hg,hb.at hh rfl,r⟩
theorem BO.facts {ao:Option Addr} {cap:Nat} {o:Obj} (h1:W.heap[ob]?=some (.cells #[.slice ao n cap] ty (0,0))) (h2:W.ownsRow w.heap.size e k (.slice ao n cap) n xs) (hne:ty≠e) (hg:(W.alloc o).grownBy w1 (Value.slice ao n cap).ownBlock) :
  w1.heap[ob]?=some (.cells #[.slice ao n cap] ty (0,0)):=
 grown_at hg (alloc_at h1) (fun e'=>by
  obtain⟨c,hc⟩:=ownBlock_type h2 e'
  rw[h1] at hc;cases hc;exact hne rfl)
theorem BO.step {ao:Option Addr} {cap:Nat} {o:Obj} {v':Value} (h:BO ty e k w ob n xs W) (h1:W.heap[ob]?=some (.cells #[.slice ao n cap] ty (0,0))) (h2:W.ownsRow w.heap.size e k (.slice ao n cap) n xs) (hne:ty≠e)
  (hg:(W.alloc o).grownBy w1 (Value.slice ao n cap).ownBlock) (ho:w1.ownsRow w.heap.size e k v' (n + m) (xs ++ news)) :
  BO ty e k w ob (n + m) (xs ++ news) (w1.setCell ⟨ob,0,none⟩ v')∧Kt [ty,e] W (w1.setCell ⟨ob,0,none⟩ v'):=by
 have hb:=BO.facts h1 h2 hne hg
 have hge:∀ q,(Value.slice ao n cap).ownBlock=some q→w.heap.size≤q:=fun q hq=>ownBlock_ge h2 hq
 have k1:Kt [ty,e] W w1:=((Kt.refl _ W).alloc o).grown hg (fun q hq=>by
  obtain⟨c,hc⟩:=ownBlock_type h2 hq
  exact⟨c,e,(0,0),alloc_at hc,by simp⟩)
 have f1:Frm [] w w1:=(h.fr.alloc o).grown hg (fun q hq=>.inr (hge q hq))
 obtain⟨ao',cp',rfl⟩:=own_shape ho
 refine⟨⟨f1.setCell _ (.inr h.new) _,h.new,ao',cp',(block_setCell hb 0 _).trans rfl,?_⟩,k1.set hb (by simp) _⟩
 refine ownsRow_setCell_other ho (fun e'=>?_) _
 obtain⟨c,hc⟩:=ownBlock_type ho e'
 rw[hb] at hc;cases hc;exact hne rfl
theorem BO.made (w:World) (ty e k:Nat) {W:World} {ob:Nat} (hf:Frm [] w W) (hn:w.heap.size≤ob) (h:W.heap[ob]?=some (.cells #[.slice none 0 0] ty (0,0))):BO ty e k w ob 0 [] W:=
 ⟨hf,hn,none,0,h,World.ownsRow_nil _ _ _ _⟩
end
end Go.Proofs.YtkphhjekfimmlaaGreat
namespace Go.Proofs.YtkphhjekfimmlaaGreat
open Go.RowKit Go.BigFrame
structure GO (ty e k:Nat) (w:World) (ob o:Nat) (A:Array Value) (n:Nat) (xs:List Value) (W:World):Prop where
 fr:Frm [] w W
 new:w.heap.size≤ob
 bx:∃ ao cap,W.heap[ob]?=some (.cells (A.setIfInBounds o (.slice ao n cap)) ty (0,0))∧W.ownsRow w.heap.size e k (.slice ao n cap) n xs
section
variable {ty e k:Nat} {w V W W' w0 w1:World} {ob o n m:Nat} {A:Array Value} {xs news:List Value}
theorem GO.frm (h:GO ty e k w ob o A n xs W) (hf:Frm [] W W'):GO ty e k w ob o A n xs W':=by
 obtain⟨ao,cap,h1,h2⟩:=h.bx
 exact⟨h.fr.trans hf,h.new,ao,cap,hf.at h1 (by simp),hf.owns h2 (by simp)⟩
theorem GO.facts {ao:Option Addr} {cap:Nat} {B:Array Value} (h1:W.heap[ob]?=some (.cells B ty (0,0))) (h2:W.ownsRow w.heap.size e k (.slice ao n cap) n xs) (hne:ty≠e) (hf:Frm [] W w0) (hg:w0.grownBy w1 (Value.slice ao n cap).ownBlock) :
  w1.heap[ob]?=some (.cells B ty (0,0)):=
 grown_at hg (hf.at h1 (by simp)) (fun e'=>by
  obtain⟨c,hc⟩:=ownBlock_type h2 e'
  rw[h1] at hc;cases hc;exact hne rfl)
theorem GO.step {ao:Option Addr} {cap:Nat} {v':Value} (h:GO ty e k w ob o A n xs W) (h1:W.heap[ob]?=some (.cells (A.setIfInBounds o (.slice ao n cap)) ty (0,0))) (h2:W.ownsRow w.heap.size e k (.slice ao n cap) n xs) (hne:ty≠e)
  (hf:Frm [] W w0) (hg:w0.grownBy w1 (Value.slice ao n cap).ownBlock) (ho:w1.ownsRow w.heap.size e k v' (n + m) (xs ++ news)) :
  GO ty e k w ob o A (n + m) (xs ++ news) (w1.setCell ⟨ob,o,none⟩ v')∧Kt [ty,e] W (w1.setCell ⟨ob,o,none⟩ v'):=by
 have hb:=GO.facts h1 h2 hne hf hg
 have hge:∀ q,(Value.slice ao n cap).ownBlock=some q→w.heap.size≤q:=fun q hq=>ownBlock_ge h2 hq
 have k1:Kt [ty,e] W w1:=(Kt.frm hf).grown hg (fun q hq=>by
  obtain⟨c,hc⟩:=ownBlock_type h2 hq
  exact⟨c,e,(0,0),hf.at hc (by simp),by simp⟩)
 have f1:Frm [] w w1:=(h.fr.trans hf).grown hg (fun q hq=>.inr (hge q hq))
 obtain⟨ao',cp',rfl⟩:=own_shape ho
 refine⟨⟨f1.setCell _ (.inr h.new) _,h.new,ao',cp',(block_setCell hb o _).trans (by rw[Array.setIfInBounds_setIfInBounds]),?_⟩,k1.set hb (by simp) _⟩
 refine ownsRow_setCell_other ho (fun e'=>?_) _
 obtain⟨c,hc⟩:=ownBlock_type ho e'
 rw[hb] at hc;cases hc;exact hne rfl
theorem GO.made {B:Array Value} (hf:Frm [] w W) (hn:w.heap.size≤ob) (h:W.heap[ob]?=some (.cells B ty (0,0))) (hB:B=A.setIfInBounds o (.slice none 0 0)):GO ty e k w ob o A 0 [] W:=
 ⟨hf,hn,none,0,by rw[h,hB],World.ownsRow_nil _ _ _ _⟩
def cnC (l:List (CtrD × Int)):List Value:=l.flatMap fun c=>[.string c.1.name,.int .i64 c.1.lim,.int .i64 c.2]
theorem cnC_append (A B:List (CtrD × Int)):cnC (A ++ B)=cnC A ++ cnC B:=by unfold cnC;rw[List.flatMap_append]
theorem cnC_at:∀ {L:List (CtrD × Int)} {i:Nat} {c:CtrD × Int},L[i]?=some c→(cnC L)[i * 3]?=some (.string c.1.name)∧(cnC L)[i * 3 + 1]?=some (.int .i64 c.1.lim)∧(cnC L)[i * 3 + 2]?=some (.int .i64 c.2)
 | [],i,c,h=>by simp at h
 | a :: L,0,c,h=>by
   simp at h;subst h
   exact⟨rfl,rfl,rfl⟩
 | a :: L,i + 1,c,h=>by
   have h':L[i]?=some c:=by simpa using h
   obtain⟨h1,h2,h3⟩:=cnC_at h'
   have e:cnC (a :: L)=[.string a.1.name,.int .i64 a.1.lim,.int .i64 a.2] ++ cnC L:=rfl
   rw[e]
   refine⟨?_,?_,?_⟩
   ·rw[List.getElem?_append_right (by simp;omega),show (i + 1) * 3 - [Value.string a.1.name,.int .i64 a.1.lim,.int .i64 a.2].length=i * 3 by simp;omega];exact h1
   ·rw[List.getElem?_append_right (by simp;omega),show (i + 1) * 3 + 1 - [Value.string a.1.name,.int .i64 a.1.lim,.int .i64 a.2].length=i * 3 + 1 by simp;omega];exact h2
   ·rw[List.getElem?_append_right (by simp;omega),show (i + 1) * 3 + 2 - [Value.string a.1.name,.int .i64 a.1.lim,.int .i64 a.2].length=i * 3 + 2 by simp;omega];exact h3
theorem cn_arr {base:Nat} {v:Value} {L:List (CtrD × Int)} (h:W.ownsRow base 234 3 v L.length (cnC L)):Arr 3 CnAt W v L:=by
 rcases h.2 with ⟨rfl,hn⟩ | ⟨g,c,cur,rfl,-,hh,-,-,-,ht⟩
 ·obtain rfl:L=[]:=List.length_eq_zero_iff.1 hn
  exact Arr.nil _ _ _
 ·refine⟨_,_,rfl,fun i x hx=>⟨g,0,rfl,?_⟩⟩
  obtain⟨a0,a1,a2⟩:=cnC_at hx
  have hl:=lt_of_some hx
  have hc:∀ j,j < L.length * 3→W.cell? ⟨g,j,none⟩=(cnC L)[j]?:=fun j hj=>by
   rw[cell_of hh,← ht,List.getElem?_take_of_lt hj,Array.getElem?_toList]
  rw[Nat.zero_add]
  exact⟨(hc _ (by omega)).trans a0,(hc _ (by omega)).trans a1,(hc _ (by omega)).trans a2⟩
end
end Go.Proofs.YtkphhjekfimmlaaGreat
namespace Go.Proofs.YtkphhjekfimmlaaGreat
open Go.RowKit Go.BigFrame
structure CtR (B:Nat) (lv:Value) (l:List (CtrD × Int)) (W:World):Prop where
 b:W.heap[B]?=some (.cells #[lv] 230 (0,0))
 a:Arr 3 CnAt W lv l
 t:∀ ao n c,lv=.slice ao n c→n≠0→∃ g cur,ao=some ⟨g,0,none⟩∧W.heap[g]?=some (.cells cur 234 (0,0))
set_option maxHeartbeats 2000000 in
set_option maxRecDepth 100000 in
theorem bCounters_any (bb:Nat) (l:List (CtrD × Int)) (w:World) (h:Bnk w bb l) (hl:l.length≤1000) :
  Calls Tryz.prog 70 #[.pointer (some ⟨bb,0,none⟩)] w (RetV fun v w'=>∃ B lv,v=.func (.func 128) #[] #[.pointer (some ⟨B,0,none⟩)]∧CtR B lv l w'∧Frm [] w w'∧w.heap.size≤B):=by
 have HF0:Hid (Frm [] w (w.alloc (.cells #[.slice none 0 0] 230))):=Lib.hid ((Frm.refl [] w).alloc _)
 have CN:=Lib.hid (bNone_any bb l _ (h.frm HF0.out))
 obtain⟨lv,h1,h2⟩:=h
 have CC:=Lib.hid (clCnt_any lv l _ (h2.frm (fun _ _ _ h=>h.frm HF0.out)) (by omega))
 have c1:=cell_of h1 1
 have hlt:=lt_of_block h1
 have b0:=heap_alloc_new w (.cells #[.slice none 0 0] 230)
 have B0:=Lib.hid b0
 clear h1 h2 hl b0
 go_enter Tryz.func70,Tryz.ntmps70
 go_wp2_with (first
  | (go_at_call 124;go_must (refine CN.out.mono ?_;rintro e w' ⟨rfl,rfl⟩))
  | (go_at_call 125;go_must (refine CC.out.mono ?_;rintro e w1 ⟨v,rfl,hr⟩;obtain⟨ao,cq,rfl⟩:=hr.arr.shape;have hb:=hr.frm.at B0.out (by simp);have cb:=cell_of hb 0;have fb:=free_of hb 0;have HB:=Lib.hid hb;have HR:=Lib.hid hr;clear hr hb)))
 go_ret
 have hb:=block_setCell HB.out 0 (.slice ao l.length cq)
 have hf:Frm [w.heap.size] w1 (w1.setCell ⟨w.heap.size,0,none⟩ (.slice ao l.length cq)):=(Frm.refl _ _).setCell _ (.inl (by simp)) _
 refine⟨_,rfl,_,_,rfl,⟨hb,?_,?_⟩,(HF0.out.trans HR.out.frm).then hf (by intro x hx;simp at hx;right;omega),Nat.le_refl _⟩
 ·rcases HR.out.own with rfl | ⟨news,ho⟩
  ·exact Arr.nil _ _ _
  by_cases hn:l.length=0
  ·rw[List.length_eq_zero_iff.1 hn];exact Arr.nil _ _ _
  ·obtain⟨g,cap,cur,e,hg,hc⟩:=own_block ho hn
   cases e
   obtain⟨ao,c,e,hx⟩:=HR.out.arr
   refine⟨ao,c,e,fun i x hi=>?_⟩
   obtain⟨b,o,e2,a0,a1,a2⟩:=hx i x hi
   rw[e2] at e
   cases e
   have hng:g∉[w.heap.size]:=by simp at hg ⊢;omega
   exact⟨g,0,e2,hf.cellAt a0 hng,hf.cellAt a1 hng,hf.cellAt a2 hng⟩
 ·intro ao n c e hn
  cases e
  rcases HR.out.own with rfl | ⟨news,ho⟩
  ·exact absurd rfl hn
  obtain⟨g,cap,cur,e,hg,hc⟩:=own_block ho hn
  cases e
  exact⟨g,cur,rfl,hf.at hc (by simp at hg ⊢;omega)⟩
theorem take_snoc' {α:Type} {L:List α} {k:Nat} {x:α} (h:L[k]?=some x):L.take (k + 1)=L.take k ++ [x]∧L=L.take k ++ x :: L.drop (k + 1):=by
 have hk:=lt_of_some h
 rw[List.getElem?_eq_getElem hk] at h
 cases h
 exact⟨List.take_succ_eq_append_getElem hk,by simp⟩
set_option maxHeartbeats 2000000 in
set_option maxRecDepth 100000 in
theorem bc_iter (B:Nat) (lv:Value) (L:List (CtrD × Int)) (hL:L.length≤1000000) :
  Iter Fence.wide 2 Tryz.prog 128 #[.pointer (some ⟨B,0,none⟩)] (fun e:CtrD × Int=>#[.string e.1.name,.int .i64 e.2]) (CtR B lv L) L:=by
 intro l J Jx sJ sJx hJR hY W h0
 have HJ:=Lib.hid sJ;have HJR:=Lib.hid hJR;have HY:=Lib.hid hY
 clear sJ sJx hJR hY
 have hr:=HJR.out _ _ h0
 have c0:=cell_of hr.b 0
 obtain⟨ao,cap,rfl⟩:=hr.a.shape
 have H0:=Lib.hid h0
 clear hr h0
 refine callsIn_of_wp Tryz.func128 rfl trivial ?_ rfl
 simp only[Tryz.ntmps128,List.size_toArray,List.length_cons,List.length_nil,Nat.reduceAdd,Nat.reduceSub,Array.replicate_succ,Array.replicate_zero,List.push_toArray,List.append_toArray,List.nil_append,List.cons_append]
 gi_wp2
 gi_loopw [7] (fun s wr=>∃ k:Nat,s=.int .i64 k∧k≤L.length∧J (L.take k) wr) (fun s _=>L.length - (intOf s).toNat)
 case atStart=>exact⟨0,rfl,Nat.zero_le _,H0.out⟩
 case round =>
  obtain⟨k,rfl,hk,hj⟩:=hrel
  have HJ1:=Lib.hid hj
  clear hj H0 c0
  by_cases hlt:k < L.length
  ·obtain⟨x,hx⟩:∃ x,L[k]?=some x:=⟨_,List.getElem?_eq_getElem hlt⟩
   have hr:=HJR.out _ _ HJ1.out
   obtain⟨b,o,c',e,g0,g1,g2⟩:=hr.a.at hx
   cases e
   have HX:=Lib.hid hx
   clear hr hx
   have hJ':J (L.take k) (wr.alloc (.cells #[.string x.1.name,.int .i64 x.1.lim,.int .i64 x.2] 234)):=HJ.out _ _ _ HJ1.out ((Frm.refl _ _).alloc _)
   obtain⟨fn,tmps,assign,body,hy,hR⟩:=HY.out (L.take k) x (L.drop (k + 1)) _ (take_snoc' HX.out).2 hJ'
   have HRR:=Lib.hid hR
   clear hJ' hR
   have hlt':(k:Int) < L.length:=by omega
   gi_wp2
   refine HRR.out.mono ?_
   rintro e W3 (⟨rfl,hJ3⟩ | ⟨rfl,hJx3⟩)
   ·have HJ3:=Lib.hid hJ3
    clear hJ3
    gi_wp2
    go_roundw
    case rel=>exact⟨k + 1,by go_num,hlt,by rw[(take_snoc' HX.out).1];exact HJ3.out⟩
    case measure=>simp[intOf];omega
   ·have HJ3:=Lib.hid hJx3
    clear hJx3
    gi_wp2
    refine bodyPost_ret (results_none rfl _ _ _) rfl ?_
    exact⟨⟨_,rfl⟩,.inr ⟨_,_,_,(take_snoc' HX.out).2,HJ3.out⟩⟩
  ·obtain rfl:k=L.length:=by omega
   have hge:¬ (L.length:Int) < L.length:=by omega
   gi_wp2
   go_end0
   exact⟨⟨_,rfl⟩,.inl (by have:=HJ1.out;rwa [List.take_length] at this)⟩
end Go.Proofs.YtkphhjekfimmlaaGreat
namespace Go.Proofs.YtkphhjekfimmlaaGreat
open Go.RowKit Go.BigFrame
section
variable {w w':World} {s:SesD} {yb fb sb:Nat} {x:PS}
theorem actsP_at {i:Nat} (hi:i < s.roles.length):(actsP s x)[i]?=some (((x.at i:Nat):Int),x.ctr s i):=by
 unfold actsP
 rw[List.getElem?_map,List.getElem?_range hi];rfl
theorem actsP_len:(actsP s x).length=s.roles.length:=by unfold actsP;simp
structure RlF (rb ro:Nat) (sv cv tv:Value) (r:RolD) (W:World):Prop where
 c0:W.cell? ⟨rb,ro,none⟩=some (.string r.name)
 c1:W.cell? ⟨rb,ro + 1,none⟩=some sv
 c2:W.cell? ⟨rb,ro + 2,none⟩=some cv
 c3:W.cell? ⟨rb,ro + 3,none⟩=some tv
 r3:Rl3 W sv cv tv r
theorem SyR.rol (h:SyR w s yb fb) {i:Nat} (hi:i < s.roles.length):∃ rb ro cap sv cv tv,w.cell? ⟨yb,1,none⟩=some (.slice (some ⟨rb,ro,none⟩) s.roles.length cap)∧RlF rb (ro + i * 4) sv cv tv (s.rol i) w:=by
 obtain⟨rv,h1,h2⟩:=h.out
 obtain⟨rb,ro,cap,rfl,sv,cv,tv,c0,c1,c2,c3,h3⟩:=h2.at (SesD.rol_some hi)
 exact⟨rb,ro,cap,sv,cv,tv,cell_of h1 1,c0,c1,c2,c3,h3⟩
structure AcF (ab ao bb:Nat) (p:Nat) (l:List (CtrD × Int)) (W:World):Prop where
 c0:W.cell? ⟨ab,ao,none⟩=some (.int .i64 (p:Int))
 c1:W.cell? ⟨ab,ao + 1,none⟩=some (.pointer (some ⟨bb,0,none⟩))
 bnk:Bnk W bb l
theorem AcF.frm {ab ao bb p:Nat} {l:List (CtrD × Int)} {W W':World} (h:AcF ab ao bb p l W) (hf:Frm [] W W'):AcF ab ao bb p l W':=⟨hf.keep h.c0,hf.keep h.c1,h.bnk.frm hf⟩
theorem StR.act (h:StR w s yb sb x) {i:Nat} (hi:i < s.roles.length):∃ ab ao cap bb,w.cell? ⟨sb,1,none⟩=some (.slice (some ⟨ab,ao,none⟩) s.roles.length cap)∧AcF ab (ao + i * 2) bb (x.at i) (x.ctr s i) w:=by
 obtain⟨av,wv,h1,h2,-⟩:=h.out
 obtain⟨ab,ao,cap,rfl,bb,c0,c1,h3⟩:=h2.at (actsP_at hi)
 rw[actsP_len] at h1
 exact⟨ab,ao,cap,bb,cell_of h1 1,c0,c1,h3⟩
end
set_option maxRecDepth 100000 in
theorem pNone_any (s:SesD) (yb fb:Nat) (w:World) (h:SyR w s yb fb):Calls Tryz.prog 63 #[.pointer (some ⟨yb,0,none⟩)] w (Ret (.bool false) (w=·)):=by
 obtain⟨rv,h1,-⟩:=h.out
 have c4:=cell_of h1 4
 clear h1 h
 go_enter Tryz.func63,Tryz.ntmps63
 go_wp2
 go_ret
 exact⟨rfl,rfl⟩
set_option maxRecDepth 100000 in
theorem pSnone_any (s:SesD) (yb sb:Nat) (x:PS) (w:World) (h:StR w s yb sb x):Calls Tryz.prog 69 #[.pointer (some ⟨sb,0,none⟩)] w (Ret (.bool false) (w=·)):=by
 obtain⟨av,wv,h1,-⟩:=h.out
 have c0:=cell_of h1 0
 clear h1 h
 go_enter Tryz.func69,Tryz.ntmps69
 go_wp2
 go_ret
 exact⟨rfl,rfl⟩
theorem sys_same (yb:Nat) (W:World):(binOp .neq 29 (.pointer (some ⟨yb,0,none⟩)) (.pointer (some ⟨yb,0,none⟩))).run Tryz.prog W=.ok (.bool false) W:=by
 have h:(Tryz.prog.info? 114).isSome=true:=by kernel_rfl
 obtain⟨j,hj⟩:=Option.isSome_iff_exists.1 h
 exact Lib.run_neq_ptr_same W _ Tryz.underlying29 hj
set_option maxRecDepth 100000 in
theorem pCheck_any (s:SesD) (yb fb sb:Nat) (x:PS) (w:World) (h:SyR w s yb fb) (hx:StR w s yb sb x):Calls Tryz.prog 56 #[.pointer (some ⟨yb,0,none⟩),.pointer (some ⟨sb,0,none⟩)] w (Ret (.int .i64 0) (w=·)):=by
 have C1:=Lib.hid (pNone_any s yb fb w h)
 have C2:=Lib.hid (pSnone_any s yb sb x w hx)
 have hq:=sys_same yb
 obtain⟨av,wv,h1,-⟩:=hx.out
 have c0:=cell_of h1 0
 clear h1 h hx
 go_enter Tryz.func56,Tryz.ntmps56
 go_wp2_with (first
  | (go_at_call 63;go_must (refine C1.out.mono ?_;rintro e w' ⟨rfl,rfl⟩))
  | (go_at_call 69;go_must (refine C2.out.mono ?_;rintro e w' ⟨rfl,rfl⟩)))
 go_ret
 exact⟨rfl,rfl⟩
set_option maxRecDepth 100000 in
theorem pFirst_any (s:SesD) (yb fb:Nat) (w:World) (h:SyR w s yb fb):Calls Tryz.prog 20 #[.pointer (some ⟨yb,0,none⟩)] w (Ret (.pointer (some ⟨fb,0,none⟩)) (w=·)):=by
 have C1:=Lib.hid (pNone_any s yb fb w h)
 obtain⟨rv,h1,-⟩:=h.out
 have c4:=cell_of h1 4
 clear h1 h
 go_enter Tryz.func20,Tryz.ntmps20
 go_wp2_with (first
  | (go_at_call 63;go_must (refine C1.out.mono ?_;rintro e w' ⟨rfl,rfl⟩)))
 go_ret
 exact⟨rfl,rfl⟩
set_option maxHeartbeats 4000000 in
set_option maxRecDepth 100000 in
theorem pPossible_any (s:SesD) (yb fb sb i k:Nat) (x:PS) (w:World) (h:SyR w s yb fb) (hx:StR w s yb sb x) (hi:i < s.roles.length) (hk:k < (s.rol i).steps.length) :
  Calls Tryz.prog 108 #[.pointer (some ⟨yb,0,none⟩),.pointer (some ⟨sb,0,none⟩),.int .i64 i,.int .i64 k] w (Ret (.bool (possB s x i k)) (Frm [] w)):=by
 have hso:=h.ok
 have hxo:=hx.ok
 have CA:∀ bb,Hid (∀ V,Bnk V bb (x.ctr s i)→Calls Tryz.prog 138 #[.pointer (some ⟨bb,0,none⟩),stpV ((s.rol i).stp k)] V (Ret (.tuple #[.bool (bankOk (s.rol i).ctrs (x.bank i) ((s.rol i).stp k)),.int .i64 0]) (Frm [] V))):=fun bb=>Lib.hid fun V hV=>by
  rw[← okB_bank hso hxo hi hk]
  exact bAllowed_any bb _ _ V hV (ctr_ok hso hxo hi) (ctr_has hso hxo hi hk)
 obtain⟨rb,ro,rc,sv,cv,tv,y1,hr⟩:=h.rol hi
 obtain⟨ab,ao,ac,bb,x1,ha⟩:=hx.act hi
 have hst:(s.rol i).sts[x.at i]?=some ((s.rol i).sts.getD (x.at i) dS):=some_getD (hxo.pb i hi)
 have htt:=RolD.stp_some hk
 have CA:=CA bb
 have HP:Hid (possB s x i k=(bankOk (s.rol i).ctrs (x.bank i) ((s.rol i).stp k) && decide (((s.rol i).sts.getD (x.at i) dS).name=((s.rol i).stp k).frm))):=Lib.hid rfl
 rw[HP.out]
 have hni:(i:Int) < (s.roles.length:Int):=by omega
 have hns:((x.at i:Nat):Int) < ((s.rol i).sts.length:Int):=by have:=hxo.pb i hi;omega
 have hnk:(k:Int) < ((s.rol i).steps.length:Int):=by omega
 obtain⟨b,hb⟩:∃ b,bankOk (s.rol i).ctrs (x.bank i) ((s.rol i).stp k)=b:=⟨_,rfl⟩
 rw[hb] at CA ⊢
 obtain⟨p,hp⟩:∃ p,x.at i=p:=⟨_,rfl⟩
 obtain⟨st,hst2⟩:∃ st,(s.rol i).sts.getD (x.at i) dS=st:=⟨_,rfl⟩
 obtain⟨t,ht2⟩:∃ t,(s.rol i).stp k=t:=⟨_,rfl⟩
 rw[hst2] at hst ⊢
 rw[ht2] at htt CA ⊢
 rw[hp] at ha hst hns
 obtain⟨r,hrr⟩:∃ r,s.rol i=r:=⟨_,rfl⟩
 obtain⟨l,hll⟩:∃ l,x.ctr s i=l:=⟨_,rfl⟩
 rw[hrr] at hr hst htt hns hnk
 rw[hll] at ha CA
 obtain⟨n,hn⟩:∃ n,s.roles.length=n:=⟨_,rfl⟩
 rw[hn] at y1 x1 hni
 obtain⟨aS,cs,rfl⟩:=hr.r3.sts.shape
 obtain⟨a2,c2,rfl⟩:=hr.r3.ctrs.shape
 obtain⟨at',ct,rfl⟩:=hr.r3.steps.shape
 obtain⟨b1,o1,rfl,g0,-,-⟩:=hr.r3.sts.get hst
 obtain⟨b2,o2,rfl,k0,k1,k2,k3,k4,k5,k6,k7,k8⟩:=hr.r3.steps.get htt
 obtain⟨ns,hns2⟩:∃ ns,r.sts.length=ns:=⟨_,rfl⟩
 obtain⟨nc,hnc2⟩:∃ nc,r.ctrs.length=nc:=⟨_,rfl⟩
 obtain⟨nt,hnt2⟩:∃ nt,r.steps.length=nt:=⟨_,rfl⟩
 obtain⟨d0,d1,d2,d3,-⟩:=hr
 obtain⟨e0,e1,e2⟩:=ha
 rw[hns2] at d1 hns
 rw[hnc2] at d2
 rw[hnt2] at d3 hnk
 have hl1:=cell_lt d0
 have hl2:=cell_lt e0
 have hl3:=cell_lt y1
 have hl4:=cell_lt x1
 have HB:=Lib.hid e2
 have HU:Hid (∀ V,Frm [] w V→V.cell? ⟨b1,o1 + p * 3,none⟩=some (.string st.name)∧SpAt V b2 (o2 + k * 9) t):=Lib.hid fun V hV=>⟨hV.keep g0,hV.keep k0,hV.keep k1,hV.keep k2,hV.keep k3,hV.keep k4,hV.keep k5,hV.keep k6,hV.keep k7,hV.keep k8⟩
 clear HP hp hst2 ht2 hrr hll hn hns2 hnc2 hnt2 hst htt g0 k0 k1 k2 k3 k4 k5 k6 k7 k8 h hx hso hxo hi hk hb e2
 go_enter Tryz.func108,Tryz.ntmps108
 go_upto_region 1 with fail
 go_cut [9,10] (fun s9 s10 wc=>∃ q1 q2,s9=.pointer (some ⟨q1,0,none⟩)∧s10=.pointer (some ⟨q2,0,none⟩)∧wc.heap[q1]?=some (.cells #[.string r.name,.slice (some ⟨b1,o1,none⟩) ns cs,.slice a2 nc c2,.slice (some ⟨b2,o2,none⟩) nt ct] 53 (0,0))∧wc.heap[q2]?=some (.cells #[.int .i64 p,.pointer (some ⟨bb,0,none⟩)] 145 (0,0))∧Frm [] w wc)
 case first =>
  go_region
  all_goals
   go_wp2
   go_meet
   refine⟨_,_,rfl,rfl,?_,?_,?_⟩
   ·first
    | exact heap_alloc_new _ _
    | exact alloc_at (heap_alloc_new _ _)
    | exact alloc_top (by simp)
   ·first
    | exact heap_alloc_new _ _
    | exact alloc_at (heap_alloc_new _ _)
    | exact alloc_top (by simp)
   ·first
    | exact(((Frm.refl [] w).alloc _).alloc _).drew
    | exact(((Frm.refl [] w).drew).alloc _).alloc _
    | exact((Frm.refl [] w).alloc _).drew.alloc _
    | exact((Frm.refl [] w).alloc _).alloc _
 case rest =>
  obtain⟨q1,q2,rfl,rfl,hq1,hq2,hf⟩:=hcut
  have HF:=Lib.hid hf
  have HW:Hid (∀ V,Frm [] wc V→V.heap[q1]?=some (.cells #[.string r.name,.slice (some ⟨b1,o1,none⟩) ns cs,.slice a2 nc c2,.slice (some ⟨b2,o2,none⟩) nt ct] 53 (0,0))∧V.heap[q2]?=some (.cells #[.int .i64 p,.pointer (some ⟨bb,0,none⟩)] 145 (0,0))):=Lib.hid fun V hV=>⟨hV.at hq1 (by simp),hV.at hq2 (by simp)⟩
  clear d0 d1 d2 d3 e0 e1 hl1 hl2 hl3 hl4 x1 y1 hq1 hq2 hf
  go_upto_region 2 with fail
  refine wp_region_cq (by kernel_rfl) (by kernel_rfl) ?_
  repeat (first
   | go_big_quiet_skip
   | (refine wpQuiet_want (by rfl) (fun K hK=>?_)
      first
       | (refine quiet_move _ (by rfl) (hK _ ?_))
       | (refine quiet_assign _ (by rfl) (hK _ ?_))
       | (refine cq_call (.tuple #[.bool b,.int .i64 0]) 138 #[.pointer (some ⟨bb,0,none⟩),stpV t] (fun w' hC=>?_) (fun w' hC=>Ret.cq (CA.out w' (HB.out.frm (HF.out.trans hC))) (fun w'' h=>hC.trans h)) (hK _ ?_)
          ·go_simp)
       | (apply Exists.intro
          refine⟨fun w' hC=>?_,hK _ ?_⟩
          ·(unfold Oper.quietAt
            obtain⟨z1,z2⟩:=HW.out w' hC;obtain⟨-,u0,u1,u2,u3,u4,u5,u6,u7,u8⟩:=HU.out w' (HF.out.trans hC);have v3:=cell_of z1 3;have v1:=cell_of z2 1;clear z1 z2
            clear hC
            go_simp
            try exact⟨rfl,rfl⟩
            try rfl))
      clear hK K
      try simp only[nrm,Act.eval,nrq]))
  refine wpQuiet_nil ?_
  intro w2 hf2
  have HF2:=Lib.hid hf2
  cases b with
  | false =>
    clear hf2
    go_upto_region 3 with fail
    refine wp_region_cq (by kernel_rfl) (by kernel_rfl) ?_
    repeat (first
     | go_big_quiet_skip
     | (refine wpQuiet_want (by rfl) (fun K hK=>?_)
        first
         | (refine quiet_move _ (by rfl) (hK _ ?_))
         | (refine quiet_assign _ (by rfl) (hK _ ?_))
         | (apply Exists.intro
            refine⟨fun w' hC=>?_,hK _ ?_⟩
            ·(unfold Oper.quietAt
              obtain⟨z1,z2⟩:=HW.out w' (HF2.out.trans hC)
              clear hC
              go_simp
              try exact⟨rfl,rfl⟩
              try rfl))
        clear hK K
        try simp only[nrm,Act.eval,nrq]))
    refine wpQuiet_nil ?_
    intro w3 hf3
    go_wp2
    go_ret
    exact⟨rfl,(HF.out.trans HF2.out).trans hf3⟩
  | true =>
    clear hf2
    have hsb:(st.name.toList == t.frm.toList)=decide (st.name=t.frm):=str_beq _ _
    go_upto_region 3 with fail
    refine wp_region_cq (by kernel_rfl) (by kernel_rfl) ?_
    repeat (first
     | go_big_quiet_skip
     | (refine wpQuiet_want (by rfl) (fun K hK=>?_)
        first
         | (refine quiet_move _ (by rfl) (hK _ ?_))
         | (refine quiet_assign _ (by rfl) (hK _ ?_))
         | (apply Exists.intro
            refine⟨fun w' hC=>?_,hK _ ?_⟩
            ·(unfold Oper.quietAt
              obtain⟨z1,z2⟩:=HW.out w' (HF2.out.trans hC);obtain⟨v0,u0,-⟩:=HU.out w' ((HF.out.trans HF2.out).trans hC);have v3:=cell_of z1 3;have v1:=cell_of z1 1;have v5:=cell_of z2 0;clear z1 z2
              clear hC
              go_simp
              try exact⟨rfl,rfl⟩
              try rfl))
        clear hK K
        try simp only[nrm,Act.eval,nrq]))
    refine wpQuiet_nil ?_
    intro w3 hf3
    go_wp2
    go_ret
    exact⟨by simp,(HF.out.trans HF2.out).trans hf3⟩
end Go.Proofs.YtkphhjekfimmlaaGreat
namespace Go.Proofs.YtkphhjekfimmlaaGreat
open Go.RowKit Go.BigFrame
section
variable {w w':World} {s:SesD} {yb fb sb:Nat} {x:PS}
structure WyF (gb go' rb ro cb:Nat) (cls cap:Int) (L:List ByteArray) (W:World) (n m c:Nat):Prop where
 c0:W.cell? ⟨gb,go',none⟩=some (.slice (some ⟨rb,ro,none⟩) m c)
 c1:W.cell? ⟨rb,ro + n,none⟩=some (.pointer (some ⟨cb,0,none⟩))
 chn:∃ F,Chn W cb cls cap L F
theorem StR.row (h:StR w s yb sb x) {i:Nat} (hi:i < s.roles.length):∃ gb go' cap rv,w.cell? ⟨sb,2,none⟩=some (.slice (some ⟨gb,go',none⟩) s.roles.length cap)∧w.cell? ⟨gb,go' + i,none⟩=some rv∧RowV s.cls s.cap w rv (x.ways.getD i []):=by
 obtain⟨av,wv,h1,-,h3⟩:=h.out
 obtain⟨gb,go',cap,rfl,rv,c0,h4⟩:=h3.at (some_getD (d:=[]) (by rw[h.ok.wl];exact hi))
 rw[h.ok.wl] at h1
 rw[Nat.mul_one] at c0
 exact⟨gb,go',cap,rv,cell_of h1 2,c0,h4⟩
theorem StR.way (h:StR w s yb sb x) {i k:Nat} (hi:i < s.roles.length) (hk:k < s.roles.length):∃ gb go' cap rb ro c cb,w.cell? ⟨sb,2,none⟩=some (.slice (some ⟨gb,go',none⟩) s.roles.length cap)∧WyF gb (go' + i) rb ro cb s.cls s.cap (x.way i k) w k s.roles.length c:=by
 obtain⟨gb,go',cap,rv,h1,h2,h3⟩:=h.row hi
 obtain⟨rb,ro,c,rfl,cb,F,c1,hc⟩:=h3.at (some_getD (d:=[]) (by rw[h.ok.wr i hi];exact hk))
 rw[h.ok.wr i hi] at h2
 rw[Nat.mul_one] at c1
 exact⟨gb,go',cap,rb,ro,c,cb,h1,h2,c1,F,hc⟩
end
structure MvAt (w:World) (b o:Nat) (m:Mv):Prop where
 c0:w.cell? ⟨b,o,none⟩=some (.int .i64 m.kind)
 c1:w.cell? ⟨b,o + 1,none⟩=some (.int .i64 m.role)
 c2:w.cell? ⟨b,o + 2,none⟩=some (.int .i64 m.step)
 c3:w.cell? ⟨b,o + 3,none⟩=some (.int .i64 m.place)
theorem MvAt.frm {w w':World} {b o:Nat} {m:Mv} (h:MvAt w b o m) (hf:Frm [] w w'):MvAt w' b o m:=⟨hf.keep h.c0,hf.keep h.c1,hf.keep h.c2,hf.keep h.c3⟩
abbrev mvV (m:Mv):Value:=.agg #[.int .i64 m.kind,.int .i64 m.role,.int .i64 m.step,.int .i64 m.place]
def numL {α:Type} (L:List α):List (Nat × α):=L.mapIdx fun i m=>(i,m)
theorem numL_at {α:Type} {L:List α} {k:Nat}:(numL L)[k]?=(L[k]?).map fun m=>(k,m):=by unfold numL;rw[List.getElem?_mapIdx]
theorem numL_length {α:Type} {L:List α}:(numL L).length=L.length:=by unfold numL;rw[List.length_mapIdx]
structure MvI (B:Nat) (v:Value) (L:List Mv) (W:World):Prop where
 b:W.heap[B]?=some (.cells #[v] 67 (0,0))
 a:Arr 4 MvAt W v L
theorem MvI.frm {B:Nat} {v:Value} {L:List Mv} {W W':World} (h:MvI B v L W) (hf:Frm [] W W'):MvI B v L W':=⟨hf.at h.b (by simp),h.a.frm fun _ _ _ h=>h.frm hf⟩
set_option maxRecDepth 100000 in
theorem alMove_any (v:Value) (L:List Mv) (w:World) (h:Arr 4 MvAt w v L):Calls Tryz.prog 58 #[v] w (RetV fun u w'=>u=.func (.func 110) #[] #[.pointer (some ⟨w.heap.size,0,none⟩)]∧MvI w.heap.size v L w'∧Frm [] w w'):=by
 have H:=Lib.hid h
 obtain⟨ao,cap,rfl⟩:=h.shape
 clear h
 go_enter Tryz.func58,Tryz.ntmps58
 go_wp2
 go_ret
 exact⟨_,rfl,rfl,⟨heap_alloc_new _ _,H.out.frm fun _ _ _ h=>h.frm ((Frm.refl [] w).alloc _)⟩,(Frm.refl [] w).alloc _⟩
set_option maxHeartbeats 2000000 in
set_option maxRecDepth 100000 in
theorem mv_iter (B:Nat) (v:Value) (L:List Mv) (hL:L.length≤1000000) :
  Iter Fence.wide 2 Tryz.prog 110 #[.pointer (some ⟨B,0,none⟩)] (fun e:Nat × Mv=>#[.int .i64 e.1,mvV e.2]) (MvI B v L) (numL L):=by
 intro l J Jx sJ sJx hJR hY W h0
 have HJ:=Lib.hid sJ;have HJR:=Lib.hid hJR;have HY:=Lib.hid hY
 clear sJ sJx hJR hY
 have hr:=HJR.out _ _ h0
 have c0:=cell_of hr.b 0
 obtain⟨ao,cap,rfl⟩:=hr.a.shape
 have H0:=Lib.hid h0
 have HNL:Hid ((numL L).length=L.length):=Lib.hid numL_length
 clear hr h0
 refine callsIn_of_wp Tryz.func110 rfl trivial ?_ rfl
 simp only[Tryz.ntmps110,List.size_toArray,List.length_cons,List.length_nil,Nat.reduceAdd,Nat.reduceSub,Array.replicate_succ,Array.replicate_zero,List.push_toArray,List.append_toArray,List.nil_append,List.cons_append]
 gi_wp2
 gi_loopw [7] (fun s wr=>∃ k:Nat,s=.int .i64 k∧k≤L.length∧J ((numL L).take k) wr) (fun s _=>L.length - (intOf s).toNat)
 case atStart=>exact⟨0,rfl,Nat.zero_le _,H0.out⟩
 case round =>
  obtain⟨k,rfl,hk,hj⟩:=hrel
  have HJ1:=Lib.hid hj
  clear hj H0 c0
  by_cases hlt:k < L.length
  ·obtain⟨x,hx⟩:∃ x,L[k]?=some x:=⟨_,List.getElem?_eq_getElem hlt⟩
   have hr:=HJR.out _ _ HJ1.out
   obtain⟨b,o,c',e,g0,g1,g2,g3⟩:=hr.a.at hx
   cases e
   have hnx:(numL L)[k]?=some (k,x):=by rw[numL_at,hx];rfl
   have HX:=Lib.hid hnx
   clear hr hx hnx
   have hJ':J ((numL L).take k) (wr.alloc (.cells #[.int .i64 x.kind,.int .i64 x.role,.int .i64 x.step,.int .i64 x.place] 45)):=HJ.out _ _ _ HJ1.out ((Frm.refl _ _).alloc _)
   obtain⟨fn,tmps,assign,body,hy,hR⟩:=HY.out ((numL L).take k) (k,x) ((numL L).drop (k + 1)) _ (take_snoc' HX.out).2 hJ'
   have HRR:=Lib.hid hR
   clear hJ' hR
   have hlt':(k:Int) < L.length:=by omega
   gi_wp2
   refine HRR.out.mono ?_
   rintro e W3 (⟨rfl,hJ3⟩ | ⟨rfl,hJx3⟩)
   ·have HJ3:=Lib.hid hJ3
    clear hJ3
    gi_wp2
    go_roundw
    case rel=>exact⟨k + 1,by go_num,hlt,by rw[(take_snoc' HX.out).1];exact HJ3.out⟩
    case measure=>simp[intOf];omega
   ·have HJ3:=Lib.hid hJx3
    clear hJx3
    gi_wp2
    refine bodyPost_ret (results_none rfl _ _ _) rfl ?_
    exact⟨⟨_,rfl⟩,.inr ⟨_,_,_,(take_snoc' HX.out).2,HJ3.out⟩⟩
  ·obtain rfl:k=L.length:=by omega
   have hge:¬ (L.length:Int) < L.length:=by omega
   gi_wp2
   go_end0
   exact⟨⟨_,rfl⟩,.inl (by have:=HJ1.out;rwa [← HNL.out,List.take_length] at this)⟩
end Go.Proofs.YtkphhjekfimmlaaGreat
namespace Go.Proofs.YtkphhjekfimmlaaGreat
open Go
section
variable {s:SesD} {x z u:PS}
theorem next_step (s:SesD) (x:PS) (i k:Nat) (p:Int):nextP s x ⟨1,i,k,p⟩ =
  { pos:=x.pos.set i (stIx (s.rol i) ((s.rol i).stp k).to).toNat
    vals:=x.vals.set i (bankDo (s.rol i).ctrs (x.bank i) ((s.rol i).stp k))
    ways:=
     if ((s.rol i).stp k).kind=1 then setWay x.ways i (peerN s ((s.rol i).stp k)) (putL s.cap (x.way i (peerN s ((s.rol i).stp k))) ((s.rol i).stp k).msg)
     else if ((s.rol i).stp k).kind=2 then setWay x.ways (peerN s ((s.rol i).stp k)) i (takeL s.cls (x.way (peerN s ((s.rol i).stp k)) i) p)
     else x.ways }:=by
 unfold nextP
 rw[if_neg (show ¬ (1:Int)=2 by decide)]
 rfl
theorem next_lose (s:SesD) (x:PS) (i k:Nat) (p:Int):nextP s x ⟨2,i,k,p⟩={ x with ways:=setWay x.ways i k (loseL s.cls (x.way i k)) }:=by
 unfold nextP
 rw[if_pos rfl]
 rfl
end
end Go.Proofs.YtkphhjekfimmlaaGreat
