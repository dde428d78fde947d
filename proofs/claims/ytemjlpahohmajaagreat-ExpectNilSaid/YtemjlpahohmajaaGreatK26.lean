/- Part of the proof. -/
import Derived.Shelf.SlGeneric
import Derived.Shelf.SlLaysN
import Derived.Shelf.SlLaysM
import Derived.Ground.SlgnProg
import Derived.Ground.SlgmProg
import Derived.Test.YtemjlpahohmajaaGreatProg
import Derived.Lib.SlicesS
import Derived.WalkKit
import Derived.WalkSpells
import Derived.Deep.QuietTactic
import Derived.Deep.MidRow
import Derived.Deep.WholeRow
import Derived.BigQuiet
import Derived.StillTail
import Derived.Laws.IdiomStrings
import Derived.Shelf.Bytes.SlSmallAll
import Derived.Deep.Upon
import Derived.ArgAppend
import Derived.Deep.AppendLies
import Derived.Maps.AppendAt
import Derived.Lib.Hide
import Derived.Deep.DeepMust
import Derived.WalkLawsBesides
import Derived.BigRegion
import Derived.Deep.RegionHeld3
import Derived.Deep.RegionLaw
import Derived.Deep.DeepCutAuto
import Derived.Shelf.SlicesG.Clone
import Derived.Shelf.SlicesG.Turned
import Derived.Shelf.SlicesG.Delete
import Derived.Sort.OwnSorted
import Derived.OrdersHeld
import Derived.RangeFuncNested
import Derived.RangeFuncLeaves
import Derived.RangeFuncCalls
import Derived.RangeFuncBound
import Derived.OwnWalkIn
import Derived.TacticsInMore
import Derived.LoopNIn
import Derived.LoopIn
import Derived.Sort.CutIn
import Derived.OrdersIn
import Derived.Test.YtemjlpahohmajaaGreatK25
import Derived.Test.YtemjlpahohmajaaGreatK01
import Derived.Test.YtemjlpahohmajaaGreatK08
set_option linter.all false
namespace Go.Proofs.YtemjlpahohmajaaGreat
open Go.RowKit Go.BigFrame
theorem step_append_own_at {P:Program} {ops:Array Oper} {o:Oper} {a:Act} {w:World} {K:Act→World→Prop} {Q:Exit→Act→World→Prop} {E:Prop} (hgd:o.guard=none) (s x:Operand) (t:TypeId)
  (ho:o.op=.call { callee:=.builtin .append,args:=#[s,x],argTypes:=#[t,t] })
  (base:Nat) (e:TypeId) (i:TypeInfo) (z:Value) (size bytes:Nat) (ht:P.underlying t=some (.slice e)) (hi:P.info? e=some i) (hz:i.zero=some z)
  (hsize:i.size=size) (hby:i.bytes=bytes) (hzs:z.cells.size=size) (hsz:0 < size)
  (v:Value) (n:Nat) (xs:List Value) (hs:a.eval s=v) (hown:w.ownsRow base e size v n xs)
  (ad:Addr) (m c:Nat) (news:List Value) (hx:a.eval x=.slice (some ad) m c) (hl:news.length=m * size) (hnews:∀ j u,news[j]?=some u→w.cell? (ad.add j)=some u) (h1:∀ u∈news,u.oneCell'=true)
  (h63:n + m≤maxLen) (hbytes:(n + m) * bytes≤140737488355328) (hbase:base≤w.heap.size)
  (h:∀ v' w',w'.ownsRow base e size v' (n + m) (xs ++ news)→w.grownBy w' v.ownBlock→K (a.put o.dst v') w') :
  if Region.wanted o (yielded ops a.tmps)=true then Oper.wp P o a w K Q else E:=by
 have hw:Region.wanted o (yielded ops a.tmps)=true:=by simp[Region.wanted,hgd]
 rw[if_pos hw]
 obtain⟨v',w',hr,h2,h3,h4,h5⟩:=run_append_own_at (P:=P) w base t o.type e i z size bytes ht hi hz hsize hby hzs hsz v n xs hown ad m c news hl hnews h1 h63 hbytes hbase
 unfold Oper.wp execOp
 simp only[ho,resolve,invoke,builtin,Sem.run_bind,Sem.run_pure,Result.andThen_ok,List.map_toArray,List.map_cons,List.map_nil,hs,hx,hr]
 exact h v' w' h2 h3
end Go.Proofs.YtemjlpahohmajaaGreat
namespace Go.Proofs.YtemjlpahohmajaaGreat
open Go.RowKit Go.BigFrame
def marks (ds:List Nat):List Deferred:=ds.map fun D=>{ target:=.collected D,args:=#[] }
def unmark (ds:List Nat) (w:World):World:=ds.foldl (fun w D=>w.putObj D (.deferred none)) w
theorem unmark_frm:∀ (ds:List Nat) (w:World),Frm ds w (unmark ds w)
 | [],w=>Frm.refl _ _
 | D :: ds,w=>((Frm.putObj w D _).mono (by intro x hx;simp at hx;subst hx;exact .inl (by simp))).then (unmark_frm ds _) (fun x hx=>.inl (by simp[hx]))
theorem leaves_many {fn:Func} {tmps:Array Value} {R:Ending→World→Prop}:∀ (ds:List Nat) (w:World),ds.Nodup→(∀ D∈ds,w.heap[D]?=some (.deferred (some []))) →
  (∃ v,(results fn tmps).run Tryz.prog (unmark ds w)=.ok v (unmark ds w)∧R (.returned v) (unmark ds w))→LeavesInM Fence.wide 3 Tryz.prog fn tmps R (marks ds) .returning w
 | [],w,_,_,h=>h
 | D :: ds,w,hn,hd,h=>by
   rw[List.nodup_cons] at hn
   refine⟨by simp,.inl ⟨D,_,rfl,run_takeDeferred (hd D (by simp)),leaves_many ds _ hn.2 (fun E hE=>?_) h⟩⟩
   have hne:E≠D:=fun e=>hn.1 (e ▸ hE)
   exact(World.putObj_heap_other hne).trans (hd E (by simp[hE]))
structure Ms (w:World) (ds:List Nat) (W:World):Prop where
 nd:ds.Nodup
 dl:∀ D∈ds,w.heap.size≤D∧W.heap[D]?=some (.deferred (some []))
theorem Ms.nil (w W:World):Ms w [] W:=⟨List.nodup_nil,fun D h=>by simp at h⟩
structure Kt (T:List TypeId) (W W':World):Prop where
 os:W'.os=W.os
 tape:W'.tape=W.tape
 output:W'.output=W.output
 size:W.heap.size≤W'.heap.size
 at':∀ (k:Nat) (o:Obj),W.heap[k]?=some o→(∀ c t fr,o=.cells c t fr→t∉T)→W'.heap[k]?=some o
section
variable {T:List TypeId} {w V W W' W2:World} {ds:List Nat}
theorem Kt.refl (T:List TypeId) (W:World):Kt T W W:=⟨rfl,rfl,rfl,Nat.le_refl _,fun _ _ h _=>h⟩
theorem Kt.trans (h:Kt T W W') (k:Kt T W' W2):Kt T W W2:=
 ⟨k.os.trans h.os,k.tape.trans h.tape,k.output.trans h.output,Nat.le_trans h.size k.size,fun i o hi ho=>k.at' i o (h.at' i o hi ho) ho⟩
theorem Kt.frm (h:Frm [] W W'):Kt T W W':=⟨h.os,h.tape,h.output,h.size,fun _ _ hk _=>h.at hk (by simp)⟩
theorem Kt.cells (h:Kt T W W') {k:Nat} {c:Array Value} {t:TypeId} {fr:Nat × Nat} (hk:W.heap[k]?=some (.cells c t fr)) (ht:t∉T):W'.heap[k]?=some (.cells c t fr):=
 h.at' k _ hk (fun c' t' fr' e=>by cases e;exact ht)
theorem Kt.mark (h:Kt T W W') {D:Nat} {x:Option (List Deferred)} (hk:W.heap[D]?=some (.deferred x)):W'.heap[D]?=some (.deferred x):=h.at' D _ hk (fun _ _ _ e=>by cases e)
theorem Kt.kb (h:Kt T W W'):KB W W':=fun k o hk ho=>h.at' k o hk (fun c t fr e=>by subst e;cases ho)
theorem Kt.bk (h:Kt T V W) (hb:Bk V.heap.size W W'):Kt T V W':=
 ⟨hb.os.trans h.os,hb.tape.trans h.tape,hb.output.trans h.output,Nat.le_trans h.size hb.size,fun k o hk ho=>hb.block k o (h.at' k o hk ho) (.inl (lt_of_block hk))⟩
theorem Kt.row (h:Kt T W W') {base e size n:Nat} {v:Value} {xs:List Value} (ho:W.ownsRow base e size v n xs) (he:e∉T):W'.ownsRow base e size v n xs:=by
 obtain⟨h1,h2⟩:=ho
 refine⟨h1,?_⟩
 rcases h2 with h2 | ⟨g,cap,cur,hv,hg,hh,r⟩
 ·exact .inl h2
 ·exact .inr ⟨g,cap,cur,hv,hg,h.cells hh he,r⟩
theorem Kt.grown {row:Option Nat} (h:Kt T V W) (hg:W.grownBy W' row) (hr:∀ k,row=some k→∃ c t fr,W.heap[k]?=some (.cells c t fr)∧t∈T):Kt T V W':=
 h.trans ⟨hg.os,hg.tape,hg.output,hg.size,fun k o hk ho=>(hg.block k (lt_of_block hk) (fun e=>by
  obtain⟨c,t,fr,h1,h2⟩:=hr k e.symm
  rw[hk] at h1;cases h1
  exact ho _ _ _ rfl h2)).trans hk⟩
theorem Kt.set (h:Kt T V W) {b o:Nat} {c:Array Value} {t:TypeId} {fr:Nat × Nat} (hb:W.heap[b]?=some (.cells c t fr)) (ht:t∈T) (u:Value):Kt T V (W.setCell ⟨b,o,none⟩ u):=
 h.trans ⟨rfl,rfl,rfl,by simp[World.setCell],fun k x hk hx=>by
  have hne:k≠b:=fun e=>by subst e;rw[hb] at hk;cases hk;exact hx _ _ _ rfl ht
  exact(Below.heap_setCell _ _ _ _ hne).trans hk⟩
theorem Kt.alloc (h:Kt T V W) (o:Obj):Kt T V (W.alloc o):=h.trans (Kt.frm ((Frm.refl [] W).alloc o))
theorem Ms.kt (h:Ms w ds W) (hk:Kt T W W'):Ms w ds W':=⟨h.nd,fun D hD=>⟨(h.dl D hD).1,hk.mark (h.dl D hD).2⟩⟩
theorem Ms.frm (h:Ms w ds W) (hf:Frm [] W W'):Ms w ds W':=h.kt (T:=[]) (Kt.frm hf)
theorem Ms.more {D:Nat} (h:Ms w ds V) (hf:w.heap.size≤V.heap.size) (hk:Kt T V W) (hD:V.heap.size≤D) (hm:W.heap[D]?=some (.deferred (some []))):Ms w (D :: ds) W:=by
 have h1:=h.kt hk
 refine⟨List.nodup_cons.2 ⟨fun hx=>?_,h.nd⟩,fun E hE=>?_⟩
 ·have:=lt_of_block (h.dl D hx).2;omega
 ·rcases List.mem_cons.1 hE with rfl | hE
  ·exact⟨by omega,hm⟩
  ·exact h1.dl E hE
end
theorem new_row (W:World) (A:Array Value) (t:TypeId):∀ (j:Nat) u,A.toList[j]?=some u→(W.alloc (.cells A t)).cell? ((⟨W.heap.size,0,none⟩:Addr).add j)=some u:=fun j u hu=>by
 have e:(⟨W.heap.size,0,none⟩:Addr).add j=⟨W.heap.size,j,none⟩:=by simp[Addr.add];exact fun h=>h.symm
 rw[e,cell_of (heap_alloc_new W (.cells A t)),← Array.getElem?_toList]
 exact hu
structure BO (ty e k:Nat) (w:World) (ob n:Nat) (xs:List Value) (W:World):Prop where
 fr:Frm [] w W
 new:w.heap.size≤ob
 bx:∃ ao cap,W.heap[ob]?=some (.cells #[.slice ao n cap] ty (0,0))∧W.ownsRow w.heap.size e k (.slice ao n cap) n xs
section
variable {ty e k:Nat} {w V W W' w1:World} {ob n m:Nat} {xs news:List Value}
theorem BO.frm (h:BO ty e k w ob n xs W) (hf:Frm [] W W'):BO ty e k w ob n xs W':=by
 obtain⟨ao,cap,h1,h2⟩:=h.bx
 exact⟨h.fr.trans hf,h.new,ao,cap,hf.at h1 (by simp),hf.owns h2 (by simp)⟩
theorem BO.bk {B:Nat} (h:BO ty e k w ob n xs W) (hb:Bk B W W') (hB:w.heap.size≤B):BO ty e k w ob n xs W':=by
 obtain⟨ao,cap,h1,h2⟩:=h.bx
 refine⟨hb.old h.fr hB,h.new,ao,cap,hb.at h1 rfl,h2.1,?_⟩
 rcases h2.2 with h3 | ⟨g,cp,cur,hv,hg,hh,r⟩
 ·exact .inl h3
 ·exact .inr ⟨g,cp,cur,hv,hg,hb.at hh rfl,r⟩
theorem BO.facts {ao:Option Addr} {cap:Nat} {o:Obj} (h1:W.heap[ob]?=some (.cells #[.slice ao n cap] ty (0,0))) (h2:W.ownsRow w.heap.size e k (.slice ao n cap) n xs) (hne:ty≠e) (hg:(W.alloc o).grownBy w1 (Value.slice ao n cap).ownBlock) :
  w1.heap[ob]?=some (.cells #[.slice ao n cap] ty (0,0)):=
 grown_at hg (alloc_at h1) (fun e'=>by
  obtain⟨c,hc⟩:=ownBlock_type h2 e'
  rw[h1] at hc;cases hc;exact hne rfl)
theorem BO.step {ao:Option Addr} {cap:Nat} {o:Obj} {v':Value} (h:BO ty e k w ob n xs W) (h1:W.heap[ob]?=some (.cells #[.slice ao n cap] ty (0,0))) (h2:W.ownsRow w.heap.size e k (.slice ao n cap) n xs) (hne:ty≠e)
  (hg:(W.alloc o).grownBy w1 (Value.slice ao n cap).ownBlock) (ho:w1.ownsRow w.heap.size e k v' (n + m) (xs ++ news)) :
  BO ty e k w ob (n + m) (xs ++ news) (w1.setCell ⟨ob,0,none⟩ v')∧Kt [ty,e] W (w1.setCell ⟨ob,0,none⟩ v'):=by
 have hb:=BO.facts h1 h2 hne hg
 have hge:∀ q,(Value.slice ao n cap).ownBlock=some q→w.heap.size≤q:=fun q hq=>ownBlock_ge h2 hq
 have k1:Kt [ty,e] W w1:=((Kt.refl _ W).alloc o).grown hg (fun q hq=>by
  obtain⟨c,hc⟩:=ownBlock_type h2 hq
  exact⟨c,e,(0,0),alloc_at hc,by simp⟩)
 have f1:Frm [] w w1:=(h.fr.alloc o).grown hg (fun q hq=>.inr (hge q hq))
 obtain⟨ao',cp',rfl⟩:=own_shape ho
 refine⟨⟨f1.setCell _ (.inr h.new) _,h.new,ao',cp',(block_setCell hb 0 _).trans rfl,?_⟩,k1.set hb (by simp) _⟩
 refine ownsRow_setCell_other ho (fun e'=>?_) _
 obtain⟨c,hc⟩:=ownBlock_type ho e'
 rw[hb] at hc;cases hc;exact hne rfl
theorem BO.made (w:World) (ty e k:Nat) {W:World} {ob:Nat} (hf:Frm [] w W) (hn:w.heap.size≤ob) (h:W.heap[ob]?=some (.cells #[.slice none 0 0] ty (0,0))):BO ty e k w ob 0 [] W:=
 ⟨hf,hn,none,0,h,World.ownsRow_nil _ _ _ _⟩
end
end Go.Proofs.YtemjlpahohmajaaGreat
namespace Go.Proofs.YtemjlpahohmajaaGreat
open Go
section
variable {s:SesD} {x:PS}
theorem mem_hits {m:ByteArray} {i k:Nat} {l:List (Nat × ByteArray)} {v:Mv}:v∈hits m i k l↔∃ e∈l,e.2=m∧v=⟨1,i,k,e.1⟩:=by
 unfold hits
 rw[List.mem_filterMap]
 constructor
 ·rintro⟨e,he,h⟩
  split at h
  ·rename_i h2;exact⟨e,he,h2,by simpa using h.symm⟩
  ·cases h
 ·rintro⟨e,he,h2,rfl⟩
  exact⟨e,he,by rw[if_pos h2]⟩
theorem mem_movesP {v:Mv}:v∈movesP s x↔(∃ i k,i < s.roles.length∧k < (s.rol i).steps.length∧v∈stepMv s x i k)∨(∃ i k,i < s.roles.length∧k < s.roles.length∧v∈loseMv s x i k):=by
 unfold movesP
 rw[List.mem_append,mem_cat,mem_cat]
 simp only[mem_cat]
 constructor
 ·rintro(⟨i,h1,k,h2,h3⟩ | ⟨i,h1,k,h2,h3⟩)
  ·exact .inl ⟨i,k,h1,h2,h3⟩
  ·exact .inr ⟨i,k,h1,h2,h3⟩
 ·rintro(⟨i,k,h1,h2,h3⟩ | ⟨i,k,h1,h2,h3⟩)
  ·exact .inl ⟨i,h1,k,h2,h3⟩
  ·exact .inr ⟨i,h1,k,h2,h3⟩
theorem mem_stepMv {v:Mv} {i k:Nat} (h:v∈stepMv s x i k):v.kind=1∧v.role=i∧v.step=k∧possB s x i k=true ∧
  (((s.rol i).stp k).kind=2→∃ p:Nat,v.place=p∧(p,((s.rol i).stp k).msg)∈chlK s.cls (x.way (peerN s ((s.rol i).stp k)) i) (x.way (peerN s ((s.rol i).stp k)) i).length) ∧
  (((s.rol i).stp k).kind≠2→v.place=0)∧(((s.rol i).stp k).kind=1→((x.way i (peerN s ((s.rol i).stp k))).length:Int) < s.cap):=by
 unfold stepMv at h
 cases hp:possB s x i k with
 | false=>rw[if_pos hp] at h;cases h
 | true =>
   rw[if_neg (by rw[hp];decide)] at h
   by_cases h2:((s.rol i).stp k).kind=2
   ·rw[if_pos h2] at h
    obtain⟨e,he,e2,rfl⟩:=mem_hits.1 h
    exact⟨rfl,rfl,rfl,rfl,fun _=>⟨e.1,rfl,by rw[← e2];exact he⟩,fun h3=>absurd h2 h3,fun h3=>by rw[h2] at h3;cases h3⟩
   ·rw[if_neg h2] at h
    split at h
    ·cases h
    ·rename_i h3
     simp only[List.mem_singleton] at h
     subst h
     exact⟨rfl,rfl,rfl,rfl,fun h4=>absurd h4 h2,fun _=>rfl,fun h4=>by
      rcases Int.lt_or_le ((x.way i (peerN s ((s.rol i).stp k))).length:Int) s.cap with h5 | h5
      ·exact h5
      ·exact absurd ⟨h4,h5⟩ h3⟩
theorem mem_loseMv {v:Mv} {i k:Nat}:v∈loseMv s x i k↔v=⟨2,i,k,0⟩∧s.cls=3∧0 < (x.way i k).length:=by
 unfold loseMv
 split
 ·rename_i h;simp[h]
 ·rename_i h
  exact⟨fun h1=>absurd h1 (by simp),fun h1=>absurd h1.2 h⟩
theorem takeL_mem {cls:Int} {L:List ByteArray} {p:Int}:(takeL cls L p).length≤L.length∧∀ m∈takeL cls L p,m∈L:=by
 unfold takeL
 split
 ·exact⟨List.length_eraseIdx_le _ _,fun m hm=>List.mem_of_mem_eraseIdx hm⟩
 ·exact⟨Nat.le_refl _,fun m hm=>hm⟩
theorem loseL_mem {cls:Int} {L:List ByteArray}:(loseL cls L).length≤L.length∧∀ m∈loseL cls L,m∈L:=by
 unfold loseL
 split
 ·exact takeL_mem
 ·exact⟨Nat.le_refl _,fun m hm=>hm⟩
theorem bank_at (h:SesOk s) (hx:PSok s x) {i k:Nat} (hi:i < s.roles.length) (hk:k < (s.rol i).steps.length) :
  (bankDo (s.rol i).ctrs (x.bank i) ((s.rol i).stp k)).length=(s.rol i).ctrs.length ∧
  (bankOk (s.rol i).ctrs (x.bank i) ((s.rol i).stp k)=true→∀ (j:Nat) (c:CtrD),(s.rol i).ctrs[j]?=some c→0≤(bankDo (s.rol i).ctrs (x.bank i) ((s.rol i).stp k)).getD j 0∧(bankDo (s.rol i).ctrs (x.bank i) ((s.rol i).stp k)).getD j 0≤c.lim):=by
 obtain⟨hl,hb⟩:=hx.vb i hi
 unfold bankDo bankOk
 by_cases he:((s.rol i).stp k).ctr=emptyS
 ·rw[if_pos he];exact⟨hl,fun _=>hb⟩
 ·rw[if_neg he,if_neg he]
  refine⟨by rw[List.length_set];exact hl,fun hok j c hj=>?_⟩
  obtain⟨n,d,e1,e2,-⟩:=(h.stp hi hk).ctr he
  rw[e1] at hok ⊢
  simp only[Int.toNat_natCast,Bool.and_eq_true] at hok ⊢
  rw[List.getD_eq_getElem?_getD,List.getElem?_set]
  by_cases hn:n=j
  ·subst hn
   have hlt:=lt_of_some hj
   rw[if_pos rfl,if_pos (by omega)]
   have hdc:(s.rol i).ctrs.getD n dC=c:=getD_some hj
   rw[hdc] at hok
   have h2:=hok.2
   simp only[allowsV,Bool.and_eq_true,decide_eq_true_eq] at h2
   simp only[Option.getD_some]
   constructor <;> omega
  ·rw[if_neg hn,← List.getD_eq_getElem?_getD]
   exact hb j c hj
theorem next_ok (h:SesOk s) (hx:PSok s x) {v:Mv} (hv:v∈movesP s x):PSok s (nextP s x v):=by
 rcases mem_movesP.1 hv with ⟨i,k,hi,hk,hm⟩ | ⟨i,k,hi,hk,hm⟩
 ·obtain⟨e1,e2,e3,e4,e5,e6,e7⟩:=mem_stepMv hm
  have hst:=h.stp hi hk
  obtain⟨bl,bb⟩:=bank_at h hx hi hk
  have hp:bankOk (s.rol i).ctrs (x.bank i) ((s.rol i).stp k)=true:=by
   unfold possB at e4;rw[Bool.and_eq_true] at e4;exact e4.1
  have bb:=bb hp
  have h0:∀ ws,PSok s { x with ways:=ws }→PSok s { pos:=x.pos.set i (stIx (s.rol i) ((s.rol i).stp k).to).toNat,vals:=x.vals.set i (bankDo (s.rol i).ctrs (x.bank i) ((s.rol i).stp k)),ways:=ws }:=by
   intro ws hw
   refine⟨by simpa using hx.pl,fun j hj=>?_,by simpa using hx.vl,fun j hj=>?_,hw.wl,hw.wr,hw.wb,hw.wd⟩
   ·show (x.pos.set i _).getD j 0 < _
    rw[List.getD_eq_getElem?_getD,List.getElem?_set]
    by_cases e:i=j
    ·subst e
     rw[if_pos rfl,if_pos (by rw[hx.pl];exact hi)]
     obtain⟨q,hq,hql⟩:=ixf_nat hst.to
     have e':stIx (s.rol i) ((s.rol i).stp k).to=q:=hq
     rw[e']
     simpa using hql
    ·rw[if_neg e,← List.getD_eq_getElem?_getD];exact hx.pb j hj
   ·show ((x.vals.set i _).getD j []).length=_∧∀ (k:Nat) (c:CtrD),_→0≤((x.vals.set i _).getD j []).getD k 0∧((x.vals.set i _).getD j []).getD k 0≤_
    have e9:(x.vals.set i (bankDo (s.rol i).ctrs (x.bank i) ((s.rol i).stp k))).getD j []=if i=j then bankDo (s.rol i).ctrs (x.bank i) ((s.rol i).stp k) else x.bank j:=by
     rw[List.getD_eq_getElem?_getD,List.getElem?_set]
     by_cases e:i=j
     ·subst e;rw[if_pos rfl,if_pos (by rw[hx.vl];exact hi),if_pos rfl];rfl
     ·rw[if_neg e,if_neg e,← List.getD_eq_getElem?_getD];rfl
    rw[e9]
    by_cases e:i=j
    ·subst e;rw[if_pos rfl];exact⟨bl,bb⟩
    ·rw[if_neg e];exact hx.vb j hj
  unfold nextP
  rw[if_neg (by rw[e1];decide),e2,e3,Int.toNat_natCast,Int.toNat_natCast]
  apply h0
  by_cases k1:((s.rol i).stp k).kind=1
  ·rw[if_pos k1]
   obtain⟨-,p1,p2⟩:=h.peer hi hk (by omega)
   refine hx.set hi p1 (fun e=>p2 e.symm) ?_
   obtain⟨w1,w2⟩:=hx.wb i _ hi p1
   unfold putL
   split
   ·refine⟨by rw[List.length_append];simp;have:=e7 k1;omega,fun m hm=>?_⟩
    rcases List.mem_append.1 hm with hm | hm
    ·exact w2 m hm
    ·rw[List.mem_singleton] at hm;subst hm;exact hst.msg (by omega)
   ·exact⟨w1,w2⟩
  ·rw[if_neg k1]
   by_cases k2:((s.rol i).stp k).kind=2
   ·rw[if_pos k2]
    obtain⟨-,p1,p2⟩:=h.peer hi hk (by omega)
    refine hx.set p1 hi p2 ?_
    obtain⟨w1,w2⟩:=hx.wb _ i p1 hi
    have:=takeL_mem (cls:=s.cls) (L:=x.way (peerN s ((s.rol i).stp k)) i) (p:=v.place)
    exact⟨by omega,fun m hm=>w2 m (this.2 m hm)⟩
   ·rw[if_neg k2];exact hx
 ·obtain⟨rfl,e2,e3⟩:=mem_loseMv.1 hm
  unfold nextP
  rw[if_pos rfl,Int.toNat_natCast,Int.toNat_natCast]
  have hne:i≠k:=fun e=>by subst e;rw[hx.wd] at e3;simp at e3
  refine hx.set hi hk hne ?_
  obtain⟨w1,w2⟩:=hx.wb i k hi hk
  have:=loseL_mem (cls:=s.cls) (L:=x.way i k)
  exact⟨by omega,fun m hm=>w2 m (this.2 m hm)⟩
theorem first_way (s:SesD) (i k:Nat):(firstP s).way i k=[]:=by
 show ((s.roles.map fun _=>s.roles.map fun _=>([]:List ByteArray)).getD i []).getD k []=[]
 simp only[List.getD_eq_getElem?_getD,List.getElem?_map]
 cases s.roles[i]? with
 | none=>simp
 | some r=>simp only[Option.map_some,Option.getD_some,List.getElem?_map];cases s.roles[k]? <;> simp
theorem first_ok (h:SesOk s):PSok s (firstP s):=by
 refine⟨by simp[firstP],fun i hi=>?_,by simp[firstP],fun i hi=>?_,by simp[firstP],fun i hi=>?_,fun i k _ _=>?_,fun i=>first_way s i i⟩
 ·have e:(firstP s).at i=0:=by
   show (s.roles.map fun _=>0).getD i 0=0
   simp only[List.getD_eq_getElem?_getD,List.getElem?_map];cases s.roles[i]? <;> simp
  rw[e]
  exact(h.at hi).s1
 ·have e:(firstP s).bank i=(s.rol i).ctrs.map fun _=>0:=by
   show (s.roles.map fun r=>r.ctrs.map fun _=>(0:Int)).getD i []=_
   rw[List.getD_eq_getElem?_getD,List.getElem?_map,SesD.rol_some hi];rfl
  rw[e]
  refine⟨by simp,fun k c hc=>?_⟩
  have:=(h.at hi).cN c (List.mem_of_getElem? hc)
  rw[List.getD_eq_getElem?_getD,List.getElem?_map,hc]
  exact⟨by simp,by simp;omega⟩
 ·show ((s.roles.map fun _=>s.roles.map fun _=>([]:List ByteArray)).getD i []).length=_
  rw[List.getD_eq_getElem?_getD,List.getElem?_map,SesD.rol_some hi];simp
 ·rw[first_way];exact⟨by simp;have:=h.k1;omega,by simp⟩
theorem if_iff {α:Type} {p q:Prop} [Decidable p] [Decidable q] (h:p↔q) (a b:α):(if p then a else b)=if q then a else b:=by
 by_cases hp:p
 ·rw[if_pos hp,if_pos (h.1 hp)]
 ·rw[if_neg hp,if_neg (fun hq=>hp (h.2 hq))]
end
end Go.Proofs.YtemjlpahohmajaaGreat
namespace Go.Proofs.YtemjlpahohmajaaGreat
open Go
section
variable {s:SesD} {x z u:PS}
theorem next_step (s:SesD) (x:PS) (i k:Nat) (p:Int):nextP s x ⟨1,i,k,p⟩ =
  { pos:=x.pos.set i (stIx (s.rol i) ((s.rol i).stp k).to).toNat
    vals:=x.vals.set i (bankDo (s.rol i).ctrs (x.bank i) ((s.rol i).stp k))
    ways:=
     if ((s.rol i).stp k).kind=1 then setWay x.ways i (peerN s ((s.rol i).stp k)) (putL s.cap (x.way i (peerN s ((s.rol i).stp k))) ((s.rol i).stp k).msg)
     else if ((s.rol i).stp k).kind=2 then setWay x.ways (peerN s ((s.rol i).stp k)) i (takeL s.cls (x.way (peerN s ((s.rol i).stp k)) i) p)
     else x.ways }:=by
 unfold nextP
 rw[if_neg (show ¬ (1:Int)=2 by decide)]
 rfl
theorem next_lose (s:SesD) (x:PS) (i k:Nat) (p:Int):nextP s x ⟨2,i,k,p⟩={ x with ways:=setWay x.ways i k (loseL s.cls (x.way i k)) }:=by
 unfold nextP
 rw[if_pos rfl]
 rfl
end
end Go.Proofs.YtemjlpahohmajaaGreat
