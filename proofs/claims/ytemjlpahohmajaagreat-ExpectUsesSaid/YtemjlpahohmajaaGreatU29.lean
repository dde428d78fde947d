/- Part of the proof. -/
import Derived.Test.YtemjlpahohmajaaGreatU10
import Derived.Test.YtemjlpahohmajaaGreatU24
import Derived.Test.YtemjlpahohmajaaGreatU28
import Derived.Shelf.SlGeneric
import Derived.Shelf.SlLaysN
import Derived.Shelf.SlLaysM
import Derived.Ground.SlgnProg
import Derived.Ground.SlgmProg
import Derived.Test.YtemjlpahohmajaaGreatU07
import Derived.Shelf.SlicesG.Clone
import Derived.Shelf.SlicesG.Turned
import Derived.Shelf.SlicesG.Delete
import Derived.Sort.OwnSorted
import Derived.OrdersHeld
import Derived.OwnWalkIn
import Derived.Test.YtemjlpahohmajaaGreatU16
import Derived.Lib.Builder
set_option linter.all false
namespace Go.Proofs.YtemjlpahohmajaaGreat
open Go
section
variable {s:SesD} {x:PS}
theorem mem_hits {m:ByteArray} {i k:Nat} {l:List (Nat × ByteArray)} {v:Mv}:v∈hits m i k l↔∃ e∈l,e.2=m∧v=⟨1,i,k,e.1⟩:=by
 unfold hits
 rw[List.mem_filterMap]
 constructor
 ·rintro⟨e,he,h⟩
  split at h
  ·rename_i h2;exact⟨e,he,h2,by simpa using h.symm⟩
  ·cases h
 ·rintro⟨e,he,h2,rfl⟩
  exact⟨e,he,by rw[if_pos h2]⟩
theorem mem_movesP {v:Mv}:v∈movesP s x↔(∃ i k,i < s.roles.length∧k < (s.rol i).steps.length∧v∈stepMv s x i k)∨(∃ i k,i < s.roles.length∧k < s.roles.length∧v∈loseMv s x i k):=by
 unfold movesP
 rw[List.mem_append,mem_cat,mem_cat]
 simp only[mem_cat]
 constructor
 ·rintro(⟨i,h1,k,h2,h3⟩ | ⟨i,h1,k,h2,h3⟩)
  ·exact .inl ⟨i,k,h1,h2,h3⟩
  ·exact .inr ⟨i,k,h1,h2,h3⟩
 ·rintro(⟨i,k,h1,h2,h3⟩ | ⟨i,k,h1,h2,h3⟩)
  ·exact .inl ⟨i,h1,k,h2,h3⟩
  ·exact .inr ⟨i,h1,k,h2,h3⟩
theorem mem_stepMv {v:Mv} {i k:Nat} (h:v∈stepMv s x i k):v.kind=1∧v.role=i∧v.step=k∧possB s x i k=true ∧
  (((s.rol i).stp k).kind=2→∃ p:Nat,v.place=p∧(p,((s.rol i).stp k).msg)∈chlK s.cls (x.way (peerN s ((s.rol i).stp k)) i) (x.way (peerN s ((s.rol i).stp k)) i).length) ∧
  (((s.rol i).stp k).kind≠2→v.place=0)∧(((s.rol i).stp k).kind=1→((x.way i (peerN s ((s.rol i).stp k))).length:Int) < s.cap):=by
 unfold stepMv at h
 cases hp:possB s x i k with
 | false=>rw[if_pos hp] at h;cases h
 | true =>
   rw[if_neg (by rw[hp];decide)] at h
   by_cases h2:((s.rol i).stp k).kind=2
   ·rw[if_pos h2] at h
    obtain⟨e,he,e2,rfl⟩:=mem_hits.1 h
    exact⟨rfl,rfl,rfl,rfl,fun _=>⟨e.1,rfl,by rw[← e2];exact he⟩,fun h3=>absurd h2 h3,fun h3=>by rw[h2] at h3;cases h3⟩
   ·rw[if_neg h2] at h
    split at h
    ·cases h
    ·rename_i h3
     simp only[List.mem_singleton] at h
     subst h
     exact⟨rfl,rfl,rfl,rfl,fun h4=>absurd h4 h2,fun _=>rfl,fun h4=>by
      rcases Int.lt_or_le ((x.way i (peerN s ((s.rol i).stp k))).length:Int) s.cap with h5 | h5
      ·exact h5
      ·exact absurd ⟨h4,h5⟩ h3⟩
theorem mem_loseMv {v:Mv} {i k:Nat}:v∈loseMv s x i k↔v=⟨2,i,k,0⟩∧s.cls=3∧0 < (x.way i k).length:=by
 unfold loseMv
 split
 ·rename_i h;simp[h]
 ·rename_i h
  exact⟨fun h1=>absurd h1 (by simp),fun h1=>absurd h1.2 h⟩
theorem takeL_mem {cls:Int} {L:List ByteArray} {p:Int}:(takeL cls L p).length≤L.length∧∀ m∈takeL cls L p,m∈L:=by
 unfold takeL
 split
 ·exact⟨List.length_eraseIdx_le _ _,fun m hm=>List.mem_of_mem_eraseIdx hm⟩
 ·exact⟨Nat.le_refl _,fun m hm=>hm⟩
theorem loseL_mem {cls:Int} {L:List ByteArray}:(loseL cls L).length≤L.length∧∀ m∈loseL cls L,m∈L:=by
 unfold loseL
 split
 ·exact takeL_mem
 ·exact⟨Nat.le_refl _,fun m hm=>hm⟩
theorem bank_at (h:SesOk s) (hx:PSok s x) {i k:Nat} (hi:i < s.roles.length) (hk:k < (s.rol i).steps.length) :
  (bankDo (s.rol i).ctrs (x.bank i) ((s.rol i).stp k)).length=(s.rol i).ctrs.length ∧
  (bankOk (s.rol i).ctrs (x.bank i) ((s.rol i).stp k)=true→∀ (j:Nat) (c:CtrD),(s.rol i).ctrs[j]?=some c→0≤(bankDo (s.rol i).ctrs (x.bank i) ((s.rol i).stp k)).getD j 0∧(bankDo (s.rol i).ctrs (x.bank i) ((s.rol i).stp k)).getD j 0≤c.lim):=by
 obtain⟨hl,hb⟩:=hx.vb i hi
 unfold bankDo bankOk
 by_cases he:((s.rol i).stp k).ctr=emptyS
 ·rw[if_pos he];exact⟨hl,fun _=>hb⟩
 ·rw[if_neg he,if_neg he]
  refine⟨by rw[List.length_set];exact hl,fun hok j c hj=>?_⟩
  obtain⟨n,d,e1,e2,-⟩:=(h.stp hi hk).ctr he
  rw[e1] at hok ⊢
  simp only[Int.toNat_natCast,Bool.and_eq_true] at hok ⊢
  rw[List.getD_eq_getElem?_getD,List.getElem?_set]
  by_cases hn:n=j
  ·subst hn
   have hlt:=lt_of_some hj
   rw[if_pos rfl,if_pos (by omega)]
   have hdc:(s.rol i).ctrs.getD n dC=c:=getD_some hj
   rw[hdc] at hok
   have h2:=hok.2
   simp only[allowsV,Bool.and_eq_true,decide_eq_true_eq] at h2
   simp only[Option.getD_some]
   constructor <;> omega
  ·rw[if_neg hn,← List.getD_eq_getElem?_getD]
   exact hb j c hj
theorem next_ok (h:SesOk s) (hx:PSok s x) {v:Mv} (hv:v∈movesP s x):PSok s (nextP s x v):=by
 rcases mem_movesP.1 hv with ⟨i,k,hi,hk,hm⟩ | ⟨i,k,hi,hk,hm⟩
 ·obtain⟨e1,e2,e3,e4,e5,e6,e7⟩:=mem_stepMv hm
  have hst:=h.stp hi hk
  obtain⟨bl,bb⟩:=bank_at h hx hi hk
  have hp:bankOk (s.rol i).ctrs (x.bank i) ((s.rol i).stp k)=true:=by
   unfold possB at e4;rw[Bool.and_eq_true] at e4;exact e4.1
  have bb:=bb hp
  have h0:∀ ws,PSok s { x with ways:=ws }→PSok s { pos:=x.pos.set i (stIx (s.rol i) ((s.rol i).stp k).to).toNat,vals:=x.vals.set i (bankDo (s.rol i).ctrs (x.bank i) ((s.rol i).stp k)),ways:=ws }:=by
   intro ws hw
   refine⟨by simpa using hx.pl,fun j hj=>?_,by simpa using hx.vl,fun j hj=>?_,hw.wl,hw.wr,hw.wb,hw.wd⟩
   ·show (x.pos.set i _).getD j 0 < _
    rw[List.getD_eq_getElem?_getD,List.getElem?_set]
    by_cases e:i=j
    ·subst e
     rw[if_pos rfl,if_pos (by rw[hx.pl];exact hi)]
     obtain⟨q,hq,hql⟩:=ixf_nat hst.to
     have e':stIx (s.rol i) ((s.rol i).stp k).to=q:=hq
     rw[e']
     simpa using hql
    ·rw[if_neg e,← List.getD_eq_getElem?_getD];exact hx.pb j hj
   ·show ((x.vals.set i _).getD j []).length=_∧∀ (k:Nat) (c:CtrD),_→0≤((x.vals.set i _).getD j []).getD k 0∧((x.vals.set i _).getD j []).getD k 0≤_
    have e9:(x.vals.set i (bankDo (s.rol i).ctrs (x.bank i) ((s.rol i).stp k))).getD j []=if i=j then bankDo (s.rol i).ctrs (x.bank i) ((s.rol i).stp k) else x.bank j:=by
     rw[List.getD_eq_getElem?_getD,List.getElem?_set]
     by_cases e:i=j
     ·subst e;rw[if_pos rfl,if_pos (by rw[hx.vl];exact hi),if_pos rfl];rfl
     ·rw[if_neg e,if_neg e,← List.getD_eq_getElem?_getD];rfl
    rw[e9]
    by_cases e:i=j
    ·subst e;rw[if_pos rfl];exact⟨bl,bb⟩
    ·rw[if_neg e];exact hx.vb j hj
  unfold nextP
  rw[if_neg (by rw[e1];decide),e2,e3,Int.toNat_natCast,Int.toNat_natCast]
  apply h0
  by_cases k1:((s.rol i).stp k).kind=1
  ·rw[if_pos k1]
   obtain⟨-,p1,p2⟩:=h.peer hi hk (by omega)
   refine hx.set hi p1 (fun e=>p2 e.symm) ?_
   obtain⟨w1,w2⟩:=hx.wb i _ hi p1
   unfold putL
   split
   ·refine⟨by rw[List.length_append];simp;have:=e7 k1;omega,fun m hm=>?_⟩
    rcases List.mem_append.1 hm with hm | hm
    ·exact w2 m hm
    ·rw[List.mem_singleton] at hm;subst hm;exact hst.msg (by omega)
   ·exact⟨w1,w2⟩
  ·rw[if_neg k1]
   by_cases k2:((s.rol i).stp k).kind=2
   ·rw[if_pos k2]
    obtain⟨-,p1,p2⟩:=h.peer hi hk (by omega)
    refine hx.set p1 hi p2 ?_
    obtain⟨w1,w2⟩:=hx.wb _ i p1 hi
    have:=takeL_mem (cls:=s.cls) (L:=x.way (peerN s ((s.rol i).stp k)) i) (p:=v.place)
    exact⟨by omega,fun m hm=>w2 m (this.2 m hm)⟩
   ·rw[if_neg k2];exact hx
 ·obtain⟨rfl,e2,e3⟩:=mem_loseMv.1 hm
  unfold nextP
  rw[if_pos rfl,Int.toNat_natCast,Int.toNat_natCast]
  have hne:i≠k:=fun e=>by subst e;rw[hx.wd] at e3;simp at e3
  refine hx.set hi hk hne ?_
  obtain⟨w1,w2⟩:=hx.wb i k hi hk
  have:=loseL_mem (cls:=s.cls) (L:=x.way i k)
  exact⟨by omega,fun m hm=>w2 m (this.2 m hm)⟩
theorem first_way (s:SesD) (i k:Nat):(firstP s).way i k=[]:=by
 show ((s.roles.map fun _=>s.roles.map fun _=>([]:List ByteArray)).getD i []).getD k []=[]
 simp only[List.getD_eq_getElem?_getD,List.getElem?_map]
 cases s.roles[i]? with
 | none=>simp
 | some r=>simp only[Option.map_some,Option.getD_some,List.getElem?_map];cases s.roles[k]? <;> simp
theorem first_ok (h:SesOk s):PSok s (firstP s):=by
 refine⟨by simp[firstP],fun i hi=>?_,by simp[firstP],fun i hi=>?_,by simp[firstP],fun i hi=>?_,fun i k _ _=>?_,fun i=>first_way s i i⟩
 ·have e:(firstP s).at i=0:=by
   show (s.roles.map fun _=>0).getD i 0=0
   simp only[List.getD_eq_getElem?_getD,List.getElem?_map];cases s.roles[i]? <;> simp
  rw[e]
  exact(h.at hi).s1
 ·have e:(firstP s).bank i=(s.rol i).ctrs.map fun _=>0:=by
   show (s.roles.map fun r=>r.ctrs.map fun _=>(0:Int)).getD i []=_
   rw[List.getD_eq_getElem?_getD,List.getElem?_map,SesD.rol_some hi];rfl
  rw[e]
  refine⟨by simp,fun k c hc=>?_⟩
  have:=(h.at hi).cN c (List.mem_of_getElem? hc)
  rw[List.getD_eq_getElem?_getD,List.getElem?_map,hc]
  exact⟨by simp,by simp;omega⟩
 ·show ((s.roles.map fun _=>s.roles.map fun _=>([]:List ByteArray)).getD i []).length=_
  rw[List.getD_eq_getElem?_getD,List.getElem?_map,SesD.rol_some hi];simp
 ·rw[first_way];exact⟨by simp;have:=h.k1;omega,by simp⟩
theorem put_iff (h:SesOk s) (hx:PSok s x) {i k:Nat} (hi:i < s.roles.length) (hk:k < (s.rol i).steps.length) (k1:((s.rol i).stp k).kind=1) :
  putE s.cap (x.way i (peerN s ((s.rol i).stp k))) ((s.rol i).stp k).msg=0↔((x.way i (peerN s ((s.rol i).stp k))).length:Int) < s.cap:=by
 have hm:=(h.stp hi hk).msg (by omega)
 obtain⟨-,p1,-⟩:=h.peer hi hk (by omega)
 have hw:=(hx.wb i _ hi p1).1
 unfold putE
 rw[if_neg (by omega)]
 split
 ·rename_i e;simp;omega
 ·rename_i e;simp;omega
theorem if_iff {α:Type} {p q:Prop} [Decidable p] [Decidable q] (h:p↔q) (a b:α):(if p then a else b)=if q then a else b:=by
 by_cases hp:p
 ·rw[if_pos hp,if_pos (h.1 hp)]
 ·rw[if_neg hp,if_neg (fun hq=>hp (h.2 hq))]
end
end Go.Proofs.YtemjlpahohmajaaGreat
namespace Go.Proofs.YtemjlpahohmajaaGreat
open Go.RowKit Go.BigFrame
theorem few_any {α:Type} (p:Nat→α→Bool) (d:α) (l:List α) (least most:Nat):(l.length < least∨most < l.length∨anyIx p 0 l=true)↔0≤fewI l.length least most (fun i=>p i (l.getD i d)):=by
 rw[fewI_iff (by omega)]
 have e:(∃ i,i < l.length∧p i (l.getD i d)=true)↔anyIx p 0 l=true:=by
  rw[anyIx_iff]
  constructor
  ·rintro⟨i,h1,h2⟩
   exact⟨i,l.getD i d,some_getD h1,by rw[Nat.zero_add];exact h2⟩
  ·rintro⟨i,x,h1,h2⟩
   rw[Nat.zero_add] at h2
   exact⟨i,lt_of_some h1,by rw[getD_some h1];exact h2⟩
 rw[e]
 have e1:(l.length < least)↔((l.length:Int) < (least:Int)):=by omega
 have e2:(most < l.length)↔((most:Int) < (l.length:Int)):=by omega
 rw[e1,e2]
def fewC (r:RolD):Int:=fewI r.ctrs.length 0 4 (fun i=>ctrBad r i (r.ctrs.getD i dC))
def fewS (r:RolD):Int:=fewI r.sts.length 1 24 (fun i=>stBad r i (r.sts.getD i dS))
def fewT (r:RolD):Int:=fewI r.steps.length 0 80 (fun i=>!stepB r i (r.steps.getD i dT))
theorem ck_few (r:RolD):ckRole r=if nameB r.name=false then 290 else if 0≤fewC r then 291 else if 0≤fewS r then 292 else if 0≤fewT r then 293 else 0:=by
 have h1:=few_any (ctrBad r) dC r.ctrs 0 4
 have h2:=few_any (stBad r) dS r.sts 1 24
 have h3:=few_any (fun i s=>!stepB r i s) dT r.steps 0 80
 have g1:(4 < r.ctrs.length∨anyIx (ctrBad r) 0 r.ctrs=true)↔0≤fewC r:=by
  refine Iff.trans ?_ h1
  constructor
  ·exact fun h=>.inr h
  ·rintro(h | h)
   ·omega
   ·exact h
 have g3:(80 < r.steps.length∨anyIx (fun i s=>!stepB r i s) 0 r.steps=true)↔0≤fewT r:=by
  refine Iff.trans ?_ h3
  constructor
  ·exact fun h=>.inr h
  ·rintro(h | h)
   ·omega
   ·exact h
 have g2:(r.sts.length < 1∨24 < r.sts.length∨anyIx (stBad r) 0 r.sts=true)↔0≤fewS r:=h2
 unfold ckRole
 rw[if_iff g1,if_iff g2,if_iff g3]
theorem fewC_neg {r:RolD} (h:fewC r < 0):r.ctrs.length≤4∧∀ c∈r.ctrs,1≤c.lim∧c.lim≤1000:=by
 have h1:¬ 0≤fewC r:=by omega
 rw[show (0≤fewC r)↔_ from (few_any (ctrBad r) dC r.ctrs 0 4).symm] at h1
 have ha:anyIx (ctrBad r) 0 r.ctrs=false:=by
  cases h2:anyIx (ctrBad r) 0 r.ctrs with
  | false=>rfl
  | true=>exact absurd (.inr (.inr h2)) h1
 have h4:¬ 4 < r.ctrs.length:=fun h2=>h1 (.inr (.inl h2))
 refine⟨by omega,fun c hc=>?_⟩
 obtain⟨k,hk⟩:=List.getElem?_of_mem hc
 have:=(anyIx_false.1 ha) k c hk
 unfold ctrBad at this
 simp only[Bool.or_eq_false_iff,decide_eq_false_iff_not] at this
 omega
end Go.Proofs.YtemjlpahohmajaaGreat
namespace Go.Proofs.YtemjlpahohmajaaGreat
open Go.RowKit Go.BigFrame
def marks (ds:List Nat):List Deferred:=ds.map fun D=>{ target:=.collected D,args:=#[] }
def unmark (ds:List Nat) (w:World):World:=ds.foldl (fun w D=>w.putObj D (.deferred none)) w
theorem unmark_frm:∀ (ds:List Nat) (w:World),Frm ds w (unmark ds w)
 | [],w=>Frm.refl _ _
 | D :: ds,w=>((Frm.putObj w D _).mono (by intro x hx;simp at hx;subst hx;exact .inl (by simp))).then (unmark_frm ds _) (fun x hx=>.inl (by simp[hx]))
theorem leaves_many {fn:Func} {tmps:Array Value} {R:Ending→World→Prop}:∀ (ds:List Nat) (w:World),ds.Nodup→(∀ D∈ds,w.heap[D]?=some (.deferred (some []))) →
  (∃ v,(results fn tmps).run Tryz.prog (unmark ds w)=.ok v (unmark ds w)∧R (.returned v) (unmark ds w))→LeavesInM Fence.wide 3 Tryz.prog fn tmps R (marks ds) .returning w
 | [],w,_,_,h=>h
 | D :: ds,w,hn,hd,h=>by
   rw[List.nodup_cons] at hn
   refine⟨by simp,.inl ⟨D,_,rfl,run_takeDeferred (hd D (by simp)),leaves_many ds _ hn.2 (fun E hE=>?_) h⟩⟩
   have hne:E≠D:=fun e=>hn.1 (e ▸ hE)
   exact(World.putObj_heap_other hne).trans (hd E (by simp[hE]))
structure Ms (w:World) (ds:List Nat) (W:World):Prop where
 nd:ds.Nodup
 dl:∀ D∈ds,w.heap.size≤D∧W.heap[D]?=some (.deferred (some []))
theorem Ms.nil (w W:World):Ms w [] W:=⟨List.nodup_nil,fun D h=>by simp at h⟩
structure Kt (T:List TypeId) (W W':World):Prop where
 os:W'.os=W.os
 tape:W'.tape=W.tape
 output:W'.output=W.output
 size:W.heap.size≤W'.heap.size
 at':∀ (k:Nat) (o:Obj),W.heap[k]?=some o→(∀ c t fr,o=.cells c t fr→t∉T)→W'.heap[k]?=some o
section
variable {T:List TypeId} {w V W W' W2:World} {ds:List Nat}
theorem Kt.refl (T:List TypeId) (W:World):Kt T W W:=⟨rfl,rfl,rfl,Nat.le_refl _,fun _ _ h _=>h⟩
theorem Kt.trans (h:Kt T W W') (k:Kt T W' W2):Kt T W W2:=
 ⟨k.os.trans h.os,k.tape.trans h.tape,k.output.trans h.output,Nat.le_trans h.size k.size,fun i o hi ho=>k.at' i o (h.at' i o hi ho) ho⟩
theorem Kt.frm (h:Frm [] W W'):Kt T W W':=⟨h.os,h.tape,h.output,h.size,fun _ _ hk _=>h.at hk (by simp)⟩
theorem Kt.cells (h:Kt T W W') {k:Nat} {c:Array Value} {t:TypeId} {fr:Nat × Nat} (hk:W.heap[k]?=some (.cells c t fr)) (ht:t∉T):W'.heap[k]?=some (.cells c t fr):=
 h.at' k _ hk (fun c' t' fr' e=>by cases e;exact ht)
theorem Kt.mark (h:Kt T W W') {D:Nat} {x:Option (List Deferred)} (hk:W.heap[D]?=some (.deferred x)):W'.heap[D]?=some (.deferred x):=h.at' D _ hk (fun _ _ _ e=>by cases e)
theorem Kt.kb (h:Kt T W W'):KB W W':=fun k o hk ho=>h.at' k o hk (fun c t fr e=>by subst e;cases ho)
theorem Kt.bk (h:Kt T V W) (hb:Bk V.heap.size W W'):Kt T V W':=
 ⟨hb.os.trans h.os,hb.tape.trans h.tape,hb.output.trans h.output,Nat.le_trans h.size hb.size,fun k o hk ho=>hb.block k o (h.at' k o hk ho) (.inl (lt_of_block hk))⟩
theorem Kt.row (h:Kt T W W') {base e size n:Nat} {v:Value} {xs:List Value} (ho:W.ownsRow base e size v n xs) (he:e∉T):W'.ownsRow base e size v n xs:=by
 obtain⟨h1,h2⟩:=ho
 refine⟨h1,?_⟩
 rcases h2 with h2 | ⟨g,cap,cur,hv,hg,hh,r⟩
 ·exact .inl h2
 ·exact .inr ⟨g,cap,cur,hv,hg,h.cells hh he,r⟩
theorem Kt.grown {row:Option Nat} (h:Kt T V W) (hg:W.grownBy W' row) (hr:∀ k,row=some k→∃ c t fr,W.heap[k]?=some (.cells c t fr)∧t∈T):Kt T V W':=
 h.trans ⟨hg.os,hg.tape,hg.output,hg.size,fun k o hk ho=>(hg.block k (lt_of_block hk) (fun e=>by
  obtain⟨c,t,fr,h1,h2⟩:=hr k e.symm
  rw[hk] at h1;cases h1
  exact ho _ _ _ rfl h2)).trans hk⟩
theorem Kt.set (h:Kt T V W) {b o:Nat} {c:Array Value} {t:TypeId} {fr:Nat × Nat} (hb:W.heap[b]?=some (.cells c t fr)) (ht:t∈T) (u:Value):Kt T V (W.setCell ⟨b,o,none⟩ u):=
 h.trans ⟨rfl,rfl,rfl,by simp[World.setCell],fun k x hk hx=>by
  have hne:k≠b:=fun e=>by subst e;rw[hb] at hk;cases hk;exact hx _ _ _ rfl ht
  exact(Below.heap_setCell _ _ _ _ hne).trans hk⟩
theorem Kt.alloc (h:Kt T V W) (o:Obj):Kt T V (W.alloc o):=h.trans (Kt.frm ((Frm.refl [] W).alloc o))
theorem Ms.kt (h:Ms w ds W) (hk:Kt T W W'):Ms w ds W':=⟨h.nd,fun D hD=>⟨(h.dl D hD).1,hk.mark (h.dl D hD).2⟩⟩
theorem Ms.frm (h:Ms w ds W) (hf:Frm [] W W'):Ms w ds W':=h.kt (T:=[]) (Kt.frm hf)
theorem Ms.more {D:Nat} (h:Ms w ds V) (hf:w.heap.size≤V.heap.size) (hk:Kt T V W) (hD:V.heap.size≤D) (hm:W.heap[D]?=some (.deferred (some []))):Ms w (D :: ds) W:=by
 have h1:=h.kt hk
 refine⟨List.nodup_cons.2 ⟨fun hx=>?_,h.nd⟩,fun E hE=>?_⟩
 ·have:=lt_of_block (h.dl D hx).2;omega
 ·rcases List.mem_cons.1 hE with rfl | hE
  ·exact⟨by omega,hm⟩
  ·exact h1.dl E hE
end
theorem new_row (W:World) (A:Array Value) (t:TypeId):∀ (j:Nat) u,A.toList[j]?=some u→(W.alloc (.cells A t)).cell? ((⟨W.heap.size,0,none⟩:Addr).add j)=some u:=fun j u hu=>by
 have e:(⟨W.heap.size,0,none⟩:Addr).add j=⟨W.heap.size,j,none⟩:=by simp[Addr.add];exact fun h=>h.symm
 rw[e,cell_of (heap_alloc_new W (.cells A t)),← Array.getElem?_toList]
 exact hu
structure BO (ty e k:Nat) (w:World) (ob n:Nat) (xs:List Value) (W:World):Prop where
 fr:Frm [] w W
 new:w.heap.size≤ob
 bx:∃ ao cap,W.heap[ob]?=some (.cells #[.slice ao n cap] ty (0,0))∧W.ownsRow w.heap.size e k (.slice ao n cap) n xs
section
variable {ty e k:Nat} {w V W W' w1:World} {ob n m:Nat} {xs news:List Value}
theorem BO.frm (h:BO ty e k w ob n xs W) (hf:Frm [] W W'):BO ty e k w ob n xs W':=by
 obtain⟨ao,cap,h1,h2⟩:=h.bx
 exact⟨h.fr.trans hf,h.new,ao,cap,hf.at h1 (by simp),hf.owns h2 (by simp)⟩
theorem BO.bk {B:Nat} (h:BO ty e k w ob n xs W) (hb:Bk B W W') (hB:w.heap.size≤B):BO ty e k w ob n xs W':=by
 obtain⟨ao,cap,h1,h2⟩:=h.bx
 refine⟨hb.old h.fr hB,h.new,ao,cap,hb.at h1 rfl,h2.1,?_⟩
 rcases h2.2 with h3 | ⟨g,cp,cur,hv,hg,hh,r⟩
 ·exact .inl h3
 ·exact .inr ⟨g,cp,cur,hv,hg,hb.at hh rfl,r⟩
theorem BO.facts {ao:Option Addr} {cap:Nat} {o:Obj} (h1:W.heap[ob]?=some (.cells #[.slice ao n cap] ty (0,0))) (h2:W.ownsRow w.heap.size e k (.slice ao n cap) n xs) (hne:ty≠e) (hg:(W.alloc o).grownBy w1 (Value.slice ao n cap).ownBlock) :
  w1.heap[ob]?=some (.cells #[.slice ao n cap] ty (0,0)):=
 grown_at hg (alloc_at h1) (fun e'=>by
  obtain⟨c,hc⟩:=ownBlock_type h2 e'
  rw[h1] at hc;cases hc;exact hne rfl)
theorem BO.step {ao:Option Addr} {cap:Nat} {o:Obj} {v':Value} (h:BO ty e k w ob n xs W) (h1:W.heap[ob]?=some (.cells #[.slice ao n cap] ty (0,0))) (h2:W.ownsRow w.heap.size e k (.slice ao n cap) n xs) (hne:ty≠e)
  (hg:(W.alloc o).grownBy w1 (Value.slice ao n cap).ownBlock) (ho:w1.ownsRow w.heap.size e k v' (n + m) (xs ++ news)) :
  BO ty e k w ob (n + m) (xs ++ news) (w1.setCell ⟨ob,0,none⟩ v')∧Kt [ty,e] W (w1.setCell ⟨ob,0,none⟩ v'):=by
 have hb:=BO.facts h1 h2 hne hg
 have hge:∀ q,(Value.slice ao n cap).ownBlock=some q→w.heap.size≤q:=fun q hq=>ownBlock_ge h2 hq
 have k1:Kt [ty,e] W w1:=((Kt.refl _ W).alloc o).grown hg (fun q hq=>by
  obtain⟨c,hc⟩:=ownBlock_type h2 hq
  exact⟨c,e,(0,0),alloc_at hc,by simp⟩)
 have f1:Frm [] w w1:=(h.fr.alloc o).grown hg (fun q hq=>.inr (hge q hq))
 obtain⟨ao',cp',rfl⟩:=own_shape ho
 refine⟨⟨f1.setCell _ (.inr h.new) _,h.new,ao',cp',(block_setCell hb 0 _).trans rfl,?_⟩,k1.set hb (by simp) _⟩
 refine ownsRow_setCell_other ho (fun e'=>?_) _
 obtain⟨c,hc⟩:=ownBlock_type ho e'
 rw[hb] at hc;cases hc;exact hne rfl
theorem BO.made (w:World) (ty e k:Nat) {W:World} {ob:Nat} (hf:Frm [] w W) (hn:w.heap.size≤ob) (h:W.heap[ob]?=some (.cells #[.slice none 0 0] ty (0,0))):BO ty e k w ob 0 [] W:=
 ⟨hf,hn,none,0,h,World.ownsRow_nil _ _ _ _⟩
end
end Go.Proofs.YtemjlpahohmajaaGreat
namespace Go.Proofs.YtemjlpahohmajaaGreat
open Go.RowKit Go.BigFrame
structure CtR (B:Nat) (lv:Value) (l:List (CtrD × Int)) (W:World):Prop where
 b:W.heap[B]?=some (.cells #[lv] 202 (0,0))
 a:Arr 3 CnAt W lv l
 t:∀ ao n c,lv=.slice ao n c→n≠0→∃ g cur,ao=some ⟨g,0,none⟩∧W.heap[g]?=some (.cells cur 207 (0,0))
set_option maxHeartbeats 2000000 in
set_option maxRecDepth 100000 in
theorem bCounters_any (bb:Nat) (l:List (CtrD × Int)) (w:World) (h:Bnk w bb l) (hl:l.length≤1000) :
  Calls Tryz.prog 55 #[.pointer (some ⟨bb,0,none⟩)] w (RetV fun v w'=>∃ B lv,v=.func (.func 100) #[] #[.pointer (some ⟨B,0,none⟩)]∧CtR B lv l w'∧Frm [] w w'∧w.heap.size≤B):=by
 have HF0:Hid (Frm [] w (w.alloc (.cells #[.slice none 0 0] 202))):=Lib.hid ((Frm.refl [] w).alloc _)
 have CN:=Lib.hid (bNone_any bb l _ (h.frm HF0.out))
 obtain⟨lv,h1,h2⟩:=h
 have CC:=Lib.hid (clCnt_any lv l _ (h2.frm (fun _ _ _ h=>h.frm HF0.out)) (by omega))
 have c1:=cell_of h1 1
 have hlt:=lt_of_block h1
 have b0:=heap_alloc_new w (.cells #[.slice none 0 0] 202)
 have B0:=Lib.hid b0
 clear h1 h2 hl b0
 go_enter Tryz.func55,Tryz.ntmps55
 go_wp2_with (first
  | (go_at_call 98;go_must (refine CN.out.mono ?_;rintro e w' ⟨rfl,rfl⟩))
  | (go_at_call 99;go_must (refine CC.out.mono ?_;rintro e w1 ⟨v,rfl,hr⟩;obtain⟨ao,cq,rfl⟩:=hr.arr.shape;have hb:=hr.frm.at B0.out (by simp);have cb:=cell_of hb 0;have fb:=free_of hb 0;have HB:=Lib.hid hb;have HR:=Lib.hid hr;clear hr hb)))
 go_ret
 have hb:=block_setCell HB.out 0 (.slice ao l.length cq)
 have hf:Frm [w.heap.size] w1 (w1.setCell ⟨w.heap.size,0,none⟩ (.slice ao l.length cq)):=(Frm.refl _ _).setCell _ (.inl (by simp)) _
 refine⟨_,rfl,_,_,rfl,⟨hb,?_,?_⟩,(HF0.out.trans HR.out.frm).then hf (by intro x hx;simp at hx;right;omega),Nat.le_refl _⟩
 ·rcases HR.out.own with rfl | ⟨news,ho⟩
  ·exact Arr.nil _ _ _
  by_cases hn:l.length=0
  ·rw[List.length_eq_zero_iff.1 hn];exact Arr.nil _ _ _
  ·obtain⟨g,cap,cur,e,hg,hc⟩:=own_block ho hn
   cases e
   obtain⟨ao,c,e,hx⟩:=HR.out.arr
   refine⟨ao,c,e,fun i x hi=>?_⟩
   obtain⟨b,o,e2,a0,a1,a2⟩:=hx i x hi
   rw[e2] at e
   cases e
   have hng:g∉[w.heap.size]:=by simp at hg ⊢;omega
   exact⟨g,0,e2,hf.cellAt a0 hng,hf.cellAt a1 hng,hf.cellAt a2 hng⟩
 ·intro ao n c e hn
  cases e
  rcases HR.out.own with rfl | ⟨news,ho⟩
  ·exact absurd rfl hn
  obtain⟨g,cap,cur,e,hg,hc⟩:=own_block ho hn
  cases e
  exact⟨g,cur,rfl,hf.at hc (by simp at hg ⊢;omega)⟩
theorem take_snoc' {α:Type} {L:List α} {k:Nat} {x:α} (h:L[k]?=some x):L.take (k + 1)=L.take k ++ [x]∧L=L.take k ++ x :: L.drop (k + 1):=by
 have hk:=lt_of_some h
 rw[List.getElem?_eq_getElem hk] at h
 cases h
 exact⟨List.take_succ_eq_append_getElem hk,by simp⟩
set_option maxHeartbeats 2000000 in
set_option maxRecDepth 100000 in
theorem bc_iter (B:Nat) (lv:Value) (L:List (CtrD × Int)) (hL:L.length≤1000000) :
  Iter Fence.wide 2 Tryz.prog 100 #[.pointer (some ⟨B,0,none⟩)] (fun e:CtrD × Int=>#[.string e.1.name,.int .i64 e.2]) (CtR B lv L) L:=by
 intro l J Jx sJ sJx hJR hY W h0
 have HJ:=Lib.hid sJ;have HJR:=Lib.hid hJR;have HY:=Lib.hid hY
 clear sJ sJx hJR hY
 have hr:=HJR.out _ _ h0
 have c0:=cell_of hr.b 0
 obtain⟨ao,cap,rfl⟩:=hr.a.shape
 have H0:=Lib.hid h0
 clear hr h0
 refine callsIn_of_wp Tryz.func100 rfl trivial ?_ rfl
 simp only[Tryz.ntmps100,List.size_toArray,List.length_cons,List.length_nil,Nat.reduceAdd,Nat.reduceSub,Array.replicate_succ,Array.replicate_zero,List.push_toArray,List.append_toArray,List.nil_append,List.cons_append]
 gi_wp2
 gi_loopw [7] (fun s wr=>∃ k:Nat,s=.int .i64 k∧k≤L.length∧J (L.take k) wr) (fun s _=>L.length - (intOf s).toNat)
 case atStart=>exact⟨0,rfl,Nat.zero_le _,H0.out⟩
 case round =>
  obtain⟨k,rfl,hk,hj⟩:=hrel
  have HJ1:=Lib.hid hj
  clear hj H0 c0
  by_cases hlt:k < L.length
  ·obtain⟨x,hx⟩:∃ x,L[k]?=some x:=⟨_,List.getElem?_eq_getElem hlt⟩
   have hr:=HJR.out _ _ HJ1.out
   obtain⟨b,o,c',e,g0,g1,g2⟩:=hr.a.at hx
   cases e
   have HX:=Lib.hid hx
   clear hr hx
   have hJ':J (L.take k) (wr.alloc (.cells #[.string x.1.name,.int .i64 x.1.lim,.int .i64 x.2] 207)):=HJ.out _ _ _ HJ1.out ((Frm.refl _ _).alloc _)
   obtain⟨fn,tmps,assign,body,hy,hR⟩:=HY.out (L.take k) x (L.drop (k + 1)) _ (take_snoc' HX.out).2 hJ'
   have HRR:=Lib.hid hR
   clear hJ' hR
   have hlt':(k:Int) < L.length:=by omega
   gi_wp2
   refine HRR.out.mono ?_
   rintro e W3 (⟨rfl,hJ3⟩ | ⟨rfl,hJx3⟩)
   ·have HJ3:=Lib.hid hJ3
    clear hJ3
    gi_wp2
    go_roundw
    case rel=>exact⟨k + 1,by go_num,hlt,by rw[(take_snoc' HX.out).1];exact HJ3.out⟩
    case measure=>simp[intOf];omega
   ·have HJ3:=Lib.hid hJx3
    clear hJx3
    gi_wp2
    refine bodyPost_ret (results_none rfl _ _ _) rfl ?_
    exact⟨⟨_,rfl⟩,.inr ⟨_,_,_,(take_snoc' HX.out).2,HJ3.out⟩⟩
  ·obtain rfl:k=L.length:=by omega
   have hge:¬ (L.length:Int) < L.length:=by omega
   gi_wp2
   go_end0
   exact⟨⟨_,rfl⟩,.inl (by have:=HJ1.out;rwa [List.take_length] at this)⟩
end Go.Proofs.YtemjlpahohmajaaGreat
namespace Go.Proofs.YtemjlpahohmajaaGreat
open Go.RowKit Go.BigFrame
section
variable {w w':World} {s:SesD} {yb fb sb:Nat} {x:PS}
theorem actsP_at {i:Nat} (hi:i < s.roles.length):(actsP s x)[i]?=some (((x.at i:Nat):Int),x.ctr s i):=by
 unfold actsP
 rw[List.getElem?_map,List.getElem?_range hi];rfl
theorem actsP_len:(actsP s x).length=s.roles.length:=by unfold actsP;simp
structure RlF (rb ro:Nat) (sv cv tv:Value) (r:RolD) (W:World):Prop where
 c0:W.cell? ⟨rb,ro,none⟩=some (.string r.name)
 c1:W.cell? ⟨rb,ro + 1,none⟩=some sv
 c2:W.cell? ⟨rb,ro + 2,none⟩=some cv
 c3:W.cell? ⟨rb,ro + 3,none⟩=some tv
 r3:Rl3 W sv cv tv r
theorem SyR.rol (h:SyR w s yb fb) {i:Nat} (hi:i < s.roles.length):∃ rb ro cap sv cv tv,w.cell? ⟨yb,1,none⟩=some (.slice (some ⟨rb,ro,none⟩) s.roles.length cap)∧RlF rb (ro + i * 4) sv cv tv (s.rol i) w:=by
 obtain⟨rv,h1,h2⟩:=h.out
 obtain⟨rb,ro,cap,rfl,sv,cv,tv,c0,c1,c2,c3,h3⟩:=h2.at (SesD.rol_some hi)
 exact⟨rb,ro,cap,sv,cv,tv,cell_of h1 1,c0,c1,c2,c3,h3⟩
structure AcF (ab ao bb:Nat) (p:Nat) (l:List (CtrD × Int)) (W:World):Prop where
 c0:W.cell? ⟨ab,ao,none⟩=some (.int .i64 (p:Int))
 c1:W.cell? ⟨ab,ao + 1,none⟩=some (.pointer (some ⟨bb,0,none⟩))
 bnk:Bnk W bb l
theorem AcF.frm {ab ao bb p:Nat} {l:List (CtrD × Int)} {W W':World} (h:AcF ab ao bb p l W) (hf:Frm [] W W'):AcF ab ao bb p l W':=⟨hf.keep h.c0,hf.keep h.c1,h.bnk.frm hf⟩
theorem StR.act (h:StR w s yb sb x) {i:Nat} (hi:i < s.roles.length):∃ ab ao cap bb,w.cell? ⟨sb,1,none⟩=some (.slice (some ⟨ab,ao,none⟩) s.roles.length cap)∧AcF ab (ao + i * 2) bb (x.at i) (x.ctr s i) w:=by
 obtain⟨av,wv,h1,h2,-⟩:=h.out
 obtain⟨ab,ao,cap,rfl,bb,c0,c1,h3⟩:=h2.at (actsP_at hi)
 rw[actsP_len] at h1
 exact⟨ab,ao,cap,bb,cell_of h1 1,c0,c1,h3⟩
end
set_option maxRecDepth 100000 in
theorem pNone_any (s:SesD) (yb fb:Nat) (w:World) (h:SyR w s yb fb):Calls Tryz.prog 60 #[.pointer (some ⟨yb,0,none⟩)] w (Ret (.bool false) (w=·)):=by
 obtain⟨rv,h1,-⟩:=h.out
 have c4:=cell_of h1 4
 clear h1 h
 go_enter Tryz.func60,Tryz.ntmps60
 go_wp2
 go_ret
 exact⟨rfl,rfl⟩
set_option maxRecDepth 100000 in
theorem pSnone_any (s:SesD) (yb sb:Nat) (x:PS) (w:World) (h:StR w s yb sb x):Calls Tryz.prog 54 #[.pointer (some ⟨sb,0,none⟩)] w (Ret (.bool false) (w=·)):=by
 obtain⟨av,wv,h1,-⟩:=h.out
 have c0:=cell_of h1 0
 clear h1 h
 go_enter Tryz.func54,Tryz.ntmps54
 go_wp2
 go_ret
 exact⟨rfl,rfl⟩
theorem sys_same (yb:Nat) (W:World):(binOp .neq 26 (.pointer (some ⟨yb,0,none⟩)) (.pointer (some ⟨yb,0,none⟩))).run Tryz.prog W=.ok (.bool false) W:=by
 have h:(Tryz.prog.info? 98).isSome=true:=by kernel_rfl
 obtain⟨j,hj⟩:=Option.isSome_iff_exists.1 h
 exact Lib.run_neq_ptr_same W _ Tryz.underlying26 hj
set_option maxRecDepth 100000 in
theorem pCheck_any (s:SesD) (yb fb sb:Nat) (x:PS) (w:World) (h:SyR w s yb fb) (hx:StR w s yb sb x):Calls Tryz.prog 61 #[.pointer (some ⟨yb,0,none⟩),.pointer (some ⟨sb,0,none⟩)] w (Ret (.int .i64 0) (w=·)):=by
 have C1:=Lib.hid (pNone_any s yb fb w h)
 have C2:=Lib.hid (pSnone_any s yb sb x w hx)
 have hq:=sys_same yb
 obtain⟨av,wv,h1,-⟩:=hx.out
 have c0:=cell_of h1 0
 clear h1 h hx
 go_enter Tryz.func61,Tryz.ntmps61
 go_wp2_with (first
  | (go_at_call 60;go_must (refine C1.out.mono ?_;rintro e w' ⟨rfl,rfl⟩))
  | (go_at_call 54;go_must (refine C2.out.mono ?_;rintro e w' ⟨rfl,rfl⟩)))
 go_ret
 exact⟨rfl,rfl⟩
set_option maxRecDepth 100000 in
theorem pFirst_any (s:SesD) (yb fb:Nat) (w:World) (h:SyR w s yb fb):Calls Tryz.prog 30 #[.pointer (some ⟨yb,0,none⟩)] w (Ret (.pointer (some ⟨fb,0,none⟩)) (w=·)):=by
 have C1:=Lib.hid (pNone_any s yb fb w h)
 obtain⟨rv,h1,-⟩:=h.out
 have c4:=cell_of h1 4
 clear h1 h
 go_enter Tryz.func30,Tryz.ntmps30
 go_wp2_with (first
  | (go_at_call 60;go_must (refine C1.out.mono ?_;rintro e w' ⟨rfl,rfl⟩)))
 go_ret
 exact⟨rfl,rfl⟩
set_option maxHeartbeats 4000000 in
set_option maxRecDepth 100000 in
theorem pPossible_any (s:SesD) (yb fb sb i k:Nat) (x:PS) (w:World) (h:SyR w s yb fb) (hx:StR w s yb sb x) (hi:i < s.roles.length) (hk:k < (s.rol i).steps.length) :
  Calls Tryz.prog 105 #[.pointer (some ⟨yb,0,none⟩),.pointer (some ⟨sb,0,none⟩),.int .i64 i,.int .i64 k] w (Ret (.bool (possB s x i k)) (Frm [] w)):=by
 have hso:=h.ok
 have hxo:=hx.ok
 have CA:∀ bb,Hid (∀ V,Bnk V bb (x.ctr s i)→Calls Tryz.prog 116 #[.pointer (some ⟨bb,0,none⟩),stpV ((s.rol i).stp k)] V (Ret (.tuple #[.bool (bankOk (s.rol i).ctrs (x.bank i) ((s.rol i).stp k)),.int .i64 0]) (Frm [] V))):=fun bb=>Lib.hid fun V hV=>by
  rw[← okB_bank hso hxo hi hk]
  exact bAllowed_any bb _ _ V hV (ctr_ok hso hxo hi) (ctr_has hso hxo hi hk)
 obtain⟨rb,ro,rc,sv,cv,tv,y1,hr⟩:=h.rol hi
 obtain⟨ab,ao,ac,bb,x1,ha⟩:=hx.act hi
 have hst:(s.rol i).sts[x.at i]?=some ((s.rol i).sts.getD (x.at i) dS):=some_getD (hxo.pb i hi)
 have htt:=RolD.stp_some hk
 have CA:=CA bb
 have HP:Hid (possB s x i k=(bankOk (s.rol i).ctrs (x.bank i) ((s.rol i).stp k) && decide (((s.rol i).sts.getD (x.at i) dS).name=((s.rol i).stp k).frm))):=Lib.hid rfl
 rw[HP.out]
 have hni:(i:Int) < (s.roles.length:Int):=by omega
 have hns:((x.at i:Nat):Int) < ((s.rol i).sts.length:Int):=by have:=hxo.pb i hi;omega
 have hnk:(k:Int) < ((s.rol i).steps.length:Int):=by omega
 obtain⟨b,hb⟩:∃ b,bankOk (s.rol i).ctrs (x.bank i) ((s.rol i).stp k)=b:=⟨_,rfl⟩
 rw[hb] at CA ⊢
 obtain⟨p,hp⟩:∃ p,x.at i=p:=⟨_,rfl⟩
 obtain⟨st,hst2⟩:∃ st,(s.rol i).sts.getD (x.at i) dS=st:=⟨_,rfl⟩
 obtain⟨t,ht2⟩:∃ t,(s.rol i).stp k=t:=⟨_,rfl⟩
 rw[hst2] at hst ⊢
 rw[ht2] at htt CA ⊢
 rw[hp] at ha hst hns
 obtain⟨r,hrr⟩:∃ r,s.rol i=r:=⟨_,rfl⟩
 obtain⟨l,hll⟩:∃ l,x.ctr s i=l:=⟨_,rfl⟩
 rw[hrr] at hr hst htt hns hnk
 rw[hll] at ha CA
 obtain⟨n,hn⟩:∃ n,s.roles.length=n:=⟨_,rfl⟩
 rw[hn] at y1 x1 hni
 obtain⟨aS,cs,rfl⟩:=hr.r3.sts.shape
 obtain⟨a2,c2,rfl⟩:=hr.r3.ctrs.shape
 obtain⟨at',ct,rfl⟩:=hr.r3.steps.shape
 obtain⟨b1,o1,rfl,g0,-,-⟩:=hr.r3.sts.get hst
 obtain⟨b2,o2,rfl,k0,k1,k2,k3,k4,k5,k6,k7,k8⟩:=hr.r3.steps.get htt
 obtain⟨ns,hns2⟩:∃ ns,r.sts.length=ns:=⟨_,rfl⟩
 obtain⟨nc,hnc2⟩:∃ nc,r.ctrs.length=nc:=⟨_,rfl⟩
 obtain⟨nt,hnt2⟩:∃ nt,r.steps.length=nt:=⟨_,rfl⟩
 obtain⟨d0,d1,d2,d3,-⟩:=hr
 obtain⟨e0,e1,e2⟩:=ha
 rw[hns2] at d1 hns
 rw[hnc2] at d2
 rw[hnt2] at d3 hnk
 have hl1:=cell_lt d0
 have hl2:=cell_lt e0
 have hl3:=cell_lt y1
 have hl4:=cell_lt x1
 have HB:=Lib.hid e2
 have HU:Hid (∀ V,Frm [] w V→V.cell? ⟨b1,o1 + p * 3,none⟩=some (.string st.name)∧SpAt V b2 (o2 + k * 9) t):=Lib.hid fun V hV=>⟨hV.keep g0,hV.keep k0,hV.keep k1,hV.keep k2,hV.keep k3,hV.keep k4,hV.keep k5,hV.keep k6,hV.keep k7,hV.keep k8⟩
 clear HP hp hst2 ht2 hrr hll hn hns2 hnc2 hnt2 hst htt g0 k0 k1 k2 k3 k4 k5 k6 k7 k8 h hx hso hxo hi hk hb e2
 go_enter Tryz.func105,Tryz.ntmps105
 go_upto_region 1 with fail
 go_cut [9,10] (fun s9 s10 wc=>∃ q1 q2,s9=.pointer (some ⟨q1,0,none⟩)∧s10=.pointer (some ⟨q2,0,none⟩)∧wc.heap[q1]?=some (.cells #[.string r.name,.slice (some ⟨b1,o1,none⟩) ns cs,.slice a2 nc c2,.slice (some ⟨b2,o2,none⟩) nt ct] 86 (0,0))∧wc.heap[q2]?=some (.cells #[.int .i64 p,.pointer (some ⟨bb,0,none⟩)] 143 (0,0))∧Frm [] w wc)
 case first =>
  go_region
  all_goals
   go_wp2
   go_meet
   refine⟨_,_,rfl,rfl,?_,?_,?_⟩
   ·first
     | exact heap_alloc_new _ _
     | exact alloc_at (heap_alloc_new _ _)
     | exact alloc_top (by simp)
   ·first
     | exact heap_alloc_new _ _
     | exact alloc_at (heap_alloc_new _ _)
     | exact alloc_top (by simp)
   ·first
     | exact(((Frm.refl [] w).alloc _).alloc _).drew
     | exact(((Frm.refl [] w).drew).alloc _).alloc _
     | exact((Frm.refl [] w).alloc _).drew.alloc _
     | exact((Frm.refl [] w).alloc _).alloc _
 case rest =>
  obtain⟨q1,q2,rfl,rfl,hq1,hq2,hf⟩:=hcut
  have HF:=Lib.hid hf
  have HW:Hid (∀ V,Frm [] wc V→V.heap[q1]?=some (.cells #[.string r.name,.slice (some ⟨b1,o1,none⟩) ns cs,.slice a2 nc c2,.slice (some ⟨b2,o2,none⟩) nt ct] 86 (0,0))∧V.heap[q2]?=some (.cells #[.int .i64 p,.pointer (some ⟨bb,0,none⟩)] 143 (0,0))):=Lib.hid fun V hV=>⟨hV.at hq1 (by simp),hV.at hq2 (by simp)⟩
  clear d0 d1 d2 d3 e0 e1 hl1 hl2 hl3 hl4 x1 y1 hq1 hq2 hf
  go_upto_region 2 with fail
  refine wp_region_cq (by kernel_rfl) (by kernel_rfl) ?_
  repeat (first
   | go_big_quiet_skip
   | (refine wpQuiet_want (by rfl) (fun K hK=>?_)
      first
       | (refine quiet_move _ (by rfl) (hK _ ?_))
       | (refine quiet_assign _ (by rfl) (hK _ ?_))
       | (refine cq_call (.tuple #[.bool b,.int .i64 0]) 116 #[.pointer (some ⟨bb,0,none⟩),stpV t] (fun w' hC=>?_) (fun w' hC=>Ret.cq (CA.out w' (HB.out.frm (HF.out.trans hC))) (fun w'' h=>hC.trans h)) (hK _ ?_)
          ·go_simp)
       | (apply Exists.intro
          refine⟨fun w' hC=>?_,hK _ ?_⟩
          ·(unfold Oper.quietAt
            obtain⟨z1,z2⟩:=HW.out w' hC;obtain⟨-,u0,u1,u2,u3,u4,u5,u6,u7,u8⟩:=HU.out w' (HF.out.trans hC);have v3:=cell_of z1 3;have v1:=cell_of z2 1;clear z1 z2
            clear hC
            go_simp
            try exact⟨rfl,rfl⟩
            try rfl))
      clear hK K
      try simp only[nrm,Act.eval,nrq]))
  refine wpQuiet_nil ?_
  intro w2 hf2
  have HF2:=Lib.hid hf2
  cases b with
  | false =>
    clear hf2
    go_upto_region 3 with fail
    refine wp_region_cq (by kernel_rfl) (by kernel_rfl) ?_
    repeat (first
     | go_big_quiet_skip
     | (refine wpQuiet_want (by rfl) (fun K hK=>?_)
        first
         | (refine quiet_move _ (by rfl) (hK _ ?_))
         | (refine quiet_assign _ (by rfl) (hK _ ?_))
         | (apply Exists.intro
            refine⟨fun w' hC=>?_,hK _ ?_⟩
            ·(unfold Oper.quietAt
              obtain⟨z1,z2⟩:=HW.out w' (HF2.out.trans hC)
              clear hC
              go_simp
              try exact⟨rfl,rfl⟩
              try rfl))
        clear hK K
        try simp only[nrm,Act.eval,nrq]))
    refine wpQuiet_nil ?_
    intro w3 hf3
    go_wp2
    go_ret
    exact⟨rfl,(HF.out.trans HF2.out).trans hf3⟩
  | true =>
    clear hf2
    have hsb:(st.name.toList == t.frm.toList)=decide (st.name=t.frm):=str_beq _ _
    go_upto_region 3 with fail
    refine wp_region_cq (by kernel_rfl) (by kernel_rfl) ?_
    repeat (first
     | go_big_quiet_skip
     | (refine wpQuiet_want (by rfl) (fun K hK=>?_)
        first
         | (refine quiet_move _ (by rfl) (hK _ ?_))
         | (refine quiet_assign _ (by rfl) (hK _ ?_))
         | (apply Exists.intro
            refine⟨fun w' hC=>?_,hK _ ?_⟩
            ·(unfold Oper.quietAt
              obtain⟨z1,z2⟩:=HW.out w' (HF2.out.trans hC);obtain⟨v0,u0,-⟩:=HU.out w' ((HF.out.trans HF2.out).trans hC);have v3:=cell_of z1 3;have v1:=cell_of z1 1;have v5:=cell_of z2 0;clear z1 z2
              clear hC
              go_simp
              try exact⟨rfl,rfl⟩
              try rfl))
        clear hK K
        try simp only[nrm,Act.eval,nrq]))
    refine wpQuiet_nil ?_
    intro w3 hf3
    go_wp2
    go_ret
    exact⟨by simp,(HF.out.trans HF2.out).trans hf3⟩
end Go.Proofs.YtemjlpahohmajaaGreat
namespace Go.Proofs.YtemjlpahohmajaaGreat
open Go.RowKit Go.BigFrame
section
variable {w w':World} {s:SesD} {yb fb sb:Nat} {x:PS}
structure WyF (gb go' rb ro cb:Nat) (cls cap:Int) (L:List ByteArray) (W:World) (n m c:Nat):Prop where
 c0:W.cell? ⟨gb,go',none⟩=some (.slice (some ⟨rb,ro,none⟩) m c)
 c1:W.cell? ⟨rb,ro + n,none⟩=some (.pointer (some ⟨cb,0,none⟩))
 chn:∃ F,Chn W cb cls cap L F
theorem StR.row (h:StR w s yb sb x) {i:Nat} (hi:i < s.roles.length):∃ gb go' cap rv,w.cell? ⟨sb,2,none⟩=some (.slice (some ⟨gb,go',none⟩) s.roles.length cap)∧w.cell? ⟨gb,go' + i,none⟩=some rv∧RowV s.cls s.cap w rv (x.ways.getD i []):=by
 obtain⟨av,wv,h1,-,h3⟩:=h.out
 obtain⟨gb,go',cap,rfl,rv,c0,h4⟩:=h3.at (some_getD (d:=[]) (by rw[h.ok.wl];exact hi))
 rw[h.ok.wl] at h1
 rw[Nat.mul_one] at c0
 exact⟨gb,go',cap,rv,cell_of h1 2,c0,h4⟩
theorem StR.way (h:StR w s yb sb x) {i k:Nat} (hi:i < s.roles.length) (hk:k < s.roles.length):∃ gb go' cap rb ro c cb,w.cell? ⟨sb,2,none⟩=some (.slice (some ⟨gb,go',none⟩) s.roles.length cap)∧WyF gb (go' + i) rb ro cb s.cls s.cap (x.way i k) w k s.roles.length c:=by
 obtain⟨gb,go',cap,rv,h1,h2,h3⟩:=h.row hi
 obtain⟨rb,ro,c,rfl,cb,F,c1,hc⟩:=h3.at (some_getD (d:=[]) (by rw[h.ok.wr i hi];exact hk))
 rw[h.ok.wr i hi] at h2
 rw[Nat.mul_one] at c1
 exact⟨gb,go',cap,rb,ro,c,cb,h1,h2,c1,F,hc⟩
end
structure MvAt (w:World) (b o:Nat) (m:Mv):Prop where
 c0:w.cell? ⟨b,o,none⟩=some (.int .i64 m.kind)
 c1:w.cell? ⟨b,o + 1,none⟩=some (.int .i64 m.role)
 c2:w.cell? ⟨b,o + 2,none⟩=some (.int .i64 m.step)
 c3:w.cell? ⟨b,o + 3,none⟩=some (.int .i64 m.place)
theorem MvAt.frm {w w':World} {b o:Nat} {m:Mv} (h:MvAt w b o m) (hf:Frm [] w w'):MvAt w' b o m:=⟨hf.keep h.c0,hf.keep h.c1,hf.keep h.c2,hf.keep h.c3⟩
abbrev mvV (m:Mv):Value:=.agg #[.int .i64 m.kind,.int .i64 m.role,.int .i64 m.step,.int .i64 m.place]
def numL {α:Type} (L:List α):List (Nat × α):=L.mapIdx fun i m=>(i,m)
theorem numL_at {α:Type} {L:List α} {k:Nat}:(numL L)[k]?=(L[k]?).map fun m=>(k,m):=by unfold numL;rw[List.getElem?_mapIdx]
theorem numL_length {α:Type} {L:List α}:(numL L).length=L.length:=by unfold numL;rw[List.length_mapIdx]
structure MvI (B:Nat) (v:Value) (L:List Mv) (W:World):Prop where
 b:W.heap[B]?=some (.cells #[v] 49 (0,0))
 a:Arr 4 MvAt W v L
theorem MvI.frm {B:Nat} {v:Value} {L:List Mv} {W W':World} (h:MvI B v L W) (hf:Frm [] W W'):MvI B v L W':=⟨hf.at h.b (by simp),h.a.frm fun _ _ _ h=>h.frm hf⟩
set_option maxRecDepth 100000 in
theorem alMove_any (v:Value) (L:List Mv) (w:World) (h:Arr 4 MvAt w v L):Calls Tryz.prog 75 #[v] w (RetV fun u w'=>u=.func (.func 126) #[] #[.pointer (some ⟨w.heap.size,0,none⟩)]∧MvI w.heap.size v L w'∧Frm [] w w'):=by
 have H:=Lib.hid h
 obtain⟨ao,cap,rfl⟩:=h.shape
 clear h
 go_enter Tryz.func75,Tryz.ntmps75
 go_wp2
 go_ret
 exact⟨_,rfl,rfl,⟨heap_alloc_new _ _,H.out.frm fun _ _ _ h=>h.frm ((Frm.refl [] w).alloc _)⟩,(Frm.refl [] w).alloc _⟩
set_option maxHeartbeats 2000000 in
set_option maxRecDepth 100000 in
theorem mv_iter (B:Nat) (v:Value) (L:List Mv) (hL:L.length≤1000000) :
  Iter Fence.wide 2 Tryz.prog 126 #[.pointer (some ⟨B,0,none⟩)] (fun e:Nat × Mv=>#[.int .i64 e.1,mvV e.2]) (MvI B v L) (numL L):=by
 intro l J Jx sJ sJx hJR hY W h0
 have HJ:=Lib.hid sJ;have HJR:=Lib.hid hJR;have HY:=Lib.hid hY
 clear sJ sJx hJR hY
 have hr:=HJR.out _ _ h0
 have c0:=cell_of hr.b 0
 obtain⟨ao,cap,rfl⟩:=hr.a.shape
 have H0:=Lib.hid h0
 have HNL:Hid ((numL L).length=L.length):=Lib.hid numL_length
 clear hr h0
 refine callsIn_of_wp Tryz.func126 rfl trivial ?_ rfl
 simp only[Tryz.ntmps126,List.size_toArray,List.length_cons,List.length_nil,Nat.reduceAdd,Nat.reduceSub,Array.replicate_succ,Array.replicate_zero,List.push_toArray,List.append_toArray,List.nil_append,List.cons_append]
 gi_wp2
 gi_loopw [7] (fun s wr=>∃ k:Nat,s=.int .i64 k∧k≤L.length∧J ((numL L).take k) wr) (fun s _=>L.length - (intOf s).toNat)
 case atStart=>exact⟨0,rfl,Nat.zero_le _,H0.out⟩
 case round =>
  obtain⟨k,rfl,hk,hj⟩:=hrel
  have HJ1:=Lib.hid hj
  clear hj H0 c0
  by_cases hlt:k < L.length
  ·obtain⟨x,hx⟩:∃ x,L[k]?=some x:=⟨_,List.getElem?_eq_getElem hlt⟩
   have hr:=HJR.out _ _ HJ1.out
   obtain⟨b,o,c',e,g0,g1,g2,g3⟩:=hr.a.at hx
   cases e
   have hnx:(numL L)[k]?=some (k,x):=by rw[numL_at,hx];rfl
   have HX:=Lib.hid hnx
   clear hr hx hnx
   have hJ':J ((numL L).take k) (wr.alloc (.cells #[.int .i64 x.kind,.int .i64 x.role,.int .i64 x.step,.int .i64 x.place] 70)):=HJ.out _ _ _ HJ1.out ((Frm.refl _ _).alloc _)
   obtain⟨fn,tmps,assign,body,hy,hR⟩:=HY.out ((numL L).take k) (k,x) ((numL L).drop (k + 1)) _ (take_snoc' HX.out).2 hJ'
   have HRR:=Lib.hid hR
   clear hJ' hR
   have hlt':(k:Int) < L.length:=by omega
   gi_wp2
   refine HRR.out.mono ?_
   rintro e W3 (⟨rfl,hJ3⟩ | ⟨rfl,hJx3⟩)
   ·have HJ3:=Lib.hid hJ3
    clear hJ3
    gi_wp2
    go_roundw
    case rel=>exact⟨k + 1,by go_num,hlt,by rw[(take_snoc' HX.out).1];exact HJ3.out⟩
    case measure=>simp[intOf];omega
   ·have HJ3:=Lib.hid hJx3
    clear hJx3
    gi_wp2
    refine bodyPost_ret (results_none rfl _ _ _) rfl ?_
    exact⟨⟨_,rfl⟩,.inr ⟨_,_,_,(take_snoc' HX.out).2,HJ3.out⟩⟩
  ·obtain rfl:k=L.length:=by omega
   have hge:¬ (L.length:Int) < L.length:=by omega
   gi_wp2
   go_end0
   exact⟨⟨_,rfl⟩,.inl (by have:=HJ1.out;rwa [← HNL.out,List.take_length] at this)⟩
set_option maxRecDepth 100000 in
theorem pFits_any (s:SesD) (yb sb:Nat) (x:PS) (i:Int) (w:World) (h:StR w s yb sb x):Calls Tryz.prog 158 #[.pointer (some ⟨sb,0,none⟩),.int .i64 i] w (Ret (.bool (decide (0≤i) && decide (i < (s.roles.length:Int)))) (w=·)):=by
 obtain⟨av,wv,h1,h2,-⟩:=h.out
 obtain⟨ao,cap,rfl⟩:=h2.shape
 rw[actsP_len] at h1
 have c1:=cell_of h1 1
 clear h1 h2 h
 by_cases h0:0≤i
 ·rw[decide_eq_true h0]
  go_enter Tryz.func158,Tryz.ntmps158
  go_wp2
  go_ret
  exact⟨by simp,rfl⟩
 ·rw[decide_eq_false h0]
  go_enter Tryz.func158,Tryz.ntmps158
  go_wp2
  go_ret
  exact⟨rfl,rfl⟩
set_option maxHeartbeats 2000000 in
set_option maxRecDepth 100000 in
theorem pAt_ok (s:SesD) (yb fb sb i:Nat) (x:PS) (w:World) (h:SyR w s yb fb) (hx:StR w s yb sb x) (hi:i < s.roles.length) :
  Calls Tryz.prog 122 #[.pointer (some ⟨sb,0,none⟩),.int .i64 i] w (Ret (.tuple #[.string ((s.rol i).sts.getD (x.at i) dS).name,.int .i64 0]) (Frm [] w)):=by
 have C1:=Lib.hid (pSnone_any s yb sb x w hx)
 have C2:=Lib.hid (pFits_any s yb sb x i w hx)
 rw[decide_eq_true (show (0:Int)≤(i:Int) by omega),decide_eq_true (show (i:Int) < (s.roles.length:Int) by omega)] at C2
 obtain⟨rb,ro,rc,sv,cv,tv,y1,hr⟩:=h.rol hi
 obtain⟨ab,ao,ac,bb,x1,ha⟩:=hx.act hi
 have hst:(s.rol i).sts[x.at i]?=some ((s.rol i).sts.getD (x.at i) dS):=some_getD (hx.ok.pb i hi)
 obtain⟨b1,o1,c1',e1,g0,-,-⟩:=hr.r3.sts.at hst
 subst e1
 have x0:w.cell? ⟨sb,0,none⟩=some (.pointer (some ⟨yb,0,none⟩)):=by obtain⟨av,wv,h1,-⟩:=hx.out;exact cell_of h1 0
 have hni:(i:Int) < (s.roles.length:Int):=by omega
 have hns:((x.at i:Nat):Int) < ((s.rol i).sts.length:Int):=by have:=hx.ok.pb i hi;omega
 obtain⟨n,hn⟩:∃ n,s.roles.length=n:=⟨_,rfl⟩
 obtain⟨m,hm⟩:∃ m,(s.rol i).sts.length=m:=⟨_,rfl⟩
 obtain⟨p,hp⟩:∃ p,x.at i=p:=⟨_,rfl⟩
 obtain⟨st,hst2⟩:∃ st,(s.rol i).sts.getD (x.at i) dS=st:=⟨_,rfl⟩
 rw[hn] at y1 x1 hni
 rw[hst2] at g0 ⊢
 rw[hp] at hns g0 ha
 obtain⟨d0,d1,-,-,-⟩:=hr
 obtain⟨e0,-,-⟩:=ha
 rw[hm] at d1 hns
 have HU:Hid (∀ V,Frm [] w V→V.cell? ⟨yb,1,none⟩=some (.slice (some ⟨rb,ro,none⟩) n rc)∧V.cell? ⟨sb,1,none⟩=some (.slice (some ⟨ab,ao,none⟩) n ac)∧V.cell? ⟨sb,0,none⟩=some (.pointer (some ⟨yb,0,none⟩))∧V.cell? ⟨rb,ro + i * 4 + 1,none⟩=some (.slice (some ⟨b1,o1,none⟩) m c1')∧V.cell? ⟨ab,ao + i * 2,none⟩=some (.int .i64 p)∧V.cell? ⟨b1,o1 + p * 3,none⟩=some (.string st.name)):=
  Lib.hid fun V hV=>⟨hV.keep y1,hV.keep x1,hV.keep x0,hV.keep d1,hV.keep e0,hV.keep g0⟩
 clear y1 x1 x0 d0 d1 e0 g0 hn hm hp hst hst2 h hx hi
 go_enter Tryz.func122,Tryz.ntmps122
 go_upto_region 5 with (first
  | (go_at_call 54;go_must (refine C1.out.mono ?_;rintro e w' ⟨rfl,rfl⟩))
  | (go_at_call 158;go_must (refine C2.out.mono ?_;rintro e w' ⟨rfl,rfl⟩)))
 refine wp_region_cq (by kernel_rfl) (by kernel_rfl) ?_
 repeat (first
  | go_big_quiet_skip
  | (refine wpQuiet_want (by rfl) (fun K hK=>?_)
     first
      | (refine quiet_move _ (by rfl) (hK _ ?_))
      | (refine quiet_assign _ (by rfl) (hK _ ?_))
      | (apply Exists.intro
         refine⟨fun w' hC=>?_,hK _ ?_⟩
         ·(unfold Oper.quietAt
           obtain⟨z0,z1,z2,z3,z4,z5⟩:=HU.out w' hC
           clear hC
           go_simp
           try exact⟨rfl,rfl⟩
           try rfl))
     clear hK K
     try simp only[nrm,Act.eval,nrq]))
 refine wpQuiet_nil ?_
 intro w2 hf2
 go_wp2
 go_ret2
 exact⟨rfl,hf2⟩
def ctV (l:List (CtrD × Int)) (n:ByteArray):Value:=match l[(cnIx l n).toNat]? with
 | some c=>if 0≤cnIx l n then .tuple #[.int .i64 c.2,.int .i64 0] else .tuple #[.int .i64 0,.int .i64 9]
 | none=>.tuple #[.int .i64 0,.int .i64 9]
theorem bGet_any (bb:Nat) (l:List (CtrD × Int)) (n:ByteArray) (w:World) (h:Bnk w bb l) (hl:l.length≤1000):∃ a e,ctV l n=.tuple #[.int .i64 a,.int .i64 e]∧Calls Tryz.prog 153 #[.pointer (some ⟨bb,0,none⟩),.string n] w (Ret (.tuple #[.int .i64 a,.int .i64 e]) (Frm [] w)):=by
 unfold ctV
 rcases Int.lt_or_le (cnIx l n) 0 with hk | hk
 ·refine⟨0,9,?_,bGet_no bb l n w h hl hk⟩
  cases l[(cnIx l n).toNat]? with
  | none=>rfl
  | some c=>simp only;rw[if_neg (by omega)]
 ·obtain⟨k,e,hkl⟩:=ixf_nat hk
  have e':cnIx l n=k:=e
  obtain⟨c,hc⟩:∃ c,l[k]?=some c:=⟨_,List.getElem?_eq_getElem hkl⟩
  refine⟨c.2,0,?_,bGet_ok bb l n k c w h hl e' hc⟩
  rw[e',Int.toNat_natCast,hc]
  simp only
  rw[if_pos (by omega)]
set_option maxHeartbeats 2000000 in
set_option maxRecDepth 100000 in
theorem pCounter_ok (s:SesD) (yb fb sb i:Nat) (x:PS) (n:ByteArray) (w:World) (h:SyR w s yb fb) (hx:StR w s yb sb x) (hi:i < s.roles.length) :
  Calls Tryz.prog 161 #[.pointer (some ⟨sb,0,none⟩),.int .i64 i,.string n] w (Ret (ctV (x.ctr s i) n) (Frm [] w)):=by
 have C1:=Lib.hid (pAt_ok s yb fb sb i x w h hx hi)
 obtain⟨ab,ao,ac,bb,x1,ha⟩:=hx.act hi
 obtain⟨a,e,hv,-⟩:=bGet_any bb (x.ctr s i) n w ha.bnk (by have:=(ctr_ok h.ok hx.ok hi).1;omega)
 have CG:Hid (∀ V,Frm [] w V→Calls Tryz.prog 153 #[.pointer (some ⟨bb,0,none⟩),.string n] V (Ret (.tuple #[.int .i64 a,.int .i64 e]) (Frm [] V))):=Lib.hid fun V hV=>by
  obtain⟨a',e',hv',hc⟩:=bGet_any bb (x.ctr s i) n V (ha.bnk.frm hV) (by have:=(ctr_ok h.ok hx.ok hi).1;omega)
  rw[hv] at hv'
  cases hv'
  exact hc
 have HX:Hid (∀ V,Frm [] w V→V.cell? ⟨sb,1,none⟩=some (.slice (some ⟨ab,ao,none⟩) s.roles.length ac)∧V.cell? ⟨ab,ao + i * 2 + 1,none⟩=some (.pointer (some ⟨bb,0,none⟩))):=Lib.hid fun V hV=>⟨hV.keep x1,hV.keep ha.c1⟩
 have hni:(i:Int) < (s.roles.length:Int):=by omega
 rw[hv]
 obtain⟨m,hm⟩:∃ m,s.roles.length=m:=⟨_,rfl⟩
 rw[hm] at HX hni
 clear ha x1 h hx hi hv hm
 go_enter Tryz.func161,Tryz.ntmps161
 go_wp2_with (first
  | (go_at_call 122;go_must (refine C1.out.mono ?_;rintro e w1 ⟨rfl,hf1⟩;obtain⟨z1,z2⟩:=HX.out _ hf1;have HF1:=Lib.hid hf1;clear hf1))
  | (go_at_call 153;go_must (refine(CG.out _ HF1.out).mono ?_;rintro e w2 ⟨rfl,hf2⟩;have HF2:=Lib.hid (HF1.out.trans hf2);clear hf2)))
 go_ret2
 exact⟨rfl,HF2.out⟩
set_option maxHeartbeats 2000000 in
set_option maxRecDepth 100000 in
theorem pChannel_ok (s:SesD) (yb sb i k:Nat) (x:PS) (w:World) (hx:StR w s yb sb x) (hi:i < s.roles.length) (hk:k < s.roles.length) (hne:i≠k) :
  Calls Tryz.prog 159 #[.pointer (some ⟨sb,0,none⟩),.int .i64 i,.int .i64 k] w (RetV fun v w'=>∃ u,v=.tuple #[u,.int .i64 0]∧Fresh w (x.way i k) u w'):=by
 have C1:=Lib.hid (pSnone_any s yb sb x w hx)
 have C2:=Lib.hid (pFits_any s yb sb x i w hx)
 have C3:=Lib.hid (pFits_any s yb sb x k w hx)
 rw[decide_eq_true (show (0:Int)≤(i:Int) by omega),decide_eq_true (show (i:Int) < (s.roles.length:Int) by omega)] at C2
 rw[decide_eq_true (show (0:Int)≤(k:Int) by omega),decide_eq_true (show (k:Int) < (s.roles.length:Int) by omega)] at C3
 obtain⟨gb,go',cap,rb,ro,c,cb,x2,hw⟩:=hx.way hi hk
 obtain⟨w0,w1,F,hch⟩:=hw
 have CA:=Lib.hid (all_any hch)
 have hni:(i:Int) < (s.roles.length:Int):=by omega
 have hnk:(k:Int) < (s.roles.length:Int):=by omega
 have hq:((i:Int) == (k:Int))=false:=by rw[beq_eq_false_iff_ne];omega
 obtain⟨m,hm⟩:∃ m,s.roles.length=m:=⟨_,rfl⟩
 rw[hm] at hni hnk x2 w0
 obtain⟨L,hL⟩:∃ L,x.way i k=L:=⟨_,rfl⟩
 rw[hL] at CA ⊢
 clear hch hx hi hk hne hm hL
 go_enter Tryz.func159,Tryz.ntmps159
 go_wp2_with (first
  | (go_at_call 54;go_must (refine C1.out.mono ?_;rintro e w' ⟨rfl,rfl⟩))
  | (go_at_call 158;go_must (first
   | (refine C2.out.mono ?_;clear C2;rintro e w' ⟨rfl,rfl⟩)
   | (refine C3.out.mono ?_;clear C3;rintro e w' ⟨rfl,rfl⟩)))
  | (go_at_call 101;go_must (refine CA.out.mono ?_;rintro e w2 ⟨v,rfl,hr⟩;obtain⟨ao,cp,rfl,-,-⟩:=hr.1.shape;have HR:=Lib.hid hr;clear hr)))
 go_ret2
 exact⟨_,rfl,_,rfl,HR.out⟩
end Go.Proofs.YtemjlpahohmajaaGreat
