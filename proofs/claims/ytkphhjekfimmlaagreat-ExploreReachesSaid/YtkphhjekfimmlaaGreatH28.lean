/- Part of the proof. -/
import Derived.Test.YtkphhjekfimmlaaGreatH10
import Derived.Test.YtkphhjekfimmlaaGreatH24
import Derived.Test.YtkphhjekfimmlaaGreatH01
import Derived.RangeFuncNested
import Derived.RangeFuncLeaves
import Derived.RangeFuncCalls
set_option linter.all false
namespace Go.Proofs.YtkphhjekfimmlaaGreat
open Go
section
variable {s:SesD} {x:PS}
theorem mem_hits {m:ByteArray} {i k:Nat} {l:List (Nat × ByteArray)} {v:Mv}:v∈hits m i k l↔∃ e∈l,e.2=m∧v=⟨1,i,k,e.1⟩:=by
 unfold hits
 rw[List.mem_filterMap]
 constructor
 ·rintro⟨e,he,h⟩
  split at h
  ·rename_i h2;exact⟨e,he,h2,by simpa using h.symm⟩
  ·cases h
 ·rintro⟨e,he,h2,rfl⟩
  exact⟨e,he,by rw[if_pos h2]⟩
theorem mem_movesP {v:Mv}:v∈movesP s x↔(∃ i k,i < s.roles.length∧k < (s.rol i).steps.length∧v∈stepMv s x i k)∨(∃ i k,i < s.roles.length∧k < s.roles.length∧v∈loseMv s x i k):=by
 unfold movesP
 rw[List.mem_append,mem_cat,mem_cat]
 simp only[mem_cat]
 constructor
 ·rintro(⟨i,h1,k,h2,h3⟩ | ⟨i,h1,k,h2,h3⟩)
  ·exact .inl ⟨i,k,h1,h2,h3⟩
  ·exact .inr ⟨i,k,h1,h2,h3⟩
 ·rintro(⟨i,k,h1,h2,h3⟩ | ⟨i,k,h1,h2,h3⟩)
  ·exact .inl ⟨i,h1,k,h2,h3⟩
  ·exact .inr ⟨i,h1,k,h2,h3⟩
theorem mem_stepMv {v:Mv} {i k:Nat} (h:v∈stepMv s x i k):v.kind=1∧v.role=i∧v.step=k∧possB s x i k=true ∧
  (((s.rol i).stp k).kind=2→∃ p:Nat,v.place=p∧(p,((s.rol i).stp k).msg)∈chlK s.cls (x.way (peerN s ((s.rol i).stp k)) i) (x.way (peerN s ((s.rol i).stp k)) i).length) ∧
  (((s.rol i).stp k).kind≠2→v.place=0)∧(((s.rol i).stp k).kind=1→((x.way i (peerN s ((s.rol i).stp k))).length:Int) < s.cap):=by
 unfold stepMv at h
 cases hp:possB s x i k with
 | false=>rw[if_pos hp] at h;cases h
 | true =>
   rw[if_neg (by rw[hp];decide)] at h
   by_cases h2:((s.rol i).stp k).kind=2
   ·rw[if_pos h2] at h
    obtain⟨e,he,e2,rfl⟩:=mem_hits.1 h
    exact⟨rfl,rfl,rfl,rfl,fun _=>⟨e.1,rfl,by rw[← e2];exact he⟩,fun h3=>absurd h2 h3,fun h3=>by rw[h2] at h3;cases h3⟩
   ·rw[if_neg h2] at h
    split at h
    ·cases h
    ·rename_i h3
     simp only[List.mem_singleton] at h
     subst h
     exact⟨rfl,rfl,rfl,rfl,fun h4=>absurd h4 h2,fun _=>rfl,fun h4=>by
      rcases Int.lt_or_le ((x.way i (peerN s ((s.rol i).stp k))).length:Int) s.cap with h5 | h5
      ·exact h5
      ·exact absurd ⟨h4,h5⟩ h3⟩
theorem mem_loseMv {v:Mv} {i k:Nat}:v∈loseMv s x i k↔v=⟨2,i,k,0⟩∧s.cls=3∧0 < (x.way i k).length:=by
 unfold loseMv
 split
 ·rename_i h;simp[h]
 ·rename_i h
  exact⟨fun h1=>absurd h1 (by simp),fun h1=>absurd h1.2 h⟩
theorem takeL_mem {cls:Int} {L:List ByteArray} {p:Int}:(takeL cls L p).length≤L.length∧∀ m∈takeL cls L p,m∈L:=by
 unfold takeL
 split
 ·exact⟨List.length_eraseIdx_le _ _,fun m hm=>List.mem_of_mem_eraseIdx hm⟩
 ·exact⟨Nat.le_refl _,fun m hm=>hm⟩
theorem loseL_mem {cls:Int} {L:List ByteArray}:(loseL cls L).length≤L.length∧∀ m∈loseL cls L,m∈L:=by
 unfold loseL
 split
 ·exact takeL_mem
 ·exact⟨Nat.le_refl _,fun m hm=>hm⟩
theorem bank_at (h:SesOk s) (hx:PSok s x) {i k:Nat} (hi:i < s.roles.length) (hk:k < (s.rol i).steps.length) :
  (bankDo (s.rol i).ctrs (x.bank i) ((s.rol i).stp k)).length=(s.rol i).ctrs.length ∧
  (bankOk (s.rol i).ctrs (x.bank i) ((s.rol i).stp k)=true→∀ (j:Nat) (c:CtrD),(s.rol i).ctrs[j]?=some c→0≤(bankDo (s.rol i).ctrs (x.bank i) ((s.rol i).stp k)).getD j 0∧(bankDo (s.rol i).ctrs (x.bank i) ((s.rol i).stp k)).getD j 0≤c.lim):=by
 obtain⟨hl,hb⟩:=hx.vb i hi
 unfold bankDo bankOk
 by_cases he:((s.rol i).stp k).ctr=emptyS
 ·rw[if_pos he];exact⟨hl,fun _=>hb⟩
 ·rw[if_neg he,if_neg he]
  refine⟨by rw[List.length_set];exact hl,fun hok j c hj=>?_⟩
  obtain⟨n,d,e1,e2,-⟩:=(h.stp hi hk).ctr he
  rw[e1] at hok ⊢
  simp only[Int.toNat_natCast,Bool.and_eq_true] at hok ⊢
  rw[List.getD_eq_getElem?_getD,List.getElem?_set]
  by_cases hn:n=j
  ·subst hn
   have hlt:=lt_of_some hj
   rw[if_pos rfl,if_pos (by omega)]
   have hdc:(s.rol i).ctrs.getD n dC=c:=getD_some hj
   rw[hdc] at hok
   have h2:=hok.2
   simp only[allowsV,Bool.and_eq_true,decide_eq_true_eq] at h2
   simp only[Option.getD_some]
   constructor <;> omega
  ·rw[if_neg hn,← List.getD_eq_getElem?_getD]
   exact hb j c hj
theorem next_ok (h:SesOk s) (hx:PSok s x) {v:Mv} (hv:v∈movesP s x):PSok s (nextP s x v):=by
 rcases mem_movesP.1 hv with ⟨i,k,hi,hk,hm⟩ | ⟨i,k,hi,hk,hm⟩
 ·obtain⟨e1,e2,e3,e4,e5,e6,e7⟩:=mem_stepMv hm
  have hst:=h.stp hi hk
  obtain⟨bl,bb⟩:=bank_at h hx hi hk
  have hp:bankOk (s.rol i).ctrs (x.bank i) ((s.rol i).stp k)=true:=by
   unfold possB at e4;rw[Bool.and_eq_true] at e4;exact e4.1
  have bb:=bb hp
  have h0:∀ ws,PSok s { x with ways:=ws }→PSok s { pos:=x.pos.set i (stIx (s.rol i) ((s.rol i).stp k).to).toNat,vals:=x.vals.set i (bankDo (s.rol i).ctrs (x.bank i) ((s.rol i).stp k)),ways:=ws }:=by
   intro ws hw
   refine⟨by simpa using hx.pl,fun j hj=>?_,by simpa using hx.vl,fun j hj=>?_,hw.wl,hw.wr,hw.wb,hw.wd⟩
   ·show (x.pos.set i _).getD j 0 < _
    rw[List.getD_eq_getElem?_getD,List.getElem?_set]
    by_cases e:i=j
    ·subst e
     rw[if_pos rfl,if_pos (by rw[hx.pl];exact hi)]
     obtain⟨q,hq,hql⟩:=ixf_nat hst.to
     have e':stIx (s.rol i) ((s.rol i).stp k).to=q:=hq
     rw[e']
     simpa using hql
    ·rw[if_neg e,← List.getD_eq_getElem?_getD];exact hx.pb j hj
   ·show ((x.vals.set i _).getD j []).length=_∧∀ (k:Nat) (c:CtrD),_→0≤((x.vals.set i _).getD j []).getD k 0∧((x.vals.set i _).getD j []).getD k 0≤_
    have e9:(x.vals.set i (bankDo (s.rol i).ctrs (x.bank i) ((s.rol i).stp k))).getD j []=if i=j then bankDo (s.rol i).ctrs (x.bank i) ((s.rol i).stp k) else x.bank j:=by
     rw[List.getD_eq_getElem?_getD,List.getElem?_set]
     by_cases e:i=j
     ·subst e;rw[if_pos rfl,if_pos (by rw[hx.vl];exact hi),if_pos rfl];rfl
     ·rw[if_neg e,if_neg e,← List.getD_eq_getElem?_getD];rfl
    rw[e9]
    by_cases e:i=j
    ·subst e;rw[if_pos rfl];exact⟨bl,bb⟩
    ·rw[if_neg e];exact hx.vb j hj
  unfold nextP
  rw[if_neg (by rw[e1];decide),e2,e3,Int.toNat_natCast,Int.toNat_natCast]
  apply h0
  by_cases k1:((s.rol i).stp k).kind=1
  ·rw[if_pos k1]
   obtain⟨-,p1,p2⟩:=h.peer hi hk (by omega)
   refine hx.set hi p1 (fun e=>p2 e.symm) ?_
   obtain⟨w1,w2⟩:=hx.wb i _ hi p1
   unfold putL
   split
   ·refine⟨by rw[List.length_append];simp;have:=e7 k1;omega,fun m hm=>?_⟩
    rcases List.mem_append.1 hm with hm | hm
    ·exact w2 m hm
    ·rw[List.mem_singleton] at hm;subst hm;exact hst.msg (by omega)
   ·exact⟨w1,w2⟩
  ·rw[if_neg k1]
   by_cases k2:((s.rol i).stp k).kind=2
   ·rw[if_pos k2]
    obtain⟨-,p1,p2⟩:=h.peer hi hk (by omega)
    refine hx.set p1 hi p2 ?_
    obtain⟨w1,w2⟩:=hx.wb _ i p1 hi
    have:=takeL_mem (cls:=s.cls) (L:=x.way (peerN s ((s.rol i).stp k)) i) (p:=v.place)
    exact⟨by omega,fun m hm=>w2 m (this.2 m hm)⟩
   ·rw[if_neg k2];exact hx
 ·obtain⟨rfl,e2,e3⟩:=mem_loseMv.1 hm
  unfold nextP
  rw[if_pos rfl,Int.toNat_natCast,Int.toNat_natCast]
  have hne:i≠k:=fun e=>by subst e;rw[hx.wd] at e3;simp at e3
  refine hx.set hi hk hne ?_
  obtain⟨w1,w2⟩:=hx.wb i k hi hk
  have:=loseL_mem (cls:=s.cls) (L:=x.way i k)
  exact⟨by omega,fun m hm=>w2 m (this.2 m hm)⟩
theorem first_way (s:SesD) (i k:Nat):(firstP s).way i k=[]:=by
 show ((s.roles.map fun _=>s.roles.map fun _=>([]:List ByteArray)).getD i []).getD k []=[]
 simp only[List.getD_eq_getElem?_getD,List.getElem?_map]
 cases s.roles[i]? with
 | none=>simp
 | some r=>simp only[Option.map_some,Option.getD_some,List.getElem?_map];cases s.roles[k]? <;> simp
theorem first_ok (h:SesOk s):PSok s (firstP s):=by
 refine⟨by simp[firstP],fun i hi=>?_,by simp[firstP],fun i hi=>?_,by simp[firstP],fun i hi=>?_,fun i k _ _=>?_,fun i=>first_way s i i⟩
 ·have e:(firstP s).at i=0:=by
   show (s.roles.map fun _=>0).getD i 0=0
   simp only[List.getD_eq_getElem?_getD,List.getElem?_map];cases s.roles[i]? <;> simp
  rw[e]
  exact(h.at hi).s1
 ·have e:(firstP s).bank i=(s.rol i).ctrs.map fun _=>0:=by
   show (s.roles.map fun r=>r.ctrs.map fun _=>(0:Int)).getD i []=_
   rw[List.getD_eq_getElem?_getD,List.getElem?_map,SesD.rol_some hi];rfl
  rw[e]
  refine⟨by simp,fun k c hc=>?_⟩
  have:=(h.at hi).cN c (List.mem_of_getElem? hc)
  rw[List.getD_eq_getElem?_getD,List.getElem?_map,hc]
  exact⟨by simp,by simp;omega⟩
 ·show ((s.roles.map fun _=>s.roles.map fun _=>([]:List ByteArray)).getD i []).length=_
  rw[List.getD_eq_getElem?_getD,List.getElem?_map,SesD.rol_some hi];simp
 ·rw[first_way];exact⟨by simp;have:=h.k1;omega,by simp⟩
theorem if_iff {α:Type} {p q:Prop} [Decidable p] [Decidable q] (h:p↔q) (a b:α):(if p then a else b)=if q then a else b:=by
 by_cases hp:p
 ·rw[if_pos hp,if_pos (h.1 hp)]
 ·rw[if_neg hp,if_neg (fun hq=>hp (h.2 hq))]
end
end Go.Proofs.YtkphhjekfimmlaaGreat
namespace Go.Proofs.YtkphhjekfimmlaaGreat
open Go.RowKit Go.BigFrame
theorem few_any {α:Type} (p:Nat→α→Bool) (d:α) (l:List α) (least most:Nat):(l.length < least∨most < l.length∨anyIx p 0 l=true)↔0≤fewI l.length least most (fun i=>p i (l.getD i d)):=by
 rw[fewI_iff (by omega)]
 have e:(∃ i,i < l.length∧p i (l.getD i d)=true)↔anyIx p 0 l=true:=by
  rw[anyIx_iff]
  constructor
  ·rintro⟨i,h1,h2⟩
   exact⟨i,l.getD i d,some_getD h1,by rw[Nat.zero_add];exact h2⟩
  ·rintro⟨i,x,h1,h2⟩
   rw[Nat.zero_add] at h2
   exact⟨i,lt_of_some h1,by rw[getD_some h1];exact h2⟩
 rw[e]
 have e1:(l.length < least)↔((l.length:Int) < (least:Int)):=by omega
 have e2:(most < l.length)↔((most:Int) < (l.length:Int)):=by omega
 rw[e1,e2]
def fewC (r:RolD):Int:=fewI r.ctrs.length 0 4 (fun i=>ctrBad r i (r.ctrs.getD i dC))
def fewS (r:RolD):Int:=fewI r.sts.length 1 24 (fun i=>stBad r i (r.sts.getD i dS))
def fewT (r:RolD):Int:=fewI r.steps.length 0 80 (fun i=>!stepB r i (r.steps.getD i dT))
theorem ck_few (r:RolD):ckRole r=if nameB r.name=false then 290 else if 0≤fewC r then 291 else if 0≤fewS r then 292 else if 0≤fewT r then 293 else 0:=by
 have h1:=few_any (ctrBad r) dC r.ctrs 0 4
 have h2:=few_any (stBad r) dS r.sts 1 24
 have h3:=few_any (fun i s=>!stepB r i s) dT r.steps 0 80
 have g1:(4 < r.ctrs.length∨anyIx (ctrBad r) 0 r.ctrs=true)↔0≤fewC r:=by
  refine Iff.trans ?_ h1
  constructor
  ·exact fun h=>.inr h
  ·rintro(h | h)
   ·omega
   ·exact h
 have g3:(80 < r.steps.length∨anyIx (fun i s=>!stepB r i s) 0 r.steps=true)↔0≤fewT r:=by
  refine Iff.trans ?_ h3
  constructor
  ·exact fun h=>.inr h
  ·rintro(h | h)
   ·omega
   ·exact h
 have g2:(r.sts.length < 1∨24 < r.sts.length∨anyIx (stBad r) 0 r.sts=true)↔0≤fewS r:=h2
 unfold ckRole
 rw[if_iff g1,if_iff g2,if_iff g3]
theorem fewC_neg {r:RolD} (h:fewC r < 0):r.ctrs.length≤4∧∀ c∈r.ctrs,1≤c.lim∧c.lim≤1000:=by
 have h1:¬ 0≤fewC r:=by omega
 rw[show (0≤fewC r)↔_ from (few_any (ctrBad r) dC r.ctrs 0 4).symm] at h1
 have ha:anyIx (ctrBad r) 0 r.ctrs=false:=by
  cases h2:anyIx (ctrBad r) 0 r.ctrs with
  | false=>rfl
  | true=>exact absurd (.inr (.inr h2)) h1
 have h4:¬ 4 < r.ctrs.length:=fun h2=>h1 (.inr (.inl h2))
 refine⟨by omega,fun c hc=>?_⟩
 obtain⟨k,hk⟩:=List.getElem?_of_mem hc
 have:=(anyIx_false.1 ha) k c hk
 unfold ctrBad at this
 simp only[Bool.or_eq_false_iff,decide_eq_false_iff_not] at this
 omega
end Go.Proofs.YtkphhjekfimmlaaGreat
namespace Go.Proofs.YtkphhjekfimmlaaGreat
open Go.RowKit
def isBook:Obj→Bool | .loop _=>true | .deferred _=>true | _=>false
structure Bk (B:Nat) (w w':World):Prop where
 os:w'.os=w.os
 tape:w'.tape=w.tape
 output:w'.output=w.output
 size:w.heap.size≤w'.heap.size
 block:∀ k o,w.heap[k]?=some o→k < B∨isBook o=false→w'.heap[k]?=some o
def books (w:World):List Nat:=(List.range w.heap.size).filter fun k=>(w.heap[k]?).any isBook
theorem mem_books {w:World} {k:Nat}:k∈books w↔∃ o,w.heap[k]?=some o∧isBook o=true:=by
 unfold books
 rw[List.mem_filter,List.mem_range]
 constructor
 ·rintro⟨hk,h⟩
  rw[Array.getElem?_eq_getElem hk] at h ⊢
  exact⟨_,rfl,by simpa using h⟩
 ·rintro⟨o,ho,hb⟩
  exact⟨lt_of_block ho,by simp[ho,hb]⟩
theorem not_books {w:World} {k:Nat} {o:Obj} (h:w.heap[k]?=some o) (hb:isBook o=false):k∉books w:=fun hk=>by
 obtain⟨o',ho,h1⟩:=mem_books.1 hk
 rw[h] at ho;cases ho;rw[hb] at h1;cases h1
section
variable {B:Nat} {w w' w2:World}
theorem Bk.frm (h:Bk B w w'):Frm (books w) w w':=⟨h.os,h.tape,h.output,h.size,fun k hk hn=>by
 have ho:w.heap[k]?=some (w.heap[k]):=Array.getElem?_eq_getElem hk
 rw[ho]
 refine h.block k _ ho (.inr ?_)
 cases hb:isBook w.heap[k] with
 | false=>rfl
 | true=>exact absurd (mem_books.2 ⟨_,ho,hb⟩) hn⟩
theorem Bk.old {w0:World} (h:Bk B w w') (h0:Frm [] w0 w) (hB:w0.heap.size≤B):Frm [] w0 w':=
 ⟨h.os.trans h0.os,h.tape.trans h0.tape,h.output.trans h0.output,Nat.le_trans h0.size h.size,fun k hk _=>by
  have e:=h0.block k hk (by simp)
  have hk':w0.heap[k]?=some (w0.heap[k]):=Array.getElem?_eq_getElem hk
  rw[hk'] at e ⊢
  exact h.block k _ e (.inl (by omega))⟩
theorem Bk.at {k:Nat} {o:Obj} (h:Bk B w w') (hk:w.heap[k]?=some o) (hb:isBook o=false):w'.heap[k]?=some o:=h.block k o hk (.inr hb)
theorem Frm.bk (h:Frm [] w w') (B:Nat):Bk B w w':=⟨h.os,h.tape,h.output,h.size,fun _ _ hk _=>h.at hk (by simp)⟩
theorem Bk.putObj (w:World) {l:Nat} {o:Obj} (o':Obj) (hl:w.heap[l]?=some o) (ho:isBook o=true) (hB:B≤l):Bk B w (w.putObj l o'):=
 ⟨rfl,rfl,rfl,by simp[World.putObj],fun k o1 hk h1=>by
  have hne:k≠l:=by
   rintro rfl
   rw[hl] at hk;cases hk
   rcases h1 with h1 | h1
   ·omega
   ·rw[ho] at h1;cases h1
  rw[World.putObj_heap_other hne];exact hk⟩
def KB (w w':World):Prop:=∀ (k:Nat) (o:Obj),w.heap[k]?=some o→isBook o=true→w'.heap[k]?=some o
theorem KB.refl (w:World):KB w w:=fun _ _ h _=>h
theorem KB.trans (h:KB w w') (k:KB w' w2):KB w w2:=fun i o hi ho=>k i o (h i o hi ho) ho
theorem KB.frm {F:List Nat} (h:Frm F w w') (hF:∀ x∈F,x∉books w):KB w w':=fun k o hk ho=>h.at hk (fun hx=>hF k hx (mem_books.2 ⟨o,hk,ho⟩))
theorem KB.frm0 (h:Frm [] w w'):KB w w':=KB.frm h (by simp)
end
def Iter {α:Type} (F:Fence) (n:Nat) (P:Program) (g:Nat) (lb:Array Value) (encs:α→Array Value) (R:World→Prop) (xs:List α):Prop:=
 ∀ (l:Nat) (J Jx:List α→World→Prop),
   (∀ pre W W',J pre W→Frm [] W W'→J pre W')→(∀ pre W W',Jx pre W→Frm [] W W'→Jx pre W')→(∀ pre W,J pre W→R W) →
   (∀ pre x rest W,xs=pre ++ x :: rest→J pre W→YieldAt F (n - 1) P l (encs x) W fun e W' =>
    (e=.returned (.bool true)∧J (pre ++ [x]) W')∨(e=.returned (.bool false)∧Jx (pre ++ [x]) W')) →
   ∀ W,J [] W→CallsIn F n P g (#[.func (.yield l) #[] #[]] ++ lb) W fun e W'=>(∃ v,e=.returned v)∧(J xs W'∨∃ pre x rest,xs=pre ++ x :: rest∧Jx (pre ++ [x]) W')
def roundEnd {α:Type} (I:List α→World→Prop) (Ix:Code→List α→World→Prop) (s:List α) (W:World):Exit→Act→World→Prop
 | .normal,_,W'=>KB W W'∧I s W'
 | .ret,_,W'=>KB W W'∧Ix .ret s W'
 | .exit id,_,W'=>KB W W'∧Ix (.exit id) s W'
 | .goto t,_,W'=>KB W W'∧Ix (.goto t) s W'
 | .panic _,_,_=>False
 | .outgrown,_,_=>False
variable {F:Fence} {n:Nat} {P:Program}
theorem wpIn_rangeList {α:Type} {g:Operand} {ps:Array Tmp} {assign body:Code} {Q:Exit→Act→World→Prop} {a:Act} {w:World}
  (hro:F.round=none) (h1:1≤n) {gf:Nat} {lb:Array Value} (hg:a.eval g=.func (.func gf) #[] lb) (hFg:F.fn gf) (eg:∀ args w,(callFunc gf args).run P w=.ok (.enter gf args) w)
  {encs:α→Array Value} {R:World→Prop} {xs:List α} (hit:Iter F (n - 1) P gf lb encs R xs) (hps:∀ x,(encs x).size=ps.size)
  (I:List α→World→Prop) (Ix:Code→List α→World→Prop) (sI:∀ s W W',I s W→Bk w.heap.size W W'→I s W') (sIx:∀ c s W W',Ix c s W→Bk w.heap.size W W'→Ix c s W')
  (hR:∀ s W,I s W→R W) (h0:I [] w)
  (hround:∀ (l:Nat) (pre:List α) (x:α) (rest:List α) (W:World),xs=pre ++ x :: rest→I pre W→w.heap.size≤l→(∃ r,W.heap[l]?=some (.loop r)) →
   assign.wpIn (F.inRound l) (n - 1 - 1) P (Exit.then (fun a' W'=>KB W W'∧∀ W2,Bk w.heap.size W' W2→(∃ r,W2.heap[l]?=some (.loop r))→body.wpIn (F.inRound l) (n - 1 - 1) P (roundEnd I Ix (pre ++ [x]) W2) a' W2) (fun _ _ _=>False))
    { tmps:=(ps.zip (encs x)).foldl (fun t (p,v)=>t.setIfInBounds p v) a.tmps,defers:=[] } W)
  (hdone:∀ (D:Nat) (W:World),w.heap.size≤D→I xs W→W.heap[D]?=some (.deferred (some []))→Q .normal { a with defers:={ target:=.collected D,args:=#[] } :: a.defers } W)
  (hstop:∀ (D:Nat) (c:Code) (pre:List α) (x:α) (rest:List α) (W:World),xs=pre ++ x :: rest→w.heap.size≤D→Ix c (pre ++ [x]) W→W.heap[D]?=some (.deferred (some []))→c.wpIn F n P Q { a with defers:={ target:=.collected D,args:=#[] } :: a.defers } W) :
  (Code.rangeFunc g ps assign body).wpIn F n P Q a w:=by
 refine wpIn_rangeFunc ?_
 intro fn hfn
 rw[hro]
 obtain⟨rec,hrec⟩:∃ rec:LoopState→Option Code→Loop,rec=fun st pe=>{ state:=st,pending:=pe,fn,tmps:=a.tmps,params:=ps,assign,body,defers:=w.heap.size }:=⟨_,rfl⟩
 obtain⟨W1,hW1⟩:∃ W1,(w.alloc (.deferred (some []))).alloc (.loop (rec .ready none))=W1:=⟨_,rfl⟩
 have hL1:W1.heap[w.heap.size + 1]?=some (.loop (rec .ready none)):=by
  rw[← hW1];have:=World.alloc_heap_new (w.alloc (.deferred (some []))) (.loop (rec .ready none));rwa [World.size_alloc] at this
 have hK1:W1.heap[w.heap.size]?=some (.deferred (some [])):=by
  rw[← hW1];exact(Below.heap_alloc _ _ _ (by simp)).trans (World.alloc_heap_new w _)
 have hF1:Frm [] w W1:=by rw[← hW1];exact((Frm.refl _ _).alloc _).alloc _
 have hI1:I [] W1:=sI _ _ _ h0 (hF1.bk _)
 refine⟨w.heap.size + 1,[{ target:=.collected w.heap.size,args:=#[] }],W1,{ target:=.fn (.func gf) lb,args:=#[.func (.yield (w.heap.size + 1)) #[] #[]] },W1,gf,
  #[.func (.yield (w.heap.size + 1)) #[] #[]] ++ lb,W1,?_,?_,?_,?_,fun _=>h1,?_⟩
 ·rw[← hW1,hrec];exact run_enterLoop_outer _ _ _ _ _
 ·simp only[resolve,hg]
  simp[go_sem]
 ·intro f' hf';simp[Target.leads] at hf';subst hf';exact hFg
 ·simp[invoke,go_sem,eg]
 ·refine(hit (w.heap.size + 1)
   (fun pre W=>I pre W∧W.heap[w.heap.size + 1]?=some (.loop (rec .ready none))∧W.heap[w.heap.size]?=some (.deferred (some [])))
   (fun pre W=>∃ c,Ix c pre W∧W.heap[w.heap.size + 1]?=some (.loop (rec .done (some c)))∧W.heap[w.heap.size]?=some (.deferred (some [])))
   (fun pre W W' hJ hf=>⟨sI _ _ _ hJ.1 (hf.bk _),hf.at hJ.2.1 (by simp),hf.at hJ.2.2 (by simp)⟩)
   (fun pre W W' ⟨c,hJ⟩ hf=>⟨c,sIx _ _ _ _ hJ.1 (hf.bk _),hf.at hJ.2.1 (by simp),hf.at hJ.2.2 (by simp)⟩)
   (fun pre W hJ=>hR _ _ hJ.1) ?_ W1 ⟨hI1,hL1,hK1⟩).mono ?_
  ·rintro pre x rest W hxs ⟨hi,hl,hk⟩
   have hy:=run_yield (P:=P) (args:=encs x) hl (by rw[hrec];exact hps x)
   rw[hrec] at hy
   refine⟨fn,_,assign,body,hy,roundIn_of_wpIn hfn (wpIn_mono (hround (w.heap.size + 1) pre x rest W hxs hi (by omega) ⟨_,hl⟩) ?_)⟩
   intro e a' W' hp
   cases e with
   | normal =>
     obtain⟨hkb,hb⟩:=hp
     have hl':=hkb _ _ hl rfl
     have hk':=hkb _ _ hk rfl
     have hlt:w.heap.size + 1 < W'.heap.size:=lt_of_block hl'
     refine⟨_,run_beginRound hl' (by rw[hrec]),?_⟩
     have hl2:(W'.putObj (w.heap.size + 1) (.loop { rec .ready none with state:=.busy })).heap[w.heap.size + 1]?=some (.loop { rec .ready none with state:=.busy }):=World.putObj_heap_same hlt
     have hk2:(W'.putObj (w.heap.size + 1) (.loop { rec .ready none with state:=.busy })).heap[w.heap.size]?=some (.deferred (some [])):=(World.putObj_heap_other (by omega)).trans hk'
     refine wpIn_mono (hb _ (Bk.putObj W' _ hl' rfl (by omega)) ⟨_,hl2⟩) ?_
     have fin:∀ (jump:Option Code) (W3:World),KB (W'.putObj (w.heap.size + 1) (.loop { rec .ready none with state:=.busy })) W3 →
       (Instr.endRound (w.heap.size + 1) jump).run P W3=.ok (.bool jump.isNone) (W3.putObj (w.heap.size + 1) (.loop (rec (if jump.isNone then .ready else .done) jump))) ∧
       Bk w.heap.size W3 (W3.putObj (w.heap.size + 1) (.loop (rec (if jump.isNone then .ready else .done) jump))) ∧
       (W3.putObj (w.heap.size + 1) (.loop (rec (if jump.isNone then .ready else .done) jump))).heap[w.heap.size + 1]?=some (.loop (rec (if jump.isNone then .ready else .done) jump)) ∧
       (W3.putObj (w.heap.size + 1) (.loop (rec (if jump.isNone then .ready else .done) jump))).heap[w.heap.size]?=some (.deferred (some [])):=fun jump W3 hk3=>by
      have hl3:=hk3 _ _ hl2 rfl
      have:=run_endRound (P:=P) jump hl3
      rw[hrec] at this ⊢
      exact⟨this,Bk.putObj W3 _ hl3 rfl (by omega),World.putObj_heap_same (lt_of_block hl3),(World.putObj_heap_other (by omega)).trans (hk3 _ _ hk2 rfl)⟩
     rintro e a3 W3 hp
     cases e with
     | normal =>
       obtain⟨hk3,hi3⟩:=hp
       obtain⟨hr,hb3,hl4,hk4⟩:=fin none W3 hk3
       exact⟨_,_,hr,.inl ⟨rfl,sI _ _ _ hi3 hb3,hl4,hk4⟩⟩
     | ret =>
       obtain⟨hk3,hi3⟩:=hp
       obtain⟨hr,hb3,hl4,hk4⟩:=fin (some .ret) W3 hk3
       exact⟨_,_,hr,.inr ⟨rfl,.ret,sIx _ _ _ _ hi3 hb3,hl4,hk4⟩⟩
     | exit id =>
       obtain⟨hk3,hi3⟩:=hp
       obtain⟨hr,hb3,hl4,hk4⟩:=fin (some (.exit id)) W3 hk3
       exact⟨_,_,hr,.inr ⟨rfl,.exit id,sIx _ _ _ _ hi3 hb3,hl4,hk4⟩⟩
     | goto t =>
       obtain⟨hk3,hi3⟩:=hp
       obtain⟨hr,hb3,hl4,hk4⟩:=fin (some (.goto t)) W3 hk3
       exact⟨_,_,hr,.inr ⟨rfl,.goto t,sIx _ _ _ _ hi3 hb3,hl4,hk4⟩⟩
     | panic ch=>exact hp.elim
     | outgrown=>exact hp.elim
   | ret=>exact hp.elim
   | exit id=>exact hp.elim
   | goto t=>exact hp.elim
   | panic ch=>exact hp.elim
   | outgrown=>exact hp.elim
  ·rintro e W2 ⟨⟨v,rfl⟩,(⟨hi,hl,hk⟩ | ⟨pre,x,rest,hxs,c,hi,hl,hk⟩)⟩
   ·exact⟨none,_,by have:=run_endLoop (P:=P) hl (by rw[hrec];simp);rw[hrec] at this;exact this,hdone _ _ (Nat.le_refl _) (sI _ _ _ hi (by rw[hrec] at hl;exact Bk.putObj W2 _ hl rfl (by omega))) ((World.putObj_heap_other (by omega)).trans hk)⟩
   ·exact⟨some c,_,by have:=run_endLoop (P:=P) hl (by rw[hrec];simp);rw[hrec] at this;exact this,hstop _ c pre x rest _ hxs (Nat.le_refl _) (sIx _ _ _ _ hi (by rw[hrec] at hl;exact Bk.putObj W2 _ hl rfl (by omega))) ((World.putObj_heap_other (by omega)).trans hk)⟩
theorem wp_rangeList {α:Type} {g:Operand} {ps:Array Tmp} {assign body:Code} {Q:Exit→Act→World→Prop} {a:Act} {w:World}
  {gf:Nat} {lb:Array Value} (hg:a.eval g=.func (.func gf) #[] lb) (eg:∀ args w,(callFunc gf args).run P w=.ok (.enter gf args) w)
  {encs:α→Array Value} {R:World→Prop} {xs:List α} (hit:Iter Fence.wide 2 P gf lb encs R xs) (hps:∀ x,(encs x).size=ps.size)
  (I:List α→World→Prop) (Ix:Code→List α→World→Prop) (sI:∀ s W W',I s W→Bk w.heap.size W W'→I s W') (sIx:∀ c s W W',Ix c s W→Bk w.heap.size W W'→Ix c s W')
  (hR:∀ s W,I s W→R W) (h0:I [] w)
  (hround:∀ (l:Nat) (pre:List α) (x:α) (rest:List α) (W:World),xs=pre ++ x :: rest→I pre W→w.heap.size≤l→(∃ r,W.heap[l]?=some (.loop r)) →
   assign.wpIn (Fence.wide.inRound l) 1 P (Exit.then (fun a' W'=>KB W W'∧∀ W2,Bk w.heap.size W' W2→(∃ r,W2.heap[l]?=some (.loop r))→body.wpIn (Fence.wide.inRound l) 1 P (roundEnd I Ix (pre ++ [x]) W2) a' W2) (fun _ _ _=>False))
    { tmps:=(ps.zip (encs x)).foldl (fun t (p,v)=>t.setIfInBounds p v) a.tmps,defers:=[] } W)
  (hdone:∀ (D:Nat) (W:World),w.heap.size≤D→I xs W→W.heap[D]?=some (.deferred (some []))→Q .normal { a with defers:={ target:=.collected D,args:=#[] } :: a.defers } W)
  (hstop:∀ (D:Nat) (c:Code) (pre:List α) (x:α) (rest:List α) (W:World),xs=pre ++ x :: rest→w.heap.size≤D→Ix c (pre ++ [x]) W→W.heap[D]?=some (.deferred (some []))→c.wp P Q { a with defers:={ target:=.collected D,args:=#[] } :: a.defers } W) :
  (Code.rangeFunc g ps assign body).wp P Q a w:=
 wpIn_wide.1 (wpIn_rangeList (F:=Fence.wide) (n:=3) rfl (by omega) hg trivial eg hit hps I Ix sI sIx hR h0 hround hdone (fun D c pre x rest W h1 h2 h3 h4=>wpIn_wide.2 (hstop D c pre x rest W h1 h2 h3 h4)))
theorem calls_of_marks {f:FuncId} {fn:Func} {c:Code} {args:Array Value} {w:World} {R:Ending→World→Prop} (hf:P.funcs[f]?=some fn) (hb:fn.body=some c)
  (h:c.wp P (bodyPostM Fence.wide 3 P fn R) { tmps:=args ++ Array.replicate (fn.ntmps - args.size) undef,defers:=[] } w):Calls P f args w R:=
 callsIn_wide.1 (callsIn_of_wp_marks hf hb trivial (wpIn_wide.2 h) rfl)
theorem Frm.putObj (w:World) (l:Nat) (o:Obj):Frm [l] w (w.putObj l o):=
 ⟨rfl,rfl,rfl,by simp[World.putObj],fun k _ hn=>World.putObj_heap_other (by simpa using hn)⟩
theorem run_equalIn_func (w:World) (d:Nat) (t:TypeId) (ps rs:Array TypeId) (v:Bool) (f:Nat) (lb:Array Value) (hu:P.underlying t=some (.func ps rs v)) :
  (Op.equalIn (d + 1) t (.func (.func f) #[] lb) .nilFunc).run P w=.ok false w:=by
 simp[Op.equalIn,run_underlying hu]
theorem run_eql_func (w:World) (t:TypeId) (ps rs:Array TypeId) (v:Bool) (f:Nat) (lb:Array Value) (hu:P.underlying t=some (.func ps rs v)) :
  (binOp .eql t (.func (.func f) #[] lb) .nilFunc).run P w=.ok (.bool false) w:=by
 simp only[binOp]
 simp[show Op.equal t (.func (.func f) #[] lb) .nilFunc=Op.equalIn (9999 + 1) t (.func (.func f) #[] lb) .nilFunc from rfl,run_equalIn_func w 9999 t ps rs v f lb hu]
end Go.Proofs.YtkphhjekfimmlaaGreat
