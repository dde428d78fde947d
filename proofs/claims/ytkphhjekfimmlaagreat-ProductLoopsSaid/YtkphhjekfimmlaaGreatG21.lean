/- Part of the proof. -/
import Derived.Test.YtkphhjekfimmlaaGreatG07
import Derived.Test.YtkphhjekfimmlaaGreatG17
import Derived.Test.YtkphhjekfimmlaaGreatG20
import Derived.Test.YtkphhjekfimmlaaGreatG10
import Derived.Test.YtkphhjekfimmlaaGreatG19
import Derived.Test.YtkphhjekfimmlaaGreatG08
import Derived.LoopTactic
import Derived.Lib.SliceRun
import Derived.RangeFuncBound
import Derived.TacticsInMore
import Derived.LoopNIn
import Derived.LoopIn
import Derived.Sort.CutIn
import Derived.OrdersIn
import Derived.RangeFuncNested
import Derived.RangeFuncLeaves
import Derived.RangeFuncCalls
import Derived.OwnWalkIn
import Derived.Test.YtkphhjekfimmlaaGreatG02
import Derived.Laws.OwnMore
set_option linter.all false
namespace Go.Proofs.YtkphhjekfimmlaaGreat
open Go
section
variable {s:SesD} {x:PS}
theorem mem_hits {m:ByteArray} {i k:Nat} {l:List (Nat × ByteArray)} {v:Mv}:v∈hits m i k l↔∃ e∈l,e.2=m∧v=⟨1,i,k,e.1⟩:=by
 unfold hits
 rw[List.mem_filterMap]
 constructor
 ·rintro⟨e,he,h⟩
  split at h
  ·rename_i h2;exact⟨e,he,h2,by simpa using h.symm⟩
  ·cases h
 ·rintro⟨e,he,h2,rfl⟩
  exact⟨e,he,by rw[if_pos h2]⟩
theorem mem_movesP {v:Mv}:v∈movesP s x↔(∃ i k,i < s.roles.length∧k < (s.rol i).steps.length∧v∈stepMv s x i k)∨(∃ i k,i < s.roles.length∧k < s.roles.length∧v∈loseMv s x i k):=by
 unfold movesP
 rw[List.mem_append,mem_cat,mem_cat]
 simp only[mem_cat]
 constructor
 ·rintro(⟨i,h1,k,h2,h3⟩ | ⟨i,h1,k,h2,h3⟩)
  ·exact .inl ⟨i,k,h1,h2,h3⟩
  ·exact .inr ⟨i,k,h1,h2,h3⟩
 ·rintro(⟨i,k,h1,h2,h3⟩ | ⟨i,k,h1,h2,h3⟩)
  ·exact .inl ⟨i,h1,k,h2,h3⟩
  ·exact .inr ⟨i,h1,k,h2,h3⟩
theorem mem_stepMv {v:Mv} {i k:Nat} (h:v∈stepMv s x i k):v.kind=1∧v.role=i∧v.step=k∧possB s x i k=true ∧
  (((s.rol i).stp k).kind=2→∃ p:Nat,v.place=p∧(p,((s.rol i).stp k).msg)∈chlK s.cls (x.way (peerN s ((s.rol i).stp k)) i) (x.way (peerN s ((s.rol i).stp k)) i).length) ∧
  (((s.rol i).stp k).kind≠2→v.place=0)∧(((s.rol i).stp k).kind=1→((x.way i (peerN s ((s.rol i).stp k))).length:Int) < s.cap):=by
 unfold stepMv at h
 cases hp:possB s x i k with
 | false=>rw[if_pos hp] at h;cases h
 | true =>
   rw[if_neg (by rw[hp];decide)] at h
   by_cases h2:((s.rol i).stp k).kind=2
   ·rw[if_pos h2] at h
    obtain⟨e,he,e2,rfl⟩:=mem_hits.1 h
    exact⟨rfl,rfl,rfl,rfl,fun _=>⟨e.1,rfl,by rw[← e2];exact he⟩,fun h3=>absurd h2 h3,fun h3=>by rw[h2] at h3;cases h3⟩
   ·rw[if_neg h2] at h
    split at h
    ·cases h
    ·rename_i h3
     simp only[List.mem_singleton] at h
     subst h
     exact⟨rfl,rfl,rfl,rfl,fun h4=>absurd h4 h2,fun _=>rfl,fun h4=>by
      rcases Int.lt_or_le ((x.way i (peerN s ((s.rol i).stp k))).length:Int) s.cap with h5 | h5
      ·exact h5
      ·exact absurd ⟨h4,h5⟩ h3⟩
theorem mem_loseMv {v:Mv} {i k:Nat}:v∈loseMv s x i k↔v=⟨2,i,k,0⟩∧s.cls=3∧0 < (x.way i k).length:=by
 unfold loseMv
 split
 ·rename_i h;simp[h]
 ·rename_i h
  exact⟨fun h1=>absurd h1 (by simp),fun h1=>absurd h1.2 h⟩
theorem takeL_mem {cls:Int} {L:List ByteArray} {p:Int}:(takeL cls L p).length≤L.length∧∀ m∈takeL cls L p,m∈L:=by
 unfold takeL
 split
 ·exact⟨List.length_eraseIdx_le _ _,fun m hm=>List.mem_of_mem_eraseIdx hm⟩
 ·exact⟨Nat.le_refl _,fun m hm=>hm⟩
theorem loseL_mem {cls:Int} {L:List ByteArray}:(loseL cls L).length≤L.length∧∀ m∈loseL cls L,m∈L:=by
 unfold loseL
 split
 ·exact takeL_mem
 ·exact⟨Nat.le_refl _,fun m hm=>hm⟩
theorem bank_at (h:SesOk s) (hx:PSok s x) {i k:Nat} (hi:i < s.roles.length) (hk:k < (s.rol i).steps.length) :
  (bankDo (s.rol i).ctrs (x.bank i) ((s.rol i).stp k)).length=(s.rol i).ctrs.length ∧
  (bankOk (s.rol i).ctrs (x.bank i) ((s.rol i).stp k)=true→∀ (j:Nat) (c:CtrD),(s.rol i).ctrs[j]?=some c→0≤(bankDo (s.rol i).ctrs (x.bank i) ((s.rol i).stp k)).getD j 0∧(bankDo (s.rol i).ctrs (x.bank i) ((s.rol i).stp k)).getD j 0≤c.lim):=by
 obtain⟨hl,hb⟩:=hx.vb i hi
 unfold bankDo bankOk
 by_cases he:((s.rol i).stp k).ctr=emptyS
 ·rw[if_pos he];exact⟨hl,fun _=>hb⟩
 ·rw[if_neg he,if_neg he]
  refine⟨by rw[List.length_set];exact hl,fun hok j c hj=>?_⟩
  obtain⟨n,d,e1,e2,-⟩:=(h.stp hi hk).ctr he
  rw[e1] at hok ⊢
  simp only[Int.toNat_natCast,Bool.and_eq_true] at hok ⊢
  rw[List.getD_eq_getElem?_getD,List.getElem?_set]
  by_cases hn:n=j
  ·subst hn
   have hlt:=lt_of_some hj
   rw[if_pos rfl,if_pos (by omega)]
   have hdc:(s.rol i).ctrs.getD n dC=c:=getD_some hj
   rw[hdc] at hok
   have h2:=hok.2
   simp only[allowsV,Bool.and_eq_true,decide_eq_true_eq] at h2
   simp only[Option.getD_some]
   constructor <;> omega
  ·rw[if_neg hn,← List.getD_eq_getElem?_getD]
   exact hb j c hj
theorem next_ok (h:SesOk s) (hx:PSok s x) {v:Mv} (hv:v∈movesP s x):PSok s (nextP s x v):=by
 rcases mem_movesP.1 hv with ⟨i,k,hi,hk,hm⟩ | ⟨i,k,hi,hk,hm⟩
 ·obtain⟨e1,e2,e3,e4,e5,e6,e7⟩:=mem_stepMv hm
  have hst:=h.stp hi hk
  obtain⟨bl,bb⟩:=bank_at h hx hi hk
  have hp:bankOk (s.rol i).ctrs (x.bank i) ((s.rol i).stp k)=true:=by
   unfold possB at e4;rw[Bool.and_eq_true] at e4;exact e4.1
  have bb:=bb hp
  have h0:∀ ws,PSok s { x with ways:=ws }→PSok s { pos:=x.pos.set i (stIx (s.rol i) ((s.rol i).stp k).to).toNat,vals:=x.vals.set i (bankDo (s.rol i).ctrs (x.bank i) ((s.rol i).stp k)),ways:=ws }:=by
   intro ws hw
   refine⟨by simpa using hx.pl,fun j hj=>?_,by simpa using hx.vl,fun j hj=>?_,hw.wl,hw.wr,hw.wb,hw.wd⟩
   ·show (x.pos.set i _).getD j 0 < _
    rw[List.getD_eq_getElem?_getD,List.getElem?_set]
    by_cases e:i=j
    ·subst e
     rw[if_pos rfl,if_pos (by rw[hx.pl];exact hi)]
     obtain⟨q,hq,hql⟩:=ixf_nat hst.to
     have e':stIx (s.rol i) ((s.rol i).stp k).to=q:=hq
     rw[e']
     simpa using hql
    ·rw[if_neg e,← List.getD_eq_getElem?_getD];exact hx.pb j hj
   ·show ((x.vals.set i _).getD j []).length=_∧∀ (k:Nat) (c:CtrD),_→0≤((x.vals.set i _).getD j []).getD k 0∧((x.vals.set i _).getD j []).getD k 0≤_
    have e9:(x.vals.set i (bankDo (s.rol i).ctrs (x.bank i) ((s.rol i).stp k))).getD j []=if i=j then bankDo (s.rol i).ctrs (x.bank i) ((s.rol i).stp k) else x.bank j:=by
     rw[List.getD_eq_getElem?_getD,List.getElem?_set]
     by_cases e:i=j
     ·subst e;rw[if_pos rfl,if_pos (by rw[hx.vl];exact hi),if_pos rfl];rfl
     ·rw[if_neg e,if_neg e,← List.getD_eq_getElem?_getD];rfl
    rw[e9]
    by_cases e:i=j
    ·subst e;rw[if_pos rfl];exact⟨bl,bb⟩
    ·rw[if_neg e];exact hx.vb j hj
  unfold nextP
  rw[if_neg (by rw[e1];decide),e2,e3,Int.toNat_natCast,Int.toNat_natCast]
  apply h0
  by_cases k1:((s.rol i).stp k).kind=1
  ·rw[if_pos k1]
   obtain⟨-,p1,p2⟩:=h.peer hi hk (by omega)
   refine hx.set hi p1 (fun e=>p2 e.symm) ?_
   obtain⟨w1,w2⟩:=hx.wb i _ hi p1
   unfold putL
   split
   ·refine⟨by rw[List.length_append];simp;have:=e7 k1;omega,fun m hm=>?_⟩
    rcases List.mem_append.1 hm with hm | hm
    ·exact w2 m hm
    ·rw[List.mem_singleton] at hm;subst hm;exact hst.msg (by omega)
   ·exact⟨w1,w2⟩
  ·rw[if_neg k1]
   by_cases k2:((s.rol i).stp k).kind=2
   ·rw[if_pos k2]
    obtain⟨-,p1,p2⟩:=h.peer hi hk (by omega)
    refine hx.set p1 hi p2 ?_
    obtain⟨w1,w2⟩:=hx.wb _ i p1 hi
    have:=takeL_mem (cls:=s.cls) (L:=x.way (peerN s ((s.rol i).stp k)) i) (p:=v.place)
    exact⟨by omega,fun m hm=>w2 m (this.2 m hm)⟩
   ·rw[if_neg k2];exact hx
 ·obtain⟨rfl,e2,e3⟩:=mem_loseMv.1 hm
  unfold nextP
  rw[if_pos rfl,Int.toNat_natCast,Int.toNat_natCast]
  have hne:i≠k:=fun e=>by subst e;rw[hx.wd] at e3;simp at e3
  refine hx.set hi hk hne ?_
  obtain⟨w1,w2⟩:=hx.wb i k hi hk
  have:=loseL_mem (cls:=s.cls) (L:=x.way i k)
  exact⟨by omega,fun m hm=>w2 m (this.2 m hm)⟩
theorem first_way (s:SesD) (i k:Nat):(firstP s).way i k=[]:=by
 show ((s.roles.map fun _=>s.roles.map fun _=>([]:List ByteArray)).getD i []).getD k []=[]
 simp only[List.getD_eq_getElem?_getD,List.getElem?_map]
 cases s.roles[i]? with
 | none=>simp
 | some r=>simp only[Option.map_some,Option.getD_some,List.getElem?_map];cases s.roles[k]? <;> simp
theorem first_ok (h:SesOk s):PSok s (firstP s):=by
 refine⟨by simp[firstP],fun i hi=>?_,by simp[firstP],fun i hi=>?_,by simp[firstP],fun i hi=>?_,fun i k _ _=>?_,fun i=>first_way s i i⟩
 ·have e:(firstP s).at i=0:=by
   show (s.roles.map fun _=>0).getD i 0=0
   simp only[List.getD_eq_getElem?_getD,List.getElem?_map];cases s.roles[i]? <;> simp
  rw[e]
  exact(h.at hi).s1
 ·have e:(firstP s).bank i=(s.rol i).ctrs.map fun _=>0:=by
   show (s.roles.map fun r=>r.ctrs.map fun _=>(0:Int)).getD i []=_
   rw[List.getD_eq_getElem?_getD,List.getElem?_map,SesD.rol_some hi];rfl
  rw[e]
  refine⟨by simp,fun k c hc=>?_⟩
  have:=(h.at hi).cN c (List.mem_of_getElem? hc)
  rw[List.getD_eq_getElem?_getD,List.getElem?_map,hc]
  exact⟨by simp,by simp;omega⟩
 ·show ((s.roles.map fun _=>s.roles.map fun _=>([]:List ByteArray)).getD i []).length=_
  rw[List.getD_eq_getElem?_getD,List.getElem?_map,SesD.rol_some hi];simp
 ·rw[first_way];exact⟨by simp;have:=h.k1;omega,by simp⟩
theorem chl_iff {cls:Int} {L:List ByteArray} {p:Nat} {m:ByteArray}:(p,m)∈chlK cls L L.length↔takeOk cls L p=true∧takeM cls L p=m:=by
 have h1:(p,m)∈chlK cls L L.length↔p < L.length∧chc cls L p=true∧L.getD p ByteArray.empty=m:=by
  constructor
  ·intro h
   obtain⟨e1,e2⟩:=mem_chl _ h
   have:=(mem_chp L.length).1 (show p∈chp cls L L.length from List.mem_map.2 ⟨_,h,rfl⟩)
   exact⟨e1,this.2,e2.symm⟩
  ·rintro⟨e1,e2,rfl⟩
   obtain⟨rest,hr⟩:=chl_split e1 e2
   rw[hr];simp
 have h2:takeOk cls L p=true↔p < L.length∧chc cls L p=true:=by
  unfold takeOk
  simp
 rw[h1,h2]
 constructor
 ·rintro⟨e1,e2,e3⟩
  refine⟨⟨e1,e2⟩,?_⟩
  unfold takeM
  rw[if_pos (h2.2 ⟨e1,e2⟩)]
  simpa using e3
 ·rintro⟨⟨e1,e2⟩,e3⟩
  refine⟨e1,e2,?_⟩
  unfold takeM at e3
  rw[if_pos (h2.2 ⟨e1,e2⟩)] at e3
  simpa using e3
theorem step_iff {i k:Nat} {p:Int}:(⟨1,i,k,p⟩:Mv)∈stepMv s x i k↔possB s x i k=true ∧
  (if ((s.rol i).stp k).kind=2 then takeE s.cls (x.way (peerN s ((s.rol i).stp k)) i) p=0∧takeM s.cls (x.way (peerN s ((s.rol i).stp k)) i) p=((s.rol i).stp k).msg
   else p=0∧(((s.rol i).stp k).kind=1→((x.way i (peerN s ((s.rol i).stp k))).length:Int) < s.cap)):=by
 constructor
 ·intro h
  obtain⟨-,-,-,e4,e5,e6,e7⟩:=mem_stepMv h
  refine⟨e4,?_⟩
  split
  ·rename_i h2
   obtain⟨q,hq,hm⟩:=e5 h2
   obtain rfl:p=q:=hq
   obtain⟨h3,h4⟩:=chl_iff.1 hm
   exact⟨by unfold takeE;rw[if_pos h3],h4⟩
  ·rename_i h2
   exact⟨e6 h2,e7⟩
 ·rintro⟨h1,h2⟩
  unfold stepMv
  rw[if_neg (by rw[h1];decide)]
  split at h2
  ·rename_i k2
   rw[if_pos k2,mem_hits]
   have ho:takeOk s.cls (x.way (peerN s ((s.rol i).stp k)) i) p=true:=by
    have:=h2.1
    unfold takeE at this
    split at this
    ·assumption
    ·cases this
   have hp:0≤p:=by
    have h3:=ho
    unfold takeOk at h3
    simp only[Bool.and_eq_true,decide_eq_true_eq] at h3
    exact h3.1.1
   obtain⟨q,rfl⟩:=Int.eq_ofNat_of_zero_le hp
   exact⟨_,chl_iff.2 ⟨ho,h2.2⟩,rfl,rfl⟩
  ·rename_i k2
   obtain⟨rfl,h3⟩:=h2
   rw[if_neg k2,if_neg (fun h4=>by have:=h3 h4.1;omega)]
   simp
def doB (s:SesD) (x:PS) (v:Mv):Bool:=
 if v.role < 0∨(s.roles.length:Int)≤v.role∨v.step < 0 then false
 else if v.kind=2 then
  (if (s.roles.length:Int)≤v.step∨v.step=v.role∨v.place≠0 then false else decide (loseE s.cls (x.way v.role.toNat v.step.toNat)=0))
 else if v.kind≠1∨((s.rol v.role.toNat).steps.length:Int)≤v.step then false
 else if possB s x v.role.toNat v.step.toNat=false then false
 else if ((s.rol v.role.toNat).stp v.step.toNat).kind=2 then
  decide (takeE s.cls (x.way (peerN s ((s.rol v.role.toNat).stp v.step.toNat)) v.role.toNat) v.place=0∧takeM s.cls (x.way (peerN s ((s.rol v.role.toNat).stp v.step.toNat)) v.role.toNat) v.place=((s.rol v.role.toNat).stp v.step.toNat).msg)
 else if ((s.rol v.role.toNat).stp v.step.toNat).kind=1 then
  decide (putE s.cap (x.way v.role.toNat (peerN s ((s.rol v.role.toNat).stp v.step.toNat))) ((s.rol v.role.toNat).stp v.step.toNat).msg=0∧v.place=0)
 else decide (v.place=0)
theorem lose_iff {cls:Int} {L:List ByteArray}:loseE cls L=0↔cls=3∧0 < L.length:=by
 unfold loseE
 by_cases h:cls=3
 ·subst h
  rw[if_pos rfl]
  unfold takeE takeOk
  cases L with
  | nil=>simp
  | cons a L=>simp[chc]
 ·rw[if_neg h];simp[h]
theorem put_iff (h:SesOk s) (hx:PSok s x) {i k:Nat} (hi:i < s.roles.length) (hk:k < (s.rol i).steps.length) (k1:((s.rol i).stp k).kind=1) :
  putE s.cap (x.way i (peerN s ((s.rol i).stp k))) ((s.rol i).stp k).msg=0↔((x.way i (peerN s ((s.rol i).stp k))).length:Int) < s.cap:=by
 have hm:=(h.stp hi hk).msg (by omega)
 obtain⟨-,p1,-⟩:=h.peer hi hk (by omega)
 have hw:=(hx.wb i _ hi p1).1
 unfold putE
 rw[if_neg (by omega)]
 split
 ·rename_i e;simp;omega
 ·rename_i e;simp;omega
theorem do_iff (h:SesOk s) (hx:PSok s x) (v:Mv):doB s x v=true↔v∈movesP s x:=by
 rw[mem_movesP]
 constructor
 ·intro hd
  unfold doB at hd
  by_cases h1:v.role < 0∨(s.roles.length:Int)≤v.role∨v.step < 0
  ·rw[if_pos h1] at hd;cases hd
  ·rw[if_neg h1] at hd
   obtain⟨i,hi⟩:=Int.eq_ofNat_of_zero_le (show 0≤v.role by omega)
   obtain⟨k,hk⟩:=Int.eq_ofNat_of_zero_le (show 0≤v.step by omega)
   obtain⟨vk,vr,vs,vp⟩:=v
   simp only at hi hk h1 hd
   subst hi
   subst hk
   simp only[Int.toNat_natCast] at hd
   by_cases h2:vk=2
   ·subst h2
    rw[if_pos rfl] at hd
    split at hd
    ·cases hd
    ·rename_i h3
     rw[decide_eq_true_eq,lose_iff] at hd
     obtain rfl:vp=0:=by omega
     exact .inr ⟨i,k,by omega,by omega,mem_loseMv.2 ⟨rfl,hd⟩⟩
   ·rw[if_neg h2] at hd
    by_cases h3:vk≠1∨((s.rol i).steps.length:Int)≤k
    ·rw[if_pos h3] at hd;cases hd
    ·rw[if_neg h3] at hd
     obtain rfl:vk=1:=by omega
     have hi:i < s.roles.length:=by omega
     have hk:k < (s.rol i).steps.length:=by omega
     by_cases h4:possB s x i k=false
     ·rw[if_pos h4] at hd;cases hd
     ·rw[if_neg h4] at hd
      refine .inl ⟨i,k,hi,hk,step_iff.2 ⟨by simpa using h4,?_⟩⟩
      by_cases k2:((s.rol i).stp k).kind=2
      ·rw[if_pos k2] at hd ⊢
       exact of_decide_eq_true hd
      ·rw[if_neg k2] at hd ⊢
       by_cases k1:((s.rol i).stp k).kind=1
       ·rw[if_pos k1] at hd
        obtain⟨e1,e2⟩:=of_decide_eq_true hd
        exact⟨e2,fun _=>(put_iff h hx hi hk k1).1 e1⟩
       ·rw[if_neg k1] at hd
        exact⟨of_decide_eq_true hd,fun e=>absurd e k1⟩
 ·rintro(⟨i,k,hi,hk,hm⟩ | ⟨i,k,hi,hk,hm⟩)
  ·obtain⟨e1,e2,e3,-⟩:=mem_stepMv hm
   obtain⟨vk,vr,vs,vp⟩:=v
   simp only at e1 e2 e3
   subst e1
   subst e2
   subst e3
   obtain⟨h4,h5⟩:=step_iff.1 hm
   unfold doB
   rw[if_neg (by simp only;omega),if_neg (by simp),if_neg (by simp only[Int.toNat_natCast];omega)]
   simp only[Int.toNat_natCast]
   rw[if_neg (by rw[h4];decide)]
   by_cases k2:((s.rol i).stp k).kind=2
   ·rw[if_pos k2] at h5 ⊢
    exact decide_eq_true h5
   ·rw[if_neg k2] at h5 ⊢
    by_cases k1:((s.rol i).stp k).kind=1
    ·rw[if_pos k1]
     exact decide_eq_true ⟨(put_iff h hx hi hk k1).2 (h5.2 k1),h5.1⟩
    ·rw[if_neg k1]
     exact decide_eq_true h5.1
  ·obtain⟨rfl,e2,e3⟩:=mem_loseMv.1 hm
   have hne:i≠k:=fun e=>by subst e;rw[hx.wd] at e3;simp at e3
   unfold doB
   rw[if_neg (by simp only;omega),if_pos rfl,if_neg (by simp only;omega)]
   exact decide_eq_true (lose_iff.2 ⟨e2,e3⟩)
def movesR (s:SesD) (x:PS):List Mv:=
 cat (fun i=>cat (fun k=>cat (fun p=>if doB s x ⟨1,i,k,p⟩=true then [⟨1,i,k,p⟩] else []) s.cap.toNat) (s.rol i).steps.length) s.roles.length ++
 cat (fun i=>cat (fun k=>if doB s x ⟨2,i,k,0⟩=true then [⟨2,i,k,0⟩] else []) s.roles.length) s.roles.length
theorem hits_append (m:ByteArray) (i k:Nat) (a b:List (Nat × ByteArray)):hits m i k (a ++ b)=hits m i k a ++ hits m i k b:=by
 unfold hits;rw[List.filterMap_append]
theorem hits_cat (m:ByteArray) (i k:Nat) (cls:Int) (L:List ByteArray):∀ n,n≤L.length →
  hits m i k (chlK cls L n)=cat (fun p=>if takeE cls L p=0∧takeM cls L p=m then [(⟨1,i,k,p⟩:Mv)] else []) n
 | 0,_=>rfl
 | n + 1,h=>by
   rw[chlK,hits_append,cat,hits_cat m i k cls L n (by omega)]
   congr 1
   have ho:takeOk cls L (n:Int)=chc cls L n:=by
    unfold takeOk
    rw[decide_eq_true (by omega)];simp
   cases hc:chc cls L n with
   | true =>
     rw[if_pos rfl]
     unfold takeE takeM
     rw[ho,hc]
     simp[hits]
     split <;> simp[*]
   | false =>
     rw[if_neg (by decide),if_neg]
     ·rfl
     ·unfold takeE;rw[ho,hc];simp
theorem cat_more {α:Type} {f:Nat→List α} {n:Nat}:∀ {m:Nat},n≤m→(∀ k,n≤k→k < m→f k=[])→cat f m=cat f n
 | 0,h,_=>by obtain rfl:n=0:=by omega
             rfl
 | m + 1,h,hn=>by
   by_cases e:n=m + 1
   ·subst e;rfl
   ·rw[cat,hn m (by omega) (by omega),List.append_nil]
    exact cat_more (by omega) (fun k h1 h2=>hn k h1 (by omega))
theorem cat_one {α:Type} {f:Nat→List α} {m:Nat} (h:1≤m) (hn:∀ k,1≤k→k < m→f k=[]):cat f m=f 0:=by
 rw[cat_more h hn];rfl
theorem if_iff {α:Type} {p q:Prop} [Decidable p] [Decidable q] (h:p↔q) (a b:α):(if p then a else b)=if q then a else b:=by
 by_cases hp:p
 ·rw[if_pos hp,if_pos (h.1 hp)]
 ·rw[if_neg hp,if_neg (fun hq=>hp (h.2 hq))]
theorem doB_step {i k:Nat} {p:Int} (h:SesOk s) (hx:PSok s x) (hi:i < s.roles.length) (hk:k < (s.rol i).steps.length):doB s x ⟨1,i,k,p⟩=true↔(⟨1,i,k,p⟩:Mv)∈stepMv s x i k:=by
 rw[do_iff h hx,mem_movesP]
 constructor
 ·rintro(⟨a,b,-,-,hm⟩ | ⟨a,b,-,-,hm⟩)
  ·obtain⟨-,e2,e3,-⟩:=mem_stepMv hm
   obtain rfl:i=a:=Int.ofNat.inj e2
   obtain rfl:k=b:=Int.ofNat.inj e3
   exact hm
  ·have:=(mem_loseMv.1 hm).1
   cases this
 ·intro hm;exact .inl ⟨i,k,hi,hk,hm⟩
theorem movesR_eq (h:SesOk s) (hx:PSok s x):movesR s x=movesP s x:=by
 unfold movesR movesP
 congr 1
 ·refine cat_congr fun i hi=>cat_congr fun k hk=>?_
  have e1:(fun p:Nat=>if doB s x ⟨1,i,k,p⟩=true then [(⟨1,i,k,p⟩:Mv)] else [])=fun p:Nat=>if (⟨1,i,k,p⟩:Mv)∈stepMv s x i k then [(⟨1,i,k,p⟩:Mv)] else []:=by
   funext p
   exact if_iff (doB_step h hx hi hk) _ _
  rw[e1]
  have hc:=h.k1
  cases hp:possB s x i k with
  | false =>
    rw[show stepMv s x i k=[] by unfold stepMv;rw[if_pos hp]]
    exact cat_nil fun p _=>by simp
  | true =>
    by_cases k2:((s.rol i).stp k).kind=2
    ·obtain⟨-,p1,-⟩:=h.peer hi hk (by omega)
     have hw:=(hx.wb _ i p1 hi).1
     have e2:stepMv s x i k=hits ((s.rol i).stp k).msg i k (chlK s.cls (x.way (peerN s ((s.rol i).stp k)) i) (x.way (peerN s ((s.rol i).stp k)) i).length):=by
      unfold stepMv;rw[if_neg (by rw[hp];decide),if_pos k2]
     have e3:(fun p:Nat=>if (⟨1,i,k,p⟩:Mv)∈stepMv s x i k then [(⟨1,i,k,p⟩:Mv)] else []) =
       fun p:Nat=>if takeE s.cls (x.way (peerN s ((s.rol i).stp k)) i) p=0∧takeM s.cls (x.way (peerN s ((s.rol i).stp k)) i) p=((s.rol i).stp k).msg then [(⟨1,i,k,p⟩:Mv)] else []:=by
      funext p
      refine if_iff ?_ _ _
      rw[step_iff,if_pos k2]
      exact⟨fun h=>h.2,fun h=>⟨hp,h⟩⟩
     rw[e3,e2,hits_cat _ _ _ _ _ _ (Nat.le_refl _)]
     refine cat_more (by omega) (fun p h1 _=>?_)
     rw[if_neg]
     rintro⟨h2,-⟩
     unfold takeE takeOk at h2
     rw[decide_eq_false (by omega)] at h2
     simp at h2
    ·have e3:(fun p:Nat=>if (⟨1,i,k,p⟩:Mv)∈stepMv s x i k then [(⟨1,i,k,p⟩:Mv)] else []) =
       fun p:Nat=>if p=0∧(((s.rol i).stp k).kind=1→((x.way i (peerN s ((s.rol i).stp k))).length:Int) < s.cap) then [(⟨1,i,k,p⟩:Mv)] else []:=by
      funext p
      refine if_iff ?_ _ _
      rw[step_iff,if_neg k2]
      exact⟨fun h=>⟨by have:=h.2.1;omega,h.2.2⟩,fun h=>⟨hp,by have:=h.1;omega,h.2⟩⟩
     rw[e3,cat_one (by omega) (fun p h1 _=>if_neg (by omega))]
     unfold stepMv
     rw[if_neg (c:=possB s x i k=false) (by rw[hp];decide),if_neg k2]
     by_cases h4:((s.rol i).stp k).kind=1∧s.cap≤((x.way i (peerN s ((s.rol i).stp k))).length:Int)
     ·rw[if_pos h4,if_neg (fun h5=>by have:=h5.2 h4.1;omega)]
     ·rw[if_neg h4,if_pos ⟨rfl,fun h5=>by
       rcases Int.lt_or_le ((x.way i (peerN s ((s.rol i).stp k))).length:Int) s.cap with h6 | h6
       ·exact h6
       ·exact absurd ⟨h5,h6⟩ h4⟩]
      rfl
 ·refine cat_congr fun i hi=>cat_congr fun k hk=>?_
  unfold loseMv
  refine if_iff ?_ _ _
  rw[do_iff h hx,mem_movesP]
  constructor
  ·rintro(⟨a,b,-,-,hm⟩ | ⟨a,b,-,-,hm⟩)
   ·have:=(mem_stepMv hm).1
    cases this
   ·obtain⟨e,e2,e3⟩:=mem_loseMv.1 hm
    simp only[Mv.mk.injEq,true_and,and_true] at e
    obtain⟨ea,eb⟩:=e
    obtain rfl:i=a:=by omega
    obtain rfl:k=b:=by omega
    exact⟨e2,e3⟩
  ·intro hm;exact .inr ⟨i,k,hi,hk,mem_loseMv.2 ⟨rfl,hm⟩⟩
end
end Go.Proofs.YtkphhjekfimmlaaGreat
namespace Go.Proofs.YtkphhjekfimmlaaGreat
open Go.RowKit Go.BigFrame
theorem few_any {α:Type} (p:Nat→α→Bool) (d:α) (l:List α) (least most:Nat):(l.length < least∨most < l.length∨anyIx p 0 l=true)↔0≤fewI l.length least most (fun i=>p i (l.getD i d)):=by
 rw[fewI_iff (by omega)]
 have e:(∃ i,i < l.length∧p i (l.getD i d)=true)↔anyIx p 0 l=true:=by
  rw[anyIx_iff]
  constructor
  ·rintro⟨i,h1,h2⟩
   exact⟨i,l.getD i d,some_getD h1,by rw[Nat.zero_add];exact h2⟩
  ·rintro⟨i,x,h1,h2⟩
   rw[Nat.zero_add] at h2
   exact⟨i,lt_of_some h1,by rw[getD_some h1];exact h2⟩
 rw[e]
 have e1:(l.length < least)↔((l.length:Int) < (least:Int)):=by omega
 have e2:(most < l.length)↔((most:Int) < (l.length:Int)):=by omega
 rw[e1,e2]
def fewC (r:RolD):Int:=fewI r.ctrs.length 0 4 (fun i=>ctrBad r i (r.ctrs.getD i dC))
def fewS (r:RolD):Int:=fewI r.sts.length 1 24 (fun i=>stBad r i (r.sts.getD i dS))
def fewT (r:RolD):Int:=fewI r.steps.length 0 80 (fun i=>!stepB r i (r.steps.getD i dT))
theorem ck_few (r:RolD):ckRole r=if nameB r.name=false then 290 else if 0≤fewC r then 291 else if 0≤fewS r then 292 else if 0≤fewT r then 293 else 0:=by
 have h1:=few_any (ctrBad r) dC r.ctrs 0 4
 have h2:=few_any (stBad r) dS r.sts 1 24
 have h3:=few_any (fun i s=>!stepB r i s) dT r.steps 0 80
 have g1:(4 < r.ctrs.length∨anyIx (ctrBad r) 0 r.ctrs=true)↔0≤fewC r:=by
  refine Iff.trans ?_ h1
  constructor
  ·exact fun h=>.inr h
  ·rintro(h | h)
   ·omega
   ·exact h
 have g3:(80 < r.steps.length∨anyIx (fun i s=>!stepB r i s) 0 r.steps=true)↔0≤fewT r:=by
  refine Iff.trans ?_ h3
  constructor
  ·exact fun h=>.inr h
  ·rintro(h | h)
   ·omega
   ·exact h
 have g2:(r.sts.length < 1∨24 < r.sts.length∨anyIx (stBad r) 0 r.sts=true)↔0≤fewS r:=h2
 unfold ckRole
 rw[if_iff g1,if_iff g2,if_iff g3]
theorem fewC_neg {r:RolD} (h:fewC r < 0):r.ctrs.length≤4∧∀ c∈r.ctrs,1≤c.lim∧c.lim≤1000:=by
 have h1:¬ 0≤fewC r:=by omega
 rw[show (0≤fewC r)↔_ from (few_any (ctrBad r) dC r.ctrs 0 4).symm] at h1
 have ha:anyIx (ctrBad r) 0 r.ctrs=false:=by
  cases h2:anyIx (ctrBad r) 0 r.ctrs with
  | false=>rfl
  | true=>exact absurd (.inr (.inr h2)) h1
 have h4:¬ 4 < r.ctrs.length:=fun h2=>h1 (.inr (.inl h2))
 refine⟨by omega,fun c hc=>?_⟩
 obtain⟨k,hk⟩:=List.getElem?_of_mem hc
 have:=(anyIx_false.1 ha) k c hk
 unfold ctrBad at this
 simp only[Bool.or_eq_false_iff,decide_eq_false_iff_not] at this
 omega
end Go.Proofs.YtkphhjekfimmlaaGreat
namespace Go.Proofs.YtkphhjekfimmlaaGreat
open Go.RowKit Go.BigFrame
theorem Lf.cells {W:World} {ao:Option Addr} {cap:Nat} {L:List ByteArray} (h:Lf W (.slice ao L.length cap) L):∀ b,ao=some b→∀ j u,(L.map Value.string)[j]?=some u→W.cell? (b.add j)=some u:=by
 intro b hb j u hu
 obtain⟨ao',cap',hv,hcs⟩:=h.shape
 cases hv
 rw[List.getElem?_map,Option.map_eq_some_iff] at hu
 obtain⟨y,hy,rfl⟩:=hu
 obtain⟨g',hg',e⟩:=hcs j y hy
 rw[hb] at hg'
 cases hg'
 have e1:(⟨g',0,none⟩:Addr).add j=⟨g',j,none⟩:=by simp[Addr.add];exact fun h=>h.symm
 rw[e1];exact e
theorem app_any {ty:TypeId} (b:Nat) (W:World) (hb:W.heap[b]?=some (.cells #[] 9 (0,0))) (sv:Value) (n:Nat) (news:List Value) (hs:Src Tryz.prog 1 86 sv n news W) (hk:0 < n→∃ ad c,sv=.slice (some ad) n c∧∀ j u,news[j]?=some u→W.cell? (ad.add j)=some u) (hn:n≤1000000) :
  ∃ ao cp W',(Builtin.append_ #[86,86] ty #[.slice (some ⟨b,0,none⟩) 0 0,sv]).run Tryz.prog W=.ok (.slice ao n cp) W'∧W'.ownsRow b 9 1 (.slice ao n cp) n news∧W.grownBy W' none:=by
 obtain⟨i0,hi0,hz0,hz1,hz2⟩:=info_parts Tryz.info9
 have hl:=hs.newsLen
 cases n with
 | zero =>
   obtain rfl:news=[]:=List.length_eq_zero_iff.1 (by simpa using hl)
   refine⟨_,_,_,run_append_nothing W 86 86 _ 9 i0 Tryz.underlying86 hi0 (some ⟨b,0,none⟩) 0 0 (Nat.le_refl _) _ (by rw[hz1];exact hs),⟨rfl,.inr ⟨b,0,#[],rfl,Nat.le_refl _,hb,Nat.le_refl _,Nat.zero_le _,rfl,rfl⟩⟩,(Frm.refl [] W).grownNone⟩
 | succ n =>
   obtain⟨ad,c,rfl,hc⟩:=hk (Nat.succ_pos n)
   obtain⟨v',w',hrun,r1,r2⟩:=run_append_arg_grows (P:=Tryz.prog) W 86 ty 9 i0 (.string { data:=#[] }) 1 16 Tryz.underlying86 hi0 hz0 hz1 hz2 rfl (by decide) ⟨b,0,none⟩ 0 0 [] (by simp) (fun j u hu=>by simp at hu) ad (n + 1) c news hl hc (by omega) (by unfold maxLen;omega) (by omega)
   rw[Nat.zero_add,List.nil_append] at r1
   obtain⟨ao,cp,rfl⟩:=own_shape r1
   exact⟨ao,cp,w',hrun,own_low r1 (Nat.le_of_lt (lt_of_block hb)),r2⟩
theorem wpList_append_src {ops:Array Oper} {rest:List Oper} {o:Oper} {a:Act} {Q:Exit→Act→World→Prop} {w:World} (hgd:o.guard=none) (s x:Operand) (ho:o.op=.call { callee:=.builtin .append,args:=#[s,x],argTypes:=#[86,86] })
  (b:Nat) (hs:a.eval s=.slice (some ⟨b,0,none⟩) 0 0) (hb:w.heap[b]?=some (.cells #[] 9 (0,0))) (sv:Value) (hx:a.eval x=sv) (n:Nat) (news:List Value) (hsrc:Src Tryz.prog 1 86 sv n news w)
  (hk:0 < n→∃ ad c,sv=.slice (some ad) n c∧∀ j u,news[j]?=some u→w.cell? (ad.add j)=some u) (hn:n≤1000000)
  (h:∀ ao cp w',w'.ownsRow b 9 1 (.slice ao n cp) n news→w.grownBy w' none→wpList Tryz.prog ops Q rest (a.put o.dst (.slice ao n cp)) w'):wpList Tryz.prog ops Q (o :: rest) a w:=by
 refine wpList_plain hgd fun K hK=>?_
 obtain⟨ao,cp,w',hrun,r1,r2⟩:=app_any b w hb sv n news hsrc hk hn
 have hrun':(Builtin.append_ #[86,86] o.type #[.slice (some ⟨b,0,none⟩) 0 0,sv]).run Tryz.prog w=.ok (.slice ao n cp) w':=hrun
 unfold Oper.wp
 simp[execOp,ho,resolve,invoke,builtin,hs,hx,hrun',Result.andThen]
 exact hK _ _ (h ao cp w' r1 r2)
theorem Lf.src {W:World} {ao:Option Addr} {cap:Nat} {L:List ByteArray} (h:Lf W (.slice ao L.length cap) L):Src Tryz.prog 1 86 (.slice ao L.length cap) L.length (L.map Value.string) W:=by
 cases ao with
 | none =>
   obtain⟨ao',cap',hv,hcs⟩:=h.shape
   cases hv
   have e:L=[]:=by
    cases L with
    | nil=>rfl
    | cons x l=>obtain⟨g,hg,-⟩:=hcs 0 x rfl;cases hg
   subst e
   exact Src.ofNil W Tryz.underlying86 cap
 | some ad=>exact Src.ofSlice W Tryz.underlying86 ad L.length cap _ (by simp) (h.cells ad rfl) (by intro u hu;obtain⟨x,-,rfl⟩:=List.mem_map.1 hu;rfl)
theorem Lf.some_addr {W:World} {ao:Option Addr} {cap:Nat} {L:List ByteArray} (h:Lf W (.slice ao L.length cap) L) (hpos:0 < L.length):∃ ad c,Value.slice ao L.length cap=.slice (some ad) L.length c∧∀ j u,(L.map Value.string)[j]?=some u→W.cell? (ad.add j)=some u:=by
 obtain⟨ao',cap',hv,hcs⟩:=h.shape
 cases hv
 cases L with
 | nil=>simp at hpos
 | cons x l =>
   obtain⟨g,rfl,-⟩:=hcs 0 x rfl
   exact⟨_,_,rfl,h.cells _ rfl⟩
theorem Tryz.info168s:(Tryz.prog.info? 168).map (·.size)=some 3:=by kernel_rfl
theorem results_c2 {fn:Func} {p q:Tmp} (h:fn.results=#[.cell p 168,.tmp q]) {tmps:Array Value} {w:World} {g:Nat} {A:Array Value} {t:TypeId} {v:Value} (hp:tmps.getD p undef=.pointer (some ⟨g,0,none⟩)) (hq:tmps.getD q undef=v) (hg:w.heap[g]?=some (.cells A t (0,0))) (hs:A.size=3) :
  (results fn tmps).run Tryz.prog w=.ok (.tuple #[.agg A,v]) w:=by
 have hp':tmps[p]?.getD undef=.pointer (some ⟨g,0,none⟩):=by simpa using hp
 have hq':tmps[q]?.getD undef=v:=by simpa using hq
 simp[results,h,hp',hq',asAddr,run_loadVar_row w g t 168 A (0,0) _ hg Tryz.underlying168 rfl (by rw[Tryz.info168s,hs])]
theorem results_c3 {fn:Func} {p q r:Tmp} (h:fn.results=#[.cell p 168,.tmp q,.tmp r]) {tmps:Array Value} {w:World} {g:Nat} {A:Array Value} {t:TypeId} {v u:Value} (hp:tmps.getD p undef=.pointer (some ⟨g,0,none⟩)) (hq:tmps.getD q undef=v) (hr:tmps.getD r undef=u) (hg:w.heap[g]?=some (.cells A t (0,0))) (hs:A.size=3) :
  (results fn tmps).run Tryz.prog w=.ok (.tuple #[.agg A,v,u]) w:=by
 have hp':tmps[p]?.getD undef=.pointer (some ⟨g,0,none⟩):=by simpa using hp
 have hq':tmps[q]?.getD undef=v:=by simpa using hq
 have hr':tmps[r]?.getD undef=u:=by simpa using hr
 simp[results,h,hp',hq',hr',asAddr,run_loadVar_row w g t 168 A (0,0) _ hg Tryz.underlying168 rfl (by rw[Tryz.info168s,hs])]
def RfTo (w:World) (cls cap:Int) (lv:Value) (L':List ByteArray) (mk:Value→Value) (v:Value) (w':World):Prop:=
 ∃ lv',v=mk (.agg #[.int .i64 cls,.int .i64 cap,lv'])∧Lf w' lv' L'∧Frm [] w w'∧∀ k,lv'.ownBlock=some k→lv.ownBlock=some k∨w.heap.size≤k
theorem RfTo.same {w w':World} {cls cap:Int} {lv:Value} {L:List ByteArray} {mk:Value→Value} (h:Lf w lv L) (hf:Frm [] w w'):RfTo w cls cap lv L mk (mk (.agg #[.int .i64 cls,.int .i64 cap,lv])) w':=
 ⟨lv,rfl,h.frm hf (by simp),hf,fun _ hk=>.inl hk⟩
theorem one3 (a b:Int) (ao:Option Addr) (n c:Nat):(#[.int .i64 a,.int .i64 b,.slice ao n c]:Array Value).all (·.oneCell')=true:=by
 rw[← Array.all_toList];rfl
theorem ref_mid {w0 w1 wa:World} {p q b n:Nat} {A Z:Array Value} {X:Obj} {v1:Value} {xs:List Value} (hp:w0.heap[p]?=some (.cells A 168 (0,0))) (hq:w0.heap[q]?=some (.cells Z 168 (0,0))) (ho1:w1.ownsRow b 9 1 v1 n xs) (hb:w0.heap.size≤b)
  (hg1:(w0.alloc (.cells #[] 9)).grownBy w1 none) (hg2:(w1.alloc X).grownBy wa v1.ownBlock):wa.heap[p]?=some (.cells A 168 (0,0))∧wa.heap[q]?=some (.cells Z 168 (0,0))∧Frm [] w0 wa:=by
 have hl:=lt_of_block hp
 have hl2:=lt_of_block hq
 refine⟨grown_at hg2 (alloc_at (grown_at hg1 (alloc_at hp) (by simp))) (fun e=>?_),grown_at hg2 (alloc_at (grown_at hg1 (alloc_at hq) (by simp))) (fun e=>?_),
  ((((Frm.refl [] w0).alloc _).grown hg1 (by simp)).alloc _).grown hg2 (fun k hk=>.inr (Nat.le_trans hb (ownBlock_ge ho1 hk)))⟩
 ·have:=ownBlock_ge ho1 e;omega
 ·have:=ownBlock_ge ho1 e;omega
theorem ref_end {w w0 wa W2:World} {p q b n:Nat} {cls cap:Int} {lv v' x:Value} {mk:Value→Value} {L':List ByteArray} (h0:Frm [] w w0) (hp0:w.heap.size≤p) (hq0:w.heap.size≤q) (hpb:p < b) (hqb:q < b) (hf:Frm [] w0 wa)
  (hown:wa.ownsRow b 9 1 v' n (L'.map Value.string)) (hn:n=L'.length) (hf2:Frm [q] (wa.setCell ⟨p,2,none⟩ x) W2):RfTo w cls cap lv L' mk (mk (.agg #[.int .i64 cls,.int .i64 cap,v'])) W2:=by
 subst hn
 have hge:=fun k hk=>ownBlock_ge hown (k:=k) hk
 have hs:Strs wa v' L':=Strs.of_own hown
 have f1:Frm [p] wa (wa.setCell ⟨p,2,none⟩ x):=(Frm.refl [p] wa).setCell _ (.inl (by simp)) _
 refine⟨v',rfl,.inl ((hs.frm f1 (fun k hk hm=>?_)).frm hf2 (fun k hk hm=>?_)),?_,fun k hk=>.inr ?_⟩
 ·have:=hge k hk;simp at hm;omega
 ·have:=hge k hk;simp at hm;omega
 ·exact((h0.trans hf).then f1 (by intro y hy;simp at hy;right;omega)).then hf2 (by intro y hy;simp at hy;right;omega)
 ·have:=hge k hk;omega
set_option maxHeartbeats 1000000 in
set_option maxRecDepth 100000 in
theorem refNew_ok (cls cap:Int) (w:World) (h:okC cls cap=true):Calls Tryz.prog 101 #[.int .i64 cls,.int .i64 cap] w (Ret (.tuple #[.agg #[.int .i64 cls,.int .i64 cap,.slice none 0 0],.int .i64 0]) (Frm [] w)):=by
 unfold okC at h
 rw[decide_eq_true_iff] at h
 obtain⟨h1,h2,h3,h4⟩:=h
 have k1:¬ cls < 1:=by omega
 have k2:¬ 3 < cls:=by omega
 have k3:¬ cap < 1:=by omega
 have k4:¬ 64 < cap:=by omega
 go_enter Tryz.func101,Tryz.ntmps101
 go_wp2
 exact bodyPost_ret (results_c2 rfl rfl rfl (heap_alloc_new _ _) rfl) rfl ⟨rfl,(Frm.refl [] w).alloc _⟩
set_option maxHeartbeats 1000000 in
set_option maxRecDepth 100000 in
theorem refPut_any (cls cap:Int) (lv:Value) (L:List ByteArray) (m:ByteArray) (w:World) (h:Lf w lv L) (hL:L.length≤64) :
  Calls Tryz.prog 87 #[.agg #[.int .i64 cls,.int .i64 cap,lv],.string m] w (RetV (RfTo w cls cap lv (putL cap L m) fun a=>.tuple #[a,.int .i64 (putE cap L m)])):=by
 obtain⟨ao,cp,rfl,-⟩:=h.shape
 have HL:=Lib.hid h
 by_cases h1:m.size < 1
 ·have he:putE cap L m=2:=by simp[putE,h1]
  have q1:(m.size:Int) < 1:=by omega
  rw[putL,he,if_neg (by decide)]
  clear h h1 he
  go_enter Tryz.func87,Tryz.ntmps87
  go_wp2_with (first
   | (refine wpList_load_whole rfl 168 _ rfl _ rfl _ 168 (alloc_at (alloc_top (by simp))) _ Tryz.underlying168 rfl Tryz.info168s ?_))
  exact bodyPost_ret (results_c2 rfl rfl rfl (alloc_top (by simp)) rfl) rfl ⟨_,rfl,RfTo.same HL.out (((Frm.refl [] w).alloc _).alloc _)⟩
 ·by_cases h2:32 < m.size
  ·have he:putE cap L m=2:=by simp[putE,h2]
   have q1:¬ (m.size:Int) < 1:=by omega
   have q2:(32:Int) < (m.size:Int):=by omega
   rw[putL,he,if_neg (by decide)]
   clear h h1 h2 he
   go_enter Tryz.func87,Tryz.ntmps87
   go_wp2_with (first
    | (refine wpList_load_whole rfl 168 _ rfl _ rfl _ 168 (alloc_at (alloc_top (by simp))) _ Tryz.underlying168 rfl Tryz.info168s ?_))
   exact bodyPost_ret (results_c2 rfl rfl rfl (alloc_top (by simp)) rfl) rfl ⟨_,rfl,RfTo.same HL.out (((Frm.refl [] w).alloc _).alloc _)⟩
  ·by_cases h3:(L.length:Int)=cap
   ·have he:putE cap L m=7:=by rw[putE,if_neg (by omega),if_pos h3]
    have q1:¬ (m.size:Int) < 1:=by omega
    have q2:¬ (32:Int) < (m.size:Int):=by omega
    have q3:((L.length:Int) == cap)=true:=by simpa using h3
    rw[putL,he,if_neg (by decide)]
    clear h h1 h2 h3 he
    go_enter Tryz.func87,Tryz.ntmps87
    go_wp2_with (first
     | (refine wpList_load_whole rfl 168 _ rfl _ rfl _ 168 (alloc_at (alloc_top (by simp))) _ Tryz.underlying168 rfl Tryz.info168s ?_))
    exact bodyPost_ret (results_c2 rfl rfl rfl (alloc_top (by simp)) rfl) rfl ⟨_,rfl,RfTo.same HL.out (((Frm.refl [] w).alloc _).alloc _)⟩
   ·have he:putE cap L m=0:=by rw[putE,if_neg (by omega),if_neg h3]
    have q1:¬ (m.size:Int) < 1:=by omega
    have q2:¬ (32:Int) < (m.size:Int):=by omega
    have q3:((L.length:Int) == cap)=false:=by simpa using h3
    rw[putL,he,if_pos rfl]
    clear h h1 h2 h3 he
    obtain⟨i0,hi0,hz0,hz1,hz2⟩:=info_parts Tryz.info9
    go_enter Tryz.func87,Tryz.ntmps87
    go_wp2_with (first
     | (at_builtin;refine wpList_append_src rfl _ _ rfl _ rfl (alloc_top (by simp)) _ rfl L.length _ (HL.out.frm ((((Frm.refl [] w).alloc _).alloc _).alloc _) (by simp)).src (HL.out.frm ((((Frm.refl [] w).alloc _).alloc _).alloc _) (by simp)).some_addr (by omega) ?_;intro ao1 cp1 w1 ho1 hg1;have HO1:=Lib.hid ho1;have HG1:=Lib.hid hg1;clear ho1 hg1)
     | (at_builtin;refine wpList_append_own_at _ rfl _ _ 86 rfl (w.heap.size + 1 + 1) 9 i0 (.string { data:=#[] }) 1 16 Tryz.underlying86 hi0 hz0 hz1 hz2 rfl (by decide) _ _ _ rfl (HO1.out.alloc _) ⟨w1.heap.size,0,none⟩ 1 1 [.string m] rfl rfl (cell_one_new _ _ _) (by simp[Value.oneCell']) (by unfold maxLen;omega) (by omega) (by have:=HG1.out.size;simp at this ⊢;omega) ?_;intro v' wa hown' hgrow hnil hloc;obtain⟨ao2,cp2,rfl⟩:=own_shape hown';have HO2:=Lib.hid hown';have hm:=ref_mid (p:=w.heap.size) (q:=w.heap.size + 1) (alloc_at (alloc_top (by simp))) (alloc_top (by simp)) HO1.out (by simp) HG1.out hgrow;have HM:=Lib.hid hm;have ca:=cell_of hm.1;have fa:=free_of hm.1 2;have ca2:=ca 2;have HB:=Lib.hid (block_setCell hm.1 2 (.slice ao2 (L.length + 1) cp2));have HZ:Hid ((wa.setCell ⟨w.heap.size,2,none⟩ (.slice ao2 (L.length + 1) cp2)).heap[w.heap.size + 1]?=some (.cells #[.int .i64 0,.int .i64 0,.slice none 0 0] 168 (0,0))):=Lib.hid (setCell_at hm.2.1 (by simp) _);clear ca hm hown' hgrow hnil hloc)
     | (refine wpList_load_whole rfl 168 _ rfl _ rfl _ 168 HB.out _ Tryz.underlying168 rfl Tryz.info168s ?_)
     | (refine wpList_store_row rfl 168 _ _ rfl _ _ _ 168 rfl rfl HZ.out rfl Tryz.info168s (one3 _ _ _ _ _) ?_;intro w2 hb2 hf2))
    exact bodyPost_ret (results_c2 rfl rfl rfl hb2 rfl) rfl ⟨_,rfl,ref_end (p:=w.heap.size) (q:=w.heap.size + 1) (b:=w.heap.size + 1 + 1) (L':=L ++ [m]) ((((Frm.refl [] w).alloc _).alloc _)) (Nat.le_refl _) (by omega) (by omega) (by omega) HM.out.2.2 (by simpa using HO2.out) (by simp) hf2⟩
end Go.Proofs.YtkphhjekfimmlaaGreat
namespace Go.Proofs.YtkphhjekfimmlaaGreat
open Go.RowKit Go.BigFrame
theorem lt_of_some' {α:Type} {l:List α} {k:Nat} {x:α} (h:l[k]?=some x):k < l.length:=(List.getElem?_eq_some_iff.1 h).1
theorem first_at {l:List Nat} {p:Nat} (h:p∈l):∃ j:Nat,l[j]?=some p∧∀ i:Nat,i < j→∀ x,l[i]?=some x→x≠p:=by
 induction l with
 | nil=>cases h
 | cons y l ih =>
   by_cases e:y=p
   ·subst e;exact⟨0,rfl,fun i hi=>by omega⟩
   ·obtain⟨j,h1,h2⟩:=ih (by rcases List.mem_cons.1 h with h | h;exact absurd h.symm e;exact h)
    refine⟨j + 1,by simpa using h1,fun i hi x hx=>?_⟩
    cases i with
    | zero=>simp at hx;subst hx;exact e
    | succ i=>exact h2 i (by omega) x (by simpa using hx)
theorem Ints.at {w:World} {ao:Option Addr} {cp n:Nat} {l:List Nat} (h:Ints w (.slice ao n cp) l) {i x:Nat} (hx:l[i]?=some x):∃ g,ao=some ⟨g,0,none⟩∧w.cell? ⟨g,i,none⟩=some (.int .i64 (x:Int)):=by
 have hi:=(List.getElem?_eq_some_iff.1 hx).1
 rcases h.2 with ⟨hv,hn⟩ | ⟨g,c,cur,hv,-,hb,-,-,-,ht⟩
 ·omega
 ·cases hv
  refine⟨g,rfl,?_⟩
  rw[cell_of hb]
  have h1:(cur.toList.take (l.length * 1))[i]?=some (.int .i64 (x:Int)):=by rw[ht];simp[hx]
  rw[List.getElem?_take_of_lt (by omega)] at h1
  simpa using h1
theorem step_append_src {ops:Array Oper} {o:Oper} {a:Act} {w:World} {K:Act→World→Prop} {Q:Exit→Act→World→Prop} {E:Prop} (hgd:o.guard=none) (s x:Operand) (ho:o.op=.call { callee:=.builtin .append,args:=#[s,x],argTypes:=#[86,86] })
  (b:Nat) (hs:a.eval s=.slice (some ⟨b,0,none⟩) 0 0) (hb:w.heap[b]?=some (.cells #[] 9 (0,0))) (sv:Value) (hx:a.eval x=sv) (n:Nat) (news:List Value) (hsrc:Src Tryz.prog 1 86 sv n news w)
  (hk:0 < n→∃ ad c,sv=.slice (some ad) n c∧∀ j u,news[j]?=some u→w.cell? (ad.add j)=some u) (hn:n≤1000000)
  (h:∀ ao cp w',w'.ownsRow b 9 1 (.slice ao n cp) n news→w.grownBy w' none→K (a.put o.dst (.slice ao n cp)) w'):if Region.wanted o (yielded ops a.tmps)=true then Oper.wp Tryz.prog o a w K Q else E:=by
 have hw:Region.wanted o (yielded ops a.tmps)=true:=by simp[Region.wanted,hgd]
 rw[if_pos hw]
 obtain⟨ao,cp,w',hrun,r1,r2⟩:=app_any b w hb sv n news hsrc hk hn
 have hrun':(Builtin.append_ #[86,86] o.type #[.slice (some ⟨b,0,none⟩) 0 0,sv]).run Tryz.prog w=.ok (.slice ao n cp) w':=hrun
 unfold Oper.wp
 simp[execOp,ho,resolve,invoke,builtin,hs,hx,hrun',Result.andThen]
 exact h ao cp w' r1 r2
theorem step_append_own_at {P:Program} {ops:Array Oper} {o:Oper} {a:Act} {w:World} {K:Act→World→Prop} {Q:Exit→Act→World→Prop} {E:Prop} (hgd:o.guard=none) (s x:Operand) (t:TypeId)
  (ho:o.op=.call { callee:=.builtin .append,args:=#[s,x],argTypes:=#[t,t] })
  (base:Nat) (e:TypeId) (i:TypeInfo) (z:Value) (size bytes:Nat) (ht:P.underlying t=some (.slice e)) (hi:P.info? e=some i) (hz:i.zero=some z)
  (hsize:i.size=size) (hby:i.bytes=bytes) (hzs:z.cells.size=size) (hsz:0 < size)
  (v:Value) (n:Nat) (xs:List Value) (hs:a.eval s=v) (hown:w.ownsRow base e size v n xs)
  (ad:Addr) (m c:Nat) (news:List Value) (hx:a.eval x=.slice (some ad) m c) (hl:news.length=m * size) (hnews:∀ j u,news[j]?=some u→w.cell? (ad.add j)=some u) (h1:∀ u∈news,u.oneCell'=true)
  (h63:n + m≤maxLen) (hbytes:(n + m) * bytes≤140737488355328) (hbase:base≤w.heap.size)
  (h:∀ v' w',w'.ownsRow base e size v' (n + m) (xs ++ news)→w.grownBy w' v.ownBlock→K (a.put o.dst v') w') :
  if Region.wanted o (yielded ops a.tmps)=true then Oper.wp P o a w K Q else E:=by
 have hw:Region.wanted o (yielded ops a.tmps)=true:=by simp[Region.wanted,hgd]
 rw[if_pos hw]
 obtain⟨v',w',hr,h2,h3,h4,h5⟩:=run_append_own_at (P:=P) w base t o.type e i z size bytes ht hi hz hsize hby hzs hsz v n xs hown ad m c news hl hnews h1 h63 hbytes hbase
 unfold Oper.wp execOp
 simp only[ho,resolve,invoke,builtin,Sem.run_bind,Sem.run_pure,Result.andThen_ok,List.map_toArray,List.map_cons,List.map_nil,hs,hx,hr]
 exact h v' w' h2 h3
structure TkE (w wr:World) (A:Array Value) (v':Value) (n:Nat) (L':List ByteArray) (wa:World):Prop where
 b:wa.heap[w.heap.size]?=some (.cells A 168 (0,0))
 z:wa.heap[w.heap.size + 1]?=some (.cells #[.int .i64 0,.int .i64 0,.slice none 0 0] 168 (0,0))
 f:Frm [] w wa
 o:wa.ownsRow wr.heap.size 9 1 v' n (L'.map Value.string)
 n:n=L'.length
theorem TkE.mk1 {w wr w1 wa:World} {A:Array Value} {v1 v':Value} {p:Nat} {L:List ByteArray} (hb:w1.heap[w.heap.size]?=some (.cells A 168 (0,0))) (hz:w1.heap[w.heap.size + 1]?=some (.cells #[.int .i64 0,.int .i64 0,.slice none 0 0] 168 (0,0))) (hf:Frm [] w w1)
  (ho:w1.ownsRow wr.heap.size 9 1 v1 p ((L.take p).map Value.string)) (_h1:w.heap.size < wr.heap.size) (h2:w.heap.size + 1 < wr.heap.size)
  (hown:wa.ownsRow wr.heap.size 9 1 v' (p + (L.length - (p + 1))) ((L.take p).map Value.string ++ (L.drop (p + 1)).map Value.string)) (hg:w1.grownBy wa v1.ownBlock) (hp:p < L.length):TkE w wr A v' (p + (L.length - (p + 1))) (L.eraseIdx p) wa:=by
 have hge:=fun k hk=>ownBlock_ge ho (k:=k) hk
 refine⟨grown_at hg hb (fun e=>?_),grown_at hg hz (fun e=>?_),hf.grown hg (fun k hk=>.inr (by have:=hge k hk;omega)),?_,?_⟩
 ·have:=hge _ e;omega
 ·have:=hge _ e;omega
 ·rw[List.eraseIdx_eq_take_drop_succ,List.map_append];exact hown
 ·rw[List.length_eraseIdx_of_lt hp];omega
theorem TkE.mk2 {w wr w1 wa:World} {A:Array Value} {v1 v':Value} {p:Nat} {L:List ByteArray} (hb:w1.heap[w.heap.size]?=some (.cells A 168 (0,0))) (hz:w1.heap[w.heap.size + 1]?=some (.cells #[.int .i64 0,.int .i64 0,.slice none 0 0] 168 (0,0))) (hf:Frm [] w w1)
  (ho:w1.ownsRow wr.heap.size 9 1 v1 p ((L.take p).map Value.string)) (h1:w.heap.size < wr.heap.size) (h2:w.heap.size + 1 < wr.heap.size)
  (hown:wa.ownsRow wr.heap.size 9 1 v' p ((L.take p).map Value.string)) (hg:w1.grownBy wa v1.ownBlock) (hp:p + 1=L.length):TkE w wr A v' p (L.eraseIdx p) wa:=by
 have e:p + (L.length - (p + 1))=p:=by omega
 have h:=TkE.mk1 (v':=v') (L:=L) hb hz hf ho h1 h2 (by rw[e,List.drop_of_length_le (by omega)];simpa using hown) hg (by omega)
 rwa [e] at h
set_option maxHeartbeats 2000000 in
set_option maxRecDepth 100000 in
theorem refTake_any (cls cap:Int) (lv:Value) (L:List ByteArray) (q:Int) (w:World) (h:Lf w lv L) (hL:L.length≤64) :
  Calls Tryz.prog 86 #[.agg #[.int .i64 cls,.int .i64 cap,lv],.int .i64 q] w (RetV (RfTo w cls cap lv (takeL cls L q) fun a=>.tuple #[a,.string (takeM cls L q),.int .i64 (takeE cls L q)])):=by
 obtain⟨ao,cp,rfl,hcs⟩:=h.shape
 have HL:=Lib.hid h
 have CC:=Lib.hid (fun w' (hf:Frm [] w w')=>refChoices_any cls cap _ L w' (h.frm hf (by simp)) hL)
 obtain⟨C,hC⟩:∃ C,chp cls L L.length=C:=⟨_,rfl⟩
 have hCl:C.length≤L.length:=by rw[← hC];exact chp_length _ _ _
 rw[hC] at CC
 clear h
 cases hok:takeOk cls L q with
 | false =>
   have e1:takeL cls L q=L:=by simp[takeL,hok]
   have e2:takeM cls L q={ data:=#[] }:=by simp[takeM,hok]
   have e3:takeE cls L q=9:=by simp[takeE,hok]
   rw[e1,e2,e3]
   have HN:Hid (∀ (i:Nat) (x:Nat),C[i]?=some x→((x:Int) == q)=false):=Lib.hid fun i x hix=>by
    have hx:=List.mem_of_getElem? hix
    rw[← hC] at hx
    obtain⟨h1,h2⟩:=(mem_chp _).1 hx
    rw[beq_eq_false_iff_ne]
    intro e
    have:takeOk cls L q=true:=by
     unfold takeOk
     rw[← e,Bool.and_eq_true,decide_eq_true_iff]
     exact⟨⟨by omega,by omega⟩,by simpa using h2⟩
    rw[hok] at this;cases this
   clear e1 e2 e3 hok hC
   go_enter Tryz.func86,Tryz.ntmps86
   go_wp2_with (first
    | (go_at_call 143;go_must (refine(CC.out _ (((Frm.refl [] w).alloc _).alloc _)).mono ?_;rintro e w1 ⟨v,rfl,hi,hf,hn⟩;obtain⟨ai,ci,rfl⟩:=own_shape hi;have HI:=Lib.hid hi;have HF:=Lib.hid ((((Frm.refl [] w).alloc _).alloc _).trans hf);have HB:=Lib.hid (hf.at (alloc_at (alloc_top (o:=.cells #[.int .i64 cls,.int .i64 cap,.slice ao L.length cp] 168) rfl)) (by simp));have HZ:=Lib.hid (hf.at (alloc_top (o:=.cells #[.int .i64 0,.int .i64 0,.slice none 0 0] 168) (n:=w.heap.size + 1) (by simp)) (by simp));clear hi hf hn)))
   clear CC
   go_loopw [8] (fun s8 wx=>∃ i:Nat,s8=.int .i64 i∧i≤C.length∧wx=w1) (fun s8 _=>C.length - (intOf s8).toNat)
   case atStart=>exact⟨0,rfl,Nat.zero_le _,rfl⟩
   case round =>
    obtain⟨i,rfl,hi,rfl⟩:=hrel
    by_cases hlt:i < C.length
    ·have hlt':(i:Int) < (C.length:Int):=by omega
     obtain⟨x,hx⟩:∃ x,C[i]?=some x:=⟨_,List.getElem?_eq_getElem hlt⟩
     obtain⟨g,rfl,cx⟩:=HI.out.at hx
     have hne:=HN.out i x hx
     clear hx
     go_wp2
     exact⟨⟨i + 1,by simp,by omega,trivial⟩,by simp[intOf];omega⟩
    ·have hlt':¬ (i:Int) < (C.length:Int):=by omega
     go_wp2_with (first
      | (refine wpList_load_whole rfl 168 _ rfl _ rfl _ 168 HB.out _ Tryz.underlying168 rfl Tryz.info168s ?_)
      | (refine wpList_store_row rfl 168 _ _ rfl _ _ _ 168 rfl rfl HZ.out rfl Tryz.info168s (one3 _ _ _ _ _) ?_;intro w2 hb2 hf2))
     exact bodyPost_ret (results_c3 rfl rfl rfl rfl hb2 rfl) rfl ⟨_,rfl,RfTo.same HL.out (HF.out.then hf2 (by intro y hy;simp at hy;right;omega))⟩
 | true =>
   have hok':=hok
   unfold takeOk at hok'
   rw[Bool.and_eq_true,decide_eq_true_iff] at hok'
   obtain⟨⟨h0,h1⟩,h2⟩:=hok'
   obtain⟨p,rfl⟩:=Int.eq_ofNat_of_zero_le h0
   have hp:p < L.length:=by omega
   obtain⟨mm,hmm⟩:∃ mm,L[p]?=some mm:=⟨_,List.getElem?_eq_getElem hp⟩
   have e1:takeL cls L (p:Int)=L.eraseIdx p:=by simp[takeL,hok]
   have e2:takeM cls L (p:Int)=mm:=by simp[takeM,hok,List.getD_eq_getElem?_getD,hmm]
   have e3:takeE cls L (p:Int)=0:=by simp[takeE,hok]
   rw[e1,e2,e3]
   have hmem:p∈C:=by rw[← hC];exact(mem_chp _).2 ⟨hp,by simpa using h2⟩
   obtain⟨j,hj1,hj2⟩:=first_at hmem
   have hjl:=(List.getElem?_eq_some_iff.1 hj1).1
   have HJ1:=Lib.hid hj1;have HJ2:=Lib.hid hj2
   obtain⟨g,rfl,hcp⟩:=hcs p mm hmm
   have HC2:Hid (∀ wr,Frm [] w wr→wr.cell? ⟨g,p,none⟩=some (.string mm)):=Lib.hid fun wr hf=>hf.keep hcp
   have hroom:=HL.out.room
   clear hcs hcp hmem hj1 hj2 e1 e2 e3 hok hC h0 h1 h2 hmm
   obtain⟨i0,hi0,hz0,hz1,hz2⟩:=info_parts Tryz.info9
   go_enter Tryz.func86,Tryz.ntmps86
   go_wp2_with (first
    | (go_at_call 143;go_must (refine(CC.out _ (((Frm.refl [] w).alloc _).alloc _)).mono ?_;rintro e w1 ⟨v,rfl,hi,hf,hn⟩;obtain⟨ai,ci,rfl⟩:=own_shape hi;have HI:=Lib.hid hi;have HF:=Lib.hid ((((Frm.refl [] w).alloc _).alloc _).trans hf);have HB:=Lib.hid (hf.at (alloc_at (alloc_top (o:=.cells #[.int .i64 cls,.int .i64 cap,.slice (some ⟨g,0,none⟩) L.length cp] 168) rfl)) (by simp));have HZ:=Lib.hid (hf.at (alloc_top (o:=.cells #[.int .i64 0,.int .i64 0,.slice none 0 0] 168) (n:=w.heap.size + 1) (by simp)) (by simp));clear hi hf hn)))
   clear CC
   go_loopw [8] (fun s8 wx=>∃ i:Nat,s8=.int .i64 i∧i≤j∧wx=w1) (fun s8 _=>j - (intOf s8).toNat)
   case atStart=>exact⟨0,rfl,Nat.zero_le _,rfl⟩
   case round =>
    obtain⟨i,rfl,hi,rfl⟩:=hrel
    have hlt':(i:Int) < (C.length:Int):=by omega
    by_cases hlt:i < j
    ·obtain⟨x,hx⟩:∃ x,C[i]?=some x:=⟨_,List.getElem?_eq_getElem (by omega)⟩
     obtain⟨g',rfl,cx⟩:=HI.out.at hx
     have hne:((x:Int) == (p:Int))=false:=by have:=HJ2.out i hlt x hx;simp;omega
     clear hx
     go_wp2
     exact⟨⟨i + 1,by simp,by omega,trivial⟩,by simp[intOf];omega⟩
    ·obtain rfl:i=j:=by omega
     obtain⟨g',rfl,cx⟩:=HI.out.at HJ1.out
     have hne:((p:Int) == (p:Int))=true:=by simp
     have cm:=HC2.out _ HF.out
     have cb:wr.cell? ⟨w.heap.size,2,none⟩=some (.slice (some ⟨g,0,none⟩) L.length cp):=cell_of HB.out 2
     have hk1:p≤cp:=by omega
     have hk2:p + 1≤cp:=by omega
     have hk3:p + 1≤L.length:=by omega
     have hkl:(p:Int) < (L.length:Int):=by omega
     have hwk:IntKind.i64.wrap ((p:Int) + 1)=(p:Int) + 1:=by simp[IntKind.wrap,show IntKind.i64.bits=64 from rfl,show IntKind.i64.signed=true from rfl];omega
     have htn:((p:Int) + 1).toNat=p + 1:=by omega
     have hin2:(p:Int) + 1≤(L.length:Int):=by omega
     have hin3:(0:Int)≤(p:Int) + 1:=by omega
     have cb1:(wr.alloc (.cells #[] 9)).cell? ⟨w.heap.size,2,none⟩=some (.slice (some ⟨g,0,none⟩) L.length cp):=cell_of (alloc_at HB.out) 2
     have HLx:Hid (∀ W,Frm [] w W→Lf W (.slice (some ⟨g,0,none⟩) L.length cp) L):=Lib.hid fun W hf=>HL.out.frm hf (by simp)
     have HA1:Hid (∀ (o:Obj) j u,((L.take p).map Value.string)[j]?=some u→(wr.alloc o).drew.cell? ((⟨g,0,none⟩:Addr).add j)=some u):=Lib.hid fun o j u hu=>(HLx.out _ ((HF.out.alloc o).drew)).cells _ rfl j u (by
      rw[List.map_take] at hu
      have hj:j < p:=by have:=lt_of_some' hu;simp at this;omega
      rwa [List.getElem?_take_of_lt hj] at hu)
     go_wp2
     by_cases hlc:cp=p + 1
     ·subst hlc
      have HPL:Hid (p + 1=L.length):=Lib.hid (by omega)
      have hk5:(p:Int)≤(p:Int) + 1:=by omega
      go_region_law (first
       | (refine step_append_src rfl _ _ rfl wr.heap.size ?_ ?_ (.slice (some ⟨g,0,none⟩) p (p + 1)) ?_ p ((L.take p).map Value.string) ?_ ?_ ?_ ?_;(focus (go_simp;done));(focus exact(show (wr.alloc (.cells #[] 9)).heap[wr.heap.size]?=some (.cells #[] 9 (0,0)) from alloc_top rfl));(focus (go_simp;done));(focus exact Src.ofSlice _ Tryz.underlying86 _ p (p + 1) _ (by simp;omega) (HA1.out _) (by intro u hu;obtain⟨x,-,rfl⟩:=List.mem_map.1 hu;rfl));(focus exact fun _=>⟨_,_,rfl,HA1.out _⟩);(focus omega);intro ao1 cp1 w1 ho1 hg1;have cb2:w1.cell? ⟨w.heap.size,2,none⟩=some (.slice (some ⟨g,0,none⟩) L.length (p + 1)):=cell_of (grown_at hg1 (alloc_at HB.out) (by simp)) 2;have HB1:=Lib.hid (grown_at hg1 (show (wr.alloc (.cells #[] 9)).drew.heap[w.heap.size]?=_ from alloc_at HB.out) (by simp));have HZ1:=Lib.hid (grown_at hg1 (show (wr.alloc (.cells #[] 9)).drew.heap[w.heap.size + 1]?=_ from alloc_at HZ.out) (by simp));have HF1:=Lib.hid (((HF.out.alloc (.cells #[] 9)).drew).grown hg1 (by simp));have HO1:=Lib.hid ho1;have HG1:=Lib.hid hg1;clear ho1 hg1)
       | (refine step_append_own_at rfl _ _ 86 rfl wr.heap.size 9 i0 (.string { data:=#[] }) 1 16 Tryz.underlying86 hi0 hz0 hz1 hz2 rfl (by decide) (.slice ao1 p cp1) p ((L.take p).map Value.string) ?_ HO1.out ⟨g,0,none⟩ 0 0 [] ?_ ?_ ?_ ?_ ?_ ?_ ?_ ?_;(focus (go_simp;done));(focus (go_simp;done));(focus simp);(focus exact(fun j u hu=>by simp at hu));(focus (intro u hu;simp at hu));(focus (unfold maxLen;omega));(focus omega);(focus (have:=HG1.out.size;simp at this;omega));intro v' wa hown' hgrow;rw[Nat.add_zero,List.append_nil] at hown';obtain⟨ao2,cp2,rfl⟩:=own_shape hown';have HE:=Lib.hid (TkE.mk2 HB1.out HZ1.out HF1.out HO1.out (lt_of_block HB.out) (lt_of_block HZ.out) hown' hgrow HPL.out);have ca2:wa.cell? ⟨w.heap.size,2,none⟩=some (.slice (some ⟨g,0,none⟩) L.length (p + 1)):=cell_of HE.out.b 2;have fa2:=free_of HE.out.b 2;clear hown' hgrow))
      all_goals
       have HB2:=Lib.hid (block_setCell HE.out.b 2 (.slice ao2 p cp2))
       have HZ2:Hid ((wa.setCell ⟨w.heap.size,2,none⟩ (.slice ao2 p cp2)).heap[w.heap.size + 1]?=some (.cells #[.int .i64 0,.int .i64 0,.slice none 0 0] 168 (0,0))):=Lib.hid (setCell_at HE.out.z (by simp) _)
       clear ca2 fa2 cb1 cb2 cb cm cx
       go_wp2_with (first
        | (refine wpList_load_whole rfl 168 _ rfl _ rfl _ 168 HB2.out _ Tryz.underlying168 rfl Tryz.info168s ?_)
        | (refine wpList_store_row rfl 168 _ _ rfl _ _ _ 168 rfl rfl HZ2.out rfl Tryz.info168s (one3 _ _ _ _ _) ?_;intro w2 hb2 hf2))
       exact bodyPost_ret (results_c3 rfl rfl rfl rfl hb2 rfl) rfl ⟨_,rfl,ref_end (w0:=w) (p:=w.heap.size) (q:=w.heap.size + 1) (b:=wr.heap.size) (L':=L.eraseIdx p) (Frm.refl [] w) (Nat.le_refl _) (by omega) (lt_of_block HB.out) (lt_of_block HZ.out) HE.out.f HE.out.o HE.out.n hf2⟩
     ·have HD1:Hid (∀ W,Frm [] w W→∀ j u,((L.drop (p + 1)).map Value.string)[j]?=some u→W.cell? ((⟨g,p + 1,none⟩:Addr).add j)=some u):=Lib.hid fun W hf j u hu=>by
       have e:(⟨g,p + 1,none⟩:Addr).add j=⟨g,p + 1 + j,none⟩:=by cases j <;> simp[Addr.add]
       rw[List.map_drop,List.getElem?_drop] at hu
       have h1:=(HLx.out W hf).cells _ rfl (p + 1 + j) u hu
       have e2:(⟨g,0,none⟩:Addr).add (p + 1 + j)=⟨g,p + 1 + j,none⟩:=by simp[Addr.add]
       rw[e];rwa [e2] at h1
      go_region_law (first
       | (refine step_append_src rfl _ _ rfl wr.heap.size ?_ ?_ (.slice (some ⟨g,0,none⟩) p cp) ?_ p ((L.take p).map Value.string) ?_ ?_ ?_ ?_;(focus (go_simp;done));(focus exact(show (wr.alloc (.cells #[] 9)).heap[wr.heap.size]?=some (.cells #[] 9 (0,0)) from alloc_top rfl));(focus (go_simp;done));(focus exact Src.ofSlice _ Tryz.underlying86 _ p cp _ (by simp;omega) (HA1.out _) (by intro u hu;obtain⟨x,-,rfl⟩:=List.mem_map.1 hu;rfl));(focus exact fun _=>⟨_,_,rfl,HA1.out _⟩);(focus omega);intro ao1 cp1 w1 ho1 hg1;have cb2:w1.cell? ⟨w.heap.size,2,none⟩=some (.slice (some ⟨g,0,none⟩) L.length cp):=cell_of (grown_at hg1 (alloc_at HB.out) (by simp)) 2;have HB1:=Lib.hid (grown_at hg1 (show (wr.alloc (.cells #[] 9)).drew.heap[w.heap.size]?=_ from alloc_at HB.out) (by simp));have HZ1:=Lib.hid (grown_at hg1 (show (wr.alloc (.cells #[] 9)).drew.heap[w.heap.size + 1]?=_ from alloc_at HZ.out) (by simp));have HF1:=Lib.hid (((HF.out.alloc (.cells #[] 9)).drew).grown hg1 (by simp));have HO1:=Lib.hid ho1;have HG1:=Lib.hid hg1;clear ho1 hg1)
       | (refine step_append_own_at rfl _ _ 86 rfl wr.heap.size 9 i0 (.string { data:=#[] }) 1 16 Tryz.underlying86 hi0 hz0 hz1 hz2 rfl (by decide) (.slice ao1 p cp1) p ((L.take p).map Value.string) ?_ HO1.out ⟨g,p + 1,none⟩ (L.length - (p + 1)) (cp - (p + 1)) ((L.drop (p + 1)).map Value.string) ?_ ?_ ?_ ?_ ?_ ?_ ?_ ?_;(focus (go_simp;done));(focus (go_simp;done));(focus simp);(focus exact(HD1.out _ HF1.out));(focus (intro u hu;obtain⟨x,-,rfl⟩:=List.mem_map.1 hu;rfl));(focus (unfold maxLen;omega));(focus omega);(focus (have:=HG1.out.size;simp at this;omega));intro v' wa hown' hgrow;obtain⟨ao2,cp2,rfl⟩:=own_shape hown';have HE:=Lib.hid (TkE.mk1 HB1.out HZ1.out HF1.out HO1.out (lt_of_block HB.out) (lt_of_block HZ.out) hown' hgrow hp);have ca2:wa.cell? ⟨w.heap.size,2,none⟩=some (.slice (some ⟨g,0,none⟩) L.length cp):=cell_of HE.out.b 2;have fa2:=free_of HE.out.b 2;clear hown' hgrow))
      all_goals
       have HB2:=Lib.hid (block_setCell HE.out.b 2 (.slice ao2 (p + (L.length - (p + 1))) cp2))
       have HZ2:Hid ((wa.setCell ⟨w.heap.size,2,none⟩ (.slice ao2 (p + (L.length - (p + 1))) cp2)).heap[w.heap.size + 1]?=some (.cells #[.int .i64 0,.int .i64 0,.slice none 0 0] 168 (0,0))):=Lib.hid (setCell_at HE.out.z (by simp) _)
       clear ca2 fa2 cb1 cb2 cb cm cx
       go_wp2_with (first
        | (refine wpList_load_whole rfl 168 _ rfl _ rfl _ 168 HB2.out _ Tryz.underlying168 rfl Tryz.info168s ?_)
        | (refine wpList_store_row rfl 168 _ _ rfl _ _ _ 168 rfl rfl HZ2.out rfl Tryz.info168s (one3 _ _ _ _ _) ?_;intro w2 hb2 hf2))
       exact bodyPost_ret (results_c3 rfl rfl rfl rfl hb2 rfl) rfl ⟨_,rfl,ref_end (w0:=w) (p:=w.heap.size) (q:=w.heap.size + 1) (b:=wr.heap.size) (L':=L.eraseIdx p) (Frm.refl [] w) (Nat.le_refl _) (by omega) (lt_of_block HB.out) (lt_of_block HZ.out) HE.out.f HE.out.o HE.out.n hf2⟩
set_option maxHeartbeats 2000000 in
set_option maxRecDepth 100000 in
theorem refLose_any (cls cap:Int) (lv:Value) (L:List ByteArray) (w:World) (h:Lf w lv L) (hL:L.length≤64) :
  Calls Tryz.prog 82 #[.agg #[.int .i64 cls,.int .i64 cap,lv]] w (RetV (RfTo w cls cap lv (loseL cls L) fun a=>.tuple #[a,.string (loseM cls L),.int .i64 (loseE cls L)])):=by
 obtain⟨ao,cp,rfl,hcs⟩:=h.shape
 have HL:=Lib.hid h
 have CC:=Lib.hid (fun w' (hf:Frm [] w w')=>refTake_any cls cap _ L 0 w' (h.frm hf (by simp)) hL)
 clear h hcs
 by_cases h3:cls=3
 ·have z3:(cls != 3)=false:=by simpa using h3
  rw[loseL,loseM,loseE,if_pos h3,if_pos h3,if_pos h3]
  clear h3
  go_enter Tryz.func82,Tryz.ntmps82
  go_wp2_with (first
   | (refine wpList_load_whole rfl 168 _ rfl _ rfl _ 168 (alloc_at (alloc_top (by simp))) _ Tryz.underlying168 rfl Tryz.info168s ?_)
   | (go_at_call 86;go_must (refine(CC.out _ (((Frm.refl [] w).alloc _).alloc _)).mono ?_;rintro e w1 ⟨v,rfl,lv',rfl,hl,hf,hn⟩;obtain⟨ao',cp',rfl,-⟩:=hl.shape;have HL1:=Lib.hid hl;have HF:=Lib.hid hf;have HN:=Lib.hid hn;have HZ:=Lib.hid (hf.at (alloc_top (o:=.cells #[.int .i64 0,.int .i64 0,.slice none 0 0] 168) (n:=w.heap.size + 1) (by simp)) (by simp));clear hf hl hn))
   | (refine wpList_store_row rfl 168 _ _ rfl _ _ _ 168 rfl rfl HZ.out rfl Tryz.info168s (one3 _ _ _ _ _) ?_;intro w2 hb2 hf2))
  obtain⟨hn1,hn2⟩:Frm [] w w1∧∀ k,(Value.slice ao' (takeL cls L 0).length cp').ownBlock=some k→(Value.slice ao L.length cp).ownBlock=some k∨w.heap.size + 2≤k:=
   ⟨(((Frm.refl [] w).alloc _).alloc _).trans HF.out,fun k hk=>by have:=HN.out k hk;simpa using this⟩
  exact bodyPost_ret (results_c3 rfl rfl rfl rfl hb2 rfl) rfl ⟨_,rfl,_,rfl,HL1.out.frm hf2 (fun k hk hm=>by
   have h1:=hn2 k hk
   simp at hm
   rcases h1 with h1 | h1
   ·have:=HL.out.lt h1;omega
   ·omega),hn1.then hf2 (by intro y hy;simp at hy;right;omega),fun k hk=>by
   rcases hn2 k hk with h1 | h1
   ·exact .inl h1
   ·exact .inr (by omega)⟩
 ·have z3:(cls != 3)=true:=by simpa using h3
  rw[loseL,loseM,loseE,if_neg h3,if_neg h3,if_neg h3]
  clear h3
  go_enter Tryz.func82,Tryz.ntmps82
  go_wp2_with (first
   | (refine wpList_load_whole rfl 168 _ rfl _ rfl _ 168 (alloc_at (alloc_top (by simp))) _ Tryz.underlying168 rfl Tryz.info168s ?_))
  exact bodyPost_ret (results_c3 rfl rfl rfl rfl (alloc_top (by simp)) rfl) rfl ⟨_,rfl,RfTo.same HL.out (((Frm.refl [] w).alloc _).alloc _)⟩
end Go.Proofs.YtkphhjekfimmlaaGreat
namespace Go.Proofs.YtkphhjekfimmlaaGreat
open Go.RowKit Go.BigFrame
structure GO (ty e k:Nat) (w:World) (ob o:Nat) (A:Array Value) (n:Nat) (xs:List Value) (W:World):Prop where
 fr:Frm [] w W
 new:w.heap.size≤ob
 bx:∃ ao cap,W.heap[ob]?=some (.cells (A.setIfInBounds o (.slice ao n cap)) ty (0,0))∧W.ownsRow w.heap.size e k (.slice ao n cap) n xs
section
variable {ty e k:Nat} {w V W W' w0 w1:World} {ob o n m:Nat} {A:Array Value} {xs news:List Value}
theorem GO.frm (h:GO ty e k w ob o A n xs W) (hf:Frm [] W W'):GO ty e k w ob o A n xs W':=by
 obtain⟨ao,cap,h1,h2⟩:=h.bx
 exact⟨h.fr.trans hf,h.new,ao,cap,hf.at h1 (by simp),hf.owns h2 (by simp)⟩
theorem GO.facts {ao:Option Addr} {cap:Nat} {B:Array Value} (h1:W.heap[ob]?=some (.cells B ty (0,0))) (h2:W.ownsRow w.heap.size e k (.slice ao n cap) n xs) (hne:ty≠e) (hf:Frm [] W w0) (hg:w0.grownBy w1 (Value.slice ao n cap).ownBlock) :
  w1.heap[ob]?=some (.cells B ty (0,0)):=
 grown_at hg (hf.at h1 (by simp)) (fun e'=>by
  obtain⟨c,hc⟩:=ownBlock_type h2 e'
  rw[h1] at hc;cases hc;exact hne rfl)
theorem GO.step {ao:Option Addr} {cap:Nat} {v':Value} (h:GO ty e k w ob o A n xs W) (h1:W.heap[ob]?=some (.cells (A.setIfInBounds o (.slice ao n cap)) ty (0,0))) (h2:W.ownsRow w.heap.size e k (.slice ao n cap) n xs) (hne:ty≠e)
  (hf:Frm [] W w0) (hg:w0.grownBy w1 (Value.slice ao n cap).ownBlock) (ho:w1.ownsRow w.heap.size e k v' (n + m) (xs ++ news)) :
  GO ty e k w ob o A (n + m) (xs ++ news) (w1.setCell ⟨ob,o,none⟩ v')∧Kt [ty,e] W (w1.setCell ⟨ob,o,none⟩ v'):=by
 have hb:=GO.facts h1 h2 hne hf hg
 have hge:∀ q,(Value.slice ao n cap).ownBlock=some q→w.heap.size≤q:=fun q hq=>ownBlock_ge h2 hq
 have k1:Kt [ty,e] W w1:=(Kt.frm hf).grown hg (fun q hq=>by
  obtain⟨c,hc⟩:=ownBlock_type h2 hq
  exact⟨c,e,(0,0),hf.at hc (by simp),by simp⟩)
 have f1:Frm [] w w1:=(h.fr.trans hf).grown hg (fun q hq=>.inr (hge q hq))
 obtain⟨ao',cp',rfl⟩:=own_shape ho
 refine⟨⟨f1.setCell _ (.inr h.new) _,h.new,ao',cp',(block_setCell hb o _).trans (by rw[Array.setIfInBounds_setIfInBounds]),?_⟩,k1.set hb (by simp) _⟩
 refine ownsRow_setCell_other ho (fun e'=>?_) _
 obtain⟨c,hc⟩:=ownBlock_type ho e'
 rw[hb] at hc;cases hc;exact hne rfl
theorem GO.made {B:Array Value} (hf:Frm [] w W) (hn:w.heap.size≤ob) (h:W.heap[ob]?=some (.cells B ty (0,0))) (hB:B=A.setIfInBounds o (.slice none 0 0)):GO ty e k w ob o A 0 [] W:=
 ⟨hf,hn,none,0,by rw[h,hB],World.ownsRow_nil _ _ _ _⟩
theorem GO.kt {T:List TypeId} (h:GO ty e k w ob o A n xs W) (hk:Kt T W W') (hf:Frm [] w W') (h1:ty∉T) (h2:e∉T):GO ty e k w ob o A n xs W':=by
 obtain⟨ao,cap,g1,g2⟩:=h.bx
 exact⟨hf,h.new,ao,cap,hk.cells g1 h1,hk.row g2 h2⟩
theorem Kt.mono {T T':List TypeId} (h:Kt T W W') (hT:∀ t∈T,t∈T'):Kt T' W W':=⟨h.os,h.tape,h.output,h.size,fun k x hk ho=>h.at' k x hk fun c t fr e hm=>ho c t fr e (hT t hm)⟩
def cnC (l:List (CtrD × Int)):List Value:=l.flatMap fun c=>[.string c.1.name,.int .i64 c.1.lim,.int .i64 c.2]
theorem cnC_append (A B:List (CtrD × Int)):cnC (A ++ B)=cnC A ++ cnC B:=by unfold cnC;rw[List.flatMap_append]
theorem cnC_at:∀ {L:List (CtrD × Int)} {i:Nat} {c:CtrD × Int},L[i]?=some c→(cnC L)[i * 3]?=some (.string c.1.name)∧(cnC L)[i * 3 + 1]?=some (.int .i64 c.1.lim)∧(cnC L)[i * 3 + 2]?=some (.int .i64 c.2)
 | [],i,c,h=>by simp at h
 | a :: L,0,c,h=>by
   simp at h;subst h
   exact⟨rfl,rfl,rfl⟩
 | a :: L,i + 1,c,h=>by
   have h':L[i]?=some c:=by simpa using h
   obtain⟨h1,h2,h3⟩:=cnC_at h'
   have e:cnC (a :: L)=[.string a.1.name,.int .i64 a.1.lim,.int .i64 a.2] ++ cnC L:=rfl
   rw[e]
   refine⟨?_,?_,?_⟩
   ·rw[List.getElem?_append_right (by simp;omega),show (i + 1) * 3 - [Value.string a.1.name,.int .i64 a.1.lim,.int .i64 a.2].length=i * 3 by simp;omega];exact h1
   ·rw[List.getElem?_append_right (by simp;omega),show (i + 1) * 3 + 1 - [Value.string a.1.name,.int .i64 a.1.lim,.int .i64 a.2].length=i * 3 + 1 by simp;omega];exact h2
   ·rw[List.getElem?_append_right (by simp;omega),show (i + 1) * 3 + 2 - [Value.string a.1.name,.int .i64 a.1.lim,.int .i64 a.2].length=i * 3 + 2 by simp;omega];exact h3
theorem cn_arr {base:Nat} {v:Value} {L:List (CtrD × Int)} (h:W.ownsRow base 234 3 v L.length (cnC L)):Arr 3 CnAt W v L:=by
 rcases h.2 with ⟨rfl,hn⟩ | ⟨g,c,cur,rfl,-,hh,-,-,-,ht⟩
 ·obtain rfl:L=[]:=List.length_eq_zero_iff.1 hn
  exact Arr.nil _ _ _
 ·refine⟨_,_,rfl,fun i x hx=>⟨g,0,rfl,?_⟩⟩
  obtain⟨a0,a1,a2⟩:=cnC_at hx
  have hl:=lt_of_some hx
  have hc:∀ j,j < L.length * 3→W.cell? ⟨g,j,none⟩=(cnC L)[j]?:=fun j hj=>by
   rw[cell_of hh,← ht,List.getElem?_take_of_lt hj,Array.getElem?_toList]
  rw[Nat.zero_add]
  exact⟨(hc _ (by omega)).trans a0,(hc _ (by omega)).trans a1,(hc _ (by omega)).trans a2⟩
end
end Go.Proofs.YtkphhjekfimmlaaGreat
namespace Go.Proofs.YtkphhjekfimmlaaGreat
open Go.RowKit Go.BigFrame
def Ty (W:World) (g:Nat) (e:TypeId):Prop:=∃ cur,W.heap[g]?=some (.cells cur e (0,0))
theorem Ty.lt {W:World} {g:Nat} {e:TypeId} (h:Ty W g e):g < W.heap.size:=by obtain⟨_,h⟩:=h;exact lt_of_block h
theorem Ty.frm {F:List Nat} {W V:World} {g:Nat} {e:TypeId} (h:Ty W g e) (hf:Frm F W V) (hn:g∉F):Ty V g e:=by obtain⟨c,h⟩:=h;exact⟨c,hf.at h hn⟩
theorem Ty.set {W:World} {g b o:Nat} {e:TypeId} (h:Ty W g e) (u:Value):Ty (W.setCell ⟨b,o,none⟩ u) g e:=by
 obtain⟨c,h⟩:=h
 by_cases hp:b=g
 ·subst hp
  exact⟨_,block_setCell h o u⟩
 ·exact⟨c,setCell_at h (Ne.symm hp) u⟩
theorem Ty.ne {W:World} {g k:Nat} {e f:TypeId} (h:Ty W g e) (h':Ty W k f) (hn:e≠f):g≠k:=by
 rintro rfl
 obtain⟨c,h⟩:=h
 obtain⟨d,h'⟩:=h'
 rw[h] at h'
 cases h'
 exact hn rfl
theorem own_ty {W:World} {base e size n:Nat} {v:Value} {xs:List Value} (h:W.ownsRow base e size v n xs) {k:Nat} (hk:v.ownBlock=some k):Ty W k e:=ownBlock_type h hk
theorem cell_set_ne {W:World} {b o c d:Nat} {u:Value} (h:¬ (b=c∧o=d)):(W.setCell ⟨c,d,none⟩ u).cell? ⟨b,o,none⟩=W.cell? ⟨b,o,none⟩:=by
 by_cases hb:b=c
 ·subst hb
  have ho:o≠d:=fun e=>h ⟨rfl,e⟩
  simp only[World.cell?,World.setCell]
  by_cases hl:b < W.heap.size
  ·rw[Array.getElem?_eq_getElem (by simpa using hl),Array.getElem_modify_self,Array.getElem?_eq_getElem hl]
   cases W.heap[b] <;> simp[Array.getElem?_setIfInBounds,Ne.symm ho]
  ·rw[Array.getElem?_eq_none (by simpa using hl),Array.getElem?_eq_none (by omega)]
 ·exact World.cell?_of_block (w:=W) (Below.heap_setCell _ _ _ _ hb)
theorem cell_set_eq {W:World} {c d:Nat} {u v:Value} (h:W.cell? ⟨c,d,none⟩=some v):(W.setCell ⟨c,d,none⟩ u).cell? ⟨c,d,none⟩=some u:=by
 have hl:=cell_lt h
 simp only[World.cell?,Array.getElem?_eq_getElem hl] at h
 cases hh:W.heap[c] with
 | cells cur t fr =>
   rw[hh] at h
   have h2:W.heap[c]?=some (.cells cur t fr):=by rw[Array.getElem?_eq_getElem hl,hh]
   have hd:=(Array.getElem?_eq_some_iff.1 h).1
   rw[cell_of (block_setCell h2 d u) d,Array.getElem?_setIfInBounds,if_pos rfl,if_pos hd]
 | _=>rw[hh] at h;simp at h
def ctC1 (c:CtrD):List Value:=[.string c.name,.int .i64 c.lim]
def iv (x:Int):Value:=.int .i64 x
def DfV (W:World) (v:Value) (l:List CtrD):Prop:=W.ownsRow 0 182 2 v l.length (l.flatMap ctC1)
def VlV (W:World) (ba:Nat) (v:Value) (l:List Int):Prop:=W.ownsRow 0 3 1 v l.length (l.map iv)∧v.ownBlock≠some ba
theorem DfV.frm {F:List Nat} {W V:World} {v:Value} {l:List CtrD} (h:DfV W v l) (hf:Frm F W V) (hn:∀ k∈F,¬ Ty W k 182):DfV V v l:=hf.owns h fun _ hk hF=>hn _ hF (own_ty h hk)
theorem VlV.frm {F:List Nat} {W V:World} {ba:Nat} {v:Value} {l:List Int} (h:VlV W ba v l) (hf:Frm F W V) (hn:∀ k∈F,k=ba∨¬ Ty W k 3):VlV V ba v l:=
 ⟨hf.owns h.1 fun k hk hF=>(hn k hF).elim (fun e=>h.2 (by rw[hk,e])) (fun e=>e (own_ty h.1 hk)),h.2⟩
theorem Lf.ty {W:World} {lv:Value} {L:List ByteArray} (h:Lf W lv L) {k:Nat} (hk:lv.ownBlock=some k):Ty W k 9:=by
 rcases h with h | ⟨g,cur,rfl,hb,-⟩
 ·exact own_ty h hk
 ·cases hk;exact⟨_,hb⟩
structure RO (W:World) (s:SesD) (ba bb bw:Nat) (bi:Nat→Nat) (x:PS):Prop where
 ta:Ty W ba 3
 tb:Ty W bb 173
 tw:Ty W bw 171
 ti:∀ i,i < s.roles.length→Ty W (bi i) 168
 inj:∀ i j,i < s.roles.length→j < s.roles.length→bi i=bi j→i=j
 a:∀ i,i < s.roles.length→W.cell? ⟨ba,i,none⟩=some (.int .i64 (x.at i))
 b:∀ i,i < s.roles.length→∃ dv vv,W.cell? ⟨bb,i * 2,none⟩=some dv∧W.cell? ⟨bb,i * 2 + 1,none⟩=some vv∧DfV W dv (s.rol i).ctrs∧VlV W ba vv (x.bank i)
 w:∀ i,i < s.roles.length→∃ c,W.cell? ⟨bw,i,none⟩=some (.slice (some ⟨bi i,0,none⟩) s.roles.length c)
 r:∀ i k,i < s.roles.length→k < s.roles.length→∃ lv,W.cell? ⟨bi i,k * 3,none⟩=some (.int .i64 s.cls)∧W.cell? ⟨bi i,k * 3 + 1,none⟩=some (.int .i64 s.cap)∧W.cell? ⟨bi i,k * 3 + 2,none⟩=some lv∧Lf W lv (x.way i k)
section
variable {W V:World} {s:SesD} {ba bb bw:Nat} {bi:Nat→Nat} {x:PS}
theorem RO.frm (h:RO W s ba bb bw bi x) (hf:Frm [] W V):RO V s ba bb bw bi x:=by
 refine⟨h.ta.frm hf (by simp),h.tb.frm hf (by simp),h.tw.frm hf (by simp),fun i hi=>(h.ti i hi).frm hf (by simp),h.inj,fun i hi=>hf.keep (h.a i hi),fun i hi=>?_,fun i hi=>?_,fun i k hi hk=>?_⟩
 ·obtain⟨dv,vv,h1,h2,h3,h4⟩:=h.b i hi
  exact⟨dv,vv,hf.keep h1,hf.keep h2,h3.frm hf (by simp),h4.frm hf (by simp)⟩
 ·obtain⟨c,h1⟩:=h.w i hi
  exact⟨c,hf.keep h1⟩
 ·obtain⟨lv,h1,h2,h3,h4⟩:=h.r i k hi hk
  exact⟨lv,hf.keep h1,hf.keep h2,hf.keep h3,h4.frm hf (by simp)⟩
theorem setFrm (W:World) (b o:Nat) (u:Value):Frm [b] W (W.setCell ⟨b,o,none⟩ u):=(Frm.refl [b] W).setCell _ (.inl (by simp)) _
theorem RO.setAt (h:RO W s ba bb bw bi x) {i:Nat} (hi:i < s.roles.length) (p:Nat) (hl:x.pos.length=s.roles.length):RO (W.setCell ⟨ba,i,none⟩ (.int .i64 p)) s ba bb bw bi { x with pos:=x.pos.set i p }:=by
 have hf:=setFrm W ba i (.int .i64 p)
 have n1:=h.ta.ne h.tb (by decide)
 have n2:=h.ta.ne h.tw (by decide)
 have n3:∀ j,j < s.roles.length→ba≠bi j:=fun j hj=>h.ta.ne (h.ti j hj) (by decide)
 refine⟨h.ta.set _,h.tb.set _,h.tw.set _,fun i hi=>(h.ti i hi).set _,h.inj,fun j hj=>?_,fun j hj=>?_,fun j hj=>?_,fun j k hj hk=>?_⟩
 ·show _=some (Value.int .i64 (((x.pos.set i p).getD j 0:Nat):Int))
  rw[List.getD_eq_getElem?_getD,List.getElem?_set]
  by_cases e:i=j
  ·subst e
   rw[if_pos rfl,if_pos (by omega)]
   exact cell_set_eq (h.a i hj)
  ·rw[if_neg e,cell_set_ne (by rintro⟨-,rfl⟩;exact e rfl),h.a j hj]
   rfl
 ·obtain⟨dv,vv,h1,h2,h3,h4⟩:=h.b j hj
  exact⟨dv,vv,hf.cellAt h1 (by simp;exact n1.symm),hf.cellAt h2 (by simp;exact n1.symm),h3.frm hf (by intro k hk;simp at hk;subst hk;exact fun e=>absurd rfl (h.ta.ne e (by decide))),h4.frm hf (by intro k hk;simp at hk;exact .inl hk)⟩
 ·obtain⟨c,h1⟩:=h.w j hj
  exact⟨c,hf.cellAt h1 (by simp;exact n2.symm)⟩
 ·obtain⟨lv,h1,h2,h3,h4⟩:=h.r j k hj hk
  have n:=(n3 j hj).symm
  exact⟨lv,hf.cellAt h1 (by simpa using n),hf.cellAt h2 (by simpa using n),hf.cellAt h3 (by simpa using n),h4.frm hf (fun q hq hm=>by simp at hm;subst hm;exact absurd rfl (h.ta.ne (h4.ty hq) (by decide)))⟩
theorem RO.setBank (h:RO W s ba bb bw bi x) {i:Nat} (hi:i < s.roles.length) {dv vv:Value} {vs:List Int} (hd:DfV W dv (s.rol i).ctrs) (hv:VlV W ba vv vs) (hl:x.vals.length=s.roles.length) :
  RO ((W.setCell ⟨bb,i * 2,none⟩ dv).setCell ⟨bb,i * 2 + 1,none⟩ vv) s ba bb bw bi { x with vals:=x.vals.set i vs }:=by
 have hf:Frm [bb] W ((W.setCell ⟨bb,i * 2,none⟩ dv).setCell ⟨bb,i * 2 + 1,none⟩ vv):=(setFrm W bb (i * 2) dv).trans (setFrm _ bb (i * 2 + 1) vv)
 have n1:=h.ta.ne h.tb (by decide)
 have n2:=h.tb.ne h.tw (by decide)
 have n3:∀ j,j < s.roles.length→bb≠bi j:=fun j hj=>h.tb.ne (h.ti j hj) (by decide)
 have q1:∀ k∈[bb],¬ Ty W k 182:=by intro k hk;simp at hk;subst hk;exact fun e=>absurd rfl (h.tb.ne e (by decide))
 have q2:∀ k∈[bb],k=ba∨¬ Ty W k 3:=by intro k hk;simp at hk;subst hk;exact .inr fun e=>absurd rfl (h.tb.ne e (by decide))
 refine⟨(h.ta.set _).set _,(h.tb.set _).set _,(h.tw.set _).set _,fun i hi=>((h.ti i hi).set _).set _,h.inj,fun j hj=>hf.cellAt (h.a j hj) (by simpa using n1),fun j hj=>?_,fun j hj=>?_,fun j k hj hk=>?_⟩
 ·obtain⟨dv',vv',h1,h2,h3,h4⟩:=h.b j hj
  show ∃ dv'' vv'',_∧_∧_∧VlV _ ba vv'' ((x.vals.set i vs).getD j [])
  rw[List.getD_eq_getElem?_getD,List.getElem?_set]
  by_cases e:i=j
  ·subst e
   rw[if_pos rfl,if_pos (by omega)]
   refine⟨dv,vv,?_,?_,hd.frm hf q1,hv.frm hf q2⟩
   ·rw[cell_set_ne (by omega)];exact cell_set_eq h1
   ·exact cell_set_eq (v:=vv') (by rw[cell_set_ne (by omega)];exact h2)
  ·rw[if_neg e]
   refine⟨dv',vv',?_,?_,h3.frm hf q1,h4.frm hf q2⟩
   ·rw[cell_set_ne (by omega),cell_set_ne (by omega)];exact h1
   ·rw[cell_set_ne (by omega),cell_set_ne (by omega)];exact h2
 ·obtain⟨c,h1⟩:=h.w j hj
  exact⟨c,hf.cellAt h1 (by simpa using n2.symm)⟩
 ·obtain⟨lv,h1,h2,h3,h4⟩:=h.r j k hj hk
  have n:=(n3 j hj).symm
  exact⟨lv,hf.cellAt h1 (by simpa using n),hf.cellAt h2 (by simpa using n),hf.cellAt h3 (by simpa using n),h4.frm hf (fun q hq hm=>by simp at hm;subst hm;exact absurd rfl (h.tb.ne (h4.ty hq) (by decide)))⟩
theorem RO.setWay (h:RO W s ba bb bw bi x) {i m:Nat} (hi:i < s.roles.length) (hm:m < s.roles.length) {lv:Value} {L:List ByteArray} (hL:Lf W lv L) (hl:x.ways.length=s.roles.length) (hr:(x.ways.getD i []).length=s.roles.length) :
  RO (((W.setCell ⟨bi i,m * 3,none⟩ (.int .i64 s.cls)).setCell ⟨bi i,m * 3 + 1,none⟩ (.int .i64 s.cap)).setCell ⟨bi i,m * 3 + 2,none⟩ lv) s ba bb bw bi { x with ways:=setWay x.ways i m L }:=by
 have hf:Frm [bi i] W (((W.setCell ⟨bi i,m * 3,none⟩ (.int .i64 s.cls)).setCell ⟨bi i,m * 3 + 1,none⟩ (.int .i64 s.cap)).setCell ⟨bi i,m * 3 + 2,none⟩ lv):=((setFrm W _ _ _).trans (setFrm _ _ _ _)).trans (setFrm _ _ _ _)
 have ht:=h.ti i hi
 have n1:=h.ta.ne ht (by decide)
 have n2:=h.tb.ne ht (by decide)
 have n3:=h.tw.ne ht (by decide)
 have q1:∀ k∈[bi i],¬ Ty W k 182:=by intro k hk;simp at hk;subst hk;exact fun e=>absurd rfl (ht.ne e (by decide))
 have q2:∀ k∈[bi i],k=ba∨¬ Ty W k 3:=by intro k hk;simp at hk;subst hk;exact .inr fun e=>absurd rfl (ht.ne e (by decide))
 have q3:∀ {lv:Value} {L:List ByteArray},Lf W lv L→∀ q,lv.ownBlock=some q→q∉[bi i]:=fun h4 q hq hm=>by simp at hm;subst hm;exact absurd rfl (ht.ne (h4.ty hq) (by decide))
 refine⟨((h.ta.set _).set _).set _,((h.tb.set _).set _).set _,((h.tw.set _).set _).set _,fun i hi=>(((h.ti i hi).set _).set _).set _,h.inj,fun j hj=>hf.cellAt (h.a j hj) (by simpa using n1),fun j hj=>?_,fun j hj=>?_,fun j k hj hk=>?_⟩
 ·obtain⟨dv',vv',h1,h2,h3,h4⟩:=h.b j hj
  exact⟨dv',vv',hf.cellAt h1 (by simpa using n2),hf.cellAt h2 (by simpa using n2),h3.frm hf q1,h4.frm hf q2⟩
 ·obtain⟨c,h1⟩:=h.w j hj
  exact⟨c,hf.cellAt h1 (by simpa using n3)⟩
 ·obtain⟨lv',h1,h2,h3,h4⟩:=h.r j k hj hk
  show ∃ lv'',_∧_∧_∧Lf _ lv'' (wayOf (Go.Proofs.YtkphhjekfimmlaaGreat.setWay x.ways i m L) j k)
  rw[wayOf_set (by omega) (by omega)]
  by_cases e:j=i∧k=m
  ·obtain⟨rfl,rfl⟩:=e
   rw[if_pos ⟨rfl,rfl⟩]
   refine⟨lv,?_,?_,?_,hL.frm hf (q3 hL)⟩
   ·rw[cell_set_ne (by omega),cell_set_ne (by omega)];exact cell_set_eq h1
   ·rw[cell_set_ne (by omega)];exact cell_set_eq (v:=.int .i64 s.cap) (by rw[cell_set_ne (by omega)];exact h2)
   ·exact cell_set_eq (v:=lv') (by rw[cell_set_ne (by omega),cell_set_ne (by omega)];exact h3)
  ·rw[if_neg e]
   have hne:∀ {o d:Nat},o / 3=k→d / 3=m→¬ (bi j=bi i∧o=d):=fun ho hd he=>e ⟨h.inj j i hj hi he.1,by rw[← ho,← hd,he.2]⟩
   refine⟨lv',?_,?_,?_,h4.frm hf (q3 h4)⟩
   ·rw[cell_set_ne (hne (by omega) (by omega)),cell_set_ne (hne (by omega) (by omega)),cell_set_ne (hne (by omega) (by omega))];exact h1
   ·rw[cell_set_ne (hne (by omega) (by omega)),cell_set_ne (hne (by omega) (by omega)),cell_set_ne (hne (by omega) (by omega))];exact h2
   ·rw[cell_set_ne (hne (by omega) (by omega)),cell_set_ne (hne (by omega) (by omega)),cell_set_ne (hne (by omega) (by omega))];exact h3
end
structure RSt (B:Nat) (W:World) (s:SesD) (v:Value) (x:PS):Prop where
 out:∃ ba bb bw bi ca cb cw,v=.agg #[.slice (some ⟨ba,0,none⟩) s.roles.length ca,.slice (some ⟨bb,0,none⟩) s.roles.length cb,.slice (some ⟨bw,0,none⟩) s.roles.length cw]∧RO W s ba bb bw bi x ∧
  B≤ba∧B≤bb∧B≤bw∧∀ i,i < s.roles.length→B≤bi i
 ok:PSok s x
theorem RSt.frm {B:Nat} {W V:World} {s:SesD} {v:Value} {x:PS} (h:RSt B W s v x) (hf:Frm [] W V):RSt B V s v x:=by
 obtain⟨ba,bb,bw,bi,ca,cb,cw,h1,h2,h3⟩:=h.out
 exact⟨⟨ba,bb,bw,bi,ca,cb,cw,h1,h2.frm hf,h3⟩,h.ok⟩
theorem RSt.low {B B':Nat} {W:World} {s:SesD} {v:Value} {x:PS} (h:RSt B W s v x) (hb:B'≤B):RSt B' W s v x:=by
 obtain⟨ba,bb,bw,bi,ca,cb,cw,h1,h2,h3,h4,h5,h6⟩:=h.out
 exact⟨⟨ba,bb,bw,bi,ca,cb,cw,h1,h2,by omega,by omega,by omega,fun i hi=>by have:=h6 i hi;omega⟩,h.ok⟩
end Go.Proofs.YtkphhjekfimmlaaGreat
namespace Go.Proofs.YtkphhjekfimmlaaGreat
open Go
def valsOf (b:List UInt8):Nat→List Int
 | 0=>[]
 | n + 1=>valsOf b n ++ [256 * ((b.getD (2 * n) 0).toNat:Int) + ((b.getD (2 * n + 1) 0).toNat:Int)]
def fitsV (cs:List CtrD) (vs:List Int):Bool:=(cs.zip vs).all fun e=>decide (e.2≤e.1.lim)
def parseRole (r:RolD):List UInt8→Option (Nat × List Int × List UInt8)
 | []=>none
 | a :: b =>
   if r.sts.length≤a.toNat then none
   else if b.length < 2 * r.ctrs.length then none
   else if fitsV r.ctrs (valsOf b r.ctrs.length) then some (a.toNat,valsOf b r.ctrs.length,b.drop (2 * r.ctrs.length))
   else none
def parseRoles (s:SesD) (b:List UInt8):Nat→Option (List Nat × List (List Int) × List UInt8)
 | 0=>some ([],[],b)
 | n + 1=>match parseRoles s b n with
   | none=>none
   | some (ps,vs,b')=>match parseRole (s.rol n) b' with
     | none=>none
     | some (p,v,b'')=>some (ps ++ [p],vs ++ [v],b'')
def parseMsg (cap:Int) (L:List ByteArray):List UInt8→Option (List ByteArray × List UInt8)
 | []=>none
 | n :: b =>
   if b.length < n.toNat then none
   else if putE cap L ⟨(b.take n.toNat).toArray⟩=0 then some (L ++ [⟨(b.take n.toNat).toArray⟩],b.drop n.toNat)
   else none
def parseMsgs (cap:Int) (b:List UInt8):Nat→Option (List ByteArray × List UInt8)
 | 0=>some ([],b)
 | n + 1=>match parseMsgs cap b n with
   | none=>none
   | some (L,b')=>parseMsg cap L b'
def parseWay (cap:Int) (i k:Nat) (b:List UInt8):Option (List ByteArray × List UInt8):=
 if i=k then some ([],b)
 else match b with
  | []=>none
  | n :: b=>parseMsgs cap b n.toNat
def parseRow (cap:Int) (i:Nat) (b:List UInt8):Nat→Option (List (List ByteArray) × List UInt8)
 | 0=>some ([],b)
 | k + 1=>match parseRow cap i b k with
   | none=>none
   | some (R,b')=>match parseWay cap i k b' with
     | none=>none
     | some (L,b'')=>some (R ++ [L],b'')
def parseWays (s:SesD) (b:List UInt8):Nat→Option (List (List (List ByteArray)) × List UInt8)
 | 0=>some ([],b)
 | n + 1=>match parseWays s b n with
   | none=>none
   | some (W,b')=>match parseRow s.cap n b' s.roles.length with
     | none=>none
     | some (R,b'')=>some (W ++ [R],b'')
def parseP (s:SesD) (b:List UInt8):Option PS:=
 match parseRoles s b s.roles.length with
 | none=>none
 | some (ps,vs,b')=>match parseWays s b' s.roles.length with
   | none=>none
   | some (W,_)=>some ⟨ps,vs,W⟩
def decP (s:SesD) (b:List UInt8):Option PS:=
 match parseP s b with
 | none=>none
 | some x=>if keyP s x=b then some x else none
section
variable {s:SesD} {x:PS}
theorem bank_bound (h:SesOk s) (hx:PSok s x) {i:Nat} (hi:i < s.roles.length):∀ v∈x.bank i,0≤v∧v≤1000:=by
 intro v hv
 obtain⟨k,hk⟩:=List.getElem?_of_mem hv
 obtain⟨hl,hb⟩:=hx.vb i hi
 have hlt:=lt_of_some hk
 have hc:=some_getD (l:=(s.rol i).ctrs) (i:=k) (d:=dC) (by omega)
 have:=hb k _ hc
 rw[getD_some hk] at this
 have h2:=(h.at hi).cN _ (List.mem_of_getElem? hc)
 omega
end
end Go.Proofs.YtkphhjekfimmlaaGreat
namespace Go.Proofs.YtkphhjekfimmlaaGreat
open Go
theorem getD_snoc {α:Type} {l:List α} {x d:α} {i:Nat} (h:i < l.length + 1):(l ++ [x]).getD i d=if i=l.length then x else l.getD i d:=by
 simp only[List.getD_eq_getElem?_getD]
 by_cases e:i=l.length
 ·subst e;simp
 ·rw[if_neg e,List.getElem?_append_left (by omega)]
theorem valsOf_length (b:List UInt8):∀ n,(valsOf b n).length=n
 | 0=>rfl
 | n + 1=>by simp[valsOf,valsOf_length b n]
theorem valsOf_ge (b:List UInt8):∀ n,∀ v∈valsOf b n,0≤v
 | 0,v,h=>by simp[valsOf] at h
 | n + 1,v,h=>by
   rw[valsOf,List.mem_append] at h
   rcases h with h | h
   ·exact valsOf_ge b n v h
   ·simp at h;subst h;omega
theorem fitsV_at {cs:List CtrD} {vs:List Int} (h:fitsV cs vs=true) (hl:vs.length=cs.length) {k:Nat} {c:CtrD} (hc:cs[k]?=some c):vs.getD k 0≤c.lim:=by
 unfold fitsV at h
 rw[List.all_eq_true] at h
 have hv:vs[k]?=some (vs.getD k 0):=some_getD (by have:=(List.getElem?_eq_some_iff.1 hc).1;omega)
 have:=h (c,vs.getD k 0) (List.mem_of_getElem? (i:=k) (by rw[List.getElem?_zip_eq_some];exact⟨hc,hv⟩))
 simpa using this
structure RdOk (r:RolD) (p:Nat) (vs:List Int):Prop where
 p:p < r.sts.length
 n:vs.length=r.ctrs.length
 v:∀ (k:Nat) (c:CtrD),r.ctrs[k]?=some c→0≤vs.getD k 0∧vs.getD k 0≤c.lim
theorem getD_ge {vs:List Int} (h:∀ v∈vs,0≤v) (k:Nat):0≤vs.getD k 0:=by
 rw[List.getD_eq_getElem?_getD]
 cases hv:vs[k]? with
 | none=>simp
 | some v=>exact h v (List.mem_of_getElem? hv)
theorem parseRole_ok {r:RolD} {b b':List UInt8} {p:Nat} {vs:List Int} (h:parseRole r b=some (p,vs,b')):RdOk r p vs:=by
 unfold parseRole at h
 cases b with
 | nil=>cases h
 | cons a b =>
   simp only at h
   split at h
   ·cases h
   split at h
   ·cases h
   split at h
   ·rename_i h1 h2 h3
    cases h
    exact⟨by omega,valsOf_length _ _,fun k c hc=>⟨getD_ge (valsOf_ge _ _) k,fitsV_at h3 (valsOf_length _ _) hc⟩⟩
   ·cases h
theorem parseRoles_ok {s:SesD} {b:List UInt8}:∀ {n:Nat} {ps:List Nat} {vs:List (List Int)} {b':List UInt8},parseRoles s b n=some (ps,vs,b') →
  ps.length=n∧vs.length=n∧∀ i,i < n→RdOk (s.rol i) (ps.getD i 0) (vs.getD i [])
 | 0,ps,vs,b',h=>by
   simp only[parseRoles,Option.some.injEq,Prod.mk.injEq] at h
   obtain⟨rfl,rfl,-⟩:=h
   exact⟨rfl,rfl,fun i hi=>by omega⟩
 | n + 1,ps,vs,b',h=>by
   rw[parseRoles] at h
   cases h1:parseRoles s b n with
   | none=>rw[h1] at h;cases h
   | some t =>
     obtain⟨ps0,vs0,b0⟩:=t
     rw[h1] at h
     simp only at h
     cases h2:parseRole (s.rol n) b0 with
     | none=>rw[h2] at h;cases h
     | some t =>
       obtain⟨p,v,b2⟩:=t
       rw[h2] at h
       simp only[Option.some.injEq,Prod.mk.injEq] at h
       obtain⟨rfl,rfl,-⟩:=h
       obtain⟨g1,g2,g3⟩:=parseRoles_ok h1
       refine⟨by simp[g1],by simp[g2],fun i hi=>?_⟩
       rw[getD_snoc (by omega),getD_snoc (by omega),g1,g2]
       by_cases e:i=n
       ·subst e;rw[if_pos rfl,if_pos rfl];exact parseRole_ok h2
       ·rw[if_neg e,if_neg e];exact g3 i (by omega)
def MsOk (cap:Int) (L:List ByteArray):Prop:=(L.length:Int)≤cap∧∀ m∈L,1≤m.size∧m.size≤32
theorem put_msOk {cap:Int} {L:List ByteArray} {m:ByteArray} (h:MsOk cap L) (hp:putE cap L m=0):MsOk cap (L ++ [m]):=by
 unfold putE at hp
 split at hp
 ·omega
 rename_i h1
 split at hp
 ·omega
 rename_i h2
 refine⟨by rw[List.length_append];simp;have:=h.1;omega,fun x hx=>?_⟩
 rcases List.mem_append.1 hx with hx | hx
 ·exact h.2 x hx
 ·simp at hx;subst hx;omega
theorem parseMsgs_ok {cap:Int} (hc:0≤cap) {b:List UInt8}:∀ {n:Nat} {L:List ByteArray} {b':List UInt8},parseMsgs cap b n=some (L,b')→MsOk cap L
 | 0,L,b',h=>by
   simp only[parseMsgs,Option.some.injEq,Prod.mk.injEq] at h
   obtain⟨rfl,-⟩:=h
   exact⟨by simpa using hc,by simp⟩
 | n + 1,L,b',h=>by
   rw[parseMsgs] at h
   cases h1:parseMsgs cap b n with
   | none=>rw[h1] at h;cases h
   | some t =>
     obtain⟨L0,b0⟩:=t
     rw[h1] at h
     simp only at h
     have h3:=parseMsgs_ok hc h1
     cases b0 with
     | nil=>cases h
     | cons a b0 =>
       rw[parseMsg] at h
       split at h
       ·cases h
       split at h
       ·rename_i hp
        simp only[Option.some.injEq,Prod.mk.injEq] at h
        obtain⟨rfl,-⟩:=h
        exact put_msOk h3 hp
       ·cases h
theorem parseWay_ok {cap:Int} (hc:0≤cap) {i k:Nat} {b b':List UInt8} {L:List ByteArray} (h:parseWay cap i k b=some (L,b')):MsOk cap L∧(i=k→L=[]):=by
 unfold parseWay at h
 split at h
 ·cases h
  exact⟨⟨by simpa using hc,by simp⟩,fun _=>rfl⟩
 ·rename_i hne
  cases b with
  | nil=>cases h
  | cons n b=>exact⟨parseMsgs_ok hc h,fun e=>absurd e hne⟩
theorem parseRow_ok {cap:Int} (hc:0≤cap) {i:Nat} {b:List UInt8}:∀ {n:Nat} {R:List (List ByteArray)} {b':List UInt8},parseRow cap i b n=some (R,b') →
  R.length=n∧∀ k,k < n→MsOk cap (R.getD k [])∧(i=k→R.getD k []=[])
 | 0,R,b',h=>by
   simp only[parseRow,Option.some.injEq,Prod.mk.injEq] at h
   obtain⟨rfl,-⟩:=h
   exact⟨rfl,fun i hi=>by omega⟩
 | n + 1,R,b',h=>by
   rw[parseRow] at h
   cases h1:parseRow cap i b n with
   | none=>rw[h1] at h;cases h
   | some t =>
     obtain⟨R0,b0⟩:=t
     rw[h1] at h
     simp only at h
     cases h2:parseWay cap i n b0 with
     | none=>rw[h2] at h;cases h
     | some t =>
       obtain⟨L,b2⟩:=t
       rw[h2] at h
       simp only[Option.some.injEq,Prod.mk.injEq] at h
       obtain⟨rfl,-⟩:=h
       obtain⟨g1,g2⟩:=parseRow_ok hc h1
       refine⟨by simp[g1],fun k hk=>?_⟩
       rw[getD_snoc (by omega),g1]
       by_cases e:k=n
       ·subst e;rw[if_pos rfl];exact parseWay_ok hc h2
       ·rw[if_neg e];exact g2 k (by omega)
theorem parseWays_ok {s:SesD} (hc:0≤s.cap) {b:List UInt8}:∀ {n:Nat} {W:List (List (List ByteArray))} {b':List UInt8},parseWays s b n=some (W,b') →
  W.length=n∧∀ i,i < n→(W.getD i []).length=s.roles.length∧∀ k,k < s.roles.length→MsOk s.cap ((W.getD i []).getD k [])∧(i=k→(W.getD i []).getD k []=[])
 | 0,W,b',h=>by
   simp only[parseWays,Option.some.injEq,Prod.mk.injEq] at h
   obtain⟨rfl,-⟩:=h
   exact⟨rfl,fun i hi=>by omega⟩
 | n + 1,W,b',h=>by
   rw[parseWays] at h
   cases h1:parseWays s b n with
   | none=>rw[h1] at h;cases h
   | some t =>
     obtain⟨W0,b0⟩:=t
     rw[h1] at h
     simp only at h
     cases h2:parseRow s.cap n b0 s.roles.length with
     | none=>rw[h2] at h;cases h
     | some t =>
       obtain⟨R,b2⟩:=t
       rw[h2] at h
       simp only[Option.some.injEq,Prod.mk.injEq] at h
       obtain⟨rfl,-⟩:=h
       obtain⟨g1,g2⟩:=parseWays_ok hc h1
       refine⟨by simp[g1],fun k hk=>?_⟩
       rw[getD_snoc (by omega),g1]
       by_cases e:k=n
       ·subst e;rw[if_pos rfl];exact parseRow_ok hc h2
       ·rw[if_neg e];exact g2 k (by omega)
theorem read_ok {s:SesD} (h:SesOk s) {b b1 b2:List UInt8} {ps:List Nat} {vs:List (List Int)} {W:List (List (List ByteArray))} (h1:parseRoles s b s.roles.length=some (ps,vs,b1)) (h2:parseWays s b1 s.roles.length=some (W,b2)):PSok s ⟨ps,vs,W⟩:=by
 obtain⟨g1,g2,g3⟩:=parseRoles_ok h1
 obtain⟨k1,k2⟩:=parseWays_ok (by have:=h.k1;omega) h2
 refine⟨g1,fun i hi=>(g3 i hi).p,g2,fun i hi=>⟨(g3 i hi).n,(g3 i hi).v⟩,k1,fun i hi=>(k2 i hi).1,fun i k hi hk=>((k2 i hi).2 k hk).1,fun i=>?_⟩
 by_cases hi:i < s.roles.length
 ·exact((k2 i hi).2 i hi).2 rfl
 ·show ((W.getD i []).getD i [])=[]
  rw[show W.getD i []=[] by rw[List.getD_eq_getElem?_getD,List.getElem?_eq_none (by omega)];rfl]
  rfl
theorem parse_ok {s:SesD} (h:SesOk s) {b:List UInt8} {x:PS} (hp:parseP s b=some x):PSok s x:=by
 unfold parseP at hp
 cases h1:parseRoles s b s.roles.length with
 | none=>rw[h1] at hp;cases hp
 | some t =>
   obtain⟨ps,vs,b1⟩:=t
   rw[h1] at hp
   simp only at hp
   cases h2:parseWays s b1 s.roles.length with
   | none=>rw[h2] at hp;cases hp
   | some t =>
     obtain⟨W,b2⟩:=t
     rw[h2] at hp
     cases hp
     exact read_ok h h1 h2
theorem parseRoles_none {s:SesD} {b:List UInt8} {i:Nat} (h:parseRoles s b i=none):∀ {n:Nat},i≤n→parseRoles s b n=none
 | 0,hn=>by obtain rfl:i=0:=by omega
            exact h
 | n + 1,hn=>by
   by_cases e:i=n + 1
   ·subst e;exact h
   ·rw[parseRoles,parseRoles_none h (n:=n) (by omega)]
theorem parseWays_none {s:SesD} {b:List UInt8} {i:Nat} (h:parseWays s b i=none):∀ {n:Nat},i≤n→parseWays s b n=none
 | 0,hn=>by obtain rfl:i=0:=by omega
            exact h
 | n + 1,hn=>by
   by_cases e:i=n + 1
   ·subst e;exact h
   ·rw[parseWays,parseWays_none h (n:=n) (by omega)]
theorem parseRow_none {cap:Int} {b:List UInt8} {r i:Nat} (h:parseRow cap r b i=none):∀ {n:Nat},i≤n→parseRow cap r b n=none
 | 0,hn=>by obtain rfl:i=0:=by omega
            exact h
 | n + 1,hn=>by
   by_cases e:i=n + 1
   ·subst e;exact h
   ·rw[parseRow,parseRow_none h (n:=n) (by omega)]
theorem parseMsgs_none {cap:Int} {b:List UInt8} {i:Nat} (h:parseMsgs cap b i=none):∀ {n:Nat},i≤n→parseMsgs cap b n=none
 | 0,hn=>by obtain rfl:i=0:=by omega
            exact h
 | n + 1,hn=>by
   by_cases e:i=n + 1
   ·subst e;exact h
   ·rw[parseMsgs,parseMsgs_none h (n:=n) (by omega)]
theorem dec_none_roles {s:SesD} {b:List UInt8} {i:Nat} (h:parseRoles s b i=none) (hi:i≤s.roles.length):decP s b=none:=by
 unfold decP parseP
 rw[parseRoles_none h hi]
theorem dec_none_ways {s:SesD} {b b1:List UInt8} {ps:List Nat} {vs:List (List Int)} {i:Nat} (h1:parseRoles s b s.roles.length=some (ps,vs,b1)) (h:parseWays s b1 i=none) (hi:i≤s.roles.length):decP s b=none:=by
 unfold decP parseP
 rw[h1]
 simp only
 rw[parseWays_none h hi]
end Go.Proofs.YtkphhjekfimmlaaGreat
namespace Go.Proofs.YtkphhjekfimmlaaGreat
open Go
def tkV (b:List UInt8) (n:Nat):List UInt8:=if b.length < n then List.replicate n 0 else b.take n
def tkB (b:List UInt8) (n:Nat):List UInt8:=if b.length < n then b else b.drop n
def tkF (b:List UInt8) (bad:Bool) (n:Nat):Bool:=bad || decide (b.length < n)
theorem tkV_length (b:List UInt8) (n:Nat):(tkV b n).length=n:=by
 unfold tkV
 split
 ·rw[List.length_replicate]
 ·rw[List.length_take];omega
def RJ (s:SesD) (key:List UInt8) (bad:Bool) (good:Prop):Prop:=(bad=true∧decP s key=none)∨(bad=false∧good)
structure VJ (b1:List UInt8) (bad1:Bool) (m k:Nat) (vals:List Int) (b':List UInt8) (bad':Bool):Prop where
 n:vals.length=k
 v:∀ v∈vals,0≤v∧v≤65535
 j:(bad'=true∧(bad1=true∨b1.length < 2 * m))∨(bad'=false∧bad1=false∧2 * k≤b1.length∧b'=b1.drop (2 * k)∧vals=valsOf b1 k)
def num2 (l:List UInt8):Int:=256 * ((l.getD 0 0).toNat:Int) + ((l.getD 1 0).toNat:Int)
theorem num2_le (l:List UInt8):0≤num2 l∧num2 l≤65535:=by
 unfold num2
 have:=(l.getD 0 0).toNat_lt
 have:=(l.getD 1 0).toNat_lt
 omega
theorem VJ.start (b1:List UInt8) (bad1:Bool) (m:Nat):VJ b1 bad1 m 0 [] b1 bad1:=by
 refine⟨rfl,by simp,?_⟩
 cases bad1 with
 | true=>exact .inl ⟨rfl,.inl rfl⟩
 | false=>exact .inr ⟨rfl,rfl,by omega,rfl,rfl⟩
theorem VJ.step {b1:List UInt8} {bad1:Bool} {m k:Nat} {vals:List Int} {b':List UInt8} {bad':Bool} (h:VJ b1 bad1 m k vals b' bad') (hk:k < m):VJ b1 bad1 m (k + 1) (vals ++ [num2 (tkV b' 2)]) (tkB b' 2) (tkF b' bad' 2):=by
 refine⟨by simp[h.n],fun v hv=>?_,?_⟩
 ·rcases List.mem_append.1 hv with hv | hv
  ·exact h.v v hv
  ·simp at hv;subst hv;exact num2_le _
 ·rcases h.j with ⟨rfl,h1⟩ | ⟨rfl,h1,h2,h3,h4⟩
  ·exact .inl ⟨rfl,h1⟩
  ·by_cases hl:b'.length < 2
   ·left
    refine⟨by unfold tkF;rw[decide_eq_true hl];rfl,.inr ?_⟩
    rw[h3,List.length_drop] at hl
    omega
   ·right
    have e1:tkV b' 2=b'.take 2:=if_neg hl
    have e2:tkB b' 2=b'.drop 2:=if_neg hl
    refine⟨by unfold tkF;rw[decide_eq_false hl];rfl,h1,?_,?_,?_⟩
    ·rw[h3,List.length_drop] at hl;omega
    ·rw[e2,h3,List.drop_drop];congr 1
    ·rw[valsOf,← h4,e1]
     congr 2
     unfold num2
     have g:∀ j,j < 2→(b'.take 2).getD j 0=b1.getD (2 * k + j) 0:=fun j hj=>by
      rw[List.getD_eq_getElem?_getD,List.getD_eq_getElem?_getD,List.getElem?_take_of_lt hj,h3,List.getElem?_drop]
     rw[g 0 (by omega),g 1 (by omega),Nat.add_zero]
section
variable {s:SesD} {key:List UInt8} {i:Nat} {ps:List Nat} {vs:List (List Int)} {b b':List UInt8} {bad bad':Bool} {vals:List Int}
theorem parseRole_cons (r:RolD) (a:UInt8) (b:List UInt8):parseRole r (a :: b)=if r.sts.length≤a.toNat then none
 else if b.length < 2 * r.ctrs.length then none
 else if fitsV r.ctrs (valsOf b r.ctrs.length) then some (a.toNat,valsOf b r.ctrs.length,b.drop (2 * r.ctrs.length))
 else none:=rfl
abbrev hd1 (b:List UInt8):UInt8:=(tkV b 1).getD 0 0
theorem take_bad (h:RJ s key bad (parseRoles s key i=some (ps,vs,b))) (hi:i < s.roles.length) (hp:¬ bad=true→parseRole (s.rol i) b=none):decP s key=none:=by
 rcases h with ⟨-,h⟩ | ⟨rfl,h⟩
 ·exact h
 ·refine dec_none_roles (i:=i + 1) ?_ (by omega)
  rw[parseRoles,h]
  simp only
  rw[hp (by decide)]
theorem role_bad1 (h:RJ s key bad (parseRoles s key i=some (ps,vs,b))) (hi:i < s.roles.length) (h1:1≤(s.rol i).sts.length) (ha:¬ (hd1 b).toNat < (s.rol i).sts.length):decP s key=none:=by
 refine take_bad h hi fun _=>?_
 cases b with
 | nil=>rfl
 | cons a b =>
   have e:hd1 (a :: b)=a:=by unfold hd1 tkV;rw[if_neg (by simp)];rfl
   rw[e] at ha
   rw[parseRole_cons]
   rw[if_pos (by omega)]
theorem role_short (h:RJ s key bad (parseRoles s key i=some (ps,vs,b))) (hi:i < s.roles.length) (hb:tkF b bad 1=true∨(tkB b 1).length < 2 * (s.rol i).ctrs.length):decP s key=none:=by
 refine take_bad h hi fun hbad=>?_
 cases b with
 | nil=>rfl
 | cons a b =>
   have e2:tkB (a :: b) 1=b:=by unfold tkB;rw[if_neg (by simp)];rfl
   have e3:tkF (a :: b) bad 1=bad:=by unfold tkF;rw[decide_eq_false (by simp)];simp
   rw[e2,e3] at hb
   rw[parseRole_cons]
   split
   ·rfl
   ·rw[if_pos]
    rcases hb with hb | hb
    ·exact absurd hb hbad
    ·exact hb
theorem role_bad2 (h:RJ s key bad (parseRoles s key i=some (ps,vs,b))) (hi:i < s.roles.length) (hv:VJ (tkB b 1) (tkF b bad 1) (s.rol i).ctrs.length (s.rol i).ctrs.length vals b' bad') (hf:fitsV (s.rol i).ctrs vals=false):decP s key=none:=by
 rcases hv.j with ⟨-,h1⟩ | ⟨-,h1,h2,h3,h4⟩
 ·exact role_short h hi h1
 ·refine take_bad h hi fun hbad=>?_
  cases b with
  | nil=>rfl
  | cons a b =>
    have e2:tkB (a :: b) 1=b:=by unfold tkB;rw[if_neg (by simp)];rfl
    rw[e2] at h2 h4
    rw[parseRole_cons]
    split
    ·rfl
    ·rw[if_neg (by omega),← h4,hf];rfl
theorem role_done (h:RJ s key bad (parseRoles s key i=some (ps,vs,b))) (hi:i < s.roles.length) (ha:(hd1 b).toNat < (s.rol i).sts.length) (hv:VJ (tkB b 1) (tkF b bad 1) (s.rol i).ctrs.length (s.rol i).ctrs.length vals b' bad') (hf:fitsV (s.rol i).ctrs vals=true) :
  RJ s key bad' (parseRoles s key (i + 1)=some (ps ++ [(hd1 b).toNat],vs ++ [vals],b')):=by
 rcases hv.j with ⟨hb,h1⟩ | ⟨hb,h1,h2,h3,h4⟩
 ·exact .inl ⟨hb,role_short h hi h1⟩
 ·rcases h with ⟨rfl,h⟩ | ⟨rfl,h⟩
  ·exfalso
   unfold tkF at h1
   simp at h1
  ·right
   refine⟨hb,?_⟩
   rw[parseRoles,h]
   simp only
   cases b with
   | nil =>
     exfalso
     unfold tkF at h1
     simp at h1
   | cons a b =>
     have e:hd1 (a :: b)=a:=by unfold hd1 tkV;rw[if_neg (by simp)];rfl
     have e2:tkB (a :: b) 1=b:=by unfold tkB;rw[if_neg (by simp)];rfl
     rw[e2] at h2 h3 h4
     rw[e] at ha ⊢
     rw[parseRole_cons]
     rw[if_neg (by omega),if_neg (by omega),← h4,hf]
     simp only[if_true]
     rw[h3]
abbrev WJ (s:SesD) (key b1:List UInt8) (i:Nat) (Ws:List (List (List ByteArray))) (b:List UInt8) (bad:Bool):Prop:=RJ s key bad (parseWays s b1 i=some (Ws,b))
theorem ways_bad {b1:List UInt8} {Ws:List (List (List ByteArray))} (h1:RJ s key bad' (parseRoles s key s.roles.length=some (ps,vs,b1))) (hbb:bad'=true→bad=true) (h:WJ s key b1 i Ws b bad) (hi:i < s.roles.length) (hp:¬ bad=true→parseRow s.cap i b s.roles.length=none):decP s key=none:=by
 rcases h with ⟨-,h⟩ | ⟨rfl,h⟩
 ·exact h
 ·rcases h1 with ⟨-,h1⟩ | ⟨-,h1⟩
  ·exact h1
  ·refine dec_none_ways h1 (i:=i + 1) ?_ (by omega)
   rw[parseWays,h]
   simp only
   rw[hp (by decide)]
end
structure RwJ (s:SesD) (key:List UInt8) (i:Nat) (b0:List UInt8) (k:Nat) (R:List (List ByteArray)) (b:List UInt8) (bad:Bool):Prop where
 n:R.length=k
 j:RJ s key bad (parseRow s.cap i b0 k=some (R,b))
 f:∀ k',k'≤s.roles.length→parseRow s.cap i b0 k'=none→decP s key=none
section
variable {s:SesD} {key:List UInt8} {i k:Nat} {b0 b b':List UInt8} {R:List (List ByteArray)} {bad bad':Bool} {L:List ByteArray}
theorem RwJ.start {ps:List Nat} {vs:List (List Int)} {b1:List UInt8} {bad0:Bool} {Ws:List (List (List ByteArray))} (h1:RJ s key bad0 (parseRoles s key s.roles.length=some (ps,vs,b1))) (hbb:bad0=true→bad=true) (h:WJ s key b1 i Ws b bad) (hi:i < s.roles.length):RwJ s key i b 0 [] b bad:=by
 refine⟨rfl,?_,fun k' hk' hn=>ways_bad h1 hbb h hi (fun _=>parseRow_none hn hk')⟩
 rcases h with h | ⟨h,-⟩
 ·exact .inl h
 ·exact .inr ⟨h,rfl⟩
theorem RwJ.done {b1:List UInt8} {Ws:List (List (List ByteArray))} (h:WJ s key b1 i Ws b0 bad) (hr:RwJ s key i b0 s.roles.length R b bad') (hbb:bad=true→bad'=true):WJ s key b1 (i + 1) (Ws ++ [R]) b bad':=by
 rcases hr.j with h1 | ⟨h1,h2⟩
 ·exact .inl h1
 ·refine .inr ⟨h1,?_⟩
  rcases h with ⟨h3,-⟩ | ⟨-,h3⟩
  ·rw[hbb h3] at h1;cases h1
  ·rw[parseWays,h3]
   simp only
   rw[h2]
theorem RwJ.same (h:RwJ s key i b0 i R b bad):RwJ s key i b0 (i + 1) (R ++ [[]]) b bad:=by
 refine⟨by simp[h.n],?_,h.f⟩
 rcases h.j with h1 | ⟨h1,h2⟩
 ·exact .inl h1
 ·refine .inr ⟨h1,?_⟩
  rw[parseRow,h2]
  simp only
  unfold parseWay
  rw[if_pos rfl]
theorem chan_none (h:RwJ s key i b0 k R b bad) (hk:k < s.roles.length) (hp:bad=false→parseWay s.cap i k b=none):decP s key=none:=by
 rcases h.j with ⟨-,h1⟩ | ⟨h1,h2⟩
 ·exact h1
 ·refine h.f (k + 1) (by omega) ?_
  rw[parseRow,h2]
  simp only
  rw[hp h1]
def MJ (s:SesD) (key b:List UInt8) (bad:Bool) (m:Nat) (L:List ByteArray) (b':List UInt8) (bad':Bool):Prop:=
 (bad=true→bad'=true)∧RJ s key bad' (bad=false∧∃ a b2,b=a :: b2∧parseMsgs s.cap b2 m=some (L,b'))
theorem MJ.start (h:RwJ s key i b0 k R b bad) (hk:k < s.roles.length) (hne:i≠k):MJ s key b bad 0 [] (tkB b 1) (tkF b bad 1):=by
 refine⟨fun hb=>by unfold tkF;rw[hb];rfl,?_⟩
 cases bad with
 | true =>
   rcases h.j with ⟨-,h1⟩ | ⟨h1,-⟩
   ·exact .inl ⟨by unfold tkF;rfl,h1⟩
   ·cases h1
 | false =>
   cases b with
   | nil =>
     left
     refine⟨by unfold tkF;simp,chan_none h hk fun _=>?_⟩
     unfold parseWay
     rw[if_neg hne]
   | cons a b2 =>
     right
     refine⟨by unfold tkF;simp,rfl,a,b2,rfl,?_⟩
     rw[show tkB (a :: b2) 1=b2 by unfold tkB;rw[if_neg (by simp)];rfl]
     rfl
def mgT (b:List UInt8):List UInt8:=tkV (tkB b 1) (hd1 b).toNat
def mgB (b:List UInt8):List UInt8:=tkB (tkB b 1) (hd1 b).toNat
def mgF (b:List UInt8) (bad:Bool):Bool:=tkF (tkB b 1) (tkF b bad 1) (hd1 b).toNat
theorem parseMsg_cons (cap:Int) (L:List ByteArray) (n:UInt8) (b:List UInt8):parseMsg cap L (n :: b)=if b.length < n.toNat then none
 else if putE cap L ⟨(b.take n.toNat).toArray⟩=0 then some (L ++ [⟨(b.take n.toNat).toArray⟩],b.drop n.toNat)
 else none:=rfl
theorem msg_cases (cap:Int) (L:List ByteArray) (b:List UInt8) (bad:Bool):(mgF b bad=true∧(bad=true∨parseMsg cap L b=none)) ∨
  (mgF b bad=false∧bad=false∧parseMsg cap L b=if putE cap L ⟨(mgT b).toArray⟩=0 then some (L ++ [⟨(mgT b).toArray⟩],mgB b) else none):=by
 cases bad with
 | true=>left;exact⟨by unfold mgF tkF;simp,.inl rfl⟩
 | false =>
   cases b with
   | nil=>left;exact⟨by unfold mgF tkF;simp,.inr rfl⟩
   | cons a b =>
     have e:hd1 (a :: b)=a:=by unfold hd1 tkV;rw[if_neg (by simp)];rfl
     have e2:tkB (a :: b) 1=b:=by unfold tkB;rw[if_neg (by simp)];rfl
     have e3:tkF (a :: b) false 1=false:=by unfold tkF;simp
     unfold mgF mgT mgB
     rw[e,e2,e3]
     by_cases hl:b.length < a.toNat
     ·left
      refine⟨by unfold tkF;rw[decide_eq_true hl];rfl,.inr ?_⟩
      rw[parseMsg_cons]
      rw[if_pos hl]
     ·right
      refine⟨by unfold tkF;rw[decide_eq_false hl];rfl,rfl,?_⟩
      rw[show tkV b a.toNat=b.take a.toNat from if_neg hl,show tkB b a.toNat=b.drop a.toNat from if_neg hl]
      rw[parseMsg_cons]
      rw[if_neg hl]
theorem way_msgs {a:UInt8} {b2:List UInt8} {cap:Int} {m:Nat} (hne:i≠k) (h:parseMsgs cap b2 m=none) (hm:m≤a.toNat):parseWay cap i k (a :: b2)=none:=by
 unfold parseWay
 rw[if_neg hne]
 exact parseMsgs_none h hm
theorem MJ.no {m:Nat} {b1:List UInt8} {bad1:Bool} (h0:RwJ s key i b0 k R b bad) (hk:k < s.roles.length) (hne:i≠k) (h:MJ s key b bad m L b1 bad1) (hm:m < (hd1 b).toNat) (he:putE s.cap L ⟨(mgT b1).toArray⟩≠0):decP s key=none:=by
 rcases h.2 with ⟨-,h1⟩ | ⟨rfl,rfl,a,b2,rfl,h3⟩
 ·exact h1
 ·refine chan_none h0 hk fun _=>way_msgs hne (m:=m + 1) ?_ ?_
  ·rw[parseMsgs,h3]
   simp only
   rcases msg_cases s.cap L b1 false with ⟨-,h4⟩ | ⟨-,-,h4⟩
   ·rcases h4 with h4 | h4
    ·cases h4
    ·exact h4
   ·rw[h4,if_neg he]
  ·have e:hd1 (a :: b2)=a:=by unfold hd1 tkV;rw[if_neg (by simp)];rfl
   rw[e] at hm;omega
theorem MJ.step {m:Nat} {b1:List UInt8} {bad1:Bool} (h0:RwJ s key i b0 k R b bad) (hk:k < s.roles.length) (hne:i≠k) (h:MJ s key b bad m L b1 bad1) (hm:m < (hd1 b).toNat) (he:putE s.cap L ⟨(mgT b1).toArray⟩=0) :
  MJ s key b bad (m + 1) (L ++ [⟨(mgT b1).toArray⟩]) (mgB b1) (mgF b1 bad1):=by
 refine⟨fun hb=>by unfold mgF tkF;rw[h.1 hb];rfl,?_⟩
 rcases h.2 with ⟨hb1,h1⟩ | ⟨rfl,rfl,a,b2,rfl,h3⟩
 ·exact .inl ⟨by unfold mgF tkF;rw[hb1];rfl,h1⟩
 ·have e:hd1 (a :: b2)=a:=by unfold hd1 tkV;rw[if_neg (by simp)];rfl
  rcases msg_cases s.cap L b1 false with ⟨h4,h5⟩ | ⟨h4,-,h5⟩
  ·refine .inl ⟨h4,chan_none h0 hk fun _=>way_msgs hne (m:=m + 1) ?_ (by rw[e] at hm;omega)⟩
   rw[parseMsgs,h3]
   simp only
   rcases h5 with h5 | h5
   ·cases h5
   ·exact h5
  ·refine .inr ⟨h4,rfl,a,b2,rfl,?_⟩
   rw[parseMsgs,h3]
   simp only
   rw[h5,if_pos he]
theorem MJ.done {b1:List UInt8} {bad1:Bool} (h0:RwJ s key i b0 k R b bad) (hne:i≠k) (h:MJ s key b bad (hd1 b).toNat L b1 bad1):RwJ s key i b0 (k + 1) (R ++ [L]) b1 bad1:=by
 refine⟨by simp[h0.n],?_,h0.f⟩
 rcases h.2 with h1 | ⟨hb1,rfl,a,b2,rfl,h3⟩
 ·exact .inl h1
 ·have e:hd1 (a :: b2)=a:=by unfold hd1 tkV;rw[if_neg (by simp)];rfl
  rw[e] at h3
  rcases h0.j with ⟨h4,-⟩ | ⟨-,h4⟩
  ·cases h4
  ·refine .inr ⟨hb1,?_⟩
   rw[parseRow,h4]
   simp only
   unfold parseWay
   rw[if_neg hne]
   simp only
   rw[h3]
end
end Go.Proofs.YtkphhjekfimmlaaGreat
namespace Go.Proofs.YtkphhjekfimmlaaGreat
open Go.RowKit Go.BigFrame
theorem or_two {x0 x1:Nat} (h0:x0 < 256) (h1:x1 < 256):bits .or .i64 ((x0:Int) * 256) (x1:Int)=256 * (x0:Int) + (x1:Int):=by
 have e:(BitVec.ofInt 64 ((x0:Int) * 256) ||| BitVec.ofInt 64 (x1:Int)).toNat=256 * x0 + x1:=by
  rw[BitVec.toNat_or,BitVec.toNat_ofInt,BitVec.toNat_ofInt]
  rw[show (((x0:Int) * 256) % ((2 ^ 64:Nat):Int)).toNat=x0 <<< 8 by rw[Nat.shiftLeft_eq];omega,show ((x1:Int) % ((2 ^ 64:Nat):Int)).toNat=x1 by omega]
  rw[← Nat.shiftLeft_add_eq_or_of_lt (show x1 < 2 ^ 8 by omega),Nat.shiftLeft_eq]
  omega
 show IntKind.i64.wrap ((BitVec.ofInt 64 ((x0:Int) * 256) ||| BitVec.ofInt 64 (x1:Int)).toNat:Int)=_
 rw[e]
 simp[IntKind.wrap,show IntKind.i64.bits=64 from rfl,show IntKind.i64.signed=true from rfl]
 omega
def CurAt (W:World) (ub:Nat) (b:List UInt8) (bad:Bool):Prop:=W.heap[ub]?=some (.cells #[.string (txt b),.bool bad] 148 (0,0))
structure TkTo (w:World) (ub:Nat) (b:List UInt8) (bad:Bool) (n:Nat) (w':World):Prop where
 cur:CurAt w' ub (tkB b n) (tkF b bad n)
 frm:Frm [ub] w w'
theorem txt_size (b:List UInt8):(txt b).size=b.length:=by unfold txt;exact List.size_toArray ..
theorem ext_list (s:ByteArray) (i j:Nat):(s.extract i j).data.toList=(s.data.toList.take j).drop i:=by
 rw[ByteArray.data_extract,Array.toList_extract,List.extract_eq_take_drop,List.drop_take]
theorem txt_take (b:List UInt8) (n:Nat):(txt b).extract 0 n=txt (b.take n):=by
 apply ByteArray.ext
 apply Array.toList_inj.1
 rw[ext_list]
 simp[txt]
theorem txt_drop (b:List UInt8) (n:Nat):(txt b).extract n (txt b).size=txt (b.drop n):=by
 apply ByteArray.ext
 apply Array.toList_inj.1
 rw[ext_list,txt_size]
 simp[txt]
theorem made_zero (W:World) (n:Nat) (hn:n≤1000):∃ v W',(Instr.makeSlice 26 (.int .i64 (n:Int)) (.int .i64 (n:Int))).run Tryz.prog W=.ok v W'∧Frm [] W W'∧(convert 26 9 v).run Tryz.prog W'=.ok (.string (txt (List.replicate n 0))) W':=by
 obtain⟨i0,hi0,hz0,hz1,hz2⟩:=info_parts Tryz.info5
 have hr:=run_makeSlice (P:=Tryz.prog) W 26 5 i0 _ Tryz.underlying26 hi0 hz0 .i64 .i64 (n:Int) (n:Int) (by omega) (Int.le_refl _) (by rw[hz1];simp;omega) (by rw[hz2];omega) (by omega)
 simp only[Int.toNat_natCast,hz1,Nat.mul_one] at hr
 refine⟨_,_,hr,(Frm.refl _ _).alloc _,?_⟩
 have hB:Byts (W.alloc (.cells (madeCells (Value.int .u8 0).cells n) 5)) (.slice (some ⟨W.heap.size,0,none⟩) n n) (List.replicate n 0):=by
  refine⟨_,n,by rw[List.length_replicate],by rw[List.length_replicate];exact Nat.le_refl _,fun k x hk=>⟨W.heap.size,0,rfl,?_⟩⟩
  have hkn:=lt_of_some hk
  rw[List.length_replicate] at hkn
  rw[List.getElem?_replicate,if_pos hkn] at hk
  cases hk
  rw[cell_of (heap_alloc_new _ _),Nat.zero_add,← Array.getElem?_toList,show (Value.int .u8 0).cells=#[Value.int .u8 0] from rfl,toList_madeCells_one,List.getElem?_replicate,if_pos hkn]
  rfl
 exact hB.conv
set_option maxHeartbeats 2000000 in
set_option maxRecDepth 100000 in
theorem pTake_any (ub n:Nat) (b:List UInt8) (bad:Bool) (w:World) (h:CurAt w ub b bad) (hn:n≤1000):Calls Tryz.prog 64 #[.pointer (some ⟨ub,0,none⟩),.int .i64 n] w (Ret (.string (txt (tkV b n))) (TkTo w ub b bad n)):=by
 have hz:=txt_size b
 have c0:=cell_of h 0
 have c1:=cell_of h 1
 have f0:=free_of h 0
 have f1:=free_of h 1
 have hlt:=lt_of_block h
 have HB:=Lib.hid h
 unfold CurAt at HB
 by_cases hl:b.length < n
 ·have hl':((txt b).size:Int) < (n:Int):=by omega
  have HV:Hid (tkV b n=List.replicate n 0):=Lib.hid (if_pos hl)
  have HT:Hid (tkB b n=b∧tkF b bad n=true):=Lib.hid ⟨if_pos hl,by unfold tkF;rw[decide_eq_true hl,Bool.or_true]⟩
  obtain⟨v,W',m1,m2,m3⟩:=made_zero (w.setCell ⟨ub,1,none⟩ (.bool true)) n hn
  have HM:=Lib.hid m2
  rw[HV.out]
  obtain⟨z,hzz⟩:∃ z,txt (List.replicate n 0)=z:=⟨_,rfl⟩
  rw[hzz] at m3 ⊢
  clear h hl hn m2 hzz HV
  go_enter Tryz.func64,Tryz.ntmps64
  go_wp2
  go_ret
  have hs:=block_setCell HB.out 1 (.bool true)
  have e:(#[Value.string (txt b),.bool bad]:Array Value).setIfInBounds 1 (.bool true)=#[.string (txt b),.bool true]:=rfl
  rw[e] at hs
  refine⟨rfl,?_,((Frm.refl [ub] w).setCell _ (.inl (by simp)) _).trans (HM.out.mono (by simp))⟩
  rw[HT.out.1,HT.out.2]
  exact HM.out.at hs (by simp)
 ·have hl':¬ ((txt b).size:Int) < (n:Int):=by omega
  have hl2:(n:Int)≤((txt b).size:Int):=by omega
  have HV:Hid (tkV b n=b.take n):=Lib.hid (if_neg hl)
  have HT:Hid (tkB b n=b.drop n∧tkF b bad n=bad):=Lib.hid ⟨if_neg hl,by unfold tkF;rw[decide_eq_false hl,Bool.or_false]⟩
  have e1:=txt_take b n
  have e2:=txt_drop b n
  rw[HV.out]
  obtain⟨z,hzz⟩:∃ z,txt (b.take n)=z:=⟨_,rfl⟩
  obtain⟨y,hyy⟩:∃ z,txt (b.drop n)=z:=⟨_,rfl⟩
  have HY:=Lib.hid hyy
  rw[hzz] at e1 ⊢
  rw[hyy] at e2
  clear h hl hn hzz hyy HV hz
  go_enter Tryz.func64,Tryz.ntmps64
  go_wp2
  go_ret
  have hs:=block_setCell HB.out 0 (.string y)
  have e:(#[Value.string (txt b),.bool bad]:Array Value).setIfInBounds 0 (.string y)=#[.string y,.bool bad]:=rfl
  rw[e] at hs
  refine⟨rfl,?_,(Frm.refl [ub] w).setCell _ (.inl (by simp)) _⟩
  rw[HT.out.1,HT.out.2]
  unfold CurAt
  rw[HY.out]
  exact hs
end Go.Proofs.YtkphhjekfimmlaaGreat
