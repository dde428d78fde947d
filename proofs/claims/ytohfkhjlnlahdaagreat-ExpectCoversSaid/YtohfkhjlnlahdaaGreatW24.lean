/- Part of the proof. -/
import Derived.Test.YtohfkhjlnlahdaaGreatW08
import Derived.Test.YtohfkhjlnlahdaaGreatW19
import Derived.Test.YtohfkhjlnlahdaaGreatW01
import Derived.Deep.RegionHeld3
import Derived.Test.YtohfkhjlnlahdaaGreatW23
import Derived.Test.YtohfkhjlnlahdaaGreatW14
import Derived.Lib.Builder
import Derived.Laws.OwnMore
import Derived.Maps.OwnSet
import Derived.Maps.OwnOps
import Derived.Laws.StructEq
import Derived.Laws.EntriesVeiled
import Derived.Laws.Concat
import Derived.Sort.CutIn
import Derived.OrdersIn
import Derived.Shelf.SortM.Plain
import Derived.Shelf.SortM.SortNone
import Derived.Lib.AppendStr
import Derived.Test.YtohfkhjlnlahdaaGreatW13
set_option linter.all false
namespace Go.Proofs.YtohfkhjlnlahdaaGreat
open Go
section
variable {s:SesD} {x:PS}
theorem mem_hits {m:ByteArray} {i k:Nat} {l:List (Nat × ByteArray)} {v:Mv}:v∈hits m i k l↔∃ e∈l,e.2=m∧v=⟨1,i,k,e.1⟩:=by
 unfold hits
 rw[List.mem_filterMap]
 constructor
 ·rintro⟨e,he,h⟩
  split at h
  ·rename_i h2;exact⟨e,he,h2,by simpa using h.symm⟩
  ·cases h
 ·rintro⟨e,he,h2,rfl⟩
  exact⟨e,he,by rw[if_pos h2]⟩
theorem mem_movesP {v:Mv}:v∈movesP s x↔(∃ i k,i < s.roles.length∧k < (s.rol i).steps.length∧v∈stepMv s x i k)∨(∃ i k,i < s.roles.length∧k < s.roles.length∧v∈loseMv s x i k):=by
 unfold movesP
 rw[List.mem_append,mem_cat,mem_cat]
 simp only[mem_cat]
 constructor
 ·rintro(⟨i,h1,k,h2,h3⟩ | ⟨i,h1,k,h2,h3⟩)
  ·exact .inl ⟨i,k,h1,h2,h3⟩
  ·exact .inr ⟨i,k,h1,h2,h3⟩
 ·rintro(⟨i,k,h1,h2,h3⟩ | ⟨i,k,h1,h2,h3⟩)
  ·exact .inl ⟨i,h1,k,h2,h3⟩
  ·exact .inr ⟨i,h1,k,h2,h3⟩
theorem mem_stepMv {v:Mv} {i k:Nat} (h:v∈stepMv s x i k):v.kind=1∧v.role=i∧v.step=k∧possB s x i k=true ∧
  (((s.rol i).stp k).kind=2→∃ p:Nat,v.place=p∧(p,((s.rol i).stp k).msg)∈chlK s.cls (x.way (peerN s ((s.rol i).stp k)) i) (x.way (peerN s ((s.rol i).stp k)) i).length) ∧
  (((s.rol i).stp k).kind≠2→v.place=0)∧(((s.rol i).stp k).kind=1→((x.way i (peerN s ((s.rol i).stp k))).length:Int) < s.cap):=by
 unfold stepMv at h
 cases hp:possB s x i k with
 | false=>rw[if_pos hp] at h;cases h
 | true =>
   rw[if_neg (by rw[hp];decide)] at h
   by_cases h2:((s.rol i).stp k).kind=2
   ·rw[if_pos h2] at h
    obtain⟨e,he,e2,rfl⟩:=mem_hits.1 h
    exact⟨rfl,rfl,rfl,rfl,fun _=>⟨e.1,rfl,by rw[← e2];exact he⟩,fun h3=>absurd h2 h3,fun h3=>by rw[h2] at h3;cases h3⟩
   ·rw[if_neg h2] at h
    split at h
    ·cases h
    ·rename_i h3
     simp only[List.mem_singleton] at h
     subst h
     exact⟨rfl,rfl,rfl,rfl,fun h4=>absurd h4 h2,fun _=>rfl,fun h4=>by
      rcases Int.lt_or_le ((x.way i (peerN s ((s.rol i).stp k))).length:Int) s.cap with h5 | h5
      ·exact h5
      ·exact absurd ⟨h4,h5⟩ h3⟩
theorem mem_loseMv {v:Mv} {i k:Nat}:v∈loseMv s x i k↔v=⟨2,i,k,0⟩∧s.cls=3∧0 < (x.way i k).length:=by
 unfold loseMv
 split
 ·rename_i h;simp[h]
 ·rename_i h
  exact⟨fun h1=>absurd h1 (by simp),fun h1=>absurd h1.2 h⟩
theorem takeL_mem {cls:Int} {L:List ByteArray} {p:Int}:(takeL cls L p).length≤L.length∧∀ m∈takeL cls L p,m∈L:=by
 unfold takeL
 split
 ·exact⟨List.length_eraseIdx_le _ _,fun m hm=>List.mem_of_mem_eraseIdx hm⟩
 ·exact⟨Nat.le_refl _,fun m hm=>hm⟩
theorem loseL_mem {cls:Int} {L:List ByteArray}:(loseL cls L).length≤L.length∧∀ m∈loseL cls L,m∈L:=by
 unfold loseL
 split
 ·exact takeL_mem
 ·exact⟨Nat.le_refl _,fun m hm=>hm⟩
theorem bank_at (h:SesOk s) (hx:PSok s x) {i k:Nat} (hi:i < s.roles.length) (hk:k < (s.rol i).steps.length) :
  (bankDo (s.rol i).ctrs (x.bank i) ((s.rol i).stp k)).length=(s.rol i).ctrs.length ∧
  (bankOk (s.rol i).ctrs (x.bank i) ((s.rol i).stp k)=true→∀ (j:Nat) (c:CtrD),(s.rol i).ctrs[j]?=some c→0≤(bankDo (s.rol i).ctrs (x.bank i) ((s.rol i).stp k)).getD j 0∧(bankDo (s.rol i).ctrs (x.bank i) ((s.rol i).stp k)).getD j 0≤c.lim):=by
 obtain⟨hl,hb⟩:=hx.vb i hi
 unfold bankDo bankOk
 by_cases he:((s.rol i).stp k).ctr=emptyS
 ·rw[if_pos he];exact⟨hl,fun _=>hb⟩
 ·rw[if_neg he,if_neg he]
  refine⟨by rw[List.length_set];exact hl,fun hok j c hj=>?_⟩
  obtain⟨n,d,e1,e2,-⟩:=(h.stp hi hk).ctr he
  rw[e1] at hok ⊢
  simp only[Int.toNat_natCast,Bool.and_eq_true] at hok ⊢
  rw[List.getD_eq_getElem?_getD,List.getElem?_set]
  by_cases hn:n=j
  ·subst hn
   have hlt:=lt_of_some hj
   rw[if_pos rfl,if_pos (by omega)]
   have hdc:(s.rol i).ctrs.getD n dC=c:=getD_some hj
   rw[hdc] at hok
   have h2:=hok.2
   simp only[allowsV,Bool.and_eq_true,decide_eq_true_eq] at h2
   simp only[Option.getD_some]
   constructor <;> omega
  ·rw[if_neg hn,← List.getD_eq_getElem?_getD]
   exact hb j c hj
theorem next_ok (h:SesOk s) (hx:PSok s x) {v:Mv} (hv:v∈movesP s x):PSok s (nextP s x v):=by
 rcases mem_movesP.1 hv with ⟨i,k,hi,hk,hm⟩ | ⟨i,k,hi,hk,hm⟩
 ·obtain⟨e1,e2,e3,e4,e5,e6,e7⟩:=mem_stepMv hm
  have hst:=h.stp hi hk
  obtain⟨bl,bb⟩:=bank_at h hx hi hk
  have hp:bankOk (s.rol i).ctrs (x.bank i) ((s.rol i).stp k)=true:=by
   unfold possB at e4;rw[Bool.and_eq_true] at e4;exact e4.1
  have bb:=bb hp
  have h0:∀ ws,PSok s { x with ways:=ws }→PSok s { pos:=x.pos.set i (stIx (s.rol i) ((s.rol i).stp k).to).toNat,vals:=x.vals.set i (bankDo (s.rol i).ctrs (x.bank i) ((s.rol i).stp k)),ways:=ws }:=by
   intro ws hw
   refine⟨by simpa using hx.pl,fun j hj=>?_,by simpa using hx.vl,fun j hj=>?_,hw.wl,hw.wr,hw.wb,hw.wd⟩
   ·show (x.pos.set i _).getD j 0 < _
    rw[List.getD_eq_getElem?_getD,List.getElem?_set]
    by_cases e:i=j
    ·subst e
     rw[if_pos rfl,if_pos (by rw[hx.pl];exact hi)]
     obtain⟨q,hq,hql⟩:=ixf_nat hst.to
     have e':stIx (s.rol i) ((s.rol i).stp k).to=q:=hq
     rw[e']
     simpa using hql
    ·rw[if_neg e,← List.getD_eq_getElem?_getD];exact hx.pb j hj
   ·show ((x.vals.set i _).getD j []).length=_∧∀ (k:Nat) (c:CtrD),_→0≤((x.vals.set i _).getD j []).getD k 0∧((x.vals.set i _).getD j []).getD k 0≤_
    have e9:(x.vals.set i (bankDo (s.rol i).ctrs (x.bank i) ((s.rol i).stp k))).getD j []=if i=j then bankDo (s.rol i).ctrs (x.bank i) ((s.rol i).stp k) else x.bank j:=by
     rw[List.getD_eq_getElem?_getD,List.getElem?_set]
     by_cases e:i=j
     ·subst e;rw[if_pos rfl,if_pos (by rw[hx.vl];exact hi),if_pos rfl];rfl
     ·rw[if_neg e,if_neg e,← List.getD_eq_getElem?_getD];rfl
    rw[e9]
    by_cases e:i=j
    ·subst e;rw[if_pos rfl];exact⟨bl,bb⟩
    ·rw[if_neg e];exact hx.vb j hj
  unfold nextP
  rw[if_neg (by rw[e1];decide),e2,e3,Int.toNat_natCast,Int.toNat_natCast]
  apply h0
  by_cases k1:((s.rol i).stp k).kind=1
  ·rw[if_pos k1]
   obtain⟨-,p1,p2⟩:=h.peer hi hk (by omega)
   refine hx.set hi p1 (fun e=>p2 e.symm) ?_
   obtain⟨w1,w2⟩:=hx.wb i _ hi p1
   unfold putL
   split
   ·refine⟨by rw[List.length_append];simp;have:=e7 k1;omega,fun m hm=>?_⟩
    rcases List.mem_append.1 hm with hm | hm
    ·exact w2 m hm
    ·rw[List.mem_singleton] at hm;subst hm;exact hst.msg (by omega)
   ·exact⟨w1,w2⟩
  ·rw[if_neg k1]
   by_cases k2:((s.rol i).stp k).kind=2
   ·rw[if_pos k2]
    obtain⟨-,p1,p2⟩:=h.peer hi hk (by omega)
    refine hx.set p1 hi p2 ?_
    obtain⟨w1,w2⟩:=hx.wb _ i p1 hi
    have:=takeL_mem (cls:=s.cls) (L:=x.way (peerN s ((s.rol i).stp k)) i) (p:=v.place)
    exact⟨by omega,fun m hm=>w2 m (this.2 m hm)⟩
   ·rw[if_neg k2];exact hx
 ·obtain⟨rfl,e2,e3⟩:=mem_loseMv.1 hm
  unfold nextP
  rw[if_pos rfl,Int.toNat_natCast,Int.toNat_natCast]
  have hne:i≠k:=fun e=>by subst e;rw[hx.wd] at e3;simp at e3
  refine hx.set hi hk hne ?_
  obtain⟨w1,w2⟩:=hx.wb i k hi hk
  have:=loseL_mem (cls:=s.cls) (L:=x.way i k)
  exact⟨by omega,fun m hm=>w2 m (this.2 m hm)⟩
theorem first_way (s:SesD) (i k:Nat):(firstP s).way i k=[]:=by
 show ((s.roles.map fun _=>s.roles.map fun _=>([]:List ByteArray)).getD i []).getD k []=[]
 simp only[List.getD_eq_getElem?_getD,List.getElem?_map]
 cases s.roles[i]? with
 | none=>simp
 | some r=>simp only[Option.map_some,Option.getD_some,List.getElem?_map];cases s.roles[k]? <;> simp
theorem first_ok (h:SesOk s):PSok s (firstP s):=by
 refine⟨by simp[firstP],fun i hi=>?_,by simp[firstP],fun i hi=>?_,by simp[firstP],fun i hi=>?_,fun i k _ _=>?_,fun i=>first_way s i i⟩
 ·have e:(firstP s).at i=0:=by
   show (s.roles.map fun _=>0).getD i 0=0
   simp only[List.getD_eq_getElem?_getD,List.getElem?_map];cases s.roles[i]? <;> simp
  rw[e]
  exact(h.at hi).s1
 ·have e:(firstP s).bank i=(s.rol i).ctrs.map fun _=>0:=by
   show (s.roles.map fun r=>r.ctrs.map fun _=>(0:Int)).getD i []=_
   rw[List.getD_eq_getElem?_getD,List.getElem?_map,SesD.rol_some hi];rfl
  rw[e]
  refine⟨by simp,fun k c hc=>?_⟩
  have:=(h.at hi).cN c (List.mem_of_getElem? hc)
  rw[List.getD_eq_getElem?_getD,List.getElem?_map,hc]
  exact⟨by simp,by simp;omega⟩
 ·show ((s.roles.map fun _=>s.roles.map fun _=>([]:List ByteArray)).getD i []).length=_
  rw[List.getD_eq_getElem?_getD,List.getElem?_map,SesD.rol_some hi];simp
 ·rw[first_way];exact⟨by simp;have:=h.k1;omega,by simp⟩
theorem chl_iff {cls:Int} {L:List ByteArray} {p:Nat} {m:ByteArray}:(p,m)∈chlK cls L L.length↔takeOk cls L p=true∧takeM cls L p=m:=by
 have h1:(p,m)∈chlK cls L L.length↔p < L.length∧chc cls L p=true∧L.getD p ByteArray.empty=m:=by
  constructor
  ·intro h
   obtain⟨e1,e2⟩:=mem_chl _ h
   have:=(mem_chp L.length).1 (show p∈chp cls L L.length from List.mem_map.2 ⟨_,h,rfl⟩)
   exact⟨e1,this.2,e2.symm⟩
  ·rintro⟨e1,e2,rfl⟩
   obtain⟨rest,hr⟩:=chl_split e1 e2
   rw[hr];simp
 have h2:takeOk cls L p=true↔p < L.length∧chc cls L p=true:=by
  unfold takeOk
  simp
 rw[h1,h2]
 constructor
 ·rintro⟨e1,e2,e3⟩
  refine⟨⟨e1,e2⟩,?_⟩
  unfold takeM
  rw[if_pos (h2.2 ⟨e1,e2⟩)]
  simpa using e3
 ·rintro⟨⟨e1,e2⟩,e3⟩
  refine⟨e1,e2,?_⟩
  unfold takeM at e3
  rw[if_pos (h2.2 ⟨e1,e2⟩)] at e3
  simpa using e3
theorem step_iff {i k:Nat} {p:Int}:(⟨1,i,k,p⟩:Mv)∈stepMv s x i k↔possB s x i k=true ∧
  (if ((s.rol i).stp k).kind=2 then takeE s.cls (x.way (peerN s ((s.rol i).stp k)) i) p=0∧takeM s.cls (x.way (peerN s ((s.rol i).stp k)) i) p=((s.rol i).stp k).msg
   else p=0∧(((s.rol i).stp k).kind=1→((x.way i (peerN s ((s.rol i).stp k))).length:Int) < s.cap)):=by
 constructor
 ·intro h
  obtain⟨-,-,-,e4,e5,e6,e7⟩:=mem_stepMv h
  refine⟨e4,?_⟩
  split
  ·rename_i h2
   obtain⟨q,hq,hm⟩:=e5 h2
   obtain rfl:p=q:=hq
   obtain⟨h3,h4⟩:=chl_iff.1 hm
   exact⟨by unfold takeE;rw[if_pos h3],h4⟩
  ·rename_i h2
   exact⟨e6 h2,e7⟩
 ·rintro⟨h1,h2⟩
  unfold stepMv
  rw[if_neg (by rw[h1];decide)]
  split at h2
  ·rename_i k2
   rw[if_pos k2,mem_hits]
   have ho:takeOk s.cls (x.way (peerN s ((s.rol i).stp k)) i) p=true:=by
    have:=h2.1
    unfold takeE at this
    split at this
    ·assumption
    ·cases this
   have hp:0≤p:=by
    have h3:=ho
    unfold takeOk at h3
    simp only[Bool.and_eq_true,decide_eq_true_eq] at h3
    exact h3.1.1
   obtain⟨q,rfl⟩:=Int.eq_ofNat_of_zero_le hp
   exact⟨_,chl_iff.2 ⟨ho,h2.2⟩,rfl,rfl⟩
  ·rename_i k2
   obtain⟨rfl,h3⟩:=h2
   rw[if_neg k2,if_neg (fun h4=>by have:=h3 h4.1;omega)]
   simp
def doB (s:SesD) (x:PS) (v:Mv):Bool:=
 if v.role < 0∨(s.roles.length:Int)≤v.role∨v.step < 0 then false
 else if v.kind=2 then
  (if (s.roles.length:Int)≤v.step∨v.step=v.role∨v.place≠0 then false else decide (loseE s.cls (x.way v.role.toNat v.step.toNat)=0))
 else if v.kind≠1∨((s.rol v.role.toNat).steps.length:Int)≤v.step then false
 else if possB s x v.role.toNat v.step.toNat=false then false
 else if ((s.rol v.role.toNat).stp v.step.toNat).kind=2 then
  decide (takeE s.cls (x.way (peerN s ((s.rol v.role.toNat).stp v.step.toNat)) v.role.toNat) v.place=0∧takeM s.cls (x.way (peerN s ((s.rol v.role.toNat).stp v.step.toNat)) v.role.toNat) v.place=((s.rol v.role.toNat).stp v.step.toNat).msg)
 else if ((s.rol v.role.toNat).stp v.step.toNat).kind=1 then
  decide (putE s.cap (x.way v.role.toNat (peerN s ((s.rol v.role.toNat).stp v.step.toNat))) ((s.rol v.role.toNat).stp v.step.toNat).msg=0∧v.place=0)
 else decide (v.place=0)
theorem lose_iff {cls:Int} {L:List ByteArray}:loseE cls L=0↔cls=3∧0 < L.length:=by
 unfold loseE
 by_cases h:cls=3
 ·subst h
  rw[if_pos rfl]
  unfold takeE takeOk
  cases L with
  | nil=>simp
  | cons a L=>simp[chc]
 ·rw[if_neg h];simp[h]
theorem put_iff (h:SesOk s) (hx:PSok s x) {i k:Nat} (hi:i < s.roles.length) (hk:k < (s.rol i).steps.length) (k1:((s.rol i).stp k).kind=1) :
  putE s.cap (x.way i (peerN s ((s.rol i).stp k))) ((s.rol i).stp k).msg=0↔((x.way i (peerN s ((s.rol i).stp k))).length:Int) < s.cap:=by
 have hm:=(h.stp hi hk).msg (by omega)
 obtain⟨-,p1,-⟩:=h.peer hi hk (by omega)
 have hw:=(hx.wb i _ hi p1).1
 unfold putE
 rw[if_neg (by omega)]
 split
 ·rename_i e;simp;omega
 ·rename_i e;simp;omega
theorem do_iff (h:SesOk s) (hx:PSok s x) (v:Mv):doB s x v=true↔v∈movesP s x:=by
 rw[mem_movesP]
 constructor
 ·intro hd
  unfold doB at hd
  by_cases h1:v.role < 0∨(s.roles.length:Int)≤v.role∨v.step < 0
  ·rw[if_pos h1] at hd;cases hd
  ·rw[if_neg h1] at hd
   obtain⟨i,hi⟩:=Int.eq_ofNat_of_zero_le (show 0≤v.role by omega)
   obtain⟨k,hk⟩:=Int.eq_ofNat_of_zero_le (show 0≤v.step by omega)
   obtain⟨vk,vr,vs,vp⟩:=v
   simp only at hi hk h1 hd
   subst hi
   subst hk
   simp only[Int.toNat_natCast] at hd
   by_cases h2:vk=2
   ·subst h2
    rw[if_pos rfl] at hd
    split at hd
    ·cases hd
    ·rename_i h3
     rw[decide_eq_true_eq,lose_iff] at hd
     obtain rfl:vp=0:=by omega
     exact .inr ⟨i,k,by omega,by omega,mem_loseMv.2 ⟨rfl,hd⟩⟩
   ·rw[if_neg h2] at hd
    by_cases h3:vk≠1∨((s.rol i).steps.length:Int)≤k
    ·rw[if_pos h3] at hd;cases hd
    ·rw[if_neg h3] at hd
     obtain rfl:vk=1:=by omega
     have hi:i < s.roles.length:=by omega
     have hk:k < (s.rol i).steps.length:=by omega
     by_cases h4:possB s x i k=false
     ·rw[if_pos h4] at hd;cases hd
     ·rw[if_neg h4] at hd
      refine .inl ⟨i,k,hi,hk,step_iff.2 ⟨by simpa using h4,?_⟩⟩
      by_cases k2:((s.rol i).stp k).kind=2
      ·rw[if_pos k2] at hd ⊢
       exact of_decide_eq_true hd
      ·rw[if_neg k2] at hd ⊢
       by_cases k1:((s.rol i).stp k).kind=1
       ·rw[if_pos k1] at hd
        obtain⟨e1,e2⟩:=of_decide_eq_true hd
        exact⟨e2,fun _=>(put_iff h hx hi hk k1).1 e1⟩
       ·rw[if_neg k1] at hd
        exact⟨of_decide_eq_true hd,fun e=>absurd e k1⟩
 ·rintro(⟨i,k,hi,hk,hm⟩ | ⟨i,k,hi,hk,hm⟩)
  ·obtain⟨e1,e2,e3,-⟩:=mem_stepMv hm
   obtain⟨vk,vr,vs,vp⟩:=v
   simp only at e1 e2 e3
   subst e1
   subst e2
   subst e3
   obtain⟨h4,h5⟩:=step_iff.1 hm
   unfold doB
   rw[if_neg (by simp only;omega),if_neg (by simp),if_neg (by simp only[Int.toNat_natCast];omega)]
   simp only[Int.toNat_natCast]
   rw[if_neg (by rw[h4];decide)]
   by_cases k2:((s.rol i).stp k).kind=2
   ·rw[if_pos k2] at h5 ⊢
    exact decide_eq_true h5
   ·rw[if_neg k2] at h5 ⊢
    by_cases k1:((s.rol i).stp k).kind=1
    ·rw[if_pos k1]
     exact decide_eq_true ⟨(put_iff h hx hi hk k1).2 (h5.2 k1),h5.1⟩
    ·rw[if_neg k1]
     exact decide_eq_true h5.1
  ·obtain⟨rfl,e2,e3⟩:=mem_loseMv.1 hm
   have hne:i≠k:=fun e=>by subst e;rw[hx.wd] at e3;simp at e3
   unfold doB
   rw[if_neg (by simp only;omega),if_pos rfl,if_neg (by simp only;omega)]
   exact decide_eq_true (lose_iff.2 ⟨e2,e3⟩)
def movesR (s:SesD) (x:PS):List Mv:=
 cat (fun i=>cat (fun k=>cat (fun p=>if doB s x ⟨1,i,k,p⟩=true then [⟨1,i,k,p⟩] else []) s.cap.toNat) (s.rol i).steps.length) s.roles.length ++
 cat (fun i=>cat (fun k=>if doB s x ⟨2,i,k,0⟩=true then [⟨2,i,k,0⟩] else []) s.roles.length) s.roles.length
theorem hits_append (m:ByteArray) (i k:Nat) (a b:List (Nat × ByteArray)):hits m i k (a ++ b)=hits m i k a ++ hits m i k b:=by
 unfold hits;rw[List.filterMap_append]
theorem hits_cat (m:ByteArray) (i k:Nat) (cls:Int) (L:List ByteArray):∀ n,n≤L.length →
  hits m i k (chlK cls L n)=cat (fun p=>if takeE cls L p=0∧takeM cls L p=m then [(⟨1,i,k,p⟩:Mv)] else []) n
 | 0,_=>rfl
 | n + 1,h=>by
   rw[chlK,hits_append,cat,hits_cat m i k cls L n (by omega)]
   congr 1
   have ho:takeOk cls L (n:Int)=chc cls L n:=by
    unfold takeOk
    rw[decide_eq_true (by omega)];simp
   cases hc:chc cls L n with
   | true =>
     rw[if_pos rfl]
     unfold takeE takeM
     rw[ho,hc]
     simp[hits]
     split <;> simp[*]
   | false =>
     rw[if_neg (by decide),if_neg]
     ·rfl
     ·unfold takeE;rw[ho,hc];simp
theorem cat_more {α:Type} {f:Nat→List α} {n:Nat}:∀ {m:Nat},n≤m→(∀ k,n≤k→k < m→f k=[])→cat f m=cat f n
 | 0,h,_=>by obtain rfl:n=0:=by omega
             rfl
 | m + 1,h,hn=>by
   by_cases e:n=m + 1
   ·subst e;rfl
   ·rw[cat,hn m (by omega) (by omega),List.append_nil]
    exact cat_more (by omega) (fun k h1 h2=>hn k h1 (by omega))
theorem cat_one {α:Type} {f:Nat→List α} {m:Nat} (h:1≤m) (hn:∀ k,1≤k→k < m→f k=[]):cat f m=f 0:=by
 rw[cat_more h hn];rfl
theorem if_iff {α:Type} {p q:Prop} [Decidable p] [Decidable q] (h:p↔q) (a b:α):(if p then a else b)=if q then a else b:=by
 by_cases hp:p
 ·rw[if_pos hp,if_pos (h.1 hp)]
 ·rw[if_neg hp,if_neg (fun hq=>hp (h.2 hq))]
theorem doB_step {i k:Nat} {p:Int} (h:SesOk s) (hx:PSok s x) (hi:i < s.roles.length) (hk:k < (s.rol i).steps.length):doB s x ⟨1,i,k,p⟩=true↔(⟨1,i,k,p⟩:Mv)∈stepMv s x i k:=by
 rw[do_iff h hx,mem_movesP]
 constructor
 ·rintro(⟨a,b,-,-,hm⟩ | ⟨a,b,-,-,hm⟩)
  ·obtain⟨-,e2,e3,-⟩:=mem_stepMv hm
   obtain rfl:i=a:=Int.ofNat.inj e2
   obtain rfl:k=b:=Int.ofNat.inj e3
   exact hm
  ·have:=(mem_loseMv.1 hm).1
   cases this
 ·intro hm;exact .inl ⟨i,k,hi,hk,hm⟩
theorem movesR_eq (h:SesOk s) (hx:PSok s x):movesR s x=movesP s x:=by
 unfold movesR movesP
 congr 1
 ·refine cat_congr fun i hi=>cat_congr fun k hk=>?_
  have e1:(fun p:Nat=>if doB s x ⟨1,i,k,p⟩=true then [(⟨1,i,k,p⟩:Mv)] else [])=fun p:Nat=>if (⟨1,i,k,p⟩:Mv)∈stepMv s x i k then [(⟨1,i,k,p⟩:Mv)] else []:=by
   funext p
   exact if_iff (doB_step h hx hi hk) _ _
  rw[e1]
  have hc:=h.k1
  cases hp:possB s x i k with
  | false =>
    rw[show stepMv s x i k=[] by unfold stepMv;rw[if_pos hp]]
    exact cat_nil fun p _=>by simp
  | true =>
    by_cases k2:((s.rol i).stp k).kind=2
    ·obtain⟨-,p1,-⟩:=h.peer hi hk (by omega)
     have hw:=(hx.wb _ i p1 hi).1
     have e2:stepMv s x i k=hits ((s.rol i).stp k).msg i k (chlK s.cls (x.way (peerN s ((s.rol i).stp k)) i) (x.way (peerN s ((s.rol i).stp k)) i).length):=by
      unfold stepMv;rw[if_neg (by rw[hp];decide),if_pos k2]
     have e3:(fun p:Nat=>if (⟨1,i,k,p⟩:Mv)∈stepMv s x i k then [(⟨1,i,k,p⟩:Mv)] else []) =
       fun p:Nat=>if takeE s.cls (x.way (peerN s ((s.rol i).stp k)) i) p=0∧takeM s.cls (x.way (peerN s ((s.rol i).stp k)) i) p=((s.rol i).stp k).msg then [(⟨1,i,k,p⟩:Mv)] else []:=by
      funext p
      refine if_iff ?_ _ _
      rw[step_iff,if_pos k2]
      exact⟨fun h=>h.2,fun h=>⟨hp,h⟩⟩
     rw[e3,e2,hits_cat _ _ _ _ _ _ (Nat.le_refl _)]
     refine cat_more (by omega) (fun p h1 _=>?_)
     rw[if_neg]
     rintro⟨h2,-⟩
     unfold takeE takeOk at h2
     rw[decide_eq_false (by omega)] at h2
     simp at h2
    ·have e3:(fun p:Nat=>if (⟨1,i,k,p⟩:Mv)∈stepMv s x i k then [(⟨1,i,k,p⟩:Mv)] else []) =
       fun p:Nat=>if p=0∧(((s.rol i).stp k).kind=1→((x.way i (peerN s ((s.rol i).stp k))).length:Int) < s.cap) then [(⟨1,i,k,p⟩:Mv)] else []:=by
      funext p
      refine if_iff ?_ _ _
      rw[step_iff,if_neg k2]
      exact⟨fun h=>⟨by have:=h.2.1;omega,h.2.2⟩,fun h=>⟨hp,by have:=h.1;omega,h.2⟩⟩
     rw[e3,cat_one (by omega) (fun p h1 _=>if_neg (by omega))]
     unfold stepMv
     rw[if_neg (c:=possB s x i k=false) (by rw[hp];decide),if_neg k2]
     by_cases h4:((s.rol i).stp k).kind=1∧s.cap≤((x.way i (peerN s ((s.rol i).stp k))).length:Int)
     ·rw[if_pos h4,if_neg (fun h5=>by have:=h5.2 h4.1;omega)]
     ·rw[if_neg h4,if_pos ⟨rfl,fun h5=>by
       rcases Int.lt_or_le ((x.way i (peerN s ((s.rol i).stp k))).length:Int) s.cap with h6 | h6
       ·exact h6
       ·exact absurd ⟨h5,h6⟩ h4⟩]
      rfl
 ·refine cat_congr fun i hi=>cat_congr fun k hk=>?_
  unfold loseMv
  refine if_iff ?_ _ _
  rw[do_iff h hx,mem_movesP]
  constructor
  ·rintro(⟨a,b,-,-,hm⟩ | ⟨a,b,-,-,hm⟩)
   ·have:=(mem_stepMv hm).1
    cases this
   ·obtain⟨e,e2,e3⟩:=mem_loseMv.1 hm
    simp only[Mv.mk.injEq,true_and,and_true] at e
    obtain⟨ea,eb⟩:=e
    obtain rfl:i=a:=by omega
    obtain rfl:k=b:=by omega
    exact⟨e2,e3⟩
  ·intro hm;exact .inr ⟨i,k,hi,hk,mem_loseMv.2 ⟨rfl,hm⟩⟩
end
end Go.Proofs.YtohfkhjlnlahdaaGreat
namespace Go.Proofs.YtohfkhjlnlahdaaGreat
open Go.RowKit Go.BigFrame
theorem few_any {α:Type} (p:Nat→α→Bool) (d:α) (l:List α) (least most:Nat):(l.length < least∨most < l.length∨anyIx p 0 l=true)↔0≤fewI l.length least most (fun i=>p i (l.getD i d)):=by
 rw[fewI_iff (by omega)]
 have e:(∃ i,i < l.length∧p i (l.getD i d)=true)↔anyIx p 0 l=true:=by
  rw[anyIx_iff]
  constructor
  ·rintro⟨i,h1,h2⟩
   exact⟨i,l.getD i d,some_getD h1,by rw[Nat.zero_add];exact h2⟩
  ·rintro⟨i,x,h1,h2⟩
   rw[Nat.zero_add] at h2
   exact⟨i,lt_of_some h1,by rw[getD_some h1];exact h2⟩
 rw[e]
 have e1:(l.length < least)↔((l.length:Int) < (least:Int)):=by omega
 have e2:(most < l.length)↔((most:Int) < (l.length:Int)):=by omega
 rw[e1,e2]
def fewC (r:RolD):Int:=fewI r.ctrs.length 0 4 (fun i=>ctrBad r i (r.ctrs.getD i dC))
def fewS (r:RolD):Int:=fewI r.sts.length 1 24 (fun i=>stBad r i (r.sts.getD i dS))
def fewT (r:RolD):Int:=fewI r.steps.length 0 80 (fun i=>!stepB r i (r.steps.getD i dT))
theorem ck_few (r:RolD):ckRole r=if nameB r.name=false then 290 else if 0≤fewC r then 291 else if 0≤fewS r then 292 else if 0≤fewT r then 293 else 0:=by
 have h1:=few_any (ctrBad r) dC r.ctrs 0 4
 have h2:=few_any (stBad r) dS r.sts 1 24
 have h3:=few_any (fun i s=>!stepB r i s) dT r.steps 0 80
 have g1:(4 < r.ctrs.length∨anyIx (ctrBad r) 0 r.ctrs=true)↔0≤fewC r:=by
  refine Iff.trans ?_ h1
  constructor
  ·exact fun h=>.inr h
  ·rintro(h | h)
   ·omega
   ·exact h
 have g3:(80 < r.steps.length∨anyIx (fun i s=>!stepB r i s) 0 r.steps=true)↔0≤fewT r:=by
  refine Iff.trans ?_ h3
  constructor
  ·exact fun h=>.inr h
  ·rintro(h | h)
   ·omega
   ·exact h
 have g2:(r.sts.length < 1∨24 < r.sts.length∨anyIx (stBad r) 0 r.sts=true)↔0≤fewS r:=h2
 unfold ckRole
 rw[if_iff g1,if_iff g2,if_iff g3]
theorem fewC_neg {r:RolD} (h:fewC r < 0):r.ctrs.length≤4∧∀ c∈r.ctrs,1≤c.lim∧c.lim≤1000:=by
 have h1:¬ 0≤fewC r:=by omega
 rw[show (0≤fewC r)↔_ from (few_any (ctrBad r) dC r.ctrs 0 4).symm] at h1
 have ha:anyIx (ctrBad r) 0 r.ctrs=false:=by
  cases h2:anyIx (ctrBad r) 0 r.ctrs with
  | false=>rfl
  | true=>exact absurd (.inr (.inr h2)) h1
 have h4:¬ 4 < r.ctrs.length:=fun h2=>h1 (.inr (.inl h2))
 refine⟨by omega,fun c hc=>?_⟩
 obtain⟨k,hk⟩:=List.getElem?_of_mem hc
 have:=(anyIx_false.1 ha) k c hk
 unfold ctrBad at this
 simp only[Bool.or_eq_false_iff,decide_eq_false_iff_not] at this
 omega
end Go.Proofs.YtohfkhjlnlahdaaGreat
namespace Go.Proofs.YtohfkhjlnlahdaaGreat
open Go.RowKit
section
variable {P:Program} {ops:Array Oper} {Q:Exit→Act→World→Prop} {md:Region.Mode} {S S':World→Prop}
theorem wpAnyH_sub (hSS:∀ W,S' W→S W):∀ (fuel:Nat) (listed:Array Bool) (a:Act) (w:World),wpAnyH P md ops Q S' fuel listed a w→wpAnyH P md ops Q S fuel listed a w
 | 0,_,_,_,h=>h
 | fuel + 1,_,_,_,h=>⟨h.1,fun i hi=>wpOp_mono (fun a' w' h'=>⟨hSS _ h'.1,wpAnyH_sub hSS fuel _ a' w' h'.2⟩) (h.2 i hi)⟩
theorem heldG_start {id:Nat} {a:Act} {w:World} (hm:P.follows .mixedOrders=true) (h:wpAnyH P .any ops Q (Frm [] w.drew) ops.size (Array.replicate ops.size false) a w.drew):(Code.region id ops true).wp P Q a w:=
 wp_region_held hm h
theorem heldG_take {i:Nat} {oi:Oper} {fuel:Nat} {listed:Array Bool} {a:Act} {w:World} (v:Value) (hi:ops[i]?=some oi)
  (hs:Region.noSelect ops=true) (hf:Region.free md ops listed i=true) (hr:(Region.ready md ops listed).contains i=true)
  (hQ:∀ c a w,Q (.panic c) (a.put oi.dst v) w→Q (.panic c) a w) (hw:Region.wanted oi (yielded ops a.tmps)=true) (hy:∀ w',Frm [] w w'→(execOp a.eval oi).run P w'=.ok (.value v) w')
  (h:wpAnyH P md ops Q (Frm [] w) fuel (listed.setIfInBounds i true) (a.put oi.dst v) w):wpAnyH P md ops Q (Frm [] w) (fuel + 1) listed a w:=
 wpAnyH_take hi hs hf hr hQ (.inl ⟨hw,hy⟩) (Frm.refl _ _) h
theorem heldG_skip {i:Nat} {oi:Oper} {fuel:Nat} {listed:Array Bool} {a:Act} {w:World} (hi:ops[i]?=some oi)
  (hs:Region.noSelect ops=true) (hf:Region.free md ops listed i=true) (hr:(Region.ready md ops listed).contains i=true)
  (hQ:∀ c a w,Q (.panic c) (a.put oi.dst undef) w→Q (.panic c) a w) (hw:Region.wanted oi (yielded ops a.tmps)=false)
  (h:wpAnyH P md ops Q (Frm [] w) fuel (listed.setIfInBounds i true) (a.put oi.dst undef) w):wpAnyH P md ops Q (Frm [] w) (fuel + 1) listed a w:=
 wpAnyH_take hi hs hf hr hQ (.inr ⟨hw,rfl⟩) (Frm.refl _ _) h
theorem heldG_step {i:Nat} {oi:Oper} {fuel:Nat} {listed:Array Bool} {a:Act} {w:World} (hi:ops[i]?=some oi) (hr:Region.ready md ops listed=[i]) (hw:Region.wanted oi (yielded ops a.tmps)=true)
  (h:∀ K':Act→World→Prop,Shut (∀ a' w',Frm [] w w'→wpAnyH P md ops Q (Frm [] w') fuel (listed.setIfInBounds i true) a' w'→K' a' w')→Oper.wp P oi a w K' Q):wpAnyH P md ops Q (Frm [] w) (fuel + 1) listed a w:=by
 refine wpAnyH_all hr (by simp) (fun j hj=>?_)
 simp only[List.mem_singleton] at hj
 subst hj
 unfold wpOp
 simp only[hi,hw,if_true]
 exact .inl (h _ (fun a' w' hf hk=>⟨hf,wpAnyH_sub (fun W hW=>hf.trans hW) _ _ _ _ hk⟩))
theorem tkG (i:Nat) {oi:Oper} {fuel:Nat} {listed:Array Bool} {a:Act} {w:World} (v:Value) (hy:∀ w',Frm [] w w'→(execOp a.eval oi).run P w'=.ok (.value v) w')
  (h:wpAnyH P md ops Q (Frm [] w) fuel (listed.setIfInBounds i true) (a.put oi.dst v) w) (hi:ops[i]?=some oi:=by rfl) (hb:(Region.noSelect ops && Region.free md ops listed i && (Region.ready md ops listed).contains i)=true:=by kernel_rfl)
  (hQ:∀ c a w,Q (.panic c) (a.put oi.dst v) w→Q (.panic c) a w:=by exact fun _ _ _ h=>h) (hw:Region.wanted oi (yielded ops a.tmps)=true:=by rfl):wpAnyH P md ops Q (Frm [] w) (fuel + 1) listed a w:=by
 simp only[Bool.and_eq_true] at hb
 exact heldG_take v hi hb.1.1 hb.1.2 hb.2 hQ hw hy h
theorem skG (i:Nat) {oi:Oper} {fuel:Nat} {listed:Array Bool} {a:Act} {w:World}
  (h:wpAnyH P md ops Q (Frm [] w) fuel (listed.setIfInBounds i true) (a.put oi.dst undef) w) (hi:ops[i]?=some oi:=by rfl) (hb:(Region.noSelect ops && Region.free md ops listed i && (Region.ready md ops listed).contains i)=true:=by kernel_rfl)
  (hQ:∀ c a w,Q (.panic c) (a.put oi.dst undef) w→Q (.panic c) a w:=by exact fun _ _ _ h=>h) (hw:Region.wanted oi (yielded ops a.tmps)=false:=by rfl):wpAnyH P md ops Q (Frm [] w) (fuel + 1) listed a w:=by
 simp only[Bool.and_eq_true] at hb
 exact heldG_skip hi hb.1.1 hb.1.2 hb.2 hQ hw h
theorem stG (i:Nat) {oi:Oper} {fuel:Nat} {listed:Array Bool} {a:Act} {w:World}
 (h:∀ K':Act→World→Prop,Shut (∀ a' w',Frm [] w w'→wpAnyH P md ops Q (Frm [] w') fuel (listed.setIfInBounds i true) a' w'→K' a' w')→Oper.wp P oi a w K' Q) (hi:ops[i]?=some oi:=by rfl)
 (hr:Region.ready md ops listed=[i]:=by kernel_rfl) (hw:Region.wanted oi (yielded ops a.tmps)=true:=by rfl):wpAnyH P md ops Q (Frm [] w) (fuel + 1) listed a w:=heldG_step hi hr hw h
theorem tcG {i:Nat} {oi:Oper} {fuel:Nat} {listed:Array Bool} {a:Act} {w:World} (v:Value) (hy:∀ w',Frm [] w w'→(execOp a.eval oi).run P w'=.ok (.value v) w')
  (h:Cnt (i + 1) (wpAnyH P md ops Q (Frm [] w) fuel (listed.setIfInBounds i true) (a.put oi.dst v) w)) (hi:ops[i]?=some oi:=by rfl) (hb:(Region.noSelect ops && Region.free md ops listed i && (Region.ready md ops listed).contains i)=true:=by kernel_rfl)
  (hQ:∀ c a w,Q (.panic c) (a.put oi.dst v) w→Q (.panic c) a w:=by exact fun _ _ _ h=>h) (hw:Region.wanted oi (yielded ops a.tmps)=true:=by rfl):Cnt i (wpAnyH P md ops Q (Frm [] w) (fuel + 1) listed a w):=
 tkG i v hy h hi hb hQ hw
theorem scG {i:Nat} {oi:Oper} {fuel:Nat} {listed:Array Bool} {a:Act} {w:World}
  (h:Cnt (i + 1) (wpAnyH P md ops Q (Frm [] w) fuel (listed.setIfInBounds i true) (a.put oi.dst undef) w)) (hi:ops[i]?=some oi:=by rfl) (hb:(Region.noSelect ops && Region.free md ops listed i && (Region.ready md ops listed).contains i)=true:=by kernel_rfl)
  (hQ:∀ c a w,Q (.panic c) (a.put oi.dst undef) w→Q (.panic c) a w:=by exact fun _ _ _ h=>h) (hw:Region.wanted oi (yielded ops a.tmps)=false:=by rfl):Cnt i (wpAnyH P md ops Q (Frm [] w) (fuel + 1) listed a w):=
 skG i h hi hb hQ hw
end
end Go.Proofs.YtohfkhjlnlahdaaGreat
namespace Go.Proofs.YtohfkhjlnlahdaaGreat
open Go
def valsOf (b:List UInt8):Nat→List Int
 | 0=>[]
 | n + 1=>valsOf b n ++ [256 * ((b.getD (2 * n) 0).toNat:Int) + ((b.getD (2 * n + 1) 0).toNat:Int)]
def fitsV (cs:List CtrD) (vs:List Int):Bool:=(cs.zip vs).all fun e=>decide (e.2≤e.1.lim)
def parseRole (r:RolD):List UInt8→Option (Nat × List Int × List UInt8)
 | []=>none
 | a :: b =>
   if r.sts.length≤a.toNat then none
   else if b.length < 2 * r.ctrs.length then none
   else if fitsV r.ctrs (valsOf b r.ctrs.length) then some (a.toNat,valsOf b r.ctrs.length,b.drop (2 * r.ctrs.length))
   else none
def parseRoles (s:SesD) (b:List UInt8):Nat→Option (List Nat × List (List Int) × List UInt8)
 | 0=>some ([],[],b)
 | n + 1=>match parseRoles s b n with
   | none=>none
   | some (ps,vs,b')=>match parseRole (s.rol n) b' with
     | none=>none
     | some (p,v,b'')=>some (ps ++ [p],vs ++ [v],b'')
def parseMsg (cap:Int) (L:List ByteArray):List UInt8→Option (List ByteArray × List UInt8)
 | []=>none
 | n :: b =>
   if b.length < n.toNat then none
   else if putE cap L ⟨(b.take n.toNat).toArray⟩=0 then some (L ++ [⟨(b.take n.toNat).toArray⟩],b.drop n.toNat)
   else none
def parseMsgs (cap:Int) (b:List UInt8):Nat→Option (List ByteArray × List UInt8)
 | 0=>some ([],b)
 | n + 1=>match parseMsgs cap b n with
   | none=>none
   | some (L,b')=>parseMsg cap L b'
def parseWay (cap:Int) (i k:Nat) (b:List UInt8):Option (List ByteArray × List UInt8):=
 if i=k then some ([],b)
 else match b with
  | []=>none
  | n :: b=>parseMsgs cap b n.toNat
def parseRow (cap:Int) (i:Nat) (b:List UInt8):Nat→Option (List (List ByteArray) × List UInt8)
 | 0=>some ([],b)
 | k + 1=>match parseRow cap i b k with
   | none=>none
   | some (R,b')=>match parseWay cap i k b' with
     | none=>none
     | some (L,b'')=>some (R ++ [L],b'')
def parseWays (s:SesD) (b:List UInt8):Nat→Option (List (List (List ByteArray)) × List UInt8)
 | 0=>some ([],b)
 | n + 1=>match parseWays s b n with
   | none=>none
   | some (W,b')=>match parseRow s.cap n b' s.roles.length with
     | none=>none
     | some (R,b'')=>some (W ++ [R],b'')
def parseP (s:SesD) (b:List UInt8):Option PS:=
 match parseRoles s b s.roles.length with
 | none=>none
 | some (ps,vs,b')=>match parseWays s b' s.roles.length with
   | none=>none
   | some (W,_)=>some ⟨ps,vs,W⟩
def decP (s:SesD) (b:List UInt8):Option PS:=
 match parseP s b with
 | none=>none
 | some x=>if keyP s x=b then some x else none
def canon (s:SesD) (x:PS):PS:={ x with ways:=x.ways.map fun R=>R.map (keyL s.cls) }
section
variable {s:SesD} {x:PS}
theorem keyL_nil (cls:Int):keyL cls []=[]:=by
 have:=keyL_length cls []
 exact List.length_eq_zero_iff.1 (by simpa using this)
theorem canon_way (s:SesD) (x:PS) (i k:Nat):(canon s x).way i k=keyL s.cls (x.way i k):=by
 show ((x.ways.map fun R=>R.map (keyL s.cls)).getD i []).getD k []=keyL s.cls ((x.ways.getD i []).getD k [])
 simp only[List.getD_eq_getElem?_getD,List.getElem?_map]
 cases x.ways[i]? with
 | none=>simp[keyL_nil]
 | some R =>
   simp only[Option.map_some,Option.getD_some,List.getElem?_map]
   cases R[k]? with
   | none=>simp[keyL_nil]
   | some L=>rfl
theorem keyL_idem (cls:Int) (L:List ByteArray):keyL cls (keyL cls L)=keyL cls L:=by
 by_cases h:cls=2
 ·subst h;exact rl_keys (cls:=2) (by unfold Rl;rw[if_pos rfl];exact keyL_perm L)
 ·unfold keyL;rw[if_neg h,if_neg h]
theorem canon_key (s:SesD) (x:PS):keyP s (canon s x)=keyP s x:=by
 unfold keyP
 have e1:keyRole (canon s x)=keyRole x:=rfl
 have e2:keyWay s (canon s x)=keyWay s x:=by
  funext i k
  unfold keyWay
  rw[canon_way,keyL_length,keyL_idem]
 rw[e1,e2]
theorem parseMsgs_key {cap:Int}:∀ (L:List ByteArray) (rest:List UInt8),(∀ m∈L,1≤m.size∧m.size≤32)→(L.length:Int)≤cap→∀ n,n≤L.length →
  parseMsgs cap (byt (keyB L) ++ rest) n=some (L.take n,byt (keyB (L.drop n)) ++ rest):=by
 intro L rest hs hc n hn
 induction n with
 | zero=>simp[parseMsgs]
 | succ n ih =>
   rw[parseMsgs,ih (by omega)]
   simp only
   have hlt:n < L.length:=by omega
   obtain⟨h1,h2⟩:=hs L[n] (List.getElem_mem hlt)
   rw[List.drop_eq_getElem_cons hlt]
   have e1:byt (keyB (L[n] :: L.drop (n + 1))) ++ rest=UInt8.ofNat L[n].size :: (byt L[n] ++ (byt (keyB (L.drop (n + 1))) ++ rest)):=by
    rw[keyB_bytes,List.flatMap_cons,← keyB_bytes];simp
   rw[e1]
   have hn8:(UInt8.ofNat L[n].size).toNat=L[n].size:=by simp;omega
   have hl:(byt L[n]).length=L[n].size:=byt_length _
   unfold parseMsg
   simp only[hn8]
   have e2:(byt L[n] ++ (byt (keyB (L.drop (n + 1))) ++ rest)).take L[n].size=byt L[n]:=by rw[← hl];exact List.take_left
   have e3:(byt L[n] ++ (byt (keyB (L.drop (n + 1))) ++ rest)).drop L[n].size=byt (keyB (L.drop (n + 1))) ++ rest:=by rw[← hl];exact List.drop_left
   have e4:(⟨(byt L[n]).toArray⟩:ByteArray)=L[n]:=byt_inj (by simp[byt])
   rw[if_neg (by rw[List.length_append];omega),e2,e3,e4,if_pos]
   ·rw[List.take_succ_eq_append_getElem hlt]
   ·unfold putE
    rw[if_neg (by omega),if_neg (by rw[List.length_take];omega)]
theorem parseWay_key (hx:PSok s x) (h:SesOk s) {i k:Nat} (hi:i < s.roles.length) (hk:k < s.roles.length) (rest:List UInt8) :
  parseWay s.cap i k (keyWay s x i k ++ rest)=some (keyL s.cls (x.way i k),rest):=by
 unfold parseWay keyWay
 by_cases e:i=k
 ·subst e
  rw[if_pos rfl,if_pos rfl,hx.wd,keyL_nil];rfl
 ·rw[if_neg e,if_neg e]
  obtain⟨h1,h2⟩:=hx.wb i k hi hk
  have h4:=h.k4
  have hn8:(UInt8.ofNat (x.way i k).length).toNat=(keyL s.cls (x.way i k)).length:=by rw[keyL_length];simp;omega
  show parseMsgs s.cap (byt (keyB (keyL s.cls (x.way i k))) ++ rest) (UInt8.ofNat (x.way i k).length).toNat=_
  rw[hn8,parseMsgs_key _ _ (fun m hm=>h2 m (keyL_mem hm)) (by rw[keyL_length];exact h1) _ (Nat.le_refl _)]
  simp[keyB,byt]
theorem parseRow_key (hx:PSok s x) (h:SesOk s) {i:Nat} (hi:i < s.roles.length) (rest:List UInt8):∀ (n d:Nat),n + d=s.roles.length →
  parseRow s.cap i (cat (keyWay s x i) s.roles.length ++ rest) n=some (((x.ways.getD i []).map (keyL s.cls)).take n,(List.range' n d).flatMap (keyWay s x i) ++ rest):=by
 have hl:(x.ways.getD i []).length=s.roles.length:=hx.wr i hi
 have hcat:∀ n,cat (keyWay s x i) n=(List.range' 0 n).flatMap (keyWay s x i):=by
  intro n
  induction n with
  | zero=>rfl
  | succ n ih=>rw[cat,ih,← List.range'_append_1 (s:=0) (m:=n) (n:=1)];simp
 intro n
 induction n with
 | zero =>
   intro d hd
   obtain rfl:d=s.roles.length:=by omega
   rw[hcat];simp[parseRow]
 | succ n ih =>
   intro d hd
   rw[parseRow,ih (d + 1) (by omega)]
   simp only
   rw[List.range'_succ,List.flatMap_cons,List.append_assoc,parseWay_key hx h hi (by omega)]
   simp only
   congr 2
   have hlt:n < ((x.ways.getD i []).map (keyL s.cls)).length:=by rw[List.length_map];omega
   rw[List.take_succ_eq_append_getElem hlt,List.getElem_map]
   congr 3
   unfold PS.way wayOf
   rw[List.getD_eq_getElem?_getD (l:=x.ways.getD i []),List.getElem?_eq_getElem (by omega)];rfl
theorem cat_flat {α:Type} (f:Nat→List α):∀ n,cat f n=(List.range' 0 n).flatMap f
 | 0=>rfl
 | n + 1=>by rw[cat,cat_flat f n,← List.range'_append_1 (s:=0) (m:=n) (n:=1)];simp
theorem parseWays_key (hx:PSok s x) (h:SesOk s) (rest:List UInt8):∀ (n d:Nat),n + d=s.roles.length →
  parseWays s (cat (fun i=>cat (keyWay s x i) s.roles.length) s.roles.length ++ rest) n=some ((x.ways.map fun R=>R.map (keyL s.cls)).take n,(List.range' n d).flatMap (fun i=>cat (keyWay s x i) s.roles.length) ++ rest):=by
 intro n
 induction n with
 | zero =>
   intro d hd
   obtain rfl:d=s.roles.length:=by omega
   rw[cat_flat];simp[parseWays]
 | succ n ih =>
   intro d hd
   rw[parseWays,ih (d + 1) (by omega)]
   simp only
   rw[List.range'_succ,List.flatMap_cons,List.append_assoc,parseRow_key hx h (by omega) _ s.roles.length 0 (by omega)]
   simp only[List.range'_zero,List.flatMap_nil,List.nil_append]
   congr 2
   have hl:x.ways.length=s.roles.length:=hx.wl
   have hlt:n < (x.ways.map fun R=>R.map (keyL s.cls)).length:=by rw[List.length_map];omega
   rw[List.take_succ_eq_append_getElem hlt,List.getElem_map]
   congr 2
   have e:x.ways.getD n []=x.ways[n]'(by omega):=by rw[List.getD_eq_getElem?_getD,List.getElem?_eq_getElem];rfl
   rw[e,List.take_of_length_le]
   rw[List.length_map,← e,hx.wr n (by omega)]
   exact Nat.le_refl _
theorem valsOf_two:∀ (vs:List Int) (rest:List UInt8),(∀ v∈vs,0≤v∧v≤65535)→∀ n,n≤vs.length→valsOf (vs.flatMap two ++ rest) n=vs.take n:=by
 intro vs rest hv n hn
 have hlen:∀ l:List Int,(l.flatMap two).length=2 * l.length:=by
  intro l
  induction l with
  | nil=>rfl
  | cons a l ih=>rw[List.flatMap_cons,List.length_append,ih];simp[two];omega
 induction n with
 | zero=>rfl
 | succ n ih =>
   have hlt:n < vs.length:=by omega
   obtain⟨h0,h1⟩:=hv vs[n] (List.getElem_mem hlt)
   rw[valsOf,ih (by omega),List.take_succ_eq_append_getElem hlt]
   congr 2
   have e:vs.flatMap two ++ rest=(vs.take n).flatMap two ++ (two vs[n] ++ ((vs.drop (n + 1)).flatMap two ++ rest)):=by
    have e1:vs.flatMap two=((vs.take n) ++ vs[n] :: vs.drop (n + 1)).flatMap two:=by
     rw[← List.drop_eq_getElem_cons hlt,List.take_append_drop]
    rw[e1,List.flatMap_append,List.flatMap_cons];simp
   have hl:((vs.take n).flatMap two).length=2 * n:=by rw[hlen,List.length_take];omega
   have g:∀ j (hj:j < 2),(vs.flatMap two ++ rest).getD (2 * n + j) 0=(two vs[n]).getD j 0:=by
    intro j hj
    rw[e,List.getD_eq_getElem?_getD,List.getD_eq_getElem?_getD,List.getElem?_append_right (by omega),hl,List.getElem?_append_left (by simp[two];omega)]
    congr 2;omega
   have g0:=g 0 (by omega)
   have g1:=g 1 (by omega)
   rw[Nat.add_zero] at g0
   rw[g0,g1]
   simp only[two,List.getD_cons_zero,List.getD_cons_succ]
   obtain⟨m,hm⟩:=Int.eq_ofNat_of_zero_le h0
   rw[hm]
   simp only[Int.toNat_natCast]
   have:(UInt8.ofNat (m / 256)).toNat=m / 256:=by simp;omega
   have:(UInt8.ofNat (m % 256)).toNat=m % 256:=by simp
   omega
theorem bank_bound (h:SesOk s) (hx:PSok s x) {i:Nat} (hi:i < s.roles.length):∀ v∈x.bank i,0≤v∧v≤1000:=by
 intro v hv
 obtain⟨k,hk⟩:=List.getElem?_of_mem hv
 obtain⟨hl,hb⟩:=hx.vb i hi
 have hlt:=lt_of_some hk
 have hc:=some_getD (l:=(s.rol i).ctrs) (i:=k) (d:=dC) (by omega)
 have:=hb k _ hc
 rw[getD_some hk] at this
 have h2:=(h.at hi).cN _ (List.mem_of_getElem? hc)
 omega
theorem parseRole_key (h:SesOk s) (hx:PSok s x) {i:Nat} (hi:i < s.roles.length) (rest:List UInt8) :
  parseRole (s.rol i) (keyRole x i ++ rest)=some (x.at i,x.bank i,rest):=by
 obtain⟨hl,hb⟩:=hx.vb i hi
 have hp:=hx.pb i hi
 have hs:=(h.at hi).s24
 have e:(UInt8.ofNat (x.at i)).toNat=x.at i:=by simp;omega
 have hbb:=bank_bound h hx hi
 have hlen:∀ l:List Int,(l.flatMap two).length=2 * l.length:=by
  intro l
  induction l with
  | nil=>rfl
  | cons a l ih=>rw[List.flatMap_cons,List.length_append,ih];simp[two];omega
 have ev:valsOf ((x.bank i).flatMap two ++ rest) (s.rol i).ctrs.length=x.bank i:=by
  rw[valsOf_two _ _ (fun v hv=>by have:=hbb v hv;omega) _ (by omega),← hl,List.take_length]
 unfold keyRole
 show parseRole _ (_ :: ((x.bank i).flatMap two ++ rest))=_
 unfold parseRole
 simp only
 rw[e,if_neg (by omega),if_neg (by rw[List.length_append,hlen];omega),ev,if_pos]
 ·congr 3
  rw[← hl,← hlen];exact List.drop_left
 ·unfold fitsV
  rw[List.all_eq_true]
  intro p hp
  obtain⟨k,hk⟩:=List.getElem?_of_mem hp
  rw[List.getElem?_zip_eq_some] at hk
  have:=hb k p.1 hk.1
  rw[getD_some hk.2] at this
  simp;omega
theorem parseRoles_key (h:SesOk s) (hx:PSok s x) (rest:List UInt8):∀ (n d:Nat),n + d=s.roles.length →
  parseRoles s (cat (keyRole x) s.roles.length ++ rest) n=some (x.pos.take n,x.vals.take n,(List.range' n d).flatMap (keyRole x) ++ rest):=by
 intro n
 induction n with
 | zero =>
   intro d hd
   obtain rfl:d=s.roles.length:=by omega
   rw[cat_flat];simp[parseRoles]
 | succ n ih =>
   intro d hd
   rw[parseRoles,ih (d + 1) (by omega)]
   simp only
   rw[List.range'_succ,List.flatMap_cons,List.append_assoc,parseRole_key h hx (by omega)]
   simp only
   have h1:n < x.pos.length:=by rw[hx.pl];omega
   have h2:n < x.vals.length:=by rw[hx.vl];omega
   rw[List.take_succ_eq_append_getElem h1,List.take_succ_eq_append_getElem h2]
   have e1:x.at n=x.pos[n]:=by unfold PS.at;rw[List.getD_eq_getElem?_getD,List.getElem?_eq_getElem h1];rfl
   have e2:x.bank n=x.vals[n]:=by unfold PS.bank;rw[List.getD_eq_getElem?_getD,List.getElem?_eq_getElem h2];rfl
   rw[e1,e2]
theorem parse_key (h:SesOk s) (hx:PSok s x):parseP s (keyP s x)=some (canon s x):=by
 unfold parseP keyP
 rw[parseRoles_key h hx _ s.roles.length 0 (by omega)]
 simp only[List.range'_zero,List.flatMap_nil,List.nil_append]
 have hw:=parseWays_key hx h [] s.roles.length 0 (by omega)
 rw[List.append_nil] at hw
 rw[hw]
 simp only
 have e1:x.pos.take s.roles.length=x.pos:=List.take_of_length_le (by rw[hx.pl];exact Nat.le_refl _)
 have e2:x.vals.take s.roles.length=x.vals:=List.take_of_length_le (by rw[hx.vl];exact Nat.le_refl _)
 have e3:(x.ways.map fun R=>R.map (keyL s.cls)).take s.roles.length=x.ways.map fun R=>R.map (keyL s.cls):=List.take_of_length_le (by rw[List.length_map,hx.wl];exact Nat.le_refl _)
 rw[e1,e2,e3];rfl
theorem dec_key (h:SesOk s) (hx:PSok s x):decP s (keyP s x)=some (canon s x):=by
 unfold decP
 rw[parse_key h hx]
 simp only
 rw[if_pos (canon_key s x)]
end
end Go.Proofs.YtohfkhjlnlahdaaGreat
namespace Go.Proofs.YtohfkhjlnlahdaaGreat
open Go
def P2 {α β:Type} (R:α→β→Prop) (l:List α) (m:List β):Prop:=l.length=m.length∧∀ (n:Nat) (a:α) (b:β),l[n]?=some a→m[n]?=some b→R a b
section
variable {α β:Type} {R:α→β→Prop}
theorem P2.nil:P2 R [] []:=⟨rfl,fun n a b h=>by simp at h⟩
theorem P2.one {a:α} {b:β} (h:R a b):P2 R [a] [b]:=⟨rfl,fun n x y h1 h2=>by
 cases n with
 | zero=>simp at h1 h2;subst h1;subst h2;exact h
 | succ n=>simp at h1⟩
theorem P2.append {l l':List α} {m m':List β} (h:P2 R l m) (h':P2 R l' m'):P2 R (l ++ l') (m ++ m'):=by
 refine⟨by rw[List.length_append,List.length_append,h.1,h'.1],fun n a b h1 h2=>?_⟩
 by_cases e:n < l.length
 ·rw[List.getElem?_append_left e] at h1
  rw[List.getElem?_append_left (by rw[← h.1];exact e)] at h2
  exact h.2 n a b h1 h2
 ·rw[List.getElem?_append_right (by omega)] at h1
  rw[List.getElem?_append_right (by rw[← h.1];omega),← h.1] at h2
  exact h'.2 _ a b h1 h2
theorem P2.cat {f:Nat→List α} {g:Nat→List β}:∀ {n:Nat},(∀ k,k < n→P2 R (f k) (g k))→P2 R (cat f n) (cat g n)
 | 0,_=>P2.nil
 | n + 1,h=>(P2.cat fun k hk=>h k (by omega)).append (h n (by omega))
theorem P2.at {l:List α} {m:List β} (h:P2 R l m) {n:Nat} {a:α} (ha:l[n]?=some a):∃ b,m[n]?=some b∧R a b:=by
 have hl:=(List.getElem?_eq_some_iff.1 ha).1
 have hm:n < m.length:=by rw[← h.1];exact hl
 exact⟨m[n],List.getElem?_eq_getElem hm,h.2 n a _ ha (List.getElem?_eq_getElem hm)⟩
theorem P2.mem {l:List α} {m:List β} (h:P2 R l m) {a:α} (ha:a∈l):∃ b∈m,R a b:=by
 obtain⟨n,hn⟩:=List.getElem?_of_mem ha
 obtain⟨b,h1,h2⟩:=h.at hn
 exact⟨b,List.mem_of_getElem? h1,h2⟩
end
theorem Rl.refl (cls:Int) (A:List ByteArray):Rl cls A A:=by unfold Rl;split <;> simp
theorem Rl.symm {cls:Int} {A B:List ByteArray} (h:Rl cls A B):Rl cls B A:=by
 unfold Rl at h ⊢
 split at h
 ·rename_i e;rw[if_pos e];exact List.Perm.symm h
 ·rename_i e;rw[if_neg e];exact Eq.symm h
theorem Rl.trans {cls:Int} {A B C:List ByteArray} (h:Rl cls A B) (k:Rl cls B C):Rl cls A C:=by
 unfold Rl at h k ⊢
 split at h
 ·rename_i e;rw[if_pos e] at k ⊢;exact List.Perm.trans h k
 ·rename_i e;rw[if_neg e] at k ⊢;exact Eq.trans h k
theorem rl_canon (cls:Int) (A:List ByteArray):Rl cls (keyL cls A) A:=by
 unfold Rl
 split
 ·rename_i e;subst e;exact keyL_perm A
 ·rename_i e;unfold keyL;rw[if_neg e]
structure Eqv (s:SesD) (x z:PS):Prop where
 pos:x.pos=z.pos
 vals:x.vals=z.vals
 way:∀ i k,Rl s.cls (x.way i k) (z.way i k)
section
variable {s:SesD} {x z u:PS}
theorem Eqv.refl (s:SesD) (x:PS):Eqv s x x:=⟨rfl,rfl,fun _ _=>Rl.refl _ _⟩
theorem Eqv.symm (h:Eqv s x z):Eqv s z x:=⟨h.pos.symm,h.vals.symm,fun i k=>(h.way i k).symm⟩
theorem Eqv.trans (h:Eqv s x z) (k:Eqv s z u):Eqv s x u:=⟨h.pos.trans k.pos,h.vals.trans k.vals,fun i j=>(h.way i j).trans (k.way i j)⟩
theorem eqv_canon (s:SesD) (x:PS):Eqv s (canon s x) x:=⟨rfl,rfl,fun i k=>by rw[canon_way];exact rl_canon _ _⟩
theorem eqv_of_key (h:SesOk s) (hx:PSok s x) (hz:PSok s z) (e:keyP s x=keyP s z):Eqv s x z:=by
 have h1:=dec_key h hx
 have h2:=dec_key h hz
 rw[e,h2] at h1
 have h3:canon s z=canon s x:=Option.some.inj h1
 exact(eqv_canon s x).symm.trans (h3 ▸ eqv_canon s z)
theorem hits_two {m:ByteArray} {i k:Nat} {L:List ByteArray}:∀ n,n≤L.length →
  (m∉L.take n→hits m i k (chlK 2 L n)=[])∧(m∈L.take n→∃ p,∃ (hp:p < L.length),L[p]=m∧takeOk 2 L p=true∧hits m i k (chlK 2 L n)=[⟨1,i,k,p⟩])
 | 0,_=>⟨fun _=>rfl,fun h=>by simp at h⟩
 | n + 1,h=>by
   obtain⟨ih1,ih2⟩:=hits_two (m:=m) (i:=i) (k:=k) (L:=L) n (by omega)
   have hlt:n < L.length:=by omega
   have hg:=getD_at hlt
   rw[chlK,hits_append,take_snoc hlt]
   have hc:=chc2 hlt
   constructor
   ·intro hm
    rw[List.mem_append,not_or] at hm
    rw[ih1 hm.1]
    split
    ·unfold hits
     rw[List.filterMap_cons,if_neg (fun e=>hm.2 (by simpa using e.symm))];rfl
    ·rfl
   ·intro hm
    by_cases e:m∈L.take n
    ·obtain⟨p,hp,e1,e2,e3⟩:=ih2 e
     refine⟨p,hp,e1,e2,?_⟩
     rw[e3]
     split
     ·rename_i h4
      have h5:=hc.1 h4
      unfold hits
      rw[List.filterMap_cons,if_neg (fun e4=>h5 (by rw[show L.getD n ByteArray.empty=m from e4];exact e))];rfl
     ·rfl
    ·have hmn:L.getD n ByteArray.empty=m:=by
      rcases List.mem_append.1 hm with h5 | h5
      ·exact absurd h5 e
      ·exact(List.mem_singleton.1 h5).symm
     have hcn:=hc.2 (by rw[hmn];exact e)
     refine⟨n,hlt,by rw[← hg];exact hmn,?_,?_⟩
     ·unfold takeOk
      simp[hcn,hlt]
     ·rw[ih1 e,if_pos hcn]
      unfold hits
      rw[List.filterMap_cons,if_pos hmn];rfl
structure MvR (s:SesD) (x z:PS) (a b:Mv):Prop where
 kind:a.kind=b.kind
 role:a.role=b.role
 step:a.step=b.step
 next:Eqv s (nextP s x a) (nextP s z b)
theorem wayOf_set' {ws:List (List (List ByteArray))} {i k a b:Nat} {l:List ByteArray}:wayOf (setWay ws i k l) a b=if a=i∧b=k∧i < ws.length∧k < (ws.getD i []).length then l else wayOf ws a b:=by
 by_cases hi:i < ws.length
 ·by_cases hk:k < (ws.getD i []).length
  ·rw[wayOf_set hi hk]
   exact if_iff ⟨fun h=>⟨h.1,h.2,hi,hk⟩,fun h=>⟨h.1,h.2.1⟩⟩ _ _
  ·rw[if_neg (fun h=>hk h.2.2.2)]
   unfold setWay
   rw[List.set_eq_of_length_le (l:=ws.getD i []) (by omega)]
   unfold wayOf
   simp only[List.getD_eq_getElem?_getD,List.getElem?_set]
   by_cases ha:i=a
   ·subst ha;rw[if_pos rfl,if_pos hi];rfl
   ·rw[if_neg ha]
 ·rw[if_neg (fun h=>hi h.2.2.1)]
  unfold setWay
  rw[List.set_eq_of_length_le (by omega)]
theorem eqv_set (hx:PSok s x) (hz:PSok s z) (h:∀ i k,Rl s.cls (x.way i k) (z.way i k)) {i k:Nat} (hi:i < s.roles.length) {L M:List ByteArray} (hl:Rl s.cls L M) (a b:Nat) :
  Rl s.cls (wayOf (setWay x.ways i k L) a b) (wayOf (setWay z.ways i k M) a b):=by
 rw[wayOf_set',wayOf_set',hx.wl,hz.wl,hx.wr i hi,hz.wr i hi]
 split
 ·exact hl
 ·exact h a b
theorem next_step (s:SesD) (x:PS) (i k:Nat) (p:Int):nextP s x ⟨1,i,k,p⟩ =
  { pos:=x.pos.set i (stIx (s.rol i) ((s.rol i).stp k).to).toNat
    vals:=x.vals.set i (bankDo (s.rol i).ctrs (x.bank i) ((s.rol i).stp k))
    ways:=
     if ((s.rol i).stp k).kind=1 then setWay x.ways i (peerN s ((s.rol i).stp k)) (putL s.cap (x.way i (peerN s ((s.rol i).stp k))) ((s.rol i).stp k).msg)
     else if ((s.rol i).stp k).kind=2 then setWay x.ways (peerN s ((s.rol i).stp k)) i (takeL s.cls (x.way (peerN s ((s.rol i).stp k)) i) p)
     else x.ways }:=by
 unfold nextP
 rw[if_neg (show ¬ (1:Int)=2 by decide)]
 rfl
theorem next_lose (s:SesD) (x:PS) (i k:Nat) (p:Int):nextP s x ⟨2,i,k,p⟩={ x with ways:=setWay x.ways i k (loseL s.cls (x.way i k)) }:=by
 unfold nextP
 rw[if_pos rfl]
 rfl
theorem step_rel (h:SesOk s) (hx:PSok s x) (hz:PSok s z) (he:Eqv s x z) {i k:Nat} (hi:i < s.roles.length) (hk:k < (s.rol i).steps.length) :
  P2 (MvR s x z) (stepMv s x i k) (stepMv s z i k):=by
 have hp:possB s x i k=possB s z i k:=by unfold possB PS.at PS.bank;rw[he.pos,he.vals]
 have hn:∀ (p q:Int) (h2:(((s.rol i).stp k).kind=2→Rl s.cls (takeL s.cls (x.way (peerN s ((s.rol i).stp k)) i) p) (takeL s.cls (z.way (peerN s ((s.rol i).stp k)) i) q))),MvR s x z ⟨1,i,k,p⟩ ⟨1,i,k,q⟩:=by
  intro p q h2
  refine⟨rfl,rfl,rfl,?_⟩
  rw[next_step,next_step]
  refine⟨by simp only;rw[he.pos],by simp only;unfold PS.bank;rw[he.vals],fun a b=>?_⟩
  unfold PS.way
  simp only
  by_cases k1:((s.rol i).stp k).kind=1
  ·rw[if_pos k1,if_pos k1]
   exact eqv_set hx hz he.way hi (rl_put (he.way _ _) _).2 a b
  ·rw[if_neg k1,if_neg k1]
   by_cases k2:((s.rol i).stp k).kind=2
   ·rw[if_pos k2,if_pos k2]
    obtain⟨-,p1,-⟩:=h.peer hi hk (by omega)
    exact eqv_set hx hz he.way p1 (h2 k2) a b
   ·rw[if_neg k2,if_neg k2]
    exact he.way a b
 unfold stepMv
 rw[← hp]
 split
 ·exact P2.nil
 ·split
  ·rename_i k2
   have hw:=he.way (peerN s ((s.rol i).stp k)) i
   unfold Rl at hw
   by_cases hc:s.cls=2
   ·rw[if_pos hc] at hw
    rw[hc]
    obtain⟨a1,a2⟩:=hits_two (m:=((s.rol i).stp k).msg) (i:=i) (k:=k) (L:=x.way (peerN s ((s.rol i).stp k)) i) _ (Nat.le_refl _)
    obtain⟨b1,b2⟩:=hits_two (m:=((s.rol i).stp k).msg) (i:=i) (k:=k) (L:=z.way (peerN s ((s.rol i).stp k)) i) _ (Nat.le_refl _)
    rw[List.take_length] at a1 a2 b1 b2
    by_cases hm:((s.rol i).stp k).msg∈x.way (peerN s ((s.rol i).stp k)) i
    ·obtain⟨p,hp,e1,e2,e3⟩:=a2 hm
     obtain⟨q,hq,f1,f2,f3⟩:=b2 (hw.mem_iff.1 hm)
     rw[e3,f3]
     refine P2.one (hn p q fun _=>?_)
     unfold Rl takeL
     rw[hc,if_pos rfl,if_pos e2,if_pos f2,Int.toNat_natCast,Int.toNat_natCast]
     have g1:=erase_perm hp
     have g2:=erase_perm hq
     rw[e1] at g1
     rw[f1] at g2
     exact((g1.trans hw).trans g2.symm).cons_inv
    ·rw[a1 hm,b1 (fun h'=>hm (hw.mem_iff.2 h'))]
     exact P2.nil
   ·rw[if_neg hc] at hw
    rw[← hw]
    refine⟨rfl,fun n a b h1 h2=>?_⟩
    rw[h1] at h2
    cases h2
    obtain⟨e,-,-,rfl⟩:=mem_hits.1 (List.mem_of_getElem? h1)
    refine hn _ _ fun _=>?_
    rw[← hw];exact Rl.refl _ _
  ·rename_i k2
   have e:((x.way i (peerN s ((s.rol i).stp k))).length:Int)=((z.way i (peerN s ((s.rol i).stp k))).length:Int):=by rw[(he.way _ _).perm.length_eq]
   rw[e]
   split
   ·exact P2.nil
   ·exact P2.one (hn 0 0 fun e=>absurd e k2)
theorem rl_lose {cls:Int} {A B:List ByteArray} (h:Rl cls A B):Rl cls (loseL cls A) (loseL cls B):=by
 unfold loseL
 by_cases e:cls=3
 ·subst e
  rw[if_pos rfl,if_pos rfl]
  unfold Rl at h
  rw[if_neg (by decide)] at h
  subst h
  exact Rl.refl _ _
 ·rw[if_neg e,if_neg e];exact h
theorem lose_rel (hx:PSok s x) (hz:PSok s z) (he:Eqv s x z) {i k:Nat} (hi:i < s.roles.length):P2 (MvR s x z) (loseMv s x i k) (loseMv s z i k):=by
 unfold loseMv
 rw[(he.way i k).perm.length_eq]
 split
 ·refine P2.one ⟨rfl,rfl,rfl,?_⟩
  rw[next_lose,next_lose]
  exact⟨he.pos,he.vals,fun a b=>eqv_set hx hz he.way hi (rl_lose (he.way _ _)) a b⟩
 ·exact P2.nil
theorem moves_rel (h:SesOk s) (hx:PSok s x) (hz:PSok s z) (he:Eqv s x z):P2 (MvR s x z) (movesP s x) (movesP s z):=
 (P2.cat fun _ hi=>P2.cat fun _ hk=>step_rel h hx hz he hi hk).append (P2.cat fun _ hi=>P2.cat fun _ _=>lose_rel hx hz he hi)
end
end Go.Proofs.YtohfkhjlnlahdaaGreat
namespace Go.Proofs.YtohfkhjlnlahdaaGreat
open Go.RowKit
section
variable {F:List Nat} {P:Program} {ops:Array Oper} {Q:Exit→Act→World→Prop} {md:Region.Mode} {S S':World→Prop} {T:Nat→Bool}
def wpAnyL (P:Program) (md:Region.Mode) (ops:Array Oper) (Q:Exit→Act→World→Prop) (S:World→Prop) (T:Nat→Bool):Nat→Bool→Array Bool→Act→World→Prop
 | 0,_,listed,a,w=>Region.ready md ops listed=[]∧Q .normal a w
 | fuel + 1,b,listed,a,w =>
   (Region.ready md ops listed=[]→Q .normal a w) ∧
   ∀ i∈Region.ready md ops listed,wpOp P ops Q i (fun a' w'=>((b || T i)=false→S w')∧wpAnyL P md ops Q S T fuel (b || T i) (listed.setIfInBounds i true) a' w') a w
theorem wpAny_of_L:∀ (fuel:Nat) (b:Bool) (listed:Array Bool) (a:Act) (w:World),wpAnyL P md ops Q S T fuel b listed a w→wpAny P md ops Q fuel listed a w
 | 0,_,_,_,_,h=>h
 | fuel + 1,_,_,_,_,h=>⟨h.1,fun i hi=>wpOp_mono (fun a' w' h'=>wpAny_of_L fuel _ _ a' w' h'.2) (h.2 i hi)⟩
theorem wpAnyL_sub (hSS:∀ W,S' W→S W):∀ (fuel:Nat) (b:Bool) (listed:Array Bool) (a:Act) (w:World),wpAnyL P md ops Q S' T fuel b listed a w→wpAnyL P md ops Q S T fuel b listed a w
 | 0,_,_,_,_,h=>h
 | fuel + 1,_,_,_,_,h=>⟨h.1,fun i hi=>wpOp_mono (fun a' w' h'=>⟨fun hb=>hSS _ (h'.1 hb),wpAnyL_sub hSS fuel _ _ a' w' h'.2⟩) (h.2 i hi)⟩
def depB (md:Region.Mode) (ops:Array Oper):Nat→Nat→Nat→Bool
 | 0,_,_=>false
 | f + 1,j,i=>((ops[j]?).map fun o=>o.after.any fun e=>Region.binds md e && (e.on == i || depB md ops f e.on i)).getD false
def Closed (md:Region.Mode) (ops:Array Oper) (listed:Array Bool):Prop:=∀ (k:Nat) o,ops[k]?=some o→listed.getD k false=true→∀ e∈o.after,Region.binds md e=true→listed.getD e.on false=true
def closedB (md:Region.Mode) (ops:Array Oper) (listed:Array Bool):Bool:=(List.range ops.size).all fun k=>!listed.getD k false || ((ops[k]?).map fun o=>o.after.all fun e=>!Region.binds md e || listed.getD e.on false).getD true
theorem closed_of {listed:Array Bool} (h:closedB md ops listed=true):Closed md ops listed:=fun k o ho hk e he hb=>by
 have:=(List.all_eq_true.1 h) k (List.mem_range.2 (Array.getElem?_eq_some_iff.1 ho).1)
 rw[ho,hk] at this
 simp only[Bool.not_true,Option.map_some,Option.getD_some,Bool.false_or] at this
 have:=(Array.all_eq_true_iff_forall_mem.1 this) e he
 simpa[hb] using this
theorem dep_no {listed:Array Bool} {i:Nat} (hc:Closed md ops listed) (hi:listed.getD i false=false):∀ (f j:Nat),depB md ops f j i=true→(∀ o,ops[j]?=some o→∀ e∈o.after,Region.binds md e=true→listed.getD e.on false=true)→False
 | 0,_,h,_=>by cases h
 | f + 1,j,h,hj=>by
   unfold depB at h
   cases ho:ops[j]? with
   | none=>rw[ho] at h;cases h
   | some o =>
     rw[ho] at h
     simp only[Option.map_some,Option.getD_some] at h
     obtain⟨e,he,hb⟩:=Array.any_eq_true'.1 h
     simp only[Bool.and_eq_true,Bool.or_eq_true,beq_iff_eq] at hb
     have hl:=hj o ho e he hb.1
     rcases hb.2 with hb | hb
     ·rw[hb,hi] at hl;cases hl
     ·exact dep_no hc hi f e.on hb fun o' ho'=>hc e.on o' ho' hl
def waitsB (md:Region.Mode) (ops:Array Oper) (T:Nat→Bool) (i:Nat):Bool:=(List.range ops.size).all fun j=>!T j || depB md ops 4 j i
theorem wpAnyL_first {i:Nat} {oi:Oper} {v:Value} (hi:ops[i]?=some oi) (hT:T i=false) (hw:waitsB md ops T i=true) (hsel:∀ (j:Nat) (o:Oper) cs b,ops[j]?=some o→o.op≠.select cs b)
  (hQ:∀ c a w,Q (.panic c) (a.put oi.dst v) w→Q (.panic c) a w) :
  ∀ (fuel:Nat) (listed:Array Bool) (a:Act) (w:World),Closed md ops listed →
    (∀ j oj,ops[j]?=some oj→j≠i→listed.getD j true=false→(∀ e∈oj.after,Region.binds md e=true→e.on≠i)→oi.apart ops oj=true) →
    i∈Region.ready md ops listed→YieldsIf P ops S oi v a→S w →
    wpAnyL P md ops Q S T fuel false (listed.setIfInBounds i true) (a.put oi.dst v) w→wpAnyL P md ops Q S T (fuel + 1) false listed a w:=by
 intro fuel
 induction fuel with
 | zero =>
   intro listed a w _ _ hr hy hS H
   refine⟨fun h=>(by rw[h] at hr;cases hr),fun j hj=>?_⟩
   by_cases hji:j=i
   ·subst hji
    rw[Bool.false_or,hT]
    exact hy.wpOp hi hS ⟨fun _=>hS,H⟩
   ·have:=ready_mono hj hji
    rw[H.1] at this
    cases this
 | succ fuel ih =>
   intro listed a w hcl hfree hr hy hS H
   refine⟨fun h=>(by rw[h] at hr;cases hr),fun j hj=>?_⟩
   by_cases hji:j=i
   ·subst hji
    rw[Bool.false_or,hT]
    exact hy.wpOp hi hS ⟨fun _=>hS,H⟩
   ·have h1:=H.2 j (ready_mono hj hji)
    obtain⟨hjun,oj,hoj,hall⟩:=mem_ready.1 hj
    have hnot:∀ e∈oj.after,Region.binds md e=true→e.on≠i:=fun e he hb heq=>by
     have h1:=hall e he hb
     have h0:=(mem_ready.1 hr).1
     rw[heq] at h1
     rcases Nat.lt_or_ge i listed.size with h' | h'
     ·simp[h'] at h0 h1;rw[h0] at h1;cases h1
     ·simp[Array.getElem?_eq_none h'] at h1
    have hTj:T j=false:=by
     have hjs:j < ops.size:=(Array.getElem?_eq_some_iff.1 hoj).1
     have:=(List.all_eq_true.1 hw) j (List.mem_range.2 hjs)
     simp only[Bool.or_eq_true,Bool.not_eq_true'] at this
     rcases this with h | h
     ·exact h
     ·refine(dep_no hcl ?_ 4 j h fun o ho e he hb=>?_).elim
      ·have h0:=(mem_ready.1 hr).1
       rcases Nat.lt_or_ge i listed.size with h' | h'
       ·simp[h'] at h0 ⊢;exact h0
       ·simp[h'] at h0
      ·rw[hoj] at ho
       cases ho
       exact hall e he hb
    rw[Bool.false_or,hTj] at h1 ⊢
    have h2:=wpOp_putIf hoj (hfree j oj hoj hji hjun hnot) (fun cs b=>hsel i oi cs b hi) (fun cs b=>hsel j oj cs b hoj) hQ hy h1
    have hfree':∀ k ok,ops[k]?=some ok→k≠i→(listed.setIfInBounds j true).getD k true=false →
      (∀ e∈ok.after,Region.binds md e=true→e.on≠i)→oi.apart ops ok=true:=fun k ok hk hki hun hno=>by
     refine hfree k ok hk hki ?_ hno
     by_cases hjk:j=k
     ·subst hjk;exact hjun
     ·rw[getD_set_ne true hjk] at hun;exact hun
    have hcl':Closed md ops (listed.setIfInBounds j true):=fun k o ho hk e he hb=>by
     have up:∀ q,listed.getD q false=true→(listed.setIfInBounds j true).getD q false=true:=fun q hq=>by
      by_cases e:j=q
      ·subst e
       rcases Nat.lt_or_ge j listed.size with h' | h'
       ·simp[h']
       ·simp[Array.getElem?_eq_none h'] at hq
      ·rw[getD_set_ne false e];exact hq
     by_cases ek:j=k
     ·subst ek
      rw[hoj] at ho
      cases ho
      exact up _ (hall e he hb)
     ·rw[getD_set_ne false ek] at hk
      exact up _ (hcl k o ho hk e he hb)
    refine wpOp_mono (fun a' w' h3=>⟨fun _=>h3.2.1 rfl,ih (listed.setIfInBounds j true) a' w' hcl' hfree' (ready_mono hr (Ne.symm hji)) h3.1 (h3.2.1 rfl) ?_⟩) h2
    rw[Array.setIfInBounds_comm _ _ hji]
    exact h3.2.2
theorem wpAnyL_firstP {i:Nat} {oi:Oper} {v:Value} (hi:ops[i]?=some oi) (hT:T i=false) (hsel:∀ (j:Nat) (o:Oper) cs b,ops[j]?=some o→o.op≠.select cs b)
  (hQ:∀ c a w,Q (.panic c) (a.put oi.dst v) w→Q (.panic c) a w) :
  ∀ (fuel:Nat) (b:Bool) (listed:Array Bool) (a:Act) (w:World),
    (∀ j oj,ops[j]?=some oj→j≠i→listed.getD j true=false→(∀ e∈oj.after,Region.binds md e=true→e.on≠i)→oi.apart ops oj=true) →
    i∈Region.ready md ops listed→YieldsIf P ops (fun _=>True) oi v a→(b=false→S w) →
    wpAnyL P md ops Q S T fuel b (listed.setIfInBounds i true) (a.put oi.dst v) w→wpAnyL P md ops Q S T (fuel + 1) b listed a w:=by
 intro fuel
 induction fuel with
 | zero =>
   intro b listed a w _ hr hy hS H
   refine⟨fun h=>(by rw[h] at hr;cases hr),fun j hj=>?_⟩
   by_cases hji:j=i
   ·subst hji
    rw[hT,Bool.or_false]
    exact hy.wpOp hi trivial ⟨hS,H⟩
   ·have:=ready_mono hj hji
    rw[H.1] at this
    cases this
 | succ fuel ih =>
   intro b listed a w hfree hr hy hS H
   refine⟨fun h=>(by rw[h] at hr;cases hr),fun j hj=>?_⟩
   by_cases hji:j=i
   ·subst hji
    rw[hT,Bool.or_false]
    exact hy.wpOp hi trivial ⟨hS,H⟩
   ·have h1:=H.2 j (ready_mono hj hji)
    obtain⟨hjun,oj,hoj,hall⟩:=mem_ready.1 hj
    have hnot:∀ e∈oj.after,Region.binds md e=true→e.on≠i:=fun e he hb heq=>by
     have h1:=hall e he hb
     have h0:=(mem_ready.1 hr).1
     rw[heq] at h1
     rcases Nat.lt_or_ge i listed.size with h' | h'
     ·simp[h'] at h0 h1;rw[h0] at h1;cases h1
     ·simp[Array.getElem?_eq_none h'] at h1
    have h2:=wpOp_putIf hoj (hfree j oj hoj hji hjun hnot) (fun cs b=>hsel i oi cs b hi) (fun cs b=>hsel j oj cs b hoj) hQ hy h1
    have hfree':∀ k ok,ops[k]?=some ok→k≠i→(listed.setIfInBounds j true).getD k true=false →
      (∀ e∈ok.after,Region.binds md e=true→e.on≠i)→oi.apart ops ok=true:=fun k ok hk hki hun hno=>by
     refine hfree k ok hk hki ?_ hno
     by_cases hjk:j=k
     ·subst hjk;exact hjun
     ·rw[getD_set_ne true hjk] at hun;exact hun
    refine wpOp_mono (fun a' w' h3=>⟨h3.2.1,ih (b || T j) (listed.setIfInBounds j true) a' w' hfree' (ready_mono hr (Ne.symm hji)) h3.1 h3.2.1 ?_⟩) h2
    rw[Array.setIfInBounds_comm _ _ hji]
    exact h3.2.2
def wrFrom (n:Nat) (j:Nat):Bool:=decide (n≤j)
theorem heldL_start (F:List Nat) (T:Nat→Bool) {id:Nat} {a:Act} {w:World} (hm:P.follows .mixedOrders=true) (h:wpAnyL P .any ops Q (Frm F w.drew) T ops.size false (Array.replicate ops.size false) a w.drew):(Code.region id ops true).wp P Q a w:=
 wp_region_any hm (wpAny_of_L _ _ _ _ _ h)
theorem heldL_take {i:Nat} {oi:Oper} {fuel:Nat} {listed:Array Bool} {a:Act} {w:World} (v:Value) (hi:ops[i]?=some oi)
  (hs:Region.noSelect ops=true) (hf:Region.free md ops listed i=true) (hr:(Region.ready md ops listed).contains i=true) (hT:T i=false) (hwt:(waitsB md ops T i && closedB md ops listed)=true)
  (hQ:∀ c a w,Q (.panic c) (a.put oi.dst v) w→Q (.panic c) a w) (hw:Region.wanted oi (yielded ops a.tmps)=true) (hy:∀ w',Frm F w w'→(execOp a.eval oi).run P w'=.ok (.value v) w')
  (h:wpAnyL P md ops Q (Frm F w) T fuel false (listed.setIfInBounds i true) (a.put oi.dst v) w):wpAnyL P md ops Q (Frm F w) T (fuel + 1) false listed a w:=
 wpAnyL_first hi hT (Bool.and_eq_true_iff.1 hwt).1 (Region.noSelect_spec hs) hQ fuel listed a w (closed_of (Bool.and_eq_true_iff.1 hwt).2) (Region.free_spec hi hf) (List.contains_iff_mem.1 hr) (.inl ⟨hw,hy⟩) (Frm.refl F w) h
theorem heldL_takep {b:Bool} {i:Nat} {oi:Oper} {fuel:Nat} {listed:Array Bool} {a:Act} {w:World} (v:Value) (hi:ops[i]?=some oi)
  (hs:Region.noSelect ops=true) (hf:Region.free md ops listed i=true) (hr:(Region.ready md ops listed).contains i=true) (hT:T i=false)
  (hQ:∀ c a w,Q (.panic c) (a.put oi.dst v) w→Q (.panic c) a w) (hw:Region.wanted oi (yielded ops a.tmps)=true) (hy:∀ w',(execOp a.eval oi).run P w'=.ok (.value v) w')
  (h:wpAnyL P md ops Q (Frm F w) T fuel b (listed.setIfInBounds i true) (a.put oi.dst v) w):wpAnyL P md ops Q (Frm F w) T (fuel + 1) b listed a w:=
 wpAnyL_firstP hi hT (Region.noSelect_spec hs) hQ fuel b listed a w (Region.free_spec hi hf) (List.contains_iff_mem.1 hr) (.inl ⟨hw,fun w' _=>hy w'⟩) (fun _=>Frm.refl F w) h
theorem heldL_all {rs:List Nat} {fuel:Nat} {b:Bool} {listed:Array Bool} {a:Act} {w:World} (hr:Region.ready md ops listed=rs) (hne:rs≠[])
  (h:∀ i∈rs,wpOp P ops Q i (fun a' w'=>((b || T i)=false→S w')∧wpAnyL P md ops Q S T fuel (b || T i) (listed.setIfInBounds i true) a' w') a w):wpAnyL P md ops Q S T (fuel + 1) b listed a w:=
 ⟨fun h0=>absurd (hr.symm.trans h0) hne,fun i hi=>h i (hr ▸ hi)⟩
theorem allL_nil {p:Nat→Prop}:∀ i∈([]:List Nat),p i:=fun _ h=>by cases h
theorem allL_cons {p:Nat→Prop} {i:Nat} {rs:List Nat} (h:p i) (hs:∀ j∈rs,p j):∀ j∈i :: rs,p j:=fun j hj=>by
 rcases List.mem_cons.1 hj with rfl | hj
 ·exact h
 ·exact hs j hj
theorem heldL_step {i:Nat} {oi:Oper} {fuel:Nat} {listed:Array Bool} {a:Act} {w:World} (hi:ops[i]?=some oi) (hT:T i=false) (hw:Region.wanted oi (yielded ops a.tmps)=true)
  (h:∀ K':Act→World→Prop,Shut (∀ a' w',Frm F w w'→wpAnyL P md ops Q (Frm F w') T fuel false (listed.setIfInBounds i true) a' w'→K' a' w')→Oper.wp P oi a w K' Q) :
  wpOp P ops Q i (fun a' w'=>((false || T i)=false→Frm F w w')∧wpAnyL P md ops Q (Frm F w) T fuel (false || T i) (listed.setIfInBounds i true) a' w') a w:=by
 unfold wpOp
 simp only[hi,hw,if_true]
 refine .inl (h _ (fun a' w' hf hk=>⟨fun _=>hf,?_⟩))
 rw[Bool.false_or,hT]
 exact wpAnyL_sub (fun W hW=>hf.trans hW) _ _ _ _ _ hk
theorem heldL_write {b:Bool} {i:Nat} {oi:Oper} {fuel:Nat} {listed:Array Bool} {a:Act} {w:World} (hi:ops[i]?=some oi) (hT:(b || T i)=true) (hw:Region.wanted oi (yielded ops a.tmps)=true)
  (h:∀ K':Act→World→Prop,Shut (∀ a' w',wpAnyL P md ops Q S T fuel true (listed.setIfInBounds i true) a' w'→K' a' w')→Oper.wp P oi a w K' Q) :
  wpOp P ops Q i (fun a' w'=>((b || T i)=false→S w')∧wpAnyL P md ops Q S T fuel (b || T i) (listed.setIfInBounds i true) a' w') a w:=by
 unfold wpOp
 simp only[hi,hw,if_true]
 rw[hT]
 exact .inl (h _ (fun a' w' hk=>⟨(fun h0=>by cases h0),hk⟩))
theorem heldL_done {b:Bool} {listed:Array Bool} {a:Act} {w:World} (hr:Region.ready md ops listed=[]) (h:Q .normal a w):∀ fuel,wpAnyL P md ops Q S T fuel b listed a w
 | 0=>⟨hr,h⟩
 | _ + 1=>⟨fun _=>h,fun i hi=>by rw[hr] at hi;cases hi⟩
theorem htL (i:Nat) {oi:Oper} {fuel:Nat} {listed:Array Bool} {a:Act} {w:World} (v:Value) (hy:∀ w',Frm F w w'→(execOp a.eval oi).run P w'=.ok (.value v) w')
  (h:wpAnyL P md ops Q (Frm F w) T fuel false (listed.setIfInBounds i true) (a.put oi.dst v) w) (hi:ops[i]?=some oi:=by rfl) (hb:(Region.noSelect ops && Region.free md ops listed i && (Region.ready md ops listed).contains i && !T i && (waitsB md ops T i && closedB md ops listed))=true:=by kernel_rfl)
  (hQ:∀ c a w,Q (.panic c) (a.put oi.dst v) w→Q (.panic c) a w:=by exact fun _ _ _ h=>h) (hw:Region.wanted oi (yielded ops a.tmps)=true:=by rfl):wpAnyL P md ops Q (Frm F w) T (fuel + 1) false listed a w:=by
 obtain⟨h1,h2⟩:=Bool.and_eq_true_iff.1 hb
 simp only[Bool.and_eq_true,Bool.not_eq_true'] at h1
 exact heldL_take v hi h1.1.1.1 h1.1.1.2 h1.1.2 h1.2 h2 hQ hw hy h
theorem htP {b:Bool} (i:Nat) {oi:Oper} {fuel:Nat} {listed:Array Bool} {a:Act} {w:World} (v:Value) (hy:∀ w',(execOp a.eval oi).run P w'=.ok (.value v) w')
  (h:wpAnyL P md ops Q (Frm F w) T fuel b (listed.setIfInBounds i true) (a.put oi.dst v) w) (hi:ops[i]?=some oi:=by rfl) (hb:(Region.noSelect ops && Region.free md ops listed i && (Region.ready md ops listed).contains i && !T i)=true:=by kernel_rfl)
  (hQ:∀ c a w,Q (.panic c) (a.put oi.dst v) w→Q (.panic c) a w:=by exact fun _ _ _ h=>h) (hw:Region.wanted oi (yielded ops a.tmps)=true:=by rfl):wpAnyL P md ops Q (Frm F w) T (fuel + 1) b listed a w:=by
 simp only[Bool.and_eq_true,Bool.not_eq_true'] at hb
 exact heldL_takep v hi hb.1.1.1 hb.1.1.2 hb.1.2 hb.2 hQ hw hy h
theorem honL (i:Nat) {fuel:Nat} {b:Bool} {listed:Array Bool} {a:Act} {w:World}
  (h:wpOp P ops Q i (fun a' w'=>((b || T i)=false→S w')∧wpAnyL P md ops Q S T fuel (b || T i) (listed.setIfInBounds i true) a' w') a w) (hr:Region.ready md ops listed=[i]:=by kernel_rfl):wpAnyL P md ops Q S T (fuel + 1) b listed a w:=
 heldL_all hr (by simp) (allL_cons h allL_nil)
theorem hcL {i:Nat} {oi:Oper} {fuel:Nat} {listed:Array Bool} {a:Act} {w:World} (v:Value) (hy:∀ w',Frm F w w'→(execOp a.eval oi).run P w'=.ok (.value v) w')
  (h:Cnt (i + 1) (wpAnyL P md ops Q (Frm F w) T fuel false (listed.setIfInBounds i true) (a.put oi.dst v) w)) (hi:ops[i]?=some oi:=by rfl) (hb:(Region.noSelect ops && Region.free md ops listed i && (Region.ready md ops listed).contains i && !T i && (waitsB md ops T i && closedB md ops listed))=true:=by kernel_rfl)
  (hQ:∀ c a w,Q (.panic c) (a.put oi.dst v) w→Q (.panic c) a w:=by exact fun _ _ _ h=>h) (hw:Region.wanted oi (yielded ops a.tmps)=true:=by rfl):Cnt i (wpAnyL P md ops Q (Frm F w) T (fuel + 1) false listed a w):=
 htL i v hy h hi hb hQ hw
theorem hcP {b:Bool} {i:Nat} {oi:Oper} {fuel:Nat} {listed:Array Bool} {a:Act} {w:World} (v:Value) (hy:∀ w',(execOp a.eval oi).run P w'=.ok (.value v) w')
  (h:Cnt (i + 1) (wpAnyL P md ops Q (Frm F w) T fuel b (listed.setIfInBounds i true) (a.put oi.dst v) w)) (hi:ops[i]?=some oi:=by rfl) (hb:(Region.noSelect ops && Region.free md ops listed i && (Region.ready md ops listed).contains i && !T i)=true:=by kernel_rfl)
  (hQ:∀ c a w,Q (.panic c) (a.put oi.dst v) w→Q (.panic c) a w:=by exact fun _ _ _ h=>h) (hw:Region.wanted oi (yielded ops a.tmps)=true:=by rfl):Cnt i (wpAnyL P md ops Q (Frm F w) T (fuel + 1) b listed a w):=
 htP i v hy h hi hb hQ hw
end
end Go.Proofs.YtohfkhjlnlahdaaGreat
namespace Go.Proofs.YtohfkhjlnlahdaaGreat
open Go.RowKit Go.BigFrame
set_option maxHeartbeats 1000000 in
theorem qPlace_any (v:Value) (r:RolD) (n:ByteArray) (w:World) (h:RlV w v r) (hl:r.sts.length≤1000):Calls Tryz.prog 87 #[v,.string n] w (Ret (.int .i64 (stIx r n)) (Frm [] w)):=by
 obtain⟨sv,cv,tv,rfl,h3⟩:=h
 obtain⟨ao,cap,e,hx⟩:=h3.sts
 subst e
 have HX:=Lib.hid hx
 obtain⟨m,hm⟩:∃ m,r.sts.length=m:=⟨_,rfl⟩
 rw[hm] at hl
 have HN:=Lib.hid hm
 rw[hm]
 obtain⟨W0,hW0⟩:∃ W0,w.alloc (.cells #[.string r.name,.slice ao m cap,cv,tv] 87)=W0:=⟨_,rfl⟩
 have HW0:Hid (Frm [] w W0):=Lib.hid (by rw[← hW0];exact(Frm.refl _ _).alloc _)
 have HB:Hid (W0.cell? ⟨w.heap.size,1,none⟩=some (.slice ao m cap)):=Lib.hid (by rw[← hW0];exact cell_of (heap_alloc_new w _) 1)
 have HE:=Lib.hid hW0
 clear hx h3 hm hW0
 go_enter Tryz.func87,Tryz.ntmps87
 go_wp2
 rw[HE.out]
 clear HE
 go_loopw [5] (fun s5 wr=>∃ i:Nat,s5=.int .i64 i∧i≤m∧Frm [] W0 wr∧∀ j x,j < i→r.sts[j]?=some x→decide (x.name=n)=false) (fun s5 _=>m - (intOf s5).toNat)
 case atStart=>exact⟨0,rfl,Nat.zero_le _,Frm.refl _ _,fun j x hj=>by omega⟩
 case round =>
  obtain⟨i,rfl,hi,hf,hno⟩:=hrel
  have HF:=Lib.hid hf;have HNO:=Lib.hid hno
  clear hf hno
  have cb:=HF.out.keep HB.out
  by_cases hlt:i < m
  ·have hlt':(i:Int) < (m:Int):=by omega
   obtain⟨x,hx⟩:∃ x,r.sts[i]?=some x:=⟨_,List.getElem?_eq_getElem (by rw[HN.out];exact hlt)⟩
   obtain⟨b,o,rfl,hat⟩:=HX.out i x hx
   obtain⟨c0,-,-⟩:=hat.frm (HW0.out.trans HF.out)
   have HXI:=Lib.hid hx
   clear hat hx
   cases hpx:decide (x.name=n) with
   | true =>
     have hsb:(x.name.toList == n.toList)=true:=(str_beq _ _).trans hpx
     have HPX:=Lib.hid hpx
     clear hpx
     go_wp2
     go_ret
     refine⟨?_,HW0.out.trans HF.out⟩
     have e:stIx r n=(i:Int):=ixf_some HXI.out HPX.out HNO.out
     rw[e];rfl
   | false =>
     have hsb:(x.name.toList == n.toList)=false:=(str_beq _ _).trans hpx
     have HPX:=Lib.hid hpx
     clear hpx
     go_wp2
     refine⟨⟨i + 1,by simp,hlt,HF.out,fun j y hj hy=>?_⟩,by simp[intOf];omega⟩
     by_cases e:j=i
     ·subst e;rw[HXI.out] at hy;cases hy;exact HPX.out
     ·exact HNO.out j y (by omega) hy
  ·have hge:¬ (i:Int) < (m:Int):=by omega
   go_wp2
   go_ret
   refine⟨?_,HW0.out.trans HF.out⟩
   have e:stIx r n=-1:=ixf_none fun x hx=>by
    obtain⟨j,hj⟩:=List.getElem?_of_mem hx
    exact HNO.out j x (by have:=lt_of_some hj;rw[HN.out] at this;omega) hj
   rw[e];rfl
set_option maxHeartbeats 1000000 in
theorem qNumber_any (v:Value) (s:SesD) (n:ByteArray) (w:World) (h:SesV w v s) (hl:s.roles.length≤1000):Calls Tryz.prog 88 #[v,.string n] w (Ret (.int .i64 (rolIx s n)) (Frm [] w)):=by
 obtain⟨rv,rfl,h3⟩:=h
 obtain⟨ao,cap,e,hx⟩:=id h3
 subst e
 have HX:=Lib.hid hx
 obtain⟨m,hm⟩:∃ m,s.roles.length=m:=⟨_,rfl⟩
 rw[hm] at hl
 have HN:=Lib.hid hm
 rw[hm]
 obtain⟨W0,hW0⟩:∃ W0,w.alloc (.cells #[.string s.name,.slice ao m cap,.int .i64 s.cls,.int .i64 s.cap] 25)=W0:=⟨_,rfl⟩
 have HW0:Hid (Frm [] w W0):=Lib.hid (by rw[← hW0];exact(Frm.refl _ _).alloc _)
 have HB:Hid (W0.cell? ⟨w.heap.size,1,none⟩=some (.slice ao m cap)):=Lib.hid (by rw[← hW0];exact cell_of (heap_alloc_new w _) 1)
 have HE:=Lib.hid hW0
 clear hx h3 hm hW0
 go_enter Tryz.func88,Tryz.ntmps88
 go_wp2
 rw[HE.out]
 clear HE
 go_loopw [5] (fun s5 wr=>∃ i:Nat,s5=.int .i64 i∧i≤m∧Frm [] W0 wr∧∀ j x,j < i→s.roles[j]?=some x→decide (x.name=n)=false) (fun s5 _=>m - (intOf s5).toNat)
 case atStart=>exact⟨0,rfl,Nat.zero_le _,Frm.refl _ _,fun j x hj=>by omega⟩
 case round =>
  obtain⟨i,rfl,hi,hf,hno⟩:=hrel
  have HF:=Lib.hid hf;have HNO:=Lib.hid hno
  clear hf hno
  have cb:=HF.out.keep HB.out
  by_cases hlt:i < m
  ·have hlt':(i:Int) < (m:Int):=by omega
   obtain⟨x,hx⟩:∃ x,s.roles[i]?=some x:=⟨_,List.getElem?_eq_getElem (by rw[HN.out];exact hlt)⟩
   obtain⟨b,o,rfl,hat⟩:=HX.out i x hx
   obtain⟨_,_,_,c0,-⟩:=hat.frm (HW0.out.trans HF.out)
   have HXI:=Lib.hid hx
   clear hat hx
   cases hpx:decide (x.name=n) with
   | true =>
     have hsb:(x.name.toList == n.toList)=true:=(str_beq _ _).trans hpx
     have HPX:=Lib.hid hpx
     clear hpx
     go_wp2
     go_ret
     refine⟨?_,HW0.out.trans HF.out⟩
     have e:rolIx s n=(i:Int):=ixf_some HXI.out HPX.out HNO.out
     rw[e];rfl
   | false =>
     have hsb:(x.name.toList == n.toList)=false:=(str_beq _ _).trans hpx
     have HPX:=Lib.hid hpx
     clear hpx
     go_wp2
     refine⟨⟨i + 1,by simp,hlt,HF.out,fun j y hj hy=>?_⟩,by simp[intOf];omega⟩
     by_cases e:j=i
     ·subst e;rw[HXI.out] at hy;cases hy;exact HPX.out
     ·exact HNO.out j y (by omega) hy
  ·have hge:¬ (i:Int) < (m:Int):=by omega
   go_wp2
   go_ret
   refine⟨?_,HW0.out.trans HF.out⟩
   have e:rolIx s n=-1:=ixf_none fun x hx=>by
    obtain⟨j,hj⟩:=List.getElem?_of_mem hx
    exact HNO.out j x (by have:=lt_of_some hj;rw[HN.out] at this;omega) hj
   rw[e];rfl
set_option maxHeartbeats 1000000 in
theorem jFind_any (dv vv:Value) (cs:List CtrD) (n:ByteArray) (w:World) (h:Arr 2 CtAt w dv cs) (hl:cs.length≤1000):Calls Tryz.prog 150 #[.agg #[dv,vv],.string n] w (Ret (.int .i64 (ctrIx cs n)) (Frm [] w)):=by
 obtain⟨ao,cap,e,hx⟩:=id h
 subst e
 have HX:=Lib.hid hx
 obtain⟨m,hm⟩:∃ m,cs.length=m:=⟨_,rfl⟩
 rw[hm] at hl
 have HN:=Lib.hid hm
 rw[hm]
 obtain⟨W0,hW0⟩:∃ W0,w.alloc (.cells #[.slice ao m cap,vv] 159)=W0:=⟨_,rfl⟩
 have HW0:Hid (Frm [] w W0):=Lib.hid (by rw[← hW0];exact(Frm.refl _ _).alloc _)
 have HB:Hid (W0.cell? ⟨w.heap.size,0,none⟩=some (.slice ao m cap)):=Lib.hid (by rw[← hW0];exact cell_of (heap_alloc_new w _) 0)
 have HE:=Lib.hid hW0
 clear hx h hm hW0
 go_enter Tryz.func150,Tryz.ntmps150
 go_wp2
 rw[HE.out]
 clear HE
 go_loopw [5] (fun s5 wr=>∃ i:Nat,s5=.int .i64 i∧i≤m∧Frm [] W0 wr∧∀ j x,j < i→cs[j]?=some x→decide (x.name=n)=false) (fun s5 _=>m - (intOf s5).toNat)
 case atStart=>exact⟨0,rfl,Nat.zero_le _,Frm.refl _ _,fun j x hj=>by omega⟩
 case round =>
  obtain⟨i,rfl,hi,hf,hno⟩:=hrel
  have HF:=Lib.hid hf;have HNO:=Lib.hid hno
  clear hf hno
  have cb:=HF.out.keep HB.out
  by_cases hlt:i < m
  ·have hlt':(i:Int) < (m:Int):=by omega
   obtain⟨x,hx⟩:∃ x,cs[i]?=some x:=⟨_,List.getElem?_eq_getElem (by rw[HN.out];exact hlt)⟩
   obtain⟨b,o,rfl,hat⟩:=HX.out i x hx
   obtain⟨c0,-⟩:=hat.frm (HW0.out.trans HF.out)
   have HXI:=Lib.hid hx
   clear hat hx
   cases hpx:decide (x.name=n) with
   | true =>
     have hsb:(x.name.toList == n.toList)=true:=(str_beq _ _).trans hpx
     have HPX:=Lib.hid hpx
     clear hpx
     go_wp2
     go_ret
     refine⟨?_,HW0.out.trans HF.out⟩
     have e:ctrIx cs n=(i:Int):=ixf_some HXI.out HPX.out HNO.out
     rw[e];rfl
   | false =>
     have hsb:(x.name.toList == n.toList)=false:=(str_beq _ _).trans hpx
     have HPX:=Lib.hid hpx
     clear hpx
     go_wp2
     refine⟨⟨i + 1,by simp,hlt,HF.out,fun j y hj hy=>?_⟩,by simp[intOf];omega⟩
     by_cases e:j=i
     ·subst e;rw[HXI.out] at hy;cases hy;exact HPX.out
     ·exact HNO.out j y (by omega) hy
  ·have hge:¬ (i:Int) < (m:Int):=by omega
   go_wp2
   go_ret
   refine⟨?_,HW0.out.trans HF.out⟩
   have e:ctrIx cs n=-1:=ixf_none fun x hx=>by
    obtain⟨j,hj⟩:=List.getElem?_of_mem hx
    exact HNO.out j x (by have:=lt_of_some hj;rw[HN.out] at this;omega) hj
   rw[e];rfl
def aftV (lim:Int) (t:StpD) (v:Int):Int:=if allowsV lim t v then v + t.add else -1
set_option maxHeartbeats 2000000 in
set_option maxRecDepth 100000 in
theorem jAfter_any (lim v:Int) (t:StpD) (w:World) (hl:0≤lim∧lim≤1000) (hv:0≤v∧v≤1000) (ha:-1000≤t.add∧t.add≤1000):Calls Tryz.prog 191 #[.int .i64 lim,stpV t,.int .i64 v] w (Ret (.int .i64 (aftV lim t v)) (Frm [] w)):=by
 obtain⟨A,hA⟩:∃ A,aftV lim t v=A:=⟨_,rfl⟩
 have hw:IntKind.i64.wrap (v + t.add)=v + t.add:=by simp[IntKind.wrap,show IntKind.i64.bits=64 from rfl,show IntKind.i64.signed=true from rfl];omega
 have d3:decide (t.add < -1000)=false:=decide_eq_false (by omega)
 have d4:decide (1000 < t.add)=false:=decide_eq_false (by omega)
 obtain⟨W0,hW0⟩:∃ W0,w.alloc (.cells #[.string t.frm,.string t.to,.int .i64 t.kind,.string t.msg,.string t.peer,.string t.ctr,.int .i64 t.low,.int .i64 t.high,.int .i64 t.add] 137)=W0:=⟨_,rfl⟩
 have HF:Hid (Frm [] w W0):=Lib.hid (by rw[← hW0];exact(Frm.refl _ _).alloc _)
 have c6:W0.cell? ⟨w.heap.size,6,none⟩=some (.int .i64 t.low):=by rw[← hW0];exact cell_of (heap_alloc_new w _) 6
 have c7:W0.cell? ⟨w.heap.size,7,none⟩=some (.int .i64 t.high):=by rw[← hW0];exact cell_of (heap_alloc_new w _) 7
 have c8:W0.cell? ⟨w.heap.size,8,none⟩=some (.int .i64 t.add):=by rw[← hW0];exact cell_of (heap_alloc_new w _) 8
 have HE:=Lib.hid hW0
 have HA:=Lib.hid hA
 have HV:=Lib.hid hv;have HL:=Lib.hid hl
 rw[hA]
 clear hA hv hl ha hW0
 go_enter Tryz.func191,Tryz.ntmps191
 go_upto_region 1 with fail
 rw[HE.out]
 clear HE
 by_cases k0:v < t.low
 ·have e0:decide (v < t.low)=true:=decide_eq_true k0
  have HK:=Lib.hid k0
  clear k0
  go_wp2
  go_ret
  refine⟨?_,HF.out⟩
  rw[← HA.out]
  have:=HK.out
  unfold aftV allowsV
  have:=HV.out;have:=HL.out
  rw[if_neg (by simp;omega)]
  rfl
 have e0:decide (v < t.low)=false:=decide_eq_false k0
 have H0:=Lib.hid k0
 clear k0
 by_cases k1:t.high < v
 ·have e1:decide (t.high < v)=true:=decide_eq_true k1
  have HK:=Lib.hid k1
  clear k1
  go_wp2
  go_ret
  refine⟨?_,HF.out⟩
  rw[← HA.out]
  have:=HK.out
  unfold aftV allowsV
  have:=HV.out;have:=HL.out
  rw[if_neg (by simp;omega)]
  rfl
 have e1:decide (t.high < v)=false:=decide_eq_false k1
 have H1:=Lib.hid k1
 clear k1
 by_cases k4:v + t.add < 0
 ·have e4:decide (v + t.add < 0)=true:=decide_eq_true k4
  have HK:=Lib.hid k4
  clear k4
  go_wp2
  go_ret
  refine⟨?_,HF.out⟩
  rw[← HA.out]
  have:=HK.out
  unfold aftV allowsV
  have:=HV.out;have:=HL.out
  rw[if_neg (by simp;omega)]
  rfl
 have e4:decide (v + t.add < 0)=false:=decide_eq_false k4
 have H4:=Lib.hid k4
 clear k4
 by_cases k5:lim < v + t.add
 ·have e5:decide (lim < v + t.add)=true:=decide_eq_true k5
  have HK:=Lib.hid k5
  clear k5
  go_wp2
  go_ret
  refine⟨?_,HF.out⟩
  rw[← HA.out]
  have:=HK.out
  unfold aftV allowsV
  have:=HV.out;have:=HL.out
  rw[if_neg (by simp;omega)]
  rfl
 have e5:decide (lim < v + t.add)=false:=decide_eq_false k5
 have H5:=Lib.hid k5
 clear k5
 go_wp2
 go_ret
 refine⟨?_,HF.out⟩
 rw[← HA.out]
 have:=H0.out;have:=H1.out;have:=H4.out;have:=H5.out
 unfold aftV allowsV
 rw[if_pos (by simp;omega)]
 rfl
def BkV (W:World) (v:Value) (cs:List CtrD) (vs:List Int):Prop:=∃ dv vv,v=.agg #[dv,vv]∧Arr 2 CtAt W dv cs∧Arr 1 IAt W vv vs
structure BkOk (cs:List CtrD) (vs:List Int) (t:StpD):Prop where
 l:vs.length=cs.length
 n:cs.length≤1000
 v:∀ (k:Nat) (c:CtrD),cs[k]?=some c→0≤c.lim∧c.lim≤1000∧0≤vs.getD k 0∧vs.getD k 0≤1000
 c:t.ctr≠emptyS→0≤ctrIx cs t.ctr∧-1000≤t.add∧t.add≤1000
theorem aftV_iff (lim:Int) (t:StpD) (v:Int):decide (0≤aftV lim t v)=allowsV lim t v:=by
 unfold aftV
 cases h:allowsV lim t v with
 | true =>
   rw[if_pos rfl]
   unfold allowsV at h
   simp at h
   exact decide_eq_true (by omega)
 | false=>rfl
set_option maxHeartbeats 4000000 in
set_option maxRecDepth 100000 in
theorem jAllowed_any (v:Value) (cs:List CtrD) (vs:List Int) (t:StpD) (w:World) (h:BkV w v cs vs) (hok:BkOk cs vs t):Calls Tryz.prog 149 #[v,stpV t] w (Ret (.tuple #[.bool (bankOk cs vs t),.int .i64 0]) (Frm [] w)):=by
 obtain⟨dv,vv,rfl,h1,h2⟩:=h
 obtain⟨da,dc,rfl⟩:=h1.shape
 obtain⟨va,vc,rfl⟩:=h2.shape
 obtain⟨n,hn⟩:∃ n,cs.length=n:=⟨_,rfl⟩
 have hm:=hok.l
 rw[hn] at hm
 obtain⟨b,hb⟩:∃ b,bankOk cs vs t=b:=⟨_,rfl⟩
 have HA1:Hid (Arr 2 CtAt w (.slice da n dc) cs):=Lib.hid (hn ▸ h1)
 have HA2:Hid (Arr 1 IAt w (.slice va n vc) vs):=Lib.hid (hm ▸ h2)
 obtain⟨W0,hW0⟩:∃ W0,(w.alloc (.cells #[.slice da n dc,.slice va n vc] 159)).alloc (.cells #[.string t.frm,.string t.to,.int .i64 t.kind,.string t.msg,.string t.peer,.string t.ctr,.int .i64 t.low,.int .i64 t.high,.int .i64 t.add] 137)=W0:=⟨_,rfl⟩
 have HF:Hid (Frm [] w W0):=Lib.hid (by rw[← hW0];exact((Frm.refl _ _).alloc _).alloc _)
 have HB:Hid (W0.heap[w.heap.size]?=some (.cells #[.slice da n dc,.slice va n vc] 159 (0,0))):=Lib.hid (by rw[← hW0];exact alloc_at (heap_alloc_new _ _))
 have HT:Hid (W0.heap[w.heap.size + 1]?=some (.cells #[.string t.frm,.string t.to,.int .i64 t.kind,.string t.msg,.string t.peer,.string t.ctr,.int .i64 t.low,.int .i64 t.high,.int .i64 t.add] 137 (0,0))):=Lib.hid (by rw[← hW0];exact alloc_top (by simp))
 have c5:=cell_of HT.out 5
 have HE:=Lib.hid hW0
 have HBB:=Lib.hid hb
 have HOK:=Lib.hid hok
 have HN:=Lib.hid hn
 rw[hb,hn,hm]
 clear h1 h2 hok hn hm hW0 hb
 go_enter Tryz.func149,Tryz.ntmps149
 go_upto_region 1 with fail
 rw[HE.out]
 clear HE
 by_cases he:t.ctr=emptyS
 ·have hs:t.ctr.toList.isEmpty=true:=emp_yes he
  have HHE:=Lib.hid he
  clear he
  go_wp2
  go_ret2
  exact⟨by rw[← HBB.out];unfold bankOk;rw[if_pos HHE.out];rfl,HF.out⟩
 ·obtain⟨g1,g2,g3⟩:=HOK.out.c he
  have hs:t.ctr.toList.isEmpty=false:=emp_no he
  obtain⟨k,hk,hkl⟩:=ixf_nat g1
  have hck:ctrIx cs t.ctr=(k:Int):=hk
  obtain⟨c,hc⟩:∃ c,cs[k]?=some c:=⟨_,List.getElem?_eq_getElem hkl⟩
  obtain⟨x,hx⟩:∃ x,vs[k]?=some x:=⟨_,List.getElem?_eq_getElem (by rw[HOK.out.l];exact hkl)⟩
  obtain⟨v1,v2,v3,v4⟩:=HOK.out.v k c hc
  rw[getD_some hx] at v3 v4
  have hbe:allowsV c.lim t x=b:=by
   rw[← HBB.out]
   unfold bankOk
   rw[if_neg he,hck,Int.toNat_natCast,getD_some hc,getD_some hx]
   simp
  have CF:=Lib.hid (jFind_any (.slice da n dc) (.slice va n vc) cs t.ctr W0 (HA1.out.frm fun _ _ _ h=>h.frm HF.out) HOK.out.n)
  rw[hck] at CF
  obtain⟨db,do',e1,q1⟩:=HA1.out.get hc
  obtain⟨vb,vo,e2,q2⟩:=HA2.out.get hx
  subst e1 e2
  rw[HN.out] at hkl
  have hkn:(k:Int) < (n:Int):=by omega
  have hk0:¬ (k:Int) < 0:=by omega
  have CA:Hid (∀ V,Calls Tryz.prog 191 #[.int .i64 c.lim,stpV t,.int .i64 x] V (Ret (.int .i64 (aftV c.lim t x)) (Frm [] V))):=Lib.hid fun V=>jAfter_any c.lim x t V ⟨v1,v2⟩ ⟨v3,v4⟩ ⟨g2,g3⟩
  obtain⟨A,hA⟩:∃ A,aftV c.lim t x=A:=⟨_,rfl⟩
  have hAb:=aftV_iff c.lim t x
  rw[hA] at CA hAb
  rw[hbe] at hAb
  have HQ1:Hid (∀ V,Frm [] w V→V.cell? ⟨db,do' + k * 2 + 1,none⟩=some (.int .i64 c.lim)):=Lib.hid fun V hV=>(q1.frm hV).2
  have HQ2:Hid (∀ V,Frm [] w V→V.cell? ⟨vb,vo + k,none⟩=some (.int .i64 x)):=Lib.hid fun V hV=>by have:=hV.keep q2;rwa [Nat.mul_one] at this
  clear q1 q2 hA g1 g2 g3 hk hck hc hx v1 v2 v3 v4 hbe he
  go_upto_region 6 with (first
   | (refine wpList_load_whole rfl 159 _ rfl _ rfl _ 159 HB.out _ Tryz.underlying159 rfl (by kernel_rfl) ?_)
   | (go_at_call 150;go_must (refine CF.out.mono ?_;clear CF;rintro e w1 ⟨rfl,hf1⟩;have HF1:=Lib.hid hf1;clear hf1)))
  clear c5
  refine wp_region_cq (by kernel_rfl) (by kernel_rfl) ?_
  repeat (first
   | go_big_quiet_skip
   | (refine wpQuiet_want (by rfl) (fun K hK=>?_)
      first
       | (refine quiet_move _ (by rfl) (hK _ ?_))
       | (refine quiet_assign _ (by rfl) (hK _ ?_))
       | (refine cq_call (.int .i64 A) 191 #[.int .i64 c.lim,stpV t,.int .i64 x] (fun w' hC=>?_) (fun w' hC=>Ret.cq (CA.out w') (fun w'' h=>hC.trans h)) (hK _ ?_)
          ·go_simp)
       | (refine cq_row 137 _ rfl (w.heap.size + 1) rfl #[.string t.frm,.string t.to,.int .i64 t.kind,.string t.msg,.string t.peer,.string t.ctr,.int .i64 t.low,.int .i64 t.high,.int .i64 t.add] 137 (HF1.out.at HT.out (by simp)) _ Tryz.underlying137 rfl (by kernel_rfl) (hK _ ?_))
       | (apply Exists.intro
          refine⟨fun w' hC=>?_,hK _ ?_⟩
          ·(unfold Oper.quietAt
            obtain hz:=(HF1.out.trans hC).at HB.out (by simp);have z0:=cell_of hz 0;have z1:=cell_of hz 1;have y0:=HQ1.out w' ((HF.out.trans HF1.out).trans hC);have y1:=HQ2.out w' ((HF.out.trans HF1.out).trans hC);clear hz
            clear hC
            go_simp
            try exact⟨rfl,rfl⟩
            try rfl))
      clear hK K
      try simp only[nrm,Act.eval,nrq]))
  refine wpQuiet_nil ?_
  intro w2 hf2
  go_wp2
  go_ret2
  exact⟨rfl,(HF.out.trans HF1.out).trans hf2⟩
end Go.Proofs.YtohfkhjlnlahdaaGreat
