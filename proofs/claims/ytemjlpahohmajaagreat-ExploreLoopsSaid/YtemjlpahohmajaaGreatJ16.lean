/- Part of the proof. -/
import Derived.Test.YtemjlpahohmajaaGreatJ08
import Derived.Test.YtemjlpahohmajaaGreatJ15
import Derived.Test.YtemjlpahohmajaaGreatJ03
import Derived.Deep.RegionHeld3
import Derived.Test.YtemjlpahohmajaaGreatJ05
import Derived.Shelf.SlicesG.Turned
import Derived.Shelf.SlicesG.Delete
import Derived.Sort.OwnSorted
import Derived.OrdersHeld
import Derived.Test.YtemjlpahohmajaaGreatJ13
import Derived.RangeFuncNested
import Derived.RangeFuncLeaves
import Derived.RangeFuncCalls
import Derived.RangeFuncBound
import Derived.OwnWalkIn
import Derived.TacticsInMore
import Derived.LoopNIn
import Derived.LoopIn
import Derived.Sort.CutIn
import Derived.OrdersIn
import Derived.Test.YtemjlpahohmajaaGreatJ07
import Derived.Shelf.SlGeneric
import Derived.Shelf.SlLaysN
import Derived.Shelf.SlLaysM
import Derived.Ground.SlgnProg
import Derived.Ground.SlgmProg
import Derived.Test.YtemjlpahohmajaaGreatJ01
import Derived.Shelf.SlicesG.Clone
import Derived.Test.YtemjlpahohmajaaGreatJ09
import Derived.LoopTactic
import Derived.Lib.SliceRun
import Derived.WalkKit
import Derived.WalkSpells
import Derived.Deep.QuietTactic
import Derived.Deep.MidRow
import Derived.Deep.WholeRow
import Derived.Lib.SlicesS
import Derived.Test.YtemjlpahohmajaaGreatProg
import Derived.BigQuiet
import Derived.StillTail
import Derived.Laws.IdiomStrings
import Derived.Shelf.Bytes.SlSmallAll
import Derived.Deep.Upon
import Derived.ArgAppend
import Derived.Deep.AppendLies
import Derived.Maps.AppendAt
import Derived.Lib.Hide
import Derived.Deep.DeepMust
import Derived.WalkLawsBesides
import Derived.BigRegion
import Derived.Deep.RegionLaw
import Derived.Deep.DeepCutAuto
import Derived.Test.YtemjlpahohmajaaGreatJ12
import Derived.Lib.Builder
import Derived.Laws.OwnMore
import Derived.Maps.OwnSet
import Derived.Maps.OwnOps
import Derived.Laws.StructEq
import Derived.Laws.EntriesVeiled
import Derived.Laws.Concat
import Derived.Shelf.SortM.Plain
import Derived.Shelf.SortM.SortNone
import Derived.Lib.AppendStr
set_option linter.all false
namespace Go.Proofs.YtemjlpahohmajaaGreat
open Go
section
variable {s:SesD} {x:PS}
theorem mem_hits {m:ByteArray} {i k:Nat} {l:List (Nat × ByteArray)} {v:Mv}:v∈hits m i k l↔∃ e∈l,e.2=m∧v=⟨1,i,k,e.1⟩:=by
 unfold hits
 rw[List.mem_filterMap]
 constructor
 ·rintro⟨e,he,h⟩
  split at h
  ·rename_i h2;exact⟨e,he,h2,by simpa using h.symm⟩
  ·cases h
 ·rintro⟨e,he,h2,rfl⟩
  exact⟨e,he,by rw[if_pos h2]⟩
theorem mem_movesP {v:Mv}:v∈movesP s x↔(∃ i k,i < s.roles.length∧k < (s.rol i).steps.length∧v∈stepMv s x i k)∨(∃ i k,i < s.roles.length∧k < s.roles.length∧v∈loseMv s x i k):=by
 unfold movesP
 rw[List.mem_append,mem_cat,mem_cat]
 simp only[mem_cat]
 constructor
 ·rintro(⟨i,h1,k,h2,h3⟩ | ⟨i,h1,k,h2,h3⟩)
  ·exact .inl ⟨i,k,h1,h2,h3⟩
  ·exact .inr ⟨i,k,h1,h2,h3⟩
 ·rintro(⟨i,k,h1,h2,h3⟩ | ⟨i,k,h1,h2,h3⟩)
  ·exact .inl ⟨i,h1,k,h2,h3⟩
  ·exact .inr ⟨i,h1,k,h2,h3⟩
theorem mem_stepMv {v:Mv} {i k:Nat} (h:v∈stepMv s x i k):v.kind=1∧v.role=i∧v.step=k∧possB s x i k=true ∧
  (((s.rol i).stp k).kind=2→∃ p:Nat,v.place=p∧(p,((s.rol i).stp k).msg)∈chlK s.cls (x.way (peerN s ((s.rol i).stp k)) i) (x.way (peerN s ((s.rol i).stp k)) i).length) ∧
  (((s.rol i).stp k).kind≠2→v.place=0)∧(((s.rol i).stp k).kind=1→((x.way i (peerN s ((s.rol i).stp k))).length:Int) < s.cap):=by
 unfold stepMv at h
 cases hp:possB s x i k with
 | false=>rw[if_pos hp] at h;cases h
 | true =>
   rw[if_neg (by rw[hp];decide)] at h
   by_cases h2:((s.rol i).stp k).kind=2
   ·rw[if_pos h2] at h
    obtain⟨e,he,e2,rfl⟩:=mem_hits.1 h
    exact⟨rfl,rfl,rfl,rfl,fun _=>⟨e.1,rfl,by rw[← e2];exact he⟩,fun h3=>absurd h2 h3,fun h3=>by rw[h2] at h3;cases h3⟩
   ·rw[if_neg h2] at h
    split at h
    ·cases h
    ·rename_i h3
     simp only[List.mem_singleton] at h
     subst h
     exact⟨rfl,rfl,rfl,rfl,fun h4=>absurd h4 h2,fun _=>rfl,fun h4=>by
      rcases Int.lt_or_le ((x.way i (peerN s ((s.rol i).stp k))).length:Int) s.cap with h5 | h5
      ·exact h5
      ·exact absurd ⟨h4,h5⟩ h3⟩
theorem mem_loseMv {v:Mv} {i k:Nat}:v∈loseMv s x i k↔v=⟨2,i,k,0⟩∧s.cls=3∧0 < (x.way i k).length:=by
 unfold loseMv
 split
 ·rename_i h;simp[h]
 ·rename_i h
  exact⟨fun h1=>absurd h1 (by simp),fun h1=>absurd h1.2 h⟩
theorem takeL_mem {cls:Int} {L:List ByteArray} {p:Int}:(takeL cls L p).length≤L.length∧∀ m∈takeL cls L p,m∈L:=by
 unfold takeL
 split
 ·exact⟨List.length_eraseIdx_le _ _,fun m hm=>List.mem_of_mem_eraseIdx hm⟩
 ·exact⟨Nat.le_refl _,fun m hm=>hm⟩
theorem loseL_mem {cls:Int} {L:List ByteArray}:(loseL cls L).length≤L.length∧∀ m∈loseL cls L,m∈L:=by
 unfold loseL
 split
 ·exact takeL_mem
 ·exact⟨Nat.le_refl _,fun m hm=>hm⟩
theorem bank_at (h:SesOk s) (hx:PSok s x) {i k:Nat} (hi:i < s.roles.length) (hk:k < (s.rol i).steps.length) :
  (bankDo (s.rol i).ctrs (x.bank i) ((s.rol i).stp k)).length=(s.rol i).ctrs.length ∧
  (bankOk (s.rol i).ctrs (x.bank i) ((s.rol i).stp k)=true→∀ (j:Nat) (c:CtrD),(s.rol i).ctrs[j]?=some c→0≤(bankDo (s.rol i).ctrs (x.bank i) ((s.rol i).stp k)).getD j 0∧(bankDo (s.rol i).ctrs (x.bank i) ((s.rol i).stp k)).getD j 0≤c.lim):=by
 obtain⟨hl,hb⟩:=hx.vb i hi
 unfold bankDo bankOk
 by_cases he:((s.rol i).stp k).ctr=emptyS
 ·rw[if_pos he];exact⟨hl,fun _=>hb⟩
 ·rw[if_neg he,if_neg he]
  refine⟨by rw[List.length_set];exact hl,fun hok j c hj=>?_⟩
  obtain⟨n,d,e1,e2,-⟩:=(h.stp hi hk).ctr he
  rw[e1] at hok ⊢
  simp only[Int.toNat_natCast,Bool.and_eq_true] at hok ⊢
  rw[List.getD_eq_getElem?_getD,List.getElem?_set]
  by_cases hn:n=j
  ·subst hn
   have hlt:=lt_of_some hj
   rw[if_pos rfl,if_pos (by omega)]
   have hdc:(s.rol i).ctrs.getD n dC=c:=getD_some hj
   rw[hdc] at hok
   have h2:=hok.2
   simp only[allowsV,Bool.and_eq_true,decide_eq_true_eq] at h2
   simp only[Option.getD_some]
   constructor <;> omega
  ·rw[if_neg hn,← List.getD_eq_getElem?_getD]
   exact hb j c hj
theorem next_ok (h:SesOk s) (hx:PSok s x) {v:Mv} (hv:v∈movesP s x):PSok s (nextP s x v):=by
 rcases mem_movesP.1 hv with ⟨i,k,hi,hk,hm⟩ | ⟨i,k,hi,hk,hm⟩
 ·obtain⟨e1,e2,e3,e4,e5,e6,e7⟩:=mem_stepMv hm
  have hst:=h.stp hi hk
  obtain⟨bl,bb⟩:=bank_at h hx hi hk
  have hp:bankOk (s.rol i).ctrs (x.bank i) ((s.rol i).stp k)=true:=by
   unfold possB at e4;rw[Bool.and_eq_true] at e4;exact e4.1
  have bb:=bb hp
  have h0:∀ ws,PSok s { x with ways:=ws }→PSok s { pos:=x.pos.set i (stIx (s.rol i) ((s.rol i).stp k).to).toNat,vals:=x.vals.set i (bankDo (s.rol i).ctrs (x.bank i) ((s.rol i).stp k)),ways:=ws }:=by
   intro ws hw
   refine⟨by simpa using hx.pl,fun j hj=>?_,by simpa using hx.vl,fun j hj=>?_,hw.wl,hw.wr,hw.wb,hw.wd⟩
   ·show (x.pos.set i _).getD j 0 < _
    rw[List.getD_eq_getElem?_getD,List.getElem?_set]
    by_cases e:i=j
    ·subst e
     rw[if_pos rfl,if_pos (by rw[hx.pl];exact hi)]
     obtain⟨q,hq,hql⟩:=ixf_nat hst.to
     have e':stIx (s.rol i) ((s.rol i).stp k).to=q:=hq
     rw[e']
     simpa using hql
    ·rw[if_neg e,← List.getD_eq_getElem?_getD];exact hx.pb j hj
   ·show ((x.vals.set i _).getD j []).length=_∧∀ (k:Nat) (c:CtrD),_→0≤((x.vals.set i _).getD j []).getD k 0∧((x.vals.set i _).getD j []).getD k 0≤_
    have e9:(x.vals.set i (bankDo (s.rol i).ctrs (x.bank i) ((s.rol i).stp k))).getD j []=if i=j then bankDo (s.rol i).ctrs (x.bank i) ((s.rol i).stp k) else x.bank j:=by
     rw[List.getD_eq_getElem?_getD,List.getElem?_set]
     by_cases e:i=j
     ·subst e;rw[if_pos rfl,if_pos (by rw[hx.vl];exact hi),if_pos rfl];rfl
     ·rw[if_neg e,if_neg e,← List.getD_eq_getElem?_getD];rfl
    rw[e9]
    by_cases e:i=j
    ·subst e;rw[if_pos rfl];exact⟨bl,bb⟩
    ·rw[if_neg e];exact hx.vb j hj
  unfold nextP
  rw[if_neg (by rw[e1];decide),e2,e3,Int.toNat_natCast,Int.toNat_natCast]
  apply h0
  by_cases k1:((s.rol i).stp k).kind=1
  ·rw[if_pos k1]
   obtain⟨-,p1,p2⟩:=h.peer hi hk (by omega)
   refine hx.set hi p1 (fun e=>p2 e.symm) ?_
   obtain⟨w1,w2⟩:=hx.wb i _ hi p1
   unfold putL
   split
   ·refine⟨by rw[List.length_append];simp;have:=e7 k1;omega,fun m hm=>?_⟩
    rcases List.mem_append.1 hm with hm | hm
    ·exact w2 m hm
    ·rw[List.mem_singleton] at hm;subst hm;exact hst.msg (by omega)
   ·exact⟨w1,w2⟩
  ·rw[if_neg k1]
   by_cases k2:((s.rol i).stp k).kind=2
   ·rw[if_pos k2]
    obtain⟨-,p1,p2⟩:=h.peer hi hk (by omega)
    refine hx.set p1 hi p2 ?_
    obtain⟨w1,w2⟩:=hx.wb _ i p1 hi
    have:=takeL_mem (cls:=s.cls) (L:=x.way (peerN s ((s.rol i).stp k)) i) (p:=v.place)
    exact⟨by omega,fun m hm=>w2 m (this.2 m hm)⟩
   ·rw[if_neg k2];exact hx
 ·obtain⟨rfl,e2,e3⟩:=mem_loseMv.1 hm
  unfold nextP
  rw[if_pos rfl,Int.toNat_natCast,Int.toNat_natCast]
  have hne:i≠k:=fun e=>by subst e;rw[hx.wd] at e3;simp at e3
  refine hx.set hi hk hne ?_
  obtain⟨w1,w2⟩:=hx.wb i k hi hk
  have:=loseL_mem (cls:=s.cls) (L:=x.way i k)
  exact⟨by omega,fun m hm=>w2 m (this.2 m hm)⟩
theorem first_way (s:SesD) (i k:Nat):(firstP s).way i k=[]:=by
 show ((s.roles.map fun _=>s.roles.map fun _=>([]:List ByteArray)).getD i []).getD k []=[]
 simp only[List.getD_eq_getElem?_getD,List.getElem?_map]
 cases s.roles[i]? with
 | none=>simp
 | some r=>simp only[Option.map_some,Option.getD_some,List.getElem?_map];cases s.roles[k]? <;> simp
theorem first_ok (h:SesOk s):PSok s (firstP s):=by
 refine⟨by simp[firstP],fun i hi=>?_,by simp[firstP],fun i hi=>?_,by simp[firstP],fun i hi=>?_,fun i k _ _=>?_,fun i=>first_way s i i⟩
 ·have e:(firstP s).at i=0:=by
   show (s.roles.map fun _=>0).getD i 0=0
   simp only[List.getD_eq_getElem?_getD,List.getElem?_map];cases s.roles[i]? <;> simp
  rw[e]
  exact(h.at hi).s1
 ·have e:(firstP s).bank i=(s.rol i).ctrs.map fun _=>0:=by
   show (s.roles.map fun r=>r.ctrs.map fun _=>(0:Int)).getD i []=_
   rw[List.getD_eq_getElem?_getD,List.getElem?_map,SesD.rol_some hi];rfl
  rw[e]
  refine⟨by simp,fun k c hc=>?_⟩
  have:=(h.at hi).cN c (List.mem_of_getElem? hc)
  rw[List.getD_eq_getElem?_getD,List.getElem?_map,hc]
  exact⟨by simp,by simp;omega⟩
 ·show ((s.roles.map fun _=>s.roles.map fun _=>([]:List ByteArray)).getD i []).length=_
  rw[List.getD_eq_getElem?_getD,List.getElem?_map,SesD.rol_some hi];simp
 ·rw[first_way];exact⟨by simp;have:=h.k1;omega,by simp⟩
theorem chl_iff {cls:Int} {L:List ByteArray} {p:Nat} {m:ByteArray}:(p,m)∈chlK cls L L.length↔takeOk cls L p=true∧takeM cls L p=m:=by
 have h1:(p,m)∈chlK cls L L.length↔p < L.length∧chc cls L p=true∧L.getD p ByteArray.empty=m:=by
  constructor
  ·intro h
   obtain⟨e1,e2⟩:=mem_chl _ h
   have:=(mem_chp L.length).1 (show p∈chp cls L L.length from List.mem_map.2 ⟨_,h,rfl⟩)
   exact⟨e1,this.2,e2.symm⟩
  ·rintro⟨e1,e2,rfl⟩
   obtain⟨rest,hr⟩:=chl_split e1 e2
   rw[hr];simp
 have h2:takeOk cls L p=true↔p < L.length∧chc cls L p=true:=by
  unfold takeOk
  simp
 rw[h1,h2]
 constructor
 ·rintro⟨e1,e2,e3⟩
  refine⟨⟨e1,e2⟩,?_⟩
  unfold takeM
  rw[if_pos (h2.2 ⟨e1,e2⟩)]
  simpa using e3
 ·rintro⟨⟨e1,e2⟩,e3⟩
  refine⟨e1,e2,?_⟩
  unfold takeM at e3
  rw[if_pos (h2.2 ⟨e1,e2⟩)] at e3
  simpa using e3
theorem step_iff {i k:Nat} {p:Int}:(⟨1,i,k,p⟩:Mv)∈stepMv s x i k↔possB s x i k=true ∧
  (if ((s.rol i).stp k).kind=2 then takeE s.cls (x.way (peerN s ((s.rol i).stp k)) i) p=0∧takeM s.cls (x.way (peerN s ((s.rol i).stp k)) i) p=((s.rol i).stp k).msg
   else p=0∧(((s.rol i).stp k).kind=1→((x.way i (peerN s ((s.rol i).stp k))).length:Int) < s.cap)):=by
 constructor
 ·intro h
  obtain⟨-,-,-,e4,e5,e6,e7⟩:=mem_stepMv h
  refine⟨e4,?_⟩
  split
  ·rename_i h2
   obtain⟨q,hq,hm⟩:=e5 h2
   obtain rfl:p=q:=hq
   obtain⟨h3,h4⟩:=chl_iff.1 hm
   exact⟨by unfold takeE;rw[if_pos h3],h4⟩
  ·rename_i h2
   exact⟨e6 h2,e7⟩
 ·rintro⟨h1,h2⟩
  unfold stepMv
  rw[if_neg (by rw[h1];decide)]
  split at h2
  ·rename_i k2
   rw[if_pos k2,mem_hits]
   have ho:takeOk s.cls (x.way (peerN s ((s.rol i).stp k)) i) p=true:=by
    have:=h2.1
    unfold takeE at this
    split at this
    ·assumption
    ·cases this
   have hp:0≤p:=by
    have h3:=ho
    unfold takeOk at h3
    simp only[Bool.and_eq_true,decide_eq_true_eq] at h3
    exact h3.1.1
   obtain⟨q,rfl⟩:=Int.eq_ofNat_of_zero_le hp
   exact⟨_,chl_iff.2 ⟨ho,h2.2⟩,rfl,rfl⟩
  ·rename_i k2
   obtain⟨rfl,h3⟩:=h2
   rw[if_neg k2,if_neg (fun h4=>by have:=h3 h4.1;omega)]
   simp
def doB (s:SesD) (x:PS) (v:Mv):Bool:=
 if v.role < 0∨(s.roles.length:Int)≤v.role∨v.step < 0 then false
 else if v.kind=2 then
  (if (s.roles.length:Int)≤v.step∨v.step=v.role∨v.place≠0 then false else decide (loseE s.cls (x.way v.role.toNat v.step.toNat)=0))
 else if v.kind≠1∨((s.rol v.role.toNat).steps.length:Int)≤v.step then false
 else if possB s x v.role.toNat v.step.toNat=false then false
 else if ((s.rol v.role.toNat).stp v.step.toNat).kind=2 then
  decide (takeE s.cls (x.way (peerN s ((s.rol v.role.toNat).stp v.step.toNat)) v.role.toNat) v.place=0∧takeM s.cls (x.way (peerN s ((s.rol v.role.toNat).stp v.step.toNat)) v.role.toNat) v.place=((s.rol v.role.toNat).stp v.step.toNat).msg)
 else if ((s.rol v.role.toNat).stp v.step.toNat).kind=1 then
  decide (putE s.cap (x.way v.role.toNat (peerN s ((s.rol v.role.toNat).stp v.step.toNat))) ((s.rol v.role.toNat).stp v.step.toNat).msg=0∧v.place=0)
 else decide (v.place=0)
theorem lose_iff {cls:Int} {L:List ByteArray}:loseE cls L=0↔cls=3∧0 < L.length:=by
 unfold loseE
 by_cases h:cls=3
 ·subst h
  rw[if_pos rfl]
  unfold takeE takeOk
  cases L with
  | nil=>simp
  | cons a L=>simp[chc]
 ·rw[if_neg h];simp[h]
theorem put_iff (h:SesOk s) (hx:PSok s x) {i k:Nat} (hi:i < s.roles.length) (hk:k < (s.rol i).steps.length) (k1:((s.rol i).stp k).kind=1) :
  putE s.cap (x.way i (peerN s ((s.rol i).stp k))) ((s.rol i).stp k).msg=0↔((x.way i (peerN s ((s.rol i).stp k))).length:Int) < s.cap:=by
 have hm:=(h.stp hi hk).msg (by omega)
 obtain⟨-,p1,-⟩:=h.peer hi hk (by omega)
 have hw:=(hx.wb i _ hi p1).1
 unfold putE
 rw[if_neg (by omega)]
 split
 ·rename_i e;simp;omega
 ·rename_i e;simp;omega
theorem do_iff (h:SesOk s) (hx:PSok s x) (v:Mv):doB s x v=true↔v∈movesP s x:=by
 rw[mem_movesP]
 constructor
 ·intro hd
  unfold doB at hd
  by_cases h1:v.role < 0∨(s.roles.length:Int)≤v.role∨v.step < 0
  ·rw[if_pos h1] at hd;cases hd
  ·rw[if_neg h1] at hd
   obtain⟨i,hi⟩:=Int.eq_ofNat_of_zero_le (show 0≤v.role by omega)
   obtain⟨k,hk⟩:=Int.eq_ofNat_of_zero_le (show 0≤v.step by omega)
   obtain⟨vk,vr,vs,vp⟩:=v
   simp only at hi hk h1 hd
   subst hi
   subst hk
   simp only[Int.toNat_natCast] at hd
   by_cases h2:vk=2
   ·subst h2
    rw[if_pos rfl] at hd
    split at hd
    ·cases hd
    ·rename_i h3
     rw[decide_eq_true_eq,lose_iff] at hd
     obtain rfl:vp=0:=by omega
     exact .inr ⟨i,k,by omega,by omega,mem_loseMv.2 ⟨rfl,hd⟩⟩
   ·rw[if_neg h2] at hd
    by_cases h3:vk≠1∨((s.rol i).steps.length:Int)≤k
    ·rw[if_pos h3] at hd;cases hd
    ·rw[if_neg h3] at hd
     obtain rfl:vk=1:=by omega
     have hi:i < s.roles.length:=by omega
     have hk:k < (s.rol i).steps.length:=by omega
     by_cases h4:possB s x i k=false
     ·rw[if_pos h4] at hd;cases hd
     ·rw[if_neg h4] at hd
      refine .inl ⟨i,k,hi,hk,step_iff.2 ⟨by simpa using h4,?_⟩⟩
      by_cases k2:((s.rol i).stp k).kind=2
      ·rw[if_pos k2] at hd ⊢
       exact of_decide_eq_true hd
      ·rw[if_neg k2] at hd ⊢
       by_cases k1:((s.rol i).stp k).kind=1
       ·rw[if_pos k1] at hd
        obtain⟨e1,e2⟩:=of_decide_eq_true hd
        exact⟨e2,fun _=>(put_iff h hx hi hk k1).1 e1⟩
       ·rw[if_neg k1] at hd
        exact⟨of_decide_eq_true hd,fun e=>absurd e k1⟩
 ·rintro(⟨i,k,hi,hk,hm⟩ | ⟨i,k,hi,hk,hm⟩)
  ·obtain⟨e1,e2,e3,-⟩:=mem_stepMv hm
   obtain⟨vk,vr,vs,vp⟩:=v
   simp only at e1 e2 e3
   subst e1
   subst e2
   subst e3
   obtain⟨h4,h5⟩:=step_iff.1 hm
   unfold doB
   rw[if_neg (by simp only;omega),if_neg (by simp),if_neg (by simp only[Int.toNat_natCast];omega)]
   simp only[Int.toNat_natCast]
   rw[if_neg (by rw[h4];decide)]
   by_cases k2:((s.rol i).stp k).kind=2
   ·rw[if_pos k2] at h5 ⊢
    exact decide_eq_true h5
   ·rw[if_neg k2] at h5 ⊢
    by_cases k1:((s.rol i).stp k).kind=1
    ·rw[if_pos k1]
     exact decide_eq_true ⟨(put_iff h hx hi hk k1).2 (h5.2 k1),h5.1⟩
    ·rw[if_neg k1]
     exact decide_eq_true h5.1
  ·obtain⟨rfl,e2,e3⟩:=mem_loseMv.1 hm
   have hne:i≠k:=fun e=>by subst e;rw[hx.wd] at e3;simp at e3
   unfold doB
   rw[if_neg (by simp only;omega),if_pos rfl,if_neg (by simp only;omega)]
   exact decide_eq_true (lose_iff.2 ⟨e2,e3⟩)
def movesR (s:SesD) (x:PS):List Mv:=
 cat (fun i=>cat (fun k=>cat (fun p=>if doB s x ⟨1,i,k,p⟩=true then [⟨1,i,k,p⟩] else []) s.cap.toNat) (s.rol i).steps.length) s.roles.length ++
 cat (fun i=>cat (fun k=>if doB s x ⟨2,i,k,0⟩=true then [⟨2,i,k,0⟩] else []) s.roles.length) s.roles.length
theorem hits_append (m:ByteArray) (i k:Nat) (a b:List (Nat × ByteArray)):hits m i k (a ++ b)=hits m i k a ++ hits m i k b:=by
 unfold hits;rw[List.filterMap_append]
theorem hits_cat (m:ByteArray) (i k:Nat) (cls:Int) (L:List ByteArray):∀ n,n≤L.length →
  hits m i k (chlK cls L n)=cat (fun p=>if takeE cls L p=0∧takeM cls L p=m then [(⟨1,i,k,p⟩:Mv)] else []) n
 | 0,_=>rfl
 | n + 1,h=>by
   rw[chlK,hits_append,cat,hits_cat m i k cls L n (by omega)]
   congr 1
   have ho:takeOk cls L (n:Int)=chc cls L n:=by
    unfold takeOk
    rw[decide_eq_true (by omega)];simp
   cases hc:chc cls L n with
   | true =>
     rw[if_pos rfl]
     unfold takeE takeM
     rw[ho,hc]
     simp[hits]
     split <;> simp[*]
   | false =>
     rw[if_neg (by decide),if_neg]
     ·rfl
     ·unfold takeE;rw[ho,hc];simp
theorem cat_more {α:Type} {f:Nat→List α} {n:Nat}:∀ {m:Nat},n≤m→(∀ k,n≤k→k < m→f k=[])→cat f m=cat f n
 | 0,h,_=>by obtain rfl:n=0:=by omega
             rfl
 | m + 1,h,hn=>by
   by_cases e:n=m + 1
   ·subst e;rfl
   ·rw[cat,hn m (by omega) (by omega),List.append_nil]
    exact cat_more (by omega) (fun k h1 h2=>hn k h1 (by omega))
theorem cat_one {α:Type} {f:Nat→List α} {m:Nat} (h:1≤m) (hn:∀ k,1≤k→k < m→f k=[]):cat f m=f 0:=by
 rw[cat_more h hn];rfl
theorem if_iff {α:Type} {p q:Prop} [Decidable p] [Decidable q] (h:p↔q) (a b:α):(if p then a else b)=if q then a else b:=by
 by_cases hp:p
 ·rw[if_pos hp,if_pos (h.1 hp)]
 ·rw[if_neg hp,if_neg (fun hq=>hp (h.2 hq))]
theorem doB_step {i k:Nat} {p:Int} (h:SesOk s) (hx:PSok s x) (hi:i < s.roles.length) (hk:k < (s.rol i).steps.length):doB s x ⟨1,i,k,p⟩=true↔(⟨1,i,k,p⟩:Mv)∈stepMv s x i k:=by
 rw[do_iff h hx,mem_movesP]
 constructor
 ·rintro(⟨a,b,-,-,hm⟩ | ⟨a,b,-,-,hm⟩)
  ·obtain⟨-,e2,e3,-⟩:=mem_stepMv hm
   obtain rfl:i=a:=Int.ofNat.inj e2
   obtain rfl:k=b:=Int.ofNat.inj e3
   exact hm
  ·have:=(mem_loseMv.1 hm).1
   cases this
 ·intro hm;exact .inl ⟨i,k,hi,hk,hm⟩
theorem movesR_eq (h:SesOk s) (hx:PSok s x):movesR s x=movesP s x:=by
 unfold movesR movesP
 congr 1
 ·refine cat_congr fun i hi=>cat_congr fun k hk=>?_
  have e1:(fun p:Nat=>if doB s x ⟨1,i,k,p⟩=true then [(⟨1,i,k,p⟩:Mv)] else [])=fun p:Nat=>if (⟨1,i,k,p⟩:Mv)∈stepMv s x i k then [(⟨1,i,k,p⟩:Mv)] else []:=by
   funext p
   exact if_iff (doB_step h hx hi hk) _ _
  rw[e1]
  have hc:=h.k1
  cases hp:possB s x i k with
  | false =>
    rw[show stepMv s x i k=[] by unfold stepMv;rw[if_pos hp]]
    exact cat_nil fun p _=>by simp
  | true =>
    by_cases k2:((s.rol i).stp k).kind=2
    ·obtain⟨-,p1,-⟩:=h.peer hi hk (by omega)
     have hw:=(hx.wb _ i p1 hi).1
     have e2:stepMv s x i k=hits ((s.rol i).stp k).msg i k (chlK s.cls (x.way (peerN s ((s.rol i).stp k)) i) (x.way (peerN s ((s.rol i).stp k)) i).length):=by
      unfold stepMv;rw[if_neg (by rw[hp];decide),if_pos k2]
     have e3:(fun p:Nat=>if (⟨1,i,k,p⟩:Mv)∈stepMv s x i k then [(⟨1,i,k,p⟩:Mv)] else []) =
       fun p:Nat=>if takeE s.cls (x.way (peerN s ((s.rol i).stp k)) i) p=0∧takeM s.cls (x.way (peerN s ((s.rol i).stp k)) i) p=((s.rol i).stp k).msg then [(⟨1,i,k,p⟩:Mv)] else []:=by
      funext p
      refine if_iff ?_ _ _
      rw[step_iff,if_pos k2]
      exact⟨fun h=>h.2,fun h=>⟨hp,h⟩⟩
     rw[e3,e2,hits_cat _ _ _ _ _ _ (Nat.le_refl _)]
     refine cat_more (by omega) (fun p h1 _=>?_)
     rw[if_neg]
     rintro⟨h2,-⟩
     unfold takeE takeOk at h2
     rw[decide_eq_false (by omega)] at h2
     simp at h2
    ·have e3:(fun p:Nat=>if (⟨1,i,k,p⟩:Mv)∈stepMv s x i k then [(⟨1,i,k,p⟩:Mv)] else []) =
       fun p:Nat=>if p=0∧(((s.rol i).stp k).kind=1→((x.way i (peerN s ((s.rol i).stp k))).length:Int) < s.cap) then [(⟨1,i,k,p⟩:Mv)] else []:=by
      funext p
      refine if_iff ?_ _ _
      rw[step_iff,if_neg k2]
      exact⟨fun h=>⟨by have:=h.2.1;omega,h.2.2⟩,fun h=>⟨hp,by have:=h.1;omega,h.2⟩⟩
     rw[e3,cat_one (by omega) (fun p h1 _=>if_neg (by omega))]
     unfold stepMv
     rw[if_neg (c:=possB s x i k=false) (by rw[hp];decide),if_neg k2]
     by_cases h4:((s.rol i).stp k).kind=1∧s.cap≤((x.way i (peerN s ((s.rol i).stp k))).length:Int)
     ·rw[if_pos h4,if_neg (fun h5=>by have:=h5.2 h4.1;omega)]
     ·rw[if_neg h4,if_pos ⟨rfl,fun h5=>by
       rcases Int.lt_or_le ((x.way i (peerN s ((s.rol i).stp k))).length:Int) s.cap with h6 | h6
       ·exact h6
       ·exact absurd ⟨h5,h6⟩ h4⟩]
      rfl
 ·refine cat_congr fun i hi=>cat_congr fun k hk=>?_
  unfold loseMv
  refine if_iff ?_ _ _
  rw[do_iff h hx,mem_movesP]
  constructor
  ·rintro(⟨a,b,-,-,hm⟩ | ⟨a,b,-,-,hm⟩)
   ·have:=(mem_stepMv hm).1
    cases this
   ·obtain⟨e,e2,e3⟩:=mem_loseMv.1 hm
    simp only[Mv.mk.injEq,true_and,and_true] at e
    obtain⟨ea,eb⟩:=e
    obtain rfl:i=a:=by omega
    obtain rfl:k=b:=by omega
    exact⟨e2,e3⟩
  ·intro hm;exact .inr ⟨i,k,hi,hk,mem_loseMv.2 ⟨rfl,hm⟩⟩
end
end Go.Proofs.YtemjlpahohmajaaGreat
namespace Go.Proofs.YtemjlpahohmajaaGreat
open Go.RowKit Go.BigFrame
theorem few_any {α:Type} (p:Nat→α→Bool) (d:α) (l:List α) (least most:Nat):(l.length < least∨most < l.length∨anyIx p 0 l=true)↔0≤fewI l.length least most (fun i=>p i (l.getD i d)):=by
 rw[fewI_iff (by omega)]
 have e:(∃ i,i < l.length∧p i (l.getD i d)=true)↔anyIx p 0 l=true:=by
  rw[anyIx_iff]
  constructor
  ·rintro⟨i,h1,h2⟩
   exact⟨i,l.getD i d,some_getD h1,by rw[Nat.zero_add];exact h2⟩
  ·rintro⟨i,x,h1,h2⟩
   rw[Nat.zero_add] at h2
   exact⟨i,lt_of_some h1,by rw[getD_some h1];exact h2⟩
 rw[e]
 have e1:(l.length < least)↔((l.length:Int) < (least:Int)):=by omega
 have e2:(most < l.length)↔((most:Int) < (l.length:Int)):=by omega
 rw[e1,e2]
def fewC (r:RolD):Int:=fewI r.ctrs.length 0 4 (fun i=>ctrBad r i (r.ctrs.getD i dC))
def fewS (r:RolD):Int:=fewI r.sts.length 1 24 (fun i=>stBad r i (r.sts.getD i dS))
def fewT (r:RolD):Int:=fewI r.steps.length 0 80 (fun i=>!stepB r i (r.steps.getD i dT))
theorem ck_few (r:RolD):ckRole r=if nameB r.name=false then 290 else if 0≤fewC r then 291 else if 0≤fewS r then 292 else if 0≤fewT r then 293 else 0:=by
 have h1:=few_any (ctrBad r) dC r.ctrs 0 4
 have h2:=few_any (stBad r) dS r.sts 1 24
 have h3:=few_any (fun i s=>!stepB r i s) dT r.steps 0 80
 have g1:(4 < r.ctrs.length∨anyIx (ctrBad r) 0 r.ctrs=true)↔0≤fewC r:=by
  refine Iff.trans ?_ h1
  constructor
  ·exact fun h=>.inr h
  ·rintro(h | h)
   ·omega
   ·exact h
 have g3:(80 < r.steps.length∨anyIx (fun i s=>!stepB r i s) 0 r.steps=true)↔0≤fewT r:=by
  refine Iff.trans ?_ h3
  constructor
  ·exact fun h=>.inr h
  ·rintro(h | h)
   ·omega
   ·exact h
 have g2:(r.sts.length < 1∨24 < r.sts.length∨anyIx (stBad r) 0 r.sts=true)↔0≤fewS r:=h2
 unfold ckRole
 rw[if_iff g1,if_iff g2,if_iff g3]
theorem fewC_neg {r:RolD} (h:fewC r < 0):r.ctrs.length≤4∧∀ c∈r.ctrs,1≤c.lim∧c.lim≤1000:=by
 have h1:¬ 0≤fewC r:=by omega
 rw[show (0≤fewC r)↔_ from (few_any (ctrBad r) dC r.ctrs 0 4).symm] at h1
 have ha:anyIx (ctrBad r) 0 r.ctrs=false:=by
  cases h2:anyIx (ctrBad r) 0 r.ctrs with
  | false=>rfl
  | true=>exact absurd (.inr (.inr h2)) h1
 have h4:¬ 4 < r.ctrs.length:=fun h2=>h1 (.inr (.inl h2))
 refine⟨by omega,fun c hc=>?_⟩
 obtain⟨k,hk⟩:=List.getElem?_of_mem hc
 have:=(anyIx_false.1 ha) k c hk
 unfold ctrBad at this
 simp only[Bool.or_eq_false_iff,decide_eq_false_iff_not] at this
 omega
end Go.Proofs.YtemjlpahohmajaaGreat
namespace Go.Proofs.YtemjlpahohmajaaGreat
open Go.RowKit
section
variable {P:Program} {ops:Array Oper} {Q:Exit→Act→World→Prop} {md:Region.Mode} {S S':World→Prop}
theorem wpAnyH_sub (hSS:∀ W,S' W→S W):∀ (fuel:Nat) (listed:Array Bool) (a:Act) (w:World),wpAnyH P md ops Q S' fuel listed a w→wpAnyH P md ops Q S fuel listed a w
 | 0,_,_,_,h=>h
 | fuel + 1,_,_,_,h=>⟨h.1,fun i hi=>wpOp_mono (fun a' w' h'=>⟨hSS _ h'.1,wpAnyH_sub hSS fuel _ a' w' h'.2⟩) (h.2 i hi)⟩
theorem heldG_start {id:Nat} {a:Act} {w:World} (hm:P.follows .mixedOrders=true) (h:wpAnyH P .any ops Q (Frm [] w.drew) ops.size (Array.replicate ops.size false) a w.drew):(Code.region id ops true).wp P Q a w:=
 wp_region_held hm h
theorem heldG_take {i:Nat} {oi:Oper} {fuel:Nat} {listed:Array Bool} {a:Act} {w:World} (v:Value) (hi:ops[i]?=some oi)
  (hs:Region.noSelect ops=true) (hf:Region.free md ops listed i=true) (hr:(Region.ready md ops listed).contains i=true)
  (hQ:∀ c a w,Q (.panic c) (a.put oi.dst v) w→Q (.panic c) a w) (hw:Region.wanted oi (yielded ops a.tmps)=true) (hy:∀ w',Frm [] w w'→(execOp a.eval oi).run P w'=.ok (.value v) w')
  (h:wpAnyH P md ops Q (Frm [] w) fuel (listed.setIfInBounds i true) (a.put oi.dst v) w):wpAnyH P md ops Q (Frm [] w) (fuel + 1) listed a w:=
 wpAnyH_take hi hs hf hr hQ (.inl ⟨hw,hy⟩) (Frm.refl _ _) h
theorem heldG_skip {i:Nat} {oi:Oper} {fuel:Nat} {listed:Array Bool} {a:Act} {w:World} (hi:ops[i]?=some oi)
  (hs:Region.noSelect ops=true) (hf:Region.free md ops listed i=true) (hr:(Region.ready md ops listed).contains i=true)
  (hQ:∀ c a w,Q (.panic c) (a.put oi.dst undef) w→Q (.panic c) a w) (hw:Region.wanted oi (yielded ops a.tmps)=false)
  (h:wpAnyH P md ops Q (Frm [] w) fuel (listed.setIfInBounds i true) (a.put oi.dst undef) w):wpAnyH P md ops Q (Frm [] w) (fuel + 1) listed a w:=
 wpAnyH_take hi hs hf hr hQ (.inr ⟨hw,rfl⟩) (Frm.refl _ _) h
theorem heldG_step {i:Nat} {oi:Oper} {fuel:Nat} {listed:Array Bool} {a:Act} {w:World} (hi:ops[i]?=some oi) (hr:Region.ready md ops listed=[i]) (hw:Region.wanted oi (yielded ops a.tmps)=true)
  (h:∀ K':Act→World→Prop,Shut (∀ a' w',Frm [] w w'→wpAnyH P md ops Q (Frm [] w') fuel (listed.setIfInBounds i true) a' w'→K' a' w')→Oper.wp P oi a w K' Q):wpAnyH P md ops Q (Frm [] w) (fuel + 1) listed a w:=by
 refine wpAnyH_all hr (by simp) (fun j hj=>?_)
 simp only[List.mem_singleton] at hj
 subst hj
 unfold wpOp
 simp only[hi,hw,if_true]
 exact .inl (h _ (fun a' w' hf hk=>⟨hf,wpAnyH_sub (fun W hW=>hf.trans hW) _ _ _ _ hk⟩))
theorem tkG (i:Nat) {oi:Oper} {fuel:Nat} {listed:Array Bool} {a:Act} {w:World} (v:Value) (hy:∀ w',Frm [] w w'→(execOp a.eval oi).run P w'=.ok (.value v) w')
  (h:wpAnyH P md ops Q (Frm [] w) fuel (listed.setIfInBounds i true) (a.put oi.dst v) w) (hi:ops[i]?=some oi:=by rfl) (hb:(Region.noSelect ops && Region.free md ops listed i && (Region.ready md ops listed).contains i)=true:=by kernel_rfl)
  (hQ:∀ c a w,Q (.panic c) (a.put oi.dst v) w→Q (.panic c) a w:=by exact fun _ _ _ h=>h) (hw:Region.wanted oi (yielded ops a.tmps)=true:=by rfl):wpAnyH P md ops Q (Frm [] w) (fuel + 1) listed a w:=by
 simp only[Bool.and_eq_true] at hb
 exact heldG_take v hi hb.1.1 hb.1.2 hb.2 hQ hw hy h
theorem skG (i:Nat) {oi:Oper} {fuel:Nat} {listed:Array Bool} {a:Act} {w:World}
  (h:wpAnyH P md ops Q (Frm [] w) fuel (listed.setIfInBounds i true) (a.put oi.dst undef) w) (hi:ops[i]?=some oi:=by rfl) (hb:(Region.noSelect ops && Region.free md ops listed i && (Region.ready md ops listed).contains i)=true:=by kernel_rfl)
  (hQ:∀ c a w,Q (.panic c) (a.put oi.dst undef) w→Q (.panic c) a w:=by exact fun _ _ _ h=>h) (hw:Region.wanted oi (yielded ops a.tmps)=false:=by rfl):wpAnyH P md ops Q (Frm [] w) (fuel + 1) listed a w:=by
 simp only[Bool.and_eq_true] at hb
 exact heldG_skip hi hb.1.1 hb.1.2 hb.2 hQ hw h
theorem stG (i:Nat) {oi:Oper} {fuel:Nat} {listed:Array Bool} {a:Act} {w:World}
 (h:∀ K':Act→World→Prop,Shut (∀ a' w',Frm [] w w'→wpAnyH P md ops Q (Frm [] w') fuel (listed.setIfInBounds i true) a' w'→K' a' w')→Oper.wp P oi a w K' Q) (hi:ops[i]?=some oi:=by rfl)
 (hr:Region.ready md ops listed=[i]:=by kernel_rfl) (hw:Region.wanted oi (yielded ops a.tmps)=true:=by rfl):wpAnyH P md ops Q (Frm [] w) (fuel + 1) listed a w:=heldG_step hi hr hw h
theorem tcG {i:Nat} {oi:Oper} {fuel:Nat} {listed:Array Bool} {a:Act} {w:World} (v:Value) (hy:∀ w',Frm [] w w'→(execOp a.eval oi).run P w'=.ok (.value v) w')
  (h:Cnt (i + 1) (wpAnyH P md ops Q (Frm [] w) fuel (listed.setIfInBounds i true) (a.put oi.dst v) w)) (hi:ops[i]?=some oi:=by rfl) (hb:(Region.noSelect ops && Region.free md ops listed i && (Region.ready md ops listed).contains i)=true:=by kernel_rfl)
  (hQ:∀ c a w,Q (.panic c) (a.put oi.dst v) w→Q (.panic c) a w:=by exact fun _ _ _ h=>h) (hw:Region.wanted oi (yielded ops a.tmps)=true:=by rfl):Cnt i (wpAnyH P md ops Q (Frm [] w) (fuel + 1) listed a w):=
 tkG i v hy h hi hb hQ hw
theorem scG {i:Nat} {oi:Oper} {fuel:Nat} {listed:Array Bool} {a:Act} {w:World}
  (h:Cnt (i + 1) (wpAnyH P md ops Q (Frm [] w) fuel (listed.setIfInBounds i true) (a.put oi.dst undef) w)) (hi:ops[i]?=some oi:=by rfl) (hb:(Region.noSelect ops && Region.free md ops listed i && (Region.ready md ops listed).contains i)=true:=by kernel_rfl)
  (hQ:∀ c a w,Q (.panic c) (a.put oi.dst undef) w→Q (.panic c) a w:=by exact fun _ _ _ h=>h) (hw:Region.wanted oi (yielded ops a.tmps)=false:=by rfl):Cnt i (wpAnyH P md ops Q (Frm [] w) (fuel + 1) listed a w):=
 skG i h hi hb hQ hw
end
end Go.Proofs.YtemjlpahohmajaaGreat
namespace Go.Proofs.YtemjlpahohmajaaGreat
open Go.RowKit Go.BigFrame
def okC (cls cap:Int):Bool:=decide (1≤cls∧cls≤3∧1≤cap∧cap≤64)
theorem new_bad (cls cap:Int) (w:World) (h:okC cls cap=false):Calls Tryz.prog 82 #[.int .i64 cls,.int .i64 cap] w (Ret (.tuple #[.pointer none,.int .i64 2]) (w=·)):=by
 simp only[okC,decide_eq_false_iff_not] at h
 by_cases h1:cls < 1
 ·go_enter Tryz.func82,Tryz.ntmps82
  go_wp2
  go_ret2
  exact⟨rfl,rfl⟩
 ·by_cases h2:3 < cls
  ·go_enter Tryz.func82,Tryz.ntmps82
   go_wp2
   go_ret2
   exact⟨rfl,rfl⟩
  ·by_cases h3:cap < 1
   ·go_enter Tryz.func82,Tryz.ntmps82
    go_wp2
    go_ret2
    exact⟨rfl,rfl⟩
   ·have h4:64 < cap:=by omega
    go_enter Tryz.func82,Tryz.ntmps82
    go_wp2
    go_ret2
    exact⟨rfl,rfl⟩
theorem new_ok (cls cap:Int) (w:World) (h:okC cls cap=true):Calls Tryz.prog 82 #[.int .i64 cls,.int .i64 cap] w
  (Ret (.tuple #[.pointer (some ⟨w.heap.size,0,none⟩),.int .i64 0]) (fun w'=>Frm [] w w'∧Chn w' w.heap.size cls cap [] [w.heap.size])):=by
 simp only[okC,decide_eq_true_iff] at h
 obtain⟨g1,g2,g3,g4⟩:=h
 have h1:¬ cls < 1:=by omega
 have h2:¬ 3 < cls:=by omega
 have h3:¬ cap < 1:=by omega
 have h4:¬ 64 < cap:=by omega
 go_enter Tryz.func82,Tryz.ntmps82
 go_wp2
 go_ret2
 exact⟨rfl,(Frm.refl _ _).alloc _,.slice none 0 0,heap_alloc_new _ _,World.ownsRow_nil _ _ _ _,⟨g1,g2,g3,g4,by simpa using (by omega:(0:Int)≤cap),by simp⟩,rfl⟩
section
variable {w:World} {cb:Nat} {cls cap:Int} {L:List ByteArray} {F:List Nat}
theorem Good.lenN (h:Good cls cap L):L.length≤64:=by have:=h.len;have:=h.k64;omega
theorem all_any (h:Chn w cb cls cap L F):Calls Tryz.prog 101 #[.pointer (some ⟨cb,0,none⟩)] w (RetV (Fresh w L)):=by
 have CN:=Lib.hid (none_any cb cls cap L F w h)
 have hg:=h.good.lenN
 obtain⟨sv,h1,h2,-,-⟩:=h
 have CC:=Lib.hid (clone_any sv L w h2 (by omega))
 have c2:=cell_of h1 2
 clear h1 h2
 go_enter Tryz.func101,Tryz.ntmps101
 go_wp2_with (first
  | (go_at_call 102;go_must (refine CN.out.mono ?_;rintro e w' ⟨rfl,rfl⟩))
  | (go_at_call 115;go_must (refine CC.out.mono ?_;rintro e w' ⟨v,rfl,hr⟩;have HR:=Lib.hid hr;clear hr)))
 go_ret
 exact⟨_,rfl,HR.out⟩
theorem len_any (h:Chn w cb cls cap L F):Calls Tryz.prog 56 #[.pointer (some ⟨cb,0,none⟩)] w (Ret (.int .i64 L.length) (Frm [] w)):=by
 have CA:=Lib.hid (all_any h)
 clear h
 go_enter Tryz.func56,Tryz.ntmps56
 go_wp2_with (go_at_call 101;go_must (refine CA.out.mono ?_;rintro e w' ⟨v,rfl,hr⟩;obtain⟨ao,c,rfl,-,-⟩:=hr.1.shape;have HR:=Lib.hid hr;clear hr))
 go_ret
 exact⟨rfl,HR.out.2.1⟩
set_option maxHeartbeats 1000000 in
set_option maxRecDepth 100000 in
theorem copy_any (h:Chn w cb cls cap L F):Calls Tryz.prog 110 #[.pointer (some ⟨cb,0,none⟩)] w (RetV fun v w'=>∃ db F',v=.pointer (some ⟨db,0,none⟩)∧Chn w' db cls cap L F'∧Frm [] w w'∧∀ x∈F',w.heap.size≤x):=by
 have CN:=Lib.hid (none_any cb cls cap L F w h)
 have HG:=Lib.hid h.good
 have hg:=h.good.lenN
 obtain⟨sv,h1,h2,-,-⟩:=h
 have HS:=Lib.hid h2
 have c0:=cell_of h1 0
 have c1:=cell_of h1 1
 have c2:=cell_of h1 2
 clear h1 h2
 go_enter Tryz.func110,Tryz.ntmps110
 go_wp2_with (first
  | (go_at_call 102;go_must (refine CN.out.mono ?_;rintro e w' ⟨rfl,rfl⟩)))
 go_region_held3 (fun w'=>w'.cell? ⟨cb,0,none⟩=some (.int .i64 cls)∧w'.cell? ⟨cb,1,none⟩=some (.int .i64 cap)∧w'.cell? ⟨cb,2,none⟩=some sv)
  (first
   | (exact⟨HFA.out.keep c0,HFA.out.keep c1,HFA.out.keep c2⟩)
   | go_keep)
  (first | (go_at_call 115;go_must (refine(clone_any sv L _ ((Frm.refl [] w).drew.owns HS.out (by simp)) (by omega)).mono ?_;rintro e w1 ⟨v',rfl,hr⟩;obtain⟨ao',c',rfl,-,-⟩:=hr.1.shape;have HR:=Lib.hid hr;have HFA:Hid (Frm [] w w1):=Lib.hid ((Frm.refl [] w).drew.trans hr.2.1);clear hr)))
 all_goals
  go_wp2
  go_ret
  exact⟨_,rfl,_,_,rfl,⟨_,heap_alloc_new _ _,(HR.out.1.frm ((Frm.refl [] _).alloc _) (by simp)),HG.out,rfl⟩,HFA.out.alloc _,fun x hx=>by
   have h3:=HR.out.2.2
   have h4:=HFA.out.size
   simp only[List.mem_cons,Option.mem_toList] at hx
   rcases hx with rfl | hx
   ·exact h4
   ·exact h3 x hx⟩
end
theorem first_any (v:Value) (i:Int) (w:World):Calls Tryz.prog 150 #[v,.int .i64 i] w (Ret (.bool (i == 0)) (w=·)):=by
 go_enter Tryz.func150,Tryz.ntmps150
 go_wp2
 go_ret
 exact⟨rfl,rfl⟩
abbrev tabO:Obj:=.cells #[.nilFunc,.func (.func 150) #[] #[],.func (.func 151) #[] #[],.func (.func 150) #[] #[]] 226
theorem choices_any (w:World):Calls Tryz.prog 113 #[] w (Ret (.slice (some ⟨w.heap.size,0,none⟩) 4 4) (w.alloc tabO=·)):=by
 go_enter Tryz.func113,Tryz.ntmps113
 go_wp2
 go_ret
 exact⟨rfl,rfl⟩
theorem second_any (v:Value) (L:List ByteArray) (i:Nat) (x:ByteArray) (w:World) (h:Strs w v L) (hL:L.length≤1000000) (hx:L[i]?=some x) :
  Calls Tryz.prog 151 #[v,.int .i64 i] w (Ret (.bool (Lib.idxOfS L x == (i:Int))) (w=·)):=by
 obtain⟨ao,cap,rfl,hn,hc⟩:=h.shape
 obtain⟨g,rfl,cx⟩:=hc i x hx
 have hil:=lt_of_some hx
 have hil':(i:Int) < (L.length:Int):=by omega
 have CI:=AnyG.slices_Index_string Tryz.indexS g 0 L.length cap L x w (Nat.le_refl _) (by omega) (fun j hj=>by
  have hx:L[j]?=some (L.getD j ByteArray.empty):=by rw[List.getD_eq_getElem?_getD,List.getElem?_eq_getElem hj];rfl
  obtain⟨g',hg',e⟩:=hc j _ hx
  cases hg'
  rw[Nat.zero_add];exact e)
 rw[List.take_length] at CI
 have HI:=Lib.hid CI
 clear CI h hn hc hx hil
 go_enter Tryz.func151,Tryz.ntmps151
 go_wp2_with (go_at_call 152;go_must (refine HI.out.mono ?_;rintro e w' ⟨rfl,rfl⟩))
 go_ret
 exact⟨rfl,rfl⟩
theorem Good.add {cls cap:Int} {L:List ByteArray} {m:ByteArray} (h:Good cls cap L) (h1:1≤m.size) (h2:m.size≤32) (h3:(L.length:Int) < cap):Good cls cap (L ++ [m]):=
 ⟨h.c1,h.c3,h.k1,h.k64,by simp;omega,fun x hx=>by
  rcases List.mem_append.1 hx with hx | hx
  ·exact h.sz x hx
  ·simp at hx;subst hx;exact⟨h1,h2⟩⟩
theorem put_end {w wq wa:World} {cb:Nat} {cls cap:Int} {L L':List ByteArray} {sv v':Value} {X:Obj} (h0:w.heap[cb]?=some (.cells #[.int .i64 cls,.int .i64 cap,sv] 213 (0,0))) (_:Strs w sv L) (_:Good cls cap L) (hg':Good cls cap L')
  (hq:Frm [] w wq) (hgr:(wq.alloc X).grownBy wa sv.ownBlock) (hst:Strs wa v' L') (hlo:v'.ownBlock=sv.ownBlock∨v'.ownBlock=some (wq.alloc X).heap.size) (hca:wa.heap[cb]?=some (.cells #[.int .i64 cls,.int .i64 cap,sv] 213 (0,0))) :
  ChnTo w cb cls cap L' (cb :: sv.ownBlock.toList) (wa.setCell ⟨cb,2,none⟩ v'):=by
 have hne:v'.ownBlock≠some cb:=fun e=>by
  obtain⟨x,hx⟩:=ownBlock_type hst e
  rw[hca] at hx;cases hx
 refine⟨cb :: v'.ownBlock.toList,⟨v',(block_setCell hca 2 v').trans rfl,ownsRow_setCell_other hst hne v',hg',rfl⟩,?_,fun x hx=>?_⟩
 ·exact(((hq.alloc X).mono (F':=cb :: sv.ownBlock.toList) (by simp)).grown hgr (fun k hk=>.inl (by simp[hk]))).setCell _ (.inl (by simp)) _
 ·simp only[List.mem_cons,Option.mem_toList] at hx ⊢
  rcases hx with rfl | hx
  ·exact .inl (.inl rfl)
  ·rcases hlo with h | h
   ·rw[h] at hx;exact .inl (.inr hx)
   ·rw[h] at hx;simp at hx;have:=hq.size;right;omega
theorem Tryz.info9:(Tryz.prog.info? 9).map (fun i=>(i.zero,i.size,i.bytes))=some (some (.string { data:=#[] }),1,16):=by kernel_rfl
set_option maxHeartbeats 1000000 in
set_option maxRecDepth 100000 in
theorem put_any (cb:Nat) (cls cap:Int) (L:List ByteArray) (F:List Nat) (m:ByteArray) (w:World) (h:Chn w cb cls cap L F) (h1:1≤m.size) (h2:m.size≤32) (h3:(L.length:Int) < cap) :
  Calls Tryz.prog 67 #[.pointer (some ⟨cb,0,none⟩),.string m] w (Ret (.int .i64 0) (ChnTo w cb cls cap (L ++ [m]) F)):=by
 have CN:=Lib.hid (none_any cb cls cap L F w h)
 have HG:=Lib.hid h.good
 have hg:=h.good.lenN
 obtain⟨sv,e1,e2,-,rfl⟩:=h
 have c1:=cell_of e1 1
 have c2:=cell_of e1 2
 obtain⟨ao,c,rfl,-,-⟩:=e2.shape
 have HE1:=Lib.hid e1;have HE2:=Lib.hid e2;have HE0:=Lib.hid e1
 clear e1 e2
 obtain⟨i0,hi,hz0,hz1,hz2⟩:=info_parts Tryz.info9
 have q1:¬ (m.size:Int) < 1:=by omega
 have q2:¬ (32:Int) < (m.size:Int):=by omega
 have q3:((L.length:Int) == cap)=false:=by simp;omega
 go_enter Tryz.func67,Tryz.ntmps67
 go_wp2_with (first
  | (go_at_call 102;go_must (refine CN.out.mono ?_;rintro e w' ⟨rfl,rfl⟩)))
 go_quiet (fail)
 obtain⟨wq,hq1⟩:∃ wq,w.drewN nq=wq:=⟨_,rfl⟩
 have hq2:Frm [] w wq:=by rw[← hq1];exact(Frm.refl [] w).drewN _
 have hqs:w.heap.size=wq.heap.size:=by rw[← hq1];rfl
 rw[hq1]
 have HQ:=Lib.hid hq2
 have c2:=hq2.keep c2
 have HOQ:=Lib.hid (HE2.out.frm hq2 (by simp))
 have HE1:=Lib.hid (hq2.at HE1.out (by simp))
 have fb:=free_of HE1.out 2
 have HQS:=Lib.hid hqs
 have hne:Hid ((Value.slice ao L.length c).ownBlock≠some cb):=Lib.hid (fun e=>by
  obtain⟨x,hx⟩:=ownBlock_type HE2.out e
  rw[HE0.out] at hx;cases hx)
 clear c1 hq1 hq2 hqs
 go_wp2_with (at_builtin;refine wpList_append_own_at _ rfl _ _ 35 rfl 0 9 i0 (.string { data:=#[] }) 1 16 Tryz.underlying35 hi hz0 hz1 hz2 rfl (by decide) _ _ _ rfl (HOQ.out.alloc _) ⟨wq.heap.size,0,none⟩ 1 1 [.string m] rfl rfl (cell_one_new _ _ _) (by simp[Value.oneCell']) (by unfold maxLen;omega) (by omega) (Nat.zero_le _) ?_;intro v' wa hown' hgrow hnil hloc;have hst:Strs wa v' (L ++ [m]):=(by simpa[Strs] using hown');obtain⟨ao',c',hv,-,-⟩:=hst.shape;rw[List.length_append,List.length_cons,List.length_nil,Nat.zero_add] at hv;subst hv;have HST:=Lib.hid hst;have hca:=grown_at hgrow (alloc_at HE1.out) hne.out;have HCA:=Lib.hid hca;have HGR:=Lib.hid hgrow;have HLO:=Lib.hid hloc;have ca2:=cell_of hca 2;have fa2:=free_of hca 2;clear hst hca hown' hgrow hloc hnil)
 go_ret
 exact⟨rfl,put_end HE0.out HE2.out HG.out (HG.out.add h1 h2 h3) HQ.out HGR.out HST.out HLO.out HCA.out⟩
set_option maxHeartbeats 1000000 in
theorem put_all (cb:Nat) (cls cap:Int) (L:List ByteArray) (F:List Nat) (m:ByteArray) (w:World) (h:Chn w cb cls cap L F) :
  Calls Tryz.prog 67 #[.pointer (some ⟨cb,0,none⟩),.string m] w (Ret (.int .i64 (putE cap L m)) (ChnTo w cb cls cap (putL cap L m) F)):=by
 have hlen:=h.good.len
 by_cases h1:m.size < 1
 ·have he:putE cap L m=2:=by simp[putE,h1]
  have q1:(m.size:Int) < 1:=by omega
  rw[putL,he,if_neg (by decide)]
  have CN:=Lib.hid (none_any cb cls cap L F w h)
  have HT:=Lib.hid h.to
  clear h hlen
  go_enter Tryz.func67,Tryz.ntmps67
  go_wp2_with (go_at_call 102;go_must (refine CN.out.mono ?_;rintro e w' ⟨rfl,rfl⟩))
  go_ret
  exact⟨rfl,HT.out⟩
 ·by_cases h2:32 < m.size
  ·have he:putE cap L m=2:=by simp[putE,h2]
   have q1:¬ (m.size:Int) < 1:=by omega
   have q2:(32:Int) < (m.size:Int):=by omega
   rw[putL,he,if_neg (by decide)]
   have CN:=Lib.hid (none_any cb cls cap L F w h)
   have HT:=Lib.hid h.to
   clear h hlen
   go_enter Tryz.func67,Tryz.ntmps67
   go_wp2_with (go_at_call 102;go_must (refine CN.out.mono ?_;rintro e w' ⟨rfl,rfl⟩))
   go_ret
   exact⟨rfl,HT.out⟩
  ·by_cases h3:(L.length:Int)=cap
   ·have he:putE cap L m=7:=by rw[putE,if_neg (by omega),if_pos h3]
    have q1:¬ (m.size:Int) < 1:=by omega
    have q2:¬ (32:Int) < (m.size:Int):=by omega
    have q3:((L.length:Int) == cap)=true:=by simpa using h3
    rw[putL,he,if_neg (by decide)]
    have CN:=Lib.hid (none_any cb cls cap L F w h)
    have HT:=Lib.hid h.to
    obtain⟨sv,e1,e2,-,rfl⟩:=h
    have c1:=cell_of e1 1
    have c2:=cell_of e1 2
    obtain⟨ao,c,rfl,-,-⟩:=e2.shape
    clear e1 e2 hlen
    go_enter Tryz.func67,Tryz.ntmps67
    go_wp2_with (go_at_call 102;go_must (refine CN.out.mono ?_;rintro e w' ⟨rfl,rfl⟩))
    go_quiet (fail)
    go_wp2
    go_ret
    exact⟨rfl,HT.out.frm ((Frm.refl [] _).drewN _)⟩
   ·have he:putE cap L m=0:=by rw[putE,if_neg (by omega),if_neg h3]
    rw[putL,he,if_pos rfl]
    exact put_any cb cls cap L F m w h (by omega) (by omega) (by omega)
end Go.Proofs.YtemjlpahohmajaaGreat
namespace Go.Proofs.YtemjlpahohmajaaGreat
open Go.RowKit Go.BigFrame
def Lf (w:World) (lv:Value) (L:List ByteArray):Prop:=
 Strs w lv L∨∃ g cur,lv=.slice (some ⟨g,0,none⟩) L.length L.length∧w.heap[g]?=some (.cells cur 9 (0,0))∧cur.toList.take L.length=L.map Value.string
theorem Lf.shape {w:World} {lv:Value} {L:List ByteArray} (h:Lf w lv L):∃ ao cap,lv=.slice ao L.length cap∧(∀ k x,L[k]?=some x→∃ g,ao=some ⟨g,0,none⟩∧w.cell? ⟨g,k,none⟩=some (.string x)):=by
 rcases h with h | ⟨g,cur,rfl,hb,ht⟩
 ·obtain⟨ao,cap,h1,-,h2⟩:=h.shape
  exact⟨ao,cap,h1,h2⟩
 ·refine⟨_,_,rfl,fun k x hk=>⟨g,rfl,?_⟩⟩
  have hl:=lt_of_some hk
  rw[cell_of hb]
  have h1:(cur.toList.take L.length)[k]?=some (.string x):=by rw[ht];simp[hk]
  rw[List.getElem?_take_of_lt hl] at h1
  simpa using h1
theorem Lf.room {w:World} {ao:Option Addr} {L:List ByteArray} {cap:Nat} (h:Lf w (.slice ao L.length cap) L):L.length≤cap:=by
 rcases h with h | ⟨g,cur,hv,hb,ht⟩
 ·rcases h.2 with ⟨hv,hn⟩ | ⟨g,c,cur,hv,-,-,h1,-⟩
  ·omega
  ·cases hv;exact h1
 ·cases hv;exact Nat.le_refl _
theorem Lf.frm {F:List Nat} {w w':World} {lv:Value} {L:List ByteArray} (h:Lf w lv L) (hf:Frm F w w') (hn:∀ k,lv.ownBlock=some k→k∉F):Lf w' lv L:=by
 rcases h with h | ⟨g,cur,rfl,hb,ht⟩
 ·exact .inl (h.frm hf hn)
 ·exact .inr ⟨g,cur,rfl,hf.at hb (hn g rfl),ht⟩
theorem Lf.lt {w:World} {lv:Value} {L:List ByteArray} (h:Lf w lv L) {k:Nat} (hk:lv.ownBlock=some k):k < w.heap.size:=by
 rcases h with h | ⟨g,cur,rfl,hb,ht⟩
 ·exact ownBlock_lt h hk
 ·cases hk;exact lt_of_block hb
end Go.Proofs.YtemjlpahohmajaaGreat
namespace Go.Proofs.YtemjlpahohmajaaGreat
open Go.RowKit Go.BigFrame
theorem Lf.cells {W:World} {ao:Option Addr} {cap:Nat} {L:List ByteArray} (h:Lf W (.slice ao L.length cap) L):∀ b,ao=some b→∀ j u,(L.map Value.string)[j]?=some u→W.cell? (b.add j)=some u:=by
 intro b hb j u hu
 obtain⟨ao',cap',hv,hcs⟩:=h.shape
 cases hv
 rw[List.getElem?_map,Option.map_eq_some_iff] at hu
 obtain⟨y,hy,rfl⟩:=hu
 obtain⟨g',hg',e⟩:=hcs j y hy
 rw[hb] at hg'
 cases hg'
 have e1:(⟨g',0,none⟩:Addr).add j=⟨g',j,none⟩:=by simp[Addr.add];exact fun h=>h.symm
 rw[e1];exact e
theorem app_any {ty:TypeId} (b:Nat) (W:World) (hb:W.heap[b]?=some (.cells #[] 9 (0,0))) (sv:Value) (n:Nat) (news:List Value) (hs:Src Tryz.prog 1 35 sv n news W) (hk:0 < n→∃ ad c,sv=.slice (some ad) n c∧∀ j u,news[j]?=some u→W.cell? (ad.add j)=some u) (hn:n≤1000000) :
  ∃ ao cp W',(Builtin.append_ #[35,35] ty #[.slice (some ⟨b,0,none⟩) 0 0,sv]).run Tryz.prog W=.ok (.slice ao n cp) W'∧W'.ownsRow b 9 1 (.slice ao n cp) n news∧W.grownBy W' none:=by
 obtain⟨i0,hi0,hz0,hz1,hz2⟩:=info_parts Tryz.info9
 have hl:=hs.newsLen
 cases n with
 | zero =>
   obtain rfl:news=[]:=List.length_eq_zero_iff.1 (by simpa using hl)
   refine⟨_,_,_,run_append_nothing W 35 35 _ 9 i0 Tryz.underlying35 hi0 (some ⟨b,0,none⟩) 0 0 (Nat.le_refl _) _ (by rw[hz1];exact hs),⟨rfl,.inr ⟨b,0,#[],rfl,Nat.le_refl _,hb,Nat.le_refl _,Nat.zero_le _,rfl,rfl⟩⟩,(Frm.refl [] W).grownNone⟩
 | succ n =>
   obtain⟨ad,c,rfl,hc⟩:=hk (Nat.succ_pos n)
   obtain⟨v',w',hrun,r1,r2⟩:=run_append_arg_grows (P:=Tryz.prog) W 35 ty 9 i0 (.string { data:=#[] }) 1 16 Tryz.underlying35 hi0 hz0 hz1 hz2 rfl (by decide) ⟨b,0,none⟩ 0 0 [] (by simp) (fun j u hu=>by simp at hu) ad (n + 1) c news hl hc (by omega) (by unfold maxLen;omega) (by omega)
   rw[Nat.zero_add,List.nil_append] at r1
   obtain⟨ao,cp,rfl⟩:=own_shape r1
   exact⟨ao,cp,w',hrun,own_low r1 (Nat.le_of_lt (lt_of_block hb)),r2⟩
theorem wpList_append_src {ops:Array Oper} {rest:List Oper} {o:Oper} {a:Act} {Q:Exit→Act→World→Prop} {w:World} (hgd:o.guard=none) (s x:Operand) (ho:o.op=.call { callee:=.builtin .append,args:=#[s,x],argTypes:=#[35,35] })
  (b:Nat) (hs:a.eval s=.slice (some ⟨b,0,none⟩) 0 0) (hb:w.heap[b]?=some (.cells #[] 9 (0,0))) (sv:Value) (hx:a.eval x=sv) (n:Nat) (news:List Value) (hsrc:Src Tryz.prog 1 35 sv n news w)
  (hk:0 < n→∃ ad c,sv=.slice (some ad) n c∧∀ j u,news[j]?=some u→w.cell? (ad.add j)=some u) (hn:n≤1000000)
  (h:∀ ao cp w',w'.ownsRow b 9 1 (.slice ao n cp) n news→w.grownBy w' none→wpList Tryz.prog ops Q rest (a.put o.dst (.slice ao n cp)) w'):wpList Tryz.prog ops Q (o :: rest) a w:=by
 refine wpList_plain hgd fun K hK=>?_
 obtain⟨ao,cp,w',hrun,r1,r2⟩:=app_any b w hb sv n news hsrc hk hn
 have hrun':(Builtin.append_ #[35,35] o.type #[.slice (some ⟨b,0,none⟩) 0 0,sv]).run Tryz.prog w=.ok (.slice ao n cp) w':=hrun
 unfold Oper.wp
 simp[execOp,ho,resolve,invoke,builtin,hs,hx,hrun',Result.andThen]
 exact hK _ _ (h ao cp w' r1 r2)
theorem Lf.src {W:World} {ao:Option Addr} {cap:Nat} {L:List ByteArray} (h:Lf W (.slice ao L.length cap) L):Src Tryz.prog 1 35 (.slice ao L.length cap) L.length (L.map Value.string) W:=by
 cases ao with
 | none =>
   obtain⟨ao',cap',hv,hcs⟩:=h.shape
   cases hv
   have e:L=[]:=by
    cases L with
    | nil=>rfl
    | cons x l=>obtain⟨g,hg,-⟩:=hcs 0 x rfl;cases hg
   subst e
   exact Src.ofNil W Tryz.underlying35 cap
 | some ad=>exact Src.ofSlice W Tryz.underlying35 ad L.length cap _ (by simp) (h.cells ad rfl) (by intro u hu;obtain⟨x,-,rfl⟩:=List.mem_map.1 hu;rfl)
theorem Lf.some_addr {W:World} {ao:Option Addr} {cap:Nat} {L:List ByteArray} (h:Lf W (.slice ao L.length cap) L) (hpos:0 < L.length):∃ ad c,Value.slice ao L.length cap=.slice (some ad) L.length c∧∀ j u,(L.map Value.string)[j]?=some u→W.cell? (ad.add j)=some u:=by
 obtain⟨ao',cap',hv,hcs⟩:=h.shape
 cases hv
 cases L with
 | nil=>simp at hpos
 | cons x l =>
   obtain⟨g,rfl,-⟩:=hcs 0 x rfl
   exact⟨_,_,rfl,h.cells _ rfl⟩
theorem Tryz.info190s:(Tryz.prog.info? 190).map (·.size)=some 3:=by kernel_rfl
theorem results_c2 {fn:Func} {p q:Tmp} (h:fn.results=#[.cell p 190,.tmp q]) {tmps:Array Value} {w:World} {g:Nat} {A:Array Value} {t:TypeId} {v:Value} (hp:tmps.getD p undef=.pointer (some ⟨g,0,none⟩)) (hq:tmps.getD q undef=v) (hg:w.heap[g]?=some (.cells A t (0,0))) (hs:A.size=3) :
  (results fn tmps).run Tryz.prog w=.ok (.tuple #[.agg A,v]) w:=by
 have hp':tmps[p]?.getD undef=.pointer (some ⟨g,0,none⟩):=by simpa using hp
 have hq':tmps[q]?.getD undef=v:=by simpa using hq
 simp[results,h,hp',hq',asAddr,run_loadVar_row w g t 190 A (0,0) _ hg Tryz.underlying190 rfl (by rw[Tryz.info190s,hs])]
theorem results_c3 {fn:Func} {p q r:Tmp} (h:fn.results=#[.cell p 190,.tmp q,.tmp r]) {tmps:Array Value} {w:World} {g:Nat} {A:Array Value} {t:TypeId} {v u:Value} (hp:tmps.getD p undef=.pointer (some ⟨g,0,none⟩)) (hq:tmps.getD q undef=v) (hr:tmps.getD r undef=u) (hg:w.heap[g]?=some (.cells A t (0,0))) (hs:A.size=3) :
  (results fn tmps).run Tryz.prog w=.ok (.tuple #[.agg A,v,u]) w:=by
 have hp':tmps[p]?.getD undef=.pointer (some ⟨g,0,none⟩):=by simpa using hp
 have hq':tmps[q]?.getD undef=v:=by simpa using hq
 have hr':tmps[r]?.getD undef=u:=by simpa using hr
 simp[results,h,hp',hq',hr',asAddr,run_loadVar_row w g t 190 A (0,0) _ hg Tryz.underlying190 rfl (by rw[Tryz.info190s,hs])]
def RfTo (w:World) (cls cap:Int) (lv:Value) (L':List ByteArray) (mk:Value→Value) (v:Value) (w':World):Prop:=
 ∃ lv',v=mk (.agg #[.int .i64 cls,.int .i64 cap,lv'])∧Lf w' lv' L'∧Frm [] w w'∧∀ k,lv'.ownBlock=some k→lv.ownBlock=some k∨w.heap.size≤k
theorem RfTo.same {w w':World} {cls cap:Int} {lv:Value} {L:List ByteArray} {mk:Value→Value} (h:Lf w lv L) (hf:Frm [] w w'):RfTo w cls cap lv L mk (mk (.agg #[.int .i64 cls,.int .i64 cap,lv])) w':=
 ⟨lv,rfl,h.frm hf (by simp),hf,fun _ hk=>.inl hk⟩
theorem one3 (a b:Int) (ao:Option Addr) (n c:Nat):(#[.int .i64 a,.int .i64 b,.slice ao n c]:Array Value).all (·.oneCell')=true:=by
 rw[← Array.all_toList];rfl
theorem ref_mid {w0 w1 wa:World} {p q b n:Nat} {A Z:Array Value} {X:Obj} {v1:Value} {xs:List Value} (hp:w0.heap[p]?=some (.cells A 190 (0,0))) (hq:w0.heap[q]?=some (.cells Z 190 (0,0))) (ho1:w1.ownsRow b 9 1 v1 n xs) (hb:w0.heap.size≤b)
  (hg1:(w0.alloc (.cells #[] 9)).grownBy w1 none) (hg2:(w1.alloc X).grownBy wa v1.ownBlock):wa.heap[p]?=some (.cells A 190 (0,0))∧wa.heap[q]?=some (.cells Z 190 (0,0))∧Frm [] w0 wa:=by
 have hl:=lt_of_block hp
 have hl2:=lt_of_block hq
 refine⟨grown_at hg2 (alloc_at (grown_at hg1 (alloc_at hp) (by simp))) (fun e=>?_),grown_at hg2 (alloc_at (grown_at hg1 (alloc_at hq) (by simp))) (fun e=>?_),
  ((((Frm.refl [] w0).alloc _).grown hg1 (by simp)).alloc _).grown hg2 (fun k hk=>.inr (Nat.le_trans hb (ownBlock_ge ho1 hk)))⟩
 ·have:=ownBlock_ge ho1 e;omega
 ·have:=ownBlock_ge ho1 e;omega
theorem ref_end {w w0 wa W2:World} {p q b n:Nat} {cls cap:Int} {lv v' x:Value} {mk:Value→Value} {L':List ByteArray} (h0:Frm [] w w0) (hp0:w.heap.size≤p) (hq0:w.heap.size≤q) (hpb:p < b) (hqb:q < b) (hf:Frm [] w0 wa)
  (hown:wa.ownsRow b 9 1 v' n (L'.map Value.string)) (hn:n=L'.length) (hf2:Frm [q] (wa.setCell ⟨p,2,none⟩ x) W2):RfTo w cls cap lv L' mk (mk (.agg #[.int .i64 cls,.int .i64 cap,v'])) W2:=by
 subst hn
 have hge:=fun k hk=>ownBlock_ge hown (k:=k) hk
 have hs:Strs wa v' L':=Strs.of_own hown
 have f1:Frm [p] wa (wa.setCell ⟨p,2,none⟩ x):=(Frm.refl [p] wa).setCell _ (.inl (by simp)) _
 refine⟨v',rfl,.inl ((hs.frm f1 (fun k hk hm=>?_)).frm hf2 (fun k hk hm=>?_)),?_,fun k hk=>.inr ?_⟩
 ·have:=hge k hk;simp at hm;omega
 ·have:=hge k hk;simp at hm;omega
 ·exact((h0.trans hf).then f1 (by intro y hy;simp at hy;right;omega)).then hf2 (by intro y hy;simp at hy;right;omega)
 ·have:=hge k hk;omega
set_option maxHeartbeats 1000000 in
set_option maxRecDepth 100000 in
theorem refNew_ok (cls cap:Int) (w:World) (h:okC cls cap=true):Calls Tryz.prog 88 #[.int .i64 cls,.int .i64 cap] w (Ret (.tuple #[.agg #[.int .i64 cls,.int .i64 cap,.slice none 0 0],.int .i64 0]) (Frm [] w)):=by
 unfold okC at h
 rw[decide_eq_true_iff] at h
 obtain⟨h1,h2,h3,h4⟩:=h
 have k1:¬ cls < 1:=by omega
 have k2:¬ 3 < cls:=by omega
 have k3:¬ cap < 1:=by omega
 have k4:¬ 64 < cap:=by omega
 go_enter Tryz.func88,Tryz.ntmps88
 go_wp2
 exact bodyPost_ret (results_c2 rfl rfl rfl (heap_alloc_new _ _) rfl) rfl ⟨rfl,(Frm.refl [] w).alloc _⟩
set_option maxHeartbeats 1000000 in
set_option maxRecDepth 100000 in
theorem refPut_any (cls cap:Int) (lv:Value) (L:List ByteArray) (m:ByteArray) (w:World) (h:Lf w lv L) (hL:L.length≤64) :
  Calls Tryz.prog 96 #[.agg #[.int .i64 cls,.int .i64 cap,lv],.string m] w (RetV (RfTo w cls cap lv (putL cap L m) fun a=>.tuple #[a,.int .i64 (putE cap L m)])):=by
 obtain⟨ao,cp,rfl,-⟩:=h.shape
 have HL:=Lib.hid h
 by_cases h1:m.size < 1
 ·have he:putE cap L m=2:=by simp[putE,h1]
  have q1:(m.size:Int) < 1:=by omega
  rw[putL,he,if_neg (by decide)]
  clear h h1 he
  go_enter Tryz.func96,Tryz.ntmps96
  go_wp2_with (first
   | (refine wpList_load_whole rfl 190 _ rfl _ rfl _ 190 (alloc_at (alloc_top (by simp))) _ Tryz.underlying190 rfl Tryz.info190s ?_))
  exact bodyPost_ret (results_c2 rfl rfl rfl (alloc_top (by simp)) rfl) rfl ⟨_,rfl,RfTo.same HL.out (((Frm.refl [] w).alloc _).alloc _)⟩
 ·by_cases h2:32 < m.size
  ·have he:putE cap L m=2:=by simp[putE,h2]
   have q1:¬ (m.size:Int) < 1:=by omega
   have q2:(32:Int) < (m.size:Int):=by omega
   rw[putL,he,if_neg (by decide)]
   clear h h1 h2 he
   go_enter Tryz.func96,Tryz.ntmps96
   go_wp2_with (first
    | (refine wpList_load_whole rfl 190 _ rfl _ rfl _ 190 (alloc_at (alloc_top (by simp))) _ Tryz.underlying190 rfl Tryz.info190s ?_))
   exact bodyPost_ret (results_c2 rfl rfl rfl (alloc_top (by simp)) rfl) rfl ⟨_,rfl,RfTo.same HL.out (((Frm.refl [] w).alloc _).alloc _)⟩
  ·by_cases h3:(L.length:Int)=cap
   ·have he:putE cap L m=7:=by rw[putE,if_neg (by omega),if_pos h3]
    have q1:¬ (m.size:Int) < 1:=by omega
    have q2:¬ (32:Int) < (m.size:Int):=by omega
    have q3:((L.length:Int) == cap)=true:=by simpa using h3
    rw[putL,he,if_neg (by decide)]
    clear h h1 h2 h3 he
    go_enter Tryz.func96,Tryz.ntmps96
    go_wp2_with (first
     | (refine wpList_load_whole rfl 190 _ rfl _ rfl _ 190 (alloc_at (alloc_top (by simp))) _ Tryz.underlying190 rfl Tryz.info190s ?_))
    exact bodyPost_ret (results_c2 rfl rfl rfl (alloc_top (by simp)) rfl) rfl ⟨_,rfl,RfTo.same HL.out (((Frm.refl [] w).alloc _).alloc _)⟩
   ·have he:putE cap L m=0:=by rw[putE,if_neg (by omega),if_neg h3]
    have q1:¬ (m.size:Int) < 1:=by omega
    have q2:¬ (32:Int) < (m.size:Int):=by omega
    have q3:((L.length:Int) == cap)=false:=by simpa using h3
    rw[putL,he,if_pos rfl]
    clear h h1 h2 h3 he
    obtain⟨i0,hi0,hz0,hz1,hz2⟩:=info_parts Tryz.info9
    go_enter Tryz.func96,Tryz.ntmps96
    go_wp2_with (first
     | (at_builtin;refine wpList_append_src rfl _ _ rfl _ rfl (alloc_top (by simp)) _ rfl L.length _ (HL.out.frm ((((Frm.refl [] w).alloc _).alloc _).alloc _) (by simp)).src (HL.out.frm ((((Frm.refl [] w).alloc _).alloc _).alloc _) (by simp)).some_addr (by omega) ?_;intro ao1 cp1 w1 ho1 hg1;have HO1:=Lib.hid ho1;have HG1:=Lib.hid hg1;clear ho1 hg1)
     | (at_builtin;refine wpList_append_own_at _ rfl _ _ 35 rfl (w.heap.size + 1 + 1) 9 i0 (.string { data:=#[] }) 1 16 Tryz.underlying35 hi0 hz0 hz1 hz2 rfl (by decide) _ _ _ rfl (HO1.out.alloc _) ⟨w1.heap.size,0,none⟩ 1 1 [.string m] rfl rfl (cell_one_new _ _ _) (by simp[Value.oneCell']) (by unfold maxLen;omega) (by omega) (by have:=HG1.out.size;simp at this ⊢;omega) ?_;intro v' wa hown' hgrow hnil hloc;obtain⟨ao2,cp2,rfl⟩:=own_shape hown';have HO2:=Lib.hid hown';have hm:=ref_mid (p:=w.heap.size) (q:=w.heap.size + 1) (alloc_at (alloc_top (by simp))) (alloc_top (by simp)) HO1.out (by simp) HG1.out hgrow;have HM:=Lib.hid hm;have ca:=cell_of hm.1;have fa:=free_of hm.1 2;have ca2:=ca 2;have HB:=Lib.hid (block_setCell hm.1 2 (.slice ao2 (L.length + 1) cp2));have HZ:Hid ((wa.setCell ⟨w.heap.size,2,none⟩ (.slice ao2 (L.length + 1) cp2)).heap[w.heap.size + 1]?=some (.cells #[.int .i64 0,.int .i64 0,.slice none 0 0] 190 (0,0))):=Lib.hid (setCell_at hm.2.1 (by simp) _);clear ca hm hown' hgrow hnil hloc)
     | (refine wpList_load_whole rfl 190 _ rfl _ rfl _ 190 HB.out _ Tryz.underlying190 rfl Tryz.info190s ?_)
     | (refine wpList_store_row rfl 190 _ _ rfl _ _ _ 190 rfl rfl HZ.out rfl Tryz.info190s (one3 _ _ _ _ _) ?_;intro w2 hb2 hf2))
    exact bodyPost_ret (results_c2 rfl rfl rfl hb2 rfl) rfl ⟨_,rfl,ref_end (p:=w.heap.size) (q:=w.heap.size + 1) (b:=w.heap.size + 1 + 1) (L':=L ++ [m]) ((((Frm.refl [] w).alloc _).alloc _)) (Nat.le_refl _) (by omega) (by omega) (by omega) HM.out.2.2 (by simpa using HO2.out) (by simp) hf2⟩
end Go.Proofs.YtemjlpahohmajaaGreat
namespace Go.Proofs.YtemjlpahohmajaaGreat
open Go.RowKit Go.BigFrame
def Ints (w:World) (v:Value) (l:List Nat):Prop:=w.ownsRow 0 3 1 v l.length (l.map fun k:Nat=>Value.int .i64 (k:Int))
theorem Tryz.info3:(Tryz.prog.info? 3).map (fun i=>(i.zero,i.size,i.bytes))=some (some (.int .i64 0),1,8):=by kernel_rfl
def CI (w:World) (A:Array Value) (cls:Int) (L:List ByteArray) (i:Nat) (v:Value) (wr:World):Prop:=
 wr.heap[w.heap.size]?=some (.cells A 190 (0,0))∧wr.ownsRow (w.heap.size + 1) 3 1 v (chp cls L i).length ((chp cls L i).map fun k:Nat=>Value.int .i64 (k:Int))∧Frm [] w wr
theorem CI.add {w wr wa:World} {A:Array Value} {cls:Int} {L:List ByteArray} {i n:Nat} {v v':Value} {X:Obj} (h:CI w A cls L i v wr) (e:chp cls L (i + 1)=chp cls L i ++ [i])
  (hown:wa.ownsRow (w.heap.size + 1) 3 1 v' (n + 1) ((chp cls L i).map (fun k:Nat=>Value.int .i64 (k:Int)) ++ [.int .i64 (i:Int)])) (hg:(wr.alloc X).grownBy wa v.ownBlock):CI w A cls L (i + 1) v' wa:=by
 have hn:n + 1=(chp cls L i).length + 1:=by have:=hown.1;simpa using this.symm
 refine⟨grown_at hg (alloc_at h.1) (fun e2=>?_),?_,((h.2.2.alloc _).grown hg fun k hk=>.inr ?_)⟩
 ·have:=ownBlock_ge h.2.1 e2;omega
 ·rw[e,List.length_append,List.length_cons,List.length_nil,List.map_append,← hn]
  exact hown
 ·have:=ownBlock_ge h.2.1 hk;omega
theorem CI.frm {w wr wx:World} {A:Array Value} {cls:Int} {L:List ByteArray} {i:Nat} {v:Value} (h:CI w A cls L i v wr) (hf:Frm [] wr wx):CI w A cls L i v wx:=⟨hf.at h.1 (by simp),hf.owns h.2.1 (by simp),h.2.2.trans hf⟩
set_option maxHeartbeats 2000000 in
set_option maxRecDepth 100000 in
theorem refChoices_any (cls cap:Int) (lv:Value) (L:List ByteArray) (w:World) (h:Lf w lv L) (hL:L.length≤64) :
  Calls Tryz.prog 146 #[.agg #[.int .i64 cls,.int .i64 cap,lv]] w (RetV fun v w'=>Ints w' v (chp cls L L.length)∧Frm [] w w'∧∀ k,v.ownBlock=some k→w.heap.size≤k):=by
 obtain⟨ao,cp,rfl,hcs⟩:=h.shape
 have HC:Hid (∀ wr,Frm [] w wr→∀ k x,L[k]?=some x→∃ g,ao=some ⟨g,0,none⟩∧wr.cell? ⟨g,k,none⟩=some (.string x)):=Lib.hid fun wr hf k x hk=>by
  obtain⟨g,h1,h2⟩:=hcs k x hk
  exact⟨g,h1,hf.keep h2⟩
 clear h hcs
 obtain⟨i0,hi0,hz0,hz1,hz2⟩:=info_parts Tryz.info3
 have HS:Hid (CI w #[.int .i64 cls,.int .i64 cap,.slice ao L.length cp] cls L 0 (.slice none 0 0) (w.alloc (.cells #[.int .i64 cls,.int .i64 cap,.slice ao L.length cp] 190))):=Lib.hid ⟨alloc_top rfl,World.ownsRow_nil _ _ _ _,(Frm.refl [] w).alloc _⟩
 go_enter Tryz.func146,Tryz.ntmps146
 go_wp2
 go_loopw [3,4] (fun s3 s4 wr=>∃ i:Nat,s4=.int .i64 i∧i≤L.length∧CI w #[.int .i64 cls,.int .i64 cap,.slice ao L.length cp] cls L i s3 wr) (fun _ s4 _=>L.length - (intOf s4).toNat)
 case atStart=>exact⟨0,rfl,Nat.zero_le _,HS.out⟩
 case round =>
  clear HS
  obtain⟨i,rfl,hi,hb,ho,hf⟩:=hrel
  have c0:=cell_of hb 0
  have c2:=cell_of hb 2
  have HB:=Lib.hid hb;have HO:=Lib.hid ho;have HF:=Lib.hid hf
  obtain⟨ao3,c3,rfl⟩:=own_shape ho
  have hlen:(chp cls L i).length≤i:=chp_length cls L i
  clear hb ho hf
  by_cases hlt:i < L.length
  ·have hlt':(i:Int) < (L.length:Int):=by omega
   by_cases h2:cls=2
   ·have b2:(cls == 2)=true:=by simpa using h2
    have H2:=Lib.hid h2
    clear h2
    have HC1:=Lib.hid (HC.out _ HF.out)
    obtain⟨y,hy⟩:∃ y,L[i]?=some y:=⟨_,List.getElem?_eq_getElem hlt⟩
    obtain⟨g,rfl,ci⟩:=HC1.out i y hy
    have HY:Hid (L.getD i ByteArray.empty=y):=Lib.hid (by rw[List.getD_eq_getElem?_getD,hy];rfl)
    clear hy
    obtain⟨wo,rfl⟩:∃ wo,wo=wr:=⟨_,rfl⟩
    go_wp2
    go_loopw [5,6] (fun s5 s6 wx=>∃ k:Nat,s6=.int .i64 k∧k≤i∧s5=.bool (nf L i k)∧Frm [] wo wx) (fun _ s6 _=>i - (intOf s6).toNat)
    case atStart=>exact⟨0,rfl,Nat.zero_le _,rfl,Frm.refl _ _⟩
    case round =>
     obtain⟨k,rfl,hk,rfl,hfx⟩:=hrel
     have HX:=Lib.hid hfx
     have c0:=hfx.keep c0
     have c2:=hfx.keep c2
     have ci:=hfx.keep ci
     by_cases hki:k < i
     ·have hki':(k:Int) < (i:Int):=by omega
      obtain⟨x,hx⟩:∃ x,L[k]?=some x:=⟨_,List.getElem?_eq_getElem (by omega)⟩
      obtain⟨g',hg',ck⟩:=HC1.out k x hx
      cases hg'
      have ck:=hfx.keep ck
      clear hfx
      have hkl:(k:Int) < (L.length:Int):=by omega
      have hnx:nf L i (k + 1)=(nf L i k && !decide (x=y)):=by
       rw[nf,HY.out,List.getD_eq_getElem?_getD,hx];rfl
      have hbe:=str_beq x y
      clear hx
      cases hnf:nf L i k with
      | true =>
        rw[hnf] at hnx
        go_wp2
        go_quiet (fail)
        go_wp2
        exact⟨⟨k + 1,by simp,hki,by rw[hnx];simp,HX.out.drewN _⟩,by simp[intOf];omega⟩
      | false =>
        rw[hnf] at hnx
        go_wp2
        go_quiet (fail)
        go_wp2
        exact⟨⟨k + 1,by simp,hki,by rw[hnx];simp,HX.out.drewN _⟩,by simp[intOf];omega⟩
     ·obtain rfl:k=i:=by omega
      clear hfx
      have hcn:chc cls L k=nf L k k:=by rw[H2.out];exact chc_two hlt
      have hkk:¬ (k:Int) < (k:Int):=by omega
      by_cases hcc:chc cls L k=true
      ·have e:chp cls L (k + 1)=chp cls L k ++ [k]:=by rw[chp_succ,if_pos hcc]
       have hnt:nf L k k=true:=by rw[← hcn];exact hcc
       rw[hnt]
       go_wp2_with (first
        | (at_builtin;go_must (refine wpList_append_own_at _ rfl _ _ 36 rfl (w.heap.size + 1) 3 i0 (.int .i64 0) 1 8 Tryz.underlying36 hi0 hz0 hz1 hz2 rfl (by decide) _ _ _ rfl ((HX.out.owns HO.out (by simp)).alloc _) ⟨wr.heap.size,0,none⟩ 1 1 [.int .i64 (k:Int)] rfl rfl (cell_one_new _ _ _) (by simp[Value.oneCell']) (by unfold maxLen;omega) (by omega) (by have:=HF.out.size;have:=HX.out.size;have:=lt_of_block HB.out;simp;omega) ?_);intro v' wa hown' hgrow hnil hloc;have HE:=Lib.hid (CI.add (CI.frm ⟨HB.out,HO.out,HF.out⟩ HX.out) e hown' hgrow);clear hown' hgrow hnil hloc))
       exact⟨⟨k + 1,by simp,by omega,HE.out⟩,by simp[intOf];omega⟩
      ·have e:chp cls L (k + 1)=chp cls L k:=by rw[chp_succ,if_neg hcc]
       have hnt:nf L k k=false:=by rw[← hcn];simpa using hcc
       rw[hnt]
       go_wp2
       exact⟨⟨k + 1,by simp,by omega,by have hci:=CI.frm ⟨HB.out,HO.out,HF.out⟩ HX.out;unfold CI at hci ⊢;rw[e];exact hci⟩,by simp[intOf];omega⟩
   ·have b2:(cls == 2)=false:=by simpa using h2
    have hch:chc cls L i=((i:Int) == 0):=by unfold chc;rw[if_neg h2]
    by_cases hcc:chc cls L i=true
    ·have e:chp cls L (i + 1)=chp cls L i ++ [i]:=by rw[chp_succ,if_pos hcc]
     have hz:((i:Int) == 0)=true:=by rw[← hch];exact hcc
     go_wp2_with (first
      | (at_builtin;refine wpList_append_own_at _ rfl _ _ 36 rfl (w.heap.size + 1) 3 i0 (.int .i64 0) 1 8 Tryz.underlying36 hi0 hz0 hz1 hz2 rfl (by decide) _ _ _ rfl (HO.out.alloc _) ⟨wr.heap.size,0,none⟩ 1 1 [.int .i64 (i:Int)] rfl rfl (cell_one_new _ _ _) (by simp[Value.oneCell']) (by unfold maxLen;omega) (by omega) (by have:=HF.out.size;have:=lt_of_block HB.out;simp;omega) ?_;intro v' wa hown' hgrow hnil hloc;have HE:=Lib.hid (CI.add ⟨HB.out,HO.out,HF.out⟩ e hown' hgrow);clear hown' hgrow hnil hloc))
     exact⟨⟨i + 1,by simp,by omega,HE.out⟩,by simp[intOf];omega⟩
    ·have e:chp cls L (i + 1)=chp cls L i:=by rw[chp_succ,if_neg hcc]
     have hz:((i:Int) == 0)=false:=by rw[← hch];simpa using hcc
     go_wp2
     exact⟨⟨i + 1,by simp,by omega,HB.out,by rw[e];exact HO.out,HF.out⟩,by simp[intOf];omega⟩
  ·obtain rfl:i=L.length:=by omega
   have hlt':¬ (L.length:Int) < (L.length:Int):=by omega
   go_wp2
   go_ret
   exact⟨_,rfl,by simpa[Ints] using own_low HO.out (Nat.zero_le _),HF.out,fun k hk=>by have:=ownBlock_ge HO.out hk;omega⟩
end Go.Proofs.YtemjlpahohmajaaGreat
namespace Go.Proofs.YtemjlpahohmajaaGreat
open Go.RowKit
def isBook:Obj→Bool | .loop _=>true | .deferred _=>true | _=>false
structure Bk (B:Nat) (w w':World):Prop where
 os:w'.os=w.os
 tape:w'.tape=w.tape
 output:w'.output=w.output
 size:w.heap.size≤w'.heap.size
 block:∀ k o,w.heap[k]?=some o→k < B∨isBook o=false→w'.heap[k]?=some o
def books (w:World):List Nat:=(List.range w.heap.size).filter fun k=>(w.heap[k]?).any isBook
theorem mem_books {w:World} {k:Nat}:k∈books w↔∃ o,w.heap[k]?=some o∧isBook o=true:=by
 unfold books
 rw[List.mem_filter,List.mem_range]
 constructor
 ·rintro⟨hk,h⟩
  rw[Array.getElem?_eq_getElem hk] at h ⊢
  exact⟨_,rfl,by simpa using h⟩
 ·rintro⟨o,ho,hb⟩
  exact⟨lt_of_block ho,by simp[ho,hb]⟩
theorem not_books {w:World} {k:Nat} {o:Obj} (h:w.heap[k]?=some o) (hb:isBook o=false):k∉books w:=fun hk=>by
 obtain⟨o',ho,h1⟩:=mem_books.1 hk
 rw[h] at ho;cases ho;rw[hb] at h1;cases h1
section
variable {B:Nat} {w w' w2:World}
theorem Bk.frm (h:Bk B w w'):Frm (books w) w w':=⟨h.os,h.tape,h.output,h.size,fun k hk hn=>by
 have ho:w.heap[k]?=some (w.heap[k]):=Array.getElem?_eq_getElem hk
 rw[ho]
 refine h.block k _ ho (.inr ?_)
 cases hb:isBook w.heap[k] with
 | false=>rfl
 | true=>exact absurd (mem_books.2 ⟨_,ho,hb⟩) hn⟩
theorem Bk.old {w0:World} (h:Bk B w w') (h0:Frm [] w0 w) (hB:w0.heap.size≤B):Frm [] w0 w':=
 ⟨h.os.trans h0.os,h.tape.trans h0.tape,h.output.trans h0.output,Nat.le_trans h0.size h.size,fun k hk _=>by
  have e:=h0.block k hk (by simp)
  have hk':w0.heap[k]?=some (w0.heap[k]):=Array.getElem?_eq_getElem hk
  rw[hk'] at e ⊢
  exact h.block k _ e (.inl (by omega))⟩
theorem Bk.at {k:Nat} {o:Obj} (h:Bk B w w') (hk:w.heap[k]?=some o) (hb:isBook o=false):w'.heap[k]?=some o:=h.block k o hk (.inr hb)
theorem Frm.bk (h:Frm [] w w') (B:Nat):Bk B w w':=⟨h.os,h.tape,h.output,h.size,fun _ _ hk _=>h.at hk (by simp)⟩
theorem Bk.putObj (w:World) {l:Nat} {o:Obj} (o':Obj) (hl:w.heap[l]?=some o) (ho:isBook o=true) (hB:B≤l):Bk B w (w.putObj l o'):=
 ⟨rfl,rfl,rfl,by simp[World.putObj],fun k o1 hk h1=>by
  have hne:k≠l:=by
   rintro rfl
   rw[hl] at hk;cases hk
   rcases h1 with h1 | h1
   ·omega
   ·rw[ho] at h1;cases h1
  rw[World.putObj_heap_other hne];exact hk⟩
def KB (w w':World):Prop:=∀ (k:Nat) (o:Obj),w.heap[k]?=some o→isBook o=true→w'.heap[k]?=some o
theorem KB.refl (w:World):KB w w:=fun _ _ h _=>h
theorem KB.trans (h:KB w w') (k:KB w' w2):KB w w2:=fun i o hi ho=>k i o (h i o hi ho) ho
theorem KB.frm {F:List Nat} (h:Frm F w w') (hF:∀ x∈F,x∉books w):KB w w':=fun k o hk ho=>h.at hk (fun hx=>hF k hx (mem_books.2 ⟨o,hk,ho⟩))
theorem KB.frm0 (h:Frm [] w w'):KB w w':=KB.frm h (by simp)
end
def Iter {α:Type} (F:Fence) (n:Nat) (P:Program) (g:Nat) (lb:Array Value) (encs:α→Array Value) (R:World→Prop) (xs:List α):Prop:=
 ∀ (l:Nat) (J Jx:List α→World→Prop),
   (∀ pre W W',J pre W→Frm [] W W'→J pre W')→(∀ pre W W',Jx pre W→Frm [] W W'→Jx pre W')→(∀ pre W,J pre W→R W) →
   (∀ pre x rest W,xs=pre ++ x :: rest→J pre W→YieldAt F (n - 1) P l (encs x) W fun e W' =>
    (e=.returned (.bool true)∧J (pre ++ [x]) W')∨(e=.returned (.bool false)∧Jx (pre ++ [x]) W')) →
   ∀ W,J [] W→CallsIn F n P g (#[.func (.yield l) #[] #[]] ++ lb) W fun e W'=>(∃ v,e=.returned v)∧(J xs W'∨∃ pre x rest,xs=pre ++ x :: rest∧Jx (pre ++ [x]) W')
def roundEnd {α:Type} (I:List α→World→Prop) (Ix:Code→List α→World→Prop) (s:List α) (W:World):Exit→Act→World→Prop
 | .normal,_,W'=>KB W W'∧I s W'
 | .ret,_,W'=>KB W W'∧Ix .ret s W'
 | .exit id,_,W'=>KB W W'∧Ix (.exit id) s W'
 | .goto t,_,W'=>KB W W'∧Ix (.goto t) s W'
 | .panic _,_,_=>False
 | .outgrown,_,_=>False
variable {F:Fence} {n:Nat} {P:Program}
theorem wpIn_rangeList {α:Type} {g:Operand} {ps:Array Tmp} {assign body:Code} {Q:Exit→Act→World→Prop} {a:Act} {w:World}
  (hro:F.round=none) (h1:1≤n) {gf:Nat} {lb:Array Value} (hg:a.eval g=.func (.func gf) #[] lb) (hFg:F.fn gf) (eg:∀ args w,(callFunc gf args).run P w=.ok (.enter gf args) w)
  {encs:α→Array Value} {R:World→Prop} {xs:List α} (hit:Iter F (n - 1) P gf lb encs R xs) (hps:∀ x,(encs x).size=ps.size)
  (I:List α→World→Prop) (Ix:Code→List α→World→Prop) (sI:∀ s W W',I s W→Bk w.heap.size W W'→I s W') (sIx:∀ c s W W',Ix c s W→Bk w.heap.size W W'→Ix c s W')
  (hR:∀ s W,I s W→R W) (h0:I [] w)
  (hround:∀ (l:Nat) (pre:List α) (x:α) (rest:List α) (W:World),xs=pre ++ x :: rest→I pre W→w.heap.size≤l→(∃ r,W.heap[l]?=some (.loop r)) →
   assign.wpIn (F.inRound l) (n - 1 - 1) P (Exit.then (fun a' W'=>KB W W'∧∀ W2,Bk w.heap.size W' W2→(∃ r,W2.heap[l]?=some (.loop r))→body.wpIn (F.inRound l) (n - 1 - 1) P (roundEnd I Ix (pre ++ [x]) W2) a' W2) (fun _ _ _=>False))
    { tmps:=(ps.zip (encs x)).foldl (fun t (p,v)=>t.setIfInBounds p v) a.tmps,defers:=[] } W)
  (hdone:∀ (D:Nat) (W:World),w.heap.size≤D→I xs W→W.heap[D]?=some (.deferred (some []))→Q .normal { a with defers:={ target:=.collected D,args:=#[] } :: a.defers } W)
  (hstop:∀ (D:Nat) (c:Code) (pre:List α) (x:α) (rest:List α) (W:World),xs=pre ++ x :: rest→w.heap.size≤D→Ix c (pre ++ [x]) W→W.heap[D]?=some (.deferred (some []))→c.wpIn F n P Q { a with defers:={ target:=.collected D,args:=#[] } :: a.defers } W) :
  (Code.rangeFunc g ps assign body).wpIn F n P Q a w:=by
 refine wpIn_rangeFunc ?_
 intro fn hfn
 rw[hro]
 obtain⟨rec,hrec⟩:∃ rec:LoopState→Option Code→Loop,rec=fun st pe=>{ state:=st,pending:=pe,fn,tmps:=a.tmps,params:=ps,assign,body,defers:=w.heap.size }:=⟨_,rfl⟩
 obtain⟨W1,hW1⟩:∃ W1,(w.alloc (.deferred (some []))).alloc (.loop (rec .ready none))=W1:=⟨_,rfl⟩
 have hL1:W1.heap[w.heap.size + 1]?=some (.loop (rec .ready none)):=by
  rw[← hW1];have:=World.alloc_heap_new (w.alloc (.deferred (some []))) (.loop (rec .ready none));rwa [World.size_alloc] at this
 have hK1:W1.heap[w.heap.size]?=some (.deferred (some [])):=by
  rw[← hW1];exact(Below.heap_alloc _ _ _ (by simp)).trans (World.alloc_heap_new w _)
 have hF1:Frm [] w W1:=by rw[← hW1];exact((Frm.refl _ _).alloc _).alloc _
 have hI1:I [] W1:=sI _ _ _ h0 (hF1.bk _)
 refine⟨w.heap.size + 1,[{ target:=.collected w.heap.size,args:=#[] }],W1,{ target:=.fn (.func gf) lb,args:=#[.func (.yield (w.heap.size + 1)) #[] #[]] },W1,gf,
  #[.func (.yield (w.heap.size + 1)) #[] #[]] ++ lb,W1,?_,?_,?_,?_,fun _=>h1,?_⟩
 ·rw[← hW1,hrec];exact run_enterLoop_outer _ _ _ _ _
 ·simp only[resolve,hg]
  simp[go_sem]
 ·intro f' hf';simp[Target.leads] at hf';subst hf';exact hFg
 ·simp[invoke,go_sem,eg]
 ·refine(hit (w.heap.size + 1)
   (fun pre W=>I pre W∧W.heap[w.heap.size + 1]?=some (.loop (rec .ready none))∧W.heap[w.heap.size]?=some (.deferred (some [])))
   (fun pre W=>∃ c,Ix c pre W∧W.heap[w.heap.size + 1]?=some (.loop (rec .done (some c)))∧W.heap[w.heap.size]?=some (.deferred (some [])))
   (fun pre W W' hJ hf=>⟨sI _ _ _ hJ.1 (hf.bk _),hf.at hJ.2.1 (by simp),hf.at hJ.2.2 (by simp)⟩)
   (fun pre W W' ⟨c,hJ⟩ hf=>⟨c,sIx _ _ _ _ hJ.1 (hf.bk _),hf.at hJ.2.1 (by simp),hf.at hJ.2.2 (by simp)⟩)
   (fun pre W hJ=>hR _ _ hJ.1) ?_ W1 ⟨hI1,hL1,hK1⟩).mono ?_
  ·rintro pre x rest W hxs ⟨hi,hl,hk⟩
   have hy:=run_yield (P:=P) (args:=encs x) hl (by rw[hrec];exact hps x)
   rw[hrec] at hy
   refine⟨fn,_,assign,body,hy,roundIn_of_wpIn hfn (wpIn_mono (hround (w.heap.size + 1) pre x rest W hxs hi (by omega) ⟨_,hl⟩) ?_)⟩
   intro e a' W' hp
   cases e with
   | normal =>
     obtain⟨hkb,hb⟩:=hp
     have hl':=hkb _ _ hl rfl
     have hk':=hkb _ _ hk rfl
     have hlt:w.heap.size + 1 < W'.heap.size:=lt_of_block hl'
     refine⟨_,run_beginRound hl' (by rw[hrec]),?_⟩
     have hl2:(W'.putObj (w.heap.size + 1) (.loop { rec .ready none with state:=.busy })).heap[w.heap.size + 1]?=some (.loop { rec .ready none with state:=.busy }):=World.putObj_heap_same hlt
     have hk2:(W'.putObj (w.heap.size + 1) (.loop { rec .ready none with state:=.busy })).heap[w.heap.size]?=some (.deferred (some [])):=(World.putObj_heap_other (by omega)).trans hk'
     refine wpIn_mono (hb _ (Bk.putObj W' _ hl' rfl (by omega)) ⟨_,hl2⟩) ?_
     have fin:∀ (jump:Option Code) (W3:World),KB (W'.putObj (w.heap.size + 1) (.loop { rec .ready none with state:=.busy })) W3 →
       (Instr.endRound (w.heap.size + 1) jump).run P W3=.ok (.bool jump.isNone) (W3.putObj (w.heap.size + 1) (.loop (rec (if jump.isNone then .ready else .done) jump))) ∧
       Bk w.heap.size W3 (W3.putObj (w.heap.size + 1) (.loop (rec (if jump.isNone then .ready else .done) jump))) ∧
       (W3.putObj (w.heap.size + 1) (.loop (rec (if jump.isNone then .ready else .done) jump))).heap[w.heap.size + 1]?=some (.loop (rec (if jump.isNone then .ready else .done) jump)) ∧
       (W3.putObj (w.heap.size + 1) (.loop (rec (if jump.isNone then .ready else .done) jump))).heap[w.heap.size]?=some (.deferred (some [])):=fun jump W3 hk3=>by
      have hl3:=hk3 _ _ hl2 rfl
      have:=run_endRound (P:=P) jump hl3
      rw[hrec] at this ⊢
      exact⟨this,Bk.putObj W3 _ hl3 rfl (by omega),World.putObj_heap_same (lt_of_block hl3),(World.putObj_heap_other (by omega)).trans (hk3 _ _ hk2 rfl)⟩
     rintro e a3 W3 hp
     cases e with
     | normal =>
       obtain⟨hk3,hi3⟩:=hp
       obtain⟨hr,hb3,hl4,hk4⟩:=fin none W3 hk3
       exact⟨_,_,hr,.inl ⟨rfl,sI _ _ _ hi3 hb3,hl4,hk4⟩⟩
     | ret =>
       obtain⟨hk3,hi3⟩:=hp
       obtain⟨hr,hb3,hl4,hk4⟩:=fin (some .ret) W3 hk3
       exact⟨_,_,hr,.inr ⟨rfl,.ret,sIx _ _ _ _ hi3 hb3,hl4,hk4⟩⟩
     | exit id =>
       obtain⟨hk3,hi3⟩:=hp
       obtain⟨hr,hb3,hl4,hk4⟩:=fin (some (.exit id)) W3 hk3
       exact⟨_,_,hr,.inr ⟨rfl,.exit id,sIx _ _ _ _ hi3 hb3,hl4,hk4⟩⟩
     | goto t =>
       obtain⟨hk3,hi3⟩:=hp
       obtain⟨hr,hb3,hl4,hk4⟩:=fin (some (.goto t)) W3 hk3
       exact⟨_,_,hr,.inr ⟨rfl,.goto t,sIx _ _ _ _ hi3 hb3,hl4,hk4⟩⟩
     | panic ch=>exact hp.elim
     | outgrown=>exact hp.elim
   | ret=>exact hp.elim
   | exit id=>exact hp.elim
   | goto t=>exact hp.elim
   | panic ch=>exact hp.elim
   | outgrown=>exact hp.elim
  ·rintro e W2 ⟨⟨v,rfl⟩,(⟨hi,hl,hk⟩ | ⟨pre,x,rest,hxs,c,hi,hl,hk⟩)⟩
   ·exact⟨none,_,by have:=run_endLoop (P:=P) hl (by rw[hrec];simp);rw[hrec] at this;exact this,hdone _ _ (Nat.le_refl _) (sI _ _ _ hi (by rw[hrec] at hl;exact Bk.putObj W2 _ hl rfl (by omega))) ((World.putObj_heap_other (by omega)).trans hk)⟩
   ·exact⟨some c,_,by have:=run_endLoop (P:=P) hl (by rw[hrec];simp);rw[hrec] at this;exact this,hstop _ c pre x rest _ hxs (Nat.le_refl _) (sIx _ _ _ _ hi (by rw[hrec] at hl;exact Bk.putObj W2 _ hl rfl (by omega))) ((World.putObj_heap_other (by omega)).trans hk)⟩
theorem wp_rangeList {α:Type} {g:Operand} {ps:Array Tmp} {assign body:Code} {Q:Exit→Act→World→Prop} {a:Act} {w:World}
  {gf:Nat} {lb:Array Value} (hg:a.eval g=.func (.func gf) #[] lb) (eg:∀ args w,(callFunc gf args).run P w=.ok (.enter gf args) w)
  {encs:α→Array Value} {R:World→Prop} {xs:List α} (hit:Iter Fence.wide 2 P gf lb encs R xs) (hps:∀ x,(encs x).size=ps.size)
  (I:List α→World→Prop) (Ix:Code→List α→World→Prop) (sI:∀ s W W',I s W→Bk w.heap.size W W'→I s W') (sIx:∀ c s W W',Ix c s W→Bk w.heap.size W W'→Ix c s W')
  (hR:∀ s W,I s W→R W) (h0:I [] w)
  (hround:∀ (l:Nat) (pre:List α) (x:α) (rest:List α) (W:World),xs=pre ++ x :: rest→I pre W→w.heap.size≤l→(∃ r,W.heap[l]?=some (.loop r)) →
   assign.wpIn (Fence.wide.inRound l) 1 P (Exit.then (fun a' W'=>KB W W'∧∀ W2,Bk w.heap.size W' W2→(∃ r,W2.heap[l]?=some (.loop r))→body.wpIn (Fence.wide.inRound l) 1 P (roundEnd I Ix (pre ++ [x]) W2) a' W2) (fun _ _ _=>False))
    { tmps:=(ps.zip (encs x)).foldl (fun t (p,v)=>t.setIfInBounds p v) a.tmps,defers:=[] } W)
  (hdone:∀ (D:Nat) (W:World),w.heap.size≤D→I xs W→W.heap[D]?=some (.deferred (some []))→Q .normal { a with defers:={ target:=.collected D,args:=#[] } :: a.defers } W)
  (hstop:∀ (D:Nat) (c:Code) (pre:List α) (x:α) (rest:List α) (W:World),xs=pre ++ x :: rest→w.heap.size≤D→Ix c (pre ++ [x]) W→W.heap[D]?=some (.deferred (some []))→c.wp P Q { a with defers:={ target:=.collected D,args:=#[] } :: a.defers } W) :
  (Code.rangeFunc g ps assign body).wp P Q a w:=
 wpIn_wide.1 (wpIn_rangeList (F:=Fence.wide) (n:=3) rfl (by omega) hg trivial eg hit hps I Ix sI sIx hR h0 hround hdone (fun D c pre x rest W h1 h2 h3 h4=>wpIn_wide.2 (hstop D c pre x rest W h1 h2 h3 h4)))
theorem calls_of_marks {f:FuncId} {fn:Func} {c:Code} {args:Array Value} {w:World} {R:Ending→World→Prop} (hf:P.funcs[f]?=some fn) (hb:fn.body=some c)
  (h:c.wp P (bodyPostM Fence.wide 3 P fn R) { tmps:=args ++ Array.replicate (fn.ntmps - args.size) undef,defers:=[] } w):Calls P f args w R:=
 callsIn_wide.1 (callsIn_of_wp_marks hf hb trivial (wpIn_wide.2 h) rfl)
theorem Frm.putObj (w:World) (l:Nat) (o:Obj):Frm [l] w (w.putObj l o):=
 ⟨rfl,rfl,rfl,by simp[World.putObj],fun k _ hn=>World.putObj_heap_other (by simpa using hn)⟩
theorem run_equalIn_func (w:World) (d:Nat) (t:TypeId) (ps rs:Array TypeId) (v:Bool) (f:Nat) (lb:Array Value) (hu:P.underlying t=some (.func ps rs v)) :
  (Op.equalIn (d + 1) t (.func (.func f) #[] lb) .nilFunc).run P w=.ok false w:=by
 simp[Op.equalIn,run_underlying hu]
theorem run_eql_func (w:World) (t:TypeId) (ps rs:Array TypeId) (v:Bool) (f:Nat) (lb:Array Value) (hu:P.underlying t=some (.func ps rs v)) :
  (binOp .eql t (.func (.func f) #[] lb) .nilFunc).run P w=.ok (.bool false) w:=by
 simp only[binOp]
 simp[show Op.equal t (.func (.func f) #[] lb) .nilFunc=Op.equalIn (9999 + 1) t (.func (.func f) #[] lb) .nilFunc from rfl,run_equalIn_func w 9999 t ps rs v f lb hu]
end Go.Proofs.YtemjlpahohmajaaGreat
namespace Go.Proofs.YtemjlpahohmajaaGreat
open Go.RowKit Go.BigFrame
def marks (ds:List Nat):List Deferred:=ds.map fun D=>{ target:=.collected D,args:=#[] }
def unmark (ds:List Nat) (w:World):World:=ds.foldl (fun w D=>w.putObj D (.deferred none)) w
theorem unmark_frm:∀ (ds:List Nat) (w:World),Frm ds w (unmark ds w)
 | [],w=>Frm.refl _ _
 | D :: ds,w=>((Frm.putObj w D _).mono (by intro x hx;simp at hx;subst hx;exact .inl (by simp))).then (unmark_frm ds _) (fun x hx=>.inl (by simp[hx]))
theorem leaves_many {fn:Func} {tmps:Array Value} {R:Ending→World→Prop}:∀ (ds:List Nat) (w:World),ds.Nodup→(∀ D∈ds,w.heap[D]?=some (.deferred (some []))) →
  (∃ v,(results fn tmps).run Tryz.prog (unmark ds w)=.ok v (unmark ds w)∧R (.returned v) (unmark ds w))→LeavesInM Fence.wide 3 Tryz.prog fn tmps R (marks ds) .returning w
 | [],w,_,_,h=>h
 | D :: ds,w,hn,hd,h=>by
   rw[List.nodup_cons] at hn
   refine⟨by simp,.inl ⟨D,_,rfl,run_takeDeferred (hd D (by simp)),leaves_many ds _ hn.2 (fun E hE=>?_) h⟩⟩
   have hne:E≠D:=fun e=>hn.1 (e ▸ hE)
   exact(World.putObj_heap_other hne).trans (hd E (by simp[hE]))
structure Ms (w:World) (ds:List Nat) (W:World):Prop where
 nd:ds.Nodup
 dl:∀ D∈ds,w.heap.size≤D∧W.heap[D]?=some (.deferred (some []))
theorem Ms.nil (w W:World):Ms w [] W:=⟨List.nodup_nil,fun D h=>by simp at h⟩
structure Kt (T:List TypeId) (W W':World):Prop where
 os:W'.os=W.os
 tape:W'.tape=W.tape
 output:W'.output=W.output
 size:W.heap.size≤W'.heap.size
 at':∀ (k:Nat) (o:Obj),W.heap[k]?=some o→(∀ c t fr,o=.cells c t fr→t∉T)→W'.heap[k]?=some o
section
variable {T:List TypeId} {w V W W' W2:World} {ds:List Nat}
theorem Kt.refl (T:List TypeId) (W:World):Kt T W W:=⟨rfl,rfl,rfl,Nat.le_refl _,fun _ _ h _=>h⟩
theorem Kt.trans (h:Kt T W W') (k:Kt T W' W2):Kt T W W2:=
 ⟨k.os.trans h.os,k.tape.trans h.tape,k.output.trans h.output,Nat.le_trans h.size k.size,fun i o hi ho=>k.at' i o (h.at' i o hi ho) ho⟩
theorem Kt.frm (h:Frm [] W W'):Kt T W W':=⟨h.os,h.tape,h.output,h.size,fun _ _ hk _=>h.at hk (by simp)⟩
theorem Kt.cells (h:Kt T W W') {k:Nat} {c:Array Value} {t:TypeId} {fr:Nat × Nat} (hk:W.heap[k]?=some (.cells c t fr)) (ht:t∉T):W'.heap[k]?=some (.cells c t fr):=
 h.at' k _ hk (fun c' t' fr' e=>by cases e;exact ht)
theorem Kt.mark (h:Kt T W W') {D:Nat} {x:Option (List Deferred)} (hk:W.heap[D]?=some (.deferred x)):W'.heap[D]?=some (.deferred x):=h.at' D _ hk (fun _ _ _ e=>by cases e)
theorem Kt.kb (h:Kt T W W'):KB W W':=fun k o hk ho=>h.at' k o hk (fun c t fr e=>by subst e;cases ho)
theorem Kt.bk (h:Kt T V W) (hb:Bk V.heap.size W W'):Kt T V W':=
 ⟨hb.os.trans h.os,hb.tape.trans h.tape,hb.output.trans h.output,Nat.le_trans h.size hb.size,fun k o hk ho=>hb.block k o (h.at' k o hk ho) (.inl (lt_of_block hk))⟩
theorem Kt.row (h:Kt T W W') {base e size n:Nat} {v:Value} {xs:List Value} (ho:W.ownsRow base e size v n xs) (he:e∉T):W'.ownsRow base e size v n xs:=by
 obtain⟨h1,h2⟩:=ho
 refine⟨h1,?_⟩
 rcases h2 with h2 | ⟨g,cap,cur,hv,hg,hh,r⟩
 ·exact .inl h2
 ·exact .inr ⟨g,cap,cur,hv,hg,h.cells hh he,r⟩
theorem Kt.grown {row:Option Nat} (h:Kt T V W) (hg:W.grownBy W' row) (hr:∀ k,row=some k→∃ c t fr,W.heap[k]?=some (.cells c t fr)∧t∈T):Kt T V W':=
 h.trans ⟨hg.os,hg.tape,hg.output,hg.size,fun k o hk ho=>(hg.block k (lt_of_block hk) (fun e=>by
  obtain⟨c,t,fr,h1,h2⟩:=hr k e.symm
  rw[hk] at h1;cases h1
  exact ho _ _ _ rfl h2)).trans hk⟩
theorem Kt.set (h:Kt T V W) {b o:Nat} {c:Array Value} {t:TypeId} {fr:Nat × Nat} (hb:W.heap[b]?=some (.cells c t fr)) (ht:t∈T) (u:Value):Kt T V (W.setCell ⟨b,o,none⟩ u):=
 h.trans ⟨rfl,rfl,rfl,by simp[World.setCell],fun k x hk hx=>by
  have hne:k≠b:=fun e=>by subst e;rw[hb] at hk;cases hk;exact hx _ _ _ rfl ht
  exact(Below.heap_setCell _ _ _ _ hne).trans hk⟩
theorem Kt.alloc (h:Kt T V W) (o:Obj):Kt T V (W.alloc o):=h.trans (Kt.frm ((Frm.refl [] W).alloc o))
theorem Ms.kt (h:Ms w ds W) (hk:Kt T W W'):Ms w ds W':=⟨h.nd,fun D hD=>⟨(h.dl D hD).1,hk.mark (h.dl D hD).2⟩⟩
theorem Ms.frm (h:Ms w ds W) (hf:Frm [] W W'):Ms w ds W':=h.kt (T:=[]) (Kt.frm hf)
theorem Ms.more {D:Nat} (h:Ms w ds V) (hf:w.heap.size≤V.heap.size) (hk:Kt T V W) (hD:V.heap.size≤D) (hm:W.heap[D]?=some (.deferred (some []))):Ms w (D :: ds) W:=by
 have h1:=h.kt hk
 refine⟨List.nodup_cons.2 ⟨fun hx=>?_,h.nd⟩,fun E hE=>?_⟩
 ·have:=lt_of_block (h.dl D hx).2;omega
 ·rcases List.mem_cons.1 hE with rfl | hE
  ·exact⟨by omega,hm⟩
  ·exact h1.dl E hE
end
theorem new_row (W:World) (A:Array Value) (t:TypeId):∀ (j:Nat) u,A.toList[j]?=some u→(W.alloc (.cells A t)).cell? ((⟨W.heap.size,0,none⟩:Addr).add j)=some u:=fun j u hu=>by
 have e:(⟨W.heap.size,0,none⟩:Addr).add j=⟨W.heap.size,j,none⟩:=by simp[Addr.add];exact fun h=>h.symm
 rw[e,cell_of (heap_alloc_new W (.cells A t)),← Array.getElem?_toList]
 exact hu
structure BO (ty e k:Nat) (w:World) (ob n:Nat) (xs:List Value) (W:World):Prop where
 fr:Frm [] w W
 new:w.heap.size≤ob
 bx:∃ ao cap,W.heap[ob]?=some (.cells #[.slice ao n cap] ty (0,0))∧W.ownsRow w.heap.size e k (.slice ao n cap) n xs
section
variable {ty e k:Nat} {w V W W' w1:World} {ob n m:Nat} {xs news:List Value}
theorem BO.frm (h:BO ty e k w ob n xs W) (hf:Frm [] W W'):BO ty e k w ob n xs W':=by
 obtain⟨ao,cap,h1,h2⟩:=h.bx
 exact⟨h.fr.trans hf,h.new,ao,cap,hf.at h1 (by simp),hf.owns h2 (by simp)⟩
theorem BO.bk {B:Nat} (h:BO ty e k w ob n xs W) (hb:Bk B W W') (hB:w.heap.size≤B):BO ty e k w ob n xs W':=by
 obtain⟨ao,cap,h1,h2⟩:=h.bx
 refine⟨hb.old h.fr hB,h.new,ao,cap,hb.at h1 rfl,h2.1,?_⟩
 rcases h2.2 with h3 | ⟨g,cp,cur,hv,hg,hh,r⟩
 ·exact .inl h3
 ·exact .inr ⟨g,cp,cur,hv,hg,hb.at hh rfl,r⟩
theorem BO.facts {ao:Option Addr} {cap:Nat} {o:Obj} (h1:W.heap[ob]?=some (.cells #[.slice ao n cap] ty (0,0))) (h2:W.ownsRow w.heap.size e k (.slice ao n cap) n xs) (hne:ty≠e) (hg:(W.alloc o).grownBy w1 (Value.slice ao n cap).ownBlock) :
  w1.heap[ob]?=some (.cells #[.slice ao n cap] ty (0,0)):=
 grown_at hg (alloc_at h1) (fun e'=>by
  obtain⟨c,hc⟩:=ownBlock_type h2 e'
  rw[h1] at hc;cases hc;exact hne rfl)
theorem BO.step {ao:Option Addr} {cap:Nat} {o:Obj} {v':Value} (h:BO ty e k w ob n xs W) (h1:W.heap[ob]?=some (.cells #[.slice ao n cap] ty (0,0))) (h2:W.ownsRow w.heap.size e k (.slice ao n cap) n xs) (hne:ty≠e)
  (hg:(W.alloc o).grownBy w1 (Value.slice ao n cap).ownBlock) (ho:w1.ownsRow w.heap.size e k v' (n + m) (xs ++ news)) :
  BO ty e k w ob (n + m) (xs ++ news) (w1.setCell ⟨ob,0,none⟩ v')∧Kt [ty,e] W (w1.setCell ⟨ob,0,none⟩ v'):=by
 have hb:=BO.facts h1 h2 hne hg
 have hge:∀ q,(Value.slice ao n cap).ownBlock=some q→w.heap.size≤q:=fun q hq=>ownBlock_ge h2 hq
 have k1:Kt [ty,e] W w1:=((Kt.refl _ W).alloc o).grown hg (fun q hq=>by
  obtain⟨c,hc⟩:=ownBlock_type h2 hq
  exact⟨c,e,(0,0),alloc_at hc,by simp⟩)
 have f1:Frm [] w w1:=(h.fr.alloc o).grown hg (fun q hq=>.inr (hge q hq))
 obtain⟨ao',cp',rfl⟩:=own_shape ho
 refine⟨⟨f1.setCell _ (.inr h.new) _,h.new,ao',cp',(block_setCell hb 0 _).trans rfl,?_⟩,k1.set hb (by simp) _⟩
 refine ownsRow_setCell_other ho (fun e'=>?_) _
 obtain⟨c,hc⟩:=ownBlock_type ho e'
 rw[hb] at hc;cases hc;exact hne rfl
theorem BO.made (w:World) (ty e k:Nat) {W:World} {ob:Nat} (hf:Frm [] w W) (hn:w.heap.size≤ob) (h:W.heap[ob]?=some (.cells #[.slice none 0 0] ty (0,0))):BO ty e k w ob 0 [] W:=
 ⟨hf,hn,none,0,h,World.ownsRow_nil _ _ _ _⟩
end
end Go.Proofs.YtemjlpahohmajaaGreat
namespace Go.Proofs.YtemjlpahohmajaaGreat
open Go.RowKit Go.BigFrame
structure GO (ty e k:Nat) (w:World) (ob o:Nat) (A:Array Value) (n:Nat) (xs:List Value) (W:World):Prop where
 fr:Frm [] w W
 new:w.heap.size≤ob
 bx:∃ ao cap,W.heap[ob]?=some (.cells (A.setIfInBounds o (.slice ao n cap)) ty (0,0))∧W.ownsRow w.heap.size e k (.slice ao n cap) n xs
section
variable {ty e k:Nat} {w V W W' w0 w1:World} {ob o n m:Nat} {A:Array Value} {xs news:List Value}
theorem GO.frm (h:GO ty e k w ob o A n xs W) (hf:Frm [] W W'):GO ty e k w ob o A n xs W':=by
 obtain⟨ao,cap,h1,h2⟩:=h.bx
 exact⟨h.fr.trans hf,h.new,ao,cap,hf.at h1 (by simp),hf.owns h2 (by simp)⟩
theorem GO.facts {ao:Option Addr} {cap:Nat} {B:Array Value} (h1:W.heap[ob]?=some (.cells B ty (0,0))) (h2:W.ownsRow w.heap.size e k (.slice ao n cap) n xs) (hne:ty≠e) (hf:Frm [] W w0) (hg:w0.grownBy w1 (Value.slice ao n cap).ownBlock) :
  w1.heap[ob]?=some (.cells B ty (0,0)):=
 grown_at hg (hf.at h1 (by simp)) (fun e'=>by
  obtain⟨c,hc⟩:=ownBlock_type h2 e'
  rw[h1] at hc;cases hc;exact hne rfl)
theorem GO.step {ao:Option Addr} {cap:Nat} {v':Value} (h:GO ty e k w ob o A n xs W) (h1:W.heap[ob]?=some (.cells (A.setIfInBounds o (.slice ao n cap)) ty (0,0))) (h2:W.ownsRow w.heap.size e k (.slice ao n cap) n xs) (hne:ty≠e)
  (hf:Frm [] W w0) (hg:w0.grownBy w1 (Value.slice ao n cap).ownBlock) (ho:w1.ownsRow w.heap.size e k v' (n + m) (xs ++ news)) :
  GO ty e k w ob o A (n + m) (xs ++ news) (w1.setCell ⟨ob,o,none⟩ v')∧Kt [ty,e] W (w1.setCell ⟨ob,o,none⟩ v'):=by
 have hb:=GO.facts h1 h2 hne hf hg
 have hge:∀ q,(Value.slice ao n cap).ownBlock=some q→w.heap.size≤q:=fun q hq=>ownBlock_ge h2 hq
 have k1:Kt [ty,e] W w1:=(Kt.frm hf).grown hg (fun q hq=>by
  obtain⟨c,hc⟩:=ownBlock_type h2 hq
  exact⟨c,e,(0,0),hf.at hc (by simp),by simp⟩)
 have f1:Frm [] w w1:=(h.fr.trans hf).grown hg (fun q hq=>.inr (hge q hq))
 obtain⟨ao',cp',rfl⟩:=own_shape ho
 refine⟨⟨f1.setCell _ (.inr h.new) _,h.new,ao',cp',(block_setCell hb o _).trans (by rw[Array.setIfInBounds_setIfInBounds]),?_⟩,k1.set hb (by simp) _⟩
 refine ownsRow_setCell_other ho (fun e'=>?_) _
 obtain⟨c,hc⟩:=ownBlock_type ho e'
 rw[hb] at hc;cases hc;exact hne rfl
theorem GO.made {B:Array Value} (hf:Frm [] w W) (hn:w.heap.size≤ob) (h:W.heap[ob]?=some (.cells B ty (0,0))) (hB:B=A.setIfInBounds o (.slice none 0 0)):GO ty e k w ob o A 0 [] W:=
 ⟨hf,hn,none,0,by rw[h,hB],World.ownsRow_nil _ _ _ _⟩
theorem Kt.mono {T T':List TypeId} (h:Kt T W W') (hT:∀ t∈T,t∈T'):Kt T' W W':=⟨h.os,h.tape,h.output,h.size,fun k x hk ho=>h.at' k x hk fun c t fr e hm=>ho c t fr e (hT t hm)⟩
def cnC (l:List (CtrD × Int)):List Value:=l.flatMap fun c=>[.string c.1.name,.int .i64 c.1.lim,.int .i64 c.2]
theorem cnC_append (A B:List (CtrD × Int)):cnC (A ++ B)=cnC A ++ cnC B:=by unfold cnC;rw[List.flatMap_append]
theorem cnC_at:∀ {L:List (CtrD × Int)} {i:Nat} {c:CtrD × Int},L[i]?=some c→(cnC L)[i * 3]?=some (.string c.1.name)∧(cnC L)[i * 3 + 1]?=some (.int .i64 c.1.lim)∧(cnC L)[i * 3 + 2]?=some (.int .i64 c.2)
 | [],i,c,h=>by simp at h
 | a :: L,0,c,h=>by
   simp at h;subst h
   exact⟨rfl,rfl,rfl⟩
 | a :: L,i + 1,c,h=>by
   have h':L[i]?=some c:=by simpa using h
   obtain⟨h1,h2,h3⟩:=cnC_at h'
   have e:cnC (a :: L)=[.string a.1.name,.int .i64 a.1.lim,.int .i64 a.2] ++ cnC L:=rfl
   rw[e]
   refine⟨?_,?_,?_⟩
   ·rw[List.getElem?_append_right (by simp;omega),show (i + 1) * 3 - [Value.string a.1.name,.int .i64 a.1.lim,.int .i64 a.2].length=i * 3 by simp;omega];exact h1
   ·rw[List.getElem?_append_right (by simp;omega),show (i + 1) * 3 + 1 - [Value.string a.1.name,.int .i64 a.1.lim,.int .i64 a.2].length=i * 3 + 1 by simp;omega];exact h2
   ·rw[List.getElem?_append_right (by simp;omega),show (i + 1) * 3 + 2 - [Value.string a.1.name,.int .i64 a.1.lim,.int .i64 a.2].length=i * 3 + 2 by simp;omega];exact h3
theorem cn_arr {base:Nat} {v:Value} {L:List (CtrD × Int)} (h:W.ownsRow base 207 3 v L.length (cnC L)):Arr 3 CnAt W v L:=by
 rcases h.2 with ⟨rfl,hn⟩ | ⟨g,c,cur,rfl,-,hh,-,-,-,ht⟩
 ·obtain rfl:L=[]:=List.length_eq_zero_iff.1 hn
  exact Arr.nil _ _ _
 ·refine⟨_,_,rfl,fun i x hx=>⟨g,0,rfl,?_⟩⟩
  obtain⟨a0,a1,a2⟩:=cnC_at hx
  have hl:=lt_of_some hx
  have hc:∀ j,j < L.length * 3→W.cell? ⟨g,j,none⟩=(cnC L)[j]?:=fun j hj=>by
   rw[cell_of hh,← ht,List.getElem?_take_of_lt hj,Array.getElem?_toList]
  rw[Nat.zero_add]
  exact⟨(hc _ (by omega)).trans a0,(hc _ (by omega)).trans a1,(hc _ (by omega)).trans a2⟩
end
end Go.Proofs.YtemjlpahohmajaaGreat
namespace Go.Proofs.YtemjlpahohmajaaGreat
open Go.RowKit Go.BigFrame
def IAt (w:World) (b o:Nat) (x:Int):Prop:=w.cell? ⟨b,o,none⟩=some (.int .i64 x)
end Go.Proofs.YtemjlpahohmajaaGreat
namespace Go.Proofs.YtemjlpahohmajaaGreat
open Go.RowKit Go.BigFrame
def Ty (W:World) (g:Nat) (e:TypeId):Prop:=∃ cur,W.heap[g]?=some (.cells cur e (0,0))
theorem Ty.lt {W:World} {g:Nat} {e:TypeId} (h:Ty W g e):g < W.heap.size:=by obtain⟨_,h⟩:=h;exact lt_of_block h
theorem Ty.frm {F:List Nat} {W V:World} {g:Nat} {e:TypeId} (h:Ty W g e) (hf:Frm F W V) (hn:g∉F):Ty V g e:=by obtain⟨c,h⟩:=h;exact⟨c,hf.at h hn⟩
theorem Ty.set {W:World} {g b o:Nat} {e:TypeId} (h:Ty W g e) (u:Value):Ty (W.setCell ⟨b,o,none⟩ u) g e:=by
 obtain⟨c,h⟩:=h
 by_cases hp:b=g
 ·subst hp
  exact⟨_,block_setCell h o u⟩
 ·exact⟨c,setCell_at h (Ne.symm hp) u⟩
theorem Ty.ne {W:World} {g k:Nat} {e f:TypeId} (h:Ty W g e) (h':Ty W k f) (hn:e≠f):g≠k:=by
 rintro rfl
 obtain⟨c,h⟩:=h
 obtain⟨d,h'⟩:=h'
 rw[h] at h'
 cases h'
 exact hn rfl
theorem own_ty {W:World} {base e size n:Nat} {v:Value} {xs:List Value} (h:W.ownsRow base e size v n xs) {k:Nat} (hk:v.ownBlock=some k):Ty W k e:=ownBlock_type h hk
theorem cell_set_ne {W:World} {b o c d:Nat} {u:Value} (h:¬ (b=c∧o=d)):(W.setCell ⟨c,d,none⟩ u).cell? ⟨b,o,none⟩=W.cell? ⟨b,o,none⟩:=by
 by_cases hb:b=c
 ·subst hb
  have ho:o≠d:=fun e=>h ⟨rfl,e⟩
  simp only[World.cell?,World.setCell]
  by_cases hl:b < W.heap.size
  ·rw[Array.getElem?_eq_getElem (by simpa using hl),Array.getElem_modify_self,Array.getElem?_eq_getElem hl]
   cases W.heap[b] <;> simp[Array.getElem?_setIfInBounds,Ne.symm ho]
  ·rw[Array.getElem?_eq_none (by simpa using hl),Array.getElem?_eq_none (by omega)]
 ·exact World.cell?_of_block (w:=W) (Below.heap_setCell _ _ _ _ hb)
theorem cell_set_eq {W:World} {c d:Nat} {u v:Value} (h:W.cell? ⟨c,d,none⟩=some v):(W.setCell ⟨c,d,none⟩ u).cell? ⟨c,d,none⟩=some u:=by
 have hl:=cell_lt h
 simp only[World.cell?,Array.getElem?_eq_getElem hl] at h
 cases hh:W.heap[c] with
 | cells cur t fr =>
   rw[hh] at h
   have h2:W.heap[c]?=some (.cells cur t fr):=by rw[Array.getElem?_eq_getElem hl,hh]
   have hd:=(Array.getElem?_eq_some_iff.1 h).1
   rw[cell_of (block_setCell h2 d u) d,Array.getElem?_setIfInBounds,if_pos rfl,if_pos hd]
 | _=>rw[hh] at h;simp at h
def ctC1 (c:CtrD):List Value:=[.string c.name,.int .i64 c.lim]
def iv (x:Int):Value:=.int .i64 x
def DfV (W:World) (v:Value) (l:List CtrD):Prop:=W.ownsRow 0 205 2 v l.length (l.flatMap ctC1)
def VlV (W:World) (ba:Nat) (v:Value) (l:List Int):Prop:=W.ownsRow 0 3 1 v l.length (l.map iv)∧v.ownBlock≠some ba
theorem DfV.frm {F:List Nat} {W V:World} {v:Value} {l:List CtrD} (h:DfV W v l) (hf:Frm F W V) (hn:∀ k∈F,¬ Ty W k 205):DfV V v l:=hf.owns h fun _ hk hF=>hn _ hF (own_ty h hk)
theorem VlV.frm {F:List Nat} {W V:World} {ba:Nat} {v:Value} {l:List Int} (h:VlV W ba v l) (hf:Frm F W V) (hn:∀ k∈F,k=ba∨¬ Ty W k 3):VlV V ba v l:=
 ⟨hf.owns h.1 fun k hk hF=>(hn k hF).elim (fun e=>h.2 (by rw[hk,e])) (fun e=>e (own_ty h.1 hk)),h.2⟩
theorem Lf.ty {W:World} {lv:Value} {L:List ByteArray} (h:Lf W lv L) {k:Nat} (hk:lv.ownBlock=some k):Ty W k 9:=by
 rcases h with h | ⟨g,cur,rfl,hb,-⟩
 ·exact own_ty h hk
 ·cases hk;exact⟨_,hb⟩
structure RO (W:World) (s:SesD) (ba bb bw:Nat) (bi:Nat→Nat) (x:PS):Prop where
 ta:Ty W ba 3
 tb:Ty W bb 185
 tw:Ty W bw 188
 ti:∀ i,i < s.roles.length→Ty W (bi i) 190
 inj:∀ i j,i < s.roles.length→j < s.roles.length→bi i=bi j→i=j
 a:∀ i,i < s.roles.length→W.cell? ⟨ba,i,none⟩=some (.int .i64 (x.at i))
 b:∀ i,i < s.roles.length→∃ dv vv,W.cell? ⟨bb,i * 2,none⟩=some dv∧W.cell? ⟨bb,i * 2 + 1,none⟩=some vv∧DfV W dv (s.rol i).ctrs∧VlV W ba vv (x.bank i)
 w:∀ i,i < s.roles.length→∃ c,W.cell? ⟨bw,i,none⟩=some (.slice (some ⟨bi i,0,none⟩) s.roles.length c)
 r:∀ i k,i < s.roles.length→k < s.roles.length→∃ lv,W.cell? ⟨bi i,k * 3,none⟩=some (.int .i64 s.cls)∧W.cell? ⟨bi i,k * 3 + 1,none⟩=some (.int .i64 s.cap)∧W.cell? ⟨bi i,k * 3 + 2,none⟩=some lv∧Lf W lv (x.way i k)
section
variable {W V:World} {s:SesD} {ba bb bw:Nat} {bi:Nat→Nat} {x:PS}
theorem RO.frm (h:RO W s ba bb bw bi x) (hf:Frm [] W V):RO V s ba bb bw bi x:=by
 refine⟨h.ta.frm hf (by simp),h.tb.frm hf (by simp),h.tw.frm hf (by simp),fun i hi=>(h.ti i hi).frm hf (by simp),h.inj,fun i hi=>hf.keep (h.a i hi),fun i hi=>?_,fun i hi=>?_,fun i k hi hk=>?_⟩
 ·obtain⟨dv,vv,h1,h2,h3,h4⟩:=h.b i hi
  exact⟨dv,vv,hf.keep h1,hf.keep h2,h3.frm hf (by simp),h4.frm hf (by simp)⟩
 ·obtain⟨c,h1⟩:=h.w i hi
  exact⟨c,hf.keep h1⟩
 ·obtain⟨lv,h1,h2,h3,h4⟩:=h.r i k hi hk
  exact⟨lv,hf.keep h1,hf.keep h2,hf.keep h3,h4.frm hf (by simp)⟩
theorem setFrm (W:World) (b o:Nat) (u:Value):Frm [b] W (W.setCell ⟨b,o,none⟩ u):=(Frm.refl [b] W).setCell _ (.inl (by simp)) _
theorem RO.setAt (h:RO W s ba bb bw bi x) {i:Nat} (hi:i < s.roles.length) (p:Nat) (hl:x.pos.length=s.roles.length):RO (W.setCell ⟨ba,i,none⟩ (.int .i64 p)) s ba bb bw bi { x with pos:=x.pos.set i p }:=by
 have hf:=setFrm W ba i (.int .i64 p)
 have n1:=h.ta.ne h.tb (by decide)
 have n2:=h.ta.ne h.tw (by decide)
 have n3:∀ j,j < s.roles.length→ba≠bi j:=fun j hj=>h.ta.ne (h.ti j hj) (by decide)
 refine⟨h.ta.set _,h.tb.set _,h.tw.set _,fun i hi=>(h.ti i hi).set _,h.inj,fun j hj=>?_,fun j hj=>?_,fun j hj=>?_,fun j k hj hk=>?_⟩
 ·show _=some (Value.int .i64 (((x.pos.set i p).getD j 0:Nat):Int))
  rw[List.getD_eq_getElem?_getD,List.getElem?_set]
  by_cases e:i=j
  ·subst e
   rw[if_pos rfl,if_pos (by omega)]
   exact cell_set_eq (h.a i hj)
  ·rw[if_neg e,cell_set_ne (by rintro⟨-,rfl⟩;exact e rfl),h.a j hj]
   rfl
 ·obtain⟨dv,vv,h1,h2,h3,h4⟩:=h.b j hj
  exact⟨dv,vv,hf.cellAt h1 (by simp;exact n1.symm),hf.cellAt h2 (by simp;exact n1.symm),h3.frm hf (by intro k hk;simp at hk;subst hk;exact fun e=>absurd rfl (h.ta.ne e (by decide))),h4.frm hf (by intro k hk;simp at hk;exact .inl hk)⟩
 ·obtain⟨c,h1⟩:=h.w j hj
  exact⟨c,hf.cellAt h1 (by simp;exact n2.symm)⟩
 ·obtain⟨lv,h1,h2,h3,h4⟩:=h.r j k hj hk
  have n:=(n3 j hj).symm
  exact⟨lv,hf.cellAt h1 (by simpa using n),hf.cellAt h2 (by simpa using n),hf.cellAt h3 (by simpa using n),h4.frm hf (fun q hq hm=>by simp at hm;subst hm;exact absurd rfl (h.ta.ne (h4.ty hq) (by decide)))⟩
theorem RO.setBank (h:RO W s ba bb bw bi x) {i:Nat} (hi:i < s.roles.length) {dv vv:Value} {vs:List Int} (hd:DfV W dv (s.rol i).ctrs) (hv:VlV W ba vv vs) (hl:x.vals.length=s.roles.length) :
  RO ((W.setCell ⟨bb,i * 2,none⟩ dv).setCell ⟨bb,i * 2 + 1,none⟩ vv) s ba bb bw bi { x with vals:=x.vals.set i vs }:=by
 have hf:Frm [bb] W ((W.setCell ⟨bb,i * 2,none⟩ dv).setCell ⟨bb,i * 2 + 1,none⟩ vv):=(setFrm W bb (i * 2) dv).trans (setFrm _ bb (i * 2 + 1) vv)
 have n1:=h.ta.ne h.tb (by decide)
 have n2:=h.tb.ne h.tw (by decide)
 have n3:∀ j,j < s.roles.length→bb≠bi j:=fun j hj=>h.tb.ne (h.ti j hj) (by decide)
 have q1:∀ k∈[bb],¬ Ty W k 205:=by intro k hk;simp at hk;subst hk;exact fun e=>absurd rfl (h.tb.ne e (by decide))
 have q2:∀ k∈[bb],k=ba∨¬ Ty W k 3:=by intro k hk;simp at hk;subst hk;exact .inr fun e=>absurd rfl (h.tb.ne e (by decide))
 refine⟨(h.ta.set _).set _,(h.tb.set _).set _,(h.tw.set _).set _,fun i hi=>((h.ti i hi).set _).set _,h.inj,fun j hj=>hf.cellAt (h.a j hj) (by simpa using n1),fun j hj=>?_,fun j hj=>?_,fun j k hj hk=>?_⟩
 ·obtain⟨dv',vv',h1,h2,h3,h4⟩:=h.b j hj
  show ∃ dv'' vv'',_∧_∧_∧VlV _ ba vv'' ((x.vals.set i vs).getD j [])
  rw[List.getD_eq_getElem?_getD,List.getElem?_set]
  by_cases e:i=j
  ·subst e
   rw[if_pos rfl,if_pos (by omega)]
   refine⟨dv,vv,?_,?_,hd.frm hf q1,hv.frm hf q2⟩
   ·rw[cell_set_ne (by omega)];exact cell_set_eq h1
   ·exact cell_set_eq (v:=vv') (by rw[cell_set_ne (by omega)];exact h2)
  ·rw[if_neg e]
   refine⟨dv',vv',?_,?_,h3.frm hf q1,h4.frm hf q2⟩
   ·rw[cell_set_ne (by omega),cell_set_ne (by omega)];exact h1
   ·rw[cell_set_ne (by omega),cell_set_ne (by omega)];exact h2
 ·obtain⟨c,h1⟩:=h.w j hj
  exact⟨c,hf.cellAt h1 (by simpa using n2.symm)⟩
 ·obtain⟨lv,h1,h2,h3,h4⟩:=h.r j k hj hk
  have n:=(n3 j hj).symm
  exact⟨lv,hf.cellAt h1 (by simpa using n),hf.cellAt h2 (by simpa using n),hf.cellAt h3 (by simpa using n),h4.frm hf (fun q hq hm=>by simp at hm;subst hm;exact absurd rfl (h.tb.ne (h4.ty hq) (by decide)))⟩
theorem RO.setWay (h:RO W s ba bb bw bi x) {i m:Nat} (hi:i < s.roles.length) (hm:m < s.roles.length) {lv:Value} {L:List ByteArray} (hL:Lf W lv L) (hl:x.ways.length=s.roles.length) (hr:(x.ways.getD i []).length=s.roles.length) :
  RO (((W.setCell ⟨bi i,m * 3,none⟩ (.int .i64 s.cls)).setCell ⟨bi i,m * 3 + 1,none⟩ (.int .i64 s.cap)).setCell ⟨bi i,m * 3 + 2,none⟩ lv) s ba bb bw bi { x with ways:=setWay x.ways i m L }:=by
 have hf:Frm [bi i] W (((W.setCell ⟨bi i,m * 3,none⟩ (.int .i64 s.cls)).setCell ⟨bi i,m * 3 + 1,none⟩ (.int .i64 s.cap)).setCell ⟨bi i,m * 3 + 2,none⟩ lv):=((setFrm W _ _ _).trans (setFrm _ _ _ _)).trans (setFrm _ _ _ _)
 have ht:=h.ti i hi
 have n1:=h.ta.ne ht (by decide)
 have n2:=h.tb.ne ht (by decide)
 have n3:=h.tw.ne ht (by decide)
 have q1:∀ k∈[bi i],¬ Ty W k 205:=by intro k hk;simp at hk;subst hk;exact fun e=>absurd rfl (ht.ne e (by decide))
 have q2:∀ k∈[bi i],k=ba∨¬ Ty W k 3:=by intro k hk;simp at hk;subst hk;exact .inr fun e=>absurd rfl (ht.ne e (by decide))
 have q3:∀ {lv:Value} {L:List ByteArray},Lf W lv L→∀ q,lv.ownBlock=some q→q∉[bi i]:=fun h4 q hq hm=>by simp at hm;subst hm;exact absurd rfl (ht.ne (h4.ty hq) (by decide))
 refine⟨((h.ta.set _).set _).set _,((h.tb.set _).set _).set _,((h.tw.set _).set _).set _,fun i hi=>(((h.ti i hi).set _).set _).set _,h.inj,fun j hj=>hf.cellAt (h.a j hj) (by simpa using n1),fun j hj=>?_,fun j hj=>?_,fun j k hj hk=>?_⟩
 ·obtain⟨dv',vv',h1,h2,h3,h4⟩:=h.b j hj
  exact⟨dv',vv',hf.cellAt h1 (by simpa using n2),hf.cellAt h2 (by simpa using n2),h3.frm hf q1,h4.frm hf q2⟩
 ·obtain⟨c,h1⟩:=h.w j hj
  exact⟨c,hf.cellAt h1 (by simpa using n3)⟩
 ·obtain⟨lv',h1,h2,h3,h4⟩:=h.r j k hj hk
  show ∃ lv'',_∧_∧_∧Lf _ lv'' (wayOf (Go.Proofs.YtemjlpahohmajaaGreat.setWay x.ways i m L) j k)
  rw[wayOf_set (by omega) (by omega)]
  by_cases e:j=i∧k=m
  ·obtain⟨rfl,rfl⟩:=e
   rw[if_pos ⟨rfl,rfl⟩]
   refine⟨lv,?_,?_,?_,hL.frm hf (q3 hL)⟩
   ·rw[cell_set_ne (by omega),cell_set_ne (by omega)];exact cell_set_eq h1
   ·rw[cell_set_ne (by omega)];exact cell_set_eq (v:=.int .i64 s.cap) (by rw[cell_set_ne (by omega)];exact h2)
   ·exact cell_set_eq (v:=lv') (by rw[cell_set_ne (by omega),cell_set_ne (by omega)];exact h3)
  ·rw[if_neg e]
   have hne:∀ {o d:Nat},o / 3=k→d / 3=m→¬ (bi j=bi i∧o=d):=fun ho hd he=>e ⟨h.inj j i hj hi he.1,by rw[← ho,← hd,he.2]⟩
   refine⟨lv',?_,?_,?_,h4.frm hf (q3 h4)⟩
   ·rw[cell_set_ne (hne (by omega) (by omega)),cell_set_ne (hne (by omega) (by omega)),cell_set_ne (hne (by omega) (by omega))];exact h1
   ·rw[cell_set_ne (hne (by omega) (by omega)),cell_set_ne (hne (by omega) (by omega)),cell_set_ne (hne (by omega) (by omega))];exact h2
   ·rw[cell_set_ne (hne (by omega) (by omega)),cell_set_ne (hne (by omega) (by omega)),cell_set_ne (hne (by omega) (by omega))];exact h3
end
structure RSt (B:Nat) (W:World) (s:SesD) (v:Value) (x:PS):Prop where
 out:∃ ba bb bw bi ca cb cw,v=.agg #[.slice (some ⟨ba,0,none⟩) s.roles.length ca,.slice (some ⟨bb,0,none⟩) s.roles.length cb,.slice (some ⟨bw,0,none⟩) s.roles.length cw]∧RO W s ba bb bw bi x ∧
  B≤ba∧B≤bb∧B≤bw∧∀ i,i < s.roles.length→B≤bi i
 ok:PSok s x
theorem RSt.frm {B:Nat} {W V:World} {s:SesD} {v:Value} {x:PS} (h:RSt B W s v x) (hf:Frm [] W V):RSt B V s v x:=by
 obtain⟨ba,bb,bw,bi,ca,cb,cw,h1,h2,h3⟩:=h.out
 exact⟨⟨ba,bb,bw,bi,ca,cb,cw,h1,h2.frm hf,h3⟩,h.ok⟩
theorem RSt.low {B B':Nat} {W:World} {s:SesD} {v:Value} {x:PS} (h:RSt B W s v x) (hb:B'≤B):RSt B' W s v x:=by
 obtain⟨ba,bb,bw,bi,ca,cb,cw,h1,h2,h3,h4,h5,h6⟩:=h.out
 exact⟨⟨ba,bb,bw,bi,ca,cb,cw,h1,h2,by omega,by omega,by omega,fun i hi=>by have:=h6 i hi;omega⟩,h.ok⟩
end Go.Proofs.YtemjlpahohmajaaGreat
namespace Go.Proofs.YtemjlpahohmajaaGreat
open Go.RowKit
section
variable {F:List Nat} {P:Program} {ops:Array Oper} {Q:Exit→Act→World→Prop} {md:Region.Mode} {S S':World→Prop} {T:Nat→Bool}
def wpAnyL (P:Program) (md:Region.Mode) (ops:Array Oper) (Q:Exit→Act→World→Prop) (S:World→Prop) (T:Nat→Bool):Nat→Bool→Array Bool→Act→World→Prop
 | 0,_,listed,a,w=>Region.ready md ops listed=[]∧Q .normal a w
 | fuel + 1,b,listed,a,w =>
   (Region.ready md ops listed=[]→Q .normal a w) ∧
   ∀ i∈Region.ready md ops listed,wpOp P ops Q i (fun a' w'=>((b || T i)=false→S w')∧wpAnyL P md ops Q S T fuel (b || T i) (listed.setIfInBounds i true) a' w') a w
theorem wpAny_of_L:∀ (fuel:Nat) (b:Bool) (listed:Array Bool) (a:Act) (w:World),wpAnyL P md ops Q S T fuel b listed a w→wpAny P md ops Q fuel listed a w
 | 0,_,_,_,_,h=>h
 | fuel + 1,_,_,_,_,h=>⟨h.1,fun i hi=>wpOp_mono (fun a' w' h'=>wpAny_of_L fuel _ _ a' w' h'.2) (h.2 i hi)⟩
theorem wpAnyL_sub (hSS:∀ W,S' W→S W):∀ (fuel:Nat) (b:Bool) (listed:Array Bool) (a:Act) (w:World),wpAnyL P md ops Q S' T fuel b listed a w→wpAnyL P md ops Q S T fuel b listed a w
 | 0,_,_,_,_,h=>h
 | fuel + 1,_,_,_,_,h=>⟨h.1,fun i hi=>wpOp_mono (fun a' w' h'=>⟨fun hb=>hSS _ (h'.1 hb),wpAnyL_sub hSS fuel _ _ a' w' h'.2⟩) (h.2 i hi)⟩
def depB (md:Region.Mode) (ops:Array Oper):Nat→Nat→Nat→Bool
 | 0,_,_=>false
 | f + 1,j,i=>((ops[j]?).map fun o=>o.after.any fun e=>Region.binds md e && (e.on == i || depB md ops f e.on i)).getD false
def Closed (md:Region.Mode) (ops:Array Oper) (listed:Array Bool):Prop:=∀ (k:Nat) o,ops[k]?=some o→listed.getD k false=true→∀ e∈o.after,Region.binds md e=true→listed.getD e.on false=true
def closedB (md:Region.Mode) (ops:Array Oper) (listed:Array Bool):Bool:=(List.range ops.size).all fun k=>!listed.getD k false || ((ops[k]?).map fun o=>o.after.all fun e=>!Region.binds md e || listed.getD e.on false).getD true
theorem closed_of {listed:Array Bool} (h:closedB md ops listed=true):Closed md ops listed:=fun k o ho hk e he hb=>by
 have:=(List.all_eq_true.1 h) k (List.mem_range.2 (Array.getElem?_eq_some_iff.1 ho).1)
 rw[ho,hk] at this
 simp only[Bool.not_true,Option.map_some,Option.getD_some,Bool.false_or] at this
 have:=(Array.all_eq_true_iff_forall_mem.1 this) e he
 simpa[hb] using this
theorem dep_no {listed:Array Bool} {i:Nat} (hc:Closed md ops listed) (hi:listed.getD i false=false):∀ (f j:Nat),depB md ops f j i=true→(∀ o,ops[j]?=some o→∀ e∈o.after,Region.binds md e=true→listed.getD e.on false=true)→False
 | 0,_,h,_=>by cases h
 | f + 1,j,h,hj=>by
   unfold depB at h
   cases ho:ops[j]? with
   | none=>rw[ho] at h;cases h
   | some o =>
     rw[ho] at h
     simp only[Option.map_some,Option.getD_some] at h
     obtain⟨e,he,hb⟩:=Array.any_eq_true'.1 h
     simp only[Bool.and_eq_true,Bool.or_eq_true,beq_iff_eq] at hb
     have hl:=hj o ho e he hb.1
     rcases hb.2 with hb | hb
     ·rw[hb,hi] at hl;cases hl
     ·exact dep_no hc hi f e.on hb fun o' ho'=>hc e.on o' ho' hl
def waitsB (md:Region.Mode) (ops:Array Oper) (T:Nat→Bool) (i:Nat):Bool:=(List.range ops.size).all fun j=>!T j || depB md ops 4 j i
theorem wpAnyL_first {i:Nat} {oi:Oper} {v:Value} (hi:ops[i]?=some oi) (hT:T i=false) (hw:waitsB md ops T i=true) (hsel:∀ (j:Nat) (o:Oper) cs b,ops[j]?=some o→o.op≠.select cs b)
  (hQ:∀ c a w,Q (.panic c) (a.put oi.dst v) w→Q (.panic c) a w) :
  ∀ (fuel:Nat) (listed:Array Bool) (a:Act) (w:World),Closed md ops listed →
    (∀ j oj,ops[j]?=some oj→j≠i→listed.getD j true=false→(∀ e∈oj.after,Region.binds md e=true→e.on≠i)→oi.apart ops oj=true) →
    i∈Region.ready md ops listed→YieldsIf P ops S oi v a→S w →
    wpAnyL P md ops Q S T fuel false (listed.setIfInBounds i true) (a.put oi.dst v) w→wpAnyL P md ops Q S T (fuel + 1) false listed a w:=by
 intro fuel
 induction fuel with
 | zero =>
   intro listed a w _ _ hr hy hS H
   refine⟨fun h=>(by rw[h] at hr;cases hr),fun j hj=>?_⟩
   by_cases hji:j=i
   ·subst hji
    rw[Bool.false_or,hT]
    exact hy.wpOp hi hS ⟨fun _=>hS,H⟩
   ·have:=ready_mono hj hji
    rw[H.1] at this
    cases this
 | succ fuel ih =>
   intro listed a w hcl hfree hr hy hS H
   refine⟨fun h=>(by rw[h] at hr;cases hr),fun j hj=>?_⟩
   by_cases hji:j=i
   ·subst hji
    rw[Bool.false_or,hT]
    exact hy.wpOp hi hS ⟨fun _=>hS,H⟩
   ·have h1:=H.2 j (ready_mono hj hji)
    obtain⟨hjun,oj,hoj,hall⟩:=mem_ready.1 hj
    have hnot:∀ e∈oj.after,Region.binds md e=true→e.on≠i:=fun e he hb heq=>by
     have h1:=hall e he hb
     have h0:=(mem_ready.1 hr).1
     rw[heq] at h1
     rcases Nat.lt_or_ge i listed.size with h' | h'
     ·simp[h'] at h0 h1;rw[h0] at h1;cases h1
     ·simp[Array.getElem?_eq_none h'] at h1
    have hTj:T j=false:=by
     have hjs:j < ops.size:=(Array.getElem?_eq_some_iff.1 hoj).1
     have:=(List.all_eq_true.1 hw) j (List.mem_range.2 hjs)
     simp only[Bool.or_eq_true,Bool.not_eq_true'] at this
     rcases this with h | h
     ·exact h
     ·refine(dep_no hcl ?_ 4 j h fun o ho e he hb=>?_).elim
      ·have h0:=(mem_ready.1 hr).1
       rcases Nat.lt_or_ge i listed.size with h' | h'
       ·simp[h'] at h0 ⊢;exact h0
       ·simp[h'] at h0
      ·rw[hoj] at ho
       cases ho
       exact hall e he hb
    rw[Bool.false_or,hTj] at h1 ⊢
    have h2:=wpOp_putIf hoj (hfree j oj hoj hji hjun hnot) (fun cs b=>hsel i oi cs b hi) (fun cs b=>hsel j oj cs b hoj) hQ hy h1
    have hfree':∀ k ok,ops[k]?=some ok→k≠i→(listed.setIfInBounds j true).getD k true=false →
      (∀ e∈ok.after,Region.binds md e=true→e.on≠i)→oi.apart ops ok=true:=fun k ok hk hki hun hno=>by
     refine hfree k ok hk hki ?_ hno
     by_cases hjk:j=k
     ·subst hjk;exact hjun
     ·rw[getD_set_ne true hjk] at hun;exact hun
    have hcl':Closed md ops (listed.setIfInBounds j true):=fun k o ho hk e he hb=>by
     have up:∀ q,listed.getD q false=true→(listed.setIfInBounds j true).getD q false=true:=fun q hq=>by
      by_cases e:j=q
      ·subst e
       rcases Nat.lt_or_ge j listed.size with h' | h'
       ·simp[h']
       ·simp[Array.getElem?_eq_none h'] at hq
      ·rw[getD_set_ne false e];exact hq
     by_cases ek:j=k
     ·subst ek
      rw[hoj] at ho
      cases ho
      exact up _ (hall e he hb)
     ·rw[getD_set_ne false ek] at hk
      exact up _ (hcl k o ho hk e he hb)
    refine wpOp_mono (fun a' w' h3=>⟨fun _=>h3.2.1 rfl,ih (listed.setIfInBounds j true) a' w' hcl' hfree' (ready_mono hr (Ne.symm hji)) h3.1 (h3.2.1 rfl) ?_⟩) h2
    rw[Array.setIfInBounds_comm _ _ hji]
    exact h3.2.2
theorem wpAnyL_firstP {i:Nat} {oi:Oper} {v:Value} (hi:ops[i]?=some oi) (hT:T i=false) (hsel:∀ (j:Nat) (o:Oper) cs b,ops[j]?=some o→o.op≠.select cs b)
  (hQ:∀ c a w,Q (.panic c) (a.put oi.dst v) w→Q (.panic c) a w) :
  ∀ (fuel:Nat) (b:Bool) (listed:Array Bool) (a:Act) (w:World),
    (∀ j oj,ops[j]?=some oj→j≠i→listed.getD j true=false→(∀ e∈oj.after,Region.binds md e=true→e.on≠i)→oi.apart ops oj=true) →
    i∈Region.ready md ops listed→YieldsIf P ops (fun _=>True) oi v a→(b=false→S w) →
    wpAnyL P md ops Q S T fuel b (listed.setIfInBounds i true) (a.put oi.dst v) w→wpAnyL P md ops Q S T (fuel + 1) b listed a w:=by
 intro fuel
 induction fuel with
 | zero =>
   intro b listed a w _ hr hy hS H
   refine⟨fun h=>(by rw[h] at hr;cases hr),fun j hj=>?_⟩
   by_cases hji:j=i
   ·subst hji
    rw[hT,Bool.or_false]
    exact hy.wpOp hi trivial ⟨hS,H⟩
   ·have:=ready_mono hj hji
    rw[H.1] at this
    cases this
 | succ fuel ih =>
   intro b listed a w hfree hr hy hS H
   refine⟨fun h=>(by rw[h] at hr;cases hr),fun j hj=>?_⟩
   by_cases hji:j=i
   ·subst hji
    rw[hT,Bool.or_false]
    exact hy.wpOp hi trivial ⟨hS,H⟩
   ·have h1:=H.2 j (ready_mono hj hji)
    obtain⟨hjun,oj,hoj,hall⟩:=mem_ready.1 hj
    have hnot:∀ e∈oj.after,Region.binds md e=true→e.on≠i:=fun e he hb heq=>by
     have h1:=hall e he hb
     have h0:=(mem_ready.1 hr).1
     rw[heq] at h1
     rcases Nat.lt_or_ge i listed.size with h' | h'
     ·simp[h'] at h0 h1;rw[h0] at h1;cases h1
     ·simp[Array.getElem?_eq_none h'] at h1
    have h2:=wpOp_putIf hoj (hfree j oj hoj hji hjun hnot) (fun cs b=>hsel i oi cs b hi) (fun cs b=>hsel j oj cs b hoj) hQ hy h1
    have hfree':∀ k ok,ops[k]?=some ok→k≠i→(listed.setIfInBounds j true).getD k true=false →
      (∀ e∈ok.after,Region.binds md e=true→e.on≠i)→oi.apart ops ok=true:=fun k ok hk hki hun hno=>by
     refine hfree k ok hk hki ?_ hno
     by_cases hjk:j=k
     ·subst hjk;exact hjun
     ·rw[getD_set_ne true hjk] at hun;exact hun
    refine wpOp_mono (fun a' w' h3=>⟨h3.2.1,ih (b || T j) (listed.setIfInBounds j true) a' w' hfree' (ready_mono hr (Ne.symm hji)) h3.1 h3.2.1 ?_⟩) h2
    rw[Array.setIfInBounds_comm _ _ hji]
    exact h3.2.2
def wrFrom (n:Nat) (j:Nat):Bool:=decide (n≤j)
theorem heldL_start (F:List Nat) (T:Nat→Bool) {id:Nat} {a:Act} {w:World} (hm:P.follows .mixedOrders=true) (h:wpAnyL P .any ops Q (Frm F w.drew) T ops.size false (Array.replicate ops.size false) a w.drew):(Code.region id ops true).wp P Q a w:=
 wp_region_any hm (wpAny_of_L _ _ _ _ _ h)
theorem heldL_take {i:Nat} {oi:Oper} {fuel:Nat} {listed:Array Bool} {a:Act} {w:World} (v:Value) (hi:ops[i]?=some oi)
  (hs:Region.noSelect ops=true) (hf:Region.free md ops listed i=true) (hr:(Region.ready md ops listed).contains i=true) (hT:T i=false) (hwt:(waitsB md ops T i && closedB md ops listed)=true)
  (hQ:∀ c a w,Q (.panic c) (a.put oi.dst v) w→Q (.panic c) a w) (hw:Region.wanted oi (yielded ops a.tmps)=true) (hy:∀ w',Frm F w w'→(execOp a.eval oi).run P w'=.ok (.value v) w')
  (h:wpAnyL P md ops Q (Frm F w) T fuel false (listed.setIfInBounds i true) (a.put oi.dst v) w):wpAnyL P md ops Q (Frm F w) T (fuel + 1) false listed a w:=
 wpAnyL_first hi hT (Bool.and_eq_true_iff.1 hwt).1 (Region.noSelect_spec hs) hQ fuel listed a w (closed_of (Bool.and_eq_true_iff.1 hwt).2) (Region.free_spec hi hf) (List.contains_iff_mem.1 hr) (.inl ⟨hw,hy⟩) (Frm.refl F w) h
theorem heldL_takep {b:Bool} {i:Nat} {oi:Oper} {fuel:Nat} {listed:Array Bool} {a:Act} {w:World} (v:Value) (hi:ops[i]?=some oi)
  (hs:Region.noSelect ops=true) (hf:Region.free md ops listed i=true) (hr:(Region.ready md ops listed).contains i=true) (hT:T i=false)
  (hQ:∀ c a w,Q (.panic c) (a.put oi.dst v) w→Q (.panic c) a w) (hw:Region.wanted oi (yielded ops a.tmps)=true) (hy:∀ w',(execOp a.eval oi).run P w'=.ok (.value v) w')
  (h:wpAnyL P md ops Q (Frm F w) T fuel b (listed.setIfInBounds i true) (a.put oi.dst v) w):wpAnyL P md ops Q (Frm F w) T (fuel + 1) b listed a w:=
 wpAnyL_firstP hi hT (Region.noSelect_spec hs) hQ fuel b listed a w (Region.free_spec hi hf) (List.contains_iff_mem.1 hr) (.inl ⟨hw,fun w' _=>hy w'⟩) (fun _=>Frm.refl F w) h
theorem heldL_all {rs:List Nat} {fuel:Nat} {b:Bool} {listed:Array Bool} {a:Act} {w:World} (hr:Region.ready md ops listed=rs) (hne:rs≠[])
  (h:∀ i∈rs,wpOp P ops Q i (fun a' w'=>((b || T i)=false→S w')∧wpAnyL P md ops Q S T fuel (b || T i) (listed.setIfInBounds i true) a' w') a w):wpAnyL P md ops Q S T (fuel + 1) b listed a w:=
 ⟨fun h0=>absurd (hr.symm.trans h0) hne,fun i hi=>h i (hr ▸ hi)⟩
theorem allL_nil {p:Nat→Prop}:∀ i∈([]:List Nat),p i:=fun _ h=>by cases h
theorem allL_cons {p:Nat→Prop} {i:Nat} {rs:List Nat} (h:p i) (hs:∀ j∈rs,p j):∀ j∈i :: rs,p j:=fun j hj=>by
 rcases List.mem_cons.1 hj with rfl | hj
 ·exact h
 ·exact hs j hj
theorem heldL_step {i:Nat} {oi:Oper} {fuel:Nat} {listed:Array Bool} {a:Act} {w:World} (hi:ops[i]?=some oi) (hT:T i=false) (hw:Region.wanted oi (yielded ops a.tmps)=true)
  (h:∀ K':Act→World→Prop,Shut (∀ a' w',Frm F w w'→wpAnyL P md ops Q (Frm F w') T fuel false (listed.setIfInBounds i true) a' w'→K' a' w')→Oper.wp P oi a w K' Q) :
  wpOp P ops Q i (fun a' w'=>((false || T i)=false→Frm F w w')∧wpAnyL P md ops Q (Frm F w) T fuel (false || T i) (listed.setIfInBounds i true) a' w') a w:=by
 unfold wpOp
 simp only[hi,hw,if_true]
 refine .inl (h _ (fun a' w' hf hk=>⟨fun _=>hf,?_⟩))
 rw[Bool.false_or,hT]
 exact wpAnyL_sub (fun W hW=>hf.trans hW) _ _ _ _ _ hk
theorem heldL_write {b:Bool} {i:Nat} {oi:Oper} {fuel:Nat} {listed:Array Bool} {a:Act} {w:World} (hi:ops[i]?=some oi) (hT:(b || T i)=true) (hw:Region.wanted oi (yielded ops a.tmps)=true)
  (h:∀ K':Act→World→Prop,Shut (∀ a' w',wpAnyL P md ops Q S T fuel true (listed.setIfInBounds i true) a' w'→K' a' w')→Oper.wp P oi a w K' Q) :
  wpOp P ops Q i (fun a' w'=>((b || T i)=false→S w')∧wpAnyL P md ops Q S T fuel (b || T i) (listed.setIfInBounds i true) a' w') a w:=by
 unfold wpOp
 simp only[hi,hw,if_true]
 rw[hT]
 exact .inl (h _ (fun a' w' hk=>⟨(fun h0=>by cases h0),hk⟩))
theorem heldL_done {b:Bool} {listed:Array Bool} {a:Act} {w:World} (hr:Region.ready md ops listed=[]) (h:Q .normal a w):∀ fuel,wpAnyL P md ops Q S T fuel b listed a w
 | 0=>⟨hr,h⟩
 | _ + 1=>⟨fun _=>h,fun i hi=>by rw[hr] at hi;cases hi⟩
theorem htL (i:Nat) {oi:Oper} {fuel:Nat} {listed:Array Bool} {a:Act} {w:World} (v:Value) (hy:∀ w',Frm F w w'→(execOp a.eval oi).run P w'=.ok (.value v) w')
  (h:wpAnyL P md ops Q (Frm F w) T fuel false (listed.setIfInBounds i true) (a.put oi.dst v) w) (hi:ops[i]?=some oi:=by rfl) (hb:(Region.noSelect ops && Region.free md ops listed i && (Region.ready md ops listed).contains i && !T i && (waitsB md ops T i && closedB md ops listed))=true:=by kernel_rfl)
  (hQ:∀ c a w,Q (.panic c) (a.put oi.dst v) w→Q (.panic c) a w:=by exact fun _ _ _ h=>h) (hw:Region.wanted oi (yielded ops a.tmps)=true:=by rfl):wpAnyL P md ops Q (Frm F w) T (fuel + 1) false listed a w:=by
 obtain⟨h1,h2⟩:=Bool.and_eq_true_iff.1 hb
 simp only[Bool.and_eq_true,Bool.not_eq_true'] at h1
 exact heldL_take v hi h1.1.1.1 h1.1.1.2 h1.1.2 h1.2 h2 hQ hw hy h
theorem htP {b:Bool} (i:Nat) {oi:Oper} {fuel:Nat} {listed:Array Bool} {a:Act} {w:World} (v:Value) (hy:∀ w',(execOp a.eval oi).run P w'=.ok (.value v) w')
  (h:wpAnyL P md ops Q (Frm F w) T fuel b (listed.setIfInBounds i true) (a.put oi.dst v) w) (hi:ops[i]?=some oi:=by rfl) (hb:(Region.noSelect ops && Region.free md ops listed i && (Region.ready md ops listed).contains i && !T i)=true:=by kernel_rfl)
  (hQ:∀ c a w,Q (.panic c) (a.put oi.dst v) w→Q (.panic c) a w:=by exact fun _ _ _ h=>h) (hw:Region.wanted oi (yielded ops a.tmps)=true:=by rfl):wpAnyL P md ops Q (Frm F w) T (fuel + 1) b listed a w:=by
 simp only[Bool.and_eq_true,Bool.not_eq_true'] at hb
 exact heldL_takep v hi hb.1.1.1 hb.1.1.2 hb.1.2 hb.2 hQ hw hy h
theorem honL (i:Nat) {fuel:Nat} {b:Bool} {listed:Array Bool} {a:Act} {w:World}
  (h:wpOp P ops Q i (fun a' w'=>((b || T i)=false→S w')∧wpAnyL P md ops Q S T fuel (b || T i) (listed.setIfInBounds i true) a' w') a w) (hr:Region.ready md ops listed=[i]:=by kernel_rfl):wpAnyL P md ops Q S T (fuel + 1) b listed a w:=
 heldL_all hr (by simp) (allL_cons h allL_nil)
theorem hcL {i:Nat} {oi:Oper} {fuel:Nat} {listed:Array Bool} {a:Act} {w:World} (v:Value) (hy:∀ w',Frm F w w'→(execOp a.eval oi).run P w'=.ok (.value v) w')
  (h:Cnt (i + 1) (wpAnyL P md ops Q (Frm F w) T fuel false (listed.setIfInBounds i true) (a.put oi.dst v) w)) (hi:ops[i]?=some oi:=by rfl) (hb:(Region.noSelect ops && Region.free md ops listed i && (Region.ready md ops listed).contains i && !T i && (waitsB md ops T i && closedB md ops listed))=true:=by kernel_rfl)
  (hQ:∀ c a w,Q (.panic c) (a.put oi.dst v) w→Q (.panic c) a w:=by exact fun _ _ _ h=>h) (hw:Region.wanted oi (yielded ops a.tmps)=true:=by rfl):Cnt i (wpAnyL P md ops Q (Frm F w) T (fuel + 1) false listed a w):=
 htL i v hy h hi hb hQ hw
theorem hcP {b:Bool} {i:Nat} {oi:Oper} {fuel:Nat} {listed:Array Bool} {a:Act} {w:World} (v:Value) (hy:∀ w',(execOp a.eval oi).run P w'=.ok (.value v) w')
  (h:Cnt (i + 1) (wpAnyL P md ops Q (Frm F w) T fuel b (listed.setIfInBounds i true) (a.put oi.dst v) w)) (hi:ops[i]?=some oi:=by rfl) (hb:(Region.noSelect ops && Region.free md ops listed i && (Region.ready md ops listed).contains i && !T i)=true:=by kernel_rfl)
  (hQ:∀ c a w,Q (.panic c) (a.put oi.dst v) w→Q (.panic c) a w:=by exact fun _ _ _ h=>h) (hw:Region.wanted oi (yielded ops a.tmps)=true:=by rfl):Cnt i (wpAnyL P md ops Q (Frm F w) T (fuel + 1) b listed a w):=
 htP i v hy h hi hb hQ hw
end
end Go.Proofs.YtemjlpahohmajaaGreat
namespace Go.Proofs.YtemjlpahohmajaaGreat
open Go.RowKit Go.BigFrame
theorem clone_own {α:Type} {k:Nat} {At:World→Nat→Nat→α→Prop} {t e ty:TypeId} {z:Value} {bytes:Nat} (ht:Tryz.prog.underlying t=some (.slice e)) (hi:(Tryz.prog.info? e).map (fun i=>(i.zero,i.size,i.bytes))=some (some z,k,bytes))
  (hzs:z.cells.size=k) (hk:0 < k) (hb:bytes≤1000) (hM:Movable k At) {ao:Option Addr} {cap d:Nat} {xs:List α} {w:World} (h:Arr k At w (.slice ao xs.length cap) xs) (hl:xs.length≤100000) (hd:w.heap[d]?=some (.cells #[] e (0,0))) :
  ∃ ao' cap' w',(Builtin.append_ #[t,t] ty #[.slice (some ⟨d,0,none⟩) 0 0,.slice ao xs.length cap]).run Tryz.prog w=.ok (.slice ao' xs.length cap') w'∧Arr k At w' (.slice ao' xs.length cap') xs∧Frm [] w w'∧∃ news,w'.ownsRow d e k (.slice ao' xs.length cap') xs.length news:=by
 cases hx:xs with
 | nil =>
   subst hx
   obtain⟨i0,hi0,hz0,hz1,hz2⟩:=info_parts hi
   refine⟨some ⟨d,0,none⟩,0,w,?_,Arr.nil _ _ _,Frm.refl _ _,[],by simp,.inr ⟨d,0,#[],rfl,Nat.le_refl _,hd,Nat.le_refl _,Nat.zero_le _,by simp,by simp⟩⟩
   cases ao with
   | none=>exact run_append_nothing w t t ty e i0 ht hi0 (some ⟨d,0,none⟩) 0 0 (Nat.le_refl _) _ (Src.ofNil w ht cap)
   | some ad=>exact run_append_nothing w t t ty e i0 ht hi0 (some ⟨d,0,none⟩) 0 0 (Nat.le_refl _) _ (Src.ofSlice w ht ad 0 cap [] (by simp) (fun j u hu=>by simp at hu) (by simp))
 | cons x l =>
   rw[← hx]
   obtain⟨ao',cap',w',hrun,hr⟩:=clone_run (ty:=ty) (d:=d) ht hi hzs hk hb hM h hl
   rcases hr.own with e0 | ⟨news,ho⟩
   ·rw[hx] at e0;cases e0
   ·exact⟨ao',cap',w',hrun,hr.arr,hr.frm,news,own_low ho (Nat.le_of_lt (lt_of_block hd))⟩
end Go.Proofs.YtemjlpahohmajaaGreat
