/- Part of the proof. -/
import Derived.Test.YtohfkhjlnlahdaaGreatQ11
import Derived.Test.YtohfkhjlnlahdaaGreatQ21
import Derived.Test.YtohfkhjlnlahdaaGreatQ01
import Derived.Deep.RegionHeld3
import Derived.Test.YtohfkhjlnlahdaaGreatQ04
import Derived.Test.YtohfkhjlnlahdaaGreatQ24
import Derived.Test.YtohfkhjlnlahdaaGreatQ17
import Derived.Lib.Builder
import Derived.Laws.OwnMore
import Derived.Maps.OwnSet
import Derived.Maps.OwnOps
import Derived.Laws.StructEq
import Derived.Laws.EntriesVeiled
import Derived.Laws.Concat
import Derived.Sort.CutIn
import Derived.OrdersIn
import Derived.Shelf.SortM.Plain
import Derived.Shelf.SortM.SortNone
import Derived.Lib.AppendStr
import Derived.Test.YtohfkhjlnlahdaaGreatQ16
import Derived.LoopTactic
import Derived.Test.YtohfkhjlnlahdaaGreatQ15
import Derived.RangeFuncNested
import Derived.RangeFuncLeaves
import Derived.RangeFuncCalls
import Derived.RangeFuncBound
import Derived.OwnWalkIn
import Derived.TacticsInMore
import Derived.LoopNIn
import Derived.LoopIn
set_option linter.all false
namespace Go.Proofs.YtohfkhjlnlahdaaGreat
open Go
section
variable {s:SesD} {x:PS}
theorem mem_hits {m:ByteArray} {i k:Nat} {l:List (Nat × ByteArray)} {v:Mv}:v∈eI m i k l↔∃ e∈l,e.2=m∧v=⟨1,i,k,e.1⟩:=by
 unfold eI
 rw[List.mem_filterMap]
 constructor
 ·rintro⟨e,A,a⟩
  split at a
  ·rename_i h;exact⟨e,A,h,by simpa using a.symm⟩
  ·cases a
 ·rintro⟨e,A,h,rfl⟩
  exact⟨e,A,by rw[if_pos h]⟩
theorem mem_movesP {v:Mv}:v∈aN s x↔(∃ i k,i<s.roles.length∧k<(s.rol i).steps.length∧v∈be s x i k)∨(∃ i k,i<s.roles.length∧k<s.roles.length∧v∈bP s x i k):=by
 unfold aN
 rw[List.mem_append,gH,gH]
 simp only[gH]
 constructor
 ·rintro(⟨i,a,k,h,A⟩ | ⟨i,a,k,h,A⟩)
  ·exact .inl ⟨i,k,a,h,A⟩
  ·exact .inr ⟨i,k,a,h,A⟩
 ·rintro(⟨i,k,a,h,A⟩ | ⟨i,k,a,h,A⟩)
  ·exact .inl ⟨i,a,k,h,A⟩
  ·exact .inr ⟨i,a,k,h,A⟩
theorem dt {v:Mv} {i k:Nat} (a:v∈be s x i k):v.kind=1∧v.role=i∧v.step=k∧dL s x i k=true ∧
  (((s.rol i).stp k).kind=2→∃ p:Nat,v.place=p∧(p,((s.rol i).stp k).msg)∈cX s.cls (x.way (bd s ((s.rol i).stp k)) i) (x.way (bd s ((s.rol i).stp k)) i).length) ∧
  (((s.rol i).stp k).kind≠2→v.place=0)∧(((s.rol i).stp k).kind=1→((x.way i (bd s ((s.rol i).stp k))).length:Int)<s.cap):=by
 unfold be at a
 cases hp:dL s x i k with
 | false=>rw[if_pos hp] at a;cases a
 | true =>
   rw[if_neg (by rw[hp];decide)] at a
   by_cases h2:((s.rol i).stp k).kind=2
   ·rw[if_pos h2] at a
    obtain⟨e,H,G,rfl⟩:=mem_hits.1 a
    exact⟨rfl,rfl,rfl,rfl,fun _=>⟨e.1,rfl,by rw[← G];exact H⟩,fun h=>absurd h2 h,fun h=>by rw[h2] at h;cases h⟩
   ·rw[if_neg h2] at a
    split at a
    ·cases a
    ·rename_i h
     simp only[List.mem_singleton] at a
     subst a
     exact⟨rfl,rfl,rfl,rfl,fun A=>absurd A h2,fun _=>rfl,fun A=>by
      rcases Int.lt_or_le ((x.way i (bd s ((s.rol i).stp k))).length:Int) s.cap with E | E
      ·exact E
      ·exact absurd ⟨A,E⟩ h⟩
theorem mem_loseMv {v:Mv} {i k:Nat}:v∈bP s x i k↔v=⟨2,i,k,0⟩∧s.cls=3∧0<(x.way i k).length:=by
 unfold bP
 split
 ·rename_i a;simp[a]
 ·rename_i a
  exact⟨fun h=>absurd h (by simp),fun h=>absurd h.2 a⟩
theorem kE {cls:Int} {L:List ByteArray} {p:Int}:(dG cls L p).length≤L.length∧∀ m∈dG cls L p,m∈L:=by
 unfold dG
 split
 ·exact⟨List.length_eraseIdx_le _ _,fun m a=>List.mem_of_mem_eraseIdx a⟩
 ·exact⟨Nat.le_refl _,fun m a=>a⟩
theorem qk {cls:Int} {L:List ByteArray}:(eZ cls L).length≤L.length∧∀ m∈eZ cls L,m∈L:=by
 unfold eZ
 split
 ·exact kE
 ·exact⟨Nat.le_refl _,fun m a=>a⟩
theorem tF (H:SesOk s) (N:PSok s x) {i k:Nat} (A:i<s.roles.length) (K:k<(s.rol i).steps.length) :
  (cJ (s.rol i).ctrs (x.bank i) ((s.rol i).stp k)).length=(s.rol i).ctrs.length ∧
  (bY (s.rol i).ctrs (x.bank i) ((s.rol i).stp k)=true→∀ (j:Nat) (c:CtrD),(s.rol i).ctrs[j]?=some c→0≤(cJ (s.rol i).ctrs (x.bank i) ((s.rol i).stp k)).getD j 0∧(cJ (s.rol i).ctrs (x.bank i) ((s.rol i).stp k)).getD j 0≤c.lim):=by
 obtain⟨E,hb⟩:=N.vb i A
 unfold cJ bY
 by_cases he:((s.rol i).stp k).ctr=aG
 ·rw[if_pos he];exact⟨E,fun _=>hb⟩
 ·rw[if_neg he,if_neg he]
  refine⟨by rw[List.length_set];exact E,fun a j c h=>?_⟩
  obtain⟨n,d,G,O,-⟩:=(H.stp A K).ctr he
  rw[G] at a ⊢
  simp only[Int.toNat_natCast,Bool.and_eq_true] at a ⊢
  rw[List.getD_eq_getElem?_getD,List.getElem?_set]
  by_cases hn:n=j
  ·subst hn
   have R:=ag h
   rw[if_pos rfl,if_pos (by omega)]
   have J:(s.rol i).ctrs.getD n dC=c:=aW h
   rw[J] at a
   have I:=a.2
   simp only[cD,Bool.and_eq_true,decide_eq_true_eq] at I
   simp only[Option.getD_some]
   constructor <;> omega
  ·rw[if_neg hn,← List.getD_eq_getElem?_getD]
   exact hb j c h
theorem fj (J:SesOk s) (a:PSok s x) {v:Mv} (ak:v∈aN s x):PSok s (bh s x v):=by
 rcases mem_movesP.1 ak with ⟨i,k,A,E,h⟩ | ⟨i,k,A,E,h⟩
 ·obtain⟨ab,W,I,O,al,am,ad⟩:=dt h
  have X:=J.stp A E
  obtain⟨Y,N⟩:=tF J a A E
  have ah:bY (s.rol i).ctrs (x.bank i) ((s.rol i).stp k)=true:=by
   unfold dL at O;rw[Bool.and_eq_true] at O;exact O.1
  have N:=N ah
  have af:∀ V,PSok s { x with ways:=V }→PSok s { pos:=x.pos.set i (bK (s.rol i) ((s.rol i).stp k).to).toNat,vals:=x.vals.set i (cJ (s.rol i).ctrs (x.bank i) ((s.rol i).stp k)),ways:=V }:=by
   intro V K
   refine⟨by simpa using a.pl,fun j R=>?_,by simpa using a.vl,fun j R=>?_,K.wl,K.wr,K.wb,K.wd⟩
   ·show (x.pos.set i _).getD j 0<_
    rw[List.getD_eq_getElem?_getD,List.getElem?_set]
    by_cases e:i=j
    ·subst e
     rw[if_pos rfl,if_pos (by rw[a.pl];exact A)]
     obtain⟨q,ai,aj⟩:=cO X.to
     have aa:bK (s.rol i) ((s.rol i).stp k).to=q:=ai
     rw[aa]
     simpa using aj
    ·rw[if_neg e,← List.getD_eq_getElem?_getD];exact a.pb j R
   ·show ((x.vals.set i _).getD j []).length=_∧∀ (k:Nat) (c:CtrD),_→0≤((x.vals.set i _).getD j []).getD k 0∧((x.vals.set i _).getD j []).getD k 0≤_
    have ae:(x.vals.set i (cJ (s.rol i).ctrs (x.bank i) ((s.rol i).stp k))).getD j []=if i=j then cJ (s.rol i).ctrs (x.bank i) ((s.rol i).stp k) else x.bank j:=by
     rw[List.getD_eq_getElem?_getD,List.getElem?_set]
     by_cases e:i=j
     ·subst e;rw[if_pos rfl,if_pos (by rw[a.vl];exact A),if_pos rfl];rfl
     ·rw[if_neg e,if_neg e,← List.getD_eq_getElem?_getD];rfl
    rw[ae]
    by_cases e:i=j
    ·subst e;rw[if_pos rfl];exact⟨Y,N⟩
    ·rw[if_neg e];exact a.vb j R
  unfold bh
  rw[if_neg (by rw[ab];decide),W,I,Int.toNat_natCast,Int.toNat_natCast]
  apply af
  by_cases k1:((s.rol i).stp k).kind=1
  ·rw[if_pos k1]
   obtain⟨-,H,S⟩:=J.peer A E (by omega)
   refine a.set A H (fun e=>S e.symm) ?_
   obtain⟨U,G⟩:=a.wb i _ A H
   unfold gv
   split
   ·refine⟨by rw[List.length_append];simp;have:=ad k1;omega,fun m h=>?_⟩
    rcases List.mem_append.1 h with h | h
    ·exact G m h
    ·rw[List.mem_singleton] at h;subst h;exact X.msg (by omega)
   ·exact⟨U,G⟩
  ·rw[if_neg k1]
   by_cases k2:((s.rol i).stp k).kind=2
   ·rw[if_pos k2]
    obtain⟨-,H,S⟩:=J.peer A E (by omega)
    refine a.set H A S ?_
    obtain⟨U,G⟩:=a.wb _ i H A
    have:=kE (cls:=s.cls) (L:=x.way (bd s ((s.rol i).stp k)) i) (p:=v.place)
    exact⟨by omega,fun m h=>G m (this.2 m h)⟩
   ·rw[if_neg k2];exact a
 ·obtain⟨rfl,W,I⟩:=mem_loseMv.1 h
  unfold bh
  rw[if_pos rfl,Int.toNat_natCast,Int.toNat_natCast]
  have ag:i≠k:=fun e=>by subst e;rw[a.wd] at I;simp at I
  refine a.set A E ag ?_
  obtain⟨U,G⟩:=a.wb i k A E
  have:=qk (cls:=s.cls) (L:=x.way i k)
  exact⟨by omega,fun m h=>G m (this.2 m h)⟩
theorem ii (s:SesD) (i k:Nat):(bg s).way i k=[]:=by
 show ((s.roles.map fun _=>s.roles.map fun _=>([]:List ByteArray)).getD i []).getD k []=[]
 simp only[List.getD_eq_getElem?_getD,List.getElem?_map]
 cases s.roles[i]? with
 | none=>simp
 | some r=>simp only[Option.map_some,Option.getD_some,List.getElem?_map];cases s.roles[k]? <;> simp
theorem gF (h:SesOk s):PSok s (bg s):=by
 refine⟨by simp[bg],fun i a=>?_,by simp[bg],fun i a=>?_,by simp[bg],fun i a=>?_,fun i k _ _=>?_,fun i=>ii s i i⟩
 ·have e:(bg s).at i=0:=by
   show (s.roles.map fun _=>0).getD i 0=0
   simp only[List.getD_eq_getElem?_getD,List.getElem?_map];cases s.roles[i]? <;> simp
  rw[e]
  exact(h.at a).s1
 ·have e:(bg s).bank i=(s.rol i).ctrs.map fun _=>0:=by
   show (s.roles.map fun r=>r.ctrs.map fun _=>(0:Int)).getD i []=_
   rw[List.getD_eq_getElem?_getD,List.getElem?_map,SesD.rol_some a];rfl
  rw[e]
  refine⟨by simp,fun k c A=>?_⟩
  have:=(h.at a).cN c (List.mem_of_getElem? A)
  rw[List.getD_eq_getElem?_getD,List.getElem?_map,A]
  exact⟨by simp,by simp;omega⟩
 ·show ((s.roles.map fun _=>s.roles.map fun _=>([]:List ByteArray)).getD i []).length=_
  rw[List.getD_eq_getElem?_getD,List.getElem?_map,SesD.rol_some a];simp
 ·rw[ii];exact⟨by simp;have:=h.k1;omega,by simp⟩
theorem chl_iff {cls:Int} {L:List ByteArray} {p:Nat} {m:ByteArray}:(p,m)∈cX cls L L.length↔cK cls L p=true∧dm cls L p=m:=by
 have H:(p,m)∈cX cls L L.length↔p<L.length∧chc cls L p=true∧L.getD p ByteArray.empty=m:=by
  constructor
  ·intro G
   obtain⟨a,h⟩:=kS _ G
   have:=(gI L.length).1 (show p∈chp cls L L.length from List.mem_map.2 ⟨_,G,rfl⟩)
   exact⟨a,this.2,h.symm⟩
  ·rintro⟨a,h,rfl⟩
   obtain⟨rest,I⟩:=ky a h
   rw[I];simp
 have E:cK cls L p=true↔p<L.length∧chc cls L p=true:=by
  unfold cK
  simp
 rw[H,E]
 constructor
 ·rintro⟨a,h,A⟩
  refine⟨⟨a,h⟩,?_⟩
  unfold dm
  rw[if_pos (E.2 ⟨a,h⟩)]
  simpa using A
 ·rintro⟨⟨a,h⟩,A⟩
  refine⟨a,h,?_⟩
  unfold dm at A
  rw[if_pos (E.2 ⟨a,h⟩)] at A
  simpa using A
theorem step_iff {i k:Nat} {p:Int}:(⟨1,i,k,p⟩:Mv)∈be s x i k↔dL s x i k=true ∧
  (if ((s.rol i).stp k).kind=2 then cZ s.cls (x.way (bd s ((s.rol i).stp k)) i) p=0∧dm s.cls (x.way (bd s ((s.rol i).stp k)) i) p=((s.rol i).stp k).msg
   else p=0∧(((s.rol i).stp k).kind=1→((x.way i (bd s ((s.rol i).stp k))).length:Int)<s.cap)):=by
 constructor
 ·intro N
  obtain⟨-,-,-,H,I,J,K⟩:=dt N
  refine⟨H,?_⟩
  split
  ·rename_i a
   obtain⟨q,U,R⟩:=I a
   obtain rfl:p=q:=U
   obtain⟨h,A⟩:=chl_iff.1 R
   exact⟨by unfold cZ;rw[if_pos h],A⟩
  ·rename_i a
   exact⟨J a,K⟩
 ·rintro⟨O,a⟩
  unfold be
  rw[if_neg (by rw[O];decide)]
  split at a
  ·rename_i E
   rw[if_pos E,mem_hits]
   have G:cK s.cls (x.way (bd s ((s.rol i).stp k)) i) p=true:=by
    have:=a.1
    unfold cZ at this
    split at this
    ·assumption
    ·cases this
   have S:0≤p:=by
    have h:=G
    unfold cK at h
    simp only[Bool.and_eq_true,decide_eq_true_eq] at h
    exact h.1.1
   obtain⟨q,rfl⟩:=Int.eq_ofNat_of_zero_le S
   exact⟨_,chl_iff.2 ⟨G,a.2⟩,rfl,rfl⟩
  ·rename_i E
   obtain⟨rfl,h⟩:=a
   rw[if_neg E,if_neg (fun A=>by have:=h A.1;omega)]
   simp
def doB (s:SesD) (x:PS) (v:Mv):Bool:=
 if v.role<0∨(s.roles.length:Int)≤v.role∨v.step<0 then false
 else if v.kind=2 then
  (if (s.roles.length:Int)≤v.step∨v.step=v.role∨v.place≠0 then false else decide (fJ s.cls (x.way v.role.toNat v.step.toNat)=0))
 else if v.kind≠1∨((s.rol v.role.toNat).steps.length:Int)≤v.step then false
 else if dL s x v.role.toNat v.step.toNat=false then false
 else if ((s.rol v.role.toNat).stp v.step.toNat).kind=2 then
  decide (cZ s.cls (x.way (bd s ((s.rol v.role.toNat).stp v.step.toNat)) v.role.toNat) v.place=0∧dm s.cls (x.way (bd s ((s.rol v.role.toNat).stp v.step.toNat)) v.role.toNat) v.place=((s.rol v.role.toNat).stp v.step.toNat).msg)
 else if ((s.rol v.role.toNat).stp v.step.toNat).kind=1 then
  decide (eq s.cap (x.way v.role.toNat (bd s ((s.rol v.role.toNat).stp v.step.toNat))) ((s.rol v.role.toNat).stp v.step.toNat).msg=0∧v.place=0)
 else decide (v.place=0)
theorem lose_iff {cls:Int} {L:List ByteArray}:fJ cls L=0↔cls=3∧0<L.length:=by
 unfold fJ
 by_cases h:cls=3
 ·subst h
  rw[if_pos rfl]
  unfold cZ cK
  cases L with
  | nil=>simp
  | cons a L=>simp[chc]
 ·rw[if_neg h];simp[h]
theorem pr (h:SesOk s) (E:PSok s x) {i k:Nat} (a:i<s.roles.length) (A:k<(s.rol i).steps.length) (J:((s.rol i).stp k).kind=1) :
  eq s.cap (x.way i (bd s ((s.rol i).stp k))) ((s.rol i).stp k).msg=0↔((x.way i (bd s ((s.rol i).stp k))).length:Int)<s.cap:=by
 have H:=(h.stp a A).msg (by omega)
 obtain⟨-,G,-⟩:=h.peer a A (by omega)
 have I:=(E.wb i _ a G).1
 unfold eq
 rw[if_neg (by omega)]
 split
 ·rename_i e;simp;omega
 ·rename_i e;simp;omega
theorem gk (S:SesOk s) (R:PSok s x) (v:Mv):doB s x v=true↔v∈aN s x:=by
 rw[mem_movesP]
 constructor
 ·intro a
  unfold doB at a
  by_cases h1:v.role<0∨(s.roles.length:Int)≤v.role∨v.step<0
  ·rw[if_pos h1] at a;cases a
  ·rw[if_neg h1] at a
   obtain⟨i,h⟩:=Int.eq_ofNat_of_zero_le (show 0≤v.role by omega)
   obtain⟨k,A⟩:=Int.eq_ofNat_of_zero_le (show 0≤v.step by omega)
   obtain⟨N,V,W,U⟩:=v
   simp only at h A h1 a
   subst h
   subst A
   simp only[Int.toNat_natCast] at a
   by_cases h2:N=2
   ·subst h2
    rw[if_pos rfl] at a
    split at a
    ·cases a
    ·rename_i O
     rw[decide_eq_true_eq,lose_iff] at a
     obtain rfl:U=0:=by omega
     exact .inr ⟨i,k,by omega,by omega,mem_loseMv.2 ⟨rfl,a⟩⟩
   ·rw[if_neg h2] at a
    by_cases O:N≠1∨((s.rol i).steps.length:Int)≤k
    ·rw[if_pos O] at a;cases a
    ·rw[if_neg O] at a
     obtain rfl:N=1:=by omega
     have h:i<s.roles.length:=by omega
     have A:k<(s.rol i).steps.length:=by omega
     by_cases I:dL s x i k=false
     ·rw[if_pos I] at a;cases a
     ·rw[if_neg I] at a
      refine .inl ⟨i,k,h,A,step_iff.2 ⟨by simpa using I,?_⟩⟩
      by_cases k2:((s.rol i).stp k).kind=2
      ·rw[if_pos k2] at a ⊢
       exact of_decide_eq_true a
      ·rw[if_neg k2] at a ⊢
       by_cases k1:((s.rol i).stp k).kind=1
       ·rw[if_pos k1] at a
        obtain⟨J,E⟩:=of_decide_eq_true a
        exact⟨E,fun _=>(pr S R h A k1).1 J⟩
       ·rw[if_neg k1] at a
        exact⟨of_decide_eq_true a,fun e=>absurd e k1⟩
 ·rintro(⟨i,k,h,A,K⟩ | ⟨i,k,h,A,K⟩)
  ·obtain⟨J,E,G,-⟩:=dt K
   obtain⟨N,V,W,U⟩:=v
   simp only at J E G
   subst J
   subst E
   subst G
   obtain⟨I,H⟩:=step_iff.1 K
   unfold doB
   rw[if_neg (by simp only;omega),if_neg (by simp),if_neg (by simp only[Int.toNat_natCast];omega)]
   simp only[Int.toNat_natCast]
   rw[if_neg (by rw[I];decide)]
   by_cases k2:((s.rol i).stp k).kind=2
   ·rw[if_pos k2] at H ⊢
    exact decide_eq_true H
   ·rw[if_neg k2] at H ⊢
    by_cases k1:((s.rol i).stp k).kind=1
    ·rw[if_pos k1]
     exact decide_eq_true ⟨(pr S R h A k1).2 (H.2 k1),H.1⟩
    ·rw[if_neg k1]
     exact decide_eq_true H.1
  ·obtain⟨rfl,E,G⟩:=mem_loseMv.1 K
   have X:i≠k:=fun e=>by subst e;rw[R.wd] at G;simp at G
   unfold doB
   rw[if_neg (by simp only;omega),if_pos rfl,if_neg (by simp only;omega)]
   exact decide_eq_true (lose_iff.2 ⟨E,G⟩)
def oE (s:SesD) (x:PS):List Mv:=
 cat (fun i=>cat (fun k=>cat (fun p=>if doB s x ⟨1,i,k,p⟩=true then [⟨1,i,k,p⟩] else []) s.cap.toNat) (s.rol i).steps.length) s.roles.length ++
 cat (fun i=>cat (fun k=>if doB s x ⟨2,i,k,0⟩=true then [⟨2,i,k,0⟩] else []) s.roles.length) s.roles.length
theorem mM (m:ByteArray) (i k:Nat) (a b:List (Nat × ByteArray)):eI m i k (a++b)=eI m i k a++eI m i k b:=by
 unfold eI;rw[List.filterMap_append]
theorem mN (m:ByteArray) (i k:Nat) (cls:Int) (L:List ByteArray):∀ n,n≤L.length →
  eI m i k (cX cls L n)=cat (fun p=>if cZ cls L p=0∧dm cls L p=m then [(⟨1,i,k,p⟩:Mv)] else []) n
 | 0,_=>rfl
 | n+1,h=>by
   rw[cX,mM,cat,mN m i k cls L n (by omega)]
   congr 1
   have a:cK cls L (n:Int)=chc cls L n:=by
    unfold cK
    rw[decide_eq_true (by omega)];simp
   cases hc:chc cls L n with
   | true =>
     rw[if_pos rfl]
     unfold cZ dm
     rw[a,hc]
     simp[eI]
     split <;> simp[*]
   | false =>
     rw[if_neg (by decide),if_neg]
     ·rfl
     ·unfold cZ;rw[a,hc];simp
theorem jF {α:Type} {f:Nat→List α} {n:Nat}:∀ {m:Nat},n≤m→(∀ k,n≤k→k<m→f k=[])→cat f m=cat f n
 | 0,h,_=>by obtain rfl:n=0:=by omega
             rfl
 | m+1,h,hn=>by
   by_cases e:n=m+1
   ·subst e;rfl
   ·rw[cat,hn m (by omega) (by omega),List.append_nil]
    exact jF (by omega) (fun k a A=>hn k a (by omega))
theorem tG {α:Type} {f:Nat→List α} {m:Nat} (a:1≤m) (h:∀ k,1≤k→k<m→f k=[]):cat f m=f 0:=by
 rw[jF a h];rfl
theorem gC {α:Type} {p q:Prop} [Decidable p] [Decidable q] (h:p↔q) (a b:α):(if p then a else b)=if q then a else b:=by
 by_cases hp:p
 ·rw[if_pos hp,if_pos (h.1 hp)]
 ·rw[if_neg hp,if_neg (fun A=>hp (h.2 A))]
theorem sg {i k:Nat} {p:Int} (G:SesOk s) (J:PSok s x) (H:i<s.roles.length) (I:k<(s.rol i).steps.length):doB s x ⟨1,i,k,p⟩=true↔(⟨1,i,k,p⟩:Mv)∈be s x i k:=by
 rw[gk G J,mem_movesP]
 constructor
 ·rintro(⟨h,b,-,-,a⟩ | ⟨h,b,-,-,a⟩)
  ·obtain⟨-,A,E,-⟩:=dt a
   obtain rfl:i=h:=Int.ofNat.inj A
   obtain rfl:k=b:=Int.ofNat.inj E
   exact a
  ·have:=(mem_loseMv.1 a).1
   cases this
 ·intro a;exact .inl ⟨i,k,H,I,a⟩
theorem ql (a:SesOk s) (N:PSok s x):oE s x=aN s x:=by
 unfold oE aN
 congr 1
 ·refine fi fun i A=>fi fun k G=>?_
  have R:(fun p:Nat=>if doB s x ⟨1,i,k,p⟩=true then [(⟨1,i,k,p⟩:Mv)] else [])=fun p:Nat=>if (⟨1,i,k,p⟩:Mv)∈be s x i k then [(⟨1,i,k,p⟩:Mv)] else []:=by
   funext p
   exact gC (sg a N A G) _ _
  rw[R]
  have X:=a.k1
  cases hp:dL s x i k with
  | false =>
    rw[show be s x i k=[] by unfold be;rw[if_pos hp]]
    exact pt fun p _=>by simp
  | true =>
    by_cases k2:((s.rol i).stp k).kind=2
    ·obtain⟨-,U,-⟩:=a.peer A G (by omega)
     have Y:=(N.wb _ i U A).1
     have H:be s x i k=eI ((s.rol i).stp k).msg i k (cX s.cls (x.way (bd s ((s.rol i).stp k)) i) (x.way (bd s ((s.rol i).stp k)) i).length):=by
      unfold be;rw[if_neg (by rw[hp];decide),if_pos k2]
     have h:(fun p:Nat=>if (⟨1,i,k,p⟩:Mv)∈be s x i k then [(⟨1,i,k,p⟩:Mv)] else []) =
       fun p:Nat=>if cZ s.cls (x.way (bd s ((s.rol i).stp k)) i) p=0∧dm s.cls (x.way (bd s ((s.rol i).stp k)) i) p=((s.rol i).stp k).msg then [(⟨1,i,k,p⟩:Mv)] else []:=by
      funext p
      refine gC ?_ _ _
      rw[step_iff,if_pos k2]
      exact⟨fun a=>a.2,fun a=>⟨hp,a⟩⟩
     rw[h,H,mN _ _ _ _ _ _ (Nat.le_refl _)]
     refine jF (by omega) (fun p S _=>?_)
     rw[if_neg]
     rintro⟨I,-⟩
     unfold cZ cK at I
     rw[decide_eq_false (by omega)] at I
     simp at I
    ·have h:(fun p:Nat=>if (⟨1,i,k,p⟩:Mv)∈be s x i k then [(⟨1,i,k,p⟩:Mv)] else []) =
       fun p:Nat=>if p=0∧(((s.rol i).stp k).kind=1→((x.way i (bd s ((s.rol i).stp k))).length:Int)<s.cap) then [(⟨1,i,k,p⟩:Mv)] else []:=by
      funext p
      refine gC ?_ _ _
      rw[step_iff,if_neg k2]
      exact⟨fun a=>⟨by have:=a.2.1;omega,a.2.2⟩,fun a=>⟨hp,by have:=a.1;omega,a.2⟩⟩
     rw[h,tG (by omega) (fun p S _=>if_neg (by omega))]
     unfold be
     rw[if_neg (c:=dL s x i k=false) (by rw[hp];decide),if_neg k2]
     by_cases h4:((s.rol i).stp k).kind=1∧s.cap≤((x.way i (bd s ((s.rol i).stp k))).length:Int)
     ·rw[if_pos h4,if_neg (fun J=>by have:=J.2 h4.1;omega)]
     ·rw[if_neg h4,if_pos ⟨rfl,fun J=>by
       rcases Int.lt_or_le ((x.way i (bd s ((s.rol i).stp k))).length:Int) s.cap with K | K
       ·exact K
       ·exact absurd ⟨J,K⟩ h4⟩]
      rfl
 ·refine fi fun i A=>fi fun k G=>?_
  unfold bP
  refine gC ?_ _ _
  rw[gk a N,mem_movesP]
  constructor
  ·rintro(⟨O,b,-,-,E⟩ | ⟨O,b,-,-,E⟩)
   ·have:=(dt E).1
    cases this
   ·obtain⟨e,H,h⟩:=mem_loseMv.1 E
    simp only[Mv.mk.injEq,true_and,and_true] at e
    obtain⟨V,W⟩:=e
    obtain rfl:i=O:=by omega
    obtain rfl:k=b:=by omega
    exact⟨H,h⟩
  ·intro E;exact .inr ⟨i,k,A,G,mem_loseMv.2 ⟨rfl,E⟩⟩
end
end Go.Proofs.YtohfkhjlnlahdaaGreat
namespace Go.Proofs.YtohfkhjlnlahdaaGreat
open Go.RowKit Go.BigFrame
theorem iW {α:Type} (p:Nat→α→Bool) (d:α) (l:List α) (A E:Nat):(l.length<A∨E<l.length∨de p 0 l=true)↔0≤hO l.length A E (fun i=>p i (l.getD i d)):=by
 rw[qK (by omega)]
 have e:(∃ i,i<l.length∧p i (l.getD i d)=true)↔de p 0 l=true:=by
  rw[anyIx_iff]
  constructor
  ·rintro⟨i,a,h⟩
   exact⟨i,l.getD i d,bf a,by rw[Nat.zero_add];exact h⟩
  ·rintro⟨i,x,a,h⟩
   rw[Nat.zero_add] at h
   exact⟨i,ag a,by rw[aW a];exact h⟩
 rw[e]
 have G:(l.length<A)↔((l.length:Int)<(A:Int)):=by omega
 have H:(E<l.length)↔((E:Int)<(l.length:Int)):=by omega
 rw[G,H]
def mR (r:RolD):Int:=hO r.ctrs.length 0 4 (fun i=>bZ r i (r.ctrs.getD i dC))
def tJ (r:RolD):Int:=hO r.sts.length 1 24 (fun i=>dn r i (r.sts.getD i dS))
def tK (r:RolD):Int:=hO r.steps.length 0 80 (fun i=>!aY r i (r.steps.getD i dT))
theorem ux (r:RolD):cF r=if aL r.name=false then 290 else if 0≤mR r then 291 else if 0≤tJ r then 292 else if 0≤tK r then 293 else 0:=by
 have G:=iW (bZ r) dC r.ctrs 0 4
 have H:=iW (dn r) dS r.sts 1 24
 have I:=iW (fun i s=>!aY r i s) dT r.steps 0 80
 have h:(4<r.ctrs.length∨de (bZ r) 0 r.ctrs=true)↔0≤mR r:=by
  refine Iff.trans ?_ G
  constructor
  ·exact fun a=>.inr a
  ·rintro(a | a)
   ·omega
   ·exact a
 have E:(80<r.steps.length∨de (fun i s=>!aY r i s) 0 r.steps=true)↔0≤tK r:=by
  refine Iff.trans ?_ I
  constructor
  ·exact fun a=>.inr a
  ·rintro(a | a)
   ·omega
   ·exact a
 have A:(r.sts.length<1∨24<r.sts.length∨de (dn r) 0 r.sts=true)↔0≤tJ r:=H
 unfold cF
 rw[gC h,gC A,gC E]
theorem si {r:RolD} (H:mR r<0):r.ctrs.length≤4∧∀ c∈r.ctrs,1≤c.lim∧c.lim≤1000:=by
 have a:¬ 0≤mR r:=by omega
 rw[show (0≤mR r)↔_ from (iW (bZ r) dC r.ctrs 0 4).symm] at a
 have A:de (bZ r) 0 r.ctrs=false:=by
  cases h:de (bZ r) 0 r.ctrs with
  | false=>rfl
  | true=>exact absurd (.inr (.inr h)) a
 have I:¬ 4<r.ctrs.length:=fun h=>a (.inr (.inl h))
 refine⟨by omega,fun c E=>?_⟩
 obtain⟨k,G⟩:=List.getElem?_of_mem E
 have:=(anyIx_false.1 A) k c G
 unfold bZ at this
 simp only[Bool.or_eq_false_iff,decide_eq_false_iff_not] at this
 omega
end Go.Proofs.YtohfkhjlnlahdaaGreat
namespace Go.Proofs.YtohfkhjlnlahdaaGreat
open Go.RowKit
section
variable {P:Program} {ops:Array Oper} {Q:Exit→Act→World→Prop} {md:Region.Mode} {S S':World→Prop}
theorem jM (H:∀ A,S' A→S A):∀ (a:Nat) (listed:Array Bool) (E:Act) (w:World),wpAnyH P md ops Q S' a listed E w→wpAnyH P md ops Q S a listed E w
 | 0,_,_,_,h=>h
 | a+1,_,_,_,h=>⟨h.1,fun i I=>wpOp_mono (fun a' w' G=>⟨H _ G.1,jM H a _ a' w' G.2⟩) (h.2 i I)⟩
theorem fS {E:Nat} {a:Act} {w:World} (A:P.follows .mixedOrders=true) (h:wpAnyH P .any ops Q (Frm [] w.drew) ops.size (Array.replicate ops.size false) a w.drew):(Code.region E ops true).wp P Q a w:=
 wp_region_held A h
theorem oS {i:Nat} {h:Oper} {A:Nat} {listed:Array Bool} {a:Act} {w:World} (v:Value) (I:ops[i]?=some h)
  (K:Region.noSelect ops=true) (H:Region.free md ops listed i=true) (J:(Region.ready md ops listed).contains i=true)
  (G:∀ c a w,Q (.panic c) (a.put h.dst v) w→Q (.panic c) a w) (N:Region.wanted h (yielded ops a.tmps)=true) (O:∀ w',Frm [] w w'→(execOp a.eval h).run P w'=.ok (.value v) w')
  (E:wpAnyH P md ops Q (Frm [] w) A (listed.setIfInBounds i true) (a.put h.dst v) w):wpAnyH P md ops Q (Frm [] w) (A+1) listed a w:=
 wpAnyH_take I K H J G (.inl ⟨N,O⟩) (Frm.refl _ _) E
theorem oT {i:Nat} {h:Oper} {A:Nat} {listed:Array Bool} {a:Act} {w:World} (I:ops[i]?=some h)
  (K:Region.noSelect ops=true) (H:Region.free md ops listed i=true) (J:(Region.ready md ops listed).contains i=true)
  (G:∀ c a w,Q (.panic c) (a.put h.dst undef) w→Q (.panic c) a w) (N:Region.wanted h (yielded ops a.tmps)=false)
  (E:wpAnyH P md ops Q (Frm [] w) A (listed.setIfInBounds i true) (a.put h.dst undef) w):wpAnyH P md ops Q (Frm [] w) (A+1) listed a w:=
 wpAnyH_take I K H J G (.inr ⟨N,rfl⟩) (Frm.refl _ _) E
theorem oU {i:Nat} {h:Oper} {E:Nat} {listed:Array Bool} {a:Act} {w:World} (K:ops[i]?=some h) (O:Region.ready md ops listed=[i]) (R:Region.wanted h (yielded ops a.tmps)=true)
  (I:∀ A:Act→World→Prop,Shut (∀ a' w',Frm [] w w'→wpAnyH P md ops Q (Frm [] w') E (listed.setIfInBounds i true) a' w'→A a' w')→Oper.wp P h a w A Q):wpAnyH P md ops Q (Frm [] w) (E+1) listed a w:=by
 refine wpAnyH_all O (by simp) (fun j H=>?_)
 simp only[List.mem_singleton] at H
 subst H
 unfold wpOp
 simp only[K,R,if_true]
 exact .inl (I _ (fun a' w' G N=>⟨G,jM (fun U J=>G.trans J) _ _ _ _ N⟩))
theorem tkG (i:Nat) {h:Oper} {E:Nat} {listed:Array Bool} {a:Act} {w:World} (v:Value) (H:∀ w',Frm [] w w'→(execOp a.eval h).run P w'=.ok (.value v) w')
  (A:wpAnyH P md ops Q (Frm [] w) E (listed.setIfInBounds i true) (a.put h.dst v) w) (G:ops[i]?=some h:=by rfl) (hb:(Region.noSelect ops && Region.free md ops listed i && (Region.ready md ops listed).contains i)=true:=by kernel_rfl)
  (hQ:∀ c a w,Q (.panic c) (a.put h.dst v) w→Q (.panic c) a w:=by exact fun _ _ _ A=>A) (hw:Region.wanted h (yielded ops a.tmps)=true:=by rfl):wpAnyH P md ops Q (Frm [] w) (E+1) listed a w:=by
 simp only[Bool.and_eq_true] at hb
 exact oS v G hb.1.1 hb.1.2 hb.2 hQ hw H A
theorem skG (i:Nat) {h:Oper} {E:Nat} {listed:Array Bool} {a:Act} {w:World}
  (A:wpAnyH P md ops Q (Frm [] w) E (listed.setIfInBounds i true) (a.put h.dst undef) w) (G:ops[i]?=some h:=by rfl) (hb:(Region.noSelect ops && Region.free md ops listed i && (Region.ready md ops listed).contains i)=true:=by kernel_rfl)
  (hQ:∀ c a w,Q (.panic c) (a.put h.dst undef) w→Q (.panic c) a w:=by exact fun _ _ _ A=>A) (hw:Region.wanted h (yielded ops a.tmps)=false:=by rfl):wpAnyH P md ops Q (Frm [] w) (E+1) listed a w:=by
 simp only[Bool.and_eq_true] at hb
 exact oT G hb.1.1 hb.1.2 hb.2 hQ hw A
theorem stG (i:Nat) {h:Oper} {E:Nat} {listed:Array Bool} {a:Act} {w:World}
 (G:∀ A:Act→World→Prop,Shut (∀ a' w',Frm [] w w'→wpAnyH P md ops Q (Frm [] w') E (listed.setIfInBounds i true) a' w'→A a' w')→Oper.wp P h a w A Q) (H:ops[i]?=some h:=by rfl)
 (hr:Region.ready md ops listed=[i]:=by kernel_rfl) (hw:Region.wanted h (yielded ops a.tmps)=true:=by rfl):wpAnyH P md ops Q (Frm [] w) (E+1) listed a w:=oU H hr hw G
theorem tcG {i:Nat} {h:Oper} {E:Nat} {listed:Array Bool} {a:Act} {w:World} (v:Value) (H:∀ w',Frm [] w w'→(execOp a.eval h).run P w'=.ok (.value v) w')
  (A:Cnt (i+1) (wpAnyH P md ops Q (Frm [] w) E (listed.setIfInBounds i true) (a.put h.dst v) w)) (G:ops[i]?=some h:=by rfl) (hb:(Region.noSelect ops && Region.free md ops listed i && (Region.ready md ops listed).contains i)=true:=by kernel_rfl)
  (hQ:∀ c a w,Q (.panic c) (a.put h.dst v) w→Q (.panic c) a w:=by exact fun _ _ _ A=>A) (hw:Region.wanted h (yielded ops a.tmps)=true:=by rfl):Cnt i (wpAnyH P md ops Q (Frm [] w) (E+1) listed a w):=
 tkG i v H A G hb hQ hw
theorem scG {i:Nat} {h:Oper} {E:Nat} {listed:Array Bool} {a:Act} {w:World}
  (A:Cnt (i+1) (wpAnyH P md ops Q (Frm [] w) E (listed.setIfInBounds i true) (a.put h.dst undef) w)) (G:ops[i]?=some h:=by rfl) (hb:(Region.noSelect ops && Region.free md ops listed i && (Region.ready md ops listed).contains i)=true:=by kernel_rfl)
  (hQ:∀ c a w,Q (.panic c) (a.put h.dst undef) w→Q (.panic c) a w:=by exact fun _ _ _ A=>A) (hw:Region.wanted h (yielded ops a.tmps)=false:=by rfl):Cnt i (wpAnyH P md ops Q (Frm [] w) (E+1) listed a w):=
 skG i A G hb hQ hw
end
end Go.Proofs.YtohfkhjlnlahdaaGreat
namespace Go.Proofs.YtohfkhjlnlahdaaGreat
open Go.RowKit
section
variable {F:List Nat} {P:Program} {ops:Array Oper} {Q:Exit→Act→World→Prop} {md:Region.Mode} {S S':World→Prop} {T:Nat→Bool}
def bO (P:Program) (md:Region.Mode) (ops:Array Oper) (Q:Exit→Act→World→Prop) (S:World→Prop) (T:Nat→Bool):Nat→Bool→Array Bool→Act→World→Prop
 | 0,_,listed,a,w=>Region.ready md ops listed=[]∧Q .normal a w
 | fuel+1,b,listed,a,w =>
   (Region.ready md ops listed=[]→Q .normal a w) ∧
   ∀ i∈Region.ready md ops listed,wpOp P ops Q i (fun a' w'=>((b || T i)=false→S w')∧bO P md ops Q S T fuel (b || T i) (listed.setIfInBounds i true) a' w') a w
theorem jv:∀ (a:Nat) (b:Bool) (listed:Array Bool) (A:Act) (w:World),bO P md ops Q S T a b listed A w→wpAny P md ops Q a listed A w
 | 0,_,_,_,_,h=>h
 | a+1,_,_,_,_,h=>⟨h.1,fun i G=>wpOp_mono (fun a' w' E=>jv a _ _ a' w' E.2) (h.2 i G)⟩
theorem jw (H:∀ A,S' A→S A):∀ (a:Nat) (b:Bool) (listed:Array Bool) (E:Act) (w:World),bO P md ops Q S' T a b listed E w→bO P md ops Q S T a b listed E w
 | 0,_,_,_,_,h=>h
 | a+1,_,_,_,_,h=>⟨h.1,fun i I=>wpOp_mono (fun a' w' G=>⟨fun hb=>H _ (G.1 hb),jw H a _ _ a' w' G.2⟩) (h.2 i I)⟩
def tj (md:Region.Mode) (ops:Array Oper):Nat→Nat→Nat→Bool
 | 0,_,_=>false
 | f+1,j,i=>((ops[j]?).map fun o=>o.after.any fun e=>Region.binds md e && (e.on == i || tj md ops f e.on i)).getD false
def kV (md:Region.Mode) (ops:Array Oper) (listed:Array Bool):Prop:=∀ (k:Nat) o,ops[k]?=some o→listed.getD k false=true→∀ e∈o.after,Region.binds md e=true→listed.getD e.on false=true
def closedB (md:Region.Mode) (ops:Array Oper) (listed:Array Bool):Bool:=(List.range ops.size).all fun k=>!listed.getD k false || ((ops[k]?).map fun o=>o.after.all fun e=>!Region.binds md e || listed.getD e.on false).getD true
theorem closed_of {listed:Array Bool} (h:closedB md ops listed=true):kV md ops listed:=fun k o a E e A hb=>by
 have:=(List.all_eq_true.1 h) k (List.mem_range.2 (Array.getElem?_eq_some_iff.1 a).1)
 rw[a,E] at this
 simp only[Bool.not_true,Option.map_some,Option.getD_some,Bool.false_or] at this
 have:=(Array.all_eq_true_iff_forall_mem.1 this) e A
 simpa[hb] using this
theorem rk {listed:Array Bool} {i:Nat} (A:kV md ops listed) (E:listed.getD i false=false):∀ (f j:Nat),tj md ops f j i=true→(∀ o,ops[j]?=some o→∀ e∈o.after,Region.binds md e=true→listed.getD e.on false=true)→False
 | 0,_,h,_=>by cases h
 | f+1,j,h,hj=>by
   unfold tj at h
   cases ho:ops[j]? with
   | none=>rw[ho] at h;cases h
   | some o =>
     rw[ho] at h
     simp only[Option.map_some,Option.getD_some] at h
     obtain⟨e,G,hb⟩:=Array.any_eq_true'.1 h
     simp only[Bool.and_eq_true,Bool.or_eq_true,beq_iff_eq] at hb
     have a:=hj o ho e G hb.1
     rcases hb.2 with hb | hb
     ·rw[hb,E] at a;cases a
     ·exact rk A E f e.on hb fun I H=>A e.on I H a
def kW (md:Region.Mode) (ops:Array Oper) (T:Nat→Bool) (i:Nat):Bool:=(List.range ops.size).all fun j=>!T j || tj md ops 4 j i
theorem kX {i:Nat} {H:Oper} {v:Value} (af:ops[i]?=some H) (ag:T i=false) (aB:kW md ops T i=true) (al:∀ (j:Nat) (o:Oper) U b,ops[j]?=some o→o.op≠.select U b)
  (aq:∀ c h w,Q (.panic c) (h.put H.dst v) w→Q (.panic c) h w) :
  ∀ (V:Nat) (listed:Array Bool) (h:Act) (w:World),kV md ops listed →
    (∀ j I,ops[j]?=some I→j≠i→listed.getD j true=false→(∀ e∈I.after,Region.binds md e=true→e.on≠i)→H.apart ops I=true) →
    i∈Region.ready md ops listed→YieldsIf P ops S H v h→S w →
    bO P md ops Q S T V false (listed.setIfInBounds i true) (h.put H.dst v) w→bO P md ops Q S T (V+1) false listed h w:=by
 intro V
 induction V with
 | zero =>
   intro listed h w _ _ E ad W R
   refine⟨fun G=>(by rw[G] at E;cases E),fun j aa=>?_⟩
   by_cases hji:j=i
   ·subst hji
    rw[Bool.false_or,ag]
    exact ad.wpOp af W ⟨fun _=>W,R⟩
   ·have:=ready_mono aa hji
    rw[R.1] at this
    cases this
 | succ V ih =>
   intro listed h w ah ai E ad W R
   refine⟨fun G=>(by rw[G] at E;cases E),fun j aa=>?_⟩
   by_cases hji:j=i
   ·subst hji
    rw[Bool.false_or,ag]
    exact ad.wpOp af W ⟨fun _=>W,R⟩
   ·have A:=R.2 j (ready_mono aa hji)
    obtain⟨aj,I,O,ae⟩:=mem_ready.1 aa
    have aA:∀ e∈I.after,Region.binds md e=true→e.on≠i:=fun e K hb av=>by
     have A:=ae e K hb
     have J:=(mem_ready.1 E).1
     rw[av] at A
     rcases Nat.lt_or_ge i listed.size with a | a
     ·simp[a] at J A;rw[J] at A;cases A
     ·simp[Array.getElem?_eq_none a] at A
    have ar:T j=false:=by
     have ax:j<ops.size:=(Array.getElem?_eq_some_iff.1 O).1
     have:=(List.all_eq_true.1 aB) j (List.mem_range.2 ax)
     simp only[Bool.or_eq_true,Bool.not_eq_true'] at this
     rcases this with G | G
     ·exact G
     ·refine(rk ah ?_ 4 j G fun o N e K hb=>?_).elim
      ·have J:=(mem_ready.1 E).1
       rcases Nat.lt_or_ge i listed.size with a | a
       ·simp[a] at J ⊢;exact J
       ·simp[a] at J
      ·rw[O] at N
       cases N
       exact ae e K hb
    rw[Bool.false_or,ar] at A ⊢
    have ap:=wpOp_putIf O (ai j I O hji aj aA) (fun U b=>al i H U b af) (fun U b=>al j I U b O) aq ad A
    have aw:∀ k X,ops[k]?=some X→k≠i→(listed.setIfInBounds j true).getD k true=false →
      (∀ e∈X.after,Region.binds md e=true→e.on≠i)→H.apart ops X=true:=fun k X ab ay am az=>by
     refine ai k X ab ay ?_ az
     by_cases hjk:j=k
     ·subst hjk;exact aj
     ·rw[getD_set_ne true hjk] at am;exact am
    have au:kV md ops (listed.setIfInBounds j true):=fun k o N ab e K hb=>by
     have an:∀ q,listed.getD q false=true→(listed.setIfInBounds j true).getD q false=true:=fun q ak=>by
      by_cases e:j=q
      ·subst e
       rcases Nat.lt_or_ge j listed.size with a | a
       ·simp[a]
       ·simp[Array.getElem?_eq_none a] at ak
      ·rw[getD_set_ne false e];exact ak
     by_cases ek:j=k
     ·subst ek
      rw[O] at N
      cases N
      exact an _ (ae e K hb)
     ·rw[getD_set_ne false ek] at ab
      exact an _ (ah k o N ab e K hb)
    refine wpOp_mono (fun a' w' Y=>⟨fun _=>Y.2.1 rfl,ih (listed.setIfInBounds j true) a' w' au aw (ready_mono E (Ne.symm hji)) Y.1 (Y.2.1 rfl) ?_⟩) ap
    rw[Array.setIfInBounds_comm _ _ hji]
    exact Y.2.2
theorem jW {i:Nat} {E:Oper} {v:Value} (X:ops[i]?=some E) (ab:T i=false) (af:∀ (j:Nat) (o:Oper) I b,ops[j]?=some o→o.op≠.select I b)
  (ai:∀ c a w,Q (.panic c) (a.put E.dst v) w→Q (.panic c) a w) :
  ∀ (J:Nat) (b:Bool) (listed:Array Bool) (a:Act) (w:World),
    (∀ j G,ops[j]?=some G→j≠i→listed.getD j true=false→(∀ e∈G.after,Region.binds md e=true→e.on≠i)→E.apart ops G=true) →
    i∈Region.ready md ops listed→YieldsIf P ops (fun _=>True) E v a→(b=false→S w) →
    bO P md ops Q S T J b (listed.setIfInBounds i true) (a.put E.dst v) w→bO P md ops Q S T (J+1) b listed a w:=by
 intro J
 induction J with
 | zero =>
   intro b listed a w _ A R W H
   refine⟨fun U=>(by rw[U] at A;cases A),fun j O=>?_⟩
   by_cases hji:j=i
   ·subst hji
    rw[ab,Bool.or_false]
    exact R.wpOp X trivial ⟨W,H⟩
   ·have:=ready_mono O hji
    rw[H.1] at this
    cases this
 | succ J ih =>
   intro b listed a w ad A R W H
   refine⟨fun U=>(by rw[U] at A;cases A),fun j O=>?_⟩
   by_cases hji:j=i
   ·subst hji
    rw[ab,Bool.or_false]
    exact R.wpOp X trivial ⟨W,H⟩
   ·have h:=H.2 j (ready_mono O hji)
    obtain⟨ae,G,Y,aj⟩:=mem_ready.1 O
    have ar:∀ e∈G.after,Region.binds md e=true→e.on≠i:=fun e ak hb al=>by
     have h:=aj e ak hb
     have aa:=(mem_ready.1 A).1
     rw[al] at h
     rcases Nat.lt_or_ge i listed.size with V | V
     ·simp[V] at aa h;rw[aa] at h;cases h
     ·simp[Array.getElem?_eq_none V] at h
    have ah:=wpOp_putIf Y (ad j G Y hji ae ar) (fun I b=>af i E I b X) (fun I b=>af j G I b Y) ai R h
    have am:∀ k K,ops[k]?=some K→k≠i→(listed.setIfInBounds j true).getD k true=false →
      (∀ e∈K.after,Region.binds md e=true→e.on≠i)→E.apart ops K=true:=fun k K an ap ag aq=>by
     refine ad k K an ap ?_ aq
     by_cases hjk:j=k
     ·subst hjk;exact ae
     ·rw[getD_set_ne true hjk] at ag;exact ag
    refine wpOp_mono (fun a' w' N=>⟨N.2.1,ih (b || T j) (listed.setIfInBounds j true) a' w' am (ready_mono A (Ne.symm hji)) N.1 N.2.1 ?_⟩) ah
    rw[Array.setIfInBounds_comm _ _ hji]
    exact N.2.2
def fk (n:Nat) (j:Nat):Bool:=decide (n≤j)
theorem bH (F:List Nat) (T:Nat→Bool) {E:Nat} {a:Act} {w:World} (A:P.follows .mixedOrders=true) (h:bO P .any ops Q (Frm F w.drew) T ops.size false (Array.replicate ops.size false) a w.drew):(Code.region E ops true).wp P Q a w:=
 wp_region_any A (jv _ _ _ _ _ h)
theorem nX {i:Nat} {h:Oper} {A:Nat} {listed:Array Bool} {a:Act} {w:World} (v:Value) (E:ops[i]?=some h)
  (O:Region.noSelect ops=true) (K:Region.free md ops listed i=true) (N:(Region.ready md ops listed).contains i=true) (J:T i=false) (G:(kW md ops T i && closedB md ops listed)=true)
  (I:∀ c a w,Q (.panic c) (a.put h.dst v) w→Q (.panic c) a w) (R:Region.wanted h (yielded ops a.tmps)=true) (U:∀ w',Frm F w w'→(execOp a.eval h).run P w'=.ok (.value v) w')
  (H:bO P md ops Q (Frm F w) T A false (listed.setIfInBounds i true) (a.put h.dst v) w):bO P md ops Q (Frm F w) T (A+1) false listed a w:=
 kX E J (Bool.and_eq_true_iff.1 G).1 (Region.noSelect_spec O) I A listed a w (closed_of (Bool.and_eq_true_iff.1 G).2) (Region.free_spec E K) (List.contains_iff_mem.1 N) (.inl ⟨R,U⟩) (Frm.refl F w) H
theorem my {b:Bool} {i:Nat} {h:Oper} {A:Nat} {listed:Array Bool} {a:Act} {w:World} (v:Value) (E:ops[i]?=some h)
  (N:Region.noSelect ops=true) (J:Region.free md ops listed i=true) (K:(Region.ready md ops listed).contains i=true) (I:T i=false)
  (H:∀ c a w,Q (.panic c) (a.put h.dst v) w→Q (.panic c) a w) (O:Region.wanted h (yielded ops a.tmps)=true) (R:∀ w',(execOp a.eval h).run P w'=.ok (.value v) w')
  (G:bO P md ops Q (Frm F w) T A b (listed.setIfInBounds i true) (a.put h.dst v) w):bO P md ops Q (Frm F w) T (A+1) b listed a w:=
 jW E I (Region.noSelect_spec N) H A b listed a w (Region.free_spec E J) (List.contains_iff_mem.1 K) (.inl ⟨O,fun w' _=>R w'⟩) (fun _=>Frm.refl F w) G
theorem aJ {rs:List Nat} {h:Nat} {b:Bool} {listed:Array Bool} {a:Act} {w:World} (A:Region.ready md ops listed=rs) (I:rs≠[])
  (E:∀ i∈rs,wpOp P ops Q i (fun a' w'=>((b || T i)=false→S w')∧bO P md ops Q S T h (b || T i) (listed.setIfInBounds i true) a' w') a w):bO P md ops Q S T (h+1) b listed a w:=
 ⟨fun G=>absurd (A.symm.trans G) I,fun i H=>E i (A ▸ H)⟩
theorem aM {p:Nat→Prop}:∀ i∈([]:List Nat),p i:=fun _ a=>by cases a
theorem aE {p:Nat→Prop} {i:Nat} {rs:List Nat} (h:p i) (A:∀ j∈rs,p j):∀ j∈i :: rs,p j:=fun j a=>by
 rcases List.mem_cons.1 a with rfl | a
 ·exact h
 ·exact A j a
theorem ax {i:Nat} {h:Oper} {E:Nat} {listed:Array Bool} {a:Act} {w:World} (K:ops[i]?=some h) (I:T i=false) (O:Region.wanted h (yielded ops a.tmps)=true)
  (H:∀ A:Act→World→Prop,Shut (∀ a' w',Frm F w w'→bO P md ops Q (Frm F w') T E false (listed.setIfInBounds i true) a' w'→A a' w')→Oper.wp P h a w A Q) :
  wpOp P ops Q i (fun a' w'=>((false || T i)=false→Frm F w w')∧bO P md ops Q (Frm F w) T E (false || T i) (listed.setIfInBounds i true) a' w') a w:=by
 unfold wpOp
 simp only[K,O,if_true]
 refine .inl (H _ (fun a' w' G N=>⟨fun _=>G,?_⟩))
 rw[Bool.false_or,I]
 exact jw (fun R J=>G.trans J) _ _ _ _ _ N
theorem az {b:Bool} {i:Nat} {h:Oper} {E:Nat} {listed:Array Bool} {a:Act} {w:World} (J:ops[i]?=some h) (I:(b || T i)=true) (N:Region.wanted h (yielded ops a.tmps)=true)
  (G:∀ A:Act→World→Prop,Shut (∀ a' w',bO P md ops Q S T E true (listed.setIfInBounds i true) a' w'→A a' w')→Oper.wp P h a w A Q) :
  wpOp P ops Q i (fun a' w'=>((b || T i)=false→S w')∧bO P md ops Q S T E (b || T i) (listed.setIfInBounds i true) a' w') a w:=by
 unfold wpOp
 simp only[J,N,if_true]
 rw[I]
 exact .inl (G _ (fun a' w' K=>⟨(fun H=>by cases H),K⟩))
theorem aR {b:Bool} {listed:Array Bool} {a:Act} {w:World} (E:Region.ready md ops listed=[]) (h:Q .normal a w):∀ G,bO P md ops Q S T G b listed a w
 | 0=>⟨E,h⟩
 | _+1=>⟨fun _=>h,fun i A=>by rw[E] at A;cases A⟩
theorem htL (i:Nat) {A:Oper} {G:Nat} {listed:Array Bool} {a:Act} {w:World} (v:Value) (J:∀ w',Frm F w w'→(execOp a.eval A).run P w'=.ok (.value v) w')
  (E:bO P md ops Q (Frm F w) T G false (listed.setIfInBounds i true) (a.put A.dst v) w) (I:ops[i]?=some A:=by rfl) (hb:(Region.noSelect ops && Region.free md ops listed i && (Region.ready md ops listed).contains i && !T i && (kW md ops T i && closedB md ops listed))=true:=by kernel_rfl)
  (hQ:∀ c a w,Q (.panic c) (a.put A.dst v) w→Q (.panic c) a w:=by exact fun _ _ _ E=>E) (hw:Region.wanted A (yielded ops a.tmps)=true:=by rfl):bO P md ops Q (Frm F w) T (G+1) false listed a w:=by
 obtain⟨h,H⟩:=Bool.and_eq_true_iff.1 hb
 simp only[Bool.and_eq_true,Bool.not_eq_true'] at h
 exact nX v I h.1.1.1 h.1.1.2 h.1.2 h.2 H hQ hw J E
theorem htP {b:Bool} (i:Nat) {h:Oper} {E:Nat} {listed:Array Bool} {a:Act} {w:World} (v:Value) (H:∀ w',(execOp a.eval h).run P w'=.ok (.value v) w')
  (A:bO P md ops Q (Frm F w) T E b (listed.setIfInBounds i true) (a.put h.dst v) w) (G:ops[i]?=some h:=by rfl) (hb:(Region.noSelect ops && Region.free md ops listed i && (Region.ready md ops listed).contains i && !T i)=true:=by kernel_rfl)
  (hQ:∀ c a w,Q (.panic c) (a.put h.dst v) w→Q (.panic c) a w:=by exact fun _ _ _ A=>A) (hw:Region.wanted h (yielded ops a.tmps)=true:=by rfl):bO P md ops Q (Frm F w) T (E+1) b listed a w:=by
 simp only[Bool.and_eq_true,Bool.not_eq_true'] at hb
 exact my v G hb.1.1.1 hb.1.1.2 hb.1.2 hb.2 hQ hw H A
theorem bE (i:Nat) {h:Nat} {b:Bool} {listed:Array Bool} {a:Act} {w:World}
  (A:wpOp P ops Q i (fun a' w'=>((b || T i)=false→S w')∧bO P md ops Q S T h (b || T i) (listed.setIfInBounds i true) a' w') a w) (E:Region.ready md ops listed=[i]:=by kernel_rfl):bO P md ops Q S T (h+1) b listed a w:=
 aJ E (by simp) (aE A aM)
theorem hcL {i:Nat} {h:Oper} {E:Nat} {listed:Array Bool} {a:Act} {w:World} (v:Value) (H:∀ w',Frm F w w'→(execOp a.eval h).run P w'=.ok (.value v) w')
  (A:Cnt (i+1) (bO P md ops Q (Frm F w) T E false (listed.setIfInBounds i true) (a.put h.dst v) w)) (G:ops[i]?=some h:=by rfl) (hb:(Region.noSelect ops && Region.free md ops listed i && (Region.ready md ops listed).contains i && !T i && (kW md ops T i && closedB md ops listed))=true:=by kernel_rfl)
  (hQ:∀ c a w,Q (.panic c) (a.put h.dst v) w→Q (.panic c) a w:=by exact fun _ _ _ A=>A) (hw:Region.wanted h (yielded ops a.tmps)=true:=by rfl):Cnt i (bO P md ops Q (Frm F w) T (E+1) false listed a w):=
 htL i v H A G hb hQ hw
theorem hcP {b:Bool} {i:Nat} {h:Oper} {E:Nat} {listed:Array Bool} {a:Act} {w:World} (v:Value) (H:∀ w',(execOp a.eval h).run P w'=.ok (.value v) w')
  (A:Cnt (i+1) (bO P md ops Q (Frm F w) T E b (listed.setIfInBounds i true) (a.put h.dst v) w)) (G:ops[i]?=some h:=by rfl) (hb:(Region.noSelect ops && Region.free md ops listed i && (Region.ready md ops listed).contains i && !T i)=true:=by kernel_rfl)
  (hQ:∀ c a w,Q (.panic c) (a.put h.dst v) w→Q (.panic c) a w:=by exact fun _ _ _ A=>A) (hw:Region.wanted h (yielded ops a.tmps)=true:=by rfl):Cnt i (bO P md ops Q (Frm F w) T (E+1) b listed a w):=
 htP i v H A G hb hQ hw
end
end Go.Proofs.YtohfkhjlnlahdaaGreat
namespace Go.Proofs.YtohfkhjlnlahdaaGreat
open Go.RowKit Go.BigFrame
set_option maxHeartbeats 1000000 in
theorem nv (v:Value) (r:RolD) (n:ByteArray) (w:World) (ad:RlV w v r) (af:r.sts.length≤1000):Calls Tryz.prog 87 #[v,.string n] w (Ret (.int .i64 (bK r n)) (Frm [] w)):=by
 obtain⟨am,ab,ai,rfl,U⟩:=ad
 obtain⟨ao,cap,e,a⟩:=U.sts
 subst e
 have aa:=vi a
 obtain⟨m,H⟩:∃ m,r.sts.length=m:=⟨_,rfl⟩
 rw[H] at af
 have R:=vi H
 rw[H]
 obtain⟨A,E⟩:∃ A,w.alloc (.cells #[.string r.name,.slice ao m cap,ab,ai] 87)=A:=⟨_,rfl⟩
 have K:Hid (Frm [] w A):=vi (by rw[← E];exact(Frm.refl _ _).alloc _)
 have Y:Hid (A.cell? ⟨w.heap.size,1,none⟩=some (.slice ao m cap)):=vi (by rw[← E];exact ae (heap_alloc_new w _) 1)
 have O:=vi E
 clear a U H E
 go_enter Tryz.func87,Tryz.ntmps87
 go_wp2
 rw[O.out]
 clear O
 go_loopw [5] (fun s5 wr=>∃ i:Nat,s5=.int .i64 i∧i≤m∧Frm [] A wr∧∀ j x,j<i→r.sts[j]?=some x→decide (x.name=n)=false) (fun s5 _=>m - (intOf s5).toNat)
 case atStart=>exact⟨0,rfl,Nat.zero_le _,Frm.refl _ _,fun j x G=>by omega⟩
 case round =>
  obtain⟨i,rfl,ak,W,X⟩:=hrel
  have h:=vi W;have I:=vi X
  clear W X
  have cb:=h.out.keep Y.out
  by_cases hlt:i<m
  ·have al:(i:Int)<(m:Int):=by omega
   obtain⟨x,a⟩:∃ x,r.sts[i]?=some x:=⟨_,List.getElem?_eq_getElem (by rw[R.out];exact hlt)⟩
   obtain⟨b,o,rfl,V⟩:=aa.out i x a
   obtain⟨c0,-,-⟩:=V.frm (K.out.trans h.out)
   have S:=vi a
   clear V a
   cases hpx:decide (x.name=n) with
   | true =>
     have ah:(x.name.toList == n.toList)=true:=(aK _ _).trans hpx
     have J:=vi hpx
     clear hpx
     go_wp2
     go_ret
     refine⟨?_,K.out.trans h.out⟩
     have e:bK r n=(i:Int):=cj S.out J.out I.out
     rw[e];rfl
   | false =>
     have ah:(x.name.toList == n.toList)=false:=(aK _ _).trans hpx
     have J:=vi hpx
     clear hpx
     go_wp2
     refine⟨⟨i+1,by simp,hlt,h.out,fun j y G N=>?_⟩,by simp[intOf];omega⟩
     by_cases e:j=i
     ·subst e;rw[S.out] at N;cases N;exact J.out
     ·exact I.out j y (by omega) N
  ·have aj:¬ (i:Int)<(m:Int):=by omega
   go_wp2
   go_ret
   refine⟨?_,K.out.trans h.out⟩
   have e:bK r n=-1:=cn fun x a=>by
    obtain⟨j,G⟩:=List.getElem?_of_mem a
    exact I.out j x (by have:=ag G;rw[R.out] at this;omega) G
   rw[e];rfl
set_option maxHeartbeats 1000000 in
theorem lM (v:Value) (s:SesD) (n:ByteArray) (w:World) (ab:SesV w v s) (ad:s.roles.length≤1000):Calls Tryz.prog 88 #[v,.string n] w (Ret (.int .i64 (bT s n)) (Frm [] w)):=by
 obtain⟨ak,rfl,U⟩:=ab
 obtain⟨ao,cap,e,a⟩:=id U
 subst e
 have aa:=vi a
 obtain⟨m,H⟩:∃ m,s.roles.length=m:=⟨_,rfl⟩
 rw[H] at ad
 have R:=vi H
 rw[H]
 obtain⟨A,E⟩:∃ A,w.alloc (.cells #[.string s.name,.slice ao m cap,.int .i64 s.cls,.int .i64 s.cap] 25)=A:=⟨_,rfl⟩
 have K:Hid (Frm [] w A):=vi (by rw[← E];exact(Frm.refl _ _).alloc _)
 have Y:Hid (A.cell? ⟨w.heap.size,1,none⟩=some (.slice ao m cap)):=vi (by rw[← E];exact ae (heap_alloc_new w _) 1)
 have O:=vi E
 clear a U H E
 go_enter Tryz.func88,Tryz.ntmps88
 go_wp2
 rw[O.out]
 clear O
 go_loopw [5] (fun s5 wr=>∃ i:Nat,s5=.int .i64 i∧i≤m∧Frm [] A wr∧∀ j x,j<i→s.roles[j]?=some x→decide (x.name=n)=false) (fun s5 _=>m - (intOf s5).toNat)
 case atStart=>exact⟨0,rfl,Nat.zero_le _,Frm.refl _ _,fun j x G=>by omega⟩
 case round =>
  obtain⟨i,rfl,ai,W,X⟩:=hrel
  have h:=vi W;have I:=vi X
  clear W X
  have cb:=h.out.keep Y.out
  by_cases hlt:i<m
  ·have aj:(i:Int)<(m:Int):=by omega
   obtain⟨x,a⟩:∃ x,s.roles[i]?=some x:=⟨_,List.getElem?_eq_getElem (by rw[R.out];exact hlt)⟩
   obtain⟨b,o,rfl,V⟩:=aa.out i x a
   obtain⟨_,_,_,c0,-⟩:=V.frm (K.out.trans h.out)
   have S:=vi a
   clear V a
   cases hpx:decide (x.name=n) with
   | true =>
     have af:(x.name.toList == n.toList)=true:=(aK _ _).trans hpx
     have J:=vi hpx
     clear hpx
     go_wp2
     go_ret
     refine⟨?_,K.out.trans h.out⟩
     have e:bT s n=(i:Int):=cj S.out J.out I.out
     rw[e];rfl
   | false =>
     have af:(x.name.toList == n.toList)=false:=(aK _ _).trans hpx
     have J:=vi hpx
     clear hpx
     go_wp2
     refine⟨⟨i+1,by simp,hlt,h.out,fun j y G N=>?_⟩,by simp[intOf];omega⟩
     by_cases e:j=i
     ·subst e;rw[S.out] at N;cases N;exact J.out
     ·exact I.out j y (by omega) N
  ·have ah:¬ (i:Int)<(m:Int):=by omega
   go_wp2
   go_ret
   refine⟨?_,K.out.trans h.out⟩
   have e:bT s n=-1:=cn fun x a=>by
    obtain⟨j,G⟩:=List.getElem?_of_mem a
    exact I.out j x (by have:=ag G;rw[R.out] at this;omega) G
   rw[e];rfl
set_option maxHeartbeats 1000000 in
theorem j5 (V ab:Value) (a:List CtrD) (n:ByteArray) (w:World) (W:Arr 2 CtAt w V a) (ah:a.length≤1000):Calls Tryz.prog 150 #[.agg #[V,ab],.string n] w (Ret (.int .i64 (bL a n)) (Frm [] w)):=by
 obtain⟨ao,cap,e,h⟩:=id W
 subst e
 have af:=vi h
 obtain⟨m,I⟩:∃ m,a.length=m:=⟨_,rfl⟩
 rw[I] at ah
 have S:=vi I
 rw[I]
 obtain⟨E,G⟩:∃ E,w.alloc (.cells #[.slice ao m cap,ab] 159)=E:=⟨_,rfl⟩
 have N:Hid (Frm [] w E):=vi (by rw[← G];exact(Frm.refl _ _).alloc _)
 have ad:Hid (E.cell? ⟨w.heap.size,0,none⟩=some (.slice ao m cap)):=vi (by rw[← G];exact ae (heap_alloc_new w _) 0)
 have R:=vi G
 clear h W I G
 go_enter Tryz.func150,Tryz.ntmps150
 go_wp2
 rw[R.out]
 clear R
 go_loopw [5] (fun s5 wr=>∃ i:Nat,s5=.int .i64 i∧i≤m∧Frm [] E wr∧∀ j x,j<i→a[j]?=some x→decide (x.name=n)=false) (fun s5 _=>m - (intOf s5).toNat)
 case atStart=>exact⟨0,rfl,Nat.zero_le _,Frm.refl _ _,fun j x H=>by omega⟩
 case round =>
  obtain⟨i,rfl,ak,Y,aa⟩:=hrel
  have A:=vi Y;have J:=vi aa
  clear Y aa
  have cb:=A.out.keep ad.out
  by_cases hlt:i<m
  ·have al:(i:Int)<(m:Int):=by omega
   obtain⟨x,h⟩:∃ x,a[i]?=some x:=⟨_,List.getElem?_eq_getElem (by rw[S.out];exact hlt)⟩
   obtain⟨b,o,rfl,X⟩:=af.out i x h
   obtain⟨c0,-⟩:=X.frm (N.out.trans A.out)
   have U:=vi h
   clear X h
   cases hpx:decide (x.name=n) with
   | true =>
     have ai:(x.name.toList == n.toList)=true:=(aK _ _).trans hpx
     have K:=vi hpx
     clear hpx
     go_wp2
     go_ret
     refine⟨?_,N.out.trans A.out⟩
     have e:bL a n=(i:Int):=cj U.out K.out J.out
     rw[e];rfl
   | false =>
     have ai:(x.name.toList == n.toList)=false:=(aK _ _).trans hpx
     have K:=vi hpx
     clear hpx
     go_wp2
     refine⟨⟨i+1,by simp,hlt,A.out,fun j y H O=>?_⟩,by simp[intOf];omega⟩
     by_cases e:j=i
     ·subst e;rw[U.out] at O;cases O;exact K.out
     ·exact J.out j y (by omega) O
  ·have aj:¬ (i:Int)<(m:Int):=by omega
   go_wp2
   go_ret
   refine⟨?_,N.out.trans A.out⟩
   have e:bL a n=-1:=cn fun x h=>by
    obtain⟨j,H⟩:=List.getElem?_of_mem h
    exact J.out j x (by have:=ag H;rw[S.out] at this;omega) H
   rw[e];rfl
def jH (lim:Int) (t:StpD) (v:Int):Int:=if cD lim t v then v+t.add else -1
set_option maxHeartbeats 2000000 in
set_option maxRecDepth 100000 in
theorem oI (lim v:Int) (t:StpD) (w:World) (O:0≤lim∧lim≤1000) (R:0≤v∧v≤1000) (ad:-1000≤t.add∧t.add≤1000):Calls Tryz.prog 191 #[.int .i64 lim,dN t,.int .i64 v] w (Ret (.int .i64 (jH lim t v)) (Frm [] w)):=by
 obtain⟨K,J⟩:∃ K,jH lim t v=K:=⟨_,rfl⟩
 have ak:IntKind.i64.wrap (v+t.add)=v+t.add:=by simp[IntKind.wrap,show IntKind.i64.bits=64 from rfl,show IntKind.i64.signed=true from rfl];omega
 have ai:decide (t.add < -1000)=false:=decide_eq_false (by omega)
 have aj:decide (1000<t.add)=false:=decide_eq_false (by omega)
 obtain⟨h,A⟩:∃ h,w.alloc (.cells #[.string t.frm,.string t.to,.int .i64 t.kind,.string t.msg,.string t.peer,.string t.ctr,.int .i64 t.low,.int .i64 t.high,.int .i64 t.add] 137)=h:=⟨_,rfl⟩
 have G:Hid (Frm [] w h):=vi (by rw[← A];exact(Frm.refl _ _).alloc _)
 have af:h.cell? ⟨w.heap.size,6,none⟩=some (.int .i64 t.low):=by rw[← A];exact ae (heap_alloc_new w _) 6
 have ag:h.cell? ⟨w.heap.size,7,none⟩=some (.int .i64 t.high):=by rw[← A];exact ae (heap_alloc_new w _) 7
 have ah:h.cell? ⟨w.heap.size,8,none⟩=some (.int .i64 t.add):=by rw[← A];exact ae (heap_alloc_new w _) 8
 have N:=vi A
 have E:=vi J
 have I:=vi R;have H:=vi O
 rw[J]
 clear J R O ad A
 go_enter Tryz.func191,Tryz.ntmps191
 go_upto_region 1 with fail
 rw[N.out]
 clear N
 by_cases k0:v<t.low
 ·have X:decide (v<t.low)=true:=decide_eq_true k0
  have a:=vi k0
  clear k0
  go_wp2
  go_ret
  refine⟨?_,G.out⟩
  rw[← E.out]
  have:=a.out
  unfold jH cD
  have:=I.out;have:=H.out
  rw[if_neg (by simp;omega)]
  rfl
 have X:decide (v<t.low)=false:=decide_eq_false k0
 have S:=vi k0
 clear k0
 by_cases k1:t.high<v
 ·have Y:decide (t.high<v)=true:=decide_eq_true k1
  have a:=vi k1
  clear k1
  go_wp2
  go_ret
  refine⟨?_,G.out⟩
  rw[← E.out]
  have:=a.out
  unfold jH cD
  have:=I.out;have:=H.out
  rw[if_neg (by simp;omega)]
  rfl
 have Y:decide (t.high<v)=false:=decide_eq_false k1
 have U:=vi k1
 clear k1
 by_cases k4:v+t.add<0
 ·have aa:decide (v+t.add<0)=true:=decide_eq_true k4
  have a:=vi k4
  clear k4
  go_wp2
  go_ret
  refine⟨?_,G.out⟩
  rw[← E.out]
  have:=a.out
  unfold jH cD
  have:=I.out;have:=H.out
  rw[if_neg (by simp;omega)]
  rfl
 have aa:decide (v+t.add<0)=false:=decide_eq_false k4
 have V:=vi k4
 clear k4
 by_cases k5:lim<v+t.add
 ·have ab:decide (lim<v+t.add)=true:=decide_eq_true k5
  have a:=vi k5
  clear k5
  go_wp2
  go_ret
  refine⟨?_,G.out⟩
  rw[← E.out]
  have:=a.out
  unfold jH cD
  have:=I.out;have:=H.out
  rw[if_neg (by simp;omega)]
  rfl
 have ab:decide (lim<v+t.add)=false:=decide_eq_false k5
 have W:=vi k5
 clear k5
 go_wp2
 go_ret
 refine⟨?_,G.out⟩
 rw[← E.out]
 have:=S.out;have:=U.out;have:=V.out;have:=W.out
 unfold jH cD
 rw[if_pos (by simp;omega)]
 rfl
def BkV (a:World) (v:Value) (E:List CtrD) (G:List Int):Prop:=∃ h A,v=.agg #[h,A]∧Arr 2 CtAt a h E∧Arr 1 IAt a A G
structure BkOk (cs:List CtrD) (vs:List Int) (t:StpD):Prop where
 l:vs.length=cs.length
 n:cs.length≤1000
 v:∀ (k:Nat) (c:CtrD),cs[k]?=some c→0≤c.lim∧c.lim≤1000∧0≤vs.getD k 0∧vs.getD k 0≤1000
 c:t.ctr≠aG→0≤bL cs t.ctr∧-1000≤t.add∧t.add≤1000
theorem sl (lim:Int) (t:StpD) (v:Int):decide (0≤jH lim t v)=cD lim t v:=by
 unfold jH
 cases h:cD lim t v with
 | true =>
   rw[if_pos rfl]
   unfold cD at h
   simp at h
   exact decide_eq_true (by omega)
 | false=>rfl
set_option maxHeartbeats 4000000 in
set_option maxRecDepth 100000 in
theorem gJ (v:Value) (h:List CtrD) (H:List Int) (t:StpD) (w:World) (K:BkV w v h H) (am:BkOk h H t):Calls Tryz.prog 149 #[v,dN t] w (Ret (.tuple #[.bool (bY h H t),.int .i64 0]) (Frm [] w)):=by
 obtain⟨a5,a8,rfl,ag,ai⟩:=K
 obtain⟨S,U,rfl⟩:=ag.shape
 obtain⟨Y,aa,rfl⟩:=ai.shape
 obtain⟨n,O⟩:∃ n,h.length=n:=⟨_,rfl⟩
 have W:=am.l
 rw[O] at W
 obtain⟨b,hb⟩:∃ b,bY h H t=b:=⟨_,rfl⟩
 have av:Hid (Arr 2 CtAt w (.slice S n U) h):=vi (O ▸ ag)
 have aO:Hid (Arr 1 IAt w (.slice Y n aa) H):=vi (W ▸ ai)
 obtain⟨E,N⟩:∃ E,(w.alloc (.cells #[.slice S n U,.slice Y n aa] 159)).alloc (.cells #[.string t.frm,.string t.to,.int .i64 t.kind,.string t.msg,.string t.peer,.string t.ctr,.int .i64 t.low,.int .i64 t.high,.int .i64 t.add] 137)=E:=⟨_,rfl⟩
 have I:Hid (Frm [] w E):=vi (by rw[← N];exact((Frm.refl _ _).alloc _).alloc _)
 have aw:Hid (E.heap[w.heap.size]?=some (.cells #[.slice S n U,.slice Y n aa] 159 (0,0))):=vi (by rw[← N];exact ah (heap_alloc_new _ _))
 have aA:Hid (E.heap[w.heap.size+1]?=some (.cells #[.string t.frm,.string t.to,.int .i64 t.kind,.string t.msg,.string t.peer,.string t.ctr,.int .i64 t.low,.int .i64 t.high,.int .i64 t.add] 137 (0,0))):=vi (by rw[← N];exact aq (by simp))
 have aU:=ae aA.out 5
 have az:=vi N
 have ax:=vi hb
 have R:=vi am
 have aQ:=vi O
 rw[hb,O,W]
 clear ag ai am O W N hb
 go_enter Tryz.func149,Tryz.ntmps149
 go_upto_region 1 with fail
 rw[az.out]
 clear az
 by_cases he:t.ctr=aG
 ·have a2:t.ctr.toList.isEmpty=true:=dg he
  have aP:=vi he
  clear he
  go_wp2
  go_ret2
  exact⟨by rw[← ax.out];unfold bY;rw[if_pos aP.out];rfl,I.out⟩
 ·obtain⟨aB,aC,aD⟩:=R.out.c he
  have a2:t.ctr.toList.isEmpty=false:=dF he
  obtain⟨k,aJ,al⟩:=cO aB
  have ak:bL h t.ctr=(k:Int):=aJ
  obtain⟨c,V⟩:∃ c,h[k]?=some c:=⟨_,List.getElem?_eq_getElem al⟩
  obtain⟨x,X⟩:∃ x,H[k]?=some x:=⟨_,List.getElem?_eq_getElem (by rw[R.out.l];exact al)⟩
  obtain⟨aM,aN,ap,ar⟩:=R.out.v k c V
  rw[aW X] at ap ar
  have aH:cD c.lim t x=b:=by
   rw[← ax.out]
   unfold bY
   rw[if_neg he,ak,Int.toNat_natCast,aW V,aW X]
   simp
  have ad:=vi (j5 (.slice S n U) (.slice Y n aa) h t.ctr E (av.out.frm fun _ _ _ K=>K.frm I.out) R.out.n)
  rw[ak] at ad
  obtain⟨aX,aY,aZ,aK⟩:=av.out.get V
  obtain⟨a3,a4,a0,aL⟩:=aO.out.get X
  subst aZ a0
  rw[aQ.out] at al
  have a7:(k:Int)<(n:Int):=by omega
  have a6:¬ (k:Int)<0:=by omega
  have au:Hid (∀ a,Calls Tryz.prog 191 #[.int .i64 c.lim,dN t,.int .i64 x] a (Ret (.int .i64 (jH c.lim t x)) (Frm [] a))):=vi fun a=>oI c.lim x t a ⟨aM,aN⟩ ⟨ap,ar⟩ ⟨aC,aD⟩
  obtain⟨ab,aE⟩:∃ ab,jH c.lim t x=ab:=⟨_,rfl⟩
  have aF:=sl c.lim t x
  rw[aE] at au aF
  rw[aH] at aF
  have aR:Hid (∀ a,Frm [] w a→a.cell? ⟨aX,aY+k*2+1,none⟩=some (.int .i64 c.lim)):=vi fun a aj=>(aK.frm aj).2
  have aS:Hid (∀ a,Frm [] w a→a.cell? ⟨a3,a4+k,none⟩=some (.int .i64 x)):=vi fun a aj=>by have:=aj.keep aL;rwa [Nat.mul_one] at this
  clear aK aL aE aB aC aD aJ ak V X aM aN ap ar aH he
  go_upto_region 6 with (first
   | (refine af rfl 159 _ rfl _ rfl _ 159 aw.out _ Tryz.underlying159 rfl (by kernel_rfl) ?_)
   | (go_at_call 150;go_must (refine ad.out.mono ?_;clear ad;rintro e ba ⟨rfl,aI⟩;have J:=vi aI;clear aI)))
  clear aU
  refine ay (by kernel_rfl) (by kernel_rfl) ?_
  repeat (first
   | go_big_quiet_skip
   | (refine wpQuiet_want (by rfl) (fun aT G=>?_)
      first
       | (refine quiet_move _ (by rfl) (G _ ?_))
       | (refine quiet_assign _ (by rfl) (G _ ?_))
       | (refine aV (.int .i64 ab) 191 #[.int .i64 c.lim,dN t,.int .i64 x] (fun w' A=>?_) (fun w' A=>Ret.cq (au.out w') (fun a9 K=>A.trans K)) (G _ ?_)
          ·go_simp)
       | (refine dO 137 _ rfl (w.heap.size+1) rfl #[.string t.frm,.string t.to,.int .i64 t.kind,.string t.msg,.string t.peer,.string t.ctr,.int .i64 t.low,.int .i64 t.high,.int .i64 t.add] 137 (J.out.at aA.out (by simp)) _ Tryz.underlying137 rfl (by kernel_rfl) (G _ ?_))
       | (apply Exists.intro
          refine⟨fun w' A=>?_,G _ ?_⟩
          ·(unfold Oper.quietAt
            obtain an:=(J.out.trans A).at aw.out (by simp);have be:=ae an 0;have bf:=ae an 1;have bc:=aR.out w' ((I.out.trans J.out).trans A);have bd:=aS.out w' ((I.out.trans J.out).trans A);clear an
            clear A
            go_simp
            try exact⟨rfl,rfl⟩
            try rfl))
      clear G aT
      try simp only[nrm,Act.eval,nrq]))
  refine wpQuiet_nil ?_
  intro bb a1
  go_wp2
  go_ret2
  exact⟨rfl,(I.out.trans J.out).trans a1⟩
end Go.Proofs.YtohfkhjlnlahdaaGreat
namespace Go.Proofs.YtohfkhjlnlahdaaGreat
open Go.RowKit Go.BigFrame
theorem pV {α:Type} {k:Nat} {At:World→Nat→Nat→α→Prop} {t e ty:TypeId} {z:Value} {bytes:Nat} (E:Tryz.prog.underlying t=some (.slice e)) (K:(Tryz.prog.info? e).map (fun i=>(i.zero,i.size,i.bytes))=some (some z,k,bytes))
  (ab:z.cells.size=k) (V:0<k) (hb:bytes≤1000) (U:cL k At) {ao:Option Addr} {cap d:Nat} {a:List α} {w:World} (S:Arr k At w (.slice ao a.length cap) a) (W:a.length≤100000) (J:w.heap[d]?=some (.cells #[] e (0,0))) :
  ∃ h A w',(Builtin.append_ #[t,t] ty #[.slice (some ⟨d,0,none⟩) 0 0,.slice ao a.length cap]).run Tryz.prog w=.ok (.slice h a.length A) w'∧Arr k At w' (.slice h a.length A) a∧Frm [] w w'∧∃ H,w'.ownsRow d e k (.slice h a.length A) a.length H:=by
 cases hx:a with
 | nil =>
   subst hx
   obtain⟨O,N,ad,ae,af⟩:=info_parts K
   refine⟨some ⟨d,0,none⟩,0,w,?_,Arr.nil _ _ _,Frm.refl _ _,[],by simp,.inr ⟨d,0,#[],rfl,Nat.le_refl _,J,Nat.le_refl _,Nat.zero_le _,by simp,by simp⟩⟩
   cases ao with
   | none=>exact run_append_nothing w t t ty e O E N (some ⟨d,0,none⟩) 0 0 (Nat.le_refl _) _ (Src.ofNil w E cap)
   | some R=>exact run_append_nothing w t t ty e O E N (some ⟨d,0,none⟩) 0 0 (Nat.le_refl _) _ (Src.ofSlice w E R 0 cap [] (by simp) (fun j u aa=>by simp at aa) (by simp))
 | cons x l =>
   rw[← hx]
   obtain⟨h,A,w',Y,G⟩:=j8 (ty:=ty) (d:=d) E K ab V hb U S W
   rcases G.own with I | ⟨H,X⟩
   ·rw[hx] at I;cases I
   ·exact⟨h,A,w',Y,G.arr,G.frm,H,df X (Nat.le_of_lt (lt_of_block J))⟩
end Go.Proofs.YtohfkhjlnlahdaaGreat
