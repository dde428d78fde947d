/- Part of the proof. -/
import Derived.Test.YtohfkhjlnlahdaaGreatQ02
import Derived.Test.YtohfkhjlnlahdaaGreatQ05
set_option linter.all false
namespace Go.Proofs.YtohfkhjlnlahdaaGreat
open Go
def cat {α:Type} (f:Nat→List α):Nat→List α
 | 0=>[]
 | n+1=>cat f n++f n
theorem gH {α:Type} {f:Nat→List α} {x:α}:∀ {n:Nat},x∈cat f n↔∃ k,k<n∧x∈f k
 | 0=>by simp[cat]
 | n+1=>by
   rw[cat,List.mem_append,gH]
   constructor
   ·rintro(⟨k,A,a⟩ | h)
    ·exact⟨k,by omega,a⟩
    ·exact⟨n,by omega,h⟩
   ·rintro⟨k,A,a⟩
    by_cases e:k=n
    ·subst e;exact .inr a
    ·exact .inl ⟨k,by omega,a⟩
theorem fi {α:Type} {f g:Nat→List α}:∀ {n:Nat},(∀ k,k<n→f k=g k)→cat f n=cat g n
 | 0,_=>rfl
 | n+1,h=>by rw[cat,cat,fi (fun k a=>h k (by omega)),h n (by omega)]
theorem pt {α:Type} {f:Nat→List α}:∀ {n:Nat},(∀ k,k<n→f k=[])→cat f n=[]
 | 0,_=>rfl
 | n+1,h=>by rw[cat,pt (fun k a=>h k (by omega)),h n (by omega)];rfl
def dS:StD:=⟨aG,false,0⟩
def dC:CtrD:=⟨aG,0⟩
def dT:StpD:=⟨aG,aG,0,aG,aG,aG,0,0,0⟩
def dR:RolD:=⟨aG,[],[],[]⟩
def SesD.rol (s:SesD) (i:Nat):RolD:=s.roles.getD i dR
def RolD.stp (r:RolD) (k:Nat):StpD:=r.steps.getD k dT
theorem aW {α:Type} {l:List α} {i:Nat} {x d:α} (a:l[i]?=some x):l.getD i d=x:=by rw[List.getD_eq_getElem?_getD,a];rfl
theorem bf {α:Type} {l:List α} {i:Nat} {d:α} (a:i<l.length):l[i]?=some (l.getD i d):=by rw[List.getD_eq_getElem?_getD,List.getElem?_eq_getElem a];rfl
def cD (lim:Int) (t:StpD) (v:Int):Bool:=decide (t.low≤v) && decide (v≤t.high) && decide (-v≤t.add) && decide (t.add≤lim - v)
def bY (a:List CtrD) (h:List Int) (t:StpD):Bool:=
 if t.ctr=aG then true
 else decide (0≤bL a t.ctr) && cD (a.getD (bL a t.ctr).toNat dC).lim t (h.getD (bL a t.ctr).toNat 0)
def cJ (h:List CtrD) (a:List Int) (t:StpD):List Int:=
 if t.ctr=aG then a else a.set (bL h t.ctr).toNat (a.getD (bL h t.ctr).toNat 0+t.add)
structure PS where
 pos:List Nat
 vals:List (List Int)
 ways:List (List (List ByteArray))
 deriving DecidableEq
structure Mv where
 kind:Int
 role:Int
 step:Int
 place:Int
 deriving DecidableEq
def fE (a:List (List (List ByteArray))) (i k:Nat):List ByteArray:=(a.getD i []).getD k []
def PS.way (x:PS) (i k:Nat):List ByteArray:=fE x.ways i k
def setWay (a:List (List (List ByteArray))) (i k:Nat) (l:List ByteArray):List (List (List ByteArray)):=a.set i ((a.getD i []).set k l)
def PS.at (x:PS) (i:Nat):Nat:=x.pos.getD i 0
def PS.bank (x:PS) (i:Nat):List Int:=x.vals.getD i []
def bd (s:SesD) (t:StpD):Nat:=(bT s t.peer).toNat
def dL (s:SesD) (x:PS) (i k:Nat):Bool:=
 bY (s.rol i).ctrs (x.bank i) ((s.rol i).stp k) && decide (((s.rol i).sts.getD (x.at i) dS).name=((s.rol i).stp k).frm)
def eI (m:ByteArray) (i k:Nat) (l:List (Nat × ByteArray)):List Mv:=l.filterMap fun e=>if e.2=m then some ⟨1,i,k,e.1⟩ else none
def be (s:SesD) (x:PS) (i k:Nat):List Mv:=
 if dL s x i k=false then []
 else if ((s.rol i).stp k).kind=2 then eI ((s.rol i).stp k).msg i k (cX s.cls (x.way (bd s ((s.rol i).stp k)) i) (x.way (bd s ((s.rol i).stp k)) i).length)
 else if ((s.rol i).stp k).kind=1∧s.cap≤((x.way i (bd s ((s.rol i).stp k))).length:Int) then []
 else [⟨1,i,k,0⟩]
def bP (s:SesD) (x:PS) (i k:Nat):List Mv:=if s.cls=3∧0<(x.way i k).length then [⟨2,i,k,0⟩] else []
def aN (s:SesD) (x:PS):List Mv:=
 cat (fun i=>cat (fun k=>be s x i k) (s.rol i).steps.length) s.roles.length++cat (fun i=>cat (fun k=>bP s x i k) s.roles.length) s.roles.length
def bh (s:SesD) (x:PS) (m:Mv):PS:=
 if m.kind=2 then { x with ways:=setWay x.ways m.role.toNat m.step.toNat (eZ s.cls (x.way m.role.toNat m.step.toNat)) }
 else
  { pos:=x.pos.set m.role.toNat (bK (s.rol m.role.toNat) ((s.rol m.role.toNat).stp m.step.toNat).to).toNat
    vals:=x.vals.set m.role.toNat (cJ (s.rol m.role.toNat).ctrs (x.bank m.role.toNat) ((s.rol m.role.toNat).stp m.step.toNat))
    ways:=
     if ((s.rol m.role.toNat).stp m.step.toNat).kind=1 then
      setWay x.ways m.role.toNat (bd s ((s.rol m.role.toNat).stp m.step.toNat)) (gv s.cap (x.way m.role.toNat (bd s ((s.rol m.role.toNat).stp m.step.toNat))) ((s.rol m.role.toNat).stp m.step.toNat).msg)
     else if ((s.rol m.role.toNat).stp m.step.toNat).kind=2 then
      setWay x.ways (bd s ((s.rol m.role.toNat).stp m.step.toNat)) m.role.toNat (dG s.cls (x.way (bd s ((s.rol m.role.toNat).stp m.step.toNat)) m.role.toNat) m.place)
     else x.ways }
def bg (s:SesD):PS:=
 { pos:=s.roles.map fun _=>0
   vals:=s.roles.map fun r=>r.ctrs.map fun _=>0
   ways:=s.roles.map fun _=>s.roles.map fun _=>[] }
def og (s:SesD) (x:PS):Bool:=
 (List.range s.roles.length).all fun i=>(x.ways.getD i []).all (fun l=>l.isEmpty) && ((s.rol i).sts.getD (x.at i) dS).fin
def two (v:Int):List UInt8:=[UInt8.ofNat (v.toNat / 256),UInt8.ofNat (v.toNat % 256)]
def cW (x:PS) (i:Nat):List UInt8:=UInt8.ofNat (x.at i) :: (x.bank i).flatMap two
def bU (s:SesD) (x:PS) (i k:Nat):List UInt8:=if i=k then [] else UInt8.ofNat (x.way i k).length :: byt (dV (dj s.cls (x.way i k)))
def cY (s:SesD) (x:PS):List UInt8:=
 cat (cW x) s.roles.length++cat (fun i=>cat (bU s x i) s.roles.length) s.roles.length
structure StpOk (s:SesD) (r:RolD) (t:StpD):Prop where
 k1:1≤t.kind
 k4:t.kind≤4
 frm:0≤bK r t.frm
 to:0≤bK r t.to
 msg:t.kind≤2→1≤t.msg.size∧t.msg.size≤32
 peer:t.kind≤2→0≤bT s t.peer∧t.peer≠r.name
 ctr:t.ctr≠aG→∃ (k:Nat) (c:CtrD),bL r.ctrs t.ctr=k∧r.ctrs[k]?=some c∧0≤t.low∧t.low≤t.high∧t.high≤c.lim∧0≤t.low+t.add∧t.high+t.add≤c.lim∧-1000≤t.add∧t.add≤1000
structure RolOk (s:SesD) (r:RolD):Prop where
 name:aL r.name=true
 c4:r.ctrs.length≤4
 cN:∀ c∈r.ctrs,aL c.name=true∧1≤c.lim∧c.lim≤1000
 cU:∀ (i j:Nat) (a b:CtrD),r.ctrs[i]?=some a→r.ctrs[j]?=some b→a.name=b.name→i=j
 s1:1≤r.sts.length
 s24:r.sts.length≤24
 sU:∀ (i j:Nat) (a b:StD),r.sts[i]?=some a→r.sts[j]?=some b→a.name=b.name→i=j
 t80:r.steps.length≤80
 stp:∀ t∈r.steps,StpOk s r t
structure SesOk (s:SesD):Prop where
 n2:2≤s.roles.length
 n4:s.roles.length≤4
 c1:1≤s.cls
 c3:s.cls≤3
 k1:1≤s.cap
 k4:s.cap≤4
 name:aL s.name=true
 rol:∀ r∈s.roles,RolOk s r
 uniq:∀ (i j:Nat) (a b:RolD),s.roles[i]?=some a→s.roles[j]?=some b→a.name=b.name→i=j
structure PSok (s:SesD) (x:PS):Prop where
 pl:x.pos.length=s.roles.length
 pb:∀ i,i<s.roles.length→x.at i<(s.rol i).sts.length
 vl:x.vals.length=s.roles.length
 vb:∀ i,i<s.roles.length→(x.bank i).length=(s.rol i).ctrs.length∧∀ (k:Nat) (c:CtrD),(s.rol i).ctrs[k]?=some c→0≤(x.bank i).getD k 0∧(x.bank i).getD k 0≤c.lim
 wl:x.ways.length=s.roles.length
 wr:∀ i,i<s.roles.length→(x.ways.getD i []).length=s.roles.length
 wb:∀ i k,i<s.roles.length→k<s.roles.length→((x.way i k).length:Int)≤s.cap∧∀ m∈x.way i k,1≤m.size∧m.size≤32
 wd:∀ i,x.way i i=[]
section
variable {s:SesD} {x:PS}
theorem SesD.rol_some {i:Nat} (a:i<s.roles.length):s.roles[i]?=some (s.rol i):=bf a
theorem SesOk.at (a:SesOk s) {i:Nat} (h:i<s.roles.length):RolOk s (s.rol i):=a.rol _ (List.mem_of_getElem? (SesD.rol_some h))
theorem RolD.stp_some {r:RolD} {k:Nat} (a:k<r.steps.length):r.steps[k]?=some (r.stp k):=bf a
theorem RolOk.at {r:RolD} (a:RolOk s r) {k:Nat} (h:k<r.steps.length):StpOk s r (r.stp k):=a.stp _ (List.mem_of_getElem? (RolD.stp_some h))
theorem SesOk.stp (a:SesOk s) {i k:Nat} (h:i<s.roles.length) (A:k<(s.rol i).steps.length):StpOk s (s.rol i) ((s.rol i).stp k):=(a.at h).at A
theorem SesOk.peer (H:SesOk s) {i k:Nat} (A:i<s.roles.length) (N:k<(s.rol i).steps.length) (I:((s.rol i).stp k).kind≤2) :
  bT s ((s.rol i).stp k).peer=(bd s ((s.rol i).stp k):Int)∧bd s ((s.rol i).stp k)<s.roles.length∧bd s ((s.rol i).stp k)≠i:=by
 obtain⟨J,K⟩:=(H.stp A N).peer I
 obtain⟨p,a,O⟩:=cO J
 have e:bd s ((s.rol i).stp k)=p:=by unfold bd bT;rw[a];rfl
 rw[e]
 refine⟨a,O,fun E=>?_⟩
 subst E
 obtain⟨r,h,G,-⟩:=ef a
 rw[SesD.rol_some A] at h
 cases h
 exact K (by simpa using G:(s.rol p).name=_).symm
theorem ie {h:List (List (List ByteArray))} {i k a b:Nat} {l:List ByteArray} (A:i<h.length) (E:k<(h.getD i []).length) :
  fE (setWay h i k l) a b=if a=i∧b=k then l else fE h a b:=by
 unfold fE setWay
 simp only[List.getD_eq_getElem?_getD,List.getElem?_set] at *
 by_cases ha:i=a
 ·subst ha
  rw[if_pos rfl,if_pos A]
  simp only[Option.getD_some,List.getElem?_set]
  by_cases hb:k=b
  ·subst hb;rw[if_pos rfl,if_pos E];simp
  ·rw[if_neg hb,if_neg (by simp;omega)]
 ·rw[if_neg ha,if_neg (by simp;omega)]
theorem dk (a:List (List (List ByteArray))) (i k:Nat) (l:List ByteArray):(setWay a i k l).length=a.length:=by simp[setWay]
theorem setWay_row {h:List (List (List ByteArray))} {i k a:Nat} {l:List ByteArray}:((setWay h i k l).getD a []).length=(h.getD a []).length:=by
 unfold setWay
 simp only[List.getD_eq_getElem?_getD,List.getElem?_set]
 by_cases ha:i=a
 ·subst ha
  rw[if_pos rfl]
  by_cases hi:i<h.length
  ·rw[if_pos hi];simp
  ·rw[if_neg hi,List.getElem?_eq_none (by omega)]
 ·rw[if_neg ha]
theorem PSok.set (a:PSok s x) {i k:Nat} {l:List ByteArray} (H:i<s.roles.length) (I:k<s.roles.length) (K:i≠k) (J:(l.length:Int)≤s.cap∧∀ m∈l,1≤m.size∧m.size≤32) :
  PSok s { x with ways:=setWay x.ways i k l }:=by
 have E:i<x.ways.length:=by rw[a.wl];exact H
 have G:k<(x.ways.getD i []).length:=by rw[a.wr i H];exact I
 refine⟨a.pl,a.pb,a.vl,a.vb,(dk _ _ _ _).trans a.wl,fun h A=>setWay_row.trans (a.wr h A),fun h b A hb=>?_,fun h=>?_⟩
 ·show ((fE (setWay x.ways i k l) h b).length:Int)≤_∧∀ m∈fE (setWay x.ways i k l) h b,_
  rw[ie E G]
  split
  ·exact J
  ·exact a.wb h b A hb
 ·show fE (setWay x.ways i k l) h h=[]
  rw[ie E G,if_neg (by omega)]
  exact a.wd h
end
end Go.Proofs.YtohfkhjlnlahdaaGreat
