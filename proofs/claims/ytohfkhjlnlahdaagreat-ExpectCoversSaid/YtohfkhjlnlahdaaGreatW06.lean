/- Part of the proof. -/
set_option linter.all false
namespace Go.Proofs.YtohfkhjlnlahdaaGreat
def ixf {α:Type} (p:α→Bool):List α→Int
 | []=>-1
 | x :: l=>if p x then 0 else if ixf p l < 0 then -1 else ixf p l + 1
section
variable {α:Type} {p q:α→Bool} {l:List α}
theorem ixf_ge (p:α→Bool):∀ l:List α,-1≤ixf p l
 | []=>by simp[ixf]
 | x :: l=>by have:=ixf_ge p l;unfold ixf;split <;> (try split) <;> omega
theorem ixf_lt (p:α→Bool):∀ l:List α,ixf p l < l.length
 | []=>by simp[ixf]
 | x :: l=>by have:=ixf_lt p l;unfold ixf;simp only[List.length_cons];split <;> (try split) <;> omega
theorem ixf_none:∀ {l:List α},(∀ x∈l,p x=false)→ixf p l=-1
 | [],_=>rfl
 | x :: l,h=>by
   have h1:=h x (by simp)
   have h2:=ixf_none (l:=l) (fun y hy=>h y (by simp[hy]))
   unfold ixf;rw[h1,h2];rfl
theorem ixf_some:∀ {l:List α} {i:Nat} {x:α},l[i]?=some x→p x=true→(∀ j y,j < i→l[j]?=some y→p y=false)→ixf p l=i
 | [],i,x,h,_,_=>by simp at h
 | a :: l,0,x,h,hp,_=>by simp at h;subst h;unfold ixf;rw[hp];rfl
 | a :: l,i + 1,x,h,hp,hn=>by
   have h1:=hn 0 a (by omega) (by simp)
   have h2:=ixf_some (l:=l) (i:=i) (x:=x) (by simpa using h) hp (fun j y hj hy=>hn (j + 1) y (by omega) (by simpa using hy))
   unfold ixf;simp only[h1,h2]
   rw[if_neg (by simp),if_neg (by omega)];omega
theorem ixf_at:∀ {l:List α} {i:Nat},ixf p l=i→∃ x,l[i]?=some x∧p x=true∧∀ j y,j < i→l[j]?=some y→p y=false
 | [],i,h=>by exfalso;have:(-1:Int)=i:=h;omega
 | a :: l,i,h=>by
   unfold ixf at h
   by_cases hp:p a=true
   ·rw[if_pos hp] at h
    obtain rfl:i=0:=by omega
    exact⟨a,by simp,hp,fun j y hj=>by omega⟩
   ·rw[if_neg hp] at h
    by_cases hn:ixf p l < 0
    ·rw[if_pos hn] at h;omega
    ·rw[if_neg hn] at h
     cases i with
     | zero=>omega
     | succ i =>
       obtain⟨x,h1,h2,h3⟩:=ixf_at (l:=l) (i:=i) (by omega)
       refine⟨x,by simpa using h1,h2,fun j y hj hy=>?_⟩
       cases j with
       | zero=>simp at hy;subst hy;simpa using hp
       | succ j=>exact h3 j y (by omega) (by simpa using hy)
theorem ixf_neg:∀ {l:List α},ixf p l < 0→∀ x∈l,p x=false
 | [],_,x,hx=>by simp at hx
 | a :: l,h,x,hx=>by
   unfold ixf at h
   by_cases hp:p a=true
   ·rw[if_pos hp] at h;omega
   ·rw[if_neg hp] at h
    have hn:ixf p l < 0:=by
     by_cases hn:ixf p l < 0
     ·exact hn
     ·rw[if_neg hn] at h;omega
    rcases List.mem_cons.1 hx with rfl | hx
    ·simpa using hp
    ·exact ixf_neg hn x hx
theorem ixf_ex {x:α} (hx:x∈l) (hp:p x=true):0≤ixf p l:=by
 rcases Int.lt_or_le (ixf p l) 0 with h | h
 ·have:=ixf_neg h x hx;rw[hp] at this;cases this
 ·exact h
theorem ixf_nat (h:0≤ixf p l):∃ i:Nat,ixf p l=i∧i < l.length:=by
 obtain⟨i,hi⟩:=Int.eq_ofNat_of_zero_le h
 have:=ixf_lt p l
 exact⟨i,hi,by omega⟩
end
structure StD where
 name:ByteArray
 fin:Bool
 wait:Int
 deriving DecidableEq
structure CtrD where
 name:ByteArray
 lim:Int
 deriving DecidableEq
structure StpD where
 frm:ByteArray
 to:ByteArray
 kind:Int
 msg:ByteArray
 peer:ByteArray
 ctr:ByteArray
 low:Int
 high:Int
 add:Int
 deriving DecidableEq
structure RolD where
 name:ByteArray
 sts:List StD
 ctrs:List CtrD
 steps:List StpD
 deriving DecidableEq
structure SesD where
 name:ByteArray
 roles:List RolD
 cls:Int
 cap:Int
 deriving DecidableEq
def letterB (c:Nat):Bool:=(decide (97≤c) && decide (c≤122)) || (decide (65≤c) && decide (c≤90))
def restB (c:Nat):Bool:=letterB c || decide (c=95) || (decide (48≤c) && decide (c≤57))
def nameL:List UInt8→Bool
 | []=>true
 | c :: l=>letterB c.toNat && l.all (fun d=>restB d.toNat)
def nameB (s:ByteArray):Bool:=decide (1≤s.size) && decide (s.size≤32) && nameL s.data.toList
def stIx (r:RolD) (n:ByteArray):Int:=ixf (fun s=>decide (s.name=n)) r.sts
def ctrIx (cs:List CtrD) (n:ByteArray):Int:=ixf (fun c=>decide (c.name=n)) cs
def rolIx (s:SesD) (n:ByteArray):Int:=ixf (fun r=>decide (r.name=n)) s.roles
def emptyS:ByteArray:={ data:=#[] }
def guardB (r:RolD) (s:StpD):Bool:=
 if s.ctr=emptyS then decide (s.low=0) && decide (s.high=0) && decide (s.add=0)
 else match r.ctrs.find? (fun c=>decide (c.name=s.ctr)) with
  | none=>false
  | some c=>decide (0≤s.low) && decide (s.low≤s.high) && decide (-1000≤s.add) && decide (s.add≤1000) && decide (s.high≤c.lim) && decide (0≤s.low + s.add) && decide (s.high + s.add≤c.lim)
def kindB (r:RolD) (s:StpD) (f:StD):Bool:=
 if s.kind=1∨s.kind=2 then nameB s.msg && nameB s.peer && !decide (s.peer=r.name)
 else if s.kind=3 then decide (s.msg=emptyS) && decide (s.peer=emptyS) && decide (0 < f.wait)
 else if s.kind=4 then decide (s.msg=emptyS) && decide (s.peer=emptyS)
 else false
def stepB (r:RolD) (n:Nat) (s:StpD):Bool:=
 match r.sts.find? (fun x=>decide (x.name=s.frm)) with
 | none=>false
 | some f=>decide (0≤stIx r s.to) && guardB r s && kindB r s f && !(r.steps.take n).contains s
def ctrBad (r:RolD) (i:Nat) (c:CtrD):Bool:=!nameB c.name || decide (ctrIx r.ctrs c.name < i) || decide (c.lim < 1) || decide (1000 < c.lim)
def stBad (r:RolD) (i:Nat) (s:StD):Bool:=!nameB s.name || decide (stIx r s.name < i) || decide (s.wait < 0) || decide (1048576 < s.wait)
def anyIx {α:Type} (p:Nat→α→Bool):Nat→List α→Bool
 | _,[]=>false
 | i,x :: l=>p i x || anyIx p (i + 1) l
theorem anyIx_iff {α:Type} {p:Nat→α→Bool}:∀ {l:List α} {i:Nat},anyIx p i l=true↔∃ k x,l[k]?=some x∧p (i + k) x=true
 | [],i=>by simp[anyIx]
 | a :: l,i=>by
   simp only[anyIx,Bool.or_eq_true,anyIx_iff (l:=l)]
   constructor
   ·rintro(h | ⟨k,x,h1,h2⟩)
    ·exact⟨0,a,by simp,h⟩
    ·exact⟨k + 1,x,by simpa using h1,by rw[show i + (k + 1)=i + 1 + k by omega];exact h2⟩
   ·rintro⟨k,x,h1,h2⟩
    cases k with
    | zero=>simp at h1;subst h1;exact .inl h2
    | succ k=>exact .inr ⟨k,x,by simpa using h1,by rw[show i + 1 + k=i + (k + 1) by omega];exact h2⟩
theorem anyIx_false {α:Type} {p:Nat→α→Bool} {l:List α} {i:Nat}:anyIx p i l=false↔∀ k x,l[k]?=some x→p (i + k) x=false:=by
 rw[← Bool.not_eq_true,anyIx_iff]
 constructor
 ·intro h k x hk
  rw[← Bool.not_eq_true]
  exact fun hp=>h ⟨k,x,hk,hp⟩
 ·rintro h ⟨k,x,hk,hp⟩
  rw[h k x hk] at hp;cases hp
def ckRole (r:RolD):Int:=
 if nameB r.name=false then 290
 else if 4 < r.ctrs.length∨anyIx (ctrBad r) 0 r.ctrs=true then 291
 else if r.sts.length < 1∨24 < r.sts.length∨anyIx (stBad r) 0 r.sts=true then 292
 else if 80 < r.steps.length∨anyIx (fun i s=>!stepB r i s) 0 r.steps=true then 293
 else 0
def rolE (s:SesD) (i:Nat) (r:RolD):Int:=if ckRole r=0 then (if rolIx s r.name < i then 290 else 0) else ckRole r
def firstE (s:SesD):Nat→List RolD→Int
 | _,[]=>0
 | i,r :: l=>if rolE s i r=0 then firstE s (i + 1) l else rolE s i r
def speaks (s:StpD):Bool:=decide (s.kind=1) || decide (s.kind=2)
def lostB (s:SesD) (r:RolD):Bool:=r.steps.any fun t=>speaks t && decide (rolIx s t.peer < 0)
def sesBad (s:SesD):Bool:=decide (s.roles.length < 2) || decide (4 < s.roles.length) || decide (s.cls < 1) || decide (3 < s.cls) || decide (s.cap < 1) || decide (4 < s.cap)
def ckSes (s:SesD):Int:=
 if nameB s.name=false then 290
 else if sesBad s=true then 2
 else if firstE s 0 s.roles=0 then (if s.roles.any (lostB s)=true then 294 else 0)
 else firstE s 0 s.roles
end Go.Proofs.YtohfkhjlnlahdaaGreat
