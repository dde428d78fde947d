/- Part of the proof. -/
set_option linter.all false
namespace Go.Proofs.YtohfkhjlnlahdaaGreat
def ixf {α:Type} (p:α→Bool):List α→Int
 | []=>-1
 | x :: l=>if p x then 0 else if ixf p l<0 then -1 else ixf p l+1
section
variable {α:Type} {p q:α→Bool} {l:List α}
theorem ug (p:α→Bool):∀ l:List α,-1≤ixf p l
 | []=>by simp[ixf]
 | x :: l=>by have:=ug p l;unfold ixf;split <;> (try split) <;> omega
theorem rq (p:α→Bool):∀ l:List α,ixf p l<l.length
 | []=>by simp[ixf]
 | x :: l=>by have:=rq p l;unfold ixf;simp only[List.length_cons];split <;> (try split) <;> omega
theorem cn:∀ {l:List α},(∀ x∈l,p x=false)→ixf p l=-1
 | [],_=>rfl
 | x :: l,h=>by
   have a:=h x (by simp)
   have A:=cn (l:=l) (fun y E=>h y (by simp[E]))
   unfold ixf;rw[a,A];rfl
theorem cj:∀ {l:List α} {i:Nat} {x:α},l[i]?=some x→p x=true→(∀ j y,j<i→l[j]?=some y→p y=false)→ixf p l=i
 | [],i,x,h,_,_=>by simp at h
 | a :: l,0,x,h,hp,_=>by simp at h;subst h;unfold ixf;rw[hp];rfl
 | a :: l,i+1,x,h,hp,hn=>by
   have A:=hn 0 a (by omega) (by simp)
   have E:=cj (l:=l) (i:=i) (x:=x) (by simpa using h) hp (fun j y H G=>hn (j+1) y (by omega) (by simpa using G))
   unfold ixf;simp only[A,E]
   rw[if_neg (by simp),if_neg (by omega)];omega
theorem ef:∀ {l:List α} {i:Nat},ixf p l=i→∃ x,l[i]?=some x∧p x=true∧∀ j y,j<i→l[j]?=some y→p y=false
 | [],i,h=>by exfalso;have:(-1:Int)=i:=h;omega
 | a :: l,i,h=>by
   unfold ixf at h
   by_cases hp:p a=true
   ·rw[if_pos hp] at h
    obtain rfl:i=0:=by omega
    exact⟨a,by simp,hp,fun j y I=>by omega⟩
   ·rw[if_neg hp] at h
    by_cases hn:ixf p l<0
    ·rw[if_pos hn] at h;omega
    ·rw[if_neg hn] at h
     cases i with
     | zero=>omega
     | succ i =>
       obtain⟨x,E,G,H⟩:=ef (l:=l) (i:=i) (by omega)
       refine⟨x,by simpa using E,G,fun j y I A=>?_⟩
       cases j with
       | zero=>simp at A;subst A;simpa using hp
       | succ j=>exact H j y (by omega) (by simpa using A)
theorem pi:∀ {l:List α},ixf p l<0→∀ x∈l,p x=false
 | [],_,x,A=>by simp at A
 | a :: l,h,x,A=>by
   unfold ixf at h
   by_cases hp:p a=true
   ·rw[if_pos hp] at h;omega
   ·rw[if_neg hp] at h
    have E:ixf p l<0:=by
     by_cases E:ixf p l<0
     ·exact E
     ·rw[if_neg E] at h;omega
    rcases List.mem_cons.1 A with rfl | A
    ·simpa using hp
    ·exact pi E x A
theorem fQ {x:α} (A:x∈l) (h:p x=true):0≤ixf p l:=by
 rcases Int.lt_or_le (ixf p l) 0 with a | a
 ·have:=pi a x A;rw[h] at this;cases this
 ·exact a
theorem cO (a:0≤ixf p l):∃ i:Nat,ixf p l=i∧i<l.length:=by
 obtain⟨i,h⟩:=Int.eq_ofNat_of_zero_le a
 have:=rq p l
 exact⟨i,h,by omega⟩
end
structure StD where
 name:ByteArray
 fin:Bool
 wait:Int
 deriving DecidableEq
structure CtrD where
 name:ByteArray
 lim:Int
 deriving DecidableEq
structure StpD where
 frm:ByteArray
 to:ByteArray
 kind:Int
 msg:ByteArray
 peer:ByteArray
 ctr:ByteArray
 low:Int
 high:Int
 add:Int
 deriving DecidableEq
structure RolD where
 name:ByteArray
 sts:List StD
 ctrs:List CtrD
 steps:List StpD
 deriving DecidableEq
structure SesD where
 name:ByteArray
 roles:List RolD
 cls:Int
 cap:Int
 deriving DecidableEq
def iU (c:Nat):Bool:=(decide (97≤c) && decide (c≤122)) || (decide (65≤c) && decide (c≤90))
def rt (c:Nat):Bool:=iU c || decide (c=95) || (decide (48≤c) && decide (c≤57))
def mB:List UInt8→Bool
 | []=>true
 | c :: l=>iU c.toNat && l.all (fun d=>rt d.toNat)
def aL (s:ByteArray):Bool:=decide (1≤s.size) && decide (s.size≤32) && mB s.data.toList
def bK (r:RolD) (n:ByteArray):Int:=ixf (fun s=>decide (s.name=n)) r.sts
def bL (a:List CtrD) (n:ByteArray):Int:=ixf (fun c=>decide (c.name=n)) a
def bT (s:SesD) (n:ByteArray):Int:=ixf (fun r=>decide (r.name=n)) s.roles
def aG:ByteArray:={ data:=#[] }
def bp (r:RolD) (s:StpD):Bool:=
 if s.ctr=aG then decide (s.low=0) && decide (s.high=0) && decide (s.add=0)
 else match r.ctrs.find? (fun c=>decide (c.name=s.ctr)) with
  | none=>false
  | some c=>decide (0≤s.low) && decide (s.low≤s.high) && decide (-1000≤s.add) && decide (s.add≤1000) && decide (s.high≤c.lim) && decide (0≤s.low+s.add) && decide (s.high+s.add≤c.lim)
def dp (r:RolD) (s:StpD) (f:StD):Bool:=
 if s.kind=1∨s.kind=2 then aL s.msg && aL s.peer && !decide (s.peer=r.name)
 else if s.kind=3 then decide (s.msg=aG) && decide (s.peer=aG) && decide (0<f.wait)
 else if s.kind=4 then decide (s.msg=aG) && decide (s.peer=aG)
 else false
def aY (r:RolD) (n:Nat) (s:StpD):Bool:=
 match r.sts.find? (fun x=>decide (x.name=s.frm)) with
 | none=>false
 | some f=>decide (0≤bK r s.to) && bp r s && dp r s f && !(r.steps.take n).contains s
def bZ (r:RolD) (i:Nat) (c:CtrD):Bool:=!aL c.name || decide (bL r.ctrs c.name<i) || decide (c.lim<1) || decide (1000<c.lim)
def dn (r:RolD) (i:Nat) (s:StD):Bool:=!aL s.name || decide (bK r s.name<i) || decide (s.wait<0) || decide (1048576<s.wait)
def de {α:Type} (p:Nat→α→Bool):Nat→List α→Bool
 | _,[]=>false
 | i,x :: l=>p i x || de p (i+1) l
theorem anyIx_iff {α:Type} {p:Nat→α→Bool}:∀ {l:List α} {i:Nat},de p i l=true↔∃ k x,l[k]?=some x∧p (i+k) x=true
 | [],i=>by simp[de]
 | a :: l,i=>by
   simp only[de,Bool.or_eq_true,anyIx_iff (l:=l)]
   constructor
   ·rintro(E | ⟨k,x,h,A⟩)
    ·exact⟨0,a,by simp,E⟩
    ·exact⟨k+1,x,by simpa using h,by rw[show i+(k+1)=i+1+k by omega];exact A⟩
   ·rintro⟨k,x,h,A⟩
    cases k with
    | zero=>simp at h;subst h;exact .inl A
    | succ k=>exact .inr ⟨k,x,by simpa using h,by rw[show i+1+k=i+(k+1) by omega];exact A⟩
theorem anyIx_false {α:Type} {p:Nat→α→Bool} {l:List α} {i:Nat}:de p i l=false↔∀ k x,l[k]?=some x→p (i+k) x=false:=by
 rw[← Bool.not_eq_true,anyIx_iff]
 constructor
 ·intro h k x A
  rw[← Bool.not_eq_true]
  exact fun a=>h ⟨k,x,A,a⟩
 ·rintro h ⟨k,x,A,a⟩
  rw[h k x A] at a;cases a
def cF (r:RolD):Int:=
 if aL r.name=false then 290
 else if 4<r.ctrs.length∨de (bZ r) 0 r.ctrs=true then 291
 else if r.sts.length<1∨24<r.sts.length∨de (dn r) 0 r.sts=true then 292
 else if 80<r.steps.length∨de (fun i s=>!aY r i s) 0 r.steps=true then 293
 else 0
def eh (s:SesD) (i:Nat) (r:RolD):Int:=if cF r=0 then (if bT s r.name<i then 290 else 0) else cF r
def cQ (s:SesD):Nat→List RolD→Int
 | _,[]=>0
 | i,r :: l=>if eh s i r=0 then cQ s (i+1) l else eh s i r
def ei (s:StpD):Bool:=decide (s.kind=1) || decide (s.kind=2)
def dM (s:SesD) (r:RolD):Bool:=r.steps.any fun t=>ei t && decide (bT s t.peer<0)
def eE (s:SesD):Bool:=decide (s.roles.length<2) || decide (4<s.roles.length) || decide (s.cls<1) || decide (3<s.cls) || decide (s.cap<1) || decide (4<s.cap)
def eo (s:SesD):Int:=
 if aL s.name=false then 290
 else if eE s=true then 2
 else if cQ s 0 s.roles=0 then (if s.roles.any (dM s)=true then 294 else 0)
 else cQ s 0 s.roles
end Go.Proofs.YtohfkhjlnlahdaaGreat
