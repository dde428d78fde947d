/- Part of the proof. -/
import Derived.Test.YtemjlpahohmajaaGreatU10
set_option linter.all false
namespace Go.Proofs.YtemjlpahohmajaaGreat
open Go
theorem nameB_size {b:ByteArray} (h:nameB b=true):1≤b.size∧b.size≤32:=by
 unfold nameB at h
 simp only[Bool.and_eq_true,decide_eq_true_eq] at h
 exact h.1
theorem find_ixf {α:Type} {p:α→Bool}:∀ {l:List α},match l.find? p with
  | none=>ixf p l=-1
  | some x=>∃ k:Nat,ixf p l=k∧l[k]?=some x∧p x=true
 | []=>rfl
 | a :: l=>by
   have ih:=find_ixf (p:=p) (l:=l)
   rw[List.find?_cons]
   cases hp:p a with
   | true=>exact⟨0,by unfold ixf;rw[hp];rfl,rfl,hp⟩
   | false =>
     unfold ixf
     rw[hp]
     simp only[Bool.false_eq_true,if_false]
     cases hf:l.find? p with
     | none=>rw[hf] at ih;simp only at ih ⊢;rw[ih];rfl
     | some x =>
       rw[hf] at ih
       obtain⟨k,h1,h2,h3⟩:=ih
       exact⟨k + 1,by rw[h1,if_neg (by omega)];omega,by simpa using h2,h3⟩
section
variable {s:SesD} {r:RolD}
theorem first_zero:∀ {l:List RolD} {i:Nat},firstE s i l=0→∀ k a,l[k]?=some a→rolE s (i + k) a=0
 | [],i,_,k,a,hk=>by simp at hk
 | b :: l,i,h,k,a,hk=>by
   unfold firstE at h
   by_cases e:rolE s i b=0
   ·rw[if_pos e] at h
    cases k with
    | zero=>simp at hk;subst hk;exact e
    | succ k=>have:=first_zero h k a (by simpa using hk);rwa [show i + (k + 1)=i + 1 + k by omega]
   ·rw[if_neg e] at h;exact absurd h e
theorem rolE_zero {i:Nat} (h:rolE s i r=0):ckRole r=0∧(i:Int)≤rolIx s r.name:=by
 unfold rolE at h
 by_cases e:ckRole r=0
 ·rw[if_pos e] at h
  refine⟨e,?_⟩
  rcases Int.lt_or_le (rolIx s r.name) i with h1 | h1
  ·rw[if_pos h1] at h;cases h
  ·exact h1
 ·rw[if_neg e] at h;exact absurd h e
theorem uniq_of {α:Type} {f:α→ByteArray} {l:List α} (h:∀ (i:Nat) (a:α),l[i]?=some a→(i:Int)≤ixf (fun x=>decide (f x=f a)) l):∀ (i j:Nat) (a b:α),l[i]?=some a→l[j]?=some b→f a=f b→i=j:=by
 have key:∀ (i j:Nat) (a b:α),l[i]?=some a→l[j]?=some b→f a=f b→¬ i < j:=by
  intro i j a b hi hj e hlt
  have h1:=h j b hj
  obtain⟨k,hk,hkl⟩:=ixf_nat (show 0≤ixf (fun x=>decide (f x=f b)) l by omega)
  obtain⟨x,-,-,h4⟩:=ixf_at hk
  have:=h4 i a (by omega) hi
  rw[decide_eq_false_iff_not] at this
  exact this e
 intro i j a b hi hj e
 have h1:=key i j a b hi hj e
 have h2:=key j i b a hj hi e.symm
 omega
theorem ckRole_ok (h:ckRole r=0):nameB r.name=true∧r.ctrs.length≤4∧(∀ i c,r.ctrs[i]?=some c→ctrBad r i c=false)∧1≤r.sts.length∧r.sts.length≤24∧(∀ i c,r.sts[i]?=some c→stBad r i c=false) ∧
  r.steps.length≤80∧∀ i t,r.steps[i]?=some t→stepB r i t=true:=by
 unfold ckRole at h
 by_cases h1:nameB r.name=false
 ·rw[if_pos h1] at h;cases h
 rw[if_neg h1] at h
 by_cases h2:4 < r.ctrs.length∨anyIx (ctrBad r) 0 r.ctrs=true
 ·rw[if_pos h2] at h;cases h
 rw[if_neg h2] at h
 by_cases h3:r.sts.length < 1∨24 < r.sts.length∨anyIx (stBad r) 0 r.sts=true
 ·rw[if_pos h3] at h;cases h
 rw[if_neg h3] at h
 by_cases h4:80 < r.steps.length∨anyIx (fun i s=>!stepB r i s) 0 r.steps=true
 ·rw[if_pos h4] at h;cases h
 simp only[not_or,Nat.not_lt,Bool.not_eq_true,Bool.not_eq_false] at h1 h2 h3 h4
 refine⟨h1,h2.1,fun i c hc=>?_,h3.1,h3.2.1,fun i c hc=>?_,h4.1,fun i t ht=>?_⟩
 ·have:=anyIx_false.1 h2.2 i c hc;rwa [Nat.zero_add] at this
 ·have:=anyIx_false.1 h3.2.2 i c hc;rwa [Nat.zero_add] at this
 ·have:=anyIx_false.1 h4.2 i t ht;rw[Nat.zero_add] at this;simpa using this
theorem stp_ok {i:Nat} {t:StpD} (hc:∀ c∈r.ctrs,1≤c.lim∧c.lim≤1000) (hl:lostB s r=false) (ht:r.steps[i]?=some t) (h:stepB r i t=true):StpOk s r t:=by
 have hs:=find_ixf (p:=fun x:StD=>decide (x.name=t.frm)) (l:=r.sts)
 unfold stepB at h
 cases hf:r.sts.find? (fun x=>decide (x.name=t.frm)) with
 | none=>rw[hf] at h;cases h
 | some f =>
   rw[hf] at h hs
   obtain⟨k,g1,-,-⟩:=hs
   simp only[Bool.and_eq_true,decide_eq_true_eq] at h
   obtain⟨⟨⟨h1,h2⟩,h3⟩,-⟩:=h
   have hk:(t.kind=1∨t.kind=2)∧nameB t.msg=true∧t.peer≠r.name∨t.kind=3∨t.kind=4:=by
    unfold kindB at h3
    by_cases e:t.kind=1∨t.kind=2
    ·rw[if_pos e] at h3
     simp only[Bool.and_eq_true,Bool.not_eq_true',decide_eq_false_iff_not] at h3
     exact .inl ⟨e,h3.1.1,h3.2⟩
    ·rw[if_neg e] at h3
     by_cases e3:t.kind=3
     ·exact .inr (.inl e3)
     ·rw[if_neg e3] at h3
      by_cases e4:t.kind=4
      ·exact .inr (.inr e4)
      ·rw[if_neg e4] at h3;cases h3
   refine⟨by omega,by omega,by show 0≤ixf _ _;omega,h1,fun h2=>?_,fun h2=>?_,fun hne=>?_⟩
   ·rcases hk with ⟨-,h4,-⟩ | h4 | h4
    ·exact nameB_size h4
    ·omega
    ·omega
   ·rcases hk with ⟨h5,-,h4⟩ | h4 | h4
    ·refine⟨?_,h4⟩
     unfold lostB at hl
     rw[List.any_eq_false] at hl
     have:=hl t (List.mem_of_getElem? ht)
     simp only[Bool.and_eq_true,decide_eq_true_eq,not_and,Int.not_lt] at this
     exact this (by unfold speaks;rcases h5 with h5 | h5 <;> simp[h5])
    ·omega
    ·omega
   ·unfold guardB at h2
    rw[if_neg hne] at h2
    have hs:=find_ixf (p:=fun x:CtrD=>decide (x.name=t.ctr)) (l:=r.ctrs)
    cases hg:r.ctrs.find? (fun x=>decide (x.name=t.ctr)) with
    | none=>rw[hg] at h2;cases h2
    | some c =>
      rw[hg] at h2 hs
      obtain⟨k,g1,g2,-⟩:=hs
      simp only[Bool.and_eq_true,decide_eq_true_eq] at h2
      exact⟨k,c,g1,g2,by omega,by omega,by omega,by omega,by omega,by omega,by omega⟩
theorem ses_ok (h:ckSes s=0):SesOk s:=by
 unfold ckSes at h
 by_cases h1:nameB s.name=false
 ·rw[if_pos h1] at h;cases h
 rw[if_neg h1] at h
 by_cases h2:sesBad s=true
 ·rw[if_pos h2] at h;cases h
 rw[if_neg h2] at h
 have h3:firstE s 0 s.roles=0:=by
  by_cases h3:firstE s 0 s.roles=0
  ·exact h3
  ·rw[if_neg h3] at h;exact h
 rw[if_pos h3] at h
 by_cases h4:s.roles.any (lostB s)=true
 ·rw[if_pos h4] at h;cases h
 simp only[Bool.not_eq_true,Bool.not_eq_false] at h1 h2 h4
 unfold sesBad at h2
 simp only[Bool.or_eq_false_iff,decide_eq_false_iff_not] at h2
 have hr:∀ (i:Nat) (r:RolD),s.roles[i]?=some r→ckRole r=0∧(i:Int)≤rolIx s r.name:=fun i r hi=>by
  have:=first_zero h3 i r hi
  rw[Nat.zero_add] at this
  exact rolE_zero this
 refine⟨by omega,by omega,by omega,by omega,by omega,by omega,h1,fun r hm=>?_,uniq_of (f:=RolD.name) fun i a hi=>(hr i a hi).2⟩
 obtain⟨i,hi⟩:=List.getElem?_of_mem hm
 obtain⟨k1,k2,k3,k4,k5,k6,k7,k8⟩:=ckRole_ok (hr i r hi).1
 have hc:∀ c∈r.ctrs,nameB c.name=true∧1≤c.lim∧c.lim≤1000:=fun c hm=>by
  obtain⟨j,hj⟩:=List.getElem?_of_mem hm
  have:=k3 j c hj
  unfold ctrBad at this
  simp only[Bool.or_eq_false_iff,decide_eq_false_iff_not,Bool.not_eq_false'] at this
  exact⟨this.1.1.1,by omega,by omega⟩
 have hl:lostB s r=false:=by
  rw[List.any_eq_false] at h4
  simpa using h4 r hm
 refine⟨k1,k2,hc,uniq_of (f:=CtrD.name) fun j c hj=>?_,k4,k5,uniq_of (f:=StD.name) fun j c hj=>?_,k7,fun t ht=>?_⟩
 ·have:=k3 j c hj
  unfold ctrBad at this
  simp only[Bool.or_eq_false_iff,decide_eq_false_iff_not,Bool.not_eq_false'] at this
  have h5:=this.1.1.2
  unfold ctrIx at h5
  omega
 ·have:=k6 j c hj
  unfold stBad at this
  simp only[Bool.or_eq_false_iff,decide_eq_false_iff_not,Bool.not_eq_false'] at this
  have h5:=this.1.1.2
  unfold stIx at h5
  omega
 ·obtain⟨j,hj⟩:=List.getElem?_of_mem ht
  exact stp_ok (fun c hm=>(hc c hm).2) hl hj (k8 j t hj)
end
end Go.Proofs.YtemjlpahohmajaaGreat
