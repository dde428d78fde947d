/- Part of the proof. -/
import Derived.Test.YtohfkhjlnlahdaaGreatQ04
import Derived.Test.YtohfkhjlnlahdaaGreatQ06
import Derived.Test.YtohfkhjlnlahdaaGreatQ03
set_option linter.all false
namespace Go.Proofs.YtohfkhjlnlahdaaGreat
open Go.RowKit Go.BigFrame
set_option maxHeartbeats 1000000 in
theorem gz (v:Value) (r:RolD) (n:ByteArray) (w:World) (ad:RlV w v r) (af:r.sts.length≤1000):Calls Tryz.prog 175 #[v,.string n] w (Ret (.int .i64 (bK r n)) (Frm [] w)):=by
 obtain⟨am,ab,ai,rfl,U⟩:=ad
 obtain⟨ao,cap,e,a⟩:=U.sts
 subst e
 have aa:=vi a
 obtain⟨m,H⟩:∃ m,r.sts.length=m:=⟨_,rfl⟩
 rw[H] at af
 have R:=vi H
 rw[H]
 obtain⟨A,E⟩:∃ A,w.alloc (.cells #[.string r.name,.slice ao m cap,ab,ai] 87)=A:=⟨_,rfl⟩
 have K:Hid (Frm [] w A):=vi (by rw[← E];exact(Frm.refl _ _).alloc _)
 have Y:Hid (A.cell? ⟨w.heap.size,1,none⟩=some (.slice ao m cap)):=vi (by rw[← E];exact ae (heap_alloc_new w _) 1)
 have O:=vi E
 clear a U H E
 go_enter Tryz.func175,Tryz.ntmps175
 go_wp2
 rw[O.out]
 clear O
 go_loopw [5] (fun s5 wr=>∃ i:Nat,s5=.int .i64 i∧i≤m∧Frm [] A wr∧∀ j x,j<i→r.sts[j]?=some x→decide (x.name=n)=false) (fun s5 _=>m - (intOf s5).toNat)
 case atStart=>exact⟨0,rfl,Nat.zero_le _,Frm.refl _ _,fun j x G=>by omega⟩
 case round =>
  obtain⟨i,rfl,ak,W,X⟩:=hrel
  have h:=vi W;have I:=vi X
  clear W X
  have cb:=h.out.keep Y.out
  by_cases hlt:i<m
  ·have al:(i:Int)<(m:Int):=by omega
   obtain⟨x,a⟩:∃ x,r.sts[i]?=some x:=⟨_,List.getElem?_eq_getElem (by rw[R.out];exact hlt)⟩
   obtain⟨b,o,rfl,V⟩:=aa.out i x a
   obtain⟨c0,-,-⟩:=V.frm (K.out.trans h.out)
   have S:=vi a
   clear V a
   cases hpx:decide (x.name=n) with
   | true =>
     have ah:(x.name.toList == n.toList)=true:=(aK _ _).trans hpx
     have J:=vi hpx
     clear hpx
     go_wp2
     go_ret
     refine⟨?_,K.out.trans h.out⟩
     have e:bK r n=(i:Int):=cj S.out J.out I.out
     rw[e];rfl
   | false =>
     have ah:(x.name.toList == n.toList)=false:=(aK _ _).trans hpx
     have J:=vi hpx
     clear hpx
     go_wp2
     refine⟨⟨i+1,by simp,hlt,h.out,fun j y G N=>?_⟩,by simp[intOf];omega⟩
     by_cases e:j=i
     ·subst e;rw[S.out] at N;cases N;exact J.out
     ·exact I.out j y (by omega) N
  ·have aj:¬ (i:Int)<(m:Int):=by omega
   go_wp2
   go_ret
   refine⟨?_,K.out.trans h.out⟩
   have e:bK r n=-1:=cn fun x a=>by
    obtain⟨j,G⟩:=List.getElem?_of_mem a
    exact I.out j x (by have:=ag G;rw[R.out] at this;omega) G
   rw[e];rfl
set_option maxHeartbeats 1000000 in
theorem gN (v:Value) (r:RolD) (n:ByteArray) (w:World) (ab:RlV w v r) (ad:r.ctrs.length≤1000):Calls Tryz.prog 174 #[v,.string n] w (Ret (.int .i64 (bL r.ctrs n)) (Frm [] w)):=by
 obtain⟨ah,aj,ai,rfl,U⟩:=ab
 obtain⟨ao,cap,e,a⟩:=U.ctrs
 subst e
 have aa:=vi a
 obtain⟨m,H⟩:∃ m,r.ctrs.length=m:=⟨_,rfl⟩
 rw[H] at ad
 have R:=vi H
 rw[H]
 obtain⟨A,E⟩:∃ A,w.alloc (.cells #[.string r.name,ah,.slice ao m cap,ai] 87)=A:=⟨_,rfl⟩
 have K:Hid (Frm [] w A):=vi (by rw[← E];exact(Frm.refl _ _).alloc _)
 have Y:Hid (A.cell? ⟨w.heap.size,2,none⟩=some (.slice ao m cap)):=vi (by rw[← E];exact ae (heap_alloc_new w _) 2)
 have O:=vi E
 clear a U H E
 go_enter Tryz.func174,Tryz.ntmps174
 go_wp2
 rw[O.out]
 clear O
 go_loopw [5] (fun s5 wr=>∃ i:Nat,s5=.int .i64 i∧i≤m∧Frm [] A wr∧∀ j x,j<i→r.ctrs[j]?=some x→decide (x.name=n)=false) (fun s5 _=>m - (intOf s5).toNat)
 case atStart=>exact⟨0,rfl,Nat.zero_le _,Frm.refl _ _,fun j x G=>by omega⟩
 case round =>
  obtain⟨i,rfl,al,W,X⟩:=hrel
  have h:=vi W;have I:=vi X
  clear W X
  have cb:=h.out.keep Y.out
  by_cases hlt:i<m
  ·have am:(i:Int)<(m:Int):=by omega
   obtain⟨x,a⟩:∃ x,r.ctrs[i]?=some x:=⟨_,List.getElem?_eq_getElem (by rw[R.out];exact hlt)⟩
   obtain⟨b,o,rfl,V⟩:=aa.out i x a
   obtain⟨c0,-⟩:=V.frm (K.out.trans h.out)
   have S:=vi a
   clear V a
   cases hpx:decide (x.name=n) with
   | true =>
     have af:(x.name.toList == n.toList)=true:=(aK _ _).trans hpx
     have J:=vi hpx
     clear hpx
     go_wp2
     go_ret
     refine⟨?_,K.out.trans h.out⟩
     have e:bL r.ctrs n=(i:Int):=cj S.out J.out I.out
     rw[e];rfl
   | false =>
     have af:(x.name.toList == n.toList)=false:=(aK _ _).trans hpx
     have J:=vi hpx
     clear hpx
     go_wp2
     refine⟨⟨i+1,by simp,hlt,h.out,fun j y G N=>?_⟩,by simp[intOf];omega⟩
     by_cases e:j=i
     ·subst e;rw[S.out] at N;cases N;exact J.out
     ·exact I.out j y (by omega) N
  ·have ak:¬ (i:Int)<(m:Int):=by omega
   go_wp2
   go_ret
   refine⟨?_,K.out.trans h.out⟩
   have e:bL r.ctrs n=-1:=cn fun x a=>by
    obtain⟨j,G⟩:=List.getElem?_of_mem a
    exact I.out j x (by have:=ag G;rw[R.out] at this;omega) G
   rw[e];rfl
theorem uf (c:Int):((c == 95)=false∧c<48)∨((c == 95)=false∧48≤c∧c≤57)∨((c == 95)=false∧57<c∧c<65)∨((c == 95)=false∧65≤c∧c≤90)∨((c == 95)=false∧90<c∧c<95)∨((c == 95)=true∧95≤c∧c≤95)∨((c == 95)=false∧96≤c∧c≤96)∨((c == 95)=false∧97≤c∧c≤122)∨((c == 95)=false∧122<c):=by
 simp only[beq_iff_eq,beq_eq_false_iff_ne]
 omega
set_option maxHeartbeats 8000000 in
set_option maxRecDepth 100000 in
theorem fZ (s:ByteArray) (w:World):Calls Tryz.prog 115 #[.string s] w (Ret (.bool (aL s)) (Frm [] w)):=by
 obtain⟨n,E⟩:∃ n,s.size=n:=⟨_,rfl⟩
 have H:Hid (s.size=n):=vi E
 have N:Hid (s.data.toList.length=n):=vi (by rw[← E,Array.length_toList];rfl)
 by_cases h1:n<1
 ·have I:aL s=false:=by unfold aL;rw[E,decide_eq_false (by omega)];rfl
  rw[I]
  have O:(s.size:Int)<1:=by omega
  clear I E h1
  go_enter Tryz.func115,Tryz.ntmps115
  go_wp2
  go_ret
  exact⟨rfl,Frm.refl _ _⟩
 by_cases h2:32<n
 ·have I:aL s=false:=by unfold aL;rw[E,decide_eq_false (p:=n≤32) (by omega),Bool.and_false];rfl
  rw[I]
  have O:¬ (s.size:Int)<1:=by omega
  have aa:(32:Int)<(s.size:Int):=by omega
  clear I E
  go_enter Tryz.func115,Tryz.ntmps115
  go_wp2
  go_ret
  exact⟨rfl,Frm.refl _ _⟩
 have O:¬ (s.size:Int)<1:=by omega
 have aa:¬ (32:Int)<(s.size:Int):=by omega
 have ak:(0:Int)<(s.size:Int):=by omega
 have V:0<s.size:=by omega
 obtain⟨c,R⟩:∃ c,s.data.toList[0]?=some c:=⟨_,List.getElem?_eq_getElem (by rw[N.out];omega)⟩
 have aj:(s[0]'V).toNat=c.toNat:=by
  have e:s.data.toList[0]?=some (s[0]'V):=by
   rw[Array.getElem?_toList,Array.getElem?_eq_getElem (show 0<s.data.size from V)];rfl
  rw[R] at e;cases e;rfl
 have W:=vi R
 have hb:(c.toNat:Int)<256:=by have:=c.toNat_lt;omega
 clear R E
 have a:(dW 0 c=false∧(((c.toNat:Int) == 95)=true∨(((c.toNat:Int) == 95)=false∧48≤(c.toNat:Int)∧(c.toNat:Int)≤57)))∨(((c.toNat:Int) == 95)=false∧((c.toNat:Int)<48∨57<(c.toNat:Int))):=by
  have ai:(((c.toNat:Int) == 95)=true∧c.toNat=95)∨(((c.toNat:Int) == 95)=false∧c.toNat≠95):=by
   simp only[beq_iff_eq,beq_eq_false_iff_ne];omega
  rcases ai with ⟨q,e⟩ | ⟨q,e⟩
  ·exact .inl ⟨fA (by omega),.inl q⟩
  ·by_cases A:48≤(c.toNat:Int)∧(c.toNat:Int)≤57
   ·exact .inl ⟨fA (by omega),.inr ⟨q,A⟩⟩
   ·exact .inr ⟨q,by omega⟩
 rcases a with ⟨J,a⟩ | ⟨h,a⟩
 ·rw[kZ W.out J]
  clear J
  rcases a with h | ⟨h,ad,au⟩
  all_goals
   go_enter Tryz.func115,Tryz.ntmps115
   go_wp2
   go_ret
   exact⟨rfl,Frm.refl _ _⟩
 ·have ae:Hid (¬ (c.toNat=95∨(48≤c.toNat∧c.toNat≤57))):=vi (by
   have ad:=h
   simp only[beq_eq_false_iff_ne] at ad
   omega)
  rcases a with a | a
  all_goals
   go_enter Tryz.func115,Tryz.ntmps115
   go_wp2
   clear O aa aj h a ak
   go_loopw [3,4] (fun s3 s4 wr=>∃ i:Nat,s3=.int .i64 i∧i≤n∧Frm [] w wr∧(∀ j c,j<i→s.data.toList[j]?=some c→dW j c=true)) (fun s3 _ _=>n - (intOf s3).toNat)
   case atStart=>exact⟨0,rfl,Nat.zero_le _,Frm.refl _ _,fun j x ah=>by omega⟩
   case round =>
    obtain⟨i,rfl,an,ab,J⟩:=hrel
    have K:=vi ab;have Y:=vi J
    clear ab J
    by_cases hlt:i<n
    ·have ap:(i:Int)<(s.size:Int):=by have:=H.out;omega
     have U:i<s.size:=by have:=H.out;omega
     obtain⟨d,a⟩:∃ d,s.data.toList[i]?=some d:=⟨_,List.getElem?_eq_getElem (by rw[N.out];exact hlt)⟩
     have aq:(s[i]'U).toNat=d.toNat:=by
      have e:s.data.toList[i]?=some (s[i]'U):=by
       rw[Array.getElem?_toList,Array.getElem?_eq_getElem (show i<s.data.size from U)];rfl
      rw[a] at e;cases e;rfl
     have X:=vi a
     have af:Hid (i=0→¬ (d.toNat=95∨(48≤d.toNat∧d.toNat≤57))):=vi (fun e=>by
      subst e
      have:=W.out
      rw[a] at this;cases this
      exact ae.out)
     have al:(d.toNat:Int)<256:=by have:=d.toNat_lt;omega
     clear a
     rcases uf (d.toNat:Int) with ⟨h,A⟩ | ⟨h,A,G⟩ | ⟨h,A,G⟩ | ⟨h,A,G⟩ | ⟨h,A,G⟩ | ⟨h,A,G⟩ | ⟨h,A,G⟩ | ⟨h,A,G⟩ | ⟨h,A⟩
     all_goals
      go_wp2
      all_goals first
       | (exfalso;simp at *;omega)
       | (go_ret
          refine⟨?_,K.out⟩
          rw[kZ X.out (fA (by omega))]
          rfl)
       | (refine⟨⟨i+1,congrArg (Value.int .i64) (by omega),hlt,K.out,fun j e ah S=>?_⟩,by simp[intOf];omega⟩
          by_cases ej:j=i
          ·subst ej
           rw[X.out] at S;cases S
           have ar:=af.out
           exact charOk_iff.2 (by omega)
          ·exact Y.out j e (by omega) S)
    ·have am:¬ (i:Int)<(s.size:Int):=by have:=H.out;omega
     go_wp2
     go_ret
     refine⟨?_,K.out⟩
     rw[mA (by rw[H.out];omega) (by rw[H.out];omega) fun j d a=>Y.out j d (by have:=ag a;rw[N.out] at this;omega) a]
     rfl
end Go.Proofs.YtohfkhjlnlahdaaGreat
