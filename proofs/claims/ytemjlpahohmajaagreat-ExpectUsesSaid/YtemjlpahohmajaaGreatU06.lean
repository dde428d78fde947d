/- Part of the proof. -/
import Derived.Test.YtemjlpahohmajaaGreatU05
import Derived.Test.YtemjlpahohmajaaGreatU03
set_option linter.all false
namespace Go.Proofs.YtemjlpahohmajaaGreat
open Go.RowKit Go.BigFrame
set_option maxHeartbeats 1000000 in
theorem aState_any (v:Value) (r:RolD) (n:ByteArray) (w:World) (h:RlV w v r) (hl:r.sts.length≤1000):Calls Tryz.prog 142 #[v,.string n] w (Ret (.int .i64 (stIx r n)) (Frm [] w)):=by
 obtain⟨sv,cv,tv,rfl,h3⟩:=h
 obtain⟨ao,cap,e,hx⟩:=h3.sts
 subst e
 have HX:=Lib.hid hx
 obtain⟨m,hm⟩:∃ m,r.sts.length=m:=⟨_,rfl⟩
 rw[hm] at hl
 have HN:=Lib.hid hm
 rw[hm]
 obtain⟨W0,hW0⟩:∃ W0,w.alloc (.cells #[.string r.name,.slice ao m cap,cv,tv] 86)=W0:=⟨_,rfl⟩
 have HW0:Hid (Frm [] w W0):=Lib.hid (by rw[← hW0];exact(Frm.refl _ _).alloc _)
 have HB:Hid (W0.cell? ⟨w.heap.size,1,none⟩=some (.slice ao m cap)):=Lib.hid (by rw[← hW0];exact cell_of (heap_alloc_new w _) 1)
 have HE:=Lib.hid hW0
 clear hx h3 hm hW0
 go_enter Tryz.func142,Tryz.ntmps142
 go_wp2
 rw[HE.out]
 clear HE
 go_loopw [5] (fun s5 wr=>∃ i:Nat,s5=.int .i64 i∧i≤m∧Frm [] W0 wr∧∀ j x,j < i→r.sts[j]?=some x→decide (x.name=n)=false) (fun s5 _=>m - (intOf s5).toNat)
 case atStart=>exact⟨0,rfl,Nat.zero_le _,Frm.refl _ _,fun j x hj=>by omega⟩
 case round =>
  obtain⟨i,rfl,hi,hf,hno⟩:=hrel
  have HF:=Lib.hid hf;have HNO:=Lib.hid hno
  clear hf hno
  have cb:=HF.out.keep HB.out
  by_cases hlt:i < m
  ·have hlt':(i:Int) < (m:Int):=by omega
   obtain⟨x,hx⟩:∃ x,r.sts[i]?=some x:=⟨_,List.getElem?_eq_getElem (by rw[HN.out];exact hlt)⟩
   obtain⟨b,o,rfl,hat⟩:=HX.out i x hx
   obtain⟨c0,-,-⟩:=hat.frm (HW0.out.trans HF.out)
   have HXI:=Lib.hid hx
   clear hat hx
   cases hpx:decide (x.name=n) with
   | true =>
     have hsb:(x.name.toList == n.toList)=true:=(str_beq _ _).trans hpx
     have HPX:=Lib.hid hpx
     clear hpx
     go_wp2
     go_ret
     refine⟨?_,HW0.out.trans HF.out⟩
     have e:stIx r n=(i:Int):=ixf_some HXI.out HPX.out HNO.out
     rw[e];rfl
   | false =>
     have hsb:(x.name.toList == n.toList)=false:=(str_beq _ _).trans hpx
     have HPX:=Lib.hid hpx
     clear hpx
     go_wp2
     refine⟨⟨i + 1,by simp,hlt,HF.out,fun j y hj hy=>?_⟩,by simp[intOf];omega⟩
     by_cases e:j=i
     ·subst e;rw[HXI.out] at hy;cases hy;exact HPX.out
     ·exact HNO.out j y (by omega) hy
  ·have hge:¬ (i:Int) < (m:Int):=by omega
   go_wp2
   go_ret
   refine⟨?_,HW0.out.trans HF.out⟩
   have e:stIx r n=-1:=ixf_none fun x hx=>by
    obtain⟨j,hj⟩:=List.getElem?_of_mem hx
    exact HNO.out j x (by have:=lt_of_some hj;rw[HN.out] at this;omega) hj
   rw[e];rfl
set_option maxHeartbeats 1000000 in
theorem aCounter_any (v:Value) (r:RolD) (n:ByteArray) (w:World) (h:RlV w v r) (hl:r.ctrs.length≤1000):Calls Tryz.prog 141 #[v,.string n] w (Ret (.int .i64 (ctrIx r.ctrs n)) (Frm [] w)):=by
 obtain⟨sv,cv,tv,rfl,h3⟩:=h
 obtain⟨ao,cap,e,hx⟩:=h3.ctrs
 subst e
 have HX:=Lib.hid hx
 obtain⟨m,hm⟩:∃ m,r.ctrs.length=m:=⟨_,rfl⟩
 rw[hm] at hl
 have HN:=Lib.hid hm
 rw[hm]
 obtain⟨W0,hW0⟩:∃ W0,w.alloc (.cells #[.string r.name,sv,.slice ao m cap,tv] 86)=W0:=⟨_,rfl⟩
 have HW0:Hid (Frm [] w W0):=Lib.hid (by rw[← hW0];exact(Frm.refl _ _).alloc _)
 have HB:Hid (W0.cell? ⟨w.heap.size,2,none⟩=some (.slice ao m cap)):=Lib.hid (by rw[← hW0];exact cell_of (heap_alloc_new w _) 2)
 have HE:=Lib.hid hW0
 clear hx h3 hm hW0
 go_enter Tryz.func141,Tryz.ntmps141
 go_wp2
 rw[HE.out]
 clear HE
 go_loopw [5] (fun s5 wr=>∃ i:Nat,s5=.int .i64 i∧i≤m∧Frm [] W0 wr∧∀ j x,j < i→r.ctrs[j]?=some x→decide (x.name=n)=false) (fun s5 _=>m - (intOf s5).toNat)
 case atStart=>exact⟨0,rfl,Nat.zero_le _,Frm.refl _ _,fun j x hj=>by omega⟩
 case round =>
  obtain⟨i,rfl,hi,hf,hno⟩:=hrel
  have HF:=Lib.hid hf;have HNO:=Lib.hid hno
  clear hf hno
  have cb:=HF.out.keep HB.out
  by_cases hlt:i < m
  ·have hlt':(i:Int) < (m:Int):=by omega
   obtain⟨x,hx⟩:∃ x,r.ctrs[i]?=some x:=⟨_,List.getElem?_eq_getElem (by rw[HN.out];exact hlt)⟩
   obtain⟨b,o,rfl,hat⟩:=HX.out i x hx
   obtain⟨c0,-⟩:=hat.frm (HW0.out.trans HF.out)
   have HXI:=Lib.hid hx
   clear hat hx
   cases hpx:decide (x.name=n) with
   | true =>
     have hsb:(x.name.toList == n.toList)=true:=(str_beq _ _).trans hpx
     have HPX:=Lib.hid hpx
     clear hpx
     go_wp2
     go_ret
     refine⟨?_,HW0.out.trans HF.out⟩
     have e:ctrIx r.ctrs n=(i:Int):=ixf_some HXI.out HPX.out HNO.out
     rw[e];rfl
   | false =>
     have hsb:(x.name.toList == n.toList)=false:=(str_beq _ _).trans hpx
     have HPX:=Lib.hid hpx
     clear hpx
     go_wp2
     refine⟨⟨i + 1,by simp,hlt,HF.out,fun j y hj hy=>?_⟩,by simp[intOf];omega⟩
     by_cases e:j=i
     ·subst e;rw[HXI.out] at hy;cases hy;exact HPX.out
     ·exact HNO.out j y (by omega) hy
  ·have hge:¬ (i:Int) < (m:Int):=by omega
   go_wp2
   go_ret
   refine⟨?_,HW0.out.trans HF.out⟩
   have e:ctrIx r.ctrs n=-1:=ixf_none fun x hx=>by
    obtain⟨j,hj⟩:=List.getElem?_of_mem hx
    exact HNO.out j x (by have:=lt_of_some hj;rw[HN.out] at this;omega) hj
   rw[e];rfl
theorem casesN (c:Int):((c == 95)=false∧c < 48)∨((c == 95)=false∧48≤c∧c≤57)∨((c == 95)=false∧57 < c∧c < 65)∨((c == 95)=false∧65≤c∧c≤90)∨((c == 95)=false∧90 < c∧c < 95)∨((c == 95)=true∧95≤c∧c≤95)∨((c == 95)=false∧96≤c∧c≤96)∨((c == 95)=false∧97≤c∧c≤122)∨((c == 95)=false∧122 < c):=by
 simp only[beq_iff_eq,beq_eq_false_iff_ne]
 omega
set_option maxHeartbeats 8000000 in
set_option maxRecDepth 100000 in
theorem aName_any (s:ByteArray) (w:World):Calls Tryz.prog 85 #[.string s] w (Ret (.bool (nameB s)) (Frm [] w)):=by
 obtain⟨n,hn⟩:∃ n,s.size=n:=⟨_,rfl⟩
 have HS:Hid (s.size=n):=Lib.hid hn
 have HN:Hid (s.data.toList.length=n):=Lib.hid (by rw[← hn,Array.length_toList];rfl)
 by_cases h1:n < 1
 ·have hnm:nameB s=false:=by unfold nameB;rw[hn,decide_eq_false (by omega)];rfl
  rw[hnm]
  have h1':(s.size:Int) < 1:=by omega
  clear hnm hn h1
  go_enter Tryz.func85,Tryz.ntmps85
  go_wp2
  go_ret
  exact⟨rfl,Frm.refl _ _⟩
 by_cases h2:32 < n
 ·have hnm:nameB s=false:=by unfold nameB;rw[hn,decide_eq_false (p:=n≤32) (by omega),Bool.and_false];rfl
  rw[hnm]
  have h1':¬ (s.size:Int) < 1:=by omega
  have h2':(32:Int) < (s.size:Int):=by omega
  clear hnm hn
  go_enter Tryz.func85,Tryz.ntmps85
  go_wp2
  go_ret
  exact⟨rfl,Frm.refl _ _⟩
 have h1':¬ (s.size:Int) < 1:=by omega
 have h2':¬ (32:Int) < (s.size:Int):=by omega
 have hz:(0:Int) < (s.size:Int):=by omega
 have hz':0 < s.size:=by omega
 obtain⟨c,hc⟩:∃ c,s.data.toList[0]?=some c:=⟨_,List.getElem?_eq_getElem (by rw[HN.out];omega)⟩
 have hs0:(s[0]'hz').toNat=c.toNat:=by
  have e:s.data.toList[0]?=some (s[0]'hz'):=by
   rw[Array.getElem?_toList,Array.getElem?_eq_getElem (show 0 < s.data.size from hz')];rfl
  rw[hc] at e;cases e;rfl
 have HC0:=Lib.hid hc
 have hb:(c.toNat:Int) < 256:=by have:=c.toNat_lt;omega
 clear hc hn
 have hd:(charOk 0 c=false∧(((c.toNat:Int) == 95)=true∨(((c.toNat:Int) == 95)=false∧48≤(c.toNat:Int)∧(c.toNat:Int)≤57)))∨(((c.toNat:Int) == 95)=false∧((c.toNat:Int) < 48∨57 < (c.toNat:Int))):=by
  have hq:(((c.toNat:Int) == 95)=true∧c.toNat=95)∨(((c.toNat:Int) == 95)=false∧c.toNat≠95):=by
   simp only[beq_iff_eq,beq_eq_false_iff_ne];omega
  rcases hq with ⟨q,e⟩ | ⟨q,e⟩
  ·exact .inl ⟨charOk_no' (by omega),.inl q⟩
  ·by_cases h:48≤(c.toNat:Int)∧(c.toNat:Int)≤57
   ·exact .inl ⟨charOk_no' (by omega),.inr ⟨q,h⟩⟩
   ·exact .inr ⟨q,by omega⟩
 rcases hd with ⟨hno,hd⟩ | ⟨q1,hd⟩
 ·rw[name_no HC0.out hno]
  clear hno
  rcases hd with q1 | ⟨q1,q2,q3⟩
  all_goals
   go_enter Tryz.func85,Tryz.ntmps85
   go_wp2
   go_ret
   exact⟨rfl,Frm.refl _ _⟩
 ·have H0:Hid (¬ (c.toNat=95∨(48≤c.toNat∧c.toNat≤57))):=Lib.hid (by
   have q2:=q1
   simp only[beq_eq_false_iff_ne] at q2
   omega)
  rcases hd with hd | hd
  all_goals
   go_enter Tryz.func85,Tryz.ntmps85
   go_wp2
   clear h1' h2' hs0 q1 hd hz
   go_loopw [3,4] (fun s3 s4 wr=>∃ i:Nat,s3=.int .i64 i∧i≤n∧Frm [] w wr∧(∀ j c,j < i→s.data.toList[j]?=some c→charOk j c=true)) (fun s3 _ _=>n - (intOf s3).toNat)
   case atStart=>exact⟨0,rfl,Nat.zero_le _,Frm.refl _ _,fun j x hj=>by omega⟩
   case round =>
    obtain⟨i,rfl,hi,hf,hno⟩:=hrel
    have HF:=Lib.hid hf;have HNO:=Lib.hid hno
    clear hf hno
    by_cases hlt:i < n
    ·have hlt':(i:Int) < (s.size:Int):=by have:=HS.out;omega
     have hlt2:i < s.size:=by have:=HS.out;omega
     obtain⟨d,hd⟩:∃ d,s.data.toList[i]?=some d:=⟨_,List.getElem?_eq_getElem (by rw[HN.out];exact hlt)⟩
     have hsd:(s[i]'hlt2).toNat=d.toNat:=by
      have e:s.data.toList[i]?=some (s[i]'hlt2):=by
       rw[Array.getElem?_toList,Array.getElem?_eq_getElem (show i < s.data.size from hlt2)];rfl
      rw[hd] at e;cases e;rfl
     have HD:=Lib.hid hd
     have HZ:Hid (i=0→¬ (d.toNat=95∨(48≤d.toNat∧d.toNat≤57))):=Lib.hid (fun e=>by
      subst e
      have:=HC0.out
      rw[hd] at this;cases this
      exact H0.out)
     have hb2:(d.toNat:Int) < 256:=by have:=d.toNat_lt;omega
     clear hd
     rcases casesN (d.toNat:Int) with ⟨q1,h⟩ | ⟨q1,h,h'⟩ | ⟨q1,h,h'⟩ | ⟨q1,h,h'⟩ | ⟨q1,h,h'⟩ | ⟨q1,h,h'⟩ | ⟨q1,h,h'⟩ | ⟨q1,h,h'⟩ | ⟨q1,h⟩
     all_goals
      go_wp2
      all_goals first
       | (exfalso;simp at *;omega)
       | (go_ret
          refine⟨?_,HF.out⟩
          rw[name_no HD.out (charOk_no' (by omega))]
          rfl)
       | (refine⟨⟨i + 1,congrArg (Value.int .i64) (by omega),hlt,HF.out,fun j e hj he=>?_⟩,by simp[intOf];omega⟩
          by_cases ej:j=i
          ·subst ej
           rw[HD.out] at he;cases he
           have hz9:=HZ.out
           exact charOk_iff.2 (by omega)
          ·exact HNO.out j e (by omega) he)
    ·have hge:¬ (i:Int) < (s.size:Int):=by have:=HS.out;omega
     go_wp2
     go_ret
     refine⟨?_,HF.out⟩
     rw[name_yes (by rw[HS.out];omega) (by rw[HS.out];omega) fun j d hd=>HNO.out j d (by have:=lt_of_some hd;rw[HN.out] at this;omega) hd]
     rfl
end Go.Proofs.YtemjlpahohmajaaGreat
