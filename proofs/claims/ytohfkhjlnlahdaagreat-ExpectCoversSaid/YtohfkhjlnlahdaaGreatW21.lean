/- Part of the proof. -/
import Derived.Test.YtohfkhjlnlahdaaGreatW15
import Derived.Test.YtohfkhjlnlahdaaGreatW07
import Derived.Test.YtohfkhjlnlahdaaGreatW20
set_option linter.all false
namespace Go.Proofs.YtohfkhjlnlahdaaGreat
open Go.RowKit Go.BigFrame
set_option maxHeartbeats 1000000 in
theorem aState_any (v:Value) (r:RolD) (n:ByteArray) (w:World) (h:RlV w v r) (hl:r.sts.length≤1000):Calls Tryz.prog 175 #[v,.string n] w (Ret (.int .i64 (stIx r n)) (Frm [] w)):=by
 obtain⟨sv,cv,tv,rfl,h3⟩:=h
 obtain⟨ao,cap,e,hx⟩:=h3.sts
 subst e
 have HX:=Lib.hid hx
 obtain⟨m,hm⟩:∃ m,r.sts.length=m:=⟨_,rfl⟩
 rw[hm] at hl
 have HN:=Lib.hid hm
 rw[hm]
 obtain⟨W0,hW0⟩:∃ W0,w.alloc (.cells #[.string r.name,.slice ao m cap,cv,tv] 87)=W0:=⟨_,rfl⟩
 have HW0:Hid (Frm [] w W0):=Lib.hid (by rw[← hW0];exact(Frm.refl _ _).alloc _)
 have HB:Hid (W0.cell? ⟨w.heap.size,1,none⟩=some (.slice ao m cap)):=Lib.hid (by rw[← hW0];exact cell_of (heap_alloc_new w _) 1)
 have HE:=Lib.hid hW0
 clear hx h3 hm hW0
 go_enter Tryz.func175,Tryz.ntmps175
 go_wp2
 rw[HE.out]
 clear HE
 go_loopw [5] (fun s5 wr=>∃ i:Nat,s5=.int .i64 i∧i≤m∧Frm [] W0 wr∧∀ j x,j < i→r.sts[j]?=some x→decide (x.name=n)=false) (fun s5 _=>m - (intOf s5).toNat)
 case atStart=>exact⟨0,rfl,Nat.zero_le _,Frm.refl _ _,fun j x hj=>by omega⟩
 case round =>
  obtain⟨i,rfl,hi,hf,hno⟩:=hrel
  have HF:=Lib.hid hf;have HNO:=Lib.hid hno
  clear hf hno
  have cb:=HF.out.keep HB.out
  by_cases hlt:i < m
  ·have hlt':(i:Int) < (m:Int):=by omega
   obtain⟨x,hx⟩:∃ x,r.sts[i]?=some x:=⟨_,List.getElem?_eq_getElem (by rw[HN.out];exact hlt)⟩
   obtain⟨b,o,rfl,hat⟩:=HX.out i x hx
   obtain⟨c0,-,-⟩:=hat.frm (HW0.out.trans HF.out)
   have HXI:=Lib.hid hx
   clear hat hx
   cases hpx:decide (x.name=n) with
   | true =>
     have hsb:(x.name.toList == n.toList)=true:=(str_beq _ _).trans hpx
     have HPX:=Lib.hid hpx
     clear hpx
     go_wp2
     go_ret
     refine⟨?_,HW0.out.trans HF.out⟩
     have e:stIx r n=(i:Int):=ixf_some HXI.out HPX.out HNO.out
     rw[e];rfl
   | false =>
     have hsb:(x.name.toList == n.toList)=false:=(str_beq _ _).trans hpx
     have HPX:=Lib.hid hpx
     clear hpx
     go_wp2
     refine⟨⟨i + 1,by simp,hlt,HF.out,fun j y hj hy=>?_⟩,by simp[intOf];omega⟩
     by_cases e:j=i
     ·subst e;rw[HXI.out] at hy;cases hy;exact HPX.out
     ·exact HNO.out j y (by omega) hy
  ·have hge:¬ (i:Int) < (m:Int):=by omega
   go_wp2
   go_ret
   refine⟨?_,HW0.out.trans HF.out⟩
   have e:stIx r n=-1:=ixf_none fun x hx=>by
    obtain⟨j,hj⟩:=List.getElem?_of_mem hx
    exact HNO.out j x (by have:=lt_of_some hj;rw[HN.out] at this;omega) hj
   rw[e];rfl
set_option maxHeartbeats 1000000 in
theorem aCounter_any (v:Value) (r:RolD) (n:ByteArray) (w:World) (h:RlV w v r) (hl:r.ctrs.length≤1000):Calls Tryz.prog 174 #[v,.string n] w (Ret (.int .i64 (ctrIx r.ctrs n)) (Frm [] w)):=by
 obtain⟨sv,cv,tv,rfl,h3⟩:=h
 obtain⟨ao,cap,e,hx⟩:=h3.ctrs
 subst e
 have HX:=Lib.hid hx
 obtain⟨m,hm⟩:∃ m,r.ctrs.length=m:=⟨_,rfl⟩
 rw[hm] at hl
 have HN:=Lib.hid hm
 rw[hm]
 obtain⟨W0,hW0⟩:∃ W0,w.alloc (.cells #[.string r.name,sv,.slice ao m cap,tv] 87)=W0:=⟨_,rfl⟩
 have HW0:Hid (Frm [] w W0):=Lib.hid (by rw[← hW0];exact(Frm.refl _ _).alloc _)
 have HB:Hid (W0.cell? ⟨w.heap.size,2,none⟩=some (.slice ao m cap)):=Lib.hid (by rw[← hW0];exact cell_of (heap_alloc_new w _) 2)
 have HE:=Lib.hid hW0
 clear hx h3 hm hW0
 go_enter Tryz.func174,Tryz.ntmps174
 go_wp2
 rw[HE.out]
 clear HE
 go_loopw [5] (fun s5 wr=>∃ i:Nat,s5=.int .i64 i∧i≤m∧Frm [] W0 wr∧∀ j x,j < i→r.ctrs[j]?=some x→decide (x.name=n)=false) (fun s5 _=>m - (intOf s5).toNat)
 case atStart=>exact⟨0,rfl,Nat.zero_le _,Frm.refl _ _,fun j x hj=>by omega⟩
 case round =>
  obtain⟨i,rfl,hi,hf,hno⟩:=hrel
  have HF:=Lib.hid hf;have HNO:=Lib.hid hno
  clear hf hno
  have cb:=HF.out.keep HB.out
  by_cases hlt:i < m
  ·have hlt':(i:Int) < (m:Int):=by omega
   obtain⟨x,hx⟩:∃ x,r.ctrs[i]?=some x:=⟨_,List.getElem?_eq_getElem (by rw[HN.out];exact hlt)⟩
   obtain⟨b,o,rfl,hat⟩:=HX.out i x hx
   obtain⟨c0,-⟩:=hat.frm (HW0.out.trans HF.out)
   have HXI:=Lib.hid hx
   clear hat hx
   cases hpx:decide (x.name=n) with
   | true =>
     have hsb:(x.name.toList == n.toList)=true:=(str_beq _ _).trans hpx
     have HPX:=Lib.hid hpx
     clear hpx
     go_wp2
     go_ret
     refine⟨?_,HW0.out.trans HF.out⟩
     have e:ctrIx r.ctrs n=(i:Int):=ixf_some HXI.out HPX.out HNO.out
     rw[e];rfl
   | false =>
     have hsb:(x.name.toList == n.toList)=false:=(str_beq _ _).trans hpx
     have HPX:=Lib.hid hpx
     clear hpx
     go_wp2
     refine⟨⟨i + 1,by simp,hlt,HF.out,fun j y hj hy=>?_⟩,by simp[intOf];omega⟩
     by_cases e:j=i
     ·subst e;rw[HXI.out] at hy;cases hy;exact HPX.out
     ·exact HNO.out j y (by omega) hy
  ·have hge:¬ (i:Int) < (m:Int):=by omega
   go_wp2
   go_ret
   refine⟨?_,HW0.out.trans HF.out⟩
   have e:ctrIx r.ctrs n=-1:=ixf_none fun x hx=>by
    obtain⟨j,hj⟩:=List.getElem?_of_mem hx
    exact HNO.out j x (by have:=lt_of_some hj;rw[HN.out] at this;omega) hj
   rw[e];rfl
theorem casesN (c:Int):((c == 95)=false∧c < 48)∨((c == 95)=false∧48≤c∧c≤57)∨((c == 95)=false∧57 < c∧c < 65)∨((c == 95)=false∧65≤c∧c≤90)∨((c == 95)=false∧90 < c∧c < 95)∨((c == 95)=true∧95≤c∧c≤95)∨((c == 95)=false∧96≤c∧c≤96)∨((c == 95)=false∧97≤c∧c≤122)∨((c == 95)=false∧122 < c):=by
 simp only[beq_iff_eq,beq_eq_false_iff_ne]
 omega
set_option maxHeartbeats 8000000 in
set_option maxRecDepth 100000 in
theorem aName_any (s:ByteArray) (w:World):Calls Tryz.prog 115 #[.string s] w (Ret (.bool (nameB s)) (Frm [] w)):=by
 obtain⟨n,hn⟩:∃ n,s.size=n:=⟨_,rfl⟩
 have HS:Hid (s.size=n):=Lib.hid hn
 have HN:Hid (s.data.toList.length=n):=Lib.hid (by rw[← hn,Array.length_toList];rfl)
 by_cases h1:n < 1
 ·have hnm:nameB s=false:=by unfold nameB;rw[hn,decide_eq_false (by omega)];rfl
  rw[hnm]
  have h1':(s.size:Int) < 1:=by omega
  clear hnm hn h1
  go_enter Tryz.func115,Tryz.ntmps115
  go_wp2
  go_ret
  exact⟨rfl,Frm.refl _ _⟩
 by_cases h2:32 < n
 ·have hnm:nameB s=false:=by unfold nameB;rw[hn,decide_eq_false (p:=n≤32) (by omega),Bool.and_false];rfl
  rw[hnm]
  have h1':¬ (s.size:Int) < 1:=by omega
  have h2':(32:Int) < (s.size:Int):=by omega
  clear hnm hn
  go_enter Tryz.func115,Tryz.ntmps115
  go_wp2
  go_ret
  exact⟨rfl,Frm.refl _ _⟩
 have h1':¬ (s.size:Int) < 1:=by omega
 have h2':¬ (32:Int) < (s.size:Int):=by omega
 have hz:(0:Int) < (s.size:Int):=by omega
 have hz':0 < s.size:=by omega
 obtain⟨c,hc⟩:∃ c,s.data.toList[0]?=some c:=⟨_,List.getElem?_eq_getElem (by rw[HN.out];omega)⟩
 have hs0:(s[0]'hz').toNat=c.toNat:=by
  have e:s.data.toList[0]?=some (s[0]'hz'):=by
   rw[Array.getElem?_toList,Array.getElem?_eq_getElem (show 0 < s.data.size from hz')];rfl
  rw[hc] at e;cases e;rfl
 have HC0:=Lib.hid hc
 have hb:(c.toNat:Int) < 256:=by have:=c.toNat_lt;omega
 clear hc hn
 have hd:(charOk 0 c=false∧(((c.toNat:Int) == 95)=true∨(((c.toNat:Int) == 95)=false∧48≤(c.toNat:Int)∧(c.toNat:Int)≤57)))∨(((c.toNat:Int) == 95)=false∧((c.toNat:Int) < 48∨57 < (c.toNat:Int))):=by
  have hq:(((c.toNat:Int) == 95)=true∧c.toNat=95)∨(((c.toNat:Int) == 95)=false∧c.toNat≠95):=by
   simp only[beq_iff_eq,beq_eq_false_iff_ne];omega
  rcases hq with ⟨q,e⟩ | ⟨q,e⟩
  ·exact .inl ⟨charOk_no' (by omega),.inl q⟩
  ·by_cases h:48≤(c.toNat:Int)∧(c.toNat:Int)≤57
   ·exact .inl ⟨charOk_no' (by omega),.inr ⟨q,h⟩⟩
   ·exact .inr ⟨q,by omega⟩
 rcases hd with ⟨hno,hd⟩ | ⟨q1,hd⟩
 ·rw[name_no HC0.out hno]
  clear hno
  rcases hd with q1 | ⟨q1,q2,q3⟩
  all_goals
   go_enter Tryz.func115,Tryz.ntmps115
   go_wp2
   go_ret
   exact⟨rfl,Frm.refl _ _⟩
 ·have H0:Hid (¬ (c.toNat=95∨(48≤c.toNat∧c.toNat≤57))):=Lib.hid (by
   have q2:=q1
   simp only[beq_eq_false_iff_ne] at q2
   omega)
  rcases hd with hd | hd
  all_goals
   go_enter Tryz.func115,Tryz.ntmps115
   go_wp2
   clear h1' h2' hs0 q1 hd hz
   go_loopw [3,4] (fun s3 s4 wr=>∃ i:Nat,s3=.int .i64 i∧i≤n∧Frm [] w wr∧(∀ j c,j < i→s.data.toList[j]?=some c→charOk j c=true)) (fun s3 _ _=>n - (intOf s3).toNat)
   case atStart=>exact⟨0,rfl,Nat.zero_le _,Frm.refl _ _,fun j x hj=>by omega⟩
   case round =>
    obtain⟨i,rfl,hi,hf,hno⟩:=hrel
    have HF:=Lib.hid hf;have HNO:=Lib.hid hno
    clear hf hno
    by_cases hlt:i < n
    ·have hlt':(i:Int) < (s.size:Int):=by have:=HS.out;omega
     have hlt2:i < s.size:=by have:=HS.out;omega
     obtain⟨d,hd⟩:∃ d,s.data.toList[i]?=some d:=⟨_,List.getElem?_eq_getElem (by rw[HN.out];exact hlt)⟩
     have hsd:(s[i]'hlt2).toNat=d.toNat:=by
      have e:s.data.toList[i]?=some (s[i]'hlt2):=by
       rw[Array.getElem?_toList,Array.getElem?_eq_getElem (show i < s.data.size from hlt2)];rfl
      rw[hd] at e;cases e;rfl
     have HD:=Lib.hid hd
     have HZ:Hid (i=0→¬ (d.toNat=95∨(48≤d.toNat∧d.toNat≤57))):=Lib.hid (fun e=>by
      subst e
      have:=HC0.out
      rw[hd] at this;cases this
      exact H0.out)
     have hb2:(d.toNat:Int) < 256:=by have:=d.toNat_lt;omega
     clear hd
     rcases casesN (d.toNat:Int) with ⟨q1,h⟩ | ⟨q1,h,h'⟩ | ⟨q1,h,h'⟩ | ⟨q1,h,h'⟩ | ⟨q1,h,h'⟩ | ⟨q1,h,h'⟩ | ⟨q1,h,h'⟩ | ⟨q1,h,h'⟩ | ⟨q1,h⟩
     all_goals
      go_wp2
      all_goals first
       | (exfalso;simp at *;omega)
       | (go_ret
          refine⟨?_,HF.out⟩
          rw[name_no HD.out (charOk_no' (by omega))]
          rfl)
       | (refine⟨⟨i + 1,congrArg (Value.int .i64) (by omega),hlt,HF.out,fun j e hj he=>?_⟩,by simp[intOf];omega⟩
          by_cases ej:j=i
          ·subst ej
           rw[HD.out] at he;cases he
           have hz9:=HZ.out
           exact charOk_iff.2 (by omega)
          ·exact HNO.out j e (by omega) he)
    ·have hge:¬ (i:Int) < (s.size:Int):=by have:=HS.out;omega
     go_wp2
     go_ret
     refine⟨?_,HF.out⟩
     rw[name_yes (by rw[HS.out];omega) (by rw[HS.out];omega) fun j d hd=>HNO.out j d (by have:=lt_of_some hd;rw[HN.out] at this;omega) hd]
     rfl
end Go.Proofs.YtohfkhjlnlahdaaGreat
namespace Go.Proofs.YtohfkhjlnlahdaaGreat
open Go.RowKit Go.BigFrame
theorem guard_ways2 {r:RolD} {x:StpD} (h:x.ctr≠emptyS):(ctrIx r.ctrs x.ctr < 0∧guardB r x=false)∨∃ (p:Nat) (c:CtrD),ctrIx r.ctrs x.ctr=p∧r.ctrs[p]?=some c ∧
  ((x.low < 0∧guardB r x=false)∨(¬ x.low < 0∧x.high < x.low∧guardB r x=false)∨(¬ x.low < 0∧¬ x.high < x.low∧c.lim < x.high∧guardB r x=false)∨(¬ x.low < 0∧¬ x.high < x.low∧¬ c.lim < x.high∧x.add < -1000∧guardB r x=false) ∨
   (¬ x.low < 0∧¬ x.high < x.low∧¬ c.lim < x.high∧¬ x.add < -1000∧1000 < x.add∧guardB r x=false) ∨
   (¬ x.low < 0∧¬ x.high < x.low∧¬ c.lim < x.high∧¬ x.add < -1000∧¬ 1000 < x.add∧((¬ 0≤x.low + x.add∧guardB r x=false)∨(0≤x.low + x.add∧guardB r x=decide (x.high + x.add≤c.lim))))):=by
 have hs:=find_ixf (p:=fun c:CtrD=>decide (c.name=x.ctr)) (l:=r.ctrs)
 unfold guardB
 rw[if_neg h]
 cases hf:r.ctrs.find? (fun c=>decide (c.name=x.ctr)) with
 | none =>
   rw[hf] at hs
   left
   simp only at hs
   refine⟨?_,rfl⟩
   show ixf _ _ < 0
   omega
 | some c =>
   rw[hf] at hs
   obtain⟨p,h1,h2,-⟩:=hs
   right
   refine⟨p,c,h1,h2,?_⟩
   by_cases a1:x.low < 0
   ·left;exact⟨a1,by simp;omega⟩
   by_cases a2:x.high < x.low
   ·right;left;exact⟨a1,a2,by simp;omega⟩
   by_cases a3:c.lim < x.high
   ·right;right;left;exact⟨a1,a2,a3,by simp;omega⟩
   by_cases a4:x.add < -1000
   ·right;right;right;left;exact⟨a1,a2,a3,a4,by simp;omega⟩
   by_cases a5:1000 < x.add
   ·right;right;right;right;left;exact⟨a1,a2,a3,a4,a5,by simp;omega⟩
   right;right;right;right;right
   refine⟨a1,a2,a3,a4,a5,?_⟩
   by_cases a6:0≤x.low + x.add
   ·right
    refine⟨a6,?_⟩
    simp only
    rw[decide_eq_true (p:=0≤x.low) (by omega),decide_eq_true (p:=x.low≤x.high) (by omega),decide_eq_true (p:=-1000≤x.add) (by omega),decide_eq_true (p:=x.add≤1000) (by omega),decide_eq_true (p:=x.high≤c.lim) (by omega),decide_eq_true a6]
    simp
   ·left;exact⟨a6,by simp;omega⟩
set_option maxHeartbeats 4000000 in
set_option maxRecDepth 100000 in
theorem aGuarded_any (v:Value) (r:RolD) (x:StpD) (w:World) (h:RlV w v r) (hl:r.ctrs.length≤100) (hlim:∀ c∈r.ctrs,1≤c.lim∧c.lim≤1000) :
  Calls Tryz.prog 212 #[v,stpV x] w (Ret (.bool (guardB r x)) (Frm [] w)):=by
 obtain⟨sv,cv,tv,rfl,h3⟩:=h
 obtain⟨ac,cc,ec,hcc⟩:=h3.ctrs
 subst ec
 have HCC:=Lib.hid hcc;have HLM:=Lib.hid hlim
 obtain⟨nc,hnc⟩:∃ nc,r.ctrs.length=nc:=⟨_,rfl⟩
 have HNC:=Lib.hid hnc
 rw[hnc] at h3
 rw[hnc]
 obtain⟨X,hX⟩:∃ X,(w.alloc (.cells #[.string r.name,sv,.slice ac nc cc,tv] 87)).alloc (.cells #[.string x.frm,.string x.to,.int .i64 x.kind,.string x.msg,.string x.peer,.string x.ctr,.int .i64 x.low,.int .i64 x.high,.int .i64 x.add] 137)=X:=⟨_,rfl⟩
 have HF:Hid (Frm [] w X):=Lib.hid (by rw[← hX];exact((Frm.refl _ _).alloc _).alloc _)
 have HBR:Hid (X.heap[w.heap.size]?=some (.cells #[.string r.name,sv,.slice ac nc cc,tv] 87 (0,0))):=Lib.hid (by rw[← hX];exact alloc_at (heap_alloc_new _ _))
 have HBT:Hid (X.heap[w.heap.size + 1]?=some (.cells #[.string x.frm,.string x.to,.int .i64 x.kind,.string x.msg,.string x.peer,.string x.ctr,.int .i64 x.low,.int .i64 x.high,.int .i64 x.add] 137 (0,0))):=Lib.hid (by rw[← hX];exact alloc_top (by simp))
 have HU:Hid (∀ V,Frm [] X V→V.cell? ⟨w.heap.size,2,none⟩=some (.slice ac nc cc)∧V.cell? ⟨w.heap.size + 1,5,none⟩=some (.string x.ctr)∧V.cell? ⟨w.heap.size + 1,6,none⟩=some (.int .i64 x.low)∧V.cell? ⟨w.heap.size + 1,7,none⟩=some (.int .i64 x.high)∧V.cell? ⟨w.heap.size + 1,8,none⟩=some (.int .i64 x.add)):=Lib.hid fun V hV =>
  ⟨hV.keep (cell_of HBR.out 2),hV.keep (cell_of HBT.out 5),hV.keep (cell_of HBT.out 6),hV.keep (cell_of HBT.out 7),hV.keep (cell_of HBT.out 8)⟩
 have CA:Hid (∀ V,Frm [] w V→Calls Tryz.prog 174 #[.agg #[.string r.name,sv,.slice ac nc cc,tv],.string x.ctr] V (Ret (.int .i64 (ctrIx r.ctrs x.ctr)) (Frm [] V))):=Lib.hid fun V hV=>aCounter_any _ r x.ctr V ⟨_,_,_,rfl,h3.frm hV⟩ (by omega)
 have HE:=Lib.hid hX
 clear h3 hcc hlim hnc hl hX
 obtain⟨t2,t5,t6,t7,t8⟩:=HU.out X (Frm.refl _ _)
 by_cases he:x.ctr=emptyS
 ·have hemp:x.ctr.toList.isEmpty=true:=emp_yes he
  have HRR:Hid (guardB r x=(decide (x.low=0) && decide (x.high=0) && decide (x.add=0))):=Lib.hid (guard_none he)
  clear he CA
  by_cases l0:x.low=0
  ·have q0:(x.low == 0)=true:=by simpa using l0
   by_cases l1:x.high=0
   ·have q1:(x.high == 0)=true:=by simpa using l1
    have HRR:Hid (guardB r x=(x.add == 0)):=Lib.hid (by rw[HRR.out,decide_eq_true l0,decide_eq_true l1,Bool.true_and,Bool.true_and];by_cases h:x.add=0 <;> simp[h])
    clear l0 l1
    go_enter Tryz.func212,Tryz.ntmps212
    go_wp2_with (first | (rw[HE.out]))
    go_ret
    exact⟨by rw[HRR.out];rfl,HF.out⟩
   ·have q1:(x.high == 0)=false:=by simpa using l1
    have HRR:Hid (guardB r x=false):=Lib.hid (by rw[HRR.out,decide_eq_false l1];simp)
    clear l0 l1
    go_enter Tryz.func212,Tryz.ntmps212
    go_wp2_with (first | (rw[HE.out]))
    go_ret
    exact⟨by rw[HRR.out];rfl,HF.out⟩
  ·have q0:(x.low == 0)=false:=by simpa using l0
   have HRR:Hid (guardB r x=false):=Lib.hid (by rw[HRR.out,decide_eq_false l0];simp)
   clear l0
   go_enter Tryz.func212,Tryz.ntmps212
   go_wp2_with (first | (rw[HE.out]))
   go_ret
   exact⟨by rw[HRR.out];rfl,HF.out⟩
 ·have hemp:x.ctr.toList.isEmpty=false:=emp_no he
  have HW:=Lib.hid (guard_ways2 (r:=r) he)
  obtain⟨q3,hq3⟩:∃ q,ctrIx r.ctrs x.ctr=q:=⟨_,rfl⟩
  rw[hq3] at CA HW
  clear he hq3
  go_enter Tryz.func212,Tryz.ntmps212
  go_upto_region 1 with fail
  rw[HE.out]
  go_upto_region 4 with (first
   | (refine wpList_load_whole rfl 87 _ rfl _ rfl _ 87 HBR.out _ Tryz.underlying87 rfl (by kernel_rfl) ?_)
   | (go_at_call 174;go_must (refine(CA.out _ HF.out).mono ?_;rintro e w1 ⟨rfl,hf1⟩;have HF1:=Lib.hid hf1;clear hf1)))
  clear t2 t5 t6 t7 t8
  rcases HW.out with ⟨h1,h2⟩ | ⟨p,c,h1,h2,h3⟩
  ·replace h2:=Lib.hid h2
   clear HW
   refine wp_region_cq (by kernel_rfl) (by kernel_rfl) ?_
   repeat (first
    | go_big_quiet_skip
    | (refine wpQuiet_want (by rfl) (fun K hK=>?_)
       first
        | (refine quiet_move _ (by rfl) (hK _ ?_))
        | (refine quiet_assign _ (by rfl) (hK _ ?_))
        | (apply Exists.intro
           refine⟨fun w' hC=>?_,hK _ ?_⟩
           ·(unfold Oper.quietAt
             obtain⟨t2,t5,t6,t7,t8⟩:=HU.out w' (HF1.out.trans hC)
             clear hC
             go_simp
             try exact⟨rfl,rfl⟩
             try rfl))
       clear hK K
       try simp only[nrm,Act.eval,nrq]))
   refine wpQuiet_nil ?_
   intro w2 hf2
   go_wp2
   go_ret
   exact⟨by rw[h2.out];rfl,HF.out.trans (HF1.out.trans hf2)⟩
  ·subst h1
   have hq0:¬ (p:Int) < 0:=by omega
   have hpn:(p:Int) < (nc:Int):=by have:=lt_of_some h2;have:=HNC.out;omega
   have hcl:=HLM.out c (List.mem_of_getElem? h2)
   obtain⟨b7,o7,rfl,hat⟩:=HCC.out p c h2
   have HAT:=Lib.hid hat
   clear hat h2 HW
   rcases h3 with ⟨g1,g2⟩ | ⟨g1,g3,g2⟩ | ⟨g1,g3,g4,g2⟩ | ⟨g1,g3,g4,g5,g2⟩ | ⟨g1,g3,g4,g5,g6,g2⟩ | ⟨g1,g3,g4,g5,g6,g7⟩
   iterate 5
    focus
     replace g2:=Lib.hid g2
     try have m1:decide (x.low < 0)=false:=decide_eq_false (by omega)
     try have m3:decide (x.high < x.low)=false:=decide_eq_false (by omega)
     try have m4:decide (c.lim < x.high)=false:=decide_eq_false (by omega)
     try have m5:decide (x.add < -1000)=false:=decide_eq_false (by omega)
     refine wp_region_cq (by kernel_rfl) (by kernel_rfl) ?_
     repeat (first
      | go_big_quiet_skip
      | (refine wpQuiet_want (by rfl) (fun K hK=>?_)
         first
          | (refine quiet_move _ (by rfl) (hK _ ?_))
          | (refine quiet_assign _ (by rfl) (hK _ ?_))
          | (apply Exists.intro
             refine⟨fun w' hC=>?_,hK _ ?_⟩
             ·(unfold Oper.quietAt
               obtain⟨t2,t5,t6,t7,t8⟩:=HU.out w' (HF1.out.trans hC);obtain⟨k0,k1⟩:=HAT.out.frm (HF.out.trans (HF1.out.trans hC))
               clear hC
               go_simp
               try exact⟨rfl,rfl⟩
               try rfl))
         clear hK K
         try simp only[nrm,Act.eval,nrq]))
     refine wpQuiet_nil ?_
     intro w2 hf2
     go_wp2
     go_ret
     exact⟨by rw[g2.out];rfl,HF.out.trans (HF1.out.trans hf2)⟩
   ·have m1:decide (x.low < 0)=false:=decide_eq_false (by omega)
    have m3:decide (x.high < x.low)=false:=decide_eq_false (by omega)
    have m4:decide (c.lim < x.high)=false:=decide_eq_false (by omega)
    have m5:decide (x.add < -1000)=false:=decide_eq_false (by omega)
    have m6:decide (1000 < x.add)=false:=decide_eq_false (by omega)
    have hw1:wrap64 (x.low + x.add)=x.low + x.add:=by unfold wrap64;omega
    have hw2:wrap64 (x.high + x.add)=x.high + x.add:=by unfold wrap64;omega
    have hw3:IntKind.i64.wrap (x.low + x.add)=x.low + x.add:=by simp[IntKind.wrap,show IntKind.i64.bits=64 from rfl,show IntKind.i64.signed=true from rfl];omega
    have hw4:IntKind.i64.wrap (x.high + x.add)=x.high + x.add:=by simp[IntKind.wrap,show IntKind.i64.bits=64 from rfl,show IntKind.i64.signed=true from rfl];omega
    refine wp_region_cq (by kernel_rfl) (by kernel_rfl) ?_
    repeat (first
     | go_big_quiet_skip
     | (refine wpQuiet_want (by rfl) (fun K hK=>?_)
        first
         | (refine quiet_move _ (by rfl) (hK _ ?_))
         | (refine quiet_assign _ (by rfl) (hK _ ?_))
         | (apply Exists.intro
            refine⟨fun w' hC=>?_,hK _ ?_⟩
            ·(unfold Oper.quietAt
              obtain⟨t2,t5,t6,t7,t8⟩:=HU.out w' (HF1.out.trans hC);obtain⟨k0,k1⟩:=HAT.out.frm (HF.out.trans (HF1.out.trans hC))
              clear hC
              go_simp
              try exact⟨rfl,rfl⟩
              try rfl))
        clear hK K
        try simp only[nrm,Act.eval,nrq]))
    refine wpQuiet_nil ?_
    intro w2 hf2
    have HF2:=Lib.hid (HF1.out.trans hf2)
    clear hf2
    rcases g7 with ⟨g7,g2⟩ | ⟨g7,g2⟩
    all_goals replace g2:=Lib.hid g2
    ·try have m7:decide (0≤x.low + x.add)=false:=decide_eq_false (by omega)
     go_upto_region 6 with fail
     refine wp_region_cq (by kernel_rfl) (by kernel_rfl) ?_
     repeat (first
      | go_big_quiet_skip
      | (refine wpQuiet_want (by rfl) (fun K hK=>?_)
         first
          | (refine quiet_move _ (by rfl) (hK _ ?_))
          | (refine quiet_assign _ (by rfl) (hK _ ?_))
          | (apply Exists.intro
             refine⟨fun w' hC=>?_,hK _ ?_⟩
             ·(unfold Oper.quietAt
               obtain⟨t2,t5,t6,t7,t8⟩:=HU.out w' (HF2.out.trans hC);obtain⟨k0,k1⟩:=HAT.out.frm (HF.out.trans (HF2.out.trans hC))
               clear hC
               go_simp
               try exact⟨rfl,rfl⟩
               try rfl))
         clear hK K
         try simp only[nrm,Act.eval,nrq]))
     refine wpQuiet_nil ?_
     intro w3 hf3
     go_wp2
     go_ret
     exact⟨by rw[g2.out];rfl,HF.out.trans (HF2.out.trans hf3)⟩
    ·try have m7:decide (0≤x.low + x.add)=false:=decide_eq_false (by omega)
     go_upto_region 6 with fail
     refine wp_region_cq (by kernel_rfl) (by kernel_rfl) ?_
     repeat (first
      | go_big_quiet_skip
      | (refine wpQuiet_want (by rfl) (fun K hK=>?_)
         first
          | (refine quiet_move _ (by rfl) (hK _ ?_))
          | (refine quiet_assign _ (by rfl) (hK _ ?_))
          | (apply Exists.intro
             refine⟨fun w' hC=>?_,hK _ ?_⟩
             ·(unfold Oper.quietAt
               obtain⟨t2,t5,t6,t7,t8⟩:=HU.out w' (HF2.out.trans hC);obtain⟨k0,k1⟩:=HAT.out.frm (HF.out.trans (HF2.out.trans hC))
               clear hC
               go_simp
               try exact⟨rfl,rfl⟩
               try rfl))
         clear hK K
         try simp only[nrm,Act.eval,nrq]))
     refine wpQuiet_nil ?_
     intro w3 hf3
     go_wp2
     go_ret
     exact⟨by rw[g2.out];rfl,HF.out.trans (HF2.out.trans hf3)⟩
end Go.Proofs.YtohfkhjlnlahdaaGreat
namespace Go.Proofs.YtohfkhjlnlahdaaGreat
open Go.RowKit Go.BigFrame
theorem aAlw_split (r:RolD) (n:Nat) (x:StpD):(stIx r x.frm < 0∧stepB r n x=false) ∨
  ∃ (p:Nat) (f:StD),stIx r x.frm=p∧r.sts[p]?=some f ∧
    ((stIx r x.to < 0∧stepB r n x=false)∨(¬ stIx r x.to < 0∧guardB r x=false∧stepB r n x=false) ∨
     (¬ stIx r x.to < 0∧guardB r x=true∧(x∈r.steps.take n→stepB r n x=false)∧(¬ x∈r.steps.take n→stepB r n x=kindB r x f))):=by
 have hs:=find_ixf (p:=fun s:StD=>decide (s.name=x.frm)) (l:=r.sts)
 unfold stepB
 cases hf:r.sts.find? (fun s=>decide (s.name=x.frm)) with
 | none =>
   rw[hf] at hs
   left
   refine⟨?_,rfl⟩
   show ixf _ _ < 0
   simp only at hs
   omega
 | some f =>
   rw[hf] at hs
   obtain⟨p,h1,h2,-⟩:=hs
   right
   refine⟨p,f,h1,h2,?_⟩
   simp only
   have hcon:(r.steps.take n).contains x=decide (x∈r.steps.take n):=by
    rw[Bool.eq_iff_iff,List.contains_iff_mem,decide_eq_true_eq]
   rw[hcon]
   by_cases ht:stIx r x.to < 0
   ·left;exact⟨ht,by rw[decide_eq_false (p:=0≤stIx r x.to) (by omega)];simp⟩
   ·right
    rw[decide_eq_true (p:=0≤stIx r x.to) (by omega)]
    cases hg:guardB r x with
    | false=>left;exact⟨ht,rfl,by simp⟩
    | true =>
      right
      refine⟨ht,rfl,fun h=>?_,fun h=>?_⟩
      ·rw[decide_eq_true h];simp
      ·rw[decide_eq_false h];simp
theorem kind_ways (r:RolD) (x:StpD) (f:StD) :
  ((x.kind=1∨x.kind≠1∧x.kind=2)∧((nameB x.msg=false∧kindB r x f=false)∨(nameB x.msg=true∧nameB x.peer=false∧kindB r x f=false)∨(nameB x.msg=true∧nameB x.peer=true∧kindB r x f=!decide (x.peer=r.name)))) ∨
  (x.kind≠1∧x.kind≠2∧x.kind=3∧((x.msg≠emptyS∧kindB r x f=false)∨(x.msg=emptyS∧x.peer≠emptyS∧kindB r x f=false)∨(x.msg=emptyS∧x.peer=emptyS∧kindB r x f=decide (0 < f.wait)))) ∨
  (x.kind≠1∧x.kind≠2∧x.kind≠3∧x.kind=4∧((x.msg≠emptyS∧kindB r x f=false)∨(x.msg=emptyS∧kindB r x f=decide (x.peer=emptyS)))) ∨
  (x.kind≠1∧x.kind≠2∧x.kind≠3∧x.kind≠4∧kindB r x f=false):=by
 unfold kindB
 by_cases h12:x.kind=1∨x.kind=2
 ·left
  refine⟨by omega,?_⟩
  rw[if_pos h12]
  cases nameB x.msg <;> cases nameB x.peer <;> simp
 ·right
  rw[if_neg h12]
  by_cases h3:x.kind=3
  ·left
   refine⟨by omega,by omega,h3,?_⟩
   rw[if_pos h3]
   by_cases m:x.msg=emptyS
   ·right
    rw[decide_eq_true m]
    by_cases p:x.peer=emptyS
    ·right;rw[decide_eq_true p];exact⟨m,p,by simp⟩
    ·left;rw[decide_eq_false p];exact⟨m,p,by simp⟩
   ·left;rw[decide_eq_false m];exact⟨m,by simp⟩
  ·right
   rw[if_neg h3]
   by_cases h4:x.kind=4
   ·left
    refine⟨by omega,by omega,h3,h4,?_⟩
    rw[if_pos h4]
    by_cases m:x.msg=emptyS
    ·right;rw[decide_eq_true m];exact⟨m,by simp⟩
    ·left;rw[decide_eq_false m];exact⟨m,by simp⟩
   ·right
    rw[if_neg h4]
    exact⟨by omega,by omega,h3,h4,rfl⟩
structure AaV (w:World) (rb tb:Nat) (sv cv tv:Value) (r:RolD) (x:StpD) (W:World):Prop where
 r:RBox W rb sv cv tv r
 t:W.heap[tb]?=some (.cells (encT x) 137 (0,0))
 fr:Frm [] w W
set_option maxHeartbeats 4000000 in
set_option maxRecDepth 100000 in
theorem aAllowed_12 (v:Value) (r:RolD) (n:Nat) (x:StpD) (w:World) (h:RlV w v r) (hx:r.steps[n]?=some x) (hl:r.steps.length≤100∧r.sts.length≤100∧r.ctrs.length≤100) (hlim:∀ c∈r.ctrs,1≤c.lim∧c.lim≤1000) (hkc:x.kind=1∨x.kind=2) :
  Calls Tryz.prog 176 #[v,.int .i64 n] w (Ret (.bool (stepB r n x)) (Frm [] w)):=by
 obtain⟨sv,cv,tv,rfl,h3⟩:=h
 obtain⟨ao,cap,e,hxs⟩:=h3.steps
 subst e
 obtain⟨b,o,rfl,hat⟩:=hxs n x hx
 obtain⟨c0,c1,c2,c3,c4,c5,c6,c7,c8⟩:=hat
 have HXS:=Lib.hid hxs
 have hblt:=cell_lt c0
 have hn100:n < 100:=by have:=lt_of_some hx;omega
 have hnl:(n:Int) < (r.steps.length:Int):=by have:=lt_of_some hx;omega
 obtain⟨m,hm⟩:∃ m,r.steps.length=m:=⟨_,rfl⟩
 rw[hm] at hnl
 have HM:=Lib.hid hm
 obtain⟨aS,cs,es,hss⟩:=h3.sts
 obtain⟨ac,cc,ec,hcc⟩:=h3.ctrs
 subst es
 subst ec
 have HSS:=Lib.hid hss
 obtain⟨ns,hns⟩:∃ ns,r.sts.length=ns:=⟨_,rfl⟩
 obtain⟨nc,hnc⟩:∃ nc,r.ctrs.length=nc:=⟨_,rfl⟩
 have HNS:=Lib.hid hns;have HNC:=Lib.hid hnc
 rw[hm,hns,hnc] at h3
 rw[hm,hns,hnc]
 clear hss hcc hns hnc hxs
 obtain⟨X,hX⟩:∃ X,(w.alloc (.cells #[.string r.name,.slice aS ns cs,.slice ac nc cc,.slice (some ⟨b,o,none⟩) m cap] 87)).alloc (.cells #[.string x.frm,.string x.to,.int .i64 x.kind,.string x.msg,.string x.peer,.string x.ctr,.int .i64 x.low,.int .i64 x.high,.int .i64 x.add] 137)=X:=⟨_,rfl⟩
 have HA:Hid (AaV w w.heap.size (w.heap.size + 1) (.slice aS ns cs) (.slice ac nc cc) (.slice (some ⟨b,o,none⟩) m cap) r x X):=Lib.hid (by
  have hf:Frm [] w X:=by rw[← hX];exact((Frm.refl _ _).alloc _).alloc _
  exact⟨⟨by rw[← hX];exact alloc_at (heap_alloc_new w _),h3.frm hf⟩,by rw[← hX];exact alloc_top (by simp),hf⟩)
 have HE:=Lib.hid hX
 have HU:Hid (∀ V,Frm [] X V→(V.cell? ⟨w.heap.size,0,none⟩=some (.string r.name)∧V.cell? ⟨w.heap.size,1,none⟩=some (.slice aS ns cs)∧V.cell? ⟨w.heap.size,2,none⟩=some (.slice ac nc cc)∧V.cell? ⟨w.heap.size,3,none⟩=some (.slice (some ⟨b,o,none⟩) m cap)) ∧
   (V.cell? ⟨w.heap.size + 1,0,none⟩=some (.string x.frm)∧V.cell? ⟨w.heap.size + 1,1,none⟩=some (.string x.to)∧V.cell? ⟨w.heap.size + 1,2,none⟩=some (.int .i64 x.kind)∧V.cell? ⟨w.heap.size + 1,3,none⟩=some (.string x.msg)∧V.cell? ⟨w.heap.size + 1,4,none⟩=some (.string x.peer) ∧
    V.cell? ⟨w.heap.size + 1,5,none⟩=some (.string x.ctr)∧V.cell? ⟨w.heap.size + 1,6,none⟩=some (.int .i64 x.low)∧V.cell? ⟨w.heap.size + 1,7,none⟩=some (.int .i64 x.high)∧V.cell? ⟨w.heap.size + 1,8,none⟩=some (.int .i64 x.add))):=Lib.hid fun V hV=>by
  have ht:=hV.at HA.out.t (by simp)
  exact⟨(HA.out.r.frm hV).cells,cell_of ht 0,cell_of ht 1,cell_of ht 2,cell_of ht 3,cell_of ht 4,cell_of ht 5,cell_of ht 6,cell_of ht 7,cell_of ht 8⟩
 have CS:Hid (∀ V nm,Frm [] X V→Calls Tryz.prog 175 #[.agg #[.string r.name,.slice aS ns cs,.slice ac nc cc,.slice (some ⟨b,o,none⟩) m cap],.string nm] V (Ret (.int .i64 (stIx r nm)) (Frm [] V))):=Lib.hid fun V nm hV=>aState_any _ r nm V (HA.out.r.frm hV).val (by omega)
 have CG:Hid (∀ V,Frm [] X V→Calls Tryz.prog 212 #[.agg #[.string r.name,.slice aS ns cs,.slice ac nc cc,.slice (some ⟨b,o,none⟩) m cap],stpV x] V (Ret (.bool (guardB r x)) (Frm [] V))):=Lib.hid fun V hV=>aGuarded_any _ r x V (HA.out.r.frm hV).val (by omega) hlim
 have CF:=Lib.hid (CS.out · x.frm)
 have CT:=Lib.hid (CS.out · x.to)
 obtain⟨q1,hq1⟩:∃ q1,stIx r x.frm=q1:=⟨_,rfl⟩
 obtain⟨q2,hq2⟩:∃ q2,stIx r x.to=q2:=⟨_,rfl⟩
 obtain⟨q3,hq3⟩:∃ q3,guardB r x=q3:=⟨_,rfl⟩
 have HSP:=Lib.hid (aAlw_split r n x)
 rw[hq1,hq2,hq3] at HSP
 rw[hq1] at CF;rw[hq2] at CT;rw[hq3] at CG
 obtain⟨res,hres⟩:∃ b,stepB r n x=b:=⟨_,rfl⟩
 rw[hres] at HSP ⊢
 have HX:=Lib.hid hx
 have HKC:=Lib.hid hkc
 have HLR:=Lib.hid (HA.out.r.frm (Frm.refl _ _)).cells
 clear hkc h3 hm hX hx hl hlim hq1 hq2 hq3 CS hres HLR
 have HRB:Hid (∀ V,Frm [] X V→V.heap[w.heap.size]?=some (.cells #[.string r.name,.slice aS ns cs,.slice ac nc cc,.slice (some ⟨b,o,none⟩) m cap] 87 (0,0))):=Lib.hid fun V hV=>hV.at HA.out.r.hb (by simp)
 have HTB:Hid (∀ V,Frm [] X V→V.heap[w.heap.size + 1]?=some (.cells #[.string x.frm,.string x.to,.int .i64 x.kind,.string x.msg,.string x.peer,.string x.ctr,.int .i64 x.low,.int .i64 x.high,.int .i64 x.add] 137 (0,0))):=Lib.hid fun V hV=>hV.at HA.out.t (by simp)
 go_enter Tryz.func176,Tryz.ntmps176
 go_upto_region 2 with fail
 rw[HE.out]
 clear HE c0 c1 c2 c3 c4 c5 c6 c7 c8 hblt
 obtain⟨⟨e0,e1,e2,e3⟩,t0,t1,t2,t3,t4,t5,t6,t7,t8⟩:=HU.out X (Frm.refl _ _)
 go_upto_region 3 with (first
  | (refine wpList_load_whole rfl 87 _ rfl _ rfl _ 87 (HRB.out _ (Frm.refl _ _)) _ Tryz.underlying87 rfl (by kernel_rfl) ?_)
  | (go_at_call 175;go_must (refine(CF.out _ (Frm.refl _ _)).mono ?_;rintro e w1 ⟨rfl,hf1⟩;have HF1:=Lib.hid hf1;clear hf1 e0 e1 e2 e3 t0 t1 t2 t3 t4 t5 t6 t7 t8 CF;obtain⟨⟨e0,e1,e2,e3⟩,t0,t1,t2,t3,t4,t5,t6,t7,t8⟩:=HU.out w1 HF1.out)))
 rcases HSP.out with ⟨h1,h2⟩ | ⟨p,f,hp,hf,hrest⟩
 ·have HR:=Lib.hid h2
  clear h2 HSP
  go_wp2
  go_ret
  exact⟨by rw[HR.out];rfl,HA.out.fr.trans HF1.out⟩
 subst hp
 have hp0:¬ (p:Int) < 0:=by omega
 have hpl:(p:Int) < (ns:Int):=by have:=lt_of_some hf;have:=HNS.out;omega
 obtain⟨b5,o5,rfl,g0,g1,g2⟩:=HA.out.r.h3.sts.get hf
 have HG:Hid (∀ V,Frm [] X V→V.cell? ⟨b5,o5 + p * 3 + 2,none⟩=some (.int .i64 f.wait)):=Lib.hid fun V hV=>hV.keep g2
 clear hf HSP g0 g1 g2
 have hd0:decide ((p:Int) < 0)=false:=decide_eq_false hp0
 rcases hrest with ⟨h1,h2⟩ | ⟨h1,h2,h3⟩ | ⟨h1,h2,h3,h4⟩
 ·have HR:=Lib.hid h2
  clear h2
  go_wp2_with (first
   | (refine wpList_load_whole rfl 87 _ rfl _ rfl _ 87 (HRB.out _ HF1.out) _ Tryz.underlying87 rfl (by kernel_rfl) ?_)
   | (go_at_call 175;go_must (refine(CT.out _ HF1.out).mono ?_;rintro e w2 ⟨rfl,hf2⟩;have HF2:=Lib.hid (HF1.out.trans hf2);clear hf2)))
  go_ret
  exact⟨by rw[HR.out];rfl,HA.out.fr.trans HF2.out⟩
 ·have HR:=Lib.hid h3
  have hd1:decide (q2 < 0)=false:=decide_eq_false (by omega)
  subst h2
  clear h3
  go_wp2_with (first
   | (refine wpList_load_whole rfl 87 _ rfl _ rfl _ 87 (HRB.out _ HF1.out) _ Tryz.underlying87 rfl (by kernel_rfl) ?_)
   | (refine wpList_load_whole rfl 87 _ rfl _ rfl _ 87 (HRB.out _ HF2.out) _ Tryz.underlying87 rfl (by kernel_rfl) ?_)
   | (refine wpList_load_whole rfl 137 _ rfl _ rfl _ 137 (HTB.out _ HF2.out) _ Tryz.underlying137 rfl (by kernel_rfl) ?_)
   | (go_at_call 175;go_must (refine(CT.out _ HF1.out).mono ?_;rintro e w2 ⟨rfl,hf2⟩;have HF2:=Lib.hid (HF1.out.trans hf2);clear hf2 e0 e1 e2 e3 t0 t1 t2 t3 t4 t5 t6 t7 t8;obtain⟨⟨e0,e1,e2,e3⟩,t0,t1,t2,t3,t4,t5,t6,t7,t8⟩:=HU.out w2 HF2.out))
   | (go_at_call 212;go_must (refine(CG.out _ HF2.out).mono ?_;rintro e w3 ⟨rfl,hf3⟩;have HF3:=Lib.hid (HF2.out.trans hf3);clear hf3)))
  go_ret
  exact⟨by rw[HR.out];rfl,HA.out.fr.trans HF3.out⟩
 ·have hd1:decide (q2 < 0)=false:=decide_eq_false (by omega)
  have HIN:=Lib.hid h3;have HOUT:=Lib.hid h4
  subst h2
  clear h3 h4
  go_wp2_with (first
   | (refine wpList_load_whole rfl 87 _ rfl _ rfl _ 87 (HRB.out _ HF1.out) _ Tryz.underlying87 rfl (by kernel_rfl) ?_)
   | (refine wpList_load_whole rfl 87 _ rfl _ rfl _ 87 (HRB.out _ HF2.out) _ Tryz.underlying87 rfl (by kernel_rfl) ?_)
   | (refine wpList_load_whole rfl 137 _ rfl _ rfl _ 137 (HTB.out _ HF2.out) _ Tryz.underlying137 rfl (by kernel_rfl) ?_)
   | (go_at_call 175;go_must (refine(CT.out _ HF1.out).mono ?_;rintro e w2 ⟨rfl,hf2⟩;have HF2:=Lib.hid (HF1.out.trans hf2);clear hf2 e0 e1 e2 e3 t0 t1 t2 t3 t4 t5 t6 t7 t8;obtain⟨⟨e0,e1,e2,e3⟩,t0,t1,t2,t3,t4,t5,t6,t7,t8⟩:=HU.out w2 HF2.out))
   | (go_at_call 212;go_must (refine(CG.out _ HF2.out).mono ?_;rintro e w3 ⟨rfl,hf3⟩;have HF3:=Lib.hid (HF2.out.trans hf3);clear hf3)))
  clear CT CG e0 e1 e2 e3 t0 t1 t2 t3 t4 t5 t6 t7 t8
  go_loopw [7] (fun s7 wr=>∃ i:Nat,s7=.int .i64 i∧i≤n∧Frm [] X wr∧∀ j y,j < i→r.steps[j]?=some y→decide (y=x)=false) (fun s7 _=>n - (intOf s7).toNat)
  case atStart=>exact⟨0,rfl,Nat.zero_le _,HF3.out,fun j y hj=>by omega⟩
  case round =>
   clear HF1 HF2 HF3
   obtain⟨i,rfl,hi,hf,hno⟩:=hrel
   have HF:=Lib.hid hf;have HNO:=Lib.hid hno
   clear hf hno
   obtain⟨⟨e0,e1,e2,e3⟩,t0,t1,t2,t3,t4,t5,t6,t7,t8⟩:=HU.out wr HF.out
   by_cases hlt:i < n
   ·have hlt':(i:Int) < (n:Int):=by omega
    have hlm:(i:Int) < (m:Int):=by omega
    obtain⟨y,hy⟩:∃ y,r.steps[i]?=some y:=⟨_,List.getElem?_eq_getElem (by rw[HM.out];omega)⟩
    obtain⟨b',o',eb,hat⟩:=HXS.out i y hy
    cases eb
    obtain⟨c0,c1,c2,c3,c4,c5,c6,c7,c8⟩:=hat.frm (HA.out.fr.trans HF.out)
    have hq:∀ V,(binOp .eql 137 (.agg #[.string y.frm,.string y.to,.int .i64 y.kind,.string y.msg,.string y.peer,.string y.ctr,.int .i64 y.low,.int .i64 y.high,.int .i64 y.add]) (.agg #[.string x.frm,.string x.to,.int .i64 x.kind,.string x.msg,.string x.peer,.string x.ctr,.int .i64 x.low,.int .i64 x.high,.int .i64 x.add])).run Tryz.prog V=.ok (.bool (decide (y=x))) V:=fun V=>eql_step y x V
    have HY:=Lib.hid hy
    clear hat hy
    cases hpx:decide (y=x) with
    | true =>
      rw[hpx] at hq
      have HR:=Lib.hid (HIN.out (by
       rw[decide_eq_true_eq] at hpx
       rw[← hpx]
       refine List.mem_of_getElem? (i:=i) ?_
       rw[List.getElem?_take,if_pos hlt];exact HY.out))
      clear hpx
      go_wp2
      go_quiet (fail)
      go_wp2
      go_ret
      exact⟨by rw[HR.out];rfl,HA.out.fr.trans (HF.out.drewN _)⟩
    | false =>
      rw[hpx] at hq
      have HPX:=Lib.hid hpx
      clear hpx
      go_wp2
      go_quiet (fail)
      go_wp2
      refine⟨⟨i + 1,congrArg (Value.int .i64) (by omega),hlt,HF.out.drewN _,fun j z hj hz=>?_⟩,by simp[intOf];omega⟩
      by_cases e:j=i
      ·subst e;rw[HY.out] at hz;cases hz;exact HPX.out
      ·exact HNO.out j z (by omega) hz
   ·have hge:¬ (i:Int) < (n:Int):=by omega
    have HRK:=Lib.hid (HOUT.out fun hmem=>by
     obtain⟨j,hj⟩:=List.getElem?_of_mem hmem
     rw[List.getElem?_take] at hj
     split at hj
     ·have:=HNO.out j x (by omega) hj
      simp at this
     ·cases hj)
    have hg:=HG.out wr HF.out
    have CN:Hid (∀ V s,Calls Tryz.prog 115 #[.string s] V (Ret (.bool (nameB s)) (Frm [] V))):=Lib.hid fun V s=>aName_any s V
    have CM:=Lib.hid (CN.out · x.msg)
    have CP:=Lib.hid (CN.out · x.peer)
    have HKW:=Lib.hid (kind_ways r x f)
    clear HIN HOUT HNO CN hi
    rcases HKW.out with ⟨hk,hkk⟩ | ⟨k1,k2,k3,hkk⟩ | ⟨k1,k2,k3,k4,hkk⟩ | ⟨k1,k2,k3,k4,hkk⟩
    ·rcases hkk with ⟨n1,n2⟩ | ⟨n1,n2,n3⟩ | ⟨n1,n2,n3⟩
     ·rw[n1] at CM
      have HR:Hid (res=false):=Lib.hid (by rw[HRK.out,n2])
      clear n1 n2 HKW HRK
      rcases hk with hk | ⟨k1,hk⟩
      all_goals
       try have kk:(x.kind == 1)=true:=by simpa using hk
       try have kk:(x.kind == 1)=false:=by simpa using k1
       try have kj:(x.kind == 2)=true:=by simpa using hk
       clear hk
       go_wp2_with (first
        | (go_at_call 115;go_must (refine(CM.out _).mono ?_;rintro e w1 ⟨rfl,hf1⟩;have HF1:=Lib.hid (HF.out.trans hf1);clear hf1)))
       go_ret
       exact⟨by rw[HR.out];rfl,HA.out.fr.trans HF1.out⟩
     ·rw[n1] at CM
      rw[n2] at CP
      have HR:Hid (res=false):=Lib.hid (by rw[HRK.out,n3])
      clear n1 n2 n3 HKW HRK
      rcases hk with hk | ⟨k1,hk⟩
      all_goals
       try have kk:(x.kind == 1)=true:=by simpa using hk
       try have kk:(x.kind == 1)=false:=by simpa using k1
       try have kj:(x.kind == 2)=true:=by simpa using hk
       clear hk
       go_wp2_with (go_at_call 115;go_must (first
        | (refine(CM.out _).mono ?_;clear CM;rintro e w1 ⟨rfl,hf1⟩;have HF1:=Lib.hid (HF.out.trans hf1);clear hf1 e0 e1 e2 e3 t0 t1 t2 t3 t4 t5 t6 t7 t8;obtain⟨⟨e0,e1,e2,e3⟩,t0,t1,t2,t3,t4,t5,t6,t7,t8⟩:=HU.out w1 HF1.out)
        | (refine(CP.out _).mono ?_;clear CP;rintro e w2 ⟨rfl,hf2⟩;have HF2:=Lib.hid (HF1.out.trans hf2);clear hf2 e0 e1 e2 e3 t0 t1 t2 t3 t4 t5 t6 t7 t8;obtain⟨⟨e0,e1,e2,e3⟩,t0,t1,t2,t3,t4,t5,t6,t7,t8⟩:=HU.out w2 HF2.out)))
       go_ret
       exact⟨by rw[HR.out];rfl,HA.out.fr.trans HF2.out⟩
     ·rw[n1] at CM
      rw[n2] at CP
      have HR:Hid (res=!decide (x.peer=r.name)):=Lib.hid (by rw[HRK.out,n3])
      clear n1 n2 n3 HKW HRK
      have hpp:(x.peer.toList == r.name.toList)=decide (x.peer=r.name):=str_beq _ _
      obtain⟨pn,hpn⟩:∃ pn,decide (x.peer=r.name)=pn:=⟨_,rfl⟩
      rw[hpn] at hpp HR
      clear hpn
      rcases hk with hk | ⟨k1,hk⟩
      all_goals
       try have kk:(x.kind == 1)=true:=by simpa using hk
       try have kk:(x.kind == 1)=false:=by simpa using k1
       try have kj:(x.kind == 2)=true:=by simpa using hk
       clear hk
       go_wp2_with (go_at_call 115;go_must (first
        | (refine(CM.out _).mono ?_;clear CM;rintro e w1 ⟨rfl,hf1⟩;have HF1:=Lib.hid (HF.out.trans hf1);clear hf1 e0 e1 e2 e3 t0 t1 t2 t3 t4 t5 t6 t7 t8;obtain⟨⟨e0,e1,e2,e3⟩,t0,t1,t2,t3,t4,t5,t6,t7,t8⟩:=HU.out w1 HF1.out)
        | (refine(CP.out _).mono ?_;clear CP;rintro e w2 ⟨rfl,hf2⟩;have HF2:=Lib.hid (HF1.out.trans hf2);clear hf2 e0 e1 e2 e3 t0 t1 t2 t3 t4 t5 t6 t7 t8;obtain⟨⟨e0,e1,e2,e3⟩,t0,t1,t2,t3,t4,t5,t6,t7,t8⟩:=HU.out w2 HF2.out)))
       go_ret
       exact⟨by rw[HR.out];rfl,HA.out.fr.trans HF2.out⟩
    ·exfalso;have:=HKC.out;omega
    ·exfalso;have:=HKC.out;omega
    ·exfalso;have:=HKC.out;omega
set_option maxHeartbeats 4000000 in
set_option maxRecDepth 100000 in
theorem aAllowed_3 (v:Value) (r:RolD) (n:Nat) (x:StpD) (w:World) (h:RlV w v r) (hx:r.steps[n]?=some x) (hl:r.steps.length≤100∧r.sts.length≤100∧r.ctrs.length≤100) (hlim:∀ c∈r.ctrs,1≤c.lim∧c.lim≤1000) (hkc:x.kind≠1∧x.kind≠2) :
  Calls Tryz.prog 176 #[v,.int .i64 n] w (Ret (.bool (stepB r n x)) (Frm [] w)):=by
 obtain⟨sv,cv,tv,rfl,h3⟩:=h
 obtain⟨ao,cap,e,hxs⟩:=h3.steps
 subst e
 obtain⟨b,o,rfl,hat⟩:=hxs n x hx
 obtain⟨c0,c1,c2,c3,c4,c5,c6,c7,c8⟩:=hat
 have HXS:=Lib.hid hxs
 have hblt:=cell_lt c0
 have hn100:n < 100:=by have:=lt_of_some hx;omega
 have hnl:(n:Int) < (r.steps.length:Int):=by have:=lt_of_some hx;omega
 obtain⟨m,hm⟩:∃ m,r.steps.length=m:=⟨_,rfl⟩
 rw[hm] at hnl
 have HM:=Lib.hid hm
 obtain⟨aS,cs,es,hss⟩:=h3.sts
 obtain⟨ac,cc,ec,hcc⟩:=h3.ctrs
 subst es
 subst ec
 have HSS:=Lib.hid hss
 obtain⟨ns,hns⟩:∃ ns,r.sts.length=ns:=⟨_,rfl⟩
 obtain⟨nc,hnc⟩:∃ nc,r.ctrs.length=nc:=⟨_,rfl⟩
 have HNS:=Lib.hid hns;have HNC:=Lib.hid hnc
 rw[hm,hns,hnc] at h3
 rw[hm,hns,hnc]
 clear hss hcc hns hnc hxs
 obtain⟨X,hX⟩:∃ X,(w.alloc (.cells #[.string r.name,.slice aS ns cs,.slice ac nc cc,.slice (some ⟨b,o,none⟩) m cap] 87)).alloc (.cells #[.string x.frm,.string x.to,.int .i64 x.kind,.string x.msg,.string x.peer,.string x.ctr,.int .i64 x.low,.int .i64 x.high,.int .i64 x.add] 137)=X:=⟨_,rfl⟩
 have HA:Hid (AaV w w.heap.size (w.heap.size + 1) (.slice aS ns cs) (.slice ac nc cc) (.slice (some ⟨b,o,none⟩) m cap) r x X):=Lib.hid (by
  have hf:Frm [] w X:=by rw[← hX];exact((Frm.refl _ _).alloc _).alloc _
  exact⟨⟨by rw[← hX];exact alloc_at (heap_alloc_new w _),h3.frm hf⟩,by rw[← hX];exact alloc_top (by simp),hf⟩)
 have HE:=Lib.hid hX
 have HU:Hid (∀ V,Frm [] X V→(V.cell? ⟨w.heap.size,0,none⟩=some (.string r.name)∧V.cell? ⟨w.heap.size,1,none⟩=some (.slice aS ns cs)∧V.cell? ⟨w.heap.size,2,none⟩=some (.slice ac nc cc)∧V.cell? ⟨w.heap.size,3,none⟩=some (.slice (some ⟨b,o,none⟩) m cap)) ∧
   (V.cell? ⟨w.heap.size + 1,0,none⟩=some (.string x.frm)∧V.cell? ⟨w.heap.size + 1,1,none⟩=some (.string x.to)∧V.cell? ⟨w.heap.size + 1,2,none⟩=some (.int .i64 x.kind)∧V.cell? ⟨w.heap.size + 1,3,none⟩=some (.string x.msg)∧V.cell? ⟨w.heap.size + 1,4,none⟩=some (.string x.peer) ∧
    V.cell? ⟨w.heap.size + 1,5,none⟩=some (.string x.ctr)∧V.cell? ⟨w.heap.size + 1,6,none⟩=some (.int .i64 x.low)∧V.cell? ⟨w.heap.size + 1,7,none⟩=some (.int .i64 x.high)∧V.cell? ⟨w.heap.size + 1,8,none⟩=some (.int .i64 x.add))):=Lib.hid fun V hV=>by
  have ht:=hV.at HA.out.t (by simp)
  exact⟨(HA.out.r.frm hV).cells,cell_of ht 0,cell_of ht 1,cell_of ht 2,cell_of ht 3,cell_of ht 4,cell_of ht 5,cell_of ht 6,cell_of ht 7,cell_of ht 8⟩
 have CS:Hid (∀ V nm,Frm [] X V→Calls Tryz.prog 175 #[.agg #[.string r.name,.slice aS ns cs,.slice ac nc cc,.slice (some ⟨b,o,none⟩) m cap],.string nm] V (Ret (.int .i64 (stIx r nm)) (Frm [] V))):=Lib.hid fun V nm hV=>aState_any _ r nm V (HA.out.r.frm hV).val (by omega)
 have CG:Hid (∀ V,Frm [] X V→Calls Tryz.prog 212 #[.agg #[.string r.name,.slice aS ns cs,.slice ac nc cc,.slice (some ⟨b,o,none⟩) m cap],stpV x] V (Ret (.bool (guardB r x)) (Frm [] V))):=Lib.hid fun V hV=>aGuarded_any _ r x V (HA.out.r.frm hV).val (by omega) hlim
 have CF:=Lib.hid (CS.out · x.frm)
 have CT:=Lib.hid (CS.out · x.to)
 obtain⟨q1,hq1⟩:∃ q1,stIx r x.frm=q1:=⟨_,rfl⟩
 obtain⟨q2,hq2⟩:∃ q2,stIx r x.to=q2:=⟨_,rfl⟩
 obtain⟨q3,hq3⟩:∃ q3,guardB r x=q3:=⟨_,rfl⟩
 have HSP:=Lib.hid (aAlw_split r n x)
 rw[hq1,hq2,hq3] at HSP
 rw[hq1] at CF;rw[hq2] at CT;rw[hq3] at CG
 obtain⟨res,hres⟩:∃ b,stepB r n x=b:=⟨_,rfl⟩
 rw[hres] at HSP ⊢
 have HX:=Lib.hid hx
 have HKC:=Lib.hid hkc
 have HLR:=Lib.hid (HA.out.r.frm (Frm.refl _ _)).cells
 clear hkc h3 hm hX hx hl hlim hq1 hq2 hq3 CS hres HLR
 have HRB:Hid (∀ V,Frm [] X V→V.heap[w.heap.size]?=some (.cells #[.string r.name,.slice aS ns cs,.slice ac nc cc,.slice (some ⟨b,o,none⟩) m cap] 87 (0,0))):=Lib.hid fun V hV=>hV.at HA.out.r.hb (by simp)
 have HTB:Hid (∀ V,Frm [] X V→V.heap[w.heap.size + 1]?=some (.cells #[.string x.frm,.string x.to,.int .i64 x.kind,.string x.msg,.string x.peer,.string x.ctr,.int .i64 x.low,.int .i64 x.high,.int .i64 x.add] 137 (0,0))):=Lib.hid fun V hV=>hV.at HA.out.t (by simp)
 go_enter Tryz.func176,Tryz.ntmps176
 go_upto_region 2 with fail
 rw[HE.out]
 clear HE c0 c1 c2 c3 c4 c5 c6 c7 c8 hblt
 obtain⟨⟨e0,e1,e2,e3⟩,t0,t1,t2,t3,t4,t5,t6,t7,t8⟩:=HU.out X (Frm.refl _ _)
 go_upto_region 3 with (first
  | (refine wpList_load_whole rfl 87 _ rfl _ rfl _ 87 (HRB.out _ (Frm.refl _ _)) _ Tryz.underlying87 rfl (by kernel_rfl) ?_)
  | (go_at_call 175;go_must (refine(CF.out _ (Frm.refl _ _)).mono ?_;rintro e w1 ⟨rfl,hf1⟩;have HF1:=Lib.hid hf1;clear hf1 e0 e1 e2 e3 t0 t1 t2 t3 t4 t5 t6 t7 t8 CF;obtain⟨⟨e0,e1,e2,e3⟩,t0,t1,t2,t3,t4,t5,t6,t7,t8⟩:=HU.out w1 HF1.out)))
 rcases HSP.out with ⟨h1,h2⟩ | ⟨p,f,hp,hf,hrest⟩
 ·have HR:=Lib.hid h2
  clear h2 HSP
  go_wp2
  go_ret
  exact⟨by rw[HR.out];rfl,HA.out.fr.trans HF1.out⟩
 subst hp
 have hp0:¬ (p:Int) < 0:=by omega
 have hpl:(p:Int) < (ns:Int):=by have:=lt_of_some hf;have:=HNS.out;omega
 obtain⟨b5,o5,rfl,g0,g1,g2⟩:=HA.out.r.h3.sts.get hf
 have HG:Hid (∀ V,Frm [] X V→V.cell? ⟨b5,o5 + p * 3 + 2,none⟩=some (.int .i64 f.wait)):=Lib.hid fun V hV=>hV.keep g2
 clear hf HSP g0 g1 g2
 have hd0:decide ((p:Int) < 0)=false:=decide_eq_false hp0
 rcases hrest with ⟨h1,h2⟩ | ⟨h1,h2,h3⟩ | ⟨h1,h2,h3,h4⟩
 ·have HR:=Lib.hid h2
  clear h2
  go_wp2_with (first
   | (refine wpList_load_whole rfl 87 _ rfl _ rfl _ 87 (HRB.out _ HF1.out) _ Tryz.underlying87 rfl (by kernel_rfl) ?_)
   | (go_at_call 175;go_must (refine(CT.out _ HF1.out).mono ?_;rintro e w2 ⟨rfl,hf2⟩;have HF2:=Lib.hid (HF1.out.trans hf2);clear hf2)))
  go_ret
  exact⟨by rw[HR.out];rfl,HA.out.fr.trans HF2.out⟩
 ·have HR:=Lib.hid h3
  have hd1:decide (q2 < 0)=false:=decide_eq_false (by omega)
  subst h2
  clear h3
  go_wp2_with (first
   | (refine wpList_load_whole rfl 87 _ rfl _ rfl _ 87 (HRB.out _ HF1.out) _ Tryz.underlying87 rfl (by kernel_rfl) ?_)
   | (refine wpList_load_whole rfl 87 _ rfl _ rfl _ 87 (HRB.out _ HF2.out) _ Tryz.underlying87 rfl (by kernel_rfl) ?_)
   | (refine wpList_load_whole rfl 137 _ rfl _ rfl _ 137 (HTB.out _ HF2.out) _ Tryz.underlying137 rfl (by kernel_rfl) ?_)
   | (go_at_call 175;go_must (refine(CT.out _ HF1.out).mono ?_;rintro e w2 ⟨rfl,hf2⟩;have HF2:=Lib.hid (HF1.out.trans hf2);clear hf2 e0 e1 e2 e3 t0 t1 t2 t3 t4 t5 t6 t7 t8;obtain⟨⟨e0,e1,e2,e3⟩,t0,t1,t2,t3,t4,t5,t6,t7,t8⟩:=HU.out w2 HF2.out))
   | (go_at_call 212;go_must (refine(CG.out _ HF2.out).mono ?_;rintro e w3 ⟨rfl,hf3⟩;have HF3:=Lib.hid (HF2.out.trans hf3);clear hf3)))
  go_ret
  exact⟨by rw[HR.out];rfl,HA.out.fr.trans HF3.out⟩
 ·have hd1:decide (q2 < 0)=false:=decide_eq_false (by omega)
  have HIN:=Lib.hid h3;have HOUT:=Lib.hid h4
  subst h2
  clear h3 h4
  go_wp2_with (first
   | (refine wpList_load_whole rfl 87 _ rfl _ rfl _ 87 (HRB.out _ HF1.out) _ Tryz.underlying87 rfl (by kernel_rfl) ?_)
   | (refine wpList_load_whole rfl 87 _ rfl _ rfl _ 87 (HRB.out _ HF2.out) _ Tryz.underlying87 rfl (by kernel_rfl) ?_)
   | (refine wpList_load_whole rfl 137 _ rfl _ rfl _ 137 (HTB.out _ HF2.out) _ Tryz.underlying137 rfl (by kernel_rfl) ?_)
   | (go_at_call 175;go_must (refine(CT.out _ HF1.out).mono ?_;rintro e w2 ⟨rfl,hf2⟩;have HF2:=Lib.hid (HF1.out.trans hf2);clear hf2 e0 e1 e2 e3 t0 t1 t2 t3 t4 t5 t6 t7 t8;obtain⟨⟨e0,e1,e2,e3⟩,t0,t1,t2,t3,t4,t5,t6,t7,t8⟩:=HU.out w2 HF2.out))
   | (go_at_call 212;go_must (refine(CG.out _ HF2.out).mono ?_;rintro e w3 ⟨rfl,hf3⟩;have HF3:=Lib.hid (HF2.out.trans hf3);clear hf3)))
  clear CT CG e0 e1 e2 e3 t0 t1 t2 t3 t4 t5 t6 t7 t8
  go_loopw [7] (fun s7 wr=>∃ i:Nat,s7=.int .i64 i∧i≤n∧Frm [] X wr∧∀ j y,j < i→r.steps[j]?=some y→decide (y=x)=false) (fun s7 _=>n - (intOf s7).toNat)
  case atStart=>exact⟨0,rfl,Nat.zero_le _,HF3.out,fun j y hj=>by omega⟩
  case round =>
   clear HF1 HF2 HF3
   obtain⟨i,rfl,hi,hf,hno⟩:=hrel
   have HF:=Lib.hid hf;have HNO:=Lib.hid hno
   clear hf hno
   obtain⟨⟨e0,e1,e2,e3⟩,t0,t1,t2,t3,t4,t5,t6,t7,t8⟩:=HU.out wr HF.out
   by_cases hlt:i < n
   ·have hlt':(i:Int) < (n:Int):=by omega
    have hlm:(i:Int) < (m:Int):=by omega
    obtain⟨y,hy⟩:∃ y,r.steps[i]?=some y:=⟨_,List.getElem?_eq_getElem (by rw[HM.out];omega)⟩
    obtain⟨b',o',eb,hat⟩:=HXS.out i y hy
    cases eb
    obtain⟨c0,c1,c2,c3,c4,c5,c6,c7,c8⟩:=hat.frm (HA.out.fr.trans HF.out)
    have hq:∀ V,(binOp .eql 137 (.agg #[.string y.frm,.string y.to,.int .i64 y.kind,.string y.msg,.string y.peer,.string y.ctr,.int .i64 y.low,.int .i64 y.high,.int .i64 y.add]) (.agg #[.string x.frm,.string x.to,.int .i64 x.kind,.string x.msg,.string x.peer,.string x.ctr,.int .i64 x.low,.int .i64 x.high,.int .i64 x.add])).run Tryz.prog V=.ok (.bool (decide (y=x))) V:=fun V=>eql_step y x V
    have HY:=Lib.hid hy
    clear hat hy
    cases hpx:decide (y=x) with
    | true =>
      rw[hpx] at hq
      have HR:=Lib.hid (HIN.out (by
       rw[decide_eq_true_eq] at hpx
       rw[← hpx]
       refine List.mem_of_getElem? (i:=i) ?_
       rw[List.getElem?_take,if_pos hlt];exact HY.out))
      clear hpx
      go_wp2
      go_quiet (fail)
      go_wp2
      go_ret
      exact⟨by rw[HR.out];rfl,HA.out.fr.trans (HF.out.drewN _)⟩
    | false =>
      rw[hpx] at hq
      have HPX:=Lib.hid hpx
      clear hpx
      go_wp2
      go_quiet (fail)
      go_wp2
      refine⟨⟨i + 1,congrArg (Value.int .i64) (by omega),hlt,HF.out.drewN _,fun j z hj hz=>?_⟩,by simp[intOf];omega⟩
      by_cases e:j=i
      ·subst e;rw[HY.out] at hz;cases hz;exact HPX.out
      ·exact HNO.out j z (by omega) hz
   ·have hge:¬ (i:Int) < (n:Int):=by omega
    have HRK:=Lib.hid (HOUT.out fun hmem=>by
     obtain⟨j,hj⟩:=List.getElem?_of_mem hmem
     rw[List.getElem?_take] at hj
     split at hj
     ·have:=HNO.out j x (by omega) hj
      simp at this
     ·cases hj)
    have hg:=HG.out wr HF.out
    have CN:Hid (∀ V s,Calls Tryz.prog 115 #[.string s] V (Ret (.bool (nameB s)) (Frm [] V))):=Lib.hid fun V s=>aName_any s V
    have CM:=Lib.hid (CN.out · x.msg)
    have CP:=Lib.hid (CN.out · x.peer)
    have HKW:=Lib.hid (kind_ways r x f)
    clear HIN HOUT HNO CN hi
    rcases HKW.out with ⟨hk,hkk⟩ | ⟨k1,k2,k3,hkk⟩ | ⟨k1,k2,k3,k4,hkk⟩ | ⟨k1,k2,k3,k4,hkk⟩
    ·exfalso;have:=HKC.out;omega
    ·have kk:(x.kind == 1)=false:=by simpa using k1
     have kj:(x.kind == 2)=false:=by simpa using k2
     have kl:(x.kind == 3)=true:=by simpa using k3
     rcases hkk with ⟨n1,n2⟩ | ⟨n1,n2,n3⟩ | ⟨n1,n2,n3⟩
     ·have hm:=emp_no n1
      have HR:Hid (res=false):=Lib.hid (by rw[HRK.out,n2])
      clear n1 n2 HKW HRK
      go_wp2
      go_ret
      exact⟨by rw[HR.out];rfl,HA.out.fr.trans HF.out⟩
     ·have hm:=emp_yes n1
      have hp:=emp_no n2
      have HR:Hid (res=false):=Lib.hid (by rw[HRK.out,n3])
      clear n1 n2 n3 HKW HRK
      go_wp2
      go_ret
      exact⟨by rw[HR.out];rfl,HA.out.fr.trans HF.out⟩
     ·have hm:=emp_yes n1
      have hp:=emp_yes n2
      have HR:Hid (res=decide (0 < f.wait)):=Lib.hid (by rw[HRK.out,n3])
      clear n1 n2 n3 HKW HRK
      go_wp2
      go_ret
      exact⟨by rw[HR.out];rfl,HA.out.fr.trans HF.out⟩
    ·have kk:(x.kind == 1)=false:=by simpa using k1
     have kj:(x.kind == 2)=false:=by simpa using k2
     have kl:(x.kind == 3)=false:=by simpa using k3
     have km:(x.kind == 4)=true:=by simpa using k4
     rcases hkk with ⟨n1,n2⟩ | ⟨n1,n2⟩
     ·have hm:=emp_no n1
      have HR:Hid (res=false):=Lib.hid (by rw[HRK.out,n2])
      clear n1 n2 HKW HRK
      go_wp2
      go_ret
      exact⟨by rw[HR.out];rfl,HA.out.fr.trans HF.out⟩
     ·have hm:=emp_yes n1
      have hp:x.peer.toList.isEmpty=decide (x.peer=emptyS):=by
       by_cases h:x.peer=emptyS
       ·rw[decide_eq_true h];exact emp_yes h
       ·rw[decide_eq_false h];exact emp_no h
      have HR:Hid (res=decide (x.peer=emptyS)):=Lib.hid (by rw[HRK.out,n2])
      obtain⟨pn,hpn⟩:∃ pn,decide (x.peer=emptyS)=pn:=⟨_,rfl⟩
      rw[hpn] at hp HR
      clear n1 n2 HKW HRK hpn
      go_wp2
      go_ret
      exact⟨by rw[HR.out];rfl,HA.out.fr.trans HF.out⟩
    ·have kk:(x.kind == 1)=false:=by simpa using k1
     have kj:(x.kind == 2)=false:=by simpa using k2
     have kl:(x.kind == 3)=false:=by simpa using k3
     have km:(x.kind == 4)=false:=by simpa using k4
     have HR:Hid (res=false):=Lib.hid (by rw[HRK.out,hkk])
     clear hkk HKW HRK
     go_wp2
     go_ret
     exact⟨by rw[HR.out];rfl,HA.out.fr.trans HF.out⟩
theorem aAllowed_any (v:Value) (r:RolD) (n:Nat) (x:StpD) (w:World) (h:RlV w v r) (hx:r.steps[n]?=some x) (hl:r.steps.length≤100∧r.sts.length≤100∧r.ctrs.length≤100) (hlim:∀ c∈r.ctrs,1≤c.lim∧c.lim≤1000) :
  Calls Tryz.prog 176 #[v,.int .i64 n] w (Ret (.bool (stepB r n x)) (Frm [] w)):=by
 by_cases hk:x.kind=1∨x.kind=2
 ·exact aAllowed_12 v r n x w h hx hl hlim hk
 ·exact aAllowed_3 v r n x w h hx hl hlim (by omega)
end Go.Proofs.YtohfkhjlnlahdaaGreat
