/- Part of the proof. -/
import Derived.Test.YtkphhjekfimmlaaGreatG13
import Derived.Test.YtkphhjekfimmlaaGreatG05
import Derived.Test.YtkphhjekfimmlaaGreatG18
import Derived.Shelf.SlGeneric
import Derived.Shelf.SlLaysN
import Derived.Shelf.SlLaysM
import Derived.Ground.SlgnProg
import Derived.Ground.SlgmProg
import Derived.Test.YtkphhjekfimmlaaGreatProg
import Derived.Test.YtkphhjekfimmlaaGreatG03
import Derived.WalkKit
import Derived.WalkSpells
import Derived.Deep.QuietTactic
import Derived.Deep.MidRow
import Derived.Deep.WholeRow
import Derived.BigQuiet
import Derived.StillTail
import Derived.Laws.IdiomStrings
import Derived.Shelf.Bytes.SlSmallAll
import Derived.Deep.Upon
import Derived.ArgAppend
import Derived.Deep.AppendLies
import Derived.Maps.AppendAt
import Derived.Lib.Hide
import Derived.Deep.DeepMust
import Derived.WalkLawsBesides
import Derived.BigRegion
import Derived.Deep.RegionHeld3
import Derived.Deep.RegionLaw
import Derived.Deep.DeepCutAuto
import Derived.Shelf.SlicesG.Clone
import Derived.Shelf.SlicesG.Turned
import Derived.Shelf.SlicesG.Delete
import Derived.Sort.OwnSorted
import Derived.OrdersHeld
import Derived.Shelf.SortM.Plain
import Derived.Shelf.SortM.SortNone
import Derived.Test.YtkphhjekfimmlaaGreatG21
import Derived.Test.YtkphhjekfimmlaaGreatG23
import Derived.Test.YtkphhjekfimmlaaGreatG20
import Derived.Laws.StructEq
import Derived.Test.YtkphhjekfimmlaaGreatG10
import Derived.Test.YtkphhjekfimmlaaGreatG01
import Derived.ProofKit
import Derived.SizedLaws
import Derived.Deep.Slices
import Derived.Test.YtkphhjekfimmlaaGreatG29
import Derived.Test.YtkphhjekfimmlaaGreatG24
import Derived.Lib.SliceRun
import Derived.LoopTactic
import Derived.RangeFuncNested
import Derived.RangeFuncLeaves
import Derived.RangeFuncCalls
import Derived.RangeFuncBound
import Derived.OwnWalkIn
import Derived.TacticsInMore
import Derived.LoopNIn
import Derived.LoopIn
import Derived.Lib.Builder
import Derived.Sort.CutIn
import Derived.OrdersIn
import Derived.Lib.AppendStr
import Derived.Laws.OwnMore
import Derived.Maps.OwnSet
import Derived.Maps.OwnOps
import Derived.Laws.EntriesVeiled
import Derived.Laws.Concat
import Derived.LaidEql
import Derived.Test.YtkphhjekfimmlaaGreatG26
import Derived.Test.YtkphhjekfimmlaaGreatG02
import Derived.Test.YtkphhjekfimmlaaGreatRows
import Derived.Lib.SmallJoins
set_option linter.all false
namespace Go.Proofs.YtkphhjekfimmlaaGreat
open Go.RowKit Go.BigFrame
set_option maxHeartbeats 1000000 in
theorem aState_any (v:Value) (r:RolD) (n:ByteArray) (w:World) (h:RlV w v r) (hl:r.sts.length≤1000):Calls Tryz.prog 146 #[v,.string n] w (Ret (.int .i64 (stIx r n)) (Frm [] w)):=by
 obtain⟨sv,cv,tv,rfl,h3⟩:=h
 obtain⟨ao,cap,e,hx⟩:=h3.sts
 subst e
 have HX:=Lib.hid hx
 obtain⟨m,hm⟩:∃ m,r.sts.length=m:=⟨_,rfl⟩
 rw[hm] at hl
 have HN:=Lib.hid hm
 rw[hm]
 obtain⟨W0,hW0⟩:∃ W0,w.alloc (.cells #[.string r.name,.slice ao m cap,cv,tv] 53)=W0:=⟨_,rfl⟩
 have HW0:Hid (Frm [] w W0):=Lib.hid (by rw[← hW0];exact(Frm.refl _ _).alloc _)
 have HB:Hid (W0.cell? ⟨w.heap.size,1,none⟩=some (.slice ao m cap)):=Lib.hid (by rw[← hW0];exact cell_of (heap_alloc_new w _) 1)
 have HE:=Lib.hid hW0
 clear hx h3 hm hW0
 go_enter Tryz.func146,Tryz.ntmps146
 go_wp2
 rw[HE.out]
 clear HE
 go_loopw [5] (fun s5 wr=>∃ i:Nat,s5=.int .i64 i∧i≤m∧Frm [] W0 wr∧∀ j x,j < i→r.sts[j]?=some x→decide (x.name=n)=false) (fun s5 _=>m - (intOf s5).toNat)
 case atStart=>exact⟨0,rfl,Nat.zero_le _,Frm.refl _ _,fun j x hj=>by omega⟩
 case round =>
  obtain⟨i,rfl,hi,hf,hno⟩:=hrel
  have HF:=Lib.hid hf;have HNO:=Lib.hid hno
  clear hf hno
  have cb:=HF.out.keep HB.out
  by_cases hlt:i < m
  ·have hlt':(i:Int) < (m:Int):=by omega
   obtain⟨x,hx⟩:∃ x,r.sts[i]?=some x:=⟨_,List.getElem?_eq_getElem (by rw[HN.out];exact hlt)⟩
   obtain⟨b,o,rfl,hat⟩:=HX.out i x hx
   obtain⟨c0,-,-⟩:=hat.frm (HW0.out.trans HF.out)
   have HXI:=Lib.hid hx
   clear hat hx
   cases hpx:decide (x.name=n) with
   | true =>
     have hsb:(x.name.toList == n.toList)=true:=(str_beq _ _).trans hpx
     have HPX:=Lib.hid hpx
     clear hpx
     go_wp2
     go_ret
     refine⟨?_,HW0.out.trans HF.out⟩
     have e:stIx r n=(i:Int):=ixf_some HXI.out HPX.out HNO.out
     rw[e];rfl
   | false =>
     have hsb:(x.name.toList == n.toList)=false:=(str_beq _ _).trans hpx
     have HPX:=Lib.hid hpx
     clear hpx
     go_wp2
     refine⟨⟨i + 1,by simp,hlt,HF.out,fun j y hj hy=>?_⟩,by simp[intOf];omega⟩
     by_cases e:j=i
     ·subst e;rw[HXI.out] at hy;cases hy;exact HPX.out
     ·exact HNO.out j y (by omega) hy
  ·have hge:¬ (i:Int) < (m:Int):=by omega
   go_wp2
   go_ret
   refine⟨?_,HW0.out.trans HF.out⟩
   have e:stIx r n=-1:=ixf_none fun x hx=>by
    obtain⟨j,hj⟩:=List.getElem?_of_mem hx
    exact HNO.out j x (by have:=lt_of_some hj;rw[HN.out] at this;omega) hj
   rw[e];rfl
set_option maxHeartbeats 1000000 in
theorem aCounter_any (v:Value) (r:RolD) (n:ByteArray) (w:World) (h:RlV w v r) (hl:r.ctrs.length≤1000):Calls Tryz.prog 145 #[v,.string n] w (Ret (.int .i64 (ctrIx r.ctrs n)) (Frm [] w)):=by
 obtain⟨sv,cv,tv,rfl,h3⟩:=h
 obtain⟨ao,cap,e,hx⟩:=h3.ctrs
 subst e
 have HX:=Lib.hid hx
 obtain⟨m,hm⟩:∃ m,r.ctrs.length=m:=⟨_,rfl⟩
 rw[hm] at hl
 have HN:=Lib.hid hm
 rw[hm]
 obtain⟨W0,hW0⟩:∃ W0,w.alloc (.cells #[.string r.name,sv,.slice ao m cap,tv] 53)=W0:=⟨_,rfl⟩
 have HW0:Hid (Frm [] w W0):=Lib.hid (by rw[← hW0];exact(Frm.refl _ _).alloc _)
 have HB:Hid (W0.cell? ⟨w.heap.size,2,none⟩=some (.slice ao m cap)):=Lib.hid (by rw[← hW0];exact cell_of (heap_alloc_new w _) 2)
 have HE:=Lib.hid hW0
 clear hx h3 hm hW0
 go_enter Tryz.func145,Tryz.ntmps145
 go_wp2
 rw[HE.out]
 clear HE
 go_loopw [5] (fun s5 wr=>∃ i:Nat,s5=.int .i64 i∧i≤m∧Frm [] W0 wr∧∀ j x,j < i→r.ctrs[j]?=some x→decide (x.name=n)=false) (fun s5 _=>m - (intOf s5).toNat)
 case atStart=>exact⟨0,rfl,Nat.zero_le _,Frm.refl _ _,fun j x hj=>by omega⟩
 case round =>
  obtain⟨i,rfl,hi,hf,hno⟩:=hrel
  have HF:=Lib.hid hf;have HNO:=Lib.hid hno
  clear hf hno
  have cb:=HF.out.keep HB.out
  by_cases hlt:i < m
  ·have hlt':(i:Int) < (m:Int):=by omega
   obtain⟨x,hx⟩:∃ x,r.ctrs[i]?=some x:=⟨_,List.getElem?_eq_getElem (by rw[HN.out];exact hlt)⟩
   obtain⟨b,o,rfl,hat⟩:=HX.out i x hx
   obtain⟨c0,-⟩:=hat.frm (HW0.out.trans HF.out)
   have HXI:=Lib.hid hx
   clear hat hx
   cases hpx:decide (x.name=n) with
   | true =>
     have hsb:(x.name.toList == n.toList)=true:=(str_beq _ _).trans hpx
     have HPX:=Lib.hid hpx
     clear hpx
     go_wp2
     go_ret
     refine⟨?_,HW0.out.trans HF.out⟩
     have e:ctrIx r.ctrs n=(i:Int):=ixf_some HXI.out HPX.out HNO.out
     rw[e];rfl
   | false =>
     have hsb:(x.name.toList == n.toList)=false:=(str_beq _ _).trans hpx
     have HPX:=Lib.hid hpx
     clear hpx
     go_wp2
     refine⟨⟨i + 1,by simp,hlt,HF.out,fun j y hj hy=>?_⟩,by simp[intOf];omega⟩
     by_cases e:j=i
     ·subst e;rw[HXI.out] at hy;cases hy;exact HPX.out
     ·exact HNO.out j y (by omega) hy
  ·have hge:¬ (i:Int) < (m:Int):=by omega
   go_wp2
   go_ret
   refine⟨?_,HW0.out.trans HF.out⟩
   have e:ctrIx r.ctrs n=-1:=ixf_none fun x hx=>by
    obtain⟨j,hj⟩:=List.getElem?_of_mem hx
    exact HNO.out j x (by have:=lt_of_some hj;rw[HN.out] at this;omega) hj
   rw[e];rfl
theorem casesN (c:Int):((c == 95)=false∧c < 48)∨((c == 95)=false∧48≤c∧c≤57)∨((c == 95)=false∧57 < c∧c < 65)∨((c == 95)=false∧65≤c∧c≤90)∨((c == 95)=false∧90 < c∧c < 95)∨((c == 95)=true∧95≤c∧c≤95)∨((c == 95)=false∧96≤c∧c≤96)∨((c == 95)=false∧97≤c∧c≤122)∨((c == 95)=false∧122 < c):=by
 simp only[beq_iff_eq,beq_eq_false_iff_ne]
 omega
set_option maxHeartbeats 8000000 in
set_option maxRecDepth 100000 in
theorem aName_any (s:ByteArray) (w:World):Calls Tryz.prog 98 #[.string s] w (Ret (.bool (nameB s)) (Frm [] w)):=by
 obtain⟨n,hn⟩:∃ n,s.size=n:=⟨_,rfl⟩
 have HS:Hid (s.size=n):=Lib.hid hn
 have HN:Hid (s.data.toList.length=n):=Lib.hid (by rw[← hn,Array.length_toList];rfl)
 by_cases h1:n < 1
 ·have hnm:nameB s=false:=by unfold nameB;rw[hn,decide_eq_false (by omega)];rfl
  rw[hnm]
  have h1':(s.size:Int) < 1:=by omega
  clear hnm hn h1
  go_enter Tryz.func98,Tryz.ntmps98
  go_wp2
  go_ret
  exact⟨rfl,Frm.refl _ _⟩
 by_cases h2:32 < n
 ·have hnm:nameB s=false:=by unfold nameB;rw[hn,decide_eq_false (p:=n≤32) (by omega),Bool.and_false];rfl
  rw[hnm]
  have h1':¬ (s.size:Int) < 1:=by omega
  have h2':(32:Int) < (s.size:Int):=by omega
  clear hnm hn
  go_enter Tryz.func98,Tryz.ntmps98
  go_wp2
  go_ret
  exact⟨rfl,Frm.refl _ _⟩
 have h1':¬ (s.size:Int) < 1:=by omega
 have h2':¬ (32:Int) < (s.size:Int):=by omega
 have hz:(0:Int) < (s.size:Int):=by omega
 have hz':0 < s.size:=by omega
 obtain⟨c,hc⟩:∃ c,s.data.toList[0]?=some c:=⟨_,List.getElem?_eq_getElem (by rw[HN.out];omega)⟩
 have hs0:(s[0]'hz').toNat=c.toNat:=by
  have e:s.data.toList[0]?=some (s[0]'hz'):=by
   rw[Array.getElem?_toList,Array.getElem?_eq_getElem (show 0 < s.data.size from hz')];rfl
  rw[hc] at e;cases e;rfl
 have HC0:=Lib.hid hc
 have hb:(c.toNat:Int) < 256:=by have:=c.toNat_lt;omega
 clear hc hn
 have hd:(charOk 0 c=false∧(((c.toNat:Int) == 95)=true∨(((c.toNat:Int) == 95)=false∧48≤(c.toNat:Int)∧(c.toNat:Int)≤57)))∨(((c.toNat:Int) == 95)=false∧((c.toNat:Int) < 48∨57 < (c.toNat:Int))):=by
  have hq:(((c.toNat:Int) == 95)=true∧c.toNat=95)∨(((c.toNat:Int) == 95)=false∧c.toNat≠95):=by
   simp only[beq_iff_eq,beq_eq_false_iff_ne];omega
  rcases hq with ⟨q,e⟩ | ⟨q,e⟩
  ·exact .inl ⟨charOk_no' (by omega),.inl q⟩
  ·by_cases h:48≤(c.toNat:Int)∧(c.toNat:Int)≤57
   ·exact .inl ⟨charOk_no' (by omega),.inr ⟨q,h⟩⟩
   ·exact .inr ⟨q,by omega⟩
 rcases hd with ⟨hno,hd⟩ | ⟨q1,hd⟩
 ·rw[name_no HC0.out hno]
  clear hno
  rcases hd with q1 | ⟨q1,q2,q3⟩
  all_goals
   go_enter Tryz.func98,Tryz.ntmps98
   go_wp2
   go_ret
   exact⟨rfl,Frm.refl _ _⟩
 ·have H0:Hid (¬ (c.toNat=95∨(48≤c.toNat∧c.toNat≤57))):=Lib.hid (by
   have q2:=q1
   simp only[beq_eq_false_iff_ne] at q2
   omega)
  rcases hd with hd | hd
  all_goals
   go_enter Tryz.func98,Tryz.ntmps98
   go_wp2
   clear h1' h2' hs0 q1 hd hz
   go_loopw [3,4] (fun s3 s4 wr=>∃ i:Nat,s3=.int .i64 i∧i≤n∧Frm [] w wr∧(∀ j c,j < i→s.data.toList[j]?=some c→charOk j c=true)) (fun s3 _ _=>n - (intOf s3).toNat)
   case atStart=>exact⟨0,rfl,Nat.zero_le _,Frm.refl _ _,fun j x hj=>by omega⟩
   case round =>
    obtain⟨i,rfl,hi,hf,hno⟩:=hrel
    have HF:=Lib.hid hf;have HNO:=Lib.hid hno
    clear hf hno
    by_cases hlt:i < n
    ·have hlt':(i:Int) < (s.size:Int):=by have:=HS.out;omega
     have hlt2:i < s.size:=by have:=HS.out;omega
     obtain⟨d,hd⟩:∃ d,s.data.toList[i]?=some d:=⟨_,List.getElem?_eq_getElem (by rw[HN.out];exact hlt)⟩
     have hsd:(s[i]'hlt2).toNat=d.toNat:=by
      have e:s.data.toList[i]?=some (s[i]'hlt2):=by
       rw[Array.getElem?_toList,Array.getElem?_eq_getElem (show i < s.data.size from hlt2)];rfl
      rw[hd] at e;cases e;rfl
     have HD:=Lib.hid hd
     have HZ:Hid (i=0→¬ (d.toNat=95∨(48≤d.toNat∧d.toNat≤57))):=Lib.hid (fun e=>by
      subst e
      have:=HC0.out
      rw[hd] at this;cases this
      exact H0.out)
     have hb2:(d.toNat:Int) < 256:=by have:=d.toNat_lt;omega
     clear hd
     rcases casesN (d.toNat:Int) with ⟨q1,h⟩ | ⟨q1,h,h'⟩ | ⟨q1,h,h'⟩ | ⟨q1,h,h'⟩ | ⟨q1,h,h'⟩ | ⟨q1,h,h'⟩ | ⟨q1,h,h'⟩ | ⟨q1,h,h'⟩ | ⟨q1,h⟩
     all_goals
      go_wp2
      all_goals first
       | (exfalso;simp at *;omega)
       | (go_ret
          refine⟨?_,HF.out⟩
          rw[name_no HD.out (charOk_no' (by omega))]
          rfl)
       | (refine⟨⟨i + 1,congrArg (Value.int .i64) (by omega),hlt,HF.out,fun j e hj he=>?_⟩,by simp[intOf];omega⟩
          by_cases ej:j=i
          ·subst ej
           rw[HD.out] at he;cases he
           have hz9:=HZ.out
           exact charOk_iff.2 (by omega)
          ·exact HNO.out j e (by omega) he)
    ·have hge:¬ (i:Int) < (s.size:Int):=by have:=HS.out;omega
     go_wp2
     go_ret
     refine⟨?_,HF.out⟩
     rw[name_yes (by rw[HS.out];omega) (by rw[HS.out];omega) fun j d hd=>HNO.out j d (by have:=lt_of_some hd;rw[HN.out] at this;omega) hd]
     rfl
end Go.Proofs.YtkphhjekfimmlaaGreat
namespace Go.Proofs.YtkphhjekfimmlaaGreat
open Go.RowKit Go.BigFrame
theorem guard_ways2 {r:RolD} {x:StpD} (h:x.ctr≠emptyS):(ctrIx r.ctrs x.ctr < 0∧guardB r x=false)∨∃ (p:Nat) (c:CtrD),ctrIx r.ctrs x.ctr=p∧r.ctrs[p]?=some c ∧
  ((x.low < 0∧guardB r x=false)∨(¬ x.low < 0∧x.high < x.low∧guardB r x=false)∨(¬ x.low < 0∧¬ x.high < x.low∧c.lim < x.high∧guardB r x=false)∨(¬ x.low < 0∧¬ x.high < x.low∧¬ c.lim < x.high∧x.add < -1000∧guardB r x=false) ∨
   (¬ x.low < 0∧¬ x.high < x.low∧¬ c.lim < x.high∧¬ x.add < -1000∧1000 < x.add∧guardB r x=false) ∨
   (¬ x.low < 0∧¬ x.high < x.low∧¬ c.lim < x.high∧¬ x.add < -1000∧¬ 1000 < x.add∧((¬ 0≤x.low + x.add∧guardB r x=false)∨(0≤x.low + x.add∧guardB r x=decide (x.high + x.add≤c.lim))))):=by
 have hs:=find_ixf (p:=fun c:CtrD=>decide (c.name=x.ctr)) (l:=r.ctrs)
 unfold guardB
 rw[if_neg h]
 cases hf:r.ctrs.find? (fun c=>decide (c.name=x.ctr)) with
 | none =>
   rw[hf] at hs
   left
   simp only at hs
   refine⟨?_,rfl⟩
   show ixf _ _ < 0
   omega
 | some c =>
   rw[hf] at hs
   obtain⟨p,h1,h2,-⟩:=hs
   right
   refine⟨p,c,h1,h2,?_⟩
   by_cases a1:x.low < 0
   ·left;exact⟨a1,by simp;omega⟩
   by_cases a2:x.high < x.low
   ·right;left;exact⟨a1,a2,by simp;omega⟩
   by_cases a3:c.lim < x.high
   ·right;right;left;exact⟨a1,a2,a3,by simp;omega⟩
   by_cases a4:x.add < -1000
   ·right;right;right;left;exact⟨a1,a2,a3,a4,by simp;omega⟩
   by_cases a5:1000 < x.add
   ·right;right;right;right;left;exact⟨a1,a2,a3,a4,a5,by simp;omega⟩
   right;right;right;right;right
   refine⟨a1,a2,a3,a4,a5,?_⟩
   by_cases a6:0≤x.low + x.add
   ·right
    refine⟨a6,?_⟩
    simp only
    rw[decide_eq_true (p:=0≤x.low) (by omega),decide_eq_true (p:=x.low≤x.high) (by omega),decide_eq_true (p:=-1000≤x.add) (by omega),decide_eq_true (p:=x.add≤1000) (by omega),decide_eq_true (p:=x.high≤c.lim) (by omega),decide_eq_true a6]
    simp
   ·left;exact⟨a6,by simp;omega⟩
set_option maxHeartbeats 4000000 in
set_option maxRecDepth 100000 in
theorem aGuarded_any (v:Value) (r:RolD) (x:StpD) (w:World) (h:RlV w v r) (hl:r.ctrs.length≤100) (hlim:∀ c∈r.ctrs,1≤c.lim∧c.lim≤1000) :
  Calls Tryz.prog 169 #[v,stpV x] w (Ret (.bool (guardB r x)) (Frm [] w)):=by
 obtain⟨sv,cv,tv,rfl,h3⟩:=h
 obtain⟨ac,cc,ec,hcc⟩:=h3.ctrs
 subst ec
 have HCC:=Lib.hid hcc;have HLM:=Lib.hid hlim
 obtain⟨nc,hnc⟩:∃ nc,r.ctrs.length=nc:=⟨_,rfl⟩
 have HNC:=Lib.hid hnc
 rw[hnc] at h3
 rw[hnc]
 obtain⟨X,hX⟩:∃ X,(w.alloc (.cells #[.string r.name,sv,.slice ac nc cc,tv] 53)).alloc (.cells #[.string x.frm,.string x.to,.int .i64 x.kind,.string x.msg,.string x.peer,.string x.ctr,.int .i64 x.low,.int .i64 x.high,.int .i64 x.add] 60)=X:=⟨_,rfl⟩
 have HF:Hid (Frm [] w X):=Lib.hid (by rw[← hX];exact((Frm.refl _ _).alloc _).alloc _)
 have HBR:Hid (X.heap[w.heap.size]?=some (.cells #[.string r.name,sv,.slice ac nc cc,tv] 53 (0,0))):=Lib.hid (by rw[← hX];exact alloc_at (heap_alloc_new _ _))
 have HBT:Hid (X.heap[w.heap.size + 1]?=some (.cells #[.string x.frm,.string x.to,.int .i64 x.kind,.string x.msg,.string x.peer,.string x.ctr,.int .i64 x.low,.int .i64 x.high,.int .i64 x.add] 60 (0,0))):=Lib.hid (by rw[← hX];exact alloc_top (by simp))
 have HU:Hid (∀ V,Frm [] X V→V.cell? ⟨w.heap.size,2,none⟩=some (.slice ac nc cc)∧V.cell? ⟨w.heap.size + 1,5,none⟩=some (.string x.ctr)∧V.cell? ⟨w.heap.size + 1,6,none⟩=some (.int .i64 x.low)∧V.cell? ⟨w.heap.size + 1,7,none⟩=some (.int .i64 x.high)∧V.cell? ⟨w.heap.size + 1,8,none⟩=some (.int .i64 x.add)):=Lib.hid fun V hV =>
  ⟨hV.keep (cell_of HBR.out 2),hV.keep (cell_of HBT.out 5),hV.keep (cell_of HBT.out 6),hV.keep (cell_of HBT.out 7),hV.keep (cell_of HBT.out 8)⟩
 have CA:Hid (∀ V,Frm [] w V→Calls Tryz.prog 145 #[.agg #[.string r.name,sv,.slice ac nc cc,tv],.string x.ctr] V (Ret (.int .i64 (ctrIx r.ctrs x.ctr)) (Frm [] V))):=Lib.hid fun V hV=>aCounter_any _ r x.ctr V ⟨_,_,_,rfl,h3.frm hV⟩ (by omega)
 have HE:=Lib.hid hX
 clear h3 hcc hlim hnc hl hX
 obtain⟨t2,t5,t6,t7,t8⟩:=HU.out X (Frm.refl _ _)
 by_cases he:x.ctr=emptyS
 ·have hemp:x.ctr.toList.isEmpty=true:=emp_yes he
  have HRR:Hid (guardB r x=(decide (x.low=0) && decide (x.high=0) && decide (x.add=0))):=Lib.hid (guard_none he)
  clear he CA
  by_cases l0:x.low=0
  ·have q0:(x.low == 0)=true:=by simpa using l0
   by_cases l1:x.high=0
   ·have q1:(x.high == 0)=true:=by simpa using l1
    have HRR:Hid (guardB r x=(x.add == 0)):=Lib.hid (by rw[HRR.out,decide_eq_true l0,decide_eq_true l1,Bool.true_and,Bool.true_and];by_cases h:x.add=0 <;> simp[h])
    clear l0 l1
    go_enter Tryz.func169,Tryz.ntmps169
    go_wp2_with (first | (rw[HE.out]))
    go_ret
    exact⟨by rw[HRR.out];rfl,HF.out⟩
   ·have q1:(x.high == 0)=false:=by simpa using l1
    have HRR:Hid (guardB r x=false):=Lib.hid (by rw[HRR.out,decide_eq_false l1];simp)
    clear l0 l1
    go_enter Tryz.func169,Tryz.ntmps169
    go_wp2_with (first | (rw[HE.out]))
    go_ret
    exact⟨by rw[HRR.out];rfl,HF.out⟩
  ·have q0:(x.low == 0)=false:=by simpa using l0
   have HRR:Hid (guardB r x=false):=Lib.hid (by rw[HRR.out,decide_eq_false l0];simp)
   clear l0
   go_enter Tryz.func169,Tryz.ntmps169
   go_wp2_with (first | (rw[HE.out]))
   go_ret
   exact⟨by rw[HRR.out];rfl,HF.out⟩
 ·have hemp:x.ctr.toList.isEmpty=false:=emp_no he
  have HW:=Lib.hid (guard_ways2 (r:=r) he)
  obtain⟨q3,hq3⟩:∃ q,ctrIx r.ctrs x.ctr=q:=⟨_,rfl⟩
  rw[hq3] at CA HW
  clear he hq3
  go_enter Tryz.func169,Tryz.ntmps169
  go_upto_region 1 with fail
  rw[HE.out]
  go_upto_region 4 with (first
   | (refine wpList_load_whole rfl 53 _ rfl _ rfl _ 53 HBR.out _ Tryz.underlying53 rfl (by kernel_rfl) ?_)
   | (go_at_call 145;go_must (refine(CA.out _ HF.out).mono ?_;rintro e w1 ⟨rfl,hf1⟩;have HF1:=Lib.hid hf1;clear hf1)))
  clear t2 t5 t6 t7 t8
  rcases HW.out with ⟨h1,h2⟩ | ⟨p,c,h1,h2,h3⟩
  ·replace h2:=Lib.hid h2
   clear HW
   refine wp_region_cq (by kernel_rfl) (by kernel_rfl) ?_
   repeat (first
    | go_big_quiet_skip
    | (refine wpQuiet_want (by rfl) (fun K hK=>?_)
       first
        | (refine quiet_move _ (by rfl) (hK _ ?_))
        | (refine quiet_assign _ (by rfl) (hK _ ?_))
        | (apply Exists.intro
           refine⟨fun w' hC=>?_,hK _ ?_⟩
           ·(unfold Oper.quietAt
             obtain⟨t2,t5,t6,t7,t8⟩:=HU.out w' (HF1.out.trans hC)
             clear hC
             go_simp
             try exact⟨rfl,rfl⟩
             try rfl))
       clear hK K
       try simp only[nrm,Act.eval,nrq]))
   refine wpQuiet_nil ?_
   intro w2 hf2
   go_wp2
   go_ret
   exact⟨by rw[h2.out];rfl,HF.out.trans (HF1.out.trans hf2)⟩
  ·subst h1
   have hq0:¬ (p:Int) < 0:=by omega
   have hpn:(p:Int) < (nc:Int):=by have:=lt_of_some h2;have:=HNC.out;omega
   have hcl:=HLM.out c (List.mem_of_getElem? h2)
   obtain⟨b7,o7,rfl,hat⟩:=HCC.out p c h2
   have HAT:=Lib.hid hat
   clear hat h2 HW
   rcases h3 with ⟨g1,g2⟩ | ⟨g1,g3,g2⟩ | ⟨g1,g3,g4,g2⟩ | ⟨g1,g3,g4,g5,g2⟩ | ⟨g1,g3,g4,g5,g6,g2⟩ | ⟨g1,g3,g4,g5,g6,g7⟩
   iterate 5
    focus
     replace g2:=Lib.hid g2
     try have m1:decide (x.low < 0)=false:=decide_eq_false (by omega)
     try have m3:decide (x.high < x.low)=false:=decide_eq_false (by omega)
     try have m4:decide (c.lim < x.high)=false:=decide_eq_false (by omega)
     try have m5:decide (x.add < -1000)=false:=decide_eq_false (by omega)
     refine wp_region_cq (by kernel_rfl) (by kernel_rfl) ?_
     repeat (first
      | go_big_quiet_skip
      | (refine wpQuiet_want (by rfl) (fun K hK=>?_)
         first
          | (refine quiet_move _ (by rfl) (hK _ ?_))
          | (refine quiet_assign _ (by rfl) (hK _ ?_))
          | (apply Exists.intro
             refine⟨fun w' hC=>?_,hK _ ?_⟩
             ·(unfold Oper.quietAt
               obtain⟨t2,t5,t6,t7,t8⟩:=HU.out w' (HF1.out.trans hC);obtain⟨k0,k1⟩:=HAT.out.frm (HF.out.trans (HF1.out.trans hC))
               clear hC
               go_simp
               try exact⟨rfl,rfl⟩
               try rfl))
         clear hK K
         try simp only[nrm,Act.eval,nrq]))
     refine wpQuiet_nil ?_
     intro w2 hf2
     go_wp2
     go_ret
     exact⟨by rw[g2.out];rfl,HF.out.trans (HF1.out.trans hf2)⟩
   ·have m1:decide (x.low < 0)=false:=decide_eq_false (by omega)
    have m3:decide (x.high < x.low)=false:=decide_eq_false (by omega)
    have m4:decide (c.lim < x.high)=false:=decide_eq_false (by omega)
    have m5:decide (x.add < -1000)=false:=decide_eq_false (by omega)
    have m6:decide (1000 < x.add)=false:=decide_eq_false (by omega)
    have hw1:wrap64 (x.low + x.add)=x.low + x.add:=by unfold wrap64;omega
    have hw2:wrap64 (x.high + x.add)=x.high + x.add:=by unfold wrap64;omega
    have hw3:IntKind.i64.wrap (x.low + x.add)=x.low + x.add:=by simp[IntKind.wrap,show IntKind.i64.bits=64 from rfl,show IntKind.i64.signed=true from rfl];omega
    have hw4:IntKind.i64.wrap (x.high + x.add)=x.high + x.add:=by simp[IntKind.wrap,show IntKind.i64.bits=64 from rfl,show IntKind.i64.signed=true from rfl];omega
    refine wp_region_cq (by kernel_rfl) (by kernel_rfl) ?_
    repeat (first
     | go_big_quiet_skip
     | (refine wpQuiet_want (by rfl) (fun K hK=>?_)
        first
         | (refine quiet_move _ (by rfl) (hK _ ?_))
         | (refine quiet_assign _ (by rfl) (hK _ ?_))
         | (apply Exists.intro
            refine⟨fun w' hC=>?_,hK _ ?_⟩
            ·(unfold Oper.quietAt
              obtain⟨t2,t5,t6,t7,t8⟩:=HU.out w' (HF1.out.trans hC);obtain⟨k0,k1⟩:=HAT.out.frm (HF.out.trans (HF1.out.trans hC))
              clear hC
              go_simp
              try exact⟨rfl,rfl⟩
              try rfl))
        clear hK K
        try simp only[nrm,Act.eval,nrq]))
    refine wpQuiet_nil ?_
    intro w2 hf2
    have HF2:=Lib.hid (HF1.out.trans hf2)
    clear hf2
    rcases g7 with ⟨g7,g2⟩ | ⟨g7,g2⟩
    all_goals replace g2:=Lib.hid g2
    ·try have m7:decide (0≤x.low + x.add)=false:=decide_eq_false (by omega)
     go_upto_region 6 with fail
     refine wp_region_cq (by kernel_rfl) (by kernel_rfl) ?_
     repeat (first
      | go_big_quiet_skip
      | (refine wpQuiet_want (by rfl) (fun K hK=>?_)
         first
          | (refine quiet_move _ (by rfl) (hK _ ?_))
          | (refine quiet_assign _ (by rfl) (hK _ ?_))
          | (apply Exists.intro
             refine⟨fun w' hC=>?_,hK _ ?_⟩
             ·(unfold Oper.quietAt
               obtain⟨t2,t5,t6,t7,t8⟩:=HU.out w' (HF2.out.trans hC);obtain⟨k0,k1⟩:=HAT.out.frm (HF.out.trans (HF2.out.trans hC))
               clear hC
               go_simp
               try exact⟨rfl,rfl⟩
               try rfl))
         clear hK K
         try simp only[nrm,Act.eval,nrq]))
     refine wpQuiet_nil ?_
     intro w3 hf3
     go_wp2
     go_ret
     exact⟨by rw[g2.out];rfl,HF.out.trans (HF2.out.trans hf3)⟩
    ·try have m7:decide (0≤x.low + x.add)=false:=decide_eq_false (by omega)
     go_upto_region 6 with fail
     refine wp_region_cq (by kernel_rfl) (by kernel_rfl) ?_
     repeat (first
      | go_big_quiet_skip
      | (refine wpQuiet_want (by rfl) (fun K hK=>?_)
         first
          | (refine quiet_move _ (by rfl) (hK _ ?_))
          | (refine quiet_assign _ (by rfl) (hK _ ?_))
          | (apply Exists.intro
             refine⟨fun w' hC=>?_,hK _ ?_⟩
             ·(unfold Oper.quietAt
               obtain⟨t2,t5,t6,t7,t8⟩:=HU.out w' (HF2.out.trans hC);obtain⟨k0,k1⟩:=HAT.out.frm (HF.out.trans (HF2.out.trans hC))
               clear hC
               go_simp
               try exact⟨rfl,rfl⟩
               try rfl))
         clear hK K
         try simp only[nrm,Act.eval,nrq]))
     refine wpQuiet_nil ?_
     intro w3 hf3
     go_wp2
     go_ret
     exact⟨by rw[g2.out];rfl,HF.out.trans (HF2.out.trans hf3)⟩
end Go.Proofs.YtkphhjekfimmlaaGreat
namespace Go.Proofs.YtkphhjekfimmlaaGreat
open Go.RowKit Go.BigFrame
theorem aAlw_split (r:RolD) (n:Nat) (x:StpD):(stIx r x.frm < 0∧stepB r n x=false) ∨
  ∃ (p:Nat) (f:StD),stIx r x.frm=p∧r.sts[p]?=some f ∧
    ((stIx r x.to < 0∧stepB r n x=false)∨(¬ stIx r x.to < 0∧guardB r x=false∧stepB r n x=false) ∨
     (¬ stIx r x.to < 0∧guardB r x=true∧(x∈r.steps.take n→stepB r n x=false)∧(¬ x∈r.steps.take n→stepB r n x=kindB r x f))):=by
 have hs:=find_ixf (p:=fun s:StD=>decide (s.name=x.frm)) (l:=r.sts)
 unfold stepB
 cases hf:r.sts.find? (fun s=>decide (s.name=x.frm)) with
 | none =>
   rw[hf] at hs
   left
   refine⟨?_,rfl⟩
   show ixf _ _ < 0
   simp only at hs
   omega
 | some f =>
   rw[hf] at hs
   obtain⟨p,h1,h2,-⟩:=hs
   right
   refine⟨p,f,h1,h2,?_⟩
   simp only
   have hcon:(r.steps.take n).contains x=decide (x∈r.steps.take n):=by
    rw[Bool.eq_iff_iff,List.contains_iff_mem,decide_eq_true_eq]
   rw[hcon]
   by_cases ht:stIx r x.to < 0
   ·left;exact⟨ht,by rw[decide_eq_false (p:=0≤stIx r x.to) (by omega)];simp⟩
   ·right
    rw[decide_eq_true (p:=0≤stIx r x.to) (by omega)]
    cases hg:guardB r x with
    | false=>left;exact⟨ht,rfl,by simp⟩
    | true =>
      right
      refine⟨ht,rfl,fun h=>?_,fun h=>?_⟩
      ·rw[decide_eq_true h];simp
      ·rw[decide_eq_false h];simp
theorem kind_ways (r:RolD) (x:StpD) (f:StD) :
  ((x.kind=1∨x.kind≠1∧x.kind=2)∧((nameB x.msg=false∧kindB r x f=false)∨(nameB x.msg=true∧nameB x.peer=false∧kindB r x f=false)∨(nameB x.msg=true∧nameB x.peer=true∧kindB r x f=!decide (x.peer=r.name)))) ∨
  (x.kind≠1∧x.kind≠2∧x.kind=3∧((x.msg≠emptyS∧kindB r x f=false)∨(x.msg=emptyS∧x.peer≠emptyS∧kindB r x f=false)∨(x.msg=emptyS∧x.peer=emptyS∧kindB r x f=decide (0 < f.wait)))) ∨
  (x.kind≠1∧x.kind≠2∧x.kind≠3∧x.kind=4∧((x.msg≠emptyS∧kindB r x f=false)∨(x.msg=emptyS∧kindB r x f=decide (x.peer=emptyS)))) ∨
  (x.kind≠1∧x.kind≠2∧x.kind≠3∧x.kind≠4∧kindB r x f=false):=by
 unfold kindB
 by_cases h12:x.kind=1∨x.kind=2
 ·left
  refine⟨by omega,?_⟩
  rw[if_pos h12]
  cases nameB x.msg <;> cases nameB x.peer <;> simp
 ·right
  rw[if_neg h12]
  by_cases h3:x.kind=3
  ·left
   refine⟨by omega,by omega,h3,?_⟩
   rw[if_pos h3]
   by_cases m:x.msg=emptyS
   ·right
    rw[decide_eq_true m]
    by_cases p:x.peer=emptyS
    ·right;rw[decide_eq_true p];exact⟨m,p,by simp⟩
    ·left;rw[decide_eq_false p];exact⟨m,p,by simp⟩
   ·left;rw[decide_eq_false m];exact⟨m,by simp⟩
  ·right
   rw[if_neg h3]
   by_cases h4:x.kind=4
   ·left
    refine⟨by omega,by omega,h3,h4,?_⟩
    rw[if_pos h4]
    by_cases m:x.msg=emptyS
    ·right;rw[decide_eq_true m];exact⟨m,by simp⟩
    ·left;rw[decide_eq_false m];exact⟨m,by simp⟩
   ·right
    rw[if_neg h4]
    exact⟨by omega,by omega,h3,h4,rfl⟩
structure AaV (w:World) (rb tb:Nat) (sv cv tv:Value) (r:RolD) (x:StpD) (W:World):Prop where
 r:RBox W rb sv cv tv r
 t:W.heap[tb]?=some (.cells (encT x) 60 (0,0))
 fr:Frm [] w W
set_option maxHeartbeats 4000000 in
set_option maxRecDepth 100000 in
theorem aAllowed_12 (v:Value) (r:RolD) (n:Nat) (x:StpD) (w:World) (h:RlV w v r) (hx:r.steps[n]?=some x) (hl:r.steps.length≤100∧r.sts.length≤100∧r.ctrs.length≤100) (hlim:∀ c∈r.ctrs,1≤c.lim∧c.lim≤1000) (hkc:x.kind=1∨x.kind=2) :
  Calls Tryz.prog 147 #[v,.int .i64 n] w (Ret (.bool (stepB r n x)) (Frm [] w)):=by
 obtain⟨sv,cv,tv,rfl,h3⟩:=h
 obtain⟨ao,cap,e,hxs⟩:=h3.steps
 subst e
 obtain⟨b,o,rfl,hat⟩:=hxs n x hx
 obtain⟨c0,c1,c2,c3,c4,c5,c6,c7,c8⟩:=hat
 have HXS:=Lib.hid hxs
 have hblt:=cell_lt c0
 have hn100:n < 100:=by have:=lt_of_some hx;omega
 have hnl:(n:Int) < (r.steps.length:Int):=by have:=lt_of_some hx;omega
 obtain⟨m,hm⟩:∃ m,r.steps.length=m:=⟨_,rfl⟩
 rw[hm] at hnl
 have HM:=Lib.hid hm
 obtain⟨aS,cs,es,hss⟩:=h3.sts
 obtain⟨ac,cc,ec,hcc⟩:=h3.ctrs
 subst es
 subst ec
 have HSS:=Lib.hid hss
 obtain⟨ns,hns⟩:∃ ns,r.sts.length=ns:=⟨_,rfl⟩
 obtain⟨nc,hnc⟩:∃ nc,r.ctrs.length=nc:=⟨_,rfl⟩
 have HNS:=Lib.hid hns;have HNC:=Lib.hid hnc
 rw[hm,hns,hnc] at h3
 rw[hm,hns,hnc]
 clear hss hcc hns hnc hxs
 obtain⟨X,hX⟩:∃ X,(w.alloc (.cells #[.string r.name,.slice aS ns cs,.slice ac nc cc,.slice (some ⟨b,o,none⟩) m cap] 53)).alloc (.cells #[.string x.frm,.string x.to,.int .i64 x.kind,.string x.msg,.string x.peer,.string x.ctr,.int .i64 x.low,.int .i64 x.high,.int .i64 x.add] 60)=X:=⟨_,rfl⟩
 have HA:Hid (AaV w w.heap.size (w.heap.size + 1) (.slice aS ns cs) (.slice ac nc cc) (.slice (some ⟨b,o,none⟩) m cap) r x X):=Lib.hid (by
  have hf:Frm [] w X:=by rw[← hX];exact((Frm.refl _ _).alloc _).alloc _
  exact⟨⟨by rw[← hX];exact alloc_at (heap_alloc_new w _),h3.frm hf⟩,by rw[← hX];exact alloc_top (by simp),hf⟩)
 have HE:=Lib.hid hX
 have HU:Hid (∀ V,Frm [] X V→(V.cell? ⟨w.heap.size,0,none⟩=some (.string r.name)∧V.cell? ⟨w.heap.size,1,none⟩=some (.slice aS ns cs)∧V.cell? ⟨w.heap.size,2,none⟩=some (.slice ac nc cc)∧V.cell? ⟨w.heap.size,3,none⟩=some (.slice (some ⟨b,o,none⟩) m cap)) ∧
   (V.cell? ⟨w.heap.size + 1,0,none⟩=some (.string x.frm)∧V.cell? ⟨w.heap.size + 1,1,none⟩=some (.string x.to)∧V.cell? ⟨w.heap.size + 1,2,none⟩=some (.int .i64 x.kind)∧V.cell? ⟨w.heap.size + 1,3,none⟩=some (.string x.msg)∧V.cell? ⟨w.heap.size + 1,4,none⟩=some (.string x.peer) ∧
    V.cell? ⟨w.heap.size + 1,5,none⟩=some (.string x.ctr)∧V.cell? ⟨w.heap.size + 1,6,none⟩=some (.int .i64 x.low)∧V.cell? ⟨w.heap.size + 1,7,none⟩=some (.int .i64 x.high)∧V.cell? ⟨w.heap.size + 1,8,none⟩=some (.int .i64 x.add))):=Lib.hid fun V hV=>by
  have ht:=hV.at HA.out.t (by simp)
  exact⟨(HA.out.r.frm hV).cells,cell_of ht 0,cell_of ht 1,cell_of ht 2,cell_of ht 3,cell_of ht 4,cell_of ht 5,cell_of ht 6,cell_of ht 7,cell_of ht 8⟩
 have CS:Hid (∀ V nm,Frm [] X V→Calls Tryz.prog 146 #[.agg #[.string r.name,.slice aS ns cs,.slice ac nc cc,.slice (some ⟨b,o,none⟩) m cap],.string nm] V (Ret (.int .i64 (stIx r nm)) (Frm [] V))):=Lib.hid fun V nm hV=>aState_any _ r nm V (HA.out.r.frm hV).val (by omega)
 have CG:Hid (∀ V,Frm [] X V→Calls Tryz.prog 169 #[.agg #[.string r.name,.slice aS ns cs,.slice ac nc cc,.slice (some ⟨b,o,none⟩) m cap],stpV x] V (Ret (.bool (guardB r x)) (Frm [] V))):=Lib.hid fun V hV=>aGuarded_any _ r x V (HA.out.r.frm hV).val (by omega) hlim
 have CF:=Lib.hid (CS.out · x.frm)
 have CT:=Lib.hid (CS.out · x.to)
 obtain⟨q1,hq1⟩:∃ q1,stIx r x.frm=q1:=⟨_,rfl⟩
 obtain⟨q2,hq2⟩:∃ q2,stIx r x.to=q2:=⟨_,rfl⟩
 obtain⟨q3,hq3⟩:∃ q3,guardB r x=q3:=⟨_,rfl⟩
 have HSP:=Lib.hid (aAlw_split r n x)
 rw[hq1,hq2,hq3] at HSP
 rw[hq1] at CF;rw[hq2] at CT;rw[hq3] at CG
 obtain⟨res,hres⟩:∃ b,stepB r n x=b:=⟨_,rfl⟩
 rw[hres] at HSP ⊢
 have HX:=Lib.hid hx
 have HKC:=Lib.hid hkc
 have HLR:=Lib.hid (HA.out.r.frm (Frm.refl _ _)).cells
 clear hkc h3 hm hX hx hl hlim hq1 hq2 hq3 CS hres HLR
 have HRB:Hid (∀ V,Frm [] X V→V.heap[w.heap.size]?=some (.cells #[.string r.name,.slice aS ns cs,.slice ac nc cc,.slice (some ⟨b,o,none⟩) m cap] 53 (0,0))):=Lib.hid fun V hV=>hV.at HA.out.r.hb (by simp)
 have HTB:Hid (∀ V,Frm [] X V→V.heap[w.heap.size + 1]?=some (.cells #[.string x.frm,.string x.to,.int .i64 x.kind,.string x.msg,.string x.peer,.string x.ctr,.int .i64 x.low,.int .i64 x.high,.int .i64 x.add] 60 (0,0))):=Lib.hid fun V hV=>hV.at HA.out.t (by simp)
 go_enter Tryz.func147,Tryz.ntmps147
 go_upto_region 2 with fail
 rw[HE.out]
 clear HE c0 c1 c2 c3 c4 c5 c6 c7 c8 hblt
 obtain⟨⟨e0,e1,e2,e3⟩,t0,t1,t2,t3,t4,t5,t6,t7,t8⟩:=HU.out X (Frm.refl _ _)
 go_upto_region 3 with (first
  | (refine wpList_load_whole rfl 53 _ rfl _ rfl _ 53 (HRB.out _ (Frm.refl _ _)) _ Tryz.underlying53 rfl (by kernel_rfl) ?_)
  | (go_at_call 146;go_must (refine(CF.out _ (Frm.refl _ _)).mono ?_;rintro e w1 ⟨rfl,hf1⟩;have HF1:=Lib.hid hf1;clear hf1 e0 e1 e2 e3 t0 t1 t2 t3 t4 t5 t6 t7 t8 CF;obtain⟨⟨e0,e1,e2,e3⟩,t0,t1,t2,t3,t4,t5,t6,t7,t8⟩:=HU.out w1 HF1.out)))
 rcases HSP.out with ⟨h1,h2⟩ | ⟨p,f,hp,hf,hrest⟩
 ·have HR:=Lib.hid h2
  clear h2 HSP
  go_wp2
  go_ret
  exact⟨by rw[HR.out];rfl,HA.out.fr.trans HF1.out⟩
 subst hp
 have hp0:¬ (p:Int) < 0:=by omega
 have hpl:(p:Int) < (ns:Int):=by have:=lt_of_some hf;have:=HNS.out;omega
 obtain⟨b5,o5,rfl,g0,g1,g2⟩:=HA.out.r.h3.sts.get hf
 have HG:Hid (∀ V,Frm [] X V→V.cell? ⟨b5,o5 + p * 3 + 2,none⟩=some (.int .i64 f.wait)):=Lib.hid fun V hV=>hV.keep g2
 clear hf HSP g0 g1 g2
 have hd0:decide ((p:Int) < 0)=false:=decide_eq_false hp0
 rcases hrest with ⟨h1,h2⟩ | ⟨h1,h2,h3⟩ | ⟨h1,h2,h3,h4⟩
 ·have HR:=Lib.hid h2
  clear h2
  go_wp2_with (first
   | (refine wpList_load_whole rfl 53 _ rfl _ rfl _ 53 (HRB.out _ HF1.out) _ Tryz.underlying53 rfl (by kernel_rfl) ?_)
   | (go_at_call 146;go_must (refine(CT.out _ HF1.out).mono ?_;rintro e w2 ⟨rfl,hf2⟩;have HF2:=Lib.hid (HF1.out.trans hf2);clear hf2)))
  go_ret
  exact⟨by rw[HR.out];rfl,HA.out.fr.trans HF2.out⟩
 ·have HR:=Lib.hid h3
  have hd1:decide (q2 < 0)=false:=decide_eq_false (by omega)
  subst h2
  clear h3
  go_wp2_with (first
   | (refine wpList_load_whole rfl 53 _ rfl _ rfl _ 53 (HRB.out _ HF1.out) _ Tryz.underlying53 rfl (by kernel_rfl) ?_)
   | (refine wpList_load_whole rfl 53 _ rfl _ rfl _ 53 (HRB.out _ HF2.out) _ Tryz.underlying53 rfl (by kernel_rfl) ?_)
   | (refine wpList_load_whole rfl 60 _ rfl _ rfl _ 60 (HTB.out _ HF2.out) _ Tryz.underlying60 rfl (by kernel_rfl) ?_)
   | (go_at_call 146;go_must (refine(CT.out _ HF1.out).mono ?_;rintro e w2 ⟨rfl,hf2⟩;have HF2:=Lib.hid (HF1.out.trans hf2);clear hf2 e0 e1 e2 e3 t0 t1 t2 t3 t4 t5 t6 t7 t8;obtain⟨⟨e0,e1,e2,e3⟩,t0,t1,t2,t3,t4,t5,t6,t7,t8⟩:=HU.out w2 HF2.out))
   | (go_at_call 169;go_must (refine(CG.out _ HF2.out).mono ?_;rintro e w3 ⟨rfl,hf3⟩;have HF3:=Lib.hid (HF2.out.trans hf3);clear hf3)))
  go_ret
  exact⟨by rw[HR.out];rfl,HA.out.fr.trans HF3.out⟩
 ·have hd1:decide (q2 < 0)=false:=decide_eq_false (by omega)
  have HIN:=Lib.hid h3;have HOUT:=Lib.hid h4
  subst h2
  clear h3 h4
  go_wp2_with (first
   | (refine wpList_load_whole rfl 53 _ rfl _ rfl _ 53 (HRB.out _ HF1.out) _ Tryz.underlying53 rfl (by kernel_rfl) ?_)
   | (refine wpList_load_whole rfl 53 _ rfl _ rfl _ 53 (HRB.out _ HF2.out) _ Tryz.underlying53 rfl (by kernel_rfl) ?_)
   | (refine wpList_load_whole rfl 60 _ rfl _ rfl _ 60 (HTB.out _ HF2.out) _ Tryz.underlying60 rfl (by kernel_rfl) ?_)
   | (go_at_call 146;go_must (refine(CT.out _ HF1.out).mono ?_;rintro e w2 ⟨rfl,hf2⟩;have HF2:=Lib.hid (HF1.out.trans hf2);clear hf2 e0 e1 e2 e3 t0 t1 t2 t3 t4 t5 t6 t7 t8;obtain⟨⟨e0,e1,e2,e3⟩,t0,t1,t2,t3,t4,t5,t6,t7,t8⟩:=HU.out w2 HF2.out))
   | (go_at_call 169;go_must (refine(CG.out _ HF2.out).mono ?_;rintro e w3 ⟨rfl,hf3⟩;have HF3:=Lib.hid (HF2.out.trans hf3);clear hf3)))
  clear CT CG e0 e1 e2 e3 t0 t1 t2 t3 t4 t5 t6 t7 t8
  go_loopw [7] (fun s7 wr=>∃ i:Nat,s7=.int .i64 i∧i≤n∧Frm [] X wr∧∀ j y,j < i→r.steps[j]?=some y→decide (y=x)=false) (fun s7 _=>n - (intOf s7).toNat)
  case atStart=>exact⟨0,rfl,Nat.zero_le _,HF3.out,fun j y hj=>by omega⟩
  case round =>
   clear HF1 HF2 HF3
   obtain⟨i,rfl,hi,hf,hno⟩:=hrel
   have HF:=Lib.hid hf;have HNO:=Lib.hid hno
   clear hf hno
   obtain⟨⟨e0,e1,e2,e3⟩,t0,t1,t2,t3,t4,t5,t6,t7,t8⟩:=HU.out wr HF.out
   by_cases hlt:i < n
   ·have hlt':(i:Int) < (n:Int):=by omega
    have hlm:(i:Int) < (m:Int):=by omega
    obtain⟨y,hy⟩:∃ y,r.steps[i]?=some y:=⟨_,List.getElem?_eq_getElem (by rw[HM.out];omega)⟩
    obtain⟨b',o',eb,hat⟩:=HXS.out i y hy
    cases eb
    obtain⟨c0,c1,c2,c3,c4,c5,c6,c7,c8⟩:=hat.frm (HA.out.fr.trans HF.out)
    have hq:∀ V,(binOp .eql 60 (.agg #[.string y.frm,.string y.to,.int .i64 y.kind,.string y.msg,.string y.peer,.string y.ctr,.int .i64 y.low,.int .i64 y.high,.int .i64 y.add]) (.agg #[.string x.frm,.string x.to,.int .i64 x.kind,.string x.msg,.string x.peer,.string x.ctr,.int .i64 x.low,.int .i64 x.high,.int .i64 x.add])).run Tryz.prog V=.ok (.bool (decide (y=x))) V:=fun V=>eql_step y x V
    have HY:=Lib.hid hy
    clear hat hy
    cases hpx:decide (y=x) with
    | true =>
      rw[hpx] at hq
      have HR:=Lib.hid (HIN.out (by
       rw[decide_eq_true_eq] at hpx
       rw[← hpx]
       refine List.mem_of_getElem? (i:=i) ?_
       rw[List.getElem?_take,if_pos hlt];exact HY.out))
      clear hpx
      go_wp2
      go_quiet (fail)
      go_wp2
      go_ret
      exact⟨by rw[HR.out];rfl,HA.out.fr.trans (HF.out.drewN _)⟩
    | false =>
      rw[hpx] at hq
      have HPX:=Lib.hid hpx
      clear hpx
      go_wp2
      go_quiet (fail)
      go_wp2
      refine⟨⟨i + 1,congrArg (Value.int .i64) (by omega),hlt,HF.out.drewN _,fun j z hj hz=>?_⟩,by simp[intOf];omega⟩
      by_cases e:j=i
      ·subst e;rw[HY.out] at hz;cases hz;exact HPX.out
      ·exact HNO.out j z (by omega) hz
   ·have hge:¬ (i:Int) < (n:Int):=by omega
    have HRK:=Lib.hid (HOUT.out fun hmem=>by
     obtain⟨j,hj⟩:=List.getElem?_of_mem hmem
     rw[List.getElem?_take] at hj
     split at hj
     ·have:=HNO.out j x (by omega) hj
      simp at this
     ·cases hj)
    have hg:=HG.out wr HF.out
    have CN:Hid (∀ V s,Calls Tryz.prog 98 #[.string s] V (Ret (.bool (nameB s)) (Frm [] V))):=Lib.hid fun V s=>aName_any s V
    have CM:=Lib.hid (CN.out · x.msg)
    have CP:=Lib.hid (CN.out · x.peer)
    have HKW:=Lib.hid (kind_ways r x f)
    clear HIN HOUT HNO CN hi
    rcases HKW.out with ⟨hk,hkk⟩ | ⟨k1,k2,k3,hkk⟩ | ⟨k1,k2,k3,k4,hkk⟩ | ⟨k1,k2,k3,k4,hkk⟩
    ·rcases hkk with ⟨n1,n2⟩ | ⟨n1,n2,n3⟩ | ⟨n1,n2,n3⟩
     ·rw[n1] at CM
      have HR:Hid (res=false):=Lib.hid (by rw[HRK.out,n2])
      clear n1 n2 HKW HRK
      rcases hk with hk | ⟨k1,hk⟩
      all_goals
       try have kk:(x.kind == 1)=true:=by simpa using hk
       try have kk:(x.kind == 1)=false:=by simpa using k1
       try have kj:(x.kind == 2)=true:=by simpa using hk
       clear hk
       go_wp2_with (first
        | (go_at_call 98;go_must (refine(CM.out _).mono ?_;rintro e w1 ⟨rfl,hf1⟩;have HF1:=Lib.hid (HF.out.trans hf1);clear hf1)))
       go_ret
       exact⟨by rw[HR.out];rfl,HA.out.fr.trans HF1.out⟩
     ·rw[n1] at CM
      rw[n2] at CP
      have HR:Hid (res=false):=Lib.hid (by rw[HRK.out,n3])
      clear n1 n2 n3 HKW HRK
      rcases hk with hk | ⟨k1,hk⟩
      all_goals
       try have kk:(x.kind == 1)=true:=by simpa using hk
       try have kk:(x.kind == 1)=false:=by simpa using k1
       try have kj:(x.kind == 2)=true:=by simpa using hk
       clear hk
       go_wp2_with (go_at_call 98;go_must (first
        | (refine(CM.out _).mono ?_;clear CM;rintro e w1 ⟨rfl,hf1⟩;have HF1:=Lib.hid (HF.out.trans hf1);clear hf1 e0 e1 e2 e3 t0 t1 t2 t3 t4 t5 t6 t7 t8;obtain⟨⟨e0,e1,e2,e3⟩,t0,t1,t2,t3,t4,t5,t6,t7,t8⟩:=HU.out w1 HF1.out)
        | (refine(CP.out _).mono ?_;clear CP;rintro e w2 ⟨rfl,hf2⟩;have HF2:=Lib.hid (HF1.out.trans hf2);clear hf2 e0 e1 e2 e3 t0 t1 t2 t3 t4 t5 t6 t7 t8;obtain⟨⟨e0,e1,e2,e3⟩,t0,t1,t2,t3,t4,t5,t6,t7,t8⟩:=HU.out w2 HF2.out)))
       go_ret
       exact⟨by rw[HR.out];rfl,HA.out.fr.trans HF2.out⟩
     ·rw[n1] at CM
      rw[n2] at CP
      have HR:Hid (res=!decide (x.peer=r.name)):=Lib.hid (by rw[HRK.out,n3])
      clear n1 n2 n3 HKW HRK
      have hpp:(x.peer.toList == r.name.toList)=decide (x.peer=r.name):=str_beq _ _
      obtain⟨pn,hpn⟩:∃ pn,decide (x.peer=r.name)=pn:=⟨_,rfl⟩
      rw[hpn] at hpp HR
      clear hpn
      rcases hk with hk | ⟨k1,hk⟩
      all_goals
       try have kk:(x.kind == 1)=true:=by simpa using hk
       try have kk:(x.kind == 1)=false:=by simpa using k1
       try have kj:(x.kind == 2)=true:=by simpa using hk
       clear hk
       go_wp2_with (go_at_call 98;go_must (first
        | (refine(CM.out _).mono ?_;clear CM;rintro e w1 ⟨rfl,hf1⟩;have HF1:=Lib.hid (HF.out.trans hf1);clear hf1 e0 e1 e2 e3 t0 t1 t2 t3 t4 t5 t6 t7 t8;obtain⟨⟨e0,e1,e2,e3⟩,t0,t1,t2,t3,t4,t5,t6,t7,t8⟩:=HU.out w1 HF1.out)
        | (refine(CP.out _).mono ?_;clear CP;rintro e w2 ⟨rfl,hf2⟩;have HF2:=Lib.hid (HF1.out.trans hf2);clear hf2 e0 e1 e2 e3 t0 t1 t2 t3 t4 t5 t6 t7 t8;obtain⟨⟨e0,e1,e2,e3⟩,t0,t1,t2,t3,t4,t5,t6,t7,t8⟩:=HU.out w2 HF2.out)))
       go_ret
       exact⟨by rw[HR.out];rfl,HA.out.fr.trans HF2.out⟩
    ·exfalso;have:=HKC.out;omega
    ·exfalso;have:=HKC.out;omega
    ·exfalso;have:=HKC.out;omega
set_option maxHeartbeats 4000000 in
set_option maxRecDepth 100000 in
theorem aAllowed_3 (v:Value) (r:RolD) (n:Nat) (x:StpD) (w:World) (h:RlV w v r) (hx:r.steps[n]?=some x) (hl:r.steps.length≤100∧r.sts.length≤100∧r.ctrs.length≤100) (hlim:∀ c∈r.ctrs,1≤c.lim∧c.lim≤1000) (hkc:x.kind≠1∧x.kind≠2) :
  Calls Tryz.prog 147 #[v,.int .i64 n] w (Ret (.bool (stepB r n x)) (Frm [] w)):=by
 obtain⟨sv,cv,tv,rfl,h3⟩:=h
 obtain⟨ao,cap,e,hxs⟩:=h3.steps
 subst e
 obtain⟨b,o,rfl,hat⟩:=hxs n x hx
 obtain⟨c0,c1,c2,c3,c4,c5,c6,c7,c8⟩:=hat
 have HXS:=Lib.hid hxs
 have hblt:=cell_lt c0
 have hn100:n < 100:=by have:=lt_of_some hx;omega
 have hnl:(n:Int) < (r.steps.length:Int):=by have:=lt_of_some hx;omega
 obtain⟨m,hm⟩:∃ m,r.steps.length=m:=⟨_,rfl⟩
 rw[hm] at hnl
 have HM:=Lib.hid hm
 obtain⟨aS,cs,es,hss⟩:=h3.sts
 obtain⟨ac,cc,ec,hcc⟩:=h3.ctrs
 subst es
 subst ec
 have HSS:=Lib.hid hss
 obtain⟨ns,hns⟩:∃ ns,r.sts.length=ns:=⟨_,rfl⟩
 obtain⟨nc,hnc⟩:∃ nc,r.ctrs.length=nc:=⟨_,rfl⟩
 have HNS:=Lib.hid hns;have HNC:=Lib.hid hnc
 rw[hm,hns,hnc] at h3
 rw[hm,hns,hnc]
 clear hss hcc hns hnc hxs
 obtain⟨X,hX⟩:∃ X,(w.alloc (.cells #[.string r.name,.slice aS ns cs,.slice ac nc cc,.slice (some ⟨b,o,none⟩) m cap] 53)).alloc (.cells #[.string x.frm,.string x.to,.int .i64 x.kind,.string x.msg,.string x.peer,.string x.ctr,.int .i64 x.low,.int .i64 x.high,.int .i64 x.add] 60)=X:=⟨_,rfl⟩
 have HA:Hid (AaV w w.heap.size (w.heap.size + 1) (.slice aS ns cs) (.slice ac nc cc) (.slice (some ⟨b,o,none⟩) m cap) r x X):=Lib.hid (by
  have hf:Frm [] w X:=by rw[← hX];exact((Frm.refl _ _).alloc _).alloc _
  exact⟨⟨by rw[← hX];exact alloc_at (heap_alloc_new w _),h3.frm hf⟩,by rw[← hX];exact alloc_top (by simp),hf⟩)
 have HE:=Lib.hid hX
 have HU:Hid (∀ V,Frm [] X V→(V.cell? ⟨w.heap.size,0,none⟩=some (.string r.name)∧V.cell? ⟨w.heap.size,1,none⟩=some (.slice aS ns cs)∧V.cell? ⟨w.heap.size,2,none⟩=some (.slice ac nc cc)∧V.cell? ⟨w.heap.size,3,none⟩=some (.slice (some ⟨b,o,none⟩) m cap)) ∧
   (V.cell? ⟨w.heap.size + 1,0,none⟩=some (.string x.frm)∧V.cell? ⟨w.heap.size + 1,1,none⟩=some (.string x.to)∧V.cell? ⟨w.heap.size + 1,2,none⟩=some (.int .i64 x.kind)∧V.cell? ⟨w.heap.size + 1,3,none⟩=some (.string x.msg)∧V.cell? ⟨w.heap.size + 1,4,none⟩=some (.string x.peer) ∧
    V.cell? ⟨w.heap.size + 1,5,none⟩=some (.string x.ctr)∧V.cell? ⟨w.heap.size + 1,6,none⟩=some (.int .i64 x.low)∧V.cell? ⟨w.heap.size + 1,7,none⟩=some (.int .i64 x.high)∧V.cell? ⟨w.heap.size + 1,8,none⟩=some (.int .i64 x.add))):=Lib.hid fun V hV=>by
  have ht:=hV.at HA.out.t (by simp)
  exact⟨(HA.out.r.frm hV).cells,cell_of ht 0,cell_of ht 1,cell_of ht 2,cell_of ht 3,cell_of ht 4,cell_of ht 5,cell_of ht 6,cell_of ht 7,cell_of ht 8⟩
 have CS:Hid (∀ V nm,Frm [] X V→Calls Tryz.prog 146 #[.agg #[.string r.name,.slice aS ns cs,.slice ac nc cc,.slice (some ⟨b,o,none⟩) m cap],.string nm] V (Ret (.int .i64 (stIx r nm)) (Frm [] V))):=Lib.hid fun V nm hV=>aState_any _ r nm V (HA.out.r.frm hV).val (by omega)
 have CG:Hid (∀ V,Frm [] X V→Calls Tryz.prog 169 #[.agg #[.string r.name,.slice aS ns cs,.slice ac nc cc,.slice (some ⟨b,o,none⟩) m cap],stpV x] V (Ret (.bool (guardB r x)) (Frm [] V))):=Lib.hid fun V hV=>aGuarded_any _ r x V (HA.out.r.frm hV).val (by omega) hlim
 have CF:=Lib.hid (CS.out · x.frm)
 have CT:=Lib.hid (CS.out · x.to)
 obtain⟨q1,hq1⟩:∃ q1,stIx r x.frm=q1:=⟨_,rfl⟩
 obtain⟨q2,hq2⟩:∃ q2,stIx r x.to=q2:=⟨_,rfl⟩
 obtain⟨q3,hq3⟩:∃ q3,guardB r x=q3:=⟨_,rfl⟩
 have HSP:=Lib.hid (aAlw_split r n x)
 rw[hq1,hq2,hq3] at HSP
 rw[hq1] at CF;rw[hq2] at CT;rw[hq3] at CG
 obtain⟨res,hres⟩:∃ b,stepB r n x=b:=⟨_,rfl⟩
 rw[hres] at HSP ⊢
 have HX:=Lib.hid hx
 have HKC:=Lib.hid hkc
 have HLR:=Lib.hid (HA.out.r.frm (Frm.refl _ _)).cells
 clear hkc h3 hm hX hx hl hlim hq1 hq2 hq3 CS hres HLR
 have HRB:Hid (∀ V,Frm [] X V→V.heap[w.heap.size]?=some (.cells #[.string r.name,.slice aS ns cs,.slice ac nc cc,.slice (some ⟨b,o,none⟩) m cap] 53 (0,0))):=Lib.hid fun V hV=>hV.at HA.out.r.hb (by simp)
 have HTB:Hid (∀ V,Frm [] X V→V.heap[w.heap.size + 1]?=some (.cells #[.string x.frm,.string x.to,.int .i64 x.kind,.string x.msg,.string x.peer,.string x.ctr,.int .i64 x.low,.int .i64 x.high,.int .i64 x.add] 60 (0,0))):=Lib.hid fun V hV=>hV.at HA.out.t (by simp)
 go_enter Tryz.func147,Tryz.ntmps147
 go_upto_region 2 with fail
 rw[HE.out]
 clear HE c0 c1 c2 c3 c4 c5 c6 c7 c8 hblt
 obtain⟨⟨e0,e1,e2,e3⟩,t0,t1,t2,t3,t4,t5,t6,t7,t8⟩:=HU.out X (Frm.refl _ _)
 go_upto_region 3 with (first
  | (refine wpList_load_whole rfl 53 _ rfl _ rfl _ 53 (HRB.out _ (Frm.refl _ _)) _ Tryz.underlying53 rfl (by kernel_rfl) ?_)
  | (go_at_call 146;go_must (refine(CF.out _ (Frm.refl _ _)).mono ?_;rintro e w1 ⟨rfl,hf1⟩;have HF1:=Lib.hid hf1;clear hf1 e0 e1 e2 e3 t0 t1 t2 t3 t4 t5 t6 t7 t8 CF;obtain⟨⟨e0,e1,e2,e3⟩,t0,t1,t2,t3,t4,t5,t6,t7,t8⟩:=HU.out w1 HF1.out)))
 rcases HSP.out with ⟨h1,h2⟩ | ⟨p,f,hp,hf,hrest⟩
 ·have HR:=Lib.hid h2
  clear h2 HSP
  go_wp2
  go_ret
  exact⟨by rw[HR.out];rfl,HA.out.fr.trans HF1.out⟩
 subst hp
 have hp0:¬ (p:Int) < 0:=by omega
 have hpl:(p:Int) < (ns:Int):=by have:=lt_of_some hf;have:=HNS.out;omega
 obtain⟨b5,o5,rfl,g0,g1,g2⟩:=HA.out.r.h3.sts.get hf
 have HG:Hid (∀ V,Frm [] X V→V.cell? ⟨b5,o5 + p * 3 + 2,none⟩=some (.int .i64 f.wait)):=Lib.hid fun V hV=>hV.keep g2
 clear hf HSP g0 g1 g2
 have hd0:decide ((p:Int) < 0)=false:=decide_eq_false hp0
 rcases hrest with ⟨h1,h2⟩ | ⟨h1,h2,h3⟩ | ⟨h1,h2,h3,h4⟩
 ·have HR:=Lib.hid h2
  clear h2
  go_wp2_with (first
   | (refine wpList_load_whole rfl 53 _ rfl _ rfl _ 53 (HRB.out _ HF1.out) _ Tryz.underlying53 rfl (by kernel_rfl) ?_)
   | (go_at_call 146;go_must (refine(CT.out _ HF1.out).mono ?_;rintro e w2 ⟨rfl,hf2⟩;have HF2:=Lib.hid (HF1.out.trans hf2);clear hf2)))
  go_ret
  exact⟨by rw[HR.out];rfl,HA.out.fr.trans HF2.out⟩
 ·have HR:=Lib.hid h3
  have hd1:decide (q2 < 0)=false:=decide_eq_false (by omega)
  subst h2
  clear h3
  go_wp2_with (first
   | (refine wpList_load_whole rfl 53 _ rfl _ rfl _ 53 (HRB.out _ HF1.out) _ Tryz.underlying53 rfl (by kernel_rfl) ?_)
   | (refine wpList_load_whole rfl 53 _ rfl _ rfl _ 53 (HRB.out _ HF2.out) _ Tryz.underlying53 rfl (by kernel_rfl) ?_)
   | (refine wpList_load_whole rfl 60 _ rfl _ rfl _ 60 (HTB.out _ HF2.out) _ Tryz.underlying60 rfl (by kernel_rfl) ?_)
   | (go_at_call 146;go_must (refine(CT.out _ HF1.out).mono ?_;rintro e w2 ⟨rfl,hf2⟩;have HF2:=Lib.hid (HF1.out.trans hf2);clear hf2 e0 e1 e2 e3 t0 t1 t2 t3 t4 t5 t6 t7 t8;obtain⟨⟨e0,e1,e2,e3⟩,t0,t1,t2,t3,t4,t5,t6,t7,t8⟩:=HU.out w2 HF2.out))
   | (go_at_call 169;go_must (refine(CG.out _ HF2.out).mono ?_;rintro e w3 ⟨rfl,hf3⟩;have HF3:=Lib.hid (HF2.out.trans hf3);clear hf3)))
  go_ret
  exact⟨by rw[HR.out];rfl,HA.out.fr.trans HF3.out⟩
 ·have hd1:decide (q2 < 0)=false:=decide_eq_false (by omega)
  have HIN:=Lib.hid h3;have HOUT:=Lib.hid h4
  subst h2
  clear h3 h4
  go_wp2_with (first
   | (refine wpList_load_whole rfl 53 _ rfl _ rfl _ 53 (HRB.out _ HF1.out) _ Tryz.underlying53 rfl (by kernel_rfl) ?_)
   | (refine wpList_load_whole rfl 53 _ rfl _ rfl _ 53 (HRB.out _ HF2.out) _ Tryz.underlying53 rfl (by kernel_rfl) ?_)
   | (refine wpList_load_whole rfl 60 _ rfl _ rfl _ 60 (HTB.out _ HF2.out) _ Tryz.underlying60 rfl (by kernel_rfl) ?_)
   | (go_at_call 146;go_must (refine(CT.out _ HF1.out).mono ?_;rintro e w2 ⟨rfl,hf2⟩;have HF2:=Lib.hid (HF1.out.trans hf2);clear hf2 e0 e1 e2 e3 t0 t1 t2 t3 t4 t5 t6 t7 t8;obtain⟨⟨e0,e1,e2,e3⟩,t0,t1,t2,t3,t4,t5,t6,t7,t8⟩:=HU.out w2 HF2.out))
   | (go_at_call 169;go_must (refine(CG.out _ HF2.out).mono ?_;rintro e w3 ⟨rfl,hf3⟩;have HF3:=Lib.hid (HF2.out.trans hf3);clear hf3)))
  clear CT CG e0 e1 e2 e3 t0 t1 t2 t3 t4 t5 t6 t7 t8
  go_loopw [7] (fun s7 wr=>∃ i:Nat,s7=.int .i64 i∧i≤n∧Frm [] X wr∧∀ j y,j < i→r.steps[j]?=some y→decide (y=x)=false) (fun s7 _=>n - (intOf s7).toNat)
  case atStart=>exact⟨0,rfl,Nat.zero_le _,HF3.out,fun j y hj=>by omega⟩
  case round =>
   clear HF1 HF2 HF3
   obtain⟨i,rfl,hi,hf,hno⟩:=hrel
   have HF:=Lib.hid hf;have HNO:=Lib.hid hno
   clear hf hno
   obtain⟨⟨e0,e1,e2,e3⟩,t0,t1,t2,t3,t4,t5,t6,t7,t8⟩:=HU.out wr HF.out
   by_cases hlt:i < n
   ·have hlt':(i:Int) < (n:Int):=by omega
    have hlm:(i:Int) < (m:Int):=by omega
    obtain⟨y,hy⟩:∃ y,r.steps[i]?=some y:=⟨_,List.getElem?_eq_getElem (by rw[HM.out];omega)⟩
    obtain⟨b',o',eb,hat⟩:=HXS.out i y hy
    cases eb
    obtain⟨c0,c1,c2,c3,c4,c5,c6,c7,c8⟩:=hat.frm (HA.out.fr.trans HF.out)
    have hq:∀ V,(binOp .eql 60 (.agg #[.string y.frm,.string y.to,.int .i64 y.kind,.string y.msg,.string y.peer,.string y.ctr,.int .i64 y.low,.int .i64 y.high,.int .i64 y.add]) (.agg #[.string x.frm,.string x.to,.int .i64 x.kind,.string x.msg,.string x.peer,.string x.ctr,.int .i64 x.low,.int .i64 x.high,.int .i64 x.add])).run Tryz.prog V=.ok (.bool (decide (y=x))) V:=fun V=>eql_step y x V
    have HY:=Lib.hid hy
    clear hat hy
    cases hpx:decide (y=x) with
    | true =>
      rw[hpx] at hq
      have HR:=Lib.hid (HIN.out (by
       rw[decide_eq_true_eq] at hpx
       rw[← hpx]
       refine List.mem_of_getElem? (i:=i) ?_
       rw[List.getElem?_take,if_pos hlt];exact HY.out))
      clear hpx
      go_wp2
      go_quiet (fail)
      go_wp2
      go_ret
      exact⟨by rw[HR.out];rfl,HA.out.fr.trans (HF.out.drewN _)⟩
    | false =>
      rw[hpx] at hq
      have HPX:=Lib.hid hpx
      clear hpx
      go_wp2
      go_quiet (fail)
      go_wp2
      refine⟨⟨i + 1,congrArg (Value.int .i64) (by omega),hlt,HF.out.drewN _,fun j z hj hz=>?_⟩,by simp[intOf];omega⟩
      by_cases e:j=i
      ·subst e;rw[HY.out] at hz;cases hz;exact HPX.out
      ·exact HNO.out j z (by omega) hz
   ·have hge:¬ (i:Int) < (n:Int):=by omega
    have HRK:=Lib.hid (HOUT.out fun hmem=>by
     obtain⟨j,hj⟩:=List.getElem?_of_mem hmem
     rw[List.getElem?_take] at hj
     split at hj
     ·have:=HNO.out j x (by omega) hj
      simp at this
     ·cases hj)
    have hg:=HG.out wr HF.out
    have CN:Hid (∀ V s,Calls Tryz.prog 98 #[.string s] V (Ret (.bool (nameB s)) (Frm [] V))):=Lib.hid fun V s=>aName_any s V
    have CM:=Lib.hid (CN.out · x.msg)
    have CP:=Lib.hid (CN.out · x.peer)
    have HKW:=Lib.hid (kind_ways r x f)
    clear HIN HOUT HNO CN hi
    rcases HKW.out with ⟨hk,hkk⟩ | ⟨k1,k2,k3,hkk⟩ | ⟨k1,k2,k3,k4,hkk⟩ | ⟨k1,k2,k3,k4,hkk⟩
    ·exfalso;have:=HKC.out;omega
    ·have kk:(x.kind == 1)=false:=by simpa using k1
     have kj:(x.kind == 2)=false:=by simpa using k2
     have kl:(x.kind == 3)=true:=by simpa using k3
     rcases hkk with ⟨n1,n2⟩ | ⟨n1,n2,n3⟩ | ⟨n1,n2,n3⟩
     ·have hm:=emp_no n1
      have HR:Hid (res=false):=Lib.hid (by rw[HRK.out,n2])
      clear n1 n2 HKW HRK
      go_wp2
      go_ret
      exact⟨by rw[HR.out];rfl,HA.out.fr.trans HF.out⟩
     ·have hm:=emp_yes n1
      have hp:=emp_no n2
      have HR:Hid (res=false):=Lib.hid (by rw[HRK.out,n3])
      clear n1 n2 n3 HKW HRK
      go_wp2
      go_ret
      exact⟨by rw[HR.out];rfl,HA.out.fr.trans HF.out⟩
     ·have hm:=emp_yes n1
      have hp:=emp_yes n2
      have HR:Hid (res=decide (0 < f.wait)):=Lib.hid (by rw[HRK.out,n3])
      clear n1 n2 n3 HKW HRK
      go_wp2
      go_ret
      exact⟨by rw[HR.out];rfl,HA.out.fr.trans HF.out⟩
    ·have kk:(x.kind == 1)=false:=by simpa using k1
     have kj:(x.kind == 2)=false:=by simpa using k2
     have kl:(x.kind == 3)=false:=by simpa using k3
     have km:(x.kind == 4)=true:=by simpa using k4
     rcases hkk with ⟨n1,n2⟩ | ⟨n1,n2⟩
     ·have hm:=emp_no n1
      have HR:Hid (res=false):=Lib.hid (by rw[HRK.out,n2])
      clear n1 n2 HKW HRK
      go_wp2
      go_ret
      exact⟨by rw[HR.out];rfl,HA.out.fr.trans HF.out⟩
     ·have hm:=emp_yes n1
      have hp:x.peer.toList.isEmpty=decide (x.peer=emptyS):=by
       by_cases h:x.peer=emptyS
       ·rw[decide_eq_true h];exact emp_yes h
       ·rw[decide_eq_false h];exact emp_no h
      have HR:Hid (res=decide (x.peer=emptyS)):=Lib.hid (by rw[HRK.out,n2])
      obtain⟨pn,hpn⟩:∃ pn,decide (x.peer=emptyS)=pn:=⟨_,rfl⟩
      rw[hpn] at hp HR
      clear n1 n2 HKW HRK hpn
      go_wp2
      go_ret
      exact⟨by rw[HR.out];rfl,HA.out.fr.trans HF.out⟩
    ·have kk:(x.kind == 1)=false:=by simpa using k1
     have kj:(x.kind == 2)=false:=by simpa using k2
     have kl:(x.kind == 3)=false:=by simpa using k3
     have km:(x.kind == 4)=false:=by simpa using k4
     have HR:Hid (res=false):=Lib.hid (by rw[HRK.out,hkk])
     clear hkk HKW HRK
     go_wp2
     go_ret
     exact⟨by rw[HR.out];rfl,HA.out.fr.trans HF.out⟩
theorem aAllowed_any (v:Value) (r:RolD) (n:Nat) (x:StpD) (w:World) (h:RlV w v r) (hx:r.steps[n]?=some x) (hl:r.steps.length≤100∧r.sts.length≤100∧r.ctrs.length≤100) (hlim:∀ c∈r.ctrs,1≤c.lim∧c.lim≤1000) :
  Calls Tryz.prog 147 #[v,.int .i64 n] w (Ret (.bool (stepB r n x)) (Frm [] w)):=by
 by_cases hk:x.kind=1∨x.kind=2
 ·exact aAllowed_12 v r n x w h hx hl hlim hk
 ·exact aAllowed_3 v r n x w h hx hl hlim (by omega)
end Go.Proofs.YtkphhjekfimmlaaGreat
namespace Go.Proofs.YtkphhjekfimmlaaGreat
open Go.RowKit Go.BigFrame
def But (M:List ByteArray) (i k:Nat):Prop:=∀ a b x y,a < b→b≤i→b≠k→M[a]?=some x→M[b]?=some y→byt x≤byt y
theorem But.start {M:List ByteArray} {i:Nat} (h:∀ a b x y,a < b→b < i→M[a]?=some x→M[b]?=some y→byt x≤byt y):But M i i:=fun a b x y h1 h2 h3 h4 h5=>h a b x y h1 (by omega) h4 h5
theorem But.done0 {M:List ByteArray} {i:Nat} (h:But M i 0):∀ a b x y,a < b→b < i + 1→M[a]?=some x→M[b]?=some y→byt x≤byt y:=fun a b x y h1 h2 h3 h4=>h a b x y h1 (by omega) (by omega) h3 h4
theorem But.doneK {M:List ByteArray} {i k:Nat} {x y:ByteArray} (h:But M i (k + 1)) (hk:k + 1≤i) (hx:M[k + 1]?=some x) (hy:M[k]?=some y) (hle:byt y≤byt x):∀ a b x y,a < b→b < i + 1→M[a]?=some x→M[b]?=some y→byt x≤byt y:=by
 intro a b u v h1 h2 h3 h4
 by_cases e:b=k + 1
 ·subst e
  rw[hx] at h4;cases h4
  by_cases e2:a=k
  ·subst e2;rw[hy] at h3;cases h3;exact hle
  ·exact le_tr (h a k u y (by omega) (by omega) (by omega) h3 hy) hle
 ·exact h a b u v h1 (by omega) e h3 h4
theorem get_swap {M:List ByteArray} {k:Nat} {x y:ByteArray} (hx:M[k + 1]?=some x) (hy:M[k]?=some y) (a:Nat) :
  ((M.set (k + 1) y).set k x)[a]?=if a=k then some x else if a=k + 1 then some y else M[a]?:=by
 have h1:=(List.getElem?_eq_some_iff.1 hx).1
 by_cases e:a=k
 ·subst e
  rw[if_pos rfl,List.getElem?_set_self (by rw[List.length_set];omega)]
 ·rw[if_neg e,List.getElem?_set_ne (fun h=>e h.symm)]
  by_cases e2:a=k + 1
  ·subst e2;rw[if_pos rfl,List.getElem?_set_self h1]
  ·rw[if_neg e2,List.getElem?_set_ne (fun h=>e2 h.symm)]
theorem But.step {M:List ByteArray} {i k:Nat} {x y:ByteArray} (h:But M i (k + 1)) (hk:k + 1≤i) (hx:M[k + 1]?=some x) (hy:M[k]?=some y) (hlt:byt x≤byt y):But ((M.set (k + 1) y).set k x) i k:=by
 intro a b u v h1 h2 h3 h4 h5
 rw[get_swap hx hy] at h4 h5
 rw[if_neg h3] at h5
 by_cases eb:b=k + 1
 ·subst eb
  rw[if_pos rfl] at h5;cases h5
  by_cases ea:a=k
  ·rw[if_pos ea] at h4;cases h4;exact hlt
  ·rw[if_neg ea,if_neg (by omega)] at h4
   exact h a k u y (by omega) (by omega) (by omega) h4 hy
 ·rw[if_neg eb] at h5
  by_cases ea:a=k
  ·rw[if_pos ea] at h4;cases h4
   exact h (k + 1) b x v (by omega) h2 eb hx h5
  ·rw[if_neg ea] at h4
   by_cases ea2:a=k + 1
   ·rw[if_pos ea2] at h4;cases h4
    exact h k b y v (by omega) h2 eb hy h5
   ·rw[if_neg ea2] at h4
    exact h a b u v h1 h2 eb h4 h5
theorem swap_perm {M:List ByteArray} {k:Nat} {x y:ByteArray} (hx:M[k + 1]?=some x) (hy:M[k]?=some y):((M.set (k + 1) y).set k x).Perm M:=by
 obtain⟨h1,rfl⟩:=List.getElem?_eq_some_iff.1 hx
 obtain⟨h2,rfl⟩:=List.getElem?_eq_some_iff.1 hy
 exact List.set_set_perm h1 h2
theorem pairwise_of {M:List ByteArray} (h:∀ a b x y,a < b→b < M.length→M[a]?=some x→M[b]?=some y→byt x≤byt y):M.Pairwise fun a b=>byt a≤byt b:=by
 rw[List.pairwise_iff_getElem]
 intro a b ha hb hab
 exact h a b _ _ hab hb (List.getElem?_eq_getElem ha) (List.getElem?_eq_getElem hb)
end Go.Proofs.YtkphhjekfimmlaaGreat
namespace Go.Proofs.YtkphhjekfimmlaaGreat
open Go.RowKit Go.BigFrame
structure KS (w:World) (A:Array Value) (g:Nat) (M:List ByteArray) (W:World):Prop where
 b:W.heap[w.heap.size]?=some (.cells A 168 (0,0))
 c:∃ cur,W.heap[g]?=some (.cells cur 9 (0,0))∧cur.toList.take M.length=M.map Value.string
 f:Frm [] w W
 g:w.heap.size < g
section
variable {w W W':World} {A:Array Value} {g:Nat} {M:List ByteArray}
theorem KS.frm (h:KS w A g M W) (hf:Frm [] W W'):KS w A g M W':=by
 obtain⟨cur,h1,h2⟩:=h.c
 exact⟨hf.at h.b (by simp),⟨cur,hf.at h1 (by simp),h2⟩,h.f.trans hf,h.g⟩
theorem KS.cell (h:KS w A g M W) {k:Nat} {x:ByteArray} (hx:M[k]?=some x):W.cell? ⟨g,k,none⟩=some (.string x):=by
 obtain⟨cur,h1,h2⟩:=h.c
 have hk:=(List.getElem?_eq_some_iff.1 hx).1
 rw[cell_of h1]
 have h3:(cur.toList.take M.length)[k]?=some (.string x):=by rw[h2];simp[hx]
 rw[List.getElem?_take_of_lt hk] at h3
 simpa using h3
theorem KS.free (h:KS w A g M W) (k:Nat):W.frozen? ⟨g,k,none⟩=false:=by
 obtain⟨cur,h1,h2⟩:=h.c
 exact free_of h1 k
theorem KS.set (h:KS w A g M W) {k:Nat} (x:ByteArray):KS w A g (M.set k x) (W.setCell ⟨g,k,none⟩ (.string x)):=by
 obtain⟨cur,h1,h2⟩:=h.c
 have hg:=h.g
 refine⟨setCell_at h.b (by simp;omega) _,⟨_,block_setCell h1 k _,?_⟩,h.f.setCell _ (.inr (by simp;omega)) _,h.g⟩
 rw[List.length_set,Array.toList_setIfInBounds,List.take_set,h2,List.map_set]
theorem KS.swap (h:KS w A g M W) {k j:Nat} {x y:ByteArray}:KS w A g ((M.set k y).set j x) ((W.setCell ⟨g,k,none⟩ (.string y)).setCell ⟨g,j,none⟩ (.string x)):=(h.set y).set x
end
theorem bl_eq (x y:ByteArray):Op.bytesLess x.toList y.toList=decide (byt x < byt y):=by rw[bytesLess_eq,ByteArray.toList_eq,ByteArray.toList_eq];rfl
theorem len_byte' (b:Nat) (W:World) (x:ByteArray) (h:x.size≤32) (hc:W.cell? ⟨b,0,none⟩=some (.int .u8 (x.size:Int))):(convert 26 9 (.slice (some ⟨b,0,none⟩) 1 1)).run Tryz.prog W=.ok (.string ⟨#[UInt8.ofNat x.size]⟩) W:=
 run_convert_bytes_back _ 26 9 5 ⟨b,0,none⟩ 1 [UInt8.ofNat x.size] Tryz.underlying26 Tryz.underlying5 Tryz.underlying9 (fun j hj=>by
  have h0:j=0:=by simpa using hj
  subst h0
  have e:((UInt8.ofNat x.size).toNat:Int)=(x.size:Int):=by simp;omega
  show W.cell? ⟨b,0 + 0,none⟩=some (.int .u8 ((UInt8.ofNat x.size).toNat:Int))
  rw[e]
  exact hc)
set_option maxHeartbeats 4000000 in
set_option maxRecDepth 100000 in
theorem refKey_any (cls cap:Int) (lv:Value) (L:List ByteArray) (w:World) (h:Lf w lv L) (hL:L.length≤64) (hS:∀ x∈L,x.size≤32) (hne:0 < L.length) :
  Calls Tryz.prog 102 #[.agg #[.int .i64 cls,.int .i64 cap,lv]] w (RetV fun v w'=>v=.string (keyB (keyL cls L))∧Frm [] w w'):=by
 obtain⟨ao,cp,rfl,hcs⟩:=h.shape
 have HL:=Lib.hid h
 obtain⟨S,hSe⟩:∃ S,keyL cls L=S:=⟨_,rfl⟩
 have HSE:=Lib.hid hSe
 have HSL:Hid (S.length=L.length):=Lib.hid (by rw[← hSe];exact keyL_length cls L)
 have HSZ:Hid (∀ x∈S,x.size≤32):=Lib.hid (fun x hx=>hS x (keyL_mem (by rw[hSe];exact hx)))
 have HNE:=Lib.hid hne
 rw[hSe]
 clear h hcs hS hSe hne
 go_enter Tryz.func102,Tryz.ntmps102
 go_wp2_with (first
  | (at_builtin;refine wpList_append_src rfl _ _ rfl _ rfl (alloc_top (by simp)) _ rfl L.length _ (HL.out.frm (((Frm.refl [] w).alloc _).alloc _) (by simp)).src (HL.out.frm (((Frm.refl [] w).alloc _).alloc _) (by simp)).some_addr (by omega) ?_;intro ao1 cp1 w1 ho1 hg1;have HO1:=Lib.hid ho1;have HG1:=Lib.hid hg1;clear ho1 hg1))
 obtain⟨g,rfl,HK1⟩:∃ g,ao1=some ⟨g,0,none⟩∧Hid (KS w #[.int .i64 cls,.int .i64 cap,.slice ao L.length cp] g L w1):=by
  rcases HO1.out.2 with ⟨hv,hn⟩ | ⟨g,c,cur,hv,hge,hb,-,-,-,ht⟩
  ·have:=HNE.out;omega
  ·cases hv
   exact⟨g,rfl,Lib.hid ⟨grown_at HG1.out (alloc_at (alloc_top rfl)) (by simp),⟨cur,hb,by simpa using ht⟩,(((Frm.refl [] w).alloc _).alloc _).grown HG1.out (by simp),by omega⟩⟩
 clear HO1 HG1 HL
 go_loopw [4] (fun s4 wr=>∃ (i:Nat) (M:List ByteArray),s4=.int .i64 i∧i≤L.length∧M.Perm L∧(cls=2→∀ a b x y,a < b→b < i→M[a]?=some x→M[b]?=some y→byt x≤byt y)∧(cls≠2→M=L)∧KS w #[.int .i64 cls,.int .i64 cap,.slice ao L.length cp] g M wr) (fun s4 _=>L.length - (intOf s4).toNat)
 case atStart=>exact⟨0,L,rfl,Nat.zero_le _,List.Perm.refl _,fun _ a b x y h1 h2=>by omega,fun _=>rfl,HK1.out⟩
 case round =>
  clear HK1
  obtain⟨i,M,rfl,hi,hp,hs,hm,hk⟩:=hrel
  have HP:=Lib.hid hp;have HS:=Lib.hid hs;have HM:=Lib.hid hm;have HKS:=Lib.hid hk
  have c0:wr.cell? ⟨w.heap.size,0,none⟩=some (.int .i64 cls):=cell_of hk.b 0
  have hml:M.length=L.length:=hp.length_eq
  have HML:=Lib.hid hml
  clear hp hs hm hk hml
  by_cases hlt:i < L.length
  ·have hlt':(i:Int) < (L.length:Int):=by omega
   by_cases h2:cls=2
   ·have b2:(cls == 2)=true:=by simpa using h2
    have H2:=Lib.hid h2
    clear h2
    obtain⟨wo,rfl⟩:∃ wo,wo=wr:=⟨_,rfl⟩
    go_wp2
    go_loopw [5] (fun s5 wx=>∃ (k:Nat) (N:List ByteArray),s5=.int .i64 k∧k≤i∧N.Perm L∧But N i k∧KS w #[.int .i64 cls,.int .i64 cap,.slice ao L.length cp] g N wx) (fun s5 _=>(intOf s5).toNat)
    case atStart=>exact⟨i,M,rfl,Nat.le_refl _,HP.out,But.start (HS.out H2.out),HKS.out⟩
    case round =>
     clear HKS HP HS HM HML c0
     obtain⟨k,N,rfl,hk,hp,hbut,hks⟩:=hrel
     have HP:=Lib.hid hp;have HB:=Lib.hid hbut;have HK:=Lib.hid hks
     have hnl:=hp.length_eq
     cases k with
     | zero =>
       clear hp hbut hks
       have hz:¬ (0:Int) < ((0:Nat):Int):=by simp
       go_wp2
       go_quiet (fail)
       go_wp2
       exact⟨⟨i + 1,N,by simp,by omega,HP.out,fun _=>HB.out.done0,fun h=>absurd H2.out h,HK.out.frm ((Frm.refl [] wr).drewN _)⟩,by simp[intOf];omega⟩
     | succ j =>
       obtain⟨x,hx⟩:∃ x,N[j + 1]?=some x:=⟨_,List.getElem?_eq_getElem (by omega)⟩
       obtain⟨y,hy⟩:∃ y,N[j]?=some y:=⟨_,List.getElem?_eq_getElem (by omega)⟩
       have cx:=hks.cell hx
       have cy:=hks.cell hy
       have fx:=hks.free (j + 1)
       have fy:=hks.free j
       have HX:=Lib.hid hx;have HY:=Lib.hid hy
       have hz:(0:Int) < (((j + 1:Nat)):Int):=by omega
       have hwk:IntKind.i64.wrap ((j:Int) + 1 - 1)=(j:Int):=by simp[IntKind.wrap,show IntKind.i64.bits=64 from rfl,show IntKind.i64.signed=true from rfl];omega
       have hwk2:IntKind.i64.wrap (j:Int)=(j:Int):=by simpa using hwk
       have hj1:((j:Int) + 1) < (L.length:Int):=by omega
       have hj2:(j:Int) < (L.length:Int):=by omega
       have htn:((j:Int) + 1).toNat=j + 1:=by omega
       have hj3:(0:Int)≤(j:Int) + 1:=by omega
       clear hp hbut hks hx hy hnl
       by_cases hxy:byt x < byt y
       ·have hbl:Op.bytesLess x.toList y.toList=true:=by rw[bl_eq];simpa using hxy
        have HXY:=Lib.hid hxy
        clear hxy
        go_wp2
        go_quiet (fail)
        obtain⟨wq,hq1⟩:∃ wq,wr.drewN nq=wq:=⟨_,rfl⟩
        have HKQ:=Lib.hid (HK.out.frm (show Frm [] wr wq by rw[← hq1];exact(Frm.refl [] wr).drewN _))
        rw[hq1]
        clear hq1 cx cy fx fy
        have cx:=HKQ.out.cell HX.out
        have cy:=HKQ.out.cell HY.out
        have fx:=HKQ.out.free (j + 1)
        have fy:=HKQ.out.free j
        have cy2:=(HKQ.out.set (k:=j + 1) y).cell (k:=j) (x:=y) (by rw[List.getElem?_set_ne (by omega)];exact HY.out)
        have fy2:=(HKQ.out.set (k:=j + 1) y).free j
        go_wp2
        go_region_law (first | fail)
        all_goals
         go_wp2
         exact⟨⟨j,(N.set (j + 1) y).set j x,by simp,by omega,(swap_perm HX.out HY.out).trans HP.out,HB.out.step hk HX.out HY.out (le_lt HXY.out),HKQ.out.swap.frm (Frm.refl [] _).drew⟩,by simp[intOf]⟩
       ·have hbl:Op.bytesLess x.toList y.toList=false:=by rw[bl_eq];simpa using hxy
        have HXY:=Lib.hid (List.not_lt.1 hxy)
        clear hxy
        go_wp2
        go_quiet (fail)
        go_wp2
        exact⟨⟨i + 1,N,by simp,by omega,HP.out,fun _=>HB.out.doneK hk HX.out HY.out HXY.out,fun h=>absurd H2.out h,HK.out.frm ((Frm.refl [] wr).drewN _)⟩,by simp[intOf];omega⟩
   ·have b2:(cls == 2)=false:=by simpa using h2
    have H2:=Lib.hid h2
    obtain rfl:M=S:=by rw[HM.out h2,← HSE.out,keyL,if_neg h2]
    clear h2
    obtain⟨wo,rfl⟩:∃ wo,wo=wr:=⟨_,rfl⟩
    go_wp2
    go_loopw [6,7] (fun s6 s7 wx=>∃ i:Nat,s6=.string (keyB (M.take i))∧s7=.int .i64 i∧i≤L.length∧Frm [] wo wx) (fun _ s7 _=>L.length - (intOf s7).toNat)
    case atStart=>exact⟨0,rfl,rfl,Nat.zero_le _,Frm.refl _ _⟩
    case round =>
     obtain⟨i2,rfl,rfl,hi2,hf2⟩:=hrel
     have HF2:=Lib.hid hf2
     by_cases hlt2:i2 < L.length
     ·obtain⟨x,hx⟩:∃ x,M[i2]?=some x:=⟨_,List.getElem?_eq_getElem (by rw[HSL.out];exact hlt2)⟩
      have hsz:=HSZ.out x (List.mem_of_getElem? hx)
      have cx:=hf2.keep (HKS.out.cell hx)
      have hlt2':(i2:Int) < (L.length:Int):=by omega
      have hwr:IntKind.u8.wrap (x.size:Int)=(x.size:Int):=wrap_small (by omega) (by omega)
      have HX:=Lib.hid hx
      have hconv:(convert 26 9 (.slice (some ⟨wr.heap.size,0,none⟩) 1 1)).run Tryz.prog (wr.alloc (.cells #[.int .u8 (x.size:Int)] 5)).drew=.ok (.string ⟨#[UInt8.ofNat x.size]⟩) (wr.alloc (.cells #[.int .u8 (x.size:Int)] 5)).drew:=len_byte' _ _ x hsz (cell_of (heap_alloc_new wr _) 0)
      have hks1:¬ 9223372036854775807 < (keyB (M.take i2)).size + 1∧¬ 9223372036854775807 < (keyB (M.take i2)).size + 1 + x.size:=by
       have h1:=keyB_size (M.take i2) (fun y hy=>HSZ.out y (List.mem_of_mem_take hy))
       rw[List.length_take] at h1
       omega
      obtain⟨hks1,hks2⟩:=hks1
      have cx2:(wr.alloc (.cells #[.int .u8 (x.size:Int)] 5)).cell? ⟨g,i2,none⟩=some (.string x):=(((Frm.refl [] wr).alloc _)).keep cx
      clear hf2 hx
      go_wp2_with fail
      go_region_law (first | fail)
      all_goals
       go_wp2_with fail
       exact⟨⟨i2 + 1,by rw[keyB_snoc HX.out,ByteArray.append_assoc],by simp,hlt2,(HF2.out.alloc _).drew⟩,by simp[intOf];omega⟩
     ·have hge2:¬ (i2:Int) < (L.length:Int):=by omega
      clear hf2
      go_wp2
      go_ret
      refine⟨_,rfl,?_,HKS.out.f.trans HF2.out⟩
      rw[List.take_of_length_le (by rw[HSL.out];omega)]
      rfl
  ·obtain rfl:i=L.length:=by omega
   have hlt':¬ (L.length:Int) < (L.length:Int):=by omega
   obtain rfl:M=S:=by
    by_cases h2:cls=2
    ·rw[← HSE.out,h2]
     exact key_unique HP.out (pairwise_of (by rw[HML.out];exact HS.out h2))
    ·rw[HM.out h2,← HSE.out,keyL,if_neg h2]
   obtain⟨wo,rfl⟩:∃ wo,wo=wr:=⟨_,rfl⟩
   go_wp2
   go_loopw [6,7] (fun s6 s7 wx=>∃ i:Nat,s6=.string (keyB (M.take i))∧s7=.int .i64 i∧i≤L.length∧Frm [] wo wx) (fun _ s7 _=>L.length - (intOf s7).toNat)
   case atStart=>exact⟨0,rfl,rfl,Nat.zero_le _,Frm.refl _ _⟩
   case round =>
    obtain⟨i2,rfl,rfl,hi2,hf2⟩:=hrel
    have HF2:=Lib.hid hf2
    by_cases hlt2:i2 < L.length
    ·obtain⟨x,hx⟩:∃ x,M[i2]?=some x:=⟨_,List.getElem?_eq_getElem (by rw[HSL.out];exact hlt2)⟩
     have hsz:=HSZ.out x (List.mem_of_getElem? hx)
     have cx:=hf2.keep (HKS.out.cell hx)
     have hlt2':(i2:Int) < (L.length:Int):=by omega
     have hwr:IntKind.u8.wrap (x.size:Int)=(x.size:Int):=wrap_small (by omega) (by omega)
     have HX:=Lib.hid hx
     have hconv:(convert 26 9 (.slice (some ⟨wr.heap.size,0,none⟩) 1 1)).run Tryz.prog (wr.alloc (.cells #[.int .u8 (x.size:Int)] 5)).drew=.ok (.string ⟨#[UInt8.ofNat x.size]⟩) (wr.alloc (.cells #[.int .u8 (x.size:Int)] 5)).drew:=len_byte' _ _ x hsz (cell_of (heap_alloc_new wr _) 0)
     have hks1:¬ 9223372036854775807 < (keyB (M.take i2)).size + 1∧¬ 9223372036854775807 < (keyB (M.take i2)).size + 1 + x.size:=by
      have h1:=keyB_size (M.take i2) (fun y hy=>HSZ.out y (List.mem_of_mem_take hy))
      rw[List.length_take] at h1
      omega
     obtain⟨hks1,hks2⟩:=hks1
     have cx2:(wr.alloc (.cells #[.int .u8 (x.size:Int)] 5)).cell? ⟨g,i2,none⟩=some (.string x):=(((Frm.refl [] wr).alloc _)).keep cx
     clear hf2 hx
     go_wp2_with fail
     go_region_law (first | fail)
     all_goals
      go_wp2_with fail
      exact⟨⟨i2 + 1,by rw[keyB_snoc HX.out,ByteArray.append_assoc],by simp,hlt2,(HF2.out.alloc _).drew⟩,by simp[intOf];omega⟩
    ·have hge2:¬ (i2:Int) < (L.length:Int):=by omega
     clear hf2
     go_wp2
     go_ret
     refine⟨_,rfl,?_,HKS.out.f.trans HF2.out⟩
     rw[List.take_of_length_le (by rw[HSL.out];omega)]
     rfl
set_option maxHeartbeats 1000000 in
set_option maxRecDepth 100000 in
theorem refKey_nil (cls cap:Int) (lv:Value) (w:World) (h:Lf w lv []) :
  Calls Tryz.prog 102 #[.agg #[.int .i64 cls,.int .i64 cap,lv]] w (RetV fun v w'=>v=.string (keyB (keyL cls []))∧Frm [] w w'):=by
 obtain⟨ao,cp,rfl,hcs⟩:=h.shape
 have HL:=Lib.hid h
 have e:keyB (keyL cls [])={ data:=#[] }:=by
  have:keyL cls []=[]:=List.length_eq_zero_iff.1 (keyL_length cls [])
  rw[this];rfl
 rw[e]
 clear h hcs e
 simp only[List.length_nil] at HL ⊢
 go_enter Tryz.func102,Tryz.ntmps102
 go_wp2_with (first
  | (at_builtin;refine wpList_append_src rfl _ _ rfl _ rfl (alloc_top (by simp)) _ rfl 0 _ (Lf.src (L:=[]) (HL.out.frm (((Frm.refl [] w).alloc _).alloc _) (by simp))) (fun h=>absurd h (by decide)) (by omega) ?_;intro ao1 cp1 w1 ho1 hg1;have HG1:=Lib.hid hg1;clear ho1 hg1))
 have HF:Hid (Frm [] w w1):=Lib.hid ((((Frm.refl [] w).alloc _).alloc _).grown HG1.out (by simp))
 clear HG1 HL
 go_loopw [4] (fun s4 wr=>s4=.int .i64 0∧wr=w1) (fun _ _=>0)
 case atStart=>exact⟨rfl,rfl⟩
 case round =>
  obtain⟨rfl,rfl⟩:=hrel
  go_wp2
  go_loopw [6,7] (fun s6 s7 wx=>s6=.string { data:=#[] }∧s7=.int .i64 0∧wx=wr) (fun _ _ _=>0)
  case atStart=>exact⟨rfl,rfl,rfl⟩
  case round =>
   obtain⟨rfl,rfl,rfl⟩:=hrel
   go_wp2
   go_ret
   exact⟨_,rfl,rfl,HF.out⟩
theorem refKey_all (cls cap:Int) (lv:Value) (L:List ByteArray) (w:World) (h:Lf w lv L) (hL:L.length≤64) (hS:∀ x∈L,x.size≤32) :
  Calls Tryz.prog 102 #[.agg #[.int .i64 cls,.int .i64 cap,lv]] w (RetV fun v w'=>v=.string (keyB (keyL cls L))∧Frm [] w w'):=by
 cases L with
 | nil=>exact refKey_nil cls cap lv w h
 | cons x l=>exact refKey_any cls cap lv _ w h hL hS (by simp)
end Go.Proofs.YtkphhjekfimmlaaGreat
namespace Go.Proofs.YtkphhjekfimmlaaGreat
open Go.RowKit Go.BigFrame
abbrev encM (m:Mv):Array Value:=#[.int .i64 m.kind,.int .i64 m.role,.int .i64 m.step,.int .i64 m.place]
theorem Tryz.undMv:Tryz.prog.underlying 45=some (.struct (Tryz.prog.fieldsOf 45)):=by kernel_rfl
set_option maxHeartbeats 1000000 in
set_option maxRecDepth 100000 in
theorem eql_move (a b:Mv) (w:World):(binOp .eql 45 (.agg (encM a)) (.agg (encM b))).run Tryz.prog w=.ok (.bool (decide (a=b))) w:=by
 have h:(Op.equalIn (9999 + 1) 45 (.agg (encM a)) (.agg (encM b))).run Tryz.prog w=.ok (decide (a=b)) w:=by
  rw[run_equalIn_struct w 9999 45 _ _ Tryz.undMv (by kernel_rfl)]
  simp[go_sem,encM,Tryz.underlying45]
  obtain⟨a1,a2,a3,a4⟩:=a
  obtain⟨b1,b2,b3,b4⟩:=b
  simp only[Mv.mk.injEq]
  repeat' split
  all_goals simp[*]
 simp only[binOp]
 simp[show Op.equal 45 (.agg (encM a)) (.agg (encM b))=Op.equalIn (9999 + 1) 45 (.agg (encM a)) (.agg (encM b)) from rfl,h]
set_option maxHeartbeats 1000000 in
theorem inMove_any (v:Value) (xs:List Mv) (y:Mv) (w:World) (h:Arr 4 MvAt w v xs) (hl:xs.length≤5000) :
  Calls Tryz.prog 130 #[v,.agg (encM y)] w (Ret (.int .i64 (ixf (fun x=>decide (y=x)) xs)) (Frm [] w)):=by
 obtain⟨ao,cap,rfl,hx⟩:=h
 have HX:=Lib.hid hx
 obtain⟨n,hn⟩:∃ n,xs.length=n:=⟨_,rfl⟩
 rw[hn] at hl ⊢
 have HN:=Lib.hid hn
 obtain⟨W0,hW0⟩:∃ W0,w.alloc (.cells (encM y) 45)=W0:=⟨_,rfl⟩
 have HW0:Hid (Frm [] w W0):=Lib.hid (by rw[← hW0];exact(Frm.refl _ _).alloc _)
 have HB:Hid (W0.heap[w.heap.size]?=some (.cells (encM y) 45 (0,0))):=Lib.hid (by rw[← hW0];exact heap_alloc_new w _)
 have HE:=Lib.hid hW0
 clear hx hn hW0
 go_enter Tryz.func130,Tryz.ntmps130
 go_wp2_with (refine wpList_box_row rfl 45 _ rfl (encM y) rfl ?_;rw[HE.out])
 clear HE
 go_loopw [8,5] (fun s8 s5 wr=>∃ i:Nat,s8=.int .i64 i∧i≤n∧Frm [] W0 wr∧∀ j x,j < i→xs[j]?=some x→decide (y=x)=false) (fun s8 _ _=>n - (intOf s8).toNat)
 case atStart=>exact⟨0,rfl,Nat.zero_le _,Frm.refl _ _,fun j x hj=>by omega⟩
 case round =>
  obtain⟨i,rfl,hi,hf,hno⟩:=hrel
  have HF:=Lib.hid hf;have HNO:=Lib.hid hno
  clear hf hno
  by_cases hlt:i < n
  ·have hlt':(i:Int) < (n:Int):=by omega
   obtain⟨x,hx⟩:∃ x,xs[i]?=some x:=⟨_,List.getElem?_eq_getElem (by rw[HN.out];exact hlt)⟩
   obtain⟨b,o,rfl,hat⟩:=HX.out i x hx
   obtain⟨c0,c1,c2,c3⟩:=hat.frm (HW0.out.trans HF.out)
   have hbb:=HF.out.at HB.out (by simp)
   have d0:wr.cell? ⟨w.heap.size,0,none⟩=some (.int .i64 y.kind):=cell_of hbb 0
   have d1:wr.cell? ⟨w.heap.size,1,none⟩=some (.int .i64 y.role):=cell_of hbb 1
   have d2:wr.cell? ⟨w.heap.size,2,none⟩=some (.int .i64 y.step):=cell_of hbb 2
   have d3:wr.cell? ⟨w.heap.size,3,none⟩=some (.int .i64 y.place):=cell_of hbb 3
   have hq:∀ V,(binOp .eql 45 (mvV y) (mvV x)).run Tryz.prog V=.ok (.bool (decide (y=x))) V:=fun V=>eql_move y x V
   have HXI:=Lib.hid hx
   clear hat hx hbb
   cases hpx:decide (y=x) with
   | true =>
     rw[hpx] at hq
     have HPX:=Lib.hid hpx
     clear hpx
     go_wp2
     go_quiet (fail)
     go_wp2
     go_ret
     exact⟨by rw[ixf_some HXI.out HPX.out HNO.out];rfl,HW0.out.trans (HF.out.drewN _)⟩
   | false =>
     rw[hpx] at hq
     have HPX:=Lib.hid hpx
     clear hpx
     go_wp2
     go_quiet (fail)
     go_wp2
     refine⟨⟨i + 1,by simp,hlt,HF.out.drewN _,fun j z hj hz=>?_⟩,by simp[intOf];omega⟩
     by_cases e:j=i
     ·subst e;rw[HXI.out] at hz;cases hz;exact HPX.out
     ·exact HNO.out j z (by omega) hz
  ·have hge:¬ (i:Int) < (n:Int):=by omega
   go_wp2
   go_ret
   refine⟨?_,HW0.out.trans HF.out⟩
   have e:=ixf_none (p:=fun x=>decide (y=x)) (l:=xs) fun x hx=>by
    obtain⟨j,hj⟩:=List.getElem?_of_mem hx
    exact HNO.out j x (by have:=lt_of_some hj;rw[HN.out] at this;omega) hj
   rw[e];rfl
theorem mem_ixm {xs:List Mv} {y:Mv}:decide (0≤ixf (fun x=>decide (y=x)) xs)=decide (y∈xs):=by
 by_cases h:y∈xs
 ·rw[decide_eq_true (ixf_ex (p:=fun x=>decide (y=x)) h (by simp)),decide_eq_true h]
 ·rw[decide_eq_false h,decide_eq_false]
  intro h2
  obtain⟨i,hi,-⟩:=ixf_nat h2
  obtain⟨x,h3,h4,-⟩:=ixf_at hi
  rw[decide_eq_true_eq] at h4
  subst h4
  exact h (List.mem_of_getElem? h3)
set_option maxHeartbeats 1000000 in
theorem coMove_any (v:Value) (xs:List Mv) (y:Mv) (w:World) (h:Arr 4 MvAt w v xs) (hl:xs.length≤5000) :
  Calls Tryz.prog 73 #[v,.agg (encM y)] w (Ret (.bool (decide (y∈xs))) (Frm [] w)):=by
 obtain⟨ao,cap,e,-⟩:=id h
 subst e
 have hf0:Frm [] w (w.alloc (.cells (encM y) 45)):=(Frm.refl _ _).alloc _
 have C1:=Lib.hid (inMove_any (.slice ao xs.length cap) xs y (w.alloc (.cells (encM y) 45)) (h.frm fun _ _ _ h=>h.frm hf0) hl)
 have HF0:=Lib.hid hf0
 rw[← mem_ixm]
 obtain⟨q,hq⟩:∃ q,ixf (fun x=>decide (y=x)) xs=q:=⟨_,rfl⟩
 rw[hq] at C1 ⊢
 have hb:(w.alloc (.cells (encM y) 45)).heap[w.heap.size]?=some (.cells (encM y) 45 (0,0)):=heap_alloc_new w _
 obtain⟨W0,hW0⟩:∃ W0,w.alloc (.cells (encM y) 45)=W0:=⟨_,rfl⟩
 rw[hW0] at C1 HF0 hb
 have HB:=Lib.hid hb
 have HW:=Lib.hid hW0
 clear h hf0 hq hW0 hb
 go_enter Tryz.func73,Tryz.ntmps73
 go_wp2_with (first
  | (refine wpList_box_row rfl 45 _ rfl (encM y) rfl ?_;rw[HW.out])
  | (refine wpList_load_whole rfl 45 _ rfl _ rfl _ 45 HB.out _ Tryz.underlying45 rfl (by kernel_rfl) ?_)
  | (go_at_call 130;go_must (refine C1.out.mono ?_;rintro e w1 ⟨rfl,hf1⟩;have HF1:=Lib.hid hf1;clear hf1)))
 go_ret
 exact⟨rfl,HF0.out.trans HF1.out⟩
end Go.Proofs.YtkphhjekfimmlaaGreat
namespace Go.Proofs.YtkphhjekfimmlaaGreat
open Go.ChangeShapes Go.WideShapes Go.ChangeAt Go.RowKit
theorem trodAll_below {H:Type} {enc:TypeId × Value→H} {P:Program} (hl:laidOutB P=true) {W W':World} (hb:Below W.heap.size W W'):∀ (ts:List TypeId) (vs:List Value) (ds:List (DataW H)) (ps:List MemPlace),
  (ts.all fun t=>P.readableRec t && decide (t < P.types.size))=true→DataW.TrodAll enc P W 0 (fun _=>true) true ts vs ds ps→(∀ x∈ps,x.block < W.heap.size) →
  DataW.TrodAll enc P W' 0 (fun b=>decide (b < W.heap.size)) true ts vs ds ps
 | [],vs,ds,ps,_,h,_=>by
   obtain⟨rfl,rfl,rfl⟩:=trodAll_nil h
   exact rfl
 | t :: ts,vs,ds,ps,ht,h,hlt=>by
   obtain⟨v,vs',d,ds',p,q,rfl,rfl,rfl,h1,h2⟩:=trodAll_cons h
   simp only[List.all_cons,Bool.and_eq_true,decide_eq_true_eq] at ht
   exact⟨p,q,Below.trod hl ht.1.1 ht.1.2 h1 hb (fun x hx=>hlt x (by simp[hx])),trodAll_below hl hb ts vs' ds' q ht.2 h2 (fun x hx=>hlt x (by simp[hx])),rfl⟩
theorem trodAll_length {H:Type} {enc:TypeId × Value→H} {P:Program} {W:World} {base:Nat} {sp:Nat→Bool} {held:Bool}:∀ (ts:List TypeId) (vs:List Value) (ds:List (DataW H)) (ps:List MemPlace),
  DataW.TrodAll enc P W base sp held ts vs ds ps→ds.length=ts.length
 | [],vs,ds,ps,h=>by
   obtain⟨rfl,rfl,rfl⟩:=trodAll_nil h
   rfl
 | t :: ts,vs,ds,ps,h=>by
   obtain⟨v,vs',d,ds',p,q,rfl,rfl,rfl,h1,h2⟩:=trodAll_cons h
   simp[trodAll_length ts vs' ds' q h2]
theorem law_lifted {C:Checked} (own:ownKnob C.prog.godebug=none) (laid:laidOutB C.prog=true) {os:Os} (started:os.Started) {H:Type} (enc:TypeId × Value→H) (f:FuncId) (fn:Func) (s:ChangeSpec) (tb:TypeId)
  (noInit:C.prog.inits.idxOf? f=none) (hfn:C.prog.funcs[f]?=some fn)
  (witness:∃ (w:World) (tape:Tape) (i:Input),w.os=os∧(w.forCall tape i).Shaped C.prog∧i.vars=[]∧Input.okWide C.prog (w.forCall tape i) .any w.heap.size f i ∧
   s.pre6 enc C.prog fn [] false (w.forCall tape i).memory i.args∧({}:Assume).holds C.prog (lone (Frame.enter C.prog f i.args .normal) [] (w.forCall tape i)))
  (hv:s.vars=[]) (hrt:fn.resultTypes=#[tb]) (htb:C.prog.underlying tb=some .bool)
  (hts:(fn.params.toList.all fun t=>C.prog.readableRec t && decide (t < C.prog.types.size))=true)
  (hspec:∀ ds:List (DataW H),ds.length=fn.params.toList.length→s.fn H ds={ results:=[.lit (.bool true)],args:=ds })
  (walk:∀ (W:World) (base:Nat) (args:Array Value) (ds:List (DataW H)) (p:List MemPlace),
   (∀ (j:Nat) t v,fn.params[j]?=some t→args[j]?=some v→Value.okWide C.prog W .any base t v) →
   DataW.TrodAll enc C.prog W 0 (fun _=>true) true fn.params.toList args.toList ds p →
   (∀ x∈p,x.block < W.heap.size) →
   (DataW.weightsEach C.prog fn.params.toList ds).all (·≤reachBytes)=true →
   Calls C.prog f args W (Ret (.bool true) (Frm [] W))) :
  ReturnsInHanded {} C os f .any (s.pre6 enc C.prog fn [] false) (s.post enc C.prog fn false true false false):=by
 refine returnsInHanded_of_change_sized (C:=C) own started noInit hfn witness ?_
 intro W base args ds gs before hval hW _ hsz _
 have hvt:s.plain.varTypes C.prog=[]:=by
  simp[DataSpec.varTypes,ChangeSpec.plain,hv]
 have hW':=hW
 obtain⟨p,q,hA,hV,rfl,_,_⟩:=hW
 rw[hv] at hV
 obtain⟨rfl,rfl⟩:=trodVars_none hV
 simp only[List.append_nil] at hW'
 rw[hvt,List.append_nil,List.append_nil] at hsz
 have hlt:∀ x∈p,x.block < W.heap.size:=fun x hx=>by simpa using hW'.lt x hx
 refine(walk W base args ds p hval hA hlt hsz).mono ?_
 rintro e W' ⟨rfl,hf⟩
 have hB:Below W.heap.size W W':=hf.below (Nat.le_refl _) (by simp)
 have hsp:=hspec ds (trodAll_length _ _ _ _ hA)
 refine⟨_,rfl,ds,[],p,[],p,[],hW',?_,?_,?_,hB.frame _,fun h=>by cases h⟩
 ·rw[List.append_nil,hsp,hrt]
  exact trodAll_mk1 (shut_bool htb _)
 ·rw[List.append_nil,hsp]
  exact trodAll_below laid hB _ _ _ _ hts hA hlt
 ·rw[List.append_nil,hsp,hv]
  rfl
end Go.Proofs.YtkphhjekfimmlaaGreat
namespace Go.Proofs.YtkphhjekfimmlaaGreat
open Go.RowKit Go.BigFrame
theorem Tryz.call_pFinal1 (args:Array Value) (w:World):(callFunc 104 args).run Tryz.prog w=.ok (.enter 104 args) w:=by kernel_rfl
set_option maxRecDepth 100000 in
theorem pFinal1_any (cb:Nat) (cls cap:Int) (L:List ByteArray) (F:List Nat) (w:World) (h:Chn w cb cls cap L F):Calls Tryz.prog 104 #[.pointer (some ⟨cb,0,none⟩)] w (Ret (.bool (decide (0 < L.length))) (Frm [] w)):=by
 have CL:=Lib.hid (len_any h)
 have e:decide (0 < L.length)=decide ((0:Int) < (L.length:Int)):=by rw[decide_eq_decide];omega
 rw[e]
 clear h e
 go_enter Tryz.func104,Tryz.ntmps104
 go_wp2_with (go_at_call 71;go_must (refine CL.out.mono ?_;rintro e w1 ⟨rfl,hf⟩;have HF:=Lib.hid hf;clear hf))
 go_ret
 exact⟨by simp,HF.out⟩
def busyB (Ls:List (List ByteArray)):Bool:=Ls.any fun l=>decide (0 < l.length)
theorem busy_ixf (Ls:List (List ByteArray)):decide (0≤ixf (fun l=>decide (0 < l.length)) Ls)=busyB Ls:=by
 unfold busyB
 rw[Bool.eq_iff_iff,decide_eq_true_eq,List.any_eq_true]
 constructor
 ·intro h
  obtain⟨i,hi,-⟩:=ixf_nat h
  obtain⟨x,h1,h2,-⟩:=ixf_at hi
  exact⟨x,List.mem_of_getElem? h1,h2⟩
 ·rintro⟨x,h1,h2⟩
  exact ixf_ex h1 h2
set_option maxRecDepth 100000 in
theorem cfChan_any (cls cap:Int) (v:Value) (Ls:List (List ByteArray)) (w:World) (h:RowV cls cap w v Ls) (hl:Ls.length≤1000):Calls Tryz.prog 103 #[v,.func (.func 104) #[] #[]] w (Ret (.bool (busyB Ls)) (Frm [] w)):=by
 have CI:=Lib.hid (ifChan_any cls cap 104 #[] (fun l=>decide (0 < l.length)) v Ls w h hl Tryz.call_pFinal1 (fun W x cb F _ _ hc=>pFinal1_any cb cls cap x F W hc))
 obtain⟨ao,cq,rfl⟩:=Arr.shape h
 rw[← busy_ixf]
 obtain⟨q,hq⟩:∃ q,ixf (fun l:List ByteArray=>decide (0 < l.length)) Ls=q:=⟨_,rfl⟩
 rw[hq] at CI ⊢
 clear h hl hq
 go_enter Tryz.func103,Tryz.ntmps103
 go_wp2_with (go_at_call 148;go_must (refine CI.out.mono ?_;rintro e w1 ⟨rfl,hf⟩;have HF:=Lib.hid hf;clear hf))
 go_ret
 exact⟨rfl,HF.out⟩
def endB (s:SesD) (x:PS) (i:Nat):Bool:=(x.ways.getD i []).all (fun l=>l.isEmpty) && ((s.rol i).sts.getD (x.at i) dS).fin
theorem busy_all (Ls:List (List ByteArray)):(Ls.all fun l=>l.isEmpty)=!busyB Ls:=by
 unfold busyB
 rw[Bool.eq_iff_iff,List.all_eq_true,Bool.not_eq_true',List.any_eq_false]
 constructor
 ·intro h x hx
  have:=h x hx
  rw[List.isEmpty_iff] at this
  simp[this]
 ·intro h x hx
  have:=h x hx
  rw[decide_eq_true_eq] at this
  rw[List.isEmpty_iff,← List.length_eq_zero_iff];omega
set_option maxHeartbeats 2000000 in
set_option maxRecDepth 100000 in
theorem pFinal_any (s:SesD) (yb fb sb:Nat) (x:PS) (w:World) (h:SyR w s yb fb) (hx:StR w s yb sb x):Calls Tryz.prog 52 #[.pointer (some ⟨yb,0,none⟩),.pointer (some ⟨sb,0,none⟩)] w (Ret (.tuple #[.bool (finalB s x),.int .i64 0]) (Frm [] w)):=by
 have HSY:=Lib.hid h;have HST:=Lib.hid hx
 have C1:=Lib.hid (pCheck_any s yb fb sb x w h hx)
 obtain⟨av,wv,h1,h2,h3⟩:=hx.out
 obtain⟨aa,ca,rfl⟩:=h2.shape
 obtain⟨aw,cw,rfl⟩:=h3.shape
 rw[actsP_len,hx.ok.wl] at h1
 obtain⟨n,hn⟩:∃ n,s.roles.length=n:=⟨_,rfl⟩
 rw[hn] at h1
 have x1:=cell_of h1 1
 have HX1:=Lib.hid x1
 have HN:=Lib.hid hn
 have HFB:Hid (finalB s x=(List.range n).all fun i=>endB s x i):=Lib.hid (by rw[← hn];rfl)
 obtain⟨fb',hfb⟩:∃ b,finalB s x=b:=⟨_,rfl⟩
 rw[hfb] at HFB ⊢
 have hn4:n≤4:=by rw[← hn];exact h.ok.n4
 clear h hx h1 h2 h3 hn hfb
 go_enter Tryz.func52,Tryz.ntmps52
 go_wp2_with (first
  | (go_at_call 56;go_must (refine C1.out.mono ?_;rintro e w' ⟨rfl,rfl⟩)))
 clear x1 C1
 go_loopw [21] (fun s21 wr=>∃ i:Nat,s21=.int .i64 i∧i≤n∧Frm [] w wr∧∀ j,j < i→endB s x j=true) (fun s21 _=>n - (intOf s21).toNat)
 case atStart=>exact⟨0,rfl,Nat.zero_le _,Frm.refl _ _,fun j hj=>by omega⟩
 case round =>
  obtain⟨i,rfl,hi,hf,hno⟩:=hrel
  have HF:=Lib.hid hf;have HNO:=Lib.hid hno
  clear hf hno
  by_cases hlt:i < n
  ·have hlt':(i:Int) < (n:Int):=by omega
   have hin:i < s.roles.length:=by rw[HN.out];exact hlt
   obtain⟨gb,go',cw',rv,y1,y2,y3⟩:=HST.out.row hin
   obtain⟨ab,ao,ac,bb,y4,ha⟩:=HST.out.act hin
   obtain⟨rb,ro,rc,sv,cv,tv,y5,hr⟩:=HSY.out.rol hin
   have hst:(s.rol i).sts[x.at i]?=some ((s.rol i).sts.getD (x.at i) dS):=some_getD (HST.out.ok.pb i hin)
   have hpb:=HST.out.ok.pb i hin
   have hwr:=HST.out.ok.wr i hin
   obtain⟨aS,cS,rfl⟩:=hr.r3.sts.shape
   obtain⟨b1,o1,rfl,-,g1,-⟩:=hr.r3.sts.get hst
   obtain⟨-,d1,-,-,-⟩:=hr
   obtain⟨e0,e1,-⟩:=ha
   rw[HN.out] at y1 y4 y5
   have q:=Option.some.inj (HX1.out.symm.trans y4)
   cases q
   have HEB:Hid (endB s x i=(!busyB (x.ways.getD i []) && ((s.rol i).sts.getD (x.at i) dS).fin)):=Lib.hid (by unfold endB;rw[busy_all])
   obtain⟨Ls,hLs⟩:∃ Ls,x.ways.getD i []=Ls:=⟨_,rfl⟩
   obtain⟨p,hp⟩:∃ p,x.at i=p:=⟨_,rfl⟩
   obtain⟨m,hm⟩:∃ m,(s.rol i).sts.length=m:=⟨_,rfl⟩
   obtain⟨fin,hfi⟩:∃ f,((s.rol i).sts.getD (x.at i) dS).fin=f:=⟨_,rfl⟩
   rw[hfi] at g1 HEB
   rw[hLs] at y3 HEB hwr
   rw[hp] at e0 g1 hpb
   rw[hm] at d1 hpb
   have hpm:(p:Int) < (m:Int):=by omega
   have CF:Hid (∀ V,Frm [] w V→Calls Tryz.prog 103 #[rv,.func (.func 104) #[] #[]] V (Ret (.bool (busyB Ls)) (Frm [] V))):=Lib.hid fun V hV=>cfChan_any s.cls s.cap rv Ls V (y3.frm hV) (by rw[hwr,HN.out];omega)
   obtain⟨bz,hbz⟩:∃ b,busyB Ls=b:=⟨_,rfl⟩
   rw[hbz] at CF HEB
   have HU:Hid (∀ V,Frm [] w V→V.cell? ⟨yb,1,none⟩=some (.slice (some ⟨rb,ro,none⟩) n rc)∧V.cell? ⟨rb,ro + i * 4 + 1,none⟩=some (.slice (some ⟨b1,o1,none⟩) m cS)∧V.cell? ⟨b1,o1 + p * 3 + 1,none⟩=some (.bool fin)):=Lib.hid fun V hV=>⟨hV.keep y5,hV.keep d1,hV.keep g1⟩
   replace y1:=HF.out.keep y1;replace y2:=HF.out.keep y2;replace y4:=HF.out.keep y4;replace e0:=HF.out.keep e0;replace e1:=HF.out.keep e1
   have hl1:=cell_lt y1
   have hl2:=cell_lt y2
   clear hst hwr y3 y5 d1 g1 hLs hp hm hfi hbz hin hpb
   go_upto_region 8 with (first
    | (go_at_call 103;go_must (refine(CF.out _ (HF.out.alloc _)).mono ?_;rintro e w1 ⟨rfl,hf1⟩;have HQ:=Lib.hid (hf1.at (heap_alloc_new wr (.cells #[.int .i64 p,.pointer (some ⟨bb,0,none⟩)] 145)) (by simp));have HF1:Hid (Frm [] w w1):=Lib.hid ((HF.out.alloc _).trans hf1);clear hf1)))
   have HU1:Hid (∀ V,Frm [] w1 V→(V.cell? ⟨yb,1,none⟩=some (.slice (some ⟨rb,ro,none⟩) n rc)∧V.cell? ⟨rb,ro + i * 4 + 1,none⟩=some (.slice (some ⟨b1,o1,none⟩) m cS)∧V.cell? ⟨b1,o1 + p * 3 + 1,none⟩=some (.bool fin))∧V.cell? ⟨wr.heap.size,0,none⟩=some (.int .i64 p)):=Lib.hid fun V hV=>⟨HU.out V (HF1.out.trans hV),hV.keep (cell_of HQ.out 0)⟩
   clear y1 y2 y4 e0 e1 CF hl1 hl2
   have hfalse:endB s x i=false→fb'=false:=fun h=>by
    rw[HFB.out,List.all_eq_false]
    exact⟨i,by simpa using hlt,by rw[h];decide⟩
   have HFA:=Lib.hid hfalse
   clear hfalse
   cases bz with
   | true =>
     have HR:=Lib.hid (HFA.out (by rw[HEB.out];rfl))
     clear HFA
     refine wp_region_cq (by kernel_rfl) (by kernel_rfl) ?_
     repeat (first
      | go_big_quiet_skip
      | (refine wpQuiet_want (by rfl) (fun K hK=>?_)
         first
          | (refine quiet_move _ (by rfl) (hK _ ?_))
          | (refine quiet_assign _ (by rfl) (hK _ ?_))
          | (apply Exists.intro
             refine⟨fun w' hC=>?_,hK _ ?_⟩
             ·(unfold Oper.quietAt
               obtain⟨⟨z1,z2,z3⟩,z4⟩:=HU1.out w' hC
               clear hC
               go_simp
               try exact⟨rfl,rfl⟩
               try rfl))
         clear hK K
         try simp only[nrm,Act.eval,nrq]))
     refine wpQuiet_nil ?_
     intro w2 hf2
     go_wp2
     go_ret2
     exact⟨by rw[HR.out];rfl,HF1.out.trans hf2⟩
   | false =>
     cases fin with
     | false =>
       have HR:=Lib.hid (HFA.out (by rw[HEB.out];rfl))
       clear HFA
       refine wp_region_cq (by kernel_rfl) (by kernel_rfl) ?_
       repeat (first
        | go_big_quiet_skip
        | (refine wpQuiet_want (by rfl) (fun K hK=>?_)
           first
            | (refine quiet_move _ (by rfl) (hK _ ?_))
            | (refine quiet_assign _ (by rfl) (hK _ ?_))
            | (apply Exists.intro
               refine⟨fun w' hC=>?_,hK _ ?_⟩
               ·(unfold Oper.quietAt
                 obtain⟨⟨z1,z2,z3⟩,z4⟩:=HU1.out w' hC
                 clear hC
                 go_simp
                 try exact⟨rfl,rfl⟩
                 try rfl))
           clear hK K
           try simp only[nrm,Act.eval,nrq]))
       refine wpQuiet_nil ?_
       intro w2 hf2
       go_wp2
       go_ret2
       exact⟨by rw[HR.out];rfl,HF1.out.trans hf2⟩
     | true =>
       clear HFA
       refine wp_region_cq (by kernel_rfl) (by kernel_rfl) ?_
       repeat (first
        | go_big_quiet_skip
        | (refine wpQuiet_want (by rfl) (fun K hK=>?_)
           first
            | (refine quiet_move _ (by rfl) (hK _ ?_))
            | (refine quiet_assign _ (by rfl) (hK _ ?_))
            | (apply Exists.intro
               refine⟨fun w' hC=>?_,hK _ ?_⟩
               ·(unfold Oper.quietAt
                 obtain⟨⟨z1,z2,z3⟩,z4⟩:=HU1.out w' hC
                 clear hC
                 go_simp
                 try exact⟨rfl,rfl⟩
                 try rfl))
           clear hK K
           try simp only[nrm,Act.eval,nrq]))
       refine wpQuiet_nil ?_
       intro w2 hf2
       have HF2:=Lib.hid (HF1.out.trans hf2)
       clear hf2
       go_wp2
       refine⟨⟨i + 1,congrArg (Value.int .i64) (by omega),hlt,HF2.out,fun j hj=>?_⟩,by simp[intOf];omega⟩
       by_cases e:j=i
       ·subst e;rw[HEB.out];rfl
       ·exact HNO.out j (by omega)
  ·have hge:¬ (i:Int) < (n:Int):=by omega
   have HR:Hid (fb'=true):=Lib.hid (by
    rw[HFB.out,List.all_eq_true]
    intro j hj
    exact HNO.out j (by rw[List.mem_range] at hj;omega))
   go_wp2
   go_ret2
   exact⟨by rw[HR.out];rfl,HF.out⟩
end Go.Proofs.YtkphhjekfimmlaaGreat
namespace Go.Proofs.YtkphhjekfimmlaaGreat
open Go.RowKit Go.BigFrame
def StTo (w:World) (s:SesD) (yb:Nat) (y:PS) (v:Value) (w':World):Prop:=∃ xb,v=.tuple #[.pointer (some ⟨xb,0,none⟩),.int .i64 0]∧StR w' s yb xb y∧Frm [] w w'
section
variable {w W W':World} {s:SesD} {x:PS} {yb xb ab gb rb cb f t:Nat} {F F':List Nat} {L L':List ByteArray}
theorem ChS.step (h:ChS w s x yb xb ab gb rb cb f t F L W) (hx:PSok s x) (hf:f < s.roles.length) (ht:t < s.roles.length) {i b g p:Nat} {vs:List Int} (hi:i < s.roles.length) (ob:BnkO W b g ((s.rol i).ctrs.zip vs)) (hb:b≠ab) (hg:g≠ab) {y:PS}
  (hy:y={ pos:=x.pos.set i p,vals:=x.vals.set i vs,ways:=setWay x.ways f t L }) (ho:PSok s y) :
  StR ((W.setCell ⟨ab,i * 2,none⟩ (.int .i64 (p:Int))).setCell ⟨ab,i * 2 + 1,none⟩ (.pointer (some ⟨b,0,none⟩))) s yb xb y∧Frm [] w ((W.setCell ⟨ab,i * 2,none⟩ (.int .i64 (p:Int))).setCell ⟨ab,i * 2 + 1,none⟩ (.pointer (some ⟨b,0,none⟩))):=by
 obtain⟨cg,ca,h1,-⟩:=h.ways hx hf ht
 obtain⟨cur,ha⟩:=h.ha
 have hS:Frm [ab] W ((W.setCell ⟨ab,i * 2,none⟩ (.int .i64 (p:Int))).setCell ⟨ab,i * 2 + 1,none⟩ (.pointer (some ⟨b,0,none⟩))):=((Frm.refl [ab] W).setCell _ (.inl (by simp)) _).setCell _ (.inl (by simp)) _
 have hb2:=block_setCell (block_setCell ha (i * 2) (.int .i64 (p:Int))) (i * 2 + 1) (.pointer (some ⟨b,0,none⟩))
 obtain⟨W2,hW2⟩:∃ W2,(W.setCell ⟨ab,i * 2,none⟩ (.int .i64 (p:Int))).setCell ⟨ab,i * 2 + 1,none⟩ (.pointer (some ⟨b,0,none⟩))=W2:=⟨_,rfl⟩
 rw[hW2] at hS hb2 ⊢
 have nx:xb∉[ab]:=fun e=>by simp at e;subst e;rw[h1] at ha;cases ha
 obtain⟨⟨c1,f1,t1⟩,c2,f2,t2⟩:=h.types
 have ng:gb∉[ab]:=fun e=>by simp at e;subst e;rw[t1] at ha;cases ha
 have nr:rb∉[ab]:=fun e=>by simp at e;subst e;rw[t2] at ha;cases ha
 have nF:∀ k∈F,k∉[ab]:=fun k hk e=>by
  obtain⟨c,e',a1,a2⟩:=h.chn.types hk
  simp at e;subst e
  rw[ha] at a1;cases a1
  revert a2;decide
 have hfw:Frm [] w W2:=h.fr.then hS (by intro k hk;simp at hk;subst hk;exact .inr h.new.2.1)
 obtain⟨cr,hr⟩:=h.rowf
 have h':ChS w s x yb xb ab gb rb cb f t F L W→True:=fun _=>trivial
 have hsz:i * 2 + 1 < cur.size:=by
  obtain⟨bb,a1,a2,-⟩:=h.act i hi
  rw[cell_of ha] at a2
  exact(Array.getElem?_eq_some_iff.1 a2).1
 subst hy
 refine⟨⟨⟨_,_,hS.at h1 nx,⟨some ⟨ab,0,none⟩,ca,by rw[actsP_len],fun j a hj=>⟨ab,0,rfl,?_⟩⟩,some ⟨gb,0,none⟩,cg,by rw[setWay_length,hx.wl],fun j R hR=>⟨gb,0,rfl,?_⟩⟩,ho⟩,hfw⟩
 ·have hjl:j < s.roles.length:=by have:=lt_of_some hj;rwa [actsP_len] at this
  rw[actsP_at hjl] at hj
  cases hj
  rw[Nat.zero_add]
  by_cases e:j=i
  ·subst e
   refine⟨b,?_,?_,?_⟩
   ·rw[cell_of hb2,Array.getElem?_setIfInBounds_ne (by omega),Array.getElem?_setIfInBounds_self_of_lt (by omega)]
    simp only[PS.at]
    rw[List.getD_eq_getElem?_getD,List.getElem?_set_self (by rw[hx.pl];exact hi)]
    rfl
   ·rw[cell_of hb2,Array.getElem?_setIfInBounds_self_of_lt (by simp;omega)]
   ·have:=ob.frm hS (by simpa using hb) (by simpa using hg)
    simp only[PS.ctr,PS.bank]
    rw[List.getD_eq_getElem?_getD,List.getElem?_set_self (by rw[hx.vl];exact hi)]
    exact this.bnk
  ·obtain⟨bb,a1,a2,a3⟩:=h.act j hjl
   rw[cell_of ha] at a1 a2
   refine⟨bb,?_,?_,?_⟩
   ·rw[cell_of hb2,Array.getElem?_setIfInBounds_ne (by omega),Array.getElem?_setIfInBounds_ne (by omega),a1]
    simp only[PS.at]
    rw[List.getD_eq_getElem?_getD,List.getD_eq_getElem?_getD,List.getElem?_set_ne (fun h=>e h.symm)]
   ·rw[cell_of hb2,Array.getElem?_setIfInBounds_ne (by omega),Array.getElem?_setIfInBounds_ne (by omega),a2]
   ·have a3':=a3.frm hfw
    unfold PS.ctr PS.bank at a3' ⊢
    rw[List.getD_eq_getElem?_getD] at a3'
    simp only
    rw[List.getD_eq_getElem?_getD,List.getElem?_set_ne (fun h=>e h.symm)]
    exact a3'
 ·have hjl:=lt_of_some hR
  rw[setWay_length,hx.wl] at hjl
  rw[Nat.zero_add,Nat.mul_one]
  unfold setWay at hR
  rw[List.getElem?_set] at hR
  by_cases e:f=j
  ·subst e
   rw[if_pos rfl,if_pos (by rw[hx.wl];exact hjl)] at hR
   cases hR
   refine⟨_,hS.cellAt hr ng,some ⟨rb,0,none⟩,cr,by rw[List.length_set,hx.wr f hf],fun k M hM=>⟨rb,0,rfl,?_⟩⟩
   have hk:=lt_of_some hM
   rw[List.length_set,hx.wr f hf] at hk
   rw[Nat.zero_add,Nat.mul_one]
   rw[List.getElem?_set] at hM
   by_cases e2:t=k
   ·subst e2
    rw[if_pos rfl,if_pos (by rw[hx.wr f hf];exact hk)] at hM
    cases hM
    exact⟨cb,F,hS.cellAt h.cht nr,h.chn.frm hS nF⟩
   ·rw[if_neg e2] at hM
    obtain⟨c,G,a1,a2⟩:=h.chs k hk (fun e=>e2 e.symm)
    have:x.way f k=M:=by unfold PS.way wayOf;exact getD_some hM
    rw[this] at a2
    exact⟨c,G,hS.cellAt a1 nr,a2.frm hfw (by simp)⟩
  ·rw[if_neg e] at hR
   obtain⟨rv,a1,a2⟩:=h.row j hjl (fun e'=>e e'.symm)
   rw[getD_some hR] at a2
   exact⟨rv,hS.cellAt a1 ng,a2.frm hfw⟩
end
theorem setWay_self {ws:List (List (List ByteArray))} {i k:Nat} (hi:i < ws.length) (hk:k < (ws.getD i []).length):setWay ws i k (wayOf ws i k)=ws:=by
 unfold setWay wayOf
 have e1:(ws.getD i []).set k ((ws.getD i []).getD k [])=ws.getD i []:=by
  apply List.ext_getElem?
  intro j
  rw[List.getElem?_set]
  by_cases e:k=j
  ·subst e;rw[if_pos rfl,if_pos hk];exact(some_getD hk).symm
  ·rw[if_neg e]
 rw[e1]
 apply List.ext_getElem?
 intro j
 rw[List.getElem?_set]
 by_cases e:i=j
 ·subst e;rw[if_pos rfl,if_pos hi];exact(some_getD hi).symm
 ·rw[if_neg e]
set_option maxHeartbeats 4000000 in
set_option maxRecDepth 100000 in
theorem pDo_no (s:SesD) (yb fb sb:Nat) (x:PS) (m:Mv) (w:World) (h:SyR w s yb fb) (hx:StR w s yb sb x) (hm:m∉movesP s x) :
  Calls Tryz.prog 24 #[.pointer (some ⟨yb,0,none⟩),.pointer (some ⟨sb,0,none⟩),mvV m] w (Ret (.tuple #[.pointer none,.int .i64 9]) (Frm [] w)):=by
 have HF0:Hid (Frm [] w (w.alloc (.cells (encM m) 45))):=Lib.hid ((Frm.refl [] w).alloc _)
 have C1:=Lib.hid (pCheck_any s yb fb sb x _ (h.frm HF0.out) (hx.frm HF0.out))
 have CM:Hid (∀ V,Frm [] w V→Calls Tryz.prog 57 #[.pointer (some ⟨yb,0,none⟩),.pointer (some ⟨sb,0,none⟩)] V (RetV fun v w'=>Arr 4 MvAt w' v (movesP s x)∧Frm [] V w')):=Lib.hid fun V hV=>pmoves_any s yb fb sb x V (h.frm hV) (hx.frm hV)
 have HLN:Hid ((movesP s x).length≤5000):=Lib.hid (by
  have a1:=stepsMv_len h.ok hx.ok (Nat.le_refl s.roles.length)
  have a2:=losesMv_len (x:=x) h.ok (Nat.le_refl s.roles.length)
  unfold movesP
  rw[List.length_append]
  exact Nat.le_trans (Nat.add_le_add a1 a2) (by decide))
 have HM:Hid (decide (m∈movesP s x)=false):=Lib.hid (decide_eq_false hm)
 have HS:Hid (∀ V,Frm [] (w.alloc (.cells (encM m) 45)) V→V.cell? ⟨w.heap.size,0,none⟩=some (.int .i64 m.kind)∧V.cell? ⟨w.heap.size,1,none⟩=some (.int .i64 m.role)∧V.cell? ⟨w.heap.size,2,none⟩=some (.int .i64 m.step)∧V.cell? ⟨w.heap.size,3,none⟩=some (.int .i64 m.place)):=Lib.hid fun V hV=>by
  have hb:=hV.at (heap_alloc_new w (.cells (encM m) 45)) (by simp)
  exact⟨cell_of hb 0,cell_of hb 1,cell_of hb 2,cell_of hb 3⟩
 clear h hx hm
 go_enter Tryz.func24,Tryz.ntmps24
 go_upto_region 4 with (first
  | (go_at_call 56;go_must (refine C1.out.mono ?_;rintro e w' ⟨rfl,rfl⟩)))
 obtain⟨w0,hw0⟩:∃ w0,w.alloc (.cells (encM m) 45)=w0:=⟨_,rfl⟩
 rw[hw0] at HS HF0
 try rw[hw0]
 clear hw0 C1
 go_region_held3 (fun V=>V.cell? ⟨w.heap.size,0,none⟩=some (.int .i64 m.kind)∧V.cell? ⟨w.heap.size,1,none⟩=some (.int .i64 m.role)∧V.cell? ⟨w.heap.size,2,none⟩=some (.int .i64 m.step)∧V.cell? ⟨w.heap.size,3,none⟩=some (.int .i64 m.place))
  (first
   | exact HS.out _ ((Frm.refl [] w0).drew)
   | exact HS.out _ F1.out
   | exact HS.out _ F2.out)
  (first
   | (go_at_call 57;go_must (refine(CM.out _ HF0.out.drew).mono ?_;rintro e w1 ⟨u,rfl,ha,hf⟩;have F1:Hid (Frm [] w0 w1):=Lib.hid ((Frm.refl [] w0).drew.trans hf);obtain⟨am,cm,rfl⟩:=ha.shape;have CC:=Lib.hid (coMove_any _ _ m w1 ha HLN.out);rw[HM.out] at CC;clear ha hf))
   | (go_at_call 73;go_must (refine CC.out.mono ?_;rintro e w2 ⟨rfl,hf⟩;have F2:Hid (Frm [] w0 w2):=Lib.hid (F1.out.trans hf);clear hf)))
 go_wp2
 go_ret2
 exact⟨rfl,HF0.out.trans F2.out⟩
end Go.Proofs.YtkphhjekfimmlaaGreat
namespace Go.Proofs.YtkphhjekfimmlaaGreat
open Go.RowKit Go.BigFrame
theorem moves_len {s:SesD} {x:PS} (hs:SesOk s) (hx:PSok s x):(movesP s x).length≤5000:=by
 have a1:=stepsMv_len hs hx (Nat.le_refl s.roles.length)
 have a2:=losesMv_len (x:=x) hs (Nat.le_refl s.roles.length)
 unfold movesP
 rw[List.length_append]
 exact Nat.le_trans (Nat.add_le_add a1 a2) (by decide)
set_option maxHeartbeats 4000000 in
set_option maxRecDepth 100000 in
theorem pDo_lose (s:SesD) (yb fb sb i k:Nat) (x:PS) (m:Mv) (w:World) (h:SyR w s yb fb) (hx:StR w s yb sb x) (hm:m∈movesP s x) (hi:i < s.roles.length) (hk:k < s.roles.length) (he:m=⟨2,i,k,0⟩) :
  Calls Tryz.prog 24 #[.pointer (some ⟨yb,0,none⟩),.pointer (some ⟨sb,0,none⟩),mvV m] w (RetV (StTo w s yb (nextP s x m))):=by
 have HEM:=Lib.hid he
 clear he
 have HF0:Hid (Frm [] w (w.alloc (.cells (encM m) 45))):=Lib.hid ((Frm.refl [] w).alloc _)
 have C1:=Lib.hid (pCheck_any s yb fb sb x _ (h.frm HF0.out) (hx.frm HF0.out))
 have CM:Hid (∀ V,Frm [] w V→Calls Tryz.prog 57 #[.pointer (some ⟨yb,0,none⟩),.pointer (some ⟨sb,0,none⟩)] V (RetV fun v w'=>Arr 4 MvAt w' v (movesP s x)∧Frm [] V w')):=Lib.hid fun V hV=>pmoves_any s yb fb sb x V (h.frm hV) (hx.frm hV)
 have HLN:Hid ((movesP s x).length≤5000):=Lib.hid (moves_len h.ok hx.ok)
 have HM:Hid (decide (m∈movesP s x)=true):=Lib.hid (decide_eq_true hm)
 have HS:Hid (∀ V,Frm [] (w.alloc (.cells (encM m) 45)) V→V.cell? ⟨w.heap.size,0,none⟩=some (.int .i64 m.kind)∧V.cell? ⟨w.heap.size,1,none⟩=some (.int .i64 m.role)∧V.cell? ⟨w.heap.size,2,none⟩=some (.int .i64 m.step)∧V.cell? ⟨w.heap.size,3,none⟩=some (.int .i64 m.place)):=Lib.hid fun V hV=>by
  have hb:=hV.at (heap_alloc_new w (.cells (encM m) 45)) (by simp)
  exact⟨cell_of hb 0,cell_of hb 1,cell_of hb 2,cell_of hb 3⟩
 have HSY:=Lib.hid h;have HST:=Lib.hid hx;have HNX:=Lib.hid (next_ok h.ok hx.ok hm)
 clear h hx hm
 go_enter Tryz.func24,Tryz.ntmps24
 go_upto_region 4 with (first
  | (go_at_call 56;go_must (refine C1.out.mono ?_;rintro e w' ⟨rfl,rfl⟩)))
 obtain⟨w0,hw0⟩:∃ w0,w.alloc (.cells (encM m) 45)=w0:=⟨_,rfl⟩
 rw[hw0] at HS HF0
 try rw[hw0]
 clear hw0 C1
 go_region_held3 (fun V=>V.cell? ⟨w.heap.size,0,none⟩=some (.int .i64 m.kind)∧V.cell? ⟨w.heap.size,1,none⟩=some (.int .i64 m.role)∧V.cell? ⟨w.heap.size,2,none⟩=some (.int .i64 m.step)∧V.cell? ⟨w.heap.size,3,none⟩=some (.int .i64 m.place))
  (first
   | exact HS.out _ ((Frm.refl [] w0).drew)
   | exact HS.out _ F1.out
   | exact HS.out _ F2.out)
  (first
   | (go_at_call 57;go_must (refine(CM.out _ HF0.out.drew).mono ?_;rintro e w1 ⟨u,rfl,ha,hf⟩;have F1:Hid (Frm [] w0 w1):=Lib.hid ((Frm.refl [] w0).drew.trans hf);obtain⟨am,cm,rfl⟩:=ha.shape;have CC:=Lib.hid (coMove_any _ _ m w1 ha HLN.out);rw[HM.out] at CC;clear ha hf))
   | (go_at_call 73;go_must (refine CC.out.mono ?_;rintro e w2 ⟨rfl,hf⟩;have F2:Hid (Frm [] w0 w2):=Lib.hid (F1.out.trans hf);clear hf)))
 have G2:Hid (Frm [] w w2):=Lib.hid (HF0.out.trans F2.out)
 have HS2:Hid (∀ V,Frm [] w2 V→V.cell? ⟨w.heap.size,0,none⟩=some (.int .i64 m.kind)∧V.cell? ⟨w.heap.size,1,none⟩=some (.int .i64 m.role)∧V.cell? ⟨w.heap.size,2,none⟩=some (.int .i64 m.step)∧V.cell? ⟨w.heap.size,3,none⟩=some (.int .i64 m.place)):=Lib.hid fun V hV=>HS.out V (F2.out.trans hV)
 clear F1 F2 CC CM HLN HS HF0
 have he:=HEM.out
 subst he
 clear HEM
 have CH:=Lib.hid (pChange_any s yb sb i k x w2 (HST.out.frm G2.out) hi hk HSY.out.ok.n4)
 obtain⟨c0,c1,c2,c3⟩:=HS2.out w2 (Frm.refl _ _)
 have HI:=Lib.hid hi;have HK:=Lib.hid hk
 clear hi hk
 go_wp2_with (first
  | (go_at_call 74;go_must (refine CH.out.mono ?_;rintro e w3 ⟨v,rfl,xb,ab,gb,rb,cb,F,rfl,hc⟩;have HC:=Lib.hid hc;clear hc))
  | (go_at_call 75;go_must (refine(lose_any cb s.cls s.cap (x.way i k) F w3 HC.out.chn).mono ?_;rintro e w4 ⟨rfl,ht⟩;have HT:=Lib.hid ht;clear ht)))
 go_ret2
 obtain⟨F',hc⟩:=HC.out.chan HT.out
 have ho:=HNX.out
 rw[next_lose] at ho ⊢
 have hs:=hc.str HST.out.ok HI.out HK.out ho
 exact⟨_,rfl,_,rfl,hs,G2.out.trans hc.fr⟩
set_option maxHeartbeats 8000000 in
set_option maxRecDepth 100000 in
theorem pDo_step (s:SesD) (yb fb sb i k:Nat) (x:PS) (m:Mv) (w:World) (h:SyR w s yb fb) (hx:StR w s yb sb x) (hm:m∈movesP s x) (hi:i < s.roles.length) (hk:k < (s.rol i).steps.length) (hm2:m∈stepMv s x i k) :
  Calls Tryz.prog 24 #[.pointer (some ⟨yb,0,none⟩),.pointer (some ⟨sb,0,none⟩),mvV m] w (RetV (StTo w s yb (nextP s x m))):=by
 have HMS:=Lib.hid (mem_stepMv hm2)
 have HI:=Lib.hid hi;have HK:=Lib.hid hk
 clear hm2 hi hk
 have HF0:Hid (Frm [] w (w.alloc (.cells (encM m) 45))):=Lib.hid ((Frm.refl [] w).alloc _)
 have C1:=Lib.hid (pCheck_any s yb fb sb x _ (h.frm HF0.out) (hx.frm HF0.out))
 have CM:Hid (∀ V,Frm [] w V→Calls Tryz.prog 57 #[.pointer (some ⟨yb,0,none⟩),.pointer (some ⟨sb,0,none⟩)] V (RetV fun v w'=>Arr 4 MvAt w' v (movesP s x)∧Frm [] V w')):=Lib.hid fun V hV=>pmoves_any s yb fb sb x V (h.frm hV) (hx.frm hV)
 have HLN:Hid ((movesP s x).length≤5000):=Lib.hid (moves_len h.ok hx.ok)
 have HM:Hid (decide (m∈movesP s x)=true):=Lib.hid (decide_eq_true hm)
 have HS:Hid (∀ V,Frm [] (w.alloc (.cells (encM m) 45)) V→V.cell? ⟨w.heap.size,0,none⟩=some (.int .i64 m.kind)∧V.cell? ⟨w.heap.size,1,none⟩=some (.int .i64 m.role)∧V.cell? ⟨w.heap.size,2,none⟩=some (.int .i64 m.step)∧V.cell? ⟨w.heap.size,3,none⟩=some (.int .i64 m.place)):=Lib.hid fun V hV=>by
  have hb:=hV.at (heap_alloc_new w (.cells (encM m) 45)) (by simp)
  exact⟨cell_of hb 0,cell_of hb 1,cell_of hb 2,cell_of hb 3⟩
 have HSY:=Lib.hid h;have HST:=Lib.hid hx;have HNX:=Lib.hid (next_ok h.ok hx.ok hm)
 clear h hx hm
 go_enter Tryz.func24,Tryz.ntmps24
 go_upto_region 4 with (first
  | (go_at_call 56;go_must (refine C1.out.mono ?_;rintro e w' ⟨rfl,rfl⟩)))
 obtain⟨w0,hw0⟩:∃ w0,w.alloc (.cells (encM m) 45)=w0:=⟨_,rfl⟩
 rw[hw0] at HS HF0
 try rw[hw0]
 clear hw0 C1
 go_region_held3 (fun V=>V.cell? ⟨w.heap.size,0,none⟩=some (.int .i64 m.kind)∧V.cell? ⟨w.heap.size,1,none⟩=some (.int .i64 m.role)∧V.cell? ⟨w.heap.size,2,none⟩=some (.int .i64 m.step)∧V.cell? ⟨w.heap.size,3,none⟩=some (.int .i64 m.place))
  (first
   | exact HS.out _ ((Frm.refl [] w0).drew)
   | exact HS.out _ F1.out
   | exact HS.out _ F2.out)
  (first
   | (go_at_call 57;go_must (refine(CM.out _ HF0.out.drew).mono ?_;rintro e w1 ⟨u,rfl,ha,hf⟩;have F1:Hid (Frm [] w0 w1):=Lib.hid ((Frm.refl [] w0).drew.trans hf);obtain⟨am,cm,rfl⟩:=ha.shape;have CC:=Lib.hid (coMove_any _ _ m w1 ha HLN.out);rw[HM.out] at CC;clear ha hf))
   | (go_at_call 73;go_must (refine CC.out.mono ?_;rintro e w2 ⟨rfl,hf⟩;have F2:Hid (Frm [] w0 w2):=Lib.hid (F1.out.trans hf);clear hf)))
 have G2:Hid (Frm [] w w2):=Lib.hid (HF0.out.trans F2.out)
 have HS2:Hid (∀ V,Frm [] w2 V→V.cell? ⟨w.heap.size,0,none⟩=some (.int .i64 m.kind)∧V.cell? ⟨w.heap.size,1,none⟩=some (.int .i64 m.role)∧V.cell? ⟨w.heap.size,2,none⟩=some (.int .i64 m.step)∧V.cell? ⟨w.heap.size,3,none⟩=some (.int .i64 m.place)):=Lib.hid fun V hV=>HS.out V (F2.out.trans hV)
 clear F1 F2 CC CM HLN HS HF0
 obtain⟨mk,mr,ms,hpb,hrest⟩:=HMS.out
 obtain⟨pl,hpl⟩:∃ pl,m.place=pl:=⟨_,rfl⟩
 have HME:Hid (m=⟨1,i,k,pl⟩):=Lib.hid (by obtain⟨a,b,c,d⟩:=m;simp only at mk mr ms hpl;subst mk mr ms hpl;rfl)
 clear HMS mk mr ms hpl hrest
 have hme:=HME.out
 subst hme
 clear HME
 have HS2:Hid (∀ V,Frm [] w2 V→V.cell? ⟨w.heap.size,0,none⟩=some (.int .i64 1)∧V.cell? ⟨w.heap.size,1,none⟩=some (.int .i64 i)∧V.cell? ⟨w.heap.size,2,none⟩=some (.int .i64 k)∧V.cell? ⟨w.heap.size,3,none⟩=some (.int .i64 pl)):=Lib.hid fun V hV=>HS2.out V hV
 obtain⟨rb0,ro0,rc0,sv,cv,tv,y1,hr⟩:=HSY.out.rol HI.out
 obtain⟨aa,ao,ac,bb,a1,hac⟩:=HST.out.act HI.out
 have HBK:=Lib.hid hac.bnk
 have HA0:Hid (∀ V,Frm [] w V→V.cell? ⟨sb,1,none⟩=some (.slice (some ⟨aa,ao,none⟩) s.roles.length ac)∧V.cell? ⟨aa,ao + i * 2 + 1,none⟩=some (.pointer (some ⟨bb,0,none⟩))):=Lib.hid fun V hV=>⟨hV.keep a1,hV.keep hac.c1⟩
 have hto:=(HSY.out.ok.stp HI.out HK.out).to
 obtain⟨pp,hpp,-⟩:=ixf_nat hto
 have HPB:=Lib.hid hpb
 have HOB0:Hid (okB (x.ctr s i) ((s.rol i).stp k)=true):=Lib.hid (by
  rw[okB_bank HSY.out.ok HST.out.ok HI.out HK.out]
  unfold possB at hpb
  simp only[Bool.and_eq_true] at hpb
  exact hpb.1)
 have HCO:=Lib.hid (ctr_ok HSY.out.ok HST.out.ok HI.out)
 have HHC0:=Lib.hid (ctr_has HSY.out.ok HST.out.ok HI.out HK.out)
 have HDB0:=Lib.hid (doC_bank HSY.out.ok HST.out.ok HI.out HK.out)
 have htt:=RolD.stp_some HK.out
 obtain⟨n,hn⟩:∃ n,s.roles.length=n:=⟨_,rfl⟩
 have HN:=Lib.hid hn
 have hin:(i:Int) < (n:Int):=by have:=HI.out;omega
 have hkl:(k:Int) < ((s.rol i).steps.length:Int):=by have:=HK.out;omega
 obtain⟨r,hrr⟩:∃ r,s.rol i=r:=⟨_,rfl⟩
 have HRR:=Lib.hid hrr
 obtain⟨t,ht⟩:∃ t,(s.rol i).stp k=t:=⟨_,rfl⟩
 have HT:=Lib.hid ht
 have HA:=HA0
 have HOB:=HOB0
 have HHC:=HHC0
 have HDB:=HDB0
 rw[hn] at HA y1
 rw[ht] at HOB HHC HDB hpp htt
 rw[hrr] at hr htt hkl hpp
 obtain⟨aS,cS,rfl⟩:=hr.r3.sts.shape
 obtain⟨aC,cC,rfl⟩:=hr.r3.ctrs.shape
 obtain⟨aT,cT,rfl⟩:=hr.r3.steps.shape
 obtain⟨tb,tq,rfl,k0,k1,k2,k3,k4,k5,k6,k7,k8⟩:=hr.r3.steps.get htt
 have CPl0:Hid (∀ V,Frm [] w V→Calls Tryz.prog 79 #[.agg #[.string r.name,.slice aS r.sts.length cS,.slice aC r.ctrs.length cC,.slice (some ⟨tb,tq,none⟩) r.steps.length cT],.string t.to] V (Ret (.int .i64 (pp:Int)) (Frm [] V))):=Lib.hid fun V hV=>by
  rw[← hpp]
  exact pPlace_any _ r t.to V ⟨_,_,_,rfl,hr.r3.frm hV⟩ (by have:=(HSY.out.ok.at HI.out).s24;rw[hrr] at this;omega)
 obtain⟨d0,d1,d2,d3,-⟩:=hr
 obtain⟨nS,hnS⟩:∃ a,r.sts.length=a:=⟨_,rfl⟩
 obtain⟨nC,hnC⟩:∃ a,r.ctrs.length=a:=⟨_,rfl⟩
 obtain⟨nT,hnT⟩:∃ a,r.steps.length=a:=⟨_,rfl⟩
 have CPl:=CPl0
 rw[hnS,hnC,hnT] at CPl
 rw[hnS] at d1
 rw[hnC] at d2
 rw[hnT] at d3 hkl
 have HPP:Hid ((stIx (s.rol i) ((s.rol i).stp k).to).toNat=pp):=Lib.hid (by rw[ht,hrr];show (ixf _ _).toNat=pp;rw[hpp];rfl)
 clear hpb a1 hac hto hpp htt hn hrr ht HA0 HOB0 HHC0 HDB0 CPl0 hnS hnC hnT
 have g:=G2.out
 replace y1:=g.keep y1;replace d0:=g.keep d0;replace d1:=g.keep d1;replace d2:=g.keep d2;replace d3:=g.keep d3
 have c0:=(HS2.out w2 (Frm.refl _ _)).1
 have c1:=(HS2.out w2 (Frm.refl _ _)).2.1
 have hl1:=cell_lt c0
 have hl2:=cell_lt y1
 have hl3:=cell_lt d0
 clear g
 go_upto_region 10 with fail
 go_cut [11] (fun s11 wc=>∃ q11,s11=.pointer (some ⟨q11,0,none⟩)∧wc.heap[q11]?=some (.cells #[.string r.name,.slice aS nS cS,.slice aC nC cC,.slice (some ⟨tb,tq,none⟩) nT cT] 53 (0,0))∧Frm [] w2 wc)
 case first =>
  go_region
  all_goals
   go_wp2
   go_meet
   refine⟨_,rfl,heap_alloc_new _ _,?_⟩
   first
    | exact((Frm.refl [] w2).alloc _).drew
    | exact((Frm.refl [] w2).drew).alloc _
    | exact(Frm.refl [] w2).alloc _
 case rest =>
  obtain⟨q11,rfl,hq,hf⟩:=hcut
  have FW:=Lib.hid hf
  have HQ:=Lib.hid hq
  have g:=G2.out.trans hf
  replace k0:=g.keep k0;replace k1:=g.keep k1;replace k2:=g.keep k2;replace k3:=g.keep k3;replace k4:=g.keep k4;replace k5:=g.keep k5;replace k6:=g.keep k6;replace k7:=g.keep k7;replace k8:=g.keep k8
  have e3:=cell_of hq 3
  have c2:=(HS2.out wc hf).2.2.1
  have hl5:=lt_of_block hq
  have hl6:=cell_lt c2
  clear g hq hf y1 d0 d1 d2 d3 c0 c1 hl1 hl2 hl3
  obtain⟨w5,hw5⟩:∃ w5,wc.alloc (.cells #[.string t.frm,.string t.to,.int .i64 t.kind,.string t.msg,.string t.peer,.string t.ctr,.int .i64 t.low,.int .i64 t.high,.int .i64 t.add] 60)=w5:=⟨_,rfl⟩
  have F5:Hid (Frm [] wc w5):=Lib.hid (by rw[← hw5];exact(Frm.refl _ _).alloc _)
  have B12:Hid (w5.heap[wc.heap.size]?=some (.cells #[.string t.frm,.string t.to,.int .i64 t.kind,.string t.msg,.string t.peer,.string t.ctr,.int .i64 t.low,.int .i64 t.high,.int .i64 t.add] 60 (0,0))):=Lib.hid (by rw[← hw5];exact heap_alloc_new _ _)
  have HE5:=Lib.hid hw5
  clear hw5
  go_upto_region 12 with fail
  rw[HE5.out]
  obtain⟨q12,hq12⟩:∃ q,wc.heap.size=q:=⟨_,rfl⟩
  rw[hq12] at B12 ⊢
  have K5:Hid (Frm [] w2 w5):=Lib.hid (FW.out.trans F5.out)
  have G5:Hid (Frm [] w w5):=Lib.hid (G2.out.trans K5.out)
  have HD11:Hid (∀ V,Frm [] w5 V→V.heap[q11]?=some (.cells #[.string r.name,.slice aS nS cS,.slice aC nC cC,.slice (some ⟨tb,tq,none⟩) nT cT] 53 (0,0))):=Lib.hid fun V hV=>(F5.out.trans hV).at HQ.out (by simp)
  have HD12:Hid (∀ V,Frm [] w5 V→V.heap[q12]?=some (.cells #[.string t.frm,.string t.to,.int .i64 t.kind,.string t.msg,.string t.peer,.string t.ctr,.int .i64 t.low,.int .i64 t.high,.int .i64 t.add] 60 (0,0))):=Lib.hid fun V hV=>hV.at B12.out (by simp)
  clear k0 k1 k2 k3 k4 k5 k6 k7 k8 e3 c2 hl5 hl6 HE5 hq12 B12 HQ F5 FW
  have CHi:=Lib.hid (pChange_any s yb sb i i x w5 (HST.out.frm G5.out) HI.out HI.out HSY.out.ok.n4)
  have KP:=Lib.hid (HSY.out.ok.stp HI.out HK.out)
  rw[HT.out] at KP
  have c1:=(HS2.out w5 K5.out).2.1
  go_upto_region 13 with (first
   | (go_at_call 74;go_must (refine CHi.out.mono ?_;rintro e w6 ⟨v,rfl,xb6,ab6,gb6,rb6,cb6,F6,rfl,hc⟩;have HC6:=Lib.hid hc;clear hc)))
  have G6:Hid (Frm [] w w6):=Lib.hid (G5.out.trans HC6.out.fr)
  have K6:Hid (Frm [] w2 w6):=Lib.hid (K5.out.trans HC6.out.fr)
  have J6:=Lib.hid HC6.out.fr
  have e2:=cell_of (HD12.out w6 J6.out) 2
  clear c1 CHi
  have hkk:t.kind=1∨t.kind=2∨(t.kind≠1∧t.kind≠2):=by omega
  have HB6:Hid (∀ V,Frm [] w6 V→V.cell? ⟨w.heap.size,1,none⟩=some (.int .i64 i)∧V.cell? ⟨w.heap.size,3,none⟩=some (.int .i64 pl)∧V.cell? ⟨q12,3,none⟩=some (.string t.msg)∧V.cell? ⟨q12,4,none⟩=some (.string t.peer)):=Lib.hid fun V hV=>⟨(HS2.out V (K6.out.trans hV)).2.1,(HS2.out V (K6.out.trans hV)).2.2.2,cell_of (HD12.out V (J6.out.trans hV)) 3,cell_of (HD12.out V (J6.out.trans hV)) 4⟩
  rcases hkk with k1 | k2 | ⟨k1,k2⟩
  ·have b1:(t.kind == 1)=true:=by simpa using k1
   have hpe:=HSY.out.ok.peer HI.out HK.out (by rw[HT.out];omega)
   have HNXT:Hid (nextP s x ⟨1,i,k,pl⟩={ pos:=x.pos.set i pp,vals:=x.vals.set i (bankDo (s.rol i).ctrs (x.bank i) t),ways:=setWay x.ways i (peerN s t) (putL s.cap (x.way i (peerN s t)) t.msg) }):=Lib.hid (by
    rw[next_step,HPP.out,HT.out,if_pos k1])
   rw[HT.out] at hpe
   obtain⟨p1,p2,p3⟩:=hpe
   obtain⟨p,hp⟩:∃ p,peerN s t=p:=⟨_,rfl⟩
   rw[hp] at p1 p2 p3 HNXT
   have CNm:Hid (∀ V,Frm [] w V→Calls Tryz.prog 76 #[.pointer (some ⟨yb,0,none⟩),.string t.peer] V (Ret (.int .i64 (p:Int)) (Frm [] V))):=Lib.hid fun V hV=>by
    rw[← p1]
    obtain⟨rv',q1,q2⟩:=(HSY.out.frm hV).out
    exact pNumber_any yb s rv' t.peer V (cell_of q1 1) q2 (by have:=HSY.out.ok.n4;omega)
   have HP2:=Lib.hid p2
   have hwl:=(HST.out.ok.wb i p HI.out p2)
   clear k1 p1 p2 p3 hp
   go_upto_region 15 with fail
   clear e2
   go_region_held3 (fun V=>V.cell? ⟨w.heap.size,1,none⟩=some (.int .i64 i)∧V.cell? ⟨q12,4,none⟩=some (.string t.peer))
    (first
     | exact⟨(HB6.out _ ((Frm.refl [] w6).drew)).1,(HB6.out _ ((Frm.refl [] w6).drew)).2.2.2⟩
     | exact⟨(HB6.out _ F67.out).1,(HB6.out _ F67.out).2.2.2⟩
     | exact⟨(HB6.out _ F68.out).1,(HB6.out _ F68.out).2.2.2⟩)
    (first
     | (go_at_call 76;go_must (refine(CNm.out _ (G6.out.drew)).mono ?_;rintro e w7 ⟨rfl,hf7⟩;have F67:Hid (Frm [] w6 w7):=Lib.hid ((Frm.refl [] w6).drew.trans hf7);have G7:Hid (Frm [] w w7):=Lib.hid (G6.out.trans F67.out);have CH7:=Lib.hid (pChange_any s yb sb i p x w7 (HST.out.frm G7.out) HI.out HP2.out HSY.out.ok.n4);clear hf7))
     | (go_at_call 74;go_must (refine CH7.out.mono ?_;rintro e w8 ⟨v,rfl,xb,ab,gb,rb,cb,F,rfl,hc⟩;have HC8:=Lib.hid hc;have F68:Hid (Frm [] w6 w8):=Lib.hid (F67.out.trans hc.fr);clear hc)))
   have z4:=(HB6.out w8 F68.out).2.2.1
   clear CNm
   clear CH7
   go_wp2_with (first
    | (go_at_call 68;go_must (refine(put_all cb s.cls s.cap (x.way i p) F t.msg w8 HC8.out.chn).mono ?_;rintro e w9 ⟨rfl,ht⟩;have HTO:=Lib.hid ht;clear ht)))
   obtain⟨F',hc9⟩:=HC8.out.chan HTO.out
   have J9:Hid (Frm [] w5 w9):=Lib.hid (J6.out.trans (F67.out.trans hc9.fr))
   have G9:Hid (Frm [] w w9):=Lib.hid (G5.out.trans J9.out)
   have K9:Hid (Frm [] w2 w9):=Lib.hid (K5.out.trans J9.out)
   clear HTO HC8 F67 F68 HB6 z4
   have HC:=Lib.hid hc9
   obtain⟨ca9,cg9,hx9⟩:=hc9.hx
   obtain⟨cur9,ha9⟩:=hc9.ha
   rw[HN.out] at hx9
   clear hc9
   go_upto_region 20 with fail
   have HB9:Hid (∀ V,Frm [] w9 V→V.cell? ⟨sb,1,none⟩=some (.slice (some ⟨aa,ao,none⟩) n ac)∧V.cell? ⟨aa,ao + i * 2 + 1,none⟩=some (.pointer (some ⟨bb,0,none⟩))∧V.cell? ⟨w.heap.size,1,none⟩=some (.int .i64 i)):=Lib.hid fun V hV=>⟨HA.out V (G9.out.trans hV) |>.1,HA.out V (G9.out.trans hV) |>.2,(HS2.out V (K9.out.trans hV)).2.1⟩
   refine wp_region_cqt 9 (by kernel_rfl) (by kernel_rfl) ?_
   simp only[List.take_succ_cons,List.take_zero,List.drop_succ_cons,List.drop_zero]
   repeat (first
    | go_big_quiet_skip
    | (refine wpQuiet_want (by rfl) (fun K hK=>?_)
       first
        | (refine quiet_move _ (by rfl) (hK _ ?_))
        | (refine quiet_assign _ (by rfl) (hK _ ?_))
        | (apply Exists.intro
           refine⟨fun w' hC=>?_,hK _ ?_⟩
           ·(unfold Oper.quietAt
             obtain⟨z1,z2,z3⟩:=HB9.out w' hC
             clear hC
             go_simp
             try exact⟨rfl,rfl⟩
             try rfl))
       clear hK K
       try simp only[nrm,Act.eval,nrq]))
   refine wpQuiet_nil ?_
   intro w10 hf10
   have HC10:=Lib.hid (HC.out.frm hf10)
   have CB:=Lib.hid (bCopy_to bb (x.ctr s i) w10 (HBK.out.frm (G9.out.trans hf10)) (by have:=(ctr_ok HSY.out.ok HST.out.ok HI.out).1;omega))
   have D12:=Lib.hid (HD12.out _ (J9.out.trans hf10))
   have J10:=Lib.hid (J9.out.trans hf10)
   have L10:=Lib.hid hf10
   clear hf10 HB9
   go_wp2_with (first
    | (go_at_call 65;go_must (refine CB.out.mono ?_;rintro e w11 ⟨v,rfl,b,g,rfl,hcp⟩;have HCP:=Lib.hid hcp;have d12:=hcp.frm.at D12.out (by simp);have e0:=cell_of d12 0;have e1:=cell_of d12 1;have e2:=cell_of d12 2;have e3:=cell_of d12 3;have e4:=cell_of d12 4;have e5:=cell_of d12 5;have e6:=cell_of d12 6;have e7:=cell_of d12 7;have e8:=cell_of d12 8;clear hcp d12))
    | (go_at_call 78;go_must (refine(bApply_any b g (x.ctr s i) t w11 HCP.out.bnk HCO.out HHC.out HOB.out).mono ?_;rintro e w12 ⟨rfl,hap⟩;have HAP:=Lib.hid hap;clear hap)))
   go_upto_region 22 with fail
   have s10:=HCP.out.frm.size
   have F12:Hid (Frm [] w10 w12):=Lib.hid (HCP.out.frm.then HAP.out.frm (by intro y hy;simp at hy;subst hy;exact .inr HCP.out.g))
   have HC12:=Lib.hid (HC10.out.frm F12.out)
   have J12:=Lib.hid (J10.out.trans F12.out)
   have x12:=(L10.out.trans F12.out).at hx9 (by simp)
   have hla:ab < w10.heap.size:=by have:=lt_of_block (L10.out.at ha9 (by simp));exact this
   have HNE:Hid (b≠ab∧g≠ab):=Lib.hid ⟨by have:=HCP.out.b;omega,by have:=HCP.out.g;omega⟩
   have HB12:Hid (∀ V,Frm [] w12 V→V.cell? ⟨xb,1,none⟩=some (.slice (some ⟨ab,0,none⟩) n ca9)∧V.cell? ⟨w.heap.size,1,none⟩=some (.int .i64 i)∧V.cell? ⟨q12,1,none⟩=some (.string t.to)):=Lib.hid fun V hV=>⟨hV.keep (cell_of x12 1),(HS2.out V ((K5.out.trans J12.out).trans hV)).2.1,cell_of (HD12.out V (J12.out.trans hV)) 1⟩
   have D11:=Lib.hid (HD11.out w12 J12.out)
   clear x12 hx9 ha9 hla
   refine wp_region_cqt 13 (by kernel_rfl) (by kernel_rfl) ?_
   simp only[List.take_succ_cons,List.take_zero,List.drop_succ_cons,List.drop_zero]
   repeat (first
    | go_big_quiet_skip
    | (refine wpQuiet_want (by rfl) (fun K hK=>?_)
       first
        | (refine quiet_move _ (by rfl) (hK _ ?_))
        | (refine quiet_assign _ (by rfl) (hK _ ?_))
        | (refine cq_call (.int .i64 (pp:Int)) 79 #[.agg #[.string r.name,.slice aS nS cS,.slice aC nC cC,.slice (some ⟨tb,tq,none⟩) nT cT],.string t.to] (fun w' hC=>?_) (fun w' hC=>Ret.cq (CPl.out w' ((G5.out.trans J12.out).trans hC)) (fun w'' h=>hC.trans h)) (hK _ ?_)
           ·go_simp)
        | (refine cq_row 53 _ rfl q11 rfl #[.string r.name,.slice aS nS cS,.slice aC nC cC,.slice (some ⟨tb,tq,none⟩) nT cT] 53 D11.out _ Tryz.underlying53 rfl (by kernel_rfl) (hK _ ?_))
        | (apply Exists.intro
           refine⟨fun w' hC=>?_,hK _ ?_⟩
           ·(unfold Oper.quietAt
             obtain⟨z1,z2,z3⟩:=HB12.out w' hC
             clear hC
             go_simp
             try exact⟨rfl,rfl⟩
             try rfl))
       clear hK K
       try simp only[nrm,Act.eval,nrq]))
   refine wpQuiet_nil ?_
   intro w13 hf13
   have hc13:=HC12.out.frm hf13
   have HC13:=Lib.hid hc13
   obtain⟨cur,ha⟩:=hc13.ha
   obtain⟨bx,a1,a2,-⟩:=hc13.act i HI.out
   have f1:=free_of ha (i * 2)
   have f2:=free_of ha (i * 2 + 1)
   have ob:=HAP.out.bnk.frm hf13 (by simp) (by simp)
   rw[HDB.out] at ob
   have HOB2:=Lib.hid ob
   clear hc13 ha ob hf13 HB12 D11
   go_wp2
   go_ret2
   obtain⟨r1,r2⟩:=HC13.out.step HST.out.ok HI.out HP2.out HI.out HOB2.out HNE.out.1 HNE.out.2 (p:=pp) (y:=nextP s x ⟨1,i,k,pl⟩) HNXT.out HNX.out
   exact⟨_,rfl,_,rfl,r1,G7.out.trans r2⟩
  ·have b1:(t.kind == 1)=false:=by rw[k2];rfl
   have b2:(t.kind == 2)=true:=by simpa using k2
   have hpe:=HSY.out.ok.peer HI.out HK.out (by rw[HT.out];omega)
   have HNXT:Hid (nextP s x ⟨1,i,k,pl⟩={ pos:=x.pos.set i pp,vals:=x.vals.set i (bankDo (s.rol i).ctrs (x.bank i) t),ways:=setWay x.ways (peerN s t) i (takeL s.cls (x.way (peerN s t) i) pl) }):=Lib.hid (by
    rw[next_step,HPP.out,HT.out,if_neg (by omega),if_pos k2])
   rw[HT.out] at hpe
   obtain⟨p1,p2,p3⟩:=hpe
   obtain⟨p,hp⟩:∃ p,peerN s t=p:=⟨_,rfl⟩
   rw[hp] at p1 p2 p3 HNXT
   have CNm:Hid (∀ V,Frm [] w V→Calls Tryz.prog 76 #[.pointer (some ⟨yb,0,none⟩),.string t.peer] V (Ret (.int .i64 (p:Int)) (Frm [] V))):=Lib.hid fun V hV=>by
    rw[← p1]
    obtain⟨rv',q1,q2⟩:=(HSY.out.frm hV).out
    exact pNumber_any yb s rv' t.peer V (cell_of q1 1) q2 (by have:=HSY.out.ok.n4;omega)
   have HP2:=Lib.hid p2
   clear k2 p1 p2 p3 hp
   go_upto_region 18 with fail
   clear e2
   go_region_held3 (fun V=>V.cell? ⟨w.heap.size,1,none⟩=some (.int .i64 i)∧V.cell? ⟨q12,4,none⟩=some (.string t.peer))
    (first
     | exact⟨(HB6.out _ ((Frm.refl [] w6).drew)).1,(HB6.out _ ((Frm.refl [] w6).drew)).2.2.2⟩
     | exact⟨(HB6.out _ F67.out).1,(HB6.out _ F67.out).2.2.2⟩
     | exact⟨(HB6.out _ F68.out).1,(HB6.out _ F68.out).2.2.2⟩)
    (first
     | (go_at_call 76;go_must (refine(CNm.out _ (G6.out.drew)).mono ?_;rintro e w7 ⟨rfl,hf7⟩;have F67:Hid (Frm [] w6 w7):=Lib.hid ((Frm.refl [] w6).drew.trans hf7);have G7:Hid (Frm [] w w7):=Lib.hid (G6.out.trans F67.out);have CH7:=Lib.hid (pChange_any s yb sb p i x w7 (HST.out.frm G7.out) HP2.out HI.out HSY.out.ok.n4);clear hf7))
     | (go_at_call 74;go_must (refine CH7.out.mono ?_;rintro e w8 ⟨v,rfl,xb,ab,gb,rb,cb,F,rfl,hc⟩;have HC8:=Lib.hid hc;have F68:Hid (Frm [] w6 w8):=Lib.hid (F67.out.trans hc.fr);clear hc)))
   have z4:=(HB6.out w8 F68.out).2.1
   clear CNm
   clear CH7
   go_wp2_with (first
    | (go_at_call 77;go_must (refine(take_any cb s.cls s.cap (x.way p i) F pl w8 HC8.out.chn).mono ?_;rintro e w9 ⟨rfl,ht⟩;have HTO:=Lib.hid ht;clear ht)))
   obtain⟨F',hc9⟩:=HC8.out.chan HTO.out
   have J9:Hid (Frm [] w5 w9):=Lib.hid (J6.out.trans (F67.out.trans hc9.fr))
   have G9:Hid (Frm [] w w9):=Lib.hid (G5.out.trans J9.out)
   have K9:Hid (Frm [] w2 w9):=Lib.hid (K5.out.trans J9.out)
   clear HTO HC8 F67 F68 HB6 z4
   have HC:=Lib.hid hc9
   obtain⟨ca9,cg9,hx9⟩:=hc9.hx
   obtain⟨cur9,ha9⟩:=hc9.ha
   rw[HN.out] at hx9
   clear hc9
   go_upto_region 20 with fail
   have HB9:Hid (∀ V,Frm [] w9 V→V.cell? ⟨sb,1,none⟩=some (.slice (some ⟨aa,ao,none⟩) n ac)∧V.cell? ⟨aa,ao + i * 2 + 1,none⟩=some (.pointer (some ⟨bb,0,none⟩))∧V.cell? ⟨w.heap.size,1,none⟩=some (.int .i64 i)):=Lib.hid fun V hV=>⟨HA.out V (G9.out.trans hV) |>.1,HA.out V (G9.out.trans hV) |>.2,(HS2.out V (K9.out.trans hV)).2.1⟩
   refine wp_region_cqt 9 (by kernel_rfl) (by kernel_rfl) ?_
   simp only[List.take_succ_cons,List.take_zero,List.drop_succ_cons,List.drop_zero]
   repeat (first
    | go_big_quiet_skip
    | (refine wpQuiet_want (by rfl) (fun K hK=>?_)
       first
        | (refine quiet_move _ (by rfl) (hK _ ?_))
        | (refine quiet_assign _ (by rfl) (hK _ ?_))
        | (apply Exists.intro
           refine⟨fun w' hC=>?_,hK _ ?_⟩
           ·(unfold Oper.quietAt
             obtain⟨z1,z2,z3⟩:=HB9.out w' hC
             clear hC
             go_simp
             try exact⟨rfl,rfl⟩
             try rfl))
       clear hK K
       try simp only[nrm,Act.eval,nrq]))
   refine wpQuiet_nil ?_
   intro w10 hf10
   have HC10:=Lib.hid (HC.out.frm hf10)
   have CB:=Lib.hid (bCopy_to bb (x.ctr s i) w10 (HBK.out.frm (G9.out.trans hf10)) (by have:=(ctr_ok HSY.out.ok HST.out.ok HI.out).1;omega))
   have D12:=Lib.hid (HD12.out _ (J9.out.trans hf10))
   have J10:=Lib.hid (J9.out.trans hf10)
   have L10:=Lib.hid hf10
   clear hf10 HB9
   go_wp2_with (first
    | (go_at_call 65;go_must (refine CB.out.mono ?_;rintro e w11 ⟨v,rfl,b,g,rfl,hcp⟩;have HCP:=Lib.hid hcp;have d12:=hcp.frm.at D12.out (by simp);have e0:=cell_of d12 0;have e1:=cell_of d12 1;have e2:=cell_of d12 2;have e3:=cell_of d12 3;have e4:=cell_of d12 4;have e5:=cell_of d12 5;have e6:=cell_of d12 6;have e7:=cell_of d12 7;have e8:=cell_of d12 8;clear hcp d12))
    | (go_at_call 78;go_must (refine(bApply_any b g (x.ctr s i) t w11 HCP.out.bnk HCO.out HHC.out HOB.out).mono ?_;rintro e w12 ⟨rfl,hap⟩;have HAP:=Lib.hid hap;clear hap)))
   go_upto_region 22 with fail
   have s10:=HCP.out.frm.size
   have F12:Hid (Frm [] w10 w12):=Lib.hid (HCP.out.frm.then HAP.out.frm (by intro y hy;simp at hy;subst hy;exact .inr HCP.out.g))
   have HC12:=Lib.hid (HC10.out.frm F12.out)
   have J12:=Lib.hid (J10.out.trans F12.out)
   have x12:=(L10.out.trans F12.out).at hx9 (by simp)
   have hla:ab < w10.heap.size:=by have:=lt_of_block (L10.out.at ha9 (by simp));exact this
   have HNE:Hid (b≠ab∧g≠ab):=Lib.hid ⟨by have:=HCP.out.b;omega,by have:=HCP.out.g;omega⟩
   have HB12:Hid (∀ V,Frm [] w12 V→V.cell? ⟨xb,1,none⟩=some (.slice (some ⟨ab,0,none⟩) n ca9)∧V.cell? ⟨w.heap.size,1,none⟩=some (.int .i64 i)∧V.cell? ⟨q12,1,none⟩=some (.string t.to)):=Lib.hid fun V hV=>⟨hV.keep (cell_of x12 1),(HS2.out V ((K5.out.trans J12.out).trans hV)).2.1,cell_of (HD12.out V (J12.out.trans hV)) 1⟩
   have D11:=Lib.hid (HD11.out w12 J12.out)
   clear x12 hx9 ha9 hla
   refine wp_region_cqt 13 (by kernel_rfl) (by kernel_rfl) ?_
   simp only[List.take_succ_cons,List.take_zero,List.drop_succ_cons,List.drop_zero]
   repeat (first
    | go_big_quiet_skip
    | (refine wpQuiet_want (by rfl) (fun K hK=>?_)
       first
        | (refine quiet_move _ (by rfl) (hK _ ?_))
        | (refine quiet_assign _ (by rfl) (hK _ ?_))
        | (refine cq_call (.int .i64 (pp:Int)) 79 #[.agg #[.string r.name,.slice aS nS cS,.slice aC nC cC,.slice (some ⟨tb,tq,none⟩) nT cT],.string t.to] (fun w' hC=>?_) (fun w' hC=>Ret.cq (CPl.out w' ((G5.out.trans J12.out).trans hC)) (fun w'' h=>hC.trans h)) (hK _ ?_)
           ·go_simp)
        | (refine cq_row 53 _ rfl q11 rfl #[.string r.name,.slice aS nS cS,.slice aC nC cC,.slice (some ⟨tb,tq,none⟩) nT cT] 53 D11.out _ Tryz.underlying53 rfl (by kernel_rfl) (hK _ ?_))
        | (apply Exists.intro
           refine⟨fun w' hC=>?_,hK _ ?_⟩
           ·(unfold Oper.quietAt
             obtain⟨z1,z2,z3⟩:=HB12.out w' hC
             clear hC
             go_simp
             try exact⟨rfl,rfl⟩
             try rfl))
       clear hK K
       try simp only[nrm,Act.eval,nrq]))
   refine wpQuiet_nil ?_
   intro w13 hf13
   have hc13:=HC12.out.frm hf13
   have HC13:=Lib.hid hc13
   obtain⟨cur,ha⟩:=hc13.ha
   obtain⟨bx,a1,a2,-⟩:=hc13.act i HI.out
   have f1:=free_of ha (i * 2)
   have f2:=free_of ha (i * 2 + 1)
   have ob:=HAP.out.bnk.frm hf13 (by simp) (by simp)
   rw[HDB.out] at ob
   have HOB2:=Lib.hid ob
   clear hc13 ha ob hf13 HB12 D11
   go_wp2
   go_ret2
   obtain⟨r1,r2⟩:=HC13.out.step HST.out.ok HP2.out HI.out HI.out HOB2.out HNE.out.1 HNE.out.2 (p:=pp) (y:=nextP s x ⟨1,i,k,pl⟩) HNXT.out HNX.out
   exact⟨_,rfl,_,rfl,r1,G7.out.trans r2⟩
  ·have b1:(t.kind == 1)=false:=by simpa using k1
   have b2:(t.kind == 2)=false:=by simpa using k2
   have HNXT:Hid (nextP s x ⟨1,i,k,pl⟩={ pos:=x.pos.set i pp,vals:=x.vals.set i (bankDo (s.rol i).ctrs (x.bank i) t),ways:=setWay x.ways i i (x.way i i) }):=Lib.hid (by
    rw[next_step,HPP.out,HT.out,if_neg k1,if_neg k2]
    unfold PS.way
    rw[setWay_self (by rw[HST.out.ok.wl];exact HI.out) (by rw[HST.out.ok.wr i HI.out];exact HI.out)])
   clear k1 k2
   obtain⟨w9,hw9⟩:∃ w9,w9=w6:=⟨_,rfl⟩
   subst hw9
   have hc9:=HC6.out
   have J9:=J6
   have G9:=G6
   have K9:=K6
   clear HB6
   have HC:=Lib.hid hc9
   obtain⟨ca9,cg9,hx9⟩:=hc9.hx
   obtain⟨cur9,ha9⟩:=hc9.ha
   rw[HN.out] at hx9
   clear hc9
   go_upto_region 20 with fail
   have HB9:Hid (∀ V,Frm [] w9 V→V.cell? ⟨sb,1,none⟩=some (.slice (some ⟨aa,ao,none⟩) n ac)∧V.cell? ⟨aa,ao + i * 2 + 1,none⟩=some (.pointer (some ⟨bb,0,none⟩))∧V.cell? ⟨w.heap.size,1,none⟩=some (.int .i64 i)):=Lib.hid fun V hV=>⟨HA.out V (G9.out.trans hV) |>.1,HA.out V (G9.out.trans hV) |>.2,(HS2.out V (K9.out.trans hV)).2.1⟩
   refine wp_region_cqt 9 (by kernel_rfl) (by kernel_rfl) ?_
   simp only[List.take_succ_cons,List.take_zero,List.drop_succ_cons,List.drop_zero]
   repeat (first
    | go_big_quiet_skip
    | (refine wpQuiet_want (by rfl) (fun K hK=>?_)
       first
        | (refine quiet_move _ (by rfl) (hK _ ?_))
        | (refine quiet_assign _ (by rfl) (hK _ ?_))
        | (apply Exists.intro
           refine⟨fun w' hC=>?_,hK _ ?_⟩
           ·(unfold Oper.quietAt
             obtain⟨z1,z2,z3⟩:=HB9.out w' hC
             clear hC
             go_simp
             try exact⟨rfl,rfl⟩
             try rfl))
       clear hK K
       try simp only[nrm,Act.eval,nrq]))
   refine wpQuiet_nil ?_
   intro w10 hf10
   have HC10:=Lib.hid (HC.out.frm hf10)
   have CB:=Lib.hid (bCopy_to bb (x.ctr s i) w10 (HBK.out.frm (G9.out.trans hf10)) (by have:=(ctr_ok HSY.out.ok HST.out.ok HI.out).1;omega))
   have D12:=Lib.hid (HD12.out _ (J9.out.trans hf10))
   have J10:=Lib.hid (J9.out.trans hf10)
   have L10:=Lib.hid hf10
   clear hf10 HB9
   go_wp2_with (first
    | (go_at_call 65;go_must (refine CB.out.mono ?_;rintro e w11 ⟨v,rfl,b,g,rfl,hcp⟩;have HCP:=Lib.hid hcp;have d12:=hcp.frm.at D12.out (by simp);have e0:=cell_of d12 0;have e1:=cell_of d12 1;have e2:=cell_of d12 2;have e3:=cell_of d12 3;have e4:=cell_of d12 4;have e5:=cell_of d12 5;have e6:=cell_of d12 6;have e7:=cell_of d12 7;have e8:=cell_of d12 8;clear hcp d12))
    | (go_at_call 78;go_must (refine(bApply_any b g (x.ctr s i) t w11 HCP.out.bnk HCO.out HHC.out HOB.out).mono ?_;rintro e w12 ⟨rfl,hap⟩;have HAP:=Lib.hid hap;clear hap)))
   go_upto_region 22 with fail
   have s10:=HCP.out.frm.size
   have F12:Hid (Frm [] w10 w12):=Lib.hid (HCP.out.frm.then HAP.out.frm (by intro y hy;simp at hy;subst hy;exact .inr HCP.out.g))
   have HC12:=Lib.hid (HC10.out.frm F12.out)
   have J12:=Lib.hid (J10.out.trans F12.out)
   have x12:=(L10.out.trans F12.out).at hx9 (by simp)
   have hla:ab6 < w10.heap.size:=by have:=lt_of_block (L10.out.at ha9 (by simp));exact this
   have HNE:Hid (b≠ab6∧g≠ab6):=Lib.hid ⟨by have:=HCP.out.b;omega,by have:=HCP.out.g;omega⟩
   have HB12:Hid (∀ V,Frm [] w12 V→V.cell? ⟨xb6,1,none⟩=some (.slice (some ⟨ab6,0,none⟩) n ca9)∧V.cell? ⟨w.heap.size,1,none⟩=some (.int .i64 i)∧V.cell? ⟨q12,1,none⟩=some (.string t.to)):=Lib.hid fun V hV=>⟨hV.keep (cell_of x12 1),(HS2.out V ((K5.out.trans J12.out).trans hV)).2.1,cell_of (HD12.out V (J12.out.trans hV)) 1⟩
   have D11:=Lib.hid (HD11.out w12 J12.out)
   clear x12 hx9 ha9 hla
   refine wp_region_cqt 13 (by kernel_rfl) (by kernel_rfl) ?_
   simp only[List.take_succ_cons,List.take_zero,List.drop_succ_cons,List.drop_zero]
   repeat (first
    | go_big_quiet_skip
    | (refine wpQuiet_want (by rfl) (fun K hK=>?_)
       first
        | (refine quiet_move _ (by rfl) (hK _ ?_))
        | (refine quiet_assign _ (by rfl) (hK _ ?_))
        | (refine cq_call (.int .i64 (pp:Int)) 79 #[.agg #[.string r.name,.slice aS nS cS,.slice aC nC cC,.slice (some ⟨tb,tq,none⟩) nT cT],.string t.to] (fun w' hC=>?_) (fun w' hC=>Ret.cq (CPl.out w' ((G5.out.trans J12.out).trans hC)) (fun w'' h=>hC.trans h)) (hK _ ?_)
           ·go_simp)
        | (refine cq_row 53 _ rfl q11 rfl #[.string r.name,.slice aS nS cS,.slice aC nC cC,.slice (some ⟨tb,tq,none⟩) nT cT] 53 D11.out _ Tryz.underlying53 rfl (by kernel_rfl) (hK _ ?_))
        | (apply Exists.intro
           refine⟨fun w' hC=>?_,hK _ ?_⟩
           ·(unfold Oper.quietAt
             obtain⟨z1,z2,z3⟩:=HB12.out w' hC
             clear hC
             go_simp
             try exact⟨rfl,rfl⟩
             try rfl))
       clear hK K
       try simp only[nrm,Act.eval,nrq]))
   refine wpQuiet_nil ?_
   intro w13 hf13
   have hc13:=HC12.out.frm hf13
   have HC13:=Lib.hid hc13
   obtain⟨cur,ha⟩:=hc13.ha
   obtain⟨bx,a1,a2,-⟩:=hc13.act i HI.out
   have f1:=free_of ha (i * 2)
   have f2:=free_of ha (i * 2 + 1)
   have ob:=HAP.out.bnk.frm hf13 (by simp) (by simp)
   rw[HDB.out] at ob
   have HOB2:=Lib.hid ob
   clear hc13 ha ob hf13 HB12 D11
   go_wp2
   go_ret2
   obtain⟨r1,r2⟩:=HC13.out.step HST.out.ok HI.out HI.out HI.out HOB2.out HNE.out.1 HNE.out.2 (p:=pp) (y:=nextP s x ⟨1,i,k,pl⟩) HNXT.out HNX.out
   exact⟨_,rfl,_,rfl,r1,G5.out.trans r2⟩
end Go.Proofs.YtkphhjekfimmlaaGreat
namespace Go.Proofs.YtkphhjekfimmlaaGreat
open Go.RowKit Go.BigFrame
theorem pDo_yes (s:SesD) (yb fb sb:Nat) (x:PS) (m:Mv) (w:World) (h:SyR w s yb fb) (hx:StR w s yb sb x) (hm:m∈movesP s x) :
  Calls Tryz.prog 24 #[.pointer (some ⟨yb,0,none⟩),.pointer (some ⟨sb,0,none⟩),mvV m] w (RetV (StTo w s yb (nextP s x m))):=by
 rcases mem_movesP.1 hm with ⟨i,k,hi,hk,h2⟩ | ⟨i,k,hi,hk,h2⟩
 ·exact pDo_step s yb fb sb i k x m w h hx hm hi hk h2
 ·exact pDo_lose s yb fb sb i k x m w h hx hm hi hk (mem_loseMv.1 h2).1
def MvsTo (w:World) (L:List Mv) (v:Value) (w':World):Prop:=∃ B u,v=.func (.func 110) #[] #[.pointer (some ⟨B,0,none⟩)]∧MvI B u L w'∧Frm [] w w'∧w.heap.size≤B
set_option maxHeartbeats 2000000 in
set_option maxRecDepth 100000 in
theorem pMoves_any (s:SesD) (yb fb sb:Nat) (x:PS) (w:World) (h:SyR w s yb fb) (hx:StR w s yb sb x):Calls Tryz.prog 16 #[.pointer (some ⟨yb,0,none⟩),.pointer (some ⟨sb,0,none⟩)] w (RetV (MvsTo w (movesP s x))):=by
 have C1:=Lib.hid (pCheck_any s yb fb sb x w h hx)
 have C2:=Lib.hid (pmoves_any s yb fb sb x w h hx)
 clear h hx
 go_enter Tryz.func16,Tryz.ntmps16
 go_wp2_with (first
  | (go_at_call 56;go_must (refine C1.out.mono ?_;rintro e w' ⟨rfl,rfl⟩))
  | (go_at_call 57;go_must (refine C2.out.mono ?_;rintro e w1 ⟨v,rfl,ha,hf⟩;obtain⟨ao,cq,rfl⟩:=ha.shape;have HA:=Lib.hid ha;have HF:=Lib.hid hf;have C3:=Lib.hid (alMove_any _ (movesP s x) w1 ha);clear ha hf))
  | (go_at_call 58;go_must (refine C3.out.mono ?_;rintro e w2 ⟨v,rfl,rfl,ha,hf⟩;have HB:=Lib.hid ha;have HG:=Lib.hid hf;clear ha hf)))
 go_ret
 exact⟨_,rfl,_,_,rfl,HB.out,HF.out.trans HG.out,HF.out.size⟩
set_option maxHeartbeats 2000000 in
set_option maxRecDepth 100000 in
theorem pSession_any (s:SesD) (yb fb:Nat) (w:World) (h:SyR w s yb fb):Calls Tryz.prog 26 #[.pointer (some ⟨yb,0,none⟩)] w (RetV (OwTo w s)):=by
 have hf0:Frm [] w (w.alloc (.cells #[.string { data:=#[] },.slice none 0 0,.int .i64 0,.int .i64 0] 25)):=(Frm.refl [] w).alloc _
 have C1:=Lib.hid (pNone_any s yb fb _ (h.frm hf0))
 have hok:=h.ok
 obtain⟨rv,h1,h2⟩:=h.out
 have CO:=Lib.hid (pOwn_any s (.agg #[.string s.name,rv,.int .i64 s.cls,.int .i64 s.cap]) _ ⟨rv,rfl,h2.frm hf0⟩ (by have:=hok.n2;omega) hok.n4 (fun r hr=>⟨by have:=(hok.rol r hr).s24;omega,by have:=(hok.rol r hr).c4;omega,by have:=(hok.rol r hr).t80;omega⟩))
 have HF0:=Lib.hid hf0
 have B0:=Lib.hid (heap_alloc_new w (.cells #[.string { data:=#[] },.slice none 0 0,.int .i64 0,.int .i64 0] 25))
 have hl:=lt_of_block h1
 have c0:=cell_of h1 0
 have c1:=cell_of h1 1
 have c2:=cell_of h1 2
 have c3:=cell_of h1 3
 clear h h1 h2 hf0 hok
 go_enter Tryz.func26,Tryz.ntmps26
 go_wp2_with (first
  | (go_at_call 63;go_must (refine C1.out.mono ?_;rintro e w' ⟨rfl,rfl⟩))
  | (go_at_call 60;go_must (refine CO.out.mono ?_;rintro e w1 ⟨v,rfl,ho⟩;obtain⟨g,cg,rfl⟩:=ho.shape;have HO:=Lib.hid ho;have B1:=Lib.hid (ho.frm.at B0.out (by simp));clear ho))
  | (refine wpList_store_row rfl 25 _ _ rfl _ _ _ 25 rfl rfl B1.out rfl (by kernel_rfl) (by simp[Value.oneCell']) ?_;intro w2 hb2 hf2))
 refine bodyPost_ret (results_c1 (d:=_) (Tryz.results26) rfl hb2 rfl Tryz.underlying25 (by kernel_rfl)) rfl ⟨_,rfl,⟨g,cg,rfl⟩,(HF0.out.trans HO.out.frm).then hf2 (by intro y hy;simp at hy;right;omega),fun V hV=>HO.out.ses V ?_⟩
 have hs:=hf2.size
 intro k h1 h2
 rw[hV k (by simp at h1;omega) (by omega)]
 exact hf2.block k h2 (by simp at h1 ⊢;omega)
end Go.Proofs.YtkphhjekfimmlaaGreat
namespace Go.Proofs.YtkphhjekfimmlaaGreat
open Go.RowKit Go.BigFrame
theorem num33_any (e:Int) (w:World):Calls Tryz.prog 19 #[.int .i64 e] w (Ret (.int .i64 e) (w=·)):=by
 go_enter Tryz.func19,Tryz.ntmps19
 go_wp2
 go_ret
 exact⟨rfl,rfl⟩
def LsTo (w:World) (L:List Mv) (v:Value) (w':World):Prop:=∃ ao cap,v=.tuple #[.slice ao L.length cap,.bool true]∧Arr 4 MvAt w' (.slice ao L.length cap) L∧Frm [] w w'
theorem numL_snd {α:Type} (L:List α):(numL L).map Prod.snd=L:=by
 refine List.ext_getElem? fun i=>?_
 rw[List.getElem?_map,numL_at]
 cases L[i]? <;> rfl
theorem numL_pre {α:Type} {L:List α} {pre rest:List (Nat × α)} {y:Nat × α} (h:numL L=pre ++ y :: rest):y.1=pre.length∧pre.length < L.length:=by
 have h1:(numL L)[pre.length]?=some y:=by rw[h,List.getElem?_append_right (Nat.le_refl _),Nat.sub_self];rfl
 rw[numL_at,Option.map_eq_some_iff] at h1
 obtain⟨m,hm,rfl⟩:=h1
 exact⟨rfl,lt_of_some hm⟩
theorem ls_end {w w2 W:World} {ob D:Nat} {L:List Mv} {fn:Func} {tmps:Array Value} (hf2:Frm [] w w2) (h:MB w2 ob L W) (hr1:w2.heap[w.heap.size]?=some (.cells #[.slice none 0 0] 67 (0,0))) (hr2:w2.heap[w.heap.size + 1]?=some (.cells #[.bool false] 4 (0,0)))
  (hD:w2.heap.size≤D) (hk:W.heap[D]?=some (.deferred (some []))) {ao:Option Addr} {cap:Nat} (hb:W.heap[ob]?=some (.cells #[.slice ao L.length cap] 67 (0,0))) (ho:W.ownsRow w2.heap.size 45 4 (.slice ao L.length cap) L.length (mvC L))
  (hr:∀ V:World,V.heap[w.heap.size]?=some (.cells #[.slice ao L.length cap] 67 (0,0))→V.heap[w.heap.size + 1]?=some (.cells #[.bool true] 4 (0,0))→(results fn tmps).run Tryz.prog V=.ok (.tuple #[.slice ao L.length cap,.bool true]) V) :
  LeavesInM Fence.wide 3 Tryz.prog fn tmps (RetV (LsTo w L)) [{ target:=.collected D,args:=#[] }] .returning ((W.setCell ⟨w.heap.size,0,none⟩ (.slice ao L.length cap)).setCell ⟨w.heap.size + 1,0,none⟩ (.bool true)):=by
 have k1:=h.fr.at hr1 (by simp)
 have k2:=h.fr.at hr2 (by simp)
 have hl1:=lt_of_block hr1
 have hl2:=lt_of_block hr2
 obtain⟨W4,hW4⟩:∃ W4,(W.setCell ⟨w.heap.size,0,none⟩ (.slice ao L.length cap)).setCell ⟨w.heap.size + 1,0,none⟩ (.bool true)=W4:=⟨_,rfl⟩
 have hf4:Frm [w.heap.size,w.heap.size + 1] W W4:=by rw[← hW4];exact((Frm.refl _ W).setCell _ (.inl (by simp)) _).setCell _ (.inl (by simp)) _
 have g1:W4.heap[w.heap.size]?=some (.cells #[.slice ao L.length cap] 67 (0,0)):=by rw[← hW4];exact setCell_at ((block_setCell k1 0 _).trans rfl) (by simp) _
 have g2:W4.heap[w.heap.size + 1]?=some (.cells #[.bool true] 4 (0,0)):=by rw[← hW4];exact(block_setCell (setCell_at k2 (by simp) _) 0 _).trans rfl
 have gD:W4.heap[D]?=some (.deferred (some [])):=hf4.at hk (by simp;omega)
 have go4:W4.ownsRow w2.heap.size 45 4 (.slice ao L.length cap) L.length (mvC L):=hf4.owns ho (fun q hq hm=>by have:=ownBlock_ge ho hq;simp at hm;omega)
 rw[hW4]
 have hfp:=Frm.putObj W4 D (.deferred none)
 refine leaves_mark gD ⟨_,hr _ (hfp.at g1 (by simp;omega)) (hfp.at g2 (by simp;omega)),_,rfl,_,_,rfl,mv_arr (hfp.owns go4 fun q hq hm=>?_),?_⟩
 ·simp at hm
  subst hm
  obtain⟨c,hc⟩:=ownBlock_type go4 hq
  rw[gD] at hc;cases hc
 ·exact((hf2.trans h.fr).then hf4 (by intro x hx;simp at hx;omega)).then hfp (by intro x hx;simp at hx;have:=hf2.size;omega)
attribute [local go_sem] Oper.semAt_some
set_option maxHeartbeats 4000000 in
set_option maxRecDepth 100000 in
theorem listed_any (yv xv:Option Addr) (L:List Mv) (w:World) (hL:L.length≤5000) (hm:∀ W,Frm [] w W→Calls Tryz.prog 16 #[.pointer yv,.pointer xv] W (RetV (MvsTo W L))) :
  Calls Tryz.prog 23 #[.pointer yv,.pointer xv] w (RetV (LsTo w L)):=by
 obtain⟨X0,hX0⟩:∃ X0,(w.alloc (.cells #[.slice none 0 0] 67)).alloc (.cells #[.bool false] 4)=X0:=⟨_,rfl⟩
 have hfx:Frm [] w X0:=by rw[← hX0];exact((Frm.refl _ _).alloc _).alloc _
 have HR1:Hid (X0.heap[w.heap.size]?=some (.cells #[.slice none 0 0] 67 (0,0))):=Lib.hid (by rw[← hX0];exact alloc_at (heap_alloc_new _ _))
 have HR2:Hid (X0.heap[w.heap.size + 1]?=some (.cells #[.bool false] 4 (0,0))):=Lib.hid (by rw[← hX0];exact alloc_top (by simp))
 have CM:=Lib.hid (hm X0 hfx)
 have HFX:=Lib.hid hfx;have HE:=Lib.hid hX0
 have hnf:=fun W f lb=>run_eql_func (P:=Tryz.prog) W 39 #[213] #[] false f lb Tryz.underlying39
 clear hm hfx hX0
 refine calls_of_marks Tryz.func23 rfl ?_
 simp only[Tryz.ntmps23,List.size_toArray,List.length_cons,List.length_nil,Nat.reduceAdd,Nat.reduceSub,Array.replicate_succ,Array.replicate_zero,List.push_toArray,List.append_toArray,List.nil_append,List.cons_append]
 go_upto_region 1 with fail
 rw[HE.out]
 go_upto_region 4 with (first
  | (go_at_call 16;go_must (refine CM.out.mono ?_;rintro e w2 ⟨v,rfl,B,u,rfl,hi,hf,hB⟩;have HI:=Lib.hid hi;have HF2:=Lib.hid hf;clear hi hf CM)))
 have HW1:=Lib.hid (HF2.out.at HR1.out (by simp));have HW2:=Lib.hid (HF2.out.at HR2.out (by simp))
 have HG2:Hid (Frm [] w w2):=Lib.hid (HFX.out.trans HF2.out)
 have hit:=mv_iter B u L (by omega)
 have HMB:Hid (MB w2 w2.heap.size [] (w2.alloc (.cells #[.slice none 0 0] 67))):=Lib.hid (BO.made w2 _ _ _ ((Frm.refl _ _).alloc _) (Nat.le_refl _) (heap_alloc_new _ _))
 have HLL:=Lib.hid hL
 clear HR1 HR2 HFX HF2 hnf hB hL
 go_wp2
 refine wp_rangeList rfl (enters_of Tryz.func110 (by kernel_rfl) rfl) hit (fun _=>rfl) (fun pre W=>MB w2 w2.heap.size (pre.map Prod.snd) W) (fun _ _ _=>False) (fun _ _ _ h hb=>BO.bk h hb (by simp)) (fun _ _ _ _ h _=>h) (fun _ W h=>HI.out.frm h.fr) HMB.out ?_ ?_ (fun _ _ _ _ _ _ _ _ h=>h.elim)
 ·intro l pre y rest W hxs hI hl hlr
  obtain⟨hy,hpl⟩:=numL_pre hxs
  have HIM:=Lib.hid hI
  clear hI hlr hl hxs hit HMB
  obtain⟨yi,ym⟩:=y
  simp only at hy
  subst hy
  have HPL:Hid ((pre.map Prod.snd).length=pre.length):=Lib.hid (List.length_map ..)
  obtain⟨q,hq⟩:∃ q,pre.length=q:=⟨_,rfl⟩
  have HQ:=Lib.hid hq
  rw[hq]
  rw[hq] at hpl HPL
  have hq5:q < 5000:=by have:=HLL.out;omega
  have HSN:Hid ((pre ++ [(q,ym)]).map Prod.snd=pre.map Prod.snd ++ [ym]):=Lib.hid (by rw[List.map_append];rfl)
  obtain⟨L0,hL0⟩:∃ L0,pre.map Prod.snd=L0:=⟨_,rfl⟩
  rw[hL0] at HIM HPL HSN
  clear hq hL0 hpl
  gi_wp2
  refine⟨KB.frm0 ((Frm.refl [] W).alloc _),fun Wq hbk _=>?_⟩
  have hcv:Wq.heap[W.heap.size]?=some (.cells #[.int .i64 ym.kind,.int .i64 ym.role,.int .i64 ym.step,.int .i64 ym.place] 45 (0,0)):=hbk.at (heap_alloc_new W _) rfl
  have HB2:Hid (MB w2 w2.heap.size L0 Wq):=Lib.hid (BO.bk (BO.frm HIM.out ((Frm.refl _ _).alloc _)) hbk (by simp))
  have y0:=cell_of hcv 0
  have y1:=cell_of hcv 1
  have y2:=cell_of hcv 2
  have y3:=cell_of hcv 3
  obtain⟨ao,cp,hb1,hb2⟩:=HB2.out.bx
  rw[HPL.out] at hb1 hb2
  have cx:=cell_of hb1 0
  have HBX:=Lib.hid hb1;have HBO:=Lib.hid hb2
  obtain⟨i0,hi0,hz0,hz1,hz2⟩:=info_parts Tryz.infoMv
  have hsz:w2.heap.size≤(Wq.alloc (.cells #[.int .i64 ym.kind,.int .i64 ym.role,.int .i64 ym.step,.int .i64 ym.place] 45)).heap.size:=by have:=HB2.out.fr.size;simp;omega
  clear hbk hb1 hb2 hcv
  gi_wp2_with (gi_at_builtin;refine wpListIn_append_own _ rfl _ _ 67 rfl w2.heap.size 45 i0 (.agg #[.int .i64 0,.int .i64 0,.int .i64 0,.int .i64 0]) 4 32 Tryz.underlying67 hi0 hz0 hz1 hz2 rfl (by decide) (.slice ao q cp) q (mvC L0) rfl (HBO.out.alloc _) ⟨Wq.heap.size,0,none⟩ 1 1 (mvC1 ym) rfl rfl (new_row _ _ _) (by simp[mvC1,Value.oneCell']) (by unfold maxLen;omega) (by omega) hsz ?_;intro v' w6 hown' hgrow _;obtain⟨ao',cp',rfl⟩:=own_shape hown';have hbx:=BO.facts HBX.out HBO.out (by decide) hgrow;have cx6:=cell_of hbx 0;have fx6:=free_of hbx 0;have HG:=Lib.hid hgrow;have HO:=Lib.hid hown';clear hgrow hown' hbx cx)
  have h9:=MB.add ym HB2.out (by rw[HPL.out];exact HBX.out) (by rw[HPL.out];exact HBO.out) (by rw[HPL.out];exact HG.out) (by rw[HPL.out];exact HO.out)
  refine⟨h9.2.kb,?_⟩
  show MB w2 w2.heap.size ((pre ++ [(q,ym)]).map Prod.snd) _
  rw[HSN.out]
  exact h9.1
 ·intro D W hD hI hK
  rw[numL_snd] at hI
  have HM:=Lib.hid hI;have HKD:=Lib.hid hK
  have hD':w2.heap.size≤D:=by simp at hD;omega
  have HDD:=Lib.hid hD'
  obtain⟨ao,cp,hb1,hb2⟩:=HM.out.bx
  have HBX:=Lib.hid hb1;have HBO:=Lib.hid hb2
  have cx:=cell_of hb1 0
  have k1:=HM.out.fr.at HW1.out (by simp)
  have k2:=HM.out.fr.at HW2.out (by simp)
  have c1:=cell_of k1 0
  have c2:=cell_of k2 0
  have f1:=free_of k1 0
  have f2:=free_of k2 0
  have l1:=lt_of_block k1
  have l2:=lt_of_block k2
  clear hI hK hD hD' hit hb1 hb2 k1 k2
  go_wp2
  exact ls_end HG2.out HM.out HW1.out HW2.out HDD.out HKD.out HBX.out HBO.out (fun V v1 v2=>by
   have d1:=cell_of v1 0
   have d2:=cell_of v2 0
   simp[results,Tryz.results23,go_sem,d1,d2])
end Go.Proofs.YtkphhjekfimmlaaGreat
namespace Go.Proofs.YtkphhjekfimmlaaGreat
open Go.RowKit Go.BigFrame
theorem retV_ret {v:Value} {p:World→Prop} {f:FuncId} {args:Array Value} {w:World} (h:Calls Tryz.prog f args w (RetV fun u w'=>u=v∧p w')):Calls Tryz.prog f args w (Ret v p):=
 h.mono fun e w' h1=>by
  obtain⟨u,h2,h3,h4⟩:=h1
  exact⟨by rw[h2,h3],h4⟩
set_option maxHeartbeats 2000000 in
set_option maxRecDepth 100000 in
theorem lSame_any (v lv:Value) (cls cap:Int) (L:List ByteArray) (w:World) (h:Strs w v L) (hl:Lf w lv L) (hL:L.length≤64):Calls Tryz.prog 89 #[v,.agg #[.int .i64 cls,.int .i64 cap,lv]] w (Ret (.bool true) (Frm [] w)):=by
 obtain⟨ao,cp,rfl,-,hc⟩:=h.shape
 obtain⟨al,cl,rfl,hd⟩:=hl.shape
 have hf0:Frm [] w (w.alloc (.cells #[.int .i64 cls,.int .i64 cap,.slice al L.length cl] 168)):=(Frm.refl _ _).alloc _
 have HB:Hid (∀ V,Frm [] (w.alloc (.cells #[.int .i64 cls,.int .i64 cap,.slice al L.length cl] 168)) V→V.cell? ⟨w.heap.size,2,none⟩=some (.slice al L.length cl)):=Lib.hid fun V hV=>cell_of (hV.at (heap_alloc_new _ _) (by simp)) 2
 have HF0:=Lib.hid hf0;have HC:=Lib.hid hc;have HD:=Lib.hid hd
 obtain⟨n,hn⟩:∃ n,L.length=n:=⟨_,rfl⟩
 have HN:=Lib.hid hn
 rw[hn] at HB hL HF0 ⊢
 obtain⟨W0,hW0⟩:∃ W0,w.alloc (.cells #[.int .i64 cls,.int .i64 cap,.slice al n cl] 168)=W0:=⟨_,rfl⟩
 have HE:=Lib.hid hW0
 rw[hW0] at HB HF0
 clear h hl hf0 hc hd hn hW0
 have e2:=HB.out W0 (Frm.refl _ _)
 go_enter Tryz.func89,Tryz.ntmps89
 go_upto_region 1 with fail
 rw[HE.out]
 clear HE
 go_upto_region 4 with fail
 clear e2
 go_loopw [5] (fun s5 wr=>∃ i:Nat,s5=.int .i64 i∧i≤n∧Frm [] W0 wr) (fun s5 _=>n - (intOf s5).toNat)
 case atStart=>exact⟨0,rfl,Nat.zero_le _,Frm.refl _ _⟩
 case round =>
  obtain⟨i,rfl,hi,hf⟩:=hrel
  have HF:=Lib.hid hf
  clear hf
  by_cases hlt:i < n
  ·have hlt':(i:Int) < (n:Int):=by omega
   obtain⟨m,hm⟩:∃ m,L[i]?=some m:=⟨_,List.getElem?_eq_getElem (by rw[HN.out];exact hlt)⟩
   obtain⟨g1,e1,c1⟩:=HC.out i m hm
   obtain⟨g2,e2,c2⟩:=HD.out i m hm
   subst e1 e2
   have HU:Hid (∀ V,Frm [] wr V→V.cell? ⟨w.heap.size,2,none⟩=some (.slice (some ⟨g2,0,none⟩) n cl)∧V.cell? ⟨g1,i,none⟩=some (.string m)∧V.cell? ⟨g2,i,none⟩=some (.string m)):=Lib.hid fun V hV =>
    ⟨HB.out V (HF.out.trans hV),(HF0.out.trans (HF.out.trans hV)).keep c1,(HF0.out.trans (HF.out.trans hV)).keep c2⟩
   clear c1 c2 hm
   go_upto_region 6 with fail
   refine wp_region_cq (by kernel_rfl) (by kernel_rfl) ?_
   repeat (first
    | go_big_quiet_skip
    | (refine wpQuiet_want (by rfl) (fun K hK=>?_)
       first
        | (refine quiet_move _ (by rfl) (hK _ ?_))
        | (refine quiet_assign _ (by rfl) (hK _ ?_))
        | (apply Exists.intro
           refine⟨fun w' hC=>?_,hK _ ?_⟩
           ·(unfold Oper.quietAt
             obtain⟨x0,x1,x2⟩:=HU.out w' hC
             clear hC
             go_simp
             try exact⟨rfl,rfl⟩
             try rfl))
       clear hK K
       try simp only[nrm,Act.eval,nrq]))
   refine wpQuiet_nil ?_
   intro w2 hf2
   have HF2:=Lib.hid (HF.out.trans hf2)
   clear hf2
   go_wp2
   exact⟨⟨i + 1,congrArg (Value.int .i64) (by omega),hlt,HF2.out⟩,by simp[intOf];omega⟩
  ·have hge:¬ (i:Int) < (n:Int):=by omega
   go_wp2
   go_ret
   exact⟨rfl,HF0.out.trans HF.out⟩
end Go.Proofs.YtkphhjekfimmlaaGreat
namespace Go.Proofs.YtkphhjekfimmlaaGreat
open Go.RowKit Go.BigFrame
section
variable {w w':World} {xo yo:Option Addr}
def chB (n:Nat) (i k:Int):Bool:=decide (0≤i) && decide (i < (n:Int)) && (decide (0≤k) && decide (k < (n:Int))) && !decide (i=k)
theorem pChannel_bad (s:SesD) (yb sb:Nat) (x:PS) (i k:Int) (hx:StR w s yb sb x) (hb:chB s.roles.length i k=false):Calls Tryz.prog 55 #[.pointer (some ⟨sb,0,none⟩),.int .i64 i,.int .i64 k] w (Ret (.tuple #[.slice none 0 0,.int .i64 2]) (w=·)):=by
 have C1:=Lib.hid (pSnone_any s yb sb x w hx)
 have C2:=Lib.hid (pFits_any s yb sb x i w hx)
 have C3:=Lib.hid (pFits_any s yb sb x k w hx)
 unfold chB at hb
 obtain⟨p,hp⟩:∃ p,(decide (0≤i) && decide (i < (s.roles.length:Int)))=p:=⟨_,rfl⟩
 obtain⟨q,hq⟩:∃ q,(decide (0≤k) && decide (k < (s.roles.length:Int)))=q:=⟨_,rfl⟩
 rw[hp] at hb C2
 rw[hq] at hb C3
 clear hp hq hx
 cases p with
 | false =>
   clear hb
   go_enter Tryz.func55,Tryz.ntmps55
   go_wp2_with (first
    | (go_at_call 69;go_must (refine C1.out.mono ?_;rintro e w' ⟨rfl,rfl⟩))
    | (go_at_call 105;go_must (first
     | (refine C2.out.mono ?_;clear C2;rintro e w' ⟨rfl,rfl⟩)
     | (refine C3.out.mono ?_;clear C3;rintro e w' ⟨rfl,rfl⟩))))
   go_ret2
   exact⟨rfl,rfl⟩
 | true =>
   cases q with
   | false =>
     clear hb
     go_enter Tryz.func55,Tryz.ntmps55
     go_wp2_with (first
      | (go_at_call 69;go_must (refine C1.out.mono ?_;rintro e w' ⟨rfl,rfl⟩))
      | (go_at_call 105;go_must (first
       | (refine C2.out.mono ?_;clear C2;rintro e w' ⟨rfl,rfl⟩)
       | (refine C3.out.mono ?_;clear C3;rintro e w' ⟨rfl,rfl⟩))))
     go_ret2
     exact⟨rfl,rfl⟩
   | true =>
     have e:i=k:=by simpa using hb
     subst e
     have hq:(i == i)=true:=by simp
     clear hb
     go_enter Tryz.func55,Tryz.ntmps55
     go_wp2_with (first
      | (go_at_call 69;go_must (refine C1.out.mono ?_;rintro e w' ⟨rfl,rfl⟩))
      | (go_at_call 105;go_must (first
       | (refine C2.out.mono ?_;clear C2;rintro e w' ⟨rfl,rfl⟩)
       | (refine C3.out.mono ?_;clear C3;rintro e w' ⟨rfl,rfl⟩))))
     go_ret2
     exact⟨rfl,rfl⟩
end
end Go.Proofs.YtkphhjekfimmlaaGreat
namespace Go.Proofs.YtkphhjekfimmlaaGreat
open Go.RowKit Go.BigFrame
set_option maxHeartbeats 4000000 in
set_option maxRecDepth 100000 in
theorem qFinal_any (s:SesD) (sv xv:Value) (x:PS) (B:Nat) (w:World) (hs:SesV w sv s) (hx:RSt B w s xv x) (hok:SesOk s):Calls Tryz.prog 88 #[sv,xv] w (Ret (.bool (finalB s x)) (Frm [] w)):=by
 have HOK:=Lib.hid hok;have HPK:=Lib.hid hx.ok
 obtain⟨rv,rfl,hr⟩:=hs
 obtain⟨ao,cap,rfl⟩:=hr.shape
 obtain⟨ba,bb,bw,bi,ca,cb,cw,rfl,hro,-⟩:=hx.out
 obtain⟨n,hn⟩:∃ n,s.roles.length=n:=⟨_,rfl⟩
 have h4:n≤4:=hn ▸ hok.n4
 obtain⟨W0,hW0⟩:∃ W0,(w.alloc (.cells #[.string s.name,.slice ao s.roles.length cap,.int .i64 s.cls,.int .i64 s.cap] 25)).alloc (.cells #[.slice (some ⟨ba,0,none⟩) s.roles.length ca,.slice (some ⟨bb,0,none⟩) s.roles.length cb,.slice (some ⟨bw,0,none⟩) s.roles.length cw] 35)=W0:=⟨_,rfl⟩
 have hf0:Frm [] w W0:=by rw[← hW0];exact((Frm.refl _ _).alloc _).alloc _
 have hb1:W0.heap[w.heap.size]?=some (.cells #[.string s.name,.slice ao s.roles.length cap,.int .i64 s.cls,.int .i64 s.cap] 25 (0,0)):=by rw[← hW0];exact alloc_at (heap_alloc_new _ _)
 have hb2:W0.heap[w.heap.size + 1]?=some (.cells #[.slice (some ⟨ba,0,none⟩) s.roles.length ca,.slice (some ⟨bb,0,none⟩) s.roles.length cb,.slice (some ⟨bw,0,none⟩) s.roles.length cw] 35 (0,0)):=by rw[← hW0];exact alloc_top (by simp)
 have HE:=Lib.hid hW0
 have HRL:=Lib.hid (hr.frm hf0)
 have HRO:=Lib.hid (hro.frm hf0)
 rw[hn] at hb1 hb2 HE HRL ⊢
 have HF0:=Lib.hid hf0;have HN:=Lib.hid hn
 have HFB:Hid (finalB s x=(List.range n).all fun i=>endB s x i):=Lib.hid (by rw[← hn];rfl)
 have HS1:Hid (∀ V,Frm [] W0 V→V.cell? ⟨w.heap.size,1,none⟩=some (.slice ao n cap)∧V.cell? ⟨w.heap.size + 1,0,none⟩=some (.slice (some ⟨ba,0,none⟩) n ca)∧V.cell? ⟨w.heap.size + 1,2,none⟩=some (.slice (some ⟨bw,0,none⟩) n cw)):=Lib.hid fun V hV=>by
  have hz:=hV.at hb1 (by simp)
  have hy:=hV.at hb2 (by simp)
  exact⟨cell_of hz 1,cell_of hy 0,cell_of hy 2⟩
 obtain⟨fb',hfb⟩:∃ b,finalB s x=b:=⟨_,rfl⟩
 rw[hfb] at HFB ⊢
 clear hr hx hok hro hW0 hf0 hb1 hb2 hn hfb
 go_enter Tryz.func88,Tryz.ntmps88
 go_upto_region 1 with fail
 rw[HE.out]
 clear HE
 go_upto_region 2 with fail
 go_loopw [5] (fun s5 wr=>∃ i:Nat,s5=.int .i64 i∧i≤n∧Frm [] W0 wr∧∀ j,j < i→endB s x j=true) (fun s5 _=>n - (intOf s5).toNat)
 case atStart=>exact⟨0,rfl,Nat.zero_le _,Frm.refl _ _,fun j hj=>by omega⟩
 case round =>
  obtain⟨i,rfl,hi,hf,hno⟩:=hrel
  have HF:=Lib.hid hf;have HNO:=Lib.hid hno
  clear hf hno
  obtain⟨wl,hwl⟩:∃ wl,wl=wr:=⟨_,rfl⟩
  subst hwl
  obtain⟨e1,-,-⟩:=HS1.out wl HF.out
  by_cases hlt:i < n
  ·have hlt':(i:Int) < (n:Int):=by omega
   have hin:i < s.roles.length:=by rw[HN.out];exact hlt
   obtain⟨b,o,sv,cv,tv,rfl,⟨-,d1,-,-⟩,h3⟩:=Rls.at HRL.out hin
   have hst:(s.rol i).sts[x.at i]?=some ((s.rol i).sts.getD (x.at i) dS):=some_getD (HPK.out.pb i hin)
   have hpb:=HPK.out.pb i hin
   obtain⟨aS,cS,rfl⟩:=h3.sts.shape
   obtain⟨b1,o1,rfl,-,g1,-⟩:=h3.sts.get hst
   have ga:=HRO.out.a i hin
   obtain⟨cwi,gw⟩:=HRO.out.w i hin
   rw[HN.out] at gw
   have hwr:=HPK.out.wr i hin
   have HEB:Hid (endB s x i=((x.ways.getD i []).all (fun l=>l.isEmpty) && ((s.rol i).sts.getD (x.at i) dS).fin)):=Lib.hid rfl
   obtain⟨p,hp⟩:∃ p,x.at i=p:=⟨_,rfl⟩
   obtain⟨m,hm⟩:∃ m,(s.rol i).sts.length=m:=⟨_,rfl⟩
   obtain⟨fin,hfi⟩:∃ f,((s.rol i).sts.getD (x.at i) dS).fin=f:=⟨_,rfl⟩
   rw[hfi] at g1 HEB
   rw[hp] at g1 hpb ga
   rw[hm] at d1 hpb
   have hpm:(p:Int) < (m:Int):=by omega
   have hpm':p < m:=hpb
   have HU:Hid (∀ V,Frm [] wl V→(V.cell? ⟨w.heap.size,1,none⟩=some (.slice (some ⟨b,o,none⟩) n cap)∧V.cell? ⟨w.heap.size + 1,0,none⟩=some (.slice (some ⟨ba,0,none⟩) n ca))∧V.cell? ⟨b,o + i * 4 + 1,none⟩=some (.slice (some ⟨b1,o1,none⟩) m cS)∧V.cell? ⟨b1,o1 + p * 3 + 1,none⟩=some (.bool fin)∧V.cell? ⟨ba,i,none⟩=some (.int .i64 (p:Int))):=Lib.hid fun V hV=>by
    have h:=HF.out.trans hV
    obtain⟨q1,q2,-⟩:=HS1.out V h
    exact⟨⟨q1,q2⟩,h.keep d1,h.keep g1,h.keep ga⟩
   have HWI:Hid (∀ V,Frm [] W0 V→V.cell? ⟨bw,i,none⟩=some (.slice (some ⟨bi i,0,none⟩) n cwi)):=Lib.hid fun V hV=>hV.keep gw
   have HFA:Hid (endB s x i=false→fb'=false):=Lib.hid fun h=>by
    rw[HFB.out,List.all_eq_false]
    exact⟨i,by simpa using hlt,by rw[h];decide⟩
   have HIN:=Lib.hid hin;have HWR:=Lib.hid hwr
   clear h3 hst hp hm hfi hin hpb d1 g1 ga gw hwr
   go_upto_region 4 with fail
   clear e1
   cases fin with
   | false =>
     have HR:=Lib.hid (HFA.out (by rw[HEB.out,Bool.and_false]))
     clear HFA
     refine wp_region_cq (by kernel_rfl) (by kernel_rfl) ?_
     repeat (first
      | go_big_quiet_skip
      | (refine wpQuiet_want (by rfl) (fun K hK=>?_)
         first
          | (refine quiet_move _ (by rfl) (hK _ ?_))
          | (refine quiet_assign _ (by rfl) (hK _ ?_))
          | (apply Exists.intro
             refine⟨fun w' hC=>?_,hK _ ?_⟩
             ·(unfold Oper.quietAt
               obtain⟨⟨z0,z1⟩,z2,z3,z4⟩:=HU.out w' hC
               clear hC
               go_simp
               try exact⟨rfl,rfl⟩
               try rfl))
         clear hK K
         try simp only[nrm,Act.eval,nrq]))
     refine wpQuiet_nil ?_
     intro w2 hf2
     go_wp2
     go_ret
     exact⟨by rw[HR.out];rfl,HF0.out.trans (HF.out.trans hf2)⟩
   | true =>
     refine wp_region_cq (by kernel_rfl) (by kernel_rfl) ?_
     repeat (first
      | go_big_quiet_skip
      | (refine wpQuiet_want (by rfl) (fun K hK=>?_)
         first
          | (refine quiet_move _ (by rfl) (hK _ ?_))
          | (refine quiet_assign _ (by rfl) (hK _ ?_))
          | (apply Exists.intro
             refine⟨fun w' hC=>?_,hK _ ?_⟩
             ·(unfold Oper.quietAt
               obtain⟨⟨z0,z1⟩,z2,z3,z4⟩:=HU.out w' hC
               clear hC
               go_simp
               try exact⟨rfl,rfl⟩
               try rfl))
         clear hK K
         try simp only[nrm,Act.eval,nrq]))
     refine wpQuiet_nil ?_
     intro w2 hf2
     have HF2:Hid (Frm [] W0 w2):=Lib.hid (HF.out.trans hf2)
     clear hf2
     go_upto_region 7 with fail
     go_loopw [6] (fun s6 wr=>∃ k:Nat,s6=.int .i64 k∧k≤n∧Frm [] W0 wr∧∀ j,j < k→x.way i j=[]) (fun s6 _=>n - (intOf s6).toNat)
     case atStart=>exact⟨0,rfl,Nat.zero_le _,HF2.out,fun j hj=>by omega⟩
     case round =>
      obtain⟨k,rfl,hk,hf,hno⟩:=hrel
      have HFk:=Lib.hid hf;have HNk:=Lib.hid hno
      clear hf hno
      obtain⟨wk,hwk⟩:∃ wk,wk=wr:=⟨_,rfl⟩
      subst hwk
      obtain⟨e1,-,e3⟩:=HS1.out wk HFk.out
      by_cases hlk:k < n
      ·have hlk':(k:Int) < (n:Int):=by omega
       have hkn:k < s.roles.length:=by rw[HN.out];exact hlk
       obtain⟨lv,-,-,r3,r4⟩:=HRO.out.r i k HIN.out hkn
       obtain⟨al,kl,rfl,-⟩:=r4.shape
       have e4:=HWI.out wk HFk.out
       have e5:=HFk.out.keep r3
       have hall:x.way i k≠[]→endB s x i=false:=fun h=>by
        rw[HEB.out,Bool.and_true,List.all_eq_false]
        refine⟨x.way i k,?_,by simpa using h⟩
        have hw:=some_getD (l:=x.ways.getD i []) (i:=k) (d:=[]) (by rw[HWR.out];exact hkn)
        exact List.mem_of_getElem? hw
       have HAL:=Lib.hid hall
       obtain⟨l,hl⟩:∃ l,(x.way i k).length=l:=⟨_,rfl⟩
       rw[hl] at e5
       have HLL:=Lib.hid hl
       have hbi:=cell_lt e5
       clear r3 r4 hkn hall hl
       by_cases h0:0 < l
       ·have h0':(0:Int) < (l:Int):=by omega
        have HR:=Lib.hid (HFA.out (HAL.out (fun e=>by have:=HLL.out;rw[e] at this;simp at this;omega)))
        clear HFA HAL
        go_wp2
        go_ret
        exact⟨by rw[HR.out];rfl,HF0.out.trans HFk.out⟩
       ·obtain rfl:l=0:=by omega
        have h0':¬ (0:Int) < ((0:Nat):Int):=by omega
        go_wp2
        refine⟨⟨k + 1,congrArg (Value.int .i64) (by omega),hlk,HFk.out,fun j hj=>?_⟩,by simp[intOf];omega⟩
        by_cases e:j=k
        ·subst e;exact List.length_eq_zero_iff.1 HLL.out
        ·exact HNk.out j (by omega)
      ·obtain rfl:k=n:=by omega
       have hge:¬ (k:Int) < (k:Int):=by omega
       go_wp2
       refine⟨⟨i + 1,congrArg (Value.int .i64) (by omega),hlt,HFk.out,fun j hj=>?_⟩,by simp[intOf];omega⟩
       by_cases e:j=i
       ·subst e
        rw[HEB.out,Bool.and_true,List.all_eq_true]
        intro l hl
        obtain⟨q,hq⟩:=List.getElem?_of_mem hl
        have h5:=HNk.out q (by have:=lt_of_some hq;rw[HWR.out,HN.out] at this;exact this)
        unfold PS.way wayOf at h5
        rw[getD_some hq] at h5
        rw[h5];rfl
       ·exact HNO.out j (by omega)
  ·have hge:¬ (i:Int) < (n:Int):=by omega
   have HR:Hid (fb'=true):=Lib.hid (by
    rw[HFB.out,List.all_eq_true]
    intro j hj
    exact HNO.out j (by rw[List.mem_range] at hj;omega))
   go_wp2
   go_ret
   exact⟨by rw[HR.out];rfl,HF0.out.trans HF.out⟩
end Go.Proofs.YtkphhjekfimmlaaGreat
namespace Go.Proofs.YtkphhjekfimmlaaGreat
open Go.ChangeShapes Go.WideShapes Go.ChangeAt Go.RowKit Go.Deep
theorem trodAll_two {H:Type} {enc:TypeId × Value→H} {P:Program} {w:World} {base:Nat} {spare:TypeId→Bool} {held:Bool} {t0 t1:TypeId} {args:Array Value} {ds:List (DataW H)} {ps:List MemPlace}
  (h:DataW.TrodAll enc P w base spare held [t0,t1] args.toList ds ps) :
  ∃ v0 v1 d0 d1 p0 p1,args=#[v0,v1]∧ds=[d0,d1]∧ps=p0 ++ p1∧DataW.Trod enc P w base spare held t0 v0 d0 p0∧DataW.Trod enc P w base spare held t1 v1 d1 p1:=by
 obtain⟨v0,_,d0,_,p0,_,hargs,rfl,rfl,h0,hrest⟩:=trodAll_cons h
 obtain⟨v1,_,d1,_,p1,_,rfl,rfl,rfl,h1,hrest⟩:=trodAll_cons hrest
 obtain⟨rfl,rfl,rfl⟩:=trodAll_nil hrest
 exact⟨v0,v1,d0,d1,p0,p1,by cases args;simp_all,rfl,by simp,h0,h1⟩
theorem trodAll_three {H:Type} {enc:TypeId × Value→H} {P:Program} {w:World} {base:Nat} {spare:TypeId→Bool} {held:Bool} {t0 t1 t2:TypeId} {args:Array Value} {ds:List (DataW H)} {ps:List MemPlace}
  (h:DataW.TrodAll enc P w base spare held [t0,t1,t2] args.toList ds ps) :
  ∃ v0 v1 v2 d0 d1 d2 p0 p1 p2,args=#[v0,v1,v2]∧ds=[d0,d1,d2]∧ps=p0 ++ p1 ++ p2∧DataW.Trod enc P w base spare held t0 v0 d0 p0∧DataW.Trod enc P w base spare held t1 v1 d1 p1∧DataW.Trod enc P w base spare held t2 v2 d2 p2:=by
 obtain⟨v0,_,d0,_,p0,_,hargs,rfl,rfl,h0,hrest⟩:=trodAll_cons h
 obtain⟨v1,_,d1,_,p1,_,rfl,rfl,rfl,h1,hrest⟩:=trodAll_cons hrest
 obtain⟨v2,_,d2,_,p2,_,rfl,rfl,rfl,h2,hrest⟩:=trodAll_cons hrest
 obtain⟨rfl,rfl,rfl⟩:=trodAll_nil hrest
 exact⟨v0,v1,v2,d0,d1,d2,p0,p1,p2,by cases args;simp_all,rfl,by simp,h0,h1,h2⟩
theorem Tryz.cells5':Tryz.prog.cellsOf 5=1:=by kernel_rfl
set_option maxRecDepth 10000 in
theorem bytes_cell {H:Type} {enc:TypeId × Value→H} {W:World} {fuel:Nat} {c:Value} {x:DataW H × List MemPlace} (hf:DataW.trod enc Tryz.prog W 0 (fun _=>true) true fuel 26 [c]=some x) :
  ∃ ao cap l,c=.slice ao (List.length l) cap∧Byts W c l:=by
 rcases open_ints Tryz.underlying26 Tryz.underlying5 Tryz.cells5' hf with ⟨hcs,hx⟩ | ⟨a,len,cap,zs,hcs,_,hl,hm,hz,hx,hcell,hwz⟩
 ·simp only[List.cons.injEq,and_true] at hcs
  subst hcs
  exact⟨none,0,[],rfl,Byts.nil W⟩
 ·simp only[List.cons.injEq,and_true] at hcs
  subst hcs
  simp only[if_true] at hz
  have hlen:((zs.take len).map fun n=>UInt8.ofNat n.toNat).length=len:=by simp;omega
  refine⟨some a,cap,(zs.take len).map fun n=>UInt8.ofNat n.toNat,by rw[hlen],some a,cap,by rw[hlen],by rw[hlen];omega,fun k x hk=>?_⟩
  have hkl:=lt_of_some hk
  rw[hlen] at hkl
  obtain⟨ab,ao,spot⟩:=a
  have hspot:spot=none:=by simpa[Addr.add] using World.cell?_spot (hcell 0 (by omega))
  subst hspot
  have hcj:=hcell k (by omega)
  rw[Addr.add_lit] at hcj
  refine⟨ab,ao,rfl,?_⟩
  rw[hcj]
  have hkz:k < zs.length:=by omega
  rw[List.getElem?_map,List.getElem?_take_of_lt hkl,List.getElem?_eq_getElem hkz] at hk
  simp only[Option.map_some,Option.some.injEq] at hk
  subst hk
  have hw:=hwz zs[k] (List.getElem_mem hkz)
  simp only[Lit.wf,show IntKind.u8.min=0 from rfl,show IntKind.u8.max=255 from rfl,Bool.and_eq_true,decide_eq_true_eq] at hw
  unfold u8
  rw[List.getD_eq_getElem?_getD,List.getElem?_eq_getElem hkz]
  simp
  omega
set_option maxRecDepth 10000 in
theorem open_byts {H:Type} {enc:TypeId × Value→H} {W:World} {base:Nat} {v:Value} {d:DataW H} {p:List MemPlace} (hv:Value.okWide Tryz.prog W .any base 26 v) (h:DataW.Trod enc Tryz.prog W 0 (fun _=>true) true 26 v d p) :
  ∃ ao cap l,v=.slice ao (List.length l) cap∧Byts W v l:=by
 obtain⟨a0,len,cap,rfl⟩:=okWide_slice Tryz.underlying26 hv
 obtain⟨fuel,hf⟩:=h
 exact bytes_cell hf
end Go.Proofs.YtkphhjekfimmlaaGreat
namespace Go.Proofs.YtkphhjekfimmlaaGreat
open Go.ChangeShapes Go.WideShapes Go.ChangeAt Go.RowKit
theorem Tryz.own:ownKnob Tryz.prog.godebug=none:=by kernel_rfl
theorem Tryz.laidOut:laidOutB Tryz.prog=true:=by kernel_rfl
end Go.Proofs.YtkphhjekfimmlaaGreat
