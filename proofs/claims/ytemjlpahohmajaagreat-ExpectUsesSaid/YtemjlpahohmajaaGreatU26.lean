/- Part of the proof. -/
import Derived.Test.YtemjlpahohmajaaGreatU06
import Derived.Test.YtemjlpahohmajaaGreatU25
set_option linter.all false
namespace Go.Proofs.YtemjlpahohmajaaGreat
open Go.RowKit Go.BigFrame
theorem guard_ways2 {r:RolD} {x:StpD} (h:x.ctr≠emptyS):(ctrIx r.ctrs x.ctr < 0∧guardB r x=false)∨∃ (p:Nat) (c:CtrD),ctrIx r.ctrs x.ctr=p∧r.ctrs[p]?=some c ∧
  ((x.low < 0∧guardB r x=false)∨(¬ x.low < 0∧x.high < x.low∧guardB r x=false)∨(¬ x.low < 0∧¬ x.high < x.low∧c.lim < x.high∧guardB r x=false)∨(¬ x.low < 0∧¬ x.high < x.low∧¬ c.lim < x.high∧x.add < -1000∧guardB r x=false) ∨
   (¬ x.low < 0∧¬ x.high < x.low∧¬ c.lim < x.high∧¬ x.add < -1000∧1000 < x.add∧guardB r x=false) ∨
   (¬ x.low < 0∧¬ x.high < x.low∧¬ c.lim < x.high∧¬ x.add < -1000∧¬ 1000 < x.add∧((¬ 0≤x.low + x.add∧guardB r x=false)∨(0≤x.low + x.add∧guardB r x=decide (x.high + x.add≤c.lim))))):=by
 have hs:=find_ixf (p:=fun c:CtrD=>decide (c.name=x.ctr)) (l:=r.ctrs)
 unfold guardB
 rw[if_neg h]
 cases hf:r.ctrs.find? (fun c=>decide (c.name=x.ctr)) with
 | none =>
   rw[hf] at hs
   left
   simp only at hs
   refine⟨?_,rfl⟩
   show ixf _ _ < 0
   omega
 | some c =>
   rw[hf] at hs
   obtain⟨p,h1,h2,-⟩:=hs
   right
   refine⟨p,c,h1,h2,?_⟩
   by_cases a1:x.low < 0
   ·left;exact⟨a1,by simp;omega⟩
   by_cases a2:x.high < x.low
   ·right;left;exact⟨a1,a2,by simp;omega⟩
   by_cases a3:c.lim < x.high
   ·right;right;left;exact⟨a1,a2,a3,by simp;omega⟩
   by_cases a4:x.add < -1000
   ·right;right;right;left;exact⟨a1,a2,a3,a4,by simp;omega⟩
   by_cases a5:1000 < x.add
   ·right;right;right;right;left;exact⟨a1,a2,a3,a4,a5,by simp;omega⟩
   right;right;right;right;right
   refine⟨a1,a2,a3,a4,a5,?_⟩
   by_cases a6:0≤x.low + x.add
   ·right
    refine⟨a6,?_⟩
    simp only
    rw[decide_eq_true (p:=0≤x.low) (by omega),decide_eq_true (p:=x.low≤x.high) (by omega),decide_eq_true (p:=-1000≤x.add) (by omega),decide_eq_true (p:=x.add≤1000) (by omega),decide_eq_true (p:=x.high≤c.lim) (by omega),decide_eq_true a6]
    simp
   ·left;exact⟨a6,by simp;omega⟩
set_option maxHeartbeats 4000000 in
set_option maxRecDepth 100000 in
theorem aGuarded_any (v:Value) (r:RolD) (x:StpD) (w:World) (h:RlV w v r) (hl:r.ctrs.length≤100) (hlim:∀ c∈r.ctrs,1≤c.lim∧c.lim≤1000) :
  Calls Tryz.prog 171 #[v,stpV x] w (Ret (.bool (guardB r x)) (Frm [] w)):=by
 obtain⟨sv,cv,tv,rfl,h3⟩:=h
 obtain⟨ac,cc,ec,hcc⟩:=h3.ctrs
 subst ec
 have HCC:=Lib.hid hcc;have HLM:=Lib.hid hlim
 obtain⟨nc,hnc⟩:∃ nc,r.ctrs.length=nc:=⟨_,rfl⟩
 have HNC:=Lib.hid hnc
 rw[hnc] at h3
 rw[hnc]
 obtain⟨X,hX⟩:∃ X,(w.alloc (.cells #[.string r.name,sv,.slice ac nc cc,tv] 86)).alloc (.cells #[.string x.frm,.string x.to,.int .i64 x.kind,.string x.msg,.string x.peer,.string x.ctr,.int .i64 x.low,.int .i64 x.high,.int .i64 x.add] 90)=X:=⟨_,rfl⟩
 have HF:Hid (Frm [] w X):=Lib.hid (by rw[← hX];exact((Frm.refl _ _).alloc _).alloc _)
 have HBR:Hid (X.heap[w.heap.size]?=some (.cells #[.string r.name,sv,.slice ac nc cc,tv] 86 (0,0))):=Lib.hid (by rw[← hX];exact alloc_at (heap_alloc_new _ _))
 have HBT:Hid (X.heap[w.heap.size + 1]?=some (.cells #[.string x.frm,.string x.to,.int .i64 x.kind,.string x.msg,.string x.peer,.string x.ctr,.int .i64 x.low,.int .i64 x.high,.int .i64 x.add] 90 (0,0))):=Lib.hid (by rw[← hX];exact alloc_top (by simp))
 have HU:Hid (∀ V,Frm [] X V→V.cell? ⟨w.heap.size,2,none⟩=some (.slice ac nc cc)∧V.cell? ⟨w.heap.size + 1,5,none⟩=some (.string x.ctr)∧V.cell? ⟨w.heap.size + 1,6,none⟩=some (.int .i64 x.low)∧V.cell? ⟨w.heap.size + 1,7,none⟩=some (.int .i64 x.high)∧V.cell? ⟨w.heap.size + 1,8,none⟩=some (.int .i64 x.add)):=Lib.hid fun V hV =>
  ⟨hV.keep (cell_of HBR.out 2),hV.keep (cell_of HBT.out 5),hV.keep (cell_of HBT.out 6),hV.keep (cell_of HBT.out 7),hV.keep (cell_of HBT.out 8)⟩
 have CA:Hid (∀ V,Frm [] w V→Calls Tryz.prog 141 #[.agg #[.string r.name,sv,.slice ac nc cc,tv],.string x.ctr] V (Ret (.int .i64 (ctrIx r.ctrs x.ctr)) (Frm [] V))):=Lib.hid fun V hV=>aCounter_any _ r x.ctr V ⟨_,_,_,rfl,h3.frm hV⟩ (by omega)
 have HE:=Lib.hid hX
 clear h3 hcc hlim hnc hl hX
 obtain⟨t2,t5,t6,t7,t8⟩:=HU.out X (Frm.refl _ _)
 by_cases he:x.ctr=emptyS
 ·have hemp:x.ctr.toList.isEmpty=true:=emp_yes he
  have HRR:Hid (guardB r x=(decide (x.low=0) && decide (x.high=0) && decide (x.add=0))):=Lib.hid (guard_none he)
  clear he CA
  by_cases l0:x.low=0
  ·have q0:(x.low == 0)=true:=by simpa using l0
   by_cases l1:x.high=0
   ·have q1:(x.high == 0)=true:=by simpa using l1
    have HRR:Hid (guardB r x=(x.add == 0)):=Lib.hid (by rw[HRR.out,decide_eq_true l0,decide_eq_true l1,Bool.true_and,Bool.true_and];by_cases h:x.add=0 <;> simp[h])
    clear l0 l1
    go_enter Tryz.func171,Tryz.ntmps171
    go_wp2_with (first | (rw[HE.out]))
    go_ret
    exact⟨by rw[HRR.out];rfl,HF.out⟩
   ·have q1:(x.high == 0)=false:=by simpa using l1
    have HRR:Hid (guardB r x=false):=Lib.hid (by rw[HRR.out,decide_eq_false l1];simp)
    clear l0 l1
    go_enter Tryz.func171,Tryz.ntmps171
    go_wp2_with (first | (rw[HE.out]))
    go_ret
    exact⟨by rw[HRR.out];rfl,HF.out⟩
  ·have q0:(x.low == 0)=false:=by simpa using l0
   have HRR:Hid (guardB r x=false):=Lib.hid (by rw[HRR.out,decide_eq_false l0];simp)
   clear l0
   go_enter Tryz.func171,Tryz.ntmps171
   go_wp2_with (first | (rw[HE.out]))
   go_ret
   exact⟨by rw[HRR.out];rfl,HF.out⟩
 ·have hemp:x.ctr.toList.isEmpty=false:=emp_no he
  have HW:=Lib.hid (guard_ways2 (r:=r) he)
  obtain⟨q3,hq3⟩:∃ q,ctrIx r.ctrs x.ctr=q:=⟨_,rfl⟩
  rw[hq3] at CA HW
  clear he hq3
  go_enter Tryz.func171,Tryz.ntmps171
  go_upto_region 1 with fail
  rw[HE.out]
  go_upto_region 4 with (first
   | (refine wpList_load_whole rfl 86 _ rfl _ rfl _ 86 HBR.out _ Tryz.underlying86 rfl (by kernel_rfl) ?_)
   | (go_at_call 141;go_must (refine(CA.out _ HF.out).mono ?_;rintro e w1 ⟨rfl,hf1⟩;have HF1:=Lib.hid hf1;clear hf1)))
  clear t2 t5 t6 t7 t8
  rcases HW.out with ⟨h1,h2⟩ | ⟨p,c,h1,h2,h3⟩
  ·replace h2:=Lib.hid h2
   clear HW
   refine wp_region_cq (by kernel_rfl) (by kernel_rfl) ?_
   repeat (first
    | go_big_quiet_skip
    | (refine wpQuiet_want (by rfl) (fun K hK=>?_)
       first
        | (refine quiet_move _ (by rfl) (hK _ ?_))
        | (refine quiet_assign _ (by rfl) (hK _ ?_))
        | (apply Exists.intro
           refine⟨fun w' hC=>?_,hK _ ?_⟩
           ·(unfold Oper.quietAt
             obtain⟨t2,t5,t6,t7,t8⟩:=HU.out w' (HF1.out.trans hC)
             clear hC
             go_simp
             try exact⟨rfl,rfl⟩
             try rfl))
       clear hK K
       try simp only[nrm,Act.eval,nrq]))
   refine wpQuiet_nil ?_
   intro w2 hf2
   go_wp2
   go_ret
   exact⟨by rw[h2.out];rfl,HF.out.trans (HF1.out.trans hf2)⟩
  ·subst h1
   have hq0:¬ (p:Int) < 0:=by omega
   have hpn:(p:Int) < (nc:Int):=by have:=lt_of_some h2;have:=HNC.out;omega
   have hcl:=HLM.out c (List.mem_of_getElem? h2)
   obtain⟨b7,o7,rfl,hat⟩:=HCC.out p c h2
   have HAT:=Lib.hid hat
   clear hat h2 HW
   rcases h3 with ⟨g1,g2⟩ | ⟨g1,g3,g2⟩ | ⟨g1,g3,g4,g2⟩ | ⟨g1,g3,g4,g5,g2⟩ | ⟨g1,g3,g4,g5,g6,g2⟩ | ⟨g1,g3,g4,g5,g6,g7⟩
   iterate 5
    focus
     replace g2:=Lib.hid g2
     try have m1:decide (x.low < 0)=false:=decide_eq_false (by omega)
     try have m3:decide (x.high < x.low)=false:=decide_eq_false (by omega)
     try have m4:decide (c.lim < x.high)=false:=decide_eq_false (by omega)
     try have m5:decide (x.add < -1000)=false:=decide_eq_false (by omega)
     refine wp_region_cq (by kernel_rfl) (by kernel_rfl) ?_
     repeat (first
      | go_big_quiet_skip
      | (refine wpQuiet_want (by rfl) (fun K hK=>?_)
         first
          | (refine quiet_move _ (by rfl) (hK _ ?_))
          | (refine quiet_assign _ (by rfl) (hK _ ?_))
          | (apply Exists.intro
             refine⟨fun w' hC=>?_,hK _ ?_⟩
             ·(unfold Oper.quietAt
               obtain⟨t2,t5,t6,t7,t8⟩:=HU.out w' (HF1.out.trans hC);obtain⟨k0,k1⟩:=HAT.out.frm (HF.out.trans (HF1.out.trans hC))
               clear hC
               go_simp
               try exact⟨rfl,rfl⟩
               try rfl))
         clear hK K
         try simp only[nrm,Act.eval,nrq]))
     refine wpQuiet_nil ?_
     intro w2 hf2
     go_wp2
     go_ret
     exact⟨by rw[g2.out];rfl,HF.out.trans (HF1.out.trans hf2)⟩
   ·have m1:decide (x.low < 0)=false:=decide_eq_false (by omega)
    have m3:decide (x.high < x.low)=false:=decide_eq_false (by omega)
    have m4:decide (c.lim < x.high)=false:=decide_eq_false (by omega)
    have m5:decide (x.add < -1000)=false:=decide_eq_false (by omega)
    have m6:decide (1000 < x.add)=false:=decide_eq_false (by omega)
    have hw1:wrap64 (x.low + x.add)=x.low + x.add:=by unfold wrap64;omega
    have hw2:wrap64 (x.high + x.add)=x.high + x.add:=by unfold wrap64;omega
    have hw3:IntKind.i64.wrap (x.low + x.add)=x.low + x.add:=by simp[IntKind.wrap,show IntKind.i64.bits=64 from rfl,show IntKind.i64.signed=true from rfl];omega
    have hw4:IntKind.i64.wrap (x.high + x.add)=x.high + x.add:=by simp[IntKind.wrap,show IntKind.i64.bits=64 from rfl,show IntKind.i64.signed=true from rfl];omega
    refine wp_region_cq (by kernel_rfl) (by kernel_rfl) ?_
    repeat (first
     | go_big_quiet_skip
     | (refine wpQuiet_want (by rfl) (fun K hK=>?_)
        first
         | (refine quiet_move _ (by rfl) (hK _ ?_))
         | (refine quiet_assign _ (by rfl) (hK _ ?_))
         | (apply Exists.intro
            refine⟨fun w' hC=>?_,hK _ ?_⟩
            ·(unfold Oper.quietAt
              obtain⟨t2,t5,t6,t7,t8⟩:=HU.out w' (HF1.out.trans hC);obtain⟨k0,k1⟩:=HAT.out.frm (HF.out.trans (HF1.out.trans hC))
              clear hC
              go_simp
              try exact⟨rfl,rfl⟩
              try rfl))
        clear hK K
        try simp only[nrm,Act.eval,nrq]))
    refine wpQuiet_nil ?_
    intro w2 hf2
    have HF2:=Lib.hid (HF1.out.trans hf2)
    clear hf2
    rcases g7 with ⟨g7,g2⟩ | ⟨g7,g2⟩
    all_goals replace g2:=Lib.hid g2
    ·try have m7:decide (0≤x.low + x.add)=false:=decide_eq_false (by omega)
     go_upto_region 6 with fail
     refine wp_region_cq (by kernel_rfl) (by kernel_rfl) ?_
     repeat (first
      | go_big_quiet_skip
      | (refine wpQuiet_want (by rfl) (fun K hK=>?_)
         first
          | (refine quiet_move _ (by rfl) (hK _ ?_))
          | (refine quiet_assign _ (by rfl) (hK _ ?_))
          | (apply Exists.intro
             refine⟨fun w' hC=>?_,hK _ ?_⟩
             ·(unfold Oper.quietAt
               obtain⟨t2,t5,t6,t7,t8⟩:=HU.out w' (HF2.out.trans hC);obtain⟨k0,k1⟩:=HAT.out.frm (HF.out.trans (HF2.out.trans hC))
               clear hC
               go_simp
               try exact⟨rfl,rfl⟩
               try rfl))
         clear hK K
         try simp only[nrm,Act.eval,nrq]))
     refine wpQuiet_nil ?_
     intro w3 hf3
     go_wp2
     go_ret
     exact⟨by rw[g2.out];rfl,HF.out.trans (HF2.out.trans hf3)⟩
    ·try have m7:decide (0≤x.low + x.add)=false:=decide_eq_false (by omega)
     go_upto_region 6 with fail
     refine wp_region_cq (by kernel_rfl) (by kernel_rfl) ?_
     repeat (first
      | go_big_quiet_skip
      | (refine wpQuiet_want (by rfl) (fun K hK=>?_)
         first
          | (refine quiet_move _ (by rfl) (hK _ ?_))
          | (refine quiet_assign _ (by rfl) (hK _ ?_))
          | (apply Exists.intro
             refine⟨fun w' hC=>?_,hK _ ?_⟩
             ·(unfold Oper.quietAt
               obtain⟨t2,t5,t6,t7,t8⟩:=HU.out w' (HF2.out.trans hC);obtain⟨k0,k1⟩:=HAT.out.frm (HF.out.trans (HF2.out.trans hC))
               clear hC
               go_simp
               try exact⟨rfl,rfl⟩
               try rfl))
         clear hK K
         try simp only[nrm,Act.eval,nrq]))
     refine wpQuiet_nil ?_
     intro w3 hf3
     go_wp2
     go_ret
     exact⟨by rw[g2.out];rfl,HF.out.trans (HF2.out.trans hf3)⟩
end Go.Proofs.YtemjlpahohmajaaGreat
