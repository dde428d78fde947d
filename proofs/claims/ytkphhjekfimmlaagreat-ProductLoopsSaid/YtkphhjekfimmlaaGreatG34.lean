/- Part of the proof. -/
import Derived.Test.YtkphhjekfimmlaaGreatG30
import Derived.Test.YtkphhjekfimmlaaGreatG25
import Derived.Test.YtkphhjekfimmlaaGreatG26
import Derived.Lib.Builder
import Derived.Shelf.SortM.Plain
import Derived.Shelf.SortM.SortNone
import Derived.Sort.CutIn
import Derived.OrdersIn
import Derived.Test.YtkphhjekfimmlaaGreatG23
import Derived.Lib.AppendStr
import Derived.Laws.OwnMore
import Derived.LaidEql
import Derived.Test.YtkphhjekfimmlaaGreatG33
import Derived.ProofKit
import Derived.SizedLaws
import Derived.Deep.Slices
import Derived.Test.YtkphhjekfimmlaaGreatRows
import Derived.Lib.SmallJoins
set_option linter.all false
namespace Go.Proofs.YtkphhjekfimmlaaGreat
open Go.RowKit Go.BigFrame
theorem ixf_le {α:Type} {p:α→Bool}:∀ {l:List α} {i:Nat} {x:α},l[i]?=some x→p x=true→ixf p l≤i
 | [],i,x,h,_=>by simp at h
 | a :: l,0,x,h,hp=>by simp at h;subst h;unfold ixf;rw[hp];simp
 | a :: l,i + 1,x,h,hp=>by
   have h2:=ixf_le (l:=l) (i:=i) (x:=x) (by simpa using h) hp
   unfold ixf
   split
   ·omega
   ·split <;> omega
theorem cWays {r:RolD} {i:Nat} {x:CtrD} (hx:r.ctrs[i]?=some x) :
  (nameB x.name=false∧ctrBad r i x=true)∨(nameB x.name=true∧ctrIx r.ctrs x.name≠i∧ctrBad r i x=true)∨(nameB x.name=true∧ctrIx r.ctrs x.name=i∧x.lim < 1∧ctrBad r i x=true) ∨
  (nameB x.name=true∧ctrIx r.ctrs x.name=i∧¬ x.lim < 1∧1000 < x.lim∧ctrBad r i x=true)∨(nameB x.name=true∧ctrIx r.ctrs x.name=i∧¬ x.lim < 1∧¬ 1000 < x.lim∧ctrBad r i x=false):=by
 have h:ctrIx r.ctrs x.name≤i:=ixf_le hx (by simp)
 unfold ctrBad
 cases nameB x.name with
 | false=>left;simp
 | true =>
   right
   simp only[Bool.not_true,Bool.false_or,Bool.or_eq_true,Bool.or_eq_false_iff,decide_eq_true_eq,decide_eq_false_iff_not,true_and]
   omega
theorem sWays {r:RolD} {i:Nat} {x:StD} (hx:r.sts[i]?=some x) :
  (nameB x.name=false∧stBad r i x=true)∨(nameB x.name=true∧stIx r x.name≠i∧stBad r i x=true)∨(nameB x.name=true∧stIx r x.name=i∧x.wait < 0∧stBad r i x=true) ∨
  (nameB x.name=true∧stIx r x.name=i∧¬ x.wait < 0∧1048576 < x.wait∧stBad r i x=true)∨(nameB x.name=true∧stIx r x.name=i∧¬ x.wait < 0∧¬ 1048576 < x.wait∧stBad r i x=false):=by
 have h:stIx r x.name≤i:=ixf_le hx (by simp)
 unfold stBad
 cases nameB x.name with
 | false=>left;simp
 | true =>
   right
   simp only[Bool.not_true,Bool.false_or,Bool.or_eq_true,Bool.or_eq_false_iff,decide_eq_true_eq,decide_eq_false_iff_not,true_and]
   omega
set_option maxHeartbeats 4000000 in
set_option maxRecDepth 100000 in
theorem aCheck_any (v:Value) (r:RolD) (w:World) (h:RlV w v r) (hs:SmR r):Calls Tryz.prog 99 #[v] w (RetV fun u w'=>∃ i,u=.tuple #[.int .i64 i,.int .i64 (ckRole r)]∧Frm [] w w'):=by
 obtain⟨sv,cv,tv,rfl,h3⟩:=h
 obtain⟨aS,cs,es,hss⟩:=id h3.sts
 obtain⟨ac,cc,ec,hcc⟩:=id h3.ctrs
 obtain⟨at',ct,et,htt⟩:=id h3.steps
 subst es;subst ec;subst et
 have HSS:=Lib.hid hss;have HCC:=Lib.hid hcc;have HTT:=Lib.hid htt
 obtain⟨X,hX⟩:∃ X,w.alloc (.cells #[.string r.name,.slice aS r.sts.length cs,.slice ac r.ctrs.length cc,.slice at' r.steps.length ct] 53)=X:=⟨_,rfl⟩
 have hf0:Frm [] w X:=by rw[← hX];exact(Frm.refl _ _).alloc _
 have HR:Hid (RBox X w.heap.size (.slice aS r.sts.length cs) (.slice ac r.ctrs.length cc) (.slice at' r.steps.length ct) r):=Lib.hid ⟨by rw[← hX];exact heap_alloc_new _ _,h3.frm hf0⟩
 have HF0:=Lib.hid hf0
 have CN:Hid (∀ V s,Calls Tryz.prog 98 #[.string s] V (Ret (.bool (nameB s)) (Frm [] V))):=Lib.hid fun V s=>aName_any s V
 have CC:Hid (∀ V s,Frm [] X V→Calls Tryz.prog 145 #[.agg #[.string r.name,.slice aS r.sts.length cs,.slice ac r.ctrs.length cc,.slice at' r.steps.length ct],.string s] V (Ret (.int .i64 (ctrIx r.ctrs s)) (Frm [] V))):=Lib.hid fun V s hV=>aCounter_any _ r s V (HR.out.frm hV).val (by have:=hs.c;omega)
 have CS:Hid (∀ V s,Frm [] X V→Calls Tryz.prog 146 #[.agg #[.string r.name,.slice aS r.sts.length cs,.slice ac r.ctrs.length cc,.slice at' r.steps.length ct],.string s] V (Ret (.int .i64 (stIx r s)) (Frm [] V))):=Lib.hid fun V s hV=>aState_any _ r s V (HR.out.frm hV).val (by have:=hs.s;omega)
 have CA:Hid ((∀ c∈r.ctrs,1≤c.lim∧c.lim≤1000)→∀ V (i:Nat) x,r.steps[i]?=some x→Frm [] X V→Calls Tryz.prog 147 #[.agg #[.string r.name,.slice aS r.sts.length cs,.slice ac r.ctrs.length cc,.slice at' r.steps.length ct],.int .i64 i] V (Ret (.bool (stepB r i x)) (Frm [] V))):=Lib.hid fun hl V i x hx hV=>aAllowed_any _ r i x V (HR.out.frm hV).val hx ⟨hs.t,hs.s,hs.c⟩ hl
 have HU:Hid (∀ V,Frm [] X V→V.cell? ⟨w.heap.size,0,none⟩=some (.string r.name)∧V.cell? ⟨w.heap.size,1,none⟩=some (.slice aS r.sts.length cs)∧V.cell? ⟨w.heap.size,2,none⟩=some (.slice ac r.ctrs.length cc)∧V.cell? ⟨w.heap.size,3,none⟩=some (.slice at' r.steps.length ct)):=Lib.hid fun V hV=>(HR.out.frm hV).cells
 have HB:Hid (∀ V,Frm [] X V→V.heap[w.heap.size]?=some (.cells #[.string r.name,.slice aS r.sts.length cs,.slice ac r.ctrs.length cc,.slice at' r.steps.length ct] 53 (0,0))):=Lib.hid fun V hV=>(HR.out.frm hV).hb
 obtain⟨ck,hck⟩:∃ c,ckRole r=c:=⟨_,rfl⟩
 obtain⟨a1,ha1⟩:∃ b,anyIx (ctrBad r) 0 r.ctrs=b:=⟨_,rfl⟩
 obtain⟨a2,ha2⟩:∃ b,anyIx (stBad r) 0 r.sts=b:=⟨_,rfl⟩
 obtain⟨a3,ha3⟩:∃ b,anyIx (fun i s=>!stepB r i s) 0 r.steps=b:=⟨_,rfl⟩
 have HY1:Hid (∀ i x,r.ctrs[i]?=some x→ctrBad r i x=true→a1=true):=Lib.hid fun i x hx hb=>by rw[← ha1];exact anyIx_iff.2 ⟨i,x,hx,by rw[Nat.zero_add];exact hb⟩
 have HY2:Hid (∀ i x,r.sts[i]?=some x→stBad r i x=true→a2=true):=Lib.hid fun i x hx hb=>by rw[← ha2];exact anyIx_iff.2 ⟨i,x,hx,by rw[Nat.zero_add];exact hb⟩
 have HY3:Hid (∀ i x,r.steps[i]?=some x→stepB r i x=false→a3=true):=Lib.hid fun i x hx hb=>by rw[← ha3];exact anyIx_iff.2 ⟨i,x,hx,by rw[Nat.zero_add,hb];rfl⟩
 have HN1:Hid ((∀ i x,r.ctrs[i]?=some x→ctrBad r i x=false)→a1=false):=Lib.hid fun h=>by rw[← ha1];exact anyIx_false.2 fun i x hx=>by rw[Nat.zero_add];exact h i x hx
 have HN2:Hid ((∀ i x,r.sts[i]?=some x→stBad r i x=false)→a2=false):=Lib.hid fun h=>by rw[← ha2];exact anyIx_false.2 fun i x hx=>by rw[Nat.zero_add];exact h i x hx
 have HN3:Hid ((∀ i x,r.steps[i]?=some x→stepB r i x=true)→a3=false):=Lib.hid fun h=>by rw[← ha3];exact anyIx_false.2 fun i x hx=>by rw[Nat.zero_add,h i x hx];rfl
 have HCK:Hid (ck=if nameB r.name=false then 290 else if 4 < r.ctrs.length∨a1=true then 291 else if r.sts.length < 1∨24 < r.sts.length∨a2=true then 292 else if 80 < r.steps.length∨a3=true then 293 else 0):=Lib.hid (by rw[← hck,← ha1,← ha2,← ha3];rfl)
 rw[hck]
 obtain⟨q0,hq0⟩:∃ q,nameB r.name=q:=⟨_,rfl⟩
 have CN0:=Lib.hid (fun V=>CN.out V r.name)
 rw[hq0] at CN0 HCK
 obtain⟨ns,hns⟩:∃ n,r.sts.length=n:=⟨_,rfl⟩
 obtain⟨nc,hnc⟩:∃ n,r.ctrs.length=n:=⟨_,rfl⟩
 obtain⟨nt,hnt⟩:∃ n,r.steps.length=n:=⟨_,rfl⟩
 rw[hns] at HCK HU HB CC CS CA hX;rw[hnc] at HCK HU HB CC CS CA hX;rw[hnt] at HCK HU HB CC CS CA hX
 rw[hns,hnc,hnt]
 have bns:ns≤100:=by rw[← hns];exact hs.s
 have bnc:nc≤100:=by rw[← hnc];exact hs.c
 have bnt:nt≤100:=by rw[← hnt];exact hs.t
 have HNS:=Lib.hid hns;have HNC:=Lib.hid hnc;have HNT:=Lib.hid hnt
 have HE:=Lib.hid hX
 clear h3 hss hcc htt hs hf0 hX HR hck ha1 ha2 ha3 hq0 hns hnc hnt
 go_enter Tryz.func99,Tryz.ntmps99
 go_upto_region 1 with (first | (refine wpList_box_row rfl 53 _ rfl _ rfl ?_;rw[HE.out]))
 clear HE
 obtain⟨e0,e1,e2,e3⟩:=HU.out X (Frm.refl _ _)
 cases q0 with
 | false =>
   have HR:Hid (ck=290):=Lib.hid (by rw[HCK.out,if_pos rfl])
   clear HCK
   go_wp2_with (first
    | (go_at_call 98;go_must (refine(CN0.out _).mono ?_;rintro e w1 ⟨rfl,hf1⟩;have HF1:=Lib.hid hf1;clear hf1)))
   go_ret2
   first | exact⟨_,rfl,_,by rw[HR.out];rfl,HF0.out.trans HF1.out⟩ | exact⟨_,rfl,⟨_,by rw[HR.out];rfl⟩,HF0.out.trans HF1.out⟩ | exact⟨_,rfl,by rw[HR.out];rfl,HF0.out.trans HF1.out⟩
 | true =>
   rw[if_neg (by decide)] at HCK
   go_upto_region 3 with (first
    | (go_at_call 98;go_must (refine(CN0.out _).mono ?_;rintro e w1 ⟨rfl,hf1⟩;have HFS:=Lib.hid hf1;clear hf1 e0 e1 e2 e3;obtain⟨e0,e1,e2,e3⟩:=HU.out w1 HFS.out)))
   by_cases hb1:4 < nc
   ·have HR:Hid (ck=291):=Lib.hid (by rw[HCK.out,if_pos (.inl hb1)])
    have hb1':(4:Int) < (nc:Int):=by omega
    clear HCK
    go_wp2
    go_ret2
    first | exact⟨_,rfl,_,by rw[HR.out];rfl,HF0.out.trans HFS.out⟩ | exact⟨_,rfl,⟨_,by rw[HR.out];rfl⟩,HF0.out.trans HFS.out⟩ | exact⟨_,rfl,by rw[HR.out];rfl,HF0.out.trans HFS.out⟩
   have HRc:Hid (∀ i x,r.ctrs[i]?=some x→ctrBad r i x=true→ck=291):=Lib.hid fun i x hx hb=>by rw[HCK.out,if_pos (.inr (HY1.out i x hx hb))]
   have hb1':¬ (4:Int) < (nc:Int):=by omega
   go_upto_region 6 with fail
   clear e0 e1 e2 e3
   go_loopw [4] (fun s4 wr=>∃ i:Nat,s4=.int .i64 i∧i≤nc∧Frm [] X wr∧∀ j y,j < i→r.ctrs[j]?=some y→ctrBad r j y=false) (fun s4 _=>nc - (intOf s4).toNat)
   case atStart=>exact⟨0,rfl,Nat.zero_le _,HFS.out,fun j y hj=>by omega⟩
   case round =>
    clear HFS
    obtain⟨i,rfl,hi,hf,hno⟩:=hrel
    have HF:=Lib.hid hf;have HNO:=Lib.hid hno
    clear hf hno
    obtain⟨w9,hw9⟩:∃ w9,w9=wr:=⟨_,rfl⟩
    subst hw9
    obtain⟨e0,e1,e2,e3⟩:=HU.out w9 HF.out
    by_cases hlt:i < nc
    ·have hlt':(i:Int) < (nc:Int):=by omega
     obtain⟨x,hx⟩:∃ x,r.ctrs[i]?=some x:=⟨_,List.getElem?_eq_getElem (by rw[HNC.out];exact hlt)⟩
     obtain⟨bb,oo,rfl,hat⟩:=HCC.out i x hx
     have HAT:=Lib.hid hat
     have HWY:=Lib.hid (cWays (r:=r) hx)
     have CNi:=Lib.hid (fun V=>CN.out V x.name)
     have CCi:=Lib.hid (fun V hV=>CC.out V x.name hV)
     obtain⟨q,hq⟩:∃ q,ctrIx r.ctrs x.name=q:=⟨_,rfl⟩
     rw[hq] at CCi HWY
     have HX:=Lib.hid hx
     clear hat hx hq
     rcases HWY.out with ⟨n1,nb⟩ | ⟨n1,n2,nb⟩ | ⟨n1,n2,n3,nb⟩ | ⟨n1,n2,n3,n4,nb⟩ | ⟨n1,n2,n3,n4,nb⟩
     iterate 4
      focus
       rw[n1] at CNi
       try have m2:(q == (i:Int))=false:=by simpa using n2
       try have m3:(q != (i:Int))=true:=by simpa using n2
       try (have m4:q=(i:Int):=n2;subst m4)
       try have m5:decide (x.lim < 1)=true:=decide_eq_true n3
       try have m5:decide (x.lim < 1)=false:=decide_eq_false n3
       try have m6:decide (1000 < x.lim)=true:=decide_eq_true n4
       have HR:Hid (ck=291):=Lib.hid (HRc.out i x HX.out nb)
       clear n1 nb HWY
       go_upto_region 8 with fail
       refine wp_region_cq (by kernel_rfl) (by kernel_rfl) ?_
       repeat (first
        | go_big_quiet_skip
        | (refine wpQuiet_want (by rfl) (fun K hK=>?_)
           first
            | (refine quiet_move _ (by rfl) (hK _ ?_))
            | (refine quiet_assign _ (by rfl) (hK _ ?_))
            | (refine cq_call (.bool _) 98 #[.string x.name] (fun w' hC=>?_) (fun w' hC=>Ret.cq (CNi.out w') (fun w'' h=>hC.trans h)) (hK _ ?_)
               ·go_simp)
            | (refine cq_call (.int .i64 _) 145 #[.agg #[.string r.name,.slice aS ns cs,.slice (some ⟨bb,oo,none⟩) nc cc,.slice at' nt ct],.string x.name] (fun w' hC=>?_) (fun w' hC=>Ret.cq (CCi.out w' (HF.out.trans hC)) (fun w'' h=>hC.trans h)) (hK _ ?_)
               ·go_simp)
            | (apply Exists.intro
               refine⟨fun w' hC=>?_,hK _ ?_⟩
               ·(unfold Oper.quietAt
                 obtain⟨e0,e1,e2,e3⟩:=HU.out w' (HF.out.trans hC);obtain⟨g0,g1⟩:=HAT.out.frm (HF0.out.trans (HF.out.trans hC))
                 clear hC
                 go_simp
                 try exact⟨rfl,rfl⟩
                 try rfl))
           clear hK K
           try simp only[nrm,Act.eval,nrq]))
       refine wpQuiet_nil ?_
       intro w2 hf2
       go_wp2
       go_ret2
       first | exact⟨_,rfl,_,by rw[HR.out];rfl,HF0.out.trans (HF.out.trans hf2)⟩ | exact⟨_,rfl,⟨_,by rw[HR.out];rfl⟩,HF0.out.trans (HF.out.trans hf2)⟩ | exact⟨_,rfl,by rw[HR.out];rfl,HF0.out.trans (HF.out.trans hf2)⟩
     ·rw[n1] at CNi
      subst n2
      have m5:decide (x.lim < 1)=false:=decide_eq_false n3
      have m6:decide (1000 < x.lim)=false:=decide_eq_false n4
      have HNB:=Lib.hid nb
      clear n1 nb HWY
      go_upto_region 8 with fail
      refine wp_region_cq (by kernel_rfl) (by kernel_rfl) ?_
      repeat (first
       | go_big_quiet_skip
       | (refine wpQuiet_want (by rfl) (fun K hK=>?_)
          first
           | (refine quiet_move _ (by rfl) (hK _ ?_))
           | (refine quiet_assign _ (by rfl) (hK _ ?_))
           | (refine cq_call (.bool _) 98 #[.string x.name] (fun w' hC=>?_) (fun w' hC=>Ret.cq (CNi.out w') (fun w'' h=>hC.trans h)) (hK _ ?_)
              ·go_simp)
           | (refine cq_call (.int .i64 _) 145 #[.agg #[.string r.name,.slice aS ns cs,.slice (some ⟨bb,oo,none⟩) nc cc,.slice at' nt ct],.string x.name] (fun w' hC=>?_) (fun w' hC=>Ret.cq (CCi.out w' (HF.out.trans hC)) (fun w'' h=>hC.trans h)) (hK _ ?_)
              ·go_simp)
           | (apply Exists.intro
              refine⟨fun w' hC=>?_,hK _ ?_⟩
              ·(unfold Oper.quietAt
                obtain⟨e0,e1,e2,e3⟩:=HU.out w' (HF.out.trans hC);obtain⟨g0,g1⟩:=HAT.out.frm (HF0.out.trans (HF.out.trans hC))
                clear hC
                go_simp
                try exact⟨rfl,rfl⟩
                try rfl))
          clear hK K
          try simp only[nrm,Act.eval,nrq]))
      refine wpQuiet_nil ?_
      intro w2 hf2
      go_wp2
      refine⟨⟨i + 1,congrArg (Value.int .i64) (by omega),hlt,HF.out.trans hf2,fun j y hj hy=>?_⟩,by simp[intOf];omega⟩
      by_cases e:j=i
      ·subst e;rw[HX.out] at hy;cases hy;exact HNB.out
      ·exact HNO.out j y (by omega) hy
    ·obtain rfl:nc=i:=by omega
     have hge:¬ (nc:Int) < (nc:Int):=by omega
     have HEND:Hid (∀ j y,r.ctrs[j]?=some y→ctrBad r j y=false):=Lib.hid fun j y hy=>HNO.out j y (by have:=lt_of_some hy;rw[HNC.out] at this;omega) hy
     have HLIM:Hid (∀ c∈r.ctrs,1≤c.lim∧c.lim≤1000):=Lib.hid fun c hc=>by
      obtain⟨j,hj⟩:=List.getElem?_of_mem hc
      have:=HEND.out j c hj
      unfold ctrBad at this
      simp only[Bool.or_eq_false_iff,decide_eq_false_iff_not] at this
      omega
     have CA:=Lib.hid (CA.out HLIM.out)
     have HCK:=Lib.hid HCK.out
     rw[if_neg (fun h=>h.elim hb1 (fun h=>by rw[HN1.out HEND.out] at h;cases h))] at HCK
     have HFS:=HF
     clear HEND HNO HF HLIM HRc CC HCC HN1 HY1
     go_upto_region 10 with fail
     by_cases hb2:ns < 1
     ·have HR:Hid (ck=292):=Lib.hid (by rw[HCK.out,if_pos (.inl hb2)])
      obtain rfl:ns=0:=by omega
      clear HCK
      go_wp2
      go_ret2
      first | exact⟨_,rfl,_,by rw[HR.out];rfl,HF0.out.trans HFS.out⟩ | exact⟨_,rfl,⟨_,by rw[HR.out];rfl⟩,HF0.out.trans HFS.out⟩ | exact⟨_,rfl,by rw[HR.out];rfl,HF0.out.trans HFS.out⟩
     have hb2':((ns:Int) == 0)=false:=by simp;omega
     by_cases hb3:24 < ns
     ·have HR:Hid (ck=292):=Lib.hid (by rw[HCK.out,if_pos (.inr (.inl hb3))])
      have hb3':(24:Int) < (ns:Int):=by omega
      clear HCK
      go_wp2
      go_ret2
      first | exact⟨_,rfl,_,by rw[HR.out];rfl,HF0.out.trans HFS.out⟩ | exact⟨_,rfl,⟨_,by rw[HR.out];rfl⟩,HF0.out.trans HFS.out⟩ | exact⟨_,rfl,by rw[HR.out];rfl,HF0.out.trans HFS.out⟩
     have hb3':¬ (24:Int) < (ns:Int):=by omega
     have HRs:Hid (∀ i x,r.sts[i]?=some x→stBad r i x=true→ck=292):=Lib.hid fun i x hx hb=>by rw[HCK.out,if_pos (.inr (.inr (HY2.out i x hx hb)))]
     go_upto_region 15 with fail
     clear e0 e1 e2 e3 hge hlt hi
     go_loopw [5] (fun s5 wr=>∃ i:Nat,s5=.int .i64 i∧i≤ns∧Frm [] X wr∧∀ j y,j < i→r.sts[j]?=some y→stBad r j y=false) (fun s5 _=>ns - (intOf s5).toNat)
     case atStart=>exact⟨0,rfl,Nat.zero_le _,HFS.out,fun j y hj=>by omega⟩
     case round =>
      clear HFS
      obtain⟨i,rfl,hi,hf,hno⟩:=hrel
      have HF:=Lib.hid hf;have HNO:=Lib.hid hno
      clear hf hno
      obtain⟨w9,hw9⟩:∃ w9,w9=wr:=⟨_,rfl⟩
      subst hw9
      obtain⟨e0,e1,e2,e3⟩:=HU.out w9 HF.out
      by_cases hlt:i < ns
      ·have hlt':(i:Int) < (ns:Int):=by omega
       obtain⟨x,hx⟩:∃ x,r.sts[i]?=some x:=⟨_,List.getElem?_eq_getElem (by rw[HNS.out];exact hlt)⟩
       obtain⟨bb,oo,rfl,hat⟩:=HSS.out i x hx
       have HAT:=Lib.hid hat
       have HWY:=Lib.hid (sWays (r:=r) hx)
       have CNi:=Lib.hid (fun V=>CN.out V x.name)
       have CCi:=Lib.hid (fun V hV=>CS.out V x.name hV)
       obtain⟨q,hq⟩:∃ q,stIx r x.name=q:=⟨_,rfl⟩
       rw[hq] at CCi HWY
       have HX:=Lib.hid hx
       clear hat hx hq
       rcases HWY.out with ⟨n1,nb⟩ | ⟨n1,n2,nb⟩ | ⟨n1,n2,n3,nb⟩ | ⟨n1,n2,n3,n4,nb⟩ | ⟨n1,n2,n3,n4,nb⟩
       iterate 4
        focus
         rw[n1] at CNi
         try have m2:(q == (i:Int))=false:=by simpa using n2
         try have m3:(q != (i:Int))=true:=by simpa using n2
         try (have m4:q=(i:Int):=n2;subst m4)
         try have m5:decide (x.wait < 0)=true:=decide_eq_true n3
         try have m5:decide (x.wait < 0)=false:=decide_eq_false n3
         try have m6:decide (1048576 < x.wait)=true:=decide_eq_true n4
         have HR:Hid (ck=292):=Lib.hid (HRs.out i x HX.out nb)
         clear n1 nb HWY
         go_upto_region 17 with fail
         refine wp_region_cq (by kernel_rfl) (by kernel_rfl) ?_
         repeat (first
          | go_big_quiet_skip
          | (refine wpQuiet_want (by rfl) (fun K hK=>?_)
             first
              | (refine quiet_move _ (by rfl) (hK _ ?_))
              | (refine quiet_assign _ (by rfl) (hK _ ?_))
              | (refine cq_call (.bool _) 98 #[.string x.name] (fun w' hC=>?_) (fun w' hC=>Ret.cq (CNi.out w') (fun w'' h=>hC.trans h)) (hK _ ?_)
                 ·go_simp)
              | (refine cq_call (.int .i64 _) 146 #[.agg #[.string r.name,.slice (some ⟨bb,oo,none⟩) ns cs,.slice ac nc cc,.slice at' nt ct],.string x.name] (fun w' hC=>?_) (fun w' hC=>Ret.cq (CCi.out w' (HF.out.trans hC)) (fun w'' h=>hC.trans h)) (hK _ ?_)
                 ·go_simp)
              | (apply Exists.intro
                 refine⟨fun w' hC=>?_,hK _ ?_⟩
                 ·(unfold Oper.quietAt
                   obtain⟨e0,e1,e2,e3⟩:=HU.out w' (HF.out.trans hC);obtain⟨g0,-,g1⟩:=HAT.out.frm (HF0.out.trans (HF.out.trans hC))
                   clear hC
                   go_simp
                   try exact⟨rfl,rfl⟩
                   try rfl))
             clear hK K
             try simp only[nrm,Act.eval,nrq]))
         refine wpQuiet_nil ?_
         intro w2 hf2
         go_wp2
         go_ret2
         first | exact⟨_,rfl,_,by rw[HR.out];rfl,HF0.out.trans (HF.out.trans hf2)⟩ | exact⟨_,rfl,⟨_,by rw[HR.out];rfl⟩,HF0.out.trans (HF.out.trans hf2)⟩ | exact⟨_,rfl,by rw[HR.out];rfl,HF0.out.trans (HF.out.trans hf2)⟩
       ·rw[n1] at CNi
        subst n2
        have m5:decide (x.wait < 0)=false:=decide_eq_false n3
        have m6:decide (1048576 < x.wait)=false:=decide_eq_false n4
        have HNB:=Lib.hid nb
        clear n1 nb HWY
        go_upto_region 17 with fail
        refine wp_region_cq (by kernel_rfl) (by kernel_rfl) ?_
        repeat (first
         | go_big_quiet_skip
         | (refine wpQuiet_want (by rfl) (fun K hK=>?_)
            first
             | (refine quiet_move _ (by rfl) (hK _ ?_))
             | (refine quiet_assign _ (by rfl) (hK _ ?_))
             | (refine cq_call (.bool _) 98 #[.string x.name] (fun w' hC=>?_) (fun w' hC=>Ret.cq (CNi.out w') (fun w'' h=>hC.trans h)) (hK _ ?_)
                ·go_simp)
             | (refine cq_call (.int .i64 _) 146 #[.agg #[.string r.name,.slice (some ⟨bb,oo,none⟩) ns cs,.slice ac nc cc,.slice at' nt ct],.string x.name] (fun w' hC=>?_) (fun w' hC=>Ret.cq (CCi.out w' (HF.out.trans hC)) (fun w'' h=>hC.trans h)) (hK _ ?_)
                ·go_simp)
             | (apply Exists.intro
                refine⟨fun w' hC=>?_,hK _ ?_⟩
                ·(unfold Oper.quietAt
                  obtain⟨e0,e1,e2,e3⟩:=HU.out w' (HF.out.trans hC);obtain⟨g0,-,g1⟩:=HAT.out.frm (HF0.out.trans (HF.out.trans hC))
                  clear hC
                  go_simp
                  try exact⟨rfl,rfl⟩
                  try rfl))
            clear hK K
            try simp only[nrm,Act.eval,nrq]))
        refine wpQuiet_nil ?_
        intro w2 hf2
        go_wp2
        refine⟨⟨i + 1,congrArg (Value.int .i64) (by omega),hlt,HF.out.trans hf2,fun j y hj hy=>?_⟩,by simp[intOf];omega⟩
        by_cases e:j=i
        ·subst e;rw[HX.out] at hy;cases hy;exact HNB.out
        ·exact HNO.out j y (by omega) hy
      ·obtain rfl:ns=i:=by omega
       have hge:¬ (ns:Int) < (ns:Int):=by omega
       have HEND:Hid (∀ j y,r.sts[j]?=some y→stBad r j y=false):=Lib.hid fun j y hy=>HNO.out j y (by have:=lt_of_some hy;rw[HNS.out] at this;omega) hy
       have HCK:=Lib.hid HCK.out
       rw[if_neg (fun h=>h.elim hb2 (fun h=>h.elim hb3 (fun h=>by rw[HN2.out HEND.out] at h;cases h)))] at HCK
       have HFS:=HF
       clear HEND HNO HF HRs CS HSS HN2 HY2
       go_upto_region 19 with fail
       by_cases hb4:80 < nt
       ·have HR:Hid (ck=293):=Lib.hid (by rw[HCK.out,if_pos (.inl hb4)])
        have hb4':(80:Int) < (nt:Int):=by omega
        clear HCK
        go_wp2
        go_ret2
        first | exact⟨_,rfl,_,by rw[HR.out];rfl,HF0.out.trans HFS.out⟩ | exact⟨_,rfl,⟨_,by rw[HR.out];rfl⟩,HF0.out.trans HFS.out⟩ | exact⟨_,rfl,by rw[HR.out];rfl,HF0.out.trans HFS.out⟩
       have hb4':¬ (80:Int) < (nt:Int):=by omega
       have HRt:Hid (∀ i x,r.steps[i]?=some x→stepB r i x=false→ck=293):=Lib.hid fun i x hx hb=>by rw[HCK.out,if_pos (.inr (HY3.out i x hx hb))]
       go_upto_region 22 with fail
       clear e0 e1 e2 e3 hge hlt hi
       go_loopw [6] (fun s6 wr=>∃ i:Nat,s6=.int .i64 i∧i≤nt∧Frm [] X wr∧∀ j y,j < i→r.steps[j]?=some y→stepB r j y=true) (fun s6 _=>nt - (intOf s6).toNat)
       case atStart=>exact⟨0,rfl,Nat.zero_le _,HFS.out,fun j y hj=>by omega⟩
       case round =>
        clear HFS
        obtain⟨i,rfl,hi,hf,hno⟩:=hrel
        have HF:=Lib.hid hf;have HNO:=Lib.hid hno
        clear hf hno
        obtain⟨w9,hw9⟩:∃ w9,w9=wr:=⟨_,rfl⟩
        subst hw9
        obtain⟨e0,e1,e2,e3⟩:=HU.out w9 HF.out
        by_cases hlt:i < nt
        ·have hlt':(i:Int) < (nt:Int):=by omega
         obtain⟨x,hx⟩:∃ x,r.steps[i]?=some x:=⟨_,List.getElem?_eq_getElem (by rw[HNT.out];exact hlt)⟩
         have CAi:=Lib.hid (CA.out w9 i x hx HF.out)
         have HX:=Lib.hid hx
         clear hx
         cases hb:stepB r i x with
         | false =>
           rw[hb] at CAi
           have HR:Hid (ck=293):=Lib.hid (HRt.out i x HX.out hb)
           clear hb
           go_wp2_with (first
            | (refine wpList_load_whole rfl 53 _ rfl _ rfl _ 53 (HB.out _ HF.out) _ Tryz.underlying53 rfl (by kernel_rfl) ?_)
            | (go_at_call 147;go_must (refine CAi.out.mono ?_;rintro e w1 ⟨rfl,hf1⟩;have HF1:=Lib.hid (HF.out.trans hf1);clear hf1)))
           go_ret2
           first | exact⟨_,rfl,_,by rw[HR.out];rfl,HF0.out.trans HF1.out⟩ | exact⟨_,rfl,⟨_,by rw[HR.out];rfl⟩,HF0.out.trans HF1.out⟩ | exact⟨_,rfl,by rw[HR.out];rfl,HF0.out.trans HF1.out⟩
         | true =>
           rw[hb] at CAi
           have HNB:=Lib.hid hb
           clear hb
           go_wp2_with (first
            | (refine wpList_load_whole rfl 53 _ rfl _ rfl _ 53 (HB.out _ HF.out) _ Tryz.underlying53 rfl (by kernel_rfl) ?_)
            | (go_at_call 147;go_must (refine CAi.out.mono ?_;rintro e w1 ⟨rfl,hf1⟩;have HF1:=Lib.hid (HF.out.trans hf1);clear hf1)))
           refine⟨⟨i + 1,congrArg (Value.int .i64) (by omega),hlt,HF1.out,fun j y hj hy=>?_⟩,by simp[intOf];omega⟩
           by_cases e:j=i
           ·subst e;rw[HX.out] at hy;cases hy;exact HNB.out
           ·exact HNO.out j y (by omega) hy
        ·obtain rfl:nt=i:=by omega
         have hge:¬ (nt:Int) < (nt:Int):=by omega
         have HR:Hid (ck=0):=Lib.hid (by
          rw[HCK.out,if_neg]
          rintro(h | h)
          ·exact hb4 h
          ·rw[HN3.out fun j y hy=>HNO.out j y (by have:=lt_of_some hy;rw[HNT.out] at this;omega) hy] at h;cases h)
         go_wp2
         go_ret2
         first | exact⟨_,rfl,_,by rw[HR.out];rfl,HF0.out.trans HF.out⟩ | exact⟨_,rfl,⟨_,by rw[HR.out];rfl⟩,HF0.out.trans HF.out⟩ | exact⟨_,rfl,by rw[HR.out];rfl,HF0.out.trans HF.out⟩
end Go.Proofs.YtkphhjekfimmlaaGreat
namespace Go.Proofs.YtkphhjekfimmlaaGreat
open Go.RowKit Go.BigFrame
theorem rolIx_back {s:SesD} {i:Nat} (hi:i < s.roles.length):(rolIx s (s.rol i).name < i→∃ k,k < i∧(s.rol k).name=(s.rol i).name)∧((∃ k,k < i∧(s.rol k).name=(s.rol i).name)→rolIx s (s.rol i).name < i):=by
 have hm:s.roles[i]?=some (s.rol i):=SesD.rol_some hi
 constructor
 ·intro h
  have h0:0≤rolIx s (s.rol i).name:=ixf_ex (List.mem_of_getElem? hm) (by simp)
  obtain⟨k,hk,-⟩:=ixf_nat h0
  obtain⟨x,h1,h2,-⟩:=ixf_at hk
  refine⟨k,by unfold rolIx at h;omega,?_⟩
  rw[show s.rol k=x from getD_some h1]
  simpa using h2
 ·rintro⟨k,hk,he⟩
  have hk':s.roles[k]?=some (s.rol k):=SesD.rol_some (by omega)
  have:=ixf_le (p:=fun r:RolD=>decide (r.name=(s.rol i).name)) hk' (by simpa using he)
  unfold rolIx
  omega
def knownB (s:SesD) (x:StpD) (n:Nat):Bool:=decide (2 < x.kind) || (s.roles.take n).any fun r=>decide (r.name=x.peer)
theorem knownB_all {s:SesD} {x:StpD} (hk:1≤x.kind∧x.kind≤4):knownB s x s.roles.length=!(speaks x && decide (rolIx s x.peer < 0)):=by
 unfold knownB speaks
 rw[List.take_length]
 have e:decide (rolIx s x.peer < 0)=!s.roles.any fun r=>decide (r.name=x.peer):=by
  rw[← ixf_anyB]
  unfold rolIx
  by_cases h:ixf (fun r:RolD=>decide (r.name=x.peer)) s.roles < 0
  ·rw[decide_eq_true h,decide_eq_false (p:=0≤ixf (fun r:RolD=>decide (r.name=x.peer)) s.roles) (by omega)];rfl
  ·rw[decide_eq_false h,decide_eq_true (p:=0≤ixf (fun r:RolD=>decide (r.name=x.peer)) s.roles) (by omega)];rfl
 rw[e]
 have e2:decide (2 < x.kind)=!(decide (x.kind=1) || decide (x.kind=2)):=by
  rw[Bool.eq_iff_iff]
  simp
  omega
 rw[e2]
 cases decide (x.kind=1) || decide (x.kind=2) <;> cases s.roles.any fun r=>decide (r.name=x.peer) <;> rfl
theorem knownB_succ {s:SesD} {x:StpD} {n:Nat} (h:n < s.roles.length):knownB s x (n + 1)=(knownB s x n || decide ((s.rol n).name=x.peer)):=by
 unfold knownB
 rw[List.take_add_one,SesD.rol_some h]
 simp[Bool.or_assoc]
theorem ckRole_kind {r:RolD} (h:ckRole r=0):∀ x∈r.steps,1≤x.kind∧x.kind≤4:=by
 intro x hx
 obtain⟨i,hi⟩:=List.getElem?_of_mem hx
 have h1:stepB r i x=true:=by
  unfold ckRole at h
  repeat' split at h
  all_goals first | omega | skip
  rename_i h4
  have:=h4
  have ha:anyIx (fun i s=>!stepB r i s) 0 r.steps=false:=by
   cases hb:anyIx (fun i s=>!stepB r i s) 0 r.steps with
   | false=>rfl
   | true=>exact absurd (.inr hb) h4
  have:=(anyIx_false.1 ha) i x hi
  rw[Nat.zero_add] at this
  simpa using this
 unfold stepB at h1
 split at h1
 ·cases h1
 ·simp only[Bool.and_eq_true] at h1
  have hk:=h1.1.2
  unfold kindB at hk
  repeat' split at hk
  all_goals first | omega | cases hk
set_option maxHeartbeats 4000000 in
set_option maxRecDepth 100000 in
theorem aSes_any (v:Value) (s:SesD) (w:World) (h:SesV w v s) (hs:SmS s):Calls Tryz.prog 48 #[v] w (RetV fun u w'=>∃ i,u=.tuple #[.int .i64 i,.int .i64 (ckSes s)]∧Frm [] w w'):=by
 obtain⟨rv,rfl,hr⟩:=h
 obtain⟨ao,cap,e,-⟩:=id hr
 subst e
 have HSM:=Lib.hid hs
 have HRL:=Lib.hid hr
 have CN:Hid (∀ V,Calls Tryz.prog 98 #[.string s.name] V (Ret (.bool (nameB s.name)) (Frm [] V))):=Lib.hid fun V=>aName_any s.name V
 have HCK:Hid (ckSes s=if nameB s.name=false then 290 else if sesBad s=true then 2 else if firstE s 0 s.roles=0 then (if s.roles.any (lostB s)=true then 294 else 0) else firstE s 0 s.roles):=Lib.hid rfl
 obtain⟨ck,hck⟩:∃ c,ckSes s=c:=⟨_,rfl⟩
 rw[hck] at HCK ⊢
 have HW:=Lib.hid (ses_ways s)
 obtain⟨n,hn⟩:∃ n,s.roles.length=n:=⟨_,rfl⟩
 rw[hn] at HW HRL ⊢
 have HN:=Lib.hid hn
 have bn:n≤100:=by rw[← hn];exact hs.n
 obtain⟨W0,hW0⟩:∃ W0,w.alloc (.cells #[.string s.name,.slice ao n cap,.int .i64 s.cls,.int .i64 s.cap] 25)=W0:=⟨_,rfl⟩
 have hf0:Frm [] w W0:=by rw[← hW0];exact(Frm.refl [] w).alloc _
 have HF0:=Lib.hid hf0
 have HCL:Hid (∀ V,Frm [] W0 V→V.cell? ⟨w.heap.size,0,none⟩=some (.string s.name)∧V.cell? ⟨w.heap.size,1,none⟩=some (.slice ao n cap)∧V.cell? ⟨w.heap.size,2,none⟩=some (.int .i64 s.cls)∧V.cell? ⟨w.heap.size,3,none⟩=some (.int .i64 s.cap)):=Lib.hid fun V hV=>by
  have hb:W0.heap[w.heap.size]?=some (.cells #[.string s.name,.slice ao n cap,.int .i64 s.cls,.int .i64 s.cap] 25 (0,0)):=by rw[← hW0];exact heap_alloc_new _ _
  exact⟨hV.keep (cell_of hb 0),hV.keep (cell_of hb 1),hV.keep (cell_of hb 2),hV.keep (cell_of hb 3)⟩
 have HRL0:Hid (∀ V,Frm [] W0 V→Rls V (.slice ao n cap) s.roles):=Lib.hid fun V hV=>HRL.out.frm (hf0.trans hV)
 have HE:=Lib.hid hW0
 obtain⟨q0,hq0⟩:∃ q,nameB s.name=q:=⟨_,rfl⟩
 rw[hq0] at CN HCK
 clear hr hs hck hn hf0 hW0 hq0 HRL
 go_enter Tryz.func48,Tryz.ntmps48
 go_upto_region 1 with (first | (refine wpList_box_row rfl 25 _ rfl _ rfl ?_;rw[HE.out]))
 clear HE
 obtain⟨e0,e1,e2,e3⟩:=HCL.out W0 (Frm.refl _ _)
 cases q0 with
 | false =>
   have HCK:Hid (ck=290):=Lib.hid (by rw[HCK.out,if_pos rfl])
   go_wp2_with (first
    | (go_at_call 98;go_must (refine(CN.out _).mono ?_;rintro e w1 ⟨rfl,hf1⟩;have HF1:=Lib.hid (HF0.out.trans hf1);clear hf1)))
   go_ret2
   first | exact⟨_,rfl,_,by rw[HCK.out];rfl,HF1.out⟩ | exact⟨_,rfl,⟨_,by rw[HCK.out];rfl⟩,HF1.out⟩ | exact⟨_,rfl,by rw[HCK.out];rfl,HF1.out⟩
 | true =>
   rw[if_neg (by decide)] at HCK
   rcases HW.out with hb | ⟨hb,hw⟩
   ·have hg:=ses_good hb
    rw[hb,if_neg (by decide)] at HCK
    have hc1:decide ((n:Int) < 2)=false:=decide_eq_false (by rw[← HN.out];omega)
    have hc2:decide (4 < (n:Int))=false:=decide_eq_false (by rw[← HN.out];omega)
    have hc3:decide (s.cls < 1)=false:=decide_eq_false (by omega)
    have hc4:decide (3 < s.cls)=false:=decide_eq_false (by omega)
    have hc5:decide (s.cap < 1)=false:=decide_eq_false (by omega)
    have hc6:decide (4 < s.cap)=false:=decide_eq_false (by omega)
    clear hg hb HW
    go_wp2_with (first
     | (go_at_call 98;go_must (refine(CN.out _).mono ?_;rintro e w1 ⟨rfl,hf1⟩;have HF1:=Lib.hid hf1;clear e0 e1 e2 e3;obtain⟨e0,e1,e2,e3⟩:=HCL.out w1 hf1;clear hf1)))
    clear CN hc1 hc2 hc3 hc4 hc5 hc6 e0 e1 e2 e3
    go_loopw [4] (fun s4 wr=>∃ i:Nat,s4=.int .i64 i∧i≤n∧Frm [] W0 wr∧∀ j,j < i→rolE s j (s.rol j)=0) (fun s4 _=>n - (intOf s4).toNat)
    case atStart=>exact⟨0,rfl,Nat.zero_le _,HF1.out,fun j hj=>by omega⟩
    case round =>
     clear HF1
     obtain⟨i,rfl,hi,hf,hno⟩:=hrel
     have HF:=Lib.hid hf;have HNO:=Lib.hid hno
     clear hf hno
     obtain⟨w9,hw9⟩:∃ w9,w9=wr:=⟨_,rfl⟩
     subst hw9
     obtain⟨e0,e1,e2,e3⟩:=HCL.out w9 HF.out
     by_cases hlt:i < n
     ·have hlt':(i:Int) < (n:Int):=by omega
      have hin:i < s.roles.length:=by rw[HN.out];exact hlt
      obtain⟨b,o,sv,cv,tv,rfl,⟨d0,d1,d2,d3⟩,h3⟩:=Rls.at (HRL0.out w9 HF.out) hin
      obtain⟨aS,cs,es,-⟩:=id h3.sts
      obtain⟨ac,cc,ec,-⟩:=id h3.ctrs
      obtain⟨at',ct,et,-⟩:=id h3.steps
      subst es;subst ec;subst et
      have hmem:s.rol i∈s.roles:=List.mem_of_getElem? (SesD.rol_some hin)
      have CR:Hid (Calls Tryz.prog 99 #[.agg #[.string (s.rol i).name,.slice aS (s.rol i).sts.length cs,.slice ac (s.rol i).ctrs.length cc,.slice at' (s.rol i).steps.length ct]] w9 (RetV fun u w'=>∃ i',u=.tuple #[.int .i64 i',.int .i64 (ckRole (s.rol i))]∧Frm [] w9 w')):=Lib.hid
       (aCheck_any _ (s.rol i) w9 ⟨_,_,_,rfl,h3⟩ (HSM.out.r _ hmem))
      have HRE:Hid (rolE s i (s.rol i)=if ckRole (s.rol i)=0 then (if rolIx s (s.rol i).name < i then 290 else 0) else ckRole (s.rol i)):=Lib.hid rfl
      have HFE:Hid (rolE s i (s.rol i)≠0→firstE s 0 s.roles=rolE s i (s.rol i)):=Lib.hid fun hne=>by
       have:=firstE_hit s s.roles 0 i hin (fun j hj=>by rw[Nat.zero_add];exact HNO.out j hj) (by rw[Nat.zero_add];exact hne)
       rw[Nat.zero_add] at this
       exact this
      have HBK:=Lib.hid (rolIx_back hin)
      obtain⟨c,hc⟩:∃ c,ckRole (s.rol i)=c:=⟨_,rfl⟩
      obtain⟨q,hq⟩:∃ q,rolIx s (s.rol i).name=q:=⟨_,rfl⟩
      obtain⟨re,hre⟩:∃ q,rolE s i (s.rol i)=q:=⟨_,rfl⟩
      obtain⟨nm,hnm⟩:∃ q,(s.rol i).name=q:=⟨_,rfl⟩
      obtain⟨n1,hn1⟩:∃ q,(s.rol i).sts.length=q:=⟨_,rfl⟩
      obtain⟨n2,hn2⟩:∃ q,(s.rol i).ctrs.length=q:=⟨_,rfl⟩
      obtain⟨n3,hn3⟩:∃ q,(s.rol i).steps.length=q:=⟨_,rfl⟩
      rw[hc] at CR HRE;rw[hq] at HBK HRE;rw[hre] at HRE HFE;rw[hnm] at CR HBK d0;rw[hn1] at CR d1;rw[hn2] at CR d2;rw[hn3] at CR d3
      have HREI:=Lib.hid hre
      have HNM:=Lib.hid hnm
      clear h3 hmem hin hc hq hre hnm hn1 hn2 hn3
      by_cases hc:c=0
      ·have q1:(c == 0)=true:=by simpa using hc
       have q2:(c != 0)=false:=by simpa using hc
       rw[if_pos hc] at HRE
       clear hc
       go_wp2_with (first
        | (go_at_call 99;go_must (refine CR.out.mono ?_;rintro e w2 ⟨u,rfl,i',rfl,hf2⟩;have HF2:Hid (Frm [] W0 w2):=Lib.hid (HF.out.trans hf2);clear hf2)))
       clear e0 e1 e2 e3 d0 d1 d2 d3 CR
       go_loopw [7] (fun s7 wl=>∃ k:Nat,s7=.int .i64 k∧k≤i∧Frm [] W0 wl∧∀ j,j < k→decide ((s.rol j).name=nm)=false) (fun s7 _=>i - (intOf s7).toNat)
       case atStart=>exact⟨0,rfl,Nat.zero_le _,HF2.out,fun j hj=>by omega⟩
       case round =>
        clear HF2
        obtain⟨k,rfl,hk,hf,hnk⟩:=hrel
        have HFK:=Lib.hid hf;have HNK:=Lib.hid hnk
        clear hf hnk
        obtain⟨w8,hw8⟩:∃ w8,w8=wr:=⟨_,rfl⟩
        subst hw8
        obtain⟨e0,e1,e2,e3⟩:=HCL.out w8 HFK.out
        by_cases hlk:k < i
        ·have hlk':(k:Int) < (i:Int):=by omega
         have hlkn:(k:Int) < (n:Int):=by omega
         obtain⟨b',o',-,-,-,eb,⟨g0,-⟩,-⟩:=Rls.at (HRL0.out w8 HFK.out) (i:=k) (by rw[HN.out];omega)
         cases eb
         obtain⟨b',o',-,-,-,eb,⟨g1,-⟩,-⟩:=Rls.at (HRL0.out w8 HFK.out) (i:=i) (by rw[HN.out];omega)
         cases eb
         rw[HNM.out] at g1
         have HG:Hid (∀ V,Frm [] w8 V→(V.cell? ⟨b,o + k * 4,none⟩=some (.string (s.rol k).name)∧V.cell? ⟨b,o + i * 4,none⟩=some (.string nm))∧V.cell? ⟨w.heap.size,1,none⟩=some (.slice (some ⟨b,o,none⟩) n cap)):=Lib.hid fun V hV=>⟨⟨hV.keep g0,hV.keep g1⟩,hV.keep e1⟩
         have hsb:((s.rol k).name.toList == nm.toList)=decide ((s.rol k).name=nm):=str_beq _ _
         clear g0 g1
         cases hpx:decide ((s.rol k).name=nm) with
         | true =>
           rw[hpx] at hsb
           have HCK:Hid (ck=290):=Lib.hid (by
            have hx:q < i:=HBK.out.2 ⟨k,hlk,by simpa using hpx⟩
            have hz:re=290:=by rw[HRE.out,if_pos hx]
            rw[HCK.out,HFE.out (by rw[hz];decide),hz];rfl)
           clear HFE HRE HREI hpx
           go_upto_region 14 with fail
           refine wp_region_cq (by kernel_rfl) (by kernel_rfl) ?_
           repeat (first
            | go_big_quiet_skip
            | (refine wpQuiet_want (by rfl) (fun K hK=>?_)
               first
                | (refine quiet_move _ (by rfl) (hK _ ?_))
                | (refine quiet_assign _ (by rfl) (hK _ ?_))
                | (apply Exists.intro
                   refine⟨fun w' hC=>?_,hK _ ?_⟩
                   ·(unfold Oper.quietAt
                     obtain⟨⟨g0,g1⟩,e1⟩:=HG.out w' hC
                     clear hC
                     go_simp
                     try exact⟨rfl,rfl⟩
                     try rfl))
               clear hK K
               try simp only[nrm,Act.eval,nrq]))
           refine wpQuiet_nil ?_
           intro w5 hf5
           go_wp2
           go_ret2
           first | exact⟨_,rfl,_,by rw[HCK.out];rfl,HF0.out.trans (HFK.out.trans hf5)⟩ | exact⟨_,rfl,⟨_,by rw[HCK.out];rfl⟩,HF0.out.trans (HFK.out.trans hf5)⟩ | exact⟨_,rfl,by rw[HCK.out];rfl,HF0.out.trans (HFK.out.trans hf5)⟩
         | false =>
           rw[hpx] at hsb
           have HPX:=Lib.hid hpx
           clear HFE HRE HREI hpx
           go_upto_region 14 with fail
           refine wp_region_cq (by kernel_rfl) (by kernel_rfl) ?_
           repeat (first
            | go_big_quiet_skip
            | (refine wpQuiet_want (by rfl) (fun K hK=>?_)
               first
                | (refine quiet_move _ (by rfl) (hK _ ?_))
                | (refine quiet_assign _ (by rfl) (hK _ ?_))
                | (apply Exists.intro
                   refine⟨fun w' hC=>?_,hK _ ?_⟩
                   ·(unfold Oper.quietAt
                     obtain⟨⟨g0,g1⟩,e1⟩:=HG.out w' hC
                     clear hC
                     go_simp
                     try exact⟨rfl,rfl⟩
                     try rfl))
               clear hK K
               try simp only[nrm,Act.eval,nrq]))
           refine wpQuiet_nil ?_
           intro w5 hf5
           go_wp2
           refine⟨⟨k + 1,congrArg (Value.int .i64) (by omega),hlk,HFK.out.trans hf5,fun j hj=>?_⟩,by simp[intOf];omega⟩
           by_cases e:j=k
           ·subst e;exact HPX.out
           ·exact HNK.out j (by omega)
        ·obtain rfl:i=k:=by omega
         have hge:¬ (i:Int) < (i:Int):=by omega
         have hz:re=0:=by
          rw[HRE.out,if_neg]
          intro hx
          obtain⟨j,hj,he⟩:=HBK.out.1 hx
          have:=HNK.out j hj
          simp[he] at this
         have HZ:=Lib.hid hz
         clear hz HFE HRE
         go_wp2
         refine⟨⟨i + 1,congrArg (Value.int .i64) (by omega),hlt,HFK.out,fun j hj=>?_⟩,by simp[intOf];omega⟩
         by_cases e:j=i
         ·subst e;rw[HREI.out,HZ.out]
         ·exact HNO.out j (by omega)
      ·have q1:(c == 0)=false:=by simpa using hc
       have q2:(c != 0)=true:=by simpa using hc
       rw[if_neg hc] at HRE
       have HCK:Hid (ck=c):=Lib.hid (by
        have h1:=HFE.out (by rw[HRE.out];exact hc)
        rw[HCK.out,h1,HRE.out,if_neg hc])
       clear hc HFE HRE HREI
       go_wp2_with (first
        | (go_at_call 99;go_must (refine CR.out.mono ?_;rintro e w2 ⟨u,rfl,i',rfl,hf2⟩;have HF2:Hid (Frm [] W0 w2):=Lib.hid (HF.out.trans hf2);clear hf2)))
       go_ret2
       first | exact⟨_,rfl,_,by rw[HCK.out];rfl,HF0.out.trans HF2.out⟩ | exact⟨_,rfl,⟨_,by rw[HCK.out];rfl⟩,HF0.out.trans HF2.out⟩ | exact⟨_,rfl,by rw[HCK.out];rfl,HF0.out.trans HF2.out⟩
     ·obtain rfl:n=i:=by omega
      have hge:¬ (n:Int) < (n:Int):=by omega
      have hfe:firstE s 0 s.roles=0:=firstE_go s s.roles 0 (fun j hj=>by rw[Nat.zero_add];exact HNO.out j (by rw[HN.out] at hj;exact hj))
      have HCK:=Lib.hid HCK.out
      rw[hfe,if_pos rfl] at HCK
      have HKD:Hid (∀ j,j < n→∀ x∈(s.rol j).steps,1≤x.kind∧x.kind≤4):=Lib.hid fun j hj=>by
       have h1:=HNO.out j hj
       refine ckRole_kind ?_
       unfold rolE at h1
       by_cases hz:ckRole (s.rol j)=0
       ·exact hz
       ·rw[if_neg hz] at h1;exact h1
      obtain⟨lb,hlb⟩:∃ b,s.roles.any (lostB s)=b:=⟨_,rfl⟩
      rw[hlb] at HCK
      have HLB:=Lib.hid hlb
      have HFn:=HF
      clear hfe hlb HNO HF hlt hi
      go_wp2
      clear e0 e1 e2 e3 hge
      go_loopw [8] (fun s8 wl=>∃ a:Nat,s8=.int .i64 a∧a≤n∧Frm [] W0 wl∧∀ j,j < a→lostB s (s.rol j)=false) (fun s8 _=>n - (intOf s8).toNat)
      case atStart=>exact⟨0,rfl,Nat.zero_le _,HFn.out,fun j hj=>by omega⟩
      case round =>
       clear HFn
       obtain⟨a,rfl,ha,hf,hno⟩:=hrel
       have HF:=Lib.hid hf;have HNO:=Lib.hid hno
       clear hf hno
       obtain⟨w7,hw7⟩:∃ w7,w7=wr:=⟨_,rfl⟩
       subst hw7
       obtain⟨e0,e1,e2,e3⟩:=HCL.out w7 HF.out
       by_cases hlt:a < n
       ·have hlt':(a:Int) < (n:Int):=by omega
        have hin:a < s.roles.length:=by rw[HN.out];exact hlt
        have HROL:Hid (∀ V,Frm [] W0 V→∃ b o sv cv tv,ao=some ⟨b,o,none⟩ ∧
         (V.cell? ⟨b,o + a * 4,none⟩=some (.string (s.rol a).name)∧V.cell? ⟨b,o + a * 4 + 1,none⟩=some sv∧V.cell? ⟨b,o + a * 4 + 2,none⟩=some cv∧V.cell? ⟨b,o + a * 4 + 3,none⟩=some tv)∧Rl3 V sv cv tv (s.rol a)):=Lib.hid fun V hV=>Rls.at (HRL0.out V hV) hin
        have HHIT:Hid (lostB s (s.rol a)=true→lb=true):=Lib.hid fun h=>by rw[← HLB.out,List.any_eq_true];exact⟨_,List.mem_of_getElem? (SesD.rol_some hin),h⟩
        obtain⟨b,o,sv,cv,tv,rfl,⟨-,-,-,d3⟩,h3⟩:=HROL.out W0 (Frm.refl _ _)
        obtain⟨at',ct,et,htt⟩:=h3.steps
        subst et
        obtain⟨n3,hn3⟩:∃ q,(s.rol a).steps.length=q:=⟨_,rfl⟩
        have hb3:n3≤100:=by rw[← hn3];exact(HSM.out.r _ (List.mem_of_getElem? (SesD.rol_some hin))).t
        have HN3:=Lib.hid hn3
        rw[hn3] at d3
        have HD3:Hid (∀ V,Frm [] W0 V→V.cell? ⟨b,o + a * 4 + 3,none⟩=some (.slice at' n3 ct)):=Lib.hid fun V hV=>hV.keep d3
        have HTT:=Lib.hid htt
        clear hn3 d3 h3 htt hin HROL e0 e1 e2 e3
        obtain⟨e0,e1,e2,e3⟩:=HCL.out w7 HF.out
        go_upto_region 20 with fail
        clear e0 e1 e2 e3
        go_loopw [9] (fun s9 wl=>∃ k:Nat,s9=.int .i64 k∧k≤n3∧Frm [] W0 wl∧∀ j t,j < k→(s.rol a).steps[j]?=some t→(speaks t && decide (rolIx s t.peer < 0))=false) (fun s9 _=>n3 - (intOf s9).toNat)
        case atStart=>exact⟨0,rfl,Nat.zero_le _,HF.out,fun j t hj=>by omega⟩
        case round =>
         clear HF
         obtain⟨k,rfl,hk,hf,hnk⟩:=hrel
         have HF:=Lib.hid hf;have HNK:=Lib.hid hnk
         clear hf hnk
         obtain⟨w6,hw6⟩:∃ w6,w6=wr:=⟨_,rfl⟩
         subst hw6
         obtain⟨e0,e1,e2,e3⟩:=HCL.out w6 HF.out
         have d3:=HD3.out w6 HF.out
         by_cases hlk:k < n3
         ·have hlk':(k:Int) < (n3:Int):=by omega
          obtain⟨x,hx⟩:∃ x,(s.rol a).steps[k]?=some x:=⟨_,List.getElem?_eq_getElem (by rw[HN3.out];exact hlk)⟩
          obtain⟨bt,ot,rfl,hat⟩:=HTT.out k x hx
          obtain⟨c0,c1,c2,c3,c4,c5,c6,c7,c8⟩:=hat.frm HF.out
          have HKX:=Lib.hid (HKD.out a hlt x (List.mem_of_getElem? hx))
          have HX:=Lib.hid hx
          have hb0:=cell_lt c0
          obtain⟨X,hX⟩:∃ X,w6.alloc (.cells #[.string x.frm,.string x.to,.int .i64 x.kind,.string x.msg,.string x.peer,.string x.ctr,.int .i64 x.low,.int .i64 x.high,.int .i64 x.add] 60)=X:=⟨_,rfl⟩
          have HX6:Hid (Frm [] W0 X):=Lib.hid (by rw[← hX];exact HF.out.alloc _)
          have HT:Hid (∀ V,Frm [] X V→V.cell? ⟨w6.heap.size,2,none⟩=some (.int .i64 x.kind)∧V.cell? ⟨w6.heap.size,4,none⟩=some (.string x.peer)):=Lib.hid fun V hV=>by
           have hb:X.heap[w6.heap.size]?=some (.cells #[.string x.frm,.string x.to,.int .i64 x.kind,.string x.msg,.string x.peer,.string x.ctr,.int .i64 x.low,.int .i64 x.high,.int .i64 x.add] 60 (0,0)):=by rw[← hX];exact heap_alloc_new _ _
           exact⟨hV.keep (cell_of hb 2),hV.keep (cell_of hb 4)⟩
          have HE:=Lib.hid hX
          clear hat hx hX
          go_upto_region 23 with fail
          rw[HE.out]
          clear HE c0 c1 c2 c3 c4 c5 c6 c7 c8 hb0 e0 e1 e2 e3 d3
          obtain⟨t2,t4⟩:=HT.out X (Frm.refl _ _)
          go_upto_region 25 with fail
          clear t2 t4
          have HKB0:Hid (knownB s x 0=decide (2 < x.kind)):=Lib.hid (by simp[knownB])
          go_loopw [12,11] (fun s12 s11 wl=>∃ m:Nat,(s12=.int .i64 m∧s11=.bool (knownB s x m))∧m≤n∧Frm [] X wl) (fun s12 _ _=>n - (intOf s12).toNat)
          case atStart=>exact⟨0,⟨rfl,by rw[HKB0.out]⟩,Nat.zero_le _,Frm.refl _ _⟩
          case round =>
           obtain⟨m,⟨rfl,rfl⟩,hm,hf⟩:=hrel
           have HFM:=Lib.hid hf
           clear hf
           obtain⟨w5,hw5⟩:∃ w5,w5=wr:=⟨_,rfl⟩
           subst hw5
           obtain⟨e0,e1,e2,e3⟩:=HCL.out w5 (HX6.out.trans HFM.out)
           by_cases hlm:m < n
           ·have hlm':(m:Int) < (n:Int):=by omega
            have HKS:=Lib.hid (knownB_succ (s:=s) (x:=x) (n:=m) (by rw[HN.out];exact hlm))
            obtain⟨b',o',-,-,-,eb,⟨g0,-⟩,-⟩:=Rls.at (HRL0.out w5 (HX6.out.trans HFM.out)) (i:=m) (by rw[HN.out];omega)
            cases eb
            obtain⟨kb,hkb⟩:∃ kb,knownB s x m=kb:=⟨_,rfl⟩
            rw[hkb] at HKS ⊢
            obtain⟨-,t4⟩:=HT.out w5 HFM.out
            have hsb:((s.rol m).name.toList == x.peer.toList)=decide ((s.rol m).name=x.peer):=str_beq _ _
            obtain⟨pb,hpb⟩:∃ pb,decide ((s.rol m).name=x.peer)=pb:=⟨_,rfl⟩
            rw[hpb] at hsb HKS
            have HG:Hid (∀ V,Frm [] w5 V→(V.cell? ⟨b,o + m * 4,none⟩=some (.string (s.rol m).name)∧V.cell? ⟨w6.heap.size,4,none⟩=some (.string x.peer))∧V.cell? ⟨w.heap.size,1,none⟩=some (.slice (some ⟨b,o,none⟩) n cap)):=Lib.hid fun V hV=>⟨⟨hV.keep g0,hV.keep t4⟩,hV.keep e1⟩
            clear hkb hpb g0 t4
            cases kb with
            | true =>
              go_upto_region 27 with fail
              refine wp_region_cq (by kernel_rfl) (by kernel_rfl) ?_
              repeat (first
               | go_big_quiet_skip
               | (refine wpQuiet_want (by rfl) (fun K hK=>?_)
                  first
                   | (refine quiet_move _ (by rfl) (hK _ ?_))
                   | (refine quiet_assign _ (by rfl) (hK _ ?_))
                   | (apply Exists.intro
                      refine⟨fun w' hC=>?_,hK _ ?_⟩
                      ·(unfold Oper.quietAt
                        obtain⟨⟨g0,t4⟩,e1⟩:=HG.out w' hC
                        clear hC
                        go_simp
                        try exact⟨rfl,rfl⟩
                        try rfl))
                  clear hK K
                  try simp only[nrm,Act.eval,nrq]))
              refine wpQuiet_nil ?_
              intro w4 hf4
              go_wp2
              exact⟨⟨m + 1,⟨congrArg (Value.int .i64) (by omega),by rw[HKS.out];rfl⟩,hlm,HFM.out.trans hf4⟩,by simp[intOf];omega⟩
            | false =>
              go_upto_region 27 with fail
              refine wp_region_cq (by kernel_rfl) (by kernel_rfl) ?_
              repeat (first
               | go_big_quiet_skip
               | (refine wpQuiet_want (by rfl) (fun K hK=>?_)
                  first
                   | (refine quiet_move _ (by rfl) (hK _ ?_))
                   | (refine quiet_assign _ (by rfl) (hK _ ?_))
                   | (apply Exists.intro
                      refine⟨fun w' hC=>?_,hK _ ?_⟩
                      ·(unfold Oper.quietAt
                        obtain⟨⟨g0,t4⟩,e1⟩:=HG.out w' hC
                        clear hC
                        go_simp
                        try exact⟨rfl,rfl⟩
                        try rfl))
                  clear hK K
                  try simp only[nrm,Act.eval,nrq]))
              refine wpQuiet_nil ?_
              intro w4 hf4
              go_wp2
              exact⟨⟨m + 1,⟨congrArg (Value.int .i64) (by omega),by rw[HKS.out];rfl⟩,hlm,HFM.out.trans hf4⟩,by simp[intOf];omega⟩
           ·obtain rfl:n=m:=by omega
            have hge:¬ (n:Int) < (n:Int):=by omega
            have HKA:Hid (knownB s x n=!(speaks x && decide (rolIx s x.peer < 0))):=Lib.hid (by
             have:=knownB_all (s:=s) HKX.out
             rw[HN.out] at this
             exact this)
            have HFX:=Lib.hid (HX6.out.trans HFM.out)
            obtain⟨lo,hlo⟩:∃ l,(speaks x && decide (rolIx s x.peer < 0))=l:=⟨_,rfl⟩
            rw[hlo] at HKA
            rw[HKA.out]
            cases lo with
            | true =>
              have HCK:Hid (ck=294):=Lib.hid (by
               have h1:lb=true:=HHIT.out (by unfold lostB;rw[List.any_eq_true];exact⟨x,List.mem_of_getElem? HX.out,hlo⟩)
               rw[HCK.out,h1,if_pos rfl])
              clear hlo HKA HHIT
              go_wp2
              go_ret2
              first | exact⟨_,rfl,_,by rw[HCK.out];rfl,HF0.out.trans HFX.out⟩ | exact⟨_,rfl,⟨_,by rw[HCK.out];rfl⟩,HF0.out.trans HFX.out⟩ | exact⟨_,rfl,by rw[HCK.out];rfl,HF0.out.trans HFX.out⟩
            | false =>
              have HLO:=Lib.hid hlo
              clear hlo HKA
              go_wp2
              refine⟨⟨k + 1,congrArg (Value.int .i64) (by omega),hlk,HFX.out,fun j t hj ht=>?_⟩,by simp[intOf];omega⟩
              by_cases e:j=k
              ·subst e;rw[HX.out] at ht;cases ht;exact HLO.out
              ·exact HNK.out j t (by omega) ht
         ·obtain rfl:n3=k:=by omega
          have hge:¬ (n3:Int) < (n3:Int):=by omega
          have HLO:Hid (lostB s (s.rol a)=false):=Lib.hid (by
           unfold lostB
           rw[List.any_eq_false]
           intro t ht
           obtain⟨j,hj⟩:=List.getElem?_of_mem ht
           rw[HNK.out j t (by have:=lt_of_some hj;rw[HN3.out] at this;exact this) hj]
           decide)
          clear HHIT
          go_wp2
          refine⟨⟨a + 1,congrArg (Value.int .i64) (by omega),hlt,HF.out,fun j hj=>?_⟩,by simp[intOf];omega⟩
          by_cases e:j=a
          ·subst e;exact HLO.out
          ·exact HNO.out j (by omega)
       ·obtain rfl:n=a:=by omega
        have hge:¬ (n:Int) < (n:Int):=by omega
        have hl:lb=false:=by
         rw[← HLB.out,List.any_eq_false]
         intro r hr
         obtain⟨j,hj⟩:=List.getElem?_of_mem hr
         have hjl:=lt_of_some hj
         have h1:=HNO.out j (by rw[HN.out] at hjl;exact hjl)
         rw[show s.rol j=r from getD_some hj] at h1
         rw[h1];decide
        have HCK:Hid (ck=0):=Lib.hid (by rw[HCK.out,hl];rfl)
        clear hl
        go_wp2
        go_ret2
        first | exact⟨_,rfl,_,by rw[HCK.out];rfl,HF0.out.trans HF.out⟩ | exact⟨_,rfl,⟨_,by rw[HCK.out];rfl⟩,HF0.out.trans HF.out⟩ | exact⟨_,rfl,by rw[HCK.out];rfl,HF0.out.trans HF.out⟩
   ·have HCK:Hid (ck=2):=Lib.hid (by rw[HCK.out,hb,if_pos rfl])
    clear hb HW
    rcases hw with h1 | ⟨h1,h2⟩ | ⟨h1,h2,h3⟩ | ⟨h1,h2,h3,h4⟩ | ⟨h1,h2,h3,h4,h5⟩ | ⟨h1,h2,h3,h4,h5,h6⟩
    all_goals
     try have hc1:decide ((n:Int) < 2)=false:=decide_eq_false (by omega)
     try have hc2:decide (4 < (n:Int))=false:=decide_eq_false (by omega)
     try have hc3:decide (s.cls < 1)=false:=decide_eq_false (by omega)
     try have hc4:decide (3 < s.cls)=false:=decide_eq_false (by omega)
     try have hc5:decide (s.cap < 1)=false:=decide_eq_false (by omega)
     go_wp2_with (first
      | (go_at_call 98;go_must (refine(CN.out _).mono ?_;rintro e w1 ⟨rfl,hf1⟩;have HF1:=Lib.hid (HF0.out.trans hf1);clear e0 e1 e2 e3;obtain⟨e0,e1,e2,e3⟩:=HCL.out w1 hf1;clear hf1)))
     go_ret2
     first | exact⟨_,rfl,_,by rw[HCK.out];rfl,HF1.out⟩ | exact⟨_,rfl,⟨_,by rw[HCK.out];rfl⟩,HF1.out⟩ | exact⟨_,rfl,by rw[HCK.out];rfl,HF1.out⟩
end Go.Proofs.YtkphhjekfimmlaaGreat
namespace Go.Proofs.YtkphhjekfimmlaaGreat
open Go.RowKit Go.BigFrame
def bA:ByteArray:={ data:=#[97] }
def bB:ByteArray:={ data:=#[98] }
def bX:ByteArray:={ data:=#[120] }
def bY:ByteArray:={ data:=#[121] }
def bM:ByteArray:={ data:=#[109] }
def bS:ByteArray:={ data:=#[115] }
def smS (cap:Int):SesD:=⟨bS,[⟨bA,[⟨bX,true,0⟩],[],[⟨bX,bX,1,bM,bB,emptyS,0,0,0⟩]⟩,⟨bB,[⟨bY,true,0⟩],[],[⟨bY,bY,2,bM,bA,emptyS,0,0,0⟩]⟩],1,cap⟩
theorem smS_ck:ckSes (smS 1)=0:=by decide +kernel
theorem smS_sm (cap:Int):SmS (smS cap):=by
 refine⟨by simp[smS],fun r hr=>?_⟩
 simp only[smS,List.mem_cons,List.not_mem_nil,or_false] at hr
 rcases hr with rfl | rfl
 all_goals
  refine⟨by simp,by simp,by simp,fun x hx=>?_,fun x hx=>?_⟩
  ·simp only[List.mem_cons,List.not_mem_nil,or_false] at hx
   subst hx
   unfold wf64;decide
  ·simp only[List.mem_cons,List.not_mem_nil,or_false] at hx
   subst hx
   decide
set_option maxHeartbeats 2000000 in
set_option maxRecDepth 100000 in
theorem sample33_any (w:World):Calls Tryz.prog 51 #[] w (RetV fun v w'=>SesV w' v (smS 1)∧Frm [] w w'):=by
 go_enter Tryz.func51,Tryz.ntmps51
 go_upto_region 3 with fail
 obtain⟨X,hX⟩:∃ X,(((((((w.alloc (.cells #[.string { data:=#[] },.slice none 0 0,.int .i64 0,.int .i64 0] 25)).alloc (.cells #[.string { data:=#[120] },.bool true,.int .i64 0] 62)).alloc (.cells #[.string { data:=#[120] },.string { data:=#[120] },.int .i64 1,.string { data:=#[109] },.string { data:=#[98] },.string { data:=#[] },.int .i64 0,.int .i64 0,.int .i64 0] 60)).alloc (.cells #[.string { data:=#[97] },.slice (some ⟨w.heap.size + 1,0,none⟩) 1 1,.slice none 0 0,.slice (some ⟨w.heap.size + 1 + 1,0,none⟩) 1 1] 53)).alloc (.cells #[.string { data:=#[121] },.bool true,.int .i64 0] 62)).alloc (.cells #[.string { data:=#[121] },.string { data:=#[121] },.int .i64 2,.string { data:=#[109] },.string { data:=#[97] },.string { data:=#[] },.int .i64 0,.int .i64 0,.int .i64 0] 60)).alloc (.cells #[.string { data:=#[98] },.slice (some ⟨w.heap.size + 1 + 1 + 1 + 1,0,none⟩) 1 1,.slice none 0 0,.slice (some ⟨w.heap.size + 1 + 1 + 1 + 1 + 1,0,none⟩) 1 1] 53))=X:=⟨_,rfl⟩
 have HF:Hid (Frm [] w X):=Lib.hid (by rw[← hX];exact(((((((Frm.refl [] w).alloc _).alloc _).alloc _).alloc _).alloc _).alloc _).alloc _)
 have H0:Hid (X.heap[w.heap.size]?=some (.cells #[.string { data:=#[] },.slice none 0 0,.int .i64 0,.int .i64 0] 25 (0,0))):=Lib.hid (by rw[← hX];exact alloc_at (alloc_at (alloc_at (alloc_at (alloc_at (alloc_at (alloc_top (by simp))))))))
 have H1:Hid (X.heap[w.heap.size + 1]?=some (.cells #[.string { data:=#[120] },.bool true,.int .i64 0] 62 (0,0))):=Lib.hid (by rw[← hX];exact alloc_at (alloc_at (alloc_at (alloc_at (alloc_at (alloc_top (by simp)))))))
 have H2:Hid (X.heap[w.heap.size + 1 + 1]?=some (.cells #[.string { data:=#[120] },.string { data:=#[120] },.int .i64 1,.string { data:=#[109] },.string { data:=#[98] },.string { data:=#[] },.int .i64 0,.int .i64 0,.int .i64 0] 60 (0,0))):=Lib.hid (by rw[← hX];exact alloc_at (alloc_at (alloc_at (alloc_at (alloc_top (by simp))))))
 have H3:Hid (X.heap[w.heap.size + 1 + 1 + 1]?=some (.cells #[.string { data:=#[97] },.slice (some ⟨w.heap.size + 1,0,none⟩) 1 1,.slice none 0 0,.slice (some ⟨w.heap.size + 1 + 1,0,none⟩) 1 1] 53 (0,0))):=Lib.hid (by rw[← hX];exact alloc_at (alloc_at (alloc_at (alloc_top (by simp)))))
 have H4:Hid (X.heap[w.heap.size + 1 + 1 + 1 + 1]?=some (.cells #[.string { data:=#[121] },.bool true,.int .i64 0] 62 (0,0))):=Lib.hid (by rw[← hX];exact alloc_at (alloc_at (alloc_top (by simp))))
 have H5:Hid (X.heap[w.heap.size + 1 + 1 + 1 + 1 + 1]?=some (.cells #[.string { data:=#[121] },.string { data:=#[121] },.int .i64 2,.string { data:=#[109] },.string { data:=#[97] },.string { data:=#[] },.int .i64 0,.int .i64 0,.int .i64 0] 60 (0,0))):=Lib.hid (by rw[← hX];exact alloc_at (alloc_top (by simp)))
 have H6:Hid (X.heap[w.heap.size + 1 + 1 + 1 + 1 + 1 + 1]?=some (.cells #[.string { data:=#[98] },.slice (some ⟨w.heap.size + 1 + 1 + 1 + 1,0,none⟩) 1 1,.slice none 0 0,.slice (some ⟨w.heap.size + 1 + 1 + 1 + 1 + 1,0,none⟩) 1 1] 53 (0,0))):=Lib.hid (by rw[← hX];exact alloc_top (by simp))
 rw[hX]
 have HB0:Hid ((X.alloc (.cells #[.string { data:=#[97] },.slice (some ⟨w.heap.size + 1,0,none⟩) 1 1,.slice none 0 0,.slice (some ⟨w.heap.size + 1 + 1,0,none⟩) 1 1,.string { data:=#[98] },.slice (some ⟨w.heap.size + 1 + 1 + 1 + 1,0,none⟩) 1 1,.slice none 0 0,.slice (some ⟨w.heap.size + 1 + 1 + 1 + 1 + 1,0,none⟩) 1 1] 53)).heap[w.heap.size]?=some (.cells #[.string { data:=#[] },.slice none 0 0,.int .i64 0,.int .i64 0] 25 (0,0))):=Lib.hid (alloc_at H0.out)
 clear hX
 go_wp2_with (first
  | (refine wpList_load_whole rfl 53 _ rfl _ rfl _ 53 H3.out _ Tryz.underlying53 rfl (by kernel_rfl) ?_)
  | (refine wpList_load_whole rfl 53 _ rfl _ rfl _ 53 H6.out _ Tryz.underlying53 rfl (by kernel_rfl) ?_)
  | (refine wpList_store_row rfl 25 _ _ rfl _ _ _ 25 rfl rfl HB0.out rfl (by kernel_rfl) (by simp[Value.oneCell']) ?_;intro w2 hb2 hf2))
 have hfX:Frm [w.heap.size] X w2:=((Frm.refl [] X).alloc _).mono (by simp) |>.trans hf2
 have hr:w2.heap[X.heap.size]?=some (.cells #[.string { data:=#[97] },.slice (some ⟨w.heap.size + 1,0,none⟩) 1 1,.slice none 0 0,.slice (some ⟨w.heap.size + 1 + 1,0,none⟩) 1 1,.string { data:=#[98] },.slice (some ⟨w.heap.size + 1 + 1 + 1 + 1,0,none⟩) 1 1,.slice none 0 0,.slice (some ⟨w.heap.size + 1 + 1 + 1 + 1 + 1,0,none⟩) 1 1] 53 (0,0)):=hf2.at (heap_alloc_new X _) (by have:=HF.out.size;have:=lt_of_block H0.out;simp;omega)
 have c1:=hfX.at H1.out (by simp <;> omega)
 have c2:=hfX.at H2.out (by simp <;> omega)
 have c4:=hfX.at H4.out (by simp <;> omega)
 have c5:=hfX.at H5.out (by simp <;> omega)
 refine bodyPost_ret (results_c1 (d:=_) (Tryz.results51) rfl hb2 rfl Tryz.underlying25 (by kernel_rfl)) rfl ⟨_,rfl,?_,HF.out.then hfX (by simp)⟩
 refine⟨_,rfl,_,2,rfl,fun i r hi=>?_⟩
 match i,hi with
 | 0,hi =>
   cases hi
   refine⟨X.heap.size,0,rfl,_,_,_,cell_of hr 0,cell_of hr 1,cell_of hr 2,cell_of hr 3,⟨⟨_,1,rfl,fun j x hj=>?_⟩,Arr.nil _ _ _,⟨_,1,rfl,fun j x hj=>?_⟩,fun _ _ _ e=>by cases e;exact Nat.le_refl _⟩⟩
   ·match j,hj with
    | 0,hj=>cases hj;exact⟨_,0,rfl,cell_of c1 0,cell_of c1 1,cell_of c1 2⟩
    | j + 1,hj=>simp at hj
   ·match j,hj with
    | 0,hj=>cases hj;exact⟨_,0,rfl,cell_of c2 0,cell_of c2 1,cell_of c2 2,cell_of c2 3,cell_of c2 4,cell_of c2 5,cell_of c2 6,cell_of c2 7,cell_of c2 8⟩
    | j + 1,hj=>simp at hj
 | 1,hi =>
   cases hi
   refine⟨X.heap.size,0,rfl,_,_,_,cell_of hr 4,cell_of hr 5,cell_of hr 6,cell_of hr 7,⟨⟨_,1,rfl,fun j x hj=>?_⟩,Arr.nil _ _ _,⟨_,1,rfl,fun j x hj=>?_⟩,fun _ _ _ e=>by cases e;exact Nat.le_refl _⟩⟩
   ·match j,hj with
    | 0,hj=>cases hj;exact⟨_,0,rfl,cell_of c4 0,cell_of c4 1,cell_of c4 2⟩
    | j + 1,hj=>simp at hj
   ·match j,hj with
    | 0,hj=>cases hj;exact⟨_,0,rfl,cell_of c5 0,cell_of c5 1,cell_of c5 2,cell_of c5 3,cell_of c5 4,cell_of c5 5,cell_of c5 6,cell_of c5 7,cell_of c5 8⟩
    | j + 1,hj=>simp at hj
 | i + 2,hi=>simp[smS] at hi
end Go.Proofs.YtkphhjekfimmlaaGreat
namespace Go.Proofs.YtkphhjekfimmlaaGreat
open Go.RowKit Go.BigFrame
abbrev sm1:SesD:=smS 1
def kx0:PS:=firstP sm1
def km0:Mv:=⟨1,0,0,0⟩
def kx1:PS:=nextP sm1 kx0 km0
theorem k_moves0:movesP sm1 kx0=[km0]:=by decide +kernel
theorem k_fin0:finalB sm1 kx0=true:=by decide +kernel
theorem k_key0:(⟨(keyP sm1 kx0).toArray⟩:ByteArray)={ data:=#[0,0,0,0] }:=by rw[show keyP sm1 kx0=[0,0,0,0] by decide +kernel]
theorem k_way1:kx1.way 0 1=[bM]:=by decide +kernel
theorem k_moves1:movesP sm1 kx1=[⟨1,1,0,0⟩]:=by decide +kernel
theorem k_fin1:finalB sm1 kx1=false:=by decide +kernel
theorem k_key1:(⟨(keyP sm1 kx1).toArray⟩:ByteArray)={ data:=#[0,0,1,1,109,0] }:=by rw[show keyP sm1 kx1=[0,0,1,1,109,0] by decide +kernel]
theorem k_dec:decP sm1 (byt { data:=#[0,0,2,1,109,1,109,0] })=none:=by decide +kernel
theorem k_no:(⟨2,0,1,0⟩:Mv)∉movesP sm1 kx1:=by rw[k_moves1];decide
theorem k_len:(movesP sm1 kx0).length≤5000∧(movesP sm1 kx1).length≤5000:=by rw[k_moves0,k_moves1];decide
theorem move_same (m:Mv) (w:World):(binOp .neq 45 (mvV m) (mvV m)).run Tryz.prog w=.ok (.bool false) w∧(binOp .eql 45 (mvV m) (mvV m)).run Tryz.prog w=.ok (.bool true) w:=by
 have h:=eql_move m m w
 rw[decide_eq_true rfl] at h
 refine⟨?_,h⟩
 have h2:(Op.equalIn (9999 + 1) 45 (mvV m) (mvV m)).run Tryz.prog w=.ok true w:=by
  rw[run_equalIn_struct w 9999 45 _ _ Tryz.undMv (by kernel_rfl)]
  simp[go_sem,Tryz.underlying45]
 simp only[binOp]
 simp[show Op.equal 45 (mvV m) (mvV m)=Op.equalIn (9999 + 1) 45 (mvV m) (mvV m) from rfl,h2]
set_option maxHeartbeats 4000000 in
set_option maxRecDepth 100000 in
theorem known33_any (w:World):Calls Tryz.prog 14 #[] w (Ret (.bool true) (Frm [] w)):=by
 have CS:=Lib.hid (sample33_any w)
 have hnum:=fun e W=>Lib.hid (num33_any e W)
 go_enter Tryz.func14,Tryz.ntmps14
 go_upto_region 4 with (first
  | (go_at_call 51;go_must (refine CS.out.mono ?_;rintro e w1 ⟨v,rfl,hs,hf⟩;have HF1:=Lib.hid hf;have CN:=Lib.hid (pNew_ok v sm1 w1 hs (smS_sm 1) smS_ck);clear hs hf CS))
  | (go_at_call 18;go_must (refine CN.out.mono ?_;rintro e w2 ⟨v,rfl,hn⟩;obtain⟨⟨yb,fb,rfl,-,hsy⟩,hf⟩:=hn;have HY:=Lib.hid (hsy w2 (Agree.refl _ _));have HF2:=Lib.hid (HF1.out.trans hf);clear hsy hf CN))
  | (go_at_call 19;go_must (refine(num33_any _ _).mono ?_;rintro e w' ⟨rfl,rfl⟩)))
 have C1:=Lib.hid (pFirst_any sm1 yb fb w2 HY.out)
 have HX:Hid (StR w2 sm1 yb fb kx0):=Lib.hid HY.out.first
 have C2:=Lib.hid (listed_any (some ⟨yb,0,none⟩) (some ⟨fb,0,none⟩) (movesP sm1 kx0) w2 k_len.1 fun W hW=>pMoves_any sm1 yb fb fb kx0 W (HY.out.frm hW) (HX.out.frm hW))
 rw[k_moves0] at C2
 have C3:Hid (∀ V,Frm [] w2 V→Calls Tryz.prog 52 #[.pointer (some ⟨yb,0,none⟩),.pointer (some ⟨fb,0,none⟩)] V (Ret (.tuple #[.bool true,.int .i64 0]) (Frm [] V))):=Lib.hid fun V hV=>by
  rw[← k_fin0];exact pFinal_any sm1 yb fb fb kx0 V (HY.out.frm hV) (HX.out.frm hV)
 have C4:Hid (∀ V,Frm [] w2 V→Calls Tryz.prog 22 #[.pointer (some ⟨fb,0,none⟩)] V (RetV fun v w'=>v=.string { data:=#[0,0,0,0] }∧Frm [] V w')):=Lib.hid fun V hV=>by
  rw[← k_key0];exact pKey_any sm1 yb fb fb kx0 V (HY.out.frm hV) (HX.out.frm hV)
 have hms:=fun W=>(move_same km0 W).1
 unfold km0 at hms
 clear hnum
 go_upto_region 9 with (first
  | (go_at_call 20;go_must (refine C1.out.mono ?_;rintro e w' ⟨rfl,rfl⟩;clear C1))
  | (go_at_call 23;go_must (refine C2.out.mono ?_;rintro e w3 ⟨v,rfl,a1,c1,rfl,hm,hf⟩;obtain⟨b1,o1,rfl,hat⟩:=hm.get (show [km0][0]?=some km0 from rfl);rw[Nat.zero_mul,Nat.add_zero] at hat;have HM:=Lib.hid hat;have HF3:=Lib.hid hf;clear hm hf hat C2))
  | (go_at_call 52;go_must (refine(C3.out _ HF3.out).mono ?_;rintro e w4 ⟨rfl,hf⟩;have HM4:=Lib.hid (HM.out.frm hf);obtain⟨k0,k1,k2,k3⟩:=HM4.out;simp only[km0] at k0 k1 k2 k3;have HF4:=Lib.hid (HF3.out.trans hf);clear hf C3))
  | (go_at_call 22;go_must (refine(C4.out _ HF4.out).mono ?_;rintro e w5 ⟨v,rfl,rfl,hf⟩;have HF5:=Lib.hid (HF4.out.trans hf);have HM5:=Lib.hid (HM4.out.frm hf);clear hf C4))
  | (go_at_call 19;go_must (refine(num33_any _ _).mono ?_;rintro e w' ⟨rfl,rfl⟩)))
 obtain⟨k0,k1,k2,k3⟩:=HM5.out
 simp only[km0] at k0 k1 k2 k3
 have CD:=Lib.hid (pDo_yes sm1 yb fb fb kx0 km0 w5 (HY.out.frm HF5.out) (HX.out.frm HF5.out) (by rw[k_moves0];simp))
 go_upto_region 10 with (first
  | (go_at_call 24;go_must (refine CD.out.mono ?_;rintro e w6 ⟨v,rfl,xb,rfl,hs,hf⟩;have HZ:=Lib.hid hs;have HF6:=Lib.hid (HF5.out.trans hf);clear hs hf CD)))
 have HYn:=Lib.hid (HY.out.frm HF6.out)
 clear k0 k1 k2 k3 HM HM4 HM5 hms
 have E1:=Lib.hid (pChannel_ok sm1 yb xb 0 1 kx1 w6 HZ.out (by decide) (by decide) (by decide))
 rw[k_way1] at E1
 have E2:Hid (∀ V,Frm [] w6 V→Calls Tryz.prog 23 #[.pointer (some ⟨yb,0,none⟩),.pointer (some ⟨xb,0,none⟩)] V (RetV (LsTo V [⟨1,1,0,0⟩]))):=Lib.hid fun V hV=>by
  rw[← k_moves1]
  exact listed_any (some ⟨yb,0,none⟩) (some ⟨xb,0,none⟩) (movesP sm1 kx1) V k_len.2 fun W hW=>pMoves_any sm1 yb fb xb kx1 W (HYn.out.frm (hV.trans hW)) (HZ.out.frm (hV.trans hW))
 have E3:Hid (∀ V,Frm [] w6 V→Calls Tryz.prog 52 #[.pointer (some ⟨yb,0,none⟩),.pointer (some ⟨xb,0,none⟩)] V (Ret (.tuple #[.bool false,.int .i64 0]) (Frm [] V))):=Lib.hid fun V hV=>by
  rw[← k_fin1];exact pFinal_any sm1 yb fb xb kx1 V (HYn.out.frm hV) (HZ.out.frm hV)
 have E4:Hid (∀ V,Frm [] w6 V→Calls Tryz.prog 24 #[.pointer (some ⟨yb,0,none⟩),.pointer (some ⟨xb,0,none⟩),mvV ⟨2,0,1,0⟩] V (Ret (.tuple #[.pointer none,.int .i64 9]) (Frm [] V))):=Lib.hid fun V hV=>pDo_no sm1 yb fb xb kx1 ⟨2,0,1,0⟩ V (HYn.out.frm hV) (HZ.out.frm hV) k_no
 have E5:Hid (∀ V,Frm [] w6 V→Calls Tryz.prog 21 #[.pointer (some ⟨yb,0,none⟩),.string { data:=#[0,0,2,1,109,1,109,0] }] V (RetV (DcTo V sm1 yb none))):=Lib.hid fun V hV=>by
  rw[← k_dec];exact pDecode_any sm1 yb fb _ V (HYn.out.frm hV)
 have E6:Hid (∀ V,Frm [] w6 V→Calls Tryz.prog 22 #[.pointer (some ⟨xb,0,none⟩)] V (RetV fun v w'=>v=.string { data:=#[0,0,1,1,109,0] }∧Frm [] V w')):=Lib.hid fun V hV=>by
  rw[← k_key1];exact pKey_any sm1 yb fb xb kx1 V (HYn.out.frm hV) (HZ.out.frm hV)
 go_upto_region 15 with (first
  | (go_at_call 55;go_must (refine E1.out.mono ?_;rintro e w7 ⟨v,rfl,u,rfl,hs,hf,-⟩;have HG7:=Lib.hid hf;obtain⟨ac,cc,rfl,-,hcs⟩:=hs.shape;obtain⟨gc,rfl,hc0⟩:=hcs 0 bM rfl;have HC0:=Lib.hid hc0;clear hs hf hcs hc0 E1))
  | (go_at_call 23;go_must (refine(E2.out _ HG7.out).mono ?_;rintro e w8 ⟨v,rfl,a2,c2,rfl,hm,hf⟩;obtain⟨b2,o2,rfl,hat⟩:=hm.get (show [(⟨1,1,0,0⟩:Mv)][0]?=some ⟨1,1,0,0⟩ from rfl);rw[Nat.zero_mul,Nat.add_zero] at hat;have HM8:=Lib.hid hat;have HF78:=Lib.hid hf;have HG8:=Lib.hid (HG7.out.trans hf);clear hm hf hat E2))
  | (go_at_call 52;go_must (refine(E3.out _ HG8.out).mono ?_;rintro e w9 ⟨rfl,hf⟩;have HF89:=Lib.hid hf;have HG9:=Lib.hid (HG8.out.trans hf);clear hf E3))
  | (go_at_call 24;go_must (refine(E4.out _ HG9.out).mono ?_;rintro e w10 ⟨rfl,hf⟩;have HF910:=Lib.hid hf;have HG10:=Lib.hid (HG9.out.trans hf);clear hf E4))
  | (go_at_call 21;go_must (refine(E5.out _ HG10.out).mono ?_;rintro e w11 ⟨v,rfl,hf,rfl⟩;have HF1011:=Lib.hid hf;have HG11:=Lib.hid (HG10.out.trans hf);clear hf E5)))
 have HF8:Hid (Frm [] w8 w11):=Lib.hid ((HF89.out.trans HF910.out).trans HF1011.out)
 obtain⟨k0,k1,k2,k3⟩:=HM8.out.frm HF8.out
 simp only at k0 k1 k2 k3
 have c0:=HF8.out.keep (HF78.out.keep HC0.out)
 unfold bM at c0
 have hms:=fun W=>(move_same ⟨1,1,0,0⟩ W).2
 go_wp2_with (first
  | (go_at_call 22;go_must (refine(E6.out _ HG11.out).mono ?_;rintro e w12 ⟨v,rfl,rfl,hf⟩;have HG12:=Lib.hid (HG11.out.trans hf);clear hf E6))
  | (go_at_call 19;go_must (refine(num33_any _ _).mono ?_;rintro e w' ⟨rfl,rfl⟩)))
 go_ret
 exact⟨rfl,HF2.out.trans (HF6.out.trans HG12.out)⟩
end Go.Proofs.YtkphhjekfimmlaaGreat
namespace Go.Proofs.YtkphhjekfimmlaaGreat
open Go.RowKit Go.BigFrame
def stepBig (t:StpD):Bool:=decide (60 < t.msg.size) || decide (60 < t.peer.size)
def rolBig (r:RolD):Bool:=(decide (4 < r.ctrs.length) || decide (8 < r.sts.length) || decide (12 < r.steps.length) || decide (60 < r.name.size)) || r.steps.any stepBig
def largeB (s:SesD):Bool:=(decide (4 < s.roles.length) || decide (60 < s.name.size)) || s.roles.any rolBig
theorem rolBig_ways (r:RolD):((4 < (r.ctrs.length:Int))∧rolBig r=true)∨(¬ 4 < (r.ctrs.length:Int)∧(8 < (r.sts.length:Int))∧rolBig r=true)∨(¬ 4 < (r.ctrs.length:Int)∧¬ 8 < (r.sts.length:Int)∧12 < (r.steps.length:Int)∧rolBig r=true) ∨
  (¬ 4 < (r.ctrs.length:Int)∧¬ 8 < (r.sts.length:Int)∧¬ 12 < (r.steps.length:Int)∧60 < (r.name.size:Int)∧rolBig r=true)∨(¬ 4 < (r.ctrs.length:Int)∧¬ 8 < (r.sts.length:Int)∧¬ 12 < (r.steps.length:Int)∧¬ 60 < (r.name.size:Int)∧rolBig r=r.steps.any stepBig):=by
 unfold rolBig
 by_cases h1:4 < r.ctrs.length
 ·left;exact⟨by omega,by simp[h1]⟩
 by_cases h2:8 < r.sts.length
 ·right;left;exact⟨by omega,by omega,by simp[h2]⟩
 by_cases h3:12 < r.steps.length
 ·right;right;left;exact⟨by omega,by omega,by omega,by simp[h3]⟩
 by_cases h4:60 < r.name.size
 ·right;right;right;left;exact⟨by omega,by omega,by omega,by omega,by simp[h4]⟩
 right;right;right;right
 refine⟨by omega,by omega,by omega,by omega,?_⟩
 rw[decide_eq_false h1,decide_eq_false h2,decide_eq_false h3,decide_eq_false h4];rfl
def WfS (s:SesD):Prop:=∀ r∈s.roles,∀ x∈r.steps,wf64 x.kind
theorem sm_of {s:SesD} (h:WfS s) (hl:largeB s=false):SmS s:=by
 unfold largeB at hl
 simp only[Bool.or_eq_false_iff,decide_eq_false_iff_not,List.any_eq_false] at hl
 obtain⟨⟨h1,-⟩,h3⟩:=hl
 refine⟨by omega,fun r hr=>?_⟩
 have hb:=h3 r hr
 unfold rolBig at hb
 simp only[Bool.or_eq_true,decide_eq_true_eq,List.any_eq_true,not_or,not_exists,not_and] at hb
 obtain⟨⟨⟨⟨b1,b2⟩,b3⟩,b4⟩,b5⟩:=hb
 refine⟨by omega,by omega,by omega,h r hr,fun x hx=>?_⟩
 have:=b5 x hx
 unfold stepBig at this
 simp only[Bool.or_eq_true,decide_eq_true_eq,not_or] at this
 omega
set_option maxHeartbeats 4000000 in
set_option maxRecDepth 100000 in
theorem lLarge_any (v:Value) (s:SesD) (w:World) (h:SesV w v s):Calls Tryz.prog 47 #[v] w (Ret (.bool (largeB s)) (Frm [] w)):=by
 obtain⟨rv,rfl,hr⟩:=h
 obtain⟨ao,cap,e,-⟩:=id hr
 subst e
 have HRL:=Lib.hid hr
 have HLG:Hid (largeB s=((decide (4 < s.roles.length) || decide (60 < s.name.size)) || s.roles.any rolBig)):=Lib.hid rfl
 obtain⟨lg,hlg⟩:∃ b,largeB s=b:=⟨_,rfl⟩
 rw[hlg] at HLG ⊢
 obtain⟨n,hn⟩:∃ n,s.roles.length=n:=⟨_,rfl⟩
 rw[hn] at HLG HRL ⊢
 have HN:=Lib.hid hn
 obtain⟨W0,hW0⟩:∃ W0,w.alloc (.cells #[.string s.name,.slice ao n cap,.int .i64 s.cls,.int .i64 s.cap] 25)=W0:=⟨_,rfl⟩
 have hf0:Frm [] w W0:=by rw[← hW0];exact(Frm.refl [] w).alloc _
 have HF0:=Lib.hid hf0
 have HCL:Hid (∀ V,Frm [] W0 V→V.cell? ⟨w.heap.size,0,none⟩=some (.string s.name)∧V.cell? ⟨w.heap.size,1,none⟩=some (.slice ao n cap)):=Lib.hid fun V hV=>by
  have hb:W0.heap[w.heap.size]?=some (.cells #[.string s.name,.slice ao n cap,.int .i64 s.cls,.int .i64 s.cap] 25 (0,0)):=by rw[← hW0];exact heap_alloc_new _ _
  exact⟨hV.keep (cell_of hb 0),hV.keep (cell_of hb 1)⟩
 have HRL0:Hid (∀ V,Frm [] W0 V→Rls V (.slice ao n cap) s.roles):=Lib.hid fun V hV=>HRL.out.frm (hf0.trans hV)
 have HE:=Lib.hid hW0
 clear hr hlg hn hf0 hW0 HRL
 go_enter Tryz.func47,Tryz.ntmps47
 go_upto_region 1 with (first | (refine wpList_box_row rfl 25 _ rfl _ rfl ?_;rw[HE.out]))
 clear HE
 obtain⟨e0,e1⟩:=HCL.out W0 (Frm.refl _ _)
 by_cases h1:4 < n
 ·have HR:Hid (lg=true):=Lib.hid (by rw[HLG.out,decide_eq_true h1];rfl)
  have h1':decide (4 < (n:Int))=true:=decide_eq_true (by omega)
  clear HLG
  go_wp2
  go_ret
  exact⟨by rw[HR.out];rfl,HF0.out⟩
 by_cases h2:60 < s.name.size
 ·have HR:Hid (lg=true):=Lib.hid (by rw[HLG.out,decide_eq_true h2];simp)
  have h1':decide (4 < (n:Int))=false:=decide_eq_false (by omega)
  have h2':decide (60 < (s.name.size:Int))=true:=decide_eq_true (by omega)
  clear HLG
  go_wp2
  go_ret
  exact⟨by rw[HR.out];rfl,HF0.out⟩
 have HL2:Hid (lg=s.roles.any rolBig):=Lib.hid (by rw[HLG.out,decide_eq_false h1,decide_eq_false h2];rfl)
 have h1':decide (4 < (n:Int))=false:=decide_eq_false (by omega)
 have h2':decide (60 < (s.name.size:Int))=false:=decide_eq_false (by omega)
 clear HLG
 go_upto_region 4 with fail
 clear e0 e1 h1' h2' h2
 go_loopw [3] (fun s3 wr=>∃ i:Nat,s3=.int .i64 i∧i≤n∧Frm [] W0 wr∧∀ j,j < i→rolBig (s.rol j)=false) (fun s3 _=>n - (intOf s3).toNat)
 case atStart=>exact⟨0,rfl,Nat.zero_le _,Frm.refl _ _,fun j hj=>by omega⟩
 case round =>
  obtain⟨i,rfl,hi,hf,hno⟩:=hrel
  have HF:=Lib.hid hf;have HNO:=Lib.hid hno
  clear hf hno
  obtain⟨w9,hw9⟩:∃ w9,w9=wr:=⟨_,rfl⟩
  subst hw9
  obtain⟨e0,e1⟩:=HCL.out w9 HF.out
  by_cases hlt:i < n
  ·have hlt':(i:Int) < (n:Int):=by omega
   have hin:i < s.roles.length:=by rw[HN.out];exact hlt
   obtain⟨b,o,sv,cv,tv,rfl,⟨d0,d1,d2,d3⟩,h3⟩:=Rls.at (HRL0.out w9 HF.out) hin
   obtain⟨aS,cs,es,-⟩:=id h3.sts
   obtain⟨ac,cc,ec,-⟩:=id h3.ctrs
   obtain⟨at',ct,et,htt⟩:=id h3.steps
   subst es;subst ec;subst et
   have HTT:=Lib.hid htt
   have HWY:=Lib.hid (rolBig_ways (s.rol i))
   have HHIT:Hid (rolBig (s.rol i)=true→lg=true):=Lib.hid fun h=>by rw[HL2.out,List.any_eq_true];exact⟨_,List.mem_of_getElem? (SesD.rol_some hin),h⟩
   obtain⟨n1,hn1⟩:∃ q,(s.rol i).sts.length=q:=⟨_,rfl⟩
   obtain⟨n2,hn2⟩:∃ q,(s.rol i).ctrs.length=q:=⟨_,rfl⟩
   obtain⟨n3,hn3⟩:∃ q,(s.rol i).steps.length=q:=⟨_,rfl⟩
   have HN3:=Lib.hid hn3
   rw[hn1,hn2,hn3] at HWY;rw[hn1] at d1;rw[hn2] at d2;rw[hn3] at d3
   have hb0:=cell_lt d0
   obtain⟨X,hX⟩:∃ X,w9.alloc (.cells #[.string (s.rol i).name,.slice aS n1 cs,.slice ac n2 cc,.slice at' n3 ct] 53)=X:=⟨_,rfl⟩
   have HX9:Hid (Frm [] w9 X):=Lib.hid (by rw[← hX];exact(Frm.refl _ _).alloc _)
   have HT:Hid (∀ V,Frm [] X V→V.cell? ⟨w9.heap.size,0,none⟩=some (.string (s.rol i).name)∧V.cell? ⟨w9.heap.size,1,none⟩=some (.slice aS n1 cs)∧V.cell? ⟨w9.heap.size,2,none⟩=some (.slice ac n2 cc)∧V.cell? ⟨w9.heap.size,3,none⟩=some (.slice at' n3 ct)):=Lib.hid fun V hV=>by
    have hb:X.heap[w9.heap.size]?=some (.cells #[.string (s.rol i).name,.slice aS n1 cs,.slice ac n2 cc,.slice at' n3 ct] 53 (0,0)):=by rw[← hX];exact heap_alloc_new _ _
    exact⟨hV.keep (cell_of hb 0),hV.keep (cell_of hb 1),hV.keep (cell_of hb 2),hV.keep (cell_of hb 3)⟩
   have HE:=Lib.hid hX
   clear h3 htt hin hn1 hn2 hn3 hX
   go_upto_region 7 with fail
   rw[HE.out]
   clear HE d0 d1 d2 d3 hb0 e0 e1
   obtain⟨t0,t1,t2,t3⟩:=HT.out X (Frm.refl _ _)
   rcases HWY.out with ⟨k1,k9⟩ | ⟨k1,k2,k9⟩ | ⟨k1,k2,k3,k9⟩ | ⟨k1,k2,k3,k4,k9⟩ | ⟨k1,k2,k3,k4,k9⟩
   iterate 4
    focus
     have HR:Hid (lg=true):=Lib.hid (HHIT.out k9)
     try have m1:decide (4 < (n2:Int))=true:=decide_eq_true k1
     try have m1:decide (4 < (n2:Int))=false:=decide_eq_false k1
     try have m2:decide (8 < (n1:Int))=true:=decide_eq_true k2
     try have m2:decide (8 < (n1:Int))=false:=decide_eq_false k2
     try have m3:decide (12 < (n3:Int))=true:=decide_eq_true k3
     try have m3:decide (12 < (n3:Int))=false:=decide_eq_false k3
     try have m4:decide (60 < ((s.rol i).name.size:Int))=true:=decide_eq_true k4
     clear k9 HHIT HWY
     go_wp2
     go_ret
     exact⟨by rw[HR.out];rfl,HF0.out.trans (HF.out.trans HX9.out)⟩
   have m1:decide (4 < (n2:Int))=false:=decide_eq_false k1
   have m2:decide (8 < (n1:Int))=false:=decide_eq_false k2
   have m3:decide (12 < (n3:Int))=false:=decide_eq_false k3
   have m4:decide (60 < ((s.rol i).name.size:Int))=false:=decide_eq_false k4
   have HK9:=Lib.hid k9
   clear k9 HWY
   go_upto_region 10 with fail
   clear t0 t1 t2 t3 m1 m2 m3 m4
   go_loopw [5] (fun s5 wl=>∃ k:Nat,s5=.int .i64 k∧k≤n3∧Frm [] X wl∧∀ j t,j < k→(s.rol i).steps[j]?=some t→stepBig t=false) (fun s5 _=>n3 - (intOf s5).toNat)
   case atStart=>exact⟨0,rfl,Nat.zero_le _,Frm.refl _ _,fun j t hj=>by omega⟩
   case round =>
    obtain⟨k,rfl,hk,hf,hnk⟩:=hrel
    have HFK:=Lib.hid hf;have HNK:=Lib.hid hnk
    clear hf hnk
    obtain⟨w8,hw8⟩:∃ w8,w8=wr:=⟨_,rfl⟩
    subst hw8
    obtain⟨t0,t1,t2,t3⟩:=HT.out w8 HFK.out
    by_cases hlk:k < n3
    ·have hlk':(k:Int) < (n3:Int):=by omega
     obtain⟨x,hx⟩:∃ x,(s.rol i).steps[k]?=some x:=⟨_,List.getElem?_eq_getElem (by rw[HN3.out];exact hlk)⟩
     obtain⟨bt,ot,rfl,hat⟩:=HTT.out k x hx
     obtain⟨-,-,-,c3,c4,-⟩:=hat.frm (HX9.out.trans HFK.out)
     have HX:=Lib.hid hx
     have HBG:Hid (stepBig x=true→lg=true):=Lib.hid fun h=>HHIT.out (by rw[HK9.out,List.any_eq_true];exact⟨x,List.mem_of_getElem? HX.out,h⟩)
     clear hat hx
     by_cases b1:60 < x.msg.size
     ·have HR:Hid (lg=true):=Lib.hid (HBG.out (by simp[stepBig,b1]))
      have b1':decide (60 < (x.msg.size:Int))=true:=decide_eq_true (by omega)
      clear HBG HHIT HK9
      go_wp2
      go_ret
      exact⟨by rw[HR.out];rfl,HF0.out.trans (HF.out.trans (HX9.out.trans HFK.out))⟩
     have b1':decide (60 < (x.msg.size:Int))=false:=decide_eq_false (by omega)
     by_cases b2:60 < x.peer.size
     ·have HR:Hid (lg=true):=Lib.hid (HBG.out (by simp[stepBig,b2]))
      have b2':decide (60 < (x.peer.size:Int))=true:=decide_eq_true (by omega)
      clear HBG HHIT HK9
      go_wp2
      go_ret
      exact⟨by rw[HR.out];rfl,HF0.out.trans (HF.out.trans (HX9.out.trans HFK.out))⟩
     have b2':decide (60 < (x.peer.size:Int))=false:=decide_eq_false (by omega)
     have HNB:Hid (stepBig x=false):=Lib.hid (by simp[stepBig];omega)
     clear HBG HHIT HK9
     go_wp2
     refine⟨⟨k + 1,congrArg (Value.int .i64) (by omega),hlk,HFK.out,fun j t hj ht=>?_⟩,by simp[intOf];omega⟩
     by_cases e:j=k
     ·subst e;rw[HX.out] at ht;cases ht;exact HNB.out
     ·exact HNK.out j t (by omega) ht
    ·obtain rfl:n3=k:=by omega
     have hge:¬ (n3:Int) < (n3:Int):=by omega
     have HNB:Hid (rolBig (s.rol i)=false):=Lib.hid (by
      rw[HK9.out,List.any_eq_false]
      intro t ht
      obtain⟨j,hj⟩:=List.getElem?_of_mem ht
      rw[HNK.out j t (by have:=lt_of_some hj;rw[HN3.out] at this;exact this) hj]
      decide)
     clear HHIT HK9
     go_wp2
     refine⟨⟨i + 1,congrArg (Value.int .i64) (by omega),hlt,HF.out.trans (HX9.out.trans HFK.out),fun j hj=>?_⟩,by simp[intOf];omega⟩
     by_cases e:j=i
     ·subst e;exact HNB.out
     ·exact HNO.out j (by omega)
  ·obtain rfl:n=i:=by omega
   have hge:¬ (n:Int) < (n:Int):=by omega
   have HR:Hid (lg=false):=Lib.hid (by
    rw[HL2.out,List.any_eq_false]
    intro r hr
    obtain⟨j,hj⟩:=List.getElem?_of_mem hr
    have hjl:=lt_of_some hj
    have h1:=HNO.out j (by rw[HN.out] at hjl;exact hjl)
    rw[show s.rol j=r from getD_some hj] at h1
    rw[h1];decide)
   go_wp2
   go_ret
   exact⟨by rw[HR.out];rfl,HF0.out.trans HF.out⟩
def allowedB (s:SesD):Bool:=!largeB s && decide (ckSes s=0)
set_option maxHeartbeats 2000000 in
set_option maxRecDepth 100000 in
theorem lAllowed_any (v:Value) (s:SesD) (w:World) (h:SesV w v s) (hs:WfS s):Calls Tryz.prog 13 #[v] w (Ret (.bool (allowedB s)) (Frm [] w)):=by
 obtain⟨rv,rfl,hr⟩:=h
 obtain⟨W0,hW0⟩:∃ W0,w.alloc (.cells #[.string s.name,rv,.int .i64 s.cls,.int .i64 s.cap] 25)=W0:=⟨_,rfl⟩
 have hf0:Frm [] w W0:=by rw[← hW0];exact(Frm.refl [] w).alloc _
 have HF0:=Lib.hid hf0
 have HB:Hid (∀ V,Frm [] W0 V→V.heap[w.heap.size]?=some (.cells #[.string s.name,rv,.int .i64 s.cls,.int .i64 s.cap] 25 (0,0))):=Lib.hid fun V hV=>by
  have hb:W0.heap[w.heap.size]?=some (.cells #[.string s.name,rv,.int .i64 s.cls,.int .i64 s.cap] 25 (0,0)):=by rw[← hW0];exact heap_alloc_new _ _
  exact hV.at hb (by simp)
 have CL:=Lib.hid (lLarge_any _ s W0 ⟨rv,rfl,hr.frm hf0⟩)
 have CS:Hid (largeB s=false→∀ V,Frm [] W0 V→Calls Tryz.prog 48 #[.agg #[.string s.name,rv,.int .i64 s.cls,.int .i64 s.cap]] V (RetV fun u w'=>∃ i,u=.tuple #[.int .i64 i,.int .i64 (ckSes s)]∧Frm [] V w')):=Lib.hid fun hl V hV=>aSes_any _ s V ⟨rv,rfl,hr.frm (hf0.trans hV)⟩ (sm_of hs hl)
 have HAL:Hid (allowedB s=(!largeB s && decide (ckSes s=0))):=Lib.hid rfl
 obtain⟨al,hal⟩:∃ b,allowedB s=b:=⟨_,rfl⟩
 obtain⟨lg,hlg⟩:∃ b,largeB s=b:=⟨_,rfl⟩
 obtain⟨ck,hck⟩:∃ b,ckSes s=b:=⟨_,rfl⟩
 rw[hlg] at CL CS HAL;rw[hck] at CS HAL;rw[hal] at HAL ⊢
 have HE:=Lib.hid hW0
 clear hr hs hf0 hal hlg hck hW0
 go_enter Tryz.func13,Tryz.ntmps13
 go_upto_region 1 with (first | (refine wpList_box_row rfl 25 _ rfl _ rfl ?_;rw[HE.out]))
 clear HE
 cases lg with
 | true =>
   have HR:Hid (al=false):=Lib.hid (by rw[HAL.out];rfl)
   clear CS HAL
   go_wp2_with (first
    | (refine wpList_load_whole rfl 25 _ rfl _ rfl _ 25 (HB.out _ (Frm.refl _ _)) _ Tryz.underlying25 rfl (by kernel_rfl) ?_)
    | (go_at_call 47;go_must (refine CL.out.mono ?_;rintro e w1 ⟨rfl,hf1⟩;have HF1:=Lib.hid hf1;clear hf1)))
   go_ret
   exact⟨by rw[HR.out];rfl,HF0.out.trans HF1.out⟩
 | false =>
   have CS2:Hid (∀ V,Frm [] W0 V→Calls Tryz.prog 48 #[.agg #[.string s.name,rv,.int .i64 s.cls,.int .i64 s.cap]] V (RetV fun u w'=>∃ i,u=.tuple #[.int .i64 i,.int .i64 ck]∧Frm [] V w')):=Lib.hid (CS.out rfl)
   clear CS
   have HR:Hid (al=(ck == 0)):=Lib.hid (by rw[HAL.out];by_cases h:ck=0 <;> simp[h])
   clear HAL
   go_wp2_with (first
    | (refine wpList_load_whole rfl 25 _ rfl _ rfl _ 25 (HB.out _ (Frm.refl _ _)) _ Tryz.underlying25 rfl (by kernel_rfl) ?_)
    | (refine wpList_load_whole rfl 25 _ rfl _ rfl _ 25 (HB.out _ HF1.out) _ Tryz.underlying25 rfl (by kernel_rfl) ?_)
    | (go_at_call 47;go_must (refine CL.out.mono ?_;rintro e w1 ⟨rfl,hf1⟩;have HF1:=Lib.hid hf1;clear hf1))
    | (go_at_call 48;go_must (refine(CS2.out _ HF1.out).mono ?_;rintro e w2 ⟨u,rfl,i',rfl,hf2⟩;have HF2:=Lib.hid (HF1.out.trans hf2);clear hf2)))
   go_ret
   exact⟨by rw[HR.out];rfl,HF0.out.trans HF2.out⟩
end Go.Proofs.YtkphhjekfimmlaaGreat
namespace Go.Proofs.YtkphhjekfimmlaaGreat
open Go.ChangeShapes Go.WideShapes Go.ChangeAt Go.RowKit Go.Deep
section
variable {H:Type} {enc:TypeId × Value→H} {W:World}
theorem open_arr {α:Type} [Inhabited α] {t e:TypeId} {k:Nat} {At:World→Nat→Nat→α→Prop} {Q:α→Prop} (ht:Tryz.prog.underlying t=some (.slice e)) (hc:Tryz.prog.cellsOf e=k) (hk:0 < k)
  (hel:∀ b o cs n y,(∀ i,i < k→W.cell? ⟨b,o + i,none⟩=cs[i]?)→cs.length=k→DataW.trod enc Tryz.prog W 0 (fun _=>true) true n e cs=some y→∃ x,At W b o x∧Q x)
  {fuel:Nat} {c:Value} {x:DataW H × List MemPlace} (hf:DataW.trod enc Tryz.prog W 0 (fun _=>true) true fuel t [c]=some x) :
  ∃ xs,Arr k At W c xs∧(∀ x∈xs,Q x)∧∀ ao n c',c=.slice ao n c'→n≤c':=by
 rcases open_slice ht hf with ⟨hcs,_⟩ | ⟨a,len,cap,m,n,D,Pl,hcs,_,hl,_,hm,_,hx⟩
 ·simp only[List.cons.injEq,and_true] at hcs
  subst hcs
  exact⟨[],Arr.nil _ _ _,by simp,fun ao n c' h=>by cases h;omega⟩
 ·simp only[List.cons.injEq,and_true] at hcs
  subst hcs
  simp only[if_true] at hm
  subst hm
  obtain⟨ab,ao,spot⟩:=a
  have hspot:0 < len→spot=none:=fun h=>by
   obtain⟨cs',h1,h2⟩:=hx 0 (by omega)
   obtain⟨_,hlen,hcell⟩:=World.cells?_some h1
   rw[hc] at hlen hcell
   have h0:=hcell 0 hk
   rw[List.getElem?_eq_getElem (by omega)] at h0
   simpa[Addr.add] using World.cell?_spot h0
  obtain⟨f,hf⟩:=choose_lt (α:=α) (p:=fun i x=>spot=none∧At W ab (ao + i * k) x∧Q x) (n:=len) (fun i hi=>by
   obtain⟨cs',h1,h2⟩:=hx i (by omega)
   obtain⟨_,hlen,hcell⟩:=World.cells?_some h1
   rw[hc] at hlen hcell
   have hs:=hspot (by omega)
   subst hs
   obtain⟨x,h3,h4⟩:=hel ab (ao + i * k) cs' n _ (fun j hj=>by
    have:=hcell j hj
    rw[add_plain,add_plain] at this
    exact this) hlen h2
   exact⟨x,rfl,h3,h4⟩)
  refine⟨(List.range len).map f,⟨some ⟨ab,ao,spot⟩,m,by simp,fun i x hi=>?_⟩,fun x hx'=>?_,fun ao n c' h=>by cases h;omega⟩
  ·have hil:i < len:=by have:=lt_of_some hi;simpa using this
   rw[List.getElem?_map,List.getElem?_range hil,Option.map_some,Option.some.injEq] at hi
   subst hi
   obtain⟨h1,h2,_⟩:=hf i hil
   subst h1
   exact⟨ab,ao,rfl,h2⟩
  ·rw[List.mem_map] at hx'
   obtain⟨i,hi,rfl⟩:=hx'
   rw[List.mem_range] at hi
   exact(hf i hi).2.2
instance:Inhabited StD:=⟨dS⟩
instance:Inhabited CtrD:=⟨dC⟩
instance:Inhabited StpD:=⟨dT⟩
instance:Inhabited RolD:=⟨dR⟩
theorem Tryz.cellsStr:Tryz.prog.cellsOf 9=1:=by kernel_rfl
theorem Tryz.cellsBool:Tryz.prog.cellsOf 4=1:=by kernel_rfl
theorem Tryz.cellsInt:Tryz.prog.cellsOf 3=1:=by kernel_rfl
theorem Tryz.cellsKnd:Tryz.prog.cellsOf 58=1:=by kernel_rfl
theorem Tryz.cellsCls:Tryz.prog.cellsOf 23=1:=by kernel_rfl
theorem Tryz.cellsSts:Tryz.prog.cellsOf 50=1:=by kernel_rfl
theorem Tryz.cellsCts:Tryz.prog.cellsOf 51=1:=by kernel_rfl
theorem Tryz.cellsStps:Tryz.prog.cellsOf 49=1:=by kernel_rfl
theorem Tryz.cellsRls:Tryz.prog.cellsOf 22=1:=by kernel_rfl
theorem Tryz.cellsSt:Tryz.prog.cellsOf 62=3:=by kernel_rfl
theorem Tryz.cellsCt:Tryz.prog.cellsOf 182=2:=by kernel_rfl
theorem Tryz.cellsStp:Tryz.prog.cellsOf 60=9:=by kernel_rfl
theorem Tryz.cellsRl:Tryz.prog.cellsOf 53=4:=by kernel_rfl
theorem Tryz.cellsSes:Tryz.prog.cellsOf 25=4:=by kernel_rfl
theorem list2 {α:Type} {cs:List α} (h:cs.length=2):∃ a b,cs=[a,b]:=by
 match cs,h with
 | [a,b],_=>exact⟨a,b,rfl⟩
theorem list3 {α:Type} {cs:List α} (h:cs.length=3):∃ a b c,cs=[a,b,c]:=by
 match cs,h with
 | [a,b,c],_=>exact⟨a,b,c,rfl⟩
theorem list4 {α:Type} {cs:List α} (h:cs.length=4):∃ a b c d,cs=[a,b,c,d]:=by
 match cs,h with
 | [a,b,c,d],_=>exact⟨a,b,c,d,rfl⟩
theorem list9 {α:Type} {cs:List α} (h:cs.length=9):∃ a b c d e f g i j,cs=[a,b,c,d,e,f,g,i,j]:=by
 match cs,h with
 | [a,b,c,d,e,f,g,i,j],_=>exact⟨a,b,c,d,e,f,g,i,j,rfl⟩
set_option maxRecDepth 10000 in
theorem open_st {b o n:Nat} {cs:List Value} {y:DataW H × List MemPlace} (hc:∀ i,i < 3→W.cell? ⟨b,o + i,none⟩=cs[i]?) (hl:cs.length=3) (hf:DataW.trod enc Tryz.prog W 0 (fun _=>true) true n 62 cs=some y):∃ x:StD,StAt W b o x∧True:=by
 obtain⟨c0,c1,c2,rfl⟩:=list3 hl
 obtain⟨y0,y1,y2,n',_,_,t0,t1,t2⟩:=trod_struct3 Tryz.underlying62 hf
 simp only[Tryz.cellsStr,Tryz.cellsBool,Tryz.cellsInt,List.drop,List.take] at t0 t1 t2
 obtain⟨s,e0,_⟩:=DataW.trod_string Tryz.underlying9 t0
 obtain⟨bb,e1,_⟩:=DataW.trod_bool Tryz.underlying4 t1
 obtain⟨i,e2,_⟩:=DataW.trod_int Tryz.underlying3 t2
 simp only[List.cons.injEq,and_true] at e0 e1 e2
 subst e0;subst e1;subst e2
 exact⟨⟨s,bb,i⟩,⟨hc 0 (by omega),hc 1 (by omega),hc 2 (by omega)⟩,trivial⟩
set_option maxRecDepth 10000 in
theorem open_ct {b o n:Nat} {cs:List Value} {y:DataW H × List MemPlace} (hc:∀ i,i < 2→W.cell? ⟨b,o + i,none⟩=cs[i]?) (hl:cs.length=2) (hf:DataW.trod enc Tryz.prog W 0 (fun _=>true) true n 182 cs=some y):∃ x:CtrD,CtAt W b o x∧True:=by
 obtain⟨c0,c1,rfl⟩:=list2 hl
 obtain⟨y0,y1,n',_,_,t0,t1⟩:=trod_struct2 Tryz.underlying182 hf
 simp only[Tryz.cellsStr,Tryz.cellsInt,List.drop,List.take] at t0 t1
 obtain⟨s,e0,_⟩:=DataW.trod_string Tryz.underlying9 t0
 obtain⟨i,e1,_⟩:=DataW.trod_int Tryz.underlying3 t1
 simp only[List.cons.injEq,and_true] at e0 e1
 subst e0;subst e1
 exact⟨⟨s,i⟩,⟨hc 0 (by omega),hc 1 (by omega)⟩,trivial⟩
set_option maxRecDepth 10000 in
theorem open_stp {b o n:Nat} {cs:List Value} {y:DataW H × List MemPlace} (hc:∀ i,i < 9→W.cell? ⟨b,o + i,none⟩=cs[i]?) (hl:cs.length=9) (hf:DataW.trod enc Tryz.prog W 0 (fun _=>true) true n 60 cs=some y):∃ x:StpD,SpAt W b o x∧wf64 x.kind:=by
 obtain⟨c0,c1,c2,c3,c4,c5,c6,c7,c8,rfl⟩:=list9 hl
 obtain⟨xs,n',_,_,_,hlen,hfs⟩:=DataW.trod_struct Tryz.underlying60 hf
 match xs,hlen with
 | [y0,y1,y2,y3,y4,y5,y6,y7,y8],_ =>
   have t0:=hfs 0 _ rfl
   have t1:=hfs 1 _ rfl
   have t2:=hfs 2 _ rfl
   have t3:=hfs 3 _ rfl
   have t4:=hfs 4 _ rfl
   have t5:=hfs 5 _ rfl
   have t6:=hfs 6 _ rfl
   have t7:=hfs 7 _ rfl
   have t8:=hfs 8 _ rfl
   simp only[List.getElem_toArray,List.getElem_cons_zero,List.getElem_cons_succ,Tryz.cellsStr,Tryz.cellsKnd,Tryz.cellsInt,List.drop,List.take,List.getElem?_cons_zero,List.getElem?_cons_succ] at t0 t1 t2 t3 t4 t5 t6 t7 t8
   obtain⟨s0,e0,_⟩:=DataW.trod_string Tryz.underlying9 t0
   obtain⟨s1,e1,_⟩:=DataW.trod_string Tryz.underlying9 t1
   obtain⟨i2,e2,_,hw⟩:=DataW.trod_int Tryz.underlying58 t2
   obtain⟨s3,e3,_⟩:=DataW.trod_string Tryz.underlying9 t3
   obtain⟨s4,e4,_⟩:=DataW.trod_string Tryz.underlying9 t4
   obtain⟨s5,e5,_⟩:=DataW.trod_string Tryz.underlying9 t5
   obtain⟨i6,e6,_⟩:=DataW.trod_int Tryz.underlying3 t6
   obtain⟨i7,e7,_⟩:=DataW.trod_int Tryz.underlying3 t7
   obtain⟨i8,e8,_⟩:=DataW.trod_int Tryz.underlying3 t8
   simp only[List.cons.injEq,and_true] at e0 e1 e2 e3 e4 e5 e6 e7 e8
   subst e0;subst e1;subst e2;subst e3;subst e4;subst e5;subst e6;subst e7;subst e8
   refine⟨⟨s0,s1,i2,s3,s4,s5,i6,i7,i8⟩,⟨hc 0 (by omega),hc 1 (by omega),hc 2 (by omega),hc 3 (by omega),hc 4 (by omega),hc 5 (by omega),hc 6 (by omega),hc 7 (by omega),hc 8 (by omega)⟩,?_⟩
   simp only[Lit.wf,show IntKind.i64.min=-9223372036854775808 from rfl,show IntKind.i64.max=9223372036854775807 from rfl,Bool.and_eq_true,decide_eq_true_eq] at hw
   exact hw
set_option maxRecDepth 10000 in
theorem open_rol {b o n:Nat} {cs:List Value} {y:DataW H × List MemPlace} (hc:∀ i,i < 4→W.cell? ⟨b,o + i,none⟩=cs[i]?) (hl:cs.length=4) (hf:DataW.trod enc Tryz.prog W 0 (fun _=>true) true n 53 cs=some y):∃ x:RolD,RlAt W b o x∧∀ t∈x.steps,wf64 t.kind:=by
 obtain⟨c0,c1,c2,c3,rfl⟩:=list4 hl
 obtain⟨y0,y1,y2,y3,n',_,_,t0,t1,t2,t3⟩:=Go.Joins.trod_struct4 Tryz.underlying53 hf
 simp only[Tryz.cellsStr,Tryz.cellsSts,Tryz.cellsCts,Tryz.cellsStps,List.drop,List.take] at t0 t1 t2 t3
 obtain⟨s,e0,_⟩:=DataW.trod_string Tryz.underlying9 t0
 simp only[List.cons.injEq,and_true] at e0
 subst e0
 obtain⟨l1,a1,-,-⟩:=open_arr (At:=StAt) (Q:=fun _=>True) Tryz.underlying50 Tryz.cellsSt (by omega) (fun b o cs n y h1 h2 h3=>open_st h1 h2 h3) t1
 obtain⟨l2,a2,-,-⟩:=open_arr (At:=CtAt) (Q:=fun _=>True) Tryz.underlying51 Tryz.cellsCt (by omega) (fun b o cs n y h1 h2 h3=>open_ct h1 h2 h3) t2
 obtain⟨l3,a3,q3,k3⟩:=open_arr (At:=SpAt) (Q:=fun t=>wf64 t.kind) Tryz.underlying49 Tryz.cellsStp (by omega) (fun b o cs n y h1 h2 h3=>open_stp h1 h2 h3) t3
 exact⟨⟨s,l1,l2,l3⟩,⟨_,_,_,hc 0 (by omega),hc 1 (by omega),hc 2 (by omega),hc 3 (by omega),a1,a2,a3,k3⟩,q3⟩
set_option maxRecDepth 10000 in
theorem open_ses {base:Nat} {v:Value} {d:DataW H} {p:List MemPlace} (hv:Value.okWide Tryz.prog W .any base 25 v) (h:DataW.Trod enc Tryz.prog W 0 (fun _=>true) true 25 v d p):∃ s,SesV W v s∧WfS s:=by
 obtain⟨cs,rfl,hsz⟩:=okWide_struct Tryz.underlying25 hv
 obtain⟨fuel,hf⟩:=h
 obtain⟨y0,y1,y2,y3,n,_,_,t0,t1,t2,t3⟩:=Go.Joins.trod_struct4 Tryz.underlying25 hf
 rw[Tryz.cellsSes] at hsz
 obtain⟨c0,c1,c2,c3,rfl⟩:=Go.Joins.array4 hsz
 simp only[Value.cells,Tryz.cellsStr,Tryz.cellsRls,Tryz.cellsCls,Tryz.cellsInt,List.drop,List.take] at t0 t1 t2 t3
 obtain⟨s,e0,_⟩:=DataW.trod_string Tryz.underlying9 t0
 obtain⟨i2,e2,_⟩:=DataW.trod_int Tryz.underlying23 t2
 obtain⟨i3,e3,_⟩:=DataW.trod_int Tryz.underlying3 t3
 simp only[List.cons.injEq,and_true] at e0 e2 e3
 subst e0;subst e2;subst e3
 obtain⟨l,a1,q1,-⟩:=open_arr (At:=RlAt) (Q:=fun r:RolD=>∀ t∈r.steps,wf64 t.kind) Tryz.underlying22 Tryz.cellsRl (by omega) (fun b o cs n y h1 h2 h3=>open_rol h1 h2 h3) t1
 exact⟨⟨s,l,i2,i3⟩,⟨c1,rfl,a1⟩,q1⟩
end
end Go.Proofs.YtkphhjekfimmlaaGreat
