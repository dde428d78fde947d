/- Part of the proof. -/
import Derived.Test.YtohfkhjlnlahdaaGreatW21
import Derived.Test.YtohfkhjlnlahdaaGreatW25
set_option linter.all false
namespace Go.Proofs.YtohfkhjlnlahdaaGreat
open Go.RowKit Go.BigFrame
theorem ixf_le {α:Type} {p:α→Bool}:∀ {l:List α} {i:Nat} {x:α},l[i]?=some x→p x=true→ixf p l≤i
 | [],i,x,h,_=>by simp at h
 | a :: l,0,x,h,hp=>by simp at h;subst h;unfold ixf;rw[hp];simp
 | a :: l,i + 1,x,h,hp=>by
   have h2:=ixf_le (l:=l) (i:=i) (x:=x) (by simpa using h) hp
   unfold ixf
   split
   ·omega
   ·split <;> omega
theorem cWays {r:RolD} {i:Nat} {x:CtrD} (hx:r.ctrs[i]?=some x) :
  (nameB x.name=false∧ctrBad r i x=true)∨(nameB x.name=true∧ctrIx r.ctrs x.name≠i∧ctrBad r i x=true)∨(nameB x.name=true∧ctrIx r.ctrs x.name=i∧x.lim < 1∧ctrBad r i x=true) ∨
  (nameB x.name=true∧ctrIx r.ctrs x.name=i∧¬ x.lim < 1∧1000 < x.lim∧ctrBad r i x=true)∨(nameB x.name=true∧ctrIx r.ctrs x.name=i∧¬ x.lim < 1∧¬ 1000 < x.lim∧ctrBad r i x=false):=by
 have h:ctrIx r.ctrs x.name≤i:=ixf_le hx (by simp)
 unfold ctrBad
 cases nameB x.name with
 | false=>left;simp
 | true =>
   right
   simp only[Bool.not_true,Bool.false_or,Bool.or_eq_true,Bool.or_eq_false_iff,decide_eq_true_eq,decide_eq_false_iff_not,true_and]
   omega
theorem sWays {r:RolD} {i:Nat} {x:StD} (hx:r.sts[i]?=some x) :
  (nameB x.name=false∧stBad r i x=true)∨(nameB x.name=true∧stIx r x.name≠i∧stBad r i x=true)∨(nameB x.name=true∧stIx r x.name=i∧x.wait < 0∧stBad r i x=true) ∨
  (nameB x.name=true∧stIx r x.name=i∧¬ x.wait < 0∧1048576 < x.wait∧stBad r i x=true)∨(nameB x.name=true∧stIx r x.name=i∧¬ x.wait < 0∧¬ 1048576 < x.wait∧stBad r i x=false):=by
 have h:stIx r x.name≤i:=ixf_le hx (by simp)
 unfold stBad
 cases nameB x.name with
 | false=>left;simp
 | true =>
   right
   simp only[Bool.not_true,Bool.false_or,Bool.or_eq_true,Bool.or_eq_false_iff,decide_eq_true_eq,decide_eq_false_iff_not,true_and]
   omega
set_option maxHeartbeats 4000000 in
set_option maxRecDepth 100000 in
theorem aCheck_any (v:Value) (r:RolD) (w:World) (h:RlV w v r) (hs:SmR r):Calls Tryz.prog 116 #[v] w (RetV fun u w'=>∃ i,u=.tuple #[.int .i64 i,.int .i64 (ckRole r)]∧Frm [] w w'):=by
 obtain⟨sv,cv,tv,rfl,h3⟩:=h
 obtain⟨aS,cs,es,hss⟩:=id h3.sts
 obtain⟨ac,cc,ec,hcc⟩:=id h3.ctrs
 obtain⟨at',ct,et,htt⟩:=id h3.steps
 subst es;subst ec;subst et
 have HSS:=Lib.hid hss;have HCC:=Lib.hid hcc;have HTT:=Lib.hid htt
 obtain⟨X,hX⟩:∃ X,w.alloc (.cells #[.string r.name,.slice aS r.sts.length cs,.slice ac r.ctrs.length cc,.slice at' r.steps.length ct] 87)=X:=⟨_,rfl⟩
 have hf0:Frm [] w X:=by rw[← hX];exact(Frm.refl _ _).alloc _
 have HR:Hid (RBox X w.heap.size (.slice aS r.sts.length cs) (.slice ac r.ctrs.length cc) (.slice at' r.steps.length ct) r):=Lib.hid ⟨by rw[← hX];exact heap_alloc_new _ _,h3.frm hf0⟩
 have HF0:=Lib.hid hf0
 have CN:Hid (∀ V s,Calls Tryz.prog 115 #[.string s] V (Ret (.bool (nameB s)) (Frm [] V))):=Lib.hid fun V s=>aName_any s V
 have CC:Hid (∀ V s,Frm [] X V→Calls Tryz.prog 174 #[.agg #[.string r.name,.slice aS r.sts.length cs,.slice ac r.ctrs.length cc,.slice at' r.steps.length ct],.string s] V (Ret (.int .i64 (ctrIx r.ctrs s)) (Frm [] V))):=Lib.hid fun V s hV=>aCounter_any _ r s V (HR.out.frm hV).val (by have:=hs.c;omega)
 have CS:Hid (∀ V s,Frm [] X V→Calls Tryz.prog 175 #[.agg #[.string r.name,.slice aS r.sts.length cs,.slice ac r.ctrs.length cc,.slice at' r.steps.length ct],.string s] V (Ret (.int .i64 (stIx r s)) (Frm [] V))):=Lib.hid fun V s hV=>aState_any _ r s V (HR.out.frm hV).val (by have:=hs.s;omega)
 have CA:Hid ((∀ c∈r.ctrs,1≤c.lim∧c.lim≤1000)→∀ V (i:Nat) x,r.steps[i]?=some x→Frm [] X V→Calls Tryz.prog 176 #[.agg #[.string r.name,.slice aS r.sts.length cs,.slice ac r.ctrs.length cc,.slice at' r.steps.length ct],.int .i64 i] V (Ret (.bool (stepB r i x)) (Frm [] V))):=Lib.hid fun hl V i x hx hV=>aAllowed_any _ r i x V (HR.out.frm hV).val hx ⟨hs.t,hs.s,hs.c⟩ hl
 have HU:Hid (∀ V,Frm [] X V→V.cell? ⟨w.heap.size,0,none⟩=some (.string r.name)∧V.cell? ⟨w.heap.size,1,none⟩=some (.slice aS r.sts.length cs)∧V.cell? ⟨w.heap.size,2,none⟩=some (.slice ac r.ctrs.length cc)∧V.cell? ⟨w.heap.size,3,none⟩=some (.slice at' r.steps.length ct)):=Lib.hid fun V hV=>(HR.out.frm hV).cells
 have HB:Hid (∀ V,Frm [] X V→V.heap[w.heap.size]?=some (.cells #[.string r.name,.slice aS r.sts.length cs,.slice ac r.ctrs.length cc,.slice at' r.steps.length ct] 87 (0,0))):=Lib.hid fun V hV=>(HR.out.frm hV).hb
 obtain⟨ck,hck⟩:∃ c,ckRole r=c:=⟨_,rfl⟩
 obtain⟨a1,ha1⟩:∃ b,anyIx (ctrBad r) 0 r.ctrs=b:=⟨_,rfl⟩
 obtain⟨a2,ha2⟩:∃ b,anyIx (stBad r) 0 r.sts=b:=⟨_,rfl⟩
 obtain⟨a3,ha3⟩:∃ b,anyIx (fun i s=>!stepB r i s) 0 r.steps=b:=⟨_,rfl⟩
 have HY1:Hid (∀ i x,r.ctrs[i]?=some x→ctrBad r i x=true→a1=true):=Lib.hid fun i x hx hb=>by rw[← ha1];exact anyIx_iff.2 ⟨i,x,hx,by rw[Nat.zero_add];exact hb⟩
 have HY2:Hid (∀ i x,r.sts[i]?=some x→stBad r i x=true→a2=true):=Lib.hid fun i x hx hb=>by rw[← ha2];exact anyIx_iff.2 ⟨i,x,hx,by rw[Nat.zero_add];exact hb⟩
 have HY3:Hid (∀ i x,r.steps[i]?=some x→stepB r i x=false→a3=true):=Lib.hid fun i x hx hb=>by rw[← ha3];exact anyIx_iff.2 ⟨i,x,hx,by rw[Nat.zero_add,hb];rfl⟩
 have HN1:Hid ((∀ i x,r.ctrs[i]?=some x→ctrBad r i x=false)→a1=false):=Lib.hid fun h=>by rw[← ha1];exact anyIx_false.2 fun i x hx=>by rw[Nat.zero_add];exact h i x hx
 have HN2:Hid ((∀ i x,r.sts[i]?=some x→stBad r i x=false)→a2=false):=Lib.hid fun h=>by rw[← ha2];exact anyIx_false.2 fun i x hx=>by rw[Nat.zero_add];exact h i x hx
 have HN3:Hid ((∀ i x,r.steps[i]?=some x→stepB r i x=true)→a3=false):=Lib.hid fun h=>by rw[← ha3];exact anyIx_false.2 fun i x hx=>by rw[Nat.zero_add,h i x hx];rfl
 have HCK:Hid (ck=if nameB r.name=false then 290 else if 4 < r.ctrs.length∨a1=true then 291 else if r.sts.length < 1∨24 < r.sts.length∨a2=true then 292 else if 80 < r.steps.length∨a3=true then 293 else 0):=Lib.hid (by rw[← hck,← ha1,← ha2,← ha3];rfl)
 rw[hck]
 obtain⟨q0,hq0⟩:∃ q,nameB r.name=q:=⟨_,rfl⟩
 have CN0:=Lib.hid (fun V=>CN.out V r.name)
 rw[hq0] at CN0 HCK
 obtain⟨ns,hns⟩:∃ n,r.sts.length=n:=⟨_,rfl⟩
 obtain⟨nc,hnc⟩:∃ n,r.ctrs.length=n:=⟨_,rfl⟩
 obtain⟨nt,hnt⟩:∃ n,r.steps.length=n:=⟨_,rfl⟩
 rw[hns] at HCK HU HB CC CS CA hX;rw[hnc] at HCK HU HB CC CS CA hX;rw[hnt] at HCK HU HB CC CS CA hX
 rw[hns,hnc,hnt]
 have bns:ns≤100:=by rw[← hns];exact hs.s
 have bnc:nc≤100:=by rw[← hnc];exact hs.c
 have bnt:nt≤100:=by rw[← hnt];exact hs.t
 have HNS:=Lib.hid hns;have HNC:=Lib.hid hnc;have HNT:=Lib.hid hnt
 have HE:=Lib.hid hX
 clear h3 hss hcc htt hs hf0 hX HR hck ha1 ha2 ha3 hq0 hns hnc hnt
 go_enter Tryz.func116,Tryz.ntmps116
 go_upto_region 1 with (first | (refine wpList_box_row rfl 87 _ rfl _ rfl ?_;rw[HE.out]))
 clear HE
 obtain⟨e0,e1,e2,e3⟩:=HU.out X (Frm.refl _ _)
 cases q0 with
 | false =>
   have HR:Hid (ck=290):=Lib.hid (by rw[HCK.out,if_pos rfl])
   clear HCK
   go_wp2_with (first
    | (go_at_call 115;go_must (refine(CN0.out _).mono ?_;rintro e w1 ⟨rfl,hf1⟩;have HF1:=Lib.hid hf1;clear hf1)))
   go_ret2
   first | exact⟨_,rfl,_,by rw[HR.out];rfl,HF0.out.trans HF1.out⟩ | exact⟨_,rfl,⟨_,by rw[HR.out];rfl⟩,HF0.out.trans HF1.out⟩ | exact⟨_,rfl,by rw[HR.out];rfl,HF0.out.trans HF1.out⟩
 | true =>
   rw[if_neg (by decide)] at HCK
   go_upto_region 3 with (first
    | (go_at_call 115;go_must (refine(CN0.out _).mono ?_;rintro e w1 ⟨rfl,hf1⟩;have HFS:=Lib.hid hf1;clear hf1 e0 e1 e2 e3;obtain⟨e0,e1,e2,e3⟩:=HU.out w1 HFS.out)))
   by_cases hb1:4 < nc
   ·have HR:Hid (ck=291):=Lib.hid (by rw[HCK.out,if_pos (.inl hb1)])
    have hb1':(4:Int) < (nc:Int):=by omega
    clear HCK
    go_wp2
    go_ret2
    first | exact⟨_,rfl,_,by rw[HR.out];rfl,HF0.out.trans HFS.out⟩ | exact⟨_,rfl,⟨_,by rw[HR.out];rfl⟩,HF0.out.trans HFS.out⟩ | exact⟨_,rfl,by rw[HR.out];rfl,HF0.out.trans HFS.out⟩
   have HRc:Hid (∀ i x,r.ctrs[i]?=some x→ctrBad r i x=true→ck=291):=Lib.hid fun i x hx hb=>by rw[HCK.out,if_pos (.inr (HY1.out i x hx hb))]
   have hb1':¬ (4:Int) < (nc:Int):=by omega
   go_upto_region 6 with fail
   clear e0 e1 e2 e3
   go_loopw [4] (fun s4 wr=>∃ i:Nat,s4=.int .i64 i∧i≤nc∧Frm [] X wr∧∀ j y,j < i→r.ctrs[j]?=some y→ctrBad r j y=false) (fun s4 _=>nc - (intOf s4).toNat)
   case atStart=>exact⟨0,rfl,Nat.zero_le _,HFS.out,fun j y hj=>by omega⟩
   case round =>
    clear HFS
    obtain⟨i,rfl,hi,hf,hno⟩:=hrel
    have HF:=Lib.hid hf;have HNO:=Lib.hid hno
    clear hf hno
    obtain⟨w9,hw9⟩:∃ w9,w9=wr:=⟨_,rfl⟩
    subst hw9
    obtain⟨e0,e1,e2,e3⟩:=HU.out w9 HF.out
    by_cases hlt:i < nc
    ·have hlt':(i:Int) < (nc:Int):=by omega
     obtain⟨x,hx⟩:∃ x,r.ctrs[i]?=some x:=⟨_,List.getElem?_eq_getElem (by rw[HNC.out];exact hlt)⟩
     obtain⟨bb,oo,rfl,hat⟩:=HCC.out i x hx
     have HAT:=Lib.hid hat
     have HWY:=Lib.hid (cWays (r:=r) hx)
     have CNi:=Lib.hid (fun V=>CN.out V x.name)
     have CCi:=Lib.hid (fun V hV=>CC.out V x.name hV)
     obtain⟨q,hq⟩:∃ q,ctrIx r.ctrs x.name=q:=⟨_,rfl⟩
     rw[hq] at CCi HWY
     have HX:=Lib.hid hx
     clear hat hx hq
     rcases HWY.out with ⟨n1,nb⟩ | ⟨n1,n2,nb⟩ | ⟨n1,n2,n3,nb⟩ | ⟨n1,n2,n3,n4,nb⟩ | ⟨n1,n2,n3,n4,nb⟩
     iterate 4
      focus
       rw[n1] at CNi
       try have m2:(q == (i:Int))=false:=by simpa using n2
       try have m3:(q != (i:Int))=true:=by simpa using n2
       try (have m4:q=(i:Int):=n2;subst m4)
       try have m5:decide (x.lim < 1)=true:=decide_eq_true n3
       try have m5:decide (x.lim < 1)=false:=decide_eq_false n3
       try have m6:decide (1000 < x.lim)=true:=decide_eq_true n4
       have HR:Hid (ck=291):=Lib.hid (HRc.out i x HX.out nb)
       clear n1 nb HWY
       go_upto_region 8 with fail
       refine wp_region_cq (by kernel_rfl) (by kernel_rfl) ?_
       repeat (first
        | go_big_quiet_skip
        | (refine wpQuiet_want (by rfl) (fun K hK=>?_)
           first
            | (refine quiet_move _ (by rfl) (hK _ ?_))
            | (refine quiet_assign _ (by rfl) (hK _ ?_))
            | (refine cq_call (.bool _) 115 #[.string x.name] (fun w' hC=>?_) (fun w' hC=>Ret.cq (CNi.out w') (fun w'' h=>hC.trans h)) (hK _ ?_)
               ·go_simp)
            | (refine cq_call (.int .i64 _) 174 #[.agg #[.string r.name,.slice aS ns cs,.slice (some ⟨bb,oo,none⟩) nc cc,.slice at' nt ct],.string x.name] (fun w' hC=>?_) (fun w' hC=>Ret.cq (CCi.out w' (HF.out.trans hC)) (fun w'' h=>hC.trans h)) (hK _ ?_)
               ·go_simp)
            | (apply Exists.intro
               refine⟨fun w' hC=>?_,hK _ ?_⟩
               ·(unfold Oper.quietAt
                 obtain⟨e0,e1,e2,e3⟩:=HU.out w' (HF.out.trans hC);obtain⟨g0,g1⟩:=HAT.out.frm (HF0.out.trans (HF.out.trans hC))
                 clear hC
                 go_simp
                 try exact⟨rfl,rfl⟩
                 try rfl))
           clear hK K
           try simp only[nrm,Act.eval,nrq]))
       refine wpQuiet_nil ?_
       intro w2 hf2
       go_wp2
       go_ret2
       first | exact⟨_,rfl,_,by rw[HR.out];rfl,HF0.out.trans (HF.out.trans hf2)⟩ | exact⟨_,rfl,⟨_,by rw[HR.out];rfl⟩,HF0.out.trans (HF.out.trans hf2)⟩ | exact⟨_,rfl,by rw[HR.out];rfl,HF0.out.trans (HF.out.trans hf2)⟩
     ·rw[n1] at CNi
      subst n2
      have m5:decide (x.lim < 1)=false:=decide_eq_false n3
      have m6:decide (1000 < x.lim)=false:=decide_eq_false n4
      have HNB:=Lib.hid nb
      clear n1 nb HWY
      go_upto_region 8 with fail
      refine wp_region_cq (by kernel_rfl) (by kernel_rfl) ?_
      repeat (first
       | go_big_quiet_skip
       | (refine wpQuiet_want (by rfl) (fun K hK=>?_)
          first
           | (refine quiet_move _ (by rfl) (hK _ ?_))
           | (refine quiet_assign _ (by rfl) (hK _ ?_))
           | (refine cq_call (.bool _) 115 #[.string x.name] (fun w' hC=>?_) (fun w' hC=>Ret.cq (CNi.out w') (fun w'' h=>hC.trans h)) (hK _ ?_)
              ·go_simp)
           | (refine cq_call (.int .i64 _) 174 #[.agg #[.string r.name,.slice aS ns cs,.slice (some ⟨bb,oo,none⟩) nc cc,.slice at' nt ct],.string x.name] (fun w' hC=>?_) (fun w' hC=>Ret.cq (CCi.out w' (HF.out.trans hC)) (fun w'' h=>hC.trans h)) (hK _ ?_)
              ·go_simp)
           | (apply Exists.intro
              refine⟨fun w' hC=>?_,hK _ ?_⟩
              ·(unfold Oper.quietAt
                obtain⟨e0,e1,e2,e3⟩:=HU.out w' (HF.out.trans hC);obtain⟨g0,g1⟩:=HAT.out.frm (HF0.out.trans (HF.out.trans hC))
                clear hC
                go_simp
                try exact⟨rfl,rfl⟩
                try rfl))
          clear hK K
          try simp only[nrm,Act.eval,nrq]))
      refine wpQuiet_nil ?_
      intro w2 hf2
      go_wp2
      refine⟨⟨i + 1,congrArg (Value.int .i64) (by omega),hlt,HF.out.trans hf2,fun j y hj hy=>?_⟩,by simp[intOf];omega⟩
      by_cases e:j=i
      ·subst e;rw[HX.out] at hy;cases hy;exact HNB.out
      ·exact HNO.out j y (by omega) hy
    ·obtain rfl:nc=i:=by omega
     have hge:¬ (nc:Int) < (nc:Int):=by omega
     have HEND:Hid (∀ j y,r.ctrs[j]?=some y→ctrBad r j y=false):=Lib.hid fun j y hy=>HNO.out j y (by have:=lt_of_some hy;rw[HNC.out] at this;omega) hy
     have HLIM:Hid (∀ c∈r.ctrs,1≤c.lim∧c.lim≤1000):=Lib.hid fun c hc=>by
      obtain⟨j,hj⟩:=List.getElem?_of_mem hc
      have:=HEND.out j c hj
      unfold ctrBad at this
      simp only[Bool.or_eq_false_iff,decide_eq_false_iff_not] at this
      omega
     have CA:=Lib.hid (CA.out HLIM.out)
     have HCK:=Lib.hid HCK.out
     rw[if_neg (fun h=>h.elim hb1 (fun h=>by rw[HN1.out HEND.out] at h;cases h))] at HCK
     have HFS:=HF
     clear HEND HNO HF HLIM HRc CC HCC HN1 HY1
     go_upto_region 10 with fail
     by_cases hb2:ns < 1
     ·have HR:Hid (ck=292):=Lib.hid (by rw[HCK.out,if_pos (.inl hb2)])
      obtain rfl:ns=0:=by omega
      clear HCK
      go_wp2
      go_ret2
      first | exact⟨_,rfl,_,by rw[HR.out];rfl,HF0.out.trans HFS.out⟩ | exact⟨_,rfl,⟨_,by rw[HR.out];rfl⟩,HF0.out.trans HFS.out⟩ | exact⟨_,rfl,by rw[HR.out];rfl,HF0.out.trans HFS.out⟩
     have hb2':((ns:Int) == 0)=false:=by simp;omega
     by_cases hb3:24 < ns
     ·have HR:Hid (ck=292):=Lib.hid (by rw[HCK.out,if_pos (.inr (.inl hb3))])
      have hb3':(24:Int) < (ns:Int):=by omega
      clear HCK
      go_wp2
      go_ret2
      first | exact⟨_,rfl,_,by rw[HR.out];rfl,HF0.out.trans HFS.out⟩ | exact⟨_,rfl,⟨_,by rw[HR.out];rfl⟩,HF0.out.trans HFS.out⟩ | exact⟨_,rfl,by rw[HR.out];rfl,HF0.out.trans HFS.out⟩
     have hb3':¬ (24:Int) < (ns:Int):=by omega
     have HRs:Hid (∀ i x,r.sts[i]?=some x→stBad r i x=true→ck=292):=Lib.hid fun i x hx hb=>by rw[HCK.out,if_pos (.inr (.inr (HY2.out i x hx hb)))]
     go_upto_region 15 with fail
     clear e0 e1 e2 e3 hge hlt hi
     go_loopw [5] (fun s5 wr=>∃ i:Nat,s5=.int .i64 i∧i≤ns∧Frm [] X wr∧∀ j y,j < i→r.sts[j]?=some y→stBad r j y=false) (fun s5 _=>ns - (intOf s5).toNat)
     case atStart=>exact⟨0,rfl,Nat.zero_le _,HFS.out,fun j y hj=>by omega⟩
     case round =>
      clear HFS
      obtain⟨i,rfl,hi,hf,hno⟩:=hrel
      have HF:=Lib.hid hf;have HNO:=Lib.hid hno
      clear hf hno
      obtain⟨w9,hw9⟩:∃ w9,w9=wr:=⟨_,rfl⟩
      subst hw9
      obtain⟨e0,e1,e2,e3⟩:=HU.out w9 HF.out
      by_cases hlt:i < ns
      ·have hlt':(i:Int) < (ns:Int):=by omega
       obtain⟨x,hx⟩:∃ x,r.sts[i]?=some x:=⟨_,List.getElem?_eq_getElem (by rw[HNS.out];exact hlt)⟩
       obtain⟨bb,oo,rfl,hat⟩:=HSS.out i x hx
       have HAT:=Lib.hid hat
       have HWY:=Lib.hid (sWays (r:=r) hx)
       have CNi:=Lib.hid (fun V=>CN.out V x.name)
       have CCi:=Lib.hid (fun V hV=>CS.out V x.name hV)
       obtain⟨q,hq⟩:∃ q,stIx r x.name=q:=⟨_,rfl⟩
       rw[hq] at CCi HWY
       have HX:=Lib.hid hx
       clear hat hx hq
       rcases HWY.out with ⟨n1,nb⟩ | ⟨n1,n2,nb⟩ | ⟨n1,n2,n3,nb⟩ | ⟨n1,n2,n3,n4,nb⟩ | ⟨n1,n2,n3,n4,nb⟩
       iterate 4
        focus
         rw[n1] at CNi
         try have m2:(q == (i:Int))=false:=by simpa using n2
         try have m3:(q != (i:Int))=true:=by simpa using n2
         try (have m4:q=(i:Int):=n2;subst m4)
         try have m5:decide (x.wait < 0)=true:=decide_eq_true n3
         try have m5:decide (x.wait < 0)=false:=decide_eq_false n3
         try have m6:decide (1048576 < x.wait)=true:=decide_eq_true n4
         have HR:Hid (ck=292):=Lib.hid (HRs.out i x HX.out nb)
         clear n1 nb HWY
         go_upto_region 17 with fail
         refine wp_region_cq (by kernel_rfl) (by kernel_rfl) ?_
         repeat (first
          | go_big_quiet_skip
          | (refine wpQuiet_want (by rfl) (fun K hK=>?_)
             first
              | (refine quiet_move _ (by rfl) (hK _ ?_))
              | (refine quiet_assign _ (by rfl) (hK _ ?_))
              | (refine cq_call (.bool _) 115 #[.string x.name] (fun w' hC=>?_) (fun w' hC=>Ret.cq (CNi.out w') (fun w'' h=>hC.trans h)) (hK _ ?_)
                 ·go_simp)
              | (refine cq_call (.int .i64 _) 175 #[.agg #[.string r.name,.slice (some ⟨bb,oo,none⟩) ns cs,.slice ac nc cc,.slice at' nt ct],.string x.name] (fun w' hC=>?_) (fun w' hC=>Ret.cq (CCi.out w' (HF.out.trans hC)) (fun w'' h=>hC.trans h)) (hK _ ?_)
                 ·go_simp)
              | (apply Exists.intro
                 refine⟨fun w' hC=>?_,hK _ ?_⟩
                 ·(unfold Oper.quietAt
                   obtain⟨e0,e1,e2,e3⟩:=HU.out w' (HF.out.trans hC);obtain⟨g0,-,g1⟩:=HAT.out.frm (HF0.out.trans (HF.out.trans hC))
                   clear hC
                   go_simp
                   try exact⟨rfl,rfl⟩
                   try rfl))
             clear hK K
             try simp only[nrm,Act.eval,nrq]))
         refine wpQuiet_nil ?_
         intro w2 hf2
         go_wp2
         go_ret2
         first | exact⟨_,rfl,_,by rw[HR.out];rfl,HF0.out.trans (HF.out.trans hf2)⟩ | exact⟨_,rfl,⟨_,by rw[HR.out];rfl⟩,HF0.out.trans (HF.out.trans hf2)⟩ | exact⟨_,rfl,by rw[HR.out];rfl,HF0.out.trans (HF.out.trans hf2)⟩
       ·rw[n1] at CNi
        subst n2
        have m5:decide (x.wait < 0)=false:=decide_eq_false n3
        have m6:decide (1048576 < x.wait)=false:=decide_eq_false n4
        have HNB:=Lib.hid nb
        clear n1 nb HWY
        go_upto_region 17 with fail
        refine wp_region_cq (by kernel_rfl) (by kernel_rfl) ?_
        repeat (first
         | go_big_quiet_skip
         | (refine wpQuiet_want (by rfl) (fun K hK=>?_)
            first
             | (refine quiet_move _ (by rfl) (hK _ ?_))
             | (refine quiet_assign _ (by rfl) (hK _ ?_))
             | (refine cq_call (.bool _) 115 #[.string x.name] (fun w' hC=>?_) (fun w' hC=>Ret.cq (CNi.out w') (fun w'' h=>hC.trans h)) (hK _ ?_)
                ·go_simp)
             | (refine cq_call (.int .i64 _) 175 #[.agg #[.string r.name,.slice (some ⟨bb,oo,none⟩) ns cs,.slice ac nc cc,.slice at' nt ct],.string x.name] (fun w' hC=>?_) (fun w' hC=>Ret.cq (CCi.out w' (HF.out.trans hC)) (fun w'' h=>hC.trans h)) (hK _ ?_)
                ·go_simp)
             | (apply Exists.intro
                refine⟨fun w' hC=>?_,hK _ ?_⟩
                ·(unfold Oper.quietAt
                  obtain⟨e0,e1,e2,e3⟩:=HU.out w' (HF.out.trans hC);obtain⟨g0,-,g1⟩:=HAT.out.frm (HF0.out.trans (HF.out.trans hC))
                  clear hC
                  go_simp
                  try exact⟨rfl,rfl⟩
                  try rfl))
            clear hK K
            try simp only[nrm,Act.eval,nrq]))
        refine wpQuiet_nil ?_
        intro w2 hf2
        go_wp2
        refine⟨⟨i + 1,congrArg (Value.int .i64) (by omega),hlt,HF.out.trans hf2,fun j y hj hy=>?_⟩,by simp[intOf];omega⟩
        by_cases e:j=i
        ·subst e;rw[HX.out] at hy;cases hy;exact HNB.out
        ·exact HNO.out j y (by omega) hy
      ·obtain rfl:ns=i:=by omega
       have hge:¬ (ns:Int) < (ns:Int):=by omega
       have HEND:Hid (∀ j y,r.sts[j]?=some y→stBad r j y=false):=Lib.hid fun j y hy=>HNO.out j y (by have:=lt_of_some hy;rw[HNS.out] at this;omega) hy
       have HCK:=Lib.hid HCK.out
       rw[if_neg (fun h=>h.elim hb2 (fun h=>h.elim hb3 (fun h=>by rw[HN2.out HEND.out] at h;cases h)))] at HCK
       have HFS:=HF
       clear HEND HNO HF HRs CS HSS HN2 HY2
       go_upto_region 19 with fail
       by_cases hb4:80 < nt
       ·have HR:Hid (ck=293):=Lib.hid (by rw[HCK.out,if_pos (.inl hb4)])
        have hb4':(80:Int) < (nt:Int):=by omega
        clear HCK
        go_wp2
        go_ret2
        first | exact⟨_,rfl,_,by rw[HR.out];rfl,HF0.out.trans HFS.out⟩ | exact⟨_,rfl,⟨_,by rw[HR.out];rfl⟩,HF0.out.trans HFS.out⟩ | exact⟨_,rfl,by rw[HR.out];rfl,HF0.out.trans HFS.out⟩
       have hb4':¬ (80:Int) < (nt:Int):=by omega
       have HRt:Hid (∀ i x,r.steps[i]?=some x→stepB r i x=false→ck=293):=Lib.hid fun i x hx hb=>by rw[HCK.out,if_pos (.inr (HY3.out i x hx hb))]
       go_upto_region 22 with fail
       clear e0 e1 e2 e3 hge hlt hi
       go_loopw [6] (fun s6 wr=>∃ i:Nat,s6=.int .i64 i∧i≤nt∧Frm [] X wr∧∀ j y,j < i→r.steps[j]?=some y→stepB r j y=true) (fun s6 _=>nt - (intOf s6).toNat)
       case atStart=>exact⟨0,rfl,Nat.zero_le _,HFS.out,fun j y hj=>by omega⟩
       case round =>
        clear HFS
        obtain⟨i,rfl,hi,hf,hno⟩:=hrel
        have HF:=Lib.hid hf;have HNO:=Lib.hid hno
        clear hf hno
        obtain⟨w9,hw9⟩:∃ w9,w9=wr:=⟨_,rfl⟩
        subst hw9
        obtain⟨e0,e1,e2,e3⟩:=HU.out w9 HF.out
        by_cases hlt:i < nt
        ·have hlt':(i:Int) < (nt:Int):=by omega
         obtain⟨x,hx⟩:∃ x,r.steps[i]?=some x:=⟨_,List.getElem?_eq_getElem (by rw[HNT.out];exact hlt)⟩
         have CAi:=Lib.hid (CA.out w9 i x hx HF.out)
         have HX:=Lib.hid hx
         clear hx
         cases hb:stepB r i x with
         | false =>
           rw[hb] at CAi
           have HR:Hid (ck=293):=Lib.hid (HRt.out i x HX.out hb)
           clear hb
           go_wp2_with (first
            | (refine wpList_load_whole rfl 87 _ rfl _ rfl _ 87 (HB.out _ HF.out) _ Tryz.underlying87 rfl (by kernel_rfl) ?_)
            | (go_at_call 176;go_must (refine CAi.out.mono ?_;rintro e w1 ⟨rfl,hf1⟩;have HF1:=Lib.hid (HF.out.trans hf1);clear hf1)))
           go_ret2
           first | exact⟨_,rfl,_,by rw[HR.out];rfl,HF0.out.trans HF1.out⟩ | exact⟨_,rfl,⟨_,by rw[HR.out];rfl⟩,HF0.out.trans HF1.out⟩ | exact⟨_,rfl,by rw[HR.out];rfl,HF0.out.trans HF1.out⟩
         | true =>
           rw[hb] at CAi
           have HNB:=Lib.hid hb
           clear hb
           go_wp2_with (first
            | (refine wpList_load_whole rfl 87 _ rfl _ rfl _ 87 (HB.out _ HF.out) _ Tryz.underlying87 rfl (by kernel_rfl) ?_)
            | (go_at_call 176;go_must (refine CAi.out.mono ?_;rintro e w1 ⟨rfl,hf1⟩;have HF1:=Lib.hid (HF.out.trans hf1);clear hf1)))
           refine⟨⟨i + 1,congrArg (Value.int .i64) (by omega),hlt,HF1.out,fun j y hj hy=>?_⟩,by simp[intOf];omega⟩
           by_cases e:j=i
           ·subst e;rw[HX.out] at hy;cases hy;exact HNB.out
           ·exact HNO.out j y (by omega) hy
        ·obtain rfl:nt=i:=by omega
         have hge:¬ (nt:Int) < (nt:Int):=by omega
         have HR:Hid (ck=0):=Lib.hid (by
          rw[HCK.out,if_neg]
          rintro(h | h)
          ·exact hb4 h
          ·rw[HN3.out fun j y hy=>HNO.out j y (by have:=lt_of_some hy;rw[HNT.out] at this;omega) hy] at h;cases h)
         go_wp2
         go_ret2
         first | exact⟨_,rfl,_,by rw[HR.out];rfl,HF0.out.trans HF.out⟩ | exact⟨_,rfl,⟨_,by rw[HR.out];rfl⟩,HF0.out.trans HF.out⟩ | exact⟨_,rfl,by rw[HR.out];rfl,HF0.out.trans HF.out⟩
end Go.Proofs.YtohfkhjlnlahdaaGreat
