/- Part of the proof. -/
import Derived.Test.YtemjlpahohmajaaGreatJ51
import Derived.Test.YtemjlpahohmajaaGreatJ53
import Derived.Test.YtemjlpahohmajaaGreatJ34
import Derived.Test.YtemjlpahohmajaaGreatJ47
set_option linter.all false
namespace Go.Proofs.YtemjlpahohmajaaGreat
open Go.RowKit Go.BigFrame Go.Maps
set_option maxHeartbeats 0 in
set_option maxRecDepth 100000 in
theorem searches_any (v:Value) (s:SesD) (lim:Int) (w:World) (h:SesV w v s) (hw:WfS s):Calls Tryz.prog 3 #[v,.int .i64 lim] w (Ret (.bool true) (Frm [] w)):=by
 have HSV:=Lib.hid h
 obtain⟨rv,rfl,hr⟩:=h
 obtain⟨ao,cap,rfl⟩:=hr.shape
 obtain⟨n,hn⟩:∃ n,s.roles.length=n:=⟨_,rfl⟩
 rw[hn] at HSV ⊢
 obtain⟨W0,hW0⟩:∃ W0,w.alloc (.cells #[.string s.name,.slice ao n cap,.int .i64 s.cls,.int .i64 s.cap] 25)=W0:=⟨_,rfl⟩
 have hf0:Frm [] w W0:=by rw[← hW0];exact(Frm.refl _ _).alloc _
 have HF0:=Lib.hid hf0
 have hb0:W0.heap[w.heap.size]?=some (.cells #[.string s.name,.slice ao n cap,.int .i64 s.cls,.int .i64 s.cap] 25 (0,0)):=by rw[← hW0];exact heap_alloc_new _ _
 have HB0:=Lib.hid hb0
 have CK:Hid (∀ V,Calls Tryz.prog 10 #[] V (Ret (.bool true) (Frm [] V))):=Lib.hid known34_any
 have HE:=Lib.hid hW0
 have HG:=Lib.hid (fun h1=>given_no (HSV.out.frm hf0) hw h1)
 have HY:=Lib.hid (fun h1=>given_yes (HSV.out.frm hf0) hw h1)
 clear hr hw hf0 hb0 hW0 hn
 go_enter Tryz.func3,Tryz.ntmps3
 go_upto_region 1 with (first | (refine wpList_box_row rfl 25 _ rfl _ rfl ?_;rw[HE.out]))
 clear HE
 cases hg:gvB s with
 | false =>
   have CG:=Lib.hid (HG.out hg)
   clear hg HG HY
   go_wp2_with (first
    | (refine wpList_load_whole rfl 25 _ rfl _ rfl _ 25 HB0.out _ Tryz.underlying25 rfl (by kernel_rfl) ?_)
    | (go_at_call 9;go_must (refine CG.out.mono ?_;rintro e w1 ⟨u,rfl,rfl,hf1⟩;have HF1:=Lib.hid hf1;clear hf1))
    | (go_at_call 10;go_must (refine(CK.out _).mono ?_;rintro e wk ⟨rfl,hf'⟩;have HFK:Hid (Frm [] w wk):=Lib.hid (HF0.out.trans (HF1.out.trans hf'));clear hf')))
   go_ret
   exact⟨rfl,HFK.out⟩
 | true =>
   have CG:=Lib.hid (HY.out hg)
   have HOK:=Lib.hid (gv_ok hg)
   clear hg HG HY
   by_cases hl:60 < lim∧lim≤200000
   ·have hd1:decide (60 < lim)=true:=decide_eq_true hl.1
    have hd2:decide (lim≤200000)=true:=decide_eq_true hl.2
    clear hl
    go_wp2_with (first
     | (refine wpList_load_whole rfl 25 _ rfl _ rfl _ 25 HB0.out _ Tryz.underlying25 rfl (by kernel_rfl) ?_)
     | (go_at_call 9;go_must (refine CG.out.mono ?_;rintro e w1 ⟨u,rfl,yb,fb,rfl,hsy,hf1⟩;have HF1:=Lib.hid hf1;clear hf1 hsy))
     | (go_at_call 10;go_must (refine(CK.out _).mono ?_;rintro e wk ⟨rfl,hf'⟩;have HFK:Hid (Frm [] w wk):=Lib.hid (HF0.out.trans (HF1.out.trans hf'));clear hf')))
    go_ret
    exact⟨rfl,HFK.out⟩
   ·by_cases hb:lim < 1∨200000 < lim
    ·have HBD:=Lib.hid hb
     by_cases h1:lim < 1
     ·have hd0:¬ 60 < lim:=by omega
      have hd1:decide (60 < lim)=false:=decide_eq_false hd0
      have hd3:decide (lim < 1)=true:=decide_eq_true h1
      clear hl hb
      go_wp2_with (first
      | (refine wpList_load_whole rfl 25 _ rfl _ rfl _ 25 HB0.out _ Tryz.underlying25 rfl (by kernel_rfl) ?_)
      | (go_at_call 9;go_must (refine CG.out.mono ?_;rintro e w1 ⟨u,rfl,yb,fb,rfl,hsy,hf1⟩;have HF1:=Lib.hid hf1;have CS:=Lib.hid (xSearch_bad s yb fb lim w1 hsy HBD.out);clear hf1 hsy))
      | (go_at_call 11;go_must (refine CS.out.mono ?_;rintro e w2 ⟨u,rfl,rfl,hf2⟩;have HF2:=Lib.hid (HF1.out.trans hf2);clear hf2))
      | (go_at_call 10;go_must (refine(CK.out _).mono ?_;rintro e wk ⟨rfl,hf'⟩;have HFK:Hid (Frm [] w wk):=Lib.hid (HF0.out.trans (HF2.out.trans hf'));clear hf')))
      go_ret
      exact⟨rfl,HFK.out⟩
     ·have h2:200000 < lim:=hb.resolve_left h1
      have hd1:decide (60 < lim)=true:=decide_eq_true (by omega)
      have hd2:decide (lim≤200000)=false:=decide_eq_false (by omega)
      have hd3:decide (lim < 1)=false:=decide_eq_false h1
      have hd4:decide (200000 < lim)=true:=decide_eq_true h2
      clear hl hb
      go_wp2_with (first
      | (refine wpList_load_whole rfl 25 _ rfl _ rfl _ 25 HB0.out _ Tryz.underlying25 rfl (by kernel_rfl) ?_)
      | (go_at_call 9;go_must (refine CG.out.mono ?_;rintro e w1 ⟨u,rfl,yb,fb,rfl,hsy,hf1⟩;have HF1:=Lib.hid hf1;have CS:=Lib.hid (xSearch_bad s yb fb lim w1 hsy HBD.out);clear hf1 hsy))
      | (go_at_call 11;go_must (refine CS.out.mono ?_;rintro e w2 ⟨u,rfl,rfl,hf2⟩;have HF2:=Lib.hid (HF1.out.trans hf2);clear hf2))
      | (go_at_call 10;go_must (refine(CK.out _).mono ?_;rintro e wk ⟨rfl,hf'⟩;have HFK:Hid (Frm [] w wk):=Lib.hid (HF0.out.trans (HF2.out.trans hf'));clear hf')))
      go_ret
      exact⟨rfl,HFK.out⟩
    ·obtain⟨m,rfl⟩:∃ m:Nat,lim=(m:Int):=⟨lim.toNat,by omega⟩
     have HM:Hid (1≤m∧m≤60):=Lib.hid (by omega)
     have hd1:decide (60 < (m:Int))=false:=decide_eq_false (by omega)
     have hd3:decide ((m:Int) < 1)=false:=decide_eq_false (by omega)
     have hd4:decide (200000 < (m:Int))=false:=decide_eq_false (by omega)
     have hm1:¬ ((m:Int) < 1):=by omega
     have hm2:¬ (60 < (m:Int)):=by omega
     have hm3:¬ (200000 < (m:Int)):=by omega
     clear hl hb
     go_upto_region 8 with (first
     | (refine wpList_load_whole rfl 25 _ rfl _ rfl _ 25 HB0.out _ Tryz.underlying25 rfl (by kernel_rfl) ?_)
     | (go_at_call 9;go_must (refine CG.out.mono ?_;rintro e w1 ⟨u,rfl,yb,fb,rfl,hsy,hf1⟩;have HF1:=Lib.hid hf1;have HSY1:=Lib.hid hsy;have CS:=Lib.hid (xSearch_any s yb fb m w1 hsy HM.out.1 (by have:=HM.out;omega));clear hf1 hsy))
     | (go_at_call 11;go_must (refine CS.out.mono ?_;rintro e w2 ⟨u,rfl,pb,N,rfl,hsp,hN,hf2⟩;have HSP:=Lib.hid hsp;have HNN:=Lib.hid hN;have HF12:=Lib.hid hf2;have HF2:=Lib.hid (HF1.out.trans hf2);have CY:=Lib.hid (ySearch_any s _ m w2 (HSV.out.frm (HF0.out.trans (HF1.out.trans hf2))) HOK.out HM.out.1 (by have:=HM.out;omega));have HB2:=Lib.hid (HF2.out.at HB0.out (by simp));clear hsp hN hf2))
     | (refine wpList_load_whole rfl 25 _ rfl _ rfl _ 25 HB2.out _ Tryz.underlying25 rfl (by kernel_rfl) ?_)
     | (go_at_call 12;go_must (refine CY.out.mono ?_;rintro e w3 ⟨u,rfl,hys,hf3⟩;obtain⟨a0,c0,a1,c1,a2,c2,a3',c3',eu,-⟩:=id hys.out;subst eu;have HYS:=Lib.hid hys;have HF3:=Lib.hid (HF2.out.trans hf3);have HF23:=Lib.hid hf3;clear hys hf3))
     | (refine wpList_store_row rfl 39 _ _ rfl _ _ _ 39 rfl rfl (heap_alloc_new _ _) rfl Tryz.infoRSp (one5s ..) ?_;intro w4 hb4 hf4;have HB4:=Lib.hid hb4;have HF34:=Lib.hid (((Frm.refl [] w3).alloc _).then hf4 (by intro q hq;simp at hq;subst hq;exact .inr (Nat.le_refl _)));clear hb4 hf4))
     clear hd1 hd3 hd4 hm1 hm2 hm3
     obtain⟨nn,hfo⟩:=search_ok (lim:=m) HOK.out HM.out.1
     obtain⟨R,hR⟩:∃ R,searchP s m=R:=⟨_,rfl⟩
     have hN:=HNN.out
     rw[hR] at hfo hN HSP HYS HB4 ⊢
     obtain⟨R1,wh⟩:=R
     have hN':N.map Prod.fst=R1:=hN
     subst hN'
     have hnl:(N.map Prod.fst).length=N.length:=List.length_map ..
     have HFO:=Lib.hid hfo
     have hys0:YsV w3 s (.agg #[.slice a0 (N.map Prod.fst).length c0,.slice a1 (N.map Prod.fst).length c1,.slice a2 (N.map Prod.fst).length c2,.slice a3' (N.map Prod.fst).length c3',.bool wh]) (N.map Prod.fst) wh:=HYS.out
     have hb4:w4.heap[w3.heap.size]?=some (.cells #[.slice a0 (N.map Prod.fst).length c0,.slice a1 (N.map Prod.fst).length c1,.slice a2 (N.map Prod.fst).length c2,.slice a3' (N.map Prod.fst).length c3',.bool wh] 39 (0,0)):=HB4.out
     try dsimp only
     rw[hnl] at hys0 hb4 ⊢
     have hlen1:1≤N.length:=by
      have:=lt_of_some hfo.one
      rw[List.length_map] at this
      omega
     have hlen2:N.length≤m:=by
      have:=hfo.top
      rw[List.length_map] at this
      omega
     have HL:Hid (1≤N.length∧N.length≤m):=Lib.hid ⟨hlen1,hlen2⟩
     have HSP4:Hid (SpO w4 s yb wh pb N):=Lib.hid (HSP.out.frm (HF23.out.trans HF34.out))
     have HYS4:=Lib.hid (hys0.frm HF34.out)
     have HBX:=Lib.hid hb4
     obtain⟨d,hd⟩:∃ d,N[N.length - 1]?=some d:=⟨_,List.getElem?_eq_getElem (by omega)⟩
     have hdm:(N.map Prod.fst)[N.length - 1]?=some d.1:=by rw[List.getElem?_map,hd];rfl
     have hidx:((N.length:Int) - 1)=((N.length - 1:Nat):Int):=by omega
     have hlv:d.1.lvl≤61:=by
      have h1:=(trace_leads hfo.toSI (N.length - 1) d.1 hdm).2
      have h2:=trc_len (N:=N.map Prod.fst) (N.length - 1 + 1) (N.length - 1)
      have h3:traceP (N.map Prod.fst) (N.length - 1)=trc (N.map Prod.fst) (N.length - 1 + 1) (N.length - 1):=rfl
      rw[h3] at h1
      have:=HM.out
      omega
     have hm60:m≤60:=HM.out.2
     have CDp:Hid (∀ V,Frm [] w4 V→Calls Tryz.prog 16 #[.pointer (some ⟨pb,0,none⟩)] V (Ret (.int .i64 d.1.lvl) (Frm [] V))):=Lib.hid fun V hV =>
      xDepth_of (xLen_any (HSP4.out.frm hV)) (fun V2 hV2=>by rw[hidx];exact xLevel_of (xNode_in (HSP4.out.frm (hV.trans hV2)) hd (by omega))) (by omega)
     have CLv:Hid (∀ V,Frm [] w4 V→Calls Tryz.prog 17 #[.agg #[.slice a0 N.length c0,.slice a1 N.length c1,.slice a2 N.length c2,.slice a3' N.length c3',.bool wh],.int .i64 ((N.length:Int) - 1)] V (Ret (.int .i64 d.1.lvl) (Frm [] V))):=Lib.hid fun V hV=>by
      rw[hidx]
      exact yLevel_any s _ (N.map Prod.fst) wh m nn (N.length - 1) d.1 V (HYS4.out.frm hV) HFO.out.toSI hdm (by rw[hnl];omega) (by omega)
     have HCX:Hid (∀ V,Frm [] w4 V→V.cell? ⟨w3.heap.size,0,none⟩=some (.slice a0 N.length c0)∧V.cell? ⟨w3.heap.size,4,none⟩=some (.bool wh)):=Lib.hid fun V hV=>⟨cell_of (hV.at hb4 (by simp)) 0,cell_of (hV.at hb4 (by simp)) 4⟩
     have hwl:IntKind.i64.wrap ((N.length:Int) - 1)=(N.length:Int) - 1:=by rw[IntKind.wrap_i64];have:=HM.out;omega
     clear hm60 hR hN hfo HNN HYS CY hlen1 hlen2 hd hdm hidx hlv hb4 hys0 HB4 HSP hnl
     refine wp_region_cq (by kernel_rfl) (by kernel_rfl) ?_
     repeat (first
      | go_big_quiet_skip
      | (refine wpQuiet_want (by rfl) (fun K hK=>?_)
         first
          | (refine quiet_move _ (by rfl) (hK _ ?_))
          | (refine quiet_assign _ (by rfl) (hK _ ?_))
          | (refine cq_call (.int .i64 0) 13 #[.int .i64 0] (fun w' hC=>?_) (fun w' hC=>Ret.cq (num34_f 0 w') (fun w'' h=>hC.trans h)) (hK _ ?_)
             ·go_simp)
          | (refine cq_call (.int .i64 (N.length:Nat)) 14 #[.pointer (some ⟨pb,0,none⟩)] (fun w' hC=>?_) (fun w' hC=>Ret.cq (xLen_any (HSP4.out.frm hC)) (fun w'' h=>hC.trans h)) (hK _ ?_)
             ·go_simp)
          | (refine cq_call (.bool wh) 15 #[.pointer (some ⟨pb,0,none⟩)] (fun w' hC=>?_) (fun w' hC=>Ret.cq (xWhole_any (HSP4.out.frm hC)) (fun w'' h=>hC.trans h)) (hK _ ?_)
             ·go_simp)
          | (refine cq_call (.int .i64 d.1.lvl) 16 #[.pointer (some ⟨pb,0,none⟩)] (fun w' hC=>?_) (fun w' hC=>Ret.cq (CDp.out w' hC) (fun w'' h=>hC.trans h)) (hK _ ?_)
             ·go_simp)
          | (refine cq_call (.int .i64 d.1.lvl) 17 #[.agg #[.slice a0 N.length c0,.slice a1 N.length c1,.slice a2 N.length c2,.slice a3' N.length c3',.bool wh],.int .i64 ((N.length:Int) - 1)] (fun w' hC=>?_) (fun w' hC=>Ret.cq (CLv.out w' hC) (fun w'' h=>hC.trans h)) (hK _ ?_)
             ·go_simp)
          | (refine cq_row 39 _ rfl w3.heap.size rfl #[.slice a0 N.length c0,.slice a1 N.length c1,.slice a2 N.length c2,.slice a3' N.length c3',.bool wh] 39 HBX.out _ Tryz.underlying39 rfl (by kernel_rfl) (hK _ ?_))
          | (apply Exists.intro
             refine⟨fun w' hC=>?_,hK _ ?_⟩
             ·(unfold Oper.quietAt
               obtain⟨x0,x4⟩:=HCX.out w' hC
               clear hC
               go_simp
               try exact⟨rfl,rfl⟩
               try rfl))
         clear hK K
         try simp only[nrm,Act.eval,nrq]))
     refine wpQuiet_nil ?_
     intro w5 hf5
     have HF5:=Lib.hid hf5
     have HARR:=HYS4.out.out
     clear CDp CLv hwl hf5
     obtain⟨b0,e0,b1,e1,b2,e2,b3,e3,heq,-,hk1,-,-⟩:=HARR
     have hla:b1=a1∧e1=c1:=by
      have h1:=congrArg (fun v=>match v with | .agg A=>A.getD 1 undef | _=>undef) heq
      simp only[List.length_map] at h1
      have h2:Value.slice a1 N.length c1=Value.slice b1 N.length e1:=h1
      injection h2 with h3 h4 h5
      exact⟨h3.symm,h5.symm⟩
     obtain⟨rfl,rfl⟩:=hla
     rw[List.length_map] at hk1
     have HKS:=Lib.hid hk1
     clear heq hk1
     go_upto_region 11 with fail
     go_loopw [10] (fun s10 wr=>∃ k:Nat,s10=.int .i64 k∧k≤N.length∧Frm [] w4 wr) (fun s10 _=>N.length - (intOf s10).toNat)
     case atStart=>exact⟨0,rfl,Nat.zero_le _,HF5.out⟩
     case round =>
      obtain⟨k,rfl,hk,hf⟩:=hrel
      obtain⟨wq,hwq⟩:∃ wq,wq=wr:=⟨_,rfl⟩
      subst hwq
      have HF:=Lib.hid hf
      clear hf
      obtain⟨x0,x4⟩:=HCX.out wq HF.out
      by_cases hlt:k < N.length
      ·have hlt':(k:Int) < (N.length:Int):=by omega
       obtain⟨d,hd⟩:∃ d,N[k]?=some d:=⟨_,List.getElem?_eq_getElem hlt⟩
       have HD:=Lib.hid hd
       have HDf:Hid ((N.map Prod.fst)[k]?=some d.1):=Lib.hid (by rw[List.getElem?_map,hd];rfl)
       have hN5:N.length≤1000000:=by have:=HL.out;have:=HM.out;omega
       have hN2:N.length≤200000:=by have:=HL.out;have:=HM.out;omega
       have HNm:Hid ((N.map Prod.fst).length≤100000):=Lib.hid (by rw[List.length_map];have:=HL.out;have:=HM.out;omega)
       have HSPq:Hid (SpO wq s yb wh pb N):=Lib.hid (HSP4.out.frm HF.out)
       have CNd:=Lib.hid (fun V (hV:Frm [] wq V)=>xNode_in (HSPq.out.frm hV) hd hN5)
       obtain⟨T,hT⟩:∃ T,traceP (N.map Prod.fst) k=T:=⟨_,rfl⟩
       have CTr:=Lib.hid (fun V (hV:Frm [] wq V)=>xTrace_any (HSPq.out.frm hV) HFO.out.toSI hlt hN2)
       have ht2:=(trace_leads HFO.out.toSI k d.1 HDf.out).2
       have HLV:Hid (d.1.lvl≤61):=Lib.hid (by
        rw[← ht2]
        have h1:=trc_len (N:=N.map Prod.fst) (k + 1) k
        have h2:traceP (N.map Prod.fst) k=trc (N.map Prod.fst) (k + 1) k:=rfl
        rw[h2]
        have:=HL.out;have:=HM.out
        omega)
       have HTL:Hid (T.length≤1000000):=Lib.hid (by rw[← hT,ht2];have:=HLV.out;omega)
       have CYT:Hid (∀ V,Frm [] wq V→Calls Tryz.prog 24 #[.agg #[.slice a0 N.length c0,.slice b1 N.length e1,.slice a2 N.length c2,.slice a3' N.length c3',.bool wh],.int .i64 (k:Int)] V (RetV fun u w'=>RmO V u T w'∧Frm [] V w')):=Lib.hid fun V hV=>by
        rw[← hT]
        exact yTrace_any s (N.map Prod.fst) wh m nn HFO.out.toSI HNm.out k d.1 _ V HDf.out (HYS4.out.frm (HF.out.trans hV))
       have CYL:Hid (∀ V,Frm [] wq V→Calls Tryz.prog 17 #[.agg #[.slice a0 N.length c0,.slice b1 N.length e1,.slice a2 N.length c2,.slice a3' N.length c3',.bool wh],.int .i64 (k:Int)] V (Ret (.int .i64 d.1.lvl) (Frm [] V))):=Lib.hid fun V hV =>
        yLevel_any s _ (N.map Prod.fst) wh m nn k d.1 V (HYS4.out.frm (HF.out.trans hV)) HFO.out.toSI HDf.out HNm.out (by have:=HLV.out;omega)
       rw[hT] at CTr
       have HSTd:Hid (StR wq s yb d.2 d.1.st):=Lib.hid (HSPq.out.st d (List.mem_of_getElem? HD.out))
       have HKz:Hid ((keyS s d.1.st).size≤maxLen):=Lib.hid (by
        have:=keyS_size HOK.out HSTd.out.ok
        unfold maxLen
        exact Nat.le_trans this (by omega))
       have HFI:Hid (findP s (N.map Prod.fst) (keyP s d.1.st)=some k):=Lib.hid (by
        cases hfi:findP s (N.map Prod.fst) (keyP s d.1.st) with
        | none =>
          have h2:hasK s (N.map Prod.fst) (keyP s d.1.st)=true:=hasK_iff.2 ⟨k,d.1,HDf.out,rfl⟩
          rw[← findP_none,hfi] at h2
          cases h2
        | some j =>
          obtain⟨b,hb,hkb⟩:=findP_at hfi
          rw[HFO.out.dist j k b d.1 hb HDf.out hkb])
       obtain⟨g1,o1,eg,q1⟩:=HKS.out.get (show ((N.map Prod.fst).map fun d=>keyS s d.st)[k]?=some (keyS s d.1.st) by rw[List.getElem?_map,HDf.out];rfl)
       subst eg
       have HKC:Hid (∀ V,Frm [] wq V→V.cell? ⟨g1,o1 + k,none⟩=some (.string (keyS s d.1.st))∧V.cell? ⟨w3.heap.size,1,none⟩=some (.slice (some ⟨g1,o1,none⟩) N.length e1)):=Lib.hid fun V hV=>by
        have q2:w4.cell? ⟨g1,o1 + k * 1,none⟩=some (.string (keyS s d.1.st)):=q1
        rw[Nat.mul_one] at q2
        exact⟨(HF.out.trans hV).keep q2,cell_of ((HF.out.trans hV).at HBX.out (by simp)) 1⟩
       have HCY:Hid (∀ V,Frm [] wq V→V.cell? ⟨w3.heap.size,0,none⟩=some (.slice a0 N.length c0)∧V.cell? ⟨w3.heap.size,1,none⟩=some (.slice (some ⟨g1,o1,none⟩) N.length e1)∧V.cell? ⟨w3.heap.size,2,none⟩=some (.slice a2 N.length c2)∧V.cell? ⟨w3.heap.size,3,none⟩=some (.slice a3' N.length c3')∧V.cell? ⟨w3.heap.size,4,none⟩=some (.bool wh)∧V.cell? ⟨g1,o1 + k,none⟩=some (.string (keyS s d.1.st))):=Lib.hid fun V hV=>by
        have hb:=(HF.out.trans hV).at HBX.out (by simp)
        exact⟨cell_of hb 0,cell_of hb 1,cell_of hb 2,cell_of hb 3,cell_of hb 4,(HKC.out V hV).1⟩
       have HLT:=Lib.hid hlt
       clear hd hN5 hN2 hT ht2 hk q1
       go_upto_region 17 with (first
        | (go_at_call 18;go_must (refine(xState_of (CNd.out _ (Frm.refl _ _))).mono ?_;rintro e wa ⟨rfl,hf⟩;have HFa:=Lib.hid hf;clear hf x0 x4))
        | (go_at_call 19;go_must (refine(xLevel_of (CNd.out _ HFa.out)).mono ?_;rintro e wb ⟨rfl,hf⟩;have HFb:=Lib.hid (HFa.out.trans hf);clear hf))
        | (go_at_call 20;go_must (refine(CTr.out _ HFb.out).mono ?_;rintro e wc' ⟨v,rfl,u,rfl,harr,hf⟩;obtain⟨ta,tc,rfl⟩:=harr.shape;have HTA:=Lib.hid harr;have HFc:=Lib.hid (HFb.out.trans hf);obtain⟨kx,x1⟩:=HKC.out _ HFc.out;clear harr hf))
        | (go_at_call 21;go_must (refine(find_hit (HSPq.out.frm HFc.out) d.1.st HKz.out HFI.out).mono ?_;rintro e wd ⟨rfl,hf⟩;have HFcd:=Lib.hid hf;have HFd:=Lib.hid (HFc.out.trans hf);clear hf kx x1)))
       have HCZ:Hid (∀ V,Frm [] wd V→V.cell? ⟨w3.heap.size,0,none⟩=some (.slice a0 N.length c0)∧V.cell? ⟨w3.heap.size,1,none⟩=some (.slice (some ⟨g1,o1,none⟩) N.length e1)∧V.cell? ⟨w3.heap.size,2,none⟩=some (.slice a2 N.length c2)∧V.cell? ⟨w3.heap.size,3,none⟩=some (.slice a3' N.length c3')∧V.cell? ⟨w3.heap.size,4,none⟩=some (.bool wh)∧V.cell? ⟨g1,o1 + k,none⟩=some (.string (keyS s d.1.st))):=Lib.hid fun V hV=>HCY.out V (HFd.out.trans hV)
       have HTA2:=Lib.hid (HTA.out.frm fun _ _ _ h=>h.frm HFcd.out)
       have HSYd:Hid (SyR wd s yb fb):=Lib.hid (HSY1.out.frm (HF12.out.trans (HF23.out.trans (HF34.out.trans (HF.out.trans HFd.out)))))
       have HSTd2:=Lib.hid (HSTd.out.frm HFd.out)
       clear HCY HKC CNd CTr HTA HFa HFb HFc HFcd
       refine heldG_start (by kernel_rfl) ?_
       refine tkG 0 ?_ ?_ ?_
       rotate_left
       ·intro w' hC
        obtain⟨x0,x1,x2,x3,x4,kx⟩:=HCZ.out w' ((Frm.refl [] wd).drew.trans hC)
        clear hC
        go_simp
        try rfl
       try simp only[nrm]
       refine tkG 2 ?_ ?_ ?_
       rotate_left
       ·intro w' hC
        obtain⟨x0,x1,x2,x3,x4,kx⟩:=HCZ.out w' ((Frm.refl [] wd).drew.trans hC)
        clear hC
        go_simp
        try rfl
       try simp only[nrm]
       refine tkG 5 ?_ ?_ ?_
       rotate_left
       ·intro w' hC
        obtain⟨x0,x1,x2,x3,x4,kx⟩:=HCZ.out w' ((Frm.refl [] wd).drew.trans hC)
        clear hC
        go_simp
        try rfl
       try simp only[nrm]
       refine tkG 8 ?_ ?_ ?_
       rotate_left
       ·intro w' hC
        obtain⟨x0,x1,x2,x3,x4,kx⟩:=HCZ.out w' ((Frm.refl [] wd).drew.trans hC)
        clear hC
        go_simp
        try rfl
       try simp only[nrm]
       refine stG 1 (fun K' hK'=>?_)
       go_simp
       (refine(num34_f 0 _).mono ?_;rintro e y1 ⟨rfl,hf⟩;have HY1:Hid (Frm [] wd y1):=Lib.hid ((Frm.refl [] wd).drew.trans hf))
       refine hK'.out _ _ (hf) ?_
       clear hK' K'
       try simp only[nrm]
       refine stG 3 (fun K' hK'=>?_)
       go_simp
       (refine(num34_f 0 _).mono ?_;rintro e y2 ⟨rfl,hf⟩;have HY2:Hid (Frm [] wd y2):=Lib.hid (HY1.out.trans hf))
       refine hK'.out _ _ (hf) ?_
       clear hK' K'
       try simp only[nrm]
       refine tkG 4 ?_ ?_ ?_
       rotate_left
       ·intro w' hC
        obtain⟨x0,x1,x2,x3,x4,kx⟩:=HCZ.out w' (HY2.out.trans hC)
        clear hC
        go_simp
        try rfl
       try simp only[nrm]
       refine stG 6 (fun K' hK'=>?_)
       go_simp
       (refine(num34_f 0 _).mono ?_;rintro e y3 ⟨rfl,hf⟩;have HY3:Hid (Frm [] wd y3):=Lib.hid (HY2.out.trans hf))
       refine hK'.out _ _ (hf) ?_
       clear hK' K'
       try simp only[nrm]
       refine tkG 7 ?_ ?_ ?_
       rotate_left
       ·intro w' hC
        obtain⟨x0,x1,x2,x3,x4,kx⟩:=HCZ.out w' (HY3.out.trans hC)
        clear hC
        go_simp
        try rfl
       try simp only[nrm]
       refine stG 9 (fun K' hK'=>?_)
       go_simp
       (refine(num34_f 0 _).mono ?_;rintro e y4 ⟨rfl,hf⟩;have HY4:Hid (Frm [] wd y4):=Lib.hid (HY3.out.trans hf))
       refine hK'.out _ _ (hf) ?_
       clear hK' K'
       try simp only[nrm]
       refine cnt 10 ?_
       iterate 8
        refine tcG ?_ ?_ ?_
        rotate_left
        ·intro w' hC
         obtain⟨x0,x1,x2,x3,x4,kx⟩:=HCZ.out w' (HY4.out.trans hC)
         clear hC
         go_simp
         try rfl
        try simp only[nrm,Nat.reduceAdd]
       refine tcn ?_
       refine cnt 19 ?_
       iterate 5
        refine tcG ?_ ?_ ?_
        rotate_left
        ·intro w' hC
         obtain⟨x0,x1,x2,x3,x4,kx⟩:=HCZ.out w' (HY4.out.trans hC)
         clear hC
         go_simp
         try rfl
        try simp only[nrm,Nat.reduceAdd]
       refine tcn ?_
       refine stG 18 (fun K' hK'=>?_)
       go_simp
       (refine(pKey_ret s yb fb d.2 d.1.st y4 (HSYd.out.frm HY4.out) (HSTd2.out.frm HY4.out)).mono ?_;rintro e y5 ⟨rfl,hf⟩;have HY5:Hid (Frm [] wd y5):=Lib.hid (HY4.out.trans hf))
       refine hK'.out _ _ (hf) ?_
       clear hK' K'
       try simp only[nrm]
       refine cnt 24 ?_
       iterate 6
        refine tcG ?_ ?_ ?_
        rotate_left
        ·intro w' hC
         obtain⟨x0,x1,x2,x3,x4,kx⟩:=HCZ.out w' (HY5.out.trans hC)
         clear hC
         go_simp
         try rfl
        try simp only[nrm,Nat.reduceAdd]
       refine tcn ?_
       refine stG 30 (fun K' hK'=>?_)
       go_simp
       (refine(CYL.out y5 (HFd.out.trans HY5.out)).mono ?_;rintro e y6 ⟨rfl,hf⟩;have HY6:Hid (Frm [] wd y6):=Lib.hid (HY5.out.trans hf))
       refine hK'.out _ _ (hf) ?_
       clear hK' K'
       try simp only[nrm]
       refine cnt 31 ?_
       iterate 6
        refine tcG ?_ ?_ ?_
        rotate_left
        ·intro w' hC
         obtain⟨x0,x1,x2,x3,x4,kx⟩:=HCZ.out w' (HY6.out.trans hC)
         clear hC
         go_simp
         try rfl
        try simp only[nrm,Nat.reduceAdd]
       refine tcn ?_
       refine stG 37 (fun K' hK'=>?_)
       go_simp
       (refine(CYT.out y6 (HFd.out.trans HY6.out)).mono ?_;rintro e y7 ⟨u,rfl,hrm,hf⟩;obtain⟨au,cu,hsh⟩:=own_shape hrm;subst hsh;have HRM:=Lib.hid hrm;have HY67:=Lib.hid hf;have HY7:Hid (Frm [] wd y7):=Lib.hid (HY6.out.trans hf);clear hrm)
       refine hK'.out _ _ (hf) ?_
       clear hK' K'
       try simp only[nrm]
       refine stG 38 (fun K' hK'=>?_)
       go_simp
       (refine(moves_any _ _ T y7 (HTA2.out.frm fun _ _ _ h=>h.frm HY7.out) (rm_arr HRM.out) HTL.out).mono ?_;rintro e y8 ⟨rfl,hf⟩;have HY8:Hid (Frm [] wd y8):=Lib.hid (HY7.out.trans hf))
       refine hK'.out _ _ (hf) ?_
       clear hK' K'
       try simp only[nrm]
       refine cnt 39 ?_
       iterate 7
        refine tcG ?_ ?_ ?_
        rotate_left
        ·intro w' hC
         obtain⟨x0,x1,x2,x3,x4,kx⟩:=HCZ.out w' (HY8.out.trans hC)
         clear hC
         go_simp
         try rfl
        try simp only[nrm,Nat.reduceAdd]
       refine tcn ?_
       refine wpAnyH_done (by kernel_rfl) ?_ _
       have HW1:Hid (wrap64 ((k:Int) + 1)=((k + 1:Nat):Int)):=Lib.hid (by have:=HL.out;have:=HM.out;unfold wrap64;omega)
       go_wp2
       exact⟨⟨k + 1,congrArg (Value.int .i64) HW1.out,HLT.out,HF.out.trans (HFd.out.trans HY8.out)⟩,meas_up HLT.out HW1.out⟩
      ·have hge:¬ (k:Int) < (N.length:Int):=by omega
       go_wp2_with (go_at_call 10;go_must (refine(CK.out _).mono ?_;rintro e wk ⟨rfl,hf'⟩;have HFK:Hid (Frm [] w wk):=Lib.hid (HF0.out.trans (HF3.out.trans (HF34.out.trans (HF.out.trans hf'))));clear hf'))
       go_ret
       exact⟨rfl,HFK.out⟩
end Go.Proofs.YtemjlpahohmajaaGreat
