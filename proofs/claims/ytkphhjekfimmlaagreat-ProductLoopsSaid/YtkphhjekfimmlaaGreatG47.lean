/- Part of the proof. -/
import Derived.Test.YtkphhjekfimmlaaGreatG30
import Derived.Test.YtkphhjekfimmlaaGreatG46
import Derived.Test.YtkphhjekfimmlaaGreatG40
set_option linter.all false
namespace Go.Proofs.YtkphhjekfimmlaaGreat
open Go.RowKit Go.BigFrame
theorem ctrIx_at {r:RolD} {s:SesD} (hr:RolOk s r) {k:Nat} {c:CtrD} (hc:r.ctrs[k]?=some c):ctrIx r.ctrs c.name=k:=by
 have h0:0≤ctrIx r.ctrs c.name:=ixf_ex (List.mem_of_getElem? hc) (decide_eq_true rfl)
 obtain⟨j,hj,-⟩:=ixf_nat h0
 obtain⟨d,h1,h2,-⟩:=ixf_at hj
 have:=hr.cU k j c d hc h1 (of_decide_eq_true h2).symm
 unfold ctrIx at h0 ⊢
 rw[hj,this]
theorem ctV_at {s:SesD} {x:PS} (hs:SesOk s) (hx:PSok s x) {i k:Nat} {c:CtrD} (hi:i < s.roles.length) (hc:(s.rol i).ctrs[k]?=some c):ctV (x.ctr s i) c.name=.tuple #[.int .i64 ((x.bank i).getD k 0),.int .i64 0]:=by
 have e:cnIx (x.ctr s i) c.name=k:=by
  unfold PS.ctr
  rw[cnIx_zip (hx.vb i hi).1]
  exact ctrIx_at (hs.at hi) hc
 unfold ctV
 rw[e,Int.toNat_natCast]
 have h1:(x.ctr s i)[k]?=some (c,(x.bank i).getD k 0):=by
  unfold PS.ctr
  exact zip_at (hx.vb i hi).1 hc
 rw[h1]
 simp only
 rw[if_pos (by omega)]
theorem num33_f (e:Int) (w:World):Calls Tryz.prog 19 #[.int .i64 e] w (Ret (.int .i64 e) (Frm [] w)):=(num33_any e w).mono fun e' w' h=>by
 obtain⟨h1,h2⟩:=h
 exact⟨h1,h2 ▸ Frm.refl _ _⟩
attribute [local go_sem] Oper.semAt_some
set_option maxHeartbeats 16000000 in
set_option maxRecDepth 100000 in
noncomputable def lAgreesS:PSigma fun P:Prop=>P→∀ (s:SesD) (yb fb sb:Nat) (x:PS) (sv xv:Value) (B:Nat) (w:World),SyR w s yb fb→StR w s yb sb x→SesV w sv s→RSt B w s xv x→Calls Tryz.prog 28 #[.pointer (some ⟨yb,0,none⟩),sv,.pointer (some ⟨sb,0,none⟩),xv] w (Ret (.bool true) (Frm [] w)):=by
 apply PSigma.mk
 case snd =>
  intro hP
  have HP0:=Lib.hid hP
  clear hP
  intro s yb fb sb x sv xv B w h hx hs hr
  have HOK:=Lib.hid h.ok;have HPK:=Lib.hid hx.ok
  have CK1:=Lib.hid (fun V (hV:Frm [] w V)=>retV_ret (pKey_any s yb fb sb x V (h.frm hV) (hx.frm hV)))
  have CK2:=Lib.hid (fun V (hV:Frm [] w V)=>retV_ret (qKey_any s xv x B V (hr.frm hV) h.ok))
  have CF1:=Lib.hid (fun V (hV:Frm [] w V)=>pFinal_any s yb fb sb x V (h.frm hV) (hx.frm hV))
  have CF2:=Lib.hid (fun V (hV:Frm [] w V)=>qFinal_any s sv xv x B V (hs.frm hV) (hr.frm hV) h.ok)
  have CA:=Lib.hid (fun V i (hV:Frm [] w V)=>pAt_ok s yb fb sb i x V (h.frm hV) (hx.frm hV))
  have CC:=Lib.hid (fun V i n (hV:Frm [] w V)=>pCounter_ok s yb fb sb i x n V (h.frm hV) (hx.frm hV))
  have CH:=Lib.hid (fun V i k (hV:Frm [] w V)=>pChannel_ok s yb sb i k x V (hx.frm hV))
  have CHB:=Lib.hid (fun V i k (hV:Frm [] w V)=>pChannel_bad (w:=V) s yb sb x i k (hx.frm hV))
  have CM:=Lib.hid (fun V (hV:Frm [] w V)=>qMoves_any s sv xv x B V (hs.frm hV) (hr.frm hV) h.ok)
  have CL:=Lib.hid (fun V (hV:Frm [] w V)=>listed_any (some ⟨yb,0,none⟩) (some ⟨sb,0,none⟩) (movesP s x) V (by
   have h1:=stepsMv_len h.ok hx.ok (Nat.le_refl _)
   have h2:=losesMv_len (x:=x) h.ok (Nat.le_refl s.roles.length)
   unfold movesP
   rw[List.length_append];omega) (fun W hW=>pMoves_any s yb fb sb x W (h.frm (hV.trans hW)) (hx.frm (hV.trans hW))))
  have CN:=Lib.hid num33_f
  obtain⟨rv,rfl,hrl⟩:=hs
  obtain⟨ao,cap,rfl⟩:=hrl.shape
  obtain⟨ba,bb,bw,bi,ca,cb,cw,rfl,hro,-⟩:=hr.out
  obtain⟨n,hn⟩:∃ n,s.roles.length=n:=⟨_,rfl⟩
  have h4:n≤4:=hn ▸ h.ok.n4
  obtain⟨W0,hW0⟩:∃ W0,(w.alloc (.cells #[.string s.name,.slice ao s.roles.length cap,.int .i64 s.cls,.int .i64 s.cap] 25)).alloc (.cells #[.slice (some ⟨ba,0,none⟩) s.roles.length ca,.slice (some ⟨bb,0,none⟩) s.roles.length cb,.slice (some ⟨bw,0,none⟩) s.roles.length cw] 35)=W0:=⟨_,rfl⟩
  have hf0:Frm [] w W0:=by rw[← hW0];exact((Frm.refl _ _).alloc _).alloc _
  have hb1:W0.heap[w.heap.size]?=some (.cells #[.string s.name,.slice ao s.roles.length cap,.int .i64 s.cls,.int .i64 s.cap] 25 (0,0)):=by rw[← hW0];exact alloc_at (heap_alloc_new _ _)
  have hb2:W0.heap[w.heap.size + 1]?=some (.cells #[.slice (some ⟨ba,0,none⟩) s.roles.length ca,.slice (some ⟨bb,0,none⟩) s.roles.length cb,.slice (some ⟨bw,0,none⟩) s.roles.length cw] 35 (0,0)):=by rw[← hW0];exact alloc_top (by simp)
  have HE:=Lib.hid hW0
  have HRL:=Lib.hid hrl
  have HRO:=Lib.hid hro
  rw[hn] at hb1 hb2 HE HRL CK2 CF2 CM ⊢
  have HF0:=Lib.hid hf0;have HN:=Lib.hid hn
  have HB1:Hid (∀ V,Frm [] W0 V→V.heap[w.heap.size]?=some (.cells #[.string s.name,.slice ao n cap,.int .i64 s.cls,.int .i64 s.cap] 25 (0,0))):=Lib.hid fun V hV=>hV.at hb1 (by simp)
  have HB2:Hid (∀ V,Frm [] W0 V→V.heap[w.heap.size + 1]?=some (.cells #[.slice (some ⟨ba,0,none⟩) n ca,.slice (some ⟨bb,0,none⟩) n cb,.slice (some ⟨bw,0,none⟩) n cw] 35 (0,0))):=Lib.hid fun V hV=>hV.at hb2 (by simp)
  have HW:Hid (∀ V,Frm [] W0 V→Frm [] w V):=Lib.hid fun V hV=>hf0.trans hV
  obtain⟨KB,hKB⟩:∃ KB:ByteArray,(⟨(keyP s x).toArray⟩:ByteArray)=KB:=⟨_,rfl⟩
  obtain⟨fin,hfin⟩:∃ b,finalB s x=b:=⟨_,rfl⟩
  rw[hKB] at CK1 CK2
  rw[hfin] at CF1 CF2
  clear h hx hr hrl hro hW0 hf0 hb1 hb2 hn hKB hfin
  go_enter Tryz.func28,Tryz.ntmps28
  go_upto_region 1 with fail
  rw[HE.out]
  clear HE
  refine wp_region_cq (by kernel_rfl) (by kernel_rfl) ?_
  repeat (first
   | go_big_quiet_skip
   | (refine wpQuiet_want (by rfl) (fun K hK=>?_)
      first
       | (refine quiet_move _ (by rfl) (hK _ ?_))
       | (refine quiet_assign _ (by rfl) (hK _ ?_))
       | (refine cq_call (.string KB) 22 #[.pointer (some ⟨sb,0,none⟩)] (fun w' hC=>?_) (fun w' hC=>Ret.cq (CK1.out w' (HW.out w' hC)) (fun w'' h=>hC.trans h)) (hK _ ?_)
          ·go_simp)
       | (refine cq_call (.string KB) 50 #[.agg #[.slice (some ⟨ba,0,none⟩) n ca,.slice (some ⟨bb,0,none⟩) n cb,.slice (some ⟨bw,0,none⟩) n cw]] (fun w' hC=>?_) (fun w' hC=>Ret.cq (CK2.out w' (HW.out w' hC)) (fun w'' h=>hC.trans h)) (hK _ ?_)
          ·go_simp)
       | (refine cq_row 35 _ rfl (w.heap.size + 1) rfl #[.slice (some ⟨ba,0,none⟩) n ca,.slice (some ⟨bb,0,none⟩) n cb,.slice (some ⟨bw,0,none⟩) n cw] 35 (HB2.out W0 (Frm.refl _ _)) _ Tryz.underlying35 rfl (by kernel_rfl) (hK _ ?_))
       | (apply Exists.intro
          refine⟨fun w' hC=>?_,hK _ ?_⟩
          ·(unfold Oper.quietAt
            clear hC
            go_simp
            try exact⟨rfl,rfl⟩
            try rfl))
      clear hK K
      try simp only[nrm,Act.eval,nrq]))
  refine wpQuiet_nil ?_
  intro w1 hf1
  have HF1:Hid (Frm [] W0 w1):=Lib.hid hf1
  clear hf1
  have CF1':=Lib.hid (CF1.out w1 (HW.out _ HF1.out))
  go_upto_region 4 with (first
   | (go_at_call 52;go_must (refine CF1'.out.mono ?_;clear CF1';rintro e w2 ⟨rfl,hf2⟩;have HF2:Hid (Frm [] W0 w2):=Lib.hid (HF1.out.trans hf2);clear hf2)))
  go_upto_region 7 with (first
   | (go_at_call 19;go_must (refine(CN.out 0 _).mono ?_;rintro e w3 ⟨rfl,hf'⟩;have HF2n:Hid (Frm [] W0 w3):=Lib.hid (HF2.out.trans hf');have hz1:=HB1.out _ HF2n.out;have hz2:=HB2.out _ HF2n.out;have s0:=cell_of hz1 0;have s1:=cell_of hz1 1;have s2:=cell_of hz1 2;have s3:=cell_of hz1 3;have t0:=cell_of hz2 0;have t1:=cell_of hz2 1;have t2:=cell_of hz2 2;clear hf' hz1 hz2))
   | (go_at_call 88;go_must (refine(CF2.out _ (HW.out _ HF2n.out)).mono ?_;rintro e w4 ⟨rfl,hf4⟩;have HF3:Hid (Frm [] W0 w4):=Lib.hid (HF2n.out.trans hf4);clear hf4 s0 s1 s2 s3 t0 t1 t2)))
  go_loopw [11] (fun s11 wr=>∃ i:Nat,s11=.int .i64 i∧i≤n∧Frm [] W0 wr) (fun s11 _=>n - (intOf s11).toNat)
  case atStart=>exact⟨0,rfl,Nat.zero_le _,HF3.out⟩
  case round =>
   clear HF1 HF2 HF2n HF3
   obtain⟨i,rfl,hi,hf⟩:=hrel
   have HF:=Lib.hid hf
   clear hf
   obtain⟨wl,hwl⟩:∃ wl,wl=wr:=⟨_,rfl⟩
   subst hwl
   have e1:=cell_of (HB1.out wl HF.out) 1
   by_cases hlt:i < n
   ·have hlt':(i:Int) < (n:Int):=by omega
    have hin:i < s.roles.length:=by rw[HN.out];exact hlt
    have HIN:=Lib.hid hin
    obtain⟨b,o,sv',cv,tv,rfl,⟨-,d1,d2,-⟩,h3⟩:=Rls.at HRL.out hin
    obtain⟨aS,kS,eS⟩:=h3.sts.shape
    obtain⟨aC,kC,eC⟩:=h3.ctrs.shape
    subst eS eC
    have hpb:=HPK.out.pb i hin
    have hst:(s.rol i).sts[x.at i]?=some ((s.rol i).sts.getD (x.at i) dS):=some_getD hpb
    obtain⟨b1,o1,rfl,g0,-,-⟩:=h3.sts.get hst
    have CAi:=Lib.hid (CA.out wl i (HW.out _ HF.out) hin)
    have ga:=HRO.out.a i hin
    obtain⟨nm,hnm⟩:∃ q,((s.rol i).sts.getD (x.at i) dS).name=q:=⟨_,rfl⟩
    obtain⟨p,hp⟩:∃ p,x.at i=p:=⟨_,rfl⟩
    obtain⟨nS,hnS⟩:∃ q,(s.rol i).sts.length=q:=⟨_,rfl⟩
    obtain⟨nC,hnC⟩:∃ q,(s.rol i).ctrs.length=q:=⟨_,rfl⟩
    rw[hnm] at g0 CAi
    rw[hp] at g0 ga hpb
    rw[hnS] at d1 hpb
    rw[hnC] at d2
    have HNC:=Lib.hid hnC;have HCA:=Lib.hid h3.ctrs
    rw[hnC] at HCA
    have hpS:(p:Int) < (nS:Int):=by omega
    have hc4:nC≤4:=by rw[← hnC];exact(HOK.out.at hin).c4
    have HU:Hid (∀ V,Frm [] W0 V→(V.cell? ⟨w.heap.size,1,none⟩=some (.slice (some ⟨b,o,none⟩) n cap)∧V.cell? ⟨b,o + i * 4 + 1,none⟩=some (.slice (some ⟨b1,o1,none⟩) nS kS)∧V.cell? ⟨b,o + i * 4 + 2,none⟩=some (.slice aC nC kC))∧V.cell? ⟨w.heap.size + 1,0,none⟩=some (.slice (some ⟨ba,0,none⟩) n ca)∧V.cell? ⟨ba,i,none⟩=some (.int .i64 (p:Int))∧V.cell? ⟨b1,o1 + p * 3,none⟩=some (.string nm)):=Lib.hid fun V hV=>by
     have h1:=HW.out V hV
     exact⟨⟨cell_of (HB1.out V hV) 1,h1.keep d1,h1.keep d2⟩,cell_of (HB2.out V hV) 0,h1.keep ga,h1.keep g0⟩
    clear h3 hst d1 d2 g0 ga hnm hp hnS hnC hin hpb
    go_upto_region 10 with (first
     | (go_at_call 53;go_must (refine CAi.out.mono ?_;clear CAi;rintro e w4 ⟨rfl,hf4⟩;have HF4:Hid (Frm [] W0 w4):=Lib.hid (HF.out.trans hf4);clear hf4)))
    clear e1
    refine wp_region_cq (by kernel_rfl) (by kernel_rfl) ?_
    repeat (first
     | go_big_quiet_skip
     | (refine wpQuiet_want (by rfl) (fun K hK=>?_)
        first
         | (refine quiet_move _ (by rfl) (hK _ ?_))
         | (refine quiet_assign _ (by rfl) (hK _ ?_))
         | (refine cq_call (.int .i64 0) 19 #[.int .i64 0] (fun w' hC=>?_) (fun w' hC=>Ret.cq (CN.out 0 w') (fun w'' h=>hC.trans h)) (hK _ ?_)
            ·go_simp)
         | (apply Exists.intro
            refine⟨fun w' hC=>?_,hK _ ?_⟩
            ·(unfold Oper.quietAt
              obtain⟨⟨z0,z1,z2⟩,z3,z4,z5⟩:=HU.out w' (HF4.out.trans hC)
              clear hC
              go_simp
              try exact⟨rfl,rfl⟩
              try rfl))
        clear hK K
        try simp only[nrm,Act.eval,nrq]))
    refine wpQuiet_nil ?_
    intro w5 hf5
    have HF5:Hid (Frm [] W0 w5):=Lib.hid (HF4.out.trans hf5)
    clear hf5
    go_upto_region 13 with fail
    go_loopw [14] (fun s14 wr=>∃ k:Nat,s14=.int .i64 k∧k≤nC∧Frm [] W0 wr) (fun s14 _=>nC - (intOf s14).toNat)
    case atStart=>exact⟨0,rfl,Nat.zero_le _,HF5.out⟩
    case round =>
     clear HF5 HF4 HF
     obtain⟨k,rfl,hk,hf⟩:=hrel
     have HF:=Lib.hid hf
     clear hf
     obtain⟨wk,hwk⟩:∃ wk,wk=wr:=⟨_,rfl⟩
     subst hwk
     obtain⟨⟨z0,z1,z2⟩,z3,z4,z5⟩:=HU.out wk HF.out
     have hbl:=cell_lt z2
     by_cases hlk:k < nC
     ·have hlk':(k:Int) < (nC:Int):=by omega
      have hkC:k < (s.rol i).ctrs.length:=by rw[HNC.out];exact hlk
      have hc:(s.rol i).ctrs[k]?=some ((s.rol i).ctrs.getD k dC):=some_getD hkC
      obtain⟨b2,o2,rfl,c0,-⟩:=HCA.out.get hc
      have CCk:=Lib.hid (CC.out wk i ((s.rol i).ctrs.getD k dC).name (HW.out _ HF.out) HIN.out)
      rw[ctV_at HOK.out HPK.out HIN.out hc] at CCk
      obtain⟨dv,vv,-,q1,-,gv⟩:=HRO.out.b i HIN.out
      obtain⟨av,kv,rfl⟩:=own_shape gv.1
      have hvl:(x.bank i).length=nC:=(HPK.out.vb i HIN.out).1.trans HNC.out
      obtain⟨g,kg,cug,eg,-,-⟩:=own_block gv.1 (by rw[hvl];omega)
      cases eg
      have q2:=own_at gv.1 (j:=k) (u:=iv ((x.bank i).getD k 0)) (by rw[List.getElem?_map,some_getD (d:=0) (by rw[hvl];exact hlk)];rfl)
      obtain⟨cn,hcn⟩:∃ q,((s.rol i).ctrs.getD k dC).name=q:=⟨_,rfl⟩
      obtain⟨v,hv⟩:∃ q,(x.bank i).getD k 0=q:=⟨_,rfl⟩
      rw[hcn] at c0 CCk
      rw[hv] at q2 CCk
      rw[hvl] at q1
      have HV2:Hid (∀ V,Frm [] W0 V→V.cell? ⟨w.heap.size + 1,1,none⟩=some (.slice (some ⟨bb,0,none⟩) n cb)∧V.cell? ⟨bb,i * 2 + 1,none⟩=some (.slice (some ⟨g,0,none⟩) nC kv)∧V.cell? ⟨g,k,none⟩=some (.int .i64 v)):=Lib.hid fun V hV=>by
       have h1:=HW.out V hV
       exact⟨cell_of (HB2.out V hV) 1,h1.keep q1,h1.keep q2⟩
      have c0':=(HW.out _ HF.out).keep c0
      clear gv q1 q2 c0 hcn hv hvl hc hkC
      go_upto_region 16 with (first
       | (go_at_call 54;go_must (refine CCk.out.mono ?_;clear CCk;rintro e w6 ⟨rfl,hf6⟩;have HF6:Hid (Frm [] W0 w6):=Lib.hid (HF.out.trans hf6);clear hf6)))
      clear z0 z1 z2 z3 z4 z5 c0'
      go_wp2_with (first
       | (go_at_call 19;go_must (refine(CN.out 0 _).mono ?_;rintro e w7 ⟨rfl,hf'⟩;have HF7:Hid (Frm [] W0 w7):=Lib.hid (HF6.out.trans hf');obtain⟨y0,y1,y2⟩:=HV2.out w7 HF7.out;have hgl:=cell_lt y2;have hbl1:=cell_lt y1;clear hf')))
      exact⟨⟨k + 1,congrArg (Value.int .i64) (by omega),hlk,HF7.out⟩,by simp[intOf];omega⟩
     ·have hge:¬ (k:Int) < (nC:Int):=by omega
      go_upto_region 19 with fail
      clear z0 z1 z2 z3 z4 z5 hbl
      go_loopw [17] (fun s17 wr=>∃ k:Nat,s17=.int .i64 k∧k≤n∧Frm [] W0 wr) (fun s17 _=>n - (intOf s17).toNat)
      case atStart=>exact⟨0,rfl,Nat.zero_le _,HF.out⟩
      case round =>
       clear HF
       obtain⟨c,rfl,hc,hf⟩:=hrel
       have HF:=Lib.hid hf
       clear hf
       obtain⟨wc,hwc⟩:∃ wc,wc=wr:=⟨_,rfl⟩
       subst hwc
       have e1:=cell_of (HB1.out wc HF.out) 1
       by_cases hlc:c < n
       ·have hlc':(c:Int) < (n:Int):=by omega
        have hcn:c < s.roles.length:=by rw[HN.out];exact hlc
        by_cases hic:i=c
        ·have CX:=Lib.hid (CHB.out wc i c (HW.out _ HF.out) (by unfold chB;rw[hic];simp))
         have hb1:((i:Int) == (c:Int))=true:=by rw[hic];simp
         have hb2:((i:Int) != (c:Int))=false:=by rw[hic];simp
         clear hcn hic
         go_wp2_with (first
          | (go_at_call 55;go_must (refine CX.out.mono ?_;clear CX;rintro e w6 ⟨rfl,rfl⟩)))
         exact⟨⟨c + 1,congrArg (Value.int .i64) (by omega),hlc,HF.out⟩,by simp[intOf];omega⟩
        ·have CX:=Lib.hid (CH.out wc i c (HW.out _ HF.out) HIN.out hcn hic)
         have hb3:¬ (i:Int)=(c:Int):=by omega
         have hb1:((i:Int) == (c:Int))=false:=by rw[beq_eq_false_iff_ne];exact hb3
         have hb2:((i:Int) != (c:Int))=true:=by rw[bne_iff_ne];exact hb3
         obtain⟨lv,r0,r1,r2,r3⟩:=HRO.out.r i c HIN.out hcn
         obtain⟨cwi,gw⟩:=HRO.out.w i HIN.out
         rw[HN.out] at gw
         obtain⟨L,hL⟩:∃ L,x.way i c=L:=⟨_,rfl⟩
         have hl4:L.length≤64:=by
          have h1:=(HPK.out.wb i c HIN.out hcn).1
          have h2:=HOK.out.k4
          rw[hL] at h1;omega
         rw[hL] at CX r3
         obtain⟨al,cl,rfl,-⟩:=r3.shape
         have HLF:Hid (∀ V,Frm [] W0 V→Lf V (.slice al L.length cl) L):=Lib.hid fun V hV=>r3.frm (HW.out V hV) (by simp)
         obtain⟨l,hl⟩:∃ l,L.length=l:=⟨_,rfl⟩
         rw[hl] at r2 HLF
         have HR:Hid (∀ V,Frm [] W0 V→(V.cell? ⟨w.heap.size + 1,2,none⟩=some (.slice (some ⟨bw,0,none⟩) n cw)∧V.cell? ⟨bw,i,none⟩=some (.slice (some ⟨bi i,0,none⟩) n cwi))∧V.cell? ⟨bi i,c * 3,none⟩=some (.int .i64 s.cls)∧V.cell? ⟨bi i,c * 3 + 1,none⟩=some (.int .i64 s.cap)∧V.cell? ⟨bi i,c * 3 + 2,none⟩=some (.slice al l cl)):=Lib.hid fun V hV=>by
          have h1:=HW.out V hV
          exact⟨⟨cell_of (HB2.out V hV) 2,h1.keep gw⟩,h1.keep r0,h1.keep r1,h1.keep r2⟩
         have HL4:=Lib.hid hl4
         clear hcn hic r0 r1 r2 r3 gw hL hl hl4
         go_wp2_with (first
          | (go_at_call 55;go_must (refine CX.out.mono ?_;clear CX;rintro e w6 ⟨v,rfl,u,rfl,hs6,hf6,-⟩;have HS6:=Lib.hid hs6;have HF6:Hid (Frm [] W0 w6):=Lib.hid (HF.out.trans hf6);clear hs6 hf6))
          | (go_at_call 19;go_must (refine(CN.out 0 _).mono ?_;rintro e w7 ⟨rfl,hf'⟩;have HF7:Hid (Frm [] W0 w7):=Lib.hid (HF6.out.trans hf');have CSM:=Lib.hid (lSame_any u (.slice al l cl) s.cls s.cap L w7 (HS6.out.frm hf' (by simp)) (HLF.out w7 HF7.out) HL4.out);obtain⟨⟨y0,y1⟩,y2,y3,y4⟩:=HR.out w7 HF7.out;have hgl:=cell_lt y2;clear hf'))
          | (go_at_call 89;go_must (refine CSM.out.mono ?_;clear CSM;rintro e w8 ⟨rfl,hf8⟩;have HF8:Hid (Frm [] W0 w8):=Lib.hid (HF7.out.trans hf8);clear hf8)))
         exact⟨⟨c + 1,congrArg (Value.int .i64) (by omega),hlc,HF8.out⟩,by simp[intOf];omega⟩
       ·have hge:¬ (c:Int) < (n:Int):=by omega
        go_wp2
        exact⟨⟨i + 1,congrArg (Value.int .i64) (by omega),hlt,HF.out⟩,by simp[intOf];omega⟩
   ·obtain rfl:i=n:=by omega
    have hge:¬ (i:Int) < (i:Int):=by omega
    clear hlt
    rename_i z0_ z1_
    revert s yb fb sb x B w HOK HPK CA CC CH CHB CL CN ao cap ba bb bw bi ca cb cw W0 HRO HF0 HW KB CK1 fin CF1 w1 w2 w3 w4 z0_ z1_ u8 u12 u13 u14 u15 u16 u17 u18 u19 u49 u50 u51 u52 u53 u54 u55 u56 u57 u58 u59 u60 u61 u62 u63 u64 u65 u66 u67 u68 u69 u70 u71 u72 u73 u74 u75 u76 u77 u78 u79 u80 u81 u82 u83 u84 u85 u86 u87 u88 u89 u90 u91 u92 u93 u94 u95 u96 u97 u98 u99 u100 u101 u102 u103 u104 u105 u106 u107 u108 u109 u110 u111 u112 u113 u114 u115 u116 u117 u118 u119 u120 u121 u122 u123 u124 u125 u126 u127 u128 u129 u130 u131 u132 u133 u134 u135 u136 u137 u138 u139 u140 u141 u142 u143 u144 u145 u146 u147 u148 u149 u150 u151 u152 u153 u154 u155 u156 u157 u158 u159 u160 u161 u162 u163 u164 u165 u166 u167 u168 u169 u170 u171 u172 u173 u174 i wl HF CM h4 HRL HN HB1 HB2 CK2 CF2 hi e1 hge
    exact HP0.out
set_option maxHeartbeats 16000000 in
set_option maxRecDepth 100000 in
theorem lAgreesT:lAgreesS.1:=by
 intro s yb fb sb x B w HOK HPK CA CC CH CHB CL CN ao cap ba bb bw bi ca cb cw W0 HRO HF0 HW KB CK1 fin CF1 w1 w2 w3 w4 _ _ u8 u12 u13 u14 u15 u16 u17 u18 u19 u49 u50 u51 u52 u53 u54 u55 u56 u57 u58 u59 u60 u61 u62 u63 u64 u65 u66 u67 u68 u69 u70 u71 u72 u73 u74 u75 u76 u77 u78 u79 u80 u81 u82 u83 u84 u85 u86 u87 u88 u89 u90 u91 u92 u93 u94 u95 u96 u97 u98 u99 u100 u101 u102 u103 u104 u105 u106 u107 u108 u109 u110 u111 u112 u113 u114 u115 u116 u117 u118 u119 u120 u121 u122 u123 u124 u125 u126 u127 u128 u129 u130 u131 u132 u133 u134 u135 u136 u137 u138 u139 u140 u141 u142 u143 u144 u145 u146 u147 u148 u149 u150 u151 u152 u153 u154 u155 u156 u157 u158 u159 u160 u161 u162 u163 u164 u165 u166 u167 u168 u169 u170 u171 u172 u173 u174 i wl HF CM h4 HRL HN HB1 HB2 CK2 CF2 hi e1 hge
 have hm5:(movesP s x).length≤5000:=by
  have h1:=stepsMv_len HOK.out HPK.out (Nat.le_refl _)
  have h2:=losesMv_len (x:=x) HOK.out (Nat.le_refl s.roles.length)
  unfold movesP
  rw[List.length_append];omega
 obtain⟨ML,hML⟩:∃ ML,movesP s x=ML:=⟨_,rfl⟩
 rw[hML] at CM CL hm5
 go_upto_region 26 with (first
  | (refine wpList_load_whole rfl 25 _ rfl _ rfl _ 25 (HB1.out _ HF.out) _ Tryz.underlying25 rfl (by kernel_rfl) ?_)
  | (refine wpList_load_whole rfl 35 _ rfl _ rfl _ 35 (HB2.out _ HF.out) _ Tryz.underlying35 rfl (by kernel_rfl) ?_)
  | (go_at_call 17;go_must (refine(CM.out _ (HW.out _ HF.out)).mono ?_;rintro e w2 ⟨v,rfl,ha2,hf2⟩;obtain⟨am,km,rfl⟩:=ha2.shape;have HA2:=Lib.hid ha2;have HF2:Hid (Frm [] W0 w2):=Lib.hid (HF.out.trans hf2);clear ha2 hf2))
  | (go_at_call 23;go_must (refine(CL.out _ (HW.out _ HF2.out)).mono ?_;rintro e w3 ⟨v,rfl,al,kl,rfl,ha3,hf3⟩;have HA3:=Lib.hid ha3;have HA2n:Hid (Arr 4 MvAt w3 (.slice am ML.length km) ML):=Lib.hid (HA2.out.frm fun _ _ _ h=>MvAt.frm h hf3);have HF3:Hid (Frm [] W0 w3):=Lib.hid (HF2.out.trans hf3);clear ha3 hf3)))
 clear e1
 obtain⟨m,hm⟩:∃ m,ML.length=m:=⟨_,rfl⟩
 have HM:=Lib.hid hm
 rw[hm] at HA3 HA2n hm5 ⊢
 clear hm HA2
 go_upto_region 29 with fail
 go_loopw [23] (fun s23 wr=>∃ k:Nat,s23=.int .i64 k∧k≤m∧Frm [] w3 wr) (fun s23 _=>m - (intOf s23).toNat)
 case atStart=>exact⟨0,rfl,Nat.zero_le _,Frm.refl _ _⟩
 case round =>
  obtain⟨k,rfl,hk,hf⟩:=hrel
  have HFk:=Lib.hid hf
  clear hf
  by_cases hlk:k < m
  ·have hlk':(k:Int) < (m:Int):=by omega
   obtain⟨mv,hmv⟩:∃ mv,ML[k]?=some mv:=⟨_,List.getElem?_eq_getElem (by rw[HM.out];exact hlk)⟩
   obtain⟨ga,oa,rfl,q1⟩:=HA2n.out.get hmv
   obtain⟨gb,ob,rfl,q2⟩:=HA3.out.get hmv
   obtain⟨mk,mr,ms,mp⟩:=mv
   have HU:Hid (∀ V,Frm [] wr V→MvAt V ga (oa + k * 4) ⟨mk,mr,ms,mp⟩∧MvAt V gb (ob + k * 4) ⟨mk,mr,ms,mp⟩):=Lib.hid fun V hV=>⟨q1.frm (HFk.out.trans hV),q2.frm (HFk.out.trans hV)⟩
   clear q1 q2 hmv
   go_upto_region 31 with fail
   refine wp_region_cq (by kernel_rfl) (by kernel_rfl) ?_
   repeat (first
    | go_big_quiet_skip
    | (refine wpQuiet_want (by rfl) (fun K hK=>?_)
       first
        | (refine quiet_move _ (by rfl) (hK _ ?_))
        | (refine quiet_assign _ (by rfl) (hK _ ?_))
        | (apply Exists.intro
           refine⟨fun w' hC=>?_,hK _ ?_⟩
           ·(unfold Oper.quietAt
             obtain⟨⟨z0,z1,z2,z3⟩,y0,y1,y2,y3⟩:=HU.out w' hC
             clear hC
             go_simp
             try exact⟨rfl,rfl⟩
             try rfl))
       clear hK K
       try simp only[nrm,Act.eval,nrq]))
   refine wpQuiet_nil ?_
   intro w4 hf4
   have HF4:=Lib.hid (HFk.out.trans hf4)
   clear hf4
   go_wp2
   exact⟨⟨k + 1,congrArg (Value.int .i64) (by omega),hlk,HF4.out⟩,by simp[intOf];omega⟩
  ·have hgk:¬ (k:Int) < (m:Int):=by omega
   go_wp2
   go_ret
   exact⟨rfl,(HW.out _ HF3.out).trans HFk.out⟩
theorem lAgrees_any (s:SesD) (yb fb sb:Nat) (x:PS) (sv xv:Value) (B:Nat) (w:World) (h:SyR w s yb fb) (hx:StR w s yb sb x) (hs:SesV w sv s) (hr:RSt B w s xv x):Calls Tryz.prog 28 #[.pointer (some ⟨yb,0,none⟩),sv,.pointer (some ⟨sb,0,none⟩),xv] w (Ret (.bool true) (Frm [] w)):=lAgreesS.2 lAgreesT s yb fb sb x sv xv B w h hx hs hr
end Go.Proofs.YtkphhjekfimmlaaGreat
