/- Part of the proof. -/
import Derived.Test.YtkphhjekfimmlaaGreatG50
import Derived.Test.YtkphhjekfimmlaaGreatG49
import Derived.Test.YtkphhjekfimmlaaGreatG51
set_option linter.all false
namespace Go.Proofs.YtkphhjekfimmlaaGreat
open Go.RowKit Go.BigFrame
attribute [local go_sem] Oper.semAt_some
set_option maxHeartbeats 0 in
set_option maxRecDepth 100000 in
theorem loops_any (v cv:Value) (s:SesD) (cs:List UInt8) (many:Int) (w:World) (h:SesV w v s) (hw:WfS s) (hb:Byts w cv cs):Calls Tryz.prog 3 #[v,cv,.int .i64 many] w (Ret (.bool true) (Frm [] w)):=by
 have HSV:=Lib.hid h;have HBY:=Lib.hid hb
 obtain⟨rv,rfl,hr⟩:=h
 obtain⟨ao,cap,rfl⟩:=hr.shape
 obtain⟨ca0,cc0,rfl,-⟩:=hb.len
 obtain⟨n,hn⟩:∃ n,s.roles.length=n:=⟨_,rfl⟩
 obtain⟨cl,hcl⟩:∃ n,cs.length=n:=⟨_,rfl⟩
 have HN:=Lib.hid hn;have HCL:=Lib.hid hcl
 rw[hn] at HSV ⊢
 rw[hcl] at HBY ⊢
 obtain⟨W0,hW0⟩:∃ W0,((w.alloc (.cells #[.string s.name,.slice ao n cap,.int .i64 s.cls,.int .i64 s.cap] 25)).alloc (.cells #[.int .i64 many] 3)).alloc (.cells #[.bool false] 4)=W0:=⟨_,rfl⟩
 have hf0:Frm [] w W0:=by rw[← hW0];exact(((Frm.refl _ _).alloc _).alloc _).alloc _
 have HF0:=Lib.hid hf0
 have hb0:W0.heap[w.heap.size]?=some (.cells #[.string s.name,.slice ao n cap,.int .i64 s.cls,.int .i64 s.cap] 25 (0,0)):=by rw[← hW0];exact alloc_at (alloc_at (heap_alloc_new _ _))
 have hb1:W0.heap[w.heap.size + 1]?=some (.cells #[.int .i64 many] 3 (0,0)):=by rw[← hW0];exact alloc_at (alloc_top (by simp))
 have hb2:W0.heap[w.heap.size + 2]?=some (.cells #[.bool false] 4 (0,0)):=by rw[← hW0];exact alloc_top (by simp)
 have HB0:=Lib.hid (fun V (hV:Frm [] W0 V)=>hV.at hb0 (by simp))
 have HB1:=Lib.hid (fun V (hV:Frm [] W0 V)=>hV.at hb1 (by simp))
 have HB2:=Lib.hid (fun V (hV:Frm [] W0 V)=>hV.at hb2 (by simp))
 have CA:=Lib.hid (lAllowed_any _ s W0 (HSV.out.frm hf0) hw)
 have CK:Hid (∀ V,Calls Tryz.prog 14 #[] V (Ret (.bool true) (Frm [] V))):=Lib.hid known33_any
 have HWF:=Lib.hid hw
 obtain⟨al,hal⟩:∃ b,allowedB s=b:=⟨_,rfl⟩
 rw[hal] at CA
 have HAL:=Lib.hid hal
 have HE:=Lib.hid hW0
 have CE:Hid (∀ W9,Frm [] W0 W9→∀ (fn:Func) (tmps:Array Value),fn.results=#[.cell 6 4]→tmps.getD 6 undef=.pointer (some ⟨w.heap.size + 2,0,none⟩)→LeavesInM Fence.wide 3 Tryz.prog fn tmps (Ret (.bool true) (Frm [] w)) [] .returning (W9.setCell ⟨w.heap.size + 2,0,none⟩ (.bool true))):=Lib.hid fun W9 h9 fn tmps hf ht=>by
  have hs:=h9.at hb2 (by simp)
  have hc:=cell_of (block_setCell hs 0 (.bool true)) 0
  have hf8:Frm [] w (W9.setCell ⟨w.heap.size + 2,0,none⟩ (.bool true)):=(hf0.trans h9).setCell _ (.inr (by simp)) _
  generalize W9.setCell ⟨w.heap.size + 2,0,none⟩ (.bool true)=Wf at hc hf8 ⊢
  refine leaves_none ⟨.bool true,?_,rfl,hf8⟩
  have ht':tmps[6]?.getD undef=.pointer (some ⟨w.heap.size + 2,0,none⟩):=by simpa using ht
  simp at hc
  simp[results,hf,go_sem,hc,ht']
 clear hr hw hn hcl hf0 hW0 hal hb hb0 hb1 hb2
 refine calls_of_marks Tryz.func3 rfl ?_
 simp only[Tryz.ntmps3,List.size_toArray,List.length_cons,List.length_nil,Nat.reduceAdd,Nat.reduceSub,Array.replicate_succ,Array.replicate_zero,List.push_toArray,List.append_toArray,List.nil_append,List.cons_append]
 go_upto_region 1 with fail
 rw[HE.out]
 clear HE
 cases al with
 | false =>
   go_wp2_with (first
    | (refine wpList_load_whole rfl 25 _ rfl _ rfl _ 25 (HB0.out _ (Frm.refl _ _)) _ Tryz.underlying25 rfl (by kernel_rfl) ?_)
    | (go_at_call 13;go_must (refine CA.out.mono ?_;rintro e w1 ⟨rfl,hf1⟩;have HF1:=Lib.hid hf1;clear hf1))
    | (go_at_call 14;go_must (refine(CK.out _).mono ?_;rintro e wk ⟨rfl,hf'⟩;have HFK:=Lib.hid (HF1.out.trans hf');have c6:=cell_of (HB2.out _ HFK.out) 0;have f6:=free_of (HB2.out _ HFK.out) 0;clear hf')))
   exact CE.out _ HFK.out _ _ rfl rfl
 | true =>
   obtain⟨hsm,hck⟩:=allowed_parts HWF.out HAL.out
   have HSM:=Lib.hid hsm;have HCK:=Lib.hid hck;have HOK:=Lib.hid (ses_ok hck)
   clear hsm hck
   by_cases hks:40 < cl
   ·have hks':(40:Int) < (cl:Int):=by omega
    have hksb:decide ((40:Int) < (cl:Int))=true:=decide_eq_true hks'
    go_wp2_with (first
     | (refine wpList_load_whole rfl 25 _ rfl _ rfl _ 25 (HB0.out _ (Frm.refl _ _)) _ Tryz.underlying25 rfl (by kernel_rfl) ?_)
     | (go_at_call 13;go_must (refine CA.out.mono ?_;rintro e w1 ⟨rfl,hf1⟩;have HF1:=Lib.hid hf1;clear hf1))
     | (go_at_call 14;go_must (refine(CK.out _).mono ?_;rintro e wk ⟨rfl,hf'⟩;have HFK:=Lib.hid (HF1.out.trans hf');have c6:=cell_of (HB2.out _ HFK.out) 0;have f6:=free_of (HB2.out _ HFK.out) 0;clear hf')))
    exact CE.out _ HFK.out _ _ rfl rfl
   ·have hks':¬ (40:Int) < (cl:Int):=by omega
    have hksb:decide ((40:Int) < (cl:Int))=false:=decide_eq_false hks'
    have HK4:Hid (cs.length≤40):=Lib.hid (by rw[HCL.out];omega)
    go_upto_region 4 with (first
     | (refine wpList_load_whole rfl 25 _ rfl _ rfl _ 25 (HB0.out _ (Frm.refl _ _)) _ Tryz.underlying25 rfl (by kernel_rfl) ?_)
     | (refine wpList_load_whole rfl 25 _ rfl _ rfl _ 25 (HB0.out _ HF1.out) _ Tryz.underlying25 rfl (by kernel_rfl) ?_)
     | (go_at_call 13;go_must (refine CA.out.mono ?_;rintro e w1 ⟨rfl,hf1⟩;have HF1:=Lib.hid hf1;clear hf1))
     | (go_at_call 15;go_must (refine(walked_any _ _ s cs _ (HSV.out.frm (HF0.out.trans HF1.out)) (HBY.out.frm0 (HF0.out.trans HF1.out)) HSM.out HCK.out HK4.out).mono ?_;rintro e w2 ⟨u,rfl,yb,fb,sb,rv',x,rfl,-,hsy,hst,hrs,hf2⟩;obtain⟨ba,bb,bw,bi,ca,cb,cw,rfl,-⟩:=id hrs.out;have HSY:=Lib.hid hsy;have HST:=Lib.hid hst;have HRS:=Lib.hid hrs;have HF2:Hid (Frm [] W0 w2):=Lib.hid (HF1.out.trans hf2);clear hsy hst hrs hf2;rw[HN.out]))
     | (refine wpList_store_row rfl 35 _ _ rfl _ _ _ _ rfl rfl (heap_alloc_new _ _) rfl (by kernel_rfl) (one3v ..) ?_;intro w3 hb3 hf3;have HB9:=Lib.hid hb3;have HF23:=Lib.hid (((Frm.refl [] w2).alloc _).then hf3 (by intro q hq;simp at hq;subst hq;exact .inr (Nat.le_refl _)));clear hb3 hf3))
    clear hks hks' hksb
    rw[HN.out] at HRS
    have HRK:=Lib.hid HRS.out.ok
    have HSY3:=Lib.hid (HSY.out.frm HF23.out);have HST3:=Lib.hid (HST.out.frm HF23.out);have HRS3:=Lib.hid (HRS.out.frm HF23.out)
    have HF3:Hid (Frm [] W0 w3):=Lib.hid (HF2.out.trans HF23.out)
    clear HSY HST HRS HF2
    have CM:=Lib.hid (pMoves_any s yb fb sb x w3 HSY3.out HST3.out)
    have hnf:=fun W f lb=>run_eql_func (P:=Tryz.prog) W 39 #[213] #[] false f lb Tryz.underlying39
    go_upto_region 7 with (go_at_call 16;go_must (refine CM.out.mono ?_;rintro e w4 ⟨v,rfl,B,u,rfl,hi,hf,hB⟩;have HI:=Lib.hid hi;have HF34:=Lib.hid hf;clear hi hf CM))
    have HB94:=Lib.hid (HF34.out.at HB9.out (by simp))
    have HF4:Hid (Frm [] W0 w4):=Lib.hid (HF3.out.trans HF34.out)
    have CQ:=Lib.hid (qMoves_any s _ _ x _ w4 (HSV.out.frm (HF0.out.trans HF4.out)) (HRS3.out.frm HF34.out) HOK.out)
    clear HB9 HSY3 HST3 HRS3
    go_upto_region 10 with (first
     | (refine wpList_load_whole rfl 25 _ rfl _ rfl _ 25 (HB0.out _ HF4.out) _ Tryz.underlying25 rfl (by kernel_rfl) ?_)
     | (refine wpList_load_whole rfl 35 _ rfl _ rfl _ 35 HB94.out _ Tryz.underlying35 rfl (by kernel_rfl) ?_)
     | (go_at_call 17;go_must (refine CQ.out.mono ?_;rintro e w5 ⟨u',rfl,hal,hf5⟩;obtain⟨aw,cw,rfl⟩:=hal.shape;have HWS:=Lib.hid hal;have HF45:=Lib.hid hf5;clear hal hf5 CQ)))
    go_upto_region 11 with fail
    have HM5:=Lib.hid (moves_len HOK.out HRK.out)
    obtain⟨L,hL⟩:∃ L,movesP s x=L:=⟨_,rfl⟩
    rw[hL] at HI HWS HM5 ⊢
    clear hL
    obtain⟨M,hM⟩:∃ M,L.length=M:=⟨_,rfl⟩
    have HML:=Lib.hid hM
    have HF5:Hid (Frm [] W0 w5):=Lib.hid (HF4.out.trans HF45.out)
    have HX:Hid (TF w L B u w5.heap.size aw cw many (w5.heap.size + 1) 0 ((w5.alloc (.cells #[.slice aw L.length cw] 41)).alloc (.cells #[.int .i64 0] 3))):=Lib.hid (by
     have hf:Frm [] w5 ((w5.alloc (.cells #[.slice aw L.length cw] 41)).alloc (.cells #[.int .i64 0] 3)):=((Frm.refl [] w5).alloc _).alloc _
     exact⟨HF0.out.trans (HF5.out.trans hf),(HI.out.frm HF45.out).frm hf,alloc_at (alloc_top rfl),HWS.out.frm fun _ _ _ h=>h.frm hf,HB1.out _ (HF5.out.trans hf),HB2.out _ (HF5.out.trans hf),alloc_top (by simp)⟩)
    have HIT:=Lib.hid (mv_iter B u L (by have:=HM5.out;omega))
    have HWL:Hid (w.heap.size + 2 < w5.heap.size):=Lib.hid (by have:=lt_of_block (HB2.out _ HF5.out);omega)
    rw[hM] at HX ⊢
    clear hM HI HWS HF45 HF34 HF4 HF3 HF23 HB94 hB hnf
    obtain⟨W,hW⟩:∃ W,W=(w5.alloc (.cells #[.slice aw M cw] 41)).alloc (.cells #[.int .i64 0] 3):=⟨_,rfl⟩
    obtain⟨bw,hbw⟩:∃ b,b=w5.heap.size:=⟨_,rfl⟩
    have HWL2:Hid (w.heap.size + 2 < W.heap.size):=Lib.hid (by rw[hW];simp;have:=HWL.out;omega)
    rw[← hW,← hbw] at HX ⊢
    obtain⟨bt,hbt⟩:∃ b,b=bw + 1:=⟨_,rfl⟩
    rw[← hbt] at HX ⊢
    clear hW hbw hbt HWL HF5
    have HWL:=HWL2
    clear HWL2
    refine wp_loop_rounds 3 ?_
    rw[rounds_succ]
    have c13:=cell_of HX.out.tb 0
    go_wp2
    refine wp_rangeList rfl (enters_of Tryz.func110 (by kernel_rfl) rfl) HIT.out (fun _=>rfl)
     (TurnI W 0 many) (TurnX (.exit 2) W 0 many) (fun _ _ _ h hb=>h.bk hb (by simp)) (fun _ _ _ _ h hb=>h.bk hb (by simp)) (fun _ _ h=>(h.tf HX.out).it) (TurnI.start W 0 many) ?_ ?_ ?_
    ·intro l pre x rest Wr hxs hI hl hlr
     obtain⟨hy,hpl⟩:=numL_pre hxs
     obtain⟨yi,ym⟩:=x
     simp only at hy
     subst hy
     have hLk:L[pre.length]?=some ym:=by
      have h0:(numL L)[pre.length]?=some (pre.length,ym):=by rw[hxs];simp
      rw[numL_at] at h0
      cases hz:L[pre.length]? with
      | none=>rw[hz] at h0;simp at h0
      | some z=>rw[hz] at h0;simp at h0;first | rw[h0] | skip
     have hqM:pre.length < M:=by rw[← HML.out];exact lt_of_some hLk
     have hM5:M≤5000:=by rw[← HML.out];exact HM5.out
     have HI:=Lib.hid hI
     clear hI hlr hl hxs c13 hpl
     gi_wp2
     refine⟨KB.frm0 ((Frm.refl [] Wr).alloc _),fun Wq hbk _=>?_⟩
     have hcv:Wq.heap[Wr.heap.size]?=some (.cells #[.int .i64 ym.kind,.int .i64 ym.role,.int .i64 ym.step,.int .i64 ym.place] 45 (0,0)):=hbk.at (heap_alloc_new Wr _) rfl
     have HI1:TurnI W 0 many pre (Wr.alloc (.cells #[.int .i64 ym.kind,.int .i64 ym.role,.int .i64 ym.step,.int .i64 ym.place] 45)):=⟨HI.out.fr.alloc _,alloc_at HI.out.kb,HI.out.go⟩
     have HI2:=Lib.hid (HI1.bk hbk (by have:=HI.out.fr.size;simp <;> omega))
     have HT2:=Lib.hid (HI2.out.tf HX.out)
     have y0:=cell_of hcv 0
     have y1:=cell_of hcv 1
     have y2:=cell_of hcv 2
     have y3:=cell_of hcv 3
     have c12:=cell_of HT2.out.wt 0
     obtain⟨ab,ao1,e1,hm1⟩:=HT2.out.ws.get hLk
     subst e1
     obtain⟨m0,m1,m2,m3⟩:=hm1
     have c14:=cell_of HI2.out.kb 0
     rw[HML.out] at c12
     try dsimp only at m0 m1 m2 m3
     have hk1:(pre.length:Int) < (M:Int):=by omega
     have hk2:¬ (M:Int)≤(pre.length:Int):=by omega
     have hk3:decide ((M:Int)≤(pre.length:Int))=false:=decide_eq_false hk2
     have hk4:¬ M≤pre.length:=by omega
     have hk5:decide (M≤pre.length)=false:=decide_eq_false hk4
     clear hbk hcv HI1 HI hLk
     gi_wp2
     refine wpIn_region_quiet_r (by kernel_rfl) (by kernel_rfl) (by kernel_rfl) ?_
     repeat (gi_big_quiet_step (fail))
     refine wpQuietIn_nil ?_
     intro _ hw'
     obtain⟨nq,hw''⟩:=hw'
     subst hw''
     clear c12 c14 y0 y1 y2 y3 m0 m1 m2 m3
     have hfn:Frm [] Wq (Wq.drewN nq):=(Frm.refl _ _).drewN nq
     obtain⟨Wn,hWn⟩:∃ X,Wq.drewN nq=X:=⟨_,rfl⟩
     rw[hWn] at hfn ⊢
     have HI3:Hid (TurnI W 0 many pre Wn):=Lib.hid ⟨HI2.out.fr.trans (hfn.mono (by simp)),hfn.at HI2.out.kb (by simp),HI2.out.go⟩
     have HT3:=Lib.hid (HI3.out.tf HX.out)
     have c14:=cell_of HI3.out.kb 0
     have f14:=free_of HI3.out.kb 0
     have c13:=cell_of HT3.out.tb 0
     obtain⟨kb3,fr3,k3⟩:=step_frm HI3.out (pre.length,ym) (k:=(pre.length:Int) + 1) rfl
     have HT4:=Lib.hid (HX.out.frm fr3 (by simp))
     have HKB:=Lib.hid ((KB.frm0 hfn).trans kb3);have HFR:=Lib.hid fr3;have HK3:=Lib.hid k3
     have s13:=cell_of HT4.out.tb 0
     have smb:=cell_of HT4.out.mb 0
     have s14:=cell_of k3 0
     have hwk:wrap64 ((pre.length:Int) + 1)=(pre.length:Int) + 1:=by unfold wrap64;omega
     simp only[stepW,List.length_append,List.length_cons,List.length_nil] at s13 smb s14
     clear kb3 fr3 k3 hfn hWn
     have hgo:=Lib.hid (HI3.out.go rfl)
     rcases Int.lt_or_le ((pre.length:Int) + 1) many with hm | hm
     ·gi_wp2
      exact⟨HKB.out,HFR.out,HK3.out,fun _=>.inr (by simp;omega)⟩
     ·gi_wp2
      refine⟨HKB.out,rfl,HFR.out,HK3.out,rfl,?_⟩
      have:=hgo.out
      simp
      rcases this with h | h
      ·subst h;simp at hm ⊢;omega
      ·omega
    ·intro D1 Va hD hI hK
     have HX3a:=Lib.hid (hI.tf HX.out)
     have hkb:=hI.kb
     rw[numL_length,HML.out] at hkb
     have hgo:=hI.go rfl
     have hmin2:min (M:Int) (max 1 many)=(M:Int):=by
      rcases hgo with h | h
      ·have h1:=HML.out
       have h2:(numL L).length=0:=by rw[h];rfl
       rw[numL_length,h1] at h2
       omega
      ·rw[numL_length,HML.out] at h;omega
     obtain⟨kk,hkk⟩:∃ kk:Int,kk=(M:Int):=⟨_,rfl⟩
     have hmin3:min (M:Int) (max 1 many)=kk:=by rw[hmin2,hkk]
     rw[← hkk] at hkb
     have HDa:=Lib.hid (show W.heap.size + 1≤D1 by simpa using hD);have HKa:=Lib.hid hK;have HKBa:=Lib.hid hkb
     clear hD hI hK hkb hgo hmin2 hkk c13
     have c13:=cell_of HX3a.out.tb 0
     have c14:=cell_of HKBa.out 0
     have cmb:=cell_of HX3a.out.mb 0
     have cwt:=cell_of HX3a.out.wt 0
     rw[HML.out] at cwt
     go_wp2
     obtain⟨Wb,hWb⟩:∃ Wb,Wb=Va.alloc (.cells #[.int .i64 1] 3):=⟨_,rfl⟩
     obtain⟨bb,hbb⟩:∃ b,b=Va.heap.size:=⟨_,rfl⟩
     have HXb:Hid (TF w L B u bw aw cw many bb 1 Wb):=Lib.hid (by
      have h:=HX3a.out.frm ((Frm.refl [] Va).alloc (.cells #[.int .i64 1] 3)) (by simp)
      rw[hWb,hbb]
      exact⟨h.old,h.it,h.wt,h.ws,h.mb,h.rs,alloc_top rfl⟩)
     have HP:Hid (Wb.heap[D1]?=some (.deferred (some []))):=Lib.hid (by rw[hWb];exact alloc_at HKa.out)
     have HL:Hid (w.heap.size + 3≤D1):=Lib.hid (by have:=HDa.out;have:=HWL.out;omega)
     have HLD:Hid (D1 < Wb.heap.size):=Lib.hid (lt_of_block HP.out)
     rw[← hWb,← hbb]
     clear hWb hbb HX3a HKa HKBa HDa c13 c14 cmb cwt hmin3
     rw[rounds_succ]
     have c13:=cell_of HXb.out.tb 0
     go_wp2
     refine wp_rangeList rfl (enters_of Tryz.func110 (by kernel_rfl) rfl) HIT.out (fun _=>rfl)
      (TurnI Wb 1 many) (TurnX (.exit 2) Wb 1 many) (fun _ _ _ h hb=>h.bk hb (by simp)) (fun _ _ _ _ h hb=>h.bk hb (by simp)) (fun _ _ h=>(h.tf HXb.out).it) (TurnI.start Wb 1 many) ?_ ?_ ?_
     ·intro l pre x rest Wr hxs hI hl hlr
      obtain⟨hy,hpl⟩:=numL_pre hxs
      obtain⟨yi,ym⟩:=x
      simp only at hy
      subst hy
      have hLk:L[pre.length]?=some ym:=by
       have h0:(numL L)[pre.length]?=some (pre.length,ym):=by rw[hxs];simp
       rw[numL_at] at h0
       cases hz:L[pre.length]? with
       | none=>rw[hz] at h0;simp at h0
       | some z=>rw[hz] at h0;simp at h0;first | rw[h0] | skip
      have hqM:pre.length < M:=by rw[← HML.out];exact lt_of_some hLk
      have hM5:M≤5000:=by rw[← HML.out];exact HM5.out
      have HI:=Lib.hid hI
      clear hI hlr hl hxs c13 hpl
      gi_wp2
      refine⟨KB.frm0 ((Frm.refl [] Wr).alloc _),fun Wq hbk _=>?_⟩
      have hcv:Wq.heap[Wr.heap.size]?=some (.cells #[.int .i64 ym.kind,.int .i64 ym.role,.int .i64 ym.step,.int .i64 ym.place] 45 (0,0)):=hbk.at (heap_alloc_new Wr _) rfl
      have HI1:TurnI Wb 1 many pre (Wr.alloc (.cells #[.int .i64 ym.kind,.int .i64 ym.role,.int .i64 ym.step,.int .i64 ym.place] 45)):=⟨HI.out.fr.alloc _,alloc_at HI.out.kb,HI.out.go⟩
      have HI2:=Lib.hid (HI1.bk hbk (by have:=HI.out.fr.size;simp <;> omega))
      have HT2:=Lib.hid (HI2.out.tf HXb.out)
      have y0:=cell_of hcv 0
      have y1:=cell_of hcv 1
      have y2:=cell_of hcv 2
      have y3:=cell_of hcv 3
      have c12:=cell_of HT2.out.wt 0
      obtain⟨ab,ao1,e1,hm1⟩:=HT2.out.ws.get hLk
      subst e1
      obtain⟨m0,m1,m2,m3⟩:=hm1
      have c14:=cell_of HI2.out.kb 0
      rw[HML.out] at c12
      try dsimp only at m0 m1 m2 m3
      have hk1:(pre.length:Int) < (M:Int):=by omega
      have hk2:¬ (M:Int)≤(pre.length:Int):=by omega
      have hk3:decide ((M:Int)≤(pre.length:Int))=false:=decide_eq_false hk2
      have hk4:¬ M≤pre.length:=by omega
      have hk5:decide (M≤pre.length)=false:=decide_eq_false hk4
      clear hbk hcv HI1 HI hLk
      gi_wp2
      refine wpIn_region_quiet_r (by kernel_rfl) (by kernel_rfl) (by kernel_rfl) ?_
      repeat (gi_big_quiet_step (fail))
      refine wpQuietIn_nil ?_
      intro _ hw'
      obtain⟨nq,hw''⟩:=hw'
      subst hw''
      clear c12 c14 y0 y1 y2 y3 m0 m1 m2 m3
      have hfn:Frm [] Wq (Wq.drewN nq):=(Frm.refl _ _).drewN nq
      obtain⟨Wn,hWn⟩:∃ X,Wq.drewN nq=X:=⟨_,rfl⟩
      rw[hWn] at hfn ⊢
      have HI3:Hid (TurnI Wb 1 many pre Wn):=Lib.hid ⟨HI2.out.fr.trans (hfn.mono (by simp)),hfn.at HI2.out.kb (by simp),HI2.out.go⟩
      have HT3:=Lib.hid (HI3.out.tf HXb.out)
      have c14:=cell_of HI3.out.kb 0
      have f14:=free_of HI3.out.kb 0
      have c13:=cell_of HT3.out.tb 0
      obtain⟨kb3,fr3,k3⟩:=step_frm HI3.out (pre.length,ym) (k:=(pre.length:Int) + 1) rfl
      have HT4:=Lib.hid (HXb.out.frm fr3 (by simp))
      have HKB:=Lib.hid ((KB.frm0 hfn).trans kb3);have HFR:=Lib.hid fr3;have HK3:=Lib.hid k3
      have s13:=cell_of HT4.out.tb 0
      have smb:=cell_of HT4.out.mb 0
      have s14:=cell_of k3 0
      have hwk:wrap64 ((pre.length:Int) + 1)=(pre.length:Int) + 1:=by unfold wrap64;omega
      simp only[stepW,List.length_append,List.length_cons,List.length_nil] at s13 smb s14
      clear kb3 fr3 k3 hfn hWn
      gi_wp2
      exact⟨HKB.out,HFR.out,HK3.out,fun h=>by omega⟩
     ·intro D2 Vb hD hI hK
      have HX3b:=Lib.hid (hI.tf HXb.out)
      have hkb:=hI.kb
      rw[numL_length,HML.out] at hkb
      have HDb:=Lib.hid (show Wb.heap.size + 1≤D2 by simpa using hD);have HKb:=Lib.hid hK;have HKBb:=Lib.hid hkb
      have HPb:Hid (Vb.heap[D1]?=some (.deferred (some []))):=Lib.hid (hI.fr.at HP.out (by simp;have:=HLD.out;omega))
      clear hD hI hK hkb c13
      have c13:=cell_of HX3b.out.tb 0
      have c14:=cell_of HKBb.out 0
      have cmb:=cell_of HX3b.out.mb 0
      have cwt:=cell_of HX3b.out.wt 0
      rw[HML.out] at cwt
      go_wp2
      rw[rounds_succ]
      go_wp2_with (go_at_call 14;go_must (refine(CK.out _).mono ?_;rintro e w9 ⟨rfl,hf⟩;have HF9:=Lib.hid hf;have c4:=cell_of (hf.at (alloc_at HX3b.out.rs) (by simp)) 0;have f4:=free_of (hf.at (alloc_at HX3b.out.rs) (by simp)) 0;clear hf))
      exact loops_end rfl rfl HX3b.out HF9.out HPb.out HKb.out HL.out HLD.out HDb.out
     ·intro D2 c pre x rest Vb hxs hD hX hK
      exact absurd hX.tz (by decide)
    ·intro D1 c pre x rest Va hxs hD hX hK
     obtain rfl:=hX.co
     have HX3a:=Lib.hid (hX.tf HX.out)
     have hpl:pre.length + 1≤M:=by rw[← HML.out,← numL_length (L:=L),hxs];simp
     have hkb:=hX.kb
     have hmxx:=hX.mx
     obtain⟨kk,hkk⟩:∃ kk:Int,((pre ++ [(x:Nat × Mv)]).length:Int)=kk:=⟨_,rfl⟩
     rw[hkk] at hkb hmxx
     have hle:kk≤(M:Int):=by rw[← hkk];simp;omega
     have hmin3:min (M:Int) (max 1 many)=kk:=by rw[← hmxx];omega
     have HDa:=Lib.hid (show W.heap.size + 1≤D1 by simpa using hD);have HKa:=Lib.hid hK;have HKBa:=Lib.hid hkb
     clear hD hX hK hkb hmxx hle hkk hpl hxs c13
     have c13:=cell_of HX3a.out.tb 0
     have c14:=cell_of HKBa.out 0
     have cmb:=cell_of HX3a.out.mb 0
     have cwt:=cell_of HX3a.out.wt 0
     rw[HML.out] at cwt
     go_wp2
     obtain⟨Wb,hWb⟩:∃ Wb,Wb=Va.alloc (.cells #[.int .i64 1] 3):=⟨_,rfl⟩
     obtain⟨bb,hbb⟩:∃ b,b=Va.heap.size:=⟨_,rfl⟩
     have HXb:Hid (TF w L B u bw aw cw many bb 1 Wb):=Lib.hid (by
      have h:=HX3a.out.frm ((Frm.refl [] Va).alloc (.cells #[.int .i64 1] 3)) (by simp)
      rw[hWb,hbb]
      exact⟨h.old,h.it,h.wt,h.ws,h.mb,h.rs,alloc_top rfl⟩)
     have HP:Hid (Wb.heap[D1]?=some (.deferred (some []))):=Lib.hid (by rw[hWb];exact alloc_at HKa.out)
     have HL:Hid (w.heap.size + 3≤D1):=Lib.hid (by have:=HDa.out;have:=HWL.out;omega)
     have HLD:Hid (D1 < Wb.heap.size):=Lib.hid (lt_of_block HP.out)
     rw[← hWb,← hbb]
     clear hWb hbb HX3a HKa HKBa HDa c13 c14 cmb cwt hmin3
     rw[rounds_succ]
     have c13:=cell_of HXb.out.tb 0
     go_wp2
     refine wp_rangeList rfl (enters_of Tryz.func110 (by kernel_rfl) rfl) HIT.out (fun _=>rfl)
      (TurnI Wb 1 many) (TurnX (.exit 2) Wb 1 many) (fun _ _ _ h hb=>h.bk hb (by simp)) (fun _ _ _ _ h hb=>h.bk hb (by simp)) (fun _ _ h=>(h.tf HXb.out).it) (TurnI.start Wb 1 many) ?_ ?_ ?_
     ·intro l pre x rest Wr hxs hI hl hlr
      obtain⟨hy,hpl⟩:=numL_pre hxs
      obtain⟨yi,ym⟩:=x
      simp only at hy
      subst hy
      have hLk:L[pre.length]?=some ym:=by
       have h0:(numL L)[pre.length]?=some (pre.length,ym):=by rw[hxs];simp
       rw[numL_at] at h0
       cases hz:L[pre.length]? with
       | none=>rw[hz] at h0;simp at h0
       | some z=>rw[hz] at h0;simp at h0;first | rw[h0] | skip
      have hqM:pre.length < M:=by rw[← HML.out];exact lt_of_some hLk
      have hM5:M≤5000:=by rw[← HML.out];exact HM5.out
      have HI:=Lib.hid hI
      clear hI hlr hl hxs c13 hpl
      gi_wp2
      refine⟨KB.frm0 ((Frm.refl [] Wr).alloc _),fun Wq hbk _=>?_⟩
      have hcv:Wq.heap[Wr.heap.size]?=some (.cells #[.int .i64 ym.kind,.int .i64 ym.role,.int .i64 ym.step,.int .i64 ym.place] 45 (0,0)):=hbk.at (heap_alloc_new Wr _) rfl
      have HI1:TurnI Wb 1 many pre (Wr.alloc (.cells #[.int .i64 ym.kind,.int .i64 ym.role,.int .i64 ym.step,.int .i64 ym.place] 45)):=⟨HI.out.fr.alloc _,alloc_at HI.out.kb,HI.out.go⟩
      have HI2:=Lib.hid (HI1.bk hbk (by have:=HI.out.fr.size;simp <;> omega))
      have HT2:=Lib.hid (HI2.out.tf HXb.out)
      have y0:=cell_of hcv 0
      have y1:=cell_of hcv 1
      have y2:=cell_of hcv 2
      have y3:=cell_of hcv 3
      have c12:=cell_of HT2.out.wt 0
      obtain⟨ab,ao1,e1,hm1⟩:=HT2.out.ws.get hLk
      subst e1
      obtain⟨m0,m1,m2,m3⟩:=hm1
      have c14:=cell_of HI2.out.kb 0
      rw[HML.out] at c12
      try dsimp only at m0 m1 m2 m3
      have hk1:(pre.length:Int) < (M:Int):=by omega
      have hk2:¬ (M:Int)≤(pre.length:Int):=by omega
      have hk3:decide ((M:Int)≤(pre.length:Int))=false:=decide_eq_false hk2
      have hk4:¬ M≤pre.length:=by omega
      have hk5:decide (M≤pre.length)=false:=decide_eq_false hk4
      clear hbk hcv HI1 HI hLk
      gi_wp2
      refine wpIn_region_quiet_r (by kernel_rfl) (by kernel_rfl) (by kernel_rfl) ?_
      repeat (gi_big_quiet_step (fail))
      refine wpQuietIn_nil ?_
      intro _ hw'
      obtain⟨nq,hw''⟩:=hw'
      subst hw''
      clear c12 c14 y0 y1 y2 y3 m0 m1 m2 m3
      have hfn:Frm [] Wq (Wq.drewN nq):=(Frm.refl _ _).drewN nq
      obtain⟨Wn,hWn⟩:∃ X,Wq.drewN nq=X:=⟨_,rfl⟩
      rw[hWn] at hfn ⊢
      have HI3:Hid (TurnI Wb 1 many pre Wn):=Lib.hid ⟨HI2.out.fr.trans (hfn.mono (by simp)),hfn.at HI2.out.kb (by simp),HI2.out.go⟩
      have HT3:=Lib.hid (HI3.out.tf HXb.out)
      have c14:=cell_of HI3.out.kb 0
      have f14:=free_of HI3.out.kb 0
      have c13:=cell_of HT3.out.tb 0
      obtain⟨kb3,fr3,k3⟩:=step_frm HI3.out (pre.length,ym) (k:=(pre.length:Int) + 1) rfl
      have HT4:=Lib.hid (HXb.out.frm fr3 (by simp))
      have HKB:=Lib.hid ((KB.frm0 hfn).trans kb3);have HFR:=Lib.hid fr3;have HK3:=Lib.hid k3
      have s13:=cell_of HT4.out.tb 0
      have smb:=cell_of HT4.out.mb 0
      have s14:=cell_of k3 0
      have hwk:wrap64 ((pre.length:Int) + 1)=(pre.length:Int) + 1:=by unfold wrap64;omega
      simp only[stepW,List.length_append,List.length_cons,List.length_nil] at s13 smb s14
      clear kb3 fr3 k3 hfn hWn
      gi_wp2
      exact⟨HKB.out,HFR.out,HK3.out,fun h=>by omega⟩
     ·intro D2 Vb hD hI hK
      have HX3b:=Lib.hid (hI.tf HXb.out)
      have hkb:=hI.kb
      rw[numL_length,HML.out] at hkb
      have HDb:=Lib.hid (show Wb.heap.size + 1≤D2 by simpa using hD);have HKb:=Lib.hid hK;have HKBb:=Lib.hid hkb
      have HPb:Hid (Vb.heap[D1]?=some (.deferred (some []))):=Lib.hid (hI.fr.at HP.out (by simp;have:=HLD.out;omega))
      clear hD hI hK hkb c13
      have c13:=cell_of HX3b.out.tb 0
      have c14:=cell_of HKBb.out 0
      have cmb:=cell_of HX3b.out.mb 0
      have cwt:=cell_of HX3b.out.wt 0
      rw[HML.out] at cwt
      go_wp2
      rw[rounds_succ]
      go_wp2_with (go_at_call 14;go_must (refine(CK.out _).mono ?_;rintro e w9 ⟨rfl,hf⟩;have HF9:=Lib.hid hf;have c4:=cell_of (hf.at (alloc_at HX3b.out.rs) (by simp)) 0;have f4:=free_of (hf.at (alloc_at HX3b.out.rs) (by simp)) 0;clear hf))
      exact loops_end rfl rfl HX3b.out HF9.out HPb.out HKb.out HL.out HLD.out HDb.out
     ·intro D2 c pre x rest Vb hxs hD hX hK
      exact absurd hX.tz (by decide)
end Go.Proofs.YtkphhjekfimmlaaGreat
