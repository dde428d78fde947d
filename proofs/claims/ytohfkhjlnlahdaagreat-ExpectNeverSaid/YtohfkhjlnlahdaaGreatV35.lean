/- Part of the proof. -/
import Derived.Test.YtohfkhjlnlahdaaGreatV30
import Derived.Test.YtohfkhjlnlahdaaGreatV22
import Derived.Test.YtohfkhjlnlahdaaGreatV34
set_option linter.all false
namespace Go.Proofs.YtohfkhjlnlahdaaGreat
open Go.RowKit Go.BigFrame
theorem moves_len {s:SesD} {x:PS} (hs:SesOk s) (hx:PSok s x):(movesP s x).length≤5000:=by
 have a1:=stepsMv_len hs hx (Nat.le_refl s.roles.length)
 have a2:=losesMv_len (x:=x) hs (Nat.le_refl s.roles.length)
 unfold movesP
 rw[List.length_append]
 exact Nat.le_trans (Nat.add_le_add a1 a2) (by decide)
set_option maxHeartbeats 4000000 in
set_option maxRecDepth 100000 in
theorem pDo_lose (s:SesD) (yb fb sb i k:Nat) (x:PS) (m:Mv) (w:World) (h:SyR w s yb fb) (hx:StR w s yb sb x) (hm:m∈movesP s x) (hi:i < s.roles.length) (hk:k < s.roles.length) (he:m=⟨2,i,k,0⟩) :
  Calls Tryz.prog 19 #[.pointer (some ⟨yb,0,none⟩),.pointer (some ⟨sb,0,none⟩),mvV m] w (RetV (StTo w s yb (nextP s x m))):=by
 have HEM:=Lib.hid he
 clear he
 have HF0:Hid (Frm [] w (w.alloc (.cells (encM m) 44))):=Lib.hid ((Frm.refl [] w).alloc _)
 have C1:=Lib.hid (pCheck_any s yb fb sb x _ (h.frm HF0.out) (hx.frm HF0.out))
 have CM:Hid (∀ V,Frm [] w V→Calls Tryz.prog 63 #[.pointer (some ⟨yb,0,none⟩),.pointer (some ⟨sb,0,none⟩)] V (RetV fun v w'=>Arr 4 MvAt w' v (movesP s x)∧Frm [] V w')):=Lib.hid fun V hV=>pmoves_any s yb fb sb x V (h.frm hV) (hx.frm hV)
 have HLN:Hid ((movesP s x).length≤5000):=Lib.hid (moves_len h.ok hx.ok)
 have HM:Hid (decide (m∈movesP s x)=true):=Lib.hid (decide_eq_true hm)
 have HS:Hid (∀ V,Frm [] (w.alloc (.cells (encM m) 44)) V→V.cell? ⟨w.heap.size,0,none⟩=some (.int .i64 m.kind)∧V.cell? ⟨w.heap.size,1,none⟩=some (.int .i64 m.role)∧V.cell? ⟨w.heap.size,2,none⟩=some (.int .i64 m.step)∧V.cell? ⟨w.heap.size,3,none⟩=some (.int .i64 m.place)):=Lib.hid fun V hV=>by
  have hb:=hV.at (heap_alloc_new w (.cells (encM m) 44)) (by simp)
  exact⟨cell_of hb 0,cell_of hb 1,cell_of hb 2,cell_of hb 3⟩
 have HSY:=Lib.hid h;have HST:=Lib.hid hx;have HNX:=Lib.hid (next_ok h.ok hx.ok hm)
 clear h hx hm
 go_enter Tryz.func19,Tryz.ntmps19
 go_upto_region 4 with (first
  | (go_at_call 61;go_must (refine C1.out.mono ?_;rintro e w' ⟨rfl,rfl⟩)))
 obtain⟨w0,hw0⟩:∃ w0,w.alloc (.cells (encM m) 44)=w0:=⟨_,rfl⟩
 rw[hw0] at HS HF0
 try rw[hw0]
 clear hw0 C1
 go_region_held3 (fun V=>V.cell? ⟨w.heap.size,0,none⟩=some (.int .i64 m.kind)∧V.cell? ⟨w.heap.size,1,none⟩=some (.int .i64 m.role)∧V.cell? ⟨w.heap.size,2,none⟩=some (.int .i64 m.step)∧V.cell? ⟨w.heap.size,3,none⟩=some (.int .i64 m.place))
  (first
   | exact HS.out _ ((Frm.refl [] w0).drew)
   | exact HS.out _ F1.out
   | exact HS.out _ F2.out)
  (first
   | (go_at_call 63;go_must (refine(CM.out _ HF0.out.drew).mono ?_;rintro e w1 ⟨u,rfl,ha,hf⟩;have F1:Hid (Frm [] w0 w1):=Lib.hid ((Frm.refl [] w0).drew.trans hf);obtain⟨am,cm,rfl⟩:=ha.shape;have CC:=Lib.hid (coMove_any _ _ m w1 ha HLN.out);rw[HM.out] at CC;clear ha hf))
   | (go_at_call 62;go_must (refine CC.out.mono ?_;rintro e w2 ⟨rfl,hf⟩;have F2:Hid (Frm [] w0 w2):=Lib.hid (F1.out.trans hf);clear hf)))
 have G2:Hid (Frm [] w w2):=Lib.hid (HF0.out.trans F2.out)
 have HS2:Hid (∀ V,Frm [] w2 V→V.cell? ⟨w.heap.size,0,none⟩=some (.int .i64 m.kind)∧V.cell? ⟨w.heap.size,1,none⟩=some (.int .i64 m.role)∧V.cell? ⟨w.heap.size,2,none⟩=some (.int .i64 m.step)∧V.cell? ⟨w.heap.size,3,none⟩=some (.int .i64 m.place)):=Lib.hid fun V hV=>HS.out V (F2.out.trans hV)
 clear F1 F2 CC CM HLN HS HF0
 have he:=HEM.out
 subst he
 clear HEM
 have CH:=Lib.hid (pChange_any s yb sb i k x w2 (HST.out.frm G2.out) hi hk HSY.out.ok.n4)
 obtain⟨c0,c1,c2,c3⟩:=HS2.out w2 (Frm.refl _ _)
 have HI:=Lib.hid hi;have HK:=Lib.hid hk
 clear hi hk
 go_wp2_with (first
  | (go_at_call 64;go_must (refine CH.out.mono ?_;rintro e w3 ⟨v,rfl,xb,ab,gb,rb,cb,F,rfl,hc⟩;have HC:=Lib.hid hc;clear hc))
  | (go_at_call 65;go_must (refine(lose_any cb s.cls s.cap (x.way i k) F w3 HC.out.chn).mono ?_;rintro e w4 ⟨rfl,ht⟩;have HT:=Lib.hid ht;clear ht)))
 go_ret2
 obtain⟨F',hc⟩:=HC.out.chan HT.out
 have ho:=HNX.out
 rw[next_lose] at ho ⊢
 have hs:=hc.str HST.out.ok HI.out HK.out ho
 exact⟨_,rfl,_,rfl,hs,G2.out.trans hc.fr⟩
set_option maxHeartbeats 8000000 in
set_option maxRecDepth 100000 in
theorem pDo_step (s:SesD) (yb fb sb i k:Nat) (x:PS) (m:Mv) (w:World) (h:SyR w s yb fb) (hx:StR w s yb sb x) (hm:m∈movesP s x) (hi:i < s.roles.length) (hk:k < (s.rol i).steps.length) (hm2:m∈stepMv s x i k) :
  Calls Tryz.prog 19 #[.pointer (some ⟨yb,0,none⟩),.pointer (some ⟨sb,0,none⟩),mvV m] w (RetV (StTo w s yb (nextP s x m))):=by
 have HMS:=Lib.hid (mem_stepMv hm2)
 have HI:=Lib.hid hi;have HK:=Lib.hid hk
 clear hm2 hi hk
 have HF0:Hid (Frm [] w (w.alloc (.cells (encM m) 44))):=Lib.hid ((Frm.refl [] w).alloc _)
 have C1:=Lib.hid (pCheck_any s yb fb sb x _ (h.frm HF0.out) (hx.frm HF0.out))
 have CM:Hid (∀ V,Frm [] w V→Calls Tryz.prog 63 #[.pointer (some ⟨yb,0,none⟩),.pointer (some ⟨sb,0,none⟩)] V (RetV fun v w'=>Arr 4 MvAt w' v (movesP s x)∧Frm [] V w')):=Lib.hid fun V hV=>pmoves_any s yb fb sb x V (h.frm hV) (hx.frm hV)
 have HLN:Hid ((movesP s x).length≤5000):=Lib.hid (moves_len h.ok hx.ok)
 have HM:Hid (decide (m∈movesP s x)=true):=Lib.hid (decide_eq_true hm)
 have HS:Hid (∀ V,Frm [] (w.alloc (.cells (encM m) 44)) V→V.cell? ⟨w.heap.size,0,none⟩=some (.int .i64 m.kind)∧V.cell? ⟨w.heap.size,1,none⟩=some (.int .i64 m.role)∧V.cell? ⟨w.heap.size,2,none⟩=some (.int .i64 m.step)∧V.cell? ⟨w.heap.size,3,none⟩=some (.int .i64 m.place)):=Lib.hid fun V hV=>by
  have hb:=hV.at (heap_alloc_new w (.cells (encM m) 44)) (by simp)
  exact⟨cell_of hb 0,cell_of hb 1,cell_of hb 2,cell_of hb 3⟩
 have HSY:=Lib.hid h;have HST:=Lib.hid hx;have HNX:=Lib.hid (next_ok h.ok hx.ok hm)
 clear h hx hm
 go_enter Tryz.func19,Tryz.ntmps19
 go_upto_region 4 with (first
  | (go_at_call 61;go_must (refine C1.out.mono ?_;rintro e w' ⟨rfl,rfl⟩)))
 obtain⟨w0,hw0⟩:∃ w0,w.alloc (.cells (encM m) 44)=w0:=⟨_,rfl⟩
 rw[hw0] at HS HF0
 try rw[hw0]
 clear hw0 C1
 go_region_held3 (fun V=>V.cell? ⟨w.heap.size,0,none⟩=some (.int .i64 m.kind)∧V.cell? ⟨w.heap.size,1,none⟩=some (.int .i64 m.role)∧V.cell? ⟨w.heap.size,2,none⟩=some (.int .i64 m.step)∧V.cell? ⟨w.heap.size,3,none⟩=some (.int .i64 m.place))
  (first
   | exact HS.out _ ((Frm.refl [] w0).drew)
   | exact HS.out _ F1.out
   | exact HS.out _ F2.out)
  (first
   | (go_at_call 63;go_must (refine(CM.out _ HF0.out.drew).mono ?_;rintro e w1 ⟨u,rfl,ha,hf⟩;have F1:Hid (Frm [] w0 w1):=Lib.hid ((Frm.refl [] w0).drew.trans hf);obtain⟨am,cm,rfl⟩:=ha.shape;have CC:=Lib.hid (coMove_any _ _ m w1 ha HLN.out);rw[HM.out] at CC;clear ha hf))
   | (go_at_call 62;go_must (refine CC.out.mono ?_;rintro e w2 ⟨rfl,hf⟩;have F2:Hid (Frm [] w0 w2):=Lib.hid (F1.out.trans hf);clear hf)))
 have G2:Hid (Frm [] w w2):=Lib.hid (HF0.out.trans F2.out)
 have HS2:Hid (∀ V,Frm [] w2 V→V.cell? ⟨w.heap.size,0,none⟩=some (.int .i64 m.kind)∧V.cell? ⟨w.heap.size,1,none⟩=some (.int .i64 m.role)∧V.cell? ⟨w.heap.size,2,none⟩=some (.int .i64 m.step)∧V.cell? ⟨w.heap.size,3,none⟩=some (.int .i64 m.place)):=Lib.hid fun V hV=>HS.out V (F2.out.trans hV)
 clear F1 F2 CC CM HLN HS HF0
 obtain⟨mk,mr,ms,hpb,hrest⟩:=HMS.out
 obtain⟨pl,hpl⟩:∃ pl,m.place=pl:=⟨_,rfl⟩
 have HME:Hid (m=⟨1,i,k,pl⟩):=Lib.hid (by obtain⟨a,b,c,d⟩:=m;simp only at mk mr ms hpl;subst mk mr ms hpl;rfl)
 clear HMS mk mr ms hpl hrest
 have hme:=HME.out
 subst hme
 clear HME
 have HS2:Hid (∀ V,Frm [] w2 V→V.cell? ⟨w.heap.size,0,none⟩=some (.int .i64 1)∧V.cell? ⟨w.heap.size,1,none⟩=some (.int .i64 i)∧V.cell? ⟨w.heap.size,2,none⟩=some (.int .i64 k)∧V.cell? ⟨w.heap.size,3,none⟩=some (.int .i64 pl)):=Lib.hid fun V hV=>HS2.out V hV
 obtain⟨rb0,ro0,rc0,sv,cv,tv,y1,hr⟩:=HSY.out.rol HI.out
 obtain⟨aa,ao,ac,bb,a1,hac⟩:=HST.out.act HI.out
 have HBK:=Lib.hid hac.bnk
 have HA0:Hid (∀ V,Frm [] w V→V.cell? ⟨sb,1,none⟩=some (.slice (some ⟨aa,ao,none⟩) s.roles.length ac)∧V.cell? ⟨aa,ao + i * 2 + 1,none⟩=some (.pointer (some ⟨bb,0,none⟩))):=Lib.hid fun V hV=>⟨hV.keep a1,hV.keep hac.c1⟩
 have hto:=(HSY.out.ok.stp HI.out HK.out).to
 obtain⟨pp,hpp,-⟩:=ixf_nat hto
 have HPB:=Lib.hid hpb
 have HOB0:Hid (okB (x.ctr s i) ((s.rol i).stp k)=true):=Lib.hid (by
  rw[okB_bank HSY.out.ok HST.out.ok HI.out HK.out]
  unfold possB at hpb
  simp only[Bool.and_eq_true] at hpb
  exact hpb.1)
 have HCO:=Lib.hid (ctr_ok HSY.out.ok HST.out.ok HI.out)
 have HHC0:=Lib.hid (ctr_has HSY.out.ok HST.out.ok HI.out HK.out)
 have HDB0:=Lib.hid (doC_bank HSY.out.ok HST.out.ok HI.out HK.out)
 have htt:=RolD.stp_some HK.out
 obtain⟨n,hn⟩:∃ n,s.roles.length=n:=⟨_,rfl⟩
 have HN:=Lib.hid hn
 have hin:(i:Int) < (n:Int):=by have:=HI.out;omega
 have hkl:(k:Int) < ((s.rol i).steps.length:Int):=by have:=HK.out;omega
 obtain⟨r,hrr⟩:∃ r,s.rol i=r:=⟨_,rfl⟩
 have HRR:=Lib.hid hrr
 obtain⟨t,ht⟩:∃ t,(s.rol i).stp k=t:=⟨_,rfl⟩
 have HT:=Lib.hid ht
 have HA:=HA0
 have HOB:=HOB0
 have HHC:=HHC0
 have HDB:=HDB0
 rw[hn] at HA y1
 rw[ht] at HOB HHC HDB hpp htt
 rw[hrr] at hr htt hkl hpp
 obtain⟨aS,cS,rfl⟩:=hr.r3.sts.shape
 obtain⟨aC,cC,rfl⟩:=hr.r3.ctrs.shape
 obtain⟨aT,cT,rfl⟩:=hr.r3.steps.shape
 obtain⟨tb,tq,rfl,k0,k1,k2,k3,k4,k5,k6,k7,k8⟩:=hr.r3.steps.get htt
 have CPl0:Hid (∀ V,Frm [] w V→Calls Tryz.prog 71 #[.agg #[.string r.name,.slice aS r.sts.length cS,.slice aC r.ctrs.length cC,.slice (some ⟨tb,tq,none⟩) r.steps.length cT],.string t.to] V (Ret (.int .i64 (pp:Int)) (Frm [] V))):=Lib.hid fun V hV=>by
  rw[← hpp]
  exact pPlace_any _ r t.to V ⟨_,_,_,rfl,hr.r3.frm hV⟩ (by have:=(HSY.out.ok.at HI.out).s24;rw[hrr] at this;omega)
 obtain⟨d0,d1,d2,d3,-⟩:=hr
 obtain⟨nS,hnS⟩:∃ a,r.sts.length=a:=⟨_,rfl⟩
 obtain⟨nC,hnC⟩:∃ a,r.ctrs.length=a:=⟨_,rfl⟩
 obtain⟨nT,hnT⟩:∃ a,r.steps.length=a:=⟨_,rfl⟩
 have CPl:=CPl0
 rw[hnS,hnC,hnT] at CPl
 rw[hnS] at d1
 rw[hnC] at d2
 rw[hnT] at d3 hkl
 have HPP:Hid ((stIx (s.rol i) ((s.rol i).stp k).to).toNat=pp):=Lib.hid (by rw[ht,hrr];show (ixf _ _).toNat=pp;rw[hpp];rfl)
 clear hpb a1 hac hto hpp htt hn hrr ht HA0 HOB0 HHC0 HDB0 CPl0 hnS hnC hnT
 have g:=G2.out
 replace y1:=g.keep y1;replace d0:=g.keep d0;replace d1:=g.keep d1;replace d2:=g.keep d2;replace d3:=g.keep d3
 have c0:=(HS2.out w2 (Frm.refl _ _)).1
 have c1:=(HS2.out w2 (Frm.refl _ _)).2.1
 have hl1:=cell_lt c0
 have hl2:=cell_lt y1
 have hl3:=cell_lt d0
 clear g
 go_upto_region 10 with fail
 go_cut [11] (fun s11 wc=>∃ q11,s11=.pointer (some ⟨q11,0,none⟩)∧wc.heap[q11]?=some (.cells #[.string r.name,.slice aS nS cS,.slice aC nC cC,.slice (some ⟨tb,tq,none⟩) nT cT] 87 (0,0))∧Frm [] w2 wc)
 case first =>
  go_region
  all_goals
   go_wp2
   go_meet
   refine⟨_,rfl,heap_alloc_new _ _,?_⟩
   first
    | exact((Frm.refl [] w2).alloc _).drew
    | exact((Frm.refl [] w2).drew).alloc _
    | exact(Frm.refl [] w2).alloc _
 case rest =>
  obtain⟨q11,rfl,hq,hf⟩:=hcut
  have FW:=Lib.hid hf
  have HQ:=Lib.hid hq
  have g:=G2.out.trans hf
  replace k0:=g.keep k0;replace k1:=g.keep k1;replace k2:=g.keep k2;replace k3:=g.keep k3;replace k4:=g.keep k4;replace k5:=g.keep k5;replace k6:=g.keep k6;replace k7:=g.keep k7;replace k8:=g.keep k8
  have e3:=cell_of hq 3
  have c2:=(HS2.out wc hf).2.2.1
  have hl5:=lt_of_block hq
  have hl6:=cell_lt c2
  clear g hq hf y1 d0 d1 d2 d3 c0 c1 hl1 hl2 hl3
  obtain⟨w5,hw5⟩:∃ w5,wc.alloc (.cells #[.string t.frm,.string t.to,.int .i64 t.kind,.string t.msg,.string t.peer,.string t.ctr,.int .i64 t.low,.int .i64 t.high,.int .i64 t.add] 137)=w5:=⟨_,rfl⟩
  have F5:Hid (Frm [] wc w5):=Lib.hid (by rw[← hw5];exact(Frm.refl _ _).alloc _)
  have B12:Hid (w5.heap[wc.heap.size]?=some (.cells #[.string t.frm,.string t.to,.int .i64 t.kind,.string t.msg,.string t.peer,.string t.ctr,.int .i64 t.low,.int .i64 t.high,.int .i64 t.add] 137 (0,0))):=Lib.hid (by rw[← hw5];exact heap_alloc_new _ _)
  have HE5:=Lib.hid hw5
  clear hw5
  go_upto_region 12 with fail
  rw[HE5.out]
  obtain⟨q12,hq12⟩:∃ q,wc.heap.size=q:=⟨_,rfl⟩
  rw[hq12] at B12 ⊢
  have K5:Hid (Frm [] w2 w5):=Lib.hid (FW.out.trans F5.out)
  have G5:Hid (Frm [] w w5):=Lib.hid (G2.out.trans K5.out)
  have HD11:Hid (∀ V,Frm [] w5 V→V.heap[q11]?=some (.cells #[.string r.name,.slice aS nS cS,.slice aC nC cC,.slice (some ⟨tb,tq,none⟩) nT cT] 87 (0,0))):=Lib.hid fun V hV=>(F5.out.trans hV).at HQ.out (by simp)
  have HD12:Hid (∀ V,Frm [] w5 V→V.heap[q12]?=some (.cells #[.string t.frm,.string t.to,.int .i64 t.kind,.string t.msg,.string t.peer,.string t.ctr,.int .i64 t.low,.int .i64 t.high,.int .i64 t.add] 137 (0,0))):=Lib.hid fun V hV=>hV.at B12.out (by simp)
  clear k0 k1 k2 k3 k4 k5 k6 k7 k8 e3 c2 hl5 hl6 HE5 hq12 B12 HQ F5 FW
  have CHi:=Lib.hid (pChange_any s yb sb i i x w5 (HST.out.frm G5.out) HI.out HI.out HSY.out.ok.n4)
  have KP:=Lib.hid (HSY.out.ok.stp HI.out HK.out)
  rw[HT.out] at KP
  have c1:=(HS2.out w5 K5.out).2.1
  go_upto_region 13 with (first
   | (go_at_call 64;go_must (refine CHi.out.mono ?_;rintro e w6 ⟨v,rfl,xb6,ab6,gb6,rb6,cb6,F6,rfl,hc⟩;have HC6:=Lib.hid hc;clear hc)))
  have G6:Hid (Frm [] w w6):=Lib.hid (G5.out.trans HC6.out.fr)
  have K6:Hid (Frm [] w2 w6):=Lib.hid (K5.out.trans HC6.out.fr)
  have J6:=Lib.hid HC6.out.fr
  have e2:=cell_of (HD12.out w6 J6.out) 2
  clear c1 CHi
  have hkk:t.kind=1∨t.kind=2∨(t.kind≠1∧t.kind≠2):=by omega
  have HB6:Hid (∀ V,Frm [] w6 V→V.cell? ⟨w.heap.size,1,none⟩=some (.int .i64 i)∧V.cell? ⟨w.heap.size,3,none⟩=some (.int .i64 pl)∧V.cell? ⟨q12,3,none⟩=some (.string t.msg)∧V.cell? ⟨q12,4,none⟩=some (.string t.peer)):=Lib.hid fun V hV=>⟨(HS2.out V (K6.out.trans hV)).2.1,(HS2.out V (K6.out.trans hV)).2.2.2,cell_of (HD12.out V (J6.out.trans hV)) 3,cell_of (HD12.out V (J6.out.trans hV)) 4⟩
  rcases hkk with k1 | k2 | ⟨k1,k2⟩
  ·have b1:(t.kind == 1)=true:=by simpa using k1
   have hpe:=HSY.out.ok.peer HI.out HK.out (by rw[HT.out];omega)
   have HNXT:Hid (nextP s x ⟨1,i,k,pl⟩={ pos:=x.pos.set i pp,vals:=x.vals.set i (bankDo (s.rol i).ctrs (x.bank i) t),ways:=setWay x.ways i (peerN s t) (putL s.cap (x.way i (peerN s t)) t.msg) }):=Lib.hid (by
    rw[next_step,HPP.out,HT.out,if_pos k1])
   rw[HT.out] at hpe
   obtain⟨p1,p2,p3⟩:=hpe
   obtain⟨p,hp⟩:∃ p,peerN s t=p:=⟨_,rfl⟩
   rw[hp] at p1 p2 p3 HNXT
   have CNm:Hid (∀ V,Frm [] w V→Calls Tryz.prog 66 #[.pointer (some ⟨yb,0,none⟩),.string t.peer] V (Ret (.int .i64 (p:Int)) (Frm [] V))):=Lib.hid fun V hV=>by
    rw[← p1]
    obtain⟨rv',q1,q2⟩:=(HSY.out.frm hV).out
    exact pNumber_any yb s rv' t.peer V (cell_of q1 1) q2 (by have:=HSY.out.ok.n4;omega)
   have HP2:=Lib.hid p2
   have hwl:=(HST.out.ok.wb i p HI.out p2)
   clear k1 p1 p2 p3 hp
   go_upto_region 15 with fail
   clear e2
   go_region_held3 (fun V=>V.cell? ⟨w.heap.size,1,none⟩=some (.int .i64 i)∧V.cell? ⟨q12,4,none⟩=some (.string t.peer))
    (first
     | exact⟨(HB6.out _ ((Frm.refl [] w6).drew)).1,(HB6.out _ ((Frm.refl [] w6).drew)).2.2.2⟩
     | exact⟨(HB6.out _ F67.out).1,(HB6.out _ F67.out).2.2.2⟩
     | exact⟨(HB6.out _ F68.out).1,(HB6.out _ F68.out).2.2.2⟩)
    (first
     | (go_at_call 66;go_must (refine(CNm.out _ (G6.out.drew)).mono ?_;rintro e w7 ⟨rfl,hf7⟩;have F67:Hid (Frm [] w6 w7):=Lib.hid ((Frm.refl [] w6).drew.trans hf7);have G7:Hid (Frm [] w w7):=Lib.hid (G6.out.trans F67.out);have CH7:=Lib.hid (pChange_any s yb sb i p x w7 (HST.out.frm G7.out) HI.out HP2.out HSY.out.ok.n4);clear hf7))
     | (go_at_call 64;go_must (refine CH7.out.mono ?_;rintro e w8 ⟨v,rfl,xb,ab,gb,rb,cb,F,rfl,hc⟩;have HC8:=Lib.hid hc;have F68:Hid (Frm [] w6 w8):=Lib.hid (F67.out.trans hc.fr);clear hc)))
   have z4:=(HB6.out w8 F68.out).2.2.1
   clear CNm
   clear CH7
   go_wp2_with (first
    | (go_at_call 67;go_must (refine(put_all cb s.cls s.cap (x.way i p) F t.msg w8 HC8.out.chn).mono ?_;rintro e w9 ⟨rfl,ht⟩;have HTO:=Lib.hid ht;clear ht)))
   obtain⟨F',hc9⟩:=HC8.out.chan HTO.out
   have J9:Hid (Frm [] w5 w9):=Lib.hid (J6.out.trans (F67.out.trans hc9.fr))
   have G9:Hid (Frm [] w w9):=Lib.hid (G5.out.trans J9.out)
   have K9:Hid (Frm [] w2 w9):=Lib.hid (K5.out.trans J9.out)
   clear HTO HC8 F67 F68 HB6 z4
   have HC:=Lib.hid hc9
   obtain⟨ca9,cg9,hx9⟩:=hc9.hx
   obtain⟨cur9,ha9⟩:=hc9.ha
   rw[HN.out] at hx9
   clear hc9
   go_upto_region 20 with fail
   have HB9:Hid (∀ V,Frm [] w9 V→V.cell? ⟨sb,1,none⟩=some (.slice (some ⟨aa,ao,none⟩) n ac)∧V.cell? ⟨aa,ao + i * 2 + 1,none⟩=some (.pointer (some ⟨bb,0,none⟩))∧V.cell? ⟨w.heap.size,1,none⟩=some (.int .i64 i)):=Lib.hid fun V hV=>⟨HA.out V (G9.out.trans hV) |>.1,HA.out V (G9.out.trans hV) |>.2,(HS2.out V (K9.out.trans hV)).2.1⟩
   refine wp_region_cqt 9 (by kernel_rfl) (by kernel_rfl) ?_
   simp only[List.take_succ_cons,List.take_zero,List.drop_succ_cons,List.drop_zero]
   repeat (first
    | go_big_quiet_skip
    | (refine wpQuiet_want (by rfl) (fun K hK=>?_)
       first
        | (refine quiet_move _ (by rfl) (hK _ ?_))
        | (refine quiet_assign _ (by rfl) (hK _ ?_))
        | (apply Exists.intro
           refine⟨fun w' hC=>?_,hK _ ?_⟩
           ·(unfold Oper.quietAt
             obtain⟨z1,z2,z3⟩:=HB9.out w' hC
             clear hC
             go_simp
             try exact⟨rfl,rfl⟩
             try rfl))
       clear hK K
       try simp only[nrm,Act.eval,nrq]))
   refine wpQuiet_nil ?_
   intro w10 hf10
   have HC10:=Lib.hid (HC.out.frm hf10)
   have CB:=Lib.hid (bCopy_to bb (x.ctr s i) w10 (HBK.out.frm (G9.out.trans hf10)) (by have:=(ctr_ok HSY.out.ok HST.out.ok HI.out).1;omega))
   have D12:=Lib.hid (HD12.out _ (J9.out.trans hf10))
   have J10:=Lib.hid (J9.out.trans hf10)
   have L10:=Lib.hid hf10
   clear hf10 HB9
   go_wp2_with (first
    | (go_at_call 69;go_must (refine CB.out.mono ?_;rintro e w11 ⟨v,rfl,b,g,rfl,hcp⟩;have HCP:=Lib.hid hcp;have d12:=hcp.frm.at D12.out (by simp);have e0:=cell_of d12 0;have e1:=cell_of d12 1;have e2:=cell_of d12 2;have e3:=cell_of d12 3;have e4:=cell_of d12 4;have e5:=cell_of d12 5;have e6:=cell_of d12 6;have e7:=cell_of d12 7;have e8:=cell_of d12 8;clear hcp d12))
    | (go_at_call 70;go_must (refine(bApply_any b g (x.ctr s i) t w11 HCP.out.bnk HCO.out HHC.out HOB.out).mono ?_;rintro e w12 ⟨rfl,hap⟩;have HAP:=Lib.hid hap;clear hap)))
   go_upto_region 22 with fail
   have s10:=HCP.out.frm.size
   have F12:Hid (Frm [] w10 w12):=Lib.hid (HCP.out.frm.then HAP.out.frm (by intro y hy;simp at hy;subst hy;exact .inr HCP.out.g))
   have HC12:=Lib.hid (HC10.out.frm F12.out)
   have J12:=Lib.hid (J10.out.trans F12.out)
   have x12:=(L10.out.trans F12.out).at hx9 (by simp)
   have hla:ab < w10.heap.size:=by have:=lt_of_block (L10.out.at ha9 (by simp));exact this
   have HNE:Hid (b≠ab∧g≠ab):=Lib.hid ⟨by have:=HCP.out.b;omega,by have:=HCP.out.g;omega⟩
   have HB12:Hid (∀ V,Frm [] w12 V→V.cell? ⟨xb,1,none⟩=some (.slice (some ⟨ab,0,none⟩) n ca9)∧V.cell? ⟨w.heap.size,1,none⟩=some (.int .i64 i)∧V.cell? ⟨q12,1,none⟩=some (.string t.to)):=Lib.hid fun V hV=>⟨hV.keep (cell_of x12 1),(HS2.out V ((K5.out.trans J12.out).trans hV)).2.1,cell_of (HD12.out V (J12.out.trans hV)) 1⟩
   have D11:=Lib.hid (HD11.out w12 J12.out)
   clear x12 hx9 ha9 hla
   refine wp_region_cqt 13 (by kernel_rfl) (by kernel_rfl) ?_
   simp only[List.take_succ_cons,List.take_zero,List.drop_succ_cons,List.drop_zero]
   repeat (first
    | go_big_quiet_skip
    | (refine wpQuiet_want (by rfl) (fun K hK=>?_)
       first
        | (refine quiet_move _ (by rfl) (hK _ ?_))
        | (refine quiet_assign _ (by rfl) (hK _ ?_))
        | (refine cq_call (.int .i64 (pp:Int)) 71 #[.agg #[.string r.name,.slice aS nS cS,.slice aC nC cC,.slice (some ⟨tb,tq,none⟩) nT cT],.string t.to] (fun w' hC=>?_) (fun w' hC=>Ret.cq (CPl.out w' ((G5.out.trans J12.out).trans hC)) (fun w'' h=>hC.trans h)) (hK _ ?_)
           ·go_simp)
        | (refine cq_row 87 _ rfl q11 rfl #[.string r.name,.slice aS nS cS,.slice aC nC cC,.slice (some ⟨tb,tq,none⟩) nT cT] 87 D11.out _ Tryz.underlying87 rfl (by kernel_rfl) (hK _ ?_))
        | (apply Exists.intro
           refine⟨fun w' hC=>?_,hK _ ?_⟩
           ·(unfold Oper.quietAt
             obtain⟨z1,z2,z3⟩:=HB12.out w' hC
             clear hC
             go_simp
             try exact⟨rfl,rfl⟩
             try rfl))
       clear hK K
       try simp only[nrm,Act.eval,nrq]))
   refine wpQuiet_nil ?_
   intro w13 hf13
   have hc13:=HC12.out.frm hf13
   have HC13:=Lib.hid hc13
   obtain⟨cur,ha⟩:=hc13.ha
   obtain⟨bx,a1,a2,-⟩:=hc13.act i HI.out
   have f1:=free_of ha (i * 2)
   have f2:=free_of ha (i * 2 + 1)
   have ob:=HAP.out.bnk.frm hf13 (by simp) (by simp)
   rw[HDB.out] at ob
   have HOB2:=Lib.hid ob
   clear hc13 ha ob hf13 HB12 D11
   go_wp2
   go_ret2
   obtain⟨r1,r2⟩:=HC13.out.step HST.out.ok HI.out HP2.out HI.out HOB2.out HNE.out.1 HNE.out.2 (p:=pp) (y:=nextP s x ⟨1,i,k,pl⟩) HNXT.out HNX.out
   exact⟨_,rfl,_,rfl,r1,G7.out.trans r2⟩
  ·have b1:(t.kind == 1)=false:=by rw[k2];rfl
   have b2:(t.kind == 2)=true:=by simpa using k2
   have hpe:=HSY.out.ok.peer HI.out HK.out (by rw[HT.out];omega)
   have HNXT:Hid (nextP s x ⟨1,i,k,pl⟩={ pos:=x.pos.set i pp,vals:=x.vals.set i (bankDo (s.rol i).ctrs (x.bank i) t),ways:=setWay x.ways (peerN s t) i (takeL s.cls (x.way (peerN s t) i) pl) }):=Lib.hid (by
    rw[next_step,HPP.out,HT.out,if_neg (by omega),if_pos k2])
   rw[HT.out] at hpe
   obtain⟨p1,p2,p3⟩:=hpe
   obtain⟨p,hp⟩:∃ p,peerN s t=p:=⟨_,rfl⟩
   rw[hp] at p1 p2 p3 HNXT
   have CNm:Hid (∀ V,Frm [] w V→Calls Tryz.prog 66 #[.pointer (some ⟨yb,0,none⟩),.string t.peer] V (Ret (.int .i64 (p:Int)) (Frm [] V))):=Lib.hid fun V hV=>by
    rw[← p1]
    obtain⟨rv',q1,q2⟩:=(HSY.out.frm hV).out
    exact pNumber_any yb s rv' t.peer V (cell_of q1 1) q2 (by have:=HSY.out.ok.n4;omega)
   have HP2:=Lib.hid p2
   clear k2 p1 p2 p3 hp
   go_upto_region 18 with fail
   clear e2
   go_region_held3 (fun V=>V.cell? ⟨w.heap.size,1,none⟩=some (.int .i64 i)∧V.cell? ⟨q12,4,none⟩=some (.string t.peer))
    (first
     | exact⟨(HB6.out _ ((Frm.refl [] w6).drew)).1,(HB6.out _ ((Frm.refl [] w6).drew)).2.2.2⟩
     | exact⟨(HB6.out _ F67.out).1,(HB6.out _ F67.out).2.2.2⟩
     | exact⟨(HB6.out _ F68.out).1,(HB6.out _ F68.out).2.2.2⟩)
    (first
     | (go_at_call 66;go_must (refine(CNm.out _ (G6.out.drew)).mono ?_;rintro e w7 ⟨rfl,hf7⟩;have F67:Hid (Frm [] w6 w7):=Lib.hid ((Frm.refl [] w6).drew.trans hf7);have G7:Hid (Frm [] w w7):=Lib.hid (G6.out.trans F67.out);have CH7:=Lib.hid (pChange_any s yb sb p i x w7 (HST.out.frm G7.out) HP2.out HI.out HSY.out.ok.n4);clear hf7))
     | (go_at_call 64;go_must (refine CH7.out.mono ?_;rintro e w8 ⟨v,rfl,xb,ab,gb,rb,cb,F,rfl,hc⟩;have HC8:=Lib.hid hc;have F68:Hid (Frm [] w6 w8):=Lib.hid (F67.out.trans hc.fr);clear hc)))
   have z4:=(HB6.out w8 F68.out).2.1
   clear CNm
   clear CH7
   go_wp2_with (first
    | (go_at_call 68;go_must (refine(take_any cb s.cls s.cap (x.way p i) F pl w8 HC8.out.chn).mono ?_;rintro e w9 ⟨rfl,ht⟩;have HTO:=Lib.hid ht;clear ht)))
   obtain⟨F',hc9⟩:=HC8.out.chan HTO.out
   have J9:Hid (Frm [] w5 w9):=Lib.hid (J6.out.trans (F67.out.trans hc9.fr))
   have G9:Hid (Frm [] w w9):=Lib.hid (G5.out.trans J9.out)
   have K9:Hid (Frm [] w2 w9):=Lib.hid (K5.out.trans J9.out)
   clear HTO HC8 F67 F68 HB6 z4
   have HC:=Lib.hid hc9
   obtain⟨ca9,cg9,hx9⟩:=hc9.hx
   obtain⟨cur9,ha9⟩:=hc9.ha
   rw[HN.out] at hx9
   clear hc9
   go_upto_region 20 with fail
   have HB9:Hid (∀ V,Frm [] w9 V→V.cell? ⟨sb,1,none⟩=some (.slice (some ⟨aa,ao,none⟩) n ac)∧V.cell? ⟨aa,ao + i * 2 + 1,none⟩=some (.pointer (some ⟨bb,0,none⟩))∧V.cell? ⟨w.heap.size,1,none⟩=some (.int .i64 i)):=Lib.hid fun V hV=>⟨HA.out V (G9.out.trans hV) |>.1,HA.out V (G9.out.trans hV) |>.2,(HS2.out V (K9.out.trans hV)).2.1⟩
   refine wp_region_cqt 9 (by kernel_rfl) (by kernel_rfl) ?_
   simp only[List.take_succ_cons,List.take_zero,List.drop_succ_cons,List.drop_zero]
   repeat (first
    | go_big_quiet_skip
    | (refine wpQuiet_want (by rfl) (fun K hK=>?_)
       first
        | (refine quiet_move _ (by rfl) (hK _ ?_))
        | (refine quiet_assign _ (by rfl) (hK _ ?_))
        | (apply Exists.intro
           refine⟨fun w' hC=>?_,hK _ ?_⟩
           ·(unfold Oper.quietAt
             obtain⟨z1,z2,z3⟩:=HB9.out w' hC
             clear hC
             go_simp
             try exact⟨rfl,rfl⟩
             try rfl))
       clear hK K
       try simp only[nrm,Act.eval,nrq]))
   refine wpQuiet_nil ?_
   intro w10 hf10
   have HC10:=Lib.hid (HC.out.frm hf10)
   have CB:=Lib.hid (bCopy_to bb (x.ctr s i) w10 (HBK.out.frm (G9.out.trans hf10)) (by have:=(ctr_ok HSY.out.ok HST.out.ok HI.out).1;omega))
   have D12:=Lib.hid (HD12.out _ (J9.out.trans hf10))
   have J10:=Lib.hid (J9.out.trans hf10)
   have L10:=Lib.hid hf10
   clear hf10 HB9
   go_wp2_with (first
    | (go_at_call 69;go_must (refine CB.out.mono ?_;rintro e w11 ⟨v,rfl,b,g,rfl,hcp⟩;have HCP:=Lib.hid hcp;have d12:=hcp.frm.at D12.out (by simp);have e0:=cell_of d12 0;have e1:=cell_of d12 1;have e2:=cell_of d12 2;have e3:=cell_of d12 3;have e4:=cell_of d12 4;have e5:=cell_of d12 5;have e6:=cell_of d12 6;have e7:=cell_of d12 7;have e8:=cell_of d12 8;clear hcp d12))
    | (go_at_call 70;go_must (refine(bApply_any b g (x.ctr s i) t w11 HCP.out.bnk HCO.out HHC.out HOB.out).mono ?_;rintro e w12 ⟨rfl,hap⟩;have HAP:=Lib.hid hap;clear hap)))
   go_upto_region 22 with fail
   have s10:=HCP.out.frm.size
   have F12:Hid (Frm [] w10 w12):=Lib.hid (HCP.out.frm.then HAP.out.frm (by intro y hy;simp at hy;subst hy;exact .inr HCP.out.g))
   have HC12:=Lib.hid (HC10.out.frm F12.out)
   have J12:=Lib.hid (J10.out.trans F12.out)
   have x12:=(L10.out.trans F12.out).at hx9 (by simp)
   have hla:ab < w10.heap.size:=by have:=lt_of_block (L10.out.at ha9 (by simp));exact this
   have HNE:Hid (b≠ab∧g≠ab):=Lib.hid ⟨by have:=HCP.out.b;omega,by have:=HCP.out.g;omega⟩
   have HB12:Hid (∀ V,Frm [] w12 V→V.cell? ⟨xb,1,none⟩=some (.slice (some ⟨ab,0,none⟩) n ca9)∧V.cell? ⟨w.heap.size,1,none⟩=some (.int .i64 i)∧V.cell? ⟨q12,1,none⟩=some (.string t.to)):=Lib.hid fun V hV=>⟨hV.keep (cell_of x12 1),(HS2.out V ((K5.out.trans J12.out).trans hV)).2.1,cell_of (HD12.out V (J12.out.trans hV)) 1⟩
   have D11:=Lib.hid (HD11.out w12 J12.out)
   clear x12 hx9 ha9 hla
   refine wp_region_cqt 13 (by kernel_rfl) (by kernel_rfl) ?_
   simp only[List.take_succ_cons,List.take_zero,List.drop_succ_cons,List.drop_zero]
   repeat (first
    | go_big_quiet_skip
    | (refine wpQuiet_want (by rfl) (fun K hK=>?_)
       first
        | (refine quiet_move _ (by rfl) (hK _ ?_))
        | (refine quiet_assign _ (by rfl) (hK _ ?_))
        | (refine cq_call (.int .i64 (pp:Int)) 71 #[.agg #[.string r.name,.slice aS nS cS,.slice aC nC cC,.slice (some ⟨tb,tq,none⟩) nT cT],.string t.to] (fun w' hC=>?_) (fun w' hC=>Ret.cq (CPl.out w' ((G5.out.trans J12.out).trans hC)) (fun w'' h=>hC.trans h)) (hK _ ?_)
           ·go_simp)
        | (refine cq_row 87 _ rfl q11 rfl #[.string r.name,.slice aS nS cS,.slice aC nC cC,.slice (some ⟨tb,tq,none⟩) nT cT] 87 D11.out _ Tryz.underlying87 rfl (by kernel_rfl) (hK _ ?_))
        | (apply Exists.intro
           refine⟨fun w' hC=>?_,hK _ ?_⟩
           ·(unfold Oper.quietAt
             obtain⟨z1,z2,z3⟩:=HB12.out w' hC
             clear hC
             go_simp
             try exact⟨rfl,rfl⟩
             try rfl))
       clear hK K
       try simp only[nrm,Act.eval,nrq]))
   refine wpQuiet_nil ?_
   intro w13 hf13
   have hc13:=HC12.out.frm hf13
   have HC13:=Lib.hid hc13
   obtain⟨cur,ha⟩:=hc13.ha
   obtain⟨bx,a1,a2,-⟩:=hc13.act i HI.out
   have f1:=free_of ha (i * 2)
   have f2:=free_of ha (i * 2 + 1)
   have ob:=HAP.out.bnk.frm hf13 (by simp) (by simp)
   rw[HDB.out] at ob
   have HOB2:=Lib.hid ob
   clear hc13 ha ob hf13 HB12 D11
   go_wp2
   go_ret2
   obtain⟨r1,r2⟩:=HC13.out.step HST.out.ok HP2.out HI.out HI.out HOB2.out HNE.out.1 HNE.out.2 (p:=pp) (y:=nextP s x ⟨1,i,k,pl⟩) HNXT.out HNX.out
   exact⟨_,rfl,_,rfl,r1,G7.out.trans r2⟩
  ·have b1:(t.kind == 1)=false:=by simpa using k1
   have b2:(t.kind == 2)=false:=by simpa using k2
   have HNXT:Hid (nextP s x ⟨1,i,k,pl⟩={ pos:=x.pos.set i pp,vals:=x.vals.set i (bankDo (s.rol i).ctrs (x.bank i) t),ways:=setWay x.ways i i (x.way i i) }):=Lib.hid (by
    rw[next_step,HPP.out,HT.out,if_neg k1,if_neg k2]
    unfold PS.way
    rw[setWay_self (by rw[HST.out.ok.wl];exact HI.out) (by rw[HST.out.ok.wr i HI.out];exact HI.out)])
   clear k1 k2
   obtain⟨w9,hw9⟩:∃ w9,w9=w6:=⟨_,rfl⟩
   subst hw9
   have hc9:=HC6.out
   have J9:=J6
   have G9:=G6
   have K9:=K6
   clear HB6
   have HC:=Lib.hid hc9
   obtain⟨ca9,cg9,hx9⟩:=hc9.hx
   obtain⟨cur9,ha9⟩:=hc9.ha
   rw[HN.out] at hx9
   clear hc9
   go_upto_region 20 with fail
   have HB9:Hid (∀ V,Frm [] w9 V→V.cell? ⟨sb,1,none⟩=some (.slice (some ⟨aa,ao,none⟩) n ac)∧V.cell? ⟨aa,ao + i * 2 + 1,none⟩=some (.pointer (some ⟨bb,0,none⟩))∧V.cell? ⟨w.heap.size,1,none⟩=some (.int .i64 i)):=Lib.hid fun V hV=>⟨HA.out V (G9.out.trans hV) |>.1,HA.out V (G9.out.trans hV) |>.2,(HS2.out V (K9.out.trans hV)).2.1⟩
   refine wp_region_cqt 9 (by kernel_rfl) (by kernel_rfl) ?_
   simp only[List.take_succ_cons,List.take_zero,List.drop_succ_cons,List.drop_zero]
   repeat (first
    | go_big_quiet_skip
    | (refine wpQuiet_want (by rfl) (fun K hK=>?_)
       first
        | (refine quiet_move _ (by rfl) (hK _ ?_))
        | (refine quiet_assign _ (by rfl) (hK _ ?_))
        | (apply Exists.intro
           refine⟨fun w' hC=>?_,hK _ ?_⟩
           ·(unfold Oper.quietAt
             obtain⟨z1,z2,z3⟩:=HB9.out w' hC
             clear hC
             go_simp
             try exact⟨rfl,rfl⟩
             try rfl))
       clear hK K
       try simp only[nrm,Act.eval,nrq]))
   refine wpQuiet_nil ?_
   intro w10 hf10
   have HC10:=Lib.hid (HC.out.frm hf10)
   have CB:=Lib.hid (bCopy_to bb (x.ctr s i) w10 (HBK.out.frm (G9.out.trans hf10)) (by have:=(ctr_ok HSY.out.ok HST.out.ok HI.out).1;omega))
   have D12:=Lib.hid (HD12.out _ (J9.out.trans hf10))
   have J10:=Lib.hid (J9.out.trans hf10)
   have L10:=Lib.hid hf10
   clear hf10 HB9
   go_wp2_with (first
    | (go_at_call 69;go_must (refine CB.out.mono ?_;rintro e w11 ⟨v,rfl,b,g,rfl,hcp⟩;have HCP:=Lib.hid hcp;have d12:=hcp.frm.at D12.out (by simp);have e0:=cell_of d12 0;have e1:=cell_of d12 1;have e2:=cell_of d12 2;have e3:=cell_of d12 3;have e4:=cell_of d12 4;have e5:=cell_of d12 5;have e6:=cell_of d12 6;have e7:=cell_of d12 7;have e8:=cell_of d12 8;clear hcp d12))
    | (go_at_call 70;go_must (refine(bApply_any b g (x.ctr s i) t w11 HCP.out.bnk HCO.out HHC.out HOB.out).mono ?_;rintro e w12 ⟨rfl,hap⟩;have HAP:=Lib.hid hap;clear hap)))
   go_upto_region 22 with fail
   have s10:=HCP.out.frm.size
   have F12:Hid (Frm [] w10 w12):=Lib.hid (HCP.out.frm.then HAP.out.frm (by intro y hy;simp at hy;subst hy;exact .inr HCP.out.g))
   have HC12:=Lib.hid (HC10.out.frm F12.out)
   have J12:=Lib.hid (J10.out.trans F12.out)
   have x12:=(L10.out.trans F12.out).at hx9 (by simp)
   have hla:ab6 < w10.heap.size:=by have:=lt_of_block (L10.out.at ha9 (by simp));exact this
   have HNE:Hid (b≠ab6∧g≠ab6):=Lib.hid ⟨by have:=HCP.out.b;omega,by have:=HCP.out.g;omega⟩
   have HB12:Hid (∀ V,Frm [] w12 V→V.cell? ⟨xb6,1,none⟩=some (.slice (some ⟨ab6,0,none⟩) n ca9)∧V.cell? ⟨w.heap.size,1,none⟩=some (.int .i64 i)∧V.cell? ⟨q12,1,none⟩=some (.string t.to)):=Lib.hid fun V hV=>⟨hV.keep (cell_of x12 1),(HS2.out V ((K5.out.trans J12.out).trans hV)).2.1,cell_of (HD12.out V (J12.out.trans hV)) 1⟩
   have D11:=Lib.hid (HD11.out w12 J12.out)
   clear x12 hx9 ha9 hla
   refine wp_region_cqt 13 (by kernel_rfl) (by kernel_rfl) ?_
   simp only[List.take_succ_cons,List.take_zero,List.drop_succ_cons,List.drop_zero]
   repeat (first
    | go_big_quiet_skip
    | (refine wpQuiet_want (by rfl) (fun K hK=>?_)
       first
        | (refine quiet_move _ (by rfl) (hK _ ?_))
        | (refine quiet_assign _ (by rfl) (hK _ ?_))
        | (refine cq_call (.int .i64 (pp:Int)) 71 #[.agg #[.string r.name,.slice aS nS cS,.slice aC nC cC,.slice (some ⟨tb,tq,none⟩) nT cT],.string t.to] (fun w' hC=>?_) (fun w' hC=>Ret.cq (CPl.out w' ((G5.out.trans J12.out).trans hC)) (fun w'' h=>hC.trans h)) (hK _ ?_)
           ·go_simp)
        | (refine cq_row 87 _ rfl q11 rfl #[.string r.name,.slice aS nS cS,.slice aC nC cC,.slice (some ⟨tb,tq,none⟩) nT cT] 87 D11.out _ Tryz.underlying87 rfl (by kernel_rfl) (hK _ ?_))
        | (apply Exists.intro
           refine⟨fun w' hC=>?_,hK _ ?_⟩
           ·(unfold Oper.quietAt
             obtain⟨z1,z2,z3⟩:=HB12.out w' hC
             clear hC
             go_simp
             try exact⟨rfl,rfl⟩
             try rfl))
       clear hK K
       try simp only[nrm,Act.eval,nrq]))
   refine wpQuiet_nil ?_
   intro w13 hf13
   have hc13:=HC12.out.frm hf13
   have HC13:=Lib.hid hc13
   obtain⟨cur,ha⟩:=hc13.ha
   obtain⟨bx,a1,a2,-⟩:=hc13.act i HI.out
   have f1:=free_of ha (i * 2)
   have f2:=free_of ha (i * 2 + 1)
   have ob:=HAP.out.bnk.frm hf13 (by simp) (by simp)
   rw[HDB.out] at ob
   have HOB2:=Lib.hid ob
   clear hc13 ha ob hf13 HB12 D11
   go_wp2
   go_ret2
   obtain⟨r1,r2⟩:=HC13.out.step HST.out.ok HI.out HI.out HI.out HOB2.out HNE.out.1 HNE.out.2 (p:=pp) (y:=nextP s x ⟨1,i,k,pl⟩) HNXT.out HNX.out
   exact⟨_,rfl,_,rfl,r1,G5.out.trans r2⟩
end Go.Proofs.YtohfkhjlnlahdaaGreat
