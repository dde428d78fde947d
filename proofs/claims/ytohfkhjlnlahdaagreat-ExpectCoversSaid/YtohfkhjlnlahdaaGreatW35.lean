/- Part of the proof. -/
import Derived.Test.YtohfkhjlnlahdaaGreatW29
import Derived.Test.YtohfkhjlnlahdaaGreatW34
import Derived.Test.YtohfkhjlnlahdaaGreatW27
import Derived.Test.YtohfkhjlnlahdaaGreatW24
import Derived.Test.YtohfkhjlnlahdaaGreatW31
import Derived.Test.YtohfkhjlnlahdaaGreatW30
import Derived.Test.YtohfkhjlnlahdaaGreatW33
set_option linter.all false
namespace Go.Proofs.YtohfkhjlnlahdaaGreat
open Go.RowKit Go.BigFrame
theorem moves_len {s:SesD} {x:PS} (hs:SesOk s) (hx:PSok s x):(movesP s x).length≤5000:=by
 have a1:=stepsMv_len hs hx (Nat.le_refl s.roles.length)
 have a2:=losesMv_len (x:=x) hs (Nat.le_refl s.roles.length)
 unfold movesP
 rw[List.length_append]
 exact Nat.le_trans (Nat.add_le_add a1 a2) (by decide)
set_option maxHeartbeats 4000000 in
set_option maxRecDepth 100000 in
theorem pDo_lose (s:SesD) (yb fb sb i k:Nat) (x:PS) (m:Mv) (w:World) (h:SyR w s yb fb) (hx:StR w s yb sb x) (hm:m∈movesP s x) (hi:i < s.roles.length) (hk:k < s.roles.length) (he:m=⟨2,i,k,0⟩) :
  Calls Tryz.prog 19 #[.pointer (some ⟨yb,0,none⟩),.pointer (some ⟨sb,0,none⟩),mvV m] w (RetV (StTo w s yb (nextP s x m))):=by
 have HEM:=Lib.hid he
 clear he
 have HF0:Hid (Frm [] w (w.alloc (.cells (encM m) 44))):=Lib.hid ((Frm.refl [] w).alloc _)
 have C1:=Lib.hid (pCheck_any s yb fb sb x _ (h.frm HF0.out) (hx.frm HF0.out))
 have CM:Hid (∀ V,Frm [] w V→Calls Tryz.prog 63 #[.pointer (some ⟨yb,0,none⟩),.pointer (some ⟨sb,0,none⟩)] V (RetV fun v w'=>Arr 4 MvAt w' v (movesP s x)∧Frm [] V w')):=Lib.hid fun V hV=>pmoves_any s yb fb sb x V (h.frm hV) (hx.frm hV)
 have HLN:Hid ((movesP s x).length≤5000):=Lib.hid (moves_len h.ok hx.ok)
 have HM:Hid (decide (m∈movesP s x)=true):=Lib.hid (decide_eq_true hm)
 have HS:Hid (∀ V,Frm [] (w.alloc (.cells (encM m) 44)) V→V.cell? ⟨w.heap.size,0,none⟩=some (.int .i64 m.kind)∧V.cell? ⟨w.heap.size,1,none⟩=some (.int .i64 m.role)∧V.cell? ⟨w.heap.size,2,none⟩=some (.int .i64 m.step)∧V.cell? ⟨w.heap.size,3,none⟩=some (.int .i64 m.place)):=Lib.hid fun V hV=>by
  have hb:=hV.at (heap_alloc_new w (.cells (encM m) 44)) (by simp)
  exact⟨cell_of hb 0,cell_of hb 1,cell_of hb 2,cell_of hb 3⟩
 have HSY:=Lib.hid h;have HST:=Lib.hid hx;have HNX:=Lib.hid (next_ok h.ok hx.ok hm)
 clear h hx hm
 go_enter Tryz.func19,Tryz.ntmps19
 go_upto_region 4 with (first
  | (go_at_call 61;go_must (refine C1.out.mono ?_;rintro e w' ⟨rfl,rfl⟩)))
 obtain⟨w0,hw0⟩:∃ w0,w.alloc (.cells (encM m) 44)=w0:=⟨_,rfl⟩
 rw[hw0] at HS HF0
 try rw[hw0]
 clear hw0 C1
 go_region_held3 (fun V=>V.cell? ⟨w.heap.size,0,none⟩=some (.int .i64 m.kind)∧V.cell? ⟨w.heap.size,1,none⟩=some (.int .i64 m.role)∧V.cell? ⟨w.heap.size,2,none⟩=some (.int .i64 m.step)∧V.cell? ⟨w.heap.size,3,none⟩=some (.int .i64 m.place))
  (first
   | exact HS.out _ ((Frm.refl [] w0).drew)
   | exact HS.out _ F1.out
   | exact HS.out _ F2.out)
  (first
   | (go_at_call 63;go_must (refine(CM.out _ HF0.out.drew).mono ?_;rintro e w1 ⟨u,rfl,ha,hf⟩;have F1:Hid (Frm [] w0 w1):=Lib.hid ((Frm.refl [] w0).drew.trans hf);obtain⟨am,cm,rfl⟩:=ha.shape;have CC:=Lib.hid (coMove_any _ _ m w1 ha HLN.out);rw[HM.out] at CC;clear ha hf))
   | (go_at_call 62;go_must (refine CC.out.mono ?_;rintro e w2 ⟨rfl,hf⟩;have F2:Hid (Frm [] w0 w2):=Lib.hid (F1.out.trans hf);clear hf)))
 have G2:Hid (Frm [] w w2):=Lib.hid (HF0.out.trans F2.out)
 have HS2:Hid (∀ V,Frm [] w2 V→V.cell? ⟨w.heap.size,0,none⟩=some (.int .i64 m.kind)∧V.cell? ⟨w.heap.size,1,none⟩=some (.int .i64 m.role)∧V.cell? ⟨w.heap.size,2,none⟩=some (.int .i64 m.step)∧V.cell? ⟨w.heap.size,3,none⟩=some (.int .i64 m.place)):=Lib.hid fun V hV=>HS.out V (F2.out.trans hV)
 clear F1 F2 CC CM HLN HS HF0
 have he:=HEM.out
 subst he
 clear HEM
 have CH:=Lib.hid (pChange_any s yb sb i k x w2 (HST.out.frm G2.out) hi hk HSY.out.ok.n4)
 obtain⟨c0,c1,c2,c3⟩:=HS2.out w2 (Frm.refl _ _)
 have HI:=Lib.hid hi;have HK:=Lib.hid hk
 clear hi hk
 go_wp2_with (first
  | (go_at_call 64;go_must (refine CH.out.mono ?_;rintro e w3 ⟨v,rfl,xb,ab,gb,rb,cb,F,rfl,hc⟩;have HC:=Lib.hid hc;clear hc))
  | (go_at_call 65;go_must (refine(lose_any cb s.cls s.cap (x.way i k) F w3 HC.out.chn).mono ?_;rintro e w4 ⟨rfl,ht⟩;have HT:=Lib.hid ht;clear ht)))
 go_ret2
 obtain⟨F',hc⟩:=HC.out.chan HT.out
 have ho:=HNX.out
 rw[next_lose] at ho ⊢
 have hs:=hc.str HST.out.ok HI.out HK.out ho
 exact⟨_,rfl,_,rfl,hs,G2.out.trans hc.fr⟩
set_option maxHeartbeats 8000000 in
set_option maxRecDepth 100000 in
theorem pDo_step (s:SesD) (yb fb sb i k:Nat) (x:PS) (m:Mv) (w:World) (h:SyR w s yb fb) (hx:StR w s yb sb x) (hm:m∈movesP s x) (hi:i < s.roles.length) (hk:k < (s.rol i).steps.length) (hm2:m∈stepMv s x i k) :
  Calls Tryz.prog 19 #[.pointer (some ⟨yb,0,none⟩),.pointer (some ⟨sb,0,none⟩),mvV m] w (RetV (StTo w s yb (nextP s x m))):=by
 have HMS:=Lib.hid (mem_stepMv hm2)
 have HI:=Lib.hid hi;have HK:=Lib.hid hk
 clear hm2 hi hk
 have HF0:Hid (Frm [] w (w.alloc (.cells (encM m) 44))):=Lib.hid ((Frm.refl [] w).alloc _)
 have C1:=Lib.hid (pCheck_any s yb fb sb x _ (h.frm HF0.out) (hx.frm HF0.out))
 have CM:Hid (∀ V,Frm [] w V→Calls Tryz.prog 63 #[.pointer (some ⟨yb,0,none⟩),.pointer (some ⟨sb,0,none⟩)] V (RetV fun v w'=>Arr 4 MvAt w' v (movesP s x)∧Frm [] V w')):=Lib.hid fun V hV=>pmoves_any s yb fb sb x V (h.frm hV) (hx.frm hV)
 have HLN:Hid ((movesP s x).length≤5000):=Lib.hid (moves_len h.ok hx.ok)
 have HM:Hid (decide (m∈movesP s x)=true):=Lib.hid (decide_eq_true hm)
 have HS:Hid (∀ V,Frm [] (w.alloc (.cells (encM m) 44)) V→V.cell? ⟨w.heap.size,0,none⟩=some (.int .i64 m.kind)∧V.cell? ⟨w.heap.size,1,none⟩=some (.int .i64 m.role)∧V.cell? ⟨w.heap.size,2,none⟩=some (.int .i64 m.step)∧V.cell? ⟨w.heap.size,3,none⟩=some (.int .i64 m.place)):=Lib.hid fun V hV=>by
  have hb:=hV.at (heap_alloc_new w (.cells (encM m) 44)) (by simp)
  exact⟨cell_of hb 0,cell_of hb 1,cell_of hb 2,cell_of hb 3⟩
 have HSY:=Lib.hid h;have HST:=Lib.hid hx;have HNX:=Lib.hid (next_ok h.ok hx.ok hm)
 clear h hx hm
 go_enter Tryz.func19,Tryz.ntmps19
 go_upto_region 4 with (first
  | (go_at_call 61;go_must (refine C1.out.mono ?_;rintro e w' ⟨rfl,rfl⟩)))
 obtain⟨w0,hw0⟩:∃ w0,w.alloc (.cells (encM m) 44)=w0:=⟨_,rfl⟩
 rw[hw0] at HS HF0
 try rw[hw0]
 clear hw0 C1
 go_region_held3 (fun V=>V.cell? ⟨w.heap.size,0,none⟩=some (.int .i64 m.kind)∧V.cell? ⟨w.heap.size,1,none⟩=some (.int .i64 m.role)∧V.cell? ⟨w.heap.size,2,none⟩=some (.int .i64 m.step)∧V.cell? ⟨w.heap.size,3,none⟩=some (.int .i64 m.place))
  (first
   | exact HS.out _ ((Frm.refl [] w0).drew)
   | exact HS.out _ F1.out
   | exact HS.out _ F2.out)
  (first
   | (go_at_call 63;go_must (refine(CM.out _ HF0.out.drew).mono ?_;rintro e w1 ⟨u,rfl,ha,hf⟩;have F1:Hid (Frm [] w0 w1):=Lib.hid ((Frm.refl [] w0).drew.trans hf);obtain⟨am,cm,rfl⟩:=ha.shape;have CC:=Lib.hid (coMove_any _ _ m w1 ha HLN.out);rw[HM.out] at CC;clear ha hf))
   | (go_at_call 62;go_must (refine CC.out.mono ?_;rintro e w2 ⟨rfl,hf⟩;have F2:Hid (Frm [] w0 w2):=Lib.hid (F1.out.trans hf);clear hf)))
 have G2:Hid (Frm [] w w2):=Lib.hid (HF0.out.trans F2.out)
 have HS2:Hid (∀ V,Frm [] w2 V→V.cell? ⟨w.heap.size,0,none⟩=some (.int .i64 m.kind)∧V.cell? ⟨w.heap.size,1,none⟩=some (.int .i64 m.role)∧V.cell? ⟨w.heap.size,2,none⟩=some (.int .i64 m.step)∧V.cell? ⟨w.heap.size,3,none⟩=some (.int .i64 m.place)):=Lib.hid fun V hV=>HS.out V (F2.out.trans hV)
 clear F1 F2 CC CM HLN HS HF0
 obtain⟨mk,mr,ms,hpb,hrest⟩:=HMS.out
 obtain⟨pl,hpl⟩:∃ pl,m.place=pl:=⟨_,rfl⟩
 have HME:Hid (m=⟨1,i,k,pl⟩):=Lib.hid (by obtain⟨a,b,c,d⟩:=m;simp only at mk mr ms hpl;subst mk mr ms hpl;rfl)
 clear HMS mk mr ms hpl hrest
 have hme:=HME.out
 subst hme
 clear HME
 have HS2:Hid (∀ V,Frm [] w2 V→V.cell? ⟨w.heap.size,0,none⟩=some (.int .i64 1)∧V.cell? ⟨w.heap.size,1,none⟩=some (.int .i64 i)∧V.cell? ⟨w.heap.size,2,none⟩=some (.int .i64 k)∧V.cell? ⟨w.heap.size,3,none⟩=some (.int .i64 pl)):=Lib.hid fun V hV=>HS2.out V hV
 obtain⟨rb0,ro0,rc0,sv,cv,tv,y1,hr⟩:=HSY.out.rol HI.out
 obtain⟨aa,ao,ac,bb,a1,hac⟩:=HST.out.act HI.out
 have HBK:=Lib.hid hac.bnk
 have HA0:Hid (∀ V,Frm [] w V→V.cell? ⟨sb,1,none⟩=some (.slice (some ⟨aa,ao,none⟩) s.roles.length ac)∧V.cell? ⟨aa,ao + i * 2 + 1,none⟩=some (.pointer (some ⟨bb,0,none⟩))):=Lib.hid fun V hV=>⟨hV.keep a1,hV.keep hac.c1⟩
 have hto:=(HSY.out.ok.stp HI.out HK.out).to
 obtain⟨pp,hpp,-⟩:=ixf_nat hto
 have HPB:=Lib.hid hpb
 have HOB0:Hid (okB (x.ctr s i) ((s.rol i).stp k)=true):=Lib.hid (by
  rw[okB_bank HSY.out.ok HST.out.ok HI.out HK.out]
  unfold possB at hpb
  simp only[Bool.and_eq_true] at hpb
  exact hpb.1)
 have HCO:=Lib.hid (ctr_ok HSY.out.ok HST.out.ok HI.out)
 have HHC0:=Lib.hid (ctr_has HSY.out.ok HST.out.ok HI.out HK.out)
 have HDB0:=Lib.hid (doC_bank HSY.out.ok HST.out.ok HI.out HK.out)
 have htt:=RolD.stp_some HK.out
 obtain⟨n,hn⟩:∃ n,s.roles.length=n:=⟨_,rfl⟩
 have HN:=Lib.hid hn
 have hin:(i:Int) < (n:Int):=by have:=HI.out;omega
 have hkl:(k:Int) < ((s.rol i).steps.length:Int):=by have:=HK.out;omega
 obtain⟨r,hrr⟩:∃ r,s.rol i=r:=⟨_,rfl⟩
 have HRR:=Lib.hid hrr
 obtain⟨t,ht⟩:∃ t,(s.rol i).stp k=t:=⟨_,rfl⟩
 have HT:=Lib.hid ht
 have HA:=HA0
 have HOB:=HOB0
 have HHC:=HHC0
 have HDB:=HDB0
 rw[hn] at HA y1
 rw[ht] at HOB HHC HDB hpp htt
 rw[hrr] at hr htt hkl hpp
 obtain⟨aS,cS,rfl⟩:=hr.r3.sts.shape
 obtain⟨aC,cC,rfl⟩:=hr.r3.ctrs.shape
 obtain⟨aT,cT,rfl⟩:=hr.r3.steps.shape
 obtain⟨tb,tq,rfl,k0,k1,k2,k3,k4,k5,k6,k7,k8⟩:=hr.r3.steps.get htt
 have CPl0:Hid (∀ V,Frm [] w V→Calls Tryz.prog 71 #[.agg #[.string r.name,.slice aS r.sts.length cS,.slice aC r.ctrs.length cC,.slice (some ⟨tb,tq,none⟩) r.steps.length cT],.string t.to] V (Ret (.int .i64 (pp:Int)) (Frm [] V))):=Lib.hid fun V hV=>by
  rw[← hpp]
  exact pPlace_any _ r t.to V ⟨_,_,_,rfl,hr.r3.frm hV⟩ (by have:=(HSY.out.ok.at HI.out).s24;rw[hrr] at this;omega)
 obtain⟨d0,d1,d2,d3,-⟩:=hr
 obtain⟨nS,hnS⟩:∃ a,r.sts.length=a:=⟨_,rfl⟩
 obtain⟨nC,hnC⟩:∃ a,r.ctrs.length=a:=⟨_,rfl⟩
 obtain⟨nT,hnT⟩:∃ a,r.steps.length=a:=⟨_,rfl⟩
 have CPl:=CPl0
 rw[hnS,hnC,hnT] at CPl
 rw[hnS] at d1
 rw[hnC] at d2
 rw[hnT] at d3 hkl
 have HPP:Hid ((stIx (s.rol i) ((s.rol i).stp k).to).toNat=pp):=Lib.hid (by rw[ht,hrr];show (ixf _ _).toNat=pp;rw[hpp];rfl)
 clear hpb a1 hac hto hpp htt hn hrr ht HA0 HOB0 HHC0 HDB0 CPl0 hnS hnC hnT
 have g:=G2.out
 replace y1:=g.keep y1;replace d0:=g.keep d0;replace d1:=g.keep d1;replace d2:=g.keep d2;replace d3:=g.keep d3
 have c0:=(HS2.out w2 (Frm.refl _ _)).1
 have c1:=(HS2.out w2 (Frm.refl _ _)).2.1
 have hl1:=cell_lt c0
 have hl2:=cell_lt y1
 have hl3:=cell_lt d0
 clear g
 go_upto_region 10 with fail
 go_cut [11] (fun s11 wc=>∃ q11,s11=.pointer (some ⟨q11,0,none⟩)∧wc.heap[q11]?=some (.cells #[.string r.name,.slice aS nS cS,.slice aC nC cC,.slice (some ⟨tb,tq,none⟩) nT cT] 87 (0,0))∧Frm [] w2 wc)
 case first =>
  go_region
  all_goals
   go_wp2
   go_meet
   refine⟨_,rfl,heap_alloc_new _ _,?_⟩
   first
    | exact((Frm.refl [] w2).alloc _).drew
    | exact((Frm.refl [] w2).drew).alloc _
    | exact(Frm.refl [] w2).alloc _
 case rest =>
  obtain⟨q11,rfl,hq,hf⟩:=hcut
  have FW:=Lib.hid hf
  have HQ:=Lib.hid hq
  have g:=G2.out.trans hf
  replace k0:=g.keep k0;replace k1:=g.keep k1;replace k2:=g.keep k2;replace k3:=g.keep k3;replace k4:=g.keep k4;replace k5:=g.keep k5;replace k6:=g.keep k6;replace k7:=g.keep k7;replace k8:=g.keep k8
  have e3:=cell_of hq 3
  have c2:=(HS2.out wc hf).2.2.1
  have hl5:=lt_of_block hq
  have hl6:=cell_lt c2
  clear g hq hf y1 d0 d1 d2 d3 c0 c1 hl1 hl2 hl3
  obtain⟨w5,hw5⟩:∃ w5,wc.alloc (.cells #[.string t.frm,.string t.to,.int .i64 t.kind,.string t.msg,.string t.peer,.string t.ctr,.int .i64 t.low,.int .i64 t.high,.int .i64 t.add] 137)=w5:=⟨_,rfl⟩
  have F5:Hid (Frm [] wc w5):=Lib.hid (by rw[← hw5];exact(Frm.refl _ _).alloc _)
  have B12:Hid (w5.heap[wc.heap.size]?=some (.cells #[.string t.frm,.string t.to,.int .i64 t.kind,.string t.msg,.string t.peer,.string t.ctr,.int .i64 t.low,.int .i64 t.high,.int .i64 t.add] 137 (0,0))):=Lib.hid (by rw[← hw5];exact heap_alloc_new _ _)
  have HE5:=Lib.hid hw5
  clear hw5
  go_upto_region 12 with fail
  rw[HE5.out]
  obtain⟨q12,hq12⟩:∃ q,wc.heap.size=q:=⟨_,rfl⟩
  rw[hq12] at B12 ⊢
  have K5:Hid (Frm [] w2 w5):=Lib.hid (FW.out.trans F5.out)
  have G5:Hid (Frm [] w w5):=Lib.hid (G2.out.trans K5.out)
  have HD11:Hid (∀ V,Frm [] w5 V→V.heap[q11]?=some (.cells #[.string r.name,.slice aS nS cS,.slice aC nC cC,.slice (some ⟨tb,tq,none⟩) nT cT] 87 (0,0))):=Lib.hid fun V hV=>(F5.out.trans hV).at HQ.out (by simp)
  have HD12:Hid (∀ V,Frm [] w5 V→V.heap[q12]?=some (.cells #[.string t.frm,.string t.to,.int .i64 t.kind,.string t.msg,.string t.peer,.string t.ctr,.int .i64 t.low,.int .i64 t.high,.int .i64 t.add] 137 (0,0))):=Lib.hid fun V hV=>hV.at B12.out (by simp)
  clear k0 k1 k2 k3 k4 k5 k6 k7 k8 e3 c2 hl5 hl6 HE5 hq12 B12 HQ F5 FW
  have CHi:=Lib.hid (pChange_any s yb sb i i x w5 (HST.out.frm G5.out) HI.out HI.out HSY.out.ok.n4)
  have KP:=Lib.hid (HSY.out.ok.stp HI.out HK.out)
  rw[HT.out] at KP
  have c1:=(HS2.out w5 K5.out).2.1
  go_upto_region 13 with (first
   | (go_at_call 64;go_must (refine CHi.out.mono ?_;rintro e w6 ⟨v,rfl,xb6,ab6,gb6,rb6,cb6,F6,rfl,hc⟩;have HC6:=Lib.hid hc;clear hc)))
  have G6:Hid (Frm [] w w6):=Lib.hid (G5.out.trans HC6.out.fr)
  have K6:Hid (Frm [] w2 w6):=Lib.hid (K5.out.trans HC6.out.fr)
  have J6:=Lib.hid HC6.out.fr
  have e2:=cell_of (HD12.out w6 J6.out) 2
  clear c1 CHi
  have hkk:t.kind=1∨t.kind=2∨(t.kind≠1∧t.kind≠2):=by omega
  have HB6:Hid (∀ V,Frm [] w6 V→V.cell? ⟨w.heap.size,1,none⟩=some (.int .i64 i)∧V.cell? ⟨w.heap.size,3,none⟩=some (.int .i64 pl)∧V.cell? ⟨q12,3,none⟩=some (.string t.msg)∧V.cell? ⟨q12,4,none⟩=some (.string t.peer)):=Lib.hid fun V hV=>⟨(HS2.out V (K6.out.trans hV)).2.1,(HS2.out V (K6.out.trans hV)).2.2.2,cell_of (HD12.out V (J6.out.trans hV)) 3,cell_of (HD12.out V (J6.out.trans hV)) 4⟩
  rcases hkk with k1 | k2 | ⟨k1,k2⟩
  ·have b1:(t.kind == 1)=true:=by simpa using k1
   have hpe:=HSY.out.ok.peer HI.out HK.out (by rw[HT.out];omega)
   have HNXT:Hid (nextP s x ⟨1,i,k,pl⟩={ pos:=x.pos.set i pp,vals:=x.vals.set i (bankDo (s.rol i).ctrs (x.bank i) t),ways:=setWay x.ways i (peerN s t) (putL s.cap (x.way i (peerN s t)) t.msg) }):=Lib.hid (by
    rw[next_step,HPP.out,HT.out,if_pos k1])
   rw[HT.out] at hpe
   obtain⟨p1,p2,p3⟩:=hpe
   obtain⟨p,hp⟩:∃ p,peerN s t=p:=⟨_,rfl⟩
   rw[hp] at p1 p2 p3 HNXT
   have CNm:Hid (∀ V,Frm [] w V→Calls Tryz.prog 66 #[.pointer (some ⟨yb,0,none⟩),.string t.peer] V (Ret (.int .i64 (p:Int)) (Frm [] V))):=Lib.hid fun V hV=>by
    rw[← p1]
    obtain⟨rv',q1,q2⟩:=(HSY.out.frm hV).out
    exact pNumber_any yb s rv' t.peer V (cell_of q1 1) q2 (by have:=HSY.out.ok.n4;omega)
   have HP2:=Lib.hid p2
   have hwl:=(HST.out.ok.wb i p HI.out p2)
   clear k1 p1 p2 p3 hp
   go_upto_region 15 with fail
   clear e2
   go_region_held3 (fun V=>V.cell? ⟨w.heap.size,1,none⟩=some (.int .i64 i)∧V.cell? ⟨q12,4,none⟩=some (.string t.peer))
    (first
     | exact⟨(HB6.out _ ((Frm.refl [] w6).drew)).1,(HB6.out _ ((Frm.refl [] w6).drew)).2.2.2⟩
     | exact⟨(HB6.out _ F67.out).1,(HB6.out _ F67.out).2.2.2⟩
     | exact⟨(HB6.out _ F68.out).1,(HB6.out _ F68.out).2.2.2⟩)
    (first
     | (go_at_call 66;go_must (refine(CNm.out _ (G6.out.drew)).mono ?_;rintro e w7 ⟨rfl,hf7⟩;have F67:Hid (Frm [] w6 w7):=Lib.hid ((Frm.refl [] w6).drew.trans hf7);have G7:Hid (Frm [] w w7):=Lib.hid (G6.out.trans F67.out);have CH7:=Lib.hid (pChange_any s yb sb i p x w7 (HST.out.frm G7.out) HI.out HP2.out HSY.out.ok.n4);clear hf7))
     | (go_at_call 64;go_must (refine CH7.out.mono ?_;rintro e w8 ⟨v,rfl,xb,ab,gb,rb,cb,F,rfl,hc⟩;have HC8:=Lib.hid hc;have F68:Hid (Frm [] w6 w8):=Lib.hid (F67.out.trans hc.fr);clear hc)))
   have z4:=(HB6.out w8 F68.out).2.2.1
   clear CNm
   clear CH7
   go_wp2_with (first
    | (go_at_call 67;go_must (refine(put_all cb s.cls s.cap (x.way i p) F t.msg w8 HC8.out.chn).mono ?_;rintro e w9 ⟨rfl,ht⟩;have HTO:=Lib.hid ht;clear ht)))
   obtain⟨F',hc9⟩:=HC8.out.chan HTO.out
   have J9:Hid (Frm [] w5 w9):=Lib.hid (J6.out.trans (F67.out.trans hc9.fr))
   have G9:Hid (Frm [] w w9):=Lib.hid (G5.out.trans J9.out)
   have K9:Hid (Frm [] w2 w9):=Lib.hid (K5.out.trans J9.out)
   clear HTO HC8 F67 F68 HB6 z4
   have HC:=Lib.hid hc9
   obtain⟨ca9,cg9,hx9⟩:=hc9.hx
   obtain⟨cur9,ha9⟩:=hc9.ha
   rw[HN.out] at hx9
   clear hc9
   go_upto_region 20 with fail
   have HB9:Hid (∀ V,Frm [] w9 V→V.cell? ⟨sb,1,none⟩=some (.slice (some ⟨aa,ao,none⟩) n ac)∧V.cell? ⟨aa,ao + i * 2 + 1,none⟩=some (.pointer (some ⟨bb,0,none⟩))∧V.cell? ⟨w.heap.size,1,none⟩=some (.int .i64 i)):=Lib.hid fun V hV=>⟨HA.out V (G9.out.trans hV) |>.1,HA.out V (G9.out.trans hV) |>.2,(HS2.out V (K9.out.trans hV)).2.1⟩
   refine wp_region_cqt 9 (by kernel_rfl) (by kernel_rfl) ?_
   simp only[List.take_succ_cons,List.take_zero,List.drop_succ_cons,List.drop_zero]
   repeat (first
    | go_big_quiet_skip
    | (refine wpQuiet_want (by rfl) (fun K hK=>?_)
       first
        | (refine quiet_move _ (by rfl) (hK _ ?_))
        | (refine quiet_assign _ (by rfl) (hK _ ?_))
        | (apply Exists.intro
           refine⟨fun w' hC=>?_,hK _ ?_⟩
           ·(unfold Oper.quietAt
             obtain⟨z1,z2,z3⟩:=HB9.out w' hC
             clear hC
             go_simp
             try exact⟨rfl,rfl⟩
             try rfl))
       clear hK K
       try simp only[nrm,Act.eval,nrq]))
   refine wpQuiet_nil ?_
   intro w10 hf10
   have HC10:=Lib.hid (HC.out.frm hf10)
   have CB:=Lib.hid (bCopy_to bb (x.ctr s i) w10 (HBK.out.frm (G9.out.trans hf10)) (by have:=(ctr_ok HSY.out.ok HST.out.ok HI.out).1;omega))
   have D12:=Lib.hid (HD12.out _ (J9.out.trans hf10))
   have J10:=Lib.hid (J9.out.trans hf10)
   have L10:=Lib.hid hf10
   clear hf10 HB9
   go_wp2_with (first
    | (go_at_call 69;go_must (refine CB.out.mono ?_;rintro e w11 ⟨v,rfl,b,g,rfl,hcp⟩;have HCP:=Lib.hid hcp;have d12:=hcp.frm.at D12.out (by simp);have e0:=cell_of d12 0;have e1:=cell_of d12 1;have e2:=cell_of d12 2;have e3:=cell_of d12 3;have e4:=cell_of d12 4;have e5:=cell_of d12 5;have e6:=cell_of d12 6;have e7:=cell_of d12 7;have e8:=cell_of d12 8;clear hcp d12))
    | (go_at_call 70;go_must (refine(bApply_any b g (x.ctr s i) t w11 HCP.out.bnk HCO.out HHC.out HOB.out).mono ?_;rintro e w12 ⟨rfl,hap⟩;have HAP:=Lib.hid hap;clear hap)))
   go_upto_region 22 with fail
   have s10:=HCP.out.frm.size
   have F12:Hid (Frm [] w10 w12):=Lib.hid (HCP.out.frm.then HAP.out.frm (by intro y hy;simp at hy;subst hy;exact .inr HCP.out.g))
   have HC12:=Lib.hid (HC10.out.frm F12.out)
   have J12:=Lib.hid (J10.out.trans F12.out)
   have x12:=(L10.out.trans F12.out).at hx9 (by simp)
   have hla:ab < w10.heap.size:=by have:=lt_of_block (L10.out.at ha9 (by simp));exact this
   have HNE:Hid (b≠ab∧g≠ab):=Lib.hid ⟨by have:=HCP.out.b;omega,by have:=HCP.out.g;omega⟩
   have HB12:Hid (∀ V,Frm [] w12 V→V.cell? ⟨xb,1,none⟩=some (.slice (some ⟨ab,0,none⟩) n ca9)∧V.cell? ⟨w.heap.size,1,none⟩=some (.int .i64 i)∧V.cell? ⟨q12,1,none⟩=some (.string t.to)):=Lib.hid fun V hV=>⟨hV.keep (cell_of x12 1),(HS2.out V ((K5.out.trans J12.out).trans hV)).2.1,cell_of (HD12.out V (J12.out.trans hV)) 1⟩
   have D11:=Lib.hid (HD11.out w12 J12.out)
   clear x12 hx9 ha9 hla
   refine wp_region_cqt 13 (by kernel_rfl) (by kernel_rfl) ?_
   simp only[List.take_succ_cons,List.take_zero,List.drop_succ_cons,List.drop_zero]
   repeat (first
    | go_big_quiet_skip
    | (refine wpQuiet_want (by rfl) (fun K hK=>?_)
       first
        | (refine quiet_move _ (by rfl) (hK _ ?_))
        | (refine quiet_assign _ (by rfl) (hK _ ?_))
        | (refine cq_call (.int .i64 (pp:Int)) 71 #[.agg #[.string r.name,.slice aS nS cS,.slice aC nC cC,.slice (some ⟨tb,tq,none⟩) nT cT],.string t.to] (fun w' hC=>?_) (fun w' hC=>Ret.cq (CPl.out w' ((G5.out.trans J12.out).trans hC)) (fun w'' h=>hC.trans h)) (hK _ ?_)
           ·go_simp)
        | (refine cq_row 87 _ rfl q11 rfl #[.string r.name,.slice aS nS cS,.slice aC nC cC,.slice (some ⟨tb,tq,none⟩) nT cT] 87 D11.out _ Tryz.underlying87 rfl (by kernel_rfl) (hK _ ?_))
        | (apply Exists.intro
           refine⟨fun w' hC=>?_,hK _ ?_⟩
           ·(unfold Oper.quietAt
             obtain⟨z1,z2,z3⟩:=HB12.out w' hC
             clear hC
             go_simp
             try exact⟨rfl,rfl⟩
             try rfl))
       clear hK K
       try simp only[nrm,Act.eval,nrq]))
   refine wpQuiet_nil ?_
   intro w13 hf13
   have hc13:=HC12.out.frm hf13
   have HC13:=Lib.hid hc13
   obtain⟨cur,ha⟩:=hc13.ha
   obtain⟨bx,a1,a2,-⟩:=hc13.act i HI.out
   have f1:=free_of ha (i * 2)
   have f2:=free_of ha (i * 2 + 1)
   have ob:=HAP.out.bnk.frm hf13 (by simp) (by simp)
   rw[HDB.out] at ob
   have HOB2:=Lib.hid ob
   clear hc13 ha ob hf13 HB12 D11
   go_wp2
   go_ret2
   obtain⟨r1,r2⟩:=HC13.out.step HST.out.ok HI.out HP2.out HI.out HOB2.out HNE.out.1 HNE.out.2 (p:=pp) (y:=nextP s x ⟨1,i,k,pl⟩) HNXT.out HNX.out
   exact⟨_,rfl,_,rfl,r1,G7.out.trans r2⟩
  ·have b1:(t.kind == 1)=false:=by rw[k2];rfl
   have b2:(t.kind == 2)=true:=by simpa using k2
   have hpe:=HSY.out.ok.peer HI.out HK.out (by rw[HT.out];omega)
   have HNXT:Hid (nextP s x ⟨1,i,k,pl⟩={ pos:=x.pos.set i pp,vals:=x.vals.set i (bankDo (s.rol i).ctrs (x.bank i) t),ways:=setWay x.ways (peerN s t) i (takeL s.cls (x.way (peerN s t) i) pl) }):=Lib.hid (by
    rw[next_step,HPP.out,HT.out,if_neg (by omega),if_pos k2])
   rw[HT.out] at hpe
   obtain⟨p1,p2,p3⟩:=hpe
   obtain⟨p,hp⟩:∃ p,peerN s t=p:=⟨_,rfl⟩
   rw[hp] at p1 p2 p3 HNXT
   have CNm:Hid (∀ V,Frm [] w V→Calls Tryz.prog 66 #[.pointer (some ⟨yb,0,none⟩),.string t.peer] V (Ret (.int .i64 (p:Int)) (Frm [] V))):=Lib.hid fun V hV=>by
    rw[← p1]
    obtain⟨rv',q1,q2⟩:=(HSY.out.frm hV).out
    exact pNumber_any yb s rv' t.peer V (cell_of q1 1) q2 (by have:=HSY.out.ok.n4;omega)
   have HP2:=Lib.hid p2
   clear k2 p1 p2 p3 hp
   go_upto_region 18 with fail
   clear e2
   go_region_held3 (fun V=>V.cell? ⟨w.heap.size,1,none⟩=some (.int .i64 i)∧V.cell? ⟨q12,4,none⟩=some (.string t.peer))
    (first
     | exact⟨(HB6.out _ ((Frm.refl [] w6).drew)).1,(HB6.out _ ((Frm.refl [] w6).drew)).2.2.2⟩
     | exact⟨(HB6.out _ F67.out).1,(HB6.out _ F67.out).2.2.2⟩
     | exact⟨(HB6.out _ F68.out).1,(HB6.out _ F68.out).2.2.2⟩)
    (first
     | (go_at_call 66;go_must (refine(CNm.out _ (G6.out.drew)).mono ?_;rintro e w7 ⟨rfl,hf7⟩;have F67:Hid (Frm [] w6 w7):=Lib.hid ((Frm.refl [] w6).drew.trans hf7);have G7:Hid (Frm [] w w7):=Lib.hid (G6.out.trans F67.out);have CH7:=Lib.hid (pChange_any s yb sb p i x w7 (HST.out.frm G7.out) HP2.out HI.out HSY.out.ok.n4);clear hf7))
     | (go_at_call 64;go_must (refine CH7.out.mono ?_;rintro e w8 ⟨v,rfl,xb,ab,gb,rb,cb,F,rfl,hc⟩;have HC8:=Lib.hid hc;have F68:Hid (Frm [] w6 w8):=Lib.hid (F67.out.trans hc.fr);clear hc)))
   have z4:=(HB6.out w8 F68.out).2.1
   clear CNm
   clear CH7
   go_wp2_with (first
    | (go_at_call 68;go_must (refine(take_any cb s.cls s.cap (x.way p i) F pl w8 HC8.out.chn).mono ?_;rintro e w9 ⟨rfl,ht⟩;have HTO:=Lib.hid ht;clear ht)))
   obtain⟨F',hc9⟩:=HC8.out.chan HTO.out
   have J9:Hid (Frm [] w5 w9):=Lib.hid (J6.out.trans (F67.out.trans hc9.fr))
   have G9:Hid (Frm [] w w9):=Lib.hid (G5.out.trans J9.out)
   have K9:Hid (Frm [] w2 w9):=Lib.hid (K5.out.trans J9.out)
   clear HTO HC8 F67 F68 HB6 z4
   have HC:=Lib.hid hc9
   obtain⟨ca9,cg9,hx9⟩:=hc9.hx
   obtain⟨cur9,ha9⟩:=hc9.ha
   rw[HN.out] at hx9
   clear hc9
   go_upto_region 20 with fail
   have HB9:Hid (∀ V,Frm [] w9 V→V.cell? ⟨sb,1,none⟩=some (.slice (some ⟨aa,ao,none⟩) n ac)∧V.cell? ⟨aa,ao + i * 2 + 1,none⟩=some (.pointer (some ⟨bb,0,none⟩))∧V.cell? ⟨w.heap.size,1,none⟩=some (.int .i64 i)):=Lib.hid fun V hV=>⟨HA.out V (G9.out.trans hV) |>.1,HA.out V (G9.out.trans hV) |>.2,(HS2.out V (K9.out.trans hV)).2.1⟩
   refine wp_region_cqt 9 (by kernel_rfl) (by kernel_rfl) ?_
   simp only[List.take_succ_cons,List.take_zero,List.drop_succ_cons,List.drop_zero]
   repeat (first
    | go_big_quiet_skip
    | (refine wpQuiet_want (by rfl) (fun K hK=>?_)
       first
        | (refine quiet_move _ (by rfl) (hK _ ?_))
        | (refine quiet_assign _ (by rfl) (hK _ ?_))
        | (apply Exists.intro
           refine⟨fun w' hC=>?_,hK _ ?_⟩
           ·(unfold Oper.quietAt
             obtain⟨z1,z2,z3⟩:=HB9.out w' hC
             clear hC
             go_simp
             try exact⟨rfl,rfl⟩
             try rfl))
       clear hK K
       try simp only[nrm,Act.eval,nrq]))
   refine wpQuiet_nil ?_
   intro w10 hf10
   have HC10:=Lib.hid (HC.out.frm hf10)
   have CB:=Lib.hid (bCopy_to bb (x.ctr s i) w10 (HBK.out.frm (G9.out.trans hf10)) (by have:=(ctr_ok HSY.out.ok HST.out.ok HI.out).1;omega))
   have D12:=Lib.hid (HD12.out _ (J9.out.trans hf10))
   have J10:=Lib.hid (J9.out.trans hf10)
   have L10:=Lib.hid hf10
   clear hf10 HB9
   go_wp2_with (first
    | (go_at_call 69;go_must (refine CB.out.mono ?_;rintro e w11 ⟨v,rfl,b,g,rfl,hcp⟩;have HCP:=Lib.hid hcp;have d12:=hcp.frm.at D12.out (by simp);have e0:=cell_of d12 0;have e1:=cell_of d12 1;have e2:=cell_of d12 2;have e3:=cell_of d12 3;have e4:=cell_of d12 4;have e5:=cell_of d12 5;have e6:=cell_of d12 6;have e7:=cell_of d12 7;have e8:=cell_of d12 8;clear hcp d12))
    | (go_at_call 70;go_must (refine(bApply_any b g (x.ctr s i) t w11 HCP.out.bnk HCO.out HHC.out HOB.out).mono ?_;rintro e w12 ⟨rfl,hap⟩;have HAP:=Lib.hid hap;clear hap)))
   go_upto_region 22 with fail
   have s10:=HCP.out.frm.size
   have F12:Hid (Frm [] w10 w12):=Lib.hid (HCP.out.frm.then HAP.out.frm (by intro y hy;simp at hy;subst hy;exact .inr HCP.out.g))
   have HC12:=Lib.hid (HC10.out.frm F12.out)
   have J12:=Lib.hid (J10.out.trans F12.out)
   have x12:=(L10.out.trans F12.out).at hx9 (by simp)
   have hla:ab < w10.heap.size:=by have:=lt_of_block (L10.out.at ha9 (by simp));exact this
   have HNE:Hid (b≠ab∧g≠ab):=Lib.hid ⟨by have:=HCP.out.b;omega,by have:=HCP.out.g;omega⟩
   have HB12:Hid (∀ V,Frm [] w12 V→V.cell? ⟨xb,1,none⟩=some (.slice (some ⟨ab,0,none⟩) n ca9)∧V.cell? ⟨w.heap.size,1,none⟩=some (.int .i64 i)∧V.cell? ⟨q12,1,none⟩=some (.string t.to)):=Lib.hid fun V hV=>⟨hV.keep (cell_of x12 1),(HS2.out V ((K5.out.trans J12.out).trans hV)).2.1,cell_of (HD12.out V (J12.out.trans hV)) 1⟩
   have D11:=Lib.hid (HD11.out w12 J12.out)
   clear x12 hx9 ha9 hla
   refine wp_region_cqt 13 (by kernel_rfl) (by kernel_rfl) ?_
   simp only[List.take_succ_cons,List.take_zero,List.drop_succ_cons,List.drop_zero]
   repeat (first
    | go_big_quiet_skip
    | (refine wpQuiet_want (by rfl) (fun K hK=>?_)
       first
        | (refine quiet_move _ (by rfl) (hK _ ?_))
        | (refine quiet_assign _ (by rfl) (hK _ ?_))
        | (refine cq_call (.int .i64 (pp:Int)) 71 #[.agg #[.string r.name,.slice aS nS cS,.slice aC nC cC,.slice (some ⟨tb,tq,none⟩) nT cT],.string t.to] (fun w' hC=>?_) (fun w' hC=>Ret.cq (CPl.out w' ((G5.out.trans J12.out).trans hC)) (fun w'' h=>hC.trans h)) (hK _ ?_)
           ·go_simp)
        | (refine cq_row 87 _ rfl q11 rfl #[.string r.name,.slice aS nS cS,.slice aC nC cC,.slice (some ⟨tb,tq,none⟩) nT cT] 87 D11.out _ Tryz.underlying87 rfl (by kernel_rfl) (hK _ ?_))
        | (apply Exists.intro
           refine⟨fun w' hC=>?_,hK _ ?_⟩
           ·(unfold Oper.quietAt
             obtain⟨z1,z2,z3⟩:=HB12.out w' hC
             clear hC
             go_simp
             try exact⟨rfl,rfl⟩
             try rfl))
       clear hK K
       try simp only[nrm,Act.eval,nrq]))
   refine wpQuiet_nil ?_
   intro w13 hf13
   have hc13:=HC12.out.frm hf13
   have HC13:=Lib.hid hc13
   obtain⟨cur,ha⟩:=hc13.ha
   obtain⟨bx,a1,a2,-⟩:=hc13.act i HI.out
   have f1:=free_of ha (i * 2)
   have f2:=free_of ha (i * 2 + 1)
   have ob:=HAP.out.bnk.frm hf13 (by simp) (by simp)
   rw[HDB.out] at ob
   have HOB2:=Lib.hid ob
   clear hc13 ha ob hf13 HB12 D11
   go_wp2
   go_ret2
   obtain⟨r1,r2⟩:=HC13.out.step HST.out.ok HP2.out HI.out HI.out HOB2.out HNE.out.1 HNE.out.2 (p:=pp) (y:=nextP s x ⟨1,i,k,pl⟩) HNXT.out HNX.out
   exact⟨_,rfl,_,rfl,r1,G7.out.trans r2⟩
  ·have b1:(t.kind == 1)=false:=by simpa using k1
   have b2:(t.kind == 2)=false:=by simpa using k2
   have HNXT:Hid (nextP s x ⟨1,i,k,pl⟩={ pos:=x.pos.set i pp,vals:=x.vals.set i (bankDo (s.rol i).ctrs (x.bank i) t),ways:=setWay x.ways i i (x.way i i) }):=Lib.hid (by
    rw[next_step,HPP.out,HT.out,if_neg k1,if_neg k2]
    unfold PS.way
    rw[setWay_self (by rw[HST.out.ok.wl];exact HI.out) (by rw[HST.out.ok.wr i HI.out];exact HI.out)])
   clear k1 k2
   obtain⟨w9,hw9⟩:∃ w9,w9=w6:=⟨_,rfl⟩
   subst hw9
   have hc9:=HC6.out
   have J9:=J6
   have G9:=G6
   have K9:=K6
   clear HB6
   have HC:=Lib.hid hc9
   obtain⟨ca9,cg9,hx9⟩:=hc9.hx
   obtain⟨cur9,ha9⟩:=hc9.ha
   rw[HN.out] at hx9
   clear hc9
   go_upto_region 20 with fail
   have HB9:Hid (∀ V,Frm [] w9 V→V.cell? ⟨sb,1,none⟩=some (.slice (some ⟨aa,ao,none⟩) n ac)∧V.cell? ⟨aa,ao + i * 2 + 1,none⟩=some (.pointer (some ⟨bb,0,none⟩))∧V.cell? ⟨w.heap.size,1,none⟩=some (.int .i64 i)):=Lib.hid fun V hV=>⟨HA.out V (G9.out.trans hV) |>.1,HA.out V (G9.out.trans hV) |>.2,(HS2.out V (K9.out.trans hV)).2.1⟩
   refine wp_region_cqt 9 (by kernel_rfl) (by kernel_rfl) ?_
   simp only[List.take_succ_cons,List.take_zero,List.drop_succ_cons,List.drop_zero]
   repeat (first
    | go_big_quiet_skip
    | (refine wpQuiet_want (by rfl) (fun K hK=>?_)
       first
        | (refine quiet_move _ (by rfl) (hK _ ?_))
        | (refine quiet_assign _ (by rfl) (hK _ ?_))
        | (apply Exists.intro
           refine⟨fun w' hC=>?_,hK _ ?_⟩
           ·(unfold Oper.quietAt
             obtain⟨z1,z2,z3⟩:=HB9.out w' hC
             clear hC
             go_simp
             try exact⟨rfl,rfl⟩
             try rfl))
       clear hK K
       try simp only[nrm,Act.eval,nrq]))
   refine wpQuiet_nil ?_
   intro w10 hf10
   have HC10:=Lib.hid (HC.out.frm hf10)
   have CB:=Lib.hid (bCopy_to bb (x.ctr s i) w10 (HBK.out.frm (G9.out.trans hf10)) (by have:=(ctr_ok HSY.out.ok HST.out.ok HI.out).1;omega))
   have D12:=Lib.hid (HD12.out _ (J9.out.trans hf10))
   have J10:=Lib.hid (J9.out.trans hf10)
   have L10:=Lib.hid hf10
   clear hf10 HB9
   go_wp2_with (first
    | (go_at_call 69;go_must (refine CB.out.mono ?_;rintro e w11 ⟨v,rfl,b,g,rfl,hcp⟩;have HCP:=Lib.hid hcp;have d12:=hcp.frm.at D12.out (by simp);have e0:=cell_of d12 0;have e1:=cell_of d12 1;have e2:=cell_of d12 2;have e3:=cell_of d12 3;have e4:=cell_of d12 4;have e5:=cell_of d12 5;have e6:=cell_of d12 6;have e7:=cell_of d12 7;have e8:=cell_of d12 8;clear hcp d12))
    | (go_at_call 70;go_must (refine(bApply_any b g (x.ctr s i) t w11 HCP.out.bnk HCO.out HHC.out HOB.out).mono ?_;rintro e w12 ⟨rfl,hap⟩;have HAP:=Lib.hid hap;clear hap)))
   go_upto_region 22 with fail
   have s10:=HCP.out.frm.size
   have F12:Hid (Frm [] w10 w12):=Lib.hid (HCP.out.frm.then HAP.out.frm (by intro y hy;simp at hy;subst hy;exact .inr HCP.out.g))
   have HC12:=Lib.hid (HC10.out.frm F12.out)
   have J12:=Lib.hid (J10.out.trans F12.out)
   have x12:=(L10.out.trans F12.out).at hx9 (by simp)
   have hla:ab6 < w10.heap.size:=by have:=lt_of_block (L10.out.at ha9 (by simp));exact this
   have HNE:Hid (b≠ab6∧g≠ab6):=Lib.hid ⟨by have:=HCP.out.b;omega,by have:=HCP.out.g;omega⟩
   have HB12:Hid (∀ V,Frm [] w12 V→V.cell? ⟨xb6,1,none⟩=some (.slice (some ⟨ab6,0,none⟩) n ca9)∧V.cell? ⟨w.heap.size,1,none⟩=some (.int .i64 i)∧V.cell? ⟨q12,1,none⟩=some (.string t.to)):=Lib.hid fun V hV=>⟨hV.keep (cell_of x12 1),(HS2.out V ((K5.out.trans J12.out).trans hV)).2.1,cell_of (HD12.out V (J12.out.trans hV)) 1⟩
   have D11:=Lib.hid (HD11.out w12 J12.out)
   clear x12 hx9 ha9 hla
   refine wp_region_cqt 13 (by kernel_rfl) (by kernel_rfl) ?_
   simp only[List.take_succ_cons,List.take_zero,List.drop_succ_cons,List.drop_zero]
   repeat (first
    | go_big_quiet_skip
    | (refine wpQuiet_want (by rfl) (fun K hK=>?_)
       first
        | (refine quiet_move _ (by rfl) (hK _ ?_))
        | (refine quiet_assign _ (by rfl) (hK _ ?_))
        | (refine cq_call (.int .i64 (pp:Int)) 71 #[.agg #[.string r.name,.slice aS nS cS,.slice aC nC cC,.slice (some ⟨tb,tq,none⟩) nT cT],.string t.to] (fun w' hC=>?_) (fun w' hC=>Ret.cq (CPl.out w' ((G5.out.trans J12.out).trans hC)) (fun w'' h=>hC.trans h)) (hK _ ?_)
           ·go_simp)
        | (refine cq_row 87 _ rfl q11 rfl #[.string r.name,.slice aS nS cS,.slice aC nC cC,.slice (some ⟨tb,tq,none⟩) nT cT] 87 D11.out _ Tryz.underlying87 rfl (by kernel_rfl) (hK _ ?_))
        | (apply Exists.intro
           refine⟨fun w' hC=>?_,hK _ ?_⟩
           ·(unfold Oper.quietAt
             obtain⟨z1,z2,z3⟩:=HB12.out w' hC
             clear hC
             go_simp
             try exact⟨rfl,rfl⟩
             try rfl))
       clear hK K
       try simp only[nrm,Act.eval,nrq]))
   refine wpQuiet_nil ?_
   intro w13 hf13
   have hc13:=HC12.out.frm hf13
   have HC13:=Lib.hid hc13
   obtain⟨cur,ha⟩:=hc13.ha
   obtain⟨bx,a1,a2,-⟩:=hc13.act i HI.out
   have f1:=free_of ha (i * 2)
   have f2:=free_of ha (i * 2 + 1)
   have ob:=HAP.out.bnk.frm hf13 (by simp) (by simp)
   rw[HDB.out] at ob
   have HOB2:=Lib.hid ob
   clear hc13 ha ob hf13 HB12 D11
   go_wp2
   go_ret2
   obtain⟨r1,r2⟩:=HC13.out.step HST.out.ok HI.out HI.out HI.out HOB2.out HNE.out.1 HNE.out.2 (p:=pp) (y:=nextP s x ⟨1,i,k,pl⟩) HNXT.out HNX.out
   exact⟨_,rfl,_,rfl,r1,G5.out.trans r2⟩
end Go.Proofs.YtohfkhjlnlahdaaGreat
namespace Go.Proofs.YtohfkhjlnlahdaaGreat
open Go.RowKit Go.BigFrame
abbrev kR (s:SesD) (x:PS) (i:Nat):List UInt8:=cat (keyRole x) i
theorem two_len (l:List Int):(l.flatMap two).length=l.length * 2:=by
 induction l with
 | nil=>rfl
 | cons v l ih=>rw[List.flatMap_cons,List.length_append,ih];simp[two];omega
theorem kR_len {s:SesD} {x:PS} (hs:SesOk s) (hx:PSok s x) {i:Nat} (hi:i≤s.roles.length):(kR s x i).length≤100:=by
 have h1:=cat_len (n:=i) (f:=keyRole x) (c:=9) (fun k hk=>by
  have h1:=(hx.vb k (by omega)).1
  have h2:=(hs.at (show k < s.roles.length by omega)).c4
  unfold keyRole
  rw[List.length_cons,two_len];omega)
 have:=hs.n4
 show (cat (keyRole x) i).length≤100
 omega
def ctB (l:List (CtrD × Int)):List UInt8:=l.flatMap fun c=>two c.2
theorem ctB_ctr {s:SesD} {x:PS} (hx:PSok s x) {i:Nat} (hi:i < s.roles.length):keyRole x i=UInt8.ofNat (x.at i) :: ctB (x.ctr s i):=by
 unfold keyRole ctB PS.ctr
 have h1:=(hx.vb i hi).1
 have:∀ (A:List CtrD) (B:List Int),B.length=A.length→B.flatMap two=(A.zip B).flatMap fun c=>two c.2:=by
  intro A
  induction A with
  | nil=>intro B h;rw[List.length_eq_zero_iff.1 h];rfl
  | cons a A ih =>
    intro B h
    cases B with
    | nil=>simp at h
    | cons b B=>rw[List.zip_cons_cons,List.flatMap_cons,List.flatMap_cons,ih B (by simpa using h)]
 rw[this _ _ h1]
theorem ctB_snoc (l:List (CtrD × Int)) (c:CtrD × Int):ctB (l ++ [c])=ctB l ++ two c.2:=by unfold ctB;rw[List.flatMap_append];simp
theorem ctB_len (l:List (CtrD × Int)):(ctB l).length=l.length * 2:=by
 induction l with
 | nil=>rfl
 | cons v l ih=>show (two v.2 ++ ctB l).length=_;rw[List.length_append,ih];simp[two];omega
theorem ctr_vals {s:SesD} {x:PS} (hs:SesOk s) (hx:PSok s x) {i:Nat} (hi:i < s.roles.length):∀ c∈x.ctr s i,0≤c.2∧c.2≤1000:=by
 intro c hc
 obtain⟨k,hk⟩:=List.getElem?_of_mem hc
 unfold PS.ctr at hk
 rw[List.getElem?_zip_eq_some] at hk
 have h1:=(hx.vb i hi).2 k _ hk.1
 have h2:=(hs.at hi).cN _ (List.mem_of_getElem? hk.1)
 rw[List.getD_eq_getElem?_getD,hk.2] at h1
 simp only[Option.getD_some] at h1
 omega
abbrev wRow (s:SesD) (x:PS) (a:Nat):List UInt8:=cat (keyWay s x a) s.roles.length
abbrev uL (l:List UInt8):List Value:=l.map u8
theorem two_u8 {v:Int} (h0:0≤v) (h1:v≤65535):(two v).map u8=[.int .u8 (v / 256),.int .u8 (v % 256)]:=by
 have:=two_wrap h0 h1
 unfold two
 rw[List.map_cons,List.map_cons,List.map_nil,this.1,this.2]
theorem u8c (n:Nat) (h:n < 256):[Value.int .u8 (n:Int)]=[UInt8.ofNat n].map u8:=by rw[List.map_cons,at_wrap h];rfl
theorem uLc (n:Nat) (h:n < 256):uL [UInt8.ofNat n]=[Value.int .u8 (n:Int)]:=(u8c n h).symm
theorem kW_len {s:SesD} {x:PS} (hs:SesOk s) (hx:PSok s x) {a c:Nat} (ha:a < s.roles.length) (hc:c < s.roles.length):(keyWay s x a c).length≤133:=by
 unfold keyWay
 split
 ·simp
 ·have h1:=hx.wb a c ha hc
  have h2:=keyB_size (keyL s.cls (x.way a c)) (fun m hm=>(h1.2 m (keyL_mem hm)).2)
  rw[keyL_length] at h2
  have h3:(byt (keyB (keyL s.cls (x.way a c)))).length=(keyB (keyL s.cls (x.way a c))).size:=by unfold byt;simp
  have:=hs.k4
  rw[List.length_cons,h3];omega
theorem kRow_len {s:SesD} {x:PS} (hs:SesOk s) (hx:PSok s x) {a c:Nat} (ha:a < s.roles.length) (hc:c≤s.roles.length):(cat (keyWay s x a) c).length≤532:=by
 have h1:=cat_len (n:=c) (f:=keyWay s x a) (c:=133) (fun k hk=>kW_len hs hx ha (by omega))
 have:=hs.n4
 omega
theorem kRows_len {s:SesD} {x:PS} (hs:SesOk s) (hx:PSok s x) {a:Nat} (ha:a≤s.roles.length):(cat (fun a=>cat (keyWay s x a) s.roles.length) a).length≤2128:=by
 have h1:=cat_len (n:=a) (f:=fun a=>cat (keyWay s x a) s.roles.length) (c:=532) (fun k hk=>kRow_len hs hx (by omega) (Nat.le_refl _))
 have:=hs.n4
 omega
theorem key_end {w W:World} {ds:List Nat} {b:ByteArray} {fn:Func} {tmps:Array Value} (hf:Frm [] w W) (hm:Ms w ds W) (hr:∀ V:World,(results fn tmps).run Tryz.prog V=.ok (.string b) V) :
  LeavesInM Fence.wide 3 Tryz.prog fn tmps (RetV fun v w'=>v=.string b∧Frm [] w w') (marks ds) .returning W:=
 leaves_many ds W hm.nd (fun D hD=>(hm.dl D hD).2) ⟨_,hr _,_,rfl,rfl,hf.then (unmark_frm ds W) (fun D hD=>.inr (hm.dl D hD).1)⟩
attribute [local go_sem] Oper.semAt_some
set_option maxHeartbeats 8000000 in
set_option maxRecDepth 100000 in
theorem pKey_any (s:SesD) (yb fb sb:Nat) (x:PS) (w:World) (h:SyR w s yb fb) (hx:StR w s yb sb x) :
  Calls Tryz.prog 48 #[.pointer (some ⟨sb,0,none⟩)] w (RetV fun v w'=>v=.string ⟨(keyP s x).toArray⟩∧Frm [] w w'):=by
 have HSY:=Lib.hid h;have HST:=Lib.hid hx
 have CN:=Lib.hid (pSnone_any s yb sb x w hx)
 obtain⟨n,hn⟩:∃ n,s.roles.length=n:=⟨_,rfl⟩
 obtain⟨av,wv,h1,h2,h3⟩:=hx.out
 obtain⟨ra,rc,rfl⟩:=h2.shape
 obtain⟨rwy,rcw,rfl⟩:=h3.shape
 rw[actsP_len,hx.ok.wl,hn] at h1
 have y1:=cell_of h1 1
 have hl0:=lt_of_block h1
 have HY1:Hid (∀ V,Frm [] w V→V.cell? ⟨sb,1,none⟩=some (.slice ra n rc)∧V.cell? ⟨sb,2,none⟩=some (.slice rwy n rcw)):=Lib.hid fun V hV=>⟨hV.keep y1,hV.keep (cell_of h1 2)⟩
 have HN:=Lib.hid hn
 have hn4:n≤4:=by rw[← hn];exact h.ok.n4
 have HWI:Hid (∀ i:Nat,i < n→wrap64 ((i:Int) + 1)=((i + 1:Nat):Int)):=Lib.hid fun i hi=>by unfold wrap64;omega
 clear h h1 h2 h3 hx hn hn4
 refine calls_of_marks Tryz.func48 rfl ?_
 simp only[Tryz.ntmps48,List.size_toArray,List.length_cons,List.length_nil,Nat.reduceAdd,Nat.reduceSub,Array.replicate_succ,Array.replicate_zero,List.push_toArray,List.append_toArray,List.nil_append,List.cons_append]
 go_wp2_with (go_at_call 101;go_must (refine CN.out.mono ?_;rintro e w' ⟨rfl,rfl⟩))
 have HM0:Hid (YB w w.heap.size [] (w.alloc (.cells #[.slice none 0 0] 26))):=Lib.hid (BO.made w _ _ _ ((Frm.refl [] w).alloc _) (Nat.le_refl _) (heap_alloc_new _ _))
 clear y1
 refine wp_loop (fun a' w'=>∃ ds,∃ u5 u6 u7 u19 u20 u21 u22 u23 u24 u25 u26 u27 u28 u29 u30 u31 u32 u33 u34 u35 u36 u37 u38 u39 u40 u41 u42:Value,(fun ds u19 w'=>∃ i:Nat,u19=.int .i64 (i:Int)∧i≤n∧YB w w.heap.size (kR s x i) w'∧Ms w ds w') ds u19 w'∧a'={ tmps:=#[.pointer (some ⟨sb,0,none⟩),undef,.string ⟨#[]⟩,.pointer (some ⟨w.heap.size,0,none⟩),undef,u5,u6,u7,undef,undef,undef,undef,.pointer (some ⟨sb,0,none⟩),.bool false,.pointer (some ⟨sb,0,none⟩),.pointer (some ⟨sb,0,none⟩),.pointer (some ⟨sb,1,none⟩),.slice ra n rc,.int .i64 (n:Int),u19,u20,u21,u22,u23,u24,u25,u26,u27,u28,u29,u30,u31,u32,u33,u34,u35,u36,u37,u38,u39,u40,u41,u42,undef,undef,undef,undef,undef,undef,undef,undef,undef,undef,undef,undef,undef,undef,undef,undef,undef,undef,undef,undef,undef,undef,undef,undef,undef,undef,undef,undef,undef,undef,undef,undef,undef],defers:=marks ds }) (fun a' _=>n - (intOf (a'.tmps.getD 19 undef)).toNat) ?_ ?_
 ·refine⟨[],?_⟩
  (repeat apply Exists.intro)
  exact⟨⟨0,rfl,Nat.zero_le _,HM0.out,Ms.nil _ _⟩,rfl⟩
 intro a' wr hinv
 obtain⟨ds,hinv⟩:=hinv
 obtain⟨u5,hinv⟩:=hinv
 obtain⟨u6,hinv⟩:=hinv
 obtain⟨u7,hinv⟩:=hinv
 obtain⟨u19,hinv⟩:=hinv
 obtain⟨u20,hinv⟩:=hinv
 obtain⟨u21,hinv⟩:=hinv
 obtain⟨u22,hinv⟩:=hinv
 obtain⟨u23,hinv⟩:=hinv
 obtain⟨u24,hinv⟩:=hinv
 obtain⟨u25,hinv⟩:=hinv
 obtain⟨u26,hinv⟩:=hinv
 obtain⟨u27,hinv⟩:=hinv
 obtain⟨u28,hinv⟩:=hinv
 obtain⟨u29,hinv⟩:=hinv
 obtain⟨u30,hinv⟩:=hinv
 obtain⟨u31,hinv⟩:=hinv
 obtain⟨u32,hinv⟩:=hinv
 obtain⟨u33,hinv⟩:=hinv
 obtain⟨u34,hinv⟩:=hinv
 obtain⟨u35,hinv⟩:=hinv
 obtain⟨u36,hinv⟩:=hinv
 obtain⟨u37,hinv⟩:=hinv
 obtain⟨u38,hinv⟩:=hinv
 obtain⟨u39,hinv⟩:=hinv
 obtain⟨u40,hinv⟩:=hinv
 obtain⟨u41,hinv⟩:=hinv
 obtain⟨u42,hinv⟩:=hinv
 obtain⟨hrel,ha⟩:=hinv
 subst ha
 try dsimp only
 clear HM0
 obtain⟨i,rfl,hi,hmb,hms⟩:=hrel
 have HM:=Lib.hid hmb;have HMS:=Lib.hid hms
 clear hmb hms
 by_cases hlt:i < n
 ·have hlt':(i:Int) < (n:Int):=by omega
  have hin:i < s.roles.length:=by rw[HN.out];exact hlt
  obtain⟨ab,ao,cap,bb,y1,hac⟩:=HST.out.act hin
  have HIN:=Lib.hid hin
  rw[HN.out] at y1
  have y1':=(HY1.out w (Frm.refl _ _)).1
  rw[y1] at y1'
  simp only[Option.some.injEq,Value.slice.injEq,true_and] at y1'
  obtain⟨rfl,rfl⟩:=y1'
  have HAC:=Lib.hid (hac.frm HM.out.fr)
  obtain⟨p,hp⟩:∃ p,x.at i=p:=⟨_,rfl⟩
  have hpb:p < 24:=by have:=HST.out.ok.pb i hin;have:=(HSY.out.ok.at hin).s24;omega
  rw[hp] at HAC
  have d0:=HAC.out.c0
  have d1:=HAC.out.c1
  obtain⟨L0,hL0⟩:∃ L0,kR s x i=L0:=⟨_,rfl⟩
  rw[hL0] at HM
  have HL0:=Lib.hid hL0
  have hlen:L0.length≤100:=by rw[← hL0];exact kR_len HSY.out.ok HST.out.ok (by omega)
  obtain⟨aob,cpb,hb1,hb2⟩:=HM.out.bx
  have cx:=cell_of hb1 0
  have HB1:=Lib.hid hb1;have HB2:=Lib.hid hb2
  have hw8:IntKind.u8.wrap (p:Int)=(p:Int):=wrap_small (by omega) (by omega)
  have hac0:=HST.out.act hin
  have HBK:Hid (∀ V,Frm [] w V→Bnk V bb (x.ctr s i)):=Lib.hid fun V hV=>hac.bnk.frm hV
  obtain⟨l,hl⟩:∃ l,x.ctr s i=l:=⟨_,rfl⟩
  have hl4:l.length≤4:=by
   rw[← hl]
   have h1:=(HSY.out.ok.at hin).c4
   unfold PS.ctr
   rw[List.length_zip];omega
  have HCV:Hid (∀ c∈l,0≤c.2∧c.2≤1000):=Lib.hid (by rw[← hl];exact ctr_vals HSY.out.ok HST.out.ok hin)
  have HKR:Hid (kR s x (i + 1)=L0 ++ ([UInt8.ofNat p] ++ ctB l)):=Lib.hid (by
   show cat (keyRole x) i ++ keyRole x i=_
   rw[ctB_ctr HST.out.ok hin,hp,hl,← hL0];rfl)
  rw[hl] at HBK
  have HL4:=Lib.hid hl4
  clear hin hac hac0 hp hL0 hb1 hb2 y1 hl HAC hl4
  obtain⟨V0,hV0⟩:∃ V0,wr.alloc (.cells #[.int .i64 (p:Int),.pointer (some ⟨bb,0,none⟩)] 143)=V0:=⟨_,rfl⟩
  have F0:Hid (Frm [] wr V0):=Lib.hid (by rw[← hV0];exact(Frm.refl [] wr).alloc _)
  have Q5:Hid (V0.heap[wr.heap.size]?=some (.cells #[.int .i64 (p:Int),.pointer (some ⟨bb,0,none⟩)] 143 (0,0))):=Lib.hid (by rw[← hV0];exact alloc_top rfl)
  have M0:=Lib.hid (HM.out.frm F0.out)
  have MS0:=Lib.hid (HMS.out.frm F0.out)
  obtain⟨i0,hi0,hz0,hz1,hz2⟩:=info_parts Tryz.info5
  replace cx:=F0.out.keep cx
  have q0:=cell_of Q5.out 0
  have HB1':=Lib.hid (F0.out.at HB1.out (by simp))
  have HB2':=Lib.hid (F0.out.owns HB2.out (by simp))
  have hsz:w.heap.size≤(V0.alloc (.cells #[.int .u8 (p:Int)] 5)).heap.size:=by have:=M0.out.fr.size;simp;omega
  have hpb':p < 256:=by omega
  go_upto_region 8 with (at_builtin;refine wpList_append_own_at _ rfl _ _ 26 rfl w.heap.size 5 i0 (.int .u8 0) 1 1 Tryz.underlying26 hi0 hz0 hz1 hz2 rfl (by decide) (.slice aob L0.length cpb) L0.length (L0.map u8) rfl (HB2'.out.alloc _) ⟨V0.heap.size,0,none⟩ 1 1 ([UInt8.ofNat p].map u8) rfl rfl (by rw[← u8c p hpb'];exact new_row _ _ _) (by simp[u8,Value.oneCell']) (by unfold maxLen;omega) (by omega) hsz ?_;intro v' w6 hown' hgrow _ _;obtain⟨ao',cp',rfl⟩:=own_shape hown';have hbx:=BO.facts HB1'.out HB2'.out (by decide) hgrow;have cx6:=cell_of hbx 0;have fx6:=free_of hbx 0;have HG:=Lib.hid hgrow;have HO:=Lib.hid hown';clear hgrow hown' hbx cx)
  have h9:=YB.add (M:=[UInt8.ofNat p]) M0.out HB1'.out HB2'.out HG.out rfl HO.out
  obtain⟨W6,hW6⟩:∃ W6,w6.setCell ⟨w.heap.size,0,none⟩ (.slice ao' (L0.length + 1) cp')=W6:=⟨_,rfl⟩
  try rw[hW6] at h9 ⊢
  have M6:=Lib.hid h9.1
  have MS6:=Lib.hid (MS0.out.kt h9.2)
  have Q56:=Lib.hid (h9.2.cells Q5.out (by decide))
  have q1:=cell_of Q56.out 1
  have CB:=Lib.hid (bCounters_any bb l W6 (HBK.out W6 M6.out.fr) (by have:=HL4.out;omega))
  clear h9 hW6 HG HO HB1 HB2 HB1' HB2' M0 MS0 cx6 fx6 HBK hw8 hsz
  go_wp2_with (first
   | (go_at_call 102;go_must (refine CB.out.mono ?_;rintro e w5 ⟨v,rfl,⟨B,lv,rfl,hcr⟩⟩;have HCR:=Lib.hid hcr;clear hcr)))
  have f5:=HCR.out.2.1
  have hit:=bc_iter B lv l (by have:=HL4.out;omega)
  have M5:=Lib.hid (M6.out.frm f5)
  have MS5:=Lib.hid (MS6.out.frm f5)
  clear f5 CB q1
  obtain⟨L1,hL1⟩:∃ L1,L0 ++ [UInt8.ofNat p]=L1:=⟨_,rfl⟩
  rw[hL1] at M5
  have hlen1:L1.length≤101:=by rw[← hL1,List.length_append];simp;omega
  have HLen1:=Lib.hid hlen1;have HL1:=Lib.hid hL1
  clear hlen1 hL1 hlen
  refine wp_rangeList rfl (enters_of Tryz.func153 (by kernel_rfl) rfl) hit (fun _=>rfl) (fun pre W=>YB w w.heap.size (L1 ++ ctB pre) W∧Kt byT w5 W) (fun _ _ _=>False) (fun _ _ _ h hb=>⟨h.1.bk hb M5.out.fr.size,h.2.bk hb⟩) (fun _ _ _ _ h _=>h) (fun _ W h=>HCR.out.1.kt h.2) ⟨by rw[show ctB []=[] from rfl,List.append_nil];exact M5.out,Kt.refl _ _⟩ ?_ ?_ (fun _ _ _ _ _ _ _ _ h=>h.elim)
  ·intro l0 pre y rest Wr hxs hI hl hlr
   have hpl:pre.length < 4:=by
    have h1:=HL4.out
    rw[hxs,List.length_append,List.length_cons] at h1;omega
   have hyv:=HCV.out y (by rw[hxs];simp)
   have HI:=Lib.hid hI
   clear hI hlr hl hxs
   obtain⟨yc,yv⟩:=y
   simp only at hyv
   gi_wp2
   refine⟨KB.refl _,fun Wq hbk _=>?_⟩
   have HI2:=Lib.hid (⟨HI.out.1.bk hbk M5.out.fr.size,HI.out.2.bk hbk⟩:YB w w.heap.size (L1 ++ ctB pre) Wq∧Kt byT w5 Wq)
   have HSN:=Lib.hid (ctB_snoc pre (yc,yv))
   have hlen:(L1 ++ ctB pre).length≤200:=by
    have:=HLen1.out
    rw[List.length_append,ctB_len];omega
   obtain⟨L2,hL2⟩:∃ L2,L1 ++ ctB pre=L2:=⟨_,rfl⟩
   rw[hL2] at HI2 hlen
   have HL2:=Lib.hid hL2
   obtain⟨ao,cp,hb1,hb2⟩:=HI2.out.1.bx
   have cx:=cell_of hb1 0
   have HB1:=Lib.hid hb1;have HB2:=Lib.hid hb2
   clear hbk hb1 hb2 hL2
   obtain⟨i0,hi0,hz0,hz1,hz2⟩:=info_parts Tryz.info5
   have hTW:(two yv).map u8=[.int .u8 (yv / 256),.int .u8 (yv % 256)]:=two_u8 hyv.1 (by omega)
   have hsz:w.heap.size≤(Wq.alloc (.cells #[.int .u8 (yv / 256),.int .u8 (yv % 256)] 5)).heap.size:=by have:=HI2.out.1.fr.size;simp;omega
   gi_wp2_with (gi_at_builtin;refine wpListIn_append_own _ rfl _ _ 26 rfl w.heap.size 5 i0 (.int .u8 0) 1 1 Tryz.underlying26 hi0 hz0 hz1 hz2 rfl (by decide) (.slice ao L2.length cp) L2.length (L2.map u8) rfl (HB2.out.alloc _) ⟨Wq.heap.size,0,none⟩ 2 2 ((two yv).map u8) rfl rfl (by rw[hTW];exact new_row _ _ _) (by intro u hu;obtain⟨x,-,rfl⟩:=List.mem_map.1 hu;rfl) (by unfold maxLen;omega) (by omega) hsz ?_;intro v' w6 hown' hgrow _;obtain⟨ao',cp',rfl⟩:=own_shape hown';have hbx:=BO.facts HB1.out HB2.out (by decide) hgrow;have cx6:=cell_of hbx 0;have fx6:=free_of hbx 0;have HG:=Lib.hid hgrow;have HO:=Lib.hid hown';clear hgrow hown' hbx cx)
   have h9:=YB.add (M:=two yv) HI2.out.1 HB1.out HB2.out HG.out rfl HO.out
   refine⟨h9.2.kb,?_⟩
   show YB w w.heap.size (L1 ++ ctB (pre ++ [(yc,yv)])) _∧Kt byT w5 _
   rw[HSN.out,← List.append_assoc,HL2.out]
   exact⟨h9.1,HI2.out.2.trans h9.2⟩
  ·intro D W hD hI hK
   have HID:=Lib.hid hI;have HKD:=Lib.hid hK;have HDD:=Lib.hid hD
   clear hI hK hD hit
   go_wp2
   refine⟨⟨D :: ds,?_⟩,?_⟩
   ·(repeat apply Exists.intro)
    exact⟨⟨i + 1,congrArg (Value.int .i64) (HWI.out i hlt),hlt,by rw[HKR.out,← List.append_assoc,HL1.out];exact HID.out.1,MS5.out.more M5.out.fr.size HID.out.2 HDD.out HKD.out⟩,rfl⟩
   ·exact meas_up hlt (HWI.out i hlt)
 ·obtain rfl:i=n:=by omega
  have hge:¬ (i:Int) < (i:Int):=by omega
  have hn4:i≤4:=by have:=HSY.out.ok.n4;rw[HN.out] at this;exact this
  obtain⟨y1,y2⟩:=HY1.out wr HM.out.fr
  have HM0:Hid (YB w w.heap.size (kR s x i ++ cat (wRow s x) 0) wr):=Lib.hid (by rw[show cat (wRow s x) 0=[] from rfl,List.append_nil];exact HM.out)
  go_wp2
  clear y1 y2
  go_loopw [48] (fun s48 wl=>∃ a:Nat,s48=.int .i64 a∧a≤i∧YB w w.heap.size (kR s x i ++ cat (wRow s x) a) wl∧Ms w ds wl) (fun s48 _=>i - (intOf s48).toNat)
  case atStart=>exact⟨0,rfl,Nat.zero_le _,HM0.out,HMS.out⟩
  case round =>
   clear HM0 HM HMS
   obtain⟨a,rfl,ha,hmb,hms⟩:=hrel
   have HM:=Lib.hid hmb;have HMS:=Lib.hid hms
   clear hmb hms
   obtain⟨w1,hw1⟩:∃ w1,w1=wr:=⟨_,rfl⟩
   subst hw1
   by_cases hlta:a < i
   ·have hlta':(a:Int) < (i:Int):=by omega
    have hia:a < s.roles.length:=by rw[HN.out];exact hlta
    have HIA:=Lib.hid hia
    have h0:0 < s.roles.length:=by omega
    obtain⟨gb,go',cw,rb,ro,c2,cb0,x2,hw⟩:=HST.out.way hia h0
    clear hia h0
    rw[HN.out] at x2
    have y1':=(HY1.out w (Frm.refl _ _)).2
    rw[x2] at y1'
    simp only[Option.some.injEq,Value.slice.injEq,true_and] at y1'
    obtain⟨rfl,rfl⟩:=y1'
    have g0:=HM.out.fr.keep hw.c0
    rw[HN.out] at g0
    have HG0:=Lib.hid hw.c0
    clear x2 hw
    have HM0:Hid (YB w w.heap.size (kR s x i ++ (cat (wRow s x) a ++ cat (keyWay s x a) 0)) w1):=Lib.hid (by rw[show cat (keyWay s x a) 0=[] from rfl,List.append_nil];exact HM.out)
    have HE:Hid (cat (wRow s x) (a + 1)=cat (wRow s x) a ++ cat (keyWay s x a) i):=Lib.hid (by rw[← HN.out];rfl)
    go_wp2
    clear g0
    go_loopw [55] (fun s55 wl=>∃ c:Nat,s55=.int .i64 c∧c≤i∧YB w w.heap.size (kR s x i ++ (cat (wRow s x) a ++ cat (keyWay s x a) c)) wl∧Ms w ds wl) (fun s55 _=>i - (intOf s55).toNat)
    case atStart=>exact⟨0,rfl,Nat.zero_le _,HM0.out,HMS.out⟩
    case round =>
     clear HM0 HM HMS
     obtain⟨c,rfl,hc,hmb,hms⟩:=hrel
     have HM:=Lib.hid hmb;have HMS:=Lib.hid hms
     clear hmb hms
     by_cases hltc:c < i
     ·have hltc':(c:Int) < (i:Int):=by omega
      have hic:c < s.roles.length:=by rw[HN.out];exact hltc
      have HEC:Hid (kR s x i ++ (cat (wRow s x) a ++ cat (keyWay s x a) (c + 1))=(kR s x i ++ (cat (wRow s x) a ++ cat (keyWay s x a) c)) ++ keyWay s x a c):=Lib.hid (by
       rw[show cat (keyWay s x a) (c + 1)=cat (keyWay s x a) c ++ keyWay s x a c from rfl]
       simp only[List.append_assoc])
      have hLen:(kR s x i ++ (cat (wRow s x) a ++ cat (keyWay s x a) c)).length≤100000:=by
       have a1:=kR_len HSY.out.ok HST.out.ok (show i≤s.roles.length by rw[HN.out];exact Nat.le_refl _)
       have a2:=kRows_len HSY.out.ok HST.out.ok (show a≤s.roles.length by rw[HN.out];omega)
       have a3:=kRow_len HSY.out.ok HST.out.ok HIA.out (show c≤s.roles.length by rw[HN.out];omega)
       rw[List.length_append,List.length_append]
       exact Nat.le_trans (Nat.add_le_add a1 (Nat.add_le_add a2 a3)) (by decide)
      obtain⟨L0,hL0⟩:∃ L0,kR s x i ++ (cat (wRow s x) a ++ cat (keyWay s x a) c)=L0:=⟨_,rfl⟩
      rw[hL0] at HM HEC hLen
      have HLen:=Lib.hid hLen
      clear hL0 hLen
      obtain⟨gb2,go2,cw2,rb2,ro2,c22,cb,x22,hw⟩:=HST.out.way HIA.out hic
      have e1:=(HY1.out w (Frm.refl _ _)).2
      rw[HN.out] at x22
      rw[x22] at e1
      simp only[Option.some.injEq,Value.slice.injEq,Addr.mk.injEq,true_and,and_true] at e1
      obtain⟨⟨rfl,rfl⟩,rfl⟩:=e1
      have e2:=HG0.out
      rw[hw.c0] at e2
      simp only[Option.some.injEq,Value.slice.injEq,Addr.mk.injEq,true_and,and_true] at e2
      obtain⟨⟨rfl,rfl⟩,rfl⟩:=e2
      obtain⟨F,hch⟩:=hw.chn
      have g1:=HM.out.fr.keep hw.c1
      have HCH:=Lib.hid (hch.frm HM.out.fr (by simp))
      have HCW:Hid (∀ V,Frm [] w V→Chn V cb s.cls s.cap (x.way a c) F):=Lib.hid fun V hV=>hch.frm hV (by simp)
      have HIC:=Lib.hid hic
      clear hch hw x22 hic
      by_cases hac:a=c
      ·have HSM:Hid (keyWay s x a c=[]):=Lib.hid (by unfold keyWay;rw[if_pos hac])
       subst hac
       go_wp2
       exact⟨⟨a + 1,congrArg (Value.int .i64) (by omega),hltc,by rw[HEC.out,HSM.out,List.append_nil];exact HM.out,HMS.out⟩,by simp[intOf];omega⟩
      ·obtain⟨LL,hLL⟩:∃ LL,x.way a c=LL:=⟨_,rfl⟩
       have HSM:Hid (keyWay s x a c=[UInt8.ofNat LL.length] ++ byt (keyB (keyL s.cls LL))):=Lib.hid (by unfold keyWay;rw[if_neg hac,hLL];rfl)
       rw[hLL] at HCH HCW
       have hac':¬ (a:Int)=(c:Int):=by omega
       have qne:((a:Int) == (c:Int))=false:=by simpa using hac'
       clear hac
       obtain⟨aob,cpb,hb1,hb2⟩:=HM.out.bx
       have cx:=cell_of hb1 0
       have HP0:Hid (YP w wr w.heap.size (.slice aob L0.length cpb) (.slice aob L0.length cpb) L0 wr):=Lib.hid ⟨HM.out.fr,hb1,hb2,Kt.refl _ _⟩
       have hll:=(HST.out.ok.wb a c HIA.out HIC.out)
       rw[hLL] at hll
       have hk4:=HSY.out.ok.k4
       have hll4:LL.length≤4:=by omega
       have hks:(keyB (keyL s.cls LL)).size≤200:=by
        have h1:=keyB_size (keyL s.cls LL) (fun m hm=>(hll.2 m (keyL_mem hm)).2)
        rw[keyL_length] at h1;omega
       have hwr:IntKind.u8.wrap (LL.length:Int)=(LL.length:Int):=wrap_small (by omega) (by omega)
       obtain⟨KB0,hKB⟩:∃ KB0,keyB (keyL s.cls LL)=KB0:=⟨_,rfl⟩
       rw[hKB] at HSM hks
       have CLn:Hid (∀ V,Frm [] wr V→Calls Tryz.prog 103 #[.pointer (some ⟨cb,0,none⟩)] V (Ret (.int .i64 LL.length) (Frm [] V))):=Lib.hid fun V hV=>len_any (HCH.out.frm hV (by simp))
       have CKy:Hid (∀ V,Frm [] w V→Calls Tryz.prog 104 #[.pointer (some ⟨cb,0,none⟩)] V (Ret (.string KB0) (Frm [] V))):=Lib.hid fun V hV=>by rw[← hKB];exact key_any _ _ _ _ _ _ (HCW.out V hV)
       obtain⟨m,hm⟩:∃ m,LL.length=m:=⟨_,rfl⟩
       rw[hm] at hwr HSM CLn hll4
       have hm256:m < 256:=by omega
       obtain⟨i0,hi0,hz0,hz1,hz2⟩:=info_parts Tryz.info5
       have hlen:=HLen.out
       clear hll hk4 hLL hKB hm hll4 hb1 hb2 HCH HCW
       go_upto_region 19 with fail
       generalize hQQ:Exit.inBlock _ _=QQ
       refine wp_mono (Q:=fun e a' w'=>match e with | .normal=>QQ .normal a' w' | _=>False) ?_ (fun e a' w' h=>by cases e <;> first | exact h | exact h.elim)
       go_region_law (first
        | (go_simp;go_at_call 103;go_must (refine(CLn.out _ (Frm.refl [] wr).drew).mono ?_;rintro e w5 ⟨rfl,hf5⟩;have F5:Hid (Frm [] wr w5):=Lib.hid ((Frm.refl [] wr).drew.trans hf5);have cx5:=F5.out.keep cx;have HP5:=Lib.hid ((HP0.out.frm F5.out).frm ((Frm.refl [] w5).alloc (.cells #[.int .u8 (m:Int)] 5)));have cx5b:=cell_of HP5.out.b 0;clear hf5))
        | (go_simp;go_at_call 104;go_must (refine(CKy.out _ HP6.out.f).mono ?_;rintro e w7 ⟨rfl,hf7⟩;have HP7:=Lib.hid (HP6.out.frm hf7);clear hf7))
        | (refine step_append_own_at rfl _ _ 26 rfl w.heap.size 5 i0 (.int .u8 0) 1 1 Tryz.underlying26 hi0 hz0 hz1 hz2 rfl (by decide) (.slice aob L0.length cpb) L0.length (uL L0) ?_ HP5.out.o ⟨w5.heap.size,0,none⟩ 1 1 (uL [UInt8.ofNat m]) ?_ rfl (by rw[uLc m hm256];exact new_row _ _ _) ?_ ?_ ?_ ?_ ?_;(focus (go_simp;done));(focus (go_simp;done));(focus (intro u hu;obtain⟨x,-,rfl⟩:=List.mem_map.1 hu;rfl));(focus (unfold maxLen;omega));(focus omega);(focus exact HP5.out.f.size);intro v' w6 hown' hgrow;obtain⟨ao6,cp6,rfl⟩:=own_shape hown';have HP6:=Lib.hid (HP5.out.grow (l:=[UInt8.ofNat m]) hgrow (by rw[List.length_append,List.map_append];exact hown'));clear hown' hgrow)
        | (refine step_app_str rfl _ _ rfl w.heap.size (.slice ao6 (L0.length + 1) cp6) KB0 ?_ ?_ (L0 ++ [UInt8.ofNat m]) HP7.out.o ?_ HP7.out.f.size ?_;(focus (go_simp;done));(focus (go_simp;done));(focus (rw[List.length_append];simp;omega));intro ao8 cp8 w8 hown' hgrow;have HP8:=Lib.hid (HP7.out.grow (l:=byt KB0) hgrow hown');have cx8:=cell_of HP8.out.b 0;have fx8:=free_of HP8.out.b 0;clear hown' hgrow))
       all_goals
        subst hQQ
        go_wp2
        have h9:=HP8.out.fin HM.out.new
        have e9:((L0 ++ [UInt8.ofNat m]) ++ byt KB0).length=L0.length + ((byt KB0).length + 1):=by simp
        rw[e9] at h9
        exact⟨⟨c + 1,congrArg (Value.int .i64) (by omega),hltc,by rw[HEC.out,HSM.out,← List.append_assoc];exact h9.1,HMS.out.kt h9.2⟩,by simp[intOf];omega⟩
     ·obtain rfl:c=i:=by omega
      go_wp2
      exact⟨⟨a + 1,congrArg (Value.int .i64) (by omega),hlta,by rw[HE.out];exact HM.out,HMS.out⟩,by simp[intOf];omega⟩
   ·obtain rfl:a=i:=by omega
    obtain⟨L,hL⟩:∃ L,kR s x a ++ cat (wRow s x) a=L:=⟨_,rfl⟩
    have HLM:Hid (keyP s x=L):=Lib.hid (by rw[← hL,← HN.out];rfl)
    rw[hL] at HM
    obtain⟨ao,cp,hb1,hb2⟩:=HM.out.bx
    have cx:=cell_of hb1 0
    have HB2:=Lib.hid hb2
    have hne:L.length≠0:=by
     have h2:=HSY.out.ok.n2
     rw[HN.out] at h2
     obtain⟨m,rfl⟩:∃ m,a=m + 1:=⟨a - 1,by omega⟩
     rw[← hL,List.length_append,show kR s x (m + 1)=kR s x m ++ keyRole x m from rfl,List.length_append]
     unfold keyRole
     rw[List.length_cons]
     omega
    have hconv:=conv_own hb2 hne
    clear hb1 hb2 hL
    go_wp2
    rw[HLM.out]
    exact key_end HM.out.fr HMS.out (fun V=>by simp[results,Tryz.results48,go_sem])
end Go.Proofs.YtohfkhjlnlahdaaGreat
namespace Go.Proofs.YtohfkhjlnlahdaaGreat
open Go.RowKit Go.BigFrame Go.Maps
def keyS (s:SesD) (x:PS):ByteArray:=⟨(keyP s x).toArray⟩
theorem keyS_list (s:SesD) (x:PS):(keyS s x).data.toList=keyP s x:=by unfold keyS;simp
def AdTo (w:World) (s:SesD) (yb:Nat) (lim:Int) (whole:Bool) (qb mb:Nat) (N:List (Nd × Nat)) (W W':World):Prop:=SpR w s yb lim whole qb mb N W'∧(∃ F,Frm F W W'∧∀ b∈F,SpB W qb b)∧∀ k,k < W.heap.size→RowOf W' qb k→RowOf W qb k
theorem ndG_zero (W:World):∀ u∈ndZ.cells,NdG W u:=by
 intro u hu
 have:u=.pointer none∨u=.int .i64 0:=by
  simp[Value.cells] at hu
  rcases hu with rfl | rfl
  ·exact .inl rfl
  ·exact .inr rfl
 rcases this with rfl | rfl
 ·exact⟨fun _=>by simp,fun _ _ _=>by simp,fun _=>by simp⟩
 ·exact⟨fun _=>by simp,fun _ _ _=>by simp,fun _=>by simp⟩
theorem ndG_one {W:World} {d:Nd} {sb:Nat} (h:Ty W sb 147):∀ u∈ndC1 (d,sb),NdG W u:=by
 intro u hu
 simp only[ndC1,List.mem_cons,List.not_mem_nil,or_false] at hu
 rcases hu with rfl | rfl | rfl | rfl | rfl | rfl | rfl
 ·exact⟨fun _=>by simp,fun _ _ _=>by simp,fun p e=>by cases e;exact h⟩
 all_goals exact⟨fun _=>by simp,fun _ _ _=>by simp,fun _=>by simp⟩
theorem Tryz.infoNd:(Tryz.prog.info? 216).map (fun i=>(i.zero,i.size,i.bytes))=some (some ndZ,7,56):=by kernel_rfl
section
variable {w W:World} {s:SesD} {yb fb sb qb mb cb:Nat} {lim:Int} {whole:Bool} {N:List (Nd × Nat)} {d:Nd}
set_option maxHeartbeats 4000000 in
set_option maxRecDepth 100000 in
theorem xAdd_has (h:SpR w s yb lim whole qb mb N W) (hy:SyR W s yb fb) (hd:StR W s yb sb d.st) (hc:W.heap[cb]?=some (.cells #[.pointer (some ⟨qb,0,none⟩)] 208 (0,0))) (hk:hasK s (N.map Prod.fst) (keyP s d.st)=true) (hz:(keyS s d.st).size≤maxLen) :
  Calls Tryz.prog 117 #[ndV (d,sb),.pointer (some ⟨cb,0,none⟩)] W (Ret (.bool true) (Frm [] W)):=by
 obtain⟨W0,hW0⟩:∃ W0,W.alloc (.cells #[.pointer (some ⟨sb,0,none⟩),.int .i64 d.par,.int .i64 d.mv.kind,.int .i64 d.mv.role,.int .i64 d.mv.step,.int .i64 d.mv.place,.int .i64 d.lvl] 216)=W0:=⟨_,rfl⟩
 have hf0:Frm [] W W0:=by rw[← hW0];exact(Frm.refl _ _).alloc _
 have hb0:W0.heap[W.heap.size]?=some (.cells #[.pointer (some ⟨sb,0,none⟩),.int .i64 d.par,.int .i64 d.mv.kind,.int .i64 d.mv.role,.int .i64 d.mv.step,.int .i64 d.mv.place,.int .i64 d.lvl] 216 (0,0)):=by rw[← hW0];exact heap_alloc_new _ _
 have CK:Hid (Calls Tryz.prog 48 #[.pointer (some ⟨sb,0,none⟩)] W0 (Ret (.string (keyS s d.st)) (Frm [] W0))):=Lib.hid ((pKey_any s yb fb sb d.st W0 (hy.frm hf0) (hd.frm hf0)).mono fun e w' h=>by
  obtain⟨v,rfl,rfl,h⟩:=h
  exact⟨rfl,h⟩)
 have c0:=cell_of hb0 0
 obtain⟨ao,cap,h1,h2,-⟩:=h.bx
 have hfs:(findP s (N.map Prod.fst) (keyS s d.st).data.toList).isSome=true:=by rw[keyS_list,findP_none];exact hk
 have HL:Hid (∀ V,Frm [] W V→(V.cell? ⟨cb,0,none⟩=some (.pointer (some ⟨qb,0,none⟩))∧V.cell? ⟨qb,3,none⟩=some (.map (some mb))) ∧
   (Instr.lookup 211 (.map (some mb)) (.string (keyS s d.st)) true).run Tryz.prog V=.ok (.tuple #[.int .i64 ((findP s (N.map Prod.fst) (keyS s d.st).data.toList).getD 0:Nat),.bool true]) V):=Lib.hid fun V hV=>by
  refine⟨⟨cell_of (hV.at hc (by simp)) 0,cell_of (hV.at h1 (by simp)) 3⟩,?_⟩
  have:=SpO.look h.mp hV _ hz
  rwa [hfs] at this
 have HF0:=Lib.hid hf0;have HE:=Lib.hid hW0
 clear h hy hd hc hk hz hf0 hb0 h1 h2 hW0 hfs
 go_enter Tryz.func117,Tryz.ntmps117
 go_upto_region 1 with fail
 rw[HE.out]
 go_wp2_with (first
  | (go_at_call 48;go_must (refine CK.out.mono ?_;rintro e w2 ⟨rfl,hf2⟩;have HF2:=Lib.hid (HF0.out.trans hf2);clear hf2;obtain⟨⟨q0,q1⟩,q2⟩:=HL.out w2 HF2.out)))
 go_ret
 exact⟨rfl,HF2.out⟩
set_option maxHeartbeats 4000000 in
set_option maxRecDepth 100000 in
theorem xAdd_full (h:SpR w s yb lim whole qb mb N W) (hy:SyR W s yb fb) (hd:StR W s yb sb d.st) (hc:W.heap[cb]?=some (.cells #[.pointer (some ⟨qb,0,none⟩)] 208 (0,0))) (hk:hasK s (N.map Prod.fst) (keyP s d.st)=false) (hz:(keyS s d.st).size≤maxLen) (hl:(N.length:Int)=lim) :
  Calls Tryz.prog 117 #[ndV (d,sb),.pointer (some ⟨cb,0,none⟩)] W (Ret (.bool false) (Frm [] W)):=by
 obtain⟨W0,hW0⟩:∃ W0,W.alloc (.cells #[.pointer (some ⟨sb,0,none⟩),.int .i64 d.par,.int .i64 d.mv.kind,.int .i64 d.mv.role,.int .i64 d.mv.step,.int .i64 d.mv.place,.int .i64 d.lvl] 216)=W0:=⟨_,rfl⟩
 have hf0:Frm [] W W0:=by rw[← hW0];exact(Frm.refl _ _).alloc _
 have hb0:W0.heap[W.heap.size]?=some (.cells #[.pointer (some ⟨sb,0,none⟩),.int .i64 d.par,.int .i64 d.mv.kind,.int .i64 d.mv.role,.int .i64 d.mv.step,.int .i64 d.mv.place,.int .i64 d.lvl] 216 (0,0)):=by rw[← hW0];exact heap_alloc_new _ _
 have CK:Hid (Calls Tryz.prog 48 #[.pointer (some ⟨sb,0,none⟩)] W0 (Ret (.string (keyS s d.st)) (Frm [] W0))):=Lib.hid ((pKey_any s yb fb sb d.st W0 (hy.frm hf0) (hd.frm hf0)).mono fun e w' h=>by
  obtain⟨v,rfl,rfl,h⟩:=h
  exact⟨rfl,h⟩)
 have c0:=cell_of hb0 0
 obtain⟨ao,cap,h1,h2,-⟩:=h.bx
 have hfs:(findP s (N.map Prod.fst) (keyS s d.st).data.toList).isSome=false:=by rw[keyS_list,findP_none];exact hk
 have HL:Hid (∀ V,Frm [] W V→(V.cell? ⟨cb,0,none⟩=some (.pointer (some ⟨qb,0,none⟩))∧V.cell? ⟨qb,3,none⟩=some (.map (some mb))∧V.cell? ⟨qb,0,none⟩=some (.int .i64 lim)∧V.cell? ⟨qb,2,none⟩=some (.slice ao N.length cap)) ∧
   (Instr.lookup 211 (.map (some mb)) (.string (keyS s d.st)) true).run Tryz.prog V=.ok (.tuple #[.int .i64 ((findP s (N.map Prod.fst) (keyS s d.st).data.toList).getD 0:Nat),.bool false]) V):=Lib.hid fun V hV=>by
  refine⟨⟨cell_of (hV.at hc (by simp)) 0,cell_of (hV.at h1 (by simp)) 3,cell_of (hV.at h1 (by simp)) 0,cell_of (hV.at h1 (by simp)) 2⟩,?_⟩
  have:=SpO.look h.mp hV _ hz
  rwa [hfs] at this
 have HF0:=Lib.hid hf0;have HE:=Lib.hid hW0
 have hle:((N.length:Int) == lim)=true:=by simpa using hl
 clear h hy hd hc hk hz hf0 hb0 h1 h2 hW0 hfs hl
 go_enter Tryz.func117,Tryz.ntmps117
 go_upto_region 1 with fail
 rw[HE.out]
 go_upto_region 5 with (first
  | (go_at_call 48;go_must (refine CK.out.mono ?_;rintro e w2 ⟨rfl,hf2⟩;have HF2:=Lib.hid (HF0.out.trans hf2);clear hf2;obtain⟨⟨q0,q1,q2,q3⟩,q4⟩:=HL.out w2 HF2.out)))
 go_quiet (fail)
 go_wp2
 go_ret
 exact⟨rfl,HF2.out.drewN _⟩
set_option maxHeartbeats 4000000 in
set_option maxRecDepth 100000 in
theorem xAdd_new (h:SpR w s yb lim whole qb mb N W) (hy:SyR W s yb fb) (hd:StR W s yb sb d.st) (hc:W.heap[cb]?=some (.cells #[.pointer (some ⟨qb,0,none⟩)] 208 (0,0))) (hk:hasK s (N.map Prod.fst) (keyP s d.st)=false) (hz:(keyS s d.st).size≤maxLen) (hl:(N.length:Int)≠lim) (hs:0 < s.roles.length) (hn:N.length≤1000000) :
   Calls Tryz.prog 117 #[ndV (d,sb),.pointer (some ⟨cb,0,none⟩)] W (Ret (.bool true) (AdTo w s yb lim whole qb mb (N ++ [(d,sb)]) W)):=by
 obtain⟨W0,hW0⟩:∃ W0,W.alloc (.cells #[.pointer (some ⟨sb,0,none⟩),.int .i64 d.par,.int .i64 d.mv.kind,.int .i64 d.mv.role,.int .i64 d.mv.step,.int .i64 d.mv.place,.int .i64 d.lvl] 216)=W0:=⟨_,rfl⟩
 have hf0:Frm [] W W0:=by rw[← hW0];exact(Frm.refl _ _).alloc _
 have hb0:W0.heap[W.heap.size]?=some (.cells #[.pointer (some ⟨sb,0,none⟩),.int .i64 d.par,.int .i64 d.mv.kind,.int .i64 d.mv.role,.int .i64 d.mv.step,.int .i64 d.mv.place,.int .i64 d.lvl] 216 (0,0)):=by rw[← hW0];exact heap_alloc_new _ _
 have CK:Hid (Calls Tryz.prog 48 #[.pointer (some ⟨sb,0,none⟩)] W0 (Ret (.string (keyS s d.st)) (Frm [] W0))):=Lib.hid ((pKey_any s yb fb sb d.st W0 (hy.frm hf0) (hd.frm hf0)).mono fun e w' h=>by
  obtain⟨v,rfl,rfl,h⟩:=h
  exact⟨rfl,h⟩)
 have c0:=cell_of hb0 0
 have HB0:=Lib.hid hb0
 clear hb0
 obtain⟨ao,cap,h1,h2,h3⟩:=h.bx
 have hfs:(findP s (N.map Prod.fst) (keyS s d.st).data.toList).isSome=false:=by rw[keyS_list,findP_none];exact hk
 have HL:Hid (∀ V,Frm [] W V→(V.cell? ⟨cb,0,none⟩=some (.pointer (some ⟨qb,0,none⟩))∧V.cell? ⟨qb,3,none⟩=some (.map (some mb))∧V.cell? ⟨qb,0,none⟩=some (.int .i64 lim)∧V.cell? ⟨qb,2,none⟩=some (.slice ao N.length cap)) ∧
   (Instr.lookup 211 (.map (some mb)) (.string (keyS s d.st)) true).run Tryz.prog V=.ok (.tuple #[.int .i64 ((findP s (N.map Prod.fst) (keyS s d.st).data.toList).getD 0:Nat),.bool false]) V):=Lib.hid fun V hV=>by
  refine⟨⟨cell_of (hV.at hc (by simp)) 0,cell_of (hV.at h1 (by simp)) 3,cell_of (hV.at h1 (by simp)) 0,cell_of (hV.at h1 (by simp)) 2⟩,?_⟩
  have:=SpO.look h.mp hV _ hz
  rwa [hfs] at this
 have HF0:=Lib.hid hf0;have HE:=Lib.hid hW0
 have hle:((N.length:Int) == lim)=false:=by simpa using hl
 have HB1:=Lib.hid h1;have HB2:=Lib.hid h2;have HB3:=Lib.hid h3
 have HSP:=Lib.hid h;have HC:=Lib.hid hc;have HK:=Lib.hid hk;have HD:=Lib.hid hd;have HZ:=Lib.hid hz;have HS:=Lib.hid hs;have HN:=Lib.hid hn
 clear h hy hd hc hk hz hf0 h1 h2 h3 hW0 hfs hl hs hn
 go_enter Tryz.func117,Tryz.ntmps117
 go_upto_region 1 with fail
 rw[HE.out]
 go_upto_region 5 with (first
  | (go_at_call 48;go_must (refine CK.out.mono ?_;rintro e w2 ⟨rfl,hf2⟩;have HF2:=Lib.hid (HF0.out.trans hf2);have HG2:=Lib.hid hf2;clear hf2;obtain⟨⟨q0,q1,q2,q3⟩,q4⟩:=HL.out w2 HF2.out)))
 go_quiet (fail)
 go_upto_region 7 with fail
 obtain⟨w5,hw5⟩:∃ w5,w2.drewN nq=w5:=⟨_,rfl⟩
 have HF5:Hid (Frm [] W w5):=Lib.hid (by rw[← hw5];exact HF2.out.drewN _)
 have HG5:Hid (Frm [] W0 w5):=Lib.hid (by rw[← hw5];exact HG2.out.drewN _)
 rw[hw5]
 clear hw5 q0 q1 q2 q3 q4
 refine wp_region_cqt 10 (by kernel_rfl) (by kernel_rfl) ?_
 simp only[List.take_succ_cons,List.take_zero,List.drop_succ_cons,List.drop_zero]
 repeat (first
  | go_big_quiet_skip
  | (refine wpQuiet_want (by rfl) (fun K hK=>?_)
     first
      | (refine quiet_move _ (by rfl) (hK _ ?_))
      | (refine quiet_assign _ (by rfl) (hK _ ?_))
      | (apply Exists.intro
         refine⟨fun w' hC=>?_,hK _ ?_⟩
         ·(unfold Oper.quietAt
           obtain⟨⟨p0,p1,p2,p3⟩,p4⟩:=HL.out w' (HF5.out.trans hC)
           clear hC
           go_simp
           try exact⟨rfl,rfl⟩
           try rfl))
     clear hK K
     try simp only[nrm,Act.eval,nrq]))
 refine wpQuiet_nil ?_
 intro w6 hf6
 have HF6:=Lib.hid (HF5.out.trans hf6);have HG6:=Lib.hid (HG5.out.trans hf6)
 have HS6:=Lib.hid (HSP.out.frm HF6.out)
 obtain⟨w7,hup,hm7,hf7⟩:=HS6.out.mp.store Tryz.keyedS Tryz.underlying211 (by have:=HN.out;unfold maxLen;omega) (WideMaps.keyOf_string_mk Tryz.underlying9 HZ.out) (by trivial) (.int .i64 (N.length:Nat))
 rw[(keyF_get s (N.map Prod.fst) (keyS s d.st).data.toList).2,keyS_list,findP_none,HK.out] at hm7
 simp only[Bool.false_eq_true,if_false] at hm7
 have HM7:=Lib.hid hm7;have HF7:=Lib.hid hf7
 clear hf6 hm7 hf7
 go_upto_region 8 with fail
 obtain⟨ao',cap',g1,g2,g3⟩:=HS6.out.bx
 have eao:ao'=ao∧cap'=cap:=by
  have e:=(cell_of g1 2).symm.trans (HL.out w6 HF6.out).1.2.2.2
  simp at e
  exact e
 obtain⟨rfl,rfl⟩:=eao
 have hne:qb≠mb:=fun e=>by
  obtain⟨es,c,hb⟩:=HS6.out.mp.block rfl
  rw[← e,g1] at hb;cases hb
 have hcm:∀ {k:Nat} {C:Array Value} {t:TypeId},w6.heap[k]?=some (.cells C t (0,0))→w7.heap[k]?=some (.cells C t (0,0)):=fun {k C t} hk=>HF7.out.at hk (by
  intro hm
  simp only[List.mem_singleton] at hm
  obtain⟨es,c,hb⟩:=HS6.out.mp.block rfl
  rw[← hm,hk] at hb;cases hb)
 have x7:=hcm (HF6.out.at HC.out (by simp))
 have q7:=hcm g1
 have b7:=hcm (HG6.out.at HB0.out (by simp))
 have row7:w7.ownsRow w.heap.size 216 7 (.slice ao' N.length cap') N.length (ndC N):=HF7.out.owns g2 (by
  intro k hk hm
  simp only[List.mem_singleton] at hm
  obtain⟨c,hc⟩:=ownBlock_type g2 hk
  obtain⟨es,c',hb⟩:=HS6.out.mp.block rfl
  rw[← hm,hc] at hb;cases hb)
 have HG1:=Lib.hid g1;have HG2':=Lib.hid g2;have HG3:=Lib.hid g3;have HX7:=Lib.hid x7;have HB7:=Lib.hid b7;have HQ7:=Lib.hid q7;have HR7:=Lib.hid row7
 have hty:Ty w7 sb 147:=by
  obtain⟨av,wv,hb,-⟩:=HD.out.out
  exact⟨_,hcm (HF6.out.at hb (by simp))⟩
 have HTY:=Lib.hid hty
 have hG7:∀ V,Frm [] w7 V→RowG (NdG V) 216 (.slice ao' N.length cap') V:=fun V hV g cur hg hc u hu=>by
  obtain⟨c,hc6⟩:=ownBlock_type g2 hg
  have h7:=hV.at (hcm hc6) (by simp)
  rw[h7] at hc
  cases hc
  exact(((g3 g _ hg hc6 u hu).frm (F:=[mb]) HF7.out (fun p hp hm=>by
   simp only[List.mem_singleton] at hm
   obtain⟨D,hD⟩:=hp
   obtain⟨es,c',hb⟩:=HS6.out.mp.block rfl
   rw[← hm,hD] at hb;cases hb)).frm hV (by simp))
 have HG7:=Lib.hid hG7
 obtain⟨i0,hi0,hz0,hz1,hz2⟩:=info_parts Tryz.infoNd
 clear g1 g2 g3 x7 q7 b7 row7 hcm hty hG7 hup c0 hle CK HL HE
 obtain⟨F,hFe⟩:∃ F,(Value.slice ao' N.length cap').ownBlock.toList=F:=⟨_,rfl⟩
 have hFn:∀ k∈F,Ty w7 k 216∧k < W.heap.size:=fun k hk=>by
  rw[← hFe,Option.mem_toList] at hk
  exact⟨ownBlock_type HR7.out hk,ownBlock_lt HB2.out hk⟩
 have hX:∀ V,Frm F w7 V→V.heap[cb]?=some (.cells #[.pointer (some ⟨qb,0,none⟩)] 208 (0,0)):=fun V hV=>hV.at HX7.out (fun hm=>by
  obtain⟨D,hD⟩:=(hFn _ hm).1
  rw[HX7.out] at hD;cases hD)
 have hQ:∀ V,Frm F w7 V→V.heap[qb]?=some (.cells #[.int .i64 lim,.bool whole,.slice ao' N.length cap',.map (some mb)] 214 (0,0)):=fun V hV=>hV.at HQ7.out (fun hm=>by
  obtain⟨D,hD⟩:=(hFn _ hm).1
  rw[HQ7.out] at hD;cases hD)
 have hB:∀ V,Frm F w7 V→V.heap[W.heap.size]?=some (.cells #[.pointer (some ⟨sb,0,none⟩),.int .i64 d.par,.int .i64 d.mv.kind,.int .i64 d.mv.role,.int .i64 d.mv.step,.int .i64 d.mv.place,.int .i64 d.lvl] 216 (0,0)):=fun V hV=>hV.at HB7.out (fun hm=>by
  have:=(hFn _ hm).2;omega)
 have HCT:Hid (∀ V,Frm F w7 V→(V.cell? ⟨cb,0,none⟩=some (.pointer (some ⟨qb,0,none⟩))∧V.cell? ⟨qb,2,none⟩=some (.slice ao' N.length cap'))∧V.cell? ⟨W.heap.size,0,none⟩=some (.pointer (some ⟨sb,0,none⟩))∧V.cell? ⟨W.heap.size,1,none⟩=some (.int .i64 d.par) ∧
   V.cell? ⟨W.heap.size,2,none⟩=some (.int .i64 d.mv.kind)∧V.cell? ⟨W.heap.size,3,none⟩=some (.int .i64 d.mv.role)∧V.cell? ⟨W.heap.size,4,none⟩=some (.int .i64 d.mv.step)∧V.cell? ⟨W.heap.size,5,none⟩=some (.int .i64 d.mv.place)∧V.cell? ⟨W.heap.size,6,none⟩=some (.int .i64 d.lvl)):=Lib.hid fun V hV =>
  ⟨⟨cell_of (hX V hV) 0,cell_of (hQ V hV) 2⟩,cell_of (hB V hV) 0,cell_of (hB V hV) 1,cell_of (hB V hV) 2,cell_of (hB V hV) 3,cell_of (hB V hV) 4,cell_of (hB V hV) 5,cell_of (hB V hV) 6⟩
 have HQF:=Lib.hid hQ
 have HFE:=Lib.hid hFe
 clear hX hQ hB hFn hFe
 refine heldL_start F (wrFrom 10) (by kernel_rfl) ?_
 refine cnt 0 ?_
 iterate 6
  refine hcL ?_ ?_ ?_
  rotate_left
  ·intro w' hC
   obtain⟨⟨x0,x1⟩,y0,y1,y2,y3,y4,y5,y6⟩:=HCT.out w' ((Frm.refl F w7).drew.trans hC)
   clear hC
   go_simp
   try rfl
  try simp only[nrm,Nat.reduceAdd]
 refine tcn ?_
 obtain⟨wd,hwd⟩:∃ wd,w7.drew=wd:=⟨_,rfl⟩
 have hfd:Frm [] w7 wd:=by rw[← hwd];exact(Frm.refl _ _).drew
 rw[hwd]
 clear hwd
 have HG8:=Lib.hid (HG7.out _ (hfd.alloc (.cells #[.pointer (some ⟨sb,0,none⟩),.int .i64 d.par,.int .i64 d.mv.kind,.int .i64 d.mv.role,.int .i64 d.mv.step,.int .i64 d.mv.place,.int .i64 d.lvl] 216)))
 refine honL 6 ?_
 refine heldL_step (i:=6) rfl rfl (by rfl) (fun K' hK'=>?_)
 go_simp
 (skip)
 refine hK'.out _ _ ((Frm.refl _ _).alloc _) ?_
 clear hK' K'
 try simp only[nrm]
 obtain⟨w8,hw8⟩:∃ w8,wd.alloc (.cells #[.pointer (some ⟨sb,0,none⟩),.int .i64 d.par,.int .i64 d.mv.kind,.int .i64 d.mv.role,.int .i64 d.mv.step,.int .i64 d.mv.place,.int .i64 d.lvl] 216)=w8:=⟨_,rfl⟩
 have HF8:Hid (Frm [] w7 w8):=Lib.hid (by rw[← hw8];exact hfd.alloc _)
 have hnews:∀ j u,(ndC1 (d,sb))[j]?=some u→w8.cell? ((⟨wd.heap.size,0,none⟩:Addr).add j)=some u:=by rw[← hw8];exact new_row wd _ _
 rw[hw8] at HG8 ⊢
 have hsz8:w.heap.size≤w8.heap.size:=by have:=HS6.out.fr.size;have:=HF7.out.size;have:=HF8.out.size;omega
 have HNW:=Lib.hid hnews
 clear hw8 hnews hfd
 refine honL 7 ?_
 refine heldL_step (i:=7) rfl rfl (by rfl) (fun K' hK'=>?_)
 refine wp_append_all (NdG w8) _ _ 212 rfl w.heap.size 216 i0 ndZ 7 56 Tryz.underlying212 hi0 hz0 hz1 hz2 rfl (by decide) (.slice ao' N.length cap') N.length (ndC N) ?_ (HF8.out.owns HR7.out (by simp)) ⟨wd.heap.size,0,none⟩ 1 1 (ndC1 (d,sb)) ?_ rfl HNW.out (by simp[Value.oneCell',ndC1]) (by have:=HN.out;unfold maxLen;omega) (by have:=HN.out;omega) hsz8 (by omega) HG8.out (ndG_zero _) (ndG_one (HTY.out.frm HF8.out (by simp))) ?_;(focus (go_simp;done));(focus (go_simp;done));intro v' w9 hown' hgrow hG9 hob;have HOB:=Lib.hid hob;have HO:=Lib.hid hown';have HGR:=Lib.hid hgrow;have HG9:=Lib.hid hG9;have hfg:Frm F w8 w9:=(Frm.refl _ _).grown hgrow (fun k hk=>.inl (by rw[← HFE.out];simp[hk]));have hbx:=HQF.out w9 ((HF8.out.mono (by simp)).trans hfg);have cx9:=cell_of hbx 2;have fx9:=free_of hbx 2;obtain⟨ao9,cp9,rfl⟩:=own_shape hown';clear hown' hgrow hG9 hbx hob
 refine hK'.out _ _ hfg ?_
 clear hK' K'
 try simp only[nrm]
 refine cnt 8 ?_
 iterate 2
  refine hcL ?_ ?_ ?_
  rotate_left
  ·intro w' hC
   clear hC
   go_simp
   try rfl
  try simp only[nrm,Nat.reduceAdd]
 refine tcn ?_
 refine honL 10 ?_
 refine heldL_write (i:=10) rfl (by rfl) (by rfl) (fun K' hK'=>?_)
 go_simp
 (skip)
 refine hK'.out _ _ ?_
 clear hK' K'
 try simp only[nrm]
 refine heldL_done (by kernel_rfl) ?_ _
 go_wp2
 go_ret
 refine⟨rfl,?_⟩
 obtain⟨r1,r2,r3⟩:=HS6.out.add HS.out (HD.out.frm HF6.out) HK.out HG1.out HG2'.out HG3.out HM7.out HF7.out HF8.out HGR.out HO.out HG9.out
 refine⟨r1,⟨_,(HF6.out.mono (by simp)).trans r2,HSP.out.spB HB1.out HB2.out HB3.out⟩,fun k hk=>?_⟩
 rintro⟨a,b,v,m,e1,e2⟩
 rw[r3] at e1
 cases e1
 rcases HOB.out with e | e
 ·exact⟨_,_,_,_,HB1.out,e ▸ e2⟩
 ·rw[e] at e2
  cases e2
  have:=HF6.out.size
  have:=HF7.out.size
  have:=HF8.out.size
  omega
end
end Go.Proofs.YtohfkhjlnlahdaaGreat
namespace Go.Proofs.YtohfkhjlnlahdaaGreat
open Go.RowKit Go.BigFrame
structure NewTo (w:World) (s:SesD) (u:Value) (w':World):Prop where
 out:∃ yb fb,u=.tuple #[pv yb,.int .i64 0]∧w.heap.size≤yb∧∀ V,Agree w.heap.size w' V→SyR V s yb fb
 frm:Frm [] w w'
def emR (n:Nat):List (List ByteArray):=List.replicate n []
def emW (n i:Nat):List (List (List ByteArray)):=List.replicate i (emR n)
theorem emR_succ (n:Nat):emR (n + 1)=emR n ++ [[]]:=by unfold emR;rw[List.replicate_succ']
theorem emW_succ (n i:Nat):emW n (i + 1)=emW n i ++ [emR n]:=by unfold emW;rw[List.replicate_succ']
theorem emW_first (s:SesD):(firstP s).ways=emW s.roles.length s.roles.length:=by
 unfold firstP emW emR
 simp only[List.map_const']
def acF (s:SesD) (i:Nat):List (Int × List (CtrD × Int)):=(s.roles.take i).map fun r=>(0,zeroC r.ctrs)
theorem acF_succ {s:SesD} {i:Nat} (h:i < s.roles.length):acF s (i + 1)=acF s i ++ [(0,zeroC (s.rol i).ctrs)]:=by
 unfold acF
 rw[List.take_add_one,SesD.rol_some h,List.map_append];rfl
theorem zip_zero (cs:List CtrD):cs.zip (cs.map fun _=>(0:Int))=zeroC cs:=by
 unfold zeroC
 induction cs with
 | nil=>rfl
 | cons c l ih=>simp only[List.map_cons,List.zip_cons_cons,ih]
theorem acF_first (s:SesD):actsP s (firstP s)=acF s s.roles.length:=by
 refine List.ext_getElem? fun i=>?_
 by_cases hi:i < s.roles.length
 ·rw[actsP_at hi]
  unfold acF
  rw[List.take_length,List.getElem?_map,SesD.rol_some hi]
  simp only[Option.map_some,Option.some.injEq,Prod.mk.injEq]
  have hv:(firstP s).at i=0:=by
   show ((s.roles.map fun _=>0).getD i 0)=0
   rw[List.getD_eq_getElem?_getD,List.getElem?_map,SesD.rol_some hi];rfl
  have hb:(firstP s).bank i=(s.rol i).ctrs.map fun _=>(0:Int):=by
   show ((s.roles.map fun r=>r.ctrs.map fun _=>(0:Int)).getD i [])=_
   rw[List.getD_eq_getElem?_getD,List.getElem?_map,SesD.rol_some hi];rfl
  refine⟨by rw[hv];rfl,?_⟩
  unfold PS.ctr
  rw[hb]
  exact zip_zero _
 ·rw[List.getElem?_eq_none (by rw[actsP_len];omega),List.getElem?_eq_none (by unfold acF;rw[List.length_map,List.take_length];omega)]
theorem rolOk_defs {s:SesD} {r:RolD} (h:RolOk s r):DefsOk r.ctrs:=
 ⟨h.c4,fun c hc e=>by
  have:=(h.cN c hc).1
  rw[e] at this
  revert this;decide,fun c hc=>(h.cN c hc).2,h.cU⟩
theorem Tryz.infoPC:(Tryz.prog.info? 130).map (fun i=>(i.zero,i.size,i.bytes))=some (some (.pointer none),1,8):=by kernel_rfl
theorem Tryz.infoRw:(Tryz.prog.info? 191).map (fun i=>(i.zero,i.size,i.bytes))=some (some (.slice none 0 0),1,24):=by kernel_rfl
theorem Tryz.infoAc:(Tryz.prog.info? 143).map (fun i=>(i.zero,i.size,i.bytes))=some (some (.agg #[.int .i64 0,.pointer none]),2,16):=by kernel_rfl
structure N1 (w2:World) (s:SesD) (Y:Array Value) (n i:Nat) (W:World):Prop where
 out:∃ rs,GO 147 191 1 w2 (w2.heap.size + 1) 2 #[pv w2.heap.size,.slice none 0 0,undef] i rs W∧WayC (w2.heap.size≤·) W s.cls s.cap rs (emW n i)
 y:W.heap[w2.heap.size]?=some (.cells Y 116 (0,0))
 fr:Frm [] w2 W
theorem N1.frm {w2 W V:World} {s:SesD} {Y:Array Value} {n i:Nat} (h:N1 w2 s Y n i W) (hf:Frm [] W V):N1 w2 s Y n i V:=by
 obtain⟨rs,h1,h2⟩:=h.out
 exact⟨⟨rs,h1.frm hf,h2.kp (Kp.of_frm0 hf) (by simp) (by simp) (by simp)⟩,hf.at h.y (by simp),h.fr.trans hf⟩
structure N2 (B:Nat) (wr:World) (s:SesD) (ao:Option Addr) (k cp:Nat) (W:World):Prop where
 out:∃ cells,W.ownsRow wr.heap.size 130 1 (.slice ao k cp) k cells∧RowC (B≤·) W s.cls s.cap cells (emR k)
 fr:Frm [] wr W
theorem N2.step {B:Nat} {wr W V w6:World} {s:SesD} {ao ao':Option Addr} {k cp cp' cb:Nat} {cells:List Value} (h:RowC (B≤·) W s.cls s.cap cells (emR k)) (ho:W.ownsRow wr.heap.size 130 1 (.slice ao k cp) k cells) (hw:Frm [] wr W)
  (hf:Frm [] W V) (hc:ChO (B≤·) V cb s.cls s.cap []) (hg:V.grownBy w6 (Value.slice ao k cp).ownBlock) (ho':w6.ownsRow wr.heap.size 130 1 (.slice ao' (k + 1) cp') (k + 1) (cells ++ [pv cb])):N2 B wr s ao' (k + 1) cp' w6:=by
 have hk:Kt [130] V w6:=(Kt.refl _ V).grown hg (fun q hq=>by
  obtain⟨c,hc⟩:=ownBlock_type (hf.owns ho (by simp)) hq
  exact⟨c,_,(0,0),hc,by simp⟩)
 refine⟨⟨_,ho',?_⟩,(hw.trans hf).grown hg (fun q hq=>.inr (ownBlock_ge ho hq))⟩
 rw[emR_succ]
 exact((h.kp (Kp.of_frm0 hf) (by simp) (by simp)).snoc hc).kp (Kp.of_kt hk) (by decide) (by decide)
structure N3 (w2:World) (s:SesD) (Y:Array Value) (wv:Value) (n i:Nat) (W:World):Prop where
 out:∃ cs,GO 147 143 2 w2 (w2.heap.size + 1) 1 #[pv w2.heap.size,undef,wv] i cs W∧ActC (w2.heap.size≤·) W cs (acF s i)
 ways:WaysO (w2.heap.size≤·) W s.cls s.cap wv (emW n n)
 y:W.heap[w2.heap.size]?=some (.cells Y 116 (0,0))
 fr:Frm [] w2 W
theorem N3.frm {w2 W V:World} {s:SesD} {Y:Array Value} {wv:Value} {n i:Nat} (h:N3 w2 s Y wv n i W) (hf:Frm [] W V):N3 w2 s Y wv n i V:=by
 obtain⟨rs,h1,h2⟩:=h.out
 exact⟨⟨rs,h1.frm hf,h2.kp (Kp.of_frm0 hf) (by simp) (by simp)⟩,h.ways.kp (Kp.of_frm0 hf) (by simp) (by simp) (by simp) (by simp),hf.at h.y (by simp),h.fr.trans hf⟩
theorem okC_of {s:SesD} (h:SesOk s):okC s.cls s.cap=true:=by
 unfold okC
 rw[decide_eq_true_iff]
 exact⟨h.c1,h.c3,h.k1,by have:=h.k4;omega⟩
set_option maxHeartbeats 8000000 in
set_option maxRecDepth 100000 in
theorem pNew_ok (v:Value) (s:SesD) (w:World) (h:SesV w v s) (hs:SmS s) (h0:ckSes s=0):Calls Tryz.prog 53 #[v] w (RetV (NewTo w s)):=by
 have HOK:=Lib.hid (ses_ok h0)
 obtain⟨rv,rfl,hr⟩:=h
 obtain⟨ao,cap,e,-⟩:=id hr
 subst e
 obtain⟨w0,hw0⟩:∃ w0,w.alloc (.cells #[.string s.name,.slice ao s.roles.length cap,.int .i64 s.cls,.int .i64 s.cap] 25)=w0:=⟨_,rfl⟩
 have hf0:Frm [] w w0:=by rw[← hw0];exact(Frm.refl _ _).alloc _
 have CS:=Lib.hid (rSes_any _ s w0 ⟨_,rfl,hr.frm hf0⟩ hs)
 have HB:Hid (w0.heap[w.heap.size]?=some (.cells #[.string s.name,.slice ao s.roles.length cap,.int .i64 s.cls,.int .i64 s.cap] 25 (0,0))):=Lib.hid (by rw[← hw0];exact heap_alloc_new _ _)
 have HF:=Lib.hid hf0
 have HRL:=Lib.hid hr
 have CO:Hid (∀ V,Frm [] w V→Calls Tryz.prog 112 #[.agg #[.string s.name,.slice ao s.roles.length cap,.int .i64 s.cls,.int .i64 s.cap]] V (RetV (OwTo V s))):=Lib.hid fun V hV =>
  pOwn_any s _ V ⟨_,rfl,HRL.out.frm hV⟩ (by have:=HOK.out.n2;omega) HOK.out.n4 (fun r hr=>by have:=hs.r r hr;exact⟨by have:=this.s;omega,by have:=this.c;omega,by have:=this.t;omega⟩)
 rw[h0] at CS
 obtain⟨n,hn⟩:∃ n,s.roles.length=n:=⟨_,rfl⟩
 rw[hn] at CS HB HRL CO hw0
 rw[hn]
 have HN:=Lib.hid hn
 have HE:=Lib.hid hw0
 clear hr hs hf0 hn h0 hw0
 go_enter Tryz.func53,Tryz.ntmps53
 go_upto_region 6 with (first
  | (refine wpList_box_row rfl 25 _ rfl _ rfl ?_;rw[HE.out])
  | (refine wpList_load_whole rfl 25 _ rfl _ rfl _ 25 HB.out _ Tryz.underlying25 rfl (by kernel_rfl) ?_)
  | (refine wpList_load_whole rfl 25 _ rfl _ rfl _ 25 HB1.out _ Tryz.underlying25 rfl (by kernel_rfl) ?_)
  | (go_at_call 111;go_must (refine CS.out.mono ?_;rintro e w1 ⟨u,rfl,i,rfl,hf1⟩;have HF1:=Lib.hid (HF.out.trans hf1);have HB1:=Lib.hid (hf1.at HB.out (by simp));clear hf1 HB))
  | (go_at_call 112;go_must (refine(CO.out _ HF1.out).mono ?_;rintro e w2 ⟨u,rfl,ho⟩;obtain⟨g,cg,rfl⟩:=ho.shape;have HO:=Lib.hid ho;have HF2:=Lib.hid (HF1.out.trans ho.frm);have HB2:=Lib.hid (ho.frm.at HB1.out (by simp));clear ho)))
 obtain⟨X0,hX0⟩:∃ X0,(w2.alloc (.cells #[.string s.name,.slice (some ⟨g,0,none⟩) s.roles.length cg,.int .i64 s.cls,.int .i64 s.cap,.pointer none] 116)).alloc (.cells #[pv w2.heap.size,.slice none 0 0,.slice none 0 0] 147)=X0:=⟨_,rfl⟩
 have hfx:Frm [] w2 X0:=by rw[← hX0];exact((Frm.refl _ _).alloc _).alloc _
 have HX:Hid (N1 w2 s #[.string s.name,.slice (some ⟨g,0,none⟩) s.roles.length cg,.int .i64 s.cls,.int .i64 s.cap,.pointer none] n 0 X0):=Lib.hid ⟨⟨[],GO.made hfx (by omega) (by rw[← hX0];exact alloc_top (by simp)) rfl,WayC.nil⟩,by rw[← hX0];exact alloc_at (heap_alloc_new _ _),hfx⟩
 have HEX:=Lib.hid hX0
 obtain⟨Y,hY⟩:∃ Y:Array Value,#[.string s.name,.slice (some ⟨g,0,none⟩) s.roles.length cg,.int .i64 s.cls,.int .i64 s.cap,.pointer none]=Y:=⟨_,rfl⟩
 rw[hY] at HX
 have HY:=Lib.hid hY
 have HC:Hid (∀ V,Frm [] w2 V→V.cell? ⟨w.heap.size,1,none⟩=some (.slice ao n cap)∧V.cell? ⟨w.heap.size,2,none⟩=some (.int .i64 s.cls)∧V.cell? ⟨w.heap.size,3,none⟩=some (.int .i64 s.cap)):=Lib.hid fun V hV=>by
  have hb:=hV.at HB2.out (by simp)
  exact⟨cell_of hb 1,cell_of hb 2,cell_of hb 3⟩
 clear hfx hX0 hY CS CO HB1
 rw[HEX.out]
 clear HEX
 obtain⟨e1,e2,e3⟩:=HC.out X0 HX.out.fr
 have hw9:wrap64 ((n:Int) + 1)=(n:Int) + 1:=by have:=HOK.out.n4;have:=HN.out;unfold wrap64;omega
 clear hw9
 go_wp2
 clear e1 e2 e3
 go_loopw [33] (fun s33 wl=>∃ i:Nat,s33=.int .i64 i∧i≤n∧N1 w2 s Y n i wl) (fun s33 _=>n - (intOf s33).toNat)
 case atStart=>exact⟨0,rfl,Nat.zero_le _,HX.out⟩
 case round =>
  obtain⟨i,rfl,hi,hrel⟩:=hrel
  have HR:=Lib.hid hrel
  clear hrel HX
  obtain⟨w1',hw1'⟩:∃ w1',w1'=wr:=⟨_,rfl⟩
  subst hw1'
  by_cases hlt:i < n
  ·have hlt':(i:Int) < (n:Int):=by omega
   obtain⟨e1,e2,e3⟩:=HC.out w1' HR.out.fr
   go_wp2
   clear e1 e2 e3
   go_loopw [8,38] (fun s8 s38 wl=>∃ (k:Nat) (a8:Option Addr) (c8:Nat),s38=.int .i64 k∧k≤n∧s8=.slice a8 k c8∧N2 w2.heap.size w1' s a8 k c8 wl) (fun _ s38 _=>n - (intOf s38).toNat)
   case atStart=>exact⟨0,none,0,rfl,Nat.zero_le _,rfl,⟨⟨[],World.ownsRow_nil _ _ _ _,RowC.nil⟩,Frm.refl _ _⟩⟩
   case round =>
    obtain⟨k,a8,c8,rfl,hk,rfl,hrel⟩:=hrel
    have HK:=Lib.hid hrel
    clear hrel
    by_cases hltk:k < n
    ·have hltk':(k:Int) < (n:Int):=by omega
     obtain⟨e1,e2,e3⟩:=HC.out wr (HR.out.fr.trans HK.out.fr)
     have CN:=Lib.hid (new_ok s.cls s.cap wr (okC_of HOK.out))
     obtain⟨cells,hro,hrc⟩:=HK.out.out
     have HRO:=Lib.hid hro;have HRC:=Lib.hid hrc
     have hsz2:=(HR.out.fr.trans HK.out.fr).size
     have hk4:k≤4:=by have:=HOK.out.n4;have:=HN.out;omega
     obtain⟨i0,hi0,hz0,hz1,hz2⟩:=info_parts Tryz.infoPC
     clear hro hrc
     go_wp2_with (first
      | (go_at_call 113;go_must (refine CN.out.mono ?_;rintro e w3 ⟨rfl,hf3,hc3⟩;have HF3:=Lib.hid hf3;have HC3:Hid (ChO (w2.heap.size≤·) w3 wr.heap.size s.cls s.cap []):=Lib.hid ⟨_,hc3,by intro x hx;simp at hx;omega⟩;clear hf3 hc3 CN e1 e2 e3))
      | (at_builtin;refine wpList_append_own_at _ rfl _ _ 191 rfl w1'.heap.size 130 i0 (.pointer none) 1 8 Tryz.underlying191 hi0 hz0 hz1 hz2 rfl (by decide) (.slice a8 k c8) k cells rfl ((HF3.out.alloc _).owns HRO.out (by simp)) ⟨w3.heap.size,0,none⟩ 1 1 [pv wr.heap.size] rfl rfl (new_row _ _ _) (by simp[Value.oneCell']) (by unfold maxLen;omega) (by omega) (by have:=HK.out.fr.size;have:=HF3.out.size;simp;omega) ?_;intro v' w6 hown' hgrow _ _;obtain⟨a9,c9,rfl⟩:=own_shape hown';have HST:=Lib.hid (N2.step (cb:=wr.heap.size) HRC.out HRO.out HK.out.fr (HF3.out.alloc _) (HC3.out.kp (Kp.of_frm0 ((Frm.refl [] w3).alloc _)) (by simp) (by simp)) hgrow hown');clear hown' hgrow))
     exact⟨⟨k + 1,a9,c9,congrArg (Value.int .i64) (by omega),hltk,rfl,HST.out⟩,by simp[intOf];omega⟩
    ·obtain rfl:k=n:=by omega
     have hge:¬ (k:Int) < (k:Int):=by omega
     have HR2:=Lib.hid (HR.out.frm HK.out.fr)
     have HRW:Hid (RowO (w2.heap.size≤·) wr s.cls s.cap (.slice a8 k c8) (emR k)):=Lib.hid (by
      obtain⟨cells,h1,h2⟩:=HK.out.out
      have hl:(emR k).length=k:=by unfold emR;rw[List.length_replicate]
      exact⟨_,cells,by rw[hl];exact h1,fun q hq=>Nat.le_trans HR.out.fr.size (ownBlock_ge h1 hq),h2⟩)
     obtain⟨rs,hgo,hwc⟩:=HR2.out.out
     obtain⟨ab,cb,hb1,hb2⟩:=hgo.bx
     have hb1':wr.heap[w2.heap.size + 1]?=some (.cells #[pv w2.heap.size,.slice none 0 0,.slice ab i cb] 147 (0,0)):=hb1
     have HGO:=Lib.hid hgo;have HWC:=Lib.hid hwc;have HB1:=Lib.hid hb1;have HO1:=Lib.hid hb2
     have cx:=cell_of hb1' 2
     have fx:=free_of hb1' 2
     have hk4:i≤4:=by have:=HOK.out.n4;have:=HN.out;omega
     obtain⟨i0,hi0,hz0,hz1,hz2⟩:=info_parts Tryz.infoRw
     clear hgo hwc hb1 hb2 hb1'
     go_wp2_with (at_builtin;refine wpList_append_own_at _ rfl _ _ 145 rfl w2.heap.size 191 i0 (.slice none 0 0) 1 24 Tryz.underlying145 hi0 hz0 hz1 hz2 rfl (by decide) (.slice ab i cb) i rs rfl (HO1.out.alloc _) ⟨wr.heap.size,0,none⟩ 1 1 [.slice a8 k c8] rfl rfl (new_row _ _ _) (by simp[Value.oneCell']) (by unfold maxLen;omega) (by omega) (by have:=HR2.out.fr.size;simp;omega) ?_;intro v' w6 hown' hgrow _ _;obtain⟨ao',cp',rfl⟩:=own_shape hown';have hs:=GO.step HGO.out HB1.out HO1.out (by decide) ((Frm.refl [] wr).alloc _) hgrow hown';have hbx:w6.heap[w2.heap.size + 1]?=some (.cells #[pv w2.heap.size,.slice none 0 0,.slice ab i cb] 147 (0,0)):=GO.facts HB1.out HO1.out (by decide) ((Frm.refl [] wr).alloc _) hgrow;have cx6:=cell_of hbx 2;have fx6:=free_of hbx 2;have HS:=Lib.hid hs;clear hs hbx hown' hgrow cx)
     refine⟨⟨i + 1,congrArg (Value.int .i64) (by omega),hlt,?_⟩,by simp[intOf];omega⟩
     refine⟨⟨_,HS.out.1,?_⟩,HS.out.2.cells HR2.out.y (by decide),HS.out.1.fr⟩
     rw[emW_succ]
     exact(HWC.out.snoc HRW.out).kp (Kp.of_kt HS.out.2) (by decide) (by decide) (by decide)
  ·obtain rfl:i=n:=by omega
   have hge:¬ (i:Int) < (i:Int):=by omega
   obtain⟨e1,e2,e3⟩:=HC.out w1' HR.out.fr
   go_wp2
   clear e1 e2 e3
   obtain⟨rs,hgo,hwc⟩:=HR.out.out
   obtain⟨ab,cb,hb1,hb2⟩:=hgo.bx
   have hb1':w1'.heap[w2.heap.size + 1]?=some (.cells #[pv w2.heap.size,.slice none 0 0,.slice ab i cb] 147 (0,0)):=hb1
   have HN3:Hid (N3 w2 s Y (.slice ab i cb) i 0 w1'):=Lib.hid ⟨⟨[],GO.made HR.out.fr (by omega) hb1' rfl,ActC.nil⟩,⟨w2.heap.size,rs,by unfold emW;rw[List.length_replicate];exact hb2,fun q hq=>ownBlock_ge hb2 hq,hwc⟩,HR.out.y,HR.out.fr⟩
   clear hgo hwc hb1 hb2 hb1' HR hge
   obtain⟨wv,hwv⟩:∃ v,Value.slice ab i cb=v:=⟨_,rfl⟩
   have HWV:=Lib.hid hwv
   rw[hwv] at HN3
   clear hwv
   go_loopw [67] (fun s67 wl=>∃ k:Nat,s67=.int .i64 k∧k≤i∧N3 w2 s Y wv i k wl) (fun s67 _=>i - (intOf s67).toNat)
   case atStart=>exact⟨0,rfl,Nat.zero_le _,HN3.out⟩
   case round =>
    obtain⟨k,rfl,hk,hrel⟩:=hrel
    have HR:=Lib.hid hrel
    clear hrel HN3
    obtain⟨w9,hw9⟩:∃ w9,w9=wr:=⟨_,rfl⟩
    subst hw9
    by_cases hlt:k < i
    ·have hlt':(k:Int) < (i:Int):=by omega
     have hin:k < s.roles.length:=by rw[HN.out];exact hlt
     have hfw:Frm [] w w9:=HF2.out.trans HR.out.fr
     obtain⟨b,o,sv,cv,tv,rfl,⟨d0,d1,d2,d3⟩,h3⟩:=Rls.at (HRL.out.frm hfw) hin
     obtain⟨aS,cs,es,-⟩:=id h3.sts
     obtain⟨ac,cc,ec,-⟩:=id h3.ctrs
     obtain⟨at',ct,et,-⟩:=id h3.steps
     subst es;subst ec;subst et
     have CB:Hid (∀ V,Frm [] w9 V→Calls Tryz.prog 114 #[.slice ac (s.rol k).ctrs.length cc] V (RetV (NwTo V (zeroC (s.rol k).ctrs)))):=Lib.hid fun V hV=>bNew_any _ (s.rol k).ctrs V (h3.frm hV).ctrs (rolOk_defs (HOK.out.at hin))
     have HSN:=Lib.hid (acF_succ hin)
     have HZL:=Lib.hid (zeroC_length (s.rol k).ctrs)
     obtain⟨L,hL⟩:∃ L,zeroC (s.rol k).ctrs=L:=⟨_,rfl⟩
     rw[hL] at CB HSN
     obtain⟨nm,hnm⟩:∃ q,(s.rol k).name=q:=⟨_,rfl⟩
     obtain⟨n1,hn1⟩:∃ q,(s.rol k).sts.length=q:=⟨_,rfl⟩
     obtain⟨n2,hn2⟩:∃ q,(s.rol k).ctrs.length=q:=⟨_,rfl⟩
     obtain⟨n3,hn3⟩:∃ q,(s.rol k).steps.length=q:=⟨_,rfl⟩
     rw[hnm] at d0;rw[hn1] at d1;rw[hn2] at CB d2;rw[hn3] at d3
     obtain⟨cs0,hgo,hac⟩:=HR.out.out
     obtain⟨av,cav,hb1,hb2⟩:=hgo.bx
     have HAC:=Lib.hid hac
     have hi4:k≤4:=by have:=HOK.out.n4;omega
     obtain⟨i0,hi0,hz0,hz1,hz2⟩:=info_parts Tryz.infoAc
     clear h3 hin hL hnm hn1 hn2 hn3 hgo hac hb1 hb2 hfw
     have HF9:Hid (Frm [] w9 (w9.alloc (.cells #[.string nm,.slice aS n1 cs,.slice ac n2 cc,.slice at' n3 ct] 87))):=Lib.hid ((Frm.refl _ _).alloc _)
     go_upto_region 20 with (first
      | (go_at_call 114;go_must (refine(CB.out _ HF9.out).mono ?_;rintro e w3 ⟨u,rfl,bb,rfl,hg3⟩;have HF3:Hid (Frm [] w9 w3):=Lib.hid (HF9.out.trans hg3.fr);have HBK:Hid (BkO (w2.heap.size≤·) w3 bb L):=Lib.hid (hg3.bko (fun q hq=>Nat.le_trans (HR.out.fr.trans HF9.out).size hq));clear hg3)))
     have HR3:=Lib.hid (HR.out.frm HF3.out)
     obtain⟨cs1,hgo,hac⟩:=HR3.out.out
     obtain⟨av,cav,hb1,hb2⟩:=hgo.bx
     have hb1':w3.heap[w2.heap.size + 1]?=some (.cells #[pv w2.heap.size,.slice av k cav,wv] 147 (0,0)):=hb1
     have HGO:=Lib.hid hgo;have HAC:=Lib.hid hac;have HB1:=Lib.hid hb1;have HO1:=Lib.hid hb2
     have cx:=cell_of hb1' 1
     have fx:=free_of hb1' 1
     clear hgo hac hb1 hb2 hb1' d0 d1 d2 d3
     go_wp2_with (at_builtin;refine wpList_append_own_at _ rfl _ _ 144 rfl w2.heap.size 143 i0 (.agg #[.int .i64 0,.pointer none]) 2 16 Tryz.underlying144 hi0 hz0 hz1 hz2 rfl (by decide) (.slice av k cav) k cs1 rfl (HO1.out.alloc _) ⟨w3.heap.size,0,none⟩ 1 1 [.int .i64 0,pv bb] rfl rfl (new_row _ _ _) (by simp[Value.oneCell']) (by unfold maxLen;omega) (by omega) (by have:=HR3.out.fr.size;simp;omega) ?_;intro v' w6 hown' hgrow _ _;obtain⟨ao',cp',rfl⟩:=own_shape hown';have hs:=GO.step HGO.out HB1.out HO1.out (by decide) ((Frm.refl [] w3).alloc _) hgrow hown';have hbx:w6.heap[w2.heap.size + 1]?=some (.cells #[pv w2.heap.size,.slice av k cav,wv] 147 (0,0)):=GO.facts HB1.out HO1.out (by decide) ((Frm.refl [] w3).alloc _) hgrow;have cx6:=cell_of hbx 1;have fx6:=free_of hbx 1;have HS:=Lib.hid hs;clear hs hbx hown' hgrow cx)
     refine⟨⟨k + 1,congrArg (Value.int .i64) (by omega),hlt,?_⟩,by simp[intOf];omega⟩
     refine⟨⟨_,HS.out.1,?_⟩,HR3.out.ways.kp (Kp.of_kt HS.out.2) (by decide) (by decide) (by decide) (by decide),HS.out.2.cells HR3.out.y (by decide),HS.out.1.fr⟩
     rw[HSN.out]
     exact(HAC.out.snoc HBK.out).kp (Kp.of_kt HS.out.2) (by decide) (by decide)
    ·obtain rfl:k=i:=by omega
     have hge:¬ (k:Int) < (k:Int):=by omega
     have hy:=HR.out.y
     rw[← HY.out] at hy
     have HYB:=Lib.hid hy
     have cy:=cell_of hy 4
     have fy:=free_of hy 4
     clear hy
     go_wp2
     go_ret2
     refine⟨_,rfl,?_⟩
     obtain⟨cs1,hgo,hac⟩:=HR.out.out
     obtain⟨av,cav,hb1,hb2⟩:=hgo.bx
     have hkt:Kt [116] w9 (w9.setCell ⟨w2.heap.size,4,none⟩ (pv (w2.heap.size + 1))):=(Kt.refl _ _).set HYB.out (by simp) _
     have hfw:Frm [] w2 (w9.setCell ⟨w2.heap.size,4,none⟩ (pv (w2.heap.size + 1))):=HR.out.fr.setCell _ (.inr (Nat.le_refl _)) _
     refine⟨⟨w2.heap.size,w2.heap.size + 1,rfl,HF2.out.size,fun V hV=>?_⟩,HF2.out.trans hfw⟩
     have hV2:Agree w.heap.size w2 V:=hV.old hfw (by simp)
     obtain⟨rv,hrv,hrl⟩:=HO.out.ses V (hV2.low HF1.out.size)
     simp only[Value.agg.injEq,Array.mk.injEq,List.cons.injEq,true_and,and_true] at hrv
     subst hrv
     have hst:StO (w2.heap.size≤·) (w9.setCell ⟨w2.heap.size,4,none⟩ (pv (w2.heap.size + 1))) s w2.heap.size (w2.heap.size + 1) (firstP s):=by
      refine⟨⟨_,wv,hkt.cells hb1 (by decide),Nat.le_succ _,?_,?_⟩,first_ok HOK.out⟩
      ·rw[acF_first,HN.out]
       refine ActsO.kp ⟨w2.heap.size,cs1,?_,fun q hq=>ownBlock_ge hb2 hq,hac⟩ (Kp.of_kt hkt) (by decide) (by decide) (by decide)
       rw[show (acF s k).length=k by unfold acF;rw[List.length_map,List.length_take,HN.out,Nat.min_self]]
       exact hb2
      ·rw[emW_first,HN.out]
       exact HR.out.ways.kp (Kp.of_kt hkt) (by decide) (by decide) (by decide) (by decide)
     refine⟨⟨_,?_,hrl⟩,HOK.out,(hst.kp (Kp.of_agree hV (fun q hq=>Nat.le_trans HF2.out.size hq))).str⟩
     have hyb:=(block_setCell HYB.out 4 (pv (w2.heap.size + 1)))
     exact(hV _ HF2.out.size (lt_of_block hyb)).trans hyb
end Go.Proofs.YtohfkhjlnlahdaaGreat
