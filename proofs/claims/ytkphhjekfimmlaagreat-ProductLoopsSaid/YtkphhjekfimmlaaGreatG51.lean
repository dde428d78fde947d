/- Part of the proof. -/
import Derived.Test.YtkphhjekfimmlaaGreatG47
import Derived.Test.YtkphhjekfimmlaaGreatG35
import Derived.Test.YtkphhjekfimmlaaGreatG40
set_option linter.all false
namespace Go.Proofs.YtkphhjekfimmlaaGreat
open Go.RowKit Go.BigFrame
theorem BxR.zero {W:World} {b:Nat} (h:W.heap[b]?=some (.cells #[.slice none 0 0,.slice none 0 0,.slice none 0 0] 35 (0,0))):BxR W b:=by
 refine⟨⟨_,h⟩,fun o v hv=>?_⟩
 rw[cell_of h] at hv
 match o,hv with
 | 0,hv=>cases hv;exact⟨_,_,_,rfl,fun g o' e=>by cases e⟩
 | 1,hv=>cases hv;exact⟨_,_,_,rfl,fun g o' e=>by cases e⟩
 | 2,hv=>cases hv;exact⟨_,_,_,rfl,fun g o' e=>by cases e⟩
 | o + 3,hv=>simp at hv
structure WkS (w:World) (s:SesD) (ao:Option Addr) (cap yb fb b10 sb:Nat) (x:PS) (W:World):Prop where
 f:Frm [] w W
 b0:W.heap[w.heap.size]?=some (.cells #[.string s.name,.slice ao s.roles.length cap,.int .i64 s.cls,.int .i64 s.cap] 25 (0,0))
 b1:W.heap[w.heap.size + 1]?=some (.cells #[.slice none 0 0,.slice none 0 0,.slice none 0 0] 35 (0,0))
 sy:SyR W s yb fb
 st:StR W s yb sb x
 ok:PSok s x
 lo:w.heap.size + 1 < b10
 bx:∃ ba bb bw bi ca cb cw,W.heap[b10]?=some (.cells #[.slice (some ⟨ba,0,none⟩) s.roles.length ca,.slice (some ⟨bb,0,none⟩) s.roles.length cb,.slice (some ⟨bw,0,none⟩) s.roles.length cw] 35 (0,0))∧RO W s ba bb bw bi x ∧
  w.heap.size≤ba∧w.heap.size≤bb∧w.heap.size≤bw∧∀ i,i < s.roles.length→w.heap.size≤bi i
section
variable {w W V Z:World} {s:SesD} {ao:Option Addr} {cap yb fb b10 sb sb':Nat} {x y:PS}
theorem WkS.frm (h:WkS w s ao cap yb fb b10 sb x W) (hf:Frm [] W V):WkS w s ao cap yb fb b10 sb x V:=by
 obtain⟨ba,bb,bw,bi,ca,cb,cw,h1,h2,h3⟩:=h.bx
 exact⟨h.f.trans hf,hf.at h.b0 (by simp),hf.at h.b1 (by simp),h.sy.frm hf,h.st.frm hf,h.ok,h.lo,ba,bb,bw,bi,ca,cb,cw,hf.at h1 (by simp),h2.frm hf,h3⟩
theorem WkS.val (h:WkS w s ao cap yb fb b10 sb x W):∃ ba bb bw ca cb cw,W.heap[b10]?=some (.cells #[.slice (some ⟨ba,0,none⟩) s.roles.length ca,.slice (some ⟨bb,0,none⟩) s.roles.length cb,.slice (some ⟨bw,0,none⟩) s.roles.length cw] 35 (0,0)) ∧
  RSt w.heap.size W s (.agg #[.slice (some ⟨ba,0,none⟩) s.roles.length ca,.slice (some ⟨bb,0,none⟩) s.roles.length cb,.slice (some ⟨bw,0,none⟩) s.roles.length cw]) x:=by
 obtain⟨ba,bb,bw,bi,ca,cb,cw,h1,h2,h3⟩:=h.bx
 exact⟨ba,bb,bw,ca,cb,cw,h1,⟨ba,bb,bw,bi,ca,cb,cw,rfl,h2,h3⟩,h.ok⟩
theorem WkS.put (h:WkS w s ao cap yb fb b10 sb x W) (hf:Frm [] W V) (hst:StR V s yb sb' y) {A:Array Value} (hr:RSt w.heap.size V s (.agg A) y) (hn:0 < s.roles.length) (hb:Z.heap[b10]?=some (.cells A 35 (0,0))) (hz:Frm [b10] V Z) (hk:Kt [35] V Z):WkS w s ao cap yb fb b10 sb' y Z:=by
 have hv:=h.frm hf
 obtain⟨ba,bb,bw,bi,ca,cb,cw,h1,h2,h3⟩:=hv.bx
 have hx:=h2.bx hn h1
 have hlo:=h.lo
 obtain⟨ba',bb',bw',bi',ca',cb',cw',e,r2,r3⟩:=hr.out
 cases e
 exact⟨hv.f.then hz (by intro q hq;simp at hq;omega),hz.at hv.b0 (by simp;omega),hz.at hv.b1 (by simp;omega),hv.sy.bx hx hz,hst.bx hn hx hz,hr.ok,hlo,ba',bb',bw',bi',ca',cb',cw',hb,
  r2.kt hk (by decide) (by decide) (by decide) (by decide) (by decide) (by decide),r3⟩
end
theorem results_wk {fn:Func} {p q r t:Tmp} (h:fn.results=#[.tmp p,.tmp q,.cell r 35,.tmp t]) {tmps:Array Value} {w:World} {g:Nat} {A:Array Value} {ty:TypeId} {u v z:Value} (hp:tmps.getD p undef=u) (hq:tmps.getD q undef=v) (hr:tmps.getD r undef=.pointer (some ⟨g,0,none⟩)) (ht:tmps.getD t undef=z)
  (hg:w.heap[g]?=some (.cells A ty (0,0))) (hs:A.size=3):(results fn tmps).run Tryz.prog w=.ok (.tuple #[u,v,.agg A,z]) w:=by
 have hp':tmps[p]?.getD undef=u:=by simpa using hp
 have hq':tmps[q]?.getD undef=v:=by simpa using hq
 have hr':tmps[r]?.getD undef=.pointer (some ⟨g,0,none⟩):=by simpa using hr
 have ht':tmps[t]?.getD undef=z:=by simpa using ht
 simp[results,h,hp',hq',hr',ht',asAddr,run_loadVar_row w g ty 35 A (0,0) _ hg Tryz.underlying35 rfl (by rw[Tryz.info35s,hs])]
def WkTo (w:World) (s:SesD) (u:Value) (w':World):Prop:=∃ yb fb sb rv x,u=.tuple #[.pointer (some ⟨yb,0,none⟩),.pointer (some ⟨sb,0,none⟩),rv,.bool true]∧True∧SyR w' s yb fb∧StR w' s yb sb x∧RSt w.heap.size w' s rv x∧Frm [] w w'
set_option maxHeartbeats 16000000 in
set_option maxRecDepth 100000 in
noncomputable def walkedS:PSigma fun P:Prop=>P→∀ (v cv:Value) (s:SesD) (cs:List UInt8) (w:World),SesV w v s→Byts w cv cs→SmS s→ckSes s=0→cs.length≤40→Calls Tryz.prog 15 #[v,cv] w (RetV (WkTo w s)):=by
 apply PSigma.mk
 case snd =>
  intro hP
  have HP0:=Lib.hid hP
  clear hP
  intro v cv s cs w h hb hsm hck hc40
  have HOK:=Lib.hid (ses_ok hck)
  have HSV:=Lib.hid h;have HBY:=Lib.hid hb
  obtain⟨rv,rfl,hr⟩:=h
  obtain⟨ao,cap,rfl⟩:=hr.shape
  obtain⟨ca0,cc0,rfl,-⟩:=hb.len
  obtain⟨n,hn⟩:∃ n,s.roles.length=n:=⟨_,rfl⟩
  obtain⟨cl,hcl⟩:∃ n,cs.length=n:=⟨_,rfl⟩
  have HN:=Lib.hid hn;have HCL:=Lib.hid hcl
  obtain⟨W0,hW0⟩:∃ W0,(w.alloc (.cells #[.string s.name,.slice ao s.roles.length cap,.int .i64 s.cls,.int .i64 s.cap] 25)).alloc (.cells #[.slice none 0 0,.slice none 0 0,.slice none 0 0] 35)=W0:=⟨_,rfl⟩
  have hf0:Frm [] w W0:=by rw[← hW0];exact((Frm.refl _ _).alloc _).alloc _
  have hb0:W0.heap[w.heap.size]?=some (.cells #[.string s.name,.slice ao s.roles.length cap,.int .i64 s.cls,.int .i64 s.cap] 25 (0,0)):=by rw[← hW0];exact alloc_at (heap_alloc_new _ _)
  have hb1:W0.heap[w.heap.size + 1]?=some (.cells #[.slice none 0 0,.slice none 0 0,.slice none 0 0] 35 (0,0)):=by rw[← hW0];exact alloc_top (by simp)
  have hlw:w.heap.size + 1 < W0.heap.size:=lt_of_block hb1
  have HB0:=Lib.hid hb0;have HB1:=Lib.hid hb1;have HF0:=Lib.hid hf0
  have CNW:=Lib.hid (pNew_ok _ s W0 (HSV.out.frm hf0) hsm hck)
  have CN:=Lib.hid num33_f
  have HE:=Lib.hid hW0
  rw[hn] at HE CNW HB0 ⊢
  rw[hcl] at HBY hc40 ⊢
  clear hr hb hn hcl hW0 hf0 hb0 hb1 hsm hck
  go_enter Tryz.func15,Tryz.ntmps15
  go_upto_region 1 with fail
  rw[HE.out]
  clear HE
  go_upto_region 3 with (first
   | (refine wpList_load_whole rfl 25 _ rfl _ rfl _ 25 HB0.out _ Tryz.underlying25 rfl (by kernel_rfl) ?_)
   | (go_at_call 18;go_must (refine CNW.out.mono ?_;clear CNW;rintro e w1 ⟨u,rfl,hnt⟩;obtain⟨yb,fb,rfl,-,hag⟩:=hnt.out;have HSY1:=Lib.hid (hag w1 (Agree.refl _ _));have HF1:=Lib.hid hnt.frm;have HB01:=Lib.hid (hnt.frm.at HB0.out (by simp));have CF:=Lib.hid (qFirst_any s _ w1 (HSV.out.frm (HF0.out.trans hnt.frm)) HOK.out);rw[HN.out] at CF;clear hag hnt))
   | (refine wpList_load_whole rfl 25 _ rfl _ rfl _ 25 HB01.out _ Tryz.underlying25 rfl (by kernel_rfl) ?_)
   | (go_at_call 49;go_must (refine CF.out.mono ?_;clear CF;rintro e w2 ⟨u,rfl,hrs,hf2⟩;obtain⟨ba,bb,bw,bi,ca,cb,cw,rfl,hro,l1,l2,l3,l4⟩:=hrs.out;have HRO2:=Lib.hid hro;have HLO2:=Lib.hid (And.intro l1 (And.intro l2 (And.intro l3 l4)));have HRK:=Lib.hid hrs.ok;have HF2:=Lib.hid hf2;clear hrs hro hf2 l1 l2 l3 l4;rw[HN.out]))
   | (refine wpList_store_row rfl 35 _ _ rfl _ _ _ _ rfl rfl (heap_alloc_new _ _) rfl (by kernel_rfl) (one3v ..) ?_;intro w3 hb3 hf3;have HB10:=Lib.hid hb3;have HF3:=Lib.hid (((Frm.refl [] w2).alloc _).then hf3 (by intro q hq;simp at hq;subst hq;exact .inr (Nat.le_refl _)));clear hb3 hf3))
  obtain⟨b10,hb10⟩:∃ b,w2.heap.size=b:=⟨_,rfl⟩
  rw[hb10] at HB10 ⊢
  have HF13:Hid (Frm [] w1 w3):=Lib.hid (HF2.out.trans HF3.out)
  have HK0:Hid (WkS w s ao cap yb fb b10 fb (firstP s) w3):=Lib.hid (by
   have l0:=HF1.out.size
   have l1:=HF2.out.size
   obtain⟨m1,m2,m3,m4⟩:=HLO2.out
   refine⟨HF0.out.trans (HF1.out.trans HF13.out),by rw[HN.out];exact HF13.out.at HB01.out (by simp),HF13.out.at (HF1.out.at HB1.out (by simp)) (by simp),HSY1.out.frm HF13.out,HSY1.out.first.frm HF13.out,HRK.out,by omega,ba,bb,bw,bi,ca,cb,cw,by rw[HN.out];exact HB10.out,HRO2.out.frm HF3.out,by omega,by omega,by omega,fun i hi=>by have:=m4 i hi;omega⟩)
  have HMV:Hid True:=Lib.hid trivial
  clear HB10 HF13 HF1 HF2 HF3 HRO2 HLO2 HRK HB0 HB01 HB1 HSY1 hb10
  go_upto_region 7 with (first
   | (go_at_call 19;go_must (refine(CN.out 0 _).mono ?_;rintro e w4 ⟨rfl,hf'⟩;have HK1:=Lib.hid (HK0.out.frm hf');have CPF:=Lib.hid (pFirst_any s yb fb w4 HK1.out.sy);clear hf'))
   | (go_at_call 20;go_must (refine CPF.out.mono ?_;clear CPF;rintro e w' ⟨rfl,rfl⟩)))
  go_loopw [11,12] (fun s11 s12 wr=>∃ (i sb:Nat) (x:PS),s11=.pointer (some ⟨sb,0,none⟩)∧s12=.int .i64 i∧i≤cl∧WkS w s ao cap yb fb b10 sb x wr) (fun _ s12 _=>cl - (intOf s12).toNat)
  case atStart=>exact⟨0,fb,_,rfl,rfl,Nat.zero_le _,HK1.out⟩
  case round =>
   clear HK0 HK1
   obtain⟨i,sb,x,rfl,rfl,hi,hk⟩:=hrel
   have HK:=Lib.hid hk
   clear hk
   obtain⟨wl,hwl⟩:∃ wl,wl=wr:=⟨_,rfl⟩
   subst hwl
   by_cases hlt:i < cl
   ·have hlt':(i:Int) < (cl:Int):=by omega
    obtain⟨ba,bb,bw,ca,cb,cw,hb10,hrs⟩:=HK.out.val
    have HV10:=Lib.hid hb10
    have HRS:=Lib.hid hrs
    have HKB:=Lib.hid HK.out.b0
    rw[HN.out] at HV10 HRS HKB
    have CM:=Lib.hid (qMoves_any s _ _ x _ wl (HSV.out.frm HK.out.f) HRS.out HOK.out)
    rw[HN.out] at CM
    clear hb10 hrs
    go_upto_region 10 with (first
     | (refine wpList_load_whole rfl 25 _ rfl _ rfl _ 25 HKB.out _ Tryz.underlying25 rfl (by kernel_rfl) ?_)
     | (refine wpList_load_whole rfl 35 _ rfl _ rfl _ 35 HV10.out _ Tryz.underlying35 rfl (by kernel_rfl) ?_)
     | (go_at_call 17;go_must (refine CM.out.mono ?_;clear CM;rintro e w5 ⟨u,rfl,hal,hf5⟩;obtain⟨am,km,rfl⟩:=hal.shape;have HAL:=Lib.hid hal;have HF5:=Lib.hid hf5;have HK5:=Lib.hid (HK.out.frm hf5);clear hal hf5)))
    obtain⟨M,hM⟩:∃ M,(movesP s x).length=M:=⟨_,rfl⟩
    have HML:=Lib.hid hM
    rw[hM] at HAL ⊢
    clear hM
    by_cases hM0:M=0
    ·subst hM0
     have HK:=HK5
     clear HK5 HV10 HRS HKB HAL HF5
     have h6:=HK.out
     obtain⟨ba,bb,bw,bi,ca,cb,cw,hb10,hro,hlo⟩:=h6.bx
     have HBX:=Lib.hid hb10;have HRO:=Lib.hid hro;have HLO:=Lib.hid hlo
     have hl10:=h6.lo
     have HB1:=Lib.hid h6.b1
     rw[HN.out] at HBX
     clear h6 hb10 hro hlo
     go_upto_region 17 with fail
     refine heldF_start (F:=[w.heap.size + 1]) (by kernel_rfl) ?_
     obtain⟨wd,hwd⟩:∃ wd,w5.drew=wd:=⟨_,rfl⟩
     have hfd:Frm [] w5 wd:=by rw[← hwd];exact(Frm.refl _ _).drew
     rw[hwd]
     clear hwd
     refine cnt 0 ?_
     iterate 3
      refine hcF ?_ ?_ ?_
      rotate_left
      ·intro w' hC
       have hz:=(hC.at (hfd.at HBX.out (by simp)) (by simp;omega))
       have z0:=cell_of hz 0
       have z1:=cell_of hz 1
       have z2:=cell_of hz 2
       clear hz
       clear hC
       go_simp
       try rfl
      try simp only[nrm,Nat.reduceAdd]
     refine tcn ?_
     refine cnt 3 ?_
     iterate 4
      refine hcF ?_ ?_ ?_
      rotate_left
      ·intro w' hC
       clear hC
       go_simp
       try rfl
      try simp only[nrm,Nat.reduceAdd]
     refine tcn ?_
     have HFD:=Lib.hid hfd
     have hb3:=hfd.at HB1.out (by simp)
     have f0:=free_of hb3 0
     have f1:=free_of hb3 1
     have f2:=free_of hb3 2
     have y0:=cell_of hb3 0
     have y1:=cell_of hb3 1
     have y2:=cell_of hb3 2
     have HP3:=Lib.hid (put3 (u:=.slice (some ⟨ba,0,none⟩) n ca) (v:=.slice (some ⟨bb,0,none⟩) n cb) (z:=.slice (some ⟨bw,0,none⟩) n cw) hb3 rfl)
     have HKD:=Lib.hid (HK.out.frm hfd)
     clear hb3 hfd
     refine hstF 7 (fun K' hK'=>?_)
     go_simp
     (skip)
     refine hK'.out _ _ (((Frm.refl _ _).setCell _ (.inl (by simp)) _).setCell _ (.inl (by simp)) _ |>.setCell _ (.inl (by simp)) _) ?_
     clear hK' K'
     try simp only[nrm]
     refine htF 8 ?_ ?_ ?_
     rotate_left
     ·intro w' hC
      clear hC
      go_simp
      try rfl
     try simp only[nrm]
     refine wpAnyH_done (by kernel_rfl) ?_ _
     go_wp2
     obtain⟨w9,hw9⟩:∃ X,((wd.setCell ⟨w.heap.size + 1,0,none⟩ (.slice (some ⟨ba,0,none⟩) n ca)).setCell ⟨w.heap.size + 1,1,none⟩ (.slice (some ⟨bb,0,none⟩) n cb)).setCell ⟨w.heap.size + 1,2,none⟩ (.slice (some ⟨bw,0,none⟩) n cw)=X:=⟨_,rfl⟩
     rw[hw9] at HP3
     try rw[hw9]
     refine bodyPost_ret (results_wk rfl rfl rfl rfl rfl HP3.out.1 rfl) rfl ⟨_,rfl,yb,fb,sb,_,x,rfl,HMV.out,?_,?_,⟨⟨ba,bb,bw,bi,ca,cb,cw,by rw[HN.out],(HRO.out.frm HFD.out).kt HP3.out.2.2 (by decide) (by decide) (by decide) (by decide) (by decide) (by decide),HLO.out⟩,HKD.out.ok⟩,(HKD.out.f).then HP3.out.2.1 (by intro q hq;simp at hq;omega)⟩
     ·exact HKD.out.sy.bx (BxR.zero HKD.out.b1) HP3.out.2.1
     ·exact HKD.out.st.bx (by have:=HOK.out.n2;omega) (BxR.zero HKD.out.b1) HP3.out.2.1
    ·skip
     rename_i z0_ z1_ z2_ z3_ z4_ z5_ z6_ z7_ z8_ z9_ z10_ z11_ z12_ z13_ z14_
     revert s cs w HOK ao cap HSV ca0 cc0 n cl hc40 HBY HN HCL W0 hlw HF0 CN w1 yb fb w2 z0_ z1_ z2_ bi z3_ z4_ z5_ w3 b10 HMV w4 z6_ z7_ u4 u5 u7 u13 u14 u15 u16 u34 u35 u36 u37 u38 u39 u40 u41 u42 u43 u44 u45 u46 u47 u48 u49 u50 u51 u52 u53 u54 u55 u56 u57 u58 u59 u60 u61 u62 u63 u64 u65 u66 u67 u68 u69 u70 u71 u72 u73 u74 u75 u76 u77 u78 u79 u80 u81 u82 u83 i sb x hi wl HK hlt hlt' ba bb bw ca cb cw HV10 HRS HKB z8_ z9_ z10_ w5 am km HF5 HK5 z11_ z12_ z13_ z14_ M HAL HML hM0
     exact HP0.out
   ·obtain rfl:i=cl:=by omega
    have hge:¬ (i:Int) < (i:Int):=by omega
    have h6:=HK.out
    obtain⟨ba,bb,bw,bi,ca,cb,cw,hb10,hro,hlo⟩:=h6.bx
    have HBX:=Lib.hid hb10;have HRO:=Lib.hid hro;have HLO:=Lib.hid hlo
    have hl10:=h6.lo
    have HB1:=Lib.hid h6.b1
    rw[HN.out] at HBX
    clear h6 hb10 hro hlo
    go_upto_region 17 with fail
    refine heldF_start (F:=[w.heap.size + 1]) (by kernel_rfl) ?_
    obtain⟨wd,hwd⟩:∃ wd,wl.drew=wd:=⟨_,rfl⟩
    have hfd:Frm [] wl wd:=by rw[← hwd];exact(Frm.refl _ _).drew
    rw[hwd]
    clear hwd
    refine cnt 0 ?_
    iterate 3
     refine hcF ?_ ?_ ?_
     rotate_left
     ·intro w' hC
      have hz:=(hC.at (hfd.at HBX.out (by simp)) (by simp;omega))
      have z0:=cell_of hz 0
      have z1:=cell_of hz 1
      have z2:=cell_of hz 2
      clear hz
      clear hC
      go_simp
      try rfl
     try simp only[nrm,Nat.reduceAdd]
    refine tcn ?_
    refine cnt 3 ?_
    iterate 4
     refine hcF ?_ ?_ ?_
     rotate_left
     ·intro w' hC
      clear hC
      go_simp
      try rfl
     try simp only[nrm,Nat.reduceAdd]
    refine tcn ?_
    have HFD:=Lib.hid hfd
    have hb3:=hfd.at HB1.out (by simp)
    have f0:=free_of hb3 0
    have f1:=free_of hb3 1
    have f2:=free_of hb3 2
    have y0:=cell_of hb3 0
    have y1:=cell_of hb3 1
    have y2:=cell_of hb3 2
    have HP3:=Lib.hid (put3 (u:=.slice (some ⟨ba,0,none⟩) n ca) (v:=.slice (some ⟨bb,0,none⟩) n cb) (z:=.slice (some ⟨bw,0,none⟩) n cw) hb3 rfl)
    have HKD:=Lib.hid (HK.out.frm hfd)
    clear hb3 hfd
    refine hstF 7 (fun K' hK'=>?_)
    go_simp
    (skip)
    refine hK'.out _ _ (((Frm.refl _ _).setCell _ (.inl (by simp)) _).setCell _ (.inl (by simp)) _ |>.setCell _ (.inl (by simp)) _) ?_
    clear hK' K'
    try simp only[nrm]
    refine htF 8 ?_ ?_ ?_
    rotate_left
    ·intro w' hC
     clear hC
     go_simp
     try rfl
    try simp only[nrm]
    refine wpAnyH_done (by kernel_rfl) ?_ _
    go_wp2
    obtain⟨w9,hw9⟩:∃ X,((wd.setCell ⟨w.heap.size + 1,0,none⟩ (.slice (some ⟨ba,0,none⟩) n ca)).setCell ⟨w.heap.size + 1,1,none⟩ (.slice (some ⟨bb,0,none⟩) n cb)).setCell ⟨w.heap.size + 1,2,none⟩ (.slice (some ⟨bw,0,none⟩) n cw)=X:=⟨_,rfl⟩
    rw[hw9] at HP3
    try rw[hw9]
    refine bodyPost_ret (results_wk rfl rfl rfl rfl rfl HP3.out.1 rfl) rfl ⟨_,rfl,yb,fb,sb,_,x,rfl,HMV.out,?_,?_,⟨⟨ba,bb,bw,bi,ca,cb,cw,by rw[HN.out],(HRO.out.frm HFD.out).kt HP3.out.2.2 (by decide) (by decide) (by decide) (by decide) (by decide) (by decide),HLO.out⟩,HKD.out.ok⟩,(HKD.out.f).then HP3.out.2.1 (by intro q hq;simp at hq;omega)⟩
    ·exact HKD.out.sy.bx (BxR.zero HKD.out.b1) HP3.out.2.1
    ·exact HKD.out.st.bx (by have:=HOK.out.n2;omega) (BxR.zero HKD.out.b1) HP3.out.2.1
set_option maxHeartbeats 16000000 in
set_option maxRecDepth 100000 in
theorem walkedT:walkedS.1:=by
 intro s cs w HOK ao cap HSV ca0 cc0 n cl hc40 HBY HN HCL W0 hlw HF0 CN w1 yb fb w2 _ _ _ bi _ _ _ w3 b10 HMV w4 _ _ u4 u5 u7 u13 u14 u15 u16 u34 u35 u36 u37 u38 u39 u40 u41 u42 u43 u44 u45 u46 u47 u48 u49 u50 u51 u52 u53 u54 u55 u56 u57 u58 u59 u60 u61 u62 u63 u64 u65 u66 u67 u68 u69 u70 u71 u72 u73 u74 u75 u76 u77 u78 u79 u80 u81 u82 u83 i sb x hi wl HK hlt hlt' ba bb bw ca cb cw HV10 HRS HKB _ _ _ w5 am km HF5 HK5 _ _ _ _ M HAL HML hM0
 have hM0':¬ (M:Int)=0:=by omega
 have hMb:((M:Int) == 0)=false:=by rw[beq_eq_false_iff_ne];exact hM0'
 obtain⟨c,hc⟩:∃ c,cs[i]?=some c:=⟨_,List.getElem?_eq_getElem (by rw[HCL.out];exact hlt)⟩
 have hbx:∃ b o,ca0=some ⟨b,o,none⟩∧w5.cell? ⟨b,o + i,none⟩=some (.int .u8 (c.toNat:Int)):=by
  obtain⟨_,_,e3,-,hbx⟩:=HBY.out.frm0 HK5.out.f
  obtain⟨b,o,e,h⟩:=hbx i c hc
  injection e3 with e4
  exact⟨b,o,e4.trans e,h⟩
 obtain⟨cb',co,e7,y0⟩:=hbx
 subst e7
 have hwc:wrap64 (c.toNat:Int)=(c.toNat:Int):=by have:=c.toNat_lt;unfold wrap64;omega
 have hMp:0 < M:=by omega
 obtain⟨r,hr⟩:∃ r,c.toNat % M=r:=⟨_,rfl⟩
 have hrM:r < M:=hr ▸ Nat.mod_lt _ hMp
 have hrM':(r:Int) < (M:Int):=by omega
 have hrt:Int.tmod (c.toNat:Int) (M:Int)=(r:Int):=by rw[← hr];rfl
 have hrt2:(((c.toNat % M:Nat):Int))=(r:Int):=by rw[hr]
 obtain⟨m,hm⟩:∃ m,(movesP s x)[r]?=some m:=⟨_,List.getElem?_eq_getElem (by rw[HML.out];exact hrM)⟩
 obtain⟨ab,ao1,e1,hm1⟩:=HAL.out.get hm
 subst e1
 have hmem:=List.mem_of_getElem? hm
 have HDB:=Lib.hid ((do_iff HOK.out HK.out.ok m).2 hmem)
 obtain⟨mk,mr,ms,mp⟩:=m
 obtain⟨m0,m1,m2,m3⟩:=hm1
 dsimp only at m0 m1 m2 m3
 have HMM:=Lib.hid hmem
 clear hc hm hr hmem
 go_upto_region 12 with (refine wpList_store_row rfl 47 _ _ rfl _ _ _ _ rfl rfl (heap_alloc_new _ _) rfl (by kernel_rfl) (one4i ..) ?_;intro w6 hb6 hf6;have HBM:=Lib.hid hb6;have HF6:=Lib.hid (((Frm.refl [] w5).alloc _).then hf6 (by intro q hq;simp at hq;subst hq;exact .inr (Nat.le_refl _)));clear hb6 hf6)
 clear m0 m1 m2 m3 y0
 have HK6:=Lib.hid (HK5.out.frm HF6.out)
 have HRS6:=Lib.hid (HRS.out.frm (HF5.out.trans HF6.out))
 have CA:=Lib.hid (pDo_yes s yb fb sb x ⟨mk,mr,ms,mp⟩ w6 HK6.out.sy HK6.out.st HMM.out)
 have x0:=cell_of HBM.out 0
 have x1:=cell_of HBM.out 1
 have x2:=cell_of HBM.out 2
 have x3:=cell_of HBM.out 3
 have HV6:=Lib.hid ((HF5.out.trans HF6.out).at HV10.out (by simp))
 have HB06:=Lib.hid ((HF5.out.trans HF6.out).at HKB.out (by simp))
 have hlm:=lt_of_block HBM.out
 go_upto_region 16 with (first
  | (go_at_call 24;go_must (refine CA.out.mono ?_;clear CA;rintro e w7 ⟨u,rfl,xa,rfl,hxs,hf7⟩;have HXA:=Lib.hid hxs;have HF7:=Lib.hid hf7;clear hxs hf7))
  | (go_at_call 19;go_must (refine(CN.out 0 _).mono ?_;rintro e w8 ⟨rfl,hf'⟩;have HF8:=Lib.hid (HF7.out.trans hf');have HXA8:=Lib.hid (HXA.out.frm hf');clear hf')))
 clear x0 x1 x2 x3
 have HV8:=Lib.hid (HF8.out.at HV6.out (by simp));have HB08:=Lib.hid (HF8.out.at HB06.out (by simp));have HBM8:=Lib.hid (HF8.out.at HBM.out (by simp))
 have CQ:=Lib.hid (qDo_any s _ _ x _ w8 ⟨mk,mr,ms,mp⟩ (HSV.out.frm (HK6.out.f.trans HF8.out)) (HRS6.out.frm HF8.out) HOK.out)
 rw[HN.out] at CQ
 have CQ2:Hid (Calls Tryz.prog 27 #[.agg #[.string s.name,.slice ao n cap,.int .i64 s.cls,.int .i64 s.cap],.agg #[.slice (some ⟨ba,0,none⟩) n ca,.slice (some ⟨bb,0,none⟩) n cb,.slice (some ⟨bw,0,none⟩) n cw],.agg #[.int .i64 mk,.int .i64 mr,.int .i64 ms,.int .i64 mp]] w8
   (RetV fun u w'=>Frm [] w8 w'∧∃ p q r a b c,u=.tuple #[.agg #[.slice (some ⟨p,0,none⟩) n a,.slice (some ⟨q,0,none⟩) n b,.slice (some ⟨r,0,none⟩) n c],.bool true]∧RSt w8.heap.size w' s (.agg #[.slice (some ⟨p,0,none⟩) n a,.slice (some ⟨q,0,none⟩) n b,.slice (some ⟨r,0,none⟩) n c]) (nextP s x ⟨mk,mr,ms,mp⟩))):=Lib.hid (CQ.out.mono fun e w' h=>by
  obtain⟨u,rfl,hf,⟨-,yv,rfl,hy⟩ | ⟨h0,-⟩⟩:=h
  ·obtain⟨p,q,r,-,a,b,c,rfl,-⟩:=id hy.out
   rw[HN.out] at hy ⊢
   exact⟨_,rfl,hf,p,q,r,a,b,c,rfl,hy⟩
  ·rw[HDB.out] at h0;cases h0)
 clear CQ
 go_wp2_with (first
  | (refine wpList_load_whole rfl 25 _ rfl _ rfl _ 25 HB08.out _ Tryz.underlying25 rfl (by kernel_rfl) ?_)
  | (refine wpList_load_whole rfl 35 _ rfl _ rfl _ 35 HV8.out _ Tryz.underlying35 rfl (by kernel_rfl) ?_)
  | (refine wpList_load_whole rfl 47 _ rfl _ rfl _ 47 HBM8.out _ Tryz.underlying47 rfl (by kernel_rfl) ?_)
  | (go_at_call 27;go_must (refine CQ2.out.mono ?_;clear CQ2;rintro e w9 ⟨u,rfl,hf9,pa,pb,pc,qa,qb,qc,rfl,hr9⟩;have HR9:=Lib.hid hr9;have HF9:=Lib.hid hf9;have HV9:=Lib.hid (hf9.at HV8.out (by simp));clear hr9 hf9))
  | (refine wpList_store_rowK rfl 35 _ _ rfl _ _ _ _ rfl rfl HV9.out rfl (by kernel_rfl) (one3v ..) ?_;intro wz hbz hfz hkz;have HKZ:=Lib.hid (HK6.out.put (HF8.out.trans HF9.out) (HXA8.out.frm HF9.out) (HR9.out.low (by have:=HK6.out.f.size;have:=HF8.out.size;omega)) (by have:=HOK.out.n2;omega) hbz hfz hkz);clear hbz hfz hkz))
 exact⟨⟨i + 1,xa,_,rfl,congrArg (Value.int .i64) (by omega),hlt,HKZ.out⟩,by simp[intOf];omega⟩
theorem walked_any (v cv:Value) (s:SesD) (cs:List UInt8) (w:World) (h:SesV w v s) (hb:Byts w cv cs) (hsm:SmS s) (hck:ckSes s=0) (hc40:cs.length≤40):Calls Tryz.prog 15 #[v,cv] w (RetV (WkTo w s)):=walkedS.2 walkedT v cv s cs w h hb hsm hck hc40
end Go.Proofs.YtkphhjekfimmlaaGreat
