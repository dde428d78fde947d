/- Part of the proof. -/
import Derived.Test.YtohfkhjlnlahdaaGreatQ04
import Derived.Test.YtohfkhjlnlahdaaGreatQ40
import Derived.Test.YtohfkhjlnlahdaaGreatQ25
import Derived.Test.YtohfkhjlnlahdaaGreatQ42
import Derived.Test.YtohfkhjlnlahdaaGreatQ34
import Derived.Test.YtohfkhjlnlahdaaGreatQ26
import Derived.Test.YtohfkhjlnlahdaaGreatQ41
import Derived.Laws.StructEq
import Derived.Laws.OwnMore
import Derived.Test.YtohfkhjlnlahdaaGreatQ22
import Derived.Lib.AppendStr
import Derived.Test.YtohfkhjlnlahdaaGreatQ35
import Derived.WalkMore
import Derived.Test.YtohfkhjlnlahdaaGreatQ32
import Derived.Laws.EntriesVeiled
import Derived.Laws.Concat
set_option linter.all false
namespace Go.Proofs.YtohfkhjlnlahdaaGreat
open Go.RowKit Go.BigFrame
theorem fX {s:SesD} {x:PS} (a:SesOk s) (E:PSok s x):(aN s x).length≤5000:=by
 have h:=fW a E (Nat.le_refl s.roles.length)
 have A:=iK (x:=x) a (Nat.le_refl s.roles.length)
 unfold aN
 rw[List.length_append]
 exact Nat.le_trans (Nat.add_le_add h A) (by decide)
set_option maxHeartbeats 4000000 in
set_option maxRecDepth 100000 in
theorem rX (s:SesD) (h U sb i k:Nat) (x:PS) (m:Mv) (w:World) (G:SyR w s h U) (I:StR w s h sb x) (Y:m∈aN s x) (W:i<s.roles.length) (X:k<s.roles.length) (R:m=⟨2,i,k,0⟩) :
  Calls Tryz.prog 19 #[.pointer (some ⟨h,0,none⟩),.pointer (some ⟨sb,0,none⟩),mvV m] w (aU (uq w s h (bh s x m))):=by
 have ah:=vi R
 clear R
 have A:Hid (Frm [] w (w.alloc (.cells (dK m) 44))):=vi ((Frm.refl [] w).alloc _)
 have ab:=vi (eJ s h U sb x _ (G.frm A.out) (I.frm A.out))
 have ad:Hid (∀ a,Frm [] w a→Calls Tryz.prog 63 #[.pointer (some ⟨h,0,none⟩),.pointer (some ⟨sb,0,none⟩)] a (aU fun v w'=>Arr 4 MvAt w' v (aN s x)∧Frm [] a w')):=vi fun a H=>gB s h U sb x a (G.frm H) (I.frm H)
 have ai:Hid ((aN s x).length≤5000):=vi (fX G.ok I.ok)
 have ar:Hid (decide (m∈aN s x)=true):=vi (decide_eq_true Y)
 have E:Hid (∀ a,Frm [] (w.alloc (.cells (dK m) 44)) a→a.cell? ⟨w.heap.size,0,none⟩=some (.int .i64 m.kind)∧a.cell? ⟨w.heap.size,1,none⟩=some (.int .i64 m.role)∧a.cell? ⟨w.heap.size,2,none⟩=some (.int .i64 m.step)∧a.cell? ⟨w.heap.size,3,none⟩=some (.int .i64 m.place)):=vi fun a H=>by
  have hb:=H.at (heap_alloc_new w (.cells (dK m) 44)) (by simp)
  exact⟨ae hb 0,ae hb 1,ae hb 2,ae hb 3⟩
 have aw:=vi G;have aj:=vi I;have au:=vi (fj G.ok I.ok Y)
 clear G I Y
 go_enter Tryz.func19,Tryz.ntmps19
 go_upto_region 4 with (first
  | (go_at_call 61;go_must (refine ab.out.mono ?_;rintro e w' ⟨rfl,rfl⟩)))
 obtain⟨w0,aa⟩:∃ w0,w.alloc (.cells (dK m) 44)=w0:=⟨_,rfl⟩
 rw[aa] at E A
 try rw[aa]
 clear aa ab
 go_region_held3 (fun a=>a.cell? ⟨w.heap.size,0,none⟩=some (.int .i64 m.kind)∧a.cell? ⟨w.heap.size,1,none⟩=some (.int .i64 m.role)∧a.cell? ⟨w.heap.size,2,none⟩=some (.int .i64 m.step)∧a.cell? ⟨w.heap.size,3,none⟩=some (.int .i64 m.place))
  (first
   | exact E.out _ ((Frm.refl [] w0).drew)
   | exact E.out _ F1.out
   | exact E.out _ O.out)
  (first
   | (go_at_call 63;go_must (refine(ad.out _ A.out.drew).mono ?_;rintro e am ⟨u,rfl,V,K⟩;have F1:Hid (Frm [] w0 am):=vi ((Frm.refl [] w0).drew.trans K);obtain⟨aB,aF,rfl⟩:=V.shape;have S:=vi (jz _ _ m am V ai.out);rw[ar.out] at S;clear V K))
   | (go_at_call 62;go_must (refine S.out.mono ?_;rintro e N ⟨rfl,K⟩;have O:Hid (Frm [] w0 N):=vi (F1.out.trans K);clear K)))
 have af:Hid (Frm [] w N):=vi (A.out.trans O.out)
 have av:Hid (∀ a,Frm [] N a→a.cell? ⟨w.heap.size,0,none⟩=some (.int .i64 m.kind)∧a.cell? ⟨w.heap.size,1,none⟩=some (.int .i64 m.role)∧a.cell? ⟨w.heap.size,2,none⟩=some (.int .i64 m.step)∧a.cell? ⟨w.heap.size,3,none⟩=some (.int .i64 m.place)):=vi fun a H=>E.out a (O.out.trans H)
 clear F1 O S ad ai E A
 have R:=ah.out
 subst R
 clear ah
 have an:=vi (eV s h sb i k x N (aj.out.frm af.out) W X aw.out.ok.n4)
 obtain⟨c0,aC,aD,aE⟩:=av.out N (Frm.refl _ _)
 have ap:=vi W;have aq:=vi X
 clear W X
 go_wp2_with (first
  | (go_at_call 64;go_must (refine an.out.mono ?_;rintro e az ⟨v,rfl,aI,aA,aG,rb,cb,F,rfl,J⟩;have ag:=vi J;clear J))
  | (go_at_call 65;go_must (refine(su cb s.cls s.cap (x.way i k) F az ag.out.chn).mono ?_;rintro e aH ⟨rfl,al⟩;have ax:=vi al;clear al)))
 go_ret2
 obtain⟨F',J⟩:=ag.out.chan ax.out
 have ak:=au.out
 rw[j1] at ak ⊢
 have ay:=J.str aj.out.ok ap.out aq.out ak
 exact⟨_,rfl,_,rfl,ay,af.out.trans J.fr⟩
set_option maxHeartbeats 8000000 in
set_option maxRecDepth 100000 in
theorem rW (s:SesD) (aa cu sb i k:Nat) (x:PS) (m:Mv) (w:World) (ag:SyR w s aa cu) (bp:StR w s aa sb x) (cw:m∈aN s x) (dn:i<s.roles.length) (dp:k<(s.rol i).steps.length) (dr:m∈be s x i k) :
  Calls Tryz.prog 19 #[.pointer (some ⟨aa,0,none⟩),.pointer (some ⟨sb,0,none⟩),mvV m] w (aU (uq w s aa (bh s x m))):=by
 have c6:=vi (dt dr)
 have E:=vi dn;have aD:=vi dp
 clear dr dn dp
 have bl:Hid (Frm [] w (w.alloc (.cells (dK m) 44))):=vi ((Frm.refl [] w).alloc _)
 have cU:=vi (eJ s aa cu sb x _ (ag.frm bl.out) (bp.frm bl.out))
 have cW:Hid (∀ a,Frm [] w a→Calls Tryz.prog 63 #[.pointer (some ⟨aa,0,none⟩),.pointer (some ⟨sb,0,none⟩)] a (aU fun v w'=>Arr 4 MvAt w' v (aN s x)∧Frm [] a w')):=vi fun a h=>gB s aa cu sb x a (ag.frm h) (bp.frm h)
 have c4:Hid ((aN s x).length≤5000):=vi (fX ag.ok bp.ok)
 have dz:Hid (decide (m∈aN s x)=true):=vi (decide_eq_true cw)
 have bm:Hid (∀ a,Frm [] (w.alloc (.cells (dK m) 44)) a→a.cell? ⟨w.heap.size,0,none⟩=some (.int .i64 m.kind)∧a.cell? ⟨w.heap.size,1,none⟩=some (.int .i64 m.role)∧a.cell? ⟨w.heap.size,2,none⟩=some (.int .i64 m.step)∧a.cell? ⟨w.heap.size,3,none⟩=some (.int .i64 m.place)):=vi fun a h=>by
  have hb:=h.at (heap_alloc_new w (.cells (dK m) 44)) (by simp)
  exact⟨ae hb 0,ae hb 1,ae hb 2,ae hb 3⟩
 have J:=vi ag;have O:=vi bp;have cq:=vi (fj ag.ok bp.ok cw)
 clear ag bp cw
 go_enter Tryz.func19,Tryz.ntmps19
 go_upto_region 4 with (first
  | (go_at_call 61;go_must (refine cU.out.mono ?_;rintro e w' ⟨rfl,rfl⟩)))
 obtain⟨w0,cC⟩:∃ w0,w.alloc (.cells (dK m) 44)=w0:=⟨_,rfl⟩
 rw[cC] at bm bl
 try rw[cC]
 clear cC cU
 go_region_held3 (fun a=>a.cell? ⟨w.heap.size,0,none⟩=some (.int .i64 m.kind)∧a.cell? ⟨w.heap.size,1,none⟩=some (.int .i64 m.role)∧a.cell? ⟨w.heap.size,2,none⟩=some (.int .i64 m.step)∧a.cell? ⟨w.heap.size,3,none⟩=some (.int .i64 m.place))
  (first
   | exact bm.out _ ((Frm.refl [] w0).drew)
   | exact bm.out _ F1.out
   | exact bm.out _ b3.out)
  (first
   | (go_at_call 63;go_must (refine(cW.out _ bl.out.drew).mono ?_;rintro e dx ⟨u,rfl,S,az⟩;have F1:Hid (Frm [] w0 dx):=vi ((Frm.refl [] w0).drew.trans az);obtain⟨dU,dW,rfl⟩:=S.shape;have cj:=vi (jz _ _ m dx S c4.out);rw[dz.out] at cj;clear S az))
   | (go_at_call 62;go_must (refine cj.out.mono ?_;rintro e Y ⟨rfl,az⟩;have b3:Hid (Frm [] w0 Y):=vi (F1.out.trans az);clear az)))
 have cl:Hid (Frm [] w Y):=vi (bl.out.trans b3.out)
 have V:Hid (∀ a,Frm [] Y a→a.cell? ⟨w.heap.size,0,none⟩=some (.int .i64 m.kind)∧a.cell? ⟨w.heap.size,1,none⟩=some (.int .i64 m.role)∧a.cell? ⟨w.heap.size,2,none⟩=some (.int .i64 m.step)∧a.cell? ⟨w.heap.size,3,none⟩=some (.int .i64 m.place)):=vi fun a h=>bm.out a (b3.out.trans h)
 clear F1 b3 cj cW c4 bm bl
 obtain⟨cL,cM,cN,bN,dM⟩:=c6.out
 obtain⟨pl,cB⟩:∃ pl,m.place=pl:=⟨_,rfl⟩
 have c5:Hid (m=⟨1,i,k,pl⟩):=vi (by obtain⟨bo,b,c,d⟩:=m;simp only at cL cM cN cB;subst cL cM cN cB;rfl)
 clear c6 cL cM cN cB dM
 have dJ:=c5.out
 subst dJ
 clear c5
 have V:Hid (∀ a,Frm [] Y a→a.cell? ⟨w.heap.size,0,none⟩=some (.int .i64 1)∧a.cell? ⟨w.heap.size,1,none⟩=some (.int .i64 i)∧a.cell? ⟨w.heap.size,2,none⟩=some (.int .i64 k)∧a.cell? ⟨w.heap.size,3,none⟩=some (.int .i64 pl)):=vi fun a h=>V.out a h
 obtain⟨d1,d4,d3,d5,dX,d6,bW,bf⟩:=J.out.rol E.out
 obtain⟨aZ,ao,ac,bc,bG,cv⟩:=O.out.act E.out
 have cm:=vi cv.bnk
 have cZ:Hid (∀ a,Frm [] w a→a.cell? ⟨sb,1,none⟩=some (.slice (some ⟨aZ,ao,none⟩) s.roles.length ac)∧a.cell? ⟨aZ,ao+i*2+1,none⟩=some (.pointer (some ⟨bc,0,none⟩))):=vi fun a h=>⟨h.keep bG,h.keep cv.c1⟩
 have dv:=(J.out.ok.stp E.out aD.out).to
 obtain⟨ai,bP,-⟩:=cO dv
 have dR:=vi bN
 have c7:Hid (okB (x.ctr s i) ((s.rol i).stp k)=true):=vi (by
  rw[mE J.out.ok O.out.ok E.out aD.out]
  unfold dL at bN
  simp only[Bool.and_eq_true] at bN
  exact bN.1)
 have cn:=vi (gp J.out.ok O.out.ok E.out)
 have c3:=vi (pk J.out.ok O.out.ok E.out aD.out)
 have c1:=vi (sk J.out.ok O.out.ok E.out aD.out)
 have cg:=RolD.stp_some aD.out
 obtain⟨n,cx⟩:∃ n,s.roles.length=n:=⟨_,rfl⟩
 have cp:=vi cx
 have dZ:(i:Int)<(n:Int):=by have:=E.out;omega
 have dq:(k:Int)<((s.rol i).steps.length:Int):=by have:=aD.out;omega
 obtain⟨r,bR⟩:∃ r,s.rol i=r:=⟨_,rfl⟩
 have dS:=vi bR
 obtain⟨t,aA⟩:∃ t,(s.rol i).stp k=t:=⟨_,rfl⟩
 have aW:=vi aA
 have a9:=cZ
 have b7:=c7
 have b6:=c3
 have b5:=c1
 rw[cx] at a9 bW
 rw[aA] at b7 b6 b5 bP cg
 rw[bR] at bf cg dq bP
 obtain⟨aF,aJ,rfl⟩:=bf.r3.sts.shape
 obtain⟨aE,aH,rfl⟩:=bf.r3.ctrs.shape
 obtain⟨dT,aK,rfl⟩:=bf.r3.steps.shape
 obtain⟨aL,aM,rfl,cD,au,ah,cE,cF,cG,cH,cI,cK⟩:=bf.r3.steps.get cg
 have cX:Hid (∀ a,Frm [] w a→Calls Tryz.prog 71 #[.agg #[.string r.name,.slice aF r.sts.length aJ,.slice aE r.ctrs.length aH,.slice (some ⟨aL,aM,none⟩) r.steps.length aK],.string t.to] a (Ret (.int .i64 (ai:Int)) (Frm [] a))):=vi fun a h=>by
  rw[← bP]
  exact ou _ r t.to a ⟨_,_,_,rfl,bf.r3.frm h⟩ (by have:=(J.out.ok.at E.out).s24;rw[bR] at this;omega)
 obtain⟨b9,ca,cc,cd,-⟩:=bf
 obtain⟨a4,cz⟩:∃ bo,r.sts.length=bo:=⟨_,rfl⟩
 obtain⟨a3,cy⟩:∃ bo,r.ctrs.length=bo:=⟨_,rfl⟩
 obtain⟨a5,cA⟩:∃ bo,r.steps.length=bo:=⟨_,rfl⟩
 have b0:=cX
 rw[cz,cy,cA] at b0
 rw[cz] at ca
 rw[cy] at cc
 rw[cA] at cd dq
 have cr:Hid ((bK (s.rol i) ((s.rol i).stp k).to).toNat=ai):=vi (by rw[aA,bR];show (ixf _ _).toNat=ai;rw[bP];rfl)
 clear bN bG cv dv bP cg cx bR aA cZ c7 c3 c1 cX cz cy cA
 have g:=cl.out
 replace bW:=g.keep bW;replace b9:=g.keep b9;replace ca:=g.keep ca;replace cc:=g.keep cc;replace cd:=g.keep cd
 have c0:=(V.out Y (Frm.refl _ _)).1
 have ct:=(V.out Y (Frm.refl _ _)).2.1
 have dD:=aI c0
 have dE:=aI bW
 have dF:=aI b9
 clear g
 go_upto_region 10 with fail
 go_cut [11] (fun s11 wc=>∃ bi,s11=.pointer (some ⟨bi,0,none⟩)∧wc.heap[bi]?=some (.cells #[.string r.name,.slice aF a4 aJ,.slice aE a3 aH,.slice (some ⟨aL,aM,none⟩) a5 aK] 87 (0,0))∧Frm [] Y wc)
 case first =>
  go_region
  all_goals
   go_wp2
   go_meet
   refine⟨_,rfl,heap_alloc_new _ _,?_⟩
   first
    | exact((Frm.refl [] Y).alloc _).drew
    | exact((Frm.refl [] Y).drew).alloc _
    | exact(Frm.refl [] Y).alloc _
 case rest =>
  obtain⟨bi,rfl,cf,az⟩:=hcut
  have cY:=vi az
  have c8:=vi cf
  have g:=cl.out.trans az
  replace cD:=g.keep cD;replace au:=g.keep au;replace ah:=g.keep ah;replace cE:=g.keep cE;replace cF:=g.keep cF;replace cG:=g.keep cG;replace cH:=g.keep cH;replace cI:=g.keep cI;replace cK:=g.keep cK
  have ce:=ae cf 3
  have db:=(V.out wc az).2.2.1
  have dH:=lt_of_block cf
  have dI:=aI db
  clear g cf az bW b9 ca cc cd c0 ct dD dE dF
  obtain⟨ak,ch⟩:∃ ak,wc.alloc (.cells #[.string t.frm,.string t.to,.int .i64 t.kind,.string t.msg,.string t.peer,.string t.ctr,.int .i64 t.low,.int .i64 t.high,.int .i64 t.add] 137)=ak:=⟨_,rfl⟩
  have ck:Hid (Frm [] wc ak):=vi (by rw[← ch];exact(Frm.refl _ _).alloc _)
  have ci:Hid (ak.heap[wc.heap.size]?=some (.cells #[.string t.frm,.string t.to,.int .i64 t.kind,.string t.msg,.string t.peer,.string t.ctr,.int .i64 t.low,.int .i64 t.high,.int .i64 t.add] 137 (0,0))):=vi (by rw[← ch];exact heap_alloc_new _ _)
  have c2:=vi ch
  clear ch
  go_upto_region 12 with fail
  rw[c2.out]
  obtain⟨a7,du⟩:∃ q,wc.heap.size=q:=⟨_,rfl⟩
  rw[du] at ci ⊢
  have aX:Hid (Frm [] Y ak):=vi (cY.out.trans ck.out)
  have aP:Hid (Frm [] w ak):=vi (cl.out.trans aX.out)
  have co:Hid (∀ a,Frm [] ak a→a.heap[bi]?=some (.cells #[.string r.name,.slice aF a4 aJ,.slice aE a3 aH,.slice (some ⟨aL,aM,none⟩) a5 aK] 87 (0,0))):=vi fun a h=>(ck.out.trans h).at c8.out (by simp)
  have aC:Hid (∀ a,Frm [] ak a→a.heap[a7]?=some (.cells #[.string t.frm,.string t.to,.int .i64 t.kind,.string t.msg,.string t.peer,.string t.ctr,.int .i64 t.low,.int .i64 t.high,.int .i64 t.add] 137 (0,0))):=vi fun a h=>h.at ci.out (by simp)
  clear cD au ah cE cF cG cH cI cK ce db dH dI c2 du ci c8 ck cY
  have cV:=vi (eV s aa sb i i x ak (O.out.frm aP.out) E.out E.out J.out.ok.n4)
  have dA:=vi (J.out.ok.stp E.out aD.out)
  rw[aW.out] at dA
  have ct:=(V.out ak aX.out).2.1
  go_upto_region 13 with (first
   | (go_at_call 64;go_must (refine cV.out.mono ?_;rintro e U ⟨v,rfl,dP,b8,dY,d2,dV,dQ,rfl,ay⟩;have b4:=vi ay;clear ay)))
  have bu:Hid (Frm [] w U):=vi (aP.out.trans b4.out.fr)
  have cs:Hid (Frm [] Y U):=vi (aX.out.trans b4.out.fr)
  have bn:=vi b4.out.fr
  have bI:=ae (aC.out U bn.out) 2
  clear ct cV
  have dC:t.kind=1∨t.kind=2∨(t.kind≠1∧t.kind≠2):=by omega
  have N:Hid (∀ a,Frm [] U a→a.cell? ⟨w.heap.size,1,none⟩=some (.int .i64 i)∧a.cell? ⟨w.heap.size,3,none⟩=some (.int .i64 pl)∧a.cell? ⟨a7,3,none⟩=some (.string t.msg)∧a.cell? ⟨a7,4,none⟩=some (.string t.peer)):=vi fun a h=>⟨(V.out a (cs.out.trans h)).2.1,(V.out a (cs.out.trans h)).2.2.2,ae (aC.out a (bn.out.trans h)) 3,ae (aC.out a (bn.out.trans h)) 4⟩
  rcases dC with au | ah | ⟨au,ah⟩
  ·have b1:(t.kind == 1)=true:=by simpa using au
   have bO:=J.out.ok.peer E.out aD.out (by rw[aW.out];omega)
   have bb:Hid (bh s x ⟨1,i,k,pl⟩={ pos:=x.pos.set i ai,vals:=x.vals.set i (cJ (s.rol i).ctrs (x.bank i) t),ways:=setWay x.ways i (bd s t) (gv s.cap (x.way i (bd s t)) t.msg) }):=vi (by
    rw[ez,cr.out,aW.out,if_pos au])
   rw[aW.out] at bO
   obtain⟨bg,a6,bS⟩:=bO
   obtain⟨p,bM⟩:∃ p,bd s t=p:=⟨_,rfl⟩
   rw[bM] at bg a6 bS bb
   have bs:Hid (∀ a,Frm [] w a→Calls Tryz.prog 66 #[.pointer (some ⟨aa,0,none⟩),.string t.peer] a (Ret (.int .i64 (p:Int)) (Frm [] a))):=vi fun a h=>by
    rw[← bg]
    obtain⟨cR,cP,cQ⟩:=(J.out.frm h).out
    exact eU aa s cR t.peer a (ae cP 1) cQ (by have:=J.out.ok.n4;omega)
   have bC:=vi a6
   have d0:=(O.out.ok.wb i p E.out a6)
   clear au bg a6 bS bM
   go_upto_region 15 with fail
   clear bI
   go_region_held3 (fun a=>a.cell? ⟨w.heap.size,1,none⟩=some (.int .i64 i)∧a.cell? ⟨a7,4,none⟩=some (.string t.peer))
    (first
     | exact⟨(N.out _ ((Frm.refl [] U).drew)).1,(N.out _ ((Frm.refl [] U).drew)).2.2.2⟩
     | exact⟨(N.out _ ab.out).1,(N.out _ ab.out).2.2.2⟩
     | exact⟨(N.out _ aB.out).1,(N.out _ aB.out).2.2.2⟩)
    (first
     | (go_at_call 66;go_must (refine(bs.out _ (bu.out.drew)).mono ?_;rintro e bj ⟨rfl,bJ⟩;have ab:Hid (Frm [] U bj):=vi ((Frm.refl [] U).drew.trans bJ);have bv:Hid (Frm [] w bj):=vi (bu.out.trans ab.out);have br:=vi (eV s aa sb i p x bj (O.out.frm bv.out) E.out bC.out J.out.ok.n4);clear bJ))
     | (go_at_call 64;go_must (refine br.out.mono ?_;rintro e bk ⟨v,rfl,cS,aG,dB,rb,cb,F,rfl,ay⟩;have ba:=vi ay;have aB:Hid (Frm [] U bk):=vi (ab.out.trans ay.fr);clear ay)))
   have cT:=(N.out bk aB.out).2.2.1
   clear bs
   clear br
   go_wp2_with (first
    | (go_at_call 67;go_must (refine(sN cb s.cls s.cap (x.way i p) F t.msg bk ba.out.chn).mono ?_;rintro e ad ⟨rfl,aA⟩;have bD:=vi aA;clear aA)))
   obtain⟨F',R⟩:=ba.out.chan bD.out
   have af:Hid (Frm [] ak ad):=vi (bn.out.trans (ab.out.trans R.fr))
   have am:Hid (Frm [] w ad):=vi (aP.out.trans af.out)
   have bF:Hid (Frm [] Y ad):=vi (aX.out.trans af.out)
   clear bD ba ab aB N cT
   have bw:=vi R
   obtain⟨bH,dc,ar⟩:=R.hx
   obtain⟨dd,a0⟩:=R.ha
   rw[cp.out] at ar
   clear R
   go_upto_region 20 with fail
   have aS:Hid (∀ a,Frm [] ad a→a.cell? ⟨sb,1,none⟩=some (.slice (some ⟨aZ,ao,none⟩) n ac)∧a.cell? ⟨aZ,ao+i*2+1,none⟩=some (.pointer (some ⟨bc,0,none⟩))∧a.cell? ⟨w.heap.size,1,none⟩=some (.int .i64 i)):=vi fun a h=>⟨a9.out a (am.out.trans h) |>.1,a9.out a (am.out.trans h) |>.2,(V.out a (bF.out.trans h)).2.1⟩
   refine bQ 9 (by kernel_rfl) (by kernel_rfl) ?_
   simp only[List.take_succ_cons,List.take_zero,List.drop_succ_cons,List.drop_zero]
   repeat (first
    | go_big_quiet_skip
    | (refine wpQuiet_want (by rfl) (fun an A=>?_)
       first
        | (refine quiet_move _ (by rfl) (A _ ?_))
        | (refine quiet_assign _ (by rfl) (A _ ?_))
        | (apply Exists.intro
           refine⟨fun w' H=>?_,A _ ?_⟩
           ·(unfold Oper.quietAt
             obtain⟨bX,bY,bZ⟩:=aS.out w' H
             clear H
             go_simp
             try exact⟨rfl,rfl⟩
             try rfl))
       clear A an
       try simp only[nrm,Act.eval,nrq]))
   refine wpQuiet_nil ?_
   intro aw K
   have bx:=vi (bw.out.frm K)
   have bq:=vi (jG bc (x.ctr s i) aw (cm.out.frm (am.out.trans K)) (by have:=(gp J.out.ok O.out.ok E.out).1;omega))
   have bt:=vi (aC.out _ (af.out.trans K))
   have bE:=vi (af.out.trans K)
   have aY:=vi K
   clear K aS
   go_wp2_with (first
    | (go_at_call 69;go_must (refine bq.out.mono ?_;rintro e bV ⟨v,rfl,b,g,rfl,ap⟩;have I:=vi ap;have G:=ap.frm.at bt.out (by simp);have de:=ae G 0;have df:=ae G 1;have bI:=ae G 2;have ce:=ae G 3;have dg:=ae G 4;have dh:=ae G 5;have di:=ae G 6;have dj:=ae G 7;have dk:=ae G 8;clear ap G))
    | (go_at_call 70;go_must (refine(gD b g (x.ctr s i) t bV I.out.bnk cn.out b6.out b7.out).mono ?_;rintro e ax ⟨rfl,a1⟩;have aQ:=vi a1;clear a1)))
   go_upto_region 22 with fail
   have s10:=I.out.frm.size
   have al:Hid (Frm [] aw ax):=vi (I.out.frm.then aQ.out.frm (by intro y a2;simp at a2;subst a2;exact .inr I.out.g))
   have bz:=vi (bx.out.frm al.out)
   have W:=vi (bE.out.trans al.out)
   have a8:=(aY.out.trans al.out).at ar (by simp)
   have bL:aG<aw.heap.size:=by have:=lt_of_block (aY.out.at a0 (by simp));exact this
   have aT:Hid (b≠aG∧g≠aG):=vi ⟨by have:=I.out.b;omega,by have:=I.out.g;omega⟩
   have aR:Hid (∀ a,Frm [] ax a→a.cell? ⟨cS,1,none⟩=some (.slice (some ⟨aG,0,none⟩) n bH)∧a.cell? ⟨w.heap.size,1,none⟩=some (.int .i64 i)∧a.cell? ⟨a7,1,none⟩=some (.string t.to)):=vi fun a h=>⟨h.keep (ae a8 1),(V.out a ((aX.out.trans W.out).trans h)).2.1,ae (aC.out a (W.out.trans h)) 1⟩
   have aO:=vi (co.out ax W.out)
   clear a8 ar a0 bL
   refine bQ 13 (by kernel_rfl) (by kernel_rfl) ?_
   simp only[List.take_succ_cons,List.take_zero,List.drop_succ_cons,List.drop_zero]
   repeat (first
    | go_big_quiet_skip
    | (refine wpQuiet_want (by rfl) (fun an A=>?_)
       first
        | (refine quiet_move _ (by rfl) (A _ ?_))
        | (refine quiet_assign _ (by rfl) (A _ ?_))
        | (refine aV (.int .i64 (ai:Int)) 71 #[.agg #[.string r.name,.slice aF a4 aJ,.slice aE a3 aH,.slice (some ⟨aL,aM,none⟩) a5 aK],.string t.to] (fun w' H=>?_) (fun w' H=>Ret.cq (b0.out w' ((aP.out.trans W.out).trans H)) (fun dw ag=>H.trans ag)) (A _ ?_)
           ·go_simp)
        | (refine dO 87 _ rfl bi rfl #[.string r.name,.slice aF a4 aJ,.slice aE a3 aH,.slice (some ⟨aL,aM,none⟩) a5 aK] 87 aO.out _ Tryz.underlying87 rfl (by kernel_rfl) (A _ ?_))
        | (apply Exists.intro
           refine⟨fun w' H=>?_,A _ ?_⟩
           ·(unfold Oper.quietAt
             obtain⟨bX,bY,bZ⟩:=aR.out w' H
             clear H
             go_simp
             try exact⟨rfl,rfl⟩
             try rfl))
       clear A an
       try simp only[nrm,Act.eval,nrq]))
   refine wpQuiet_nil ?_
   intro dy aq
   have X:=bz.out.frm aq
   have bA:=vi X
   obtain⟨cur,S⟩:=X.ha
   obtain⟨da,bG,c9,-⟩:=X.act i E.out
   have dl:=aj S (i*2)
   have dm:=aj S (i*2+1)
   have av:=aQ.out.bnk.frm aq (by simp) (by simp)
   rw[b5.out] at av
   have bB:=vi av
   clear X S av aq aR aO
   go_wp2
   go_ret2
   obtain⟨bT,bU⟩:=bA.out.step O.out.ok E.out bC.out E.out bB.out aT.out.1 aT.out.2 (p:=ai) (y:=bh s x ⟨1,i,k,pl⟩) bb.out cq.out
   exact⟨_,rfl,_,rfl,bT,bv.out.trans bU⟩
  ·have b1:(t.kind == 1)=false:=by rw[ah];rfl
   have b2:(t.kind == 2)=true:=by simpa using ah
   have bO:=J.out.ok.peer E.out aD.out (by rw[aW.out];omega)
   have bb:Hid (bh s x ⟨1,i,k,pl⟩={ pos:=x.pos.set i ai,vals:=x.vals.set i (cJ (s.rol i).ctrs (x.bank i) t),ways:=setWay x.ways (bd s t) i (dG s.cls (x.way (bd s t) i) pl) }):=vi (by
    rw[ez,cr.out,aW.out,if_neg (by omega),if_pos ah])
   rw[aW.out] at bO
   obtain⟨bg,a6,bS⟩:=bO
   obtain⟨p,bM⟩:∃ p,bd s t=p:=⟨_,rfl⟩
   rw[bM] at bg a6 bS bb
   have bs:Hid (∀ a,Frm [] w a→Calls Tryz.prog 66 #[.pointer (some ⟨aa,0,none⟩),.string t.peer] a (Ret (.int .i64 (p:Int)) (Frm [] a))):=vi fun a h=>by
    rw[← bg]
    obtain⟨cR,cP,cQ⟩:=(J.out.frm h).out
    exact eU aa s cR t.peer a (ae cP 1) cQ (by have:=J.out.ok.n4;omega)
   have bC:=vi a6
   clear ah bg a6 bS bM
   go_upto_region 18 with fail
   clear bI
   go_region_held3 (fun a=>a.cell? ⟨w.heap.size,1,none⟩=some (.int .i64 i)∧a.cell? ⟨a7,4,none⟩=some (.string t.peer))
    (first
     | exact⟨(N.out _ ((Frm.refl [] U).drew)).1,(N.out _ ((Frm.refl [] U).drew)).2.2.2⟩
     | exact⟨(N.out _ ab.out).1,(N.out _ ab.out).2.2.2⟩
     | exact⟨(N.out _ aB.out).1,(N.out _ aB.out).2.2.2⟩)
    (first
     | (go_at_call 66;go_must (refine(bs.out _ (bu.out.drew)).mono ?_;rintro e bj ⟨rfl,bJ⟩;have ab:Hid (Frm [] U bj):=vi ((Frm.refl [] U).drew.trans bJ);have bv:Hid (Frm [] w bj):=vi (bu.out.trans ab.out);have br:=vi (eV s aa sb p i x bj (O.out.frm bv.out) bC.out E.out J.out.ok.n4);clear bJ))
     | (go_at_call 64;go_must (refine br.out.mono ?_;rintro e bk ⟨v,rfl,cS,aG,dB,rb,cb,F,rfl,ay⟩;have ba:=vi ay;have aB:Hid (Frm [] U bk):=vi (ab.out.trans ay.fr);clear ay)))
   have cT:=(N.out bk aB.out).2.1
   clear bs
   clear br
   go_wp2_with (first
    | (go_at_call 68;go_must (refine(m8 cb s.cls s.cap (x.way p i) F pl bk ba.out.chn).mono ?_;rintro e ad ⟨rfl,aA⟩;have bD:=vi aA;clear aA)))
   obtain⟨F',R⟩:=ba.out.chan bD.out
   have af:Hid (Frm [] ak ad):=vi (bn.out.trans (ab.out.trans R.fr))
   have am:Hid (Frm [] w ad):=vi (aP.out.trans af.out)
   have bF:Hid (Frm [] Y ad):=vi (aX.out.trans af.out)
   clear bD ba ab aB N cT
   have bw:=vi R
   obtain⟨bH,dc,ar⟩:=R.hx
   obtain⟨dd,a0⟩:=R.ha
   rw[cp.out] at ar
   clear R
   go_upto_region 20 with fail
   have aS:Hid (∀ a,Frm [] ad a→a.cell? ⟨sb,1,none⟩=some (.slice (some ⟨aZ,ao,none⟩) n ac)∧a.cell? ⟨aZ,ao+i*2+1,none⟩=some (.pointer (some ⟨bc,0,none⟩))∧a.cell? ⟨w.heap.size,1,none⟩=some (.int .i64 i)):=vi fun a h=>⟨a9.out a (am.out.trans h) |>.1,a9.out a (am.out.trans h) |>.2,(V.out a (bF.out.trans h)).2.1⟩
   refine bQ 9 (by kernel_rfl) (by kernel_rfl) ?_
   simp only[List.take_succ_cons,List.take_zero,List.drop_succ_cons,List.drop_zero]
   repeat (first
    | go_big_quiet_skip
    | (refine wpQuiet_want (by rfl) (fun an A=>?_)
       first
        | (refine quiet_move _ (by rfl) (A _ ?_))
        | (refine quiet_assign _ (by rfl) (A _ ?_))
        | (apply Exists.intro
           refine⟨fun w' H=>?_,A _ ?_⟩
           ·(unfold Oper.quietAt
             obtain⟨bX,bY,bZ⟩:=aS.out w' H
             clear H
             go_simp
             try exact⟨rfl,rfl⟩
             try rfl))
       clear A an
       try simp only[nrm,Act.eval,nrq]))
   refine wpQuiet_nil ?_
   intro aw K
   have bx:=vi (bw.out.frm K)
   have bq:=vi (jG bc (x.ctr s i) aw (cm.out.frm (am.out.trans K)) (by have:=(gp J.out.ok O.out.ok E.out).1;omega))
   have bt:=vi (aC.out _ (af.out.trans K))
   have bE:=vi (af.out.trans K)
   have aY:=vi K
   clear K aS
   go_wp2_with (first
    | (go_at_call 69;go_must (refine bq.out.mono ?_;rintro e bV ⟨v,rfl,b,g,rfl,ap⟩;have I:=vi ap;have G:=ap.frm.at bt.out (by simp);have de:=ae G 0;have df:=ae G 1;have bI:=ae G 2;have ce:=ae G 3;have dg:=ae G 4;have dh:=ae G 5;have di:=ae G 6;have dj:=ae G 7;have dk:=ae G 8;clear ap G))
    | (go_at_call 70;go_must (refine(gD b g (x.ctr s i) t bV I.out.bnk cn.out b6.out b7.out).mono ?_;rintro e ax ⟨rfl,a1⟩;have aQ:=vi a1;clear a1)))
   go_upto_region 22 with fail
   have s10:=I.out.frm.size
   have al:Hid (Frm [] aw ax):=vi (I.out.frm.then aQ.out.frm (by intro y a2;simp at a2;subst a2;exact .inr I.out.g))
   have bz:=vi (bx.out.frm al.out)
   have W:=vi (bE.out.trans al.out)
   have a8:=(aY.out.trans al.out).at ar (by simp)
   have bL:aG<aw.heap.size:=by have:=lt_of_block (aY.out.at a0 (by simp));exact this
   have aT:Hid (b≠aG∧g≠aG):=vi ⟨by have:=I.out.b;omega,by have:=I.out.g;omega⟩
   have aR:Hid (∀ a,Frm [] ax a→a.cell? ⟨cS,1,none⟩=some (.slice (some ⟨aG,0,none⟩) n bH)∧a.cell? ⟨w.heap.size,1,none⟩=some (.int .i64 i)∧a.cell? ⟨a7,1,none⟩=some (.string t.to)):=vi fun a h=>⟨h.keep (ae a8 1),(V.out a ((aX.out.trans W.out).trans h)).2.1,ae (aC.out a (W.out.trans h)) 1⟩
   have aO:=vi (co.out ax W.out)
   clear a8 ar a0 bL
   refine bQ 13 (by kernel_rfl) (by kernel_rfl) ?_
   simp only[List.take_succ_cons,List.take_zero,List.drop_succ_cons,List.drop_zero]
   repeat (first
    | go_big_quiet_skip
    | (refine wpQuiet_want (by rfl) (fun an A=>?_)
       first
        | (refine quiet_move _ (by rfl) (A _ ?_))
        | (refine quiet_assign _ (by rfl) (A _ ?_))
        | (refine aV (.int .i64 (ai:Int)) 71 #[.agg #[.string r.name,.slice aF a4 aJ,.slice aE a3 aH,.slice (some ⟨aL,aM,none⟩) a5 aK],.string t.to] (fun w' H=>?_) (fun w' H=>Ret.cq (b0.out w' ((aP.out.trans W.out).trans H)) (fun dw ag=>H.trans ag)) (A _ ?_)
           ·go_simp)
        | (refine dO 87 _ rfl bi rfl #[.string r.name,.slice aF a4 aJ,.slice aE a3 aH,.slice (some ⟨aL,aM,none⟩) a5 aK] 87 aO.out _ Tryz.underlying87 rfl (by kernel_rfl) (A _ ?_))
        | (apply Exists.intro
           refine⟨fun w' H=>?_,A _ ?_⟩
           ·(unfold Oper.quietAt
             obtain⟨bX,bY,bZ⟩:=aR.out w' H
             clear H
             go_simp
             try exact⟨rfl,rfl⟩
             try rfl))
       clear A an
       try simp only[nrm,Act.eval,nrq]))
   refine wpQuiet_nil ?_
   intro dy aq
   have X:=bz.out.frm aq
   have bA:=vi X
   obtain⟨cur,S⟩:=X.ha
   obtain⟨da,bG,c9,-⟩:=X.act i E.out
   have dl:=aj S (i*2)
   have dm:=aj S (i*2+1)
   have av:=aQ.out.bnk.frm aq (by simp) (by simp)
   rw[b5.out] at av
   have bB:=vi av
   clear X S av aq aR aO
   go_wp2
   go_ret2
   obtain⟨bT,bU⟩:=bA.out.step O.out.ok bC.out E.out E.out bB.out aT.out.1 aT.out.2 (p:=ai) (y:=bh s x ⟨1,i,k,pl⟩) bb.out cq.out
   exact⟨_,rfl,_,rfl,bT,bv.out.trans bU⟩
  ·have b1:(t.kind == 1)=false:=by simpa using au
   have b2:(t.kind == 2)=false:=by simpa using ah
   have bb:Hid (bh s x ⟨1,i,k,pl⟩={ pos:=x.pos.set i ai,vals:=x.vals.set i (cJ (s.rol i).ctrs (x.bank i) t),ways:=setWay x.ways i i (x.way i i) }):=vi (by
    rw[ez,cr.out,aW.out,if_neg au,if_neg ah]
    unfold PS.way
    rw[mL (by rw[O.out.ok.wl];exact E.out) (by rw[O.out.ok.wr i E.out];exact E.out)])
   clear au ah
   obtain⟨ad,dN⟩:∃ ad,ad=U:=⟨_,rfl⟩
   subst dN
   have R:=b4.out
   have af:=bn
   have am:=bu
   have bF:=cs
   clear N
   have bw:=vi R
   obtain⟨bH,dc,ar⟩:=R.hx
   obtain⟨dd,a0⟩:=R.ha
   rw[cp.out] at ar
   clear R
   go_upto_region 20 with fail
   have aS:Hid (∀ a,Frm [] ad a→a.cell? ⟨sb,1,none⟩=some (.slice (some ⟨aZ,ao,none⟩) n ac)∧a.cell? ⟨aZ,ao+i*2+1,none⟩=some (.pointer (some ⟨bc,0,none⟩))∧a.cell? ⟨w.heap.size,1,none⟩=some (.int .i64 i)):=vi fun a h=>⟨a9.out a (am.out.trans h) |>.1,a9.out a (am.out.trans h) |>.2,(V.out a (bF.out.trans h)).2.1⟩
   refine bQ 9 (by kernel_rfl) (by kernel_rfl) ?_
   simp only[List.take_succ_cons,List.take_zero,List.drop_succ_cons,List.drop_zero]
   repeat (first
    | go_big_quiet_skip
    | (refine wpQuiet_want (by rfl) (fun an A=>?_)
       first
        | (refine quiet_move _ (by rfl) (A _ ?_))
        | (refine quiet_assign _ (by rfl) (A _ ?_))
        | (apply Exists.intro
           refine⟨fun w' H=>?_,A _ ?_⟩
           ·(unfold Oper.quietAt
             obtain⟨bX,bY,bZ⟩:=aS.out w' H
             clear H
             go_simp
             try exact⟨rfl,rfl⟩
             try rfl))
       clear A an
       try simp only[nrm,Act.eval,nrq]))
   refine wpQuiet_nil ?_
   intro aw K
   have bx:=vi (bw.out.frm K)
   have bq:=vi (jG bc (x.ctr s i) aw (cm.out.frm (am.out.trans K)) (by have:=(gp J.out.ok O.out.ok E.out).1;omega))
   have bt:=vi (aC.out _ (af.out.trans K))
   have bE:=vi (af.out.trans K)
   have aY:=vi K
   clear K aS
   go_wp2_with (first
    | (go_at_call 69;go_must (refine bq.out.mono ?_;rintro e bV ⟨v,rfl,b,g,rfl,ap⟩;have I:=vi ap;have G:=ap.frm.at bt.out (by simp);have de:=ae G 0;have df:=ae G 1;have bI:=ae G 2;have ce:=ae G 3;have dg:=ae G 4;have dh:=ae G 5;have di:=ae G 6;have dj:=ae G 7;have dk:=ae G 8;clear ap G))
    | (go_at_call 70;go_must (refine(gD b g (x.ctr s i) t bV I.out.bnk cn.out b6.out b7.out).mono ?_;rintro e ax ⟨rfl,a1⟩;have aQ:=vi a1;clear a1)))
   go_upto_region 22 with fail
   have s10:=I.out.frm.size
   have al:Hid (Frm [] aw ax):=vi (I.out.frm.then aQ.out.frm (by intro y a2;simp at a2;subst a2;exact .inr I.out.g))
   have bz:=vi (bx.out.frm al.out)
   have W:=vi (bE.out.trans al.out)
   have a8:=(aY.out.trans al.out).at ar (by simp)
   have bL:b8<aw.heap.size:=by have:=lt_of_block (aY.out.at a0 (by simp));exact this
   have aT:Hid (b≠b8∧g≠b8):=vi ⟨by have:=I.out.b;omega,by have:=I.out.g;omega⟩
   have aR:Hid (∀ a,Frm [] ax a→a.cell? ⟨dP,1,none⟩=some (.slice (some ⟨b8,0,none⟩) n bH)∧a.cell? ⟨w.heap.size,1,none⟩=some (.int .i64 i)∧a.cell? ⟨a7,1,none⟩=some (.string t.to)):=vi fun a h=>⟨h.keep (ae a8 1),(V.out a ((aX.out.trans W.out).trans h)).2.1,ae (aC.out a (W.out.trans h)) 1⟩
   have aO:=vi (co.out ax W.out)
   clear a8 ar a0 bL
   refine bQ 13 (by kernel_rfl) (by kernel_rfl) ?_
   simp only[List.take_succ_cons,List.take_zero,List.drop_succ_cons,List.drop_zero]
   repeat (first
    | go_big_quiet_skip
    | (refine wpQuiet_want (by rfl) (fun an A=>?_)
       first
        | (refine quiet_move _ (by rfl) (A _ ?_))
        | (refine quiet_assign _ (by rfl) (A _ ?_))
        | (refine aV (.int .i64 (ai:Int)) 71 #[.agg #[.string r.name,.slice aF a4 aJ,.slice aE a3 aH,.slice (some ⟨aL,aM,none⟩) a5 aK],.string t.to] (fun w' H=>?_) (fun w' H=>Ret.cq (b0.out w' ((aP.out.trans W.out).trans H)) (fun dw ag=>H.trans ag)) (A _ ?_)
           ·go_simp)
        | (refine dO 87 _ rfl bi rfl #[.string r.name,.slice aF a4 aJ,.slice aE a3 aH,.slice (some ⟨aL,aM,none⟩) a5 aK] 87 aO.out _ Tryz.underlying87 rfl (by kernel_rfl) (A _ ?_))
        | (apply Exists.intro
           refine⟨fun w' H=>?_,A _ ?_⟩
           ·(unfold Oper.quietAt
             obtain⟨bX,bY,bZ⟩:=aR.out w' H
             clear H
             go_simp
             try exact⟨rfl,rfl⟩
             try rfl))
       clear A an
       try simp only[nrm,Act.eval,nrq]))
   refine wpQuiet_nil ?_
   intro dy aq
   have X:=bz.out.frm aq
   have bA:=vi X
   obtain⟨cur,S⟩:=X.ha
   obtain⟨da,bG,c9,-⟩:=X.act i E.out
   have dl:=aj S (i*2)
   have dm:=aj S (i*2+1)
   have av:=aQ.out.bnk.frm aq (by simp) (by simp)
   rw[b5.out] at av
   have bB:=vi av
   clear X S av aq aR aO
   go_wp2
   go_ret2
   obtain⟨bT,bU⟩:=bA.out.step O.out.ok E.out E.out E.out bB.out aT.out.1 aT.out.2 (p:=ai) (y:=bh s x ⟨1,i,k,pl⟩) bb.out cq.out
   exact⟨_,rfl,_,rfl,bT,aP.out.trans bU⟩
end Go.Proofs.YtohfkhjlnlahdaaGreat
namespace Go.Proofs.YtohfkhjlnlahdaaGreat
open Go.RowKit Go.BigFrame
def jS (u:Sp):List Value:=[.int .i64 u.role,.int .i64 u.peer,.string u.msg]
def suC (L:List Sp):List Value:=L.flatMap jS
structure SuAt (w:World) (b o:Nat) (u:Sp):Prop where
 c0:w.cell? ⟨b,o,none⟩=some (.int .i64 u.role)
 c1:w.cell? ⟨b,o+1,none⟩=some (.int .i64 u.peer)
 c2:w.cell? ⟨b,o+2,none⟩=some (.string u.msg)
theorem SuAt.frm {w w':World} {b o:Nat} {u:Sp} (a:SuAt w b o u) (h:Frm [] w w'):SuAt w' b o u:=⟨h.keep a.c0,h.keep a.c1,h.keep a.c2⟩
abbrev suV (u:Sp):Value:=.agg #[.int .i64 u.role,.int .i64 u.peer,.string u.msg]
theorem gr (a B:List Sp):suC (a++B)=suC a++suC B:=by unfold suC;rw[List.flatMap_append]
theorem qX {L:List Sp}:∀ {i:Nat} {m:Sp},L[i]?=some m→(suC L)[i*3]?=some (.int .i64 m.role)∧(suC L)[i*3+1]?=some (.int .i64 m.peer)∧(suC L)[i*3+2]?=some (.string m.msg):=by
 induction L with
 | nil=>intro i m a;simp at a
 | cons h L ih =>
   intro i m a
   have e:suC (h :: L)=jS h++suC L:=rfl
   cases i with
   | zero=>simp at a;subst a;rw[e];exact⟨rfl,rfl,rfl⟩
   | succ i =>
     have:=ih (i:=i) (m:=m) (by simpa using a)
     have A:(jS h).length=3:=rfl
     rw[e,List.getElem?_append_right (by omega),List.getElem?_append_right (by omega),List.getElem?_append_right (by omega),A]
     rw[show (i+1)*3 - 3=i*3 by omega,show (i+1)*3+1 - 3=i*3+1 by omega,show (i+1)*3+2 - 3=i*3+2 by omega]
     exact this
theorem jk {A:World} {base:Nat} {v:Value} {L:List Sp} (a:A.ownsRow base 33 3 v L.length (suC L)):Arr 3 SuAt A v L:=by
 obtain⟨ao,cap,rfl⟩:=an a
 refine⟨ao,cap,rfl,fun i m E=>?_⟩
 have K:=ag E
 obtain⟨g,c,cur,e,-,-⟩:=aZ a (by omega)
 cases e
 have h:=fun j J=>World.ownsRow.cellAt a j J
 obtain⟨G,H,I⟩:=qX E
 exact⟨g,0,rfl,by rw[Nat.zero_add,h _ (by omega)];exact G,by rw[Nat.zero_add,h _ (by omega)];exact H,by rw[Nat.zero_add,h _ (by omega)];exact I⟩
abbrev SB (w:World) (ob:Nat) (L:List Sp) (W:World):Prop:=BO 45 33 3 w ob L.length (suC L) W
abbrev suT:List TypeId:=[45,33,4]
theorem Tryz.infoSu:(Tryz.prog.info? 33).map (fun i=>(i.zero,i.size,i.bytes))=some (some (.agg #[.int .i64 0,.int .i64 0,.string { data:=#[] }]),3,32):=by kernel_rfl
theorem Kt.sub {T h:List TypeId} {A E:World} (a:Kt T A E) (J:∀ t∈T,t∈h):Kt h A E:=⟨a.os,a.tape,a.output,a.size,fun k o H I=>a.at' k o H fun c t G e K=>I c t G e (J t K)⟩
theorem SB.add {w a A:World} {h:Nat} {L:List Sp} {ao:Option Addr} {cap:Nat} {o:Obj} {v':Value} (m:Sp) (E:SB w h L a) (G:a.heap[h]?=some (.cells #[.slice ao L.length cap] 45 (0,0))) (H:a.ownsRow w.heap.size 33 3 (.slice ao L.length cap) L.length (suC L))
  (I:(a.alloc o).grownBy A (Value.slice ao L.length cap).ownBlock) (J:A.ownsRow w.heap.size 33 3 v' (L.length+1) (suC L++jS m)) :
  SB w h (L++[m]) (A.setCell ⟨h,0,none⟩ v')∧Kt suT a (A.setCell ⟨h,0,none⟩ v'):=by
 have:=E.step G H (by decide) I J
 unfold SB
 rw[gr,List.length_append]
 exact⟨by simpa[suC] using this.1,this.2.sub (by decide)⟩
theorem FrI.turn {J K I:Nat} {v:Value} {L:List StpD} {S:ByteArray} {b:Bool} {H N:World} (E:FrI J K v L S H) (hb:H.heap[I]?=some (.cells #[.bool b] 4 (0,0))) (h:Frm [I] H N):FrI J K v L S N:=by
 have R:∀ {k:Nat} {c:Array Value} {t:TypeId} {fr:Nat × Nat},H.heap[k]?=some (.cells c t fr)→t≠4→k∉[I]:=fun O a G=>by
  rw[List.mem_singleton] at G
  subst G
  rw[hb] at O
  cases O
  exact a rfl
 refine⟨h.at E.b1 (R E.b1 (by decide)),h.at E.b2 (R E.b2 (by decide)),E.a.frm fun g o t a=>?_⟩
 have A:g∉[I]:=fun G=>by
  rw[List.mem_singleton] at G
  subst G
  have:=a.c0
  rw[ae hb] at this
  cases o with
  | zero=>simp at this
  | succ o=>simp at this
 exact⟨h.cellAt a.c0 A,h.cellAt a.c1 A,h.cellAt a.c2 A,h.cellAt a.c3 A,h.cellAt a.c4 A,h.cellAt a.c5 A,h.cellAt a.c6 A,h.cellAt a.c7 A,h.cellAt a.c8 A⟩
theorem Kt.turn {G:Nat} {b:Bool} {h E:World} (hb:h.heap[G]?=some (.cells #[.bool b] 4 (0,0))) (a:Frm [G] h E):Kt suT h E:=
 ⟨a.os,a.tape,a.output,a.size,fun k o A I=>a.at A fun H=>by
  rw[List.mem_singleton] at H
  subst H
  rw[hb] at A
  cases A
  exact I _ _ _ rfl (by decide)⟩
theorem ChR.ktS {H G cb:Nat} {cls cap:Int} {I:Value} {L L':List ByteArray} {F:List Nat} {h E:World} (A:ChR H G cb cls I L h) (a:Kt suT h E) (J:Chn h cb cls cap L' F):ChR H G cb cls I L E:=by
 obtain⟨N,K,-⟩:=J
 exact⟨a.cells A.1 (by decide),a.row A.2.1 (by decide),a.cells A.2.2.1 (by decide),ae (a.cells K (by decide)) 0⟩
theorem Bk.oldG {F:List Nat} {B:Nat} {w0 w w':World} (a:Bk B w w') (h:Frm F w0 w) (H:w0.heap.size≤B):Frm F w0 w':=
 ⟨a.os.trans h.os,a.tape.trans h.tape,a.output.trans h.output,Nat.le_trans h.size a.size,fun k A G=>by
  have e:=h.block k A G
  have E:w0.heap[k]?=some (w0.heap[k]):=Array.getElem?_eq_getElem A
  rw[E] at e ⊢
  exact a.block k _ e (.inl (by omega))⟩
theorem jm {w h:World} {a:Nat} {b:Bool} (H:Frm [a] w h) (hb:h.heap[a]?=some (.cells #[.bool b] 4 (0,0))) (A:Bool) :
  KB h (h.setCell ⟨a,0,none⟩ (.bool A))∧Frm [a] w (h.setCell ⟨a,0,none⟩ (.bool A))∧(h.setCell ⟨a,0,none⟩ (.bool A)).heap[a]?=some (.cells #[.bool A] 4 (0,0)):=by
 have E:Frm [a] h (h.setCell ⟨a,0,none⟩ (.bool A)):=(Frm.refl _ _).setCell _ (.inl (by simp)) _
 refine⟨KB.frm E fun y G=>?_,H.trans E,(ap hb 0 _).trans rfl⟩
 rw[List.mem_singleton] at G
 subst G
 exact dQ hb rfl
theorem ub {w a:World} {G h:Nat} {ds:List Nat} {L M:List Sp} {ao:Option Addr} {fn:Func} {tmps:Array Value} (ad:Frm [] w a) (ah:w.heap.size≤G) (K:a.heap[G]?=some (.cells #[.slice ao L.length h] 45 (0,0)))
  (U:a.ownsRow w.heap.size 33 3 (.slice ao L.length h) L.length (suC L)) (ag:Ms w ds a) (ai:∀ J:World,J.cell? ⟨G,0,none⟩=some (.slice ao L.length h)→(results fn tmps).run Tryz.prog J=.ok (.slice ao L.length h) J) (Y:L=M) :
  LeavesInM Fence.wide 3 Tryz.prog fn tmps (aU fun v w'=>w'.ownsRow w.heap.size 33 3 v M.length (suC M)∧Frm [] w w') (fK ds) .returning (a.setCell ⟨G,0,none⟩ (.slice ao L.length h)):=by
 subst Y
 have E:Kt suT a (a.setCell ⟨G,0,none⟩ (.slice ao L.length h)):=(Kt.refl _ a).set K (by decide) _
 have H:=ag.kt E
 have hb:=(ap K 0 (.slice ao L.length h)).trans rfl
 obtain⟨A,O⟩:∃ A,a.setCell ⟨G,0,none⟩ (.slice ao L.length h)=A:=⟨_,rfl⟩
 have W:A.ownsRow w.heap.size 33 3 (.slice ao L.length h) L.length (suC L):=by
  rw[← O]
  refine ownsRow_setCell_other U (fun X=>?_) _
  obtain⟨c,I⟩:=ak U X
  rw[K] at I;cases I
 have af:Frm [] w A:=by rw[← O];exact ad.setCell _ (.inr ah) _
 rw[O] at H hb ⊢
 have R:=eA ds A
 have V:∀ (k:Nat) c t S,A.heap[k]?=some (.cells c t S)→k∉ds:=fun k c t S E ab=>by
  rw[(H.dl k ab).2] at E;cases E
 have aa:=R.at hb (V _ _ _ _ hb)
 refine dY ds A H.nd (fun D N=>(H.dl D N).2) ⟨_,ai _ (ae aa 0),_,rfl,R.owns W (fun k E=>?_),af.then R (fun D N=>.inr (H.dl D N).1)⟩
 obtain⟨c,I⟩:=ak W E
 exact V _ _ _ _ I
section
variable {s:SesD} {x:PS}
theorem ki (i p:Nat) (A:List (Nat × ByteArray)) (e:Nat × ByteArray):dP s x i p (A++[e])=if jd s x i p e.2 then dP s x i p A else dP s x i p A++[⟨i,p,e.2⟩]:=by
 unfold dP
 rw[List.filterMap_append,List.filterMap_cons]
 split
 ·rename_i a
  split at a
  ·rename_i h;rw[if_pos h];simp
  ·cases a
 ·rename_i b a
  split at a
  ·cases a
  ·rename_i h;cases a;rw[if_neg h];simp
theorem pW (a:PSok s x) (i:Nat):cR s x i i=[]:=by
 unfold cR
 have:x.way i i=[]:=a.wd i
 rw[this];rfl
theorem jn (i p:Nat) (l:List (Nat × ByteArray)):(dP s x i p l).length≤l.length:=by
 unfold dP
 exact List.length_filterMap_le _ _
theorem qY (A:SesOk s) (E:PSok s x) {i p:Nat} (a:i<s.roles.length) (h:p<s.roles.length):(cR s x i p).length≤4:=by
 unfold cR
 have G:=jn (s:=s) (x:=x) i p (cX s.cls (x.way p i) (x.way p i).length)
 have H:=dz s.cls (x.way p i) (x.way p i).length
 have I:=(E.wb p i h a).1
 have:=A.k4
 omega
theorem gy (a:SesOk s) (A:PSok s x) {i n:Nat} (h:i<s.roles.length) (G:n≤s.roles.length):(cat (fun p=>cR s x i p) n).length≤16:=by
 have E:=cP (n:=n) (f:=fun p=>cR s x i p) (c:=4) (fun p H=>qY a A h (by omega))
 have:=a.n4
 omega
theorem kN (a:SesOk s) (h:PSok s x) {n:Nat} (G:n≤s.roles.length):(cat (fun i=>cat (fun p=>cR s x i p) s.roles.length) n).length≤64:=by
 have A:=cP (n:=n) (f:=fun i=>cat (fun p=>cR s x i p) s.roles.length) (c:=16) (fun i E=>gy a h (by omega) (Nat.le_refl _))
 have:=a.n4
 omega
def ic (s:SesD) (x:PS) (i p:Nat) (m:ByteArray) (l:List (Nat × StpD)):Bool:=l.any fun e=>dw s x i p m e.2
theorem pX (i p:Nat) (m:ByteArray) (a:List (Nat × StpD)) (e:Nat × StpD):ic s x i p m (a++[e])=(ic s x i p m a || dw s x i p m e.2):=by
 unfold ic
 rw[List.any_append]
 simp
theorem qZ (i p:Nat) (m:ByteArray):ic s x i p m (fR (s.rol i).steps (fc s x i))=jd s x i p m:=by
 unfold ic jd
 rw[Bool.eq_iff_iff,List.any_eq_true,List.any_eq_true]
 constructor
 ·rintro⟨⟨k,t⟩,h,a⟩
  exact⟨t,List.mem_of_getElem? (mem_fromL.1 h).1,a⟩
 ·rintro⟨t,h,a⟩
  obtain⟨k,A⟩:=List.getElem?_of_mem h
  refine⟨(k,t),mem_fromL.2 ⟨A,?_⟩,a⟩
  unfold dw at a
  simp only[Bool.and_eq_true,decide_eq_true_eq] at a
  exact a.1.2
end
end Go.Proofs.YtohfkhjlnlahdaaGreat
namespace Go.Proofs.YtohfkhjlnlahdaaGreat
open Go.RowKit Go.BigFrame
attribute [local go_sem] Oper.semAt_some
set_option maxHeartbeats 8000000 in
set_option maxRecDepth 100000 in
theorem kh (s:SesD) (a4 b7 sb:Nat) (x:PS) (v:Value) (w:World) (a:SyR w s a4 b7) (dd:StR w s a4 sb x) (ef:SesV w v s) :
  Calls Tryz.prog 73 #[v,.pointer (some ⟨sb,0,none⟩)] w (aU fun u w'=>w'.ownsRow w.heap.size 33 3 u (ofP s x).length (suC (ofP s x))∧Frm [] w w'):=by
 have S:=vi a;have ar:=vi dd
 obtain⟨e0,rfl,cs⟩:=ef
 obtain⟨br,az,rfl⟩:=cs.shape
 obtain⟨n,bq⟩:∃ n,s.roles.length=n:=⟨_,rfl⟩
 have bN:=vi cs;have ba:=vi bq
 have eb:n≤4:=by rw[← bq];exact a.ok.n4
 have aE:Hid (∀ i:Nat,i<n→wrap64 ((i:Int)+1)=((i+1:Nat):Int)):=vi fun i d4=>by unfold wrap64;omega
 rw[bq] at bN ⊢
 obtain⟨K,aL⟩:∃ K,((w.alloc (.cells #[.string s.name,.slice br n az,.int .i64 s.cls,.int .i64 s.cap] 25)).alloc (.cells #[.pointer (some ⟨sb,0,none⟩)] 38)).alloc (.cells #[.slice none 0 0] 45)=K:=⟨_,rfl⟩
 have du:Hid (Frm [] w K):=vi (by rw[← aL];exact(((Frm.refl _ _).alloc _).alloc _).alloc _)
 have bB:Hid (K.heap[w.heap.size]?=some (.cells #[.string s.name,.slice br n az,.int .i64 s.cls,.int .i64 s.cap] 25 (0,0))):=vi (by rw[← aL];exact ah (ah (heap_alloc_new _ _)))
 have bC:Hid (K.heap[w.heap.size+1]?=some (.cells #[.pointer (some ⟨sb,0,none⟩)] 38 (0,0))):=vi (by rw[← aL];exact ah (aq (by simp)))
 obtain⟨G,co⟩:∃ G,w.heap.size+1+1=G:=⟨_,rfl⟩
 have ag:K.heap[G]?=some (.cells #[.slice none 0 0] 45 (0,0)):=by rw[← aL,← co];exact aq (by simp)
 have cH:Hid (SB w G [] K):=vi (BO.made w _ _ _ du.out (by omega) ag)
 have cK:=vi co
 have aB:=vi aL
 clear a dd cs bq eb aL ag co
 refine cf Tryz.func73 rfl ?_
 simp only[Tryz.ntmps73,List.size_toArray,List.length_cons,List.length_nil,Nat.reduceAdd,Nat.reduceSub,Array.replicate_succ,Array.replicate_zero,List.push_toArray,List.append_toArray,List.nil_append,List.cons_append]
 go_upto_region 1 with (first | (refine aH rfl 25 _ rfl _ rfl ?_))
 rw[aB.out,cK.out]
 clear aB cK
 have cy:=ae bB.out 1
 go_upto_region 2 with fail
 clear cy
 refine wp_loop (fun a' w'=>∃ ds,∃ u5 u6 u7 u8 u9 u10 u12 u13 u15 u19 u20 u21 u22 u23 u24 u25 u26 u27 u28 u29 u30 u31 u32 u33 u34 u35 u36 u37 u38 u39 u40 u41 u42 u43 u44 u45 u46 u47 u48 u49 u50 u51 u52 u53 u54 u55 u56 u57 u58 u59 u60 u61 u62 u63 u64 u65 u66 u67 u68 u69 u70 u71 u72 u73 u74 u75 u76 u77 u78 u79 u80 u81 u82 u83 u84 u85 u86 u87 u88 u89:Value,(fun ds u19 w'=>∃ i:Nat,u19=.int .i64 (i:Int)∧i≤n∧SB w G (cat (fun i=>cat (fun p=>cR s x i p) s.roles.length) i) w'∧Ms w ds w'∧Kt suT K w') ds u19 w'∧a'={ tmps:=#[.agg #[.string s.name,.slice br n az,.int .i64 s.cls,.int .i64 s.cap],.pointer (some ⟨sb,0,none⟩),.pointer (some ⟨w.heap.size,0,none⟩),.pointer (some ⟨w.heap.size+1,0,none⟩),.pointer (some ⟨G,0,none⟩),u5,u6,u7,u8,u9,u10,undef,u12,u13,undef,u15,.pointer (some ⟨w.heap.size,1,none⟩),.slice br n az,.int .i64 (n:Int),u19,u20,u21,u22,u23,u24,u25,u26,u27,u28,u29,u30,u31,u32,u33,u34,u35,u36,u37,u38,u39,u40,u41,u42,u43,u44,u45,u46,u47,u48,u49,u50,u51,u52,u53,u54,u55,u56,u57,u58,u59,u60,u61,u62,u63,u64,u65,u66,u67,u68,u69,u70,u71,u72,u73,u74,u75,u76,u77,u78,u79,u80,u81,u82,u83,u84,u85,u86,u87,u88,u89,undef],defers:=fK ds }) (fun a' _=>n - (intOf (a'.tmps.getD 19 undef)).toNat) ?_ ?_
 ·refine⟨[],?_⟩
  (repeat apply Exists.intro)
  exact⟨⟨0,rfl,Nat.zero_le _,cH.out,Ms.nil _ _,Kt.refl _ _⟩,rfl⟩
 intro a' wr hinv
 obtain⟨ds,hinv⟩:=hinv
 obtain⟨u5,hinv⟩:=hinv
 obtain⟨u6,hinv⟩:=hinv
 obtain⟨u7,hinv⟩:=hinv
 obtain⟨u8,hinv⟩:=hinv
 obtain⟨u9,hinv⟩:=hinv
 obtain⟨u10,hinv⟩:=hinv
 obtain⟨u12,hinv⟩:=hinv
 obtain⟨u13,hinv⟩:=hinv
 obtain⟨u15,hinv⟩:=hinv
 obtain⟨u19,hinv⟩:=hinv
 obtain⟨u20,hinv⟩:=hinv
 obtain⟨u21,hinv⟩:=hinv
 obtain⟨u22,hinv⟩:=hinv
 obtain⟨u23,hinv⟩:=hinv
 obtain⟨u24,hinv⟩:=hinv
 obtain⟨u25,hinv⟩:=hinv
 obtain⟨u26,hinv⟩:=hinv
 obtain⟨u27,hinv⟩:=hinv
 obtain⟨u28,hinv⟩:=hinv
 obtain⟨u29,hinv⟩:=hinv
 obtain⟨u30,hinv⟩:=hinv
 obtain⟨u31,hinv⟩:=hinv
 obtain⟨u32,hinv⟩:=hinv
 obtain⟨u33,hinv⟩:=hinv
 obtain⟨u34,hinv⟩:=hinv
 obtain⟨u35,hinv⟩:=hinv
 obtain⟨u36,hinv⟩:=hinv
 obtain⟨u37,hinv⟩:=hinv
 obtain⟨u38,hinv⟩:=hinv
 obtain⟨u39,hinv⟩:=hinv
 obtain⟨u40,hinv⟩:=hinv
 obtain⟨u41,hinv⟩:=hinv
 obtain⟨u42,hinv⟩:=hinv
 obtain⟨u43,hinv⟩:=hinv
 obtain⟨u44,hinv⟩:=hinv
 obtain⟨u45,hinv⟩:=hinv
 obtain⟨u46,hinv⟩:=hinv
 obtain⟨u47,hinv⟩:=hinv
 obtain⟨u48,hinv⟩:=hinv
 obtain⟨u49,hinv⟩:=hinv
 obtain⟨u50,hinv⟩:=hinv
 obtain⟨u51,hinv⟩:=hinv
 obtain⟨u52,hinv⟩:=hinv
 obtain⟨u53,hinv⟩:=hinv
 obtain⟨u54,hinv⟩:=hinv
 obtain⟨u55,hinv⟩:=hinv
 obtain⟨u56,hinv⟩:=hinv
 obtain⟨u57,hinv⟩:=hinv
 obtain⟨u58,hinv⟩:=hinv
 obtain⟨u59,hinv⟩:=hinv
 obtain⟨u60,hinv⟩:=hinv
 obtain⟨u61,hinv⟩:=hinv
 obtain⟨u62,hinv⟩:=hinv
 obtain⟨u63,hinv⟩:=hinv
 obtain⟨u64,hinv⟩:=hinv
 obtain⟨u65,hinv⟩:=hinv
 obtain⟨u66,hinv⟩:=hinv
 obtain⟨u67,hinv⟩:=hinv
 obtain⟨u68,hinv⟩:=hinv
 obtain⟨u69,hinv⟩:=hinv
 obtain⟨u70,hinv⟩:=hinv
 obtain⟨u71,hinv⟩:=hinv
 obtain⟨u72,hinv⟩:=hinv
 obtain⟨u73,hinv⟩:=hinv
 obtain⟨u74,hinv⟩:=hinv
 obtain⟨u75,hinv⟩:=hinv
 obtain⟨u76,hinv⟩:=hinv
 obtain⟨u77,hinv⟩:=hinv
 obtain⟨u78,hinv⟩:=hinv
 obtain⟨u79,hinv⟩:=hinv
 obtain⟨u80,hinv⟩:=hinv
 obtain⟨u81,hinv⟩:=hinv
 obtain⟨u82,hinv⟩:=hinv
 obtain⟨u83,hinv⟩:=hinv
 obtain⟨u84,hinv⟩:=hinv
 obtain⟨u85,hinv⟩:=hinv
 obtain⟨u86,hinv⟩:=hinv
 obtain⟨u87,hinv⟩:=hinv
 obtain⟨u88,hinv⟩:=hinv
 obtain⟨u89,hinv⟩:=hinv
 obtain⟨hrel,ch⟩:=hinv
 subst ch
 try dsimp only
 clear cH
 obtain⟨i,rfl,d4,a1,a2,a0⟩:=hrel
 have R:=vi a1;have bK:=vi a2;have dC:=vi a0
 clear a1 a2 a0
 by_cases hlt:i<n
 ·have eI:(i:Int)<(n:Int):=by omega
  have cm:i<s.roles.length:=by rw[ba.out];exact hlt
  obtain⟨rb,bs,dY,e1,eB,e3,I,av,aw,ax,aM⟩:=bN.out.get (SesD.rol_some cm)
  subst dY
  obtain⟨r,cu⟩:∃ r,s.rol i=r:=⟨_,rfl⟩
  rw[cu] at I aM
  obtain⟨bg,bk,rfl⟩:=aM.sts.shape
  obtain⟨bf,bj,rfl⟩:=aM.ctrs.shape
  obtain⟨bh,bl,rfl⟩:=aM.steps.shape
  have dI:=vi aM;have am:=vi cm;have bO:=vi cu
  replace I:=R.out.fr.keep I;replace av:=R.out.fr.keep av;replace aw:=R.out.fr.keep aw;replace ax:=R.out.fr.keep ax
  have ct:=aI I
  clear aM cm cu
  go_upto_region 4 with fail
  clear I av aw ax ct
  obtain⟨ab,aY⟩:∃ ab,(wr.alloc (.cells #[.int .i64 i] 3)).alloc (.cells #[.string r.name,.slice bg r.sts.length bk,.slice bf r.ctrs.length bj,.slice bh r.steps.length bl] 87)=ab:=⟨_,rfl⟩
  have bz:Hid (Frm [] wr ab):=vi (by rw[← aY];exact((Frm.refl [] wr).alloc _).alloc _)
  have bU:Hid (ab.heap[wr.heap.size]?=some (.cells #[.int .i64 i] 3 (0,0))):=vi (by rw[← aY];exact ah (heap_alloc_new _ _))
  have cO:Hid (ab.heap[wr.heap.size+1]?=some (.cells #[.string r.name,.slice bg r.sts.length bk,.slice bf r.ctrs.length bj,.slice bh r.steps.length bl] 87 (0,0))):=vi (by rw[← aY];exact aq (by simp))
  rw[aY]
  clear aY
  have bc:=vi (R.out.frm bz.out)
  have bR:Hid (Kt suT K ab):=vi (dC.out.trans (Kt.frm bz.out))
  have bv:=vi (qF s a4 b7 sb i x ab (S.out.frm bc.out.fr) (ar.out.frm bc.out.fr) am.out)
  rw[show ((s.rol i).sts.getD (x.at i) dS).name=fc s x i from rfl] at bv
  have bt:=ae (bR.out.cells bC.out (by decide)) 0
  have a5:=ae bU.out 0
  go_upto_region 5 with (first
   | (go_at_call 142;go_must (refine bv.out.mono ?_;rintro e cw ⟨rfl,c4⟩;have cD:=vi c4;clear c4 bv bt a5)))
  obtain⟨H,bm⟩:∃ H,cw.alloc (.cells #[.string (fc s x i)] 9)=H:=⟨_,rfl⟩
  have F1:Hid (Frm [] ab H):=vi (by rw[← bm];exact cD.out.alloc _)
  have cP:Hid (H.heap[cw.heap.size]?=some (.cells #[.string (fc s x i)] 9 (0,0))):=vi (by rw[← bm];exact heap_alloc_new _ _)
  obtain⟨d1,ca⟩:∃ b,cw.heap.size=b:=⟨_,rfl⟩
  rw[ca] at cP
  rw[bm,ca]
  have bV:=vi (F1.out.at bU.out (by simp));have dO:=vi (F1.out.at cO.out (by simp))
  have aS:Hid (Kt suT K H):=vi (bR.out.trans (Kt.frm F1.out))
  have cI:Hid (SB w G (cat (fun i=>cat (fun p=>cR s x i p) s.roles.length) i++cat (fun p=>cR s x i p) 0) H):=vi (by rw[show cat (fun p=>cR s x i p) 0=[] from rfl,List.append_nil];exact bc.out.frm F1.out)
  have cJ:=vi (bK.out.frm (bz.out.trans F1.out))
  have cy:=ae (aS.out.cells bB.out (by decide)) 1
  clear bm ca bU cO bR bc cD F1
  go_upto_region 6 with fail
  clear cy
  refine wp_loop (fun a' w'=>∃ ds,∃ u9 u10 u12 u13 u15 u33 u34 u35 u36 u37 u38 u39 u40 u41 u42 u43 u44 u45 u46 u47 u48 u49 u50 u51 u52 u53 u54 u55 u56 u57 u58 u59 u60 u61 u62 u63 u64 u65 u66 u67 u68 u69 u70 u71 u72 u73 u74 u75 u76 u77 u78 u79 u80 u81 u82 u83 u84 u85 u86 u87 u88:Value,(fun ds u33 w'=>∃ p:Nat,u33=.int .i64 (p:Int)∧p≤n∧SB w G (cat (fun i=>cat (fun p=>cR s x i p) s.roles.length) i++cat (fun p=>cR s x i p) p) w'∧Ms w ds w'∧Kt suT H w') ds u33 w'∧a'={ tmps:=#[.agg #[.string s.name,.slice (some ⟨rb,bs,none⟩) n az,.int .i64 s.cls,.int .i64 s.cap],.pointer (some ⟨sb,0,none⟩),.pointer (some ⟨w.heap.size,0,none⟩),.pointer (some ⟨w.heap.size+1,0,none⟩),.pointer (some ⟨G,0,none⟩),.pointer (some ⟨wr.heap.size,0,none⟩),.pointer (some ⟨wr.heap.size+1,0,none⟩),.pointer (some ⟨d1,0,none⟩),.int .i64 0,u9,u10,undef,u12,u13,undef,u15,.pointer (some ⟨w.heap.size,1,none⟩),.slice (some ⟨rb,bs,none⟩) n az,.int .i64 (n:Int),.int .i64 (i:Int),.bool true,.int .i64 (i:Int),.pointer (some ⟨rb,bs+i*4,none⟩),.agg #[.string r.name,.slice bg r.sts.length bk,.slice bf r.ctrs.length bj,.slice bh r.steps.length bl],.tuple #[.string (fc s x i),.int .i64 0],.pointer (some ⟨sb,0,none⟩),.int .i64 (i:Int),.tuple #[.string (fc s x i),.int .i64 0],.string (fc s x i),.int .i64 0,.pointer (some ⟨w.heap.size,1,none⟩),.slice (some ⟨rb,bs,none⟩) n az,.int .i64 (n:Int),u33,u34,u35,u36,u37,u38,u39,u40,u41,u42,u43,u44,u45,u46,u47,u48,u49,u50,u51,u52,u53,u54,u55,u56,u57,u58,u59,u60,u61,u62,u63,u64,u65,u66,u67,u68,u69,u70,u71,u72,u73,u74,u75,u76,u77,u78,u79,u80,u81,u82,u83,u84,u85,u86,u87,u88,u89,undef],defers:=fK ds }) (fun a' _=>n - (intOf (a'.tmps.getD 33 undef)).toNat) ?_ ?_
  ·refine⟨ds,?_⟩
   (repeat apply Exists.intro)
   exact⟨⟨0,rfl,Nat.zero_le _,cI.out,cJ.out,Kt.refl _ _⟩,rfl⟩
  intro a' aO hinv
  obtain⟨ds,hinv⟩:=hinv
  obtain⟨u9,hinv⟩:=hinv
  obtain⟨u10,hinv⟩:=hinv
  obtain⟨u12,hinv⟩:=hinv
  obtain⟨u13,hinv⟩:=hinv
  obtain⟨u15,hinv⟩:=hinv
  obtain⟨u33,hinv⟩:=hinv
  obtain⟨u34,hinv⟩:=hinv
  obtain⟨u35,hinv⟩:=hinv
  obtain⟨u36,hinv⟩:=hinv
  obtain⟨u37,hinv⟩:=hinv
  obtain⟨u38,hinv⟩:=hinv
  obtain⟨u39,hinv⟩:=hinv
  obtain⟨u40,hinv⟩:=hinv
  obtain⟨u41,hinv⟩:=hinv
  obtain⟨u42,hinv⟩:=hinv
  obtain⟨u43,hinv⟩:=hinv
  obtain⟨u44,hinv⟩:=hinv
  obtain⟨u45,hinv⟩:=hinv
  obtain⟨u46,hinv⟩:=hinv
  obtain⟨u47,hinv⟩:=hinv
  obtain⟨u48,hinv⟩:=hinv
  obtain⟨u49,hinv⟩:=hinv
  obtain⟨u50,hinv⟩:=hinv
  obtain⟨u51,hinv⟩:=hinv
  obtain⟨u52,hinv⟩:=hinv
  obtain⟨u53,hinv⟩:=hinv
  obtain⟨u54,hinv⟩:=hinv
  obtain⟨u55,hinv⟩:=hinv
  obtain⟨u56,hinv⟩:=hinv
  obtain⟨u57,hinv⟩:=hinv
  obtain⟨u58,hinv⟩:=hinv
  obtain⟨u59,hinv⟩:=hinv
  obtain⟨u60,hinv⟩:=hinv
  obtain⟨u61,hinv⟩:=hinv
  obtain⟨u62,hinv⟩:=hinv
  obtain⟨u63,hinv⟩:=hinv
  obtain⟨u64,hinv⟩:=hinv
  obtain⟨u65,hinv⟩:=hinv
  obtain⟨u66,hinv⟩:=hinv
  obtain⟨u67,hinv⟩:=hinv
  obtain⟨u68,hinv⟩:=hinv
  obtain⟨u69,hinv⟩:=hinv
  obtain⟨u70,hinv⟩:=hinv
  obtain⟨u71,hinv⟩:=hinv
  obtain⟨u72,hinv⟩:=hinv
  obtain⟨u73,hinv⟩:=hinv
  obtain⟨u74,hinv⟩:=hinv
  obtain⟨u75,hinv⟩:=hinv
  obtain⟨u76,hinv⟩:=hinv
  obtain⟨u77,hinv⟩:=hinv
  obtain⟨u78,hinv⟩:=hinv
  obtain⟨u79,hinv⟩:=hinv
  obtain⟨u80,hinv⟩:=hinv
  obtain⟨u81,hinv⟩:=hinv
  obtain⟨u82,hinv⟩:=hinv
  obtain⟨u83,hinv⟩:=hinv
  obtain⟨u84,hinv⟩:=hinv
  obtain⟨u85,hinv⟩:=hinv
  obtain⟨u86,hinv⟩:=hinv
  obtain⟨u87,hinv⟩:=hinv
  obtain⟨u88,hinv⟩:=hinv
  obtain⟨hrel,ch⟩:=hinv
  subst ch
  try dsimp only
  clear cI cJ bK R
  obtain⟨p,rfl,eK,a1,a2,a0⟩:=hrel
  have ap:=vi a1;have bL:=vi a2;have bI:=vi a0
  clear a1 a2 a0
  by_cases hltp:p<n
  ·have eJ:(p:Int)<(n:Int):=by omega
   have cr:p<s.roles.length:=by rw[ba.out];exact hltp
   obtain⟨eX,eZ,dZ,e2,eC,e4,I,av,aw,ax,a3⟩:=bN.out.get (SesD.rol_some cr)
   cases dZ
   obtain⟨o,cp⟩:∃ o,s.rol p=o:=⟨_,rfl⟩
   rw[cp] at I a3
   obtain⟨b0,b5,rfl⟩:=a3.sts.shape
   obtain⟨bZ,b4,rfl⟩:=a3.ctrs.shape
   obtain⟨b3,b6,rfl⟩:=a3.steps.shape
   have bM:=vi cr;have cL:=vi cp
   replace I:=ap.out.fr.keep I;replace av:=ap.out.fr.keep av;replace aw:=ap.out.fr.keep aw;replace ax:=ap.out.fr.keep ax
   have ct:=aI I
   clear a3 cr cp
   go_upto_region 8 with fail
   clear I av aw ax ct
   obtain⟨au,aZ⟩:∃ au,(aO.alloc (.cells #[.int .i64 p] 3)).alloc (.cells #[.string o.name,.slice b0 o.sts.length b5,.slice bZ o.ctrs.length b4,.slice b3 o.steps.length b6] 87)=au:=⟨_,rfl⟩
   have bA:Hid (Frm [] aO au):=vi (by rw[← aZ];exact((Frm.refl [] aO).alloc _).alloc _)
   have bW:Hid (au.heap[aO.heap.size]?=some (.cells #[.int .i64 p] 3 (0,0))):=vi (by rw[← aZ];exact ah (heap_alloc_new _ _))
   have cN:Hid (au.heap[aO.heap.size+1]?=some (.cells #[.string o.name,.slice b0 o.sts.length b5,.slice bZ o.ctrs.length b4,.slice b3 o.steps.length b6] 87 (0,0))):=vi (by rw[← aZ];exact aq (by simp))
   rw[aZ]
   clear aZ
   have aB:Hid (cat (fun i=>cat (fun p=>cR s x i p) s.roles.length) i++cat (fun p=>cR s x i p) (p+1)=(cat (fun i=>cat (fun p=>cR s x i p) s.roles.length) i++cat (fun p=>cR s x i p) p)++cR s x i p):=vi (by rw[List.append_assoc];rfl)
   have aW:=vi (ap.out.frm bA.out)
   have bT:=vi (bL.out.frm bA.out)
   have aG:Hid (Kt suT H au):=vi (bI.out.trans (Kt.frm bA.out))
   obtain⟨V,ce⟩:∃ V,cat (fun i=>cat (fun p=>cR s x i p) s.roles.length) i++cat (fun p=>cR s x i p) p=V:=⟨_,rfl⟩
   have cZ:V.length≤80:=by
    rw[← ce,List.length_append]
    have dQ:=kN S.out.ok ar.out.ok (show i≤s.roles.length by have:=am.out;omega)
    have dR:=gy S.out.ok ar.out.ok am.out (show p≤s.roles.length by have:=bM.out;omega)
    exact Nat.le_trans (Nat.add_le_add dQ dR) (by decide)
   rw[ce] at aW aB
   have dG:=vi cZ
   clear ce cZ ap bL bI
   have a5:=ae (aG.out.cells bV.out (by decide)) 0
   have dg:=ae bW.out 0
   by_cases hip:p=i
   ·have ec:((p:Int) == (i:Int))=true:=by rw[hip];simp
    have bb:Hid (cR s x i p=[]):=vi (by rw[hip];exact pW ar.out.ok i)
    clear hip
    go_wp2
    refine⟨⟨ds,?_⟩,?_⟩
    ·(repeat apply Exists.intro)
     exact⟨⟨p+1,congrArg (Value.int .i64) (aE.out p hltp),hltp,by rw[aB.out,bb.out,List.append_nil];exact aW.out,bT.out,aG.out⟩,rfl⟩
    ·exact bD hltp (aE.out p hltp)
   ·have ec:((p:Int) == (i:Int))=false:=by rw[beq_eq_false_iff_ne];omega
    have bw:=vi (pL s a4 sb i p x au S.out.ok (ar.out.frm aW.out.fr) am.out bM.out hip)
    have bJ:Hid ((x.way p i).length≤4):=vi (by have:=(ar.out.ok.wb p i bM.out am.out).1;have:=S.out.ok.k4;omega)
    have bb:Hid (cR s x i p=dP s x i p (cX s.cls (x.way p i) (x.way p i).length)):=vi rfl
    obtain⟨aV,cY⟩:∃ aV,x.way p i=aV:=⟨_,rfl⟩
    rw[cY] at bw bJ bb
    have bt:=ae ((aS.out.trans aG.out).cells bC.out (by decide)) 0
    have ep:=ae ((aS.out.trans aG.out).cells bB.out (by decide)) 2
    clear hip cY
    go_wp2_with (first
     | (go_at_call 143;go_must (refine bw.out.mono ?_;rintro e aN ⟨v,rfl,⟨dX,dW,cb,em,rfl,c2,⟨ev,c1⟩,c3⟩⟩;have dr:=vi c2;have dq:=vi c1;have aC:=vi c3;clear c2 c1 c3 bw bt ep a5 dg)))
    have c8:=mO dX dW cb s.cls em aV S.out.ok.c1 S.out.ok.c3 (by have:=bJ.out;omega)
    have bd:=vi (aW.out.frm aC.out)
    have dM:=vi (bT.out.frm aC.out)
    have bS:Hid (Kt suT H aN):=vi (aG.out.trans (Kt.frm aC.out))
    have dn:=vi (aC.out.at bW.out (by simp))
    have dl:=vi (aC.out.at cN.out (by simp))
    clear aW bT aG bW cN aC
    refine dE rfl (enters_of Tryz.func178 (by kernel_rfl) rfl) c8 (fun _=>rfl) (fun N E=>SB w G (V++dP s x i p N) E∧Kt suT aN E) (fun _ _ _=>False) (fun _ _ _ a hb=>⟨a.1.bk hb bd.out.fr.size,a.2.bk hb⟩) (fun _ _ _ _ a _=>a) (fun _ E a=>dr.out.ktS a.2 dq.out) ⟨by rw[show dP s x i p []=[] from rfl,List.append_nil];exact bd.out,Kt.refl _ _⟩ ?_ ?_ (fun _ _ _ _ _ _ _ _ a=>a.elim)
    ·intro l0 N y rest be de aa d6 d9
     have eL:N.length<4:=by
      have d0:=dz s.cls aV aV.length
      rw[de,List.length_append,List.length_cons] at d0
      have:=bJ.out;omega
     have bF:=vi aa
     clear aa d9 d6 de
     obtain⟨cx,h⟩:=y
     simp only[tH]
     gi_wp2
     refine⟨KB.frm0 ((Frm.refl [] be).alloc _),fun ad ai c9=>?_⟩
     have aD:=vi (⟨(bF.out.1.frm ((Frm.refl [] be).alloc (.cells #[.string h] 9))).bk ai bd.out.fr.size,(bF.out.2.alloc _).bk ai⟩:SB w G (V++dP s x i p N) ad∧Kt suT aN ad)
     have bu:Hid (ad.heap[be.heap.size]?=some (.cells #[.string h] 9 (0,0))):=vi (ai.at (heap_alloc_new _ _) rfl)
     obtain⟨dT,b8⟩:∃ b,be.heap.size=b:=⟨_,rfl⟩
     rw[b8] at bu
     rw[b8]
     have dF:=vi c9
     clear ai b8 c9 bF
     gi_upto_region 12 with fail
     obtain⟨aX,bn⟩:∃ E,ad.alloc (.cells #[.bool false] 4)=E:=⟨_,rfl⟩
     obtain⟨ay,cj⟩:∃ b,ad.heap.size=b:=⟨_,rfl⟩
     have aA:Hid (Frm [] ad aX):=vi (by rw[← bn];exact(Frm.refl _ _).alloc _)
     have dp:Hid (aX.heap[ay]?=some (.cells #[.bool false] 4 (0,0))):=vi (by rw[← bn,← cj];exact heap_alloc_new _ _)
     have cC:Hid (ad.heap.size≤ay):=vi (by omega)
     rw[bn,cj]
     clear bn cj
     have bQ:Hid (Kt suT H aX):=vi (bS.out.trans (aD.out.2.trans (Kt.frm aA.out)))
     have a6:=bQ.out.cells dO.out (by decide)
     have eq:=ae a6 0
     have er:=ae a6 1
     have es:=ae a6 2
     have et:=ae a6 3
     have eu:=ae (bQ.out.cells cP.out (by decide)) 0
     have cF:Hid (Frm [] w aX):=vi (aD.out.1.fr.trans aA.out)
     have dc:r.steps.length≤80:=by have:=(S.out.ok.at am.out).t80;rw[bO.out] at this;exact this
     have cz:=vi (pQ r (fc s x i) (.string r.name) (.slice bg r.sts.length bk) (.slice bf r.ctrs.length bj) (.slice bh r.steps.length bl) aX (dI.out.steps.frm fun _ _ _ a=>a.frm cF.out) (by omega))
     have dJ:=vi dc
     clear a6 dc
     gi_wp2_with (refine⟨trivial,?_⟩;gi_at_call 144;go_must (refine(CallsIn.inRound l0 (callsIn_wide.2 cz.out)).mono ?_;rintro e ak ⟨v,rfl,dh,di,en,rfl,c6,c5⟩;have dv:=vi c6;have al:=vi c5;clear c6 c5 cz eq er es et eu))
     have bx:=vi (al.out.at dp.out (by simp))
     have dy:Hid (Frm [] w ak):=vi (cF.out.trans al.out)
     have dL:Hid (w.heap.size≤ay):=vi (by have:=aD.out.1.fr.size;have:=cC.out;omega)
     have cn:∃ r,ak.heap[l0]?=some (.loop r):=by
      obtain⟨el,ed⟩:=dF.out
      exact⟨el,al.out.at (aA.out.at ed (by simp)) (by simp)⟩
     have cM:Hid (Kt suT H ak):=vi (bQ.out.trans (Kt.frm al.out))
     have dj:Hid (ak.heap[dT]?=some (.cells #[.string h] 9 (0,0))):=vi (al.out.at (aA.out.at bu.out (by simp)) (by simp))
     have dm:Hid (ak.heap[aO.heap.size+1]?=some (.cells #[.string o.name,.slice b0 o.sts.length b5,.slice bZ o.ctrs.length b4,.slice b3 o.steps.length b6] 87 (0,0))):=vi (al.out.at (aA.out.at (aD.out.2.cells dl.out (by decide)) (by simp)) (by simp))
     refine fH cn rfl (enters_of Tryz.func189 (by kernel_rfl) rfl) (pP dh di en r.steps (fc s x i) (by have:=dJ.out;omega)) (fun _=>rfl)
      (fun O E=>Frm [ay] ak E∧E.heap[ay]?=some (.cells #[.bool (ic s x i p h O)] 4 (0,0))) (fun _ _ _=>False) (fun _ _ _ a hb=>⟨hb.oldG a.1 (Nat.le_refl _),hb.at a.2 rfl⟩) (fun _ _ _ _ a _=>a.elim) (fun _ E a=>dv.out.turn bx.out a.1)
      ⟨Frm.refl _ _,bx.out⟩ ?_ ?_ (fun _ _ _ _ _ _ a=>a.elim)
     ·intro ek O eo eY bX df cV d7 ea
      obtain⟨k,t⟩:=eo
      have da:(k,t)∈fR r.steps (fc s x i):=by rw[df];simp
      obtain⟨db,c7⟩:=mem_fromL.1 da
      have dK:Hid (t∈(s.rol i).steps):=vi (by rw[bO.out];exact List.mem_of_getElem? db)
      have dx:=vi c7
      have bG:=vi cV
      clear cV d7 ea df da db c7 cn
      simp only[dN]
      gi_wp2
      refine⟨KB.frm0 ((Frm.refl [] bX).alloc _),fun aJ bp _=>?_⟩
      have A:=vi (⟨bp.oldG (bG.out.1.alloc (.cells #[.string t.frm,.string t.to,.int .i64 t.kind,.string t.msg,.string t.peer,.string t.ctr,.int .i64 t.low,.int .i64 t.high,.int .i64 t.add] 137)) (Nat.le_refl _),bp.at (ah bG.out.2) rfl⟩:Frm [ay] ak aJ∧aJ.heap[ay]?=some (.cells #[.bool (ic s x i p h O)] 4 (0,0)))
      have J:Hid (aJ.heap[bX.heap.size]?=some (.cells #[.string t.frm,.string t.to,.int .i64 t.kind,.string t.msg,.string t.peer,.string t.ctr,.int .i64 t.low,.int .i64 t.high,.int .i64 t.add] 137 (0,0))):=vi (bp.at (heap_alloc_new _ _) rfl)
      obtain⟨ey,b9⟩:∃ b,bX.heap.size=b:=⟨_,rfl⟩
      rw[b9] at J
      rw[b9]
      have a8:Hid (Kt suT ak aJ):=vi (Kt.turn bx.out A.out.1)
      have cG:Hid (Frm [] w aJ):=vi (dy.out.then A.out.1 (fun y cv=>.inr (by rw[List.mem_singleton] at cv;have:=dL.out;omega)))
      have cQ:=ae A.out.2 0
      have eE:=aj A.out.2 0
      have cB:=vi (pK s a4 b7 sb i x t aJ (S.out.frm cG.out) (ar.out.frm cG.out) am.out dK.out)
      have aF:=vi (pX (s:=s) (x:=x) i p h O (k,t))
      clear bp b9 bG
      obtain⟨b,hb⟩:∃ b,ic s x i p h O=b:=⟨_,rfl⟩
      rw[hb] at cQ aF A
      clear hb
      have eQ:=ae J.out 2
      have eR:=ae J.out 3
      have eS:=ae J.out 4
      have eM:=ae (a8.out.cells dj.out (by decide)) 0
      have eN:=ae (a8.out.cells dm.out (by decide)) 0
      cases b with
      | true =>
        have U:Hid (ic s x i p h (O++[(k,t)])=true):=vi (by rw[aF.out];rfl)
        gi_wp2_with (refine⟨trivial,?_⟩)
        obtain⟨W,X,Y⟩:=jm A.out.1 A.out.2 true
        exact⟨W,X,by rw[U.out];exact Y⟩
      | false =>
        by_cases hk2:t.kind=2
        ·have b2:(t.kind == 2)=true:=by simpa using hk2
         by_cases hm:t.msg=h
         ·have dU:(t.msg.toList == h.toList)=true:=by rw[aK,decide_eq_true hm]
          by_cases hpe:t.peer=o.name
          ·have dV:(t.peer.toList == o.name.toList)=true:=by rw[aK,decide_eq_true hpe]
           have bt:=ae (((aS.out.trans cM.out).trans a8.out).cells bC.out (by decide)) 0
           have a5:=ae ((cM.out.trans a8.out).cells bV.out (by decide)) 0
           have eO:=ae J.out 0
           have eP:=ae J.out 1
           have eT:=ae J.out 5
           have eU:=ae J.out 6
           have eV:=ae J.out 7
           have eW:=ae J.out 8
           obtain⟨bi,ai⟩:∃ bi,bY (s.rol i).ctrs (x.bank i) t=bi:=⟨_,rfl⟩
           have U:Hid (ic s x i p h (O++[(k,t)])=bi):=vi (by
            rw[aF.out]
            unfold dw
            rw[decide_eq_true hk2,decide_eq_true hm,decide_eq_true (show t.peer=(s.rol p).name by rw[cL.out];exact hpe),decide_eq_true dx.out,ai]
            simp)
           rw[ai] at cB
           clear hk2 hm hpe ai
           gi_wp2_with (refine⟨trivial,?_⟩;gi_at_call 145;go_must (refine(CallsIn.inRound ek (callsIn_wide.2 cB.out)).mono ?_;rintro e e5 ⟨rfl,ck⟩;have cE:=vi ck;have bE:=vi (ck.at A.out.2 (by simp));have ez:=ae bE.out 0;have eF:=aj bE.out 0;clear ck))
           obtain⟨W,X,Y⟩:=jm (A.out.1.then cE.out (by simp)) bE.out bi
           exact⟨(KB.frm0 cE.out).trans W,X,by rw[U.out];exact Y⟩
          ·have dV:(t.peer.toList == o.name.toList)=false:=by rw[aK,decide_eq_false hpe]
           have U:Hid (ic s x i p h (O++[(k,t)])=false):=vi (by
            rw[aF.out]
            unfold dw
            rw[decide_eq_false (show ¬ t.peer=(s.rol p).name by rw[cL.out];exact hpe)]
            simp)
           clear hk2 hm hpe
           gi_wp2_with (refine⟨trivial,?_⟩)
           obtain⟨W,X,Y⟩:=jm A.out.1 A.out.2 false
           exact⟨W,X,by rw[U.out];exact Y⟩
         ·have dU:(t.msg.toList == h.toList)=false:=by rw[aK,decide_eq_false hm]
          have U:Hid (ic s x i p h (O++[(k,t)])=false):=vi (by
           rw[aF.out]
           unfold dw
           rw[decide_eq_false hm]
           simp)
          clear hk2 hm
          gi_wp2_with (refine⟨trivial,?_⟩)
          obtain⟨W,X,Y⟩:=jm A.out.1 A.out.2 false
          exact⟨W,X,by rw[U.out];exact Y⟩
        ·have b2:(t.kind == 2)=false:=by simpa using hk2
         have U:Hid (ic s x i p h (O++[(k,t)])=false):=vi (by
          rw[aF.out]
          unfold dw
          rw[decide_eq_false hk2]
          simp)
         clear hk2
         gi_wp2_with (refine⟨trivial,?_⟩)
         obtain⟨W,X,Y⟩:=jm A.out.1 A.out.2 false
         exact⟨W,X,by rw[U.out];exact Y⟩
     ·intro E aa
      have bo:=qZ (s:=s) (x:=x) i p h
      rw[bO.out] at bo
      have aQ:Hid (Frm [] ad E):=vi ((aA.out.trans al.out).then aa.1 (fun y cv=>.inr (by rw[List.mem_singleton] at cv;have:=cC.out;omega)))
      obtain⟨b,hb⟩:∃ b,jd s x i p h=b:=⟨_,rfl⟩
      rw[hb] at bo
      have cd:=aa.2
      rw[bo] at cd
      have cQ:=ae cd 0
      have bP:=vi (ki (s:=s) (x:=x) i p N (cx,h))
      rw[hb] at bP
      have aR:=vi (aD.out.1.frm aQ.out)
      have a9:Hid (Kt suT aN E):=vi (aD.out.2.trans (Kt.frm aQ.out))
      have dk:=vi (aQ.out.at bu.out (by simp))
      clear aa bo hb cd cn
      cases b with
      | true =>
        gi_wp2
        refine⟨KB.frm0 aQ.out,?_⟩
        show SB w G (V++dP s x i p (N++[(cx,h)])) _∧Kt suT aN _
        rw[bP.out,if_pos trivial]
        exact⟨aR.out,a9.out⟩
      | false =>
        have a5:=ae ((bS.out.trans a9.out).cells bV.out (by decide)) 0
        have dg:=ae (a9.out.cells dn.out (by decide)) 0
        have e7:=ae dk.out 0
        have d8:(V++dP s x i p N).length≤90:=by
         have:=jn (s:=s) (x:=x) i p N
         have:=dG.out
         rw[List.length_append];omega
        obtain⟨aT,cg⟩:∃ aT,V++dP s x i p N=aT:=⟨_,rfl⟩
        rw[cg] at aR d8
        have dD:=vi cg
        obtain⟨ao,cS,af,ag⟩:=aR.out.bx
        have cT:=ae af 0
        have a7:=vi af;have aP:=vi ag
        obtain⟨ej,d5,eg,eh,ei⟩:=info_parts Tryz.infoSu
        have ee:w.heap.size≤(E.alloc (.cells #[.int .i64 i,.int .i64 p,.string h] 33)).heap.size:=by have:=aR.out.fr.size;simp;omega
        clear af ag cg
        gi_wp2_with (gi_at_builtin;refine wpListIn_append_own _ rfl _ _ 45 rfl w.heap.size 33 ej (.agg #[.int .i64 0,.int .i64 0,.string { data:=#[] }]) 3 32 Tryz.underlying45 d5 eg eh ei rfl (by decide) (.slice ao aT.length cS) aT.length (suC aT) rfl (aP.out.alloc _) ⟨E.heap.size,0,none⟩ 1 1 (jS ⟨i,p,h⟩) rfl rfl (cA _ _ _) (by simp[jS,Value.oneCell']) (by unfold maxLen;omega) (by omega) ee ?_;intro v' e6 cq cl _;obtain⟨ex,eA,rfl⟩:=an cq;have ci:=BO.facts a7.out aP.out (by decide) cl;have eD:=ae ci 0;have eH:=aj ci 0;have dA:=vi cl;have dH:=vi cq;clear cl cq ci cT)
        have cc:=SB.add ⟨i,p,h⟩ aR.out a7.out aP.out dA.out dH.out
        refine⟨(KB.frm0 aQ.out).trans cc.2.kb,?_⟩
        show SB w G (V++dP s x i p (N++[(cx,h)])) _∧Kt suT aN _
        rw[bP.out,if_neg (by decide),← List.append_assoc,dD.out]
        exact⟨cc.1,a9.out.trans cc.2⟩
    ·intro D E cU aa cW
     have bH:=vi aa;have dB:=vi cW;have dt:=vi cU
     clear aa cW cU c8
     go_wp2
     refine⟨⟨D :: ds,?_⟩,?_⟩
     ·(repeat apply Exists.intro)
      exact⟨⟨p+1,congrArg (Value.int .i64) (aE.out p hltp),hltp,by rw[aB.out,bb.out];exact bH.out.1,dM.out.more bd.out.fr.size bH.out.2 dt.out dB.out,bS.out.trans bH.out.2⟩,rfl⟩
     ·exact bD hltp (aE.out p hltp)
  ·obtain rfl:n=p:=by omega
   have d3:¬ (n:Int)<(n:Int):=by omega
   go_wp2
   refine⟨⟨ds,?_⟩,?_⟩
   ·(repeat apply Exists.intro)
    exact⟨⟨i+1,congrArg (Value.int .i64) (aE.out i hlt),hlt,by have:=ap.out;rw[← ba.out] at this;exact this,bL.out,aS.out.trans bI.out⟩,rfl⟩
   ·exact bD hlt (aE.out i hlt)
 ·obtain rfl:n=i:=by omega
  have d3:¬ (n:Int)<(n:Int):=by omega
  obtain⟨ao,cS,af,ag⟩:=R.out.bx
  have cT:=ae af 0
  have eG:=aj af 0
  have a7:=vi af;have aP:=vi ag
  clear af ag
  go_wp2
  exact ub R.out.fr R.out.new a7.out aP.out bK.out (fun ew d2=>by simp[results,go_sem,d2]) (by rw[← ba.out];rfl)
end Go.Proofs.YtohfkhjlnlahdaaGreat
namespace Go.Proofs.YtohfkhjlnlahdaaGreat
open Go.RowKit Go.BigFrame
abbrev fd (m:Sp):Array Value:=#[.int .i64 m.role,.int .i64 m.peer,.string m.msg]
theorem Tryz.undSp:Tryz.prog.underlying 33=some (.struct (Tryz.prog.fieldsOf 33)):=by kernel_rfl
theorem sH {a b:ByteArray}:a.toList=b.toList↔a=b:=by
 constructor
 ·intro h
  by_cases hab:a=b
  ·exact hab
  ·have:=nA hab
   rw[h] at this
   simp at this
 ·rintro rfl;rfl
theorem tY {a b:Sp}:a=b↔(a.role:Int)=(b.role:Int)∧(a.peer:Int)=(b.peer:Int)∧a.msg=b.msg:=by
 obtain⟨G,H,I⟩:=a
 obtain⟨b1,b2,J⟩:=b
 simp only[Sp.mk.injEq]
 constructor
 ·rintro⟨rfl,rfl,rfl⟩
  exact⟨rfl,rfl,rfl⟩
 ·rintro⟨h,A,E⟩
  exact⟨Int.ofNat.inj h,Int.ofNat.inj A,E⟩
set_option maxHeartbeats 1000000 in
set_option maxRecDepth 100000 in
theorem tZ (a b:Sp) (w:World):(binOp .eql 33 (.agg (fd a)) (.agg (fd b))).run Tryz.prog w=.ok (.bool (decide (a=b))) w:=by
 have A:(Op.equalIn (9999+1) 33 (.agg (fd a)) (.agg (fd b))).run Tryz.prog w=.ok (decide (a=b)) w:=by
  rw[run_equalIn_struct w 9999 33 _ _ Tryz.undSp (by kernel_rfl)]
  have h:decide (a=b)=decide ((a.role:Int)=(b.role:Int)∧(a.peer:Int)=(b.peer:Int)∧a.msg=b.msg):=decide_eq_decide.2 tY
  rw[h]
  simp[go_sem,fd,Tryz.underlying33]
  obtain⟨E,G,H⟩:=a
  obtain⟨b1,b2,I⟩:=b
  simp only[sH]
  clear h
  repeat' split
  all_goals simp[*]
 simp only[binOp]
 simp[show Op.equal 33 (.agg (fd a)) (.agg (fd b))=Op.equalIn (9999+1) 33 (.agg (fd a)) (.agg (fd b)) from rfl,A]
set_option maxHeartbeats 1000000 in
theorem qP (v:Value) (h:List Sp) (y:Sp) (w:World) (ah:Arr 3 SuAt w v h) (ai:h.length≤5000) :
  Calls Tryz.prog 148 #[v,.agg (fd y)] w (Ret (.int .i64 (ixf (fun x=>decide (y=x)) h)) (Frm [] w)):=by
 obtain⟨ao,cap,rfl,a⟩:=ah
 have af:=vi a
 obtain⟨n,R⟩:∃ n,h.length=n:=⟨_,rfl⟩
 rw[R] at ai ⊢
 have V:=vi R
 obtain⟨E,H⟩:∃ E,w.alloc (.cells (fd y) 33)=E:=⟨_,rfl⟩
 have O:Hid (Frm [] w E):=vi (by rw[← H];exact(Frm.refl _ _).alloc _)
 have ad:Hid (E.heap[w.heap.size]?=some (.cells (fd y) 33 (0,0))):=vi (by rw[← H];exact heap_alloc_new w _)
 have U:=vi H
 clear a R H
 go_enter Tryz.func148,Tryz.ntmps148
 go_wp2_with (refine aH rfl 33 _ rfl (fd y) rfl ?_;rw[U.out])
 clear U
 go_loopw [8,5] (fun s8 s5 wr=>∃ i:Nat,s8=.int .i64 i∧i≤n∧Frm [] E wr∧∀ j x,j<i→h[j]?=some x→decide (y=x)=false) (fun s8 _ _=>n - (intOf s8).toNat)
 case atStart=>exact⟨0,rfl,Nat.zero_le _,Frm.refl _ _,fun j x J=>by omega⟩
 case round =>
  obtain⟨i,rfl,aq,Y,aa⟩:=hrel
  have A:=vi Y;have K:=vi aa
  clear Y aa
  by_cases hlt:i<n
  ·have ar:(i:Int)<(n:Int):=by omega
   obtain⟨x,a⟩:∃ x,h[i]?=some x:=⟨_,List.getElem?_eq_getElem (by rw[V.out];exact hlt)⟩
   obtain⟨b,o,rfl,X⟩:=af.out i x a
   obtain⟨c0,aj,ak⟩:=X.frm (O.out.trans A.out)
   have I:=A.out.at ad.out (by simp)
   have al:wr.cell? ⟨w.heap.size,0,none⟩=some (.int .i64 y.role):=ae I 0
   have am:wr.cell? ⟨w.heap.size,1,none⟩=some (.int .i64 y.peer):=ae I 1
   have an:wr.cell? ⟨w.heap.size,2,none⟩=some (.string y.msg):=ae I 2
   have ab:∀ G,(binOp .eql 33 (suV y) (suV x)).run Tryz.prog G=.ok (.bool (decide (y=x))) G:=fun G=>tZ y x G
   have W:=vi a
   clear X a I
   cases hpx:decide (y=x) with
   | true =>
     rw[hpx] at ab
     have N:=vi hpx
     clear hpx
     go_wp2
     go_quiet (fail)
     go_wp2
     go_ret
     exact⟨by rw[cj W.out N.out K.out];rfl,O.out.trans (A.out.drewN _)⟩
   | false =>
     rw[hpx] at ab
     have N:=vi hpx
     clear hpx
     go_wp2
     go_quiet (fail)
     go_wp2
     refine⟨⟨i+1,by simp,hlt,A.out.drewN _,fun j z J S=>?_⟩,by simp[intOf];omega⟩
     by_cases e:j=i
     ·subst e;rw[W.out] at S;cases S;exact N.out
     ·exact K.out j z (by omega) S
  ·have ap:¬ (i:Int)<(n:Int):=by omega
   go_wp2
   go_ret
   refine⟨?_,O.out.trans A.out⟩
   have e:=cn (p:=fun x=>decide (y=x)) (l:=h) fun x a=>by
    obtain⟨j,J⟩:=List.getElem?_of_mem a
    exact K.out j x (by have:=ag J;rw[V.out] at this;omega) J
   rw[e];rfl
theorem sK {a:List Sp} {y:Sp}:decide (0≤ixf (fun x=>decide (y=x)) a)=decide (y∈a):=by
 by_cases h:y∈a
 ·rw[decide_eq_true (fQ (p:=fun x=>decide (y=x)) h (by simp)),decide_eq_true h]
 ·rw[decide_eq_false h,decide_eq_false]
  intro E
  obtain⟨i,H,-⟩:=cO E
  obtain⟨x,G,A,-⟩:=ef H
  rw[decide_eq_true_eq] at A
  subst A
  exact h (List.mem_of_getElem? G)
set_option maxHeartbeats 1000000 in
theorem qO (v:Value) (a:List Sp) (y:Sp) (w:World) (h:Arr 3 SuAt w v a) (S:a.length≤5000) :
  Calls Tryz.prog 78 #[v,.agg (fd y)] w (Ret (.bool (decide (y∈a))) (Frm [] w)):=by
 obtain⟨ao,cap,e,-⟩:=id h
 subst e
 have G:Frm [] w (w.alloc (.cells (fd y) 33)):=(Frm.refl _ _).alloc _
 have A:=vi (qP (.slice ao a.length cap) a y (w.alloc (.cells (fd y) 33)) (h.frm fun _ _ _ h=>h.frm G) S)
 have H:=vi G
 rw[← sK]
 obtain⟨q,K⟩:∃ q,ixf (fun x=>decide (y=x)) a=q:=⟨_,rfl⟩
 rw[K] at A ⊢
 have hb:(w.alloc (.cells (fd y) 33)).heap[w.heap.size]?=some (.cells (fd y) 33 (0,0)):=heap_alloc_new w _
 obtain⟨I,E⟩:∃ I,w.alloc (.cells (fd y) 33)=I:=⟨_,rfl⟩
 rw[E] at A H hb
 have N:=vi hb
 have R:=vi E
 clear h G K E hb
 go_enter Tryz.func78,Tryz.ntmps78
 go_wp2_with (first
  | (refine aH rfl 33 _ rfl (fd y) rfl ?_;rw[R.out])
  | (refine af rfl 33 _ rfl _ rfl _ 33 N.out _ Tryz.underlying33 rfl (by kernel_rfl) ?_)
  | (go_at_call 148;go_must (refine A.out.mono ?_;rintro e U ⟨rfl,J⟩;have O:=vi J;clear J)))
 go_ret
 exact⟨rfl,H.out.trans O.out⟩
theorem qQ (p:StpD→Bool) (l:List StpD):decide (0≤ixf p l)=l.any p:=by
 rw[Bool.eq_iff_iff,decide_eq_true_eq,List.any_eq_true]
 constructor
 ·intro A
  obtain⟨i,E,-⟩:=cO A
  obtain⟨x,a,h,-⟩:=ef E
  exact⟨x,List.mem_of_getElem? a,h⟩
 ·rintro⟨x,a,h⟩
  exact fQ a h
set_option maxRecDepth 100000 in
theorem nH (h:FuncId) (E:Array Value) (p:StpD→Bool) (v:Value) (a:List StpD) (w:World) (G:Arr 9 SpAt w v a) (I:a.length≤1000) (O:∀ args w,(callFunc h args).run Tryz.prog w=.ok (.enter h args) w)
  (J:∀ A x,Frm [] w A→x∈a→Calls Tryz.prog h (#[dN x]++E) A (Ret (.bool (p x)) (Frm [] A))) :
  Calls Tryz.prog 76 #[v,.func (.func h) #[] E] w (Ret (.bool (a.any p)) (Frm [] w)):=by
 have CI:=vi (ja h E p v a w G I O J)
 obtain⟨ao,R,rfl⟩:=Arr.shape G
 rw[← qQ]
 obtain⟨q,K⟩:∃ q,ixf p a=q:=⟨_,rfl⟩
 rw[K] at CI ⊢
 clear G I K J
 go_enter Tryz.func76,Tryz.ntmps76
 go_wp2_with (go_at_call 147;go_must (refine CI.out.mono ?_;rintro e S ⟨rfl,H⟩;have N:=vi H;clear H))
 go_ret
 exact⟨rfl,N.out⟩
end Go.Proofs.YtohfkhjlnlahdaaGreat
namespace Go.Proofs.YtohfkhjlnlahdaaGreat
open Go.RowKit Go.BigFrame
set_option maxRecDepth 100000 in
theorem Tryz.call_xpNever1 (args:Array Value) (w:World):(callFunc 77 args).run Tryz.prog w=.ok (.enter 77 args) w:=by kernel_rfl
def jj (m a:ByteArray) (x:StpD):Bool:=decide (x.kind=2) && decide (x.msg=m) && decide (x.peer=a)
set_option maxHeartbeats 2000000 in
set_option maxRecDepth 100000 in
theorem kI (N K:Nat) (m G:ByteArray) (x:StpD) (w:World) (O:w.cell? ⟨N,3,none⟩=some (.string m)) (R:w.cell? ⟨K,0,none⟩=some (.string G)) :
  Calls Tryz.prog 77 #[dN x,.pointer (some ⟨N,0,none⟩),.pointer (some ⟨K,0,none⟩)] w (Ret (.bool (jj m G x)) (Frm [] w)):=by
 obtain⟨h,A⟩:∃ h,w.alloc (.cells #[.string x.frm,.string x.to,.int .i64 x.kind,.string x.msg,.string x.peer,.string x.ctr,.int .i64 x.low,.int .i64 x.high,.int .i64 x.add] 137)=h:=⟨_,rfl⟩
 have E:Frm [] w h:=by rw[← A];exact(Frm.refl _ _).alloc _
 have hb:h.heap[w.heap.size]?=some (.cells #[.string x.frm,.string x.to,.int .i64 x.kind,.string x.msg,.string x.peer,.string x.ctr,.int .i64 x.low,.int .i64 x.high,.int .i64 x.add] 137 (0,0)):=by rw[← A];exact heap_alloc_new _ _
 have V:=ae hb 2
 have W:=ae hb 3
 have X:=ae hb 4
 have Y:=E.keep O
 have aa:=E.keep R
 have H:=vi E;have J:=vi A
 clear O R E A hb
 go_enter Tryz.func77,Tryz.ntmps77
 go_upto_region 1 with (first | (refine aH rfl 137 _ rfl _ rfl ?_;rw[J.out]))
 clear J
 by_cases hk:x.kind=2
 ·have b2:(x.kind == 2)=true:=by simpa using hk
  have a:Hid (decide (x.kind=2)=true):=vi (decide_eq_true hk)
  clear hk
  by_cases hm:x.msg=m
  ·have S:(x.msg.toList == m.toList)=true:=by rw[aK,decide_eq_true hm]
   have I:Hid (decide (x.msg=m)=true):=vi (decide_eq_true hm)
   have U:(x.peer.toList == G.toList)=decide (x.peer=G):=aK ..
   clear hm
   go_wp2
   go_ret
   refine⟨?_,H.out⟩
   unfold jj
   rw[a.out,I.out]
   simp
  ·have S:(x.msg.toList == m.toList)=false:=by rw[aK,decide_eq_false hm]
   have I:Hid (decide (x.msg=m)=false):=vi (decide_eq_false hm)
   clear hm
   go_wp2
   go_ret
   refine⟨?_,H.out⟩
   unfold jj
   rw[a.out,I.out]
   simp
 ·have b2:(x.kind == 2)=false:=by simpa using hk
  have a:Hid (decide (x.kind=2)=false):=vi (decide_eq_false hk)
  clear hk
  go_wp2
  go_ret
  refine⟨?_,H.out⟩
  unfold jj
  rw[a.out]
  simp
section
variable {s:SesD}
theorem lQ (i p k:Nat) (a:List Sp):(iR s i p k a).length≤a.length+1:=by
 unfold iR g9
 split
 ·split <;> simp
 ·omega
theorem fo (i p:Nat) (a:List Sp):∀ n,(bW s i p a n).length≤a.length+n
 | 0=>Nat.le_refl _
 | n+1=>by
   rw[bW]
   have h:=lQ (s:=s) i p n (bW s i p a n)
   have A:=fo i p a n
   omega
theorem fs (hb:∀ r∈s.roles,r.steps.length≤12) (i:Nat) (a:List Sp):∀ n,n≤s.roles.length→(bm s i a n).length≤a.length+n*12
 | 0,_=>by simp[bm]
 | n+1,h=>by
   rw[bm]
   have A:=fo (s:=s) i n (bm s i a n) (s.rol n).steps.length
   have E:=fs hb i a n (by omega)
   have G:=hb (s.rol n) (List.mem_of_getElem? (SesD.rol_some (by omega)))
   omega
theorem gK (hb:∀ r∈s.roles,r.steps.length≤12) (a:s.roles.length≤4):∀ n,n≤s.roles.length→(aX s n).length≤n*48
 | 0,_=>by simp[aX]
 | n+1,h=>by
   rw[aX]
   have A:=fs hb n (aX s n) s.roles.length (Nat.le_refl _)
   have E:=gK hb a n (by omega)
   omega
end
structure NvI (w W1:World) (L:List Sp) (v:Value) (W:World):Prop where
 fr:Frm [] w W
 row:W.ownsRow w.heap.size 33 3 v L.length (suC L)
 kt:Kt [33] W1 W
set_option maxHeartbeats 8000000 in
set_option maxRecDepth 100000 in
theorem lR (s:SesD) (v:Value) (w:World) (cL:SesV w v s) (bR:s.roles.length≤4) (hb:∀ r∈s.roles,r.steps.length≤12) :
  Calls Tryz.prog 24 #[v] w (aU fun u w'=>w'.ownsRow w.heap.size 33 3 u (kG s).length (suC (kG s))∧Frm [] w w'):=by
 obtain⟨de,rfl,bb⟩:=cL
 obtain⟨bY,bZ,rfl⟩:=bb.shape
 obtain⟨n,a9⟩:∃ n,s.roles.length=n:=⟨_,rfl⟩
 have aZ:=vi bb;have al:=vi a9;have bp:=vi bR;have ay:=vi hb
 have az:Hid (∀ i:Nat,i<n→wrap64 ((i:Int)+1)=((i+1:Nat):Int)):=vi fun i cG=>by unfold wrap64;omega
 rw[a9] at aZ ⊢
 obtain⟨R,aE⟩:∃ R,w.alloc (.cells #[.string s.name,.slice bY n bZ,.int .i64 s.cls,.int .i64 s.cap] 25)=R:=⟨_,rfl⟩
 have b4:Hid (Frm [] w R):=vi (by rw[← aE];exact(Frm.refl _ _).alloc _)
 have bq:Hid (R.heap[w.heap.size]?=some (.cells #[.string s.name,.slice bY n bZ,.int .i64 s.cls,.int .i64 s.cap] 25 (0,0))):=vi (by rw[← aE];exact heap_alloc_new _ _)
 have br:=vi aE
 clear bb a9 bR hb aE
 go_enter Tryz.func24,Tryz.ntmps24
 go_upto_region 1 with (first | (refine aH rfl 25 _ rfl _ rfl ?_;rw[br.out]))
 clear br
 have bo:=ae bq.out 1
 go_upto_region 2 with fail
 clear bo
 go_loopw [14,2] (fun s14 s2 wr=>∃ i:Nat,s14=.int .i64 i∧i≤n∧NvI w R (aX s i) s2 wr) (fun s14 _ _=>n - (intOf s14).toNat)
 case atStart=>exact⟨0,rfl,Nat.zero_le _,b4.out,World.ownsRow_nil _ _ _ _,Kt.refl _ _⟩
 case round =>
  obtain⟨i,rfl,cG,I⟩:=hrel
  obtain⟨ct,cx,ax⟩:=an I.row
  subst ax
  have N:=vi I
  clear I
  obtain⟨aj,cM⟩:∃ aj,aj=wr:=⟨_,rfl⟩
  subst cM
  by_cases hlt:i<n
  ·have c7:(i:Int)<(n:Int):=by omega
   have aJ:i<s.roles.length:=by rw[al.out];exact hlt
   obtain⟨rb,dc,cy,df,c4,dj,H,V,W,X,ag⟩:=aZ.out.get (SesD.rol_some aJ)
   subst cy
   obtain⟨r,aN⟩:∃ r,s.rol i=r:=⟨_,rfl⟩
   rw[aN] at H ag
   obtain⟨bH,bN,rfl⟩:=ag.sts.shape
   obtain⟨bF,bL,rfl⟩:=ag.ctrs.shape
   obtain⟨a1,a3,rfl⟩:=ag.steps.shape
   have ci:=vi ag;have b7:=vi aJ;have bw:=vi aN
   have ck:Hid (r.steps.length≤12):=vi (by rw[← aN];exact ay.out _ (List.mem_of_getElem? (SesD.rol_some aJ)))
   replace H:=N.out.fr.keep H;replace V:=N.out.fr.keep V;replace W:=N.out.fr.keep W;replace X:=N.out.fr.keep X
   have bc:=aI H
   clear ag aJ aN
   go_upto_region 4 with fail
   clear H V W X bc
   obtain⟨K,aC⟩:∃ K,aj.alloc (.cells #[.string r.name,.slice bH r.sts.length bN,.slice bF r.ctrs.length bL,.slice a1 r.steps.length a3] 87)=K:=⟨_,rfl⟩
   obtain⟨cu,a4⟩:∃ b,aj.heap.size=b:=⟨_,rfl⟩
   have aS:Hid (Frm [] aj K):=vi (by rw[← aC];exact(Frm.refl [] aj).alloc _)
   have cl:Hid (K.heap[cu]?=some (.cells #[.string r.name,.slice bH r.sts.length bN,.slice bF r.ctrs.length bL,.slice a1 r.steps.length a3] 87 (0,0))):=vi (by rw[← aC,← a4];exact heap_alloc_new _ _)
   rw[aC,a4]
   clear aC a4
   have b5:Hid (NvI w K (bm s i (aX s i) 0) (.slice ct (aX s i).length cx) K):=vi ⟨N.out.fr.trans aS.out,aS.out.owns N.out.row (by simp),Kt.refl _ _⟩
   have bz:Hid (Kt [33] R K):=vi (N.out.kt.trans (Kt.frm aS.out))
   have bo:=ae (bz.out.cells bq.out (by decide)) 1
   go_upto_region 5 with fail
   clear bo
   go_loopw [22,2] (fun s22 s2 wr=>∃ p:Nat,s22=.int .i64 p∧p≤n∧NvI w K (bm s i (aX s i) p) s2 wr) (fun s22 _ _=>n - (intOf s22).toNat)
   case atStart=>exact⟨0,rfl,Nat.zero_le _,b5.out⟩
   case round =>
    obtain⟨p,rfl,da,I⟩:=hrel
    obtain⟨bK,bQ,ax⟩:=an I.row
    subst ax
    have J:=vi I
    clear I
    obtain⟨Y,cN⟩:∃ Y,Y=wr:=⟨_,rfl⟩
    subst cN
    by_cases hltp:p<n
    ·have c9:(p:Int)<(n:Int):=by omega
     have aM:p<s.roles.length:=by rw[al.out];exact hltp
     obtain⟨db,dd,cz,dg,c5,dk,H,V,W,X,ai⟩:=aZ.out.get (SesD.rol_some aM)
     cases cz
     obtain⟨o,aL⟩:∃ o,s.rol p=o:=⟨_,rfl⟩
     rw[aL] at H ai
     obtain⟨bI,bO,rfl⟩:=ai.sts.shape
     obtain⟨bG,bM,rfl⟩:=ai.ctrs.shape
     obtain⟨bJ,bP,rfl⟩:=ai.steps.shape
     have cj:=vi ai;have cg:=vi aM;have aY:=vi aL
     have bv:Hid (o.steps.length≤12):=vi (by rw[← aL];exact ay.out _ (List.mem_of_getElem? (SesD.rol_some aM)))
     replace H:=J.out.fr.keep H;replace V:=J.out.fr.keep V;replace W:=J.out.fr.keep W;replace X:=J.out.fr.keep X
     have bc:=aI H
     clear ai aM aL
     go_upto_region 7 with fail
     clear H V W X bc
     obtain⟨A,aD⟩:∃ A,Y.alloc (.cells #[.string o.name,.slice bI o.sts.length bO,.slice bG o.ctrs.length bM,.slice bJ o.steps.length bP] 87)=A:=⟨_,rfl⟩
     obtain⟨b6,a5⟩:∃ b,Y.heap.size=b:=⟨_,rfl⟩
     have F1:Hid (Frm [] Y A):=vi (by rw[← aD];exact(Frm.refl [] Y).alloc _)
     have a0:Hid (A.heap[b6]?=some (.cells #[.string o.name,.slice bI o.sts.length bO,.slice bG o.ctrs.length bM,.slice bJ o.steps.length bP] 87 (0,0))):=vi (by rw[← aD,← a5];exact heap_alloc_new _ _)
     rw[aD,a5]
     clear aD a5
     have b9:Hid (NvI w A (bW s i p (bm s i (aX s i) p) 0) (.slice bK (bm s i (aX s i) p).length bQ) A):=vi ⟨J.out.fr.trans F1.out,F1.out.owns J.out.row (by simp),Kt.refl _ _⟩
     have bA:Hid (Kt [33] K A):=vi (J.out.kt.trans (Kt.frm F1.out))
     have cm:=vi (bA.out.cells cl.out (by decide))
     have b3:=ae a0.out 3
     obtain⟨m,a8⟩:∃ m,o.steps.length=m:=⟨_,rfl⟩
     have aV:=vi a8
     rw[a8] at a0 b3 ⊢
     have h:Hid (∀ k:Nat,k<m→wrap64 ((k:Int)+1)=((k+1:Nat):Int)):=vi fun k cI=>by
      have:=bv.out
      unfold wrap64;omega
     clear a8
     go_upto_region 8 with fail
     clear b3
     go_loopw [30,2] (fun s30 s2 wr=>∃ k:Nat,s30=.int .i64 k∧k≤m∧NvI w A (bW s i p (bm s i (aX s i) p) k) s2 wr) (fun s30 _ _=>m - (intOf s30).toNat)
     case atStart=>exact⟨0,rfl,Nat.zero_le _,b9.out⟩
     case round =>
      obtain⟨k,rfl,cI,I⟩:=hrel
      obtain⟨S,U,ax⟩:=an I.row
      subst ax
      have a:=vi I
      clear I
      obtain⟨wc,cO⟩:∃ wc,wc=wr:=⟨_,rfl⟩
      subst cO
      by_cases hltk:k<m
      ·have c8:(k:Int)<(m:Int):=by omega
       obtain⟨t,bd⟩:∃ t,o.steps[k]?=some t:=⟨_,List.getElem?_eq_getElem (by rw[aV.out];exact hltk)⟩
       have be:(s.rol p).stp k=t:=by rw[aY.out];exact aW bd
       obtain⟨dh,di,cD,aP,bf,bg,bh,bi,bj,bk,bl,bn⟩:=cj.out.steps.get bd
       subst cD
       replace aP:=a.out.fr.keep aP;replace bf:=a.out.fr.keep bf;replace bg:=a.out.fr.keep bg;replace bh:=a.out.fr.keep bh;replace bi:=a.out.fr.keep bi
       replace bj:=a.out.fr.keep bj;replace bk:=a.out.fr.keep bk;replace bl:=a.out.fr.keep bl;replace bn:=a.out.fr.keep bn
       have cJ:=aI aP
       have cZ:=vi be
       obtain⟨L,aB⟩:∃ L,bW s i p (bm s i (aX s i) p) k=L:=⟨_,rfl⟩
       have bu:Hid (L.length≤300):=vi (by
        rw[← aB]
        have c1:=fo (s:=s) i p (bm s i (aX s i) p) k
        have c2:=fs ay.out i (aX s i) p (by have:=cg.out;omega)
        have c3:=gK ay.out bp.out i (by have:=b7.out;omega)
        have:=bp.out;have:=al.out;have:=bv.out;have:=aV.out
        omega)
       have ap:Hid (bW s i p (bm s i (aX s i) p) (k+1)=if sF s i p t then g9 L ⟨i,p,t.msg⟩ else L):=vi (by
        rw[bW,aB]
        unfold iR
        rw[be])
       rw[aB] at a ⊢
       clear bd be aB
       go_upto_region 11 with fail
       clear aP bf bg bh bi bj bk bl bn cJ
       obtain⟨ar,au⟩:∃ cq,(wc.alloc (.cells #[.string t.frm,.string t.to,.int .i64 t.kind,.string t.msg,.string t.peer,.string t.ctr,.int .i64 t.low,.int .i64 t.high,.int .i64 t.add] 137)).alloc (.cells #[.int .i64 i,.int .i64 p,.string t.msg] 33)=cq:=⟨_,rfl⟩
       obtain⟨cv,a7⟩:∃ b,wc.heap.size+1=b:=⟨_,rfl⟩
       obtain⟨a2,a6⟩:∃ b,wc.heap.size=b:=⟨_,rfl⟩
       have aT:Hid (Frm [] wc ar):=vi (by rw[← au];exact((Frm.refl [] wc).alloc _).alloc _)
       have bC:Hid (ar.heap[a2]?=some (.cells #[.string t.frm,.string t.to,.int .i64 t.kind,.string t.msg,.string t.peer,.string t.ctr,.int .i64 t.low,.int .i64 t.high,.int .i64 t.add] 137 (0,0))):=vi (by rw[← au,← a6];exact ah (heap_alloc_new _ _))
       have cp:Hid (ar.heap[cv]?=some (.cells #[.int .i64 i,.int .i64 p,.string t.msg] 33 (0,0))):=vi (by rw[← au,← a7];exact aq (by simp))
       rw[au,a7,a6]
       clear au a6 a7
       have ad:Hid (NvI w A L (.slice S L.length U) ar):=vi ⟨a.out.fr.trans aT.out,aT.out.owns a.out.row (by simp),a.out.kt.trans (Kt.frm aT.out)⟩
       have bB:=vi (ad.out.kt.cells cm.out (by decide))
       have co:=vi (ad.out.kt.cells a0.out (by decide))
       have aR:=vi (nH 77 #[.pointer (some ⟨a2,0,none⟩),.pointer (some ⟨b6,0,none⟩)] (jj t.msg o.name) (.slice a1 r.steps.length a3) r.steps ar (ci.out.steps.frm fun _ _ _ cE=>cE.frm ad.out.fr) (by have:=ck.out;omega) Tryz.call_xpNever1
        (fun cr x bS _=>kI a2 b6 t.msg o.name x cr (bS.keep (ae bC.out 3)) (bS.keep (ae co.out 0))))
       have bt:Hid (r.steps.any (jj t.msg o.name)=qH s i p t.msg):=vi (by rw[← bw.out,← aY.out];rfl)
       obtain⟨bT,bX⟩:∃ b,r.steps.any (jj t.msg o.name)=b:=⟨_,rfl⟩
       rw[bX] at aR bt
       have cY:=ae bB.out 3
       clear bX
       go_upto_region 12 with (first
        | (go_at_call 76;go_must (refine aR.out.mono ?_;rintro e b0 ⟨rfl,bU⟩;have ab:=vi bU;clear bU aR cY)))
       have E:Hid (NvI w A L (.slice S L.length U) b0):=vi ⟨ad.out.fr.trans ab.out,ab.out.owns ad.out.row (by simp),ad.out.kt.trans (Kt.frm ab.out)⟩
       have bE:=vi (ab.out.at bC.out (by simp))
       have aA:=vi (ab.out.at cp.out (by simp))
       have cn:=vi (ab.out.at bB.out (by simp))
       have cB:=ae bE.out 2
       have cC:=ae bE.out 4
       have cW:=ae cn.out 0
       have u0:=ae aA.out 0
       have u1:=ae aA.out 1
       have u2:=ae aA.out 2
       have am:Hid (sF s i p t=(decide (i≠p) && decide (t.kind=1) && decide (t.peer=r.name) && !bT)):=vi (by unfold sF;rw[← bt.out,bw.out])
       by_cases hip:i=p
       ·have cT:((i:Int) != (p:Int))=false:=by rw[hip];simp
        have G:Hid (bW s i p (bm s i (aX s i) p) (k+1)=L):=vi (by rw[ap.out,am.out,decide_eq_false (by simp[hip])];rfl)
        clear hip
        go_wp2
        exact⟨⟨k+1,congrArg (Value.int .i64) (h.out k hltk),hltk,by rw[G.out];exact E.out⟩,bD hltk (h.out k hltk)⟩
       ·have cT:((i:Int) != (p:Int))=true:=by simp;omega
        have b8:Hid (decide (i≠p)=true):=vi (decide_eq_true hip)
        by_cases hk1:t.kind=1
        ·have cU:(t.kind == 1)=true:=by simpa using hk1
         have ca:Hid (decide (t.kind=1)=true):=vi (decide_eq_true hk1)
         by_cases hpe:t.peer=r.name
         ·have cV:(t.peer.toList == r.name.toList)=true:=by rw[aK,decide_eq_true hpe]
          have cf:Hid (decide (t.peer=r.name)=true):=vi (decide_eq_true hpe)
          clear hip hk1 hpe
          cases bT with
          | true =>
            have G:Hid (bW s i p (bm s i (aX s i) p) (k+1)=L):=vi (by rw[ap.out,am.out];simp)
            go_wp2
            exact⟨⟨k+1,congrArg (Value.int .i64) (h.out k hltk),hltk,by rw[G.out];exact E.out⟩,bD hltk (h.out k hltk)⟩
          | false =>
            have bx:Hid (bW s i p (bm s i (aX s i) p) (k+1)=g9 L ⟨i,p,t.msg⟩):=vi (by rw[ap.out,am.out,b8.out,ca.out,cf.out];rfl)
            have aa:=vi (qO (.slice S L.length U) L ⟨i,p,t.msg⟩ b0 (jk E.out.row) (by have:=bu.out;omega))
            by_cases hmem:(⟨i,p,t.msg⟩:Sp)∈L
            ·have G:Hid (bW s i p (bm s i (aX s i) p) (k+1)=L):=vi (by rw[bx.out];unfold g9;rw[if_pos hmem])
             rw[decide_eq_true hmem] at aa
             clear hmem
             go_wp2_with (first
              | (go_at_call 78;go_must (refine aa.out.mono ?_;rintro e aQ ⟨rfl,av⟩;have O:=vi av;clear av aa)))
             exact⟨⟨k+1,congrArg (Value.int .i64) (h.out k hltk),hltk,by rw[G.out];exact⟨E.out.fr.trans O.out,O.out.owns E.out.row (by simp),E.out.kt.trans (Kt.frm O.out)⟩⟩,bD hltk (h.out k hltk)⟩
            ·have G:Hid (bW s i p (bm s i (aX s i) p) (k+1)=L++[⟨i,p,t.msg⟩]):=vi (by rw[bx.out];unfold g9;rw[if_neg hmem])
             rw[decide_eq_false hmem] at aa
             clear hmem
             go_upto_region 13 with (first
              | (go_at_call 78;go_must (refine aa.out.mono ?_;rintro e aQ ⟨rfl,av⟩;have O:=vi av;clear av aa)))
             clear cB cC cW u0 u1 u2
             have af:Hid (NvI w A L (.slice S L.length U) aQ):=vi ⟨E.out.fr.trans O.out,O.out.owns E.out.row (by simp),E.out.kt.trans (Kt.frm O.out)⟩
             have aO:=O.out.at aA.out (by simp)
             have u0:=ae aO 0
             have u1:=ae aO 1
             have u2:=ae aO 2
             obtain⟨cS,cH,cP,cQ,cR⟩:=info_parts Tryz.infoSu
             have cK:w.heap.size≤(aQ.alloc (.cells #[.int .i64 i,.int .i64 p,.string t.msg] 33)).heap.size:=by have:=af.out.fr.size;simp;omega
             have c6:=bu.out
             clear aO
             go_wp2_with (at_builtin;refine wpList_append_own_at _ rfl _ _ 45 rfl w.heap.size 33 cS (.agg #[.int .i64 0,.int .i64 0,.string { data:=#[] }]) 3 32 Tryz.underlying45 cH cP cQ cR rfl (by decide) (.slice S L.length U) L.length (suC L) rfl (af.out.row.alloc _) ⟨aQ.heap.size,0,none⟩ 1 1 (jS ⟨i,p,t.msg⟩) rfl rfl (cA _ _ _) (by simp[jS,Value.oneCell']) (by unfold maxLen;omega) (by omega) cK ?_;intro v' cX ba bV _ _;obtain⟨cs,cw,rfl⟩:=an ba;have bs:=vi bV;have cd:=vi ba;clear bV ba)
             have aG:∀ q,(Value.slice S L.length U).ownBlock=some q→w.heap.size≤q:=fun q aw=>aF af.out.row aw
             have cc:Hid (NvI w A (L++[⟨i,p,t.msg⟩]) (.slice cs (L.length+1) cw) cX):=vi ⟨(af.out.fr.alloc _).grown bs.out (fun q aw=>.inr (aG q aw)),by rw[gr,List.length_append];exact cd.out,(af.out.kt.alloc _).grown bs.out (fun q aw=>by
              obtain⟨c,cF⟩:=ak af.out.row aw
              exact⟨c,33,(0,0),ah cF,by simp⟩)⟩
             exact⟨⟨k+1,congrArg (Value.int .i64) (h.out k hltk),hltk,by rw[G.out];exact cc.out⟩,bD hltk (h.out k hltk)⟩
         ·have cV:(t.peer.toList == r.name.toList)=false:=by rw[aK,decide_eq_false hpe]
          have G:Hid (bW s i p (bm s i (aX s i) p) (k+1)=L):=vi (by rw[ap.out,am.out,decide_eq_false hpe];simp)
          clear hip hk1 hpe
          go_wp2
          exact⟨⟨k+1,congrArg (Value.int .i64) (h.out k hltk),hltk,by rw[G.out];exact E.out⟩,bD hltk (h.out k hltk)⟩
        ·have cU:(t.kind == 1)=false:=by simpa using hk1
         have G:Hid (bW s i p (bm s i (aX s i) p) (k+1)=L):=vi (by rw[ap.out,am.out,decide_eq_false hk1];simp)
         clear hip hk1
         go_wp2
         exact⟨⟨k+1,congrArg (Value.int .i64) (h.out k hltk),hltk,by rw[G.out];exact E.out⟩,bD hltk (h.out k hltk)⟩
      ·obtain rfl:m=k:=by omega
       have aG:¬ (m:Int)<(m:Int):=by omega
       have ce:Hid (NvI w K (bm s i (aX s i) (p+1)) (.slice S (bW s i p (bm s i (aX s i) p) m).length U) wc):=vi (by
        rw[bm,aY.out,aV.out]
        exact⟨a.out.fr,a.out.row,bA.out.trans a.out.kt⟩)
       go_wp2
       exact⟨⟨p+1,congrArg (Value.int .i64) (az.out p hltp),hltp,ce.out⟩,bD hltp (az.out p hltp)⟩
    ·obtain rfl:n=p:=by omega
     have aG:¬ (n:Int)<(n:Int):=by omega
     have ch:Hid (NvI w R (aX s (i+1)) (.slice bK (bm s i (aX s i) n).length bQ) Y):=vi (by
      rw[aX,al.out]
      exact⟨J.out.fr,J.out.row,bz.out.trans J.out.kt⟩)
     go_wp2
     exact⟨⟨i+1,congrArg (Value.int .i64) (az.out i hlt),hlt,ch.out⟩,bD hlt (az.out i hlt)⟩
  ·obtain rfl:n=i:=by omega
   have aG:¬ (n:Int)<(n:Int):=by omega
   go_wp2
   go_ret
   exact⟨_,rfl,by have:=N.out.row;unfold kG;rw[al.out];exact this,N.out.fr⟩
end Go.Proofs.YtohfkhjlnlahdaaGreat
namespace Go.Proofs.YtohfkhjlnlahdaaGreat
open Go.RowKit Go.BigFrame
theorem fw {P:Program} {o:Oper} {A:Act} {w:World} {H:Act→World→Prop} {Q:Exit→Act→World→Prop} (s x:Operand) (t:TypeId)
  (ae:o.op=.call { callee:=.builtin .append,args:=#[s,x],argTypes:=#[t,t] })
  (base:Nat) (e:TypeId) {i:TypeInfo} {z:Value} {a bytes:Nat} (ak:P.underlying t=some (.slice e)) (aa:P.info? e=some i) (am:i.zero=some z)
  (ai:i.size=a) (U:i.bytes=bytes) (an:z.cells.size=a) (aj:0<a)
  (v:Value) (n:Nat) (G:List Value) (ah:A.eval s=v) (af:w.ownsRow base e a v n G)
  (E:Addr) (m c:Nat) (h:List Value) (al:A.eval x=.slice (some E) m c) (ab:h.length=m*a) (ad:∀ (j:Nat) u,h[j]?=some u→w.cell? (E.add j)=some u) (J:∀ u∈h,u.oneCell'=true)
  (R:n+m≤maxLen) (W:(n+m)*bytes≤140737488355328) (S:base≤w.heap.size)
  (I:∀ v' w',w'.ownsRow base e a v' (n+m) (G++h)→w.grownBy w' v.ownBlock→(v'.ownBlock=v.ownBlock∨v'.ownBlock=some w.heap.size)→H (A.put o.dst v') w'):Oper.wp P o A w H Q:=by
 obtain⟨v',w',ag,K,N,ap,O⟩:=run_append_own_at (P:=P) w base t o.type e i z a bytes ak aa am ai U an aj v n G af E m c h ab ad J R W S
 unfold Oper.wp execOp
 simp only[ae,resolve,invoke,builtin,Sem.run_bind,Sem.run_pure,Result.andThen_ok,List.map_toArray,List.map_cons,List.map_nil,ah,al,ag]
 exact I v' w' K N O
theorem pY (s:SesD) (i:Nat):(bg s).at i=0:=by
 unfold bg PS.at
 simp only[List.getD_eq_getElem?_getD,List.getElem?_map]
 cases s.roles[i]? <;> rfl
theorem nR (s:SesD) {i:Nat} (a:i<s.roles.length):(bg s).bank i=List.replicate (s.rol i).ctrs.length 0:=by
 unfold bg PS.bank
 simp only[List.getD_eq_getElem?_getD,List.getElem?_map,SesD.rol_some a,Option.map_some,Option.getD_some,List.map_const']
structure QF (w W0:World) (s:SesD) (m i:Nat) (W:World):Prop where
 fr:Frm [w.heap.size+2] W0 W
 bx:∃ aa ka ab kb aw kw bi bk,W.heap[w.heap.size+2]?=some (.cells #[.slice aa m ka,.slice ab m kb,.slice aw i kw] 61 (0,0))∧W.ownsRow W0.heap.size 3 1 (.slice aa m ka) m (List.replicate m (iv 0))∧W.ownsRow W0.heap.size 159 2 (.slice ab m kb) m bk ∧
  (∀ j,j<m→∃ dv vv,bk[j*2]?=some dv∧bk[j*2+1]?=some vv∧DfV W dv (s.rol j).ctrs∧IvR W vv ((bg s).bank j)∧∀ q,vv.ownBlock=some q→(Value.slice aa m ka).ownBlock≠some q)∧WyR W0.heap.size i s.roles.length bi (.slice aw i kw) W∧RW W0.heap.size s (bg s) i bi W
theorem QF.frm {w A h V:World} {s:SesD} {m i:Nat} (E:QF w A s m i h) (a:Frm [] h V):QF w A s m i V:=by
 obtain⟨G,ag,H,ah,I,ai,O,R,U,W,aa,ab,ad,ae⟩:=E.bx
 refine⟨E.fr.then a (by simp),G,ag,H,ah,I,ai,O,R,a.at U (by simp),a.owns W (by simp),a.owns aa (by simp),fun j af=>?_,ad.kt (T:=[]) (Kt.frm a) (by simp),ae.kt (T:=[]) (Kt.frm a) (by simp) (by simp)⟩
 obtain⟨S,aj,b1,b2,J,K,N⟩:=ab j af
 exact⟨S,aj,b1,b2,J.frm a (by simp),K.frm a (by simp),N⟩
structure FB (B p:Nat) (wl:World) (F:List Nat) (D V Wv:Value) (d v:Value) (n1 n2:Nat) (L1 L2:List Value) (X:World):Prop where
 fr:Frm F wl X
 kt:Kt [3,159] wl X
 p:X.heap[p]?=some (.cells #[D,V,Wv] 61 (0,0))
 o1:X.ownsRow B 3 1 d n1 L1
 o2:X.ownsRow B 159 2 v n2 L2
 hd:∀ q,d.ownBlock=some q→D.ownBlock=some q∨wl.heap.size≤q
section
variable {B p:Nat} {wl X Y:World} {F:List Nat} {D V Wv d v d' v':Value} {n1 n2 m1 m2:Nat} {L1 L2 M1 M2:List Value}
theorem FB.alloc (a:FB B p wl F D V Wv d v n1 n2 L1 L2 X) (o:Obj):FB B p wl F D V Wv d v n1 n2 L1 L2 (X.alloc o):=⟨a.fr.alloc _,a.kt.alloc _,ah a.p,a.o1.alloc _,a.o2.alloc _,a.hd⟩
theorem FB.app1 (a:FB B p wl F D V Wv D v n1 n2 L1 L2 X) (E:∀ k,D.ownBlock=some k→k∈F) (h:X.grownBy Y D.ownBlock) (I:Y.ownsRow B 3 1 d' m1 M1) (G:d'.ownBlock=D.ownBlock∨d'.ownBlock=some X.heap.size):FB B p wl F D V Wv d' v m1 n2 M1 L2 Y:=
 ⟨a.fr.grown h (fun k H=>.inl (E k H)),a.kt.trans ((Kt.own a.o1 h).mono (by simp)),(Kt.own a.o1 h).cells a.p (by decide),I,(Kt.own a.o1 h).row a.o2 (by decide),fun q A=>by
  rcases G with e | e
  ·exact .inl (e ▸ A)
  ·rw[e] at A
   cases A
   exact .inr a.fr.size⟩
theorem FB.app2 (a:FB B p wl F D V Wv d V n1 n2 L1 L2 X) (A:∀ k,V.ownBlock=some k→k∈F) (h:X.grownBy Y V.ownBlock) (G:Y.ownsRow B 159 2 v' m2 M2):FB B p wl F D V Wv d v' n1 m2 L1 M2 Y:=
 ⟨a.fr.grown h (fun k E=>.inl (A k E)),a.kt.trans ((Kt.own a.o2 h).mono (by simp)),(Kt.own a.o2 h).cells a.p (by decide),(Kt.own a.o2 h).row a.o1 (by decide),G,a.hd⟩
end
theorem QF.grow {w G A Y Z:World} {s:SesD} {i J al am:Nat} {I ad ae:Option Addr} {af:Nat→Nat} {R:List Value} {d v K a:Value} {F:List Nat} (aN:Frm [w.heap.size+2] G A) (aS:w.heap.size+2<G.heap.size)
  (aI:A.ownsRow G.heap.size 3 1 (.slice I i J) i (List.replicate i (iv 0))) (U:A.ownsRow G.heap.size 159 2 (.slice ad i al) i R)
  (aJ:∀ j,j<i→∃ K a,R[j*2]?=some K∧R[j*2+1]?=some a∧DfV A K (s.rol j).ctrs∧IvR A a ((bg s).bank j)∧∀ q,a.ownBlock=some q→(Value.slice I i J).ownBlock≠some q) (aK:WyR G.heap.size i s.roles.length af (.slice ae i am) A) (aL:RW G.heap.size s (bg s) i af A)
  (aO:DfV A K (s.rol i).ctrs) (aB:IvR A a ((bg s).bank i)) (aA:∀ q,a.ownBlock=some q→(Value.slice I i J).ownBlock≠some q) (ai:∀ k∈F,(Value.slice I i J).ownBlock=some k∨(Value.slice ad i al).ownBlock=some k)
  (hb:FB G.heap.size (w.heap.size+2) A F (.slice I i J) (.slice ad i al) (.slice ae i am) d v (i+1) (i+1) (List.replicate (i+1) (iv 0)) (R++[K,a]) Y)
  (e:(Y.setCell ⟨w.heap.size+2,0,none⟩ d).setCell ⟨w.heap.size+2,1,none⟩ v=Z):QF w G s (i+1) i Z:=by
 obtain⟨ab,ah,rfl⟩:=an hb.o1
 obtain⟨ar,av,rfl⟩:=an hb.o2
 have b1:=ap hb.p 0 (.slice ab (i+1) ah)
 have b2:=ap b1 1 (.slice ar (i+1) av)
 have aw:Frm [w.heap.size+2] Y Z:=by rw[← e];exact(bG _ _ _ _).trans (bG _ _ _ _)
 have S:Kt [61] Y Z:=by rw[← e];exact((Kt.refl _ Y).set hb.p (by simp) _).set b1 (by simp) _
 have W:Kt [3,159,61] A Z:=(hb.kt.mono (by simp)).trans (S.mono (by simp))
 rw[e] at b2
 have aM:∀ k∈F,G.heap.size≤k:=fun k S=>by
  rcases ai k S with h | h
  ·exact aF aI h
  ·exact aF U h
 have ax:∀ a l,IvR A a l→(∀ q,a.ownBlock=some q→(Value.slice I i J).ownBlock≠some q)→IvR Z a l:=fun a l O aa=>by
  refine(O.frm hb.fr fun q E N=>?_).frm aw fun q E N=>?_
  ·rcases ai q N with h | h
   ·exact aa q E h
   ·obtain⟨c,aj⟩:=ak U h
    obtain⟨au,H⟩:=ak O E
    rw[aj] at H
    cases H
  ·simp at N
   obtain⟨au,H⟩:=ak (O.frm hb.fr fun q E N=>by
    rcases ai q N with h | h
    ·exact aa q E h
    ·obtain⟨c,aj⟩:=ak U h
     obtain⟨au,H⟩:=ak O E
     rw[aj] at H
     cases H) E
   rw[N,hb.p] at H
   cases H
 have az:∀ a l,IvR A a l→(∀ q,a.ownBlock=some q→(Value.slice I i J).ownBlock≠some q)→∀ q,a.ownBlock=some q→(Value.slice ab (i+1) ah).ownBlock≠some q:=fun a l O aa q E aP=>by
  rcases hb.hd q aP with h | h
  ·exact aa q E h
  ·have:=bV O E
   omega
 have ay:R.length=i*2:=U.1
 refine⟨(aN.then hb.fr fun x aQ=>.inr (aM x aQ)).trans aw,ab,ah,ar,av,ae,am,af,_,b2,S.row hb.o1 (by decide),S.row hb.o2 (by decide),fun j aT=>?_,aK.kt W (by decide),aL.kt W (by decide) (by decide)⟩
 by_cases ej:j=i
 ·subst ej
  refine⟨K,a,?_,?_,W.row aO (by decide),ax a _ aB aA,az a _ aB aA⟩
  ·rw[List.getElem?_append_right (by omega),ay,Nat.sub_self];rfl
  ·rw[List.getElem?_append_right (by omega),ay,show j*2+1 - j*2=1 by omega];rfl
 ·obtain⟨aH,aq,aC,aD,aR,aE,aG⟩:=aJ j (by omega)
  refine⟨aH,aq,?_,?_,W.row aR (by decide),ax aq _ aE aG,az aq _ aE aG⟩
  ·rw[List.getElem?_append_left (ag aC)];exact aC
  ·rw[List.getElem?_append_left (ag aD)];exact aD
theorem QF.row {w h a X Y Z:World} {s:SesD} {i g c:Nat} {G O R:Option Addr} {N W aa:Nat} {ad:Nat→Nat} {H ab:List Value} {v':Value} (ah:Frm [w.heap.size+2] h a) (av:a.heap[w.heap.size+2]?=some (.cells #[.slice G (i+1) N,.slice O (i+1) W,.slice R i aa] 61 (0,0)))
  (aw:a.ownsRow h.heap.size 3 1 (.slice G (i+1) N) (i+1) (List.replicate (i+1) (iv 0))) (ax:a.ownsRow h.heap.size 159 2 (.slice O (i+1) W) (i+1) H)
  (ay:∀ j,j<i+1→∃ I E,H[j*2]?=some I∧H[j*2+1]?=some E∧DfV a I (s.rol j).ctrs∧IvR a E ((bg s).bank j)∧∀ q,E.ownBlock=some q→(Value.slice G (i+1) N).ownBlock≠some q)
  (U:a.ownsRow h.heap.size 162 1 (.slice R i aa) i ab) (aG:∀ j,j<i→∃ c,ab[j]?=some (.slice (some ⟨ad j,0,none⟩) s.roles.length c)) (ag:RW h.heap.size s (bg s) i ad a)
  (K:Frm [] a X) (aC:a.heap.size≤g) (ar:Ty X g 164) (aE:Arr 3 (RcAt s.cls s.cap X) X (.slice (some ⟨g,0,none⟩) s.roles.length c) (jo s (bg s) i)) (ak:X.grownBy Y (Value.slice R i aa).ownBlock)
  (aq:Y.ownsRow h.heap.size 162 1 v' (i+1) (ab++[.slice (some ⟨g,0,none⟩) s.roles.length c])) (e:Y.setCell ⟨w.heap.size+2,2,none⟩ v'=Z):QF w h s (i+1) (i+1) Z:=by
 obtain⟨a',ae,rfl⟩:=an aq
 have aA:=K.at av (by simp)
 have al:Kt [162] X Y:=Kt.own (K.owns U (by simp)) ak
 have ai:=al.cells aA (by decide)
 have b1:=ap ai 2 (.slice a' (i+1) ae)
 have am:Kt [61] Y Z:=by rw[← e];exact(Kt.refl _ Y).set ai (by simp) _
 have J:Kt [61,162] X Z:=(al.mono (by simp)).trans (am.mono (by simp))
 have A:Kt [61,162] a Z:=(Kt.frm K).trans J
 have az:Frm [w.heap.size+2] Y Z:=by rw[← e];exact bG _ _ _ _
 rw[e] at b1
 refine⟨((ah.then K (by simp)).grown ak (fun k aD=>.inr (aF U aD))).trans az,G,N,O,W,a',ae,_,H,b1,A.row aw (by decide),A.row ax (by decide),fun j S=>?_,(WyR.add U aG aq).kt am (by decide),(ag.kt A (by decide) (by decide)).add (n:=s.roles.length) (c:=c) (J.ty ar (by decide)) (Nat.le_trans ah.size aC) (fun j S e=>by have:=(ag.ti j S).1.lt;omega) ?_⟩
 ·obtain⟨I,E,aK,aL,aM,aN,aO⟩:=ay j S
  exact⟨I,E,aK,aL,A.row aM (by decide),A.row aN (by decide),aO⟩
 ·obtain⟨ao,aT,au,aH⟩:=aE
  injection au with e2 e3 e4
  refine⟨_,_,congrArg (fun n=>Value.slice _ n _) e3,fun k y aI=>?_⟩
  obtain⟨b,o,af,aB⟩:=aH k y aI
  rw[← e2] at af
  cases af
  obtain⟨cur,aj⟩:=ar
  obtain⟨aJ,aP,aQ,aR,aS⟩:=aB.eq ((J.cells aj (by decide)).trans aj.symm)
  exact⟨g,0,rfl,aJ,aP,aQ,aR,J.strs aS (by decide)⟩
theorem QF.end {w G h Z:World} {s:SesD} {n:Nat} (aD:s.roles.length=n) (ab:QF w G s n n h) (af:Frm [] w G) (aQ:w.heap.size+2<G.heap.size) (aG:0<n) (aF:PSok s (bg s)) {C:Array Value} (aR:h.heap[w.heap.size+1]?=some (.cells C 61 (0,0))) (aB:Frm [w.heap.size+1] h Z) (a:Kt [61] h Z) {N O R:Option Addr} {ag ah ai:Nat}
  (aA:h.heap[w.heap.size+2]?=some (.cells #[.slice N n ag,.slice O n ah,.slice R n ai] 61 (0,0))):RSt w.heap.size Z s (.agg #[.slice N n ag,.slice O n ah,.slice R n ai]) (bg s)∧Frm [] w Z:=by
 subst aD
 have aH:Frm [] w Z:=(af.then ab.fr (by intro k a;simp at a;subst a;exact .inr (by omega))).then aB (by intro k a;simp at a;subst a;exact .inr (by omega))
 refine⟨?_,aH⟩
 obtain⟨aI,aS,aJ,aT,aK,aU,aL,aM,b1,U,W,H,aa,ar⟩:=ab.bx
 rw[aA] at b1
 injection b1 with b1
 injection b1 with b1
 have e:=congrArg Array.toList b1
 injection e with e1 e
 injection e with e2 e
 injection e with e3 e
 rw[← e1] at U H
 rw[← e2] at W
 rw[← e3] at aa
 have K:=a.row U (by decide);have E:=a.row W (by decide)
 obtain⟨au,aN,aO,ap,av,aw⟩:=aZ K (by omega)
 obtain⟨ax,cb,aP,aq,ay,az⟩:=aZ E (by omega)
 cases ap
 cases aq
 refine(RSt.mk' (B:=G.heap.size) aG aF ?_ (fun k a=>?_) ⟨_,_,rfl⟩ ?_ (fun k a=>?_) ⟨_,_,rfl⟩ (aa.kt a (by decide)) (ar.kt a (by decide) (by decide)) ?_).low af.size
 ·refine⟨_,_,by rw[jp],fun i y I=>⟨au,0,rfl,?_⟩⟩
  obtain⟨A,rfl⟩:=dh I
  unfold IAt
  rw[Nat.zero_add,Nat.mul_one,pY]
  exact eW K (by rw[List.getElem?_replicate,if_pos A];rfl)
 ·simp[Value.ownBlock] at a;subst a;exact⟨av,_,aw⟩
 ·refine⟨_,_,by rw[jq],fun i y I=>⟨ax,0,rfl,?_⟩⟩
  obtain⟨A,rfl⟩:=dh I
  obtain⟨S,an,aj,J,ak,al,am⟩:=H i A
  rw[Nat.zero_add]
  exact⟨S,an,eW E aj,eW E J,a.row ak (by decide),a.row al (by decide)⟩
 ·simp[Value.ownBlock] at a;subst a;exact⟨ay,_,az⟩
 ·intro i b o an A hb aE ae k aC ad
  simp[Value.ownBlock] at hb ad
  subst hb aE ad
  obtain⟨S,aV,aj,J,ak,al,am⟩:=H i A
  rw[eW E J] at ae
  cases ae
  exact am _ aC rfl
end Go.Proofs.YtohfkhjlnlahdaaGreat
namespace Go.Proofs.YtohfkhjlnlahdaaGreat
open Go.RowKit Go.BigFrame
set_option maxHeartbeats 0 in
set_option maxRecDepth 100000 in
theorem jP (s:SesD) (ca cc:Value) (x:PS) (B i p:Nat) (m:ByteArray) (w:World) (cu:SesV w ca s) (ax:RSt B w s cc x) (bm:SesOk s) (U:i<s.roles.length) (bn:p<s.roles.length) :
  Calls Tryz.prog 83 #[ca,cc,.int .i64 (i:Int),.int .i64 (p:Int),.string m] w (Ret (.bool (jd s x i p m)) (Frm [] w)):=by
 have cg:=vi bm;have ch:=vi ax.ok;have ce:=vi U;have cA:=vi bn
 obtain⟨cR,rfl,av⟩:=cu
 obtain⟨ao,cap,rfl⟩:=av.shape
 obtain⟨aj,ar,bT,cD,aL,cb,bW,rfl,bp,-⟩:=ax.out
 obtain⟨n,b0⟩:∃ n,s.roles.length=n:=⟨_,rfl⟩
 have cI:(i:Int)<(n:Int):=by omega
 have cN:(p:Int)<(n:Int):=by omega
 have cJ:i<n:=by omega
 have cO:p<n:=by omega
 have cB:=vi av
 obtain⟨rb,am,cp,cS,cE,cW,aM,aN,a9,aO,ak⟩:=av.get (SesD.rol_some U)
 subst cp
 obtain⟨cP,cQ,cq,cT,cF,cX,bc,-⟩:=av.get (SesD.rol_some bn)
 cases cq
 obtain⟨cC,a8,rfl⟩:=ak.sts.shape
 obtain⟨bQ,bU,rfl⟩:=ak.ctrs.shape
 obtain⟨bR,bV,rfl⟩:=ak.steps.shape
 have b5:(s.rol i).sts[x.at i]?=some ((s.rol i).sts.getD (x.at i) dS):=bf (ax.ok.pb i U)
 have b4:=ax.ok.pb i U
 obtain⟨b1,az,rfl,aP,-⟩:=ak.sts.get b5
 rw[show ((s.rol i).sts.getD (x.at i) dS).name=fc s x i from rfl] at aP
 obtain⟨cG,cY,b7,b8,bE,bF⟩:=bp.b i U
 have bd:=bp.a i U
 have cd:=vi (qJ bE)
 obtain⟨ba,bb,rfl⟩:=an bE
 have cl:=vi (iS bF.1 rfl)
 obtain⟨bG,bH,rfl⟩:=an bF.1
 obtain⟨S,au⟩:∃ S,(w.alloc (.cells #[.string s.name,.slice (some ⟨rb,am,none⟩) s.roles.length cap,.int .i64 s.cls,.int .i64 s.cap] 25)).alloc (.cells #[.slice (some ⟨aj,0,none⟩) s.roles.length aL,.slice (some ⟨ar,0,none⟩) s.roles.length cb,.slice (some ⟨bT,0,none⟩) s.roles.length bW] 61)=S:=⟨_,rfl⟩
 have aa:Frm [] w S:=by rw[← au];exact((Frm.refl _ _).alloc _).alloc _
 have aT:S.heap[w.heap.size]?=some (.cells #[.string s.name,.slice (some ⟨rb,am,none⟩) s.roles.length cap,.int .i64 s.cls,.int .i64 s.cap] 25 (0,0)):=by rw[← au];exact ah (heap_alloc_new _ _)
 have bi:S.heap[w.heap.size+1]?=some (.cells #[.slice (some ⟨aj,0,none⟩) s.roles.length aL,.slice (some ⟨ar,0,none⟩) s.roles.length cb,.slice (some ⟨bT,0,none⟩) s.roles.length bW] 61 (0,0)):=by rw[← au];exact aq (by simp)
 obtain⟨T,aQ⟩:∃ T,(s.rol i).steps.length=T:=⟨_,rfl⟩
 obtain⟨ag,bh⟩:∃ ag,(s.rol i).sts.length=ag:=⟨_,rfl⟩
 obtain⟨ad,bo⟩:∃ z,(s.rol p).name=z:=⟨_,rfl⟩
 obtain⟨ab,bl⟩:∃ z,fc s x i=z:=⟨_,rfl⟩
 obtain⟨aF,bq⟩:∃ z,x.at i=z:=⟨_,rfl⟩
 have bX:T≤80:=by rw[← aQ];exact(bm.at U).t80
 have a0:=vi au;have a5:=vi aQ;have bO:=vi bo;have bM:=vi bl;have cj:=vi bX
 have ci:=vi ak.steps
 rw[b0] at aT bi a0 ⊢
 rw[aQ] at aO
 rw[bh] at aN
 rw[bo] at bc
 rw[bl,bq] at aP
 rw[bq] at bd b4
 rw[bh] at b4
 have cM:(aF:Int)<(ag:Int):=by omega
 have I:=vi aa
 have bL:Hid (∀ a,Frm [] S a→(a.cell? ⟨w.heap.size,1,none⟩=some (.slice (some ⟨rb,am,none⟩) n cap)∧a.cell? ⟨w.heap.size+1,0,none⟩=some (.slice (some ⟨aj,0,none⟩) n aL)∧a.cell? ⟨w.heap.size+1,1,none⟩=some (.slice (some ⟨ar,0,none⟩) n cb)) ∧
   a.cell? ⟨rb,am+p*4,none⟩=some (.string ad)∧a.cell? ⟨b1,az+aF*3,none⟩=some (.string ab)∧a.cell? ⟨aj,i,none⟩=some (.int .i64 (aF:Int)) ∧
   a.cell? ⟨ar,i*2,none⟩=some (.slice ba (s.rol i).ctrs.length bb)∧a.cell? ⟨ar,i*2+1,none⟩=some (.slice bG (x.bank i).length bH)):=vi fun a K=>by
  have br:=K.at aT (by simp)
  have b6:=K.at bi (by simp)
  have J:=aa.trans K
  exact⟨⟨ae br 1,ae b6 0,ae b6 1⟩,J.keep bc,J.keep aP,J.keep bd,J.keep b7,J.keep b8⟩
 replace aM:=aa.keep aM;replace aN:=aa.keep aN;replace a9:=aa.keep a9;replace aO:=aa.keep aO
 have R:=ae aT 1
 have ct:=aI aM
 clear av ax bm bp au aa aT bi b0 U bn b5 ak bc aP b7 b8 bE bF bd aQ bh bo bl bq bX
 go_enter Tryz.func83,Tryz.ntmps83
 go_upto_region 1 with fail
 rw[a0.out]
 clear a0
 go_upto_region 2 with fail
 clear aM aN a9 aO R ct
 obtain⟨ai,aR⟩:∃ a,S.alloc (.cells #[.string (s.rol i).name,.slice (some ⟨b1,az,none⟩) ag a8,.slice bQ (s.rol i).ctrs.length bU,.slice bR T bV] 87)=a:=⟨_,rfl⟩
 obtain⟨b9,be⟩:∃ b,S.heap.size=b:=⟨_,rfl⟩
 have E:Hid (Frm [] S ai):=vi (by rw[← aR];exact(Frm.refl _ _).alloc _)
 have bP:Hid (ai.heap[b9]?=some (.cells #[.string (s.rol i).name,.slice (some ⟨b1,az,none⟩) ag a8,.slice bQ (s.rol i).ctrs.length bU,.slice bR T bV] 87 (0,0))):=vi (by rw[← aR,← be];exact heap_alloc_new _ _)
 rw[aR,be]
 clear aR be
 go_upto_region 3 with fail
 go_loopw [12] (fun s12 wr=>∃ k:Nat,s12=.int .i64 k∧k≤T∧Frm [] ai wr∧((s.rol i).steps.take k).any (dw s x i p m)=false) (fun s12 _=>T - (intOf s12).toNat)
 case atStart=>exact⟨0,rfl,Nat.zero_le _,Frm.refl _ _,rfl⟩
 case round =>
  obtain⟨k,rfl,cK,bZ,b3⟩:=hrel
  have H:=vi bZ;have bN:=vi b3
  clear bZ b3
  obtain⟨aY,cv⟩:∃ aY,aY=wr:=⟨_,rfl⟩
  subst cv
  have cw:=ae (H.out.at bP.out (by simp)) 3
  by_cases hlt:k<T
  ·have cL:(k:Int)<(T:Int):=by omega
   have O:wrap64 ((k:Int)+1)=((k+1:Nat):Int):=by have:=cj.out;unfold wrap64;omega
   obtain⟨t,aw⟩:∃ t,(s.rol i).steps[k]?=some t:=⟨_,List.getElem?_eq_getElem (by rw[a5.out];exact hlt)⟩
   have cf:=vi (List.mem_of_getElem? aw)
   have bK:=vi (o8 cg.out ch.out ce.out (show k<(s.rol i).steps.length by rw[a5.out];exact hlt))
   rw[show (s.rol i).stp k=t from aW aw] at bK
   have ck:Hid (((s.rol i).steps.take (k+1)).any (dw s x i p m)=dw s x i p m t):=vi (by rw[(bu aw).1,List.any_append,bN.out];simp)
   obtain⟨cU,cV,cr,aX,bt,bv,bw,bx,bz,bA,bB,bC⟩:=ci.out.get aw
   subst cr
   replace aX:=(I.out.trans (E.out.trans H.out)).keep aX;replace bt:=(I.out.trans (E.out.trans H.out)).keep bt;replace bv:=(I.out.trans (E.out.trans H.out)).keep bv
   replace bw:=(I.out.trans (E.out.trans H.out)).keep bw;replace bx:=(I.out.trans (E.out.trans H.out)).keep bx;replace bz:=(I.out.trans (E.out.trans H.out)).keep bz
   replace bA:=(I.out.trans (E.out.trans H.out)).keep bA;replace bB:=(I.out.trans (E.out.trans H.out)).keep bB;replace bC:=(I.out.trans (E.out.trans H.out)).keep bC
   have cs:=aI aX
   clear aw
   go_upto_region 6 with fail
   clear aX bt bv bw bx bz bA bB bC cs cw
   obtain⟨a7,aS⟩:∃ a,aY.alloc (.cells #[.string t.frm,.string t.to,.int .i64 t.kind,.string t.msg,.string t.peer,.string t.ctr,.int .i64 t.low,.int .i64 t.high,.int .i64 t.add] 137)=a:=⟨_,rfl⟩
   obtain⟨al,bg⟩:∃ b,aY.heap.size=b:=⟨_,rfl⟩
   have a6:Hid (a7.heap[al]?=some (.cells #[.string t.frm,.string t.to,.int .i64 t.kind,.string t.msg,.string t.peer,.string t.ctr,.int .i64 t.low,.int .i64 t.high,.int .i64 t.add] 137 (0,0))):=vi (by rw[← aS,← bg];exact heap_alloc_new _ _)
   have aJ:Hid (Frm [] ai a7):=vi (H.out.trans (by rw[← aS];exact(Frm.refl _ _).alloc _))
   rw[aS,bg]
   clear aS bg
   have aZ:Hid (∀ a,Frm [] a7 a→Calls Tryz.prog 149 #[.agg #[.slice ba (s.rol i).ctrs.length bb,.slice bG (x.bank i).length bH],dN t] a (Ret (.tuple #[.bool (bY (s.rol i).ctrs (x.bank i) t),.int .i64 0]) (Frm [] a))):=vi fun a K=>by
    have J:=I.out.trans (E.out.trans (aJ.out.trans K))
    exact gJ _ _ _ t a ⟨_,_,rfl,cd.out.frm fun _ _ _ g=>g.frm J,cl.out.frm fun _ _ _ g=>J.keep g⟩ bK.out
   obtain⟨bS,bj⟩:∃ b,bY (s.rol i).ctrs (x.bank i) t=b:=⟨_,rfl⟩
   have bJ:=vi bj
   rw[bj] at aZ
   clear bj
   refine ay (by kernel_rfl) (by kernel_rfl) ?_
   repeat (first
    | go_big_quiet_skip
    | (refine wpQuiet_want (by rfl) (fun G h=>?_)
       first
        | (refine quiet_move _ (by rfl) (h _ ?_))
        | (refine quiet_assign _ (by rfl) (h _ ?_))
        | (refine aV (.tuple #[.bool bS,.int .i64 0]) 149 #[.agg #[.slice ba (s.rol i).ctrs.length bb,.slice bG (x.bank i).length bH],dN t] (fun w' A=>?_) (fun w' A=>Ret.cq (aZ.out w' A) (fun cZ J=>A.trans J)) (h _ ?_)
           ·go_simp)
        | (refine dO 137 _ rfl al rfl #[.string t.frm,.string t.to,.int .i64 t.kind,.string t.msg,.string t.peer,.string t.ctr,.int .i64 t.low,.int .i64 t.high,.int .i64 t.add] 137 a6.out _ Tryz.underlying137 rfl (by kernel_rfl) (h _ ?_))
        | (apply Exists.intro
           refine⟨fun w' A=>?_,h _ ?_⟩
           ·(unfold Oper.quietAt
             obtain⟨⟨V,R,cx⟩,W,X,Y,cy,cz⟩:=bL.out w' (E.out.trans (aJ.out.trans A))
             clear A
             go_simp
             try exact⟨rfl,rfl⟩
             try rfl))
       clear h G
       try simp only[nrm,Act.eval,nrq]))
   refine wpQuiet_nil ?_
   intro bI bk
   clear aZ
   have aH:Hid (Frm [] ai bI):=vi (aJ.out.trans bk)
   have af:Hid (∀ a,Frm [] bI a→((a.cell? ⟨w.heap.size,1,none⟩=some (.slice (some ⟨rb,am,none⟩) n cap)∧a.cell? ⟨w.heap.size+1,0,none⟩=some (.slice (some ⟨aj,0,none⟩) n aL)) ∧
     a.cell? ⟨rb,am+p*4,none⟩=some (.string ad)∧a.cell? ⟨b1,az+aF*3,none⟩=some (.string ab)∧a.cell? ⟨aj,i,none⟩=some (.int .i64 (aF:Int)))∧(a.cell? ⟨b9,1,none⟩=some (.slice (some ⟨b1,az,none⟩) ag a8)) ∧
     a.cell? ⟨al,0,none⟩=some (.string t.frm)∧a.cell? ⟨al,2,none⟩=some (.int .i64 t.kind)∧a.cell? ⟨al,3,none⟩=some (.string t.msg)∧a.cell? ⟨al,4,none⟩=some (.string t.peer)):=vi fun a K=>by
    obtain⟨⟨V,R,cx⟩,W,X,Y,cy,cz⟩:=bL.out a (E.out.trans (aH.out.trans K))
    have aU:=(bk.trans K).at a6.out (by simp)
    have br:=(aH.out.trans K).at bP.out (by simp)
    exact⟨⟨⟨V,R⟩,W,X,Y⟩,ae br 1,ae aU 0,ae aU 2,ae aU 3,ae aU 4⟩
   clear bk a6 aJ
   have ap:Hid (dw s x i p m t=false→∀ a,Frm [] bI a→(∃ bs:Nat,Value.int .i64 ((k+1:Nat):Int)=.int .i64 bs∧bs≤T∧Frm [] ai a∧((s.rol i).steps.take bs).any (dw s x i p m)=false)):=vi fun J a K=>⟨k+1,rfl,hlt,aH.out.trans K,by rw[ck.out];exact J⟩
   go_upto_region 7 with fail
   by_cases hkd:t.kind=2
   ·have b2:(t.kind == 2)=true:=by simpa using hkd
    have a2:Hid (decide (t.kind=2)=true):=vi (decide_eq_true hkd)
    clear hkd
    by_cases hm:t.msg=m
    ·have cm:(t.msg.toList == m.toList)=true:=by rw[aK,decide_eq_true hm]
     have a3:Hid (decide (t.msg=m)=true):=vi (decide_eq_true hm)
     clear hm
     by_cases hpe:t.peer=ad
     ·have cn:(t.peer.toList == ad.toList)=true:=by rw[aK,decide_eq_true hpe]
      have a4:Hid (decide (t.peer=ad)=true):=vi (decide_eq_true hpe)
      clear hpe
      by_cases hfr:t.frm=ab
      ·have co:(t.frm.toList == ab.toList)=true:=by rw[aK,decide_eq_true hfr]
       have a1:Hid (decide (t.frm=ab)=true):=vi (decide_eq_true hfr)
       clear hfr
       cases bS with
       | true =>
         refine ay (by kernel_rfl) (by kernel_rfl) ?_
         repeat (first
          | go_big_quiet_skip
          | (refine wpQuiet_want (by rfl) (fun G h=>?_)
             first
              | (refine quiet_move _ (by rfl) (h _ ?_))
              | (refine quiet_assign _ (by rfl) (h _ ?_))
              | (apply Exists.intro
                 refine⟨fun w' A=>?_,h _ ?_⟩
                 ·(unfold Oper.quietAt
                   obtain⟨⟨⟨V,R⟩,W,X,Y⟩,aG,aA,aB,aC,aD⟩:=af.out w' A
                   clear A
                   go_simp
                   try exact⟨rfl,rfl⟩
                   try rfl))
             clear h G
             try simp only[nrm,Act.eval,nrq]))
         refine wpQuiet_nil ?_
         intro aE N
         go_wp2
         go_ret
         refine⟨?_,I.out.trans (E.out.trans (aH.out.trans N))⟩
         have:jd s x i p m=true:=List.any_eq_true.2 ⟨t,cf.out,by unfold dw;rw[bO.out,bM.out,a2.out,a3.out,a4.out,a1.out,bJ.out];rfl⟩
         rw[this]
         rfl
       | false =>
         refine ay (by kernel_rfl) (by kernel_rfl) ?_
         repeat (first
          | go_big_quiet_skip
          | (refine wpQuiet_want (by rfl) (fun G h=>?_)
             first
              | (refine quiet_move _ (by rfl) (h _ ?_))
              | (refine quiet_assign _ (by rfl) (h _ ?_))
              | (apply Exists.intro
                 refine⟨fun w' A=>?_,h _ ?_⟩
                 ·(unfold Oper.quietAt
                   obtain⟨⟨⟨V,R⟩,W,X,Y⟩,aG,aA,aB,aC,aD⟩:=af.out w' A
                   clear A
                   go_simp
                   try exact⟨rfl,rfl⟩
                   try rfl))
             clear h G
             try simp only[nrm,Act.eval,nrq]))
         refine wpQuiet_nil ?_
         intro aE N
         go_wp2
         exact⟨by rw[O];exact ap.out (by unfold dw;rw[bJ.out];simp) _ N,bD hlt O⟩
      ·have co:(t.frm.toList == ab.toList)=false:=by rw[aK,decide_eq_false hfr]
       have a1:Hid (decide (t.frm=ab)=false):=vi (decide_eq_false hfr)
       clear hfr
       refine ay (by kernel_rfl) (by kernel_rfl) ?_
       repeat (first
        | go_big_quiet_skip
        | (refine wpQuiet_want (by rfl) (fun G h=>?_)
           first
            | (refine quiet_move _ (by rfl) (h _ ?_))
            | (refine quiet_assign _ (by rfl) (h _ ?_))
            | (apply Exists.intro
               refine⟨fun w' A=>?_,h _ ?_⟩
               ·(unfold Oper.quietAt
                 obtain⟨⟨⟨V,R⟩,W,X,Y⟩,aG,aA,aB,aC,aD⟩:=af.out w' A
                 clear A
                 go_simp
                 try exact⟨rfl,rfl⟩
                 try rfl))
           clear h G
           try simp only[nrm,Act.eval,nrq]))
       refine wpQuiet_nil ?_
       intro aE N
       go_wp2
       exact⟨by rw[O];exact ap.out (by unfold dw;rw[bM.out,a1.out];simp) _ N,bD hlt O⟩
     ·have cn:(t.peer.toList == ad.toList)=false:=by rw[aK,decide_eq_false hpe]
      have a4:Hid (decide (t.peer=ad)=false):=vi (decide_eq_false hpe)
      clear hpe
      refine ay (by kernel_rfl) (by kernel_rfl) ?_
      repeat (first
       | go_big_quiet_skip
       | (refine wpQuiet_want (by rfl) (fun G h=>?_)
          first
           | (refine quiet_move _ (by rfl) (h _ ?_))
           | (refine quiet_assign _ (by rfl) (h _ ?_))
           | (apply Exists.intro
              refine⟨fun w' A=>?_,h _ ?_⟩
              ·(unfold Oper.quietAt
                obtain⟨⟨⟨V,R⟩,W,X,Y⟩,aG,aA,aB,aC,aD⟩:=af.out w' A
                clear A
                go_simp
                try exact⟨rfl,rfl⟩
                try rfl))
          clear h G
          try simp only[nrm,Act.eval,nrq]))
      refine wpQuiet_nil ?_
      intro aE N
      go_wp2
      exact⟨by rw[O];exact ap.out (by unfold dw;rw[bO.out,a4.out];simp) _ N,bD hlt O⟩
    ·have cm:(t.msg.toList == m.toList)=false:=by rw[aK,decide_eq_false hm]
     have a3:Hid (decide (t.msg=m)=false):=vi (decide_eq_false hm)
     clear hm
     refine ay (by kernel_rfl) (by kernel_rfl) ?_
     repeat (first
      | go_big_quiet_skip
      | (refine wpQuiet_want (by rfl) (fun G h=>?_)
         first
          | (refine quiet_move _ (by rfl) (h _ ?_))
          | (refine quiet_assign _ (by rfl) (h _ ?_))
          | (apply Exists.intro
             refine⟨fun w' A=>?_,h _ ?_⟩
             ·(unfold Oper.quietAt
               obtain⟨⟨⟨V,R⟩,W,X,Y⟩,aG,aA,aB,aC,aD⟩:=af.out w' A
               clear A
               go_simp
               try exact⟨rfl,rfl⟩
               try rfl))
         clear h G
         try simp only[nrm,Act.eval,nrq]))
     refine wpQuiet_nil ?_
     intro aE N
     go_wp2
     exact⟨by rw[O];exact ap.out (by unfold dw;rw[a3.out];simp) _ N,bD hlt O⟩
   ·have b2:(t.kind == 2)=false:=by simpa using hkd
    have a2:Hid (decide (t.kind=2)=false):=vi (decide_eq_false hkd)
    clear hkd
    refine ay (by kernel_rfl) (by kernel_rfl) ?_
    repeat (first
     | go_big_quiet_skip
     | (refine wpQuiet_want (by rfl) (fun G h=>?_)
        first
         | (refine quiet_move _ (by rfl) (h _ ?_))
         | (refine quiet_assign _ (by rfl) (h _ ?_))
         | (apply Exists.intro
            refine⟨fun w' A=>?_,h _ ?_⟩
            ·(unfold Oper.quietAt
              obtain⟨⟨⟨V,R⟩,W,X,Y⟩,aG,aA,aB,aC,aD⟩:=af.out w' A
              clear A
              go_simp
              try exact⟨rfl,rfl⟩
              try rfl))
        clear h G
        try simp only[nrm,Act.eval,nrq]))
    refine wpQuiet_nil ?_
    intro aE N
    go_wp2
    exact⟨by rw[O];exact ap.out (by unfold dw;rw[a2.out];simp) _ N,bD hlt O⟩
  ·obtain rfl:T=k:=by omega
   have cH:¬ (T:Int)<(T:Int):=by omega
   go_wp2
   go_ret
   refine⟨?_,I.out.trans (E.out.trans H.out)⟩
   have:=bN.out
   rw[List.take_of_length_le (by rw[a5.out];exact Nat.le_refl _)] at this
   rw[show jd s x i p m=(s.rol i).steps.any (dw s x i p m) from rfl,this]
   rfl
end Go.Proofs.YtohfkhjlnlahdaaGreat
namespace Go.Proofs.YtohfkhjlnlahdaaGreat
open Go.RowKit Go.BigFrame
theorem Tryz.infoRSu:(Tryz.prog.info? 90).map (fun i=>(i.zero,i.size,i.bytes))=some (some (.agg #[.int .i64 0,.int .i64 0,.string { data:=#[] }]),3,32):=by kernel_rfl
theorem sQ {A:World} {base:Nat} {v:Value} {L:List Sp} (a:A.ownsRow base 90 3 v L.length (suC L)):Arr 3 SuAt A v L:=by
 obtain⟨ao,cap,rfl⟩:=an a
 refine⟨ao,cap,rfl,fun i m E=>?_⟩
 have K:=ag E
 obtain⟨g,c,cur,e,-,-⟩:=aZ a (by omega)
 cases e
 have h:=fun j J=>World.ownsRow.cellAt a j J
 obtain⟨G,H,I⟩:=qX E
 exact⟨g,0,rfl,by rw[Nat.zero_add,h _ (by omega)];exact G,by rw[Nat.zero_add,h _ (by omega)];exact H,by rw[Nat.zero_add,h _ (by omega)];exact I⟩
structure ZnI (w0:World) (L:List Sp) (v:Value) (W:World):Prop where
 fr:Frm [] w0 W
 row:W.ownsRow w0.heap.size 90 3 v L.length (suC L)
theorem ZnI.frm {w0 a h:World} {L:List Sp} {v:Value} (A:ZnI w0 L v a) (E:Frm [] a h):ZnI w0 L v h:=⟨A.fr.trans E,E.owns A.row (by simp)⟩
end Go.Proofs.YtohfkhjlnlahdaaGreat
namespace Go.Proofs.YtohfkhjlnlahdaaGreat
open Go.RowKit Go.BigFrame
theorem iL {P:Program} {Q:Exit→Act→World→Prop} {next:Act→World→Prop} {A:Act} {w:World} {o:Oper} (s x:Operand) (t:TypeId)
  (X:o.op=.call { callee:=.builtin .append,args:=#[s,x],argTypes:=#[t,t] })
  (base:Nat) (e:TypeId) (i:TypeInfo) (z:Value) (a bytes:Nat) (af:P.underlying t=some (.slice e)) (U:P.info? e=some i) (ah:i.zero=some z)
  (ad:i.size=a) (R:i.bytes=bytes) (ai:z.cells.size=a) (ae:0<a)
  (v:Value) (n:Nat) (G:List Value) (ab:A.eval s=v) (Y:w.ownsRow base e a v n G)
  (E:Addr) (m c:Nat) (h:List Value) (ag:A.eval x=.slice (some E) m c) (V:h.length=m*a) (W:∀ j u,h[j]?=some u→w.cell? (E.add j)=some u) (I:∀ u∈h,u.oneCell'=true)
  (N:n+m≤maxLen) (S:(n+m)*bytes≤140737488355328) (O:base≤w.heap.size)
  (H:∀ v' w',w'.ownsRow base e a v' (n+m) (G++h)→w.grownBy w' v.ownBlock→next (A.put o.dst v') w') :
  Oper.wp P o A w next Q:=by
 obtain⟨v',w',aa,J,K,aj,ak⟩:=run_append_own_at (P:=P) w base t o.type e i z a bytes af U ah ad R ai ae v n G Y E m c h V W I N S O
 unfold Oper.wp execOp
 simp only[X,resolve,invoke,builtin,Sem.run_bind,Sem.run_pure,Result.andThen_ok,List.map_toArray,List.map_cons,List.map_nil,ab,ag,aa]
 exact H v' w' J K
set_option maxHeartbeats 0 in
set_option maxRecDepth 100000 in
theorem sP (s:SesD) (b9 cd:Value) (x:PS) (B:Nat) (w:World) (b8:SesV w b9 s) (aR:RSt B w s cd x) (bo:SesOk s) :
  Calls Tryz.prog 27 #[b9,cd] w (aU fun u w'=>w'.ownsRow w.heap.size 90 3 u (ofP s x).length (suC (ofP s x))∧Frm [] w w'):=by
 have bM:=vi b8;have bN:=vi aR;have aJ:=vi bo;have a3:=vi aR.ok
 obtain⟨dg,rfl,b6⟩:=b8
 obtain⟨ao,cap,rfl⟩:=b6.shape
 obtain⟨ar,au,av,c1,aw,cb,ax,rfl,b7,-⟩:=aR.out
 obtain⟨n,aB⟩:∃ n,s.roles.length=n:=⟨_,rfl⟩
 have cD:n≤4:=aB ▸ bo.n4
 obtain⟨E,aA⟩:∃ E,(w.alloc (.cells #[.string s.name,.slice ao s.roles.length cap,.int .i64 s.cls,.int .i64 s.cap] 25)).alloc (.cells #[.slice (some ⟨ar,0,none⟩) s.roles.length aw,.slice (some ⟨au,0,none⟩) s.roles.length cb,.slice (some ⟨av,0,none⟩) s.roles.length ax] 61)=E:=⟨_,rfl⟩
 have be:Frm [] w E:=by rw[← aA];exact((Frm.refl _ _).alloc _).alloc _
 have bb:E.heap[w.heap.size]?=some (.cells #[.string s.name,.slice ao s.roles.length cap,.int .i64 s.cls,.int .i64 s.cap] 25 (0,0)):=by rw[← aA];exact ah (heap_alloc_new _ _)
 have bc:E.heap[w.heap.size+1]?=some (.cells #[.slice (some ⟨ar,0,none⟩) s.roles.length aw,.slice (some ⟨au,0,none⟩) s.roles.length cb,.slice (some ⟨av,0,none⟩) s.roles.length ax] 61 (0,0)):=by rw[← aA];exact aq (by simp)
 have X:=vi aA
 have bL:=vi (b7.frm be)
 rw[aB] at bb bc X bM bN ⊢
 have aE:=vi be;have aH:=vi aB
 have aX:=vi (fun a (G:Frm [] E a)=>G.at bb (by simp));have bE:=vi (fun a (G:Frm [] E a)=>G.at bc (by simp))
 have aL:Hid (∀ i:Nat,i<n→wrap64 ((i:Int)+1)=((i+1:Nat):Int)):=vi fun i cG=>by unfold wrap64;omega
 have cs:Hid (ofP s x=cat (fun i=>cat (fun p=>cR s x i p) n) n):=vi (by rw[← aB];rfl)
 clear b6 aR bo b7 aA be bb bc aB cD
 go_enter Tryz.func27,Tryz.ntmps27
 go_upto_region 1 with fail
 rw[X.out]
 clear X
 go_upto_region 3 with fail
 go_loopw [6,5] (fun s6 s5 wr=>∃ i:Nat,s6=.int .i64 i∧i≤n∧ZnI E (cat (fun i=>cat (fun p=>cR s x i p) n) i) s5 wr) (fun s6 _ _=>n - (intOf s6).toNat)
 case atStart=>exact⟨0,rfl,Nat.zero_le _,Frm.refl _ _,World.ownsRow_nil _ _ _ _⟩
 case round =>
  obtain⟨i,rfl,cG,R⟩:=hrel
  have aG:=vi R
  clear R
  obtain⟨bv,cO⟩:∃ bv,bv=wr:=⟨_,rfl⟩
  subst cO
  have bA:=ae (aX.out bv aG.out.fr) 1
  by_cases hlt:i<n
  ·have c8:(i:Int)<(n:Int):=by omega
   have aj:Hid (i<s.roles.length):=vi (by rw[aH.out];exact hlt)
   go_upto_region 6 with fail
   clear bA
   go_loopw [7,5] (fun s7 s5 wr=>∃ p:Nat,s7=.int .i64 p∧p≤n∧ZnI E (cat (fun i=>cat (fun p=>cR s x i p) n) i++cat (fun p=>cR s x i p) p) s5 wr) (fun s7 _ _=>n - (intOf s7).toNat)
   case atStart=>exact⟨0,rfl,Nat.zero_le _,by rw[show cat (fun p=>cR s x i p) 0=[] from rfl,List.append_nil];exact aG.out⟩
   case round =>
    obtain⟨p,rfl,db,R⟩:=hrel
    have J:=vi R
    clear R
    obtain⟨V,cP⟩:∃ V,V=wr:=⟨_,rfl⟩
    subst cP
    have bA:=ae (aX.out V J.out.fr) 1
    by_cases hltp:p<n
    ·have da:(p:Int)<(n:Int):=by omega
     have al:Hid (p<s.roles.length):=vi (by rw[aH.out];exact hltp)
     have cY:=ae (bE.out V J.out.fr) 2
     obtain⟨c6,aN⟩:=bL.out.w p al.out
     obtain⟨de,aS,bs,aT,bm⟩:=bL.out.r p i al.out aj.out
     obtain⟨br,aC,rfl,b0⟩:=bm.shape
     rw[aH.out] at aN
     have a1:=vi bm;have bG:=vi b0
     replace aN:=J.out.fr.keep aN;replace aS:=J.out.fr.keep aS;replace bs:=J.out.fr.keep bs;replace aT:=J.out.fr.keep aT
     have cK:=aI aS
     have a0:Hid ((x.way p i).length≤4):=vi (by have:=(a3.out.wb p i al.out aj.out).1;have:=aJ.out.k4;omega)
     have a4:Hid (cR s x i p=dP s x i p (cX s.cls (x.way p i) (x.way p i).length)):=vi rfl
     have X:Hid (cat (fun i=>cat (fun p=>cR s x i p) n) i++cat (fun p=>cR s x i p) (p+1)=(cat (fun i=>cat (fun p=>cR s x i p) n) i++cat (fun p=>cR s x i p) p)++cR s x i p):=vi (by rw[List.append_assoc];rfl)
     obtain⟨A,bZ⟩:∃ A,x.way p i=A:=⟨_,rfl⟩
     rw[bZ] at a0 a4 a1 bG aT
     have bK:Hid ((cat (fun i=>cat (fun p=>cR s x i p) n) i++cat (fun p=>cR s x i p) p).length≤80):=vi (by
      rw[List.length_append]
      have bQ:=kN aJ.out a3.out (show i≤s.roles.length by have:=aj.out;omega)
      have cv:=gy aJ.out a3.out aj.out (show p≤s.roles.length by have:=al.out;omega)
      rw[aH.out] at bQ
      exact Nat.le_trans (Nat.add_le_add bQ cv) (by decide))
     obtain⟨S,bX⟩:∃ S,cat (fun i=>cat (fun p=>cR s x i p) n) i++cat (fun p=>cR s x i p) p=S:=⟨_,rfl⟩
     rw[bX] at X J bK
     clear bZ bm b0 bX
     go_upto_region 9 with fail
     clear bA cY aN aS bs aT cK
     obtain⟨a7,aO⟩:∃ a,V.alloc (.cells #[.int .i64 s.cls,.int .i64 s.cap,.slice br A.length aC] 164)=a:=⟨_,rfl⟩
     obtain⟨bt,ba⟩:∃ b,V.heap.size=b:=⟨_,rfl⟩
     have bC:Hid (Frm [] V a7):=vi (by rw[← aO];exact(Frm.refl _ _).alloc _)
     have bO:Hid (a7.heap[bt]?=some (.cells #[.int .i64 s.cls,.int .i64 s.cap,.slice br A.length aC] 164 (0,0))):=vi (by rw[← aO,← ba];exact heap_alloc_new _ _)
     rw[aO,ba]
     clear aO ba
     have bB:=vi (fO s.cls s.cap (.slice br A.length aC) A a7 (a1.out.frm (J.out.fr.trans bC.out) (by simp)) (by have:=a0.out;omega))
     go_upto_region 10 with (first
      | (refine af rfl 164 _ rfl _ rfl _ 164 bO.out _ Tryz.underlying164 rfl Tryz.info164s ?_)
      | (go_at_call 82;go_must (refine bB.out.mono ?_;rintro e ca ⟨v,rfl,bk,bd,cJ⟩;obtain⟨cZ,c5,rfl⟩:=an bk;have ai:=vi bk;have cj:=vi (bC.out.trans bd);have bP:=vi (bd.at bO.out (by simp));clear bk bd cJ bB)))
     obtain⟨C,h⟩:∃ C,cX s.cls A A.length=C:=⟨_,rfl⟩
     have ci:Hid (chp s.cls A A.length=C.map (·.1)):=vi (by rw[← h];rfl)
     have ch:Hid (∀ (k q:Nat) (m:ByteArray),C[k]?=some (q,m)→A[q]?=some m):=vi fun k q m aa=>by
      have ab:=List.mem_of_getElem? aa
      rw[← h] at ab
      obtain⟨bT,bU⟩:=kS _ ab
      dsimp only at bT bU
      rw[bU]
      exact bf bT
     have aY:Hid (C.length≤4):=vi (by rw[← h];have:=dz s.cls A A.length;have:=a0.out;omega)
     rw[h] at a4
     rw[ci.out] at ai ⊢
     rw[List.length_map] at ai ⊢
     obtain⟨H,I⟩:∃ H,C.length=H:=⟨_,rfl⟩
     have aZ:=vi I
     rw[I] at ai aY ⊢
     clear h I
     have co:=vi (J.out.frm cj.out)
     go_upto_region 11 with fail
     go_loopw [10,5] (fun s10 s5 wr=>∃ k:Nat,s10=.int .i64 k∧k≤H∧Kt [90] ca wr∧ZnI E (S++dP s x i p (C.take k)) s5 wr) (fun s10 _ _=>H - (intOf s10).toNat)
     case atStart=>exact⟨0,rfl,Nat.zero_le _,Kt.refl _ _,by rw[List.take_zero,show dP s x i p []=[] from rfl,List.append_nil];exact co.out⟩
     case round =>
      obtain⟨k,rfl,bl,b4,R⟩:=hrel
      obtain⟨a8,a9,cL⟩:=an R.row
      subst cL
      have U:=vi R;have Y:=vi b4
      clear R b4
      obtain⟨wc,cQ⟩:∃ wc,wc=wr:=⟨_,rfl⟩
      subst cQ
      by_cases hltk:k<H
      ·have c9:(k:Int)<(H:Int):=by omega
       have aQ:wrap64 ((k:Int)+1)=((k+1:Nat):Int):=by have:=aY.out;unfold wrap64;omega
       obtain⟨⟨q,m⟩,aP⟩:∃ e,C[k]?=some e:=⟨_,List.getElem?_eq_getElem (by rw[aZ.out];exact hltk)⟩
       have bn:=ch.out k q m aP
       have dc:=ag bn
       have dd:(q:Int)<(A.length:Int):=by omega
       have a5:Hid (dP s x i p (C.take (k+1))=if jd s x i p m then dP s x i p (C.take k) else dP s x i p (C.take k)++[⟨i,p,m⟩]):=vi (by rw[(bu aP).1,ki])
       obtain⟨aM,cz,bS⟩:=bG.out q m bn
       subst cz
       obtain⟨bW,cy,bR⟩:=(show Ints wc _ _ from Y.out.row ai.out (by decide)).at (show (C.map (·.1))[k]?=some q by rw[List.getElem?_map,aP];rfl)
       subst cy
       have bF:Hid (∀ a,Frm [] wc a→a.cell? ⟨bW,k,none⟩=some (.int .i64 (q:Int))∧a.cell? ⟨aM,q,none⟩=some (.string m)∧a.cell? ⟨bt,2,none⟩=some (.slice (some ⟨aM,0,none⟩) A.length aC)):=vi fun a G =>
        ⟨G.keep bR,(U.out.fr.trans G).keep bS,ae (G.at (Y.out.cells bP.out (by decide)) (by simp)) 2⟩
       have aW:Hid (∀ a,Frm [] wc a→Calls Tryz.prog 83 #[.agg #[.string s.name,.slice ao n cap,.int .i64 s.cls,.int .i64 s.cap],.agg #[.slice (some ⟨ar,0,none⟩) n aw,.slice (some ⟨au,0,none⟩) n cb,.slice (some ⟨av,0,none⟩) n ax],.int .i64 (i:Int),.int .i64 (p:Int),.string m] a (Ret (.bool (jd s x i p m)) (Frm [] a))):=vi fun a G =>
        jP s _ _ x B i p m a (bM.out.frm (aE.out.trans (U.out.fr.trans G))) (bN.out.frm (aE.out.trans (U.out.fr.trans G))) aJ.out aj.out al.out
       obtain⟨bV,b3⟩:∃ b,jd s x i p m=b:=⟨_,rfl⟩
       rw[b3] at aW a5
       have ce:=vi (aX.out wc U.out.fr);have cf:=vi (bE.out wc U.out.fr)
       clear aP bn bS bR b3
       go_upto_region 13 with fail
       refine ay (by kernel_rfl) (by kernel_rfl) ?_
       repeat (first
        | go_big_quiet_skip
        | (refine wpQuiet_want (by rfl) (fun H I=>?_)
           first
            | (refine quiet_move _ (by rfl) (I _ ?_))
            | (refine quiet_assign _ (by rfl) (I _ ?_))
            | (refine aV (.bool bV) 83 #[.agg #[.string s.name,.slice ao n cap,.int .i64 s.cls,.int .i64 s.cap],.agg #[.slice (some ⟨ar,0,none⟩) n aw,.slice (some ⟨au,0,none⟩) n cb,.slice (some ⟨av,0,none⟩) n ax],.int .i64 (i:Int),.int .i64 (p:Int),.string m] (fun w' h=>?_) (fun w' h=>Ret.cq (aW.out w' h) (fun dh aa=>h.trans aa)) (I _ ?_)
               ·go_simp)
            | (refine dO 25 _ rfl w.heap.size rfl #[.string s.name,.slice ao n cap,.int .i64 s.cls,.int .i64 s.cap] 25 ce.out _ Tryz.underlying25 rfl (by kernel_rfl) (I _ ?_))
            | (refine dO 61 _ rfl (w.heap.size+1) rfl #[.slice (some ⟨ar,0,none⟩) n aw,.slice (some ⟨au,0,none⟩) n cb,.slice (some ⟨av,0,none⟩) n ax] 61 cf.out _ Tryz.underlying61 rfl (by kernel_rfl) (I _ ?_))
            | (apply Exists.intro
               refine⟨fun w' h=>?_,I _ ?_⟩
               ·(unfold Oper.quietAt
                 obtain⟨bw,bx,bz⟩:=bF.out w' h
                 clear h
                 go_simp
                 try exact⟨rfl,rfl⟩
                 try rfl))
           clear I H
           try simp only[nrm,Act.eval,nrq]))
       refine wpQuiet_nil ?_
       intro W bh
       clear aW
       have am:=vi (U.out.frm bh)
       have ad:=vi bh
       clear bh
       cases bV with
       | true =>
         have aK:Hid (dP s x i p (C.take (k+1))=dP s x i p (C.take k)):=vi (by rw[a5.out];rfl)
         go_wp2
         exact⟨⟨k+1,congrArg (Value.int .i64) aQ,hltk,Y.out.trans (Kt.frm ad.out),by rw[aK.out];exact am.out⟩,bD hltk aQ⟩
       | false =>
         have aK:Hid (S++dP s x i p (C.take (k+1))=(S++dP s x i p (C.take k))++[⟨i,p,m⟩]):=vi (by rw[a5.out,List.append_assoc];rfl)
         have bJ:Hid ((S++dP s x i p (C.take k)).length≤90):=vi (by
          have ab:=jn (s:=s) (x:=x) i p (C.take k)
          rw[List.length_take] at ab
          rw[List.length_append]
          have:=bK.out;have:=aY.out;have:=aZ.out
          omega)
         obtain⟨N,bY⟩:∃ N,S++dP s x i p (C.take k)=N:=⟨_,rfl⟩
         rw[bY] at am aK bJ ⊢
         clear bY
         obtain⟨cW,cH,cT,cU,cV⟩:=info_parts Tryz.infoRSu
         have c7:=bJ.out
         have ct:=vi (ad.out.owns (show wc.ownsRow 0 3 1 _ _ _ from Y.out.row ai.out (by decide)) (by simp))
         have cq:=vi (a1.out.frm (am.out.fr) (by simp))
         obtain⟨O,bg⟩:∃ O,(Value.slice a8 N.length a9).ownBlock.toList=O:=⟨_,rfl⟩
         have cl:Hid (∀ q∈O,∃ c,W.heap[q]?=some (.cells c 90 (0,0))):=vi fun q K=>by
          rw[← bg] at K
          exact ak am.out.row (by simpa using K)
         have cn:Hid (∀ q,(Value.slice a8 N.length a9).ownBlock=some q→q∈O):=vi fun q K=>by rw[← bg,K];simp
         have a2:Hid (∀ {k:Nat} {c:Array Value} {t:TypeId} {fr:Nat × Nat},W.heap[k]?=some (.cells c t fr)→t≠90→k∉O):=vi fun bl cN cI=>by
          obtain⟨c2,cB⟩:=cl.out _ cI
          rw[cB] at bl
          cases bl
          exact cN rfl
         have cg:Hid (∀ a,Frm O W a→a.cell? ⟨bW,k,none⟩=some (.int .i64 (q:Int))∧a.cell? ⟨aM,q,none⟩=some (.string m)∧a.cell? ⟨bt,2,none⟩=some (.slice (some ⟨aM,0,none⟩) A.length aC)):=vi fun a G=>by
          obtain⟨bw,bx,bz⟩:=bF.out W ad.out
          obtain⟨c3,ab⟩:=ak ct.out rfl
          obtain⟨c4,cC⟩:=cq.out.ty rfl
          exact⟨G.cellAt bw (a2.out ab (by decide)),G.cellAt bx (a2.out cC (by decide)),G.cellAt bz (a2.out (ad.out.at (Y.out.cells bP.out (by decide)) (by simp)) (by decide))⟩
         clear bg
         go_upto_region 14 with fail
         generalize cE:Exit.inBlock _ _=QQ
         refine wp_mono (Q:=fun e a' w'=>match e with | .normal=>QQ .normal a' w' | _=>False) ?_ (fun e a' w' aa=>by cases e <;> first | exact aa | exact aa.elim)
         refine bI (F:=O) (by kernel_rfl) ?_
         refine cnt 0 ?_
         iterate 12
          refine hcF ?_ ?_ ?_
          rotate_left
          ·intro w' h
           have cS:=cg.out _ ((Frm.refl O W).drew.trans h)
           obtain⟨bw,bx,bz⟩:=cS
           clear h
           go_simp
           try rfl
          try simp only[nrm,Nat.reduceAdd]
         refine tcn ?_
         obtain⟨aD,bq⟩:∃ aD,W.drew=aD:=⟨_,rfl⟩
         have bi:Frm [] W aD:=by rw[← bq];exact(Frm.refl _ _).drew
         rw[bq]
         clear bq
         have ap:=vi (am.out.frm bi)
         have cm:=vi bi
         clear bi
         have cM:E.heap.size≤(aD.alloc (.cells #[.int .i64 i,.int .i64 p,.string m] 90)).heap.size:=by have:=ap.out.fr.size;simp;omega
         refine gd 12 (fun a6 az=>?_)
         go_simp
         (skip)
         refine az.out _ _ ((Frm.refl _ _).alloc _) ?_
         clear az a6
         try simp only[nrm]
         refine gd 13 (fun a6 az=>?_)
         refine iL _ _ 55 rfl E.heap.size 90 cW (.agg #[.int .i64 0,.int .i64 0,.string { data:=#[] }]) 3 32 Tryz.underlying55 cH cT cU cV rfl (by decide) (.slice a8 N.length a9) N.length (suC N) rfl (ap.out.row.alloc _) ⟨aD.heap.size,0,none⟩ 1 1 (jS ⟨i,p,m⟩) rfl rfl (cA _ _ _) (by simp[jS,Value.oneCell']) (by unfold maxLen;omega) (by omega) cM ?_
         intro v' cc bp bj
         obtain⟨cw,cx,rfl⟩:=an bp
         have bH:=vi bj
         have cr:=vi bp
         refine az.out _ _ ((Frm.refl O _).grown bj (fun q K=>.inl (cn.out q K))) ?_
         clear az a6 bj bp
         try simp only[nrm]
         refine htF 14 ?_ ?_ ?_
         rotate_left
         ·intro w' h
          clear h
          go_simp
          try rfl
         try simp only[nrm]
         refine wpAnyH_done (by kernel_rfl) ?_ _
         subst cE
         have cp:Hid (ZnI E (N++[⟨i,p,m⟩]) (.slice cw (N.length+1) cx) cc):=vi ⟨(ap.out.fr.alloc _).grown bH.out (fun q K=>.inr (aF ap.out.row K)),by rw[gr,List.length_append];exact cr.out⟩
         have ck:Hid (Kt [90] ca cc):=vi (((Y.out.trans (Kt.frm (ad.out.trans cm.out))).alloc _).grown bH.out (fun q K=>by
          obtain⟨c,cF⟩:=ak ap.out.row K
          exact⟨c,_,(0,0),ah cF,by simp⟩))
         go_wp2
         exact⟨⟨k+1,congrArg (Value.int .i64) aQ,hltk,ck.out,by rw[aK.out];exact cp.out⟩,bD hltk aQ⟩
      ·obtain rfl:H=k:=by omega
       have b5:¬ (H:Int)<(H:Int):=by omega
       have cu:=vi (show ZnI E (S++cR s x i p) _ wc by rw[a4.out,← List.take_length (l:=C),aZ.out];exact U.out)
       go_wp2
       exact⟨⟨p+1,congrArg (Value.int .i64) (aL.out p hltp),hltp,by rw[X.out];exact cu.out⟩,bD hltp (aL.out p hltp)⟩
    ·obtain rfl:n=p:=by omega
     have b5:¬ (n:Int)<(n:Int):=by omega
     go_wp2
     exact⟨⟨i+1,congrArg (Value.int .i64) (aL.out i hlt),hlt,J.out⟩,bD hlt (aL.out i hlt)⟩
  ·obtain rfl:n=i:=by omega
   have b5:¬ (n:Int)<(n:Int):=by omega
   go_wp2
   go_ret
   exact⟨_,rfl,by have:=aG.out.row;rw[cs.out];exact df this aE.out.size,aE.out.trans aG.out.fr⟩
end Go.Proofs.YtohfkhjlnlahdaaGreat
