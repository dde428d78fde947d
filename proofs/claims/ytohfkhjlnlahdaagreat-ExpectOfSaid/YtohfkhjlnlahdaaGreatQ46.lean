/- Part of the proof. -/
import Derived.Test.YtohfkhjlnlahdaaGreatQ04
import Derived.Test.YtohfkhjlnlahdaaGreatQ32
import Derived.Test.YtohfkhjlnlahdaaGreatQ38
import Derived.Test.YtohfkhjlnlahdaaGreatQ35
set_option linter.all false
namespace Go.Proofs.YtohfkhjlnlahdaaGreat
open Go.RowKit Go.BigFrame
open Go.RowKit in
theorem sA {a:World} {v:Value} {l:List Int} {n:Nat} (h:IvR a v l) (A:l.length=n):a.ownsRow 0 3 1 v n (l.map iv):=A ▸ h
theorem pH {h b:World} {v u:Value} (A:Frm [] h b) (a:∀ k,v.ownBlock=some k→u.ownBlock=some k∨b.heap.size≤k):∀ k,v.ownBlock=some k→u.ownBlock=some k∨h.heap.size≤k:=fun k E=>(a k E).imp id fun a=>Nat.le_trans A.size a
theorem nj {I h:World} {a n H E S:Nat} {G A R:Option Addr} {K:Int} {U:List Value} (O:h.heap[a]?=some (.cells #[.slice none 0 0,.slice none 0 0] 159 (0,0))) (X:h.ownsRow 0 3 1 (.slice A n E) n U) (V:Frm [] I h) (hb:I.heap.size≤a)
  (Y:∀ q,(Value.slice A n E).ownBlock=some q→(Value.slice R n S).ownBlock=some q∨I.heap.size≤q) :
  ∃ (b:Nat) (J:Option Addr) (k:Nat),Value.pointer (some ⟨a,0,none⟩)=.pointer (some ⟨b,0,none⟩)∧Value.int .i64 K=.int .i64 K∧((h.setCell ⟨a,0,none⟩ (.slice G n H)).setCell ⟨a,1,none⟩ (.slice A n E)).heap[b]?=some (.cells #[.slice G n H,.slice J n k] 159 (0,0)) ∧
    ((h.setCell ⟨a,0,none⟩ (.slice G n H)).setCell ⟨a,1,none⟩ (.slice A n E)).ownsRow 0 3 1 (.slice J n k) n U∧(∀ q,(Value.slice J n k).ownBlock=some q→(Value.slice R n S).ownBlock=some q∨I.heap.size≤q)∧Frm [] I ((h.setCell ⟨a,0,none⟩ (.slice G n H)).setCell ⟨a,1,none⟩ (.slice A n E))∧I.heap.size≤b:=by
 have b1:=ap O 0 (.slice G n H)
 have b2:=ap b1 1 (.slice A n E)
 have W:Kt [159] h ((h.setCell ⟨a,0,none⟩ (.slice G n H)).setCell ⟨a,1,none⟩ (.slice A n E)):=((Kt.refl _ h).set O (by simp) _).set b1 (by simp) _
 exact⟨a,A,E,rfl,rfl,b2,W.row X (by decide),Y,V.then ((bG h _ _ _).trans (bG _ _ _ _)) (by intro q N;simp at N;subst N;exact .inr hb),hb⟩
set_option maxHeartbeats 16000000 in
set_option maxRecDepth 100000 in
noncomputable def doS:PSigma fun P:Prop=>P→∀ (s:SesD) (a7 b0:Value) (x:PS) (B:Nat) (w:World) (i k:Nat) (pl:Int),SesV w a7 s→RSt B w s b0 x→SesOk s→i<s.roles.length→k<(s.rol i).steps.length→Calls Tryz.prog 29 #[a7,b0,.agg #[.int .i64 1,.int .i64 (i:Nat),.int .i64 (k:Nat),.int .i64 pl]] w (aU (DoTo w s x ⟨1,(i:Nat),(k:Nat),pl⟩)):=by
 apply PSigma.mk
 case snd =>
  intro cq
  have db:=vi cq
  clear cq
  intro s a7 b0 x B w i k pl dA a5 a4 S aF
  obtain⟨d0,rfl,bR⟩:=dA
  obtain⟨ao,cap,rfl⟩:=bR.shape
  have cC:=a5.ok
  have cF:=a5
  obtain⟨aX,aa,bx,dh,bz,cb,bA,rfl,cD,-⟩:=a5.out
  obtain⟨n,V⟩:∃ n,s.roles.length=n:=⟨_,rfl⟩
  have dr:2≤n:=V ▸ a4.n2
  have co:n≤4:=V ▸ a4.n4
  obtain⟨R,a3⟩:∃ R,(((w.alloc (.cells #[.string s.name,.slice ao s.roles.length cap,.int .i64 s.cls,.int .i64 s.cap] 25)).alloc (.cells #[.slice (some ⟨aX,0,none⟩) s.roles.length bz,.slice (some ⟨aa,0,none⟩) s.roles.length cb,.slice (some ⟨bx,0,none⟩) s.roles.length bA] 61)).alloc (.cells #[.int .i64 1,.int .i64 (i:Nat),.int .i64 (k:Nat),.int .i64 pl] 67)).alloc (.cells #[.slice none 0 0,.slice none 0 0,.slice none 0 0] 61)=R:=⟨_,rfl⟩
  have cw:Frm [] w R:=by rw[← a3];exact((((Frm.refl _ _).alloc _).alloc _).alloc _).alloc _
  have U:DoX w s ao s.roles.length cap aX aa bx bz cb bA ⟨1,(i:Nat),(k:Nat),pl⟩ R:=by
   rw[← a3]
   exact⟨ah (ah (ah (heap_alloc_new _ _))),ah (ah (aq (by simp))),ah (aq (by simp)),aq (by simp)⟩
  have aW:Hid (Frm [] w R):=vi cw
  have aA:=vi V;have b7:=vi a4;have b8:=vi cC;have bp:=vi cD;have bo:=vi bR
  rw[V] at U bo
  have bg:=vi U
  have bi:=vi a3
  have bc:=vi (fun a E=>dX s _ x B a (cF.frm E) (by rw[V];omega) (by rw[V];exact co))
  have dz:w.heap.size+3<R.heap.size:=lt_of_block U.b3
  rw[V] at bi bc
  rw[V]
  have aG:=ae U.b2 0
  have aH:=ae U.b2 1
  have aI:=ae U.b2 2
  have aK:=ae U.b2 3
  have bG:=ae U.b0 1
  clear bR V a4 cC cD cF a3 cw U a5
  have dD:decide ((i:Int)<0)=false:=decide_eq_false (by omega)
  have dE:decide ((n:Int)≤(i:Int))=false:=decide_eq_false (by rw[aA.out] at S;omega)
  have dt:(i:Int)<(n:Int):=by rw[aA.out] at S;omega
  have dF:decide ((k:Int)<0)=false:=decide_eq_false (by omega)
  have aP:=vi (o8 b7.out b8.out S aF)
  obtain⟨rb,aL,a7,dZ,d1,rfl,bS,aC⟩:=Rls.at (bo.out.frm aW.out) S
  obtain⟨ci,cl,dl⟩:=aC.sts.shape
  obtain⟨ch,ck,dk⟩:=aC.ctrs.shape
  obtain⟨df,cm,dm⟩:=aC.steps.shape
  subst dl dk dm
  obtain⟨cL,bP⟩:∃ q,(s.rol i).sts.length=q:=⟨_,rfl⟩
  obtain⟨I,bO⟩:∃ q,(s.rol i).ctrs.length=q:=⟨_,rfl⟩
  obtain⟨a6,bQ⟩:∃ q,(s.rol i).steps.length=q:=⟨_,rfl⟩
  have bn:=vi aC
  rw[bP,bO,bQ] at bS bn
  have bl:=vi bQ;have c9:=vi bP;have aV:=vi bO
  have b9:Hid (∀ a,Frm [] R a→(a.cell? ⟨rb,aL+i*4,none⟩=some (.string (s.rol i).name)∧a.cell? ⟨rb,aL+i*4+1,none⟩=some (.slice ci cL cl))∧a.cell? ⟨rb,aL+i*4+2,none⟩=some (.slice ch I ck)∧a.cell? ⟨rb,aL+i*4+3,none⟩=some (.slice df a6 cm)):=vi fun a E=>by
   obtain⟨bB,bC,bD,bF⟩:=bS
   exact⟨⟨E.keep bB,E.keep bC⟩,E.keep bD,E.keep bF⟩
  clear aC bS bP bO bQ
  rw[bl.out] at aF
  have du:(k:Int)<(a6:Int):=by omega
  have dC:decide ((a6:Int)≤(k:Int))=false:=decide_eq_false (by omega)
  obtain⟨t,bU⟩:∃ t,(s.rol i).stp k=t:=⟨_,rfl⟩
  obtain⟨cM,cN,dj,bT⟩:=bn.out.steps.get (RolD.stp_some (by rw[bl.out];exact aF))
  rw[bU] at bT aP
  subst dj
  have ca:Hid (∀ a,Frm [] R a→SpAt a cM (cN+k*9) t):=vi fun a E=>bT.frm E
  obtain⟨di,cO,bI,bJ,a0,a1⟩:=bp.out.b i S
  have aN:=vi (fun a (E:Frm [] w a)=>nI di cO _ _ t a ((qJ a0).frm fun _ _ _ dq=>dq.frm E) ((show IvR w cO (x.bank i) from a1.1).frm E (by simp)) aP.out)
  have b5:=vi a0;have cc:=vi a1
  obtain⟨aY,aZ,rfl⟩:=an a0
  obtain⟨a8,a9,rfl⟩:=an a1.1
  have K:(x.bank i).length=I:=aP.out.l.trans aV.out
  rw[aV.out,K] at aN
  rw[K] at bJ cc
  rw[aV.out] at bI b5
  obtain⟨bt,a2⟩:∃ l,(if bY (s.rol i).ctrs (x.bank i) t=true then cJ (s.rol i).ctrs (x.bank i) t else x.bank i)=l:=⟨_,rfl⟩
  obtain⟨b3,bK⟩:∃ e,(if bY (s.rol i).ctrs (x.bank i) t=true then (0:Int) else 8)=e:=⟨_,rfl⟩
  have cE:bt.length=I:=by
   rw[← a2]
   split
   ·unfold cJ;split <;> simp[K]
   ·exact K
  rw[a2,bK] at aN
  have bq:=vi cE;have dd:=vi a2;have c3:=vi bK
  have b6:Hid (∀ a,Frm [] w a→a.cell? ⟨aa,i*2,none⟩=some (.slice aY I aZ)∧a.cell? ⟨aa,i*2+1,none⟩=some (.slice a8 I a9)):=vi fun a E=>⟨E.keep bI,E.keep bJ⟩
  have cn:=bp.out.a i S
  have c5:Hid (∀ a,Frm [] w a→a.cell? ⟨aX,i,none⟩=some (.int .i64 (x.at i:Nat))):=vi fun a E=>E.keep cn
  have dc:=vi bU
  have c6:=vi (And.intro S aF)
  clear bT bI bJ a0 a1 K a2 bK cE cn bU S aF
  go_enter Tryz.func29,Tryz.ntmps29
  go_upto_region 1 with fail
  rw[bi.out]
  clear bi
  go_upto_region 4 with (first
   | (refine af rfl 61 _ rfl _ rfl _ 61 bg.out.b1 _ Tryz.underlying61 rfl (by kernel_rfl) ?_)
   | (go_at_call 84;go_must (refine(bc.out _ aW.out).mono ?_;clear bc;rintro e bZ ⟨d6,rfl,cG,cy⟩;obtain⟨cP,cQ,cW,cR,cX,cY,cZ,rfl,cH,cS,cT,cU,cV⟩:=cG.out;have cf:=vi cH;have aB:=vi (And.intro cS (And.intro cT (And.intro cU cV)));have aQ:=vi cy;clear cG cH cy cS cT cU cV;rw[aA.out]))
   | (refine aD rfl 61 _ _ rfl _ _ _ _ rfl rfl (heap_alloc_new _ _) rfl (by kernel_rfl) (cI ..) ?_;intro X ct bN;have be:=vi ct;have aw:=vi ((aQ.out.alloc _).then bN (by intro q O;simp at O;subst O;exact .inr aQ.out.size));have ce:=vi (cf.out.frm (((Frm.refl [] bZ).alloc _).then bN (by intro q O;simp at O;subst O;exact .inr (Nat.le_refl _))));clear ct bN))
  obtain⟨bw,bM⟩:∃ b,bZ.heap.size=b:=⟨_,rfl⟩
  have dy:R.heap.size≤bw:=bM ▸ aQ.out.size
  rw[bM] at be ⊢
  have cg:Hid (YSt w s bw x X):=vi ⟨by omega,cP,cQ,cW,cR,cX,cY,cZ,by rw[aA.out];exact be.out,ce.out,by have:=aB.out.1;omega,by have:=aB.out.2.1;omega,by have:=aB.out.2.2.1;omega,fun i S=>by have:=aB.out.2.2.2 i S;omega⟩
  have Y:=vi (bg.out.frm aw.out (by simp))
  have cd:Hid (Frm [] w X):=vi (aW.out.trans aw.out)
  have cz:w.heap.size+3<X.heap.size:=lt_of_block Y.out.b3
  clear cf aB aQ ce bM aG aH aI aK bG bg
  have aG:=ae Y.out.b2 0
  have aH:=ae Y.out.b2 1
  have aI:=ae Y.out.b2 2
  have aK:=ae Y.out.b2 3
  have bG:=ae Y.out.b0 1
  obtain⟨⟨bB,bC⟩,bD,bF⟩:=b9.out X aw.out
  go_upto_region 11 with (first
   | (refine aD rfl 87 _ _ rfl _ _ _ _ rfl rfl (heap_alloc_new _ _) rfl (by kernel_rfl) (by rw[← Array.all_toList];rfl) ?_;intro au cu am;have aO:=vi cu;have ay:=vi (((Frm.refl [] X).alloc _).then am (by intro q O;simp at O;subst O;exact .inr (Nat.le_refl _)));clear cu am))
  clear aG aH aI aK bG bB bC bD bF
  obtain⟨cj,bL⟩:∃ b,X.heap.size=b:=⟨_,rfl⟩
  rw[bL] at aO ⊢
  have al:=vi (Y.out.frm ay.out (by simp))
  have dv:w.heap.size+3<cj:=bL ▸ cz
  clear bL
  have aG:=ae al.out.b2 0
  have aH:=ae al.out.b2 1
  have aI:=ae al.out.b2 2
  have aK:=ae al.out.b2 3
  have dB:=ae aO.out 3
  obtain⟨dG,dH,dI,dJ,dK,dL,dM,dN,dO⟩:=ca.out au (aw.out.trans ay.out)
  go_upto_region 14 with (first
   | (refine aD rfl 137 _ _ rfl _ _ _ _ rfl rfl (heap_alloc_new _ _) rfl (by kernel_rfl) (by rw[← Array.all_toList];rfl) ?_;intro G cv J;have bd:=vi cv;have aT:=vi (((Frm.refl [] au).alloc _).then J (by intro q O;simp at O;subst O;exact .inr (Nat.le_refl _)));clear cv J))
  clear aG aH aI aK dB dG dH dI dJ dK dL dM dN dO dC dD dE dF
  obtain⟨bv,cr⟩:∃ b,au.heap.size=b:=⟨_,rfl⟩
  rw[cr] at bd ⊢
  have dw:w.heap.size+3<bv:=by have:=ay.out.size;omega
  have bh:=vi (al.out.frm aT.out (by simp))
  have aS:Hid (Frm [] X G):=vi (ay.out.trans aT.out)
  have br:Hid (Frm [] w G):=vi (cd.out.trans aS.out)
  have de:=vi (cg.out.frm aS.out)
  have c1:=vi (aT.out.at aO.out (by simp))
  have c7:Hid (X.heap.size≤G.heap.size):=vi aS.out.size
  clear cr al Y aO cg cz
  have bb:=vi (fun a (E:Frm [] G a)=>aN.out a (br.out.trans E))
  have b4:Hid (∀ a,Frm [] G a→(((a.cell? ⟨w.heap.size+1,1,none⟩=some (.slice (some ⟨aa,0,none⟩) n cb)∧a.cell? ⟨w.heap.size+2,1,none⟩=some (.int .i64 (i:Nat)))∧a.cell? ⟨aa,i*2,none⟩=some (.slice aY I aZ)∧a.cell? ⟨aa,i*2+1,none⟩=some (.slice a8 I a9))∧a.heap[bv]?=some (.cells #[.string t.frm,.string t.to,.int .i64 t.kind,.string t.msg,.string t.peer,.string t.ctr,.int .i64 t.low,.int .i64 t.high,.int .i64 t.add] 137 (0,0)))):=vi fun a E=>⟨⟨⟨ae (E.at bh.out.b1 (by simp)) 1,ae (E.at bh.out.b2 (by simp)) 1⟩,b6.out a (br.out.trans E)⟩,E.at bd.out (by simp)⟩
  clear aN
  go_upto_region 14 with fail
  try simp only[Act.put]
  go_cut [14,15] (fun s14 s15 wc=>∃ (ag:Nat) (ad:Option Addr) (ak:Nat),s14=.pointer (some ⟨ag,0,none⟩)∧s15=.int .i64 b3∧wc.heap[ag]?=some (.cells #[.slice aY I aZ,.slice ad I ak] 159 (0,0))∧wc.ownsRow 0 3 1 (.slice ad I ak) I (bt.map iv)∧(∀ q,(Value.slice ad I ak).ownBlock=some q→(Value.slice a8 I a9).ownBlock=some q∨G.heap.size≤q)∧Frm [] G wc∧G.heap.size≤ag)
  case first =>
   refine bH [] (oW [12,13]) (by kernel_rfl) ?_
   refine cnt 0 ?_
   iterate 7
    refine hcL ?_ ?_ ?_
    rotate_left
    ·intro w' cp
     obtain⟨⟨⟨d2,d3⟩,d4,d5⟩,h⟩:=b4.out w' ((Frm.refl [] G).drew.trans cp)
     have d7:=ae h 0
     have d8:=ae h 1
     have d9:=ae h 2
     have ea:=ae h 3
     have eb:=ae h 4
     have ec:=ae h 5
     have ed:=ae h 6
     have ee:=ae h 7
     have ef:=ae h 8
     clear h
     clear cp
     go_simp
     try rfl
    try simp only[nrm,Nat.reduceAdd]
   refine tcn ?_
   obtain⟨av,bX⟩:∃ av,G.drew=av:=⟨_,rfl⟩
   have ab:Frm [] G av:=by rw[← bX];exact(Frm.refl _ _).drew
   rw[bX]
   clear bX
   refine aJ (rs:=[7,11]) (by kernel_rfl) (by simp) (aE ?_ (aE ?_ aM))
   ·skip
    refine ax (i:=7) rfl rfl (by rfl) (fun H A=>?_)
    go_simp
    (refine(bb.out _ ab).mono ?_;rintro e ba ⟨u,rfl,dP,rfl,N,J,W⟩;have N:=sA N bq.out;obtain⟨ad,ak,rfl⟩:=an N;replace W:=pH ab W)
    refine A.out _ _ (J) ?_
    clear A H
    try simp only[nrm]
    refine cnt 8 ?_
    iterate 3
     refine hcP ?_ ?_ ?_
     rotate_left
     ·intro w'
      go_simp
      try rfl
     try simp only[nrm,Nat.reduceAdd]
    refine tcn ?_
    refine bE 11 ?_
    refine ax (i:=11) rfl rfl (by rfl) (fun H A=>?_)
    go_simp
    (skip)
    refine A.out _ _ ((Frm.refl _ _).alloc _) ?_
    clear A H
    try simp only[nrm]
    obtain⟨ag,ai⟩:∃ b,ba.heap.size=b:=⟨_,rfl⟩
    have h:=heap_alloc_new ba (.cells #[.slice none 0 0,.slice none 0 0] 159)
    have ap:Frm [] G (ba.alloc (.cells #[.slice none 0 0,.slice none 0 0] 159)):=(ab.trans J).alloc _
    have ar:=N.alloc (.cells #[.slice none 0 0,.slice none 0 0] 159)
    obtain⟨dQ,bW⟩:∃ bu,ba.alloc (.cells #[.slice none 0 0,.slice none 0 0] 159)=bu:=⟨_,rfl⟩
    rw[bW,ai] at h ⊢
    rw[bW] at ap ar
    have K:G.heap.size≤ag:=ai ▸ (ab.trans J).size
    clear bW ai
    have dn:=aj h 0
    have dp:=aj h 1
    have dR:=ae h 0
    have dS:=ae h 1
    have bs:=vi h
    have bk:=vi ar
    have bj:=vi ap
    have bf:=vi K
    have bm:=vi W
    clear h ar ap N J ab K W
    refine bE 12 ?_
    refine az (i:=12) rfl (by rfl) (by rfl) (fun H A=>?_)
    go_simp
    (skip)
    refine A.out _ _ ?_
    clear A H
    try simp only[nrm]
    refine bE 13 ?_
    refine az (i:=13) rfl (by rfl) (by rfl) (fun H A=>?_)
    go_simp
    (skip)
    refine A.out _ _ ?_
    clear A H
    try simp only[nrm]
    refine aR (by kernel_rfl) ?_ _
    go_wp2
    go_meet
    exact nj bs.out bk.out bj.out bf.out bm.out
   ·skip
    refine ax (i:=11) rfl rfl (by rfl) (fun H A=>?_)
    go_simp
    (skip)
    refine A.out _ _ ((Frm.refl _ _).alloc _) ?_
    clear A H
    try simp only[nrm]
    obtain⟨ag,ai⟩:∃ b,av.heap.size=b:=⟨_,rfl⟩
    have cK:=heap_alloc_new av (.cells #[.slice none 0 0,.slice none 0 0] 159)
    obtain⟨au,bV⟩:∃ bu,av.alloc (.cells #[.slice none 0 0,.slice none 0 0] 159)=bu:=⟨_,rfl⟩
    have am:Frm [] G au:=by rw[← bV];exact ab.alloc _
    rw[bV,ai] at cK ⊢
    have K:G.heap.size≤ag:=ai ▸ ab.size
    clear bV ai
    refine bE 7 ?_
    refine ax (i:=7) rfl rfl (by rfl) (fun H A=>?_)
    go_simp
    (refine(bb.out _ am).mono ?_;rintro e dQ ⟨u,rfl,dP,rfl,N,J,W⟩;have N:=sA N bq.out;obtain⟨ad,ak,rfl⟩:=an N;replace W:=pH am W)
    refine A.out _ _ (J) ?_
    clear A H
    try simp only[nrm]
    refine cnt 8 ?_
    iterate 3
     refine hcP ?_ ?_ ?_
     rotate_left
     ·intro w'
      go_simp
      try rfl
     try simp only[nrm,Nat.reduceAdd]
    refine tcn ?_
    have h:=J.at cK (by simp)
    have ap:=am.trans J
    have ar:=N
    have dn:=aj h 0
    have dp:=aj h 1
    have dR:=ae h 0
    have dS:=ae h 1
    have bs:=vi h
    have bk:=vi ar
    have bj:=vi ap
    have bf:=vi K
    have bm:=vi W
    clear h ar ap N J ab K W
    refine bE 12 ?_
    refine az (i:=12) rfl (by rfl) (by rfl) (fun H A=>?_)
    go_simp
    (skip)
    refine A.out _ _ ?_
    clear A H
    try simp only[nrm]
    refine bE 13 ?_
    refine az (i:=13) rfl (by rfl) (by rfl) (fun H A=>?_)
    go_simp
    (skip)
    refine A.out _ _ ?_
    clear A H
    try simp only[nrm]
    refine aR (by kernel_rfl) ?_ _
    go_wp2
    go_meet
    exact nj bs.out bk.out bj.out bf.out bm.out
  case rest =>
   obtain⟨dg,ad,ak,rfl,rfl,cs,cB,cA,cx,dx⟩:=hcut
   have c2:=vi cs;have da:=vi cB;have c8:=vi cA;have c4:=vi cx
   clear cs cB cA cx bb b4
   rename_i dT dU dV dW dY
   revert s x B w i k pl cap aX aa bx dh bz cb bA n dr co R aW aA b7 b8 bp dz dt rb aL bo ci cl ch ck cm cL I a6 bl c9 aV du t aP cM cN bn b9 ca aY aZ b5 a8 a9 cc bt b3 bq dd c3 b6 c5 dc c6 dT dU bZ cP cQ cW cR cX cY cZ X aw bw be dy cd au ay cj dv dV G aT dW dY bv bd dw bh aS br de c1 c7 wc u22 u23 u24 u25 u26 u27 u28 u29 u30 u31 u32 u33 u34 u35 u36 u37 u38 u39 u40 u41 u42 u43 u44 u45 u46 u47 u48 u49 u50 u51 u52 u53 u54 u55 u56 u57 u58 u59 u60 u61 u62 u63 u64 u65 u66 u67 u68 u69 u70 u71 u72 u73 u74 u75 u76 u77 u78 u79 u80 u81 u82 u83 u84 u85 u86 u87 u88 u89 u90 u91 u92 u93 u94 u95 u96 u97 u98 u99 u100 u101 u102 u103 u104 u105 u106 u107 u108 u109 u110 u111 u112 u113 u114 u115 u116 u117 u118 u119 u120 u121 u122 u123 u124 u125 u126 u127 u128 u129 u130 u131 u132 u133 u134 u135 u136 u137 u138 u139 u140 u141 u142 u143 u144 u145 u146 u147 u148 u149 u150 u151 u152 u153 u154 u155 u156 u157 u158 u159 u160 u161 u162 u163 u164 u165 u166 u167 u168 u169 u170 u171 u172 u173 u174 u175 u176 u177 u178 u179 u180 u181 u182 u183 u184 u185 u186 u187 u188 u189 u190 u191 u192 u193 u194 u195 u196 u197 u198 u199 u200 u201 u202 u203 u204 u205 u206 u207 u208 u209 u210 u211 u212 u213 u214 u215 u216 u217 u218 u219 u220 u221 u222 u223 u224 u225 u226 u227 u228 u229 u230 u231 u232 u233 u234 u235 u236 dg ad ak dx c2 da c8 c4
   exact db.out
end Go.Proofs.YtohfkhjlnlahdaaGreat
