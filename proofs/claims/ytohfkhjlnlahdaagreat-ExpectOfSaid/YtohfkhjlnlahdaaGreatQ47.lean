/- Part of the proof. -/
import Derived.Test.YtohfkhjlnlahdaaGreatQ04
import Derived.Test.YtohfkhjlnlahdaaGreatQ46
import Derived.Test.YtohfkhjlnlahdaaGreatQ26
set_option linter.all false
namespace Go.Proofs.YtohfkhjlnlahdaaGreat
open Go.RowKit Go.BigFrame
theorem tX {s:SesD} {x:PS} {i k:Nat} {pl:Int} (a:i<s.roles.length) (h:k<(s.rol i).steps.length):doB s x ⟨1,(i:Nat),(k:Nat),pl⟩=(if dL s x i k=false then false
  else if ((s.rol i).stp k).kind=2 then decide (cZ s.cls (x.way (bd s ((s.rol i).stp k)) i) pl=0∧dm s.cls (x.way (bd s ((s.rol i).stp k)) i) pl=((s.rol i).stp k).msg)
  else if ((s.rol i).stp k).kind=1 then decide (eq s.cap (x.way i (bd s ((s.rol i).stp k))) ((s.rol i).stp k).msg=0∧pl=0)
  else decide (pl=0)):=by
 unfold doB
 rw[if_neg (by simp only;omega),if_neg (show ¬ (1:Int)=2 by decide),if_neg (by simp only[Int.toNat_natCast];omega)]
 rfl
set_option maxHeartbeats 16000000 in
set_option maxRecDepth 100000 in
noncomputable def doT:PSigma fun P:Prop=>P→doS.1:=by
 apply PSigma.mk
 case snd =>
  intro ck
  have cU:=vi ck
  clear ck
  intro s x B w i k pl cap bt c8 da c9 ch cb de n dn dp c7 c2 bh aB aX cX dy dr rb cB b9 ag ai ad ah ak am A an bi cT cS dt t cL ap aq bk cW cY aF aG bZ dF dG cd aE bW cc ca bd cQ bg aY b5 _ _ dJ dR dS dU dT d6 d7 d8 dK b3 a0 cK dx c4 dM cN aZ du _ cD cP _ _ bq aU dv b0 b4 ce bo aS cR wc u22 u23 u24 u25 u26 u27 u28 u29 u30 u31 u32 u33 u34 u35 u36 u37 u38 u39 u40 u41 u42 u43 u44 u45 u46 u47 u48 u49 u50 u51 u52 u53 u54 u55 u56 u57 u58 u59 u60 u61 u62 u63 u64 u65 u66 u67 u68 u69 u70 u71 u72 u73 u74 u75 u76 u77 u78 u79 u80 u81 u82 u83 u84 u85 u86 u87 u88 u89 u90 u91 u92 u93 u94 u95 u96 u97 u98 u99 u100 u101 u102 u103 u104 u105 u106 u107 u108 u109 u110 u111 u112 u113 u114 u115 u116 u117 u118 u119 u120 u121 u122 u123 u124 u125 u126 u127 u128 u129 u130 u131 u132 u133 u134 u135 u136 u137 u138 u139 u140 u141 u142 u143 u144 u145 u146 u147 u148 u149 u150 u151 u152 u153 u154 u155 u156 u157 u158 u159 u160 u161 u162 u163 u164 u165 u166 u167 u168 u169 u170 u171 u172 u173 u174 u175 u176 u177 u178 u179 u180 u181 u182 u183 u184 u185 u186 u187 u188 u189 u190 u191 u192 u193 u194 u195 u196 u197 u198 u199 u200 u201 u202 u203 u204 u205 u206 u207 u208 u209 u210 u211 u212 u213 u214 u215 u216 u217 u218 u219 u220 u221 u222 u223 u224 u225 u226 u227 u228 u229 u230 u231 u232 u233 u234 u235 u236 br W Y dw bX b8 b7 ab
  obtain⟨S,al⟩:=b5.out
  have bb:=vi (tX (x:=x) (pl:=pl) S (by rw[bi.out];exact al))
  have dq:=bk.out
  have aa:=vi (b0.out.frm ab.out (by simp))
  have aT:=vi (ab.out.at aS.out (by simp))
  have aW:=vi (ab.out.at aU.out (by simp))
  have av:Hid (Frm [] w wc):=vi (ce.out.trans ab.out)
  have aR:Hid (∀ n a,Frm [] wc a→Calls Tryz.prog 87 #[.agg #[.string (s.rol i).name,.slice ag am ai,.slice ad A ah,.slice (some ⟨ap,aq,none⟩) an ak],.string n] a (Ret (.int .i64 (bK (s.rol i) n)) (Frm [] a))):=vi fun n a G=>nv _ (s.rol i) n a ⟨_,_,_,rfl,bk.out.frm ((b3.out.trans (b4.out.trans ab.out)).trans G)⟩ (by have:=(aB.out.at S).s24;omega)
  clear dq cW cY cQ
  cases hbk:bY (s.rol i).ctrs (x.bank i) t with
  | false =>
    obtain rfl:bW=8:=by have:=bd.out;rw[hbk] at this;simpa using this.symm
    have aI:doB s x ⟨1,(i:Nat),(k:Nat),pl⟩=false:=by
     rw[bb.out,if_pos (by unfold dL;rw[aY.out,hbk];rfl)]
    have ba:=vi aI
    clear aI hbk aR bg
    go_upto_region 15 with fail
    refine ay (by kernel_rfl) (by kernel_rfl) ?_
    repeat (first
     | go_big_quiet_skip
     | (refine wpQuiet_want (by rfl) (fun aC E=>?_)
        first
         | (refine quiet_move _ (by rfl) (E _ ?_))
         | (refine quiet_assign _ (by rfl) (E _ ?_))
         | (apply Exists.intro
            refine⟨fun w' h=>?_,E _ ?_⟩
            ·(unfold Oper.quietAt
              clear h
              go_simp
              try exact⟨rfl,rfl⟩
              try rfl))
        clear E aC
        try simp only[nrm,Act.eval,nrq]))
    refine wpQuiet_nil ?_
    intro O R
    have az:=vi (aa.out.frm R (by simp))
    have bn:Hid (Frm [] w O):=vi (av.out.trans R)
    clear R
    go_wp2_with (first
    | (refine af rfl 61 _ rfl _ rfl _ 61 az.out.b1 _ Tryz.underlying61 rfl (by kernel_rfl) ?_)
    | (refine aP rfl 61 _ _ rfl _ _ _ _ rfl rfl az.out.b3 rfl (by kernel_rfl) (cI ..) ?_;intro dN aH aJ bz;have a6:=vi aH;have be:=vi aJ;clear aH aJ bz))
    refine bodyPost_ret (bs rfl rfl rfl a6.out rfl) rfl ⟨_,rfl,bn.out.then be.out (by intro k al;simp at al;omega),.inr ⟨?_,_,rfl,rfl,cI ..⟩⟩
    exact ba.out
  | true =>
    obtain rfl:bW=0:=by have:=bd.out;rw[hbk] at this;simpa using this.symm
    have cs:cJ (s.rol i).ctrs (x.bank i) t=aE:=by have:=ca.out;rw[hbk] at this;simpa using this
    have c1:=vi cs
    obtain⟨V,bv⟩:∃ q,bK (s.rol i) t.frm=q:=⟨_,rfl⟩
    have a3:=vi (fun a G=>bv ▸ aR.out t.frm a G)
    have a8:Hid (∀ a,Frm [] wc a→((a.cell? ⟨w.heap.size+1,0,none⟩=some (.slice (some ⟨bt,0,none⟩) n ch)∧a.cell? ⟨w.heap.size+2,1,none⟩=some (.int .i64 (i:Nat)))∧a.cell? ⟨bt,i,none⟩=some (.int .i64 (x.at i:Nat)))∧a.cell? ⟨bq,0,none⟩=some (.string t.frm)):=vi fun a G=>⟨⟨⟨ae (G.at aa.out.b1 (by simp)) 0,ae (G.at aa.out.b2 (by simp)) 1⟩,bg.out a (av.out.trans G)⟩,ae (G.at aW.out (by simp)) 0⟩
    have cp:dL s x i k=decide (V=((x.at i:Nat):Int)):=by
     unfold dL
     rw[aY.out,hbk,Bool.true_and]
     exact decide_eq_decide.2 ((qG (aB.out.at S) (aX.out.pb i S) t.frm).symm.trans (by rw[bv]))
    have bj:=vi cp
    clear cs bv cp hbk bg
    by_cases hat:V=((x.at i:Nat):Int)
    ·have cn:(V == ((x.at i:Nat):Int))=true:=by rw[beq_iff_eq];exact hat
     have co:(V != ((x.at i:Nat):Int))=false:=by rw[bne_eq_false_iff_eq];exact hat
     have cq:dL s x i k=true:=by rw[bj.out];exact decide_eq_true hat
     have cV:=vi cq
     clear hat cq
     go_upto_region 15 with fail
     refine ay (by kernel_rfl) (by kernel_rfl) ?_
     repeat (first
      | go_big_quiet_skip
      | (refine wpQuiet_want (by rfl) (fun aC E=>?_)
         first
          | (refine quiet_move _ (by rfl) (E _ ?_))
          | (refine quiet_assign _ (by rfl) (E _ ?_))
          | (refine aV (.int .i64 V) 87 #[.agg #[.string (s.rol i).name,.slice ag am ai,.slice ad A ah,.slice (some ⟨ap,aq,none⟩) an ak],.string t.frm] (fun w' h=>?_) (fun w' h=>Ret.cq (a3.out w' h) (fun dI aw=>h.trans aw)) (E _ ?_)
             ·go_simp)
          | (refine dO 87 _ rfl aZ rfl #[.string (s.rol i).name,.slice ag am ai,.slice ad A ah,.slice (some ⟨ap,aq,none⟩) an ak] 87 aT.out _ Tryz.underlying87 rfl (by kernel_rfl) (E _ ?_))
          | (apply Exists.intro
             refine⟨fun w' h=>?_,E _ ?_⟩
             ·(unfold Oper.quietAt
               obtain⟨⟨⟨bN,bO⟩,bP⟩,bQ⟩:=a8.out w' h
               clear h
               go_simp
               try exact⟨rfl,rfl⟩
               try rfl))
         clear E aC
         try simp only[nrm,Act.eval,nrq]))
     refine wpQuiet_nil ?_
     intro O R
     have J:=vi R
     clear R cn co a8
     obtain⟨p,a1,dA⟩:=cO ((aB.out.stp S (by rw[bi.out];exact al)).to)
     rw[aY.out] at a1
     have bU:=vi (fun a G=>(show bK (s.rol i) t.to=(p:Int) from a1) ▸ aR.out t.to a G)
     have cZ:Hid (bK (s.rol i) t.to=(p:Int)):=vi a1
     obtain⟨H,I,cF,cE,bR,bS,cG,ax,K,cv,cw,cx,cy⟩:=bo.out.out
     rw[bh.out] at ax
     have bu:Frm [] cD O:=ab.out.trans J.out
     have dE:=K.ta.ne K.tb (by decide)
     have dC:=K.ta.lt
     have dD:=K.tb.lt
     have bJ:=Ty.ne ⟨_,ax⟩ K.ta (by decide)
     have bL:=Ty.ne ⟨_,ax⟩ K.tb (by decide)
     have cz:=Ty.ne ⟨_,aS.out⟩ K.ta (by decide)
     have cA:=Ty.ne ⟨_,aS.out⟩ K.tb (by decide)
     have bF:=Ty.ne ⟨_,aU.out⟩ K.ta (by decide)
     have bH:=Ty.ne ⟨_,aU.out⟩ K.tb (by decide)
     have cl:∀ q,(Value.slice W A Y).ownBlock=some q→q≠H:=fun q U e=>by
      rcases b7.out q U with aw | aw
      ·have:=bV cd.out.1 aw
       omega
      ·omega
     have a4:=vi cl
     have a9:Hid (∀ a,Frm [H,I] O a→(((a.cell? ⟨a0,0,none⟩=some (.slice (some ⟨H,0,none⟩) n bR)∧a.cell? ⟨a0,1,none⟩=some (.slice (some ⟨I,0,none⟩) n bS))∧a.cell? ⟨w.heap.size+2,1,none⟩=some (.int .i64 (i:Nat)))∧a.heap[aZ]?=some (.cells #[.string (s.rol i).name,.slice ag am ai,.slice ad A ah,.slice (some ⟨ap,aq,none⟩) an ak] 87 (0,0))∧a.cell? ⟨bq,1,none⟩=some (.string t.to))∧a.cell? ⟨br,0,none⟩=some (.slice aF A aG)∧a.cell? ⟨br,1,none⟩=some (.slice W A Y)):=vi fun a G=>by
      have ci:=G.at (bu.at ax (by simp)) (by simpa using ⟨bJ,bL⟩)
      have dj:=G.at (J.out.at aa.out.b2 (by simp)) (by simp;omega)
      have dk:=G.at (J.out.at aT.out (by simp)) (by simpa using ⟨cz,cA⟩)
      have dl:=G.at (J.out.at aW.out (by simp)) (by simpa using ⟨bF,bH⟩)
      have cj:=G.at (J.out.at bX.out (by simp)) (by simp;omega)
      exact⟨⟨⟨⟨ae ci 0,ae ci 1⟩,ae dj 1⟩,dk,ae dl 1⟩,ae cj 0,ae cj 1⟩
     have cg:=vi K;have a7:=vi ax;have bf:=vi bu
     have b6:=vi (And.intro cv (And.intro cw (And.intro cx cy)))
     clear a1 dA ax K cl bu cv cw cx cy a3
     go_upto_region 17 with fail
     refine bI (F:=[H,I]) (by kernel_rfl) ?_
     obtain⟨a2,bD⟩:∃ a2,O.drew=a2:=⟨_,rfl⟩
     have aK:Frm [] O a2:=by rw[← bD];exact(Frm.refl _ _).drew
     rw[bD]
     clear bD
     refine cnt 0 ?_
     iterate 11
      refine hcF ?_ ?_ ?_
      rotate_left
      ·intro w' h
       obtain⟨⟨⟨⟨bN,bO⟩,bP⟩,N,bQ⟩,dP,dQ⟩:=a9.out w' ((aK.mono (by simp)).trans h)
       have dV:=ae N 0
       have dX:=ae N 1
       have dZ:=ae N 2
       have d1:=ae N 3
       clear N
       clear h
       go_simp
       try rfl
      try simp only[nrm,Nat.reduceAdd]
     refine tcn ?_
     refine htF 12 ?_ ?_ ?_
     rotate_left
     ·intro w' h
      obtain⟨⟨⟨⟨bN,bO⟩,bP⟩,N,bQ⟩,dP,dQ⟩:=a9.out w' ((aK.mono (by simp)).trans h)
      have dV:=ae N 0
      have dX:=ae N 1
      have dZ:=ae N 2
      have d1:=ae N 3
      clear N
      clear h
      go_simp
      try rfl
     try simp only[nrm]
     refine gd 11 (fun aD X=>?_)
     go_simp
     (refine(bU.out _ (J.out.trans aK)).mono ?_;rintro e ar ⟨rfl,bx⟩;have aL:=aK.trans bx)
     refine X.out _ _ (bx.mono (by simp)) ?_
     clear X aD
     try simp only[nrm]
     refine htF 13 ?_ ?_ ?_
     rotate_left
     ·intro w' h
      clear h
      go_simp
      try rfl
     try simp only[nrm]
     have aO:=cg.out.frm (bf.out.trans aL)
     have dm:=aO.a i S
     obtain⟨dc,cr⟩:=aO.ta
     have di:=aj cr i
     have aN:=aO.setAt S p aX.out.pl
     have bw:=(bZ.out.frm ((av.out.trans J.out).trans aL) (by simp)).frm (bG ar H i (.int .i64 (p:Nat))) (by intro q U;simp at U;subst U;exact fun e=>absurd rfl (aO.ta.ne e (by decide)))
     have bC:(ar.setCell ⟨H,i,none⟩ (.int .i64 (p:Nat))).ownsRow 0 3 1 (.slice W A Y) A (aE.map iv):=(bG ar H i (.int .i64 (p:Nat))).owns ((J.out.trans aL).owns b8.out (by simp)) (fun q U dz=>a4.out q U (by simpa using dz))
     refine gd 14 (fun aD X=>?_)
     go_simp
     (skip)
     refine X.out _ _ ((Frm.refl _ _).setCell _ (.inl (by simp)) _) ?_
     clear X aD
     try simp only[nrm]
     have bA:Frm [H,I] O (ar.setCell ⟨H,i,none⟩ (.int .i64 (p:Nat))):=(aL.mono (by simp)).trans ((bG ar H i (.int .i64 (p:Nat))).mono (by simp))
     obtain⟨aQ,ct⟩:∃ bp,ar.setCell ⟨H,i,none⟩ (.int .i64 (p:Nat))=bp:=⟨_,rfl⟩
     rw[ct] at aN bw bC bA ⊢
     clear ct dm cr di aO bx
     obtain⟨df,dH,c0,db,-,-⟩:=aN.b i S
     obtain⟨dd,bB⟩:=aN.tb
     have dg:=aj bB (i*2)
     have dh:=aj bB (i*2+1)
     have bl:=vi (aN.setBank S bw (show VlV aQ H (.slice W A Y) aE from ⟨by rw[cc.out];exact bC,fun e=>a4.out H e rfl⟩) aX.out.vl)
     have au:Hid (Frm [H,I] O ((aQ.setCell ⟨I,i*2,none⟩ (.slice aF A aG)).setCell ⟨I,i*2+1,none⟩ (.slice W A Y))):=vi (bA.trans (((bG aQ I (i*2) (.slice aF A aG)).trans (bG _ I (i*2+1) (.slice W A Y))).mono (by simp)))
     clear bB aN bw bC bA aL aK
     refine htF 15 ?_ ?_ ?_
     rotate_left
     ·intro w' h
      clear h
      go_simp
      try rfl
     try simp only[nrm]
     refine gd 16 (fun aD X=>?_)
     go_simp
     (skip)
     refine X.out _ _ (((Frm.refl _ _).setCell _ (.inl (by simp)) _).setCell _ (.inl (by simp)) _) ?_
     clear X aD
     try simp only[nrm]
     refine wpAnyH_done (by kernel_rfl) ?_ _
     obtain⟨bM,cu⟩:∃ bp,(aQ.setCell ⟨I,i*2,none⟩ (.slice aF A aG)).setCell ⟨I,i*2+1,none⟩ (.slice W A Y)=bp:=⟨_,rfl⟩
     rw[cu] at bl au ⊢
     obtain⟨y,bE⟩:∃ y:PS,({ x with pos:=x.pos.set i p,vals:=x.vals.set i aE }:PS)=y:=⟨_,rfl⟩
     have c6:=vi bE
     have aM:=b6.out
     have dB:=a7.out
     have cf:Hid (YSt w s a0 y bM):=vi ⟨bo.out.lo,H,I,cF,cE,bR,bS,cG,by rw[bh.out];exact au.out.at (bf.out.at a7.out (by simp)) (by simpa using ⟨bJ,bL⟩),by rw[← bE];exact bl.out,aM.1,aM.2.1,aM.2.2.1,aM.2.2.2⟩
     have bc:=vi (aa.out.frm J.out (by simp) |>.frm au.out (by intro q U;simp at U;omega))
     have a5:=vi (au.out.at (J.out.at aW.out (by simp)) (by simpa using ⟨bF,bH⟩))
     have bm:Hid (Frm [] w bM):=vi ((av.out.trans J.out).then au.out (by intro q U;simp at U;omega))
     have bT:=vi (fun a (G:Frm [] w a)=>lM (.agg #[.string s.name,.slice (some ⟨rb,cB,none⟩) n cap,.int .i64 s.cls,.int .i64 s.cap]) s t.peer a ⟨_,rfl,b9.out.frm G⟩ (by have:=aB.out.n4;omega))
     have u4:=ae a5.out 4
     clear cu bE aM dB bl au cg a7 bf b6 a9 aR bU dE dC dD bJ bL cz cA bF bH a4 b0 aa aS aT aU aW bX b8 b7 bo J ab cK b4
     go_upto_region 19 with (first
      | (refine af rfl 25 _ rfl _ rfl _ 25 bc.out.b0 _ Tryz.underlying25 rfl (by kernel_rfl) ?_)
      | (go_at_call 88;go_must (refine(bT.out _ bm.out).mono ?_;clear bT;rintro e cC ⟨rfl,cm⟩;have aA:=vi cm;clear cm u4)))
     have cM:=vi (bc.out.frm aA.out (by simp))
     have cH:=vi (aA.out.at a5.out (by simp))
     have c3:Hid (Frm [] w cC):=vi (bm.out.trans aA.out)
     have c5:=vi (cf.out.frm aA.out)
     clear bc a5 bm cf aA av
     rename_i dW dY d0 d2 d3 d4 d5
     revert s x B w i k pl cap bt c8 da c9 ch cb de n dn dp c7 c2 bh aB aX cX dy dr rb cB b9 ag ai ad ah ak am A an bi cT cS dt t cL ap aq bk aF aG bZ dF dG cd aE cc ca aY b5 dW dY dJ dR dS dU dT d6 d7 d8 dK b3 a0 dx c4 dM cN aZ du d0 cD cP bq dv ce cR wc u22 u23 u24 u25 u26 u27 u28 u29 u30 u31 u32 u33 u34 u35 u36 u37 u38 u39 u40 u41 u42 u43 u44 u45 u46 u47 u48 u49 u50 u51 u52 u53 u54 u55 u56 u57 u58 u59 u60 u61 u62 u63 u64 u65 u66 u67 u68 u69 u70 u71 u72 u73 u74 u75 u76 u77 u78 u79 u80 u81 u82 u83 u84 u85 u86 u87 u88 u89 u90 u91 u92 u93 u94 u95 u96 u97 u98 u99 u100 u101 u102 u103 u104 u105 u106 u107 u108 u109 u110 u111 u112 u113 u114 u115 u116 u117 u118 u119 u120 u121 u122 u123 u124 u125 u126 u127 u128 u129 u130 u131 u132 u133 u134 u135 u136 u137 u138 u139 u140 u141 u142 u143 u144 u145 u146 u147 u148 u149 u150 u151 u152 u153 u154 u155 u156 u157 u158 u159 u160 u161 u162 u163 u164 u165 u166 u167 u168 u169 u170 u171 u172 u173 u174 u175 u176 u177 u178 u179 u180 u181 u182 u183 u184 u185 u186 u187 u188 u189 u190 u191 u192 u193 u194 u195 u196 u197 u198 u199 u200 u201 u202 u203 u204 u205 u206 u207 u208 u209 u210 u211 u212 u213 u214 u215 u216 u217 u218 u219 u220 u221 u222 u223 u224 u225 u226 u227 u228 u229 u230 u231 u232 u233 u234 u235 u236 br W Y dw S al bb bd c1 V bj cV O p cZ H I cF cE bR bS cG a2 ar dc aQ df dH c0 db dd dg dh bM y c6 cC d2 d3 d4 d5 cM cH c3 c5
     exact cU.out
    ·have cn:(V == ((x.at i:Nat):Int))=false:=by rw[beq_eq_false_iff_ne];exact hat
     have co:(V != ((x.at i:Nat):Int))=true:=by rw[bne_iff_ne];exact hat
     have aI:doB s x ⟨1,(i:Nat),(k:Nat),pl⟩=false:=by
      rw[bb.out,if_pos (by rw[bj.out];exact decide_eq_false hat)]
     have ba:=vi aI
     clear hat aI
     go_upto_region 15 with fail
     refine ay (by kernel_rfl) (by kernel_rfl) ?_
     repeat (first
      | go_big_quiet_skip
      | (refine wpQuiet_want (by rfl) (fun aC E=>?_)
         first
          | (refine quiet_move _ (by rfl) (E _ ?_))
          | (refine quiet_assign _ (by rfl) (E _ ?_))
          | (refine aV (.int .i64 V) 87 #[.agg #[.string (s.rol i).name,.slice ag am ai,.slice ad A ah,.slice (some ⟨ap,aq,none⟩) an ak],.string t.frm] (fun w' h=>?_) (fun w' h=>Ret.cq (a3.out w' h) (fun dI aw=>h.trans aw)) (E _ ?_)
             ·go_simp)
          | (refine dO 87 _ rfl aZ rfl #[.string (s.rol i).name,.slice ag am ai,.slice ad A ah,.slice (some ⟨ap,aq,none⟩) an ak] 87 aT.out _ Tryz.underlying87 rfl (by kernel_rfl) (E _ ?_))
          | (apply Exists.intro
             refine⟨fun w' h=>?_,E _ ?_⟩
             ·(unfold Oper.quietAt
               obtain⟨⟨⟨bN,bO⟩,bP⟩,bQ⟩:=a8.out w' h
               clear h
               go_simp
               try exact⟨rfl,rfl⟩
               try rfl))
         clear E aC
         try simp only[nrm,Act.eval,nrq]))
     refine wpQuiet_nil ?_
     intro O R
     have az:=vi (aa.out.frm R (by simp))
     have bn:Hid (Frm [] w O):=vi (av.out.trans R)
     clear R
     go_wp2_with (first
      | (refine af rfl 61 _ rfl _ rfl _ 61 az.out.b1 _ Tryz.underlying61 rfl (by kernel_rfl) ?_)
      | (refine aP rfl 61 _ _ rfl _ _ _ _ rfl rfl az.out.b3 rfl (by kernel_rfl) (cI ..) ?_;intro dN aH aJ bz;have a6:=vi aH;have be:=vi aJ;clear aH aJ bz))
     refine bodyPost_ret (bs rfl rfl rfl a6.out rfl) rfl ⟨_,rfl,bn.out.then be.out (by intro k al;simp at al;omega),.inr ⟨?_,_,rfl,rfl,cI ..⟩⟩
     exact ba.out
end Go.Proofs.YtohfkhjlnlahdaaGreat
