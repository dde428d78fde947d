/- Part of the proof. -/
import Derived.Test.YtohfkhjlnlahdaaGreatQ04
import Derived.Test.YtohfkhjlnlahdaaGreatQ47
import Derived.Test.YtohfkhjlnlahdaaGreatQ36
set_option linter.all false
namespace Go.Proofs.YtohfkhjlnlahdaaGreat
open Go.RowKit Go.BigFrame
set_option maxHeartbeats 16000000 in
set_option maxRecDepth 100000 in
theorem qe:doT.1:=by
 intro s x B w i k pl cap dF dH b9 bf dL cb cQ n dR dS dz dt ak a0 aD b8 dZ dT rb d4 dn dB dJ dA dI dK d2 d1 d3 cN dj di dU t da d5 d6 dl dO dP db d7 d8 dr dy dq dp a1 dg _ _ ec ei ek eo em er et ew ed dd bK dY du ee de dD dV _ ef df cP dW dv dh wc u22 u23 u24 u25 u26 u27 u28 u29 u30 u31 u32 u33 u34 u35 u36 u37 u38 u39 u40 u41 u42 u43 u44 u45 u46 u47 u48 u49 u50 u51 u52 u53 u54 u55 u56 u57 u58 u59 u60 u61 u62 u63 u64 u65 u66 u67 u68 u69 u70 u71 u72 u73 u74 u75 u76 u77 u78 u79 u80 u81 u82 u83 u84 u85 u86 u87 u88 u89 u90 u91 u92 u93 u94 u95 u96 u97 u98 u99 u100 u101 u102 u103 u104 u105 u106 u107 u108 u109 u110 u111 u112 u113 u114 u115 u116 u117 u118 u119 u120 u121 u122 u123 u124 u125 u126 u127 u128 u129 u130 u131 u132 u133 u134 u135 u136 u137 u138 u139 u140 u141 u142 u143 u144 u145 u146 u147 u148 u149 u150 u151 u152 u153 u154 u155 u156 u157 u158 u159 u160 u161 u162 u163 u164 u165 u166 u167 u168 u169 u170 u171 u172 u173 u174 u175 u176 u177 u178 u179 u180 u181 u182 u183 u184 u185 u186 u187 u188 u189 u190 u191 u192 u193 u194 u195 u196 u197 u198 u199 u200 u201 u202 u203 u204 u205 u206 u207 u208 u209 u210 u211 u212 u213 u214 u215 u216 u217 u218 u219 u220 u221 u222 u223 u224 u225 u226 u227 u228 u229 u230 u231 u232 u233 u234 u235 u236 dE dC d0 dX ca cR cf dc cj dx dk ch eg p ci ej el ep en es eu ex J eh dM ea dQ d9 c0 cY dN am an eb y bQ W _ _ _ _ aC bJ be au
 obtain⟨dw,co⟩:∃ q,bT s t.peer=q:=⟨_,rfl⟩
 have cO:=vi co
 rw[co]
 clear co c0 cY am an
 have cS:=ae bJ.out 2
 by_cases h2k:t.kind=2
 ·have c3:(t.kind == 2)=true:=by rw[beq_iff_eq];exact h2k
  have bZ:=a0.out.peer ca (by rw[cN.out];exact cR) (by rw[a1.out,h2k];decide)
  obtain⟨q,K⟩:∃ q,bd s ((s.rol i).stp k)=q:=⟨_,rfl⟩
  rw[K,a1.out,cO.out] at bZ
  obtain⟨ct,hb,c5⟩:=bZ
  subst ct
  have aa:=hb
  have hb:=ca
  have c6:(q:Int)<(n:Int):=by rw[ak.out] at aa;omega
  obtain⟨cm,bv⟩:=b8.out.w q aa
  obtain⟨cy,bS,a2,a3,aO⟩:=b8.out.r q i aa hb
  have bW:(x.way q i).length≤64:=by have:=(aD.out.wb q i aa hb).1;have:=a0.out.k4;omega
  have bk:=vi (fun G (R:Frm [] w G)=>iu s.cls s.cap cy (x.way q i) pl G (aO.frm R (by simp)) bW)
  obtain⟨cA,cB,rfl,-⟩:=aO.shape
  obtain⟨aL,bt⟩:∃ M,cZ s.cls (x.way q i) pl=M:=⟨_,rfl⟩
  obtain⟨bR,cp⟩:∃ M,dm s.cls (x.way q i) pl=M:=⟨_,rfl⟩
  obtain⟨bp,bu⟩:∃ M,dG s.cls (x.way q i) pl=M:=⟨_,rfl⟩
  obtain⟨ar,bX⟩:∃ M,bp.length=M:=⟨_,rfl⟩
  rw[cp,bt,bu] at bk
  have bN:=vi bX
  have bg:doB s x ⟨1,(i:Nat),(k:Nat),pl⟩=decide (aL=0∧bR=t.msg):=by
   rw[cf.out,if_neg (by rw[ch.out];decide),K,a1.out,if_pos h2k,bt,cp]
  have b3:y.ways=x.ways:=by rw[← bQ.out]
  have bi:bh s x ⟨1,(i:Nat),(k:Nat),pl⟩={ y with ways:=setWay y.ways q i bp }:=by
   rw[ez,K,a1.out,ci.out,cj.out,if_neg (by omega),if_pos h2k,bu,← bQ.out]
   rfl
  have av:=vi bg;have bc:=vi bi;have bP:=vi b3
  rw[ak.out] at bv
  have bL:Hid (∀ G,Frm [] W G→(((G.cell? ⟨w.heap.size+1,2,none⟩=some (.slice (some ⟨b9,0,none⟩) n cQ)∧G.cell? ⟨w.heap.size+2,1,none⟩=some (.int .i64 (i:Nat)))∧G.cell? ⟨w.heap.size+2,3,none⟩=some (.int .i64 pl)∧G.cell? ⟨b9,q,none⟩=some (.slice (some ⟨bf q,0,none⟩) n cm))∧G.cell? ⟨bf q,i*3,none⟩=some (.int .i64 s.cls)∧G.cell? ⟨bf q,i*3+1,none⟩=some (.int .i64 s.cap)∧G.cell? ⟨bf q,i*3+2,none⟩=some (.slice cA (x.way q i).length cB))):=vi fun G R=>by
   have a5:=be.out.trans R
   exact⟨⟨⟨ae (R.at aC.out.b1 (by simp)) 2,ae (R.at aC.out.b2 (by simp)) 1⟩,ae (R.at aC.out.b2 (by simp)) 3,a5.keep bv⟩,a5.keep bS,a5.keep a2,a5.keep a3⟩
  have bj:=vi (fun G (R:Frm [] W G)=>bk.out G (be.out.trans R))
  clear bt cp bu bX bg bi b3 bv bS a2 a3 aO bW bk h2k K
  go_upto_region 20 with fail
  clear cS
  go_upto_region 20 with fail
  try simp only[Act.put]
  go_cut [17,18,19] (fun s17 s18 s19 wc=>∃ (U:Nat) (X:Option Addr) (Y:Nat),s17=.pointer (some ⟨U,0,none⟩)∧s18=.string bR∧s19=.int .i64 aL∧wc.heap[U]?=some (.cells #[.int .i64 s.cls,.int .i64 s.cap,.slice X ar Y] 164 (0,0))∧Lf wc (.slice X ar Y) bp∧Frm [] W wc∧W.heap.size≤U)
  case first =>
   refine bH [] (oW [17,18,19]) (by kernel_rfl) ?_
   refine cnt 0 ?_
   iterate 11
    refine hcL ?_ ?_ ?_
    rotate_left
    ·intro w' H
     obtain⟨⟨⟨cG,cH⟩,c9,aU⟩,cJ,cK,cL⟩:=bL.out w' ((Frm.refl [] W).drew.trans H)
     clear H
     go_simp
     try rfl
    try simp only[nrm,Nat.reduceAdd]
   refine tcn ?_
   obtain⟨J,N⟩:∃ J,W.drew=J:=⟨_,rfl⟩
   have E:Frm [] W J:=by rw[← N];exact(Frm.refl _ _).drew
   rw[N]
   clear N
   refine aJ (rs:=[11,16]) (by kernel_rfl) (by simp) (aE ?_ (aE ?_ aM))
   ·skip
    refine ax (i:=11) rfl rfl (by rfl) (fun I h=>?_)
    go_simp
    (refine(bj.out _ E).mono ?_;rintro e aT ⟨u,rfl,cz,rfl,ag,af,cr⟩;obtain⟨X,Y,rfl,-⟩:=ag.shape;rw[bN.out] at ag ⊢)
    refine h.out _ _ (af) ?_
    clear h I
    try simp only[nrm]
    refine cnt 12 ?_
    iterate 4
     refine hcP ?_ ?_ ?_
     rotate_left
     ·intro w'
      go_simp
      try rfl
     try simp only[nrm,Nat.reduceAdd]
    refine tcn ?_
    refine bE 16 ?_
    refine ax (i:=16) rfl rfl (by rfl) (fun I h=>?_)
    go_simp
    (skip)
    refine h.out _ _ ((Frm.refl _ _).alloc _) ?_
    clear h I
    try simp only[nrm]
    obtain⟨U,ad⟩:∃ b,aT.heap.size=b:=⟨_,rfl⟩
    have a:=heap_alloc_new aT (.cells #[.int .i64 0,.int .i64 0,.slice none 0 0] 164)
    have ay:Frm [] W (aT.alloc (.cells #[.int .i64 0,.int .i64 0,.slice none 0 0] 164)):=(E.trans af).alloc _
    have aA:=ag.frm ((Frm.refl [] aT).alloc (.cells #[.int .i64 0,.int .i64 0,.slice none 0 0] 164)) (by simp)
    obtain⟨cF,bA⟩:∃ aN,aT.alloc (.cells #[.int .i64 0,.int .i64 0,.slice none 0 0] 164)=aN:=⟨_,rfl⟩
    rw[bA,ad] at a ⊢
    rw[bA] at ay aA
    have aP:W.heap.size≤U:=ad ▸ (E.trans af).size
    clear bA ad
    have aV:=ae a 0
    have aW:=ae a 1
    have aX:=ae a 2
    have am:=aj a 0
    have an:=aj a 1
    have aw:=aj a 2
    have O:=vi (fI (u:=.int .i64 s.cls) (v:=.int .i64 s.cap) (z:=.slice X ar Y) a rfl)
    have bm:=vi aA
    have bl:=vi ay
    have aH:=vi aP
    clear a aA ay ag af E aP
    refine bE 17 ?_
    refine az (i:=17) rfl (by rfl) (by rfl) (fun I h=>?_)
    go_simp
    (skip)
    refine h.out _ _ ?_
    clear h I
    try simp only[nrm]
    refine bE 18 ?_
    refine az (i:=18) rfl (by rfl) (by rfl) (fun I h=>?_)
    go_simp
    (skip)
    refine h.out _ _ ?_
    clear h I
    try simp only[nrm]
    refine bE 19 ?_
    refine az (i:=19) rfl (by rfl) (by rfl) (fun I h=>?_)
    go_simp
    (skip)
    refine h.out _ _ ?_
    clear h I
    try simp only[nrm]
    refine aR (by kernel_rfl) ?_ _
    go_wp2
    go_meet
    exact⟨U,X,Y,rfl,rfl,rfl,O.out.1,bm.out.kt O.out.2.2,bl.out.then O.out.2.1 (by intro q K;simp at K;subst K;exact .inr aH.out),aH.out⟩
   ·skip
    refine ax (i:=16) rfl rfl (by rfl) (fun I h=>?_)
    go_simp
    (skip)
    refine h.out _ _ ((Frm.refl _ _).alloc _) ?_
    clear h I
    try simp only[nrm]
    obtain⟨U,ad⟩:∃ b,J.heap.size=b:=⟨_,rfl⟩
    have b4:=heap_alloc_new J (.cells #[.int .i64 0,.int .i64 0,.slice none 0 0] 164)
    obtain⟨cE,bz⟩:∃ aN,J.alloc (.cells #[.int .i64 0,.int .i64 0,.slice none 0 0] 164)=aN:=⟨_,rfl⟩
    have bU:Frm [] W cE:=by rw[← bz];exact E.alloc _
    rw[bz,ad] at b4 ⊢
    have aP:W.heap.size≤U:=ad ▸ E.size
    clear bz ad
    refine bE 11 ?_
    refine ax (i:=11) rfl rfl (by rfl) (fun I h=>?_)
    go_simp
    (refine(bj.out _ bU).mono ?_;rintro e cF ⟨u,rfl,cz,rfl,ag,af,cr⟩;obtain⟨X,Y,rfl,-⟩:=ag.shape;rw[bN.out] at ag ⊢)
    refine h.out _ _ (af) ?_
    clear h I
    try simp only[nrm]
    refine cnt 12 ?_
    iterate 4
     refine hcP ?_ ?_ ?_
     rotate_left
     ·intro w'
      go_simp
      try rfl
     try simp only[nrm,Nat.reduceAdd]
    refine tcn ?_
    have a:=af.at b4 (by simp)
    have ay:=bU.trans af
    have aA:=ag
    have aV:=ae a 0
    have aW:=ae a 1
    have aX:=ae a 2
    have am:=aj a 0
    have an:=aj a 1
    have aw:=aj a 2
    have O:=vi (fI (u:=.int .i64 s.cls) (v:=.int .i64 s.cap) (z:=.slice X ar Y) a rfl)
    have bm:=vi aA
    have bl:=vi ay
    have aH:=vi aP
    clear a aA ay ag af E aP
    refine bE 17 ?_
    refine az (i:=17) rfl (by rfl) (by rfl) (fun I h=>?_)
    go_simp
    (skip)
    refine h.out _ _ ?_
    clear h I
    try simp only[nrm]
    refine bE 18 ?_
    refine az (i:=18) rfl (by rfl) (by rfl) (fun I h=>?_)
    go_simp
    (skip)
    refine h.out _ _ ?_
    clear h I
    try simp only[nrm]
    refine bE 19 ?_
    refine az (i:=19) rfl (by rfl) (by rfl) (fun I h=>?_)
    go_simp
    (skip)
    refine h.out _ _ ?_
    clear h I
    try simp only[nrm]
    refine aR (by kernel_rfl) ?_ _
    go_wp2
    go_meet
    exact⟨U,X,Y,rfl,rfl,rfl,O.out.1,bm.out.kt O.out.2.2,bl.out.then O.out.2.1 (by intro q K;simp at K;subst K;exact .inr aH.out),aH.out⟩
  case rest =>
   obtain⟨U,X,Y,rfl,rfl,rfl,ad,bY,bV,c4⟩:=hcut
   obtain⟨a7,cu⟩:∃ q,q=wc:=⟨_,rfl⟩
   subst cu
   have ce:=vi ad;have cg:=vi bY;have ai:=vi bV
   clear ad bY bV bj bL
   obtain⟨a8,a9,aB,V,aF,ba,aY,ap,aS,cv,cw,cx,b6⟩:=au.out.out
   rw[ak.out] at ap
   obtain⟨cn,bw⟩:=aS.w q aa
   rw[ak.out] at bw
   have c7:=(aS.ti q aa).lt
   have bx:=aS.ti q aa
   have cq:=b6 q aa
   have b7:bK≠V q:=Ty.ne ⟨_,ap⟩ bx (by decide)
   have cC:=(aS.tw.ne bx (by decide))
   have cD:U≠V q:=by omega
   have cl:=vi aS
   have bM:Hid (∀ G,Frm [V q] a7 G→(((G.cell? ⟨bK,2,none⟩=some (.slice (some ⟨aB,0,none⟩) n aY)∧G.cell? ⟨w.heap.size+2,1,none⟩=some (.int .i64 (i:Nat)))∧G.cell? ⟨aB,q,none⟩=some (.slice (some ⟨V q,0,none⟩) n cn))∧G.cell? ⟨U,0,none⟩=some (.int .i64 s.cls)∧G.cell? ⟨U,1,none⟩=some (.int .i64 s.cap)∧G.cell? ⟨U,2,none⟩=some (.slice X ar Y))):=vi fun G R=>by
    have a2:=R.at (ai.out.at ap (by simp)) (by simpa using b7)
    have a3:=R.at (ai.out.at aC.out.b2 (by simp)) (by simp;omega)
    have aO:=R.cellAt (ai.out.keep bw) (by simpa using cC)
    have bq:=R.at ce.out (by simpa using cD)
    exact⟨⟨⟨ae a2 2,ae a3 1⟩,aO⟩,ae bq 0,ae bq 1,ae bq 2⟩
   have cd:=vi ap
   clear ap bw
   go_upto_region 21 with fail
   refine bI (F:=[V q]) (by kernel_rfl) ?_
   obtain⟨bB,N⟩:∃ J,a7.drew=J:=⟨_,rfl⟩
   have E:Frm [] a7 bB:=by rw[← N];exact(Frm.refl _ _).drew
   rw[N]
   clear N
   refine cnt 0 ?_
   iterate 8
    refine hcF ?_ ?_ ?_
    rotate_left
    ·intro w' H
     obtain⟨⟨⟨cG,cH⟩,aU⟩,cJ,cK,cL⟩:=bM.out w' ((E.mono (by simp)).trans H)
     clear H
     go_simp
     try rfl
    try simp only[nrm,Nat.reduceAdd]
   refine tcn ?_
   refine htF 8 ?_ ?_ ?_
   rotate_left
   ·intro w' H
    clear H
    go_simp
    try rfl
   try simp only[nrm]
   have a6:=cl.out.frm (ai.out.trans E)
   obtain⟨c8,s0,s1,s2,-⟩:=a6.r q i aa hb
   obtain⟨c1,a4⟩:=a6.ti q aa
   have am:=aj a4 (i*3)
   have an:=aj a4 (i*3+1)
   have aw:=aj a4 (i*3+2)
   have bn:=vi (a6.setWay aa hb (cg.out.frm E (by simp)) (by rw[bP.out];exact aD.out.wl) (by rw[bP.out];exact aD.out.wr q aa))
   have aI:Hid (Frm [V q] a7 _):=vi ((E.mono (by simp)).trans (((bG bB (V q) (i*3) (.int .i64 s.cls)).trans (bG _ (V q) (i*3+1) (.int .i64 s.cap))).trans (bG _ (V q) (i*3+2) (.slice X ar Y))))
   clear a6 a4
   refine gd 9 (fun I h=>?_)
   go_simp
   (skip)
   refine h.out _ _ ((((Frm.refl [V q] _).setCell _ (.inl (by simp)) _).setCell _ (.inl (by simp)) _).setCell _ (.inl (by simp)) _) ?_
   clear h I
   try simp only[nrm]
   refine wpAnyH_done (by kernel_rfl) ?_ _
   obtain⟨ah,b0⟩:∃ aN,((bB.setCell ⟨V q,i*3,none⟩ (.int .i64 s.cls)).setCell ⟨V q,i*3+1,none⟩ (.int .i64 s.cap)).setCell ⟨V q,i*3+2,none⟩ (.slice X ar Y)=aN:=⟨_,rfl⟩
   rw[b0] at bn aI ⊢
   have aG:=vi (aI.out.at (ai.out.at cd.out (by simp)) (by simpa using b7))
   have bb:=vi ((aC.out.frm ai.out (by simp)).frm aI.out (by intro q K;simp at K;subst K;exact cq))
   have cM:=vi (aI.out.at (ai.out.at bJ.out (by simp)) (by simpa using Ty.ne ⟨_,bJ.out⟩ bx (by decide)))
   have bo:Hid (Frm [] w ah):=vi ((be.out.trans ai.out).then aI.out (by intro q K;simp at K;subst K;exact .inr (by omega)))
   have ck:Hid (YSt w s bK _ ah):=vi ⟨au.out.lo,a8,a9,aB,V,aF,ba,aY,by rw[ak.out];exact aG.out,bn.out,cv,cw,cx,b6⟩
   clear b0 bn bM E
   have aZ:Hid (∀ G,Frm [w.heap.size+3] ah G→G.cell? ⟨cP,3,none⟩=some (.string t.msg)):=vi fun G R=>ae (R.at cM.out (by simp;omega)) 3
   by_cases a:aL=0
   ·have b5:(aL == 0)=true:=by rw[beq_iff_eq];exact a
    by_cases aq:bR=t.msg
    ·have cs:(bR.toList == t.msg.toList)=true:=by rw[aK];exact decide_eq_true aq
     have aQ:=fj a0.out aD.out ((gk a0.out aD.out _).1 (av.out.trans (decide_eq_true ⟨a,aq⟩)))
     rw[bc.out] at aQ
     have bO:=vi aQ
     have al:=vi (And.intro a aq)
     clear aQ a aq
     go_upto_region 22 with fail
     refine bI (F:=[w.heap.size+3]) (by kernel_rfl) ?_
     obtain⟨J,N⟩:∃ J,ah.drew=J:=⟨_,rfl⟩
     have E:Frm [] ah J:=by rw[← N];exact(Frm.refl _ _).drew
     rw[N]
     clear N
     refine cnt 0 ?_
     iterate 9
      refine hcF ?_ ?_ ?_
      rotate_left
      ·intro w' H
       have S:=(E.mono (by simp)).trans H
       have a:=S.at aG.out (by simp;have:=au.out.lo;omega)
       have bC:=ae a 0
       have bD:=ae a 1
       have bF:=ae a 2
       have aU:=aZ.out w' S
       clear a S
       clear H
       go_simp
       try rfl
      try simp only[nrm,Nat.reduceAdd]
     refine tcn ?_
     have A:=E.at bb.out.b3 (by simp)
     have am:=aj A 0
     have an:=aj A 1
     have aw:=aj A 2
     have aV:=ae A 0
     have aW:=ae A 1
     have aX:=ae A 2
     have O:=vi (fI (u:=.slice (some ⟨a8,0,none⟩) n aF) (v:=.slice (some ⟨a9,0,none⟩) n ba) (z:=.slice (some ⟨aB,0,none⟩) n aY) A rfl)
     have ab:=vi E
     clear A E
     refine gd 9 (fun I h=>?_)
     go_simp
     (skip)
     refine h.out _ _ (((Frm.refl _ _).setCell _ (.inl (by simp)) _).setCell _ (.inl (by simp)) _ |>.setCell _ (.inl (by simp)) _) ?_
     clear h I
     try simp only[nrm]
     refine htF 10 ?_ ?_ ?_
     rotate_left
     ·intro w' H
      clear H
      go_simp
      try rfl
     try simp only[nrm]
     refine wpAnyH_done (by kernel_rfl) ?_ _
     go_wp2
     refine bodyPost_ret (bs rfl rfl rfl O.out.1 rfl) rfl ⟨_,rfl,(bo.out.trans ab.out).then O.out.2.1 (by intro q K;simp at K;omega),.inl ⟨by rw[av.out];exact decide_eq_true al.out,_,rfl,?_⟩⟩
     rw[bc.out]
     have:=(ck.out.frm ab.out).end bO.out (by rw[ak.out];exact ab.out.at aG.out (by simp)) O.out.2.2
     rw[ak.out] at this
     exact this
    ·have cs:(bR.toList == t.msg.toList)=false:=by rw[aK];exact decide_eq_false aq
     have al:=vi aq
     clear a aq
     go_upto_region 22 with fail
     refine bI (F:=[w.heap.size+3]) (by kernel_rfl) ?_
     obtain⟨J,N⟩:∃ J,ah.drew=J:=⟨_,rfl⟩
     have E:Frm [] ah J:=by rw[← N];exact(Frm.refl _ _).drew
     rw[N]
     clear N
     refine cnt 0 ?_
     iterate 9
      refine hcF ?_ ?_ ?_
      rotate_left
      ·intro w' H
       have S:=(E.mono (by simp)).trans H
       have a:=S.at aG.out (by simp;have:=au.out.lo;omega)
       have bC:=ae a 0
       have bD:=ae a 1
       have bF:=ae a 2
       have aU:=aZ.out w' S
       clear a S
       clear H
       go_simp
       try rfl
      try simp only[nrm,Nat.reduceAdd]
     refine tcn ?_
     have A:=E.at bb.out.b3 (by simp)
     have am:=aj A 0
     have an:=aj A 1
     have aw:=aj A 2
     have aV:=ae A 0
     have aW:=ae A 1
     have aX:=ae A 2
     have O:=vi (fI (u:=.slice (some ⟨a8,0,none⟩) n aF) (v:=.slice (some ⟨a9,0,none⟩) n ba) (z:=.slice (some ⟨aB,0,none⟩) n aY) A rfl)
     have ab:=vi E
     clear A E
     refine gd 9 (fun I h=>?_)
     go_simp
     (skip)
     refine h.out _ _ (((Frm.refl _ _).setCell _ (.inl (by simp)) _).setCell _ (.inl (by simp)) _ |>.setCell _ (.inl (by simp)) _) ?_
     clear h I
     try simp only[nrm]
     refine htF 10 ?_ ?_ ?_
     rotate_left
     ·intro w' H
      clear H
      go_simp
      try rfl
     try simp only[nrm]
     refine wpAnyH_done (by kernel_rfl) ?_ _
     go_wp2
     refine bodyPost_ret (bs rfl rfl rfl O.out.1 rfl) rfl ⟨_,rfl,(bo.out.trans ab.out).then O.out.2.1 (by intro q K;simp at K;omega),.inr ⟨by rw[av.out];exact decide_eq_false (fun br=>al.out br.2),_,rfl,rfl,cI ..⟩⟩
   ·have b5:(aL == 0)=false:=by rw[beq_eq_false_iff_ne];exact a
    have al:=vi a
    clear a
    go_upto_region 22 with fail
    refine bI (F:=[w.heap.size+3]) (by kernel_rfl) ?_
    obtain⟨J,N⟩:∃ J,ah.drew=J:=⟨_,rfl⟩
    have E:Frm [] ah J:=by rw[← N];exact(Frm.refl _ _).drew
    rw[N]
    clear N
    refine cnt 0 ?_
    iterate 4
     refine hcF ?_ ?_ ?_
     rotate_left
     ·intro w' H
      have S:=(E.mono (by simp)).trans H
      have a:=S.at aG.out (by simp;have:=au.out.lo;omega)
      have bC:=ae a 0
      have bD:=ae a 1
      have bF:=ae a 2
      have aU:=aZ.out w' S
      clear a S
      clear H
      go_simp
      try rfl
     try simp only[nrm,Nat.reduceAdd]
    refine tcn ?_
    refine cnt 4 ?_
    iterate 4
     refine hdF ?_
     try simp only[nrm,Nat.reduceAdd]
    refine tcn ?_
    refine htF 8 ?_ ?_ ?_
    rotate_left
    ·intro w' H
     clear H
     go_simp
     try rfl
    try simp only[nrm]
    have A:=E.at bb.out.b3 (by simp)
    have am:=aj A 0
    have an:=aj A 1
    have aw:=aj A 2
    have aV:=ae A 0
    have aW:=ae A 1
    have aX:=ae A 2
    have O:=vi (fI (u:=.slice (some ⟨a8,0,none⟩) n aF) (v:=.slice (some ⟨a9,0,none⟩) n ba) (z:=.slice (some ⟨aB,0,none⟩) n aY) A rfl)
    have ab:=vi E
    clear A E
    refine gd 9 (fun I h=>?_)
    go_simp
    (skip)
    refine h.out _ _ (((Frm.refl _ _).setCell _ (.inl (by simp)) _).setCell _ (.inl (by simp)) _ |>.setCell _ (.inl (by simp)) _) ?_
    clear h I
    try simp only[nrm]
    refine htF 10 ?_ ?_ ?_
    rotate_left
    ·intro w' H
     clear H
     go_simp
     try rfl
    try simp only[nrm]
    refine wpAnyH_done (by kernel_rfl) ?_ _
    go_wp2
    refine bodyPost_ret (bs rfl rfl rfl O.out.1 rfl) rfl ⟨_,rfl,(bo.out.trans ab.out).then O.out.2.1 (by intro q K;simp at K;omega),.inr ⟨by rw[av.out];exact decide_eq_false (fun br=>al.out br.1),_,rfl,rfl,cI ..⟩⟩
 ·have c3:(t.kind == 2)=false:=by rw[beq_eq_false_iff_ne];exact h2k
  by_cases h1k:t.kind=1
  ·have c2:(t.kind == 1)=true:=by rw[beq_iff_eq];exact h1k
   have bZ:=a0.out.peer ca (by rw[cN.out];exact cR) (by rw[a1.out,h1k];decide)
   obtain⟨q,K⟩:∃ q,bd s ((s.rol i).stp k)=q:=⟨_,rfl⟩
   rw[K,a1.out,cO.out] at bZ
   obtain⟨ct,hb,c5⟩:=bZ
   subst ct
   have aa:=ca
   have c6:(q:Int)<(n:Int):=by rw[ak.out] at hb;omega
   obtain⟨cm,bv⟩:=b8.out.w i aa
   obtain⟨cy,bS,a2,a3,aO⟩:=b8.out.r i q aa hb
   have bW:(x.way i q).length≤64:=by have:=(aD.out.wb i q aa hb).1;have:=a0.out.k4;omega
   have bk:=vi (fun G (R:Frm [] w G)=>oh s.cls s.cap cy (x.way i q) t.msg G (aO.frm R (by simp)) bW)
   obtain⟨cA,cB,rfl,-⟩:=aO.shape
   obtain⟨aL,bt⟩:∃ M,eq s.cap (x.way i q) t.msg=M:=⟨_,rfl⟩
   obtain⟨bp,bu⟩:∃ M,gv s.cap (x.way i q) t.msg=M:=⟨_,rfl⟩
   obtain⟨ar,bX⟩:∃ M,bp.length=M:=⟨_,rfl⟩
   rw[bt,bu] at bk
   have bN:=vi bX
   have bg:doB s x ⟨1,(i:Nat),(k:Nat),pl⟩=decide (aL=0∧pl=0):=by
    rw[cf.out,if_neg (by rw[ch.out];decide),K,a1.out,if_neg h2k,if_pos h1k,bt]
   have b3:y.ways=x.ways:=by rw[← bQ.out]
   have bi:bh s x ⟨1,(i:Nat),(k:Nat),pl⟩={ y with ways:=setWay y.ways i q bp }:=by
    rw[ez,K,a1.out,ci.out,cj.out,if_pos h1k,bu,← bQ.out]
    rfl
   have av:=vi bg;have bc:=vi bi;have bP:=vi b3
   rw[ak.out] at bv
   have bL:Hid (∀ G,Frm [] W G→(((G.cell? ⟨w.heap.size+1,2,none⟩=some (.slice (some ⟨b9,0,none⟩) n cQ)∧G.cell? ⟨w.heap.size+2,1,none⟩=some (.int .i64 (i:Nat)))∧G.cell? ⟨cP,3,none⟩=some (.string t.msg)∧G.cell? ⟨b9,i,none⟩=some (.slice (some ⟨bf i,0,none⟩) n cm))∧G.cell? ⟨bf i,q*3,none⟩=some (.int .i64 s.cls)∧G.cell? ⟨bf i,q*3+1,none⟩=some (.int .i64 s.cap)∧G.cell? ⟨bf i,q*3+2,none⟩=some (.slice cA (x.way i q).length cB))):=vi fun G R=>by
    have a5:=be.out.trans R
    exact⟨⟨⟨ae (R.at aC.out.b1 (by simp)) 2,ae (R.at aC.out.b2 (by simp)) 1⟩,ae (R.at bJ.out (by simp)) 3,a5.keep bv⟩,a5.keep bS,a5.keep a2,a5.keep a3⟩
   have bj:=vi (fun G (R:Frm [] W G)=>bk.out G (be.out.trans R))
   clear bt bu bX bg bi b3 bv bS a2 a3 aO bW bk h2k h1k K
   go_upto_region 24 with fail
   clear cS
   go_upto_region 24 with fail
   try simp only[Act.put]
   go_cut [20,21] (fun s20 s21 wc=>∃ (U:Nat) (X:Option Addr) (Y:Nat),s20=.pointer (some ⟨U,0,none⟩)∧s21=.int .i64 aL∧wc.heap[U]?=some (.cells #[.int .i64 s.cls,.int .i64 s.cap,.slice X ar Y] 164 (0,0))∧Lf wc (.slice X ar Y) bp∧Frm [] W wc∧W.heap.size≤U)
   case first =>
    refine bH [] (oW [16,17]) (by kernel_rfl) ?_
    refine cnt 0 ?_
    iterate 11
     refine hcL ?_ ?_ ?_
     rotate_left
     ·intro w' H
      obtain⟨⟨⟨cG,cH⟩,c9,aU⟩,cJ,cK,cL⟩:=bL.out w' ((Frm.refl [] W).drew.trans H)
      clear H
      go_simp
      try rfl
     try simp only[nrm,Nat.reduceAdd]
    refine tcn ?_
    obtain⟨J,N⟩:∃ J,W.drew=J:=⟨_,rfl⟩
    have E:Frm [] W J:=by rw[← N];exact(Frm.refl _ _).drew
    rw[N]
    clear N
    refine aJ (rs:=[11,15]) (by kernel_rfl) (by simp) (aE ?_ (aE ?_ aM))
    ·skip
     refine ax (i:=11) rfl rfl (by rfl) (fun I h=>?_)
     go_simp
     (refine(bj.out _ E).mono ?_;rintro e aT ⟨u,rfl,cz,rfl,ag,af,cr⟩;obtain⟨X,Y,rfl,-⟩:=ag.shape;rw[bN.out] at ag ⊢)
     refine h.out _ _ (af) ?_
     clear h I
     try simp only[nrm]
     refine cnt 12 ?_
     iterate 3
      refine hcP ?_ ?_ ?_
      rotate_left
      ·intro w'
       go_simp
       try rfl
      try simp only[nrm,Nat.reduceAdd]
     refine tcn ?_
     refine bE 15 ?_
     refine ax (i:=15) rfl rfl (by rfl) (fun I h=>?_)
     go_simp
     (skip)
     refine h.out _ _ ((Frm.refl _ _).alloc _) ?_
     clear h I
     try simp only[nrm]
     obtain⟨U,ad⟩:∃ b,aT.heap.size=b:=⟨_,rfl⟩
     have a:=heap_alloc_new aT (.cells #[.int .i64 0,.int .i64 0,.slice none 0 0] 164)
     have ay:Frm [] W (aT.alloc (.cells #[.int .i64 0,.int .i64 0,.slice none 0 0] 164)):=(E.trans af).alloc _
     have aA:=ag.frm ((Frm.refl [] aT).alloc (.cells #[.int .i64 0,.int .i64 0,.slice none 0 0] 164)) (by simp)
     obtain⟨cF,bA⟩:∃ aN,aT.alloc (.cells #[.int .i64 0,.int .i64 0,.slice none 0 0] 164)=aN:=⟨_,rfl⟩
     rw[bA,ad] at a ⊢
     rw[bA] at ay aA
     have aP:W.heap.size≤U:=ad ▸ (E.trans af).size
     clear bA ad
     have aV:=ae a 0
     have aW:=ae a 1
     have aX:=ae a 2
     have am:=aj a 0
     have an:=aj a 1
     have aw:=aj a 2
     have O:=vi (fI (u:=.int .i64 s.cls) (v:=.int .i64 s.cap) (z:=.slice X ar Y) a rfl)
     have bm:=vi aA
     have bl:=vi ay
     have aH:=vi aP
     clear a aA ay ag af E aP
     refine bE 16 ?_
     refine az (i:=16) rfl (by rfl) (by rfl) (fun I h=>?_)
     go_simp
     (skip)
     refine h.out _ _ ?_
     clear h I
     try simp only[nrm]
     refine bE 17 ?_
     refine az (i:=17) rfl (by rfl) (by rfl) (fun I h=>?_)
     go_simp
     (skip)
     refine h.out _ _ ?_
     clear h I
     try simp only[nrm]
     refine aR (by kernel_rfl) ?_ _
     go_wp2
     go_meet
     exact⟨U,X,Y,rfl,rfl,O.out.1,bm.out.kt O.out.2.2,bl.out.then O.out.2.1 (by intro q K;simp at K;subst K;exact .inr aH.out),aH.out⟩
    ·skip
     refine ax (i:=15) rfl rfl (by rfl) (fun I h=>?_)
     go_simp
     (skip)
     refine h.out _ _ ((Frm.refl _ _).alloc _) ?_
     clear h I
     try simp only[nrm]
     obtain⟨U,ad⟩:∃ b,J.heap.size=b:=⟨_,rfl⟩
     have b4:=heap_alloc_new J (.cells #[.int .i64 0,.int .i64 0,.slice none 0 0] 164)
     obtain⟨cE,bz⟩:∃ aN,J.alloc (.cells #[.int .i64 0,.int .i64 0,.slice none 0 0] 164)=aN:=⟨_,rfl⟩
     have bU:Frm [] W cE:=by rw[← bz];exact E.alloc _
     rw[bz,ad] at b4 ⊢
     have aP:W.heap.size≤U:=ad ▸ E.size
     clear bz ad
     refine bE 11 ?_
     refine ax (i:=11) rfl rfl (by rfl) (fun I h=>?_)
     go_simp
     (refine(bj.out _ bU).mono ?_;rintro e cF ⟨u,rfl,cz,rfl,ag,af,cr⟩;obtain⟨X,Y,rfl,-⟩:=ag.shape;rw[bN.out] at ag ⊢)
     refine h.out _ _ (af) ?_
     clear h I
     try simp only[nrm]
     refine cnt 12 ?_
     iterate 3
      refine hcP ?_ ?_ ?_
      rotate_left
      ·intro w'
       go_simp
       try rfl
      try simp only[nrm,Nat.reduceAdd]
     refine tcn ?_
     have a:=af.at b4 (by simp)
     have ay:=bU.trans af
     have aA:=ag
     have aV:=ae a 0
     have aW:=ae a 1
     have aX:=ae a 2
     have am:=aj a 0
     have an:=aj a 1
     have aw:=aj a 2
     have O:=vi (fI (u:=.int .i64 s.cls) (v:=.int .i64 s.cap) (z:=.slice X ar Y) a rfl)
     have bm:=vi aA
     have bl:=vi ay
     have aH:=vi aP
     clear a aA ay ag af E aP
     refine bE 16 ?_
     refine az (i:=16) rfl (by rfl) (by rfl) (fun I h=>?_)
     go_simp
     (skip)
     refine h.out _ _ ?_
     clear h I
     try simp only[nrm]
     refine bE 17 ?_
     refine az (i:=17) rfl (by rfl) (by rfl) (fun I h=>?_)
     go_simp
     (skip)
     refine h.out _ _ ?_
     clear h I
     try simp only[nrm]
     refine aR (by kernel_rfl) ?_ _
     go_wp2
     go_meet
     exact⟨U,X,Y,rfl,rfl,O.out.1,bm.out.kt O.out.2.2,bl.out.then O.out.2.1 (by intro q K;simp at K;subst K;exact .inr aH.out),aH.out⟩
   case rest =>
    obtain⟨U,X,Y,rfl,rfl,ad,bY,bV,c4⟩:=hcut
    obtain⟨a7,cu⟩:∃ q,q=wc:=⟨_,rfl⟩
    subst cu
    have ce:=vi ad;have cg:=vi bY;have ai:=vi bV
    clear ad bY bV bj bL
    obtain⟨a8,a9,aB,V,aF,ba,aY,ap,aS,cv,cw,cx,b6⟩:=au.out.out
    rw[ak.out] at ap
    obtain⟨cn,bw⟩:=aS.w i aa
    rw[ak.out] at bw
    have c7:=(aS.ti i aa).lt
    have bx:=aS.ti i aa
    have cq:=b6 i aa
    have b7:bK≠V i:=Ty.ne ⟨_,ap⟩ bx (by decide)
    have cC:=(aS.tw.ne bx (by decide))
    have cD:U≠V i:=by omega
    have cl:=vi aS
    have bM:Hid (∀ G,Frm [V i] a7 G→(((G.cell? ⟨bK,2,none⟩=some (.slice (some ⟨aB,0,none⟩) n aY)∧G.cell? ⟨w.heap.size+2,1,none⟩=some (.int .i64 (i:Nat)))∧G.cell? ⟨aB,i,none⟩=some (.slice (some ⟨V i,0,none⟩) n cn))∧G.cell? ⟨U,0,none⟩=some (.int .i64 s.cls)∧G.cell? ⟨U,1,none⟩=some (.int .i64 s.cap)∧G.cell? ⟨U,2,none⟩=some (.slice X ar Y))):=vi fun G R=>by
     have a2:=R.at (ai.out.at ap (by simp)) (by simpa using b7)
     have a3:=R.at (ai.out.at aC.out.b2 (by simp)) (by simp;omega)
     have aO:=R.cellAt (ai.out.keep bw) (by simpa using cC)
     have bq:=R.at ce.out (by simpa using cD)
     exact⟨⟨⟨ae a2 2,ae a3 1⟩,aO⟩,ae bq 0,ae bq 1,ae bq 2⟩
    have cd:=vi ap
    clear ap bw
    go_upto_region 25 with fail
    refine bI (F:=[V i]) (by kernel_rfl) ?_
    obtain⟨bB,N⟩:∃ J,a7.drew=J:=⟨_,rfl⟩
    have E:Frm [] a7 bB:=by rw[← N];exact(Frm.refl _ _).drew
    rw[N]
    clear N
    refine cnt 0 ?_
    iterate 8
     refine hcF ?_ ?_ ?_
     rotate_left
     ·intro w' H
      obtain⟨⟨⟨cG,cH⟩,aU⟩,cJ,cK,cL⟩:=bM.out w' ((E.mono (by simp)).trans H)
      clear H
      go_simp
      try rfl
     try simp only[nrm,Nat.reduceAdd]
    refine tcn ?_
    refine htF 8 ?_ ?_ ?_
    rotate_left
    ·intro w' H
     clear H
     go_simp
     try rfl
    try simp only[nrm]
    have a6:=cl.out.frm (ai.out.trans E)
    obtain⟨c8,s0,s1,s2,-⟩:=a6.r i q aa hb
    obtain⟨c1,a4⟩:=a6.ti i aa
    have am:=aj a4 (q*3)
    have an:=aj a4 (q*3+1)
    have aw:=aj a4 (q*3+2)
    have bn:=vi (a6.setWay aa hb (cg.out.frm E (by simp)) (by rw[bP.out];exact aD.out.wl) (by rw[bP.out];exact aD.out.wr i aa))
    have aI:Hid (Frm [V i] a7 _):=vi ((E.mono (by simp)).trans (((bG bB (V i) (q*3) (.int .i64 s.cls)).trans (bG _ (V i) (q*3+1) (.int .i64 s.cap))).trans (bG _ (V i) (q*3+2) (.slice X ar Y))))
    clear a6 a4
    refine gd 9 (fun I h=>?_)
    go_simp
    (skip)
    refine h.out _ _ ((((Frm.refl [V i] _).setCell _ (.inl (by simp)) _).setCell _ (.inl (by simp)) _).setCell _ (.inl (by simp)) _) ?_
    clear h I
    try simp only[nrm]
    refine wpAnyH_done (by kernel_rfl) ?_ _
    obtain⟨ah,b0⟩:∃ aN,((bB.setCell ⟨V i,q*3,none⟩ (.int .i64 s.cls)).setCell ⟨V i,q*3+1,none⟩ (.int .i64 s.cap)).setCell ⟨V i,q*3+2,none⟩ (.slice X ar Y)=aN:=⟨_,rfl⟩
    rw[b0] at bn aI ⊢
    have aG:=vi (aI.out.at (ai.out.at cd.out (by simp)) (by simpa using b7))
    have bb:=vi ((aC.out.frm ai.out (by simp)).frm aI.out (by intro q K;simp at K;subst K;exact cq))
    have cM:=vi (aI.out.at (ai.out.at bJ.out (by simp)) (by simpa using Ty.ne ⟨_,bJ.out⟩ bx (by decide)))
    have bo:Hid (Frm [] w ah):=vi ((be.out.trans ai.out).then aI.out (by intro q K;simp at K;subst K;exact .inr (by omega)))
    have ck:Hid (YSt w s bK _ ah):=vi ⟨au.out.lo,a8,a9,aB,V,aF,ba,aY,by rw[ak.out];exact aG.out,bn.out,cv,cw,cx,b6⟩
    clear b0 bn bM E
    have aZ:Hid (∀ G,Frm [w.heap.size+3] ah G→G.cell? ⟨w.heap.size+2,3,none⟩=some (.int .i64 pl)):=vi fun G R=>ae (R.at bb.out.b2 (by simp)) 3
    by_cases a:aL=0
    ·have b5:(aL == 0)=true:=by rw[beq_iff_eq];exact a
     by_cases aq:pl=0
     ·have cs:(pl == 0)=true:=by rw[beq_iff_eq];exact aq
      have aQ:=fj a0.out aD.out ((gk a0.out aD.out _).1 (av.out.trans (decide_eq_true ⟨a,aq⟩)))
      rw[bc.out] at aQ
      have bO:=vi aQ
      have al:=vi (And.intro a aq)
      clear aQ a aq
      go_upto_region 26 with fail
      refine bI (F:=[w.heap.size+3]) (by kernel_rfl) ?_
      obtain⟨J,N⟩:∃ J,ah.drew=J:=⟨_,rfl⟩
      have E:Frm [] ah J:=by rw[← N];exact(Frm.refl _ _).drew
      rw[N]
      clear N
      refine cnt 0 ?_
      iterate 8
       refine hcF ?_ ?_ ?_
       rotate_left
       ·intro w' H
        have S:=(E.mono (by simp)).trans H
        have a:=S.at aG.out (by simp;have:=au.out.lo;omega)
        have bC:=ae a 0
        have bD:=ae a 1
        have bF:=ae a 2
        have aU:=aZ.out w' S
        clear a S
        clear H
        go_simp
        try rfl
       try simp only[nrm,Nat.reduceAdd]
      refine tcn ?_
      have A:=E.at bb.out.b3 (by simp)
      have am:=aj A 0
      have an:=aj A 1
      have aw:=aj A 2
      have aV:=ae A 0
      have aW:=ae A 1
      have aX:=ae A 2
      have O:=vi (fI (u:=.slice (some ⟨a8,0,none⟩) n aF) (v:=.slice (some ⟨a9,0,none⟩) n ba) (z:=.slice (some ⟨aB,0,none⟩) n aY) A rfl)
      have ab:=vi E
      clear A E
      refine gd 8 (fun I h=>?_)
      go_simp
      (skip)
      refine h.out _ _ (((Frm.refl _ _).setCell _ (.inl (by simp)) _).setCell _ (.inl (by simp)) _ |>.setCell _ (.inl (by simp)) _) ?_
      clear h I
      try simp only[nrm]
      refine htF 9 ?_ ?_ ?_
      rotate_left
      ·intro w' H
       clear H
       go_simp
       try rfl
      try simp only[nrm]
      refine wpAnyH_done (by kernel_rfl) ?_ _
      go_wp2
      refine bodyPost_ret (bs rfl rfl rfl O.out.1 rfl) rfl ⟨_,rfl,(bo.out.trans ab.out).then O.out.2.1 (by intro q K;simp at K;omega),.inl ⟨by rw[av.out];exact decide_eq_true al.out,_,rfl,?_⟩⟩
      rw[bc.out]
      have:=(ck.out.frm ab.out).end bO.out (by rw[ak.out];exact ab.out.at aG.out (by simp)) O.out.2.2
      rw[ak.out] at this
      exact this
     ·have cs:(pl == 0)=false:=by rw[beq_eq_false_iff_ne];exact aq
      have al:=vi aq
      clear a aq
      go_upto_region 26 with fail
      refine bI (F:=[w.heap.size+3]) (by kernel_rfl) ?_
      obtain⟨J,N⟩:∃ J,ah.drew=J:=⟨_,rfl⟩
      have E:Frm [] ah J:=by rw[← N];exact(Frm.refl _ _).drew
      rw[N]
      clear N
      refine cnt 0 ?_
      iterate 8
       refine hcF ?_ ?_ ?_
       rotate_left
       ·intro w' H
        have S:=(E.mono (by simp)).trans H
        have a:=S.at aG.out (by simp;have:=au.out.lo;omega)
        have bC:=ae a 0
        have bD:=ae a 1
        have bF:=ae a 2
        have aU:=aZ.out w' S
        clear a S
        clear H
        go_simp
        try rfl
       try simp only[nrm,Nat.reduceAdd]
      refine tcn ?_
      have A:=E.at bb.out.b3 (by simp)
      have am:=aj A 0
      have an:=aj A 1
      have aw:=aj A 2
      have aV:=ae A 0
      have aW:=ae A 1
      have aX:=ae A 2
      have O:=vi (fI (u:=.slice (some ⟨a8,0,none⟩) n aF) (v:=.slice (some ⟨a9,0,none⟩) n ba) (z:=.slice (some ⟨aB,0,none⟩) n aY) A rfl)
      have ab:=vi E
      clear A E
      refine gd 8 (fun I h=>?_)
      go_simp
      (skip)
      refine h.out _ _ (((Frm.refl _ _).setCell _ (.inl (by simp)) _).setCell _ (.inl (by simp)) _ |>.setCell _ (.inl (by simp)) _) ?_
      clear h I
      try simp only[nrm]
      refine htF 9 ?_ ?_ ?_
      rotate_left
      ·intro w' H
       clear H
       go_simp
       try rfl
      try simp only[nrm]
      refine wpAnyH_done (by kernel_rfl) ?_ _
      go_wp2
      refine bodyPost_ret (bs rfl rfl rfl O.out.1 rfl) rfl ⟨_,rfl,(bo.out.trans ab.out).then O.out.2.1 (by intro q K;simp at K;omega),.inr ⟨by rw[av.out];exact decide_eq_false (fun br=>al.out br.2),_,rfl,rfl,cI ..⟩⟩
    ·have b5:(aL == 0)=false:=by rw[beq_eq_false_iff_ne];exact a
     have al:=vi a
     clear a
     go_upto_region 26 with fail
     refine bI (F:=[w.heap.size+3]) (by kernel_rfl) ?_
     obtain⟨J,N⟩:∃ J,ah.drew=J:=⟨_,rfl⟩
     have E:Frm [] ah J:=by rw[← N];exact(Frm.refl _ _).drew
     rw[N]
     clear N
     refine cnt 0 ?_
     iterate 4
      refine hcF ?_ ?_ ?_
      rotate_left
      ·intro w' H
       have S:=(E.mono (by simp)).trans H
       have a:=S.at aG.out (by simp;have:=au.out.lo;omega)
       have bC:=ae a 0
       have bD:=ae a 1
       have bF:=ae a 2
       have aU:=aZ.out w' S
       clear a S
       clear H
       go_simp
       try rfl
      try simp only[nrm,Nat.reduceAdd]
     refine tcn ?_
     refine cnt 4 ?_
     iterate 3
      refine hdF ?_
      try simp only[nrm,Nat.reduceAdd]
     refine tcn ?_
     refine htF 7 ?_ ?_ ?_
     rotate_left
     ·intro w' H
      clear H
      go_simp
      try rfl
     try simp only[nrm]
     have A:=E.at bb.out.b3 (by simp)
     have am:=aj A 0
     have an:=aj A 1
     have aw:=aj A 2
     have aV:=ae A 0
     have aW:=ae A 1
     have aX:=ae A 2
     have O:=vi (fI (u:=.slice (some ⟨a8,0,none⟩) n aF) (v:=.slice (some ⟨a9,0,none⟩) n ba) (z:=.slice (some ⟨aB,0,none⟩) n aY) A rfl)
     have ab:=vi E
     clear A E
     refine gd 8 (fun I h=>?_)
     go_simp
     (skip)
     refine h.out _ _ (((Frm.refl _ _).setCell _ (.inl (by simp)) _).setCell _ (.inl (by simp)) _ |>.setCell _ (.inl (by simp)) _) ?_
     clear h I
     try simp only[nrm]
     refine htF 9 ?_ ?_ ?_
     rotate_left
     ·intro w' H
      clear H
      go_simp
      try rfl
     try simp only[nrm]
     refine wpAnyH_done (by kernel_rfl) ?_ _
     go_wp2
     refine bodyPost_ret (bs rfl rfl rfl O.out.1 rfl) rfl ⟨_,rfl,(bo.out.trans ab.out).then O.out.2.1 (by intro q K;simp at K;omega),.inr ⟨by rw[av.out];exact decide_eq_false (fun br=>al.out br.1),_,rfl,rfl,cI ..⟩⟩
  ·have c2:(t.kind == 1)=false:=by rw[beq_eq_false_iff_ne];exact h1k
   obtain⟨cT,aF,cU,ev,cV,cW,cX,ap,-⟩:=au.out.out
   rw[ak.out] at ap
   have cc:=vi ap
   have bg:doB s x ⟨1,(i:Nat),(k:Nat),pl⟩=decide (pl=0):=by
    rw[cf.out,if_neg (by rw[ch.out];decide),a1.out,if_neg h2k,if_neg h1k]
   have bi:bh s x ⟨1,(i:Nat),(k:Nat),pl⟩=y:=by
    rw[ez,a1.out,ci.out,cj.out,if_neg h1k,if_neg h2k,← bQ.out]
    rfl
   have av:=vi bg;have bc:=vi bi
   have aZ:Hid (∀ G,Frm [w.heap.size+3] W G→G.cell? ⟨w.heap.size+2,3,none⟩=some (.int .i64 pl)):=vi fun G R=>ae (R.at aC.out.b2 (by simp)) 3
   clear bg bi ap h2k h1k
   by_cases a:pl=0
   ·have aQ:=fj a0.out aD.out ((gk a0.out aD.out _).1 (av.out.trans (decide_eq_true a)))
    rw[bc.out] at aQ
    have bO:=vi aQ
    have b5:(pl == 0)=true:=by rw[beq_iff_eq];exact a
    have al:=vi a
    clear aQ a
    go_upto_region 27 with fail
    refine bI (F:=[w.heap.size+3]) (by kernel_rfl) ?_
    obtain⟨J,N⟩:∃ J,W.drew=J:=⟨_,rfl⟩
    have E:Frm [] W J:=by rw[← N];exact(Frm.refl _ _).drew
    rw[N]
    clear N
    refine cnt 0 ?_
    iterate 4
     refine hcF ?_ ?_ ?_
     rotate_left
     ·intro w' H
      have S:=(E.mono (by simp)).trans H
      have a:=S.at cc.out (by simp;have:=au.out.lo;omega)
      have bC:=ae a 0
      have bD:=ae a 1
      have bF:=ae a 2
      have aU:=aZ.out w' S
      clear a S
      clear H
      go_simp
      try rfl
     try simp only[nrm,Nat.reduceAdd]
    refine tcn ?_
    have A:=E.at aC.out.b3 (by simp)
    have am:=aj A 0
    have an:=aj A 1
    have aw:=aj A 2
    have aV:=ae A 0
    have aW:=ae A 1
    have aX:=ae A 2
    have O:=vi (fI (u:=.slice (some ⟨cT,0,none⟩) n cV) (v:=.slice (some ⟨aF,0,none⟩) n cW) (z:=.slice (some ⟨cU,0,none⟩) n cX) A rfl)
    have ab:=vi E
    clear A E
    refine gd 4 (fun I h=>?_)
    go_simp
    (skip)
    refine h.out _ _ (((Frm.refl _ _).setCell _ (.inl (by simp)) _).setCell _ (.inl (by simp)) _ |>.setCell _ (.inl (by simp)) _) ?_
    clear h I
    try simp only[nrm]
    refine htF 5 ?_ ?_ ?_
    rotate_left
    ·intro w' H
     clear H
     go_simp
     try rfl
    try simp only[nrm]
    refine wpAnyH_done (by kernel_rfl) ?_ _
    go_wp2
    refine bodyPost_ret (bs rfl rfl rfl O.out.1 rfl) rfl ⟨_,rfl,(be.out.trans ab.out).then O.out.2.1 (by intro q K;simp at K;omega),.inl ⟨by rw[av.out];exact decide_eq_true al.out,_,rfl,?_⟩⟩
    rw[bc.out]
    have:=(au.out.frm ab.out).end bO.out (by rw[ak.out];exact ab.out.at cc.out (by simp)) O.out.2.2
    rw[ak.out] at this
    exact this
   ·have b5:(pl == 0)=false:=by rw[beq_eq_false_iff_ne];exact a
    have al:=vi a
    clear a
    go_upto_region 27 with fail
    refine bI (F:=[w.heap.size+3]) (by kernel_rfl) ?_
    obtain⟨J,N⟩:∃ J,W.drew=J:=⟨_,rfl⟩
    have E:Frm [] W J:=by rw[← N];exact(Frm.refl _ _).drew
    rw[N]
    clear N
    refine cnt 0 ?_
    iterate 4
     refine hcF ?_ ?_ ?_
     rotate_left
     ·intro w' H
      have S:=(E.mono (by simp)).trans H
      have a:=S.at cc.out (by simp;have:=au.out.lo;omega)
      have bC:=ae a 0
      have bD:=ae a 1
      have bF:=ae a 2
      have aU:=aZ.out w' S
      clear a S
      clear H
      go_simp
      try rfl
     try simp only[nrm,Nat.reduceAdd]
    refine tcn ?_
    have A:=E.at aC.out.b3 (by simp)
    have am:=aj A 0
    have an:=aj A 1
    have aw:=aj A 2
    have aV:=ae A 0
    have aW:=ae A 1
    have aX:=ae A 2
    have O:=vi (fI (u:=.slice (some ⟨cT,0,none⟩) n cV) (v:=.slice (some ⟨aF,0,none⟩) n cW) (z:=.slice (some ⟨cU,0,none⟩) n cX) A rfl)
    have ab:=vi E
    clear A E
    refine gd 4 (fun I h=>?_)
    go_simp
    (skip)
    refine h.out _ _ (((Frm.refl _ _).setCell _ (.inl (by simp)) _).setCell _ (.inl (by simp)) _ |>.setCell _ (.inl (by simp)) _) ?_
    clear h I
    try simp only[nrm]
    refine htF 5 ?_ ?_ ?_
    rotate_left
    ·intro w' H
     clear H
     go_simp
     try rfl
    try simp only[nrm]
    refine wpAnyH_done (by kernel_rfl) ?_ _
    go_wp2
    refine bodyPost_ret (bs rfl rfl rfl O.out.1 rfl) rfl ⟨_,rfl,(be.out.trans ab.out).then O.out.2.1 (by intro q K;simp at K;omega),.inr ⟨by rw[av.out];exact decide_eq_false al.out,_,rfl,rfl,cI ..⟩⟩
end Go.Proofs.YtohfkhjlnlahdaaGreat
