/- Part of the proof. -/
import Derived.Test.YtohfkhjlnlahdaaGreatQ04
import Derived.Test.YtohfkhjlnlahdaaGreatQ50
import Derived.Test.YtohfkhjlnlahdaaGreatQ41
import Derived.Test.YtohfkhjlnlahdaaGreatQ43
import Derived.Test.YtohfkhjlnlahdaaGreatQ51
import Derived.Test.YtohfkhjlnlahdaaGreatQ44
set_option linter.all false
namespace Go.Proofs.YtohfkhjlnlahdaaGreat
open Go.RowKit Go.BigFrame
set_option maxHeartbeats 0 in
set_option maxRecDepth 100000 in
theorem sO (v cc:Value) (s:SesD) (w:World) (bs:List UInt8) (aQ:SesV w v s) (bM:WfS s) (aS:Byts w cc bs):Calls Tryz.prog 5 #[v,cc] w (Ret (.bool true) (Frm [] w)):=by
 have aw:=vi aQ
 obtain⟨dG,rfl,aB⟩:=aQ
 obtain⟨ao,cap,rfl⟩:=aB.shape
 have bX:=vi aS
 obtain⟨cM,dn,rfl,-⟩:=aS.len
 obtain⟨K,bC⟩:∃ n,bs.length=n:=⟨_,rfl⟩
 have cA:=vi bC
 rw[bC] at bX ⊢
 obtain⟨n,bK⟩:∃ n,s.roles.length=n:=⟨_,rfl⟩
 have V:=vi bK
 rw[bK] at aw ⊢
 obtain⟨ak,bf⟩:∃ ak,w.alloc (.cells #[.string s.name,.slice ao n cap,.int .i64 s.cls,.int .i64 s.cap] 25)=ak:=⟨_,rfl⟩
 have bh:Frm [] w ak:=by rw[← bf];exact(Frm.refl _ _).alloc _
 have ah:=vi bh
 have bA:ak.heap[w.heap.size]?=some (.cells #[.string s.name,.slice ao n cap,.int .i64 s.cls,.int .i64 s.cap] 25 (0,0)):=by rw[← bf];exact heap_alloc_new _ _
 have ar:=vi (fun ad (hV:Frm [] ak ad)=>hV.at bA (by simp))
 have a9:Hid (∀ ad,Calls Tryz.prog 15 #[] ad (Ret (.bool true) (Frm [] ad))):=vi l8
 have dw:w.heap.size<ak.heap.size:=lt_of_block bA
 have bZ:=vi bf
 have bn:=vi (fun bw=>np (aw.out.frm bh) bM bw)
 have br:=vi (fun bw=>lL (aw.out.frm bh) bM bw)
 clear aB bM bh bA bf bK bC aS
 go_enter Tryz.func5,Tryz.ntmps5
 go_upto_region 1 with (first | (refine aH rfl 25 _ rfl _ rfl ?_;rw[bZ.out]))
 clear bZ
 cases hg:gvB s with
 | false =>
   have aU:=vi (bn.out hg)
   clear hg bn br
   go_wp2_with (first
    | (refine af rfl 25 _ rfl _ rfl _ 25 (ar.out _ (Frm.refl _ _)) _ Tryz.underlying25 rfl (by kernel_rfl) ?_)
    | (go_at_call 14;go_must (refine aU.out.mono ?_;rintro e dH ⟨u,rfl,rfl,a5⟩;have cB:=vi a5;clear a5 aU))
    | (go_at_call 15;go_must (refine(a9.out _).mono ?_;rintro e a6 ⟨rfl,X⟩;have au:Hid (Frm [] ak a6):=vi (cB.out.trans X);clear X)))
   go_ret
   exact⟨rfl,ah.out.trans au.out⟩
 | true =>
   have aU:=vi (br.out hg)
   have ai:=vi (uI hg)
   clear hg bn br
   go_upto_region 2 with (first
    | (refine af rfl 25 _ rfl _ rfl _ 25 (ar.out _ (Frm.refl _ _)) _ Tryz.underlying25 rfl (by kernel_rfl) ?_)
    | (go_at_call 14;go_must (refine aU.out.mono ?_;rintro e I ⟨u,rfl,a8,am,rfl,cn,a5⟩;have G:=vi a5;have a1:=vi cn;clear a5 cn aU)))
   by_cases hl:30<K
   ·have bi:(30:Int)<(K:Int):=by omega
    have cg:decide ((30:Int)<(K:Int))=true:=decide_eq_true bi
    go_wp2_with (go_at_call 15;go_must (refine(a9.out _).mono ?_;rintro e a6 ⟨rfl,X⟩;have au:Hid (Frm [] ak a6):=vi (G.out.trans X);clear X))
    go_ret
    exact⟨rfl,ah.out.trans au.out⟩
   ·have bi:¬ (30:Int)<(K:Int):=by omega
    have cg:decide ((30:Int)<(K:Int))=false:=decide_eq_false bi
    have bY:Hid (K≤30):=vi (by omega)
    clear hl
    go_upto_region 4 with fail
    clear bi cg
    have bj:=vi (fun ad (hV:Frm [] I ad)=>gm s a8 am ad (a1.out.frm hV))
    have aT:=vi (fun ad (hV:Frm [] I ad)=>nO s _ ad (aw.out.frm (ah.out.trans (G.out.trans hV))) ai.out)
    try rw[V.out] at aT
    go_upto_region 4 with fail
    try simp only[Act.put]
    go_cut [7,8] (fun s7 s8 wc=>∃ be,s7=.pointer (some ⟨am,0,none⟩)∧s8=.pointer (some ⟨be,0,none⟩)∧PlS w s ao cap a8 am be am (bg s) wc)
    case first =>
     refine bH [] (fk 6) (by kernel_rfl) ?_
     refine htL 0 ?_ ?_ ?_
     rotate_left
     ·intro w' a4
      have a:=ar.out _ (G.out.trans ((Frm.refl [] I).drew.trans a4))
      have df:=ae a 0
      have dg:=ae a 1
      have dh:=ae a 2
      have di:=ae a 3
      clear a
      clear a4
      go_simp
      try rfl
     try simp only[nrm]
     refine htL 2 ?_ ?_ ?_
     rotate_left
     ·intro w' a4
      have a:=ar.out _ (G.out.trans ((Frm.refl [] I).drew.trans a4))
      have df:=ae a 0
      have dg:=ae a 1
      have dh:=ae a 2
      have di:=ae a 3
      clear a
      clear a4
      go_simp
      try rfl
     try simp only[nrm]
     obtain⟨S,bN⟩:∃ S,I.drew=S:=⟨_,rfl⟩
     have U:Frm [] I S:=by rw[← bN];exact(Frm.refl _ _).drew
     rw[bN]
     clear bN
     refine aJ (rs:=[1,4]) (by kernel_rfl) (by simp) (aE ?_ (aE ?_ aM))
     ·skip
      refine ax (i:=1) rfl rfl (by rfl) (fun A h=>?_)
      go_simp
      (refine(bj.out _ U).mono ?_;rintro e w' ⟨rfl,rfl⟩)
      refine h.out _ _ (Frm.refl _ _) ?_
      clear h A
      try simp only[nrm]
      refine aJ (rs:=[3,4]) (by kernel_rfl) (by simp) (aE ?_ (aE ?_ aM))
      ·skip
       refine ax (i:=3) rfl rfl (by rfl) (fun A h=>?_)
       go_simp
       (refine(aT.out _ U).mono ?_;rintro e ab ⟨u,rfl,H,E⟩;obtain⟨aI,aK,aL,ca,aO,cb,aP,rfl,-⟩:=id H.out;rw[V.out] at H ⊢)
       refine h.out _ _ (E) ?_
       clear h A
       try simp only[nrm]
       refine bE 4 ?_
       refine ax (i:=4) rfl rfl (by rfl) (fun A h=>?_)
       go_simp
       (skip)
       refine h.out _ _ ((Frm.refl _ _).alloc _) ?_
       clear h A
       try simp only[nrm]
       obtain⟨al,W⟩:∃ b,ab.heap.size=b:=⟨_,rfl⟩
       have aa:=heap_alloc_new ab (.cells #[.slice none 0 0,.slice none 0 0,.slice none 0 0] 61)
       have O:Frm [] ab (ab.alloc (.cells #[.slice none 0 0,.slice none 0 0,.slice none 0 0] 61)):=(Frm.refl _ _).alloc _
       obtain⟨aC,Y⟩:∃ a3,ab.alloc (.cells #[.slice none 0 0,.slice none 0 0,.slice none 0 0] 61)=a3:=⟨_,rfl⟩
       rw[Y,W] at aa ⊢
       rw[Y] at O
       have ap:I.heap.size≤al:=W ▸ (U.trans E).size
       clear Y W
       have N:Frm [] I aC:=(U.trans E).trans O
       have aq:=(H.frm O).low (B':=I.heap.size) U.size
       have a:=aa
       clear aa O
       refine htP 5 ?_ ?_ ?_
       rotate_left
       ·intro w'
        go_simp
        try rfl
       try simp only[nrm]
       have a7:=ae a 0
       have bP:=ae a 1
       have bQ:=ae a 2
       have bt:=aj a 0
       have bu:=aj a 1
       have bv:=aj a 2
       have J:=vi (fI (u:=.slice (some ⟨aI,0,none⟩) n aO) (v:=.slice (some ⟨aK,0,none⟩) n cb) (z:=.slice (some ⟨aL,0,none⟩) n aP) a rfl)
       have a0:=vi aq
       have R:=vi N
       have aV:=vi ap
       have a2:=vi a
       clear a aq N H E U ap
       refine bE 6 ?_
       refine az (i:=6) rfl (by rfl) (by rfl) (fun A h=>?_)
       go_simp
       (skip)
       refine h.out _ _ ?_
       clear h A
       try simp only[nrm]
       refine aR (by kernel_rfl) ?_ _
       go_wp2
       go_meet
       exact⟨al,rfl,rfl,PlS.start (ah.out.trans (G.out.trans R.out)) (by rw[V.out];exact ar.out _ (G.out.trans R.out)) (a1.out.frm R.out) (by have:=G.out.size;have:=aV.out;omega) (a0.out.low (by have:=ah.out.size;have:=G.out.size;omega)) (by have:=ai.out.n2;omega) (BxR.zero a2.out) J.out.1 J.out.2.1 J.out.2.2⟩
      ·skip
       refine ax (i:=4) rfl rfl (by rfl) (fun A h=>?_)
       go_simp
       (skip)
       refine h.out _ _ ((Frm.refl _ _).alloc _) ?_
       clear h A
       try simp only[nrm]
       obtain⟨al,W⟩:∃ b,S.heap.size=b:=⟨_,rfl⟩
       have aa:=heap_alloc_new S (.cells #[.slice none 0 0,.slice none 0 0,.slice none 0 0] 61)
       have O:Frm [] S (S.alloc (.cells #[.slice none 0 0,.slice none 0 0,.slice none 0 0] 61)):=(Frm.refl _ _).alloc _
       obtain⟨ab,Y⟩:∃ a3,S.alloc (.cells #[.slice none 0 0,.slice none 0 0,.slice none 0 0] 61)=a3:=⟨_,rfl⟩
       rw[Y,W] at aa ⊢
       rw[Y] at O
       have ap:I.heap.size≤al:=W ▸ (U).size
       clear Y W
       have ag:Frm [] I ab:=U.trans O
       refine bE 3 ?_
       refine ax (i:=3) rfl rfl (by rfl) (fun A h=>?_)
       go_simp
       (refine(aT.out _ ag).mono ?_;rintro e aC ⟨u,rfl,H,E⟩;obtain⟨aI,aK,aL,ca,aO,cb,aP,rfl,-⟩:=id H.out;rw[V.out] at H ⊢)
       refine h.out _ _ (E) ?_
       clear h A
       try simp only[nrm]
       have N:Frm [] I aC:=ag.trans E
       have aq:=H.low (B':=I.heap.size) ag.size
       have a:=E.at aa (by simp)
       clear aa O ag
       refine htP 5 ?_ ?_ ?_
       rotate_left
       ·intro w'
        go_simp
        try rfl
       try simp only[nrm]
       have a7:=ae a 0
       have bP:=ae a 1
       have bQ:=ae a 2
       have bt:=aj a 0
       have bu:=aj a 1
       have bv:=aj a 2
       have J:=vi (fI (u:=.slice (some ⟨aI,0,none⟩) n aO) (v:=.slice (some ⟨aK,0,none⟩) n cb) (z:=.slice (some ⟨aL,0,none⟩) n aP) a rfl)
       have a0:=vi aq
       have R:=vi N
       have aV:=vi ap
       have a2:=vi a
       clear a aq N H E U ap
       refine bE 6 ?_
       refine az (i:=6) rfl (by rfl) (by rfl) (fun A h=>?_)
       go_simp
       (skip)
       refine h.out _ _ ?_
       clear h A
       try simp only[nrm]
       refine aR (by kernel_rfl) ?_ _
       go_wp2
       go_meet
       exact⟨al,rfl,rfl,PlS.start (ah.out.trans (G.out.trans R.out)) (by rw[V.out];exact ar.out _ (G.out.trans R.out)) (a1.out.frm R.out) (by have:=G.out.size;have:=aV.out;omega) (a0.out.low (by have:=ah.out.size;have:=G.out.size;omega)) (by have:=ai.out.n2;omega) (BxR.zero a2.out) J.out.1 J.out.2.1 J.out.2.2⟩
     ·skip
      refine ax (i:=4) rfl rfl (by rfl) (fun A h=>?_)
      go_simp
      (skip)
      refine h.out _ _ ((Frm.refl _ _).alloc _) ?_
      clear h A
      try simp only[nrm]
      obtain⟨al,W⟩:∃ b,S.heap.size=b:=⟨_,rfl⟩
      have aa:=heap_alloc_new S (.cells #[.slice none 0 0,.slice none 0 0,.slice none 0 0] 61)
      have O:Frm [] S (S.alloc (.cells #[.slice none 0 0,.slice none 0 0,.slice none 0 0] 61)):=(Frm.refl _ _).alloc _
      obtain⟨ab,Y⟩:∃ a3,S.alloc (.cells #[.slice none 0 0,.slice none 0 0,.slice none 0 0] 61)=a3:=⟨_,rfl⟩
      rw[Y,W] at aa ⊢
      rw[Y] at O
      have ap:I.heap.size≤al:=W ▸ (U).size
      clear Y W
      have ag:Frm [] I ab:=U.trans O
      refine bE 1 ?_
      refine ax (i:=1) rfl rfl (by rfl) (fun A h=>?_)
      go_simp
      (refine(bj.out _ ag).mono ?_;rintro e w' ⟨rfl,rfl⟩)
      refine h.out _ _ (Frm.refl _ _) ?_
      clear h A
      try simp only[nrm]
      refine bE 3 ?_
      refine ax (i:=3) rfl rfl (by rfl) (fun A h=>?_)
      go_simp
      (refine(aT.out _ ag).mono ?_;rintro e aC ⟨u,rfl,H,E⟩;obtain⟨aI,aK,aL,ca,aO,cb,aP,rfl,-⟩:=id H.out;rw[V.out] at H ⊢)
      refine h.out _ _ (E) ?_
      clear h A
      try simp only[nrm]
      have N:Frm [] I aC:=ag.trans E
      have aq:=H.low (B':=I.heap.size) ag.size
      have a:=E.at aa (by simp)
      clear aa O ag
      refine htP 5 ?_ ?_ ?_
      rotate_left
      ·intro w'
       go_simp
       try rfl
      try simp only[nrm]
      have a7:=ae a 0
      have bP:=ae a 1
      have bQ:=ae a 2
      have bt:=aj a 0
      have bu:=aj a 1
      have bv:=aj a 2
      have J:=vi (fI (u:=.slice (some ⟨aI,0,none⟩) n aO) (v:=.slice (some ⟨aK,0,none⟩) n cb) (z:=.slice (some ⟨aL,0,none⟩) n aP) a rfl)
      have a0:=vi aq
      have R:=vi N
      have aV:=vi ap
      have a2:=vi a
      clear a aq N H E U ap
      refine bE 6 ?_
      refine az (i:=6) rfl (by rfl) (by rfl) (fun A h=>?_)
      go_simp
      (skip)
      refine h.out _ _ ?_
      clear h A
      try simp only[nrm]
      refine aR (by kernel_rfl) ?_ _
      go_wp2
      go_meet
      exact⟨al,rfl,rfl,PlS.start (ah.out.trans (G.out.trans R.out)) (by rw[V.out];exact ar.out _ (G.out.trans R.out)) (a1.out.frm R.out) (by have:=G.out.size;have:=aV.out;omega) (a0.out.low (by have:=ah.out.size;have:=G.out.size;omega)) (by have:=ai.out.n2;omega) (BxR.zero a2.out) J.out.1 J.out.2.1 J.out.2.2⟩
    case rest =>
     obtain⟨be,rfl,rfl,cj⟩:=hcut
     have b3:=vi cj
     clear cj bj aT a1 G
     go_upto_region 6 with fail
     go_loopw [7,9] (fun s7 s9 wr=>∃ (i sb:Nat) (x:PS),s7=.pointer (some ⟨sb,0,none⟩)∧s9=.int .i64 i∧i≤K∧PlS w s ao cap a8 am be sb x wr) (fun _ s9 _=>K - (intOf s9).toNat)
     case atStart=>exact⟨0,am,_,rfl,rfl,Nat.zero_le _,b3.out⟩
     case round =>
      clear b3
      obtain⟨i,sb,x,rfl,rfl,dr,ci⟩:=hrel
      have aY:=vi ci
      clear ci
      obtain⟨bO,cW⟩:∃ bO,bO=wr:=⟨_,rfl⟩
      subst cW
      have cT:(i:Int)≤(K:Int):=by omega
      have dt:decide ((i:Int)≤(K:Int))=true:=decide_eq_true cT
      have cK:=vi aY.out.ok
      have bS:=vi (lZ s a8 am sb x bO aY.out.sy aY.out.st)
      go_upto_region 9 with (first
       | (go_at_call 20;go_must (refine bS.out.mono ?_;rintro e ab ⟨v,rfl,u5,rfl,aA,E⟩;obtain⟨dC,dE,bL⟩:=an aA;subst bL;have bl:=vi (jk aA);have cC:=vi E;have aZ:=vi (aY.out.frm E);clear aA E bS)))
      obtain⟨aI,aK,aL,aO,cb,aP,ce,H⟩:=aZ.out.val
      have aG:=vi ce
      have bd:=vi H
      have av:=vi aZ.out.b0
      rw[V.out] at aG bd av
      have ba:=vi (sP s _ _ x _ ab (aw.out.frm aZ.out.f) bd.out ai.out)
      try rw[V.out] at ba
      have bq:Hid ((ofP s x).length≤1000000):=vi (by
       have:=kN ai.out cK.out (Nat.le_refl s.roles.length)
       exact Nat.le_trans this (by decide))
      obtain⟨cL,cd⟩:∃ L,ofP s x=L:=⟨_,rfl⟩
      rw[cd] at ba bl bq ⊢
      clear ce H cd
      have s0:=ae av.out 0
      have s1:=ae av.out 1
      have s2:=ae av.out 2
      have s3:=ae av.out 3
      have c4:=ae aG.out 0
      have c5:=ae aG.out 1
      have c6:=ae aG.out 2
      go_upto_region 11 with (first
       | (go_at_call 17;go_must (refine(ev _ _).mono ?_;rintro e w' ⟨rfl,rfl⟩))
       | (go_at_call 27;go_must (refine ba.out.mono ?_;rintro e aC ⟨v,rfl,aA,N⟩;have bV:=vi (sQ aA);obtain⟨dD,dF,bL⟩:=an aA;subst bL;have R:=vi N;have bU:=vi (fv _ _ cL aC (bl.out.frm fun _ _ _ aQ=>aQ.frm N) bV.out bq.out);clear aA N ba))
       | (go_at_call 23;go_must (refine bU.out.mono ?_;rintro e c7 ⟨rfl,ch⟩;have aW:=vi (R.out.trans ch);clear ch bU)))
      clear s0 s1 s2 s3 c4 c5 c6
      have b4:=vi (aZ.out.frm aW.out)
      have b8:=vi (aW.out.at aG.out (by simp));have b7:=vi (bd.out.frm aW.out);have b5:=vi (aW.out.at av.out (by simp))
      clear bl bV R aW aG bd av aZ cC bq aY
      have bk:=vi (nP s _ _ x _ c7 (aw.out.frm b4.out.f) b7.out ai.out)
      try rw[V.out] at bk
      go_upto_region 12 with (first
       | (refine af rfl 25 _ rfl _ rfl _ 25 b5.out _ Tryz.underlying25 rfl (by kernel_rfl) ?_)
       | (refine af rfl 61 _ rfl _ rfl _ 61 b8.out _ Tryz.underlying61 rfl (by kernel_rfl) ?_)
       | (go_at_call 28;go_must (refine bk.out.mono ?_;clear bk;rintro e cx ⟨u,rfl,bz,bF⟩;obtain⟨dk,dB,rfl⟩:=bz.shape;have bW:=vi bz;have bm:=vi bF;have bc:=vi (b4.out.frm bF);clear bz bF)))
      obtain⟨M,bx⟩:∃ M,(aN s x).length=M:=⟨_,rfl⟩
      have cE:=vi bx
      rw[bx] at bW ⊢
      clear bx
      by_cases hic:i=K
      ·have cS:((i:Int) == (K:Int))=true:=by rw[hic];simp
       clear hic
       go_wp2_with (go_at_call 15;go_must (refine(a9.out _).mono ?_;rintro e a6 ⟨rfl,X⟩;have au:=vi (bc.out.f.trans X);clear X))
       go_ret
       exact⟨rfl,au.out⟩
      ·have cS:((i:Int) == (K:Int))=false:=by rw[beq_eq_false_iff_ne];omega
       have bI:i<K:=by omega
       have dv:(i:Int)<(K:Int):=by omega
       clear hic
       by_cases hM0:M=0
       ·subst hM0
        go_wp2_with (go_at_call 15;go_must (refine(a9.out _).mono ?_;rintro e a6 ⟨rfl,X⟩;have au:=vi (bc.out.f.trans X);clear X))
        go_ret
        exact⟨rfl,au.out⟩
       ·have cQ:¬ (M:Int)=0:=by omega
        have dq:((M:Int) == 0)=false:=by rw[beq_eq_false_iff_ne];exact cQ
        obtain⟨c,aS⟩:∃ c,bs[i]?=some c:=⟨_,List.getElem?_eq_getElem (by rw[cA.out];exact bI)⟩
        have bB:∃ b o,cM=some ⟨b,o,none⟩∧cx.cell? ⟨b,o+i,none⟩=some (.int .u8 (c.toNat:Int)):=by
         obtain⟨_,_,cO,-,bB⟩:=bX.out.frm0 bc.out.f
         obtain⟨b,o,e,aQ⟩:=bB i c aS
         injection cO with e4
         exact⟨b,o,e4.trans e,aQ⟩
        obtain⟨dm,dp,cP,a7⟩:=bB
        subst cP
        have dA:wrap64 (c.toNat:Int)=(c.toNat:Int):=by have:=c.toNat_lt;unfold wrap64;omega
        have cR:0<M:=by omega
        obtain⟨r,aB⟩:∃ r,c.toNat % M=r:=⟨_,rfl⟩
        have cV:r<M:=aB ▸ Nat.mod_lt _ cR
        have dx:(r:Int)<(M:Int):=by omega
        have dy:Int.tmod (c.toNat:Int) (M:Int)=(r:Int):=by rw[← aB];rfl
        have dz:(((c.toNat % M:Nat):Int))=(r:Int):=by rw[aB]
        obtain⟨m,bJ⟩:∃ m,(aN s x)[r]?=some m:=⟨_,List.getElem?_eq_getElem (by rw[cE.out];exact cV)⟩
        obtain⟨dj,dl,cN,cU⟩:=bW.out.get bJ
        subst cN
        have ck:=List.mem_of_getElem? bJ
        obtain⟨ct,cv,cw,cu⟩:=m
        obtain⟨cp,cq,cr,cs⟩:=cU
        dsimp only at cp cq cr cs
        have b6:=vi ck
        clear aS bJ aB ck
        go_upto_region 14 with (refine aD rfl 67 _ _ rfl _ _ _ _ rfl rfl (heap_alloc_new _ _) rfl (by kernel_rfl) (qV ..) ?_;intro c8 cf N;have aF:=vi cf;have bb:=vi (((Frm.refl [] cx).alloc _).then N (by intro q cl;simp at cl;subst cl;exact .inr (Nat.le_refl _)));clear cf N)
        clear cp cq cr cs a7
        have bo:=vi (bc.out.frm bb.out)
        have cG:=vi (b7.out.frm (bm.out.trans bb.out))
        have bR:=vi (iP s a8 am sb x ⟨ct,cv,cw,cu⟩ c8 bo.out.sy bo.out.st b6.out)
        have da:=ae aF.out 0
        have db:=ae aF.out 1
        have dc:=ae aF.out 2
        have dd:=ae aF.out 3
        have cI:=vi ((bm.out.trans bb.out).at b8.out (by simp))
        have cy:=vi ((bm.out.trans bb.out).at b5.out (by simp))
        have du:=lt_of_block aF.out
        go_upto_region 18 with (first
         | (go_at_call 19;go_must (refine bR.out.mono ?_;clear bR;rintro e c9 ⟨u,rfl,de,rfl,co,O⟩;have cJ:=vi co;have aX:=vi O;clear co O))
         | (go_at_call 17;go_must (refine(ev _ _).mono ?_;rintro e w' ⟨rfl,rfl⟩)))
        clear da db dc dd
        have b9:=vi (aX.out.at cI.out (by simp));have cz:=vi (aX.out.at cy.out (by simp));have cF:=vi (aX.out.at aF.out (by simp))
        have bp:=vi (bo.out.frm aX.out)
        have bT:=vi (sR s _ _ x _ c9 ⟨ct,cv,cw,cu⟩ (aw.out.frm bp.out.f) (cG.out.frm aX.out) ai.out b6.out V.out)
        go_wp2_with (first
         | (refine af rfl 25 _ rfl _ rfl _ 25 cz.out _ Tryz.underlying25 rfl (by kernel_rfl) ?_)
         | (refine af rfl 61 _ rfl _ rfl _ 61 b9.out _ Tryz.underlying61 rfl (by kernel_rfl) ?_)
         | (refine af rfl 67 _ rfl _ rfl _ 67 cF.out _ Tryz.underlying67 rfl (by kernel_rfl) ?_)
         | (go_at_call 29;go_must (refine bT.out.mono ?_;clear bT;rintro e dI ⟨u,rfl,bG,cX,cY,cZ,c1,c2,c3,rfl,cm⟩;have cH:=vi cm;have b0:=vi bG;have ay:=vi (bG.at b9.out (by simp));have bt:=aj ay.out 0;have bu:=aj ay.out 1;have bv:=aj ay.out 2;have a7:=ae ay.out 0;have bP:=ae ay.out 1;have bQ:=ae ay.out 2;clear cm bG)))
        have J:=vi (fI (u:=.slice (some ⟨cX,0,none⟩) n c1) (v:=.slice (some ⟨cY,0,none⟩) n c2) (z:=.slice (some ⟨cZ,0,none⟩) n c3) ay.out rfl)
        have cD:=vi (bp.out.put b0.out (cJ.out.frm b0.out) (cH.out.low (by have:=bp.out.f.size;omega)) (by have:=ai.out.n2;omega) J.out.1 J.out.2.1 J.out.2.2)
        exact⟨⟨i+1,de,_,rfl,congrArg (Value.int .i64) (by unfold wrap64;have:=bY.out;omega),bI,cD.out⟩,bD bI (by unfold wrap64;have:=bY.out;omega)⟩
end Go.Proofs.YtohfkhjlnlahdaaGreat
