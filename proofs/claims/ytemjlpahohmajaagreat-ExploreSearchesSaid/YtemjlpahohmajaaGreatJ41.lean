/- Part of the proof. -/
import Derived.Test.YtemjlpahohmajaaGreatJ40
import Derived.Test.YtemjlpahohmajaaGreatJ38
set_option linter.all false
namespace Go.Proofs.YtemjlpahohmajaaGreat
open Go.RowKit Go.BigFrame
set_option maxHeartbeats 16000000 in
set_option maxRecDepth 100000 in
theorem doT_holds:doT.1:=by
 intro s x B w i k pl cap ba bb bw bi ca cb cw n h2 h4 W0 HW0 HN HOK HPK HRO hls hin rb ro HRL aS cS aC cC cT nS nC nT HNT HNS HNC hkT t HBK tb to' HR3 da dc HDV va vc HVV VS HVS HVE HT HIK _ _ w2 ya yb yw yi za zb zw w3 HF3 b8 hl8 HW3 w4 HF4 b12 hl12 _ w5 HF5 b13 hl13 HW5 HL5 wc u22 u23 u24 u25 u26 u27 u28 u29 u30 u31 u32 u33 u34 u35 u36 u37 u38 u39 u40 u41 u42 u43 u44 u45 u46 u47 u48 u49 u50 u51 u52 u53 u54 u55 u56 u57 u58 u59 u60 u61 u62 u63 u64 u65 u66 u67 u68 u69 u70 u71 u72 u73 u74 u75 u76 u77 u78 u79 u80 u81 u82 u83 u84 u85 u86 u87 u88 u89 u90 u91 u92 u93 u94 u95 u96 u97 u98 u99 u100 u101 u102 u103 u104 u105 u106 u107 u108 u109 u110 u111 u112 u113 u114 u115 u116 u117 u118 u119 u120 u121 u122 u123 u124 u125 u126 u127 u128 u129 u130 u131 u132 u133 u134 u135 u136 u137 u138 u139 u140 u141 u142 u143 u144 u145 u146 u147 u148 u149 u150 u151 u152 u153 u154 u155 u156 u157 u158 u159 u160 u161 u162 u163 u164 u165 u166 u167 u168 u169 u170 u171 u172 u173 u174 u175 u176 u177 u178 u179 u180 u181 u182 u183 u184 u185 u186 u187 u188 u189 u190 u191 u192 u193 u194 u195 u196 u197 u198 u199 u200 u201 u202 u203 u204 u205 u206 u207 u208 u209 u210 u211 u212 u213 u214 u215 u216 u217 u218 u219 u220 u221 u222 u223 u224 u225 u226 u227 u228 u229 u230 u231 u232 u233 u234 u235 u236 b14 av kv hl14 hi hk HDB HEE HVSE SI HPOS HPS w9 p HTO ya' yb' yw' yi' za' zb' zw' wd wx cua w14 dv9 vv9 c0 c1 cub f0 f1 w17 y HYY w18 _ _ _ _ HDX18 HB13y HW18 HY18
 obtain⟨PI,hPI⟩:∃ q,rolIx s t.peer=q:=⟨_,rfl⟩
 have HPI:=Lib.hid hPI
 rw[hPI]
 clear hPI c0 c1 f0 f1
 have k2:=cell_of HB13y.out 2
 by_cases h2k:t.kind=2
 ·have h2b:(t.kind == 2)=true:=by rw[beq_iff_eq];exact h2k
  have hpe:=HOK.out.peer hi (by rw[HNT.out];exact hk) (by rw[HT.out,h2k];decide)
  obtain⟨q,hq⟩:∃ q,peerN s ((s.rol i).stp k)=q:=⟨_,rfl⟩
  rw[hq,HT.out,HPI.out] at hpe
  obtain⟨hpq,hb,hqi⟩:=hpe
  subst hpq
  have ha:=hb
  have hb:=hi
  have hqn:(q:Int) < (n:Int):=by rw[HN.out] at ha;omega
  obtain⟨ci,hci⟩:=HRO.out.w q ha
  obtain⟨lv,g0,g1,g2,g3⟩:=HRO.out.r q i ha hb
  have hlen:(x.way q i).length≤64:=by have:=(HPK.out.wb q i ha hb).1;have:=HOK.out.k4;omega
  have CL0:=Lib.hid (fun V (hV:Frm [] w V)=>refTake_any s.cls s.cap lv (x.way q i) pl V (g3.frm hV (by simp)) hlen)
  obtain⟨lva,lvc,rfl,-⟩:=g3.shape
  obtain⟨LE,hLE⟩:∃ M,takeE s.cls (x.way q i) pl=M:=⟨_,rfl⟩
  obtain⟨TM,hTM⟩:∃ M,takeM s.cls (x.way q i) pl=M:=⟨_,rfl⟩
  obtain⟨LL,hLL⟩:∃ M,takeL s.cls (x.way q i) pl=M:=⟨_,rfl⟩
  obtain⟨ln,hln⟩:∃ M,LL.length=M:=⟨_,rfl⟩
  rw[hTM,hLE,hLL] at CL0
  have HLN:=Lib.hid hln
  have hd:doB s x ⟨1,(i:Nat),(k:Nat),pl⟩=decide (LE=0∧TM=t.msg):=by
   rw[HDB.out,if_neg (by rw[HPS.out];decide),hq,HT.out,if_pos h2k,hLE,hTM]
  have hyw:y.ways=x.ways:=by rw[← HYY.out]
  have hnx:nextP s x ⟨1,(i:Nat),(k:Nat),pl⟩={ y with ways:=setWay y.ways q i LL }:=by
   rw[next_step,hq,HT.out,HTO.out,HVSE.out,if_neg (by omega),if_pos h2k,hLL,← HYY.out]
   rfl
  have HD:=Lib.hid hd;have HNX:=Lib.hid hnx;have HYW:=Lib.hid hyw
  rw[HN.out] at hci
  have HCX:Hid (∀ V,Frm [] w18 V→(((V.cell? ⟨w.heap.size + 1,2,none⟩=some (.slice (some ⟨bw,0,none⟩) n cw)∧V.cell? ⟨w.heap.size + 2,1,none⟩=some (.int .i64 (i:Nat)))∧V.cell? ⟨w.heap.size + 2,3,none⟩=some (.int .i64 pl)∧V.cell? ⟨bw,q,none⟩=some (.slice (some ⟨bi q,0,none⟩) n ci))∧V.cell? ⟨bi q,i * 3,none⟩=some (.int .i64 s.cls)∧V.cell? ⟨bi q,i * 3 + 1,none⟩=some (.int .i64 s.cap)∧V.cell? ⟨bi q,i * 3 + 2,none⟩=some (.slice lva (x.way q i).length lvc))):=Lib.hid fun V hV=>by
   have hw:=HW18.out.trans hV
   exact⟨⟨⟨cell_of (hV.at HDX18.out.b1 (by simp)) 2,cell_of (hV.at HDX18.out.b2 (by simp)) 1⟩,cell_of (hV.at HDX18.out.b2 (by simp)) 3,hw.keep hci⟩,hw.keep g0,hw.keep g1,hw.keep g2⟩
  have CL:=Lib.hid (fun V (hV:Frm [] w18 V)=>CL0.out V (HW18.out.trans hV))
  clear hLE hTM hLL hln hd hnx hyw hci g0 g1 g2 g3 hlen CL0 h2k hq
  go_upto_region 20 with fail
  clear k2
  go_upto_region 20 with fail
  try simp only[Act.put]
  go_cut [17,18,19] (fun s17 s18 s19 wc=>∃ (bq:Nat) (la:Option Addr) (lc:Nat),s17=.pointer (some ⟨bq,0,none⟩)∧s18=.string TM∧s19=.int .i64 LE∧wc.heap[bq]?=some (.cells #[.int .i64 s.cls,.int .i64 s.cap,.slice la ln lc] 190 (0,0))∧Lf wc (.slice la ln lc) LL∧Frm [] w18 wc∧w18.heap.size≤bq)
  case first =>
   refine heldL_start [] (wrSet [17,18,19]) (by kernel_rfl) ?_
   refine cnt 0 ?_
   iterate 11
    refine hcL ?_ ?_ ?_
    rotate_left
    ·intro w' hC
     obtain⟨⟨⟨x0,x1⟩,x2,x3⟩,x4,x5,x6⟩:=HCX.out w' ((Frm.refl [] w18).drew.trans hC)
     clear hC
     go_simp
     try rfl
    try simp only[nrm,Nat.reduceAdd]
   refine tcn ?_
   obtain⟨wd,hwd⟩:∃ wd,w18.drew=wd:=⟨_,rfl⟩
   have hfd:Frm [] w18 wd:=by rw[← hwd];exact(Frm.refl _ _).drew
   rw[hwd]
   clear hwd
   refine heldL_all (rs:=[11,16]) (by kernel_rfl) (by simp) (allL_cons ?_ (allL_cons ?_ allL_nil))
   ·skip
    refine heldL_step (i:=11) rfl rfl (by rfl) (fun K' hK'=>?_)
    go_simp
    (refine(CL.out _ hfd).mono ?_;rintro e v5 ⟨u,rfl,lv',rfl,hl',hf5,hown⟩;obtain⟨la,lc,rfl,-⟩:=hl'.shape;rw[HLN.out] at hl' ⊢)
    refine hK'.out _ _ (hf5) ?_
    clear hK' K'
    try simp only[nrm]
    refine cnt 12 ?_
    iterate 4
     refine hcP ?_ ?_ ?_
     rotate_left
     ·intro w'
      go_simp
      try rfl
     try simp only[nrm,Nat.reduceAdd]
    refine tcn ?_
    refine honL 16 ?_
    refine heldL_step (i:=16) rfl rfl (by rfl) (fun K' hK'=>?_)
    go_simp
    (skip)
    refine hK'.out _ _ ((Frm.refl _ _).alloc _) ?_
    clear hK' K'
    try simp only[nrm]
    obtain⟨bq,hbq⟩:∃ b,v5.heap.size=b:=⟨_,rfl⟩
    have hz:=heap_alloc_new v5 (.cells #[.int .i64 0,.int .i64 0,.slice none 0 0] 190)
    have hf6:Frm [] w18 (v5.alloc (.cells #[.int .i64 0,.int .i64 0,.slice none 0 0] 190)):=(hfd.trans hf5).alloc _
    have hl6:=hl'.frm ((Frm.refl [] v5).alloc (.cells #[.int .i64 0,.int .i64 0,.slice none 0 0] 190)) (by simp)
    obtain⟨v6,hv6⟩:∃ X,v5.alloc (.cells #[.int .i64 0,.int .i64 0,.slice none 0 0] 190)=X:=⟨_,rfl⟩
    rw[hv6,hbq] at hz ⊢
    rw[hv6] at hf6 hl6
    have hbl:w18.heap.size≤bq:=hbq ▸ (hfd.trans hf5).size
    clear hv6 hbq
    have y0:=cell_of hz 0
    have y1:=cell_of hz 1
    have y2:=cell_of hz 2
    have f0:=free_of hz 0
    have f1:=free_of hz 1
    have f2:=free_of hz 2
    have HP3:=Lib.hid (put3 (u:=.int .i64 s.cls) (v:=.int .i64 s.cap) (z:=.slice la ln lc) hz rfl)
    have HL6:=Lib.hid hl6
    have HF6:=Lib.hid hf6
    have HBL:=Lib.hid hbl
    clear hz hl6 hf6 hl' hf5 hfd hbl
    refine honL 17 ?_
    refine heldL_write (i:=17) rfl (by rfl) (by rfl) (fun K' hK'=>?_)
    go_simp
    (skip)
    refine hK'.out _ _ ?_
    clear hK' K'
    try simp only[nrm]
    refine honL 18 ?_
    refine heldL_write (i:=18) rfl (by rfl) (by rfl) (fun K' hK'=>?_)
    go_simp
    (skip)
    refine hK'.out _ _ ?_
    clear hK' K'
    try simp only[nrm]
    refine honL 19 ?_
    refine heldL_write (i:=19) rfl (by rfl) (by rfl) (fun K' hK'=>?_)
    go_simp
    (skip)
    refine hK'.out _ _ ?_
    clear hK' K'
    try simp only[nrm]
    refine heldL_done (by kernel_rfl) ?_ _
    go_wp2
    go_meet
    exact⟨bq,la,lc,rfl,rfl,rfl,HP3.out.1,HL6.out.kt HP3.out.2.2,HF6.out.then HP3.out.2.1 (by intro q hq;simp at hq;subst hq;exact .inr HBL.out),HBL.out⟩
   ·skip
    refine heldL_step (i:=16) rfl rfl (by rfl) (fun K' hK'=>?_)
    go_simp
    (skip)
    refine hK'.out _ _ ((Frm.refl _ _).alloc _) ?_
    clear hK' K'
    try simp only[nrm]
    obtain⟨bq,hbq⟩:∃ b,wd.heap.size=b:=⟨_,rfl⟩
    have hz0:=heap_alloc_new wd (.cells #[.int .i64 0,.int .i64 0,.slice none 0 0] 190)
    obtain⟨v4,hv4⟩:∃ X,wd.alloc (.cells #[.int .i64 0,.int .i64 0,.slice none 0 0] 190)=X:=⟨_,rfl⟩
    have hf4:Frm [] w18 v4:=by rw[← hv4];exact hfd.alloc _
    rw[hv4,hbq] at hz0 ⊢
    have hbl:w18.heap.size≤bq:=hbq ▸ hfd.size
    clear hv4 hbq
    refine honL 11 ?_
    refine heldL_step (i:=11) rfl rfl (by rfl) (fun K' hK'=>?_)
    go_simp
    (refine(CL.out _ hf4).mono ?_;rintro e v6 ⟨u,rfl,lv',rfl,hl',hf5,hown⟩;obtain⟨la,lc,rfl,-⟩:=hl'.shape;rw[HLN.out] at hl' ⊢)
    refine hK'.out _ _ (hf5) ?_
    clear hK' K'
    try simp only[nrm]
    refine cnt 12 ?_
    iterate 4
     refine hcP ?_ ?_ ?_
     rotate_left
     ·intro w'
      go_simp
      try rfl
     try simp only[nrm,Nat.reduceAdd]
    refine tcn ?_
    have hz:=hf5.at hz0 (by simp)
    have hf6:=hf4.trans hf5
    have hl6:=hl'
    have y0:=cell_of hz 0
    have y1:=cell_of hz 1
    have y2:=cell_of hz 2
    have f0:=free_of hz 0
    have f1:=free_of hz 1
    have f2:=free_of hz 2
    have HP3:=Lib.hid (put3 (u:=.int .i64 s.cls) (v:=.int .i64 s.cap) (z:=.slice la ln lc) hz rfl)
    have HL6:=Lib.hid hl6
    have HF6:=Lib.hid hf6
    have HBL:=Lib.hid hbl
    clear hz hl6 hf6 hl' hf5 hfd hbl
    refine honL 17 ?_
    refine heldL_write (i:=17) rfl (by rfl) (by rfl) (fun K' hK'=>?_)
    go_simp
    (skip)
    refine hK'.out _ _ ?_
    clear hK' K'
    try simp only[nrm]
    refine honL 18 ?_
    refine heldL_write (i:=18) rfl (by rfl) (by rfl) (fun K' hK'=>?_)
    go_simp
    (skip)
    refine hK'.out _ _ ?_
    clear hK' K'
    try simp only[nrm]
    refine honL 19 ?_
    refine heldL_write (i:=19) rfl (by rfl) (by rfl) (fun K' hK'=>?_)
    go_simp
    (skip)
    refine hK'.out _ _ ?_
    clear hK' K'
    try simp only[nrm]
    refine heldL_done (by kernel_rfl) ?_ _
    go_wp2
    go_meet
    exact⟨bq,la,lc,rfl,rfl,rfl,HP3.out.1,HL6.out.kt HP3.out.2.2,HF6.out.then HP3.out.2.1 (by intro q hq;simp at hq;subst hq;exact .inr HBL.out),HBL.out⟩
  case rest =>
   obtain⟨bq,la,lc,rfl,rfl,rfl,hbq,hlq,hfq,hlb⟩:=hcut
   obtain⟨wc2,hwc2⟩:∃ q,q=wc:=⟨_,rfl⟩
   subst hwc2
   have HBQ:=Lib.hid hbq;have HLQ:=Lib.hid hlq;have HFQ:=Lib.hid hfq
   clear hbq hlq hfq CL HCX
   obtain⟨ya2,yb2,yw2,yi2,za2,zb2,zw2,hb8,hyo,l1,l2,l3,l4⟩:=HY18.out.out
   rw[HN.out] at hb8
   obtain⟨cy,hcy⟩:=hyo.w q ha
   rw[HN.out] at hcy
   have hyl:=(hyo.ti q ha).lt
   have hty:=hyo.ti q ha
   have hl4:=l4 q ha
   have n1:b8≠yi2 q:=Ty.ne ⟨_,hb8⟩ hty (by decide)
   have n2:=(hyo.tw.ne hty (by decide))
   have n3:bq≠yi2 q:=by omega
   have HYO:=Lib.hid hyo
   have HCY:Hid (∀ V,Frm [yi2 q] wc2 V→(((V.cell? ⟨b8,2,none⟩=some (.slice (some ⟨yw2,0,none⟩) n zw2)∧V.cell? ⟨w.heap.size + 2,1,none⟩=some (.int .i64 (i:Nat)))∧V.cell? ⟨yw2,q,none⟩=some (.slice (some ⟨yi2 q,0,none⟩) n cy))∧V.cell? ⟨bq,0,none⟩=some (.int .i64 s.cls)∧V.cell? ⟨bq,1,none⟩=some (.int .i64 s.cap)∧V.cell? ⟨bq,2,none⟩=some (.slice la ln lc))):=Lib.hid fun V hV=>by
    have g1:=hV.at (HFQ.out.at hb8 (by simp)) (by simpa using n1)
    have g2:=hV.at (HFQ.out.at HDX18.out.b2 (by simp)) (by simp;omega)
    have g3:=hV.cellAt (HFQ.out.keep hcy) (by simpa using n2)
    have g4:=hV.at HBQ.out (by simpa using n3)
    exact⟨⟨⟨cell_of g1 2,cell_of g2 1⟩,g3⟩,cell_of g4 0,cell_of g4 1,cell_of g4 2⟩
   have HB8q:=Lib.hid hb8
   clear hb8 hcy
   go_upto_region 21 with fail
   refine heldF_start (F:=[yi2 q]) (by kernel_rfl) ?_
   obtain⟨wd2,hwd⟩:∃ wd,wc2.drew=wd:=⟨_,rfl⟩
   have hfd:Frm [] wc2 wd2:=by rw[← hwd];exact(Frm.refl _ _).drew
   rw[hwd]
   clear hwd
   refine cnt 0 ?_
   iterate 8
    refine hcF ?_ ?_ ?_
    rotate_left
    ·intro w' hC
     obtain⟨⟨⟨x0,x1⟩,x3⟩,x4,x5,x6⟩:=HCY.out w' ((hfd.mono (by simp)).trans hC)
     clear hC
     go_simp
     try rfl
    try simp only[nrm,Nat.reduceAdd]
   refine tcn ?_
   refine htF 8 ?_ ?_ ?_
   rotate_left
   ·intro w' hC
    clear hC
    go_simp
    try rfl
   try simp only[nrm]
   have hyd:=HYO.out.frm (HFQ.out.trans hfd)
   obtain⟨lv9,s0,s1,s2,-⟩:=hyd.r q i ha hb
   obtain⟨cu9,hu9⟩:=hyd.ti q ha
   have f0:=free_of hu9 (i * 3)
   have f1:=free_of hu9 (i * 3 + 1)
   have f2:=free_of hu9 (i * 3 + 2)
   have HSW:=Lib.hid (hyd.setWay ha hb (HLQ.out.frm hfd (by simp)) (by rw[HYW.out];exact HPK.out.wl) (by rw[HYW.out];exact HPK.out.wr q ha))
   have HF9:Hid (Frm [yi2 q] wc2 _):=Lib.hid ((hfd.mono (by simp)).trans (((setFrm wd2 (yi2 q) (i * 3) (.int .i64 s.cls)).trans (setFrm _ (yi2 q) (i * 3 + 1) (.int .i64 s.cap))).trans (setFrm _ (yi2 q) (i * 3 + 2) (.slice la ln lc))))
   clear hyd hu9
   refine hstF 9 (fun K' hK'=>?_)
   go_simp
   (skip)
   refine hK'.out _ _ ((((Frm.refl [yi2 q] _).setCell _ (.inl (by simp)) _).setCell _ (.inl (by simp)) _).setCell _ (.inl (by simp)) _) ?_
   clear hK' K'
   try simp only[nrm]
   refine wpAnyH_done (by kernel_rfl) ?_ _
   obtain⟨w9q,hw9⟩:∃ X,((wd2.setCell ⟨yi2 q,i * 3,none⟩ (.int .i64 s.cls)).setCell ⟨yi2 q,i * 3 + 1,none⟩ (.int .i64 s.cap)).setCell ⟨yi2 q,i * 3 + 2,none⟩ (.slice la ln lc)=X:=⟨_,rfl⟩
   rw[hw9] at HSW HF9 ⊢
   have HB9:=Lib.hid (HF9.out.at (HFQ.out.at HB8q.out (by simp)) (by simpa using n1))
   have HDX9q:=Lib.hid ((HDX18.out.frm HFQ.out (by simp)).frm HF9.out (by intro q hq;simp at hq;subst hq;exact hl4))
   have HB13q:=Lib.hid (HF9.out.at (HFQ.out.at HB13y.out (by simp)) (by simpa using Ty.ne ⟨_,HB13y.out⟩ hty (by decide)))
   have HW9:Hid (Frm [] w w9q):=Lib.hid ((HW18.out.trans HFQ.out).then HF9.out (by intro q hq;simp at hq;subst hq;exact .inr (by omega)))
   have HY9:Hid (YSt w s b8 _ w9q):=Lib.hid ⟨HY18.out.lo,ya2,yb2,yw2,yi2,za2,zb2,zw2,by rw[HN.out];exact HB9.out,HSW.out,l1,l2,l3,l4⟩
   clear hw9 HSW HCY hfd
   have HMV:Hid (∀ V,Frm [w.heap.size + 3] w9q V→V.cell? ⟨b13,3,none⟩=some (.string t.msg)):=Lib.hid fun V hV=>cell_of (hV.at HB13q.out (by simp;omega)) 3
   by_cases hz:LE=0
   ·have hzb:(LE == 0)=true:=by rw[beq_iff_eq];exact hz
    by_cases hp:TM=t.msg
    ·have hpb:(TM.toList == t.msg.toList)=true:=by rw[str_beq];exact decide_eq_true hp
     have hnok:=next_ok HOK.out HPK.out ((do_iff HOK.out HPK.out _).1 (HD.out.trans (decide_eq_true ⟨hz,hp⟩)))
     rw[HNX.out] at hnok
     have HNO:=Lib.hid hnok
     have HZ:=Lib.hid (And.intro hz hp)
     clear hnok hz hp
     go_upto_region 22 with fail
     refine heldF_start (F:=[w.heap.size + 3]) (by kernel_rfl) ?_
     obtain⟨wd,hwd⟩:∃ wd,w9q.drew=wd:=⟨_,rfl⟩
     have hfd:Frm [] w9q wd:=by rw[← hwd];exact(Frm.refl _ _).drew
     rw[hwd]
     clear hwd
     refine cnt 0 ?_
     iterate 9
      refine hcF ?_ ?_ ?_
      rotate_left
      ·intro w' hC
       have hF:=(hfd.mono (by simp)).trans hC
       have hz:=hF.at HB9.out (by simp;have:=HY18.out.lo;omega)
       have z0:=cell_of hz 0
       have z1:=cell_of hz 1
       have z2:=cell_of hz 2
       have x3:=HMV.out w' hF
       clear hz hF
       clear hC
       go_simp
       try rfl
      try simp only[nrm,Nat.reduceAdd]
     refine tcn ?_
     have hb3:=hfd.at HDX9q.out.b3 (by simp)
     have f0:=free_of hb3 0
     have f1:=free_of hb3 1
     have f2:=free_of hb3 2
     have y0:=cell_of hb3 0
     have y1:=cell_of hb3 1
     have y2:=cell_of hb3 2
     have HP3:=Lib.hid (put3 (u:=.slice (some ⟨ya2,0,none⟩) n za2) (v:=.slice (some ⟨yb2,0,none⟩) n zb2) (z:=.slice (some ⟨yw2,0,none⟩) n zw2) hb3 rfl)
     have HFD:=Lib.hid hfd
     clear hb3 hfd
     refine hstF 9 (fun K' hK'=>?_)
     go_simp
     (skip)
     refine hK'.out _ _ (((Frm.refl _ _).setCell _ (.inl (by simp)) _).setCell _ (.inl (by simp)) _ |>.setCell _ (.inl (by simp)) _) ?_
     clear hK' K'
     try simp only[nrm]
     refine htF 10 ?_ ?_ ?_
     rotate_left
     ·intro w' hC
      clear hC
      go_simp
      try rfl
     try simp only[nrm]
     refine wpAnyH_done (by kernel_rfl) ?_ _
     go_wp2
     refine bodyPost_ret (results_s2 rfl rfl rfl HP3.out.1 rfl) rfl ⟨_,rfl,(HW9.out.trans HFD.out).then HP3.out.2.1 (by intro q hq;simp at hq;omega),.inl ⟨by rw[HD.out];exact decide_eq_true HZ.out,_,rfl,?_⟩⟩
     rw[HNX.out]
     have:=(HY9.out.frm HFD.out).end HNO.out (by rw[HN.out];exact HFD.out.at HB9.out (by simp)) HP3.out.2.2
     rw[HN.out] at this
     exact this
    ·have hpb:(TM.toList == t.msg.toList)=false:=by rw[str_beq];exact decide_eq_false hp
     have HZ:=Lib.hid hp
     clear hz hp
     go_upto_region 22 with fail
     refine heldF_start (F:=[w.heap.size + 3]) (by kernel_rfl) ?_
     obtain⟨wd,hwd⟩:∃ wd,w9q.drew=wd:=⟨_,rfl⟩
     have hfd:Frm [] w9q wd:=by rw[← hwd];exact(Frm.refl _ _).drew
     rw[hwd]
     clear hwd
     refine cnt 0 ?_
     iterate 9
      refine hcF ?_ ?_ ?_
      rotate_left
      ·intro w' hC
       have hF:=(hfd.mono (by simp)).trans hC
       have hz:=hF.at HB9.out (by simp;have:=HY18.out.lo;omega)
       have z0:=cell_of hz 0
       have z1:=cell_of hz 1
       have z2:=cell_of hz 2
       have x3:=HMV.out w' hF
       clear hz hF
       clear hC
       go_simp
       try rfl
      try simp only[nrm,Nat.reduceAdd]
     refine tcn ?_
     have hb3:=hfd.at HDX9q.out.b3 (by simp)
     have f0:=free_of hb3 0
     have f1:=free_of hb3 1
     have f2:=free_of hb3 2
     have y0:=cell_of hb3 0
     have y1:=cell_of hb3 1
     have y2:=cell_of hb3 2
     have HP3:=Lib.hid (put3 (u:=.slice (some ⟨ya2,0,none⟩) n za2) (v:=.slice (some ⟨yb2,0,none⟩) n zb2) (z:=.slice (some ⟨yw2,0,none⟩) n zw2) hb3 rfl)
     have HFD:=Lib.hid hfd
     clear hb3 hfd
     refine hstF 9 (fun K' hK'=>?_)
     go_simp
     (skip)
     refine hK'.out _ _ (((Frm.refl _ _).setCell _ (.inl (by simp)) _).setCell _ (.inl (by simp)) _ |>.setCell _ (.inl (by simp)) _) ?_
     clear hK' K'
     try simp only[nrm]
     refine htF 10 ?_ ?_ ?_
     rotate_left
     ·intro w' hC
      clear hC
      go_simp
      try rfl
     try simp only[nrm]
     refine wpAnyH_done (by kernel_rfl) ?_ _
     go_wp2
     refine bodyPost_ret (results_s2 rfl rfl rfl HP3.out.1 rfl) rfl ⟨_,rfl,(HW9.out.trans HFD.out).then HP3.out.2.1 (by intro q hq;simp at hq;omega),.inr ⟨by rw[HD.out];exact decide_eq_false (fun h=>HZ.out h.2),_,rfl,rfl,one3v ..⟩⟩
   ·have hzb:(LE == 0)=false:=by rw[beq_eq_false_iff_ne];exact hz
    have HZ:=Lib.hid hz
    clear hz
    go_upto_region 22 with fail
    refine heldF_start (F:=[w.heap.size + 3]) (by kernel_rfl) ?_
    obtain⟨wd,hwd⟩:∃ wd,w9q.drew=wd:=⟨_,rfl⟩
    have hfd:Frm [] w9q wd:=by rw[← hwd];exact(Frm.refl _ _).drew
    rw[hwd]
    clear hwd
    refine cnt 0 ?_
    iterate 4
     refine hcF ?_ ?_ ?_
     rotate_left
     ·intro w' hC
      have hF:=(hfd.mono (by simp)).trans hC
      have hz:=hF.at HB9.out (by simp;have:=HY18.out.lo;omega)
      have z0:=cell_of hz 0
      have z1:=cell_of hz 1
      have z2:=cell_of hz 2
      have x3:=HMV.out w' hF
      clear hz hF
      clear hC
      go_simp
      try rfl
     try simp only[nrm,Nat.reduceAdd]
    refine tcn ?_
    refine cnt 4 ?_
    iterate 4
     refine hdF ?_
     try simp only[nrm,Nat.reduceAdd]
    refine tcn ?_
    refine htF 8 ?_ ?_ ?_
    rotate_left
    ·intro w' hC
     clear hC
     go_simp
     try rfl
    try simp only[nrm]
    have hb3:=hfd.at HDX9q.out.b3 (by simp)
    have f0:=free_of hb3 0
    have f1:=free_of hb3 1
    have f2:=free_of hb3 2
    have y0:=cell_of hb3 0
    have y1:=cell_of hb3 1
    have y2:=cell_of hb3 2
    have HP3:=Lib.hid (put3 (u:=.slice (some ⟨ya2,0,none⟩) n za2) (v:=.slice (some ⟨yb2,0,none⟩) n zb2) (z:=.slice (some ⟨yw2,0,none⟩) n zw2) hb3 rfl)
    have HFD:=Lib.hid hfd
    clear hb3 hfd
    refine hstF 9 (fun K' hK'=>?_)
    go_simp
    (skip)
    refine hK'.out _ _ (((Frm.refl _ _).setCell _ (.inl (by simp)) _).setCell _ (.inl (by simp)) _ |>.setCell _ (.inl (by simp)) _) ?_
    clear hK' K'
    try simp only[nrm]
    refine htF 10 ?_ ?_ ?_
    rotate_left
    ·intro w' hC
     clear hC
     go_simp
     try rfl
    try simp only[nrm]
    refine wpAnyH_done (by kernel_rfl) ?_ _
    go_wp2
    refine bodyPost_ret (results_s2 rfl rfl rfl HP3.out.1 rfl) rfl ⟨_,rfl,(HW9.out.trans HFD.out).then HP3.out.2.1 (by intro q hq;simp at hq;omega),.inr ⟨by rw[HD.out];exact decide_eq_false (fun h=>HZ.out h.1),_,rfl,rfl,one3v ..⟩⟩
 ·have h2b:(t.kind == 2)=false:=by rw[beq_eq_false_iff_ne];exact h2k
  by_cases h1k:t.kind=1
  ·have h1b:(t.kind == 1)=true:=by rw[beq_iff_eq];exact h1k
   have hpe:=HOK.out.peer hi (by rw[HNT.out];exact hk) (by rw[HT.out,h1k];decide)
   obtain⟨q,hq⟩:∃ q,peerN s ((s.rol i).stp k)=q:=⟨_,rfl⟩
   rw[hq,HT.out,HPI.out] at hpe
   obtain⟨hpq,hb,hqi⟩:=hpe
   subst hpq
   have ha:=hi
   have hqn:(q:Int) < (n:Int):=by rw[HN.out] at hb;omega
   obtain⟨ci,hci⟩:=HRO.out.w i ha
   obtain⟨lv,g0,g1,g2,g3⟩:=HRO.out.r i q ha hb
   have hlen:(x.way i q).length≤64:=by have:=(HPK.out.wb i q ha hb).1;have:=HOK.out.k4;omega
   have CL0:=Lib.hid (fun V (hV:Frm [] w V)=>refPut_any s.cls s.cap lv (x.way i q) t.msg V (g3.frm hV (by simp)) hlen)
   obtain⟨lva,lvc,rfl,-⟩:=g3.shape
   obtain⟨LE,hLE⟩:∃ M,putE s.cap (x.way i q) t.msg=M:=⟨_,rfl⟩
   obtain⟨LL,hLL⟩:∃ M,putL s.cap (x.way i q) t.msg=M:=⟨_,rfl⟩
   obtain⟨ln,hln⟩:∃ M,LL.length=M:=⟨_,rfl⟩
   rw[hLE,hLL] at CL0
   have HLN:=Lib.hid hln
   have hd:doB s x ⟨1,(i:Nat),(k:Nat),pl⟩=decide (LE=0∧pl=0):=by
    rw[HDB.out,if_neg (by rw[HPS.out];decide),hq,HT.out,if_neg h2k,if_pos h1k,hLE]
   have hyw:y.ways=x.ways:=by rw[← HYY.out]
   have hnx:nextP s x ⟨1,(i:Nat),(k:Nat),pl⟩={ y with ways:=setWay y.ways i q LL }:=by
    rw[next_step,hq,HT.out,HTO.out,HVSE.out,if_pos h1k,hLL,← HYY.out]
    rfl
   have HD:=Lib.hid hd;have HNX:=Lib.hid hnx;have HYW:=Lib.hid hyw
   rw[HN.out] at hci
   have HCX:Hid (∀ V,Frm [] w18 V→(((V.cell? ⟨w.heap.size + 1,2,none⟩=some (.slice (some ⟨bw,0,none⟩) n cw)∧V.cell? ⟨w.heap.size + 2,1,none⟩=some (.int .i64 (i:Nat)))∧V.cell? ⟨b13,3,none⟩=some (.string t.msg)∧V.cell? ⟨bw,i,none⟩=some (.slice (some ⟨bi i,0,none⟩) n ci))∧V.cell? ⟨bi i,q * 3,none⟩=some (.int .i64 s.cls)∧V.cell? ⟨bi i,q * 3 + 1,none⟩=some (.int .i64 s.cap)∧V.cell? ⟨bi i,q * 3 + 2,none⟩=some (.slice lva (x.way i q).length lvc))):=Lib.hid fun V hV=>by
    have hw:=HW18.out.trans hV
    exact⟨⟨⟨cell_of (hV.at HDX18.out.b1 (by simp)) 2,cell_of (hV.at HDX18.out.b2 (by simp)) 1⟩,cell_of (hV.at HB13y.out (by simp)) 3,hw.keep hci⟩,hw.keep g0,hw.keep g1,hw.keep g2⟩
   have CL:=Lib.hid (fun V (hV:Frm [] w18 V)=>CL0.out V (HW18.out.trans hV))
   clear hLE hLL hln hd hnx hyw hci g0 g1 g2 g3 hlen CL0 h2k h1k hq
   go_upto_region 24 with fail
   clear k2
   go_upto_region 24 with fail
   try simp only[Act.put]
   go_cut [20,21] (fun s20 s21 wc=>∃ (bq:Nat) (la:Option Addr) (lc:Nat),s20=.pointer (some ⟨bq,0,none⟩)∧s21=.int .i64 LE∧wc.heap[bq]?=some (.cells #[.int .i64 s.cls,.int .i64 s.cap,.slice la ln lc] 190 (0,0))∧Lf wc (.slice la ln lc) LL∧Frm [] w18 wc∧w18.heap.size≤bq)
   case first =>
    refine heldL_start [] (wrSet [16,17]) (by kernel_rfl) ?_
    refine cnt 0 ?_
    iterate 11
     refine hcL ?_ ?_ ?_
     rotate_left
     ·intro w' hC
      obtain⟨⟨⟨x0,x1⟩,x2,x3⟩,x4,x5,x6⟩:=HCX.out w' ((Frm.refl [] w18).drew.trans hC)
      clear hC
      go_simp
      try rfl
     try simp only[nrm,Nat.reduceAdd]
    refine tcn ?_
    obtain⟨wd,hwd⟩:∃ wd,w18.drew=wd:=⟨_,rfl⟩
    have hfd:Frm [] w18 wd:=by rw[← hwd];exact(Frm.refl _ _).drew
    rw[hwd]
    clear hwd
    refine heldL_all (rs:=[11,15]) (by kernel_rfl) (by simp) (allL_cons ?_ (allL_cons ?_ allL_nil))
    ·skip
     refine heldL_step (i:=11) rfl rfl (by rfl) (fun K' hK'=>?_)
     go_simp
     (refine(CL.out _ hfd).mono ?_;rintro e v5 ⟨u,rfl,lv',rfl,hl',hf5,hown⟩;obtain⟨la,lc,rfl,-⟩:=hl'.shape;rw[HLN.out] at hl' ⊢)
     refine hK'.out _ _ (hf5) ?_
     clear hK' K'
     try simp only[nrm]
     refine cnt 12 ?_
     iterate 3
      refine hcP ?_ ?_ ?_
      rotate_left
      ·intro w'
       go_simp
       try rfl
      try simp only[nrm,Nat.reduceAdd]
     refine tcn ?_
     refine honL 15 ?_
     refine heldL_step (i:=15) rfl rfl (by rfl) (fun K' hK'=>?_)
     go_simp
     (skip)
     refine hK'.out _ _ ((Frm.refl _ _).alloc _) ?_
     clear hK' K'
     try simp only[nrm]
     obtain⟨bq,hbq⟩:∃ b,v5.heap.size=b:=⟨_,rfl⟩
     have hz:=heap_alloc_new v5 (.cells #[.int .i64 0,.int .i64 0,.slice none 0 0] 190)
     have hf6:Frm [] w18 (v5.alloc (.cells #[.int .i64 0,.int .i64 0,.slice none 0 0] 190)):=(hfd.trans hf5).alloc _
     have hl6:=hl'.frm ((Frm.refl [] v5).alloc (.cells #[.int .i64 0,.int .i64 0,.slice none 0 0] 190)) (by simp)
     obtain⟨v6,hv6⟩:∃ X,v5.alloc (.cells #[.int .i64 0,.int .i64 0,.slice none 0 0] 190)=X:=⟨_,rfl⟩
     rw[hv6,hbq] at hz ⊢
     rw[hv6] at hf6 hl6
     have hbl:w18.heap.size≤bq:=hbq ▸ (hfd.trans hf5).size
     clear hv6 hbq
     have y0:=cell_of hz 0
     have y1:=cell_of hz 1
     have y2:=cell_of hz 2
     have f0:=free_of hz 0
     have f1:=free_of hz 1
     have f2:=free_of hz 2
     have HP3:=Lib.hid (put3 (u:=.int .i64 s.cls) (v:=.int .i64 s.cap) (z:=.slice la ln lc) hz rfl)
     have HL6:=Lib.hid hl6
     have HF6:=Lib.hid hf6
     have HBL:=Lib.hid hbl
     clear hz hl6 hf6 hl' hf5 hfd hbl
     refine honL 16 ?_
     refine heldL_write (i:=16) rfl (by rfl) (by rfl) (fun K' hK'=>?_)
     go_simp
     (skip)
     refine hK'.out _ _ ?_
     clear hK' K'
     try simp only[nrm]
     refine honL 17 ?_
     refine heldL_write (i:=17) rfl (by rfl) (by rfl) (fun K' hK'=>?_)
     go_simp
     (skip)
     refine hK'.out _ _ ?_
     clear hK' K'
     try simp only[nrm]
     refine heldL_done (by kernel_rfl) ?_ _
     go_wp2
     go_meet
     exact⟨bq,la,lc,rfl,rfl,HP3.out.1,HL6.out.kt HP3.out.2.2,HF6.out.then HP3.out.2.1 (by intro q hq;simp at hq;subst hq;exact .inr HBL.out),HBL.out⟩
    ·skip
     refine heldL_step (i:=15) rfl rfl (by rfl) (fun K' hK'=>?_)
     go_simp
     (skip)
     refine hK'.out _ _ ((Frm.refl _ _).alloc _) ?_
     clear hK' K'
     try simp only[nrm]
     obtain⟨bq,hbq⟩:∃ b,wd.heap.size=b:=⟨_,rfl⟩
     have hz0:=heap_alloc_new wd (.cells #[.int .i64 0,.int .i64 0,.slice none 0 0] 190)
     obtain⟨v4,hv4⟩:∃ X,wd.alloc (.cells #[.int .i64 0,.int .i64 0,.slice none 0 0] 190)=X:=⟨_,rfl⟩
     have hf4:Frm [] w18 v4:=by rw[← hv4];exact hfd.alloc _
     rw[hv4,hbq] at hz0 ⊢
     have hbl:w18.heap.size≤bq:=hbq ▸ hfd.size
     clear hv4 hbq
     refine honL 11 ?_
     refine heldL_step (i:=11) rfl rfl (by rfl) (fun K' hK'=>?_)
     go_simp
     (refine(CL.out _ hf4).mono ?_;rintro e v6 ⟨u,rfl,lv',rfl,hl',hf5,hown⟩;obtain⟨la,lc,rfl,-⟩:=hl'.shape;rw[HLN.out] at hl' ⊢)
     refine hK'.out _ _ (hf5) ?_
     clear hK' K'
     try simp only[nrm]
     refine cnt 12 ?_
     iterate 3
      refine hcP ?_ ?_ ?_
      rotate_left
      ·intro w'
       go_simp
       try rfl
      try simp only[nrm,Nat.reduceAdd]
     refine tcn ?_
     have hz:=hf5.at hz0 (by simp)
     have hf6:=hf4.trans hf5
     have hl6:=hl'
     have y0:=cell_of hz 0
     have y1:=cell_of hz 1
     have y2:=cell_of hz 2
     have f0:=free_of hz 0
     have f1:=free_of hz 1
     have f2:=free_of hz 2
     have HP3:=Lib.hid (put3 (u:=.int .i64 s.cls) (v:=.int .i64 s.cap) (z:=.slice la ln lc) hz rfl)
     have HL6:=Lib.hid hl6
     have HF6:=Lib.hid hf6
     have HBL:=Lib.hid hbl
     clear hz hl6 hf6 hl' hf5 hfd hbl
     refine honL 16 ?_
     refine heldL_write (i:=16) rfl (by rfl) (by rfl) (fun K' hK'=>?_)
     go_simp
     (skip)
     refine hK'.out _ _ ?_
     clear hK' K'
     try simp only[nrm]
     refine honL 17 ?_
     refine heldL_write (i:=17) rfl (by rfl) (by rfl) (fun K' hK'=>?_)
     go_simp
     (skip)
     refine hK'.out _ _ ?_
     clear hK' K'
     try simp only[nrm]
     refine heldL_done (by kernel_rfl) ?_ _
     go_wp2
     go_meet
     exact⟨bq,la,lc,rfl,rfl,HP3.out.1,HL6.out.kt HP3.out.2.2,HF6.out.then HP3.out.2.1 (by intro q hq;simp at hq;subst hq;exact .inr HBL.out),HBL.out⟩
   case rest =>
    obtain⟨bq,la,lc,rfl,rfl,hbq,hlq,hfq,hlb⟩:=hcut
    obtain⟨wc2,hwc2⟩:∃ q,q=wc:=⟨_,rfl⟩
    subst hwc2
    have HBQ:=Lib.hid hbq;have HLQ:=Lib.hid hlq;have HFQ:=Lib.hid hfq
    clear hbq hlq hfq CL HCX
    obtain⟨ya2,yb2,yw2,yi2,za2,zb2,zw2,hb8,hyo,l1,l2,l3,l4⟩:=HY18.out.out
    rw[HN.out] at hb8
    obtain⟨cy,hcy⟩:=hyo.w i ha
    rw[HN.out] at hcy
    have hyl:=(hyo.ti i ha).lt
    have hty:=hyo.ti i ha
    have hl4:=l4 i ha
    have n1:b8≠yi2 i:=Ty.ne ⟨_,hb8⟩ hty (by decide)
    have n2:=(hyo.tw.ne hty (by decide))
    have n3:bq≠yi2 i:=by omega
    have HYO:=Lib.hid hyo
    have HCY:Hid (∀ V,Frm [yi2 i] wc2 V→(((V.cell? ⟨b8,2,none⟩=some (.slice (some ⟨yw2,0,none⟩) n zw2)∧V.cell? ⟨w.heap.size + 2,1,none⟩=some (.int .i64 (i:Nat)))∧V.cell? ⟨yw2,i,none⟩=some (.slice (some ⟨yi2 i,0,none⟩) n cy))∧V.cell? ⟨bq,0,none⟩=some (.int .i64 s.cls)∧V.cell? ⟨bq,1,none⟩=some (.int .i64 s.cap)∧V.cell? ⟨bq,2,none⟩=some (.slice la ln lc))):=Lib.hid fun V hV=>by
     have g1:=hV.at (HFQ.out.at hb8 (by simp)) (by simpa using n1)
     have g2:=hV.at (HFQ.out.at HDX18.out.b2 (by simp)) (by simp;omega)
     have g3:=hV.cellAt (HFQ.out.keep hcy) (by simpa using n2)
     have g4:=hV.at HBQ.out (by simpa using n3)
     exact⟨⟨⟨cell_of g1 2,cell_of g2 1⟩,g3⟩,cell_of g4 0,cell_of g4 1,cell_of g4 2⟩
    have HB8q:=Lib.hid hb8
    clear hb8 hcy
    go_upto_region 25 with fail
    refine heldF_start (F:=[yi2 i]) (by kernel_rfl) ?_
    obtain⟨wd2,hwd⟩:∃ wd,wc2.drew=wd:=⟨_,rfl⟩
    have hfd:Frm [] wc2 wd2:=by rw[← hwd];exact(Frm.refl _ _).drew
    rw[hwd]
    clear hwd
    refine cnt 0 ?_
    iterate 8
     refine hcF ?_ ?_ ?_
     rotate_left
     ·intro w' hC
      obtain⟨⟨⟨x0,x1⟩,x3⟩,x4,x5,x6⟩:=HCY.out w' ((hfd.mono (by simp)).trans hC)
      clear hC
      go_simp
      try rfl
     try simp only[nrm,Nat.reduceAdd]
    refine tcn ?_
    refine htF 8 ?_ ?_ ?_
    rotate_left
    ·intro w' hC
     clear hC
     go_simp
     try rfl
    try simp only[nrm]
    have hyd:=HYO.out.frm (HFQ.out.trans hfd)
    obtain⟨lv9,s0,s1,s2,-⟩:=hyd.r i q ha hb
    obtain⟨cu9,hu9⟩:=hyd.ti i ha
    have f0:=free_of hu9 (q * 3)
    have f1:=free_of hu9 (q * 3 + 1)
    have f2:=free_of hu9 (q * 3 + 2)
    have HSW:=Lib.hid (hyd.setWay ha hb (HLQ.out.frm hfd (by simp)) (by rw[HYW.out];exact HPK.out.wl) (by rw[HYW.out];exact HPK.out.wr i ha))
    have HF9:Hid (Frm [yi2 i] wc2 _):=Lib.hid ((hfd.mono (by simp)).trans (((setFrm wd2 (yi2 i) (q * 3) (.int .i64 s.cls)).trans (setFrm _ (yi2 i) (q * 3 + 1) (.int .i64 s.cap))).trans (setFrm _ (yi2 i) (q * 3 + 2) (.slice la ln lc))))
    clear hyd hu9
    refine hstF 9 (fun K' hK'=>?_)
    go_simp
    (skip)
    refine hK'.out _ _ ((((Frm.refl [yi2 i] _).setCell _ (.inl (by simp)) _).setCell _ (.inl (by simp)) _).setCell _ (.inl (by simp)) _) ?_
    clear hK' K'
    try simp only[nrm]
    refine wpAnyH_done (by kernel_rfl) ?_ _
    obtain⟨w9q,hw9⟩:∃ X,((wd2.setCell ⟨yi2 i,q * 3,none⟩ (.int .i64 s.cls)).setCell ⟨yi2 i,q * 3 + 1,none⟩ (.int .i64 s.cap)).setCell ⟨yi2 i,q * 3 + 2,none⟩ (.slice la ln lc)=X:=⟨_,rfl⟩
    rw[hw9] at HSW HF9 ⊢
    have HB9:=Lib.hid (HF9.out.at (HFQ.out.at HB8q.out (by simp)) (by simpa using n1))
    have HDX9q:=Lib.hid ((HDX18.out.frm HFQ.out (by simp)).frm HF9.out (by intro q hq;simp at hq;subst hq;exact hl4))
    have HB13q:=Lib.hid (HF9.out.at (HFQ.out.at HB13y.out (by simp)) (by simpa using Ty.ne ⟨_,HB13y.out⟩ hty (by decide)))
    have HW9:Hid (Frm [] w w9q):=Lib.hid ((HW18.out.trans HFQ.out).then HF9.out (by intro q hq;simp at hq;subst hq;exact .inr (by omega)))
    have HY9:Hid (YSt w s b8 _ w9q):=Lib.hid ⟨HY18.out.lo,ya2,yb2,yw2,yi2,za2,zb2,zw2,by rw[HN.out];exact HB9.out,HSW.out,l1,l2,l3,l4⟩
    clear hw9 HSW HCY hfd
    have HMV:Hid (∀ V,Frm [w.heap.size + 3] w9q V→V.cell? ⟨w.heap.size + 2,3,none⟩=some (.int .i64 pl)):=Lib.hid fun V hV=>cell_of (hV.at HDX9q.out.b2 (by simp)) 3
    by_cases hz:LE=0
    ·have hzb:(LE == 0)=true:=by rw[beq_iff_eq];exact hz
     by_cases hp:pl=0
     ·have hpb:(pl == 0)=true:=by rw[beq_iff_eq];exact hp
      have hnok:=next_ok HOK.out HPK.out ((do_iff HOK.out HPK.out _).1 (HD.out.trans (decide_eq_true ⟨hz,hp⟩)))
      rw[HNX.out] at hnok
      have HNO:=Lib.hid hnok
      have HZ:=Lib.hid (And.intro hz hp)
      clear hnok hz hp
      go_upto_region 26 with fail
      refine heldF_start (F:=[w.heap.size + 3]) (by kernel_rfl) ?_
      obtain⟨wd,hwd⟩:∃ wd,w9q.drew=wd:=⟨_,rfl⟩
      have hfd:Frm [] w9q wd:=by rw[← hwd];exact(Frm.refl _ _).drew
      rw[hwd]
      clear hwd
      refine cnt 0 ?_
      iterate 8
       refine hcF ?_ ?_ ?_
       rotate_left
       ·intro w' hC
        have hF:=(hfd.mono (by simp)).trans hC
        have hz:=hF.at HB9.out (by simp;have:=HY18.out.lo;omega)
        have z0:=cell_of hz 0
        have z1:=cell_of hz 1
        have z2:=cell_of hz 2
        have x3:=HMV.out w' hF
        clear hz hF
        clear hC
        go_simp
        try rfl
       try simp only[nrm,Nat.reduceAdd]
      refine tcn ?_
      have hb3:=hfd.at HDX9q.out.b3 (by simp)
      have f0:=free_of hb3 0
      have f1:=free_of hb3 1
      have f2:=free_of hb3 2
      have y0:=cell_of hb3 0
      have y1:=cell_of hb3 1
      have y2:=cell_of hb3 2
      have HP3:=Lib.hid (put3 (u:=.slice (some ⟨ya2,0,none⟩) n za2) (v:=.slice (some ⟨yb2,0,none⟩) n zb2) (z:=.slice (some ⟨yw2,0,none⟩) n zw2) hb3 rfl)
      have HFD:=Lib.hid hfd
      clear hb3 hfd
      refine hstF 8 (fun K' hK'=>?_)
      go_simp
      (skip)
      refine hK'.out _ _ (((Frm.refl _ _).setCell _ (.inl (by simp)) _).setCell _ (.inl (by simp)) _ |>.setCell _ (.inl (by simp)) _) ?_
      clear hK' K'
      try simp only[nrm]
      refine htF 9 ?_ ?_ ?_
      rotate_left
      ·intro w' hC
       clear hC
       go_simp
       try rfl
      try simp only[nrm]
      refine wpAnyH_done (by kernel_rfl) ?_ _
      go_wp2
      refine bodyPost_ret (results_s2 rfl rfl rfl HP3.out.1 rfl) rfl ⟨_,rfl,(HW9.out.trans HFD.out).then HP3.out.2.1 (by intro q hq;simp at hq;omega),.inl ⟨by rw[HD.out];exact decide_eq_true HZ.out,_,rfl,?_⟩⟩
      rw[HNX.out]
      have:=(HY9.out.frm HFD.out).end HNO.out (by rw[HN.out];exact HFD.out.at HB9.out (by simp)) HP3.out.2.2
      rw[HN.out] at this
      exact this
     ·have hpb:(pl == 0)=false:=by rw[beq_eq_false_iff_ne];exact hp
      have HZ:=Lib.hid hp
      clear hz hp
      go_upto_region 26 with fail
      refine heldF_start (F:=[w.heap.size + 3]) (by kernel_rfl) ?_
      obtain⟨wd,hwd⟩:∃ wd,w9q.drew=wd:=⟨_,rfl⟩
      have hfd:Frm [] w9q wd:=by rw[← hwd];exact(Frm.refl _ _).drew
      rw[hwd]
      clear hwd
      refine cnt 0 ?_
      iterate 8
       refine hcF ?_ ?_ ?_
       rotate_left
       ·intro w' hC
        have hF:=(hfd.mono (by simp)).trans hC
        have hz:=hF.at HB9.out (by simp;have:=HY18.out.lo;omega)
        have z0:=cell_of hz 0
        have z1:=cell_of hz 1
        have z2:=cell_of hz 2
        have x3:=HMV.out w' hF
        clear hz hF
        clear hC
        go_simp
        try rfl
       try simp only[nrm,Nat.reduceAdd]
      refine tcn ?_
      have hb3:=hfd.at HDX9q.out.b3 (by simp)
      have f0:=free_of hb3 0
      have f1:=free_of hb3 1
      have f2:=free_of hb3 2
      have y0:=cell_of hb3 0
      have y1:=cell_of hb3 1
      have y2:=cell_of hb3 2
      have HP3:=Lib.hid (put3 (u:=.slice (some ⟨ya2,0,none⟩) n za2) (v:=.slice (some ⟨yb2,0,none⟩) n zb2) (z:=.slice (some ⟨yw2,0,none⟩) n zw2) hb3 rfl)
      have HFD:=Lib.hid hfd
      clear hb3 hfd
      refine hstF 8 (fun K' hK'=>?_)
      go_simp
      (skip)
      refine hK'.out _ _ (((Frm.refl _ _).setCell _ (.inl (by simp)) _).setCell _ (.inl (by simp)) _ |>.setCell _ (.inl (by simp)) _) ?_
      clear hK' K'
      try simp only[nrm]
      refine htF 9 ?_ ?_ ?_
      rotate_left
      ·intro w' hC
       clear hC
       go_simp
       try rfl
      try simp only[nrm]
      refine wpAnyH_done (by kernel_rfl) ?_ _
      go_wp2
      refine bodyPost_ret (results_s2 rfl rfl rfl HP3.out.1 rfl) rfl ⟨_,rfl,(HW9.out.trans HFD.out).then HP3.out.2.1 (by intro q hq;simp at hq;omega),.inr ⟨by rw[HD.out];exact decide_eq_false (fun h=>HZ.out h.2),_,rfl,rfl,one3v ..⟩⟩
    ·have hzb:(LE == 0)=false:=by rw[beq_eq_false_iff_ne];exact hz
     have HZ:=Lib.hid hz
     clear hz
     go_upto_region 26 with fail
     refine heldF_start (F:=[w.heap.size + 3]) (by kernel_rfl) ?_
     obtain⟨wd,hwd⟩:∃ wd,w9q.drew=wd:=⟨_,rfl⟩
     have hfd:Frm [] w9q wd:=by rw[← hwd];exact(Frm.refl _ _).drew
     rw[hwd]
     clear hwd
     refine cnt 0 ?_
     iterate 4
      refine hcF ?_ ?_ ?_
      rotate_left
      ·intro w' hC
       have hF:=(hfd.mono (by simp)).trans hC
       have hz:=hF.at HB9.out (by simp;have:=HY18.out.lo;omega)
       have z0:=cell_of hz 0
       have z1:=cell_of hz 1
       have z2:=cell_of hz 2
       have x3:=HMV.out w' hF
       clear hz hF
       clear hC
       go_simp
       try rfl
      try simp only[nrm,Nat.reduceAdd]
     refine tcn ?_
     refine cnt 4 ?_
     iterate 3
      refine hdF ?_
      try simp only[nrm,Nat.reduceAdd]
     refine tcn ?_
     refine htF 7 ?_ ?_ ?_
     rotate_left
     ·intro w' hC
      clear hC
      go_simp
      try rfl
     try simp only[nrm]
     have hb3:=hfd.at HDX9q.out.b3 (by simp)
     have f0:=free_of hb3 0
     have f1:=free_of hb3 1
     have f2:=free_of hb3 2
     have y0:=cell_of hb3 0
     have y1:=cell_of hb3 1
     have y2:=cell_of hb3 2
     have HP3:=Lib.hid (put3 (u:=.slice (some ⟨ya2,0,none⟩) n za2) (v:=.slice (some ⟨yb2,0,none⟩) n zb2) (z:=.slice (some ⟨yw2,0,none⟩) n zw2) hb3 rfl)
     have HFD:=Lib.hid hfd
     clear hb3 hfd
     refine hstF 8 (fun K' hK'=>?_)
     go_simp
     (skip)
     refine hK'.out _ _ (((Frm.refl _ _).setCell _ (.inl (by simp)) _).setCell _ (.inl (by simp)) _ |>.setCell _ (.inl (by simp)) _) ?_
     clear hK' K'
     try simp only[nrm]
     refine htF 9 ?_ ?_ ?_
     rotate_left
     ·intro w' hC
      clear hC
      go_simp
      try rfl
     try simp only[nrm]
     refine wpAnyH_done (by kernel_rfl) ?_ _
     go_wp2
     refine bodyPost_ret (results_s2 rfl rfl rfl HP3.out.1 rfl) rfl ⟨_,rfl,(HW9.out.trans HFD.out).then HP3.out.2.1 (by intro q hq;simp at hq;omega),.inr ⟨by rw[HD.out];exact decide_eq_false (fun h=>HZ.out h.1),_,rfl,rfl,one3v ..⟩⟩
  ·have h1b:(t.kind == 1)=false:=by rw[beq_eq_false_iff_ne];exact h1k
   obtain⟨za1,za2,za3,zi,zc1,zc2,zc3,hb8,-⟩:=HY18.out.out
   rw[HN.out] at hb8
   have HB8:=Lib.hid hb8
   have hd:doB s x ⟨1,(i:Nat),(k:Nat),pl⟩=decide (pl=0):=by
    rw[HDB.out,if_neg (by rw[HPS.out];decide),HT.out,if_neg h2k,if_neg h1k]
   have hnx:nextP s x ⟨1,(i:Nat),(k:Nat),pl⟩=y:=by
    rw[next_step,HT.out,HTO.out,HVSE.out,if_neg h1k,if_neg h2k,← HYY.out]
    rfl
   have HD:=Lib.hid hd;have HNX:=Lib.hid hnx
   have HMV:Hid (∀ V,Frm [w.heap.size + 3] w18 V→V.cell? ⟨w.heap.size + 2,3,none⟩=some (.int .i64 pl)):=Lib.hid fun V hV=>cell_of (hV.at HDX18.out.b2 (by simp)) 3
   clear hd hnx hb8 h2k h1k
   by_cases hz:pl=0
   ·have hnok:=next_ok HOK.out HPK.out ((do_iff HOK.out HPK.out _).1 (HD.out.trans (decide_eq_true hz)))
    rw[HNX.out] at hnok
    have HNO:=Lib.hid hnok
    have hzb:(pl == 0)=true:=by rw[beq_iff_eq];exact hz
    have HZ:=Lib.hid hz
    clear hnok hz
    go_upto_region 27 with fail
    refine heldF_start (F:=[w.heap.size + 3]) (by kernel_rfl) ?_
    obtain⟨wd,hwd⟩:∃ wd,w18.drew=wd:=⟨_,rfl⟩
    have hfd:Frm [] w18 wd:=by rw[← hwd];exact(Frm.refl _ _).drew
    rw[hwd]
    clear hwd
    refine cnt 0 ?_
    iterate 4
     refine hcF ?_ ?_ ?_
     rotate_left
     ·intro w' hC
      have hF:=(hfd.mono (by simp)).trans hC
      have hz:=hF.at HB8.out (by simp;have:=HY18.out.lo;omega)
      have z0:=cell_of hz 0
      have z1:=cell_of hz 1
      have z2:=cell_of hz 2
      have x3:=HMV.out w' hF
      clear hz hF
      clear hC
      go_simp
      try rfl
     try simp only[nrm,Nat.reduceAdd]
    refine tcn ?_
    have hb3:=hfd.at HDX18.out.b3 (by simp)
    have f0:=free_of hb3 0
    have f1:=free_of hb3 1
    have f2:=free_of hb3 2
    have y0:=cell_of hb3 0
    have y1:=cell_of hb3 1
    have y2:=cell_of hb3 2
    have HP3:=Lib.hid (put3 (u:=.slice (some ⟨za1,0,none⟩) n zc1) (v:=.slice (some ⟨za2,0,none⟩) n zc2) (z:=.slice (some ⟨za3,0,none⟩) n zc3) hb3 rfl)
    have HFD:=Lib.hid hfd
    clear hb3 hfd
    refine hstF 4 (fun K' hK'=>?_)
    go_simp
    (skip)
    refine hK'.out _ _ (((Frm.refl _ _).setCell _ (.inl (by simp)) _).setCell _ (.inl (by simp)) _ |>.setCell _ (.inl (by simp)) _) ?_
    clear hK' K'
    try simp only[nrm]
    refine htF 5 ?_ ?_ ?_
    rotate_left
    ·intro w' hC
     clear hC
     go_simp
     try rfl
    try simp only[nrm]
    refine wpAnyH_done (by kernel_rfl) ?_ _
    go_wp2
    refine bodyPost_ret (results_s2 rfl rfl rfl HP3.out.1 rfl) rfl ⟨_,rfl,(HW18.out.trans HFD.out).then HP3.out.2.1 (by intro q hq;simp at hq;omega),.inl ⟨by rw[HD.out];exact decide_eq_true HZ.out,_,rfl,?_⟩⟩
    rw[HNX.out]
    have:=(HY18.out.frm HFD.out).end HNO.out (by rw[HN.out];exact HFD.out.at HB8.out (by simp)) HP3.out.2.2
    rw[HN.out] at this
    exact this
   ·have hzb:(pl == 0)=false:=by rw[beq_eq_false_iff_ne];exact hz
    have HZ:=Lib.hid hz
    clear hz
    go_upto_region 27 with fail
    refine heldF_start (F:=[w.heap.size + 3]) (by kernel_rfl) ?_
    obtain⟨wd,hwd⟩:∃ wd,w18.drew=wd:=⟨_,rfl⟩
    have hfd:Frm [] w18 wd:=by rw[← hwd];exact(Frm.refl _ _).drew
    rw[hwd]
    clear hwd
    refine cnt 0 ?_
    iterate 4
     refine hcF ?_ ?_ ?_
     rotate_left
     ·intro w' hC
      have hF:=(hfd.mono (by simp)).trans hC
      have hz:=hF.at HB8.out (by simp;have:=HY18.out.lo;omega)
      have z0:=cell_of hz 0
      have z1:=cell_of hz 1
      have z2:=cell_of hz 2
      have x3:=HMV.out w' hF
      clear hz hF
      clear hC
      go_simp
      try rfl
     try simp only[nrm,Nat.reduceAdd]
    refine tcn ?_
    have hb3:=hfd.at HDX18.out.b3 (by simp)
    have f0:=free_of hb3 0
    have f1:=free_of hb3 1
    have f2:=free_of hb3 2
    have y0:=cell_of hb3 0
    have y1:=cell_of hb3 1
    have y2:=cell_of hb3 2
    have HP3:=Lib.hid (put3 (u:=.slice (some ⟨za1,0,none⟩) n zc1) (v:=.slice (some ⟨za2,0,none⟩) n zc2) (z:=.slice (some ⟨za3,0,none⟩) n zc3) hb3 rfl)
    have HFD:=Lib.hid hfd
    clear hb3 hfd
    refine hstF 4 (fun K' hK'=>?_)
    go_simp
    (skip)
    refine hK'.out _ _ (((Frm.refl _ _).setCell _ (.inl (by simp)) _).setCell _ (.inl (by simp)) _ |>.setCell _ (.inl (by simp)) _) ?_
    clear hK' K'
    try simp only[nrm]
    refine htF 5 ?_ ?_ ?_
    rotate_left
    ·intro w' hC
     clear hC
     go_simp
     try rfl
    try simp only[nrm]
    refine wpAnyH_done (by kernel_rfl) ?_ _
    go_wp2
    refine bodyPost_ret (results_s2 rfl rfl rfl HP3.out.1 rfl) rfl ⟨_,rfl,(HW18.out.trans HFD.out).then HP3.out.2.1 (by intro q hq;simp at hq;omega),.inr ⟨by rw[HD.out];exact decide_eq_false HZ.out,_,rfl,rfl,one3v ..⟩⟩
end Go.Proofs.YtemjlpahohmajaaGreat
