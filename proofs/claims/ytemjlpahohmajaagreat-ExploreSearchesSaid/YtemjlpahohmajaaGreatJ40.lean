/- Part of the proof. -/
import Derived.Test.YtemjlpahohmajaaGreatJ39
import Derived.Test.YtemjlpahohmajaaGreatJ31
set_option linter.all false
namespace Go.Proofs.YtemjlpahohmajaaGreat
open Go.RowKit Go.BigFrame
theorem doB_at {s:SesD} {x:PS} {i k:Nat} {pl:Int} (hi:i < s.roles.length) (hk:k < (s.rol i).steps.length):doB s x ⟨1,(i:Nat),(k:Nat),pl⟩=(if possB s x i k=false then false
  else if ((s.rol i).stp k).kind=2 then decide (takeE s.cls (x.way (peerN s ((s.rol i).stp k)) i) pl=0∧takeM s.cls (x.way (peerN s ((s.rol i).stp k)) i) pl=((s.rol i).stp k).msg)
  else if ((s.rol i).stp k).kind=1 then decide (putE s.cap (x.way i (peerN s ((s.rol i).stp k))) ((s.rol i).stp k).msg=0∧pl=0)
  else decide (pl=0)):=by
 unfold doB
 rw[if_neg (by simp only;omega),if_neg (show ¬ (1:Int)=2 by decide),if_neg (by simp only[Int.toNat_natCast];omega)]
 rfl
set_option maxHeartbeats 16000000 in
set_option maxRecDepth 100000 in
noncomputable def doT:PSigma fun P:Prop=>P→doS.1:=by
 apply PSigma.mk
 case snd =>
  intro hP
  have HP:=Lib.hid hP
  clear hP
  intro s x B w i k pl cap ba bb bw bi ca cb cw n h2 h4 W0 HW0 HN HOK HPK HRO hls hin rb ro HRL aS cS aC cC cT nS nC nT HNT HNS HNC hkT t HBK tb to' HR3 HRC HST da dc HDV va vc HVV VS E HVS HVE HEE HGB HGA HT HIK _ _ w2 ya yb yw yi za zb zw w3 HF3 b8 HB3 hl8 HW3 w4 HF4 b12 hl12 _ w5 HF5 _ _ b13 HB13 hl13 HDX5 HF35 HW5 HYS5 HB12' HL5 wc u22 u23 u24 u25 u26 u27 u28 u29 u30 u31 u32 u33 u34 u35 u36 u37 u38 u39 u40 u41 u42 u43 u44 u45 u46 u47 u48 u49 u50 u51 u52 u53 u54 u55 u56 u57 u58 u59 u60 u61 u62 u63 u64 u65 u66 u67 u68 u69 u70 u71 u72 u73 u74 u75 u76 u77 u78 u79 u80 u81 u82 u83 u84 u85 u86 u87 u88 u89 u90 u91 u92 u93 u94 u95 u96 u97 u98 u99 u100 u101 u102 u103 u104 u105 u106 u107 u108 u109 u110 u111 u112 u113 u114 u115 u116 u117 u118 u119 u120 u121 u122 u123 u124 u125 u126 u127 u128 u129 u130 u131 u132 u133 u134 u135 u136 u137 u138 u139 u140 u141 u142 u143 u144 u145 u146 u147 u148 u149 u150 u151 u152 u153 u154 u155 u156 u157 u158 u159 u160 u161 u162 u163 u164 u165 u166 u167 u168 u169 u170 u171 u172 u173 u174 u175 u176 u177 u178 u179 u180 u181 u182 u183 u184 u185 u186 u187 u188 u189 u190 u191 u192 u193 u194 u195 u196 u197 u198 u199 u200 u201 u202 u203 u204 u205 u206 u207 u208 u209 u210 u211 u212 u213 u214 u215 u216 u217 u218 u219 u220 u221 u222 u223 u224 u225 u226 u227 u228 u229 u230 u231 u232 u233 u234 u235 u236 b14 av kv hl14 HB14 HO14 HN14 HF14
  obtain⟨hi,hk⟩:=HIK.out
  have HDB:=Lib.hid (doB_at (x:=x) (pl:=pl) hi (by rw[HNT.out];exact hk))
  have hRl:=HR3.out
  have HDX6:=Lib.hid (HDX5.out.frm HF14.out (by simp))
  have HB12w:=Lib.hid (HF14.out.at HB12'.out (by simp))
  have HB13w:=Lib.hid (HF14.out.at HB13.out (by simp))
  have HWc:Hid (Frm [] w wc):=Lib.hid (HW5.out.trans HF14.out)
  have CP:Hid (∀ n V,Frm [] wc V→Calls Tryz.prog 93 #[.agg #[.string (s.rol i).name,.slice aS nS cS,.slice aC nC cC,.slice (some ⟨tb,to',none⟩) nT cT],.string n] V (Ret (.int .i64 (stIx (s.rol i) n)) (Frm [] V))):=Lib.hid fun n V hV=>qPlace_any _ (s.rol i) n V ⟨_,_,_,rfl,HR3.out.frm ((HF3.out.trans (HF35.out.trans HF14.out)).trans hV)⟩ (by have:=(HOK.out.at hi).s24;omega)
  clear hRl HRC HST HGB
  cases hbk:bankOk (s.rol i).ctrs (x.bank i) t with
  | false =>
    obtain rfl:E=8:=by have:=HEE.out;rw[hbk] at this;simpa using this.symm
    have hd:doB s x ⟨1,(i:Nat),(k:Nat),pl⟩=false:=by
     rw[HDB.out,if_pos (by unfold possB;rw[HT.out,hbk];rfl)]
    have HD:=Lib.hid hd
    clear hd hbk CP HGA
    go_upto_region 15 with fail
    refine wp_region_cq (by kernel_rfl) (by kernel_rfl) ?_
    repeat (first
     | go_big_quiet_skip
     | (refine wpQuiet_want (by rfl) (fun K hK=>?_)
        first
         | (refine quiet_move _ (by rfl) (hK _ ?_))
         | (refine quiet_assign _ (by rfl) (hK _ ?_))
         | (apply Exists.intro
            refine⟨fun w' hC=>?_,hK _ ?_⟩
            ·(unfold Oper.quietAt
              clear hC
              go_simp
              try exact⟨rfl,rfl⟩
              try rfl))
        clear hK K
        try simp only[nrm,Act.eval,nrq]))
    refine wpQuiet_nil ?_
    intro w9 hf9
    have HDX9:=Lib.hid (HDX6.out.frm hf9 (by simp))
    have HW9:Hid (Frm [] w w9):=Lib.hid (HWc.out.trans hf9)
    clear hf9
    go_wp2_with (first
    | (refine wpList_load_whole rfl 125 _ rfl _ rfl _ 125 HDX9.out.b1 _ Tryz.underlying125 rfl (by kernel_rfl) ?_)
    | (refine wpList_store_rowK rfl 125 _ _ rfl _ _ _ _ rfl rfl HDX9.out.b3 rfl (by kernel_rfl) (one3v ..) ?_;intro w7 hb7 hf7 hk7;have HB7:=Lib.hid hb7;have HF7:=Lib.hid hf7;clear hb7 hf7 hk7))
    refine bodyPost_ret (results_s2 rfl rfl rfl HB7.out rfl) rfl ⟨_,rfl,HW9.out.then HF7.out (by intro k hk;simp at hk;omega),.inr ⟨?_,_,rfl,rfl,one3v ..⟩⟩
    exact HD.out
  | true =>
    obtain rfl:E=0:=by have:=HEE.out;rw[hbk] at this;simpa using this.symm
    have hvs:bankDo (s.rol i).ctrs (x.bank i) t=VS:=by have:=HVE.out;rw[hbk] at this;simpa using this
    have HVSE:=Lib.hid hvs
    obtain⟨SI,hSI⟩:∃ q,stIx (s.rol i) t.frm=q:=⟨_,rfl⟩
    have CP1:=Lib.hid (fun V hV=>hSI ▸ CP.out t.frm V hV)
    have HCX:Hid (∀ V,Frm [] wc V→((V.cell? ⟨w.heap.size + 1,0,none⟩=some (.slice (some ⟨ba,0,none⟩) n ca)∧V.cell? ⟨w.heap.size + 2,1,none⟩=some (.int .i64 (i:Nat)))∧V.cell? ⟨ba,i,none⟩=some (.int .i64 (x.at i:Nat)))∧V.cell? ⟨b13,0,none⟩=some (.string t.frm)):=Lib.hid fun V hV=>⟨⟨⟨cell_of (hV.at HDX6.out.b1 (by simp)) 0,cell_of (hV.at HDX6.out.b2 (by simp)) 1⟩,HGA.out V (HWc.out.trans hV)⟩,cell_of (hV.at HB13w.out (by simp)) 0⟩
    have hpos:possB s x i k=decide (SI=((x.at i:Nat):Int)):=by
     unfold possB
     rw[HT.out,hbk,Bool.true_and]
     exact decide_eq_decide.2 ((stIx_iff (HOK.out.at hi) (HPK.out.pb i hi) t.frm).symm.trans (by rw[hSI]))
    have HPOS:=Lib.hid hpos
    clear hvs hSI hpos hbk HGA
    by_cases hat:SI=((x.at i:Nat):Int)
    ·have hnx:(SI == ((x.at i:Nat):Int))=true:=by rw[beq_iff_eq];exact hat
     have hnx2:(SI != ((x.at i:Nat):Int))=false:=by rw[bne_eq_false_iff_eq];exact hat
     have hps:possB s x i k=true:=by rw[HPOS.out];exact decide_eq_true hat
     have HPS:=Lib.hid hps
     clear hat hps
     go_upto_region 15 with fail
     refine wp_region_cq (by kernel_rfl) (by kernel_rfl) ?_
     repeat (first
      | go_big_quiet_skip
      | (refine wpQuiet_want (by rfl) (fun K hK=>?_)
         first
          | (refine quiet_move _ (by rfl) (hK _ ?_))
          | (refine quiet_assign _ (by rfl) (hK _ ?_))
          | (refine cq_call (.int .i64 SI) 93 #[.agg #[.string (s.rol i).name,.slice aS nS cS,.slice aC nC cC,.slice (some ⟨tb,to',none⟩) nT cT],.string t.frm] (fun w' hC=>?_) (fun w' hC=>Ret.cq (CP1.out w' hC) (fun w'' h=>hC.trans h)) (hK _ ?_)
             ·go_simp)
          | (refine cq_row 86 _ rfl b12 rfl #[.string (s.rol i).name,.slice aS nS cS,.slice aC nC cC,.slice (some ⟨tb,to',none⟩) nT cT] 86 HB12w.out _ Tryz.underlying86 rfl (by kernel_rfl) (hK _ ?_))
          | (apply Exists.intro
             refine⟨fun w' hC=>?_,hK _ ?_⟩
             ·(unfold Oper.quietAt
               obtain⟨⟨⟨x0,x1⟩,x2⟩,x3⟩:=HCX.out w' hC
               clear hC
               go_simp
               try exact⟨rfl,rfl⟩
               try rfl))
         clear hK K
         try simp only[nrm,Act.eval,nrq]))
     refine wpQuiet_nil ?_
     intro w9 hf9
     have HF9:=Lib.hid hf9
     clear hf9 hnx hnx2 HCX
     obtain⟨p,hto,hpl⟩:=ixf_nat ((HOK.out.stp hi (by rw[HNT.out];exact hk)).to)
     rw[HT.out] at hto
     have CP2:=Lib.hid (fun V hV=>(show stIx (s.rol i) t.to=(p:Int) from hto) ▸ CP.out t.to V hV)
     have HTO:Hid (stIx (s.rol i) t.to=(p:Int)):=Lib.hid hto
     obtain⟨ya',yb',yw',yi',za',zb',zw',hb8,hyo,l1,l2,l3,l4⟩:=HYS5.out.out
     rw[HN.out] at hb8
     have hFw9:Frm [] w5 w9:=HF14.out.trans HF9.out
     have n12:=hyo.ta.ne hyo.tb (by decide)
     have hya:=hyo.ta.lt
     have hyb:=hyo.tb.lt
     have n8a:=Ty.ne ⟨_,hb8⟩ hyo.ta (by decide)
     have n8b:=Ty.ne ⟨_,hb8⟩ hyo.tb (by decide)
     have n12a:=Ty.ne ⟨_,HB12'.out⟩ hyo.ta (by decide)
     have n12b:=Ty.ne ⟨_,HB12'.out⟩ hyo.tb (by decide)
     have n13a:=Ty.ne ⟨_,HB13.out⟩ hyo.ta (by decide)
     have n13b:=Ty.ne ⟨_,HB13.out⟩ hyo.tb (by decide)
     have hav:∀ q,(Value.slice av nC kv).ownBlock=some q→q≠ya':=fun q hq e=>by
      rcases HN14.out q hq with h | h
      ·have:=ownBlock_lt HVV.out.1 h
       omega
      ·omega
     have HAV:=Lib.hid hav
     have HCY:Hid (∀ V,Frm [ya',yb'] w9 V→(((V.cell? ⟨b8,0,none⟩=some (.slice (some ⟨ya',0,none⟩) n za')∧V.cell? ⟨b8,1,none⟩=some (.slice (some ⟨yb',0,none⟩) n zb'))∧V.cell? ⟨w.heap.size + 2,1,none⟩=some (.int .i64 (i:Nat)))∧V.heap[b12]?=some (.cells #[.string (s.rol i).name,.slice aS nS cS,.slice aC nC cC,.slice (some ⟨tb,to',none⟩) nT cT] 86 (0,0))∧V.cell? ⟨b13,1,none⟩=some (.string t.to))∧V.cell? ⟨b14,0,none⟩=some (.slice da nC dc)∧V.cell? ⟨b14,1,none⟩=some (.slice av nC kv)):=Lib.hid fun V hV=>by
      have g1:=hV.at (hFw9.at hb8 (by simp)) (by simpa using ⟨n8a,n8b⟩)
      have g2:=hV.at (HF9.out.at HDX6.out.b2 (by simp)) (by simp;omega)
      have g3:=hV.at (HF9.out.at HB12w.out (by simp)) (by simpa using ⟨n12a,n12b⟩)
      have g4:=hV.at (HF9.out.at HB13w.out (by simp)) (by simpa using ⟨n13a,n13b⟩)
      have g5:=hV.at (HF9.out.at HB14.out (by simp)) (by simp;omega)
      exact⟨⟨⟨⟨cell_of g1 0,cell_of g1 1⟩,cell_of g2 1⟩,g3,cell_of g4 1⟩,cell_of g5 0,cell_of g5 1⟩
     have HYO:=Lib.hid hyo;have HB8:=Lib.hid hb8;have HFW9:=Lib.hid hFw9
     have HLS:=Lib.hid (And.intro l1 (And.intro l2 (And.intro l3 l4)))
     clear hto hpl hb8 hyo hav hFw9 l1 l2 l3 l4 CP1
     go_upto_region 17 with fail
     refine heldF_start (F:=[ya',yb']) (by kernel_rfl) ?_
     obtain⟨wd,hwd⟩:∃ wd,w9.drew=wd:=⟨_,rfl⟩
     have hfd:Frm [] w9 wd:=by rw[← hwd];exact(Frm.refl _ _).drew
     rw[hwd]
     clear hwd
     refine cnt 0 ?_
     iterate 11
      refine hcF ?_ ?_ ?_
      rotate_left
      ·intro w' hC
       obtain⟨⟨⟨⟨x0,x1⟩,x2⟩,hz,x3⟩,x4,x5⟩:=HCY.out w' ((hfd.mono (by simp)).trans hC)
       have z0:=cell_of hz 0
       have z1:=cell_of hz 1
       have z2:=cell_of hz 2
       have z3:=cell_of hz 3
       clear hz
       clear hC
       go_simp
       try rfl
      try simp only[nrm,Nat.reduceAdd]
     refine tcn ?_
     refine htF 12 ?_ ?_ ?_
     rotate_left
     ·intro w' hC
      obtain⟨⟨⟨⟨x0,x1⟩,x2⟩,hz,x3⟩,x4,x5⟩:=HCY.out w' ((hfd.mono (by simp)).trans hC)
      have z0:=cell_of hz 0
      have z1:=cell_of hz 1
      have z2:=cell_of hz 2
      have z3:=cell_of hz 3
      clear hz
      clear hC
      go_simp
      try rfl
     try simp only[nrm]
     refine hstF 11 (fun K' hK'=>?_)
     go_simp
     (refine(CP2.out _ (HF9.out.trans hfd)).mono ?_;rintro e wx ⟨rfl,hfx⟩;have hfx0:=hfd.trans hfx)
     refine hK'.out _ _ (hfx.mono (by simp)) ?_
     clear hK' K'
     try simp only[nrm]
     refine htF 13 ?_ ?_ ?_
     rotate_left
     ·intro w' hC
      clear hC
      go_simp
      try rfl
     try simp only[nrm]
     have hyx:=HYO.out.frm (HFW9.out.trans hfx0)
     have ga:=hyx.a i hi
     obtain⟨cua,hua⟩:=hyx.ta
     have fa:=free_of hua i
     have hro14:=hyx.setAt hi p HPK.out.pl
     have hdv14:=(HDV.out.frm ((HWc.out.trans HF9.out).trans hfx0) (by simp)).frm (setFrm wx ya' i (.int .i64 (p:Nat))) (by intro q hq;simp at hq;subst hq;exact fun e=>absurd rfl (hyx.ta.ne e (by decide)))
     have hvv14:(wx.setCell ⟨ya',i,none⟩ (.int .i64 (p:Nat))).ownsRow 0 3 1 (.slice av nC kv) nC (VS.map iv):=(setFrm wx ya' i (.int .i64 (p:Nat))).owns ((HF9.out.trans hfx0).owns HO14.out (by simp)) (fun q hq hm=>HAV.out q hq (by simpa using hm))
     refine hstF 14 (fun K' hK'=>?_)
     go_simp
     (skip)
     refine hK'.out _ _ ((Frm.refl _ _).setCell _ (.inl (by simp)) _) ?_
     clear hK' K'
     try simp only[nrm]
     have hs14:Frm [ya',yb'] w9 (wx.setCell ⟨ya',i,none⟩ (.int .i64 (p:Nat))):=(hfx0.mono (by simp)).trans ((setFrm wx ya' i (.int .i64 (p:Nat))).mono (by simp))
     obtain⟨w14,hw14⟩:∃ X,wx.setCell ⟨ya',i,none⟩ (.int .i64 (p:Nat))=X:=⟨_,rfl⟩
     rw[hw14] at hro14 hdv14 hvv14 hs14 ⊢
     clear hw14 ga hua fa hyx hfx
     obtain⟨dv9,vv9,c0,c1,-,-⟩:=hro14.b i hi
     obtain⟨cub,hub⟩:=hro14.tb
     have f0:=free_of hub (i * 2)
     have f1:=free_of hub (i * 2 + 1)
     have HRO17:=Lib.hid (hro14.setBank hi hdv14 (show VlV w14 ya' (.slice av nC kv) VS from ⟨by rw[HVS.out];exact hvv14,fun e=>HAV.out ya' e rfl⟩) HPK.out.vl)
     have HF17:Hid (Frm [ya',yb'] w9 ((w14.setCell ⟨yb',i * 2,none⟩ (.slice da nC dc)).setCell ⟨yb',i * 2 + 1,none⟩ (.slice av nC kv))):=Lib.hid (hs14.trans (((setFrm w14 yb' (i * 2) (.slice da nC dc)).trans (setFrm _ yb' (i * 2 + 1) (.slice av nC kv))).mono (by simp)))
     clear hub hro14 hdv14 hvv14 hs14 hfx0 hfd
     refine htF 15 ?_ ?_ ?_
     rotate_left
     ·intro w' hC
      clear hC
      go_simp
      try rfl
     try simp only[nrm]
     refine hstF 16 (fun K' hK'=>?_)
     go_simp
     (skip)
     refine hK'.out _ _ (((Frm.refl _ _).setCell _ (.inl (by simp)) _).setCell _ (.inl (by simp)) _) ?_
     clear hK' K'
     try simp only[nrm]
     refine wpAnyH_done (by kernel_rfl) ?_ _
     obtain⟨w17,hw17⟩:∃ X,(w14.setCell ⟨yb',i * 2,none⟩ (.slice da nC dc)).setCell ⟨yb',i * 2 + 1,none⟩ (.slice av nC kv)=X:=⟨_,rfl⟩
     rw[hw17] at HRO17 HF17 ⊢
     obtain⟨y,hy⟩:∃ y:PS,({ x with pos:=x.pos.set i p,vals:=x.vals.set i VS }:PS)=y:=⟨_,rfl⟩
     have HYY:=Lib.hid hy
     have hl17:=HLS.out
     have hw8:=HB8.out
     have HY17:Hid (YSt w s b8 y w17):=Lib.hid ⟨HYS5.out.lo,ya',yb',yw',yi',za',zb',zw',by rw[HN.out];exact HF17.out.at (HFW9.out.at HB8.out (by simp)) (by simpa using ⟨n8a,n8b⟩),by rw[← hy];exact HRO17.out,hl17.1,hl17.2.1,hl17.2.2.1,hl17.2.2.2⟩
     have HDX17:=Lib.hid (HDX6.out.frm HF9.out (by simp) |>.frm HF17.out (by intro q hq;simp at hq;omega))
     have HB13x:=Lib.hid (HF17.out.at (HF9.out.at HB13w.out (by simp)) (by simpa using ⟨n13a,n13b⟩))
     have HW17:Hid (Frm [] w w17):=Lib.hid ((HWc.out.trans HF9.out).then HF17.out (by intro q hq;simp at hq;omega))
     have CNu:=Lib.hid (fun V (hV:Frm [] w V)=>qNumber_any (.agg #[.string s.name,.slice (some ⟨rb,ro,none⟩) n cap,.int .i64 s.cls,.int .i64 s.cap]) s t.peer V ⟨_,rfl,HRL.out.frm hV⟩ (by have:=HOK.out.n4;omega))
     have u4:=cell_of HB13x.out 4
     clear hw17 hy hl17 hw8 HRO17 HF17 HYO HB8 HFW9 HLS HCY CP CP2 n12 hya hyb n8a n8b n12a n12b n13a n13b HAV HDX5 HDX6 HB12' HB12w HB13 HB13w HB14 HO14 HN14 HYS5 HF9 HF14 HB3 HF35
     go_upto_region 19 with (first
      | (refine wpList_load_whole rfl 25 _ rfl _ rfl _ 25 HDX17.out.b0 _ Tryz.underlying25 rfl (by kernel_rfl) ?_)
      | (go_at_call 94;go_must (refine(CNu.out _ HW17.out).mono ?_;clear CNu;rintro e w18 ⟨rfl,hf18⟩;have HF18:=Lib.hid hf18;clear hf18 u4)))
     have HDX18:=Lib.hid (HDX17.out.frm HF18.out (by simp))
     have HB13y:=Lib.hid (HF18.out.at HB13x.out (by simp))
     have HW18:Hid (Frm [] w w18):=Lib.hid (HW17.out.trans HF18.out)
     have HY18:=Lib.hid (HY17.out.frm HF18.out)
     clear HDX17 HB13x HW17 HY17 HF18 HWc
     rename_i z0_ z1_ z2_ z3_ z4_ z5_ z6_
     revert s x B w i k pl cap ba bb bw bi ca cb cw n h2 h4 W0 HW0 HN HOK HPK HRO hls hin rb ro HRL aS cS aC cC cT nS nC nT HNT HNS HNC hkT t HBK tb to' HR3 da dc HDV va vc HVV VS HVS HVE HT HIK z0_ z1_ w2 ya yb yw yi za zb zw w3 HF3 b8 hl8 HW3 w4 HF4 b12 hl12 z2_ w5 HF5 b13 hl13 HW5 HL5 wc u22 u23 u24 u25 u26 u27 u28 u29 u30 u31 u32 u33 u34 u35 u36 u37 u38 u39 u40 u41 u42 u43 u44 u45 u46 u47 u48 u49 u50 u51 u52 u53 u54 u55 u56 u57 u58 u59 u60 u61 u62 u63 u64 u65 u66 u67 u68 u69 u70 u71 u72 u73 u74 u75 u76 u77 u78 u79 u80 u81 u82 u83 u84 u85 u86 u87 u88 u89 u90 u91 u92 u93 u94 u95 u96 u97 u98 u99 u100 u101 u102 u103 u104 u105 u106 u107 u108 u109 u110 u111 u112 u113 u114 u115 u116 u117 u118 u119 u120 u121 u122 u123 u124 u125 u126 u127 u128 u129 u130 u131 u132 u133 u134 u135 u136 u137 u138 u139 u140 u141 u142 u143 u144 u145 u146 u147 u148 u149 u150 u151 u152 u153 u154 u155 u156 u157 u158 u159 u160 u161 u162 u163 u164 u165 u166 u167 u168 u169 u170 u171 u172 u173 u174 u175 u176 u177 u178 u179 u180 u181 u182 u183 u184 u185 u186 u187 u188 u189 u190 u191 u192 u193 u194 u195 u196 u197 u198 u199 u200 u201 u202 u203 u204 u205 u206 u207 u208 u209 u210 u211 u212 u213 u214 u215 u216 u217 u218 u219 u220 u221 u222 u223 u224 u225 u226 u227 u228 u229 u230 u231 u232 u233 u234 u235 u236 b14 av kv hl14 hi hk HDB HEE HVSE SI HPOS HPS w9 p HTO ya' yb' yw' yi' za' zb' zw' wd wx cua w14 dv9 vv9 c0 c1 cub f0 f1 w17 y HYY w18 z3_ z4_ z5_ z6_ HDX18 HB13y HW18 HY18
     exact HP.out
    ·have hnx:(SI == ((x.at i:Nat):Int))=false:=by rw[beq_eq_false_iff_ne];exact hat
     have hnx2:(SI != ((x.at i:Nat):Int))=true:=by rw[bne_iff_ne];exact hat
     have hd:doB s x ⟨1,(i:Nat),(k:Nat),pl⟩=false:=by
      rw[HDB.out,if_pos (by rw[HPOS.out];exact decide_eq_false hat)]
     have HD:=Lib.hid hd
     clear hat hd
     go_upto_region 15 with fail
     refine wp_region_cq (by kernel_rfl) (by kernel_rfl) ?_
     repeat (first
      | go_big_quiet_skip
      | (refine wpQuiet_want (by rfl) (fun K hK=>?_)
         first
          | (refine quiet_move _ (by rfl) (hK _ ?_))
          | (refine quiet_assign _ (by rfl) (hK _ ?_))
          | (refine cq_call (.int .i64 SI) 93 #[.agg #[.string (s.rol i).name,.slice aS nS cS,.slice aC nC cC,.slice (some ⟨tb,to',none⟩) nT cT],.string t.frm] (fun w' hC=>?_) (fun w' hC=>Ret.cq (CP1.out w' hC) (fun w'' h=>hC.trans h)) (hK _ ?_)
             ·go_simp)
          | (refine cq_row 86 _ rfl b12 rfl #[.string (s.rol i).name,.slice aS nS cS,.slice aC nC cC,.slice (some ⟨tb,to',none⟩) nT cT] 86 HB12w.out _ Tryz.underlying86 rfl (by kernel_rfl) (hK _ ?_))
          | (apply Exists.intro
             refine⟨fun w' hC=>?_,hK _ ?_⟩
             ·(unfold Oper.quietAt
               obtain⟨⟨⟨x0,x1⟩,x2⟩,x3⟩:=HCX.out w' hC
               clear hC
               go_simp
               try exact⟨rfl,rfl⟩
               try rfl))
         clear hK K
         try simp only[nrm,Act.eval,nrq]))
     refine wpQuiet_nil ?_
     intro w9 hf9
     have HDX9:=Lib.hid (HDX6.out.frm hf9 (by simp))
     have HW9:Hid (Frm [] w w9):=Lib.hid (HWc.out.trans hf9)
     clear hf9
     go_wp2_with (first
      | (refine wpList_load_whole rfl 125 _ rfl _ rfl _ 125 HDX9.out.b1 _ Tryz.underlying125 rfl (by kernel_rfl) ?_)
      | (refine wpList_store_rowK rfl 125 _ _ rfl _ _ _ _ rfl rfl HDX9.out.b3 rfl (by kernel_rfl) (one3v ..) ?_;intro w7 hb7 hf7 hk7;have HB7:=Lib.hid hb7;have HF7:=Lib.hid hf7;clear hb7 hf7 hk7))
     refine bodyPost_ret (results_s2 rfl rfl rfl HB7.out rfl) rfl ⟨_,rfl,HW9.out.then HF7.out (by intro k hk;simp at hk;omega),.inr ⟨?_,_,rfl,rfl,one3v ..⟩⟩
     exact HD.out
end Go.Proofs.YtemjlpahohmajaaGreat
