/- Part of the proof. -/
import Derived.Test.YtkphhjekfimmlaaGreatG51
import Derived.Test.YtkphhjekfimmlaaGreatG53
import Derived.Test.YtkphhjekfimmlaaGreatG54
import Derived.Test.YtkphhjekfimmlaaGreatG34
set_option linter.all false
namespace Go.Proofs.YtkphhjekfimmlaaGreat
open Go.RowKit Go.BigFrame
structure PlS (w:World) (s:SesD) (ao:Option Addr) (cap yb fb b10 sb:Nat) (x:PS) (W:World):Prop where
 f:Frm [] w W
 b0:W.heap[w.heap.size]?=some (.cells #[.string s.name,.slice ao s.roles.length cap,.int .i64 s.cls,.int .i64 s.cap] 25 (0,0))
 sy:SyR W s yb fb
 st:StR W s yb sb x
 ok:PSok s x
 lo:w.heap.size < b10
 bx:∃ ba bb bw bi ca cb cw,W.heap[b10]?=some (.cells #[.slice (some ⟨ba,0,none⟩) s.roles.length ca,.slice (some ⟨bb,0,none⟩) s.roles.length cb,.slice (some ⟨bw,0,none⟩) s.roles.length cw] 35 (0,0))∧RO W s ba bb bw bi x ∧
  w.heap.size≤ba∧w.heap.size≤bb∧w.heap.size≤bw∧∀ i,i < s.roles.length→w.heap.size≤bi i
section
variable {w W V Z:World} {s:SesD} {ao:Option Addr} {cap yb fb b10 sb sb':Nat} {x y:PS}
theorem PlS.frm (h:PlS w s ao cap yb fb b10 sb x W) (hf:Frm [] W V):PlS w s ao cap yb fb b10 sb x V:=by
 obtain⟨ba,bb,bw,bi,ca,cb,cw,h1,h2,h3⟩:=h.bx
 exact⟨h.f.trans hf,hf.at h.b0 (by simp),h.sy.frm hf,h.st.frm hf,h.ok,h.lo,ba,bb,bw,bi,ca,cb,cw,hf.at h1 (by simp),h2.frm hf,h3⟩
theorem PlS.val (h:PlS w s ao cap yb fb b10 sb x W):∃ ba bb bw ca cb cw,W.heap[b10]?=some (.cells #[.slice (some ⟨ba,0,none⟩) s.roles.length ca,.slice (some ⟨bb,0,none⟩) s.roles.length cb,.slice (some ⟨bw,0,none⟩) s.roles.length cw] 35 (0,0)) ∧
  RSt w.heap.size W s (.agg #[.slice (some ⟨ba,0,none⟩) s.roles.length ca,.slice (some ⟨bb,0,none⟩) s.roles.length cb,.slice (some ⟨bw,0,none⟩) s.roles.length cw]) x:=by
 obtain⟨ba,bb,bw,bi,ca,cb,cw,h1,h2,h3⟩:=h.bx
 exact⟨ba,bb,bw,ca,cb,cw,h1,⟨ba,bb,bw,bi,ca,cb,cw,rfl,h2,h3⟩,h.ok⟩
theorem PlS.start (hf:Frm [] w W) (h0:W.heap[w.heap.size]?=some (.cells #[.string s.name,.slice ao s.roles.length cap,.int .i64 s.cls,.int .i64 s.cap] 25 (0,0))) (hsy:SyR W s yb fb) (hlo:w.heap.size < b10)
  {A:Array Value} (hr:RSt w.heap.size W s (.agg A) (firstP s)) (hn:0 < s.roles.length) (hx:BxR W b10) (hb:Z.heap[b10]?=some (.cells A 35 (0,0))) (hz:Frm [b10] W Z) (hk:Kt [35] W Z):PlS w s ao cap yb fb b10 fb (firstP s) Z:=by
 obtain⟨ba',bb',bw',bi',ca',cb',cw',e,r2,r3⟩:=hr.out
 cases e
 exact⟨hf.then hz (by intro q hq;simp at hq;omega),hz.at h0 (by simp;omega),hsy.bx hx hz,hsy.first.bx hn hx hz,hr.ok,hlo,ba',bb',bw',bi',ca',cb',cw',hb,
  r2.kt hk (by decide) (by decide) (by decide) (by decide) (by decide) (by decide),r3⟩
theorem PlS.put (h:PlS w s ao cap yb fb b10 sb x W) (hf:Frm [] W V) (hst:StR V s yb sb' y) {A:Array Value} (hr:RSt w.heap.size V s (.agg A) y) (hn:0 < s.roles.length) (hb:Z.heap[b10]?=some (.cells A 35 (0,0))) (hz:Frm [b10] V Z) (hk:Kt [35] V Z):PlS w s ao cap yb fb b10 sb' y Z:=by
 have hv:=h.frm hf
 obtain⟨ba,bb,bw,bi,ca,cb,cw,h1,h2,h3⟩:=hv.bx
 have hx:=h2.bx hn h1
 have hlo:=h.lo
 obtain⟨ba',bb',bw',bi',ca',cb',cw',e,r2,r3⟩:=hr.out
 cases e
 exact⟨hv.f.then hz (by intro q hq;simp at hq;omega),hz.at hv.b0 (by simp;omega),hv.sy.bx hx hz,hst.bx hn hx hz,hr.ok,hlo,ba',bb',bw',bi',ca',cb',cw',hb,
  r2.kt hk (by decide) (by decide) (by decide) (by decide) (by decide) (by decide),r3⟩
end
set_option maxHeartbeats 0 in
set_option maxRecDepth 100000 in
noncomputable def playsS:PSigma fun P:Prop=>P→∀ (v cv:Value) (s:SesD) (cs:List UInt8) (w:World),SesV w v s→WfS s→Byts w cv cs→Calls Tryz.prog 10 #[v,cv] w (Ret (.bool true) (Frm [] w)):=by
 apply PSigma.mk
 case snd =>
  intro hP
  have HP0:=Lib.hid hP
  clear hP
  intro v cv s cs w h hw hb
  have HSV:=Lib.hid h;have HBY:=Lib.hid hb
  obtain⟨rv,rfl,hr⟩:=h
  obtain⟨ao,cap,rfl⟩:=hr.shape
  obtain⟨ca0,cc0,rfl,-⟩:=hb.len
  obtain⟨n,hn⟩:∃ n,s.roles.length=n:=⟨_,rfl⟩
  obtain⟨cl,hcl⟩:∃ n,cs.length=n:=⟨_,rfl⟩
  have HN:=Lib.hid hn;have HCL:=Lib.hid hcl
  obtain⟨W0,hW0⟩:∃ W0,w.alloc (.cells #[.string s.name,.slice ao s.roles.length cap,.int .i64 s.cls,.int .i64 s.cap] 25)=W0:=⟨_,rfl⟩
  have hf0:Frm [] w W0:=by rw[← hW0];exact(Frm.refl _ _).alloc _
  have hb0:W0.heap[w.heap.size]?=some (.cells #[.string s.name,.slice ao s.roles.length cap,.int .i64 s.cls,.int .i64 s.cap] 25 (0,0)):=by rw[← hW0];exact heap_alloc_new _ _
  have hlw:w.heap.size < W0.heap.size:=lt_of_block hb0
  have HF0:=Lib.hid hf0
  have HB0:=Lib.hid (fun V (hV:Frm [] W0 V)=>hV.at hb0 (by simp))
  have CL:Hid (∀ V,Frm [] W0 V→Calls Tryz.prog 47 #[.agg #[.string s.name,.slice ao s.roles.length cap,.int .i64 s.cls,.int .i64 s.cap]] V (Ret (.bool (largeB s)) (Frm [] V))):=Lib.hid fun V hV=>lLarge_any _ s V (HSV.out.frm (hf0.trans hV))
  have CK:Hid (∀ V,Calls Tryz.prog 14 #[] V (Ret (.bool true) (Frm [] V))):=Lib.hid known33_any
  have CN:=Lib.hid num33_f
  have HWF:=Lib.hid hw
  obtain⟨lg,hlg⟩:∃ b,largeB s=b:=⟨_,rfl⟩
  have HLG:=Lib.hid hlg
  rw[hlg] at CL
  have HE:=Lib.hid hW0
  rw[hn] at HE HB0 CL ⊢
  rw[hcl] at HBY ⊢
  clear hr hb hn hcl hf0 hb0 hw hlg hW0
  go_enter Tryz.func10,Tryz.ntmps10
  go_upto_region 1 with fail
  rw[HE.out]
  clear HE
  cases lg with
  | true =>
    go_wp2_with (first
     | (refine wpList_load_whole rfl 25 _ rfl _ rfl _ 25 (HB0.out _ (Frm.refl _ _)) _ Tryz.underlying25 rfl (by kernel_rfl) ?_)
     | (go_at_call 47;go_must (refine(CL.out _ (Frm.refl _ _)).mono ?_;rintro e w1 ⟨rfl,hf1⟩;have HF1:=Lib.hid hf1;clear hf1))
     | (go_at_call 14;go_must (refine(CK.out _).mono ?_;rintro e wk ⟨rfl,hf'⟩;have HFK:=Lib.hid (HF1.out.trans hf');clear hf')))
    go_ret
    exact⟨rfl,HF0.out.trans HFK.out⟩
  | false =>
    have HSM:=Lib.hid (sm_of HWF.out HLG.out)
    by_cases hks:40 < cl
    ·have hks':(40:Int) < (cl:Int):=by omega
     have hksb:decide ((40:Int) < (cl:Int))=true:=decide_eq_true hks'
     go_wp2_with (first
      | (refine wpList_load_whole rfl 25 _ rfl _ rfl _ 25 (HB0.out _ (Frm.refl _ _)) _ Tryz.underlying25 rfl (by kernel_rfl) ?_)
      | (go_at_call 47;go_must (refine(CL.out _ (Frm.refl _ _)).mono ?_;rintro e w1 ⟨rfl,hf1⟩;have HF1:=Lib.hid hf1;clear hf1))
      | (go_at_call 14;go_must (refine(CK.out _).mono ?_;rintro e wk ⟨rfl,hf'⟩;have HFK:=Lib.hid (HF1.out.trans hf');clear hf')))
     go_ret
     exact⟨rfl,HF0.out.trans HFK.out⟩
    ·have hks':¬ (40:Int) < (cl:Int):=by omega
     have hksb:decide ((40:Int) < (cl:Int))=false:=decide_eq_false hks'
     have CA:Hid (∀ V,Frm [] W0 V→Calls Tryz.prog 48 #[.agg #[.string s.name,.slice ao s.roles.length cap,.int .i64 s.cls,.int .i64 s.cap]] V (RetV fun u w'=>∃ i,u=.tuple #[.int .i64 i,.int .i64 (ckSes s)]∧Frm [] V w')):=Lib.hid fun V hV=>aSes_any _ s V (HSV.out.frm (HF0.out.trans hV)) HSM.out
     rw[HN.out] at CA
     by_cases hc0:ckSes s=0
     ·have CNW:Hid (∀ V,Frm [] W0 V→Calls Tryz.prog 18 #[.agg #[.string s.name,.slice ao s.roles.length cap,.int .i64 s.cls,.int .i64 s.cap]] V (RetV (NewTo V s))):=Lib.hid fun V hV=>pNew_ok _ s V (HSV.out.frm (HF0.out.trans hV)) HSM.out hc0
      rw[HN.out] at CNW HSV
      have HOK:=Lib.hid (ses_ok hc0)
      rw[hc0] at CA
      clear hc0
      go_upto_region 9 with (first
       | (refine wpList_load_whole rfl 25 _ rfl _ rfl _ 25 (HB0.out _ (Frm.refl _ _)) _ Tryz.underlying25 rfl (by kernel_rfl) ?_)
       | (go_at_call 47;go_must (refine(CL.out _ (Frm.refl _ _)).mono ?_;clear CL;rintro e w1 ⟨rfl,hf1⟩;have HF1:=Lib.hid hf1;clear hf1))
       | (refine wpList_load_whole rfl 25 _ rfl _ rfl _ 25 (HB0.out _ HF1.out) _ Tryz.underlying25 rfl (by kernel_rfl) ?_)
       | (go_at_call 18;go_must (refine(CNW.out _ HF1.out).mono ?_;clear CNW;rintro e w2 ⟨u,rfl,hnt⟩;obtain⟨yb,fb,rfl,-,hag⟩:=hnt.out;have HSY2:=Lib.hid (hag w2 (Agree.refl _ _));have HF2:Hid (Frm [] W0 w2):=Lib.hid (HF1.out.trans hnt.frm);clear HF1 hag hnt))
       | (refine wpList_load_whole rfl 25 _ rfl _ rfl _ 25 (HB0.out _ HF2.out) _ Tryz.underlying25 rfl (by kernel_rfl) ?_)
       | (go_at_call 48;go_must (refine(CA.out _ HF2.out).mono ?_;clear CA;rintro e w3 ⟨u,rfl,q,rfl,hf'⟩;have HSY3:=Lib.hid (HSY2.out.frm hf');have HF3:Hid (Frm [] W0 w3):=Lib.hid (HF2.out.trans hf');clear HF2 HSY2 hf'))
       | (go_at_call 19;go_must (refine(CN.out 0 _).mono ?_;rintro e w4 ⟨rfl,hf'⟩;have HSY4:=Lib.hid (HSY3.out.frm hf');have HF4:Hid (Frm [] W0 w4):=Lib.hid (HF3.out.trans hf');clear HF3 HSY3 hf')))
      have hc40:cl≤40:=by omega
      clear hks hks' hksb
      have CF1:=Lib.hid (fun V (hV:Frm [] w4 V)=>pFirst_any s yb fb V (HSY4.out.frm hV))
      have CF2:=Lib.hid (fun V (hV:Frm [] w4 V)=>qFirst_any s _ V (HSV.out.frm (HF0.out.trans (HF4.out.trans hV))) HOK.out)
      try rw[HN.out] at CF2
      go_upto_region 9 with fail
      try simp only[Act.put]
      go_cut [9,10] (fun s9 s10 wc=>∃ b10,s9=.pointer (some ⟨fb,0,none⟩)∧s10=.pointer (some ⟨b10,0,none⟩)∧PlS w s ao cap yb fb b10 fb (firstP s) wc)
      case first =>
       refine heldL_start [] (wrFrom 6) (by kernel_rfl) ?_
       refine htL 0 ?_ ?_ ?_
       rotate_left
       ·intro w' hC
        have hz:=HB0.out _ (HF4.out.trans ((Frm.refl [] w4).drew.trans hC))
        have z0:=cell_of hz 0
        have z1:=cell_of hz 1
        have z2:=cell_of hz 2
        have z3:=cell_of hz 3
        clear hz
        clear hC
        go_simp
        try rfl
       try simp only[nrm]
       refine htL 2 ?_ ?_ ?_
       rotate_left
       ·intro w' hC
        have hz:=HB0.out _ (HF4.out.trans ((Frm.refl [] w4).drew.trans hC))
        have z0:=cell_of hz 0
        have z1:=cell_of hz 1
        have z2:=cell_of hz 2
        have z3:=cell_of hz 3
        clear hz
        clear hC
        go_simp
        try rfl
       try simp only[nrm]
       obtain⟨wd,hwd⟩:∃ wd,w4.drew=wd:=⟨_,rfl⟩
       have hfd:Frm [] w4 wd:=by rw[← hwd];exact(Frm.refl _ _).drew
       rw[hwd]
       clear hwd
       refine heldL_all (rs:=[1,4]) (by kernel_rfl) (by simp) (allL_cons ?_ (allL_cons ?_ allL_nil))
       ·skip
        refine heldL_step (i:=1) rfl rfl (by rfl) (fun K' hK'=>?_)
        go_simp
        (refine(CF1.out _ hfd).mono ?_;rintro e w' ⟨rfl,rfl⟩)
        refine hK'.out _ _ (Frm.refl _ _) ?_
        clear hK' K'
        try simp only[nrm]
        refine heldL_all (rs:=[3,4]) (by kernel_rfl) (by simp) (allL_cons ?_ (allL_cons ?_ allL_nil))
        ·skip
         refine heldL_step (i:=3) rfl rfl (by rfl) (fun K' hK'=>?_)
         go_simp
         (refine(CF2.out _ hfd).mono ?_;rintro e w5 ⟨u,rfl,hrs,hf5⟩;obtain⟨ba,bb,bw,bi,ca,cb,cw,rfl,-⟩:=id hrs.out;rw[HN.out] at hrs ⊢)
         refine hK'.out _ _ (hf5) ?_
         clear hK' K'
         try simp only[nrm]
         refine honL 4 ?_
         refine heldL_step (i:=4) rfl rfl (by rfl) (fun K' hK'=>?_)
         go_simp
         (skip)
         refine hK'.out _ _ ((Frm.refl _ _).alloc _) ?_
         clear hK' K'
         try simp only[nrm]
         obtain⟨bq,hbq⟩:∃ b,w5.heap.size=b:=⟨_,rfl⟩
         have hz0:=heap_alloc_new w5 (.cells #[.slice none 0 0,.slice none 0 0,.slice none 0 0] 35)
         have hfa:Frm [] w5 (w5.alloc (.cells #[.slice none 0 0,.slice none 0 0,.slice none 0 0] 35)):=(Frm.refl _ _).alloc _
         obtain⟨w6,hwn⟩:∃ X,w5.alloc (.cells #[.slice none 0 0,.slice none 0 0,.slice none 0 0] 35)=X:=⟨_,rfl⟩
         rw[hwn,hbq] at hz0 ⊢
         rw[hwn] at hfa
         have hbl:w4.heap.size≤bq:=hbq ▸ (hfd.trans hf5).size
         clear hwn hbq
         have hf6:Frm [] w4 w6:=(hfd.trans hf5).trans hfa
         have hr6:=(hrs.frm hfa).low (B':=w4.heap.size) hfd.size
         have hz:=hz0
         clear hz0 hfa
         refine htP 5 ?_ ?_ ?_
         rotate_left
         ·intro w'
          go_simp
          try rfl
         try simp only[nrm]
         have y0:=cell_of hz 0
         have y1:=cell_of hz 1
         have y2:=cell_of hz 2
         have f0:=free_of hz 0
         have f1:=free_of hz 1
         have f2:=free_of hz 2
         have HP3:=Lib.hid (put3 (u:=.slice (some ⟨ba,0,none⟩) n ca) (v:=.slice (some ⟨bb,0,none⟩) n cb) (z:=.slice (some ⟨bw,0,none⟩) n cw) hz rfl)
         have HRS6:=Lib.hid hr6
         have HF6:=Lib.hid hf6
         have HBL:=Lib.hid hbl
         have HZ:=Lib.hid hz
         clear hz hr6 hf6 hrs hf5 hfd hbl
         refine honL 6 ?_
         refine heldL_write (i:=6) rfl (by rfl) (by rfl) (fun K' hK'=>?_)
         go_simp
         (skip)
         refine hK'.out _ _ ?_
         clear hK' K'
         try simp only[nrm]
         refine heldL_done (by kernel_rfl) ?_ _
         go_wp2
         go_meet
         exact⟨bq,rfl,rfl,PlS.start (HF0.out.trans (HF4.out.trans HF6.out)) (by rw[HN.out];exact HB0.out _ (HF4.out.trans HF6.out)) (HSY4.out.frm HF6.out) (by have:=HF4.out.size;have:=HBL.out;omega) (HRS6.out.low (by have:=HF0.out.size;have:=HF4.out.size;omega)) (by have:=HOK.out.n2;omega) (BxR.zero HZ.out) HP3.out.1 HP3.out.2.1 HP3.out.2.2⟩
        ·skip
         refine heldL_step (i:=4) rfl rfl (by rfl) (fun K' hK'=>?_)
         go_simp
         (skip)
         refine hK'.out _ _ ((Frm.refl _ _).alloc _) ?_
         clear hK' K'
         try simp only[nrm]
         obtain⟨bq,hbq⟩:∃ b,wd.heap.size=b:=⟨_,rfl⟩
         have hz0:=heap_alloc_new wd (.cells #[.slice none 0 0,.slice none 0 0,.slice none 0 0] 35)
         have hfa:Frm [] wd (wd.alloc (.cells #[.slice none 0 0,.slice none 0 0,.slice none 0 0] 35)):=(Frm.refl _ _).alloc _
         obtain⟨w5,hwn⟩:∃ X,wd.alloc (.cells #[.slice none 0 0,.slice none 0 0,.slice none 0 0] 35)=X:=⟨_,rfl⟩
         rw[hwn,hbq] at hz0 ⊢
         rw[hwn] at hfa
         have hbl:w4.heap.size≤bq:=hbq ▸ (hfd).size
         clear hwn hbq
         have hf45:Frm [] w4 w5:=hfd.trans hfa
         refine honL 3 ?_
         refine heldL_step (i:=3) rfl rfl (by rfl) (fun K' hK'=>?_)
         go_simp
         (refine(CF2.out _ hf45).mono ?_;rintro e w6 ⟨u,rfl,hrs,hf5⟩;obtain⟨ba,bb,bw,bi,ca,cb,cw,rfl,-⟩:=id hrs.out;rw[HN.out] at hrs ⊢)
         refine hK'.out _ _ (hf5) ?_
         clear hK' K'
         try simp only[nrm]
         have hf6:Frm [] w4 w6:=hf45.trans hf5
         have hr6:=hrs.low (B':=w4.heap.size) hf45.size
         have hz:=hf5.at hz0 (by simp)
         clear hz0 hfa hf45
         refine htP 5 ?_ ?_ ?_
         rotate_left
         ·intro w'
          go_simp
          try rfl
         try simp only[nrm]
         have y0:=cell_of hz 0
         have y1:=cell_of hz 1
         have y2:=cell_of hz 2
         have f0:=free_of hz 0
         have f1:=free_of hz 1
         have f2:=free_of hz 2
         have HP3:=Lib.hid (put3 (u:=.slice (some ⟨ba,0,none⟩) n ca) (v:=.slice (some ⟨bb,0,none⟩) n cb) (z:=.slice (some ⟨bw,0,none⟩) n cw) hz rfl)
         have HRS6:=Lib.hid hr6
         have HF6:=Lib.hid hf6
         have HBL:=Lib.hid hbl
         have HZ:=Lib.hid hz
         clear hz hr6 hf6 hrs hf5 hfd hbl
         refine honL 6 ?_
         refine heldL_write (i:=6) rfl (by rfl) (by rfl) (fun K' hK'=>?_)
         go_simp
         (skip)
         refine hK'.out _ _ ?_
         clear hK' K'
         try simp only[nrm]
         refine heldL_done (by kernel_rfl) ?_ _
         go_wp2
         go_meet
         exact⟨bq,rfl,rfl,PlS.start (HF0.out.trans (HF4.out.trans HF6.out)) (by rw[HN.out];exact HB0.out _ (HF4.out.trans HF6.out)) (HSY4.out.frm HF6.out) (by have:=HF4.out.size;have:=HBL.out;omega) (HRS6.out.low (by have:=HF0.out.size;have:=HF4.out.size;omega)) (by have:=HOK.out.n2;omega) (BxR.zero HZ.out) HP3.out.1 HP3.out.2.1 HP3.out.2.2⟩
       ·skip
        refine heldL_step (i:=4) rfl rfl (by rfl) (fun K' hK'=>?_)
        go_simp
        (skip)
        refine hK'.out _ _ ((Frm.refl _ _).alloc _) ?_
        clear hK' K'
        try simp only[nrm]
        obtain⟨bq,hbq⟩:∃ b,wd.heap.size=b:=⟨_,rfl⟩
        have hz0:=heap_alloc_new wd (.cells #[.slice none 0 0,.slice none 0 0,.slice none 0 0] 35)
        have hfa:Frm [] wd (wd.alloc (.cells #[.slice none 0 0,.slice none 0 0,.slice none 0 0] 35)):=(Frm.refl _ _).alloc _
        obtain⟨w5,hwn⟩:∃ X,wd.alloc (.cells #[.slice none 0 0,.slice none 0 0,.slice none 0 0] 35)=X:=⟨_,rfl⟩
        rw[hwn,hbq] at hz0 ⊢
        rw[hwn] at hfa
        have hbl:w4.heap.size≤bq:=hbq ▸ (hfd).size
        clear hwn hbq
        have hf45:Frm [] w4 w5:=hfd.trans hfa
        refine honL 1 ?_
        refine heldL_step (i:=1) rfl rfl (by rfl) (fun K' hK'=>?_)
        go_simp
        (refine(CF1.out _ hf45).mono ?_;rintro e w' ⟨rfl,rfl⟩)
        refine hK'.out _ _ (Frm.refl _ _) ?_
        clear hK' K'
        try simp only[nrm]
        refine honL 3 ?_
        refine heldL_step (i:=3) rfl rfl (by rfl) (fun K' hK'=>?_)
        go_simp
        (refine(CF2.out _ hf45).mono ?_;rintro e w6 ⟨u,rfl,hrs,hf5⟩;obtain⟨ba,bb,bw,bi,ca,cb,cw,rfl,-⟩:=id hrs.out;rw[HN.out] at hrs ⊢)
        refine hK'.out _ _ (hf5) ?_
        clear hK' K'
        try simp only[nrm]
        have hf6:Frm [] w4 w6:=hf45.trans hf5
        have hr6:=hrs.low (B':=w4.heap.size) hf45.size
        have hz:=hf5.at hz0 (by simp)
        clear hz0 hfa hf45
        refine htP 5 ?_ ?_ ?_
        rotate_left
        ·intro w'
         go_simp
         try rfl
        try simp only[nrm]
        have y0:=cell_of hz 0
        have y1:=cell_of hz 1
        have y2:=cell_of hz 2
        have f0:=free_of hz 0
        have f1:=free_of hz 1
        have f2:=free_of hz 2
        have HP3:=Lib.hid (put3 (u:=.slice (some ⟨ba,0,none⟩) n ca) (v:=.slice (some ⟨bb,0,none⟩) n cb) (z:=.slice (some ⟨bw,0,none⟩) n cw) hz rfl)
        have HRS6:=Lib.hid hr6
        have HF6:=Lib.hid hf6
        have HBL:=Lib.hid hbl
        have HZ:=Lib.hid hz
        clear hz hr6 hf6 hrs hf5 hfd hbl
        refine honL 6 ?_
        refine heldL_write (i:=6) rfl (by rfl) (by rfl) (fun K' hK'=>?_)
        go_simp
        (skip)
        refine hK'.out _ _ ?_
        clear hK' K'
        try simp only[nrm]
        refine heldL_done (by kernel_rfl) ?_ _
        go_wp2
        go_meet
        exact⟨bq,rfl,rfl,PlS.start (HF0.out.trans (HF4.out.trans HF6.out)) (by rw[HN.out];exact HB0.out _ (HF4.out.trans HF6.out)) (HSY4.out.frm HF6.out) (by have:=HF4.out.size;have:=HBL.out;omega) (HRS6.out.low (by have:=HF0.out.size;have:=HF4.out.size;omega)) (by have:=HOK.out.n2;omega) (BxR.zero HZ.out) HP3.out.1 HP3.out.2.1 HP3.out.2.2⟩
      case rest =>
       obtain⟨b10,rfl,rfl,hk0⟩:=hcut
       have HK0:=Lib.hid hk0
       clear hk0 CF1 CF2 HSY4 HF4
       have CSe:Hid (∀ V,Frm [] wc V→Calls Tryz.prog 26 #[.pointer (some ⟨yb,0,none⟩)] V (RetV (OwTo V s))):=Lib.hid fun V hV=>pSession_any s yb fb V (HK0.out.sy.frm hV)
       have CSm:Hid (∀ v1 v2 V,SesV V v1 s→SesV V v2 s→Calls Tryz.prog 25 #[v1,v2] V (Ret (.bool true) (Frm [] V))):=Lib.hid fun v1 v2 V h1 h2=>aSameS_any v1 v2 s V h1 h2 (by have:=HOK.out.n4;omega) (fun r hr=>by
        have:=HSM.out.r r hr
        exact⟨by have:=this.s;omega,by have:=this.c;omega,by have:=this.t;omega⟩)
       obtain⟨ba,bb,bw,ca,cb,cw,hb10,hrs⟩:=HK0.out.val
       have hb00:=HK0.out.b0
       rw[HN.out] at hb10 hrs hb00
       have HX0:=Lib.hid (And.intro hb00 hb10)
       have CG:=Lib.hid (fun V (hV:Frm [] wc V)=>lAgrees_any s yb fb fb _ _ _ _ V (HK0.out.sy.frm hV) (HK0.out.st.frm hV) (HSV.out.frm (HK0.out.f.trans hV)) (hrs.frm hV))
       clear hb10 hrs hb00
       go_upto_region 10 with fail
       refine heldG_start (by kernel_rfl) ?_
       refine tkG 0 ?_ ?_ ?_
       rotate_left
       ·intro w' hC
        have hz:=((Frm.refl [] wc).drew.trans hC).at HX0.out.1 (by simp)
        have z0:=cell_of hz 0
        have z1:=cell_of hz 1
        have z2:=cell_of hz 2
        have z3:=cell_of hz 3
        clear hz
        clear hC
        go_simp
        try rfl
       try simp only[nrm]
       refine tkG 2 ?_ ?_ ?_
       rotate_left
       ·intro w' hC
        have hz:=((Frm.refl [] wc).drew.trans hC).at HX0.out.1 (by simp)
        have z0:=cell_of hz 0
        have z1:=cell_of hz 1
        have z2:=cell_of hz 2
        have z3:=cell_of hz 3
        clear hz
        clear hC
        go_simp
        try rfl
       try simp only[nrm]
       refine stG 1 (fun K' hK'=>?_)
       go_simp
       (refine(CSe.out _ (Frm.refl _ _).drew).mono ?_;rintro e wS ⟨v,rfl,ho⟩;obtain⟨⟨g2,c2,rfl⟩,hfS,hses⟩:=ho;have HSS:=Lib.hid (hses wS (Agree.refl _ _));have HFS:Hid (Frm [] wc wS):=Lib.hid ((Frm.refl _ _).drew.trans hfS);have hfS':=hfS;clear hses hfS)
       refine hK'.out _ _ (hfS') ?_
       clear hK' K'
       try simp only[nrm]
       clear hfS'
       refine stG 3 (fun K' hK'=>?_)
       go_simp
       (refine(CSm.out _ _ wS HSS.out (HSV.out.frm (HK0.out.f.trans HFS.out))).mono ?_;rintro e wT ⟨rfl,hfT⟩;have HFT:Hid (Frm [] wc wT):=Lib.hid (HFS.out.trans hfT))
       refine hK'.out _ _ (hfT) ?_
       clear hK' K'
       try simp only[nrm]
       clear hfT
       refine cnt 4 ?_
       iterate 6
        refine tcG ?_ ?_ ?_
        rotate_left
        ·intro w' hC
         have hz:=HX0.out.1
         have hz1:=(HFT.out.trans hC).at hz (by simp)
         have hz2:=(HFT.out.trans hC).at HX0.out.2 (by simp)
         have z0:=cell_of hz1 0
         have z1:=cell_of hz1 1
         have z2:=cell_of hz1 2
         have z3:=cell_of hz1 3
         have t0:=cell_of hz2 0
         have t1:=cell_of hz2 1
         have t2:=cell_of hz2 2
         clear hz hz1 hz2
         clear hC
         go_simp
         try rfl
        try simp only[nrm,Nat.reduceAdd]
       refine tcn ?_
       refine stG 10 (fun K' hK'=>?_)
       go_simp
       (refine(CG.out wT HFT.out).mono ?_;rintro e wU ⟨rfl,hfU⟩;have HFU:Hid (Frm [] wc wU):=Lib.hid (HFT.out.trans hfU))
       refine hK'.out _ _ (hfU) ?_
       clear hK' K'
       try simp only[nrm]
       clear hfU
       refine cnt 11 ?_
       iterate 2
        refine tcG ?_ ?_ ?_
        rotate_left
        ·intro w' hC
         clear hC
         go_simp
         try rfl
        try simp only[nrm,Nat.reduceAdd]
       refine tcn ?_
       refine wpAnyH_done (by kernel_rfl) ?_ _
       have HK1:=Lib.hid (HK0.out.frm HFU.out)
       clear HK0 HX0 CG CSe CSm HFS HSS HFT HFU
       go_upto_region 13 with fail
       go_loopw [9,11] (fun s9 s11 wr=>∃ (i sb:Nat) (x:PS),s9=.pointer (some ⟨sb,0,none⟩)∧s11=.int .i64 i∧i≤cl∧PlS w s ao cap yb fb b10 sb x wr) (fun _ s11 _=>cl - (intOf s11).toNat)
       case atStart=>exact⟨0,fb,_,rfl,rfl,Nat.zero_le _,HK1.out⟩
       case round =>
        clear HK1
        obtain⟨i,sb,x,rfl,rfl,hi,hk⟩:=hrel
        have HK:=Lib.hid hk
        clear hk
        obtain⟨wl,hwl⟩:∃ wl,wl=wr:=⟨_,rfl⟩
        subst hwl
        by_cases hlt:i < cl
        ·have hlt':(i:Int) < (cl:Int):=by omega
         obtain⟨ba,bb,bw,ca,cb,cw,hb10,hrs⟩:=HK.out.val
         have HV10:=Lib.hid hb10
         have HRS:=Lib.hid hrs
         have HKB:=Lib.hid HK.out.b0
         rw[HN.out] at HV10 HRS HKB
         have CM:=Lib.hid (qMoves_any s _ _ x _ wl (HSV.out.frm HK.out.f) HRS.out HOK.out)
         try rw[HN.out] at CM
         clear hb10 hrs
         go_upto_region 16 with (first
          | (refine wpList_load_whole rfl 25 _ rfl _ rfl _ 25 HKB.out _ Tryz.underlying25 rfl (by kernel_rfl) ?_)
          | (refine wpList_load_whole rfl 35 _ rfl _ rfl _ 35 HV10.out _ Tryz.underlying35 rfl (by kernel_rfl) ?_)
          | (go_at_call 17;go_must (refine CM.out.mono ?_;clear CM;rintro e w5 ⟨u,rfl,hal,hf5⟩;obtain⟨am,km,rfl⟩:=hal.shape;have HAL:=Lib.hid hal;have HF5:=Lib.hid hf5;have HK5:=Lib.hid (HK.out.frm hf5);clear hal hf5)))
         obtain⟨M,hM⟩:∃ M,(movesP s x).length=M:=⟨_,rfl⟩
         have HML:=Lib.hid hM
         rw[hM] at HAL ⊢
         clear hM
         by_cases hM0:M=0
         ·subst hM0
          go_wp2_with (go_at_call 14;go_must (refine(CK.out _).mono ?_;rintro e wk ⟨rfl,hf'⟩;have HFK:=Lib.hid (HK5.out.f.trans hf');clear hf'))
          go_ret
          exact⟨rfl,HFK.out⟩
         ·skip
          rename_i z0_ z1_ z2_ z3_ z4_ z5_ z6_ z7_ z8_ z9_ z10_ z11_ z12_ z13_ z14_ z15_ z16_ z17_ z18_ z19_ z20_ z21_ z22_ z23_ z24_ z25_ z26_ z27_ z28_ z29_ z30_ z31_ z32_ z33_ z34_ z35_ z36_ z37_ z38_ z39_ z40_ z41_ z42_ z43_ z44_ z45_ z46_ z47_ z48_ z49_ z50_ z51_ z52_ z53_ z54_ z55_ z56_ z57_ z58_ z59_ z60_ z61_ z62_ z63_ z64_ z65_ z66_ z67_ z68_ z69_ z70_ z71_ z72_ z73_ z74_ z75_ z76_ z77_ z78_ z79_
          revert s cs w ao cap ca0 cc0 n HSV cl HBY HN HCL W0 hlw HF0 HB0 CK CN HWF HLG HSM HOK w1 w2 yb fb w3 q w4 hc40 wc u18 u19 u20 u21 u22 u23 u24 u25 u26 u27 u28 u29 u30 u31 u32 u33 u34 u35 u36 u37 u38 u39 u40 u41 u42 u43 u44 u45 u46 u47 u48 u49 u50 u51 u52 u53 u54 u55 u56 u57 u58 u59 u60 u61 u62 u63 u64 u65 u66 z0_ z1_ z2_ z3_ z4_ z5_ z6_ z7_ z8_ z9_ z10_ z11_ z12_ z13_ z14_ z15_ z16_ z17_ z18_ z19_ z20_ z21_ z22_ z23_ z24_ z25_ z26_ z27_ z28_ z29_ z30_ z31_ z32_ z33_ z34_ z35_ z36_ z37_ z38_ z39_ z40_ z41_ z42_ z43_ z44_ z45_ z46_ z47_ z48_ z49_ z50_ z51_ z52_ z53_ z54_ z55_ z56_ z57_ z58_ z59_ z60_ z61_ z62_ z63_ z64_ u132 b10 z65_ z66_ z67_ z68_ z69_ z70_ wS g2 c2 wT wU z71_ z72_ u4 u12 u13 u14 u15 u16 u17 u67 u68 u69 u70 u71 u72 u73 u74 u75 u76 u77 u78 u79 u80 u81 u82 u83 u84 u85 u86 u87 u88 u89 u90 u91 u92 u93 u94 u95 u96 u97 u98 u99 u100 u101 u102 u103 u104 u105 u106 u107 u108 u109 u110 u111 u112 u113 u114 u115 u116 u117 u118 u119 u120 u121 u122 u123 u124 u125 u126 u127 u128 u129 u130 u131 i sb x hi wl HK hlt hlt' ba bb bw ca cb cw HV10 HRS HKB z73_ z74_ z75_ w5 am km HF5 HK5 z76_ z77_ z78_ z79_ M HAL HML hM0
          exact HP0.out
        ·try clear HP0
         obtain rfl:i=cl:=by omega
         have hge:¬ (i:Int) < (i:Int):=by omega
         go_wp2_with (go_at_call 14;go_must (refine(CK.out _).mono ?_;rintro e wk ⟨rfl,hf'⟩;have HFK:=Lib.hid (HK.out.f.trans hf');clear hf'))
         go_ret
         exact⟨rfl,HFK.out⟩
     ·try clear HP0
      obtain⟨c,hc⟩:∃ c,ckSes s=c:=⟨_,rfl⟩
      have CNW:Hid (∀ V,Frm [] W0 V→Calls Tryz.prog 18 #[.agg #[.string s.name,.slice ao s.roles.length cap,.int .i64 s.cls,.int .i64 s.cap]] V (Ret (.tuple #[.pointer none,.int .i64 (ckSes s)]) (Frm [] V))):=Lib.hid fun V hV=>pNew_bad _ s V (HSV.out.frm (HF0.out.trans hV)) HSM.out hc0
      rw[HN.out] at CNW
      rw[hc] at CNW CA hc0
      have hcb:(c != 0)=true:=by rw[bne_iff_ne];exact hc0
      have hcc:(c != c)=false:=by simp
      clear hc
      go_wp2_with (first
       | (refine wpList_load_whole rfl 25 _ rfl _ rfl _ 25 (HB0.out _ (Frm.refl _ _)) _ Tryz.underlying25 rfl (by kernel_rfl) ?_)
       | (go_at_call 47;go_must (refine(CL.out _ (Frm.refl _ _)).mono ?_;clear CL;rintro e w1 ⟨rfl,hf1⟩;have HF1:=Lib.hid hf1;clear hf1))
       | (refine wpList_load_whole rfl 25 _ rfl _ rfl _ 25 (HB0.out _ HF1.out) _ Tryz.underlying25 rfl (by kernel_rfl) ?_)
       | (go_at_call 18;go_must (refine(CNW.out _ HF1.out).mono ?_;clear CNW;rintro e w2 ⟨rfl,hf'⟩;have HF2:Hid (Frm [] W0 w2):=Lib.hid (HF1.out.trans hf');clear HF1 hf'))
       | (refine wpList_load_whole rfl 25 _ rfl _ rfl _ 25 (HB0.out _ HF2.out) _ Tryz.underlying25 rfl (by kernel_rfl) ?_)
       | (go_at_call 48;go_must (refine(CA.out _ HF2.out).mono ?_;clear CA;rintro e w3 ⟨u,rfl,q,rfl,hf'⟩;have HF3:Hid (Frm [] W0 w3):=Lib.hid (HF2.out.trans hf');clear HF2 hf'))
       | (go_at_call 19;go_must (refine(CN.out c _).mono ?_;rintro e w4 ⟨rfl,hf'⟩;have HF4:Hid (Frm [] W0 w4):=Lib.hid (HF3.out.trans hf');clear HF3 hf'))
       | (go_at_call 14;go_must (refine(CK.out _).mono ?_;rintro e wk ⟨rfl,hf'⟩;have HFK:=Lib.hid (HF4.out.trans hf');clear hf')))
      go_ret
      exact⟨rfl,HF0.out.trans HFK.out⟩
set_option maxHeartbeats 0 in
set_option maxRecDepth 100000 in
theorem playsT:playsS.1:=by
 intro s cs w ao cap ca0 cc0 n HSV cl HBY HN HCL W0 hlw HF0 HB0 CK CN HWF HLG HSM HOK w1 w2 yb fb w3 q w4 hc40 wc u18 u19 u20 u21 u22 u23 u24 u25 u26 u27 u28 u29 u30 u31 u32 u33 u34 u35 u36 u37 u38 u39 u40 u41 u42 u43 u44 u45 u46 u47 u48 u49 u50 u51 u52 u53 u54 u55 u56 u57 u58 u59 u60 u61 u62 u63 u64 u65 u66 _ _ _ _ _ _ _ _ _ _ _ _ _ _ _ _ _ _ _ _ _ _ _ _ _ _ _ _ _ _ _ _ _ _ _ _ _ _ _ _ _ _ _ _ _ _ _ _ _ _ _ _ _ _ _ _ _ _ _ _ _ _ _ _ _ u132 b10 _ _ _ _ _ _ wS g2 c2 wT wU _ _ u4 u12 u13 u14 u15 u16 u17 u67 u68 u69 u70 u71 u72 u73 u74 u75 u76 u77 u78 u79 u80 u81 u82 u83 u84 u85 u86 u87 u88 u89 u90 u91 u92 u93 u94 u95 u96 u97 u98 u99 u100 u101 u102 u103 u104 u105 u106 u107 u108 u109 u110 u111 u112 u113 u114 u115 u116 u117 u118 u119 u120 u121 u122 u123 u124 u125 u126 u127 u128 u129 u130 u131 i sb x hi wl HK hlt hlt' ba bb bw ca cb cw HV10 HRS HKB _ _ _ w5 am km HF5 HK5 _ _ _ _ M HAL HML hM0
 have hM0':¬ (M:Int)=0:=by omega
 have hMb:((M:Int) == 0)=false:=by rw[beq_eq_false_iff_ne];exact hM0'
 obtain⟨c,hc⟩:∃ c,cs[i]?=some c:=⟨_,List.getElem?_eq_getElem (by rw[HCL.out];exact hlt)⟩
 have hbx:∃ b o,ca0=some ⟨b,o,none⟩∧w5.cell? ⟨b,o + i,none⟩=some (.int .u8 (c.toNat:Int)):=by
  obtain⟨_,_,e3,-,hbx⟩:=HBY.out.frm0 HK5.out.f
  obtain⟨b,o,e,h⟩:=hbx i c hc
  injection e3 with e4
  exact⟨b,o,e4.trans e,h⟩
 obtain⟨cb',co,e7,y0⟩:=hbx
 subst e7
 have hwc:wrap64 (c.toNat:Int)=(c.toNat:Int):=by have:=c.toNat_lt;unfold wrap64;omega
 have hMp:0 < M:=by omega
 obtain⟨r,hr⟩:∃ r,c.toNat % M=r:=⟨_,rfl⟩
 have hrM:r < M:=hr ▸ Nat.mod_lt _ hMp
 have hrM':(r:Int) < (M:Int):=by omega
 have hrt:Int.tmod (c.toNat:Int) (M:Int)=(r:Int):=by rw[← hr];rfl
 have hrt2:(((c.toNat % M:Nat):Int))=(r:Int):=by rw[hr]
 obtain⟨m,hm⟩:∃ m,(movesP s x)[r]?=some m:=⟨_,List.getElem?_eq_getElem (by rw[HML.out];exact hrM)⟩
 obtain⟨ab,ao1,e1,hm1⟩:=HAL.out.get hm
 subst e1
 have hmem:=List.mem_of_getElem? hm
 obtain⟨mk,mr,ms,mp⟩:=m
 obtain⟨m0,m1,m2,m3⟩:=hm1
 dsimp only at m0 m1 m2 m3
 have HMM:=Lib.hid hmem
 clear hc hm hr hmem
 go_upto_region 18 with (refine wpList_store_row rfl 47 _ _ rfl _ _ _ _ rfl rfl (heap_alloc_new _ _) rfl (by kernel_rfl) (one4i ..) ?_;intro w6 hb6 hf6;have HBM:=Lib.hid hb6;have HF6:=Lib.hid (((Frm.refl [] w5).alloc _).then hf6 (by intro q hq;simp at hq;subst hq;exact .inr (Nat.le_refl _)));clear hb6 hf6)
 clear m0 m1 m2 m3 y0
 have HK6:=Lib.hid (HK5.out.frm HF6.out)
 have HRS6:=Lib.hid (HRS.out.frm (HF5.out.trans HF6.out))
 have CA:=Lib.hid (pDo_yes s yb fb sb x ⟨mk,mr,ms,mp⟩ w6 HK6.out.sy HK6.out.st HMM.out)
 have x0:=cell_of HBM.out 0
 have x1:=cell_of HBM.out 1
 have x2:=cell_of HBM.out 2
 have x3:=cell_of HBM.out 3
 have HV6:=Lib.hid ((HF5.out.trans HF6.out).at HV10.out (by simp))
 have HB06:=Lib.hid ((HF5.out.trans HF6.out).at HKB.out (by simp))
 have hlm:=lt_of_block HBM.out
 go_upto_region 19 with (go_at_call 24;go_must (refine CA.out.mono ?_;clear CA;rintro e w7 ⟨u,rfl,xa,rfl,hxs,hf7⟩;have HXA:=Lib.hid hxs;have HF7:=Lib.hid hf7;clear hxs hf7))
 clear x0 x1 x2 x3
 have HV7:=Lib.hid (HF7.out.at HV6.out (by simp));have HB07:=Lib.hid (HF7.out.at HB06.out (by simp));have HBM7:=Lib.hid (HF7.out.at HBM.out (by simp))
 have CQ:=Lib.hid (qDo_yes s _ _ x _ w7 ⟨mk,mr,ms,mp⟩ (HSV.out.frm (HK6.out.f.trans HF7.out)) (HRS6.out.frm HF7.out) HOK.out HMM.out HN.out)
 go_upto_region 20 with (first
  | (refine wpList_load_whole rfl 25 _ rfl _ rfl _ 25 HB07.out _ Tryz.underlying25 rfl (by kernel_rfl) ?_)
  | (refine wpList_load_whole rfl 35 _ rfl _ rfl _ 35 HV7.out _ Tryz.underlying35 rfl (by kernel_rfl) ?_)
  | (refine wpList_load_whole rfl 47 _ rfl _ rfl _ 47 HBM7.out _ Tryz.underlying47 rfl (by kernel_rfl) ?_)
  | (go_at_call 27;go_must (refine CQ.out.mono ?_;clear CQ;rintro e w8 ⟨u,rfl,hf8,pa,pb,pc,qa,qb,qc,rfl,hr8⟩;have HR8:=Lib.hid hr8;have HF8:=Lib.hid (HF7.out.trans hf8);have HXA8:=Lib.hid (HXA.out.frm hf8);clear hr8 hf8))
  | (refine wpList_store_row rfl 35 _ _ rfl _ _ _ _ rfl rfl (heap_alloc_new _ _) rfl (by kernel_rfl) (one3v ..) ?_;intro w9 hb9 hf9;have HB16:=Lib.hid hb9;have HF89:=Lib.hid (((Frm.refl [] w8).alloc _).then hf9 (by intro q hq;simp at hq;subst hq;exact .inr (Nat.le_refl _)));clear hb9 hf9))
 obtain⟨b16,hb16⟩:∃ b,w8.heap.size=b:=⟨_,rfl⟩
 have hne:b16≠b10:=by have:=lt_of_block HV6.out;have:=HF8.out.size;omega
 rw[hb16] at HB16 ⊢
 clear hb16 HV7 HB07 HBM7 HBM HK5 HKB
 have HF9:Hid (Frm [] w6 w9):=Lib.hid (HF8.out.trans HF89.out)
 have HK9:=Lib.hid (HK6.out.frm HF9.out)
 have HXA9:=Lib.hid (HXA8.out.frm HF89.out)
 have HR9:Hid (RSt w.heap.size w9 s _ _):=Lib.hid ((HR8.out.frm HF89.out).low (by have:=HK6.out.f.size;have:=HF7.out.size;omega))
 have HV9:=Lib.hid (HF9.out.at HV6.out (by simp));have HB09:=Lib.hid (HF9.out.at HB06.out (by simp))
 have CG:=Lib.hid (fun V (hV:Frm [] w9 V)=>lAgrees_any s yb fb xa _ _ _ _ V (HK9.out.sy.frm hV) (HXA9.out.frm hV) (HSV.out.frm (HK9.out.f.trans hV)) (HR9.out.frm hV))
 obtain⟨KA,hKA⟩:∃ K:ByteArray,⟨(keyP s x).toArray⟩=K:=⟨_,rfl⟩
 have CKa:Hid (∀ V,Frm [] w9 V→Calls Tryz.prog 22 #[.pointer (some ⟨sb,0,none⟩)] V (Ret (.string KA) (Frm [] V))):=Lib.hid fun V hV=>(pKey_any s yb fb sb x V (HK9.out.sy.frm hV) (HK9.out.st.frm hV)).mono fun e w' h=>by
  obtain⟨v,rfl,rfl,h⟩:=h
  exact⟨by rw[hKA],h⟩
 have CKb:Hid (∀ V,Frm [] w9 V→Calls Tryz.prog 50 #[.agg #[.slice (some ⟨ba,0,none⟩) n ca,.slice (some ⟨bb,0,none⟩) n cb,.slice (some ⟨bw,0,none⟩) n cw]] V (Ret (.string KA) (Frm [] V))):=Lib.hid fun V hV=>(qKey_any s _ x _ V ((HRS6.out.frm HF9.out).frm hV) HOK.out).mono fun e w' h=>by
  obtain⟨v,rfl,rfl,h⟩:=h
  exact⟨by rw[hKA],h⟩
 clear hKA
 refine wp_region_cq (by kernel_rfl) (by kernel_rfl) ?_
 repeat (first
  | go_big_quiet_skip
  | (refine wpQuiet_want (by rfl) (fun K hK=>?_)
     first
      | (refine quiet_move _ (by rfl) (hK _ ?_))
      | (refine quiet_assign _ (by rfl) (hK _ ?_))
      | (refine cq_call (.int .i64 0) 19 #[.int .i64 0] (fun w' hC=>?_) (fun w' hC=>Ret.cq (CN.out 0 w') (fun w'' h=>hC.trans h)) (hK _ ?_)
         ·go_simp)
      | (refine cq_call (.bool true) 28 #[.pointer (some ⟨yb,0,none⟩),.agg #[.string s.name,.slice ao n cap,.int .i64 s.cls,.int .i64 s.cap],.pointer (some ⟨xa,0,none⟩),.agg #[.slice (some ⟨pa,0,none⟩) n qa,.slice (some ⟨pb,0,none⟩) n qb,.slice (some ⟨pc,0,none⟩) n qc]] (fun w' hC=>?_) (fun w' hC=>Ret.cq (CG.out w' hC) (fun w'' h=>hC.trans h)) (hK _ ?_)
         ·go_simp)
      | (refine cq_call (.string KA) 22 #[.pointer (some ⟨sb,0,none⟩)] (fun w' hC=>?_) (fun w' hC=>Ret.cq (CKa.out w' hC) (fun w'' h=>hC.trans h)) (hK _ ?_)
         ·go_simp)
      | (refine cq_call (.string KA) 50 #[.agg #[.slice (some ⟨ba,0,none⟩) n ca,.slice (some ⟨bb,0,none⟩) n cb,.slice (some ⟨bw,0,none⟩) n cw]] (fun w' hC=>?_) (fun w' hC=>Ret.cq (CKb.out w' hC) (fun w'' h=>hC.trans h)) (hK _ ?_)
         ·go_simp)
      | (refine cq_row 25 _ rfl w.heap.size rfl #[.string s.name,.slice ao n cap,.int .i64 s.cls,.int .i64 s.cap] 25 HB09.out _ Tryz.underlying25 rfl (by kernel_rfl) (hK _ ?_))
      | (refine cq_row 35 _ rfl b16 rfl #[.slice (some ⟨pa,0,none⟩) n qa,.slice (some ⟨pb,0,none⟩) n qb,.slice (some ⟨pc,0,none⟩) n qc] 35 HB16.out _ Tryz.underlying35 rfl (by kernel_rfl) (hK _ ?_))
      | (refine cq_row 35 _ rfl b10 rfl #[.slice (some ⟨ba,0,none⟩) n ca,.slice (some ⟨bb,0,none⟩) n cb,.slice (some ⟨bw,0,none⟩) n cw] 35 HV9.out _ Tryz.underlying35 rfl (by kernel_rfl) (hK _ ?_))
      | (apply Exists.intro
         refine⟨fun w' hC=>?_,hK _ ?_⟩
         ·(unfold Oper.quietAt
           clear hC
           go_simp
           try exact⟨rfl,rfl⟩
           try rfl))
     clear hK K
     try simp only[nrm,Act.eval,nrq]))
 refine wpQuiet_nil ?_
 intro wj hfj
 have HKj:=Lib.hid (HK9.out.frm hfj)
 have HXj:=Lib.hid (HXA9.out.frm hfj)
 have HRj:=Lib.hid (HR9.out.frm hfj)
 have HVj:=Lib.hid (hfj.at HV9.out (by simp));have HBj:=Lib.hid (hfj.at HB16.out (by simp))
 clear hfj HK9 HXA9 HR9 HV9 HB09 HB16 CG CKa CKb
 go_upto_region 22 with fail
 refine heldF_start (F:=[b10]) (by kernel_rfl) ?_
 obtain⟨wd,hwd⟩:∃ wd,wj.drew=wd:=⟨_,rfl⟩
 have hfd:Frm [] wj wd:=by rw[← hwd];exact(Frm.refl _ _).drew
 rw[hwd]
 clear hwd
 refine cnt 0 ?_
 iterate 2
  refine hcF ?_ ?_ ?_
  rotate_left
  ·intro w' hC
   have hz:=(hC.at (hfd.at HBj.out (by simp)) (by simpa using hne))
   have z0:=cell_of hz 0
   have z1:=cell_of hz 1
   have z2:=cell_of hz 2
   clear hz
   clear hC
   go_simp
   try rfl
  try simp only[nrm,Nat.reduceAdd]
 refine tcn ?_
 refine htF 2 ?_ ?_ ?_
 rotate_left
 ·intro w' hC
  clear hC
  go_simp
  try rfl
 try simp only[nrm]
 have hb3:=hfd.at HVj.out (by simp)
 have f0:=free_of hb3 0
 have f1:=free_of hb3 1
 have f2:=free_of hb3 2
 have y0:=cell_of hb3 0
 have y1:=cell_of hb3 1
 have y2:=cell_of hb3 2
 have HP3:=Lib.hid (put3 (u:=.slice (some ⟨pa,0,none⟩) n qa) (v:=.slice (some ⟨pb,0,none⟩) n qb) (z:=.slice (some ⟨pc,0,none⟩) n qc) hb3 rfl)
 have HKD:=Lib.hid (HKj.out.put hfd (HXj.out.frm hfd) (HRj.out.frm hfd) (by have:=HOK.out.n2;omega) HP3.out.1 HP3.out.2.1 HP3.out.2.2)
 clear hb3 hfd HP3
 refine hstF 3 (fun K' hK'=>?_)
 go_simp
 (skip)
 refine hK'.out _ _ (((Frm.refl _ _).setCell _ (.inl (by simp)) _).setCell _ (.inl (by simp)) _ |>.setCell _ (.inl (by simp)) _) ?_
 clear hK' K'
 try simp only[nrm]
 refine wpAnyH_done (by kernel_rfl) ?_ _
 go_wp2
 exact⟨⟨i + 1,xa,_,rfl,congrArg (Value.int .i64) (by omega),hlt,HKD.out⟩,by simp[intOf];omega⟩
theorem plays_any (v cv:Value) (s:SesD) (cs:List UInt8) (w:World) (h:SesV w v s) (hw:WfS s) (hb:Byts w cv cs):Calls Tryz.prog 10 #[v,cv] w (Ret (.bool true) (Frm [] w)):=playsS.2 playsT v cv s cs w h hw hb
end Go.Proofs.YtkphhjekfimmlaaGreat
