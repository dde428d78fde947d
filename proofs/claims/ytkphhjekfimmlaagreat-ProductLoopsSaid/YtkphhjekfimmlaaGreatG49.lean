/- Part of the proof. -/
import Derived.Test.YtkphhjekfimmlaaGreatG47
import Derived.Test.YtkphhjekfimmlaaGreatG48
import Derived.Test.YtkphhjekfimmlaaGreatG34
set_option linter.all false
namespace Go.Proofs.YtkphhjekfimmlaaGreat
open Go.RowKit Go.BigFrame
theorem allowed_parts {s:SesD} (hw:WfS s) (h:allowedB s=true):SmS s∧ckSes s=0:=by
 unfold allowedB at h
 rw[Bool.and_eq_true,Bool.not_eq_true'] at h
 exact⟨sm_of hw h.1,of_decide_eq_true h.2⟩
set_option maxHeartbeats 8000000 in
set_option maxRecDepth 100000 in
theorem decodes_any (v:Value) (s:SesD) (key:ByteArray) (w:World) (h:SesV w v s) (hw:WfS s):Calls Tryz.prog 6 #[v,.string key] w (Ret (.bool true) (Frm [] w)):=by
 have HSV:=Lib.hid h
 obtain⟨rv,rfl,hr⟩:=h
 obtain⟨ao,cap,rfl⟩:=hr.shape
 obtain⟨n,hn⟩:∃ n,s.roles.length=n:=⟨_,rfl⟩
 rw[hn] at HSV ⊢
 obtain⟨W0,hW0⟩:∃ W0,w.alloc (.cells #[.string s.name,.slice ao n cap,.int .i64 s.cls,.int .i64 s.cap] 25)=W0:=⟨_,rfl⟩
 have hf0:Frm [] w W0:=by rw[← hW0];exact(Frm.refl [] w).alloc _
 have HF0:=Lib.hid hf0
 have HB:Hid (∀ V,Frm [] W0 V→V.heap[w.heap.size]?=some (.cells #[.string s.name,.slice ao n cap,.int .i64 s.cls,.int .i64 s.cap] 25 (0,0))):=Lib.hid fun V hV=>by
  have hb:W0.heap[w.heap.size]?=some (.cells #[.string s.name,.slice ao n cap,.int .i64 s.cls,.int .i64 s.cap] 25 (0,0)):=by rw[← hW0];exact heap_alloc_new _ _
  exact hV.at hb (by simp)
 have CA:=Lib.hid (lAllowed_any _ s W0 (HSV.out.frm hf0) hw)
 have CK:Hid (∀ V,Calls Tryz.prog 14 #[] V (Ret (.bool true) (Frm [] V))):=Lib.hid known33_any
 have CN:=Lib.hid num33_f
 have HWF:=Lib.hid hw
 obtain⟨al,hal⟩:∃ b,allowedB s=b:=⟨_,rfl⟩
 rw[hal] at CA
 have HAL:=Lib.hid hal
 have HE:=Lib.hid hW0
 clear hr hw hn hf0 hW0 hal
 go_enter Tryz.func6,Tryz.ntmps6
 go_upto_region 1 with (first | (refine wpList_box_row rfl 25 _ rfl _ rfl ?_;rw[HE.out]))
 clear HE
 cases al with
 | false =>
   go_wp2_with (first
    | (refine wpList_load_whole rfl 25 _ rfl _ rfl _ 25 (HB.out _ (Frm.refl _ _)) _ Tryz.underlying25 rfl (by kernel_rfl) ?_)
    | (go_at_call 13;go_must (refine CA.out.mono ?_;rintro e w1 ⟨rfl,hf1⟩;have HF1:=Lib.hid hf1;clear hf1))
    | (go_at_call 14;go_must (refine(CK.out _).mono ?_;rintro e w2 ⟨rfl,hf2⟩;have HF2:=Lib.hid (HF1.out.trans hf2);clear hf2)))
   go_ret
   exact⟨rfl,HF0.out.trans HF2.out⟩
 | true =>
   obtain⟨hsm,hck⟩:=allowed_parts HWF.out HAL.out
   have HSM:=Lib.hid hsm;have HCK:=Lib.hid hck;have HOK:=Lib.hid (ses_ok hck)
   clear hsm hck
   by_cases hks:300 < key.size
   ·have hks':(300:Int) < (key.size:Int):=by omega
    have hksb:decide ((300:Int) < (key.size:Int))=true:=decide_eq_true hks'
    go_wp2_with (first
     | (refine wpList_load_whole rfl 25 _ rfl _ rfl _ 25 (HB.out _ (Frm.refl _ _)) _ Tryz.underlying25 rfl (by kernel_rfl) ?_)
     | (go_at_call 13;go_must (refine CA.out.mono ?_;rintro e w1 ⟨rfl,hf1⟩;have HF1:=Lib.hid hf1;clear hf1))
     | (go_at_call 14;go_must (refine(CK.out _).mono ?_;rintro e w2 ⟨rfl,hf2⟩;have HF2:=Lib.hid (HF1.out.trans hf2);clear hf2)))
    go_ret
    exact⟨rfl,HF0.out.trans HF2.out⟩
   ·have hks':¬ (300:Int) < (key.size:Int):=by omega
    have hksb:decide ((300:Int) < (key.size:Int))=false:=decide_eq_false hks'
    have hk3:key.size≤300:=by omega
    have HK3:=Lib.hid hk3
    go_upto_region 4 with (first
     | (refine wpList_load_whole rfl 25 _ rfl _ rfl _ 25 (HB.out _ (Frm.refl _ _)) _ Tryz.underlying25 rfl (by kernel_rfl) ?_)
     | (refine wpList_load_whole rfl 25 _ rfl _ rfl _ 25 (HB.out _ HF1.out) _ Tryz.underlying25 rfl (by kernel_rfl) ?_)
     | (go_at_call 13;go_must (refine CA.out.mono ?_;rintro e w1 ⟨rfl,hf1⟩;have HF1:=Lib.hid hf1;clear hf1))
     | (go_at_call 18;go_must (refine(pNew_ok _ s _ (HSV.out.frm (HF0.out.trans HF1.out)) HSM.out HCK.out).mono ?_;rintro e w2 ⟨u,rfl,hnt⟩;obtain⟨yb,fb,rfl,-,hag⟩:=hnt.out;have HSY:=Lib.hid (hag w2 (Agree.refl _ _));have HF2:Hid (Frm [] W0 w2):=Lib.hid (HF1.out.trans hnt.frm);clear hag hnt)))
    clear hks hks' hksb hk3
    obtain⟨D,hD⟩:∃ D,decP s (byt key)=D:=⟨_,rfl⟩
    have CD:=Lib.hid (fun V (hV:Frm [] w2 V)=>pDecode_any s yb fb key V (HSY.out.frm hV))
    have CQ:=Lib.hid (fun V (hV:Frm [] w V)=>qDecode_any s _ key V (HSV.out.frm hV) HOK.out HK3.out)
    rw[hD] at CD CQ
    clear hD
    cases D with
    | none =>
      go_wp2_with (first
       | (go_at_call 19;go_must (refine(CN.out 0 _).mono ?_;rintro e w3 ⟨rfl,hf'⟩;have HF23:=Lib.hid hf';clear hf'))
       | (go_at_call 21;go_must (refine(CD.out _ HF23.out).mono ?_;rintro e w4 ⟨u,rfl,hf',rfl⟩;have HF4:Hid (Frm [] W0 w4):=Lib.hid (HF2.out.trans (HF23.out.trans hf'));clear hf'))
       | (refine wpList_load_whole rfl 25 _ rfl _ rfl _ 25 (HB.out _ HF4.out) _ Tryz.underlying25 rfl (by kernel_rfl) ?_)
       | (go_at_call 29;go_must (refine(CQ.out _ (HF0.out.trans HF4.out)).mono ?_;rintro e w5 ⟨u,rfl,hf',⟨x,yv,hx,-⟩ | ⟨-,A,rfl,h3,hal⟩⟩;(· cases hx);have HF5:Hid (Frm [] W0 w5):=Lib.hid (HF4.out.trans hf');have HA:=Lib.hid (And.intro h3 hal);clear hf' h3 hal))
       | (refine wpList_store_row rfl 35 _ _ rfl _ _ _ _ rfl rfl (heap_alloc_new _ _) HA.out.1 (by rw[HA.out.1];kernel_rfl) HA.out.2 ?_;intro w6 hb6 hf6;have HF6:Hid (Frm [] W0 w6):=Lib.hid ((HF5.out.alloc _).then hf6 (by intro q hq;simp at hq;subst hq;exact .inr HF5.out.size));clear hb6 hf6)
       | (go_at_call 14;go_must (refine(CK.out _).mono ?_;rintro e w7 ⟨rfl,hf7⟩;have HF7:=Lib.hid (HF6.out.trans hf7);clear hf7)))
      go_ret
      exact⟨rfl,HF0.out.trans HF7.out⟩
    | some x =>
      go_upto_region 10 with (first
       | (go_at_call 19;go_must (refine(CN.out 0 _).mono ?_;rintro e w3 ⟨rfl,hf'⟩;have HF23:=Lib.hid hf';clear hf'))
       | (go_at_call 21;go_must (refine(CD.out _ HF23.out).mono ?_;rintro e w4 ⟨u,rfl,hf',sb,rfl,-,hst⟩;have HS4:=Lib.hid hst;have HF24:=Lib.hid (HF23.out.trans hf');have HF4:Hid (Frm [] W0 w4):=Lib.hid (HF2.out.trans (HF23.out.trans hf'));clear hf' hst))
       | (refine wpList_load_whole rfl 25 _ rfl _ rfl _ 25 (HB.out _ HF4.out) _ Tryz.underlying25 rfl (by kernel_rfl) ?_)
       | (go_at_call 29;go_must (refine(CQ.out _ (HF0.out.trans HF4.out)).mono ?_;rintro e w5 ⟨u,rfl,hf',⟨z,yv,hz,rfl,hrs⟩ | ⟨hno,-⟩⟩;rotate_left;(· cases hno);cases hz;obtain⟨ba,bb,bw,bi,ca,cb,cw,rfl,-⟩:=id hrs.out;have HRS:=Lib.hid hrs;have HF45:=Lib.hid hf';have HF5:Hid (Frm [] W0 w5):=Lib.hid (HF4.out.trans hf');clear hf' hrs))
       | (refine wpList_store_row rfl 35 _ _ rfl _ _ _ _ rfl rfl (heap_alloc_new _ _) rfl (by kernel_rfl) (one3v ..) ?_;intro w6 hb6 hf6;have HB6:=Lib.hid hb6;have HF56:=Lib.hid (((Frm.refl [] w5).alloc _).then hf6 (by intro q hq;simp at hq;subst hq;exact .inr (Nat.le_refl _)));clear hb6 hf6))
      have HF6:Hid (Frm [] W0 w6):=Lib.hid (HF5.out.trans HF56.out)
      have HF26:Hid (Frm [] w2 w6):=Lib.hid (HF24.out.trans (HF45.out.trans HF56.out))
      have HF46:Hid (Frm [] w4 w6):=Lib.hid (HF45.out.trans HF56.out)
      have CG:=Lib.hid (fun V (hV:Frm [] w6 V)=>lAgrees_any s yb fb sb x _ _ _ V ((HSY.out.frm HF26.out).frm hV) ((HS4.out.frm HF46.out).frm hV) (HSV.out.frm (HF0.out.trans (HF6.out.trans hV))) ((HRS.out.frm HF56.out).frm hV))
      go_wp2_with (first
       | (go_at_call 19;go_must (refine(CN.out 0 _).mono ?_;rintro e w7 ⟨rfl,hf'⟩;have HF67:=Lib.hid hf';have hz1:=HB.out _ (HF6.out.trans hf');have hz2:=hf'.at HB6.out (by simp);have s0:=cell_of hz1 0;have s1:=cell_of hz1 1;have s2:=cell_of hz1 2;have s3:=cell_of hz1 3;have t0:=cell_of hz2 0;have t1:=cell_of hz2 1;have t2:=cell_of hz2 2;clear hf' hz1 hz2))
       | (go_at_call 28;go_must (refine(CG.out _ HF67.out).mono ?_;rintro e w8 ⟨rfl,hf'⟩;have HF8:=Lib.hid (HF6.out.trans (HF67.out.trans hf'));clear hf' s0 s1 s2 s3 t0 t1 t2))
       | (go_at_call 14;go_must (refine(CK.out _).mono ?_;rintro e w9 ⟨rfl,hf'⟩;have HF9:=Lib.hid (HF8.out.trans hf');clear hf')))
      go_ret
      exact⟨rfl,HF0.out.trans HF9.out⟩
end Go.Proofs.YtkphhjekfimmlaaGreat
