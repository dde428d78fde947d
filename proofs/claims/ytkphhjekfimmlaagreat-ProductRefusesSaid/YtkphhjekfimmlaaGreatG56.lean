/- Part of the proof. -/
import Derived.Test.YtkphhjekfimmlaaGreatG51
import Derived.Test.YtkphhjekfimmlaaGreatG53
import Derived.Test.YtkphhjekfimmlaaGreatG49
import Derived.Maps.OwnSet
import Derived.Maps.OwnOps
import Derived.Laws.StructEq
import Derived.Laws.EntriesVeiled
import Derived.Laws.Concat
import Derived.ProofKit
import Derived.SizedLaws
import Derived.Deep.Slices
import Derived.Test.YtkphhjekfimmlaaGreatRows
import Derived.Lib.SmallJoins
import Derived.Test.YtkphhjekfimmlaaGreatG20
set_option linter.all false
namespace Go.Proofs.YtkphhjekfimmlaaGreat
open Go.RowKit Go.BigFrame
set_option maxHeartbeats 16000000 in
set_option maxRecDepth 100000 in
theorem refuses_any (v cv:Value) (s:SesD) (cs:List UInt8) (m:Mv) (w:World) (h:SesV w v s) (hw:WfS s) (hb:Byts w cv cs):Calls Tryz.prog 5 #[v,cv,mvV m] w (Ret (.bool true) (Frm [] w)):=by
 have HSV:=Lib.hid h;have HBY:=Lib.hid hb
 obtain⟨rv,rfl,hr⟩:=h
 obtain⟨ao,cap,rfl⟩:=hr.shape
 obtain⟨ca0,cc0,rfl,-⟩:=hb.len
 obtain⟨n,hn⟩:∃ n,s.roles.length=n:=⟨_,rfl⟩
 obtain⟨cl,hcl⟩:∃ n,cs.length=n:=⟨_,rfl⟩
 obtain⟨mk,mr,ms,mp⟩:=m
 unfold mvV
 dsimp only
 have HN:=Lib.hid hn;have HCL:=Lib.hid hcl
 rw[hn] at HSV ⊢
 rw[hcl] at HBY ⊢
 obtain⟨W0,hW0⟩:∃ W0,(w.alloc (.cells #[.string s.name,.slice ao n cap,.int .i64 s.cls,.int .i64 s.cap] 25)).alloc (.cells #[.int .i64 mk,.int .i64 mr,.int .i64 ms,.int .i64 mp] 45)=W0:=⟨_,rfl⟩
 have hf0:Frm [] w W0:=by rw[← hW0];exact((Frm.refl _ _).alloc _).alloc _
 have HF0:=Lib.hid hf0
 have HB0:Hid (∀ V,Frm [] W0 V→V.heap[w.heap.size]?=some (.cells #[.string s.name,.slice ao n cap,.int .i64 s.cls,.int .i64 s.cap] 25 (0,0))):=Lib.hid fun V hV=>by
  have hb:W0.heap[w.heap.size]?=some (.cells #[.string s.name,.slice ao n cap,.int .i64 s.cls,.int .i64 s.cap] 25 (0,0)):=by rw[← hW0];exact alloc_at (heap_alloc_new _ _)
  exact hV.at hb (by simp)
 have HB1:Hid (∀ V,Frm [] W0 V→V.heap[w.heap.size + 1]?=some (.cells #[.int .i64 mk,.int .i64 mr,.int .i64 ms,.int .i64 mp] 45 (0,0))):=Lib.hid fun V hV=>by
  have hb:W0.heap[w.heap.size + 1]?=some (.cells #[.int .i64 mk,.int .i64 mr,.int .i64 ms,.int .i64 mp] 45 (0,0)):=by rw[← hW0];exact alloc_top (by simp)
  exact hV.at hb (by simp)
 have CA:=Lib.hid (lAllowed_any _ s W0 (HSV.out.frm hf0) hw)
 have CK:Hid (∀ V,Calls Tryz.prog 14 #[] V (Ret (.bool true) (Frm [] V))):=Lib.hid known33_any
 have CN:=Lib.hid num33_f
 have HWF:=Lib.hid hw
 obtain⟨al,hal⟩:∃ b,allowedB s=b:=⟨_,rfl⟩
 rw[hal] at CA
 have HAL:=Lib.hid hal
 have HE:=Lib.hid hW0
 clear hr hw hn hcl hf0 hW0 hal hb
 go_enter Tryz.func5,Tryz.ntmps5
 go_upto_region 1 with fail
 rw[HE.out]
 clear HE
 cases al with
 | false =>
   go_wp2_with (first
    | (refine wpList_load_whole rfl 25 _ rfl _ rfl _ 25 (HB0.out _ (Frm.refl _ _)) _ Tryz.underlying25 rfl (by kernel_rfl) ?_)
    | (go_at_call 13;go_must (refine CA.out.mono ?_;rintro e w1 ⟨rfl,hf1⟩;have HF1:=Lib.hid hf1;clear hf1))
    | (go_at_call 14;go_must (refine(CK.out _).mono ?_;rintro e wk ⟨rfl,hf'⟩;have HFK:=Lib.hid (HF1.out.trans hf');clear hf')))
   go_ret
   exact⟨rfl,HF0.out.trans HFK.out⟩
 | true =>
   obtain⟨hsm,hck⟩:=allowed_parts HWF.out HAL.out
   have HSM:=Lib.hid hsm;have HCK:=Lib.hid hck;have HOK:=Lib.hid (ses_ok hck)
   clear hsm hck
   by_cases hks:40 < cl
   ·have hks':(40:Int) < (cl:Int):=by omega
    have hksb:decide ((40:Int) < (cl:Int))=true:=decide_eq_true hks'
    go_wp2_with (first
     | (refine wpList_load_whole rfl 25 _ rfl _ rfl _ 25 (HB0.out _ (Frm.refl _ _)) _ Tryz.underlying25 rfl (by kernel_rfl) ?_)
     | (go_at_call 13;go_must (refine CA.out.mono ?_;rintro e w1 ⟨rfl,hf1⟩;have HF1:=Lib.hid hf1;clear hf1))
     | (go_at_call 14;go_must (refine(CK.out _).mono ?_;rintro e wk ⟨rfl,hf'⟩;have HFK:=Lib.hid (HF1.out.trans hf');clear hf')))
    go_ret
    exact⟨rfl,HF0.out.trans HFK.out⟩
   ·have hks':¬ (40:Int) < (cl:Int):=by omega
    have hksb:decide ((40:Int) < (cl:Int))=false:=decide_eq_false hks'
    have HK4:Hid (cs.length≤40):=Lib.hid (by rw[HCL.out];omega)
    go_upto_region 4 with (first
     | (refine wpList_load_whole rfl 25 _ rfl _ rfl _ 25 (HB0.out _ (Frm.refl _ _)) _ Tryz.underlying25 rfl (by kernel_rfl) ?_)
     | (refine wpList_load_whole rfl 25 _ rfl _ rfl _ 25 (HB0.out _ HF1.out) _ Tryz.underlying25 rfl (by kernel_rfl) ?_)
     | (go_at_call 13;go_must (refine CA.out.mono ?_;rintro e w1 ⟨rfl,hf1⟩;have HF1:=Lib.hid hf1;clear hf1))
     | (go_at_call 15;go_must (refine(walked_any _ _ s cs _ (HSV.out.frm (HF0.out.trans HF1.out)) (HBY.out.frm0 (HF0.out.trans HF1.out)) HSM.out HCK.out HK4.out).mono ?_;rintro e w2 ⟨u,rfl,yb,fb,sb,rv',x,rfl,-,hsy,hst,hrs,hf2⟩;obtain⟨ba,bb,bw,bi,ca,cb,cw,rfl,-⟩:=id hrs.out;have HSY:=Lib.hid hsy;have HST:=Lib.hid hst;have HRS:=Lib.hid hrs;have HF2:Hid (Frm [] W0 w2):=Lib.hid (HF1.out.trans hf2);clear hsy hst hrs hf2;rw[HN.out]))
     | (refine wpList_store_row rfl 35 _ _ rfl _ _ _ _ rfl rfl (heap_alloc_new _ _) rfl (by kernel_rfl) (one3v ..) ?_;intro w3 hb3 hf3;have HB9:=Lib.hid hb3;have HF23:=Lib.hid (((Frm.refl [] w2).alloc _).then hf3 (by intro q hq;simp at hq;subst hq;exact .inr (Nat.le_refl _)));clear hb3 hf3))
    clear hks hks' hksb
    rw[HN.out] at HRS
    have HSY3:=Lib.hid (HSY.out.frm HF23.out);have HST3:=Lib.hid (HST.out.frm HF23.out);have HRS3:=Lib.hid (HRS.out.frm HF23.out)
    have HF3:Hid (Frm [] W0 w3):=Lib.hid (HF2.out.trans HF23.out)
    clear HSY HST HRS HF2
    by_cases hm:(⟨mk,mr,ms,mp⟩:Mv)∈movesP s x
    ·have HM:=Lib.hid hm
     have CD:=Lib.hid (fun V (hV:Frm [] w3 V)=>pDo_yes s yb fb sb x ⟨mk,mr,ms,mp⟩ V (HSY3.out.frm hV) (HST3.out.frm hV) HM.out)
     have CQ:=Lib.hid (fun V (hV:Frm [] w3 V)=>qDo_yes s _ _ x _ V ⟨mk,mr,ms,mp⟩ (HSV.out.frm (HF0.out.trans (HF3.out.trans hV))) (HRS3.out.frm hV) HOK.out HM.out HN.out)
     clear hm
     go_upto_region 10 with (first
      | (refine wpList_load_whole rfl 45 _ rfl _ rfl _ 45 (HB1.out _ HF3.out) _ Tryz.underlying45 rfl (by kernel_rfl) ?_)
      | (go_at_call 24;go_must (refine(CD.out _ (Frm.refl _ _)).mono ?_;rintro e w4 ⟨u,rfl,xb,rfl,hst,hf4⟩;have HX4:=Lib.hid hst;have HF34:=Lib.hid hf4;have hz:=HB1.out _ (HF3.out.trans hf4);have x0:=cell_of hz 0;have x1:=cell_of hz 1;have x2:=cell_of hz 2;have x3:=cell_of hz 3;have HV9:=Lib.hid (hf4.at HB9.out (by simp));clear hst hf4 hz))
      | (refine wpList_load_whole rfl 25 _ rfl _ rfl _ 25 (HB0.out _ (HF3.out.trans HF34.out)) _ Tryz.underlying25 rfl (by kernel_rfl) ?_)
      | (refine wpList_load_whole rfl 35 _ rfl _ rfl _ 35 HV9.out _ Tryz.underlying35 rfl (by kernel_rfl) ?_)
      | (go_at_call 27;go_must (refine(CQ.out _ HF34.out).mono ?_;rintro e w5 ⟨u,rfl,hf5,pa,pb,pc,qa,qb,qc,rfl,hr5⟩;have HR5:=Lib.hid hr5;have HF45:=Lib.hid hf5;clear hr5 hf5))
      | (refine wpList_store_row rfl 35 _ _ rfl _ _ _ _ rfl rfl (heap_alloc_new _ _) rfl (by kernel_rfl) (one3v ..) ?_;intro w6 hb6 hf6;have HB13:=Lib.hid hb6;have HF56:=Lib.hid (((Frm.refl [] w5).alloc _).then hf6 (by intro q hq;simp at hq;subst hq;exact .inr (Nat.le_refl _)));clear hb6 hf6))
     clear x0 x1 x2 x3
     have HF36:Hid (Frm [] w3 w6):=Lib.hid (HF34.out.trans (HF45.out.trans HF56.out))
     have HF6:Hid (Frm [] W0 w6):=Lib.hid (HF3.out.trans HF36.out)
     have CG:=Lib.hid (fun V (hV:Frm [] w6 V)=>lAgrees_any s yb fb xb _ _ _ _ V (HSY3.out.frm (HF36.out.trans hV)) (HX4.out.frm ((HF45.out.trans HF56.out).trans hV)) (HSV.out.frm (HF0.out.trans (HF6.out.trans hV))) ((HR5.out.frm HF56.out).frm hV))
     go_wp2_with (first
      | (go_at_call 19;go_must (refine(CN.out 0 _).mono ?_;rintro e w7 ⟨rfl,hf'⟩;have HF67:=Lib.hid hf';have hz1:=HB0.out _ (HF6.out.trans hf');have hz2:=hf'.at HB13.out (by simp);have s0:=cell_of hz1 0;have s1:=cell_of hz1 1;have s2:=cell_of hz1 2;have s3:=cell_of hz1 3;have t0:=cell_of hz2 0;have t1:=cell_of hz2 1;have t2:=cell_of hz2 2;clear hf' hz1 hz2))
      | (go_at_call 28;go_must (refine(CG.out _ HF67.out).mono ?_;rintro e w8 ⟨rfl,hf'⟩;have HF8:=Lib.hid (HF6.out.trans (HF67.out.trans hf'));clear hf' s0 s1 s2 s3 t0 t1 t2))
      | (go_at_call 14;go_must (refine(CK.out _).mono ?_;rintro e wk ⟨rfl,hf'⟩;have HFK:=Lib.hid (HF8.out.trans hf');clear hf')))
     go_ret
     exact⟨rfl,HF0.out.trans HFK.out⟩
    ·have HM:=Lib.hid hm
     have CD:=Lib.hid (pDo_no s yb fb sb x ⟨mk,mr,ms,mp⟩ w3 HSY3.out HST3.out HM.out)
     have CQ:=Lib.hid (fun V (hV:Frm [] w3 V)=>qDo_no s _ _ x _ V ⟨mk,mr,ms,mp⟩ (HSV.out.frm (HF0.out.trans (HF3.out.trans hV))) (HRS3.out.frm hV) HOK.out HM.out)
     clear hm
     go_wp2_with (first
      | (refine wpList_load_whole rfl 45 _ rfl _ rfl _ 45 (HB1.out _ HF3.out) _ Tryz.underlying45 rfl (by kernel_rfl) ?_)
      | (go_at_call 24;go_must (refine CD.out.mono ?_;rintro e w4 ⟨rfl,hf4⟩;have HF34:=Lib.hid hf4;have hz:=HB1.out _ (HF3.out.trans hf4);have x0:=cell_of hz 0;have x1:=cell_of hz 1;have x2:=cell_of hz 2;have x3:=cell_of hz 3;have HV9:=Lib.hid (hf4.at HB9.out (by simp));clear hf4 hz))
      | (refine wpList_load_whole rfl 25 _ rfl _ rfl _ 25 (HB0.out _ (HF3.out.trans HF34.out)) _ Tryz.underlying25 rfl (by kernel_rfl) ?_)
      | (refine wpList_load_whole rfl 35 _ rfl _ rfl _ 35 HV9.out _ Tryz.underlying35 rfl (by kernel_rfl) ?_)
      | (go_at_call 27;go_must (refine(CQ.out _ HF34.out).mono ?_;rintro e w5 ⟨u,rfl,hf5,A,rfl,h3,hal⟩;have HF5:Hid (Frm [] W0 w5):=Lib.hid (HF3.out.trans (HF34.out.trans hf5));have HA:=Lib.hid (And.intro h3 hal);clear hf5 h3 hal x0 x1 x2 x3))
      | (refine wpList_store_row rfl 35 _ _ rfl _ _ _ _ rfl rfl (heap_alloc_new _ _) HA.out.1 (by rw[HA.out.1];kernel_rfl) HA.out.2 ?_;intro w6 hb6 hf6;have HF6:Hid (Frm [] W0 w6):=Lib.hid ((HF5.out.alloc _).then hf6 (by intro q hq;simp at hq;subst hq;exact .inr HF5.out.size));clear hb6 hf6)
      | (go_at_call 14;go_must (refine(CK.out _).mono ?_;rintro e wk ⟨rfl,hf'⟩;have HFK:=Lib.hid (HF6.out.trans hf');clear hf')))
     go_ret
     exact⟨rfl,HF0.out.trans HFK.out⟩
end Go.Proofs.YtkphhjekfimmlaaGreat
namespace Go.Proofs.YtkphhjekfimmlaaGreat
open Go.ChangeShapes Go.WideShapes Go.ChangeAt Go.RowKit Go.Deep
theorem Tryz.cells3o:Tryz.prog.cellsOf 3=1:=by kernel_rfl
theorem Tryz.cellsMo:Tryz.prog.cellsOf 43=1:=by kernel_rfl
theorem Tryz.cellsMp:Tryz.prog.cellsOf 45=4:=by kernel_rfl
set_option maxRecDepth 10000 in
theorem open_move {H:Type} {enc:TypeId × Value→H} {W:World} {base:Nat} {v:Value} {d:DataW H} {p:List MemPlace} (hv:Value.okWide Tryz.prog W .any base 45 v) (h:DataW.Trod enc Tryz.prog W 0 (fun _=>true) true 45 v d p) :
  ∃ m:Mv,v=mvV m:=by
 obtain⟨cs,rfl,hsz⟩:=okWide_struct Tryz.underlying45 hv
 obtain⟨fuel,hf⟩:=h
 obtain⟨y0,y1,y2,y3,n,_,_,t0,t1,t2,t3⟩:=Go.Joins.trod_struct4 Tryz.underlying45 hf
 rw[Tryz.cellsMp] at hsz
 obtain⟨c0,c1,c2,c3,rfl⟩:=Go.Joins.array4 hsz
 simp only[Value.cells,Tryz.cells3o,Tryz.cellsMo,List.drop,List.take] at t0 t1 t2 t3
 obtain⟨i0,e0,_⟩:=DataW.trod_int Tryz.underlying43 t0
 obtain⟨i1,e1,_⟩:=DataW.trod_int Tryz.underlying3 t1
 obtain⟨i2,e2,_⟩:=DataW.trod_int Tryz.underlying3 t2
 obtain⟨i3,e3,_⟩:=DataW.trod_int Tryz.underlying3 t3
 simp only[List.cons.injEq,and_true] at e0 e1 e2 e3
 subst e0;subst e1;subst e2;subst e3
 exact⟨⟨i0,i1,i2,i3⟩,rfl⟩
end Go.Proofs.YtkphhjekfimmlaaGreat
