/- Part of the proof. -/
import Derived.Test.YtohfkhjlnlahdaaGreatW20
import Derived.Test.YtohfkhjlnlahdaaGreatW24
set_option linter.all false
namespace Go.Proofs.YtohfkhjlnlahdaaGreat
open Go.RowKit Go.BigFrame
structure SmR (r:RolD):Prop where
 s:r.sts.length≤100
 c:r.ctrs.length≤100
 t:r.steps.length≤100
 k:∀ x∈r.steps,wf64 x.kind
 m:∀ x∈r.steps,x.msg.size≤1000∧x.peer.size≤1000
theorem Tryz.call_rCheck1 (args:Array Value) (w:World):(callFunc 204 args).run Tryz.prog w=.ok (.enter 204 args) w:=by kernel_rfl
theorem Tryz.call_rCheck2 (args:Array Value) (w:World):(callFunc 206 args).run Tryz.prog w=.ok (.enter 206 args) w:=by kernel_rfl
theorem Tryz.call_rCheck3 (args:Array Value) (w:World):(callFunc 208 args).run Tryz.prog w=.ok (.enter 208 args) w:=by kernel_rfl
set_option maxRecDepth 100000 in
theorem rCheck3_any (rb i:Nat) (r:RolD) (sv cv tv:Value) (x:StpD) (w:World) (h:RBox w rb sv cv tv r) (hx:r.steps[i]?=some x) (hs:SmR r) (hlim:∀ c∈r.ctrs,1≤c.lim∧c.lim≤1000) :
  Calls Tryz.prog 208 #[.int .i64 i,.pointer (some ⟨rb,0,none⟩)] w (Ret (.bool (!stepB r i x)) (Frm [] w)):=by
 have C:=Lib.hid (rAllowed_any _ r i x w h.val hx (hs.k x (List.mem_of_getElem? hx)) ⟨hs.t,hs.s,hs.c⟩ hlim (hs.m x (List.mem_of_getElem? hx)))
 have HB:=Lib.hid h.hb
 obtain⟨b,hb⟩:∃ b,stepB r i x=b:=⟨_,rfl⟩
 rw[hb] at C ⊢
 clear h hb hx hs hlim
 go_enter Tryz.func208,Tryz.ntmps208
 go_wp2_with (first
  | (refine wpList_load_whole rfl 87 _ rfl _ rfl _ 87 HB.out _ Tryz.underlying87 rfl (by kernel_rfl) ?_)
  | (go_at_call 209;go_must (refine C.out.mono ?_;rintro e w1 ⟨rfl,hf1⟩;have HF1:=Lib.hid hf1;clear hf1)))
 go_ret
 exact⟨rfl,HF1.out⟩
set_option maxHeartbeats 2000000 in
set_option maxRecDepth 100000 in
theorem rCheck_any (v:Value) (r:RolD) (w:World) (h:RlV w v r) (hs:SmR r):Calls Tryz.prog 166 #[v] w (RetV fun u w'=>∃ i,u=.tuple #[.int .i64 i,.int .i64 (ckRole r)]∧Frm [] w w'):=by
 obtain⟨sv,cv,tv,rfl,h3⟩:=h
 obtain⟨aS,cs,es,-⟩:=id h3.sts
 obtain⟨ac,cc,ec,-⟩:=id h3.ctrs
 obtain⟨at',ct,et,-⟩:=id h3.steps
 subst es;subst ec;subst et
 obtain⟨W1,hW1⟩:∃ W1,w.alloc (.cells #[.string r.name,.slice aS r.sts.length cs,.slice ac r.ctrs.length cc,.slice at' r.steps.length ct] 87)=W1:=⟨_,rfl⟩
 have hf1:Frm [] w W1:=by rw[← hW1];exact(Frm.refl _ _).alloc _
 have HR:Hid (RBox W1 w.heap.size (.slice aS r.sts.length cs) (.slice ac r.ctrs.length cc) (.slice at' r.steps.length ct) r):=Lib.hid ⟨by rw[← hW1];exact heap_alloc_new _ _,h3.frm hf1⟩
 have HF:=Lib.hid hf1
 have HSM:=Lib.hid hs
 have CN:=Lib.hid (rName_any r.name W1)
 have C1:Hid (∀ V,Frm [] W1 V→Calls Tryz.prog 203 #[.int .i64 r.ctrs.length,.int .i64 0,.int .i64 4,.func (.func 204) #[] #[.pointer (some ⟨w.heap.size,0,none⟩)]] V (Ret (.int .i64 (fewC r)) (Frm [] V))):=Lib.hid fun V hV =>
  rFew_any 204 #[.pointer (some ⟨w.heap.size,0,none⟩)] r.ctrs.length 0 4 _ V (by have:=hs.c;omega) Tryz.call_rCheck1 fun U i hi _ hU=>rCheck1_any w.heap.size i r _ _ _ _ U (HR.out.frm (hV.trans hU)) (by have:=hs.c;omega) (some_getD hi)
 have C2:Hid (∀ V,Frm [] W1 V→Calls Tryz.prog 203 #[.int .i64 r.sts.length,.int .i64 1,.int .i64 24,.func (.func 206) #[] #[.pointer (some ⟨w.heap.size,0,none⟩)]] V (Ret (.int .i64 (fewS r)) (Frm [] V))):=Lib.hid fun V hV =>
  rFew_any 206 #[.pointer (some ⟨w.heap.size,0,none⟩)] r.sts.length 1 24 _ V (by have:=hs.s;omega) Tryz.call_rCheck2 fun U i hi _ hU=>rCheck2_any w.heap.size i r _ _ _ _ U (HR.out.frm (hV.trans hU)) (by have:=hs.s;omega) (some_getD hi)
 have C3:Hid (fewC r < 0→∀ V,Frm [] W1 V→Calls Tryz.prog 203 #[.int .i64 r.steps.length,.int .i64 0,.int .i64 80,.func (.func 208) #[] #[.pointer (some ⟨w.heap.size,0,none⟩)]] V (Ret (.int .i64 (fewT r)) (Frm [] V))):=Lib.hid fun hneg V hV =>
  rFew_any 208 #[.pointer (some ⟨w.heap.size,0,none⟩)] r.steps.length 0 80 _ V (by have:=hs.t;omega) Tryz.call_rCheck3 fun U i hi _ hU=>rCheck3_any w.heap.size i r _ _ _ _ U (HR.out.frm (hV.trans hU)) (some_getD hi) hs (fewC_neg hneg).2
 obtain⟨d0,d1,d2,d3⟩:=HR.out.cells
 have HC:Hid (∀ V,Frm [] W1 V→V.cell? ⟨w.heap.size,0,none⟩=some (.string r.name)∧V.cell? ⟨w.heap.size,1,none⟩=some (.slice aS r.sts.length cs)∧V.cell? ⟨w.heap.size,2,none⟩=some (.slice ac r.ctrs.length cc)∧V.cell? ⟨w.heap.size,3,none⟩=some (.slice at' r.steps.length ct)):=Lib.hid fun V hV=>(HR.out.frm hV).cells
 rw[ck_few]
 obtain⟨q0,hq0⟩:∃ q,nameB r.name=q:=⟨_,rfl⟩
 obtain⟨q1,hq1⟩:∃ q,fewC r=q:=⟨_,rfl⟩
 obtain⟨q2,hq2⟩:∃ q,fewS r=q:=⟨_,rfl⟩
 obtain⟨q3,hq3⟩:∃ q,fewT r=q:=⟨_,rfl⟩
 obtain⟨n1,hn1⟩:∃ n,r.sts.length=n:=⟨_,rfl⟩
 obtain⟨n2,hn2⟩:∃ n,r.ctrs.length=n:=⟨_,rfl⟩
 obtain⟨n3,hn3⟩:∃ n,r.steps.length=n:=⟨_,rfl⟩
 rw[hq0] at CN ⊢;rw[hq1] at C1 C3 ⊢;rw[hq2] at C2 ⊢;rw[hq3] at C3 ⊢
 rw[hn1] at C2 HC d1 hW1;rw[hn2] at C1 HC d2 hW1;rw[hn3] at C3 HC d3 hW1
 rw[hn1,hn2,hn3]
 have HW:=Lib.hid hW1
 clear h3 hf1 hs hq0 hq1 hq2 hq3 hn1 hn2 hn3 hW1 HR HSM d0 d1 d2 d3
 by_cases h0:q0=false
 ·subst h0
  rw[if_pos rfl]
  obtain⟨e0,e1,e2,e3⟩:=HC.out W1 (Frm.refl _ _)
  go_enter Tryz.func166,Tryz.ntmps166
  go_wp2_with (first
   | (refine wpList_box_row rfl 87 _ rfl _ rfl ?_;rw[HW.out])
   | (go_at_call 165;go_must (refine CN.out.mono ?_;rintro e w1 ⟨rfl,hf1⟩;have HF1:=Lib.hid hf1;clear hf1)))
  go_ret2
  exact⟨_,rfl,_,rfl,HF.out.trans HF1.out⟩
 ·obtain rfl:q0=true:=by simpa using h0
  rw[if_neg h0]
  clear h0
  by_cases h1:0≤q1
  ·rw[if_pos h1]
   obtain⟨e0,e1,e2,e3⟩:=HC.out W1 (Frm.refl _ _)
   go_enter Tryz.func166,Tryz.ntmps166
   go_wp2_with (first
    | (refine wpList_box_row rfl 87 _ rfl _ rfl ?_;rw[HW.out])
    | (go_at_call 165;go_must (refine CN.out.mono ?_;rintro e w1 ⟨rfl,hf1⟩;have HF1:=Lib.hid hf1;clear e0 e1 e2 e3;obtain⟨e0,e1,e2,e3⟩:=HC.out w1 hf1;clear hf1))
    | (go_at_call 203;go_must (refine(C1.out _ HF1.out).mono ?_;clear C1;rintro e w2 ⟨rfl,hf2⟩;have HF2:=Lib.hid (HF1.out.trans hf2);clear hf2)))
   go_ret2
   exact⟨_,rfl,_,rfl,HF.out.trans HF2.out⟩
  ·rw[if_neg h1]
   have C3:=Lib.hid (C3.out (by omega))
   by_cases h2:0≤q2
   ·rw[if_pos h2]
    obtain⟨e0,e1,e2,e3⟩:=HC.out W1 (Frm.refl _ _)
    go_enter Tryz.func166,Tryz.ntmps166
    go_wp2_with (first
     | (refine wpList_box_row rfl 87 _ rfl _ rfl ?_;rw[HW.out])
     | (go_at_call 165;go_must (refine CN.out.mono ?_;rintro e w1 ⟨rfl,hf1⟩;have HF1:=Lib.hid hf1;clear e0 e1 e2 e3;obtain⟨e0,e1,e2,e3⟩:=HC.out w1 hf1;clear hf1))
     | (go_at_call 203;go_must (first
      | (refine(C1.out _ HF1.out).mono ?_;clear C1;rintro e w2 ⟨rfl,hf2⟩;have HF2:=Lib.hid (HF1.out.trans hf2);clear e0 e1 e2 e3;obtain⟨e0,e1,e2,e3⟩:=HC.out w2 HF2.out;clear hf2)
      | (refine(C2.out _ HF2.out).mono ?_;clear C2;rintro e w3 ⟨rfl,hf3⟩;have HF3:=Lib.hid (HF2.out.trans hf3);clear hf3))))
    go_ret2
    exact⟨_,rfl,_,rfl,HF.out.trans HF3.out⟩
   ·rw[if_neg h2]
    by_cases h4:0≤q3
    ·rw[if_pos h4]
     obtain⟨e0,e1,e2,e3⟩:=HC.out W1 (Frm.refl _ _)
     go_enter Tryz.func166,Tryz.ntmps166
     go_wp2_with (first
      | (refine wpList_box_row rfl 87 _ rfl _ rfl ?_;rw[HW.out])
      | (go_at_call 165;go_must (refine CN.out.mono ?_;rintro e w1 ⟨rfl,hf1⟩;have HF1:=Lib.hid hf1;clear e0 e1 e2 e3;obtain⟨e0,e1,e2,e3⟩:=HC.out w1 hf1;clear hf1))
      | (go_at_call 203;go_must (first
       | (refine(C1.out _ HF1.out).mono ?_;clear C1;rintro e w2 ⟨rfl,hf2⟩;have HF2:=Lib.hid (HF1.out.trans hf2);clear e0 e1 e2 e3;obtain⟨e0,e1,e2,e3⟩:=HC.out w2 HF2.out;clear hf2)
       | (refine(C2.out _ HF2.out).mono ?_;clear C2;rintro e w3 ⟨rfl,hf3⟩;have HF3:=Lib.hid (HF2.out.trans hf3);clear e0 e1 e2 e3;obtain⟨e0,e1,e2,e3⟩:=HC.out w3 HF3.out;clear hf3)
       | (refine(C3.out _ HF3.out).mono ?_;clear C3;rintro e w4 ⟨rfl,hf4⟩;have HF4:=Lib.hid (HF3.out.trans hf4);clear hf4))))
     go_ret2
     exact⟨_,rfl,_,rfl,HF.out.trans HF4.out⟩
    ·rw[if_neg h4]
     obtain⟨e0,e1,e2,e3⟩:=HC.out W1 (Frm.refl _ _)
     go_enter Tryz.func166,Tryz.ntmps166
     go_wp2_with (first
      | (refine wpList_box_row rfl 87 _ rfl _ rfl ?_;rw[HW.out])
      | (go_at_call 165;go_must (refine CN.out.mono ?_;rintro e w1 ⟨rfl,hf1⟩;have HF1:=Lib.hid hf1;clear e0 e1 e2 e3;obtain⟨e0,e1,e2,e3⟩:=HC.out w1 hf1;clear hf1))
      | (go_at_call 203;go_must (first
       | (refine(C1.out _ HF1.out).mono ?_;clear C1;rintro e w2 ⟨rfl,hf2⟩;have HF2:=Lib.hid (HF1.out.trans hf2);clear e0 e1 e2 e3;obtain⟨e0,e1,e2,e3⟩:=HC.out w2 HF2.out;clear hf2)
       | (refine(C2.out _ HF2.out).mono ?_;clear C2;rintro e w3 ⟨rfl,hf3⟩;have HF3:=Lib.hid (HF2.out.trans hf3);clear e0 e1 e2 e3;obtain⟨e0,e1,e2,e3⟩:=HC.out w3 HF3.out;clear hf3)
       | (refine(C3.out _ HF3.out).mono ?_;clear C3;rintro e w4 ⟨rfl,hf4⟩;have HF4:=Lib.hid (HF3.out.trans hf4);clear hf4))))
     go_ret2
     exact⟨_,rfl,_,rfl,HF.out.trans HF4.out⟩
end Go.Proofs.YtohfkhjlnlahdaaGreat
