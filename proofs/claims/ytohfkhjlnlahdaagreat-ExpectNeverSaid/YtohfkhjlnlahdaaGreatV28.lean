/- Part of the proof. -/
import Derived.Test.YtohfkhjlnlahdaaGreatV27
import Derived.Test.YtohfkhjlnlahdaaGreatV19
import Derived.RangeFuncBound
import Derived.OwnWalkIn
import Derived.TacticsInMore
import Derived.LoopNIn
import Derived.LoopIn
import Derived.Sort.CutIn
import Derived.OrdersIn
set_option linter.all false
namespace Go.Proofs.YtohfkhjlnlahdaaGreat
open Go.RowKit Go.BigFrame
theorem via {T G:Prop} (main:T→G) (tail:T):G:=main tail
theorem tkI {F:Fence} {n:Nat} {P:Program} {ops:Array Oper} {Q:Exit→Act→World→Prop} {md:Region.Mode} (i:Nat) {oi:Oper} (v:Value) {fuel:Nat} {listed:Array Bool} {a:Act} {w:World}
  (h:wpAnyIn F n P md ops Q fuel (listed.setIfInBounds i true) (a.put oi.dst v) w) (hro:F.round=none:=by rfl) (hi:ops[i]?=some oi:=by rfl) (hb:(Region.noSelect ops && Region.free md ops listed i && (Region.ready md ops listed).contains i)=true:=by decide +kernel)
  (hQ:∀ c a w,Q (.panic c) (a.put oi.dst v) w→Q (.panic c) a w:=by exact fun _ _ _ h=>h) (hy:YieldsFenced P ops oi v a:=by (refine⟨Or.inl ⟨?_,?_⟩,?_⟩;(focus rfl);(focus (intro w';go_simp;done));(exact fun _=>rfl))):wpAnyIn F n P md ops Q (fuel + 1) listed a w:=by
 simp only[Bool.and_eq_true] at hb
 exact wpAnyIn_take hro hi hb.1.1 hb.1.2 hb.2 hQ hy h
theorem tkU {F:Fence} {n:Nat} {P:Program} {ops:Array Oper} {Q:Exit→Act→World→Prop} {md:Region.Mode} (i:Nat) {oi:Oper} {fuel:Nat} {listed:Array Bool} {a:Act} {w:World}
  (h:wpAnyIn F n P md ops Q fuel (listed.setIfInBounds i true) (a.put oi.dst undef) w) (hro:F.round=none:=by rfl) (hi:ops[i]?=some oi:=by rfl) (hb:(Region.noSelect ops && Region.free md ops listed i && (Region.ready md ops listed).contains i)=true:=by decide +kernel)
  (hQ:∀ c a w,Q (.panic c) (a.put oi.dst undef) w→Q (.panic c) a w:=by exact fun _ _ _ h=>h) (hy:YieldsFenced P ops oi undef a:=by (refine⟨Or.inr ⟨?_,?_⟩,?_⟩;(focus rfl);(focus rfl);(exact fun _=>rfl))):wpAnyIn F n P md ops Q (fuel + 1) listed a w:=by
 simp only[Bool.and_eq_true] at hb
 exact wpAnyIn_take hro hi hb.1.1 hb.1.2 hb.2 hQ hy h
theorem enter_cfn (cls:Int) (args:Array Value) (w:World):(callFunc (cfn cls) args).run Tryz.prog w=.ok (.enter (cfn cls) args) w:=by
 unfold cfn
 split <;> kernel_rfl
def ChR (bl bc cb:Nat) (cls:Int) (sv:Value) (L:List ByteArray) (W:World):Prop:=
 W.heap[bl]?=some (.cells #[sv] 75 (0,0))∧Strs W sv L∧W.heap[bc]?=some (.cells #[.pointer (some ⟨cb,0,none⟩)] 130 (0,0))∧W.cell? ⟨cb,0,none⟩=some (.int .i64 cls)
def encC (e:Nat × ByteArray):Array Value:=#[.int .i64 e.1,.string e.2]
set_option maxHeartbeats 8000000 in
set_option maxRecDepth 100000 in
theorem chc_iter (bl bc cb:Nat) (cls:Int) (sv:Value) (L:List ByteArray) (h1:1≤cls) (h3:cls≤3) (hL:L.length≤1000) :
  Iter Fence.wide 2 Tryz.prog 178 #[.pointer (some ⟨bl,0,none⟩),.pointer (some ⟨bc,0,none⟩)] encC (ChR bl bc cb cls sv L) (chlK cls L L.length):=by
 intro l J Jx sJ sJx hJR hY W h0
 have HJ:=Lib.hid sJ;have HJR:=Lib.hid hJR;have HY:=Lib.hid hY
 clear sJ sJx hJR hY
 have hr:=HJR.out _ _ h0
 have c0:=cell_of hr.1 0
 obtain⟨ao,cap,hsv,-,-⟩:=hr.2.1.shape
 subst hsv
 have H0:=Lib.hid h0
 clear hr h0
 refine callsIn_of_wp Tryz.func178 rfl trivial ?_ rfl
 simp only[Tryz.ntmps178,List.size_toArray,List.length_cons,List.length_nil,Nat.reduceAdd,Nat.reduceSub,Array.replicate_succ,Array.replicate_zero,List.push_toArray,List.append_toArray,List.nil_append,List.cons_append]
 gi_wp2
 gi_loopw [8] (fun s wr=>∃ k:Nat,s=.int .i64 k∧k≤L.length∧J (chlK cls L k) wr) (fun s _=>L.length - (intOf s).toNat)
 case atStart=>exact⟨0,rfl,Nat.zero_le _,H0.out⟩
 case round =>
  obtain⟨k,rfl,hk,hj⟩:=hrel
  have HJ1:=Lib.hid hj
  clear hj H0 c0
  by_cases hlt:k < L.length
  ·have hr:=HJR.out _ _ HJ1.out
   obtain⟨x,hx⟩:∃ x,L[k]?=some x:=⟨_,List.getElem?_eq_getElem hlt⟩
   obtain⟨ao',cap',hsv,-,hcs⟩:=hr.2.1.shape
   cases hsv
   obtain⟨g,rfl,cx⟩:=hcs k x hx
   have cl:wr.cell? ⟨bl,0,none⟩=some (.slice (some ⟨g,0,none⟩) L.length cap):=cell_of hr.1 0
   have cc:wr.cell? ⟨bc,0,none⟩=some (.pointer (some ⟨cb,0,none⟩)):=cell_of hr.2.2.1 0
   have ck:=hr.2.2.2
   have hlt':(k:Int) < L.length:=by omega
   have HST:=Lib.hid hr.2.1
   clear hr hcs
   gi_upto_region 3 with (fail)
   have HCH:Hid (Calls Tryz.prog (cfn cls) #[.slice (some ⟨g,0,none⟩) L.length cap,.int .i64 k] (wr.alloc tabO).drew (Ret (.bool (chc cls L k)) ((wr.alloc tabO).drew=·))):=
    Lib.hid (chc_any cls _ L k _ (HST.out.frm ((Frm.refl [] wr).alloc _).drew (by simp)) (by omega) hlt)
   have HW:Hid (Frm [] wr (wr.alloc tabO).drew):=Lib.hid ((Frm.refl [] wr).alloc _).drew
   obtain⟨q,hq,hq4,htab⟩:=tab_at h1 h3
   have hqi:(q:Int) < 4:=by omega
   rw[hq] at ck
   have x1:(wr.drew.alloc tabO).cell? ⟨wr.heap.size,q,none⟩=some (.func (.func (cfn cls)) #[] #[]):=(cell_of (heap_alloc_new wr.drew _) q).trans htab
   have y1:(wr.alloc tabO).cell? ⟨wr.heap.size,q,none⟩=some (.func (.func (cfn cls)) #[] #[]):=(cell_of (heap_alloc_new wr _) q).trans htab
   clear hq h1 h3 htab
   focus
    refine wpIn_region_any (by kernel_rfl) ?_
    change wpAnyIn _ _ _ _ _ _ _ _ _ (World.drew _)
    have cl2:(wr.alloc tabO).cell? ⟨bl,0,none⟩=some (.slice (some ⟨g,0,none⟩) L.length cap):=((Frm.refl [] wr).alloc _).keep cl
    have cc2:(wr.alloc tabO).cell? ⟨bc,0,none⟩=some (.pointer (some ⟨cb,0,none⟩)):=((Frm.refl [] wr).alloc _).keep cc
    have ck2:=((Frm.refl [] wr).alloc tabO).keep ck
    apply via
    case main =>
     intro tail
     repeat' (first
      | (refine tkI 8 (.int .i64 k) ?_;try simp only[nrm])
      | ((first | refine tkI 2 (.pointer (some ⟨cb,0,none⟩)) ?_ | refine tkI 3 (.pointer (some ⟨cb,0,none⟩)) ?_);try simp only[nrm])
      | (refine tkI 5 (.pointer (some ⟨wr.heap.size,q,none⟩)) ?_;try simp only[nrm])
      | ((first
          | refine wpAnyIn_ready (rs:=[0,1,7]) (by decide +kernel) (by simp) (AllReadyIn.cons rfl (fun K hK=>?_) (AllReadyIn.cons rfl (fun K hK=>?_) (AllReadyIn.cons rfl (fun K hK=>?_) AllReadyIn.nil)))
          | refine wpAnyIn_ready (rs:=[0,1]) (by decide +kernel) (by simp) (AllReadyIn.cons rfl (fun K hK=>?_) (AllReadyIn.cons rfl (fun K hK=>?_) AllReadyIn.nil))
          | refine wpAnyIn_ready (rs:=[0,4,7]) (by decide +kernel) (by simp) (AllReadyIn.cons rfl (fun K hK=>?_) (AllReadyIn.cons rfl (fun K hK=>?_) (AllReadyIn.cons rfl (fun K hK=>?_) AllReadyIn.nil)))
          | refine wpAnyIn_ready (rs:=[0,4]) (by decide +kernel) (by simp) (AllReadyIn.cons rfl (fun K hK=>?_) (AllReadyIn.cons rfl (fun K hK=>?_) AllReadyIn.nil))
          | refine wpAnyIn_ready (rs:=[0,7]) (by decide +kernel) (by simp) (AllReadyIn.cons rfl (fun K hK=>?_) (AllReadyIn.cons rfl (fun K hK=>?_) AllReadyIn.nil))
          | refine wpAnyIn_ready (rs:=[0]) (by decide +kernel) (by simp) (AllReadyIn.cons rfl (fun K hK=>?_) AllReadyIn.nil)
          | refine wpAnyIn_ready (rs:=[1,7]) (by decide +kernel) (by simp) (AllReadyIn.cons rfl (fun K hK=>?_) (AllReadyIn.cons rfl (fun K hK=>?_) AllReadyIn.nil))
          | refine wpAnyIn_ready (rs:=[1]) (by decide +kernel) (by simp) (AllReadyIn.cons rfl (fun K hK=>?_) AllReadyIn.nil)
          | refine wpAnyIn_ready (rs:=[4,7]) (by decide +kernel) (by simp) (AllReadyIn.cons rfl (fun K hK=>?_) (AllReadyIn.cons rfl (fun K hK=>?_) AllReadyIn.nil))
          | refine wpAnyIn_ready (rs:=[4]) (by decide +kernel) (by simp) (AllReadyIn.cons rfl (fun K hK=>?_) AllReadyIn.nil)
          | refine wpAnyIn_ready (rs:=[6,7]) (by decide +kernel) (by simp) (AllReadyIn.cons rfl (fun K hK=>?_) (AllReadyIn.cons rfl (fun K hK=>?_) AllReadyIn.nil))
          | refine wpAnyIn_ready (rs:=[6]) (by decide +kernel) (by simp) (AllReadyIn.cons rfl (fun K hK=>?_) AllReadyIn.nil)
          | refine wpAnyIn_ready (rs:=[7]) (by decide +kernel) (by simp) (AllReadyIn.cons rfl (fun K hK=>?_) AllReadyIn.nil)
        ) <;> (rw[if_pos (by rfl)];go_simp;(try (refine⟨trivial,(callsIn_wide.2 (choices_any _)).mono ?_⟩;rintro e w1 ⟨rfl,rfl⟩));refine hK _ _ ?_;clear hK K;try simp only[nrm]))
      | exact tail)
    case tail =>
     generalize (wr.alloc tabO).drew=wz at HCH HW ⊢
     clear x1 y1 cl2 cc2 ck2
     have he:=enter_cfn cls
     refine wpAnyIn_ready (rs:=[9]) (by kernel_rfl) (by simp) (AllReadyIn.cons rfl (fun K hK=>?_) AllReadyIn.nil)
     rw[if_pos (by rfl)]
     go_simp
     refine⟨trivial,(callsIn_wide.2 HCH.out).mono ?_⟩
     rintro e w1 ⟨rfl,rfl⟩
     refine hK _ _ ?_
     clear hK K HCH he
     try simp only[nrm]
     cases hc:chc cls L k with
     | false =>
       have HJ2:Hid (J (chlK cls L (k + 1)) wz):=by
        have h4:=HJ.out _ _ _ HJ1.out HW.out
        have h5:J (chlK cls L (k + 1)) wz:=by simpa[chlK,hc] using h4
        exact Lib.hid h5
       refine tkI 10 (.bool false) ?_
       try simp only[nrm]
       iterate 5
        first | refine tkU 11 ?_ | refine tkU 12 ?_ | refine tkU 13 ?_ | refine tkU 14 ?_ | refine tkU 15 ?_
        try simp only[nrm]
       refine wpAnyIn_ready (rs:=[16]) (by kernel_rfl) (by simp) (AllReadyIn.cons rfl (fun K hK=>?_) AllReadyIn.nil)
       rw[if_pos (by rfl)]
       go_simp
       refine hK _ _ ?_
       clear hK K
       try simp only[nrm]
       refine wpAnyIn_done (by kernel_rfl) ?_ _
       clear hc HY HJR HST cl cc ck cx hx
       gi_wp2
       go_roundw
       case rel=>exact⟨k + 1,by go_num,hlt,HJ2.out⟩
       case measure=>simp[intOf];omega
     | true =>
       obtain⟨rest,hsp⟩:=chl_split hlt hc
       have hJ':=HJ.out _ _ _ HJ1.out HW.out
       have hgd:L.getD k ByteArray.empty=x:=by rw[List.getD_eq_getElem?_getD,hx];rfl
       rw[hgd] at hsp
       obtain⟨fn,tmps,assign,body,hy,hR⟩:=HY.out _ _ _ _ hsp hJ'
       have HSP:=Lib.hid hsp
       have HC1:Hid (chlK cls L (k + 1)=chlK cls L k ++ [(k,x)]):=Lib.hid (by rw[chlK,hc,if_pos rfl,hgd])
       have HRR:=Lib.hid hR
       simp only[encC] at hy
       clear hJ' hR hsp
       refine tkI 10 (.bool true) ?_
       try simp only[nrm]
       refine tkI 11 (.func (.yield l) #[] #[]) ?_
       try simp only[nrm]
       refine tkI 12 (.int .i64 k) ?_
       try simp only[nrm]
       refine tkI 13 (.string x) ?_
       try simp only[nrm]
       refine wpAnyIn_ready (rs:=[14]) (by kernel_rfl) (by simp) (AllReadyIn.cons rfl (fun K hK=>?_) AllReadyIn.nil)
       rw[if_pos (by rfl)]
       go_simp
       refine HRR.out.mono ?_
       rintro e W3 (⟨rfl,hJ3⟩ | ⟨rfl,hJ3⟩)
       ·have HJ3:=Lib.hid hJ3
        clear hJ3 hy
        refine hK _ _ ?_
        clear hK K
        try simp only[nrm]
        refine tkI 15 (.bool false) ?_
        try simp only[nrm]
        refine tkI 16 (.bool false) ?_
        try simp only[nrm]
        refine wpAnyIn_done (by kernel_rfl) ?_ _
        gi_wp2
        go_roundw
        case rel=>exact⟨k + 1,by go_num,hlt,by rw[HC1.out];exact HJ3.out⟩
        case measure=>simp[intOf];omega
       ·have HJ3:=Lib.hid hJ3
        clear hJ3 hy
        refine hK _ _ ?_
        clear hK K
        try simp only[nrm]
        refine tkI 15 (.bool true) ?_
        try simp only[nrm]
        refine tkI 16 (.bool true) ?_
        try simp only[nrm]
        refine wpAnyIn_done (by kernel_rfl) ?_ _
        gi_wp2
        refine bodyPost_ret (results_none rfl _ _ _) rfl ?_
        first | exact⟨⟨_,rfl⟩,.inr ⟨_,_,_,HSP.out,HJ3.out⟩⟩ | exact⟨⟨_,rfl⟩,.inr ⟨_,_,⟨_,HSP.out⟩,HJ3.out⟩⟩
  ·obtain rfl:k=L.length:=by omega
   have hge:¬ (L.length:Int) < L.length:=by omega
   gi_wp2
   go_end0
   exact⟨⟨_,rfl⟩,.inl HJ1.out⟩
end Go.Proofs.YtohfkhjlnlahdaaGreat
