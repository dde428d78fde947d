/- Part of the proof. -/
import Derived.Test.YtohfkhjlnlahdaaGreatV23
import Derived.Test.YtohfkhjlnlahdaaGreatV38
import Derived.Test.YtohfkhjlnlahdaaGreatV32
set_option linter.all false
namespace Go.Proofs.YtohfkhjlnlahdaaGreat
open Go.RowKit Go.BigFrame
theorem num36_any (e:Int) (W:World):Calls Tryz.prog 17 #[.int .i64 e] W (Ret (.int .i64 e) (W=·)):=by
 go_enter Tryz.func17,Tryz.ntmps17
 go_wp2
 go_ret
 exact⟨rfl,rfl⟩
set_option maxHeartbeats 2000000 in
set_option maxRecDepth 100000 in
theorem moves36_any (v v':Value) (L:List Mv) (w:World) (h:Arr 4 MvAt w v L) (h':Arr 4 MvAt w v' L) (hL:L.length≤1000000):Calls Tryz.prog 33 #[v,v'] w (Ret (.bool true) (Frm [] w)):=by
 obtain⟨ao,cp,rfl⟩:=h.shape
 obtain⟨al,cl,rfl⟩:=h'.shape
 obtain⟨n,hn⟩:∃ n,L.length=n:=⟨_,rfl⟩
 have HN:=Lib.hid hn;have HA:=Lib.hid h;have HB:=Lib.hid h'
 rw[hn] at HA HB hL ⊢
 clear h h' hn
 go_enter Tryz.func33,Tryz.ntmps33
 go_upto_region 4 with fail
 go_loopw [5] (fun s5 wr=>∃ i:Nat,s5=.int .i64 i∧i≤n∧Frm [] w wr) (fun s5 _=>n - (intOf s5).toNat)
 case atStart=>exact⟨0,rfl,Nat.zero_le _,Frm.refl _ _⟩
 case round =>
  obtain⟨i,rfl,hi,hf⟩:=hrel
  have HF:=Lib.hid hf
  clear hf
  by_cases hlt:i < n
  ·have hlt':(i:Int) < (n:Int):=by omega
   obtain⟨m,hm⟩:∃ m,L[i]?=some m:=⟨_,List.getElem?_eq_getElem (by rw[HN.out];exact hlt)⟩
   obtain⟨g1,o1,e1,c1⟩:=HA.out.get hm
   obtain⟨g2,o2,e2,c2⟩:=HB.out.get hm
   subst e1 e2
   have HU:Hid (∀ V,Frm [] wr V→MvAt V g1 (o1 + i * 4) m∧MvAt V g2 (o2 + i * 4) m):=Lib.hid fun V hV=>⟨c1.frm (HF.out.trans hV),c2.frm (HF.out.trans hV)⟩
   clear c1 c2 hm HA HB
   go_upto_region 6 with fail
   refine wp_region_cq (by kernel_rfl) (by kernel_rfl) ?_
   repeat (first
    | go_big_quiet_skip
    | (refine wpQuiet_want (by rfl) (fun K hK=>?_)
       first
        | (refine quiet_move _ (by rfl) (hK _ ?_))
        | (refine quiet_assign _ (by rfl) (hK _ ?_))
        | (apply Exists.intro
           refine⟨fun w' hC=>?_,hK _ ?_⟩
           ·(unfold Oper.quietAt
             obtain⟨⟨x0,x1,x2,x3⟩,⟨y0,y1,y2,y3⟩⟩:=HU.out w' hC
             clear hC
             go_simp
             try exact⟨rfl,rfl⟩
             try rfl))
       clear hK K
       try simp only[nrm,Act.eval,nrq]))
   refine wpQuiet_nil ?_
   intro w2 hf2
   have HF2:=Lib.hid (HF.out.trans hf2)
   clear hf2
   go_wp2
   exact⟨⟨i + 1,congrArg (Value.int .i64) (by omega),hlt,HF2.out⟩,by simp[intOf];omega⟩
  ·have hge:¬ (i:Int) < (n:Int):=by omega
   go_wp2
   go_ret
   exact⟨rfl,HF.out⟩
set_option maxHeartbeats 2000000 in
set_option maxRecDepth 100000 in
theorem same36_any (v v':Value) (L:List Sp) (w:World) (h:Arr 3 SuAt w v L) (h':Arr 3 SuAt w v' L) (hL:L.length≤1000000):Calls Tryz.prog 23 #[v,v'] w (Ret (.bool true) (Frm [] w)):=by
 obtain⟨ao,cp,rfl⟩:=h.shape
 obtain⟨al,cl,rfl⟩:=h'.shape
 obtain⟨n,hn⟩:∃ n,L.length=n:=⟨_,rfl⟩
 have HN:=Lib.hid hn;have HA:=Lib.hid h;have HB:=Lib.hid h'
 rw[hn] at HA HB hL ⊢
 clear h h' hn
 go_enter Tryz.func23,Tryz.ntmps23
 go_upto_region 4 with fail
 go_loopw [5] (fun s5 wr=>∃ i:Nat,s5=.int .i64 i∧i≤n∧Frm [] w wr) (fun s5 _=>n - (intOf s5).toNat)
 case atStart=>exact⟨0,rfl,Nat.zero_le _,Frm.refl _ _⟩
 case round =>
  obtain⟨i,rfl,hi,hf⟩:=hrel
  have HF:=Lib.hid hf
  clear hf
  by_cases hlt:i < n
  ·have hlt':(i:Int) < (n:Int):=by omega
   obtain⟨m,hm⟩:∃ m,L[i]?=some m:=⟨_,List.getElem?_eq_getElem (by rw[HN.out];exact hlt)⟩
   obtain⟨g1,o1,e1,c1⟩:=HA.out.get hm
   obtain⟨g2,o2,e2,c2⟩:=HB.out.get hm
   subst e1 e2
   have HU:Hid (∀ V,Frm [] wr V→SuAt V g1 (o1 + i * 3) m∧SuAt V g2 (o2 + i * 3) m):=Lib.hid fun V hV=>⟨c1.frm (HF.out.trans hV),c2.frm (HF.out.trans hV)⟩
   clear c1 c2 hm HA HB
   go_upto_region 6 with fail
   refine wp_region_cq (by kernel_rfl) (by kernel_rfl) ?_
   repeat (first
    | go_big_quiet_skip
    | (refine wpQuiet_want (by rfl) (fun K hK=>?_)
       first
        | (refine quiet_move _ (by rfl) (hK _ ?_))
        | (refine quiet_assign _ (by rfl) (hK _ ?_))
        | (apply Exists.intro
           refine⟨fun w' hC=>?_,hK _ ?_⟩
           ·(unfold Oper.quietAt
             obtain⟨⟨x0,x1,x2⟩,⟨y0,y1,y2⟩⟩:=HU.out w' hC
             clear hC
             go_simp
             try exact⟨rfl,rfl⟩
             try rfl))
       clear hK K
       try simp only[nrm,Act.eval,nrq]))
   refine wpQuiet_nil ?_
   intro w2 hf2
   have HF2:=Lib.hid (HF.out.trans hf2)
   clear hf2
   go_wp2
   exact⟨⟨i + 1,congrArg (Value.int .i64) (by omega),hlt,HF2.out⟩,by simp[intOf];omega⟩
  ·have hge:¬ (i:Int) < (n:Int):=by omega
   go_wp2
   go_ret
   exact⟨rfl,HF.out⟩
set_option maxHeartbeats 4000000 in
set_option maxRecDepth 100000 in
theorem small36_any (v:Value) (s:SesD) (w:World) (h:SesV w v s):Calls Tryz.prog 22 #[v] w (Ret (.bool (!large6B s)) (Frm [] w)):=by
 obtain⟨rv,rfl,hr⟩:=h
 obtain⟨ao,cap,e,-⟩:=id hr
 subst e
 have HRL:=Lib.hid hr
 have HLG:Hid (large6B s=((decide (4 < s.roles.length) || decide (60 < s.name.size)) || s.roles.any rolBig6)):=Lib.hid rfl
 obtain⟨lg,hlg⟩:∃ b,large6B s=b:=⟨_,rfl⟩
 rw[hlg] at HLG ⊢
 obtain⟨n,hn⟩:∃ n,s.roles.length=n:=⟨_,rfl⟩
 rw[hn] at HLG HRL ⊢
 have HN:=Lib.hid hn
 obtain⟨W0,hW0⟩:∃ W0,w.alloc (.cells #[.string s.name,.slice ao n cap,.int .i64 s.cls,.int .i64 s.cap] 25)=W0:=⟨_,rfl⟩
 have hf0:Frm [] w W0:=by rw[← hW0];exact(Frm.refl [] w).alloc _
 have HF0:=Lib.hid hf0
 have HCL:Hid (∀ V,Frm [] W0 V→V.cell? ⟨w.heap.size,0,none⟩=some (.string s.name)∧V.cell? ⟨w.heap.size,1,none⟩=some (.slice ao n cap)):=Lib.hid fun V hV=>by
  have hb:W0.heap[w.heap.size]?=some (.cells #[.string s.name,.slice ao n cap,.int .i64 s.cls,.int .i64 s.cap] 25 (0,0)):=by rw[← hW0];exact heap_alloc_new _ _
  exact⟨hV.keep (cell_of hb 0),hV.keep (cell_of hb 1)⟩
 have HRL0:Hid (∀ V,Frm [] W0 V→Rls V (.slice ao n cap) s.roles):=Lib.hid fun V hV=>HRL.out.frm (hf0.trans hV)
 have HBX:Hid (W0.heap[w.heap.size]?=some (.cells #[.string s.name,.slice ao n cap,.int .i64 s.cls,.int .i64 s.cap] 25 (0,0))):=Lib.hid (by rw[← hW0];exact heap_alloc_new _ _)
 have HE:=Lib.hid hW0
 clear hr hlg hn hf0 hW0 HRL
 go_enter Tryz.func22,Tryz.ntmps22
 go_upto_region 1 with (first | (refine wpList_box_row rfl 25 _ rfl _ rfl ?_;rw[HE.out]))
 clear HE
 obtain⟨e0,e1⟩:=HCL.out W0 (Frm.refl _ _)
 by_cases h1:4 < n
 ·have HR:Hid (lg=true):=Lib.hid (by rw[HLG.out,decide_eq_true h1];rfl)
  have h1':decide (4 < (n:Int))=true:=decide_eq_true (by omega)
  clear HLG
  go_wp2
  go_ret
  exact⟨by rw[HR.out];rfl,HF0.out⟩
 by_cases h2:60 < s.name.size
 ·have HR:Hid (lg=true):=Lib.hid (by rw[HLG.out,decide_eq_true h2];simp)
  have h1':decide (4 < (n:Int))=false:=decide_eq_false (by omega)
  have h2':decide (60 < (s.name.size:Int))=true:=decide_eq_true (by omega)
  clear HLG
  go_wp2
  go_ret
  exact⟨by rw[HR.out];rfl,HF0.out⟩
 have HL2:Hid (lg=s.roles.any rolBig6):=Lib.hid (by rw[HLG.out,decide_eq_false h1,decide_eq_false h2];rfl)
 have h1':decide (4 < (n:Int))=false:=decide_eq_false (by omega)
 have h2':decide (60 < (s.name.size:Int))=false:=decide_eq_false (by omega)
 clear HLG
 go_upto_region 4 with fail
 clear e0 e1 h1' h2' h2
 go_loopw [3] (fun s4 wr=>∃ i:Nat,s4=.int .i64 i∧i≤n∧Frm [] W0 wr∧∀ j,j < i→rolBig6 (s.rol j)=false) (fun s4 _=>n - (intOf s4).toNat)
 case atStart=>exact⟨0,rfl,Nat.zero_le _,Frm.refl _ _,fun j hj=>by omega⟩
 case round =>
  obtain⟨i,rfl,hi,hf,hno⟩:=hrel
  have HF:=Lib.hid hf;have HNO:=Lib.hid hno
  clear hf hno
  obtain⟨w9,hw9⟩:∃ w9,w9=wr:=⟨_,rfl⟩
  subst hw9
  obtain⟨e0,e1⟩:=HCL.out w9 HF.out
  by_cases hlt:i < n
  ·have hlt':(i:Int) < (n:Int):=by omega
   have hin:i < s.roles.length:=by rw[HN.out];exact hlt
   obtain⟨b,o,sv,cv,tv,rfl,⟨d0,d1,d2,d3⟩,h3⟩:=Rls.at (HRL0.out w9 HF.out) hin
   obtain⟨aS,cs,es,-⟩:=id h3.sts
   obtain⟨ac,cc,ec,-⟩:=id h3.ctrs
   obtain⟨at',ct,et,htt⟩:=id h3.steps
   subst es;subst ec;subst et
   have HTT:=Lib.hid htt
   have HWY:=Lib.hid (rolBig6_ways (s.rol i))
   have HHIT:Hid (rolBig6 (s.rol i)=true→lg=true):=Lib.hid fun h=>by rw[HL2.out,List.any_eq_true];exact⟨_,List.mem_of_getElem? (SesD.rol_some hin),h⟩
   obtain⟨n1,hn1⟩:∃ q,(s.rol i).sts.length=q:=⟨_,rfl⟩
   obtain⟨n2,hn2⟩:∃ q,(s.rol i).ctrs.length=q:=⟨_,rfl⟩
   obtain⟨n3,hn3⟩:∃ q,(s.rol i).steps.length=q:=⟨_,rfl⟩
   have HN3:=Lib.hid hn3
   rw[hn1,hn2,hn3] at HWY;rw[hn1] at d1;rw[hn2] at d2;rw[hn3] at d3
   have hb0:=cell_lt d0
   obtain⟨X,hX⟩:∃ X,w9.alloc (.cells #[.string (s.rol i).name,.slice aS n1 cs,.slice ac n2 cc,.slice at' n3 ct] 87)=X:=⟨_,rfl⟩
   have HX9:Hid (Frm [] w9 X):=Lib.hid (by rw[← hX];exact(Frm.refl _ _).alloc _)
   have HT:Hid (∀ V,Frm [] X V→V.cell? ⟨w9.heap.size,0,none⟩=some (.string (s.rol i).name)∧V.cell? ⟨w9.heap.size,1,none⟩=some (.slice aS n1 cs)∧V.cell? ⟨w9.heap.size,2,none⟩=some (.slice ac n2 cc)∧V.cell? ⟨w9.heap.size,3,none⟩=some (.slice at' n3 ct)):=Lib.hid fun V hV=>by
    have hb:X.heap[w9.heap.size]?=some (.cells #[.string (s.rol i).name,.slice aS n1 cs,.slice ac n2 cc,.slice at' n3 ct] 87 (0,0)):=by rw[← hX];exact heap_alloc_new _ _
    exact⟨hV.keep (cell_of hb 0),hV.keep (cell_of hb 1),hV.keep (cell_of hb 2),hV.keep (cell_of hb 3)⟩
   have HE:=Lib.hid hX
   clear h3 htt hin hn1 hn2 hn3 hX
   go_upto_region 7 with fail
   rw[HE.out]
   clear HE d0 d1 d2 d3 hb0 e0 e1
   obtain⟨t0,t1,t2,t3⟩:=HT.out X (Frm.refl _ _)
   rcases HWY.out with ⟨k1,k9⟩ | ⟨k1,k2,k9⟩ | ⟨k1,k2,k3,k9⟩ | ⟨k1,k2,k3,k4,k9⟩ | ⟨k1,k2,k3,k4,k9⟩
   iterate 4
    focus
     have HR:Hid (lg=true):=Lib.hid (HHIT.out k9)
     try have m1:decide (4 < (n2:Int))=true:=decide_eq_true k1
     try have m1:decide (4 < (n2:Int))=false:=decide_eq_false k1
     try have m2:decide (6 < (n1:Int))=true:=decide_eq_true k2
     try have m2:decide (6 < (n1:Int))=false:=decide_eq_false k2
     try have m3:decide (12 < (n3:Int))=true:=decide_eq_true k3
     try have m3:decide (12 < (n3:Int))=false:=decide_eq_false k3
     try have m4:decide (60 < ((s.rol i).name.size:Int))=true:=decide_eq_true k4
     clear k9 HHIT HWY
     go_wp2
     go_ret
     exact⟨by rw[HR.out];rfl,HF0.out.trans (HF.out.trans HX9.out)⟩
   have m1:decide (4 < (n2:Int))=false:=decide_eq_false k1
   have m2:decide (6 < (n1:Int))=false:=decide_eq_false k2
   have m3:decide (12 < (n3:Int))=false:=decide_eq_false k3
   have m4:decide (60 < ((s.rol i).name.size:Int))=false:=decide_eq_false k4
   have HK9:=Lib.hid k9
   clear k9 HWY
   go_upto_region 10 with fail
   clear t0 t1 t2 t3 m1 m2 m3 m4
   go_loopw [5] (fun s6 wl=>∃ k:Nat,s6=.int .i64 k∧k≤n3∧Frm [] X wl∧∀ j t,j < k→(s.rol i).steps[j]?=some t→stepBig t=false) (fun s6 _=>n3 - (intOf s6).toNat)
   case atStart=>exact⟨0,rfl,Nat.zero_le _,Frm.refl _ _,fun j t hj=>by omega⟩
   case round =>
    obtain⟨k,rfl,hk,hf,hnk⟩:=hrel
    have HFK:=Lib.hid hf;have HNK:=Lib.hid hnk
    clear hf hnk
    obtain⟨w8,hw8⟩:∃ w8,w8=wr:=⟨_,rfl⟩
    subst hw8
    obtain⟨t0,t1,t2,t3⟩:=HT.out w8 HFK.out
    by_cases hlk:k < n3
    ·have hlk':(k:Int) < (n3:Int):=by omega
     obtain⟨x,hx⟩:∃ x,(s.rol i).steps[k]?=some x:=⟨_,List.getElem?_eq_getElem (by rw[HN3.out];exact hlk)⟩
     obtain⟨bt,ot,rfl,hat⟩:=HTT.out k x hx
     obtain⟨-,-,-,c3,c4,-⟩:=hat.frm (HX9.out.trans HFK.out)
     have HX:=Lib.hid hx
     have HBG:Hid (stepBig x=true→lg=true):=Lib.hid fun h=>HHIT.out (by rw[HK9.out,List.any_eq_true];exact⟨x,List.mem_of_getElem? HX.out,h⟩)
     clear hat hx
     by_cases b1:60 < x.msg.size
     ·have HR:Hid (lg=true):=Lib.hid (HBG.out (by simp[stepBig,b1]))
      have b1':decide (60 < (x.msg.size:Int))=true:=decide_eq_true (by omega)
      clear HBG HHIT HK9
      go_wp2
      go_ret
      exact⟨by rw[HR.out];rfl,HF0.out.trans (HF.out.trans (HX9.out.trans HFK.out))⟩
     have b1':decide (60 < (x.msg.size:Int))=false:=decide_eq_false (by omega)
     by_cases b2:60 < x.peer.size
     ·have HR:Hid (lg=true):=Lib.hid (HBG.out (by simp[stepBig,b2]))
      have b2':decide (60 < (x.peer.size:Int))=true:=decide_eq_true (by omega)
      clear HBG HHIT HK9
      go_wp2
      go_ret
      exact⟨by rw[HR.out];rfl,HF0.out.trans (HF.out.trans (HX9.out.trans HFK.out))⟩
     have b2':decide (60 < (x.peer.size:Int))=false:=decide_eq_false (by omega)
     have HNB:Hid (stepBig x=false):=Lib.hid (by simp[stepBig];omega)
     clear HBG HHIT HK9
     go_wp2
     refine⟨⟨k + 1,congrArg (Value.int .i64) (by omega),hlk,HFK.out,fun j t hj ht=>?_⟩,by simp[intOf];omega⟩
     by_cases e:j=k
     ·subst e;rw[HX.out] at ht;cases ht;exact HNB.out
     ·exact HNK.out j t (by omega) ht
    ·obtain rfl:n3=k:=by omega
     have hge:¬ (n3:Int) < (n3:Int):=by omega
     have HNB:Hid (rolBig6 (s.rol i)=false):=Lib.hid (by
      rw[HK9.out,List.any_eq_false]
      intro t ht
      obtain⟨j,hj⟩:=List.getElem?_of_mem ht
      rw[HNK.out j t (by have:=lt_of_some hj;rw[HN3.out] at this;exact this) hj]
      decide)
     clear HHIT HK9
     go_wp2
     refine⟨⟨i + 1,congrArg (Value.int .i64) (by omega),hlt,HF.out.trans (HX9.out.trans HFK.out),fun j hj=>?_⟩,by simp[intOf];omega⟩
     by_cases e:j=i
     ·subst e;exact HNB.out
     ·exact HNO.out j (by omega)
  ·obtain rfl:n=i:=by omega
   have hge:¬ (n:Int) < (n:Int):=by omega
   have HR:Hid (lg=false):=Lib.hid (by
    rw[HL2.out,List.any_eq_false]
    intro r hr
    obtain⟨j,hj⟩:=List.getElem?_of_mem hr
    have hjl:=lt_of_some hj
    have h1:=HNO.out j (by rw[HN.out] at hjl;exact hjl)
    rw[show s.rol j=r from getD_some hj] at h1
    rw[h1];decide)
   go_wp2
   go_ret
   exact⟨by rw[HR.out];rfl,HF0.out.trans HF.out⟩
end Go.Proofs.YtohfkhjlnlahdaaGreat
