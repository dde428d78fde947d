/- Part of the proof. -/
import Derived.Test.YtkphhjekfimmlaaGreatH37
import Derived.Test.YtkphhjekfimmlaaGreatH49
import Derived.Test.YtkphhjekfimmlaaGreatH46
import Derived.Test.YtkphhjekfimmlaaGreatH48
import Derived.Test.YtkphhjekfimmlaaGreatH40
set_option linter.all false
namespace Go.Proofs.YtkphhjekfimmlaaGreat
open Go.RowKit Go.BigFrame Go.Maps
abbrev sm2:SesD:=smS 2
theorem k4_ck:ckSes sm2=0:=by decide +kernel
theorem k4_len:(searchP sm2 10).1.length=3∧(searchP sm2 10).2=true∧((searchP sm2 10).1.getD 2 (nd0 sm2)).lvl=2∧traceP (searchP sm2 10).1 2=[km0,km0]:=by decide +kernel
theorem k4_two:(searchP sm2 2).1.length=2∧(searchP sm2 2).2=false:=by decide +kernel
theorem k4_m0:km0∈movesP sm2 (firstP sm2)∧km0∈movesP sm2 (nextP sm2 (firstP sm2) km0)∧follow sm2 (firstP sm2) [km0,km0,km0]=none:=by decide +kernel
theorem k4_follow {w w':World} {yb:Nat} {v:Value} (h:FlwTo w sm2 yb [km0,km0,km0] v w'):v=.tuple #[.pointer none,.int .i64 2,.int .i64 9]∧Frm [] w w':=by
 obtain⟨hf,⟨z,zb,h1,-⟩ | ⟨i,x,m,h1,h2,h3,h4⟩⟩:=h
 ·rw[k4_m0.2.2] at h1;cases h1
 ·refine⟨?_,hf⟩
  match i,h1,h2,h4 with
  | 0,h1,h2,h4 =>
    have e:firstP sm2=x:=Option.some.inj h1
    have e2:km0=m:=Option.some.inj h2
    exact absurd k4_m0.1 (by rw[e,e2];exact h3)
  | 1,h1,h2,h4 =>
    have e0:follow sm2 (firstP sm2) [km0]=some (nextP sm2 (firstP sm2) km0):=by rw[follow,if_pos k4_m0.1,follow]
    have e:nextP sm2 (firstP sm2) km0=x:=Option.some.inj (e0.symm.trans h1)
    have e2:km0=m:=Option.some.inj h2
    exact absurd k4_m0.2.1 (by rw[e,e2];exact h3)
  | 2,h1,h2,h4=>exact h4
  | i + 3,h1,h2,h4=>simp at h2
theorem map_len {A:List (Nd × Nat)} {B:List Nd} (h:A.map Prod.fst=B):A.length=B.length:=by rw[← h,List.length_map]
theorem arr3 (W:World):Arr 4 MvAt (W.alloc (.cells #[.int .i64 1,.int .i64 0,.int .i64 0,.int .i64 0,.int .i64 1,.int .i64 0,.int .i64 0,.int .i64 0,.int .i64 1,.int .i64 0,.int .i64 0,.int .i64 0] 45)) (.slice (some ⟨W.heap.size,0,none⟩) 3 3) [km0,km0,km0]:=by
 have h:=cell_of (heap_alloc_new W (.cells #[.int .i64 1,.int .i64 0,.int .i64 0,.int .i64 0,.int .i64 1,.int .i64 0,.int .i64 0,.int .i64 0,.int .i64 1,.int .i64 0,.int .i64 0,.int .i64 0] 45))
 refine⟨_,3,rfl,fun i m hm=>⟨W.heap.size,0,rfl,?_⟩⟩
 match i,hm with
 | 0,hm=>cases hm;exact⟨h 0,h 1,h 2,h 3⟩
 | 1,hm=>cases hm;exact⟨h 4,h 5,h 6,h 7⟩
 | 2,hm=>cases hm;exact⟨h 8,h 9,h 10,h 11⟩
 | i + 3,hm=>simp at hm
set_option maxHeartbeats 8000000 in
set_option maxRecDepth 100000 in
theorem known34_any (w:World):Calls Tryz.prog 31 #[] w (Ret (.bool true) (Frm [] w)):=by
 have CS:=Lib.hid (sample34_any w)
 go_enter Tryz.func31,Tryz.ntmps31
 go_upto_region 4 with (first
  | (go_at_call 91;go_must (refine CS.out.mono ?_;rintro e w1 ⟨v,rfl,hs,hf⟩;have HF1:=Lib.hid hf;have CN:=Lib.hid (pNew_ok v sm2 w1 hs (smS_sm 2) k4_ck);clear hs hf CS))
  | (go_at_call 18;go_must (refine CN.out.mono ?_;rintro e w2 ⟨v,rfl,hn⟩;obtain⟨⟨yb,fb,rfl,-,hsy⟩,hf⟩:=hn;have HY:=Lib.hid (hsy w2 (Agree.refl _ _));have HF2:=Lib.hid (HF1.out.trans hf);clear hsy hf CN))
  | (go_at_call 34;go_must (refine(num34_any _ _).mono ?_;rintro e w' ⟨rfl,rfl⟩)))
 have C1:=Lib.hid (xSearch_any sm2 yb fb 10 w2 HY.out (by omega) (by omega))
 have C2:Hid (∀ V,Frm [] w2 V→Calls Tryz.prog 32 #[.pointer (some ⟨yb,0,none⟩),.int .i64 (2:Nat)] V (RetV (SchTo V sm2 yb 2))):=Lib.hid fun V hV=>xSearch_any sm2 yb fb 2 V (HY.out.frm hV) (by omega) (by omega)
 have C3:Hid (∀ V,Frm [] w2 V→Calls Tryz.prog 32 #[.pointer (some ⟨yb,0,none⟩),.int .i64 0] V (RetV fun v w'=>v=.tuple #[.pointer none,.int .i64 2]∧Frm [] V w')):=Lib.hid fun V hV=>xSearch_bad sm2 yb fb 0 V (HY.out.frm hV) (by omega)
 go_upto_region 7 with (first
  | (go_at_call 32;(refine C1.out.mono ?_;rintro e w3 ⟨v,rfl,pa,NA,rfl,hs,hN,hf⟩;have HA:=Lib.hid hs;have HNA:=Lib.hid hN;have HF3:=Lib.hid hf;clear hs hN hf C1))
  | (go_at_call 32;(refine(C2.out _ HF3.out).mono ?_;rintro e w4 ⟨v,rfl,pb,NB,rfl,hs,hN,hf⟩;have HA4:=Lib.hid (HA.out.frm hf);have HB:=Lib.hid hs;have HNB:=Lib.hid hN;have HF4:=Lib.hid (HF3.out.trans hf);clear hs hN hf C2))
  | (go_at_call 32;go_must (refine(C3.out _ HF4.out).mono ?_;rintro e w5 ⟨v,rfl,rfl,hf⟩;have HA5:=Lib.hid (HA4.out.frm hf);have HB5:=Lib.hid (HB.out.frm hf);have HF5:=Lib.hid (HF4.out.trans hf);clear hf C3)))
 have hla:=map_len HNA.out
 have hlb:=map_len HNB.out
 rw[k4_len.1] at hla
 rw[k4_two.1] at hlb
 rw[k4_len.2.1] at HA5
 rw[k4_two.2] at HB5
 obtain⟨d2,hd2⟩:∃ d,NA[2]?=some d:=⟨_,List.getElem?_eq_getElem (by omega)⟩
 have hlv:d2.1.lvl=2:=by
  have h1:(NA.map Prod.fst)[2]?=some d2.1:=by rw[List.getElem?_map,hd2];rfl
  rw[HNA.out] at h1
  have h2:=k4_len.2.2.1
  rw[List.getD_eq_getElem?_getD,h1] at h2
  exact h2
 have D1:Hid (∀ V,Frm [] w5 V→Calls Tryz.prog 35 #[.pointer (some ⟨pa,0,none⟩)] V (Ret (.int .i64 3) (Frm [] V))):=Lib.hid fun V hV=>by
  have:=xLen_any (HA5.out.frm hV)
  rwa [hla] at this
 have D2:Hid (∀ V,Frm [] w5 V→Calls Tryz.prog 36 #[.pointer (some ⟨pa,0,none⟩)] V (Ret (.bool true) (Frm [] V))):=Lib.hid fun V hV=>xWhole_any (HA5.out.frm hV)
 have D3:Hid (∀ V,Frm [] w5 V→Calls Tryz.prog 37 #[.pointer (some ⟨pa,0,none⟩)] V (Ret (.int .i64 2) (Frm [] V))):=Lib.hid fun V hV=>by
  refine xDepth_of (n:=3) (e:=0) (D1.out V hV) (fun X hX=>?_) (by omega)
  have:=xLevel_of (xNode_in (HA5.out.frm (hV.trans hX)) hd2 (by omega))
  rw[hlv] at this
  exact this
 have D4:Hid (∀ V,Frm [] w5 V→Calls Tryz.prog 35 #[.pointer (some ⟨pb,0,none⟩)] V (Ret (.int .i64 2) (Frm [] V))):=Lib.hid fun V hV=>by
  have:=xLen_any (HB5.out.frm hV)
  rwa [hlb] at this
 have D5:Hid (∀ V,Frm [] w5 V→Calls Tryz.prog 36 #[.pointer (some ⟨pb,0,none⟩)] V (Ret (.bool false) (Frm [] V))):=Lib.hid fun V hV=>xWhole_any (HB5.out.frm hV)
 have HR:=Lib.hid (Frm.refl [] w5)
 clear hd2 hlv
 go_upto_region 9 with (first
  | (go_at_call 34;go_must (refine(num34_any _ _).mono ?_;rintro e w' ⟨rfl,rfl⟩))
  | (go_at_call 35;(refine(D1.out _ HR.out).mono ?_;rintro e w6 ⟨rfl,hf⟩;have HR6:=Lib.hid (HR.out.trans hf);clear hf HR D1))
  | (go_at_call 36;(refine(D2.out _ HR6.out).mono ?_;rintro e w7 ⟨rfl,hf⟩;have HR7:=Lib.hid (HR6.out.trans hf);clear hf HR6 D2))
  | (go_at_call 37;go_must (refine(D3.out _ HR7.out).mono ?_;rintro e w8 ⟨rfl,hf⟩;have HR8:=Lib.hid (HR7.out.trans hf);clear hf HR7 D3))
  | (go_at_call 35;go_must (refine(D4.out _ HR8.out).mono ?_;rintro e w9 ⟨rfl,hf⟩;have HR9:=Lib.hid (HR8.out.trans hf);clear hf HR8 D4))
  | (go_at_call 36;go_must (refine(D5.out _ HR9.out).mono ?_;rintro e w10 ⟨rfl,hf⟩;have HR10:=Lib.hid (HR9.out.trans hf);clear hf HR9 D5)))
 have HA10:=Lib.hid (HA5.out.frm HR10.out)
 have HB10:=Lib.hid (HB5.out.frm HR10.out)
 obtain⟨nf,hfd⟩:=search_ok (lim:=10) (ses_ok k4_ck) (by omega)
 have hsi:SI sm2 10 nf (NA.map Prod.fst):=by rw[HNA.out];exact hfd.toSI
 have E1:=Lib.hid (xTrace_any (i:=2) HA10.out hsi (by omega) (by omega))
 rw[HNA.out,k4_len.2.2.2] at E1
 have E2:Hid (∀ V,Frm [] w10 V→Calls Tryz.prog 39 #[.pointer (some ⟨pb,0,none⟩),.int .i64 2] V (Ret (.tuple #[.pointer none,.int .i64 3]) (Frm [] V))):=Lib.hid fun V hV=>xState_of (xNode_out (HB10.out.frm hV) (.inr (by omega)))
 clear hfd hsi
 go_upto_region 12 with (first
  | (go_at_call 41;go_must (refine E1.out.mono ?_;rintro e w11 ⟨v,rfl,u,rfl,ha,hf⟩;have HT11:=Lib.hid ha;have HF11:=Lib.hid hf;clear ha hf E1))
  | (go_at_call 39;go_must (refine(E2.out _ HF11.out).mono ?_;rintro e w12 ⟨rfl,hf⟩;have HT12:=Lib.hid (HT11.out.frm fun _ _ _ h=>h.frm hf);have HF12:=Lib.hid (HF11.out.trans hf);clear hf E2)))
 obtain⟨W,hW⟩:∃ W,w12.alloc (.cells #[.int .i64 1,.int .i64 0,.int .i64 0,.int .i64 0] 45)=W:=⟨_,rfl⟩
 have hf12:Frm [] w12 W:=by rw[← hW];exact(Frm.refl _ _).alloc _
 have hm:W.heap[w12.heap.size]?=some (.cells #[.int .i64 1,.int .i64 0,.int .i64 0,.int .i64 0] 45 (0,0)):=by rw[← hW];exact heap_alloc_new _ _
 rw[hW]
 have HFW:Hid (Frm [] w2 W):=Lib.hid (HF5.out.trans (HR10.out.trans (HF12.out.trans hf12)))
 have HMW:=Lib.hid hm
 have HTW:=Lib.hid (HT12.out.frm fun _ _ _ h=>h.frm hf12)
 have CF:=Lib.hid (xFollow_any sm2 yb fb _ _ _ (HY.out.frm (HFW.out.alloc _)) (arr3 W) (by simp))
 have g0:=cell_of hm 0
 have g1:=cell_of hm 1
 have g2:=cell_of hm 2
 have g3:=cell_of hm 3
 clear hW hf12 hm HT12
 go_upto_region 13 with (first
  | (go_at_call 46;go_must (refine CF.out.mono ?_;rintro e w13 ⟨v,rfl,hv⟩;obtain⟨rfl,hf⟩:=k4_follow hv;have HF13:=Lib.hid hf;clear hv hf CF g0 g1 g2 g3)))
 have hf13:Frm [] W w13:=((Frm.refl _ _).alloc _).trans HF13.out
 obtain⟨ao,cap,hu,hat⟩:=HTW.out.frm fun _ _ _ h=>MvAt.frm h hf13
 have hu2:u=.slice ao 2 cap:=hu
 clear hu
 subst hu2
 obtain⟨b0,o0,e0,t0⟩:=hat 0 km0 rfl
 cases e0
 obtain⟨b1,o1,e1,t1⟩:=hat 1 km0 rfl
 cases e1
 obtain⟨p0,p1,p2,p3⟩:=t0
 obtain⟨q0,q1,q2,q3⟩:=t1
 simp only[km0,Nat.zero_mul,Nat.one_mul,Nat.add_zero] at p0 p1 p2 p3 q0 q1 q2 q3
 have g0:=cell_of (hf13.at HMW.out (by simp)) 0
 have g1:=cell_of (hf13.at HMW.out (by simp)) 1
 have g2:=cell_of (hf13.at HMW.out (by simp)) 2
 have g3:=cell_of (hf13.at HMW.out (by simp)) 3
 have hms:=fun V=>(move_same km0 V).2
 unfold km0 at hms
 clear hat hf13
 have hnn:∀ (e:Int) (V:World),Calls Tryz.prog 34 #[.int .i64 e] V (fun x w'=>x=.returned (.int .i64 e)∧w'=V):=fun e V=>(num34_any e V).mono fun _ _ h=>⟨h.1,h.2.symm⟩
 go_quiet ((go_at_call 34;exact Calls.quiet_of_same (hnn _ _)))
 go_wp2
 go_ret
 exact⟨rfl,HF2.out.trans (HFW.out.trans ((((Frm.refl _ _).alloc _).trans HF13.out).drewN _))⟩
end Go.Proofs.YtkphhjekfimmlaaGreat
