/- Part of the proof. -/
import Derived.Test.YtohfkhjlnlahdaaGreatV38
import Derived.Laws.OwnMore
import Derived.Test.YtohfkhjlnlahdaaGreatV21
import Derived.Lib.AppendStr
set_option linter.all false
namespace Go.Proofs.YtohfkhjlnlahdaaGreat
open Go.RowKit Go.BigFrame
set_option maxRecDepth 100000 in
theorem Tryz.call_xpNever1 (args:Array Value) (w:World):(callFunc 77 args).run Tryz.prog w=.ok (.enter 77 args) w:=by kernel_rfl
def recvB (m pn:ByteArray) (x:StpD):Bool:=decide (x.kind=2) && decide (x.msg=m) && decide (x.peer=pn)
set_option maxHeartbeats 2000000 in
set_option maxRecDepth 100000 in
theorem xpNever1_any (bt bo:Nat) (m pn:ByteArray) (x:StpD) (w:World) (h1:w.cell? ⟨bt,3,none⟩=some (.string m)) (h2:w.cell? ⟨bo,0,none⟩=some (.string pn)) :
  Calls Tryz.prog 77 #[stpV x,.pointer (some ⟨bt,0,none⟩),.pointer (some ⟨bo,0,none⟩)] w (Ret (.bool (recvB m pn x)) (Frm [] w)):=by
 obtain⟨W0,hW0⟩:∃ W0,w.alloc (.cells #[.string x.frm,.string x.to,.int .i64 x.kind,.string x.msg,.string x.peer,.string x.ctr,.int .i64 x.low,.int .i64 x.high,.int .i64 x.add] 137)=W0:=⟨_,rfl⟩
 have hf0:Frm [] w W0:=by rw[← hW0];exact(Frm.refl _ _).alloc _
 have hb:W0.heap[w.heap.size]?=some (.cells #[.string x.frm,.string x.to,.int .i64 x.kind,.string x.msg,.string x.peer,.string x.ctr,.int .i64 x.low,.int .i64 x.high,.int .i64 x.add] 137 (0,0)):=by rw[← hW0];exact heap_alloc_new _ _
 have x2:=cell_of hb 2
 have x3:=cell_of hb 3
 have x4:=cell_of hb 4
 have y1:=hf0.keep h1
 have y2:=hf0.keep h2
 have HF0:=Lib.hid hf0;have HE:=Lib.hid hW0
 clear h1 h2 hf0 hW0 hb
 go_enter Tryz.func77,Tryz.ntmps77
 go_upto_region 1 with (first | (refine wpList_box_row rfl 137 _ rfl _ rfl ?_;rw[HE.out]))
 clear HE
 by_cases hk:x.kind=2
 ·have b2:(x.kind == 2)=true:=by simpa using hk
  have HK:Hid (decide (x.kind=2)=true):=Lib.hid (decide_eq_true hk)
  clear hk
  by_cases hm:x.msg=m
  ·have b3:(x.msg.toList == m.toList)=true:=by rw[str_beq,decide_eq_true hm]
   have HM:Hid (decide (x.msg=m)=true):=Lib.hid (decide_eq_true hm)
   have b4:(x.peer.toList == pn.toList)=decide (x.peer=pn):=str_beq ..
   clear hm
   go_wp2
   go_ret
   refine⟨?_,HF0.out⟩
   unfold recvB
   rw[HK.out,HM.out]
   simp
  ·have b3:(x.msg.toList == m.toList)=false:=by rw[str_beq,decide_eq_false hm]
   have HM:Hid (decide (x.msg=m)=false):=Lib.hid (decide_eq_false hm)
   clear hm
   go_wp2
   go_ret
   refine⟨?_,HF0.out⟩
   unfold recvB
   rw[HK.out,HM.out]
   simp
 ·have b2:(x.kind == 2)=false:=by simpa using hk
  have HK:Hid (decide (x.kind=2)=false):=Lib.hid (decide_eq_false hk)
  clear hk
  go_wp2
  go_ret
  refine⟨?_,HF0.out⟩
  unfold recvB
  rw[HK.out]
  simp
section
variable {s:SesD}
theorem nevStep_len (i p k:Nat) (out:List Sp):(nevStep s i p k out).length≤out.length + 1:=by
 unfold nevStep addNew
 split
 ·split <;> simp
 ·omega
theorem nevSteps_len (i p:Nat) (out:List Sp):∀ n,(nevSteps s i p out n).length≤out.length + n
 | 0=>Nat.le_refl _
 | n + 1=>by
   rw[nevSteps]
   have h1:=nevStep_len (s:=s) i p n (nevSteps s i p out n)
   have h2:=nevSteps_len i p out n
   omega
theorem nevPeers_len (hb:∀ r∈s.roles,r.steps.length≤12) (i:Nat) (out:List Sp):∀ n,n≤s.roles.length→(nevPeers s i out n).length≤out.length + n * 12
 | 0,_=>by simp[nevPeers]
 | n + 1,h=>by
   rw[nevPeers]
   have h1:=nevSteps_len (s:=s) i n (nevPeers s i out n) (s.rol n).steps.length
   have h2:=nevPeers_len hb i out n (by omega)
   have h3:=hb (s.rol n) (List.mem_of_getElem? (SesD.rol_some (by omega)))
   omega
theorem nevRoles_len (hb:∀ r∈s.roles,r.steps.length≤12) (h4:s.roles.length≤4):∀ n,n≤s.roles.length→(nevRoles s n).length≤n * 48
 | 0,_=>by simp[nevRoles]
 | n + 1,h=>by
   rw[nevRoles]
   have h1:=nevPeers_len hb n (nevRoles s n) s.roles.length (Nat.le_refl _)
   have h2:=nevRoles_len hb h4 n (by omega)
   omega
end
structure NvI (w W1:World) (L:List Sp) (v:Value) (W:World):Prop where
 fr:Frm [] w W
 row:W.ownsRow w.heap.size 33 3 v L.length (suC L)
 kt:Kt [33] W1 W
set_option maxHeartbeats 8000000 in
set_option maxRecDepth 100000 in
theorem xpNever_any (s:SesD) (v:Value) (w:World) (hv:SesV w v s) (h4:s.roles.length≤4) (hb:∀ r∈s.roles,r.steps.length≤12) :
  Calls Tryz.prog 24 #[v] w (RetV fun u w'=>w'.ownsRow w.heap.size 33 3 u (neverP s).length (suC (neverP s))∧Frm [] w w'):=by
 obtain⟨rv,rfl,hr⟩:=hv
 obtain⟨ra,rc,rfl⟩:=hr.shape
 obtain⟨n,hn⟩:∃ n,s.roles.length=n:=⟨_,rfl⟩
 have HR:=Lib.hid hr;have HN:=Lib.hid hn;have H4:=Lib.hid h4;have HBs:=Lib.hid hb
 have HWI:Hid (∀ i:Nat,i < n→wrap64 ((i:Int) + 1)=((i + 1:Nat):Int)):=Lib.hid fun i hi=>by unfold wrap64;omega
 rw[hn] at HR ⊢
 obtain⟨W0,hW0⟩:∃ W0,w.alloc (.cells #[.string s.name,.slice ra n rc,.int .i64 s.cls,.int .i64 s.cap] 25)=W0:=⟨_,rfl⟩
 have HF0:Hid (Frm [] w W0):=Lib.hid (by rw[← hW0];exact(Frm.refl _ _).alloc _)
 have HB0:Hid (W0.heap[w.heap.size]?=some (.cells #[.string s.name,.slice ra n rc,.int .i64 s.cls,.int .i64 s.cap] 25 (0,0))):=Lib.hid (by rw[← hW0];exact heap_alloc_new _ _)
 have HE:=Lib.hid hW0
 clear hr hn h4 hb hW0
 go_enter Tryz.func24,Tryz.ntmps24
 go_upto_region 1 with (first | (refine wpList_box_row rfl 25 _ rfl _ rfl ?_;rw[HE.out]))
 clear HE
 have z1:=cell_of HB0.out 1
 go_upto_region 2 with fail
 clear z1
 go_loopw [14,2] (fun s14 s2 wr=>∃ i:Nat,s14=.int .i64 i∧i≤n∧NvI w W0 (nevRoles s i) s2 wr) (fun s14 _ _=>n - (intOf s14).toNat)
 case atStart=>exact⟨0,rfl,Nat.zero_le _,HF0.out,World.ownsRow_nil _ _ _ _,Kt.refl _ _⟩
 case round =>
  obtain⟨i,rfl,hi,hnv⟩:=hrel
  obtain⟨av,cv',hsh⟩:=own_shape hnv.row
  subst hsh
  have HI:=Lib.hid hnv
  clear hnv
  obtain⟨wa,hwa⟩:∃ wa,wa=wr:=⟨_,rfl⟩
  subst hwa
  by_cases hlt:i < n
  ·have hlt':(i:Int) < (n:Int):=by omega
   have hin:i < s.roles.length:=by rw[HN.out];exact hlt
   obtain⟨rb,ro,e1,sv,cv,tv,d0,d1,d2,d3,hr3⟩:=HR.out.get (SesD.rol_some hin)
   subst e1
   obtain⟨r,hrr⟩:∃ r,s.rol i=r:=⟨_,rfl⟩
   rw[hrr] at d0 hr3
   obtain⟨aS,cS,rfl⟩:=hr3.sts.shape
   obtain⟨aC,cC,rfl⟩:=hr3.ctrs.shape
   obtain⟨aT,cT,rfl⟩:=hr3.steps.shape
   have HR3:=Lib.hid hr3;have HIN:=Lib.hid hin;have HRR:=Lib.hid hrr
   have HRL:Hid (r.steps.length≤12):=Lib.hid (by rw[← hrr];exact HBs.out _ (List.mem_of_getElem? (SesD.rol_some hin)))
   replace d0:=HI.out.fr.keep d0;replace d1:=HI.out.fr.keep d1;replace d2:=HI.out.fr.keep d2;replace d3:=HI.out.fr.keep d3
   have hrl:=cell_lt d0
   clear hr3 hin hrr
   go_upto_region 4 with fail
   clear d0 d1 d2 d3 hrl
   obtain⟨V0,hV0⟩:∃ V0,wa.alloc (.cells #[.string r.name,.slice aS r.sts.length cS,.slice aC r.ctrs.length cC,.slice aT r.steps.length cT] 87)=V0:=⟨_,rfl⟩
   obtain⟨b4,hb4⟩:∃ b,wa.heap.size=b:=⟨_,rfl⟩
   have F0:Hid (Frm [] wa V0):=Lib.hid (by rw[← hV0];exact(Frm.refl [] wa).alloc _)
   have Q4:Hid (V0.heap[b4]?=some (.cells #[.string r.name,.slice aS r.sts.length cS,.slice aC r.ctrs.length cC,.slice aT r.steps.length cT] 87 (0,0))):=Lib.hid (by rw[← hV0,← hb4];exact heap_alloc_new _ _)
   rw[hV0,hb4]
   clear hV0 hb4
   have HI0:Hid (NvI w V0 (nevPeers s i (nevRoles s i) 0) (.slice av (nevRoles s i).length cv') V0):=Lib.hid ⟨HI.out.fr.trans F0.out,F0.out.owns HI.out.row (by simp),Kt.refl _ _⟩
   have KT0:Hid (Kt [33] W0 V0):=Lib.hid (HI.out.kt.trans (Kt.frm F0.out))
   have z1:=cell_of (KT0.out.cells HB0.out (by decide)) 1
   go_upto_region 5 with fail
   clear z1
   go_loopw [22,2] (fun s22 s2 wr=>∃ p:Nat,s22=.int .i64 p∧p≤n∧NvI w V0 (nevPeers s i (nevRoles s i) p) s2 wr) (fun s22 _ _=>n - (intOf s22).toNat)
   case atStart=>exact⟨0,rfl,Nat.zero_le _,HI0.out⟩
   case round =>
    obtain⟨p,rfl,hp,hnv⟩:=hrel
    obtain⟨av1,cv1,hsh⟩:=own_shape hnv.row
    subst hsh
    have HJ:=Lib.hid hnv
    clear hnv
    obtain⟨wb,hwb⟩:∃ wb,wb=wr:=⟨_,rfl⟩
    subst hwb
    by_cases hltp:p < n
    ·have hltp':(p:Int) < (n:Int):=by omega
     have hpn:p < s.roles.length:=by rw[HN.out];exact hltp
     obtain⟨rb',ro',e1',sv',cv2,tv',d0,d1,d2,d3,hr3'⟩:=HR.out.get (SesD.rol_some hpn)
     cases e1'
     obtain⟨o,hoo⟩:∃ o,s.rol p=o:=⟨_,rfl⟩
     rw[hoo] at d0 hr3'
     obtain⟨aS',cS',rfl⟩:=hr3'.sts.shape
     obtain⟨aC',cC',rfl⟩:=hr3'.ctrs.shape
     obtain⟨aT',cT',rfl⟩:=hr3'.steps.shape
     have HR3':=Lib.hid hr3';have HPN:=Lib.hid hpn;have HOO:=Lib.hid hoo
     have HOL:Hid (o.steps.length≤12):=Lib.hid (by rw[← hoo];exact HBs.out _ (List.mem_of_getElem? (SesD.rol_some hpn)))
     replace d0:=HJ.out.fr.keep d0;replace d1:=HJ.out.fr.keep d1;replace d2:=HJ.out.fr.keep d2;replace d3:=HJ.out.fr.keep d3
     have hrl:=cell_lt d0
     clear hr3' hpn hoo
     go_upto_region 7 with fail
     clear d0 d1 d2 d3 hrl
     obtain⟨V1,hV1⟩:∃ V1,wb.alloc (.cells #[.string o.name,.slice aS' o.sts.length cS',.slice aC' o.ctrs.length cC',.slice aT' o.steps.length cT'] 87)=V1:=⟨_,rfl⟩
     obtain⟨b6,hb6⟩:∃ b,wb.heap.size=b:=⟨_,rfl⟩
     have F1:Hid (Frm [] wb V1):=Lib.hid (by rw[← hV1];exact(Frm.refl [] wb).alloc _)
     have Q6:Hid (V1.heap[b6]?=some (.cells #[.string o.name,.slice aS' o.sts.length cS',.slice aC' o.ctrs.length cC',.slice aT' o.steps.length cT'] 87 (0,0))):=Lib.hid (by rw[← hV1,← hb6];exact heap_alloc_new _ _)
     rw[hV1,hb6]
     clear hV1 hb6
     have HJ1:Hid (NvI w V1 (nevSteps s i p (nevPeers s i (nevRoles s i) p) 0) (.slice av1 (nevPeers s i (nevRoles s i) p).length cv1) V1):=Lib.hid ⟨HJ.out.fr.trans F1.out,F1.out.owns HJ.out.row (by simp),Kt.refl _ _⟩
     have KT1:Hid (Kt [33] V0 V1):=Lib.hid (HJ.out.kt.trans (Kt.frm F1.out))
     have Q41:=Lib.hid (KT1.out.cells Q4.out (by decide))
     have z3:=cell_of Q6.out 3
     obtain⟨m,hm⟩:∃ m,o.steps.length=m:=⟨_,rfl⟩
     have HMm:=Lib.hid hm
     rw[hm] at Q6 z3 ⊢
     have HWK:Hid (∀ k:Nat,k < m→wrap64 ((k:Int) + 1)=((k + 1:Nat):Int)):=Lib.hid fun k hk=>by
      have:=HOL.out
      unfold wrap64;omega
     clear hm
     go_upto_region 8 with fail
     clear z3
     go_loopw [30,2] (fun s30 s2 wr=>∃ k:Nat,s30=.int .i64 k∧k≤m∧NvI w V1 (nevSteps s i p (nevPeers s i (nevRoles s i) p) k) s2 wr) (fun s30 _ _=>m - (intOf s30).toNat)
     case atStart=>exact⟨0,rfl,Nat.zero_le _,HJ1.out⟩
     case round =>
      obtain⟨k,rfl,hk,hnv⟩:=hrel
      obtain⟨av2,cv3,hsh⟩:=own_shape hnv.row
      subst hsh
      have HK:=Lib.hid hnv
      clear hnv
      obtain⟨wc,hwc⟩:∃ wc,wc=wr:=⟨_,rfl⟩
      subst hwc
      by_cases hltk:k < m
      ·have hltk':(k:Int) < (m:Int):=by omega
       obtain⟨t,ht⟩:∃ t,o.steps[k]?=some t:=⟨_,List.getElem?_eq_getElem (by rw[HMm.out];exact hltk)⟩
       have htk:(s.rol p).stp k=t:=by rw[HOO.out];exact getD_some ht
       obtain⟨tb,tq,etb,k0,k1,k2,k3,k4,k5,k6,k7,k8⟩:=HR3'.out.steps.get ht
       subst etb
       replace k0:=HK.out.fr.keep k0;replace k1:=HK.out.fr.keep k1;replace k2:=HK.out.fr.keep k2;replace k3:=HK.out.fr.keep k3;replace k4:=HK.out.fr.keep k4
       replace k5:=HK.out.fr.keep k5;replace k6:=HK.out.fr.keep k6;replace k7:=HK.out.fr.keep k7;replace k8:=HK.out.fr.keep k8
       have hkl:=cell_lt k0
       have HTK:=Lib.hid htk
       obtain⟨L,hL⟩:∃ L,nevSteps s i p (nevPeers s i (nevRoles s i) p) k=L:=⟨_,rfl⟩
       have HLL:Hid (L.length≤300):=Lib.hid (by
        rw[← hL]
        have a1:=nevSteps_len (s:=s) i p (nevPeers s i (nevRoles s i) p) k
        have a2:=nevPeers_len HBs.out i (nevRoles s i) p (by have:=HPN.out;omega)
        have a3:=nevRoles_len HBs.out H4.out i (by have:=HIN.out;omega)
        have:=H4.out;have:=HN.out;have:=HOL.out;have:=HMm.out
        omega)
       have HSN:Hid (nevSteps s i p (nevPeers s i (nevRoles s i) p) (k + 1)=if nevT s i p t then addNew L ⟨i,p,t.msg⟩ else L):=Lib.hid (by
        rw[nevSteps,hL]
        unfold nevStep
        rw[htk])
       rw[hL] at HK ⊢
       clear ht htk hL
       go_upto_region 11 with fail
       clear k0 k1 k2 k3 k4 k5 k6 k7 k8 hkl
       obtain⟨V3,hV3⟩:∃ V,(wc.alloc (.cells #[.string t.frm,.string t.to,.int .i64 t.kind,.string t.msg,.string t.peer,.string t.ctr,.int .i64 t.low,.int .i64 t.high,.int .i64 t.add] 137)).alloc (.cells #[.int .i64 i,.int .i64 p,.string t.msg] 33)=V:=⟨_,rfl⟩
       obtain⟨b9,hb9⟩:∃ b,wc.heap.size + 1=b:=⟨_,rfl⟩
       obtain⟨b8,hb8⟩:∃ b,wc.heap.size=b:=⟨_,rfl⟩
       have F3:Hid (Frm [] wc V3):=Lib.hid (by rw[← hV3];exact((Frm.refl [] wc).alloc _).alloc _)
       have Q8:Hid (V3.heap[b8]?=some (.cells #[.string t.frm,.string t.to,.int .i64 t.kind,.string t.msg,.string t.peer,.string t.ctr,.int .i64 t.low,.int .i64 t.high,.int .i64 t.add] 137 (0,0))):=Lib.hid (by rw[← hV3,← hb8];exact alloc_at (heap_alloc_new _ _))
       have Q9:Hid (V3.heap[b9]?=some (.cells #[.int .i64 i,.int .i64 p,.string t.msg] 33 (0,0))):=Lib.hid (by rw[← hV3,← hb9];exact alloc_top (by simp))
       rw[hV3,hb9,hb8]
       clear hV3 hb8 hb9
       have HK3:Hid (NvI w V1 L (.slice av2 L.length cv3) V3):=Lib.hid ⟨HK.out.fr.trans F3.out,F3.out.owns HK.out.row (by simp),HK.out.kt.trans (Kt.frm F3.out)⟩
       have Q43:=Lib.hid (HK3.out.kt.cells Q41.out (by decide))
       have Q63:=Lib.hid (HK3.out.kt.cells Q6.out (by decide))
       have CF:=Lib.hid (cfStep_any 77 #[.pointer (some ⟨b8,0,none⟩),.pointer (some ⟨b6,0,none⟩)] (recvB t.msg o.name) (.slice aT r.steps.length cT) r.steps V3 (HR3.out.steps.frm fun _ _ _ h=>h.frm HK3.out.fr) (by have:=HRL.out;omega) Tryz.call_xpNever1
        (fun W x hW _=>xpNever1_any b8 b6 t.msg o.name x W (hW.keep (cell_of Q8.out 3)) (hW.keep (cell_of Q63.out 0))))
       have HHD:Hid (r.steps.any (recvB t.msg o.name)=heardB s i p t.msg):=Lib.hid (by rw[← HRR.out,← HOO.out];rfl)
       obtain⟨hd,hhd⟩:∃ b,r.steps.any (recvB t.msg o.name)=b:=⟨_,rfl⟩
       rw[hhd] at CF HHD
       have z4:=cell_of Q43.out 3
       clear hhd
       go_upto_region 12 with (first
        | (go_at_call 76;go_must (refine CF.out.mono ?_;rintro e w4 ⟨rfl,hf4⟩;have HF4:=Lib.hid hf4;clear hf4 CF z4)))
       have HK4:Hid (NvI w V1 L (.slice av2 L.length cv3) w4):=Lib.hid ⟨HK3.out.fr.trans HF4.out,HF4.out.owns HK3.out.row (by simp),HK3.out.kt.trans (Kt.frm HF4.out)⟩
       have Q84:=Lib.hid (HF4.out.at Q8.out (by simp))
       have Q94:=Lib.hid (HF4.out.at Q9.out (by simp))
       have Q44:=Lib.hid (HF4.out.at Q43.out (by simp))
       have e2:=cell_of Q84.out 2
       have e4:=cell_of Q84.out 4
       have r0:=cell_of Q44.out 0
       have u0:=cell_of Q94.out 0
       have u1:=cell_of Q94.out 1
       have u2:=cell_of Q94.out 2
       have HNT:Hid (nevT s i p t=(decide (i≠p) && decide (t.kind=1) && decide (t.peer=r.name) && !hd)):=Lib.hid (by unfold nevT;rw[← HHD.out,HRR.out])
       by_cases hip:i=p
       ·have q1:((i:Int) != (p:Int))=false:=by rw[hip];simp
        have HS2:Hid (nevSteps s i p (nevPeers s i (nevRoles s i) p) (k + 1)=L):=Lib.hid (by rw[HSN.out,HNT.out,decide_eq_false (by simp[hip])];rfl)
        clear hip
        go_wp2
        exact⟨⟨k + 1,congrArg (Value.int .i64) (HWK.out k hltk),hltk,by rw[HS2.out];exact HK4.out⟩,meas_up hltk (HWK.out k hltk)⟩
       ·have q1:((i:Int) != (p:Int))=true:=by simp;omega
        have HIP:Hid (decide (i≠p)=true):=Lib.hid (decide_eq_true hip)
        by_cases hk1:t.kind=1
        ·have q2:(t.kind == 1)=true:=by simpa using hk1
         have HK1:Hid (decide (t.kind=1)=true):=Lib.hid (decide_eq_true hk1)
         by_cases hpe:t.peer=r.name
         ·have q3:(t.peer.toList == r.name.toList)=true:=by rw[str_beq,decide_eq_true hpe]
          have HPE:Hid (decide (t.peer=r.name)=true):=Lib.hid (decide_eq_true hpe)
          clear hip hk1 hpe
          cases hd with
          | true =>
            have HS2:Hid (nevSteps s i p (nevPeers s i (nevRoles s i) p) (k + 1)=L):=Lib.hid (by rw[HSN.out,HNT.out];simp)
            go_wp2
            exact⟨⟨k + 1,congrArg (Value.int .i64) (HWK.out k hltk),hltk,by rw[HS2.out];exact HK4.out⟩,meas_up hltk (HWK.out k hltk)⟩
          | false =>
            have HS1:Hid (nevSteps s i p (nevPeers s i (nevRoles s i) p) (k + 1)=addNew L ⟨i,p,t.msg⟩):=Lib.hid (by rw[HSN.out,HNT.out,HIP.out,HK1.out,HPE.out];rfl)
            have CC:=Lib.hid (coSp_any (.slice av2 L.length cv3) L ⟨i,p,t.msg⟩ w4 (su_arr HK4.out.row) (by have:=HLL.out;omega))
            by_cases hmem:(⟨i,p,t.msg⟩:Sp)∈L
            ·have HS2:Hid (nevSteps s i p (nevPeers s i (nevRoles s i) p) (k + 1)=L):=Lib.hid (by rw[HS1.out];unfold addNew;rw[if_pos hmem])
             rw[decide_eq_true hmem] at CC
             clear hmem
             go_wp2_with (first
              | (go_at_call 78;go_must (refine CC.out.mono ?_;rintro e w5 ⟨rfl,hf5⟩;have HF5:=Lib.hid hf5;clear hf5 CC)))
             exact⟨⟨k + 1,congrArg (Value.int .i64) (HWK.out k hltk),hltk,by rw[HS2.out];exact⟨HK4.out.fr.trans HF5.out,HF5.out.owns HK4.out.row (by simp),HK4.out.kt.trans (Kt.frm HF5.out)⟩⟩,meas_up hltk (HWK.out k hltk)⟩
            ·have HS2:Hid (nevSteps s i p (nevPeers s i (nevRoles s i) p) (k + 1)=L ++ [⟨i,p,t.msg⟩]):=Lib.hid (by rw[HS1.out];unfold addNew;rw[if_neg hmem])
             rw[decide_eq_false hmem] at CC
             clear hmem
             go_upto_region 13 with (first
              | (go_at_call 78;go_must (refine CC.out.mono ?_;rintro e w5 ⟨rfl,hf5⟩;have HF5:=Lib.hid hf5;clear hf5 CC)))
             clear e2 e4 r0 u0 u1 u2
             have HK5:Hid (NvI w V1 L (.slice av2 L.length cv3) w5):=Lib.hid ⟨HK4.out.fr.trans HF5.out,HF5.out.owns HK4.out.row (by simp),HK4.out.kt.trans (Kt.frm HF5.out)⟩
             have hu:=HF5.out.at Q94.out (by simp)
             have u0:=cell_of hu 0
             have u1:=cell_of hu 1
             have u2:=cell_of hu 2
             obtain⟨i0,hi0,hz0,hz1,hz2⟩:=info_parts Tryz.infoSu
             have hsz:w.heap.size≤(w5.alloc (.cells #[.int .i64 i,.int .i64 p,.string t.msg] 33)).heap.size:=by have:=HK5.out.fr.size;simp;omega
             have hLL:=HLL.out
             clear hu
             go_wp2_with (at_builtin;refine wpList_append_own_at _ rfl _ _ 45 rfl w.heap.size 33 i0 (.agg #[.int .i64 0,.int .i64 0,.string { data:=#[] }]) 3 32 Tryz.underlying45 hi0 hz0 hz1 hz2 rfl (by decide) (.slice av2 L.length cv3) L.length (suC L) rfl (HK5.out.row.alloc _) ⟨w5.heap.size,0,none⟩ 1 1 (suC1 ⟨i,p,t.msg⟩) rfl rfl (new_row _ _ _) (by simp[suC1,Value.oneCell']) (by unfold maxLen;omega) (by omega) hsz ?_;intro v' w6 hown' hgrow _ _;obtain⟨ao',cp',rfl⟩:=own_shape hown';have HG:=Lib.hid hgrow;have HO:=Lib.hid hown';clear hgrow hown')
             have hge:∀ q,(Value.slice av2 L.length cv3).ownBlock=some q→w.heap.size≤q:=fun q hq=>ownBlock_ge HK5.out.row hq
             have HK6:Hid (NvI w V1 (L ++ [⟨i,p,t.msg⟩]) (.slice ao' (L.length + 1) cp') w6):=Lib.hid ⟨(HK5.out.fr.alloc _).grown HG.out (fun q hq=>.inr (hge q hq)),by rw[suC_append,List.length_append];exact HO.out,(HK5.out.kt.alloc _).grown HG.out (fun q hq=>by
              obtain⟨c,hc⟩:=ownBlock_type HK5.out.row hq
              exact⟨c,33,(0,0),alloc_at hc,by simp⟩)⟩
             exact⟨⟨k + 1,congrArg (Value.int .i64) (HWK.out k hltk),hltk,by rw[HS2.out];exact HK6.out⟩,meas_up hltk (HWK.out k hltk)⟩
         ·have q3:(t.peer.toList == r.name.toList)=false:=by rw[str_beq,decide_eq_false hpe]
          have HS2:Hid (nevSteps s i p (nevPeers s i (nevRoles s i) p) (k + 1)=L):=Lib.hid (by rw[HSN.out,HNT.out,decide_eq_false hpe];simp)
          clear hip hk1 hpe
          go_wp2
          exact⟨⟨k + 1,congrArg (Value.int .i64) (HWK.out k hltk),hltk,by rw[HS2.out];exact HK4.out⟩,meas_up hltk (HWK.out k hltk)⟩
        ·have q2:(t.kind == 1)=false:=by simpa using hk1
         have HS2:Hid (nevSteps s i p (nevPeers s i (nevRoles s i) p) (k + 1)=L):=Lib.hid (by rw[HSN.out,HNT.out,decide_eq_false hk1];simp)
         clear hip hk1
         go_wp2
         exact⟨⟨k + 1,congrArg (Value.int .i64) (HWK.out k hltk),hltk,by rw[HS2.out];exact HK4.out⟩,meas_up hltk (HWK.out k hltk)⟩
      ·obtain rfl:m=k:=by omega
       have hge:¬ (m:Int) < (m:Int):=by omega
       have HP1:Hid (NvI w V0 (nevPeers s i (nevRoles s i) (p + 1)) (.slice av2 (nevSteps s i p (nevPeers s i (nevRoles s i) p) m).length cv3) wc):=Lib.hid (by
        rw[nevPeers,HOO.out,HMm.out]
        exact⟨HK.out.fr,HK.out.row,KT1.out.trans HK.out.kt⟩)
       go_wp2
       exact⟨⟨p + 1,congrArg (Value.int .i64) (HWI.out p hltp),hltp,HP1.out⟩,meas_up hltp (HWI.out p hltp)⟩
    ·obtain rfl:n=p:=by omega
     have hge:¬ (n:Int) < (n:Int):=by omega
     have HR1:Hid (NvI w W0 (nevRoles s (i + 1)) (.slice av1 (nevPeers s i (nevRoles s i) n).length cv1) wb):=Lib.hid (by
      rw[nevRoles,HN.out]
      exact⟨HJ.out.fr,HJ.out.row,KT0.out.trans HJ.out.kt⟩)
     go_wp2
     exact⟨⟨i + 1,congrArg (Value.int .i64) (HWI.out i hlt),hlt,HR1.out⟩,meas_up hlt (HWI.out i hlt)⟩
  ·obtain rfl:n=i:=by omega
   have hge:¬ (n:Int) < (n:Int):=by omega
   go_wp2
   go_ret
   exact⟨_,rfl,by have:=HI.out.row;unfold neverP;rw[HN.out];exact this,HI.out.fr⟩
end Go.Proofs.YtohfkhjlnlahdaaGreat
namespace Go.Proofs.YtohfkhjlnlahdaaGreat
open Go.RowKit Go.BigFrame
set_option maxHeartbeats 2000000 in
set_option maxRecDepth 100000 in
theorem zRecv_any (nm pn m:ByteArray) (sv cv tv:Value) (L:List StpD) (w:World) (h:Arr 9 SpAt w tv L) (hl:L.length≤1000) (hsv:∃ a n c,sv=.slice a n c) (hcv:∃ a n c,cv=.slice a n c) :
  Calls Tryz.prog 79 #[.agg #[.string nm,sv,cv,tv],.string pn,.string m] w (Ret (.bool (L.any (recvB m pn))) (Frm [] w)):=by
 obtain⟨aT,cT,rfl⟩:=h.shape
 obtain⟨aS,nS,cS,rfl⟩:=hsv
 obtain⟨aC,nC,cC,rfl⟩:=hcv
 obtain⟨n,hn⟩:∃ n,L.length=n:=⟨_,rfl⟩
 have HN:=Lib.hid hn
 rw[hn] at h hl ⊢
 have HL:=Lib.hid h
 obtain⟨W0,hW0⟩:∃ W0,w.alloc (.cells #[.string nm,.slice aS nS cS,.slice aC nC cC,.slice aT n cT] 87)=W0:=⟨_,rfl⟩
 have HF0:Hid (Frm [] w W0):=Lib.hid (by rw[← hW0];exact(Frm.refl _ _).alloc _)
 have HB0:Hid (W0.heap[w.heap.size]?=some (.cells #[.string nm,.slice aS nS cS,.slice aC nC cC,.slice aT n cT] 87 (0,0))):=Lib.hid (by rw[← hW0];exact heap_alloc_new _ _)
 have HE:=Lib.hid hW0
 have HH:Hid (1000≥n):=Lib.hid hl
 clear h hn hW0 hl
 go_enter Tryz.func79,Tryz.ntmps79
 go_upto_region 1 with (first | (refine wpList_box_row rfl 87 _ rfl _ rfl ?_;rw[HE.out]))
 clear HE
 go_upto_region 2 with fail
 go_loopw [7] (fun s7 wr=>∃ i:Nat,s7=.int .i64 i∧i≤n∧Frm [] W0 wr∧(L.take i).any (recvB m pn)=false) (fun s7 _=>n - (intOf s7).toNat)
 case atStart=>exact⟨0,rfl,Nat.zero_le _,Frm.refl _ _,rfl⟩
 case round =>
  obtain⟨i,rfl,hi,hf,hno⟩:=hrel
  have HF:=Lib.hid hf;have HNO:=Lib.hid hno
  clear hf hno
  obtain⟨wa,hwa⟩:∃ wa,wa=wr:=⟨_,rfl⟩
  subst hwa
  have x3:=cell_of (HF.out.at HB0.out (by simp)) 3
  have hw1:i < n→wrap64 ((i:Int) + 1)=((i + 1:Nat):Int):=fun hi=>by have:=HH.out;unfold wrap64;omega
  have HW1:=Lib.hid hw1
  clear hw1
  by_cases hlt:i < n
  ·have hlt':(i:Int) < (n:Int):=by omega
   obtain⟨t,ht⟩:∃ t,L[i]?=some t:=⟨_,List.getElem?_eq_getElem (by rw[HN.out];exact hlt)⟩
   have HT:=Lib.hid (take_snoc' ht).1
   have HM:=Lib.hid (List.mem_of_getElem? ht)
   obtain⟨tb,tq,etb,k0,k1,k2,k3,k4,k5,k6,k7,k8⟩:=HL.out.get ht
   subst etb
   replace k2:=(HF0.out.trans HF.out).keep k2;replace k3:=(HF0.out.trans HF.out).keep k3;replace k4:=(HF0.out.trans HF.out).keep k4
   clear ht k0 k1 k5 k6 k7 k8
   have HTA:Hid ((L.take (i + 1)).any (recvB m pn)=recvB m pn t):=Lib.hid (by rw[HT.out,List.any_append,HNO.out];simp)
   by_cases hk:t.kind=2
   ·have b2:(t.kind == 2)=true:=by simpa using hk
    have HK:Hid (decide (t.kind=2)=true):=Lib.hid (decide_eq_true hk)
    clear hk
    by_cases hm:t.msg=m
    ·have b3:(t.msg.toList == m.toList)=true:=by rw[str_beq,decide_eq_true hm]
     have HMs:Hid (decide (t.msg=m)=true):=Lib.hid (decide_eq_true hm)
     clear hm
     by_cases hp:t.peer=pn
     ·have b4:(t.peer.toList == pn.toList)=true:=by rw[str_beq,decide_eq_true hp]
      have HP:Hid (decide (t.peer=pn)=true):=Lib.hid (decide_eq_true hp)
      clear hp
      go_wp2
      go_ret
      refine⟨?_,HF0.out.trans HF.out⟩
      have:L.any (recvB m pn)=true:=List.any_eq_true.2 ⟨t,HM.out,by unfold recvB;rw[HK.out,HMs.out,HP.out];rfl⟩
      rw[this]
      rfl
     ·have b4:(t.peer.toList == pn.toList)=false:=by rw[str_beq,decide_eq_false hp]
      have HP:Hid (decide (t.peer=pn)=false):=Lib.hid (decide_eq_false hp)
      clear hp
      go_wp2
      exact⟨⟨i + 1,congrArg (Value.int .i64) (HW1.out hlt),hlt,HF.out,by rw[HTA.out];unfold recvB;rw[HP.out];simp⟩,meas_up hlt (HW1.out hlt)⟩
    ·have b3:(t.msg.toList == m.toList)=false:=by rw[str_beq,decide_eq_false hm]
     have HMs:Hid (decide (t.msg=m)=false):=Lib.hid (decide_eq_false hm)
     clear hm
     go_wp2
     exact⟨⟨i + 1,congrArg (Value.int .i64) (HW1.out hlt),hlt,HF.out,by rw[HTA.out];unfold recvB;rw[HMs.out];simp⟩,meas_up hlt (HW1.out hlt)⟩
   ·have b2:(t.kind == 2)=false:=by simpa using hk
    have HK:Hid (decide (t.kind=2)=false):=Lib.hid (decide_eq_false hk)
    clear hk
    go_wp2
    exact⟨⟨i + 1,congrArg (Value.int .i64) (HW1.out hlt),hlt,HF.out,by rw[HTA.out];unfold recvB;rw[HK.out];rfl⟩,meas_up hlt (HW1.out hlt)⟩
  ·obtain rfl:n=i:=by omega
   have hge:¬ (n:Int) < (n:Int):=by omega
   go_wp2
   go_ret
   refine⟨?_,HF0.out.trans HF.out⟩
   have:=HNO.out
   rw[List.take_of_length_le (by rw[HN.out];exact Nat.le_refl _)] at this
   rw[this]
   rfl
end Go.Proofs.YtohfkhjlnlahdaaGreat
namespace Go.Proofs.YtohfkhjlnlahdaaGreat
open Go.RowKit Go.BigFrame
theorem Tryz.undRSp:Tryz.prog.underlying 90=some (.struct (Tryz.prog.fieldsOf 90)):=by kernel_rfl
theorem Tryz.infoRSu:(Tryz.prog.info? 90).map (fun i=>(i.zero,i.size,i.bytes))=some (some (.agg #[.int .i64 0,.int .i64 0,.string { data:=#[] }]),3,32):=by kernel_rfl
set_option maxHeartbeats 1000000 in
set_option maxRecDepth 100000 in
theorem eql_rsp (a b:Sp) (w:World):(binOp .eql 90 (.agg (encU a)) (.agg (encU b))).run Tryz.prog w=.ok (.bool (decide (a=b))) w:=by
 have h:(Op.equalIn (9999 + 1) 90 (.agg (encU a)) (.agg (encU b))).run Tryz.prog w=.ok (decide (a=b)) w:=by
  rw[run_equalIn_struct w 9999 90 _ _ Tryz.undRSp (by kernel_rfl)]
  have hd:decide (a=b)=decide ((a.role:Int)=(b.role:Int)∧(a.peer:Int)=(b.peer:Int)∧a.msg=b.msg):=decide_eq_decide.2 sp_ext
  rw[hd]
  simp[go_sem,encU,Tryz.underlying90]
  obtain⟨a1,a2,a3⟩:=a
  obtain⟨b1,b2,b3⟩:=b
  simp only[txt_iff]
  clear hd
  repeat' split
  all_goals simp[*]
 simp only[binOp]
 simp[show Op.equal 90 (.agg (encU a)) (.agg (encU b))=Op.equalIn (9999 + 1) 90 (.agg (encU a)) (.agg (encU b)) from rfl,h]
theorem rsu_arr {W:World} {base:Nat} {v:Value} {L:List Sp} (h:W.ownsRow base 90 3 v L.length (suC L)):Arr 3 SuAt W v L:=by
 obtain⟨ao,cap,rfl⟩:=own_shape h
 refine⟨ao,cap,rfl,fun i m hm=>?_⟩
 have hl:=lt_of_some hm
 obtain⟨g,c,cur,e,-,-⟩:=own_block h (by omega)
 cases e
 have hc:=fun j hj=>World.ownsRow.cellAt h j hj
 obtain⟨h0,h1,h2⟩:=suC_at hm
 exact⟨g,0,rfl,by rw[Nat.zero_add,hc _ (by omega)];exact h0,by rw[Nat.zero_add,hc _ (by omega)];exact h1,by rw[Nat.zero_add,hc _ (by omega)];exact h2⟩
structure ZnI (w0:World) (L:List Sp) (v:Value) (W:World):Prop where
 fr:Frm [] w0 W
 row:W.ownsRow w0.heap.size 90 3 v L.length (suC L)
theorem ZnI.frm {w0 W W':World} {L:List Sp} {v:Value} (h:ZnI w0 L v W) (hf:Frm [] W W'):ZnI w0 L v W':=⟨h.fr.trans hf,hf.owns h.row (by simp)⟩
set_option maxHeartbeats 0 in
set_option maxRecDepth 100000 in
theorem zNever_any (s:SesD) (v:Value) (w:World) (hv:SesV w v s) (h4:s.roles.length≤4) (hb:∀ r∈s.roles,r.steps.length≤12) :
  Calls Tryz.prog 25 #[v] w (RetV fun u w'=>w'.ownsRow w.heap.size 90 3 u (neverP s).length (suC (neverP s))∧Frm [] w w'):=by
 obtain⟨rv,rfl,hr⟩:=hv
 obtain⟨ra,rc,rfl⟩:=hr.shape
 obtain⟨n,hn⟩:∃ n,s.roles.length=n:=⟨_,rfl⟩
 have HR:=Lib.hid hr;have HN:=Lib.hid hn;have H4:=Lib.hid h4;have HBs:=Lib.hid hb
 have HWI:Hid (∀ i:Nat,i < n→wrap64 ((i:Int) + 1)=((i + 1:Nat):Int)):=Lib.hid fun i hi=>by unfold wrap64;omega
 rw[hn] at HR ⊢
 obtain⟨W0,hW0⟩:∃ W0,w.alloc (.cells #[.string s.name,.slice ra n rc,.int .i64 s.cls,.int .i64 s.cap] 25)=W0:=⟨_,rfl⟩
 have HF0:Hid (Frm [] w W0):=Lib.hid (by rw[← hW0];exact(Frm.refl _ _).alloc _)
 have HB0:Hid (∀ V,Frm [] W0 V→V.cell? ⟨w.heap.size,1,none⟩=some (.slice ra n rc)):=Lib.hid fun V hV=>cell_of (hV.at (show W0.heap[w.heap.size]?=some (.cells #[.string s.name,.slice ra n rc,.int .i64 s.cls,.int .i64 s.cap] 25 (0,0)) by rw[← hW0];exact heap_alloc_new _ _) (by simp)) 1
 have HE:=Lib.hid hW0
 clear hr hn h4 hb hW0
 go_enter Tryz.func25,Tryz.ntmps25
 go_upto_region 1 with (first | (refine wpList_box_row rfl 25 _ rfl _ rfl ?_;rw[HE.out]))
 clear HE
 go_upto_region 3 with fail
 go_loopw [4,3] (fun s4 s3 wr=>∃ i:Nat,s4=.int .i64 i∧i≤n∧ZnI W0 (nevRoles s i) s3 wr) (fun s4 _ _=>n - (intOf s4).toNat)
 case atStart=>exact⟨0,rfl,Nat.zero_le _,Frm.refl _ _,World.ownsRow_nil _ _ _ _⟩
 case round =>
  obtain⟨i,rfl,hi,hnv⟩:=hrel
  have HI:=Lib.hid hnv
  clear hnv
  obtain⟨wa,hwa⟩:∃ wa,wa=wr:=⟨_,rfl⟩
  subst hwa
  have z1:=HB0.out wa HI.out.fr
  by_cases hlt:i < n
  ·have hlt':(i:Int) < (n:Int):=by omega
   go_upto_region 6 with fail
   clear z1
   go_loopw [5,3] (fun s5 s3 wr=>∃ p:Nat,s5=.int .i64 p∧p≤n∧ZnI W0 (nevPeers s i (nevRoles s i) p) s3 wr) (fun s5 _ _=>n - (intOf s5).toNat)
   case atStart=>exact⟨0,rfl,Nat.zero_le _,HI.out⟩
   case round =>
    obtain⟨p,rfl,hp,hnv⟩:=hrel
    have HJ:=Lib.hid hnv
    clear hnv
    obtain⟨wb,hwb⟩:∃ wb,wb=wr:=⟨_,rfl⟩
    subst hwb
    have z1:=HB0.out wb HJ.out.fr
    by_cases hltp:p < n
    ·have hltp':(p:Int) < (n:Int):=by omega
     have hin:i < s.roles.length:=by rw[HN.out];exact hlt
     have hpn:p < s.roles.length:=by rw[HN.out];exact hltp
     obtain⟨rb,ro,e1,sv,cv,tv,d0,d1,d2,d3,hr3⟩:=HR.out.get (SesD.rol_some hin)
     subst e1
     obtain⟨rb',ro',e1',sv',cv2,tv',f0,f1,f2,f3,hr3'⟩:=HR.out.get (SesD.rol_some hpn)
     cases e1'
     obtain⟨aS,cS,rfl⟩:=hr3.sts.shape
     obtain⟨aC,cC,rfl⟩:=hr3.ctrs.shape
     obtain⟨aT,cT,rfl⟩:=hr3.steps.shape
     obtain⟨aT',cT',rfl⟩:=hr3'.steps.shape
     have HS3:=Lib.hid hr3.steps;have HS3':=Lib.hid hr3'.steps
     have HL12:Hid ((s.rol i).steps.length≤12):=Lib.hid (HBs.out _ (List.mem_of_getElem? (SesD.rol_some hin)))
     have HM12:Hid ((s.rol p).steps.length≤12):=Lib.hid (HBs.out _ (List.mem_of_getElem? (SesD.rol_some hpn)))
     have HRW:Hid (∀ V,Frm [] W0 V→V.cell? ⟨rb,ro + i * 4,none⟩=some (.string (s.rol i).name)∧V.cell? ⟨rb,ro + i * 4 + 1,none⟩=some (.slice aS (s.rol i).sts.length cS)∧V.cell? ⟨rb,ro + i * 4 + 2,none⟩=some (.slice aC (s.rol i).ctrs.length cC) ∧
       V.cell? ⟨rb,ro + i * 4 + 3,none⟩=some (.slice aT (s.rol i).steps.length cT)∧V.cell? ⟨rb,ro + p * 4,none⟩=some (.string (s.rol p).name)∧V.cell? ⟨w.heap.size,1,none⟩=some (.slice (some ⟨rb,ro,none⟩) n rc)):=Lib.hid fun V hV =>
      have hV':=HF0.out.trans hV
      ⟨hV'.keep d0,hV'.keep d1,hV'.keep d2,hV'.keep d3,hV'.keep f0,HB0.out V hV⟩
     have f3':=(HF0.out.trans HJ.out.fr).keep f3
     obtain⟨m,hm⟩:∃ m,(s.rol p).steps.length=m:=⟨_,rfl⟩
     have HMm:=Lib.hid hm
     rw[hm] at f3' HS3'
     have HWK:Hid (∀ k:Nat,k < m→wrap64 ((k:Int) + 1)=((k + 1:Nat):Int)):=Lib.hid fun k hk=>by
      have:=HM12.out
      unfold wrap64;omega
     clear d0 d1 d2 d3 f0 f1 f2 f3 hr3 hr3' hm hin
     go_upto_region 10 with fail
     clear z1 f3'
     go_loopw [7,3] (fun s7 s3 wr=>∃ k:Nat,s7=.int .i64 k∧k≤m∧ZnI W0 (nevSteps s i p (nevPeers s i (nevRoles s i) p) k) s3 wr) (fun s7 _ _=>m - (intOf s7).toNat)
     case atStart=>exact⟨0,rfl,Nat.zero_le _,HJ.out⟩
     case round =>
      obtain⟨k,rfl,hk,hnv⟩:=hrel
      obtain⟨av2,cv3,hsh⟩:=own_shape hnv.row
      subst hsh
      have HK:=Lib.hid hnv
      clear hnv
      obtain⟨wc,hwc⟩:∃ wc,wc=wr:=⟨_,rfl⟩
      subst hwc
      by_cases hltk:k < m
      ·have hltk':(k:Int) < (m:Int):=by omega
       obtain⟨t,ht⟩:∃ t,(s.rol p).steps[k]?=some t:=⟨_,List.getElem?_eq_getElem (by rw[HMm.out];exact hltk)⟩
       have htk:(s.rol p).stp k=t:=getD_some ht
       obtain⟨tb,tq,etb,hst⟩:=HS3'.out.get ht
       subst etb
       have HST:=Lib.hid hst
       obtain⟨L,hL⟩:∃ L,nevSteps s i p (nevPeers s i (nevRoles s i) p) k=L:=⟨_,rfl⟩
       have HLL:Hid (L.length≤300):=Lib.hid (by
        rw[← hL]
        have a1:=nevSteps_len (s:=s) i p (nevPeers s i (nevRoles s i) p) k
        have a2:=nevPeers_len HBs.out i (nevRoles s i) p (by omega)
        have a3:=nevRoles_len HBs.out H4.out i (by have:=HN.out;omega)
        have:=H4.out;have:=HN.out;have:=HM12.out;have:=HMm.out
        omega)
       have HSN:Hid (nevSteps s i p (nevPeers s i (nevRoles s i) p) (k + 1)=if nevT s i p t then addNew L ⟨i,p,t.msg⟩ else L):=Lib.hid (by
        rw[nevSteps,hL]
        unfold nevStep
        rw[htk])
       rw[hL] at HK ⊢
       clear ht htk hL hst
       go_upto_region 12 with fail
       have HCQ:Hid (∀ V,Frm [] wc V→(V.cell? ⟨rb,ro + i * 4,none⟩=some (.string (s.rol i).name)∧V.cell? ⟨rb,ro + i * 4 + 1,none⟩=some (.slice aS (s.rol i).sts.length cS)∧V.cell? ⟨rb,ro + i * 4 + 2,none⟩=some (.slice aC (s.rol i).ctrs.length cC) ∧
        V.cell? ⟨rb,ro + i * 4 + 3,none⟩=some (.slice aT (s.rol i).steps.length cT)∧V.cell? ⟨rb,ro + p * 4,none⟩=some (.string (s.rol p).name)∧V.cell? ⟨w.heap.size,1,none⟩=some (.slice (some ⟨rb,ro,none⟩) n rc))∧SpAt V tb (tq + k * 9) t):=Lib.hid fun V hV=>⟨HRW.out V (HK.out.fr.trans hV),HST.out.frm (HF0.out.trans (HK.out.fr.trans hV))⟩
       have HNT:Hid (nevT s i p t=(decide (i≠p) && decide (t.kind=1) && decide (t.peer=(s.rol i).name) && !heardB s i p t.msg)):=Lib.hid rfl
       by_cases hip:i=p
       ·have q1:((i:Int) == (p:Int))=true:=by rw[hip];simp
        replace HNT:Hid (nevT s i p t=false):=Lib.hid (by rw[HNT.out,decide_eq_false (by simp[hip])];rfl)
        clear hip
        refine wp_region_cq (by kernel_rfl) (by kernel_rfl) ?_
        repeat (first
         | go_big_quiet_skip
         | (refine wpQuiet_want (by rfl) (fun K hK=>?_)
            first
             | (refine quiet_move _ (by rfl) (hK _ ?_))
             | (refine quiet_assign _ (by rfl) (hK _ ?_))
             | (refine cq_call (.bool (heardB s i p t.msg)) 79 #[.agg #[.string (s.rol i).name,.slice aS (s.rol i).sts.length cS,.slice aC (s.rol i).ctrs.length cC,.slice aT (s.rol i).steps.length cT],.string (s.rol p).name,.string t.msg] (fun w' hC=>?_) (fun w' hC=>Ret.cq (zRecv_any _ _ _ _ _ _ _ w' (HS3.out.frm fun _ _ _ h=>h.frm (HF0.out.trans (HK.out.fr.trans hC))) (by have:=HL12.out;omega) ⟨_,_,_,rfl⟩ ⟨_,_,_,rfl⟩) (fun w'' h=>hC.trans h)) (hK _ ?_)
                ·go_simp)
             | (apply Exists.intro
                refine⟨fun w' hC=>?_,hK _ ?_⟩
                ·(unfold Oper.quietAt
                  obtain⟨⟨y0,y1,y2,y3,y4,y5⟩,k0,k1,k2,k3,k4,k5,k6,k7,k8⟩:=HCQ.out w' hC
                  clear hC
                  go_simp
                  try exact⟨rfl,rfl⟩
                  try rfl))
            clear hK K
            try simp only[nrm,Act.eval,nrq]))
        refine wpQuiet_nil ?_
        intro wd hfd
        have HS2:Hid (nevSteps s i p (nevPeers s i (nevRoles s i) p) (k + 1)=L):=Lib.hid (by rw[HSN.out,HNT.out];simp)
        have HKD:=Lib.hid (HK.out.frm hfd)
        clear hfd
        go_wp2
        exact⟨⟨k + 1,congrArg (Value.int .i64) (HWK.out k hltk),hltk,by rw[HS2.out];exact HKD.out⟩,meas_up hltk (HWK.out k hltk)⟩
       ·have q1:((i:Int) == (p:Int))=false:=by simp;omega
        have HIP:Hid (decide (i≠p)=true):=Lib.hid (decide_eq_true hip)
        clear hip
        by_cases hk1:t.kind=1
        ·have q2:(t.kind == 1)=true:=by simpa using hk1
         have q2':(t.kind != 1)=false:=by simp[hk1]
         have HK1:Hid (decide (t.kind=1)=true):=Lib.hid (decide_eq_true hk1)
         clear hk1
         by_cases hpe:t.peer=(s.rol i).name
         ·have q3:(t.peer.toList == (s.rol i).name.toList)=true:=by rw[str_beq,decide_eq_true hpe]
          have HPE:Hid (decide (t.peer=(s.rol i).name)=true):=Lib.hid (decide_eq_true hpe)
          clear hpe
          refine wp_region_cq (by kernel_rfl) (by kernel_rfl) ?_
          repeat (first
           | go_big_quiet_skip
           | (refine wpQuiet_want (by rfl) (fun K hK=>?_)
              first
               | (refine quiet_move _ (by rfl) (hK _ ?_))
               | (refine quiet_assign _ (by rfl) (hK _ ?_))
               | (refine cq_call (.bool (heardB s i p t.msg)) 79 #[.agg #[.string (s.rol i).name,.slice aS (s.rol i).sts.length cS,.slice aC (s.rol i).ctrs.length cC,.slice aT (s.rol i).steps.length cT],.string (s.rol p).name,.string t.msg] (fun w' hC=>?_) (fun w' hC=>Ret.cq (zRecv_any _ _ _ _ _ _ _ w' (HS3.out.frm fun _ _ _ h=>h.frm (HF0.out.trans (HK.out.fr.trans hC))) (by have:=HL12.out;omega) ⟨_,_,_,rfl⟩ ⟨_,_,_,rfl⟩) (fun w'' h=>hC.trans h)) (hK _ ?_)
                  ·go_simp)
               | (apply Exists.intro
                  refine⟨fun w' hC=>?_,hK _ ?_⟩
                  ·(unfold Oper.quietAt
                    obtain⟨⟨y0,y1,y2,y3,y4,y5⟩,k0,k1,k2,k3,k4,k5,k6,k7,k8⟩:=HCQ.out w' hC
                    clear hC
                    go_simp
                    try exact⟨rfl,rfl⟩
                    try rfl))
              clear hK K
              try simp only[nrm,Act.eval,nrq]))
          refine wpQuiet_nil ?_
          intro wd hfd
          obtain⟨hd,hhd⟩:∃ b,heardB s i p t.msg=b:=⟨_,rfl⟩
          rw[hhd] at HNT ⊢
          clear hhd
          cases hd with
          | true =>
            have HS2:Hid (nevSteps s i p (nevPeers s i (nevRoles s i) p) (k + 1)=L):=Lib.hid (by rw[HSN.out,HNT.out];simp)
            have HKD:=Lib.hid (HK.out.frm hfd)
            clear hfd
            go_wp2
            exact⟨⟨k + 1,congrArg (Value.int .i64) (HWK.out k hltk),hltk,by rw[HS2.out];exact HKD.out⟩,meas_up hltk (HWK.out k hltk)⟩
          | false =>
            have HS1:Hid (nevSteps s i p (nevPeers s i (nevRoles s i) p) (k + 1)=addNew L ⟨i,p,t.msg⟩):=Lib.hid (by rw[HSN.out,HNT.out,HIP.out,HK1.out,HPE.out];rfl)
            have HKD:=Lib.hid (HK.out.frm hfd)
            have HFD:=Lib.hid hfd
            clear hfd
            have HWL:Hid (∀ q:Nat,q < L.length→wrap64 ((q:Int) + 1)=((q + 1:Nat):Int)):=Lib.hid fun q hq=>by have:=HLL.out;unfold wrap64;omega
            go_upto_region 15 with fail
            go_loopw [9,8] (fun s9 s8 wr=>∃ q:Nat,s9=.int .i64 q∧q≤L.length∧s8=.bool (decide ((⟨i,p,t.msg⟩:Sp)∈L.take q))∧Frm [] wd wr) (fun s9 _ _=>L.length - (intOf s9).toNat)
            case atStart=>exact⟨0,rfl,Nat.zero_le _,by simp,Frm.refl _ _⟩
            case round =>
             obtain⟨q,rfl,hq,rfl,hf⟩:=hrel
             have HFQ:=Lib.hid hf
             clear hf
             obtain⟨we,hwe⟩:∃ we,we=wr:=⟨_,rfl⟩
             subst hwe
             by_cases hltq:q < L.length
             ·have hltq':(q:Int) < (L.length:Int):=by omega
              obtain⟨y,hy⟩:∃ y,L[q]?=some y:=⟨_,List.getElem?_eq_getElem hltq⟩
              obtain⟨g,o,eg,hsu⟩:=(rsu_arr HKD.out.row).get hy
              subst eg
              have HSU:=Lib.hid hsu
              have HTS:=Lib.hid (take_snoc' hy).1
              have heq:∀ V,(binOp .eql 90 (.agg #[.int .i64 y.role,.int .i64 y.peer,.string y.msg]) (.agg #[.int .i64 (i:Nat),.int .i64 (p:Nat),.string t.msg])).run Tryz.prog V=.ok (.bool (decide (y=⟨i,p,t.msg⟩))) V:=fun V=>eql_rsp y ⟨i,p,t.msg⟩ V
              have HC2:Hid (∀ V,Frm [] we V→SuAt V g (o + q * 3) y∧SpAt V tb (tq + k * 9) t):=Lib.hid fun V hV=>⟨HSU.out.frm (HFQ.out.trans hV),(HCQ.out V (HFD.out.trans (HFQ.out.trans hV))).2⟩
              have HMQ:Hid (decide ((⟨i,p,t.msg⟩:Sp)∈L.take (q + 1))=(decide ((⟨i,p,t.msg⟩:Sp)∈L.take q) || decide (y=⟨i,p,t.msg⟩))):=Lib.hid (by
               rw[HTS.out,Bool.eq_iff_iff]
               simp only[Bool.or_eq_true,decide_eq_true_eq,List.mem_append,List.mem_singleton]
               exact or_congr Iff.rfl eq_comm)
              obtain⟨kn,hkn⟩:∃ b,decide ((⟨i,p,t.msg⟩:Sp)∈L.take q)=b:=⟨_,rfl⟩
              rw[hkn] at HMQ ⊢
              clear hy hsu hkn
              go_upto_region 17 with fail
              cases kn with
              | true =>
                refine wp_region_cq (by kernel_rfl) (by kernel_rfl) ?_
                repeat (first
                 | go_big_quiet_skip
                 | (refine wpQuiet_want (by rfl) (fun K hK=>?_)
                    first
                     | (refine quiet_move _ (by rfl) (hK _ ?_))
                     | (refine quiet_assign _ (by rfl) (hK _ ?_))
                     | (apply Exists.intro
                        refine⟨fun w' hC=>?_,hK _ ?_⟩
                        ·(unfold Oper.quietAt
                          obtain⟨⟨y0,y1,y2⟩,k0,k1,k2,k3,k4,k5,k6,k7,k8⟩:=HC2.out w' hC
                          clear hC
                          go_simp
                          try exact⟨rfl,rfl⟩
                          try rfl))
                    clear hK K
                    try simp only[nrm,Act.eval,nrq]))
                refine wpQuiet_nil ?_
                intro wf hff
                have HFF:=Lib.hid (HFQ.out.trans hff)
                clear hff
                go_wp2
                exact⟨⟨q + 1,congrArg (Value.int .i64) (HWL.out q hltq),hltq,congrArg Value.bool (by rw[HMQ.out];rfl),HFF.out⟩,meas_up hltq (HWL.out q hltq)⟩
              | false =>
                refine wp_region_cq (by kernel_rfl) (by kernel_rfl) ?_
                repeat (first
                 | go_big_quiet_skip
                 | (refine wpQuiet_want (by rfl) (fun K hK=>?_)
                    first
                     | (refine quiet_move _ (by rfl) (hK _ ?_))
                     | (refine quiet_assign _ (by rfl) (hK _ ?_))
                     | (apply Exists.intro
                        refine⟨fun w' hC=>?_,hK _ ?_⟩
                        ·(unfold Oper.quietAt
                          obtain⟨⟨y0,y1,y2⟩,k0,k1,k2,k3,k4,k5,k6,k7,k8⟩:=HC2.out w' hC
                          clear hC
                          go_simp
                          try exact⟨rfl,rfl⟩
                          try rfl))
                    clear hK K
                    try simp only[nrm,Act.eval,nrq]))
                refine wpQuiet_nil ?_
                intro wf hff
                have HFF:=Lib.hid (HFQ.out.trans hff)
                clear hff
                go_wp2
                exact⟨⟨q + 1,congrArg (Value.int .i64) (HWL.out q hltq),hltq,congrArg Value.bool (by rw[HMQ.out];rfl),HFF.out⟩,meas_up hltq (HWL.out q hltq)⟩
             ·obtain rfl:L.length=q:=by omega
              have hge:¬ (L.length:Int) < (L.length:Int):=by omega
              rw[List.take_length]
              have HKE:=Lib.hid (HKD.out.frm HFQ.out)
              by_cases hmem:(⟨i,p,t.msg⟩:Sp)∈L
              ·have HS2:Hid (nevSteps s i p (nevPeers s i (nevRoles s i) p) (k + 1)=L):=Lib.hid (by rw[HS1.out];unfold addNew;rw[if_pos hmem])
               rw[decide_eq_true hmem]
               clear hmem
               go_wp2
               exact⟨⟨k + 1,congrArg (Value.int .i64) (HWK.out k hltk),hltk,by rw[HS2.out];exact HKE.out⟩,meas_up hltk (HWK.out k hltk)⟩
              ·have HS2:Hid (nevSteps s i p (nevPeers s i (nevRoles s i) p) (k + 1)=L ++ [⟨i,p,t.msg⟩]):=Lib.hid (by rw[HS1.out];unfold addNew;rw[if_neg hmem])
               rw[decide_eq_false hmem]
               clear hmem
               obtain⟨-,k0,k1,k2,k3,k4,k5,k6,k7,k8⟩:=HCQ.out we (HFD.out.trans HFQ.out)
               obtain⟨i0,hi0,hz0,hz1,hz2⟩:=info_parts Tryz.infoRSu
               have hsz:W0.heap.size≤(we.alloc (.cells #[.int .i64 i,.int .i64 p,.string t.msg] 90)).heap.size:=by have:=HKE.out.fr.size;simp;omega
               have hLL:=HLL.out
               go_wp2_with (at_builtin;refine wpList_append_own_at _ rfl _ _ 55 rfl W0.heap.size 90 i0 (.agg #[.int .i64 0,.int .i64 0,.string { data:=#[] }]) 3 32 Tryz.underlying55 hi0 hz0 hz1 hz2 rfl (by decide) (.slice av2 L.length cv3) L.length (suC L) rfl (HKE.out.row.alloc _) ⟨we.heap.size,0,none⟩ 1 1 (suC1 ⟨i,p,t.msg⟩) rfl rfl (new_row _ _ _) (by simp[suC1,Value.oneCell']) (by unfold maxLen;omega) (by omega) hsz ?_;intro v' w6 hown' hgrow _ _;obtain⟨ao',cp',rfl⟩:=own_shape hown';have HG:=Lib.hid hgrow;have HO:=Lib.hid hown';clear hgrow hown')
               have HK6:Hid (ZnI W0 (L ++ [⟨i,p,t.msg⟩]) (.slice ao' (L.length + 1) cp') w6):=Lib.hid ⟨(HKE.out.fr.alloc _).grown HG.out (fun q hq=>.inr (ownBlock_ge HKE.out.row hq)),by rw[suC_append,List.length_append];exact HO.out⟩
               exact⟨⟨k + 1,congrArg (Value.int .i64) (HWK.out k hltk),hltk,by rw[HS2.out];exact HK6.out⟩,meas_up hltk (HWK.out k hltk)⟩
         ·have q3:(t.peer.toList == (s.rol i).name.toList)=false:=by rw[str_beq,decide_eq_false hpe]
          replace HNT:Hid (nevT s i p t=false):=Lib.hid (by rw[HNT.out,decide_eq_false hpe];simp)
          clear hpe
          refine wp_region_cq (by kernel_rfl) (by kernel_rfl) ?_
          repeat (first
           | go_big_quiet_skip
           | (refine wpQuiet_want (by rfl) (fun K hK=>?_)
              first
               | (refine quiet_move _ (by rfl) (hK _ ?_))
               | (refine quiet_assign _ (by rfl) (hK _ ?_))
               | (refine cq_call (.bool (heardB s i p t.msg)) 79 #[.agg #[.string (s.rol i).name,.slice aS (s.rol i).sts.length cS,.slice aC (s.rol i).ctrs.length cC,.slice aT (s.rol i).steps.length cT],.string (s.rol p).name,.string t.msg] (fun w' hC=>?_) (fun w' hC=>Ret.cq (zRecv_any _ _ _ _ _ _ _ w' (HS3.out.frm fun _ _ _ h=>h.frm (HF0.out.trans (HK.out.fr.trans hC))) (by have:=HL12.out;omega) ⟨_,_,_,rfl⟩ ⟨_,_,_,rfl⟩) (fun w'' h=>hC.trans h)) (hK _ ?_)
                  ·go_simp)
               | (apply Exists.intro
                  refine⟨fun w' hC=>?_,hK _ ?_⟩
                  ·(unfold Oper.quietAt
                    obtain⟨⟨y0,y1,y2,y3,y4,y5⟩,k0,k1,k2,k3,k4,k5,k6,k7,k8⟩:=HCQ.out w' hC
                    clear hC
                    go_simp
                    try exact⟨rfl,rfl⟩
                    try rfl))
              clear hK K
              try simp only[nrm,Act.eval,nrq]))
          refine wpQuiet_nil ?_
          intro wd hfd
          have HS2:Hid (nevSteps s i p (nevPeers s i (nevRoles s i) p) (k + 1)=L):=Lib.hid (by rw[HSN.out,HNT.out];simp)
          have HKD:=Lib.hid (HK.out.frm hfd)
          clear hfd
          go_wp2
          exact⟨⟨k + 1,congrArg (Value.int .i64) (HWK.out k hltk),hltk,by rw[HS2.out];exact HKD.out⟩,meas_up hltk (HWK.out k hltk)⟩
        ·have q2:(t.kind == 1)=false:=by simpa using hk1
         have q2':(t.kind != 1)=true:=by simpa using hk1
         replace HNT:Hid (nevT s i p t=false):=Lib.hid (by rw[HNT.out,decide_eq_false hk1];simp)
         clear hk1
         refine wp_region_cq (by kernel_rfl) (by kernel_rfl) ?_
         repeat (first
          | go_big_quiet_skip
          | (refine wpQuiet_want (by rfl) (fun K hK=>?_)
             first
              | (refine quiet_move _ (by rfl) (hK _ ?_))
              | (refine quiet_assign _ (by rfl) (hK _ ?_))
              | (refine cq_call (.bool (heardB s i p t.msg)) 79 #[.agg #[.string (s.rol i).name,.slice aS (s.rol i).sts.length cS,.slice aC (s.rol i).ctrs.length cC,.slice aT (s.rol i).steps.length cT],.string (s.rol p).name,.string t.msg] (fun w' hC=>?_) (fun w' hC=>Ret.cq (zRecv_any _ _ _ _ _ _ _ w' (HS3.out.frm fun _ _ _ h=>h.frm (HF0.out.trans (HK.out.fr.trans hC))) (by have:=HL12.out;omega) ⟨_,_,_,rfl⟩ ⟨_,_,_,rfl⟩) (fun w'' h=>hC.trans h)) (hK _ ?_)
                 ·go_simp)
              | (apply Exists.intro
                 refine⟨fun w' hC=>?_,hK _ ?_⟩
                 ·(unfold Oper.quietAt
                   obtain⟨⟨y0,y1,y2,y3,y4,y5⟩,k0,k1,k2,k3,k4,k5,k6,k7,k8⟩:=HCQ.out w' hC
                   clear hC
                   go_simp
                   try exact⟨rfl,rfl⟩
                   try rfl))
             clear hK K
             try simp only[nrm,Act.eval,nrq]))
         refine wpQuiet_nil ?_
         intro wd hfd
         have HS2:Hid (nevSteps s i p (nevPeers s i (nevRoles s i) p) (k + 1)=L):=Lib.hid (by rw[HSN.out,HNT.out];simp)
         have HKD:=Lib.hid (HK.out.frm hfd)
         clear hfd
         go_wp2
         exact⟨⟨k + 1,congrArg (Value.int .i64) (HWK.out k hltk),hltk,by rw[HS2.out];exact HKD.out⟩,meas_up hltk (HWK.out k hltk)⟩
      ·obtain rfl:m=k:=by omega
       have hge:¬ (m:Int) < (m:Int):=by omega
       have HP1:Hid (ZnI W0 (nevPeers s i (nevRoles s i) (p + 1)) (.slice av2 (nevSteps s i p (nevPeers s i (nevRoles s i) p) m).length cv3) wc):=Lib.hid (by
        rw[nevPeers,HMm.out]
        exact HK.out)
       go_wp2
       exact⟨⟨p + 1,congrArg (Value.int .i64) (HWI.out p hltp),hltp,HP1.out⟩,meas_up hltp (HWI.out p hltp)⟩
    ·obtain rfl:n=p:=by omega
     have hge:¬ (n:Int) < (n:Int):=by omega
     have HR1:=Lib.hid (show ZnI W0 (nevRoles s (i + 1)) _ wb by rw[nevRoles,HN.out];exact HJ.out)
     go_wp2
     exact⟨⟨i + 1,congrArg (Value.int .i64) (HWI.out i hlt),hlt,HR1.out⟩,meas_up hlt (HWI.out i hlt)⟩
  ·obtain rfl:n=i:=by omega
   have hge:¬ (n:Int) < (n:Int):=by omega
   go_wp2
   go_ret
   exact⟨_,rfl,by have:=HI.out.row;unfold neverP;rw[HN.out];exact own_low this HF0.out.size,HF0.out.trans HI.out.fr⟩
end Go.Proofs.YtohfkhjlnlahdaaGreat
