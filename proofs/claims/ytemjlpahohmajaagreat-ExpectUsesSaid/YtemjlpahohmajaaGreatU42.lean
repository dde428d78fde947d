/- Part of the proof. -/
import Derived.Test.YtemjlpahohmajaaGreatU40
import Derived.Test.YtemjlpahohmajaaGreatU38
import Derived.Test.YtemjlpahohmajaaGreatU41
import Derived.Laws.OwnMore
import Derived.Test.YtemjlpahohmajaaGreatU25
import Derived.Lib.AppendStr
set_option linter.all false
namespace Go.Proofs.YtemjlpahohmajaaGreat
open Go.RowKit Go.BigFrame
theorem pDo_yes (s:SesD) (yb fb sb:Nat) (x:PS) (m:Mv) (w:World) (h:SyR w s yb fb) (hx:StR w s yb sb x) (hm:m∈movesP s x) :
  Calls Tryz.prog 31 #[.pointer (some ⟨yb,0,none⟩),.pointer (some ⟨sb,0,none⟩),mvV m] w (RetV (StTo w s yb (nextP s x m))):=by
 rcases mem_movesP.1 hm with ⟨i,k,hi,hk,h2⟩ | ⟨i,k,hi,hk,h2⟩
 ·exact pDo_step s yb fb sb i k x m w h hx hm hi hk h2
 ·exact pDo_lose s yb fb sb i k x m w h hx hm hi hk (mem_loseMv.1 h2).1
def MvsTo (w:World) (L:List Mv) (v:Value) (w':World):Prop:=∃ B u,v=.func (.func 126) #[] #[.pointer (some ⟨B,0,none⟩)]∧MvI B u L w'∧Frm [] w w'∧w.heap.size≤B
set_option maxHeartbeats 2000000 in
set_option maxRecDepth 100000 in
theorem pMoves_any (s:SesD) (yb fb sb:Nat) (x:PS) (w:World) (h:SyR w s yb fb) (hx:StR w s yb sb x):Calls Tryz.prog 33 #[.pointer (some ⟨yb,0,none⟩),.pointer (some ⟨sb,0,none⟩)] w (RetV (MvsTo w (movesP s x))):=by
 have C1:=Lib.hid (pCheck_any s yb fb sb x w h hx)
 have C2:=Lib.hid (pmoves_any s yb fb sb x w h hx)
 clear h hx
 go_enter Tryz.func33,Tryz.ntmps33
 go_wp2_with (first
  | (go_at_call 61;go_must (refine C1.out.mono ?_;rintro e w' ⟨rfl,rfl⟩))
  | (go_at_call 63;go_must (refine C2.out.mono ?_;rintro e w1 ⟨v,rfl,ha,hf⟩;obtain⟨ao,cq,rfl⟩:=ha.shape;have HA:=Lib.hid ha;have HF:=Lib.hid hf;have C3:=Lib.hid (alMove_any _ (movesP s x) w1 ha);clear ha hf))
  | (go_at_call 75;go_must (refine C3.out.mono ?_;rintro e w2 ⟨v,rfl,rfl,ha,hf⟩;have HB:=Lib.hid ha;have HG:=Lib.hid hf;clear ha hf)))
 go_ret
 exact⟨_,rfl,_,_,rfl,HB.out,HF.out.trans HG.out,HF.out.size⟩
set_option maxHeartbeats 2000000 in
set_option maxRecDepth 100000 in
theorem pSession_any (s:SesD) (yb fb:Nat) (w:World) (h:SyR w s yb fb):Calls Tryz.prog 74 #[.pointer (some ⟨yb,0,none⟩)] w (RetV (OwTo w s)):=by
 have hf0:Frm [] w (w.alloc (.cells #[.string { data:=#[] },.slice none 0 0,.int .i64 0,.int .i64 0] 25)):=(Frm.refl [] w).alloc _
 have C1:=Lib.hid (pNone_any s yb fb _ (h.frm hf0))
 have hok:=h.ok
 obtain⟨rv,h1,h2⟩:=h.out
 have CO:=Lib.hid (pOwn_any s (.agg #[.string s.name,rv,.int .i64 s.cls,.int .i64 s.cap]) _ ⟨rv,rfl,h2.frm hf0⟩ (by have:=hok.n2;omega) hok.n4 (fun r hr=>⟨by have:=(hok.rol r hr).s24;omega,by have:=(hok.rol r hr).c4;omega,by have:=(hok.rol r hr).t80;omega⟩))
 have HF0:=Lib.hid hf0
 have B0:=Lib.hid (heap_alloc_new w (.cells #[.string { data:=#[] },.slice none 0 0,.int .i64 0,.int .i64 0] 25))
 have hl:=lt_of_block h1
 have c0:=cell_of h1 0
 have c1:=cell_of h1 1
 have c2:=cell_of h1 2
 have c3:=cell_of h1 3
 clear h h1 h2 hf0 hok
 go_enter Tryz.func74,Tryz.ntmps74
 go_wp2_with (first
  | (go_at_call 60;go_must (refine C1.out.mono ?_;rintro e w' ⟨rfl,rfl⟩))
  | (go_at_call 81;go_must (refine CO.out.mono ?_;rintro e w1 ⟨v,rfl,ho⟩;obtain⟨g,cg,rfl⟩:=ho.shape;have HO:=Lib.hid ho;have B1:=Lib.hid (ho.frm.at B0.out (by simp));clear ho))
  | (refine wpList_store_row rfl 25 _ _ rfl _ _ _ 25 rfl rfl B1.out rfl (by kernel_rfl) (by simp[Value.oneCell']) ?_;intro w2 hb2 hf2))
 refine bodyPost_ret (results_c1 (d:=_) (Tryz.results74) rfl hb2 rfl Tryz.underlying25 (by kernel_rfl)) rfl ⟨_,rfl,⟨g,cg,rfl⟩,(HF0.out.trans HO.out.frm).then hf2 (by intro y hy;simp at hy;right;omega),fun V hV=>HO.out.ses V ?_⟩
 have hs:=hf2.size
 intro k h1 h2
 rw[hV k (by simp at h1;omega) (by omega)]
 exact hf2.block k h2 (by simp at h1 ⊢;omega)
end Go.Proofs.YtemjlpahohmajaaGreat
namespace Go.Proofs.YtemjlpahohmajaaGreat
open Go.RowKit Go.BigFrame
set_option maxRecDepth 100000 in
theorem Tryz.call_xpNever1 (args:Array Value) (w:World):(callFunc 77 args).run Tryz.prog w=.ok (.enter 77 args) w:=by kernel_rfl
def recvB (m pn:ByteArray) (x:StpD):Bool:=decide (x.kind=2) && decide (x.msg=m) && decide (x.peer=pn)
set_option maxHeartbeats 2000000 in
set_option maxRecDepth 100000 in
theorem xpNever1_any (bt bo:Nat) (m pn:ByteArray) (x:StpD) (w:World) (h1:w.cell? ⟨bt,3,none⟩=some (.string m)) (h2:w.cell? ⟨bo,0,none⟩=some (.string pn)) :
  Calls Tryz.prog 77 #[stpV x,.pointer (some ⟨bt,0,none⟩),.pointer (some ⟨bo,0,none⟩)] w (Ret (.bool (recvB m pn x)) (Frm [] w)):=by
 obtain⟨W0,hW0⟩:∃ W0,w.alloc (.cells #[.string x.frm,.string x.to,.int .i64 x.kind,.string x.msg,.string x.peer,.string x.ctr,.int .i64 x.low,.int .i64 x.high,.int .i64 x.add] 90)=W0:=⟨_,rfl⟩
 have hf0:Frm [] w W0:=by rw[← hW0];exact(Frm.refl _ _).alloc _
 have hb:W0.heap[w.heap.size]?=some (.cells #[.string x.frm,.string x.to,.int .i64 x.kind,.string x.msg,.string x.peer,.string x.ctr,.int .i64 x.low,.int .i64 x.high,.int .i64 x.add] 90 (0,0)):=by rw[← hW0];exact heap_alloc_new _ _
 have x2:=cell_of hb 2
 have x3:=cell_of hb 3
 have x4:=cell_of hb 4
 have y1:=hf0.keep h1
 have y2:=hf0.keep h2
 have HF0:=Lib.hid hf0;have HE:=Lib.hid hW0
 clear h1 h2 hf0 hW0 hb
 go_enter Tryz.func77,Tryz.ntmps77
 go_upto_region 1 with (first | (refine wpList_box_row rfl 90 _ rfl _ rfl ?_;rw[HE.out]))
 clear HE
 by_cases hk:x.kind=2
 ·have b2:(x.kind == 2)=true:=by simpa using hk
  have HK:Hid (decide (x.kind=2)=true):=Lib.hid (decide_eq_true hk)
  clear hk
  by_cases hm:x.msg=m
  ·have b3:(x.msg.toList == m.toList)=true:=by rw[str_beq,decide_eq_true hm]
   have HM:Hid (decide (x.msg=m)=true):=Lib.hid (decide_eq_true hm)
   have b4:(x.peer.toList == pn.toList)=decide (x.peer=pn):=str_beq ..
   clear hm
   go_wp2
   go_ret
   refine⟨?_,HF0.out⟩
   unfold recvB
   rw[HK.out,HM.out]
   simp
  ·have b3:(x.msg.toList == m.toList)=false:=by rw[str_beq,decide_eq_false hm]
   have HM:Hid (decide (x.msg=m)=false):=Lib.hid (decide_eq_false hm)
   clear hm
   go_wp2
   go_ret
   refine⟨?_,HF0.out⟩
   unfold recvB
   rw[HK.out,HM.out]
   simp
 ·have b2:(x.kind == 2)=false:=by simpa using hk
  have HK:Hid (decide (x.kind=2)=false):=Lib.hid (decide_eq_false hk)
  clear hk
  go_wp2
  go_ret
  refine⟨?_,HF0.out⟩
  unfold recvB
  rw[HK.out]
  simp
section
variable {s:SesD}
theorem nevStep_len (i p k:Nat) (out:List Sp):(nevStep s i p k out).length≤out.length + 1:=by
 unfold nevStep addNew
 split
 ·split <;> simp
 ·omega
theorem nevSteps_len (i p:Nat) (out:List Sp):∀ n,(nevSteps s i p out n).length≤out.length + n
 | 0=>Nat.le_refl _
 | n + 1=>by
   rw[nevSteps]
   have h1:=nevStep_len (s:=s) i p n (nevSteps s i p out n)
   have h2:=nevSteps_len i p out n
   omega
theorem nevPeers_len (hb:∀ r∈s.roles,r.steps.length≤12) (i:Nat) (out:List Sp):∀ n,n≤s.roles.length→(nevPeers s i out n).length≤out.length + n * 12
 | 0,_=>by simp[nevPeers]
 | n + 1,h=>by
   rw[nevPeers]
   have h1:=nevSteps_len (s:=s) i n (nevPeers s i out n) (s.rol n).steps.length
   have h2:=nevPeers_len hb i out n (by omega)
   have h3:=hb (s.rol n) (List.mem_of_getElem? (SesD.rol_some (by omega)))
   omega
theorem nevRoles_len (hb:∀ r∈s.roles,r.steps.length≤12) (h4:s.roles.length≤4):∀ n,n≤s.roles.length→(nevRoles s n).length≤n * 48
 | 0,_=>by simp[nevRoles]
 | n + 1,h=>by
   rw[nevRoles]
   have h1:=nevPeers_len hb n (nevRoles s n) s.roles.length (Nat.le_refl _)
   have h2:=nevRoles_len hb h4 n (by omega)
   omega
end
structure NvI (w W1:World) (L:List Sp) (v:Value) (W:World):Prop where
 fr:Frm [] w W
 row:W.ownsRow w.heap.size 63 3 v L.length (suC L)
 kt:Kt [63] W1 W
set_option maxHeartbeats 8000000 in
set_option maxRecDepth 100000 in
theorem xpNever_any (s:SesD) (v:Value) (w:World) (hv:SesV w v s) (h4:s.roles.length≤4) (hb:∀ r∈s.roles,r.steps.length≤12) :
  Calls Tryz.prog 35 #[v] w (RetV fun u w'=>w'.ownsRow w.heap.size 63 3 u (neverP s).length (suC (neverP s))∧Frm [] w w'):=by
 obtain⟨rv,rfl,hr⟩:=hv
 obtain⟨ra,rc,rfl⟩:=hr.shape
 obtain⟨n,hn⟩:∃ n,s.roles.length=n:=⟨_,rfl⟩
 have HR:=Lib.hid hr;have HN:=Lib.hid hn;have H4:=Lib.hid h4;have HBs:=Lib.hid hb
 have HWI:Hid (∀ i:Nat,i < n→wrap64 ((i:Int) + 1)=((i + 1:Nat):Int)):=Lib.hid fun i hi=>by unfold wrap64;omega
 rw[hn] at HR ⊢
 obtain⟨W0,hW0⟩:∃ W0,w.alloc (.cells #[.string s.name,.slice ra n rc,.int .i64 s.cls,.int .i64 s.cap] 25)=W0:=⟨_,rfl⟩
 have HF0:Hid (Frm [] w W0):=Lib.hid (by rw[← hW0];exact(Frm.refl _ _).alloc _)
 have HB0:Hid (W0.heap[w.heap.size]?=some (.cells #[.string s.name,.slice ra n rc,.int .i64 s.cls,.int .i64 s.cap] 25 (0,0))):=Lib.hid (by rw[← hW0];exact heap_alloc_new _ _)
 have HE:=Lib.hid hW0
 clear hr hn h4 hb hW0
 go_enter Tryz.func35,Tryz.ntmps35
 go_upto_region 1 with (first | (refine wpList_box_row rfl 25 _ rfl _ rfl ?_;rw[HE.out]))
 clear HE
 have z1:=cell_of HB0.out 1
 go_upto_region 2 with fail
 clear z1
 go_loopw [14,2] (fun s14 s2 wr=>∃ i:Nat,s14=.int .i64 i∧i≤n∧NvI w W0 (nevRoles s i) s2 wr) (fun s14 _ _=>n - (intOf s14).toNat)
 case atStart=>exact⟨0,rfl,Nat.zero_le _,HF0.out,World.ownsRow_nil _ _ _ _,Kt.refl _ _⟩
 case round =>
  obtain⟨i,rfl,hi,hnv⟩:=hrel
  obtain⟨av,cv',hsh⟩:=own_shape hnv.row
  subst hsh
  have HI:=Lib.hid hnv
  clear hnv
  obtain⟨wa,hwa⟩:∃ wa,wa=wr:=⟨_,rfl⟩
  subst hwa
  by_cases hlt:i < n
  ·have hlt':(i:Int) < (n:Int):=by omega
   have hin:i < s.roles.length:=by rw[HN.out];exact hlt
   obtain⟨rb,ro,e1,sv,cv,tv,d0,d1,d2,d3,hr3⟩:=HR.out.get (SesD.rol_some hin)
   subst e1
   obtain⟨r,hrr⟩:∃ r,s.rol i=r:=⟨_,rfl⟩
   rw[hrr] at d0 hr3
   obtain⟨aS,cS,rfl⟩:=hr3.sts.shape
   obtain⟨aC,cC,rfl⟩:=hr3.ctrs.shape
   obtain⟨aT,cT,rfl⟩:=hr3.steps.shape
   have HR3:=Lib.hid hr3;have HIN:=Lib.hid hin;have HRR:=Lib.hid hrr
   have HRL:Hid (r.steps.length≤12):=Lib.hid (by rw[← hrr];exact HBs.out _ (List.mem_of_getElem? (SesD.rol_some hin)))
   replace d0:=HI.out.fr.keep d0;replace d1:=HI.out.fr.keep d1;replace d2:=HI.out.fr.keep d2;replace d3:=HI.out.fr.keep d3
   have hrl:=cell_lt d0
   clear hr3 hin hrr
   go_upto_region 4 with fail
   clear d0 d1 d2 d3 hrl
   obtain⟨V0,hV0⟩:∃ V0,wa.alloc (.cells #[.string r.name,.slice aS r.sts.length cS,.slice aC r.ctrs.length cC,.slice aT r.steps.length cT] 86)=V0:=⟨_,rfl⟩
   obtain⟨b4,hb4⟩:∃ b,wa.heap.size=b:=⟨_,rfl⟩
   have F0:Hid (Frm [] wa V0):=Lib.hid (by rw[← hV0];exact(Frm.refl [] wa).alloc _)
   have Q4:Hid (V0.heap[b4]?=some (.cells #[.string r.name,.slice aS r.sts.length cS,.slice aC r.ctrs.length cC,.slice aT r.steps.length cT] 86 (0,0))):=Lib.hid (by rw[← hV0,← hb4];exact heap_alloc_new _ _)
   rw[hV0,hb4]
   clear hV0 hb4
   have HI0:Hid (NvI w V0 (nevPeers s i (nevRoles s i) 0) (.slice av (nevRoles s i).length cv') V0):=Lib.hid ⟨HI.out.fr.trans F0.out,F0.out.owns HI.out.row (by simp),Kt.refl _ _⟩
   have KT0:Hid (Kt [63] W0 V0):=Lib.hid (HI.out.kt.trans (Kt.frm F0.out))
   have z1:=cell_of (KT0.out.cells HB0.out (by decide)) 1
   go_upto_region 5 with fail
   clear z1
   go_loopw [22,2] (fun s22 s2 wr=>∃ p:Nat,s22=.int .i64 p∧p≤n∧NvI w V0 (nevPeers s i (nevRoles s i) p) s2 wr) (fun s22 _ _=>n - (intOf s22).toNat)
   case atStart=>exact⟨0,rfl,Nat.zero_le _,HI0.out⟩
   case round =>
    obtain⟨p,rfl,hp,hnv⟩:=hrel
    obtain⟨av1,cv1,hsh⟩:=own_shape hnv.row
    subst hsh
    have HJ:=Lib.hid hnv
    clear hnv
    obtain⟨wb,hwb⟩:∃ wb,wb=wr:=⟨_,rfl⟩
    subst hwb
    by_cases hltp:p < n
    ·have hltp':(p:Int) < (n:Int):=by omega
     have hpn:p < s.roles.length:=by rw[HN.out];exact hltp
     obtain⟨rb',ro',e1',sv',cv2,tv',d0,d1,d2,d3,hr3'⟩:=HR.out.get (SesD.rol_some hpn)
     cases e1'
     obtain⟨o,hoo⟩:∃ o,s.rol p=o:=⟨_,rfl⟩
     rw[hoo] at d0 hr3'
     obtain⟨aS',cS',rfl⟩:=hr3'.sts.shape
     obtain⟨aC',cC',rfl⟩:=hr3'.ctrs.shape
     obtain⟨aT',cT',rfl⟩:=hr3'.steps.shape
     have HR3':=Lib.hid hr3';have HPN:=Lib.hid hpn;have HOO:=Lib.hid hoo
     have HOL:Hid (o.steps.length≤12):=Lib.hid (by rw[← hoo];exact HBs.out _ (List.mem_of_getElem? (SesD.rol_some hpn)))
     replace d0:=HJ.out.fr.keep d0;replace d1:=HJ.out.fr.keep d1;replace d2:=HJ.out.fr.keep d2;replace d3:=HJ.out.fr.keep d3
     have hrl:=cell_lt d0
     clear hr3' hpn hoo
     go_upto_region 7 with fail
     clear d0 d1 d2 d3 hrl
     obtain⟨V1,hV1⟩:∃ V1,wb.alloc (.cells #[.string o.name,.slice aS' o.sts.length cS',.slice aC' o.ctrs.length cC',.slice aT' o.steps.length cT'] 86)=V1:=⟨_,rfl⟩
     obtain⟨b6,hb6⟩:∃ b,wb.heap.size=b:=⟨_,rfl⟩
     have F1:Hid (Frm [] wb V1):=Lib.hid (by rw[← hV1];exact(Frm.refl [] wb).alloc _)
     have Q6:Hid (V1.heap[b6]?=some (.cells #[.string o.name,.slice aS' o.sts.length cS',.slice aC' o.ctrs.length cC',.slice aT' o.steps.length cT'] 86 (0,0))):=Lib.hid (by rw[← hV1,← hb6];exact heap_alloc_new _ _)
     rw[hV1,hb6]
     clear hV1 hb6
     have HJ1:Hid (NvI w V1 (nevSteps s i p (nevPeers s i (nevRoles s i) p) 0) (.slice av1 (nevPeers s i (nevRoles s i) p).length cv1) V1):=Lib.hid ⟨HJ.out.fr.trans F1.out,F1.out.owns HJ.out.row (by simp),Kt.refl _ _⟩
     have KT1:Hid (Kt [63] V0 V1):=Lib.hid (HJ.out.kt.trans (Kt.frm F1.out))
     have Q41:=Lib.hid (KT1.out.cells Q4.out (by decide))
     have z3:=cell_of Q6.out 3
     obtain⟨m,hm⟩:∃ m,o.steps.length=m:=⟨_,rfl⟩
     have HMm:=Lib.hid hm
     rw[hm] at Q6 z3 ⊢
     have HWK:Hid (∀ k:Nat,k < m→wrap64 ((k:Int) + 1)=((k + 1:Nat):Int)):=Lib.hid fun k hk=>by
      have:=HOL.out
      unfold wrap64;omega
     clear hm
     go_upto_region 8 with fail
     clear z3
     go_loopw [30,2] (fun s30 s2 wr=>∃ k:Nat,s30=.int .i64 k∧k≤m∧NvI w V1 (nevSteps s i p (nevPeers s i (nevRoles s i) p) k) s2 wr) (fun s30 _ _=>m - (intOf s30).toNat)
     case atStart=>exact⟨0,rfl,Nat.zero_le _,HJ1.out⟩
     case round =>
      obtain⟨k,rfl,hk,hnv⟩:=hrel
      obtain⟨av2,cv3,hsh⟩:=own_shape hnv.row
      subst hsh
      have HK:=Lib.hid hnv
      clear hnv
      obtain⟨wc,hwc⟩:∃ wc,wc=wr:=⟨_,rfl⟩
      subst hwc
      by_cases hltk:k < m
      ·have hltk':(k:Int) < (m:Int):=by omega
       obtain⟨t,ht⟩:∃ t,o.steps[k]?=some t:=⟨_,List.getElem?_eq_getElem (by rw[HMm.out];exact hltk)⟩
       have htk:(s.rol p).stp k=t:=by rw[HOO.out];exact getD_some ht
       obtain⟨tb,tq,etb,k0,k1,k2,k3,k4,k5,k6,k7,k8⟩:=HR3'.out.steps.get ht
       subst etb
       replace k0:=HK.out.fr.keep k0;replace k1:=HK.out.fr.keep k1;replace k2:=HK.out.fr.keep k2;replace k3:=HK.out.fr.keep k3;replace k4:=HK.out.fr.keep k4
       replace k5:=HK.out.fr.keep k5;replace k6:=HK.out.fr.keep k6;replace k7:=HK.out.fr.keep k7;replace k8:=HK.out.fr.keep k8
       have hkl:=cell_lt k0
       have HTK:=Lib.hid htk
       obtain⟨L,hL⟩:∃ L,nevSteps s i p (nevPeers s i (nevRoles s i) p) k=L:=⟨_,rfl⟩
       have HLL:Hid (L.length≤300):=Lib.hid (by
        rw[← hL]
        have a1:=nevSteps_len (s:=s) i p (nevPeers s i (nevRoles s i) p) k
        have a2:=nevPeers_len HBs.out i (nevRoles s i) p (by have:=HPN.out;omega)
        have a3:=nevRoles_len HBs.out H4.out i (by have:=HIN.out;omega)
        have:=H4.out;have:=HN.out;have:=HOL.out;have:=HMm.out
        omega)
       have HSN:Hid (nevSteps s i p (nevPeers s i (nevRoles s i) p) (k + 1)=if nevT s i p t then addNew L ⟨i,p,t.msg⟩ else L):=Lib.hid (by
        rw[nevSteps,hL]
        unfold nevStep
        rw[htk])
       rw[hL] at HK ⊢
       clear ht htk hL
       go_upto_region 11 with fail
       clear k0 k1 k2 k3 k4 k5 k6 k7 k8 hkl
       obtain⟨V3,hV3⟩:∃ V,(wc.alloc (.cells #[.string t.frm,.string t.to,.int .i64 t.kind,.string t.msg,.string t.peer,.string t.ctr,.int .i64 t.low,.int .i64 t.high,.int .i64 t.add] 90)).alloc (.cells #[.int .i64 i,.int .i64 p,.string t.msg] 63)=V:=⟨_,rfl⟩
       obtain⟨b9,hb9⟩:∃ b,wc.heap.size + 1=b:=⟨_,rfl⟩
       obtain⟨b8,hb8⟩:∃ b,wc.heap.size=b:=⟨_,rfl⟩
       have F3:Hid (Frm [] wc V3):=Lib.hid (by rw[← hV3];exact((Frm.refl [] wc).alloc _).alloc _)
       have Q8:Hid (V3.heap[b8]?=some (.cells #[.string t.frm,.string t.to,.int .i64 t.kind,.string t.msg,.string t.peer,.string t.ctr,.int .i64 t.low,.int .i64 t.high,.int .i64 t.add] 90 (0,0))):=Lib.hid (by rw[← hV3,← hb8];exact alloc_at (heap_alloc_new _ _))
       have Q9:Hid (V3.heap[b9]?=some (.cells #[.int .i64 i,.int .i64 p,.string t.msg] 63 (0,0))):=Lib.hid (by rw[← hV3,← hb9];exact alloc_top (by simp))
       rw[hV3,hb9,hb8]
       clear hV3 hb8 hb9
       have HK3:Hid (NvI w V1 L (.slice av2 L.length cv3) V3):=Lib.hid ⟨HK.out.fr.trans F3.out,F3.out.owns HK.out.row (by simp),HK.out.kt.trans (Kt.frm F3.out)⟩
       have Q43:=Lib.hid (HK3.out.kt.cells Q41.out (by decide))
       have Q63:=Lib.hid (HK3.out.kt.cells Q6.out (by decide))
       have CF:=Lib.hid (cfStep_any 77 #[.pointer (some ⟨b8,0,none⟩),.pointer (some ⟨b6,0,none⟩)] (recvB t.msg o.name) (.slice aT r.steps.length cT) r.steps V3 (HR3.out.steps.frm fun _ _ _ h=>h.frm HK3.out.fr) (by have:=HRL.out;omega) Tryz.call_xpNever1
        (fun W x hW _=>xpNever1_any b8 b6 t.msg o.name x W (hW.keep (cell_of Q8.out 3)) (hW.keep (cell_of Q63.out 0))))
       have HHD:Hid (r.steps.any (recvB t.msg o.name)=heardB s i p t.msg):=Lib.hid (by rw[← HRR.out,← HOO.out];rfl)
       obtain⟨hd,hhd⟩:∃ b,r.steps.any (recvB t.msg o.name)=b:=⟨_,rfl⟩
       rw[hhd] at CF HHD
       have z4:=cell_of Q43.out 3
       clear hhd
       go_upto_region 12 with (first
        | (go_at_call 76;go_must (refine CF.out.mono ?_;rintro e w4 ⟨rfl,hf4⟩;have HF4:=Lib.hid hf4;clear hf4 CF z4)))
       have HK4:Hid (NvI w V1 L (.slice av2 L.length cv3) w4):=Lib.hid ⟨HK3.out.fr.trans HF4.out,HF4.out.owns HK3.out.row (by simp),HK3.out.kt.trans (Kt.frm HF4.out)⟩
       have Q84:=Lib.hid (HF4.out.at Q8.out (by simp))
       have Q94:=Lib.hid (HF4.out.at Q9.out (by simp))
       have Q44:=Lib.hid (HF4.out.at Q43.out (by simp))
       have e2:=cell_of Q84.out 2
       have e4:=cell_of Q84.out 4
       have r0:=cell_of Q44.out 0
       have u0:=cell_of Q94.out 0
       have u1:=cell_of Q94.out 1
       have u2:=cell_of Q94.out 2
       have HNT:Hid (nevT s i p t=(decide (i≠p) && decide (t.kind=1) && decide (t.peer=r.name) && !hd)):=Lib.hid (by unfold nevT;rw[← HHD.out,HRR.out])
       by_cases hip:i=p
       ·have q1:((i:Int) != (p:Int))=false:=by rw[hip];simp
        have HS2:Hid (nevSteps s i p (nevPeers s i (nevRoles s i) p) (k + 1)=L):=Lib.hid (by rw[HSN.out,HNT.out,decide_eq_false (by simp[hip])];rfl)
        clear hip
        go_wp2
        exact⟨⟨k + 1,congrArg (Value.int .i64) (HWK.out k hltk),hltk,by rw[HS2.out];exact HK4.out⟩,meas_up hltk (HWK.out k hltk)⟩
       ·have q1:((i:Int) != (p:Int))=true:=by simp;omega
        have HIP:Hid (decide (i≠p)=true):=Lib.hid (decide_eq_true hip)
        by_cases hk1:t.kind=1
        ·have q2:(t.kind == 1)=true:=by simpa using hk1
         have HK1:Hid (decide (t.kind=1)=true):=Lib.hid (decide_eq_true hk1)
         by_cases hpe:t.peer=r.name
         ·have q3:(t.peer.toList == r.name.toList)=true:=by rw[str_beq,decide_eq_true hpe]
          have HPE:Hid (decide (t.peer=r.name)=true):=Lib.hid (decide_eq_true hpe)
          clear hip hk1 hpe
          cases hd with
          | true =>
            have HS2:Hid (nevSteps s i p (nevPeers s i (nevRoles s i) p) (k + 1)=L):=Lib.hid (by rw[HSN.out,HNT.out];simp)
            go_wp2
            exact⟨⟨k + 1,congrArg (Value.int .i64) (HWK.out k hltk),hltk,by rw[HS2.out];exact HK4.out⟩,meas_up hltk (HWK.out k hltk)⟩
          | false =>
            have HS1:Hid (nevSteps s i p (nevPeers s i (nevRoles s i) p) (k + 1)=addNew L ⟨i,p,t.msg⟩):=Lib.hid (by rw[HSN.out,HNT.out,HIP.out,HK1.out,HPE.out];rfl)
            have CC:=Lib.hid (coSp_any (.slice av2 L.length cv3) L ⟨i,p,t.msg⟩ w4 (su_arr HK4.out.row) (by have:=HLL.out;omega))
            by_cases hmem:(⟨i,p,t.msg⟩:Sp)∈L
            ·have HS2:Hid (nevSteps s i p (nevPeers s i (nevRoles s i) p) (k + 1)=L):=Lib.hid (by rw[HS1.out];unfold addNew;rw[if_pos hmem])
             rw[decide_eq_true hmem] at CC
             clear hmem
             go_wp2_with (first
              | (go_at_call 78;go_must (refine CC.out.mono ?_;rintro e w5 ⟨rfl,hf5⟩;have HF5:=Lib.hid hf5;clear hf5 CC)))
             exact⟨⟨k + 1,congrArg (Value.int .i64) (HWK.out k hltk),hltk,by rw[HS2.out];exact⟨HK4.out.fr.trans HF5.out,HF5.out.owns HK4.out.row (by simp),HK4.out.kt.trans (Kt.frm HF5.out)⟩⟩,meas_up hltk (HWK.out k hltk)⟩
            ·have HS2:Hid (nevSteps s i p (nevPeers s i (nevRoles s i) p) (k + 1)=L ++ [⟨i,p,t.msg⟩]):=Lib.hid (by rw[HS1.out];unfold addNew;rw[if_neg hmem])
             rw[decide_eq_false hmem] at CC
             clear hmem
             go_upto_region 13 with (first
              | (go_at_call 78;go_must (refine CC.out.mono ?_;rintro e w5 ⟨rfl,hf5⟩;have HF5:=Lib.hid hf5;clear hf5 CC)))
             clear e2 e4 r0 u0 u1 u2
             have HK5:Hid (NvI w V1 L (.slice av2 L.length cv3) w5):=Lib.hid ⟨HK4.out.fr.trans HF5.out,HF5.out.owns HK4.out.row (by simp),HK4.out.kt.trans (Kt.frm HF5.out)⟩
             have hu:=HF5.out.at Q94.out (by simp)
             have u0:=cell_of hu 0
             have u1:=cell_of hu 1
             have u2:=cell_of hu 2
             obtain⟨i0,hi0,hz0,hz1,hz2⟩:=info_parts Tryz.infoSu
             have hsz:w.heap.size≤(w5.alloc (.cells #[.int .i64 i,.int .i64 p,.string t.msg] 63)).heap.size:=by have:=HK5.out.fr.size;simp;omega
             have hLL:=HLL.out
             clear hu
             go_wp2_with (at_builtin;refine wpList_append_own_at _ rfl _ _ 71 rfl w.heap.size 63 i0 (.agg #[.int .i64 0,.int .i64 0,.string { data:=#[] }]) 3 32 Tryz.underlying71 hi0 hz0 hz1 hz2 rfl (by decide) (.slice av2 L.length cv3) L.length (suC L) rfl (HK5.out.row.alloc _) ⟨w5.heap.size,0,none⟩ 1 1 (suC1 ⟨i,p,t.msg⟩) rfl rfl (new_row _ _ _) (by simp[suC1,Value.oneCell']) (by unfold maxLen;omega) (by omega) hsz ?_;intro v' w6 hown' hgrow _ _;obtain⟨ao',cp',rfl⟩:=own_shape hown';have HG:=Lib.hid hgrow;have HO:=Lib.hid hown';clear hgrow hown')
             have hge:∀ q,(Value.slice av2 L.length cv3).ownBlock=some q→w.heap.size≤q:=fun q hq=>ownBlock_ge HK5.out.row hq
             have HK6:Hid (NvI w V1 (L ++ [⟨i,p,t.msg⟩]) (.slice ao' (L.length + 1) cp') w6):=Lib.hid ⟨(HK5.out.fr.alloc _).grown HG.out (fun q hq=>.inr (hge q hq)),by rw[suC_append,List.length_append];exact HO.out,(HK5.out.kt.alloc _).grown HG.out (fun q hq=>by
              obtain⟨c,hc⟩:=ownBlock_type HK5.out.row hq
              exact⟨c,63,(0,0),alloc_at hc,by simp⟩)⟩
             exact⟨⟨k + 1,congrArg (Value.int .i64) (HWK.out k hltk),hltk,by rw[HS2.out];exact HK6.out⟩,meas_up hltk (HWK.out k hltk)⟩
         ·have q3:(t.peer.toList == r.name.toList)=false:=by rw[str_beq,decide_eq_false hpe]
          have HS2:Hid (nevSteps s i p (nevPeers s i (nevRoles s i) p) (k + 1)=L):=Lib.hid (by rw[HSN.out,HNT.out,decide_eq_false hpe];simp)
          clear hip hk1 hpe
          go_wp2
          exact⟨⟨k + 1,congrArg (Value.int .i64) (HWK.out k hltk),hltk,by rw[HS2.out];exact HK4.out⟩,meas_up hltk (HWK.out k hltk)⟩
        ·have q2:(t.kind == 1)=false:=by simpa using hk1
         have HS2:Hid (nevSteps s i p (nevPeers s i (nevRoles s i) p) (k + 1)=L):=Lib.hid (by rw[HSN.out,HNT.out,decide_eq_false hk1];simp)
         clear hip hk1
         go_wp2
         exact⟨⟨k + 1,congrArg (Value.int .i64) (HWK.out k hltk),hltk,by rw[HS2.out];exact HK4.out⟩,meas_up hltk (HWK.out k hltk)⟩
      ·obtain rfl:m=k:=by omega
       have hge:¬ (m:Int) < (m:Int):=by omega
       have HP1:Hid (NvI w V0 (nevPeers s i (nevRoles s i) (p + 1)) (.slice av2 (nevSteps s i p (nevPeers s i (nevRoles s i) p) m).length cv3) wc):=Lib.hid (by
        rw[nevPeers,HOO.out,HMm.out]
        exact⟨HK.out.fr,HK.out.row,KT1.out.trans HK.out.kt⟩)
       go_wp2
       exact⟨⟨p + 1,congrArg (Value.int .i64) (HWI.out p hltp),hltp,HP1.out⟩,meas_up hltp (HWI.out p hltp)⟩
    ·obtain rfl:n=p:=by omega
     have hge:¬ (n:Int) < (n:Int):=by omega
     have HR1:Hid (NvI w W0 (nevRoles s (i + 1)) (.slice av1 (nevPeers s i (nevRoles s i) n).length cv1) wb):=Lib.hid (by
      rw[nevRoles,HN.out]
      exact⟨HJ.out.fr,HJ.out.row,KT0.out.trans HJ.out.kt⟩)
     go_wp2
     exact⟨⟨i + 1,congrArg (Value.int .i64) (HWI.out i hlt),hlt,HR1.out⟩,meas_up hlt (HWI.out i hlt)⟩
  ·obtain rfl:n=i:=by omega
   have hge:¬ (n:Int) < (n:Int):=by omega
   go_wp2
   go_ret
   exact⟨_,rfl,by have:=HI.out.row;unfold neverP;rw[HN.out];exact this,HI.out.fr⟩
end Go.Proofs.YtemjlpahohmajaaGreat
