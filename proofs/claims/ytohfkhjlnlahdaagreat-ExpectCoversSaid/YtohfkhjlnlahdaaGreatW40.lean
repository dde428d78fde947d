/- Part of the proof. -/
import Derived.Test.YtohfkhjlnlahdaaGreatW26
import Derived.Test.YtohfkhjlnlahdaaGreatW30
import Derived.Test.YtohfkhjlnlahdaaGreatW39
import Derived.Test.YtohfkhjlnlahdaaGreatW34
import Derived.Test.YtohfkhjlnlahdaaGreatW35
import Derived.Sort.BigQuietIn
import Derived.Deep.OwnRows
set_option linter.all false
namespace Go.Proofs.YtohfkhjlnlahdaaGreat
open Go.RowKit Go.BigFrame
theorem rolIx_back {s:SesD} {i:Nat} (hi:i < s.roles.length):(rolIx s (s.rol i).name < i→∃ k,k < i∧(s.rol k).name=(s.rol i).name)∧((∃ k,k < i∧(s.rol k).name=(s.rol i).name)→rolIx s (s.rol i).name < i):=by
 have hm:s.roles[i]?=some (s.rol i):=SesD.rol_some hi
 constructor
 ·intro h
  have h0:0≤rolIx s (s.rol i).name:=ixf_ex (List.mem_of_getElem? hm) (by simp)
  obtain⟨k,hk,-⟩:=ixf_nat h0
  obtain⟨x,h1,h2,-⟩:=ixf_at hk
  refine⟨k,by unfold rolIx at h;omega,?_⟩
  rw[show s.rol k=x from getD_some h1]
  simpa using h2
 ·rintro⟨k,hk,he⟩
  have hk':s.roles[k]?=some (s.rol k):=SesD.rol_some (by omega)
  have:=ixf_le (p:=fun r:RolD=>decide (r.name=(s.rol i).name)) hk' (by simpa using he)
  unfold rolIx
  omega
def knownB (s:SesD) (x:StpD) (n:Nat):Bool:=decide (2 < x.kind) || (s.roles.take n).any fun r=>decide (r.name=x.peer)
theorem knownB_all {s:SesD} {x:StpD} (hk:1≤x.kind∧x.kind≤4):knownB s x s.roles.length=!(speaks x && decide (rolIx s x.peer < 0)):=by
 unfold knownB speaks
 rw[List.take_length]
 have e:decide (rolIx s x.peer < 0)=!s.roles.any fun r=>decide (r.name=x.peer):=by
  rw[← ixf_anyB]
  unfold rolIx
  by_cases h:ixf (fun r:RolD=>decide (r.name=x.peer)) s.roles < 0
  ·rw[decide_eq_true h,decide_eq_false (p:=0≤ixf (fun r:RolD=>decide (r.name=x.peer)) s.roles) (by omega)];rfl
  ·rw[decide_eq_false h,decide_eq_true (p:=0≤ixf (fun r:RolD=>decide (r.name=x.peer)) s.roles) (by omega)];rfl
 rw[e]
 have e2:decide (2 < x.kind)=!(decide (x.kind=1) || decide (x.kind=2)):=by
  rw[Bool.eq_iff_iff]
  simp
  omega
 rw[e2]
 cases decide (x.kind=1) || decide (x.kind=2) <;> cases s.roles.any fun r=>decide (r.name=x.peer) <;> rfl
theorem knownB_succ {s:SesD} {x:StpD} {n:Nat} (h:n < s.roles.length):knownB s x (n + 1)=(knownB s x n || decide ((s.rol n).name=x.peer)):=by
 unfold knownB
 rw[List.take_add_one,SesD.rol_some h]
 simp[Bool.or_assoc]
theorem ckRole_kind {r:RolD} (h:ckRole r=0):∀ x∈r.steps,1≤x.kind∧x.kind≤4:=by
 intro x hx
 obtain⟨i,hi⟩:=List.getElem?_of_mem hx
 have h1:stepB r i x=true:=by
  unfold ckRole at h
  repeat' split at h
  all_goals first | omega | skip
  rename_i h4
  have:=h4
  have ha:anyIx (fun i s=>!stepB r i s) 0 r.steps=false:=by
   cases hb:anyIx (fun i s=>!stepB r i s) 0 r.steps with
   | false=>rfl
   | true=>exact absurd (.inr hb) h4
  have:=(anyIx_false.1 ha) i x hi
  rw[Nat.zero_add] at this
  simpa using this
 unfold stepB at h1
 split at h1
 ·cases h1
 ·simp only[Bool.and_eq_true] at h1
  have hk:=h1.1.2
  unfold kindB at hk
  repeat' split at hk
  all_goals first | omega | cases hk
set_option maxHeartbeats 4000000 in
set_option maxRecDepth 100000 in
theorem aSes_any (v:Value) (s:SesD) (w:World) (h:SesV w v s) (hs:SmS s):Calls Tryz.prog 55 #[v] w (RetV fun u w'=>∃ i,u=.tuple #[.int .i64 i,.int .i64 (ckSes s)]∧Frm [] w w'):=by
 obtain⟨rv,rfl,hr⟩:=h
 obtain⟨ao,cap,e,-⟩:=id hr
 subst e
 have HSM:=Lib.hid hs
 have HRL:=Lib.hid hr
 have CN:Hid (∀ V,Calls Tryz.prog 115 #[.string s.name] V (Ret (.bool (nameB s.name)) (Frm [] V))):=Lib.hid fun V=>aName_any s.name V
 have HCK:Hid (ckSes s=if nameB s.name=false then 290 else if sesBad s=true then 2 else if firstE s 0 s.roles=0 then (if s.roles.any (lostB s)=true then 294 else 0) else firstE s 0 s.roles):=Lib.hid rfl
 obtain⟨ck,hck⟩:∃ c,ckSes s=c:=⟨_,rfl⟩
 rw[hck] at HCK ⊢
 have HW:=Lib.hid (ses_ways s)
 obtain⟨n,hn⟩:∃ n,s.roles.length=n:=⟨_,rfl⟩
 rw[hn] at HW HRL ⊢
 have HN:=Lib.hid hn
 have bn:n≤100:=by rw[← hn];exact hs.n
 obtain⟨W0,hW0⟩:∃ W0,w.alloc (.cells #[.string s.name,.slice ao n cap,.int .i64 s.cls,.int .i64 s.cap] 25)=W0:=⟨_,rfl⟩
 have hf0:Frm [] w W0:=by rw[← hW0];exact(Frm.refl [] w).alloc _
 have HF0:=Lib.hid hf0
 have HCL:Hid (∀ V,Frm [] W0 V→V.cell? ⟨w.heap.size,0,none⟩=some (.string s.name)∧V.cell? ⟨w.heap.size,1,none⟩=some (.slice ao n cap)∧V.cell? ⟨w.heap.size,2,none⟩=some (.int .i64 s.cls)∧V.cell? ⟨w.heap.size,3,none⟩=some (.int .i64 s.cap)):=Lib.hid fun V hV=>by
  have hb:W0.heap[w.heap.size]?=some (.cells #[.string s.name,.slice ao n cap,.int .i64 s.cls,.int .i64 s.cap] 25 (0,0)):=by rw[← hW0];exact heap_alloc_new _ _
  exact⟨hV.keep (cell_of hb 0),hV.keep (cell_of hb 1),hV.keep (cell_of hb 2),hV.keep (cell_of hb 3)⟩
 have HRL0:Hid (∀ V,Frm [] W0 V→Rls V (.slice ao n cap) s.roles):=Lib.hid fun V hV=>HRL.out.frm (hf0.trans hV)
 have HE:=Lib.hid hW0
 obtain⟨q0,hq0⟩:∃ q,nameB s.name=q:=⟨_,rfl⟩
 rw[hq0] at CN HCK
 clear hr hs hck hn hf0 hW0 hq0 HRL
 go_enter Tryz.func55,Tryz.ntmps55
 go_upto_region 1 with (first | (refine wpList_box_row rfl 25 _ rfl _ rfl ?_;rw[HE.out]))
 clear HE
 obtain⟨e0,e1,e2,e3⟩:=HCL.out W0 (Frm.refl _ _)
 cases q0 with
 | false =>
   have HCK:Hid (ck=290):=Lib.hid (by rw[HCK.out,if_pos rfl])
   go_wp2_with (first
    | (go_at_call 115;go_must (refine(CN.out _).mono ?_;rintro e w1 ⟨rfl,hf1⟩;have HF1:=Lib.hid (HF0.out.trans hf1);clear hf1)))
   go_ret2
   first | exact⟨_,rfl,_,by rw[HCK.out];rfl,HF1.out⟩ | exact⟨_,rfl,⟨_,by rw[HCK.out];rfl⟩,HF1.out⟩ | exact⟨_,rfl,by rw[HCK.out];rfl,HF1.out⟩
 | true =>
   rw[if_neg (by decide)] at HCK
   rcases HW.out with hb | ⟨hb,hw⟩
   ·have hg:=ses_good hb
    rw[hb,if_neg (by decide)] at HCK
    have hc1:decide ((n:Int) < 2)=false:=decide_eq_false (by rw[← HN.out];omega)
    have hc2:decide (4 < (n:Int))=false:=decide_eq_false (by rw[← HN.out];omega)
    have hc3:decide (s.cls < 1)=false:=decide_eq_false (by omega)
    have hc4:decide (3 < s.cls)=false:=decide_eq_false (by omega)
    have hc5:decide (s.cap < 1)=false:=decide_eq_false (by omega)
    have hc6:decide (4 < s.cap)=false:=decide_eq_false (by omega)
    clear hg hb HW
    go_wp2_with (first
     | (go_at_call 115;go_must (refine(CN.out _).mono ?_;rintro e w1 ⟨rfl,hf1⟩;have HF1:=Lib.hid hf1;clear e0 e1 e2 e3;obtain⟨e0,e1,e2,e3⟩:=HCL.out w1 hf1;clear hf1)))
    clear CN hc1 hc2 hc3 hc4 hc5 hc6 e0 e1 e2 e3
    go_loopw [4] (fun s4 wr=>∃ i:Nat,s4=.int .i64 i∧i≤n∧Frm [] W0 wr∧∀ j,j < i→rolE s j (s.rol j)=0) (fun s4 _=>n - (intOf s4).toNat)
    case atStart=>exact⟨0,rfl,Nat.zero_le _,HF1.out,fun j hj=>by omega⟩
    case round =>
     clear HF1
     obtain⟨i,rfl,hi,hf,hno⟩:=hrel
     have HF:=Lib.hid hf;have HNO:=Lib.hid hno
     clear hf hno
     obtain⟨w9,hw9⟩:∃ w9,w9=wr:=⟨_,rfl⟩
     subst hw9
     obtain⟨e0,e1,e2,e3⟩:=HCL.out w9 HF.out
     by_cases hlt:i < n
     ·have hlt':(i:Int) < (n:Int):=by omega
      have hin:i < s.roles.length:=by rw[HN.out];exact hlt
      obtain⟨b,o,sv,cv,tv,rfl,⟨d0,d1,d2,d3⟩,h3⟩:=Rls.at (HRL0.out w9 HF.out) hin
      obtain⟨aS,cs,es,-⟩:=id h3.sts
      obtain⟨ac,cc,ec,-⟩:=id h3.ctrs
      obtain⟨at',ct,et,-⟩:=id h3.steps
      subst es;subst ec;subst et
      have hmem:s.rol i∈s.roles:=List.mem_of_getElem? (SesD.rol_some hin)
      have CR:Hid (Calls Tryz.prog 116 #[.agg #[.string (s.rol i).name,.slice aS (s.rol i).sts.length cs,.slice ac (s.rol i).ctrs.length cc,.slice at' (s.rol i).steps.length ct]] w9 (RetV fun u w'=>∃ i',u=.tuple #[.int .i64 i',.int .i64 (ckRole (s.rol i))]∧Frm [] w9 w')):=Lib.hid
       (aCheck_any _ (s.rol i) w9 ⟨_,_,_,rfl,h3⟩ (HSM.out.r _ hmem))
      have HRE:Hid (rolE s i (s.rol i)=if ckRole (s.rol i)=0 then (if rolIx s (s.rol i).name < i then 290 else 0) else ckRole (s.rol i)):=Lib.hid rfl
      have HFE:Hid (rolE s i (s.rol i)≠0→firstE s 0 s.roles=rolE s i (s.rol i)):=Lib.hid fun hne=>by
       have:=firstE_hit s s.roles 0 i hin (fun j hj=>by rw[Nat.zero_add];exact HNO.out j hj) (by rw[Nat.zero_add];exact hne)
       rw[Nat.zero_add] at this
       exact this
      have HBK:=Lib.hid (rolIx_back hin)
      obtain⟨c,hc⟩:∃ c,ckRole (s.rol i)=c:=⟨_,rfl⟩
      obtain⟨q,hq⟩:∃ q,rolIx s (s.rol i).name=q:=⟨_,rfl⟩
      obtain⟨re,hre⟩:∃ q,rolE s i (s.rol i)=q:=⟨_,rfl⟩
      obtain⟨nm,hnm⟩:∃ q,(s.rol i).name=q:=⟨_,rfl⟩
      obtain⟨n1,hn1⟩:∃ q,(s.rol i).sts.length=q:=⟨_,rfl⟩
      obtain⟨n2,hn2⟩:∃ q,(s.rol i).ctrs.length=q:=⟨_,rfl⟩
      obtain⟨n3,hn3⟩:∃ q,(s.rol i).steps.length=q:=⟨_,rfl⟩
      rw[hc] at CR HRE;rw[hq] at HBK HRE;rw[hre] at HRE HFE;rw[hnm] at CR HBK d0;rw[hn1] at CR d1;rw[hn2] at CR d2;rw[hn3] at CR d3
      have HREI:=Lib.hid hre
      have HNM:=Lib.hid hnm
      clear h3 hmem hin hc hq hre hnm hn1 hn2 hn3
      by_cases hc:c=0
      ·have q1:(c == 0)=true:=by simpa using hc
       have q2:(c != 0)=false:=by simpa using hc
       rw[if_pos hc] at HRE
       clear hc
       go_wp2_with (first
        | (go_at_call 116;go_must (refine CR.out.mono ?_;rintro e w2 ⟨u,rfl,i',rfl,hf2⟩;have HF2:Hid (Frm [] W0 w2):=Lib.hid (HF.out.trans hf2);clear hf2)))
       clear e0 e1 e2 e3 d0 d1 d2 d3 CR
       go_loopw [7] (fun s7 wl=>∃ k:Nat,s7=.int .i64 k∧k≤i∧Frm [] W0 wl∧∀ j,j < k→decide ((s.rol j).name=nm)=false) (fun s7 _=>i - (intOf s7).toNat)
       case atStart=>exact⟨0,rfl,Nat.zero_le _,HF2.out,fun j hj=>by omega⟩
       case round =>
        clear HF2
        obtain⟨k,rfl,hk,hf,hnk⟩:=hrel
        have HFK:=Lib.hid hf;have HNK:=Lib.hid hnk
        clear hf hnk
        obtain⟨w8,hw8⟩:∃ w8,w8=wr:=⟨_,rfl⟩
        subst hw8
        obtain⟨e0,e1,e2,e3⟩:=HCL.out w8 HFK.out
        by_cases hlk:k < i
        ·have hlk':(k:Int) < (i:Int):=by omega
         have hlkn:(k:Int) < (n:Int):=by omega
         obtain⟨b',o',-,-,-,eb,⟨g0,-⟩,-⟩:=Rls.at (HRL0.out w8 HFK.out) (i:=k) (by rw[HN.out];omega)
         cases eb
         obtain⟨b',o',-,-,-,eb,⟨g1,-⟩,-⟩:=Rls.at (HRL0.out w8 HFK.out) (i:=i) (by rw[HN.out];omega)
         cases eb
         rw[HNM.out] at g1
         have HG:Hid (∀ V,Frm [] w8 V→(V.cell? ⟨b,o + k * 4,none⟩=some (.string (s.rol k).name)∧V.cell? ⟨b,o + i * 4,none⟩=some (.string nm))∧V.cell? ⟨w.heap.size,1,none⟩=some (.slice (some ⟨b,o,none⟩) n cap)):=Lib.hid fun V hV=>⟨⟨hV.keep g0,hV.keep g1⟩,hV.keep e1⟩
         have hsb:((s.rol k).name.toList == nm.toList)=decide ((s.rol k).name=nm):=str_beq _ _
         clear g0 g1
         cases hpx:decide ((s.rol k).name=nm) with
         | true =>
           rw[hpx] at hsb
           have HCK:Hid (ck=290):=Lib.hid (by
            have hx:q < i:=HBK.out.2 ⟨k,hlk,by simpa using hpx⟩
            have hz:re=290:=by rw[HRE.out,if_pos hx]
            rw[HCK.out,HFE.out (by rw[hz];decide),hz];rfl)
           clear HFE HRE HREI hpx
           go_upto_region 14 with fail
           refine wp_region_cq (by kernel_rfl) (by kernel_rfl) ?_
           repeat (first
            | go_big_quiet_skip
            | (refine wpQuiet_want (by rfl) (fun K hK=>?_)
               first
                | (refine quiet_move _ (by rfl) (hK _ ?_))
                | (refine quiet_assign _ (by rfl) (hK _ ?_))
                | (apply Exists.intro
                   refine⟨fun w' hC=>?_,hK _ ?_⟩
                   ·(unfold Oper.quietAt
                     obtain⟨⟨g0,g1⟩,e1⟩:=HG.out w' hC
                     clear hC
                     go_simp
                     try exact⟨rfl,rfl⟩
                     try rfl))
               clear hK K
               try simp only[nrm,Act.eval,nrq]))
           refine wpQuiet_nil ?_
           intro w5 hf5
           go_wp2
           go_ret2
           first | exact⟨_,rfl,_,by rw[HCK.out];rfl,HF0.out.trans (HFK.out.trans hf5)⟩ | exact⟨_,rfl,⟨_,by rw[HCK.out];rfl⟩,HF0.out.trans (HFK.out.trans hf5)⟩ | exact⟨_,rfl,by rw[HCK.out];rfl,HF0.out.trans (HFK.out.trans hf5)⟩
         | false =>
           rw[hpx] at hsb
           have HPX:=Lib.hid hpx
           clear HFE HRE HREI hpx
           go_upto_region 14 with fail
           refine wp_region_cq (by kernel_rfl) (by kernel_rfl) ?_
           repeat (first
            | go_big_quiet_skip
            | (refine wpQuiet_want (by rfl) (fun K hK=>?_)
               first
                | (refine quiet_move _ (by rfl) (hK _ ?_))
                | (refine quiet_assign _ (by rfl) (hK _ ?_))
                | (apply Exists.intro
                   refine⟨fun w' hC=>?_,hK _ ?_⟩
                   ·(unfold Oper.quietAt
                     obtain⟨⟨g0,g1⟩,e1⟩:=HG.out w' hC
                     clear hC
                     go_simp
                     try exact⟨rfl,rfl⟩
                     try rfl))
               clear hK K
               try simp only[nrm,Act.eval,nrq]))
           refine wpQuiet_nil ?_
           intro w5 hf5
           go_wp2
           refine⟨⟨k + 1,congrArg (Value.int .i64) (by omega),hlk,HFK.out.trans hf5,fun j hj=>?_⟩,by simp[intOf];omega⟩
           by_cases e:j=k
           ·subst e;exact HPX.out
           ·exact HNK.out j (by omega)
        ·obtain rfl:i=k:=by omega
         have hge:¬ (i:Int) < (i:Int):=by omega
         have hz:re=0:=by
          rw[HRE.out,if_neg]
          intro hx
          obtain⟨j,hj,he⟩:=HBK.out.1 hx
          have:=HNK.out j hj
          simp[he] at this
         have HZ:=Lib.hid hz
         clear hz HFE HRE
         go_wp2
         refine⟨⟨i + 1,congrArg (Value.int .i64) (by omega),hlt,HFK.out,fun j hj=>?_⟩,by simp[intOf];omega⟩
         by_cases e:j=i
         ·subst e;rw[HREI.out,HZ.out]
         ·exact HNO.out j (by omega)
      ·have q1:(c == 0)=false:=by simpa using hc
       have q2:(c != 0)=true:=by simpa using hc
       rw[if_neg hc] at HRE
       have HCK:Hid (ck=c):=Lib.hid (by
        have h1:=HFE.out (by rw[HRE.out];exact hc)
        rw[HCK.out,h1,HRE.out,if_neg hc])
       clear hc HFE HRE HREI
       go_wp2_with (first
        | (go_at_call 116;go_must (refine CR.out.mono ?_;rintro e w2 ⟨u,rfl,i',rfl,hf2⟩;have HF2:Hid (Frm [] W0 w2):=Lib.hid (HF.out.trans hf2);clear hf2)))
       go_ret2
       first | exact⟨_,rfl,_,by rw[HCK.out];rfl,HF0.out.trans HF2.out⟩ | exact⟨_,rfl,⟨_,by rw[HCK.out];rfl⟩,HF0.out.trans HF2.out⟩ | exact⟨_,rfl,by rw[HCK.out];rfl,HF0.out.trans HF2.out⟩
     ·obtain rfl:n=i:=by omega
      have hge:¬ (n:Int) < (n:Int):=by omega
      have hfe:firstE s 0 s.roles=0:=firstE_go s s.roles 0 (fun j hj=>by rw[Nat.zero_add];exact HNO.out j (by rw[HN.out] at hj;exact hj))
      have HCK:=Lib.hid HCK.out
      rw[hfe,if_pos rfl] at HCK
      have HKD:Hid (∀ j,j < n→∀ x∈(s.rol j).steps,1≤x.kind∧x.kind≤4):=Lib.hid fun j hj=>by
       have h1:=HNO.out j hj
       refine ckRole_kind ?_
       unfold rolE at h1
       by_cases hz:ckRole (s.rol j)=0
       ·exact hz
       ·rw[if_neg hz] at h1;exact h1
      obtain⟨lb,hlb⟩:∃ b,s.roles.any (lostB s)=b:=⟨_,rfl⟩
      rw[hlb] at HCK
      have HLB:=Lib.hid hlb
      have HFn:=HF
      clear hfe hlb HNO HF hlt hi
      go_wp2
      clear e0 e1 e2 e3 hge
      go_loopw [8] (fun s8 wl=>∃ a:Nat,s8=.int .i64 a∧a≤n∧Frm [] W0 wl∧∀ j,j < a→lostB s (s.rol j)=false) (fun s8 _=>n - (intOf s8).toNat)
      case atStart=>exact⟨0,rfl,Nat.zero_le _,HFn.out,fun j hj=>by omega⟩
      case round =>
       clear HFn
       obtain⟨a,rfl,ha,hf,hno⟩:=hrel
       have HF:=Lib.hid hf;have HNO:=Lib.hid hno
       clear hf hno
       obtain⟨w7,hw7⟩:∃ w7,w7=wr:=⟨_,rfl⟩
       subst hw7
       obtain⟨e0,e1,e2,e3⟩:=HCL.out w7 HF.out
       by_cases hlt:a < n
       ·have hlt':(a:Int) < (n:Int):=by omega
        have hin:a < s.roles.length:=by rw[HN.out];exact hlt
        have HROL:Hid (∀ V,Frm [] W0 V→∃ b o sv cv tv,ao=some ⟨b,o,none⟩ ∧
         (V.cell? ⟨b,o + a * 4,none⟩=some (.string (s.rol a).name)∧V.cell? ⟨b,o + a * 4 + 1,none⟩=some sv∧V.cell? ⟨b,o + a * 4 + 2,none⟩=some cv∧V.cell? ⟨b,o + a * 4 + 3,none⟩=some tv)∧Rl3 V sv cv tv (s.rol a)):=Lib.hid fun V hV=>Rls.at (HRL0.out V hV) hin
        have HHIT:Hid (lostB s (s.rol a)=true→lb=true):=Lib.hid fun h=>by rw[← HLB.out,List.any_eq_true];exact⟨_,List.mem_of_getElem? (SesD.rol_some hin),h⟩
        obtain⟨b,o,sv,cv,tv,rfl,⟨-,-,-,d3⟩,h3⟩:=HROL.out W0 (Frm.refl _ _)
        obtain⟨at',ct,et,htt⟩:=h3.steps
        subst et
        obtain⟨n3,hn3⟩:∃ q,(s.rol a).steps.length=q:=⟨_,rfl⟩
        have hb3:n3≤100:=by rw[← hn3];exact(HSM.out.r _ (List.mem_of_getElem? (SesD.rol_some hin))).t
        have HN3:=Lib.hid hn3
        rw[hn3] at d3
        have HD3:Hid (∀ V,Frm [] W0 V→V.cell? ⟨b,o + a * 4 + 3,none⟩=some (.slice at' n3 ct)):=Lib.hid fun V hV=>hV.keep d3
        have HTT:=Lib.hid htt
        clear hn3 d3 h3 htt hin HROL e0 e1 e2 e3
        obtain⟨e0,e1,e2,e3⟩:=HCL.out w7 HF.out
        go_upto_region 20 with fail
        clear e0 e1 e2 e3
        go_loopw [9] (fun s9 wl=>∃ k:Nat,s9=.int .i64 k∧k≤n3∧Frm [] W0 wl∧∀ j t,j < k→(s.rol a).steps[j]?=some t→(speaks t && decide (rolIx s t.peer < 0))=false) (fun s9 _=>n3 - (intOf s9).toNat)
        case atStart=>exact⟨0,rfl,Nat.zero_le _,HF.out,fun j t hj=>by omega⟩
        case round =>
         clear HF
         obtain⟨k,rfl,hk,hf,hnk⟩:=hrel
         have HF:=Lib.hid hf;have HNK:=Lib.hid hnk
         clear hf hnk
         obtain⟨w6,hw6⟩:∃ w6,w6=wr:=⟨_,rfl⟩
         subst hw6
         obtain⟨e0,e1,e2,e3⟩:=HCL.out w6 HF.out
         have d3:=HD3.out w6 HF.out
         by_cases hlk:k < n3
         ·have hlk':(k:Int) < (n3:Int):=by omega
          obtain⟨x,hx⟩:∃ x,(s.rol a).steps[k]?=some x:=⟨_,List.getElem?_eq_getElem (by rw[HN3.out];exact hlk)⟩
          obtain⟨bt,ot,rfl,hat⟩:=HTT.out k x hx
          obtain⟨c0,c1,c2,c3,c4,c5,c6,c7,c8⟩:=hat.frm HF.out
          have HKX:=Lib.hid (HKD.out a hlt x (List.mem_of_getElem? hx))
          have HX:=Lib.hid hx
          have hb0:=cell_lt c0
          obtain⟨X,hX⟩:∃ X,w6.alloc (.cells #[.string x.frm,.string x.to,.int .i64 x.kind,.string x.msg,.string x.peer,.string x.ctr,.int .i64 x.low,.int .i64 x.high,.int .i64 x.add] 137)=X:=⟨_,rfl⟩
          have HX6:Hid (Frm [] W0 X):=Lib.hid (by rw[← hX];exact HF.out.alloc _)
          have HT:Hid (∀ V,Frm [] X V→V.cell? ⟨w6.heap.size,2,none⟩=some (.int .i64 x.kind)∧V.cell? ⟨w6.heap.size,4,none⟩=some (.string x.peer)):=Lib.hid fun V hV=>by
           have hb:X.heap[w6.heap.size]?=some (.cells #[.string x.frm,.string x.to,.int .i64 x.kind,.string x.msg,.string x.peer,.string x.ctr,.int .i64 x.low,.int .i64 x.high,.int .i64 x.add] 137 (0,0)):=by rw[← hX];exact heap_alloc_new _ _
           exact⟨hV.keep (cell_of hb 2),hV.keep (cell_of hb 4)⟩
          have HE:=Lib.hid hX
          clear hat hx hX
          go_upto_region 23 with fail
          rw[HE.out]
          clear HE c0 c1 c2 c3 c4 c5 c6 c7 c8 hb0 e0 e1 e2 e3 d3
          obtain⟨t2,t4⟩:=HT.out X (Frm.refl _ _)
          go_upto_region 25 with fail
          clear t2 t4
          have HKB0:Hid (knownB s x 0=decide (2 < x.kind)):=Lib.hid (by simp[knownB])
          go_loopw [12,11] (fun s12 s11 wl=>∃ m:Nat,(s12=.int .i64 m∧s11=.bool (knownB s x m))∧m≤n∧Frm [] X wl) (fun s12 _ _=>n - (intOf s12).toNat)
          case atStart=>exact⟨0,⟨rfl,by rw[HKB0.out]⟩,Nat.zero_le _,Frm.refl _ _⟩
          case round =>
           obtain⟨m,⟨rfl,rfl⟩,hm,hf⟩:=hrel
           have HFM:=Lib.hid hf
           clear hf
           obtain⟨w5,hw5⟩:∃ w5,w5=wr:=⟨_,rfl⟩
           subst hw5
           obtain⟨e0,e1,e2,e3⟩:=HCL.out w5 (HX6.out.trans HFM.out)
           by_cases hlm:m < n
           ·have hlm':(m:Int) < (n:Int):=by omega
            have HKS:=Lib.hid (knownB_succ (s:=s) (x:=x) (n:=m) (by rw[HN.out];exact hlm))
            obtain⟨b',o',-,-,-,eb,⟨g0,-⟩,-⟩:=Rls.at (HRL0.out w5 (HX6.out.trans HFM.out)) (i:=m) (by rw[HN.out];omega)
            cases eb
            obtain⟨kb,hkb⟩:∃ kb,knownB s x m=kb:=⟨_,rfl⟩
            rw[hkb] at HKS ⊢
            obtain⟨-,t4⟩:=HT.out w5 HFM.out
            have hsb:((s.rol m).name.toList == x.peer.toList)=decide ((s.rol m).name=x.peer):=str_beq _ _
            obtain⟨pb,hpb⟩:∃ pb,decide ((s.rol m).name=x.peer)=pb:=⟨_,rfl⟩
            rw[hpb] at hsb HKS
            have HG:Hid (∀ V,Frm [] w5 V→(V.cell? ⟨b,o + m * 4,none⟩=some (.string (s.rol m).name)∧V.cell? ⟨w6.heap.size,4,none⟩=some (.string x.peer))∧V.cell? ⟨w.heap.size,1,none⟩=some (.slice (some ⟨b,o,none⟩) n cap)):=Lib.hid fun V hV=>⟨⟨hV.keep g0,hV.keep t4⟩,hV.keep e1⟩
            clear hkb hpb g0 t4
            cases kb with
            | true =>
              go_upto_region 27 with fail
              refine wp_region_cq (by kernel_rfl) (by kernel_rfl) ?_
              repeat (first
               | go_big_quiet_skip
               | (refine wpQuiet_want (by rfl) (fun K hK=>?_)
                  first
                   | (refine quiet_move _ (by rfl) (hK _ ?_))
                   | (refine quiet_assign _ (by rfl) (hK _ ?_))
                   | (apply Exists.intro
                      refine⟨fun w' hC=>?_,hK _ ?_⟩
                      ·(unfold Oper.quietAt
                        obtain⟨⟨g0,t4⟩,e1⟩:=HG.out w' hC
                        clear hC
                        go_simp
                        try exact⟨rfl,rfl⟩
                        try rfl))
                  clear hK K
                  try simp only[nrm,Act.eval,nrq]))
              refine wpQuiet_nil ?_
              intro w4 hf4
              go_wp2
              exact⟨⟨m + 1,⟨congrArg (Value.int .i64) (by omega),by rw[HKS.out];rfl⟩,hlm,HFM.out.trans hf4⟩,by simp[intOf];omega⟩
            | false =>
              go_upto_region 27 with fail
              refine wp_region_cq (by kernel_rfl) (by kernel_rfl) ?_
              repeat (first
               | go_big_quiet_skip
               | (refine wpQuiet_want (by rfl) (fun K hK=>?_)
                  first
                   | (refine quiet_move _ (by rfl) (hK _ ?_))
                   | (refine quiet_assign _ (by rfl) (hK _ ?_))
                   | (apply Exists.intro
                      refine⟨fun w' hC=>?_,hK _ ?_⟩
                      ·(unfold Oper.quietAt
                        obtain⟨⟨g0,t4⟩,e1⟩:=HG.out w' hC
                        clear hC
                        go_simp
                        try exact⟨rfl,rfl⟩
                        try rfl))
                  clear hK K
                  try simp only[nrm,Act.eval,nrq]))
              refine wpQuiet_nil ?_
              intro w4 hf4
              go_wp2
              exact⟨⟨m + 1,⟨congrArg (Value.int .i64) (by omega),by rw[HKS.out];rfl⟩,hlm,HFM.out.trans hf4⟩,by simp[intOf];omega⟩
           ·obtain rfl:n=m:=by omega
            have hge:¬ (n:Int) < (n:Int):=by omega
            have HKA:Hid (knownB s x n=!(speaks x && decide (rolIx s x.peer < 0))):=Lib.hid (by
             have:=knownB_all (s:=s) HKX.out
             rw[HN.out] at this
             exact this)
            have HFX:=Lib.hid (HX6.out.trans HFM.out)
            obtain⟨lo,hlo⟩:∃ l,(speaks x && decide (rolIx s x.peer < 0))=l:=⟨_,rfl⟩
            rw[hlo] at HKA
            rw[HKA.out]
            cases lo with
            | true =>
              have HCK:Hid (ck=294):=Lib.hid (by
               have h1:lb=true:=HHIT.out (by unfold lostB;rw[List.any_eq_true];exact⟨x,List.mem_of_getElem? HX.out,hlo⟩)
               rw[HCK.out,h1,if_pos rfl])
              clear hlo HKA HHIT
              go_wp2
              go_ret2
              first | exact⟨_,rfl,_,by rw[HCK.out];rfl,HF0.out.trans HFX.out⟩ | exact⟨_,rfl,⟨_,by rw[HCK.out];rfl⟩,HF0.out.trans HFX.out⟩ | exact⟨_,rfl,by rw[HCK.out];rfl,HF0.out.trans HFX.out⟩
            | false =>
              have HLO:=Lib.hid hlo
              clear hlo HKA
              go_wp2
              refine⟨⟨k + 1,congrArg (Value.int .i64) (by omega),hlk,HFX.out,fun j t hj ht=>?_⟩,by simp[intOf];omega⟩
              by_cases e:j=k
              ·subst e;rw[HX.out] at ht;cases ht;exact HLO.out
              ·exact HNK.out j t (by omega) ht
         ·obtain rfl:n3=k:=by omega
          have hge:¬ (n3:Int) < (n3:Int):=by omega
          have HLO:Hid (lostB s (s.rol a)=false):=Lib.hid (by
           unfold lostB
           rw[List.any_eq_false]
           intro t ht
           obtain⟨j,hj⟩:=List.getElem?_of_mem ht
           rw[HNK.out j t (by have:=lt_of_some hj;rw[HN3.out] at this;exact this) hj]
           decide)
          clear HHIT
          go_wp2
          refine⟨⟨a + 1,congrArg (Value.int .i64) (by omega),hlt,HF.out,fun j hj=>?_⟩,by simp[intOf];omega⟩
          by_cases e:j=a
          ·subst e;exact HLO.out
          ·exact HNO.out j (by omega)
       ·obtain rfl:n=a:=by omega
        have hge:¬ (n:Int) < (n:Int):=by omega
        have hl:lb=false:=by
         rw[← HLB.out,List.any_eq_false]
         intro r hr
         obtain⟨j,hj⟩:=List.getElem?_of_mem hr
         have hjl:=lt_of_some hj
         have h1:=HNO.out j (by rw[HN.out] at hjl;exact hjl)
         rw[show s.rol j=r from getD_some hj] at h1
         rw[h1];decide
        have HCK:Hid (ck=0):=Lib.hid (by rw[HCK.out,hl];rfl)
        clear hl
        go_wp2
        go_ret2
        first | exact⟨_,rfl,_,by rw[HCK.out];rfl,HF0.out.trans HF.out⟩ | exact⟨_,rfl,⟨_,by rw[HCK.out];rfl⟩,HF0.out.trans HF.out⟩ | exact⟨_,rfl,by rw[HCK.out];rfl,HF0.out.trans HF.out⟩
   ·have HCK:Hid (ck=2):=Lib.hid (by rw[HCK.out,hb,if_pos rfl])
    clear hb HW
    rcases hw with h1 | ⟨h1,h2⟩ | ⟨h1,h2,h3⟩ | ⟨h1,h2,h3,h4⟩ | ⟨h1,h2,h3,h4,h5⟩ | ⟨h1,h2,h3,h4,h5,h6⟩
    all_goals
     try have hc1:decide ((n:Int) < 2)=false:=decide_eq_false (by omega)
     try have hc2:decide (4 < (n:Int))=false:=decide_eq_false (by omega)
     try have hc3:decide (s.cls < 1)=false:=decide_eq_false (by omega)
     try have hc4:decide (3 < s.cls)=false:=decide_eq_false (by omega)
     try have hc5:decide (s.cap < 1)=false:=decide_eq_false (by omega)
     go_wp2_with (first
      | (go_at_call 115;go_must (refine(CN.out _).mono ?_;rintro e w1 ⟨rfl,hf1⟩;have HF1:=Lib.hid (HF0.out.trans hf1);clear e0 e1 e2 e3;obtain⟨e0,e1,e2,e3⟩:=HCL.out w1 hf1;clear hf1)))
     go_ret2
     first | exact⟨_,rfl,_,by rw[HCK.out];rfl,HF1.out⟩ | exact⟨_,rfl,⟨_,by rw[HCK.out];rfl⟩,HF1.out⟩ | exact⟨_,rfl,by rw[HCK.out];rfl,HF1.out⟩
end Go.Proofs.YtohfkhjlnlahdaaGreat
namespace Go.Proofs.YtohfkhjlnlahdaaGreat
open Go.RowKit Go.BigFrame
theorem num36_any (e:Int) (W:World):Calls Tryz.prog 17 #[.int .i64 e] W (Ret (.int .i64 e) (W=·)):=by
 go_enter Tryz.func17,Tryz.ntmps17
 go_wp2
 go_ret
 exact⟨rfl,rfl⟩
set_option maxHeartbeats 2000000 in
set_option maxRecDepth 100000 in
theorem moves36_any (v v':Value) (L:List Mv) (w:World) (h:Arr 4 MvAt w v L) (h':Arr 4 MvAt w v' L) (hL:L.length≤1000000):Calls Tryz.prog 33 #[v,v'] w (Ret (.bool true) (Frm [] w)):=by
 obtain⟨ao,cp,rfl⟩:=h.shape
 obtain⟨al,cl,rfl⟩:=h'.shape
 obtain⟨n,hn⟩:∃ n,L.length=n:=⟨_,rfl⟩
 have HN:=Lib.hid hn;have HA:=Lib.hid h;have HB:=Lib.hid h'
 rw[hn] at HA HB hL ⊢
 clear h h' hn
 go_enter Tryz.func33,Tryz.ntmps33
 go_upto_region 4 with fail
 go_loopw [5] (fun s5 wr=>∃ i:Nat,s5=.int .i64 i∧i≤n∧Frm [] w wr) (fun s5 _=>n - (intOf s5).toNat)
 case atStart=>exact⟨0,rfl,Nat.zero_le _,Frm.refl _ _⟩
 case round =>
  obtain⟨i,rfl,hi,hf⟩:=hrel
  have HF:=Lib.hid hf
  clear hf
  by_cases hlt:i < n
  ·have hlt':(i:Int) < (n:Int):=by omega
   obtain⟨m,hm⟩:∃ m,L[i]?=some m:=⟨_,List.getElem?_eq_getElem (by rw[HN.out];exact hlt)⟩
   obtain⟨g1,o1,e1,c1⟩:=HA.out.get hm
   obtain⟨g2,o2,e2,c2⟩:=HB.out.get hm
   subst e1 e2
   have HU:Hid (∀ V,Frm [] wr V→MvAt V g1 (o1 + i * 4) m∧MvAt V g2 (o2 + i * 4) m):=Lib.hid fun V hV=>⟨c1.frm (HF.out.trans hV),c2.frm (HF.out.trans hV)⟩
   clear c1 c2 hm HA HB
   go_upto_region 6 with fail
   refine wp_region_cq (by kernel_rfl) (by kernel_rfl) ?_
   repeat (first
    | go_big_quiet_skip
    | (refine wpQuiet_want (by rfl) (fun K hK=>?_)
       first
        | (refine quiet_move _ (by rfl) (hK _ ?_))
        | (refine quiet_assign _ (by rfl) (hK _ ?_))
        | (apply Exists.intro
           refine⟨fun w' hC=>?_,hK _ ?_⟩
           ·(unfold Oper.quietAt
             obtain⟨⟨x0,x1,x2,x3⟩,⟨y0,y1,y2,y3⟩⟩:=HU.out w' hC
             clear hC
             go_simp
             try exact⟨rfl,rfl⟩
             try rfl))
       clear hK K
       try simp only[nrm,Act.eval,nrq]))
   refine wpQuiet_nil ?_
   intro w2 hf2
   have HF2:=Lib.hid (HF.out.trans hf2)
   clear hf2
   go_wp2
   exact⟨⟨i + 1,congrArg (Value.int .i64) (by omega),hlt,HF2.out⟩,by simp[intOf];omega⟩
  ·have hge:¬ (i:Int) < (n:Int):=by omega
   go_wp2
   go_ret
   exact⟨rfl,HF.out⟩
set_option maxHeartbeats 2000000 in
set_option maxRecDepth 100000 in
theorem same36_any (v v':Value) (L:List Sp) (w:World) (h:Arr 3 SuAt w v L) (h':Arr 3 SuAt w v' L) (hL:L.length≤1000000):Calls Tryz.prog 23 #[v,v'] w (Ret (.bool true) (Frm [] w)):=by
 obtain⟨ao,cp,rfl⟩:=h.shape
 obtain⟨al,cl,rfl⟩:=h'.shape
 obtain⟨n,hn⟩:∃ n,L.length=n:=⟨_,rfl⟩
 have HN:=Lib.hid hn;have HA:=Lib.hid h;have HB:=Lib.hid h'
 rw[hn] at HA HB hL ⊢
 clear h h' hn
 go_enter Tryz.func23,Tryz.ntmps23
 go_upto_region 4 with fail
 go_loopw [5] (fun s5 wr=>∃ i:Nat,s5=.int .i64 i∧i≤n∧Frm [] w wr) (fun s5 _=>n - (intOf s5).toNat)
 case atStart=>exact⟨0,rfl,Nat.zero_le _,Frm.refl _ _⟩
 case round =>
  obtain⟨i,rfl,hi,hf⟩:=hrel
  have HF:=Lib.hid hf
  clear hf
  by_cases hlt:i < n
  ·have hlt':(i:Int) < (n:Int):=by omega
   obtain⟨m,hm⟩:∃ m,L[i]?=some m:=⟨_,List.getElem?_eq_getElem (by rw[HN.out];exact hlt)⟩
   obtain⟨g1,o1,e1,c1⟩:=HA.out.get hm
   obtain⟨g2,o2,e2,c2⟩:=HB.out.get hm
   subst e1 e2
   have HU:Hid (∀ V,Frm [] wr V→SuAt V g1 (o1 + i * 3) m∧SuAt V g2 (o2 + i * 3) m):=Lib.hid fun V hV=>⟨c1.frm (HF.out.trans hV),c2.frm (HF.out.trans hV)⟩
   clear c1 c2 hm HA HB
   go_upto_region 6 with fail
   refine wp_region_cq (by kernel_rfl) (by kernel_rfl) ?_
   repeat (first
    | go_big_quiet_skip
    | (refine wpQuiet_want (by rfl) (fun K hK=>?_)
       first
        | (refine quiet_move _ (by rfl) (hK _ ?_))
        | (refine quiet_assign _ (by rfl) (hK _ ?_))
        | (apply Exists.intro
           refine⟨fun w' hC=>?_,hK _ ?_⟩
           ·(unfold Oper.quietAt
             obtain⟨⟨x0,x1,x2⟩,⟨y0,y1,y2⟩⟩:=HU.out w' hC
             clear hC
             go_simp
             try exact⟨rfl,rfl⟩
             try rfl))
       clear hK K
       try simp only[nrm,Act.eval,nrq]))
   refine wpQuiet_nil ?_
   intro w2 hf2
   have HF2:=Lib.hid (HF.out.trans hf2)
   clear hf2
   go_wp2
   exact⟨⟨i + 1,congrArg (Value.int .i64) (by omega),hlt,HF2.out⟩,by simp[intOf];omega⟩
  ·have hge:¬ (i:Int) < (n:Int):=by omega
   go_wp2
   go_ret
   exact⟨rfl,HF.out⟩
set_option maxHeartbeats 4000000 in
set_option maxRecDepth 100000 in
theorem small36_any (v:Value) (s:SesD) (w:World) (h:SesV w v s):Calls Tryz.prog 22 #[v] w (Ret (.bool (!large6B s)) (Frm [] w)):=by
 obtain⟨rv,rfl,hr⟩:=h
 obtain⟨ao,cap,e,-⟩:=id hr
 subst e
 have HRL:=Lib.hid hr
 have HLG:Hid (large6B s=((decide (4 < s.roles.length) || decide (60 < s.name.size)) || s.roles.any rolBig6)):=Lib.hid rfl
 obtain⟨lg,hlg⟩:∃ b,large6B s=b:=⟨_,rfl⟩
 rw[hlg] at HLG ⊢
 obtain⟨n,hn⟩:∃ n,s.roles.length=n:=⟨_,rfl⟩
 rw[hn] at HLG HRL ⊢
 have HN:=Lib.hid hn
 obtain⟨W0,hW0⟩:∃ W0,w.alloc (.cells #[.string s.name,.slice ao n cap,.int .i64 s.cls,.int .i64 s.cap] 25)=W0:=⟨_,rfl⟩
 have hf0:Frm [] w W0:=by rw[← hW0];exact(Frm.refl [] w).alloc _
 have HF0:=Lib.hid hf0
 have HCL:Hid (∀ V,Frm [] W0 V→V.cell? ⟨w.heap.size,0,none⟩=some (.string s.name)∧V.cell? ⟨w.heap.size,1,none⟩=some (.slice ao n cap)):=Lib.hid fun V hV=>by
  have hb:W0.heap[w.heap.size]?=some (.cells #[.string s.name,.slice ao n cap,.int .i64 s.cls,.int .i64 s.cap] 25 (0,0)):=by rw[← hW0];exact heap_alloc_new _ _
  exact⟨hV.keep (cell_of hb 0),hV.keep (cell_of hb 1)⟩
 have HRL0:Hid (∀ V,Frm [] W0 V→Rls V (.slice ao n cap) s.roles):=Lib.hid fun V hV=>HRL.out.frm (hf0.trans hV)
 have HBX:Hid (W0.heap[w.heap.size]?=some (.cells #[.string s.name,.slice ao n cap,.int .i64 s.cls,.int .i64 s.cap] 25 (0,0))):=Lib.hid (by rw[← hW0];exact heap_alloc_new _ _)
 have HE:=Lib.hid hW0
 clear hr hlg hn hf0 hW0 HRL
 go_enter Tryz.func22,Tryz.ntmps22
 go_upto_region 1 with (first | (refine wpList_box_row rfl 25 _ rfl _ rfl ?_;rw[HE.out]))
 clear HE
 obtain⟨e0,e1⟩:=HCL.out W0 (Frm.refl _ _)
 by_cases h1:4 < n
 ·have HR:Hid (lg=true):=Lib.hid (by rw[HLG.out,decide_eq_true h1];rfl)
  have h1':decide (4 < (n:Int))=true:=decide_eq_true (by omega)
  clear HLG
  go_wp2
  go_ret
  exact⟨by rw[HR.out];rfl,HF0.out⟩
 by_cases h2:60 < s.name.size
 ·have HR:Hid (lg=true):=Lib.hid (by rw[HLG.out,decide_eq_true h2];simp)
  have h1':decide (4 < (n:Int))=false:=decide_eq_false (by omega)
  have h2':decide (60 < (s.name.size:Int))=true:=decide_eq_true (by omega)
  clear HLG
  go_wp2
  go_ret
  exact⟨by rw[HR.out];rfl,HF0.out⟩
 have HL2:Hid (lg=s.roles.any rolBig6):=Lib.hid (by rw[HLG.out,decide_eq_false h1,decide_eq_false h2];rfl)
 have h1':decide (4 < (n:Int))=false:=decide_eq_false (by omega)
 have h2':decide (60 < (s.name.size:Int))=false:=decide_eq_false (by omega)
 clear HLG
 go_upto_region 4 with fail
 clear e0 e1 h1' h2' h2
 go_loopw [3] (fun s4 wr=>∃ i:Nat,s4=.int .i64 i∧i≤n∧Frm [] W0 wr∧∀ j,j < i→rolBig6 (s.rol j)=false) (fun s4 _=>n - (intOf s4).toNat)
 case atStart=>exact⟨0,rfl,Nat.zero_le _,Frm.refl _ _,fun j hj=>by omega⟩
 case round =>
  obtain⟨i,rfl,hi,hf,hno⟩:=hrel
  have HF:=Lib.hid hf;have HNO:=Lib.hid hno
  clear hf hno
  obtain⟨w9,hw9⟩:∃ w9,w9=wr:=⟨_,rfl⟩
  subst hw9
  obtain⟨e0,e1⟩:=HCL.out w9 HF.out
  by_cases hlt:i < n
  ·have hlt':(i:Int) < (n:Int):=by omega
   have hin:i < s.roles.length:=by rw[HN.out];exact hlt
   obtain⟨b,o,sv,cv,tv,rfl,⟨d0,d1,d2,d3⟩,h3⟩:=Rls.at (HRL0.out w9 HF.out) hin
   obtain⟨aS,cs,es,-⟩:=id h3.sts
   obtain⟨ac,cc,ec,-⟩:=id h3.ctrs
   obtain⟨at',ct,et,htt⟩:=id h3.steps
   subst es;subst ec;subst et
   have HTT:=Lib.hid htt
   have HWY:=Lib.hid (rolBig6_ways (s.rol i))
   have HHIT:Hid (rolBig6 (s.rol i)=true→lg=true):=Lib.hid fun h=>by rw[HL2.out,List.any_eq_true];exact⟨_,List.mem_of_getElem? (SesD.rol_some hin),h⟩
   obtain⟨n1,hn1⟩:∃ q,(s.rol i).sts.length=q:=⟨_,rfl⟩
   obtain⟨n2,hn2⟩:∃ q,(s.rol i).ctrs.length=q:=⟨_,rfl⟩
   obtain⟨n3,hn3⟩:∃ q,(s.rol i).steps.length=q:=⟨_,rfl⟩
   have HN3:=Lib.hid hn3
   rw[hn1,hn2,hn3] at HWY;rw[hn1] at d1;rw[hn2] at d2;rw[hn3] at d3
   have hb0:=cell_lt d0
   obtain⟨X,hX⟩:∃ X,w9.alloc (.cells #[.string (s.rol i).name,.slice aS n1 cs,.slice ac n2 cc,.slice at' n3 ct] 87)=X:=⟨_,rfl⟩
   have HX9:Hid (Frm [] w9 X):=Lib.hid (by rw[← hX];exact(Frm.refl _ _).alloc _)
   have HT:Hid (∀ V,Frm [] X V→V.cell? ⟨w9.heap.size,0,none⟩=some (.string (s.rol i).name)∧V.cell? ⟨w9.heap.size,1,none⟩=some (.slice aS n1 cs)∧V.cell? ⟨w9.heap.size,2,none⟩=some (.slice ac n2 cc)∧V.cell? ⟨w9.heap.size,3,none⟩=some (.slice at' n3 ct)):=Lib.hid fun V hV=>by
    have hb:X.heap[w9.heap.size]?=some (.cells #[.string (s.rol i).name,.slice aS n1 cs,.slice ac n2 cc,.slice at' n3 ct] 87 (0,0)):=by rw[← hX];exact heap_alloc_new _ _
    exact⟨hV.keep (cell_of hb 0),hV.keep (cell_of hb 1),hV.keep (cell_of hb 2),hV.keep (cell_of hb 3)⟩
   have HE:=Lib.hid hX
   clear h3 htt hin hn1 hn2 hn3 hX
   go_upto_region 7 with fail
   rw[HE.out]
   clear HE d0 d1 d2 d3 hb0 e0 e1
   obtain⟨t0,t1,t2,t3⟩:=HT.out X (Frm.refl _ _)
   rcases HWY.out with ⟨k1,k9⟩ | ⟨k1,k2,k9⟩ | ⟨k1,k2,k3,k9⟩ | ⟨k1,k2,k3,k4,k9⟩ | ⟨k1,k2,k3,k4,k9⟩
   iterate 4
    focus
     have HR:Hid (lg=true):=Lib.hid (HHIT.out k9)
     try have m1:decide (4 < (n2:Int))=true:=decide_eq_true k1
     try have m1:decide (4 < (n2:Int))=false:=decide_eq_false k1
     try have m2:decide (6 < (n1:Int))=true:=decide_eq_true k2
     try have m2:decide (6 < (n1:Int))=false:=decide_eq_false k2
     try have m3:decide (12 < (n3:Int))=true:=decide_eq_true k3
     try have m3:decide (12 < (n3:Int))=false:=decide_eq_false k3
     try have m4:decide (60 < ((s.rol i).name.size:Int))=true:=decide_eq_true k4
     clear k9 HHIT HWY
     go_wp2
     go_ret
     exact⟨by rw[HR.out];rfl,HF0.out.trans (HF.out.trans HX9.out)⟩
   have m1:decide (4 < (n2:Int))=false:=decide_eq_false k1
   have m2:decide (6 < (n1:Int))=false:=decide_eq_false k2
   have m3:decide (12 < (n3:Int))=false:=decide_eq_false k3
   have m4:decide (60 < ((s.rol i).name.size:Int))=false:=decide_eq_false k4
   have HK9:=Lib.hid k9
   clear k9 HWY
   go_upto_region 10 with fail
   clear t0 t1 t2 t3 m1 m2 m3 m4
   go_loopw [5] (fun s6 wl=>∃ k:Nat,s6=.int .i64 k∧k≤n3∧Frm [] X wl∧∀ j t,j < k→(s.rol i).steps[j]?=some t→stepBig t=false) (fun s6 _=>n3 - (intOf s6).toNat)
   case atStart=>exact⟨0,rfl,Nat.zero_le _,Frm.refl _ _,fun j t hj=>by omega⟩
   case round =>
    obtain⟨k,rfl,hk,hf,hnk⟩:=hrel
    have HFK:=Lib.hid hf;have HNK:=Lib.hid hnk
    clear hf hnk
    obtain⟨w8,hw8⟩:∃ w8,w8=wr:=⟨_,rfl⟩
    subst hw8
    obtain⟨t0,t1,t2,t3⟩:=HT.out w8 HFK.out
    by_cases hlk:k < n3
    ·have hlk':(k:Int) < (n3:Int):=by omega
     obtain⟨x,hx⟩:∃ x,(s.rol i).steps[k]?=some x:=⟨_,List.getElem?_eq_getElem (by rw[HN3.out];exact hlk)⟩
     obtain⟨bt,ot,rfl,hat⟩:=HTT.out k x hx
     obtain⟨-,-,-,c3,c4,-⟩:=hat.frm (HX9.out.trans HFK.out)
     have HX:=Lib.hid hx
     have HBG:Hid (stepBig x=true→lg=true):=Lib.hid fun h=>HHIT.out (by rw[HK9.out,List.any_eq_true];exact⟨x,List.mem_of_getElem? HX.out,h⟩)
     clear hat hx
     by_cases b1:60 < x.msg.size
     ·have HR:Hid (lg=true):=Lib.hid (HBG.out (by simp[stepBig,b1]))
      have b1':decide (60 < (x.msg.size:Int))=true:=decide_eq_true (by omega)
      clear HBG HHIT HK9
      go_wp2
      go_ret
      exact⟨by rw[HR.out];rfl,HF0.out.trans (HF.out.trans (HX9.out.trans HFK.out))⟩
     have b1':decide (60 < (x.msg.size:Int))=false:=decide_eq_false (by omega)
     by_cases b2:60 < x.peer.size
     ·have HR:Hid (lg=true):=Lib.hid (HBG.out (by simp[stepBig,b2]))
      have b2':decide (60 < (x.peer.size:Int))=true:=decide_eq_true (by omega)
      clear HBG HHIT HK9
      go_wp2
      go_ret
      exact⟨by rw[HR.out];rfl,HF0.out.trans (HF.out.trans (HX9.out.trans HFK.out))⟩
     have b2':decide (60 < (x.peer.size:Int))=false:=decide_eq_false (by omega)
     have HNB:Hid (stepBig x=false):=Lib.hid (by simp[stepBig];omega)
     clear HBG HHIT HK9
     go_wp2
     refine⟨⟨k + 1,congrArg (Value.int .i64) (by omega),hlk,HFK.out,fun j t hj ht=>?_⟩,by simp[intOf];omega⟩
     by_cases e:j=k
     ·subst e;rw[HX.out] at ht;cases ht;exact HNB.out
     ·exact HNK.out j t (by omega) ht
    ·obtain rfl:n3=k:=by omega
     have hge:¬ (n3:Int) < (n3:Int):=by omega
     have HNB:Hid (rolBig6 (s.rol i)=false):=Lib.hid (by
      rw[HK9.out,List.any_eq_false]
      intro t ht
      obtain⟨j,hj⟩:=List.getElem?_of_mem ht
      rw[HNK.out j t (by have:=lt_of_some hj;rw[HN3.out] at this;exact this) hj]
      decide)
     clear HHIT HK9
     go_wp2
     refine⟨⟨i + 1,congrArg (Value.int .i64) (by omega),hlt,HF.out.trans (HX9.out.trans HFK.out),fun j hj=>?_⟩,by simp[intOf];omega⟩
     by_cases e:j=i
     ·subst e;exact HNB.out
     ·exact HNO.out j (by omega)
  ·obtain rfl:n=i:=by omega
   have hge:¬ (n:Int) < (n:Int):=by omega
   have HR:Hid (lg=false):=Lib.hid (by
    rw[HL2.out,List.any_eq_false]
    intro r hr
    obtain⟨j,hj⟩:=List.getElem?_of_mem hr
    have hjl:=lt_of_some hj
    have h1:=HNO.out j (by rw[HN.out] at hjl;exact hjl)
    rw[show s.rol j=r from getD_some hj] at h1
    rw[h1];decide)
   go_wp2
   go_ret
   exact⟨by rw[HR.out];rfl,HF0.out.trans HF.out⟩
set_option maxHeartbeats 4000000 in
set_option maxRecDepth 100000 in
theorem given36_any (v:Value) (s:SesD) (w:World) (h:SesV w v s) (hs:WfS s):Calls Tryz.prog 14 #[v] w (RetV (GvTo w s)):=by
 have HSM:Hid (large6B s=false→SmS s):=Lib.hid (sm_of6 hs)
 have HGV:Hid (gvB s=(!large6B s && decide (ckSes s=0))):=Lib.hid rfl
 clear hs
 obtain⟨rv,rfl,hr⟩:=h
 obtain⟨ao,cap,e,-⟩:=id hr
 subst e
 have HRL:=Lib.hid hr
 obtain⟨lg,hlg⟩:∃ b,large6B s=b:=⟨_,rfl⟩
 rw[hlg] at HSM HGV
 obtain⟨n,hn⟩:∃ n,s.roles.length=n:=⟨_,rfl⟩
 rw[hn] at HRL ⊢
 obtain⟨W0,hW0⟩:∃ W0,w.alloc (.cells #[.string s.name,.slice ao n cap,.int .i64 s.cls,.int .i64 s.cap] 25)=W0:=⟨_,rfl⟩
 have hf0:Frm [] w W0:=by rw[← hW0];exact(Frm.refl [] w).alloc _
 have HF0:=Lib.hid hf0
 have HRL0:Hid (∀ V,Frm [] W0 V→Rls V (.slice ao n cap) s.roles):=Lib.hid fun V hV=>HRL.out.frm (hf0.trans hV)
 have HBX:Hid (W0.heap[w.heap.size]?=some (.cells #[.string s.name,.slice ao n cap,.int .i64 s.cls,.int .i64 s.cap] 25 (0,0))):=Lib.hid (by rw[← hW0];exact heap_alloc_new _ _)
 have CM:=Lib.hid (small36_any (.agg #[.string s.name,.slice ao n cap,.int .i64 s.cls,.int .i64 s.cap]) s W0 ⟨_,rfl,HRL0.out W0 (Frm.refl _ _)⟩)
 rw[hlg] at CM
 have HE:=Lib.hid hW0
 clear hr hlg hn hf0 hW0 HRL
 go_enter Tryz.func14,Tryz.ntmps14
 go_upto_region 1 with (first | (refine wpList_box_row rfl 25 _ rfl _ rfl ?_;rw[HE.out]))
 clear HE
 cases lg with
 | true =>
   go_wp2_with (first
    | (refine wpList_load_whole rfl 25 _ rfl _ rfl _ 25 HBX.out _ Tryz.underlying25 rfl (by kernel_rfl) ?_)
    | (go_at_call 22;go_must (refine CM.out.mono ?_;rintro e w1 ⟨rfl,hf⟩;have HF:=Lib.hid hf;clear hf CM)))
   go_ret2
   exact⟨_,rfl,HF0.out.trans HF.out,.inl ⟨by rw[HGV.out];rfl,rfl⟩⟩
 | false =>
   go_upto_region 3 with (first
    | (refine wpList_load_whole rfl 25 _ rfl _ rfl _ 25 HBX.out _ Tryz.underlying25 rfl (by kernel_rfl) ?_)
    | (go_at_call 22;go_must (refine CM.out.mono ?_;rintro e w1 ⟨rfl,hf⟩;have HF:=Lib.hid hf;clear hf CM)))
   have HSS:=Lib.hid (HSM.out trivial)
   have HGW:Hid (gvB s=decide (ckSes s=0)):=Lib.hid (by rw[HGV.out];rfl)
   have HB:Hid (∀ V,Frm [] W0 V→V.heap[w.heap.size]?=some (.cells #[.string s.name,.slice ao n cap,.int .i64 s.cls,.int .i64 s.cap] 25 (0,0))):=Lib.hid fun V hV=>hV.at HBX.out (by simp)
   have CS:Hid (∀ V,Frm [] W0 V→Calls Tryz.prog 55 #[.agg #[.string s.name,.slice ao n cap,.int .i64 s.cls,.int .i64 s.cap]] V (RetV fun u w'=>∃ i,u=.tuple #[.int .i64 i,.int .i64 (ckSes s)]∧Frm [] V w')):=Lib.hid fun V hV=>aSes_any _ s V ⟨_,rfl,HRL0.out V hV⟩ HSS.out
   clear HGV HSM
   by_cases hck:ckSes s=0
   ·have CN:Hid (∀ V,Frm [] W0 V→Calls Tryz.prog 53 #[.agg #[.string s.name,.slice ao n cap,.int .i64 s.cls,.int .i64 s.cap]] V (RetV (NewTo V s))):=Lib.hid fun V hV=>pNew_ok _ s V ⟨_,rfl,HRL0.out V hV⟩ HSS.out hck
    have HGT:Hid (gvB s=true):=Lib.hid (by rw[HGW.out];exact decide_eq_true hck)
    rw[hck] at CS
    clear HGW hck
    go_wp2_with (first
     | (refine wpList_load_whole rfl 25 _ rfl _ rfl _ 25 (HB.out _ HF.out) _ Tryz.underlying25 rfl (by kernel_rfl) ?_)
     | (refine wpList_load_whole rfl 25 _ rfl _ rfl _ 25 (HB.out _ HF2.out) _ Tryz.underlying25 rfl (by kernel_rfl) ?_)
     | (go_at_call 55;go_must (refine(CS.out _ HF.out).mono ?_;rintro e w2 ⟨u,rfl,i',rfl,hf2⟩;have HF2:=Lib.hid (HF.out.trans hf2);clear hf2))
     | (go_at_call 53;go_must (refine(CN.out _ HF2.out).mono ?_;rintro e w3 ⟨v,rfl,hn⟩;obtain⟨⟨yb,fb,rfl,-,hsy⟩,hf⟩:=hn;have HY:=Lib.hid (hsy w3 (Agree.refl _ _));have HF3:=Lib.hid (HF2.out.trans hf);clear hsy hf CN))
     | (go_at_call 17;go_must (refine(num36_any _ _).mono ?_;rintro e w' ⟨rfl,rfl⟩)))
    go_ret2
    exact⟨_,rfl,HF0.out.trans HF3.out,.inr ⟨HGT.out,yb,fb,rfl,HY.out⟩⟩
   ·have HGT:Hid (gvB s=false):=Lib.hid (by rw[HGW.out];exact decide_eq_false hck)
    obtain⟨ck,hck2⟩:∃ ck,ckSes s=ck:=⟨_,rfl⟩
    rw[hck2] at CS hck
    clear HGW hck2
    go_wp2_with (first
     | (refine wpList_load_whole rfl 25 _ rfl _ rfl _ 25 (HB.out _ HF.out) _ Tryz.underlying25 rfl (by kernel_rfl) ?_)
     | (go_at_call 55;go_must (refine(CS.out _ HF.out).mono ?_;rintro e w2 ⟨u,rfl,i',rfl,hf2⟩;have HF2:=Lib.hid (HF.out.trans hf2);clear hf2)))
    go_ret2
    exact⟨_,rfl,HF0.out.trans HF2.out,.inl ⟨HGT.out,rfl⟩⟩
end Go.Proofs.YtohfkhjlnlahdaaGreat
namespace Go.Proofs.YtohfkhjlnlahdaaGreat
open Go.RowKit Go.BigFrame
theorem arr1_mv (W:World) (t:TypeId) (m:Mv):Arr 4 MvAt (W.alloc (.cells #[.int .i64 m.kind,.int .i64 m.role,.int .i64 m.step,.int .i64 m.place] t)) (.slice (some ⟨W.heap.size,0,none⟩) 1 1) [m]:=by
 have h:=cell_of (heap_alloc_new W (.cells #[.int .i64 m.kind,.int .i64 m.role,.int .i64 m.step,.int .i64 m.place] t))
 refine⟨_,1,rfl,fun i x hx=>⟨W.heap.size,0,rfl,?_⟩⟩
 match i,hx with
 | 0,hx=>cases hx;exact⟨h 0,h 1,h 2,h 3⟩
 | i + 1,hx=>simp at hx
theorem arr1_sp (W:World) (t:TypeId) (x:Sp):Arr 3 SuAt (W.alloc (.cells #[.int .i64 x.role,.int .i64 x.peer,.string x.msg] t)) (.slice (some ⟨W.heap.size,0,none⟩) 1 1) [x]:=by
 have h:=cell_of (heap_alloc_new W (.cells #[.int .i64 x.role,.int .i64 x.peer,.string x.msg] t))
 refine⟨_,1,rfl,fun i y hy=>⟨W.heap.size,0,rfl,?_⟩⟩
 match i,hy with
 | 0,hy=>cases hy;exact⟨h 0,h 1,h 2⟩
 | i + 1,hy=>simp at hy
theorem e_fst {w w':World} {v:Value} (h:FstTo w smE 100 v w'):∃ ao c,v=.tuple #[.slice ao 1 c,suV spE,.bool true,.int .i64 0]∧Arr 4 MvAt w' (.slice ao 1 c) [km1]∧Frm [] w w':=by
 obtain⟨hf,⟨h1,-⟩ | ⟨n,u,rest,tv,h1,rfl,h2⟩⟩:=h
 ·have:=e_all
  rw[h1] at this
  cases this
 ·have ha:=e_all
  have hb:=e_first
  rw[h1] at ha hb
  obtain rfl:u=spE:=(List.cons.inj ha).1
  have hb':traceP (searchP smE 100).1 n=[km1]:=Option.some.inj hb
  rw[hb'] at h2
  obtain⟨ao,c,rfl⟩:=h2.shape
  exact⟨ao,c,rfl,h2,hf⟩
theorem e_usd {w w':World} {v:Value} (h:UsdTo w smE 100 v w'):∃ g o c b0 b1,v=.tuple #[.slice (some ⟨g,o,none⟩) 2 c,.int .i64 0] ∧
  (w'.cell? ⟨g,o,none⟩=some (.slice (some ⟨b0,0,none⟩) 2 2)∧w'.cell? ⟨g,o + 1,none⟩=some (.slice (some ⟨b1,0,none⟩) 1 1))∧(w'.cell? ⟨b0,0,none⟩=some (.bool true)∧w'.cell? ⟨b0,1,none⟩=some (.bool true))∧w'.cell? ⟨b1,0,none⟩=some (.bool true)∧Frm [] w w':=by
 obtain⟨hf,u,rfl,hu⟩:=h
 have e:usRow smE (usedP smE (searchP smE 100).1)=[[usedP smE (searchP smE 100).1 0 0,usedP smE (searchP smE 100).1 0 1],[usedP smE (searchP smE 100).1 1 0]]:=rfl
 have hu9:=e_used
 simp only[Bool.and_eq_true] at hu9
 rw[e,hu9.1.1,hu9.1.2,hu9.2] at hu
 obtain⟨ao,cap,rfl,h3⟩:=hu
 obtain⟨g,o,e1,b0,c0,d0⟩:=h3 0 _ rfl
 subst e1
 obtain⟨g',o',e1,b1,c1,d1⟩:=h3 1 _ rfl
 cases e1
 exact⟨g,o,cap,b0,b1,rfl,⟨c0,c1⟩,⟨cell_of d0 0,cell_of d0 1⟩,cell_of d1 0,hf⟩
theorem e_len:(searchP smE 100).1.length=6:=by rw[search_i];decide +kernel
theorem fg_sc {W:World} {b:Nat} {c:Value} {t:TypeId} (h:W.heap[b]?=some (.cells #[c] t (0,0))) (hc:(∃ v,c=.int .i64 v)∨∃ v,c=.bool v) (ht:t=3∨t=4):∀ x∈[b],FgB W x:=by
 intro x hx
 rw[List.mem_singleton] at hx
 subst hx
 have k:=fun o=>cell_of h o
 have kz:∀ (o:Nat) (u:Value),W.cell? ⟨x,o,none⟩=some u→u=c:=fun o u e=>by
  rw[k] at e
  cases o with
  | zero=>exact(Option.some.inj e).symm
  | succ o=>simp at e
 refine⟨fun C t' e=>?_,fun o y e=>?_,fun o p e=>?_,fun o g o' p n c' e e2=>?_⟩
 ·rw[h] at e
  cases e
  rcases ht with rfl | rfl <;> decide
 ·rcases hc with ⟨v,rfl⟩ | ⟨v,rfl⟩ <;> cases kz _ _ e
 ·rcases hc with ⟨v,rfl⟩ | ⟨v,rfl⟩ <;> cases kz _ _ e
 ·rcases hc with ⟨v,rfl⟩ | ⟨v,rfl⟩ <;> cases kz _ _ e
theorem SpO.sc {W V:World} {s:SesD} {yb pb b:Nat} {whole:Bool} {N:List (Nd × Nat)} {c:Value} {t:TypeId} (h:SpO W s yb whole pb N) (hs:0 < s.roles.length) (hb:W.heap[b]?=some (.cells #[c] t (0,0))) (hc:(∃ v,c=.int .i64 v)∨∃ v,c=.bool v) (ht:t=3∨t=4) (hf:Frm [b] W V):SpO V s yb whole pb N:=by
 obtain⟨qb,mb,lim,ao,cap,h1,h2,h3,h4⟩:=h.out
 have hfb:=fg_sc hb hc ht
 refine⟨⟨qb,mb,lim,ao,cap,hf.at h1 ?_,hf.at h2 ?_,h3.frm fun g o d hd=>?_,h4.frm hf fun b' e hm=>?_⟩,fun d hd=>(h.st d hd).fg hs hfb hf⟩
 ·rw[List.mem_singleton];exact ty_ne h1 hb (by rcases ht with rfl | rfl <;> decide)
 ·rw[List.mem_singleton];exact ty_ne h2 hb (by rcases ht with rfl | rfl <;> decide)
 ·have hg:g∉[b]:=fun hm=>by
   rw[List.mem_singleton] at hm
   subst hm
   have:=hd.c0
   rw[cell_of hb] at this
   cases o with
   | zero =>
     have e:c=_:=Option.some.inj this
     subst e
     rcases hc with ⟨v,hv⟩ | ⟨v,hv⟩ <;> cases hv
   | succ o=>simp at this
  exact⟨hf.cellAt hd.c0 hg,hf.cellAt hd.c1 hg,hf.cellAt hd.c2 hg,hf.cellAt hd.c3 hg,hf.cellAt hd.c4 hg,hf.cellAt hd.c5 hg,hf.cellAt hd.c6 hg⟩
 ·obtain⟨es,c',h9⟩:=h4.block e
  rw[List.mem_singleton] at hm
  subst hm
  rw[hb] at h9
  cases h9
theorem AlI.sc {B1 B2 pb yb fb cp b:Nat} {ra:Option Addr} {s:SesD} {wh:Bool} {N:List (Nd × Nat)} {W V:World} {c:Value} {t:TypeId} (h:AlI B1 B2 pb ra cp s yb fb wh N W) (hb:W.heap[b]?=some (.cells #[c] t (0,0))) (hc:(∃ v,c=.int .i64 v)∨∃ v,c=.bool v) (ht:t=3∨t=4) (hf:Frm [b] W V) :
  AlI B1 B2 pb ra cp s yb fb wh N V:=
 ⟨hf.at h.b1 (by rw[List.mem_singleton];exact ty_ne h.b1 hb (by rcases ht with rfl | rfl <;> decide)),hf.at h.b2 (by rw[List.mem_singleton];exact ty_ne h.b2 hb (by rcases ht with rfl | rfl <;> decide)),h.ses.fg (fg_sc hb hc ht) hf,h.sp.sc (by have:=h.sy.ok.n2;omega) hb hc ht hf,h.sy.fg (fg_sc hb hc ht) hf⟩
theorem res_tmp0 {fn:Func} {tmps:Array Value} {V:World} {u:Value} (hf:fn.results=#[.tmp 0]) (h:tmps.getD 0 undef=u):(results fn tmps).run Tryz.prog V=.ok u V:=by
 have h':tmps[0]?.getD undef=u:=by simpa using h
 simp[results,hf,h',go_sem]
attribute [local go_sem] Oper.semAt_some
set_option maxHeartbeats 8000000 in
set_option maxRecDepth 100000 in
theorem known36_any (w:World):Calls Tryz.prog 15 #[] w (Ret (.bool true) (Frm [] w)):=by
 have CS:=Lib.hid (sample36_any w)
 refine calls_of_marks Tryz.func15 rfl ?_
 simp only[Tryz.ntmps15,List.size_toArray,List.length_cons,List.length_nil,Nat.reduceAdd,Nat.reduceSub,Array.replicate_succ,Array.replicate_zero,List.push_toArray,List.append_toArray,List.nil_append,List.cons_append]
 go_upto_region 5 with (first
  | (go_at_call 56;go_must (refine CS.out.mono ?_;rintro e w1 ⟨v,rfl,hs,hf⟩;have HF1:=Lib.hid hf;have CN:=Lib.hid (pNew_ok v smE w1 hs smE_sm e_ck);clear hs hf CS))
  | (go_at_call 53;go_must (refine CN.out.mono ?_;rintro e w2 ⟨v,rfl,hn⟩;obtain⟨⟨yb,fb,rfl,-,hsy⟩,hf⟩:=hn;have HY:=Lib.hid (hsy w2 (Agree.refl _ _));have HF2:=Lib.hid (HF1.out.trans hf);clear hsy hf CN))
  | (go_at_call 17;go_must (refine(num36_any _ _).mono ?_;rintro e w' ⟨rfl,rfl⟩)))
 obtain⟨W3,hW3⟩:∃ W,w2.alloc (.cells #[.int .i64 1,.int .i64 0,.string { data:=#[110] }] 90)=W:=⟨_,rfl⟩
 obtain⟨bw,hbw⟩:∃ b,w2.heap.size=b:=⟨_,rfl⟩
 have HF3:Hid (Frm [] w2 W3):=Lib.hid (by rw[← hW3];exact(Frm.refl _ _).alloc _)
 have HWA:Hid (Arr 3 SuAt W3 (.slice (some ⟨bw,0,none⟩) 1 1) [spE]):=Lib.hid (by rw[← hW3,← hbw];exact arr1_sp w2 _ spE)
 rw[hW3,hbw]
 clear hW3 hbw
 have CF:=Lib.hid (xpFirst_any smE yb fb 100 W3 (HY.out.frm HF3.out) (by omega) (by omega))
 go_upto_region 6 with (first
  | (go_at_call 16;go_must (refine CF.out.mono ?_;rintro e w4 ⟨v,rfl,ho⟩;obtain⟨at',ct,rfl,hat,hf⟩:=e_fst ho;have HAT:=Lib.hid hat;have HF4:=Lib.hid hf;clear ho hat hf CF)))
 obtain⟨W5,hW5⟩:∃ W,w4.alloc (.cells #[.int .i64 spE.role,.int .i64 spE.peer,.string spE.msg] 33)=W:=⟨_,rfl⟩
 obtain⟨br,hbr⟩:∃ b,w4.heap.size=b:=⟨_,rfl⟩
 have HF5:Hid (Frm [] w4 W5):=Lib.hid (by rw[← hW5];exact(Frm.refl _ _).alloc _)
 have HX5:Hid (W5.heap[br]?=some (.cells #[.int .i64 spE.role,.int .i64 spE.peer,.string spE.msg] 33 (0,0))):=Lib.hid (by rw[← hW5,← hbr];exact heap_alloc_new _ _)
 rw[hW5,hbr]
 clear hW5 hbr
 have HY5:=Lib.hid (HY.out.frm (HF3.out.trans (HF4.out.trans HF5.out)))
 have CU:=Lib.hid (xpUsed_any smE yb fb 100 W5 HY5.out (by omega) (by omega) e_whole)
 go_upto_region 7 with (first
  | (go_at_call 30;go_must (refine CU.out.mono ?_;rintro e w6 ⟨v,rfl,ho⟩;obtain⟨g,o,cu,b0,b1,rfl,hk⟩:=e_usd ho;have HK:=Lib.hid hk;have HF6:=Lib.hid hk.2.2.2;clear ho hk CU)))
 have HAT6:=Lib.hid (HAT.out.frm fun _ _ _ h=>h.frm (HF5.out.trans HF6.out))
 have HWA6:=Lib.hid (HWA.out.frm fun _ _ _ h=>h.frm (HF4.out.trans (HF5.out.trans HF6.out)))
 have HX6:=Lib.hid (HF6.out.at HX5.out (by simp))
 have HA6:Hid (Frm [] w6 (w6.alloc (.cells #[.int .i64 1,.int .i64 0,.int .i64 1,.int .i64 0] 67))):=Lib.hid ((Frm.refl _ _).alloc _)
 have CM:=Lib.hid (moves36_any _ _ [km1] _ (HAT6.out.frm fun _ _ _ h=>h.frm HA6.out) (arr1_mv w6 67 km1) (by simp))
 have CSm:=fun V=>Lib.hid (sample36_any V)
 go_upto_region 9 with (first
  | (go_at_call 17;go_must (refine(num36_any _ _).mono ?_;rintro e w' ⟨rfl,rfl⟩))
  | (go_at_call 33;go_must (refine CM.out.mono ?_;rintro e w7 ⟨rfl,hf⟩;have HF7:Hid (Frm [] w6 w7):=Lib.hid (HA6.out.trans hf);clear hf CM;have HX7:=HF7.out.at HX6.out (by simp);have z0:=cell_of HX7 0;have z1:=cell_of HX7 1;have z2:=cell_of HX7 2;clear HX7;have HA7:Hid (Frm [] w7 (w7.alloc (.cells #[.int .i64 spE.role,.int .i64 spE.peer,.string spE.msg] 33))):=Lib.hid ((Frm.refl _ _).alloc _);have CE:=Lib.hid (same36_any _ _ [spE] _ (arr1_sp w7 33 spE) (HWA6.out.frm fun _ _ _ h=>h.frm (HF7.out.trans HA7.out)) (by simp))))
  | (go_at_call 23;(refine CE.out.mono ?_;rintro e w8 ⟨rfl,hf⟩;have HF8:Hid (Frm [] w6 w8):=Lib.hid (HF7.out.trans (HA7.out.trans hf));clear hf CE z0 z1 z2))
  | (go_at_call 56;go_must (refine(CSm _).out.mono ?_;rintro e w9 ⟨v9,rfl,hs,hf⟩;have HF9:=Lib.hid (HF8.out.trans hf);have CNv:=Lib.hid (xpNever_any smE v9 w9 hs (by decide) (by decide));rw[e_never] at CNv;clear hs hf))
  | (go_at_call 24;go_must (refine CNv.out.mono ?_;rintro e w10 ⟨u,rfl,ho,hf⟩;obtain⟨ao,cp,hsh⟩:=own_shape ho;subst hsh;have HF10:=Lib.hid (HF9.out.trans hf);have CE2:=Lib.hid (same36_any _ _ [spE] _ (su_arr ho) (HWA6.out.frm fun _ _ _ h=>h.frm (HF9.out.trans hf)) (by simp));clear ho hf CNv))
  | (go_at_call 23;go_must (refine CE2.out.mono ?_;rintro e w11 ⟨rfl,hf⟩;have HF11:=Lib.hid (HF10.out.trans hf);clear hf CE2;obtain⟨⟨k0,k1⟩,⟨k2,k3⟩,k4,-⟩:=HK.out;replace k0:=HF11.out.keep k0;replace k1:=HF11.out.keep k1;replace k2:=HF11.out.keep k2;replace k3:=HF11.out.keep k3;replace k4:=HF11.out.keep k4)))
 clear k0 k1 k2 k3 k4 CSm
 have HY11:=Lib.hid (HY5.out.frm (HF6.out.trans HF11.out))
 have CD:=Lib.hid (pDo_yes smE yb fb fb (firstP smE) km0 w11 HY11.out HY11.out.first e_m0.1)
 have CP:=Lib.hid (pFirst_any smE yb fb w11 HY11.out)
 go_upto_region 12 with (first
  | (go_at_call 18;go_must (refine CP.out.mono ?_;rintro e w' ⟨rfl,rfl⟩;clear CP))
  | (go_at_call 19;(refine CD.out.mono ?_;rintro e w12 ⟨u,rfl,xa,rfl,hx,hf⟩;have HF12:=Lib.hid hf;have CD2:=Lib.hid (pDo_yes smE yb fb xa _ km1 w12 (HY11.out.frm hf) hx e_m0.2.1);clear hx hf CD))
  | (go_at_call 19;go_must (refine CD2.out.mono ?_;rintro e w13 ⟨u,rfl,xc,rfl,hx,hf⟩;have HF13:=Lib.hid (HF12.out.trans hf);have CO:=Lib.hid (xpOf_any smE yb fb xc _ w13 (HY11.out.frm (HF12.out.trans hf)) hx);rw[e_m0.2.2] at CO;clear hx hf CD2))
  | (go_at_call 20;go_must (refine CO.out.mono ?_;rintro e w14 ⟨v,rfl,u,rfl,ho,hf⟩;obtain⟨ao2,cp2,hsh⟩:=own_shape ho;subst hsh;have HF14:=Lib.hid (HF13.out.trans hf);have HSP:=Lib.hid (su_arr ho);clear ho hf CO)))
 go_upto_region 13 with fail
 obtain⟨W15,hW15⟩:∃ W,w14.alloc (.cells #[.int .i64 0] 3)=W:=⟨_,rfl⟩
 obtain⟨nb,hnb⟩:∃ b,w14.heap.size=b:=⟨_,rfl⟩
 have HF15:Hid (Frm [] w14 W15):=Lib.hid (by rw[← hW15];exact(Frm.refl _ _).alloc _)
 have HN15:Hid (W15.heap[nb]?=some (.cells #[.int .i64 0] 3 (0,0))):=Lib.hid (by rw[← hW15,← hnb];exact heap_alloc_new _ _)
 have HNB:Hid (w14.heap.size≤nb):=Lib.hid (by omega)
 rw[hW15,hnb]
 clear hW15 hnb
 have CA:=Lib.hid (xpAll_any smE yb fb 100 W15 (HY11.out.frm (HF14.out.trans HF15.out)) (by omega) (by omega))
 have hnf:=fun W f lb=>run_eql_func (P:=Tryz.prog) W 92 #[179] #[] false f lb Tryz.underlying92
 go_upto_region 17 with (first
  | (go_at_call 36;go_must (refine CA.out.mono ?_;rintro e w16 ⟨v,rfl,B1,B2,pb,ra,cp,N,rfl,hal,hN,hf⟩;have HAL:=Lib.hid hal;have HN:=Lib.hid hN;have HF16:=Lib.hid hf;clear hal hN hf CA)))
 clear hnf
 have HNL:Hid (N.length=6):=Lib.hid (by have:=e_len;rw[← HN.out,List.length_map] at this;exact this)
 have HAS:Hid ((allSp smE (N.map Prod.fst)).length=3):=Lib.hid (by rw[HN.out,← List.length_map (f:=Prod.snd),e_all];rfl)
 have HN16:=Lib.hid (HF16.out.at HN15.out (by simp))
 refine wp_rangeListT (T:=fun t=>t=3) rfl (enters_of Tryz.func94 (by kernel_rfl) rfl) (al_iter (fun t=>t=3) (by decide) (by decide) (by decide) B1 B2 pb yb fb cp ra smE _ N (by have:=HNL.out;omega)) (fun _=>rfl)
  (fun pre V=>Frm [nb] w16 V∧V.heap[nb]?=some (.cells #[.int .i64 (pre.length:Int)] 3 (0,0)))
  (fun _ _ _=>False)
  (fun _ _ _ h hb=>⟨hb.oldG h.1 (Nat.le_refl _),hb.at h.2 rfl⟩)
  (fun _ _ _ _ h _=>h)
  (fun _ V h=>HAL.out.sc HN16.out (.inl ⟨_,rfl⟩) (.inl rfl) h.1) ⟨Frm.refl _ _,HN16.out⟩ ?_ ?_ (fun _ _ _ _ _ _ _ _ h _=>h.elim)
 ·intro l pre y rest Wr hxs hI hl hlr
  have HFI:=Lib.hid hI.1;have HBI:=Lib.hid hI.2
  have hp3:pre.length < 3:=by
   have:=HAS.out
   rw[hxs,List.length_append,List.length_cons] at this
   omega
  clear hI hl hlr hxs
  gi_wp2
  refine⟨Kc.refl _ _ _,fun Wq hbk _=>?_⟩
  have HBQ:=Lib.hid (hbk.at HBI.out rfl)
  have HFQ:=Lib.hid (hbk.oldG HFI.out (Nat.le_refl _))
  clear hbk HBI HFI
  have x0:=cell_of HBQ.out 0
  have f0:=free_of HBQ.out 0
  have hw:wrap64 ((pre.length:Int) + 1)=(pre.length:Int) + 1:=by unfold wrap64;omega
  gi_wp2
  refine⟨Kc.set (T:=fun t=>t=3) (Kc.refl _ _ _) HBQ.out rfl 0 _,HFQ.out.setCell _ (.inl (by simp)) _,(block_setCell HBQ.out 0 _).trans ?_⟩
  simp
 ·intro D V hD hI hK
  have HFV:=Lib.hid hI.1;have HBV:=Lib.hid hI.2;have HKD:=Lib.hid hK;have HDD:=Lib.hid hD
  clear hI hK hD
  have HF14V:Hid (Frm [] w14 V):=Lib.hid ((HF15.out.trans HF16.out).then HFV.out fun q hq=>.inr (by rw[List.mem_singleton] at hq;subst hq;exact HNB.out))
  have HWv:Hid (Arr 3 SuAt V (.slice (some ⟨bw,0,none⟩) 1 1) [spE]):=Lib.hid (HWA6.out.frm fun _ _ _ h=>h.frm (HF11.out.trans (HF14.out.trans HF14V.out)))
  have CE:=Lib.hid (same36_any _ _ [spE] V (HSP.out.frm fun _ _ _ h=>h.frm HF14V.out) HWv.out (by simp))
  rw[HAS.out] at HBV
  go_wp2_with (first
   | (go_at_call 17;go_must (refine(num36_any _ _).mono ?_;rintro e w' ⟨rfl,rfl⟩))
   | (go_at_call 23;go_must (refine CE.out.mono ?_;rintro e w17 ⟨rfl,hf⟩;have HF17:=Lib.hid hf;clear hf CE;have x0:=cell_of (HF17.out.at HBV.out (by simp)) 0)))
  have hw17:Frm [] w w17:=HF2.out.trans (HF3.out.trans (HF4.out.trans (HF5.out.trans (HF6.out.trans (HF11.out.trans (HF14.out.trans (HF14V.out.trans HF17.out)))))))
  have hs16:Frm [] w w16:=HF2.out.trans (HF3.out.trans (HF4.out.trans (HF5.out.trans (HF6.out.trans (HF11.out.trans (HF14.out.trans (HF15.out.trans HF16.out)))))))
  exact leaves_mark (HF17.out.at HKD.out (by simp)) ⟨_,res_tmp0 rfl rfl,rfl,hw17.then (Frm.putObj w17 D _) fun q hq=>.inr (by rw[List.mem_singleton] at hq;subst hq;exact Nat.le_trans hs16.size HDD.out)⟩
end Go.Proofs.YtohfkhjlnlahdaaGreat
namespace Go.Proofs.YtohfkhjlnlahdaaGreat
open Go.RowKit Go.BigFrame
theorem given36_no {v:Value} {s:SesD} {w:World} (h:SesV w v s) (hs:WfS s) (hg:gvB s=false):Calls Tryz.prog 14 #[v] w (RetV fun u w'=>u=.tuple #[.pointer none,.bool false]∧Frm [] w w'):=
 (given36_any v s w h hs).mono (by
  rintro e w' ⟨u,rfl,hf,⟨-,rfl⟩ | ⟨h1,-⟩⟩
  ·exact⟨_,rfl,rfl,hf⟩
  ·rw[hg] at h1;cases h1)
theorem given36_yes {v:Value} {s:SesD} {w:World} (h:SesV w v s) (hs:WfS s) (hg:gvB s=true):Calls Tryz.prog 14 #[v] w (RetV fun u w'=>∃ yb fb,u=.tuple #[.pointer (some ⟨yb,0,none⟩),.bool true]∧SyR w' s yb fb∧Frm [] w w'):=
 (given36_any v s w h hs).mono (by
  rintro e w' ⟨u,rfl,hf,⟨h1,-⟩ | ⟨-,yb,fb,rfl,hy⟩⟩
  ·rw[hg] at h1;cases h1
  ·exact⟨_,rfl,yb,fb,rfl,hy,hf⟩)
theorem gv_12 {s:SesD} (h:large6B s=false):s.roles.length≤4∧∀ r∈s.roles,r.steps.length≤12:=by
 unfold large6B at h
 simp only[Bool.or_eq_false_iff,decide_eq_false_iff_not,List.any_eq_false] at h
 obtain⟨⟨h1,-⟩,h3⟩:=h
 refine⟨by omega,fun r hr=>?_⟩
 have hb:=h3 r hr
 unfold rolBig6 at hb
 simp only[Bool.or_eq_true,decide_eq_true_eq,List.any_eq_true,not_or,not_exists,not_and] at hb
 obtain⟨⟨⟨⟨b1,b2⟩,b3⟩,b4⟩,b5⟩:=hb
 omega
theorem gv_small {s:SesD} (h:gvB s=true):large6B s=false:=by
 unfold gvB at h
 rw[Bool.and_eq_true] at h
 simpa using h.1
attribute [local go_sem] Oper.semAt_some
end Go.Proofs.YtohfkhjlnlahdaaGreat
