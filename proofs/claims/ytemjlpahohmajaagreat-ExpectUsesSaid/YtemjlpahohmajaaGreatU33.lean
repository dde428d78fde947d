/- Part of the proof. -/
import Derived.Test.YtemjlpahohmajaaGreatU31
import Derived.Test.YtemjlpahohmajaaGreatU32
set_option linter.all false
namespace Go.Proofs.YtemjlpahohmajaaGreat
open Go.RowKit Go.BigFrame
theorem rolIx_back {s:SesD} {i:Nat} (hi:i < s.roles.length):(rolIx s (s.rol i).name < i→∃ k,k < i∧(s.rol k).name=(s.rol i).name)∧((∃ k,k < i∧(s.rol k).name=(s.rol i).name)→rolIx s (s.rol i).name < i):=by
 have hm:s.roles[i]?=some (s.rol i):=SesD.rol_some hi
 constructor
 ·intro h
  have h0:0≤rolIx s (s.rol i).name:=ixf_ex (List.mem_of_getElem? hm) (by simp)
  obtain⟨k,hk,-⟩:=ixf_nat h0
  obtain⟨x,h1,h2,-⟩:=ixf_at hk
  refine⟨k,by unfold rolIx at h;omega,?_⟩
  rw[show s.rol k=x from getD_some h1]
  simpa using h2
 ·rintro⟨k,hk,he⟩
  have hk':s.roles[k]?=some (s.rol k):=SesD.rol_some (by omega)
  have:=ixf_le (p:=fun r:RolD=>decide (r.name=(s.rol i).name)) hk' (by simpa using he)
  unfold rolIx
  omega
def knownB (s:SesD) (x:StpD) (n:Nat):Bool:=decide (2 < x.kind) || (s.roles.take n).any fun r=>decide (r.name=x.peer)
theorem knownB_all {s:SesD} {x:StpD} (hk:1≤x.kind∧x.kind≤4):knownB s x s.roles.length=!(speaks x && decide (rolIx s x.peer < 0)):=by
 unfold knownB speaks
 rw[List.take_length]
 have e:decide (rolIx s x.peer < 0)=!s.roles.any fun r=>decide (r.name=x.peer):=by
  rw[← ixf_anyB]
  unfold rolIx
  by_cases h:ixf (fun r:RolD=>decide (r.name=x.peer)) s.roles < 0
  ·rw[decide_eq_true h,decide_eq_false (p:=0≤ixf (fun r:RolD=>decide (r.name=x.peer)) s.roles) (by omega)];rfl
  ·rw[decide_eq_false h,decide_eq_true (p:=0≤ixf (fun r:RolD=>decide (r.name=x.peer)) s.roles) (by omega)];rfl
 rw[e]
 have e2:decide (2 < x.kind)=!(decide (x.kind=1) || decide (x.kind=2)):=by
  rw[Bool.eq_iff_iff]
  simp
  omega
 rw[e2]
 cases decide (x.kind=1) || decide (x.kind=2) <;> cases s.roles.any fun r=>decide (r.name=x.peer) <;> rfl
theorem knownB_succ {s:SesD} {x:StpD} {n:Nat} (h:n < s.roles.length):knownB s x (n + 1)=(knownB s x n || decide ((s.rol n).name=x.peer)):=by
 unfold knownB
 rw[List.take_add_one,SesD.rol_some h]
 simp[Bool.or_assoc]
theorem ckRole_kind {r:RolD} (h:ckRole r=0):∀ x∈r.steps,1≤x.kind∧x.kind≤4:=by
 intro x hx
 obtain⟨i,hi⟩:=List.getElem?_of_mem hx
 have h1:stepB r i x=true:=by
  unfold ckRole at h
  repeat' split at h
  all_goals first | omega | skip
  rename_i h4
  have:=h4
  have ha:anyIx (fun i s=>!stepB r i s) 0 r.steps=false:=by
   cases hb:anyIx (fun i s=>!stepB r i s) 0 r.steps with
   | false=>rfl
   | true=>exact absurd (.inr hb) h4
  have:=(anyIx_false.1 ha) i x hi
  rw[Nat.zero_add] at this
  simpa using this
 unfold stepB at h1
 split at h1
 ·cases h1
 ·simp only[Bool.and_eq_true] at h1
  have hk:=h1.1.2
  unfold kindB at hk
  repeat' split at hk
  all_goals first | omega | cases hk
set_option maxHeartbeats 4000000 in
set_option maxRecDepth 100000 in
theorem aSes_any (v:Value) (s:SesD) (w:World) (h:SesV w v s) (hs:SmS s):Calls Tryz.prog 42 #[v] w (RetV fun u w'=>∃ i,u=.tuple #[.int .i64 i,.int .i64 (ckSes s)]∧Frm [] w w'):=by
 obtain⟨rv,rfl,hr⟩:=h
 obtain⟨ao,cap,e,-⟩:=id hr
 subst e
 have HSM:=Lib.hid hs
 have HRL:=Lib.hid hr
 have CN:Hid (∀ V,Calls Tryz.prog 85 #[.string s.name] V (Ret (.bool (nameB s.name)) (Frm [] V))):=Lib.hid fun V=>aName_any s.name V
 have HCK:Hid (ckSes s=if nameB s.name=false then 290 else if sesBad s=true then 2 else if firstE s 0 s.roles=0 then (if s.roles.any (lostB s)=true then 294 else 0) else firstE s 0 s.roles):=Lib.hid rfl
 obtain⟨ck,hck⟩:∃ c,ckSes s=c:=⟨_,rfl⟩
 rw[hck] at HCK ⊢
 have HW:=Lib.hid (ses_ways s)
 obtain⟨n,hn⟩:∃ n,s.roles.length=n:=⟨_,rfl⟩
 rw[hn] at HW HRL ⊢
 have HN:=Lib.hid hn
 have bn:n≤100:=by rw[← hn];exact hs.n
 obtain⟨W0,hW0⟩:∃ W0,w.alloc (.cells #[.string s.name,.slice ao n cap,.int .i64 s.cls,.int .i64 s.cap] 25)=W0:=⟨_,rfl⟩
 have hf0:Frm [] w W0:=by rw[← hW0];exact(Frm.refl [] w).alloc _
 have HF0:=Lib.hid hf0
 have HCL:Hid (∀ V,Frm [] W0 V→V.cell? ⟨w.heap.size,0,none⟩=some (.string s.name)∧V.cell? ⟨w.heap.size,1,none⟩=some (.slice ao n cap)∧V.cell? ⟨w.heap.size,2,none⟩=some (.int .i64 s.cls)∧V.cell? ⟨w.heap.size,3,none⟩=some (.int .i64 s.cap)):=Lib.hid fun V hV=>by
  have hb:W0.heap[w.heap.size]?=some (.cells #[.string s.name,.slice ao n cap,.int .i64 s.cls,.int .i64 s.cap] 25 (0,0)):=by rw[← hW0];exact heap_alloc_new _ _
  exact⟨hV.keep (cell_of hb 0),hV.keep (cell_of hb 1),hV.keep (cell_of hb 2),hV.keep (cell_of hb 3)⟩
 have HRL0:Hid (∀ V,Frm [] W0 V→Rls V (.slice ao n cap) s.roles):=Lib.hid fun V hV=>HRL.out.frm (hf0.trans hV)
 have HE:=Lib.hid hW0
 obtain⟨q0,hq0⟩:∃ q,nameB s.name=q:=⟨_,rfl⟩
 rw[hq0] at CN HCK
 clear hr hs hck hn hf0 hW0 hq0 HRL
 go_enter Tryz.func42,Tryz.ntmps42
 go_upto_region 1 with (first | (refine wpList_box_row rfl 25 _ rfl _ rfl ?_;rw[HE.out]))
 clear HE
 obtain⟨e0,e1,e2,e3⟩:=HCL.out W0 (Frm.refl _ _)
 cases q0 with
 | false =>
   have HCK:Hid (ck=290):=Lib.hid (by rw[HCK.out,if_pos rfl])
   go_wp2_with (first
    | (go_at_call 85;go_must (refine(CN.out _).mono ?_;rintro e w1 ⟨rfl,hf1⟩;have HF1:=Lib.hid (HF0.out.trans hf1);clear hf1)))
   go_ret2
   first | exact⟨_,rfl,_,by rw[HCK.out];rfl,HF1.out⟩ | exact⟨_,rfl,⟨_,by rw[HCK.out];rfl⟩,HF1.out⟩ | exact⟨_,rfl,by rw[HCK.out];rfl,HF1.out⟩
 | true =>
   rw[if_neg (by decide)] at HCK
   rcases HW.out with hb | ⟨hb,hw⟩
   ·have hg:=ses_good hb
    rw[hb,if_neg (by decide)] at HCK
    have hc1:decide ((n:Int) < 2)=false:=decide_eq_false (by rw[← HN.out];omega)
    have hc2:decide (4 < (n:Int))=false:=decide_eq_false (by rw[← HN.out];omega)
    have hc3:decide (s.cls < 1)=false:=decide_eq_false (by omega)
    have hc4:decide (3 < s.cls)=false:=decide_eq_false (by omega)
    have hc5:decide (s.cap < 1)=false:=decide_eq_false (by omega)
    have hc6:decide (4 < s.cap)=false:=decide_eq_false (by omega)
    clear hg hb HW
    go_wp2_with (first
     | (go_at_call 85;go_must (refine(CN.out _).mono ?_;rintro e w1 ⟨rfl,hf1⟩;have HF1:=Lib.hid hf1;clear e0 e1 e2 e3;obtain⟨e0,e1,e2,e3⟩:=HCL.out w1 hf1;clear hf1)))
    clear CN hc1 hc2 hc3 hc4 hc5 hc6 e0 e1 e2 e3
    go_loopw [4] (fun s4 wr=>∃ i:Nat,s4=.int .i64 i∧i≤n∧Frm [] W0 wr∧∀ j,j < i→rolE s j (s.rol j)=0) (fun s4 _=>n - (intOf s4).toNat)
    case atStart=>exact⟨0,rfl,Nat.zero_le _,HF1.out,fun j hj=>by omega⟩
    case round =>
     clear HF1
     obtain⟨i,rfl,hi,hf,hno⟩:=hrel
     have HF:=Lib.hid hf;have HNO:=Lib.hid hno
     clear hf hno
     obtain⟨w9,hw9⟩:∃ w9,w9=wr:=⟨_,rfl⟩
     subst hw9
     obtain⟨e0,e1,e2,e3⟩:=HCL.out w9 HF.out
     by_cases hlt:i < n
     ·have hlt':(i:Int) < (n:Int):=by omega
      have hin:i < s.roles.length:=by rw[HN.out];exact hlt
      obtain⟨b,o,sv,cv,tv,rfl,⟨d0,d1,d2,d3⟩,h3⟩:=Rls.at (HRL0.out w9 HF.out) hin
      obtain⟨aS,cs,es,-⟩:=id h3.sts
      obtain⟨ac,cc,ec,-⟩:=id h3.ctrs
      obtain⟨at',ct,et,-⟩:=id h3.steps
      subst es;subst ec;subst et
      have hmem:s.rol i∈s.roles:=List.mem_of_getElem? (SesD.rol_some hin)
      have CR:Hid (Calls Tryz.prog 86 #[.agg #[.string (s.rol i).name,.slice aS (s.rol i).sts.length cs,.slice ac (s.rol i).ctrs.length cc,.slice at' (s.rol i).steps.length ct]] w9 (RetV fun u w'=>∃ i',u=.tuple #[.int .i64 i',.int .i64 (ckRole (s.rol i))]∧Frm [] w9 w')):=Lib.hid
       (aCheck_any _ (s.rol i) w9 ⟨_,_,_,rfl,h3⟩ (HSM.out.r _ hmem))
      have HRE:Hid (rolE s i (s.rol i)=if ckRole (s.rol i)=0 then (if rolIx s (s.rol i).name < i then 290 else 0) else ckRole (s.rol i)):=Lib.hid rfl
      have HFE:Hid (rolE s i (s.rol i)≠0→firstE s 0 s.roles=rolE s i (s.rol i)):=Lib.hid fun hne=>by
       have:=firstE_hit s s.roles 0 i hin (fun j hj=>by rw[Nat.zero_add];exact HNO.out j hj) (by rw[Nat.zero_add];exact hne)
       rw[Nat.zero_add] at this
       exact this
      have HBK:=Lib.hid (rolIx_back hin)
      obtain⟨c,hc⟩:∃ c,ckRole (s.rol i)=c:=⟨_,rfl⟩
      obtain⟨q,hq⟩:∃ q,rolIx s (s.rol i).name=q:=⟨_,rfl⟩
      obtain⟨re,hre⟩:∃ q,rolE s i (s.rol i)=q:=⟨_,rfl⟩
      obtain⟨nm,hnm⟩:∃ q,(s.rol i).name=q:=⟨_,rfl⟩
      obtain⟨n1,hn1⟩:∃ q,(s.rol i).sts.length=q:=⟨_,rfl⟩
      obtain⟨n2,hn2⟩:∃ q,(s.rol i).ctrs.length=q:=⟨_,rfl⟩
      obtain⟨n3,hn3⟩:∃ q,(s.rol i).steps.length=q:=⟨_,rfl⟩
      rw[hc] at CR HRE;rw[hq] at HBK HRE;rw[hre] at HRE HFE;rw[hnm] at CR HBK d0;rw[hn1] at CR d1;rw[hn2] at CR d2;rw[hn3] at CR d3
      have HREI:=Lib.hid hre
      have HNM:=Lib.hid hnm
      clear h3 hmem hin hc hq hre hnm hn1 hn2 hn3
      by_cases hc:c=0
      ·have q1:(c == 0)=true:=by simpa using hc
       have q2:(c != 0)=false:=by simpa using hc
       rw[if_pos hc] at HRE
       clear hc
       go_wp2_with (first
        | (go_at_call 86;go_must (refine CR.out.mono ?_;rintro e w2 ⟨u,rfl,i',rfl,hf2⟩;have HF2:Hid (Frm [] W0 w2):=Lib.hid (HF.out.trans hf2);clear hf2)))
       clear e0 e1 e2 e3 d0 d1 d2 d3 CR
       go_loopw [7] (fun s7 wl=>∃ k:Nat,s7=.int .i64 k∧k≤i∧Frm [] W0 wl∧∀ j,j < k→decide ((s.rol j).name=nm)=false) (fun s7 _=>i - (intOf s7).toNat)
       case atStart=>exact⟨0,rfl,Nat.zero_le _,HF2.out,fun j hj=>by omega⟩
       case round =>
        clear HF2
        obtain⟨k,rfl,hk,hf,hnk⟩:=hrel
        have HFK:=Lib.hid hf;have HNK:=Lib.hid hnk
        clear hf hnk
        obtain⟨w8,hw8⟩:∃ w8,w8=wr:=⟨_,rfl⟩
        subst hw8
        obtain⟨e0,e1,e2,e3⟩:=HCL.out w8 HFK.out
        by_cases hlk:k < i
        ·have hlk':(k:Int) < (i:Int):=by omega
         have hlkn:(k:Int) < (n:Int):=by omega
         obtain⟨b',o',-,-,-,eb,⟨g0,-⟩,-⟩:=Rls.at (HRL0.out w8 HFK.out) (i:=k) (by rw[HN.out];omega)
         cases eb
         obtain⟨b',o',-,-,-,eb,⟨g1,-⟩,-⟩:=Rls.at (HRL0.out w8 HFK.out) (i:=i) (by rw[HN.out];omega)
         cases eb
         rw[HNM.out] at g1
         have HG:Hid (∀ V,Frm [] w8 V→(V.cell? ⟨b,o + k * 4,none⟩=some (.string (s.rol k).name)∧V.cell? ⟨b,o + i * 4,none⟩=some (.string nm))∧V.cell? ⟨w.heap.size,1,none⟩=some (.slice (some ⟨b,o,none⟩) n cap)):=Lib.hid fun V hV=>⟨⟨hV.keep g0,hV.keep g1⟩,hV.keep e1⟩
         have hsb:((s.rol k).name.toList == nm.toList)=decide ((s.rol k).name=nm):=str_beq _ _
         clear g0 g1
         cases hpx:decide ((s.rol k).name=nm) with
         | true =>
           rw[hpx] at hsb
           have HCK:Hid (ck=290):=Lib.hid (by
            have hx:q < i:=HBK.out.2 ⟨k,hlk,by simpa using hpx⟩
            have hz:re=290:=by rw[HRE.out,if_pos hx]
            rw[HCK.out,HFE.out (by rw[hz];decide),hz];rfl)
           clear HFE HRE HREI hpx
           go_upto_region 14 with fail
           refine wp_region_cq (by kernel_rfl) (by kernel_rfl) ?_
           repeat (first
            | go_big_quiet_skip
            | (refine wpQuiet_want (by rfl) (fun K hK=>?_)
               first
                | (refine quiet_move _ (by rfl) (hK _ ?_))
                | (refine quiet_assign _ (by rfl) (hK _ ?_))
                | (apply Exists.intro
                   refine⟨fun w' hC=>?_,hK _ ?_⟩
                   ·(unfold Oper.quietAt
                     obtain⟨⟨g0,g1⟩,e1⟩:=HG.out w' hC
                     clear hC
                     go_simp
                     try exact⟨rfl,rfl⟩
                     try rfl))
               clear hK K
               try simp only[nrm,Act.eval,nrq]))
           refine wpQuiet_nil ?_
           intro w5 hf5
           go_wp2
           go_ret2
           first | exact⟨_,rfl,_,by rw[HCK.out];rfl,HF0.out.trans (HFK.out.trans hf5)⟩ | exact⟨_,rfl,⟨_,by rw[HCK.out];rfl⟩,HF0.out.trans (HFK.out.trans hf5)⟩ | exact⟨_,rfl,by rw[HCK.out];rfl,HF0.out.trans (HFK.out.trans hf5)⟩
         | false =>
           rw[hpx] at hsb
           have HPX:=Lib.hid hpx
           clear HFE HRE HREI hpx
           go_upto_region 14 with fail
           refine wp_region_cq (by kernel_rfl) (by kernel_rfl) ?_
           repeat (first
            | go_big_quiet_skip
            | (refine wpQuiet_want (by rfl) (fun K hK=>?_)
               first
                | (refine quiet_move _ (by rfl) (hK _ ?_))
                | (refine quiet_assign _ (by rfl) (hK _ ?_))
                | (apply Exists.intro
                   refine⟨fun w' hC=>?_,hK _ ?_⟩
                   ·(unfold Oper.quietAt
                     obtain⟨⟨g0,g1⟩,e1⟩:=HG.out w' hC
                     clear hC
                     go_simp
                     try exact⟨rfl,rfl⟩
                     try rfl))
               clear hK K
               try simp only[nrm,Act.eval,nrq]))
           refine wpQuiet_nil ?_
           intro w5 hf5
           go_wp2
           refine⟨⟨k + 1,congrArg (Value.int .i64) (by omega),hlk,HFK.out.trans hf5,fun j hj=>?_⟩,by simp[intOf];omega⟩
           by_cases e:j=k
           ·subst e;exact HPX.out
           ·exact HNK.out j (by omega)
        ·obtain rfl:i=k:=by omega
         have hge:¬ (i:Int) < (i:Int):=by omega
         have hz:re=0:=by
          rw[HRE.out,if_neg]
          intro hx
          obtain⟨j,hj,he⟩:=HBK.out.1 hx
          have:=HNK.out j hj
          simp[he] at this
         have HZ:=Lib.hid hz
         clear hz HFE HRE
         go_wp2
         refine⟨⟨i + 1,congrArg (Value.int .i64) (by omega),hlt,HFK.out,fun j hj=>?_⟩,by simp[intOf];omega⟩
         by_cases e:j=i
         ·subst e;rw[HREI.out,HZ.out]
         ·exact HNO.out j (by omega)
      ·have q1:(c == 0)=false:=by simpa using hc
       have q2:(c != 0)=true:=by simpa using hc
       rw[if_neg hc] at HRE
       have HCK:Hid (ck=c):=Lib.hid (by
        have h1:=HFE.out (by rw[HRE.out];exact hc)
        rw[HCK.out,h1,HRE.out,if_neg hc])
       clear hc HFE HRE HREI
       go_wp2_with (first
        | (go_at_call 86;go_must (refine CR.out.mono ?_;rintro e w2 ⟨u,rfl,i',rfl,hf2⟩;have HF2:Hid (Frm [] W0 w2):=Lib.hid (HF.out.trans hf2);clear hf2)))
       go_ret2
       first | exact⟨_,rfl,_,by rw[HCK.out];rfl,HF0.out.trans HF2.out⟩ | exact⟨_,rfl,⟨_,by rw[HCK.out];rfl⟩,HF0.out.trans HF2.out⟩ | exact⟨_,rfl,by rw[HCK.out];rfl,HF0.out.trans HF2.out⟩
     ·obtain rfl:n=i:=by omega
      have hge:¬ (n:Int) < (n:Int):=by omega
      have hfe:firstE s 0 s.roles=0:=firstE_go s s.roles 0 (fun j hj=>by rw[Nat.zero_add];exact HNO.out j (by rw[HN.out] at hj;exact hj))
      have HCK:=Lib.hid HCK.out
      rw[hfe,if_pos rfl] at HCK
      have HKD:Hid (∀ j,j < n→∀ x∈(s.rol j).steps,1≤x.kind∧x.kind≤4):=Lib.hid fun j hj=>by
       have h1:=HNO.out j hj
       refine ckRole_kind ?_
       unfold rolE at h1
       by_cases hz:ckRole (s.rol j)=0
       ·exact hz
       ·rw[if_neg hz] at h1;exact h1
      obtain⟨lb,hlb⟩:∃ b,s.roles.any (lostB s)=b:=⟨_,rfl⟩
      rw[hlb] at HCK
      have HLB:=Lib.hid hlb
      have HFn:=HF
      clear hfe hlb HNO HF hlt hi
      go_wp2
      clear e0 e1 e2 e3 hge
      go_loopw [8] (fun s8 wl=>∃ a:Nat,s8=.int .i64 a∧a≤n∧Frm [] W0 wl∧∀ j,j < a→lostB s (s.rol j)=false) (fun s8 _=>n - (intOf s8).toNat)
      case atStart=>exact⟨0,rfl,Nat.zero_le _,HFn.out,fun j hj=>by omega⟩
      case round =>
       clear HFn
       obtain⟨a,rfl,ha,hf,hno⟩:=hrel
       have HF:=Lib.hid hf;have HNO:=Lib.hid hno
       clear hf hno
       obtain⟨w7,hw7⟩:∃ w7,w7=wr:=⟨_,rfl⟩
       subst hw7
       obtain⟨e0,e1,e2,e3⟩:=HCL.out w7 HF.out
       by_cases hlt:a < n
       ·have hlt':(a:Int) < (n:Int):=by omega
        have hin:a < s.roles.length:=by rw[HN.out];exact hlt
        have HROL:Hid (∀ V,Frm [] W0 V→∃ b o sv cv tv,ao=some ⟨b,o,none⟩ ∧
         (V.cell? ⟨b,o + a * 4,none⟩=some (.string (s.rol a).name)∧V.cell? ⟨b,o + a * 4 + 1,none⟩=some sv∧V.cell? ⟨b,o + a * 4 + 2,none⟩=some cv∧V.cell? ⟨b,o + a * 4 + 3,none⟩=some tv)∧Rl3 V sv cv tv (s.rol a)):=Lib.hid fun V hV=>Rls.at (HRL0.out V hV) hin
        have HHIT:Hid (lostB s (s.rol a)=true→lb=true):=Lib.hid fun h=>by rw[← HLB.out,List.any_eq_true];exact⟨_,List.mem_of_getElem? (SesD.rol_some hin),h⟩
        obtain⟨b,o,sv,cv,tv,rfl,⟨-,-,-,d3⟩,h3⟩:=HROL.out W0 (Frm.refl _ _)
        obtain⟨at',ct,et,htt⟩:=h3.steps
        subst et
        obtain⟨n3,hn3⟩:∃ q,(s.rol a).steps.length=q:=⟨_,rfl⟩
        have hb3:n3≤100:=by rw[← hn3];exact(HSM.out.r _ (List.mem_of_getElem? (SesD.rol_some hin))).t
        have HN3:=Lib.hid hn3
        rw[hn3] at d3
        have HD3:Hid (∀ V,Frm [] W0 V→V.cell? ⟨b,o + a * 4 + 3,none⟩=some (.slice at' n3 ct)):=Lib.hid fun V hV=>hV.keep d3
        have HTT:=Lib.hid htt
        clear hn3 d3 h3 htt hin HROL e0 e1 e2 e3
        obtain⟨e0,e1,e2,e3⟩:=HCL.out w7 HF.out
        go_upto_region 20 with fail
        clear e0 e1 e2 e3
        go_loopw [9] (fun s9 wl=>∃ k:Nat,s9=.int .i64 k∧k≤n3∧Frm [] W0 wl∧∀ j t,j < k→(s.rol a).steps[j]?=some t→(speaks t && decide (rolIx s t.peer < 0))=false) (fun s9 _=>n3 - (intOf s9).toNat)
        case atStart=>exact⟨0,rfl,Nat.zero_le _,HF.out,fun j t hj=>by omega⟩
        case round =>
         clear HF
         obtain⟨k,rfl,hk,hf,hnk⟩:=hrel
         have HF:=Lib.hid hf;have HNK:=Lib.hid hnk
         clear hf hnk
         obtain⟨w6,hw6⟩:∃ w6,w6=wr:=⟨_,rfl⟩
         subst hw6
         obtain⟨e0,e1,e2,e3⟩:=HCL.out w6 HF.out
         have d3:=HD3.out w6 HF.out
         by_cases hlk:k < n3
         ·have hlk':(k:Int) < (n3:Int):=by omega
          obtain⟨x,hx⟩:∃ x,(s.rol a).steps[k]?=some x:=⟨_,List.getElem?_eq_getElem (by rw[HN3.out];exact hlk)⟩
          obtain⟨bt,ot,rfl,hat⟩:=HTT.out k x hx
          obtain⟨c0,c1,c2,c3,c4,c5,c6,c7,c8⟩:=hat.frm HF.out
          have HKX:=Lib.hid (HKD.out a hlt x (List.mem_of_getElem? hx))
          have HX:=Lib.hid hx
          have hb0:=cell_lt c0
          obtain⟨X,hX⟩:∃ X,w6.alloc (.cells #[.string x.frm,.string x.to,.int .i64 x.kind,.string x.msg,.string x.peer,.string x.ctr,.int .i64 x.low,.int .i64 x.high,.int .i64 x.add] 90)=X:=⟨_,rfl⟩
          have HX6:Hid (Frm [] W0 X):=Lib.hid (by rw[← hX];exact HF.out.alloc _)
          have HT:Hid (∀ V,Frm [] X V→V.cell? ⟨w6.heap.size,2,none⟩=some (.int .i64 x.kind)∧V.cell? ⟨w6.heap.size,4,none⟩=some (.string x.peer)):=Lib.hid fun V hV=>by
           have hb:X.heap[w6.heap.size]?=some (.cells #[.string x.frm,.string x.to,.int .i64 x.kind,.string x.msg,.string x.peer,.string x.ctr,.int .i64 x.low,.int .i64 x.high,.int .i64 x.add] 90 (0,0)):=by rw[← hX];exact heap_alloc_new _ _
           exact⟨hV.keep (cell_of hb 2),hV.keep (cell_of hb 4)⟩
          have HE:=Lib.hid hX
          clear hat hx hX
          go_upto_region 23 with fail
          rw[HE.out]
          clear HE c0 c1 c2 c3 c4 c5 c6 c7 c8 hb0 e0 e1 e2 e3 d3
          obtain⟨t2,t4⟩:=HT.out X (Frm.refl _ _)
          go_upto_region 25 with fail
          clear t2 t4
          have HKB0:Hid (knownB s x 0=decide (2 < x.kind)):=Lib.hid (by simp[knownB])
          go_loopw [12,11] (fun s12 s11 wl=>∃ m:Nat,(s12=.int .i64 m∧s11=.bool (knownB s x m))∧m≤n∧Frm [] X wl) (fun s12 _ _=>n - (intOf s12).toNat)
          case atStart=>exact⟨0,⟨rfl,by rw[HKB0.out]⟩,Nat.zero_le _,Frm.refl _ _⟩
          case round =>
           obtain⟨m,⟨rfl,rfl⟩,hm,hf⟩:=hrel
           have HFM:=Lib.hid hf
           clear hf
           obtain⟨w5,hw5⟩:∃ w5,w5=wr:=⟨_,rfl⟩
           subst hw5
           obtain⟨e0,e1,e2,e3⟩:=HCL.out w5 (HX6.out.trans HFM.out)
           by_cases hlm:m < n
           ·have hlm':(m:Int) < (n:Int):=by omega
            have HKS:=Lib.hid (knownB_succ (s:=s) (x:=x) (n:=m) (by rw[HN.out];exact hlm))
            obtain⟨b',o',-,-,-,eb,⟨g0,-⟩,-⟩:=Rls.at (HRL0.out w5 (HX6.out.trans HFM.out)) (i:=m) (by rw[HN.out];omega)
            cases eb
            obtain⟨kb,hkb⟩:∃ kb,knownB s x m=kb:=⟨_,rfl⟩
            rw[hkb] at HKS ⊢
            obtain⟨-,t4⟩:=HT.out w5 HFM.out
            have hsb:((s.rol m).name.toList == x.peer.toList)=decide ((s.rol m).name=x.peer):=str_beq _ _
            obtain⟨pb,hpb⟩:∃ pb,decide ((s.rol m).name=x.peer)=pb:=⟨_,rfl⟩
            rw[hpb] at hsb HKS
            have HG:Hid (∀ V,Frm [] w5 V→(V.cell? ⟨b,o + m * 4,none⟩=some (.string (s.rol m).name)∧V.cell? ⟨w6.heap.size,4,none⟩=some (.string x.peer))∧V.cell? ⟨w.heap.size,1,none⟩=some (.slice (some ⟨b,o,none⟩) n cap)):=Lib.hid fun V hV=>⟨⟨hV.keep g0,hV.keep t4⟩,hV.keep e1⟩
            clear hkb hpb g0 t4
            cases kb with
            | true =>
              go_upto_region 27 with fail
              refine wp_region_cq (by kernel_rfl) (by kernel_rfl) ?_
              repeat (first
               | go_big_quiet_skip
               | (refine wpQuiet_want (by rfl) (fun K hK=>?_)
                  first
                   | (refine quiet_move _ (by rfl) (hK _ ?_))
                   | (refine quiet_assign _ (by rfl) (hK _ ?_))
                   | (apply Exists.intro
                      refine⟨fun w' hC=>?_,hK _ ?_⟩
                      ·(unfold Oper.quietAt
                        obtain⟨⟨g0,t4⟩,e1⟩:=HG.out w' hC
                        clear hC
                        go_simp
                        try exact⟨rfl,rfl⟩
                        try rfl))
                  clear hK K
                  try simp only[nrm,Act.eval,nrq]))
              refine wpQuiet_nil ?_
              intro w4 hf4
              go_wp2
              exact⟨⟨m + 1,⟨congrArg (Value.int .i64) (by omega),by rw[HKS.out];rfl⟩,hlm,HFM.out.trans hf4⟩,by simp[intOf];omega⟩
            | false =>
              go_upto_region 27 with fail
              refine wp_region_cq (by kernel_rfl) (by kernel_rfl) ?_
              repeat (first
               | go_big_quiet_skip
               | (refine wpQuiet_want (by rfl) (fun K hK=>?_)
                  first
                   | (refine quiet_move _ (by rfl) (hK _ ?_))
                   | (refine quiet_assign _ (by rfl) (hK _ ?_))
                   | (apply Exists.intro
                      refine⟨fun w' hC=>?_,hK _ ?_⟩
                      ·(unfold Oper.quietAt
                        obtain⟨⟨g0,t4⟩,e1⟩:=HG.out w' hC
                        clear hC
                        go_simp
                        try exact⟨rfl,rfl⟩
                        try rfl))
                  clear hK K
                  try simp only[nrm,Act.eval,nrq]))
              refine wpQuiet_nil ?_
              intro w4 hf4
              go_wp2
              exact⟨⟨m + 1,⟨congrArg (Value.int .i64) (by omega),by rw[HKS.out];rfl⟩,hlm,HFM.out.trans hf4⟩,by simp[intOf];omega⟩
           ·obtain rfl:n=m:=by omega
            have hge:¬ (n:Int) < (n:Int):=by omega
            have HKA:Hid (knownB s x n=!(speaks x && decide (rolIx s x.peer < 0))):=Lib.hid (by
             have:=knownB_all (s:=s) HKX.out
             rw[HN.out] at this
             exact this)
            have HFX:=Lib.hid (HX6.out.trans HFM.out)
            obtain⟨lo,hlo⟩:∃ l,(speaks x && decide (rolIx s x.peer < 0))=l:=⟨_,rfl⟩
            rw[hlo] at HKA
            rw[HKA.out]
            cases lo with
            | true =>
              have HCK:Hid (ck=294):=Lib.hid (by
               have h1:lb=true:=HHIT.out (by unfold lostB;rw[List.any_eq_true];exact⟨x,List.mem_of_getElem? HX.out,hlo⟩)
               rw[HCK.out,h1,if_pos rfl])
              clear hlo HKA HHIT
              go_wp2
              go_ret2
              first | exact⟨_,rfl,_,by rw[HCK.out];rfl,HF0.out.trans HFX.out⟩ | exact⟨_,rfl,⟨_,by rw[HCK.out];rfl⟩,HF0.out.trans HFX.out⟩ | exact⟨_,rfl,by rw[HCK.out];rfl,HF0.out.trans HFX.out⟩
            | false =>
              have HLO:=Lib.hid hlo
              clear hlo HKA
              go_wp2
              refine⟨⟨k + 1,congrArg (Value.int .i64) (by omega),hlk,HFX.out,fun j t hj ht=>?_⟩,by simp[intOf];omega⟩
              by_cases e:j=k
              ·subst e;rw[HX.out] at ht;cases ht;exact HLO.out
              ·exact HNK.out j t (by omega) ht
         ·obtain rfl:n3=k:=by omega
          have hge:¬ (n3:Int) < (n3:Int):=by omega
          have HLO:Hid (lostB s (s.rol a)=false):=Lib.hid (by
           unfold lostB
           rw[List.any_eq_false]
           intro t ht
           obtain⟨j,hj⟩:=List.getElem?_of_mem ht
           rw[HNK.out j t (by have:=lt_of_some hj;rw[HN3.out] at this;exact this) hj]
           decide)
          clear HHIT
          go_wp2
          refine⟨⟨a + 1,congrArg (Value.int .i64) (by omega),hlt,HF.out,fun j hj=>?_⟩,by simp[intOf];omega⟩
          by_cases e:j=a
          ·subst e;exact HLO.out
          ·exact HNO.out j (by omega)
       ·obtain rfl:n=a:=by omega
        have hge:¬ (n:Int) < (n:Int):=by omega
        have hl:lb=false:=by
         rw[← HLB.out,List.any_eq_false]
         intro r hr
         obtain⟨j,hj⟩:=List.getElem?_of_mem hr
         have hjl:=lt_of_some hj
         have h1:=HNO.out j (by rw[HN.out] at hjl;exact hjl)
         rw[show s.rol j=r from getD_some hj] at h1
         rw[h1];decide
        have HCK:Hid (ck=0):=Lib.hid (by rw[HCK.out,hl];rfl)
        clear hl
        go_wp2
        go_ret2
        first | exact⟨_,rfl,_,by rw[HCK.out];rfl,HF0.out.trans HF.out⟩ | exact⟨_,rfl,⟨_,by rw[HCK.out];rfl⟩,HF0.out.trans HF.out⟩ | exact⟨_,rfl,by rw[HCK.out];rfl,HF0.out.trans HF.out⟩
   ·have HCK:Hid (ck=2):=Lib.hid (by rw[HCK.out,hb,if_pos rfl])
    clear hb HW
    rcases hw with h1 | ⟨h1,h2⟩ | ⟨h1,h2,h3⟩ | ⟨h1,h2,h3,h4⟩ | ⟨h1,h2,h3,h4,h5⟩ | ⟨h1,h2,h3,h4,h5,h6⟩
    all_goals
     try have hc1:decide ((n:Int) < 2)=false:=decide_eq_false (by omega)
     try have hc2:decide (4 < (n:Int))=false:=decide_eq_false (by omega)
     try have hc3:decide (s.cls < 1)=false:=decide_eq_false (by omega)
     try have hc4:decide (3 < s.cls)=false:=decide_eq_false (by omega)
     try have hc5:decide (s.cap < 1)=false:=decide_eq_false (by omega)
     go_wp2_with (first
      | (go_at_call 85;go_must (refine(CN.out _).mono ?_;rintro e w1 ⟨rfl,hf1⟩;have HF1:=Lib.hid (HF0.out.trans hf1);clear e0 e1 e2 e3;obtain⟨e0,e1,e2,e3⟩:=HCL.out w1 hf1;clear hf1)))
     go_ret2
     first | exact⟨_,rfl,_,by rw[HCK.out];rfl,HF1.out⟩ | exact⟨_,rfl,⟨_,by rw[HCK.out];rfl⟩,HF1.out⟩ | exact⟨_,rfl,by rw[HCK.out];rfl,HF1.out⟩
end Go.Proofs.YtemjlpahohmajaaGreat
