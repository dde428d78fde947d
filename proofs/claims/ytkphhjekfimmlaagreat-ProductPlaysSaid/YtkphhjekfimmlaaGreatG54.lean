/- Part of the proof. -/
import Derived.Test.YtkphhjekfimmlaaGreatG26
set_option linter.all false
namespace Go.Proofs.YtkphhjekfimmlaaGreat
open Go.RowKit Go.BigFrame
theorem Tryz.undCtr:Tryz.prog.underlying 182=some (.struct (Tryz.prog.fieldsOf 182)):=by kernel_rfl
theorem Tryz.undState:Tryz.prog.underlying 62=some (.struct (Tryz.prog.fieldsOf 62)):=by kernel_rfl
set_option maxHeartbeats 1000000 in
set_option maxRecDepth 100000 in
theorem neq_ctr (a:CtrD) (w:World):(binOp .neq 182 (.agg #[.string a.name,.int .i64 a.lim]) (.agg #[.string a.name,.int .i64 a.lim])).run Tryz.prog w=.ok (.bool false) w:=by
 have h:(Op.equalIn (9999 + 1) 182 (.agg #[.string a.name,.int .i64 a.lim]) (.agg #[.string a.name,.int .i64 a.lim])).run Tryz.prog w=.ok true w:=by
  rw[run_equalIn_struct w 9999 182 _ _ Tryz.undCtr (by kernel_rfl)]
  simp[go_sem,Tryz.underlying182]
 simp only[binOp]
 simp[show Op.equal 182 (.agg #[.string a.name,.int .i64 a.lim]) (.agg #[.string a.name,.int .i64 a.lim])=Op.equalIn (9999 + 1) 182 (.agg #[.string a.name,.int .i64 a.lim]) (.agg #[.string a.name,.int .i64 a.lim]) from rfl,h]
set_option maxHeartbeats 1000000 in
set_option maxRecDepth 100000 in
theorem neq_state (a:StD) (w:World):(binOp .neq 62 (.agg #[.string a.name,.bool a.fin,.int .i64 a.wait]) (.agg #[.string a.name,.bool a.fin,.int .i64 a.wait])).run Tryz.prog w=.ok (.bool false) w:=by
 have h:(Op.equalIn (9999 + 1) 62 (.agg #[.string a.name,.bool a.fin,.int .i64 a.wait]) (.agg #[.string a.name,.bool a.fin,.int .i64 a.wait])).run Tryz.prog w=.ok true w:=by
  rw[run_equalIn_struct w 9999 62 _ _ Tryz.undState (by kernel_rfl)]
  simp[go_sem,Tryz.underlying62]
 simp only[binOp]
 simp[show Op.equal 62 (.agg #[.string a.name,.bool a.fin,.int .i64 a.wait]) (.agg #[.string a.name,.bool a.fin,.int .i64 a.wait])=Op.equalIn (9999 + 1) 62 (.agg #[.string a.name,.bool a.fin,.int .i64 a.wait]) (.agg #[.string a.name,.bool a.fin,.int .i64 a.wait]) from rfl,h]
set_option maxHeartbeats 1000000 in
set_option maxRecDepth 100000 in
theorem neq_step (a:StpD) (w:World):(binOp .neq 60 (stpV a) (stpV a)).run Tryz.prog w=.ok (.bool false) w:=by
 have h:(Op.equalIn (9999 + 1) 60 (stpV a) (stpV a)).run Tryz.prog w=.ok true w:=by
  rw[run_equalIn_struct w 9999 60 _ _ Tryz.und60 (by kernel_rfl)]
  simp[go_sem,Tryz.underlying60]
 simp only[binOp]
 simp[show Op.equal 60 (stpV a) (stpV a)=Op.equalIn (9999 + 1) 60 (stpV a) (stpV a) from rfl,h]
set_option maxHeartbeats 4000000 in
set_option maxRecDepth 100000 in
theorem aSame_any (v1 v2:Value) (r:RolD) (w:World) (h1:RlV w v1 r) (h2:RlV w v2 r) (hl:r.sts.length≤1000∧r.ctrs.length≤1000∧r.steps.length≤1000):Calls Tryz.prog 80 #[v1,v2] w (Ret (.bool true) (Frm [] w)):=by
 obtain⟨sv,cv,tv,rfl,g1⟩:=h1
 obtain⟨sv',cv',tv',rfl,g2⟩:=h2
 obtain⟨aS,cS,e,hS⟩:=g1.sts;subst e
 obtain⟨aC,cC,e,hC⟩:=g1.ctrs;subst e
 obtain⟨aT,cT,e,hT⟩:=g1.steps;subst e
 obtain⟨bS,dS',e,kS⟩:=g2.sts;subst e
 obtain⟨bC,dC',e,kC⟩:=g2.ctrs;subst e
 obtain⟨bT,dT',e,kT⟩:=g2.steps;subst e
 have HS:=Lib.hid hS;have HC:=Lib.hid hC;have HT:=Lib.hid hT;have KS:=Lib.hid kS;have KC:=Lib.hid kC;have KT:=Lib.hid kT
 obtain⟨n1,hn1⟩:∃ n,r.sts.length=n:=⟨_,rfl⟩
 obtain⟨n2,hn2⟩:∃ n,r.ctrs.length=n:=⟨_,rfl⟩
 obtain⟨n3,hn3⟩:∃ n,r.steps.length=n:=⟨_,rfl⟩
 have HN1:=Lib.hid hn1;have HN2:=Lib.hid hn2;have HN3:=Lib.hid hn3
 rw[hn1,hn2,hn3] at hl
 rw[hn1,hn2,hn3]
 obtain⟨X,hX⟩:∃ X,(w.alloc (.cells #[.string r.name,.slice aS n1 cS,.slice aC n2 cC,.slice aT n3 cT] 53)).alloc (.cells #[.string r.name,.slice bS n1 dS',.slice bC n2 dC',.slice bT n3 dT'] 53)=X:=⟨_,rfl⟩
 have HF:Hid (Frm [] w X):=Lib.hid (by rw[← hX];exact((Frm.refl _ _).alloc _).alloc _)
 have HB:Hid (∀ V,Frm [] X V→(V.cell? ⟨w.heap.size,0,none⟩=some (.string r.name)∧V.cell? ⟨w.heap.size,1,none⟩=some (.slice aS n1 cS)∧V.cell? ⟨w.heap.size,2,none⟩=some (.slice aC n2 cC)∧V.cell? ⟨w.heap.size,3,none⟩=some (.slice aT n3 cT)) ∧
   (V.cell? ⟨w.heap.size + 1,0,none⟩=some (.string r.name)∧V.cell? ⟨w.heap.size + 1,1,none⟩=some (.slice bS n1 dS')∧V.cell? ⟨w.heap.size + 1,2,none⟩=some (.slice bC n2 dC')∧V.cell? ⟨w.heap.size + 1,3,none⟩=some (.slice bT n3 dT'))):=Lib.hid fun V hV=>by
  have k1:X.heap[w.heap.size]?=some (.cells #[.string r.name,.slice aS n1 cS,.slice aC n2 cC,.slice aT n3 cT] 53 (0,0)):=by rw[← hX];exact alloc_at (heap_alloc_new _ _)
  have k2:X.heap[w.heap.size + 1]?=some (.cells #[.string r.name,.slice bS n1 dS',.slice bC n2 dC',.slice bT n3 dT'] 53 (0,0)):=by rw[← hX];exact alloc_top (by simp)
  have l1:=hV.at k1 (by simp)
  have l2:=hV.at k2 (by simp)
  exact⟨⟨cell_of l1 0,cell_of l1 1,cell_of l1 2,cell_of l1 3⟩,cell_of l2 0,cell_of l2 1,cell_of l2 2,cell_of l2 3⟩
 have HE:=Lib.hid hX
 clear g1 g2 hS hC hT kS kC kT hn1 hn2 hn3 hX
 obtain⟨⟨e0,e1,e2,e3⟩,f0,f1,f2,f3⟩:=HB.out X (Frm.refl _ _)
 go_enter Tryz.func80,Tryz.ntmps80
 go_wp2_with (first | (rw[HE.out]))
 clear e0 e1 e2 e3 f0 f1 f2 f3
 have HL:=Lib.hid (Frm.refl [] X)
 go_loopw [5] (fun s5 wl=>∃ i:Nat,s5=.int .i64 i∧i≤n2∧Frm [] X wl) (fun s5 _=>n2 - (intOf s5).toNat)
 case atStart=>exact⟨0,rfl,Nat.zero_le _,HL.out⟩
 case round =>
  obtain⟨i,rfl,hi,hf⟩:=hrel
  have HR:=Lib.hid hf
  clear hf HL
  obtain⟨w1,hw1⟩:∃ w1,w1=wr:=⟨_,rfl⟩
  subst hw1
  obtain⟨⟨e0,e1,e2,e3⟩,f0,f1,f2,f3⟩:=HB.out w1 HR.out
  by_cases hlt:i < n2
  ·have hlt':(i:Int) < (n2:Int):=by omega
   obtain⟨x,hx⟩:∃ x,r.ctrs[i]?=some x:=⟨_,List.getElem?_eq_getElem (by rw[HN2.out];exact hlt)⟩
   obtain⟨ba,oa,rfl,hat⟩:=HC.out i x hx
   obtain⟨bb,ob,rfl,hbt⟩:=KC.out i x hx
   obtain⟨a0,a1⟩:=hat.frm (HF.out.trans HR.out)
   obtain⟨b0,b1⟩:=hbt.frm (HF.out.trans HR.out)
   have hq:=fun W=>neq_ctr x W
   clear hat hbt hx
   go_upto_region 6 with fail
   refine wp_region_cq (by kernel_rfl) (by kernel_rfl) ?_
   repeat (first
    | go_big_quiet_skip
    | (refine wpQuiet_want (by rfl) (fun K hK=>?_)
       first
        | (refine quiet_move _ (by rfl) (hK _ ?_))
        | (refine quiet_assign _ (by rfl) (hK _ ?_))
        | (apply Exists.intro
           refine⟨fun w' hC=>?_,hK _ ?_⟩
           ·(unfold Oper.quietAt
             obtain⟨⟨z0,z1,z2,z3⟩,y0,y1,y2,y3⟩:=HB.out w' (HR.out.trans hC);have p0:=hC.keep a0;have p1:=hC.keep a1;have q0:=hC.keep b0;have q1:=hC.keep b1
             clear hC
             go_simp
             try exact⟨rfl,rfl⟩
             try rfl))
       clear hK K
       try simp only[nrm,Act.eval,nrq]))
   refine wpQuiet_nil ?_
   intro w2 hf2
   have HF2:=Lib.hid (HR.out.trans hf2)
   clear hf2 hq
   go_wp2
   exact⟨⟨i + 1,congrArg (Value.int .i64) (by omega),hlt,HF2.out⟩,by simp[intOf];omega⟩
  ·obtain rfl:n2=i:=by omega
   have hge:¬ (n2:Int) < (n2:Int):=by omega
   go_wp2
   clear e0 e1 e2 e3 f0 f1 f2 f3 hge
   have HL:=HR
   go_loopw [6] (fun s6 wl=>∃ i:Nat,s6=.int .i64 i∧i≤n1∧Frm [] X wl) (fun s6 _=>n1 - (intOf s6).toNat)
   case atStart=>exact⟨0,rfl,Nat.zero_le _,HL.out⟩
   case round =>
    obtain⟨i,rfl,hi,hf⟩:=hrel
    have HR:=Lib.hid hf
    clear hf HL
    obtain⟨w1,hw1⟩:∃ w1,w1=wr:=⟨_,rfl⟩
    subst hw1
    obtain⟨⟨e0,e1,e2,e3⟩,f0,f1,f2,f3⟩:=HB.out w1 HR.out
    by_cases hlt:i < n1
    ·have hlt':(i:Int) < (n1:Int):=by omega
     obtain⟨x,hx⟩:∃ x,r.sts[i]?=some x:=⟨_,List.getElem?_eq_getElem (by rw[HN1.out];exact hlt)⟩
     obtain⟨ba,oa,rfl,hat⟩:=HS.out i x hx
     obtain⟨bb,ob,rfl,hbt⟩:=KS.out i x hx
     obtain⟨a0,a1,a2⟩:=hat.frm (HF.out.trans HR.out)
     obtain⟨b0,b1,b2⟩:=hbt.frm (HF.out.trans HR.out)
     have hq:=fun W=>neq_state x W
     clear hat hbt hx
     go_upto_region 11 with fail
     refine wp_region_cq (by kernel_rfl) (by kernel_rfl) ?_
     repeat (first
      | go_big_quiet_skip
      | (refine wpQuiet_want (by rfl) (fun K hK=>?_)
         first
          | (refine quiet_move _ (by rfl) (hK _ ?_))
          | (refine quiet_assign _ (by rfl) (hK _ ?_))
          | (apply Exists.intro
             refine⟨fun w' hC=>?_,hK _ ?_⟩
             ·(unfold Oper.quietAt
               obtain⟨⟨z0,z1,z2,z3⟩,y0,y1,y2,y3⟩:=HB.out w' (HR.out.trans hC);have p0:=hC.keep a0;have p1:=hC.keep a1;have p2:=hC.keep a2;have q0:=hC.keep b0;have q1:=hC.keep b1;have q2:=hC.keep b2
               clear hC
               go_simp
               try exact⟨rfl,rfl⟩
               try rfl))
         clear hK K
         try simp only[nrm,Act.eval,nrq]))
     refine wpQuiet_nil ?_
     intro w2 hf2
     have HF2:=Lib.hid (HR.out.trans hf2)
     clear hf2 hq
     go_wp2
     exact⟨⟨i + 1,congrArg (Value.int .i64) (by omega),hlt,HF2.out⟩,by simp[intOf];omega⟩
    ·obtain rfl:n1=i:=by omega
     have hge:¬ (n1:Int) < (n1:Int):=by omega
     go_wp2
     clear e0 e1 e2 e3 f0 f1 f2 f3 hge
     have HL:=HR
     go_loopw [7] (fun s7 wl=>∃ i:Nat,s7=.int .i64 i∧i≤n3∧Frm [] X wl) (fun s7 _=>n3 - (intOf s7).toNat)
     case atStart=>exact⟨0,rfl,Nat.zero_le _,HL.out⟩
     case round =>
      obtain⟨i,rfl,hi,hf⟩:=hrel
      have HR:=Lib.hid hf
      clear hf HL
      obtain⟨w1,hw1⟩:∃ w1,w1=wr:=⟨_,rfl⟩
      subst hw1
      obtain⟨⟨e0,e1,e2,e3⟩,f0,f1,f2,f3⟩:=HB.out w1 HR.out
      by_cases hlt:i < n3
      ·have hlt':(i:Int) < (n3:Int):=by omega
       obtain⟨x,hx⟩:∃ x,r.steps[i]?=some x:=⟨_,List.getElem?_eq_getElem (by rw[HN3.out];exact hlt)⟩
       obtain⟨ba,oa,rfl,hat⟩:=HT.out i x hx
       obtain⟨bb,ob,rfl,hbt⟩:=KT.out i x hx
       obtain⟨a0,a1,a2,a3,a4,a5,a6,a7,a8⟩:=hat.frm (HF.out.trans HR.out)
       obtain⟨b0,b1,b2,b3,b4,b5,b6,b7,b8⟩:=hbt.frm (HF.out.trans HR.out)
       have hq:=fun W=>neq_step x W
       clear hat hbt hx
       go_upto_region 16 with fail
       refine wp_region_cq (by kernel_rfl) (by kernel_rfl) ?_
       repeat (first
        | go_big_quiet_skip
        | (refine wpQuiet_want (by rfl) (fun K hK=>?_)
           first
            | (refine quiet_move _ (by rfl) (hK _ ?_))
            | (refine quiet_assign _ (by rfl) (hK _ ?_))
            | (apply Exists.intro
               refine⟨fun w' hC=>?_,hK _ ?_⟩
               ·(unfold Oper.quietAt
                 obtain⟨⟨z0,z1,z2,z3⟩,y0,y1,y2,y3⟩:=HB.out w' (HR.out.trans hC);have p0:=hC.keep a0;have p1:=hC.keep a1;have p2:=hC.keep a2;have p3:=hC.keep a3;have p4:=hC.keep a4;have p5:=hC.keep a5;have p6:=hC.keep a6;have p7:=hC.keep a7;have p8:=hC.keep a8;have q0:=hC.keep b0;have q1:=hC.keep b1;have q2:=hC.keep b2;have q3:=hC.keep b3;have q4:=hC.keep b4;have q5:=hC.keep b5;have q6:=hC.keep b6;have q7:=hC.keep b7;have q8:=hC.keep b8
                 clear hC
                 go_simp
                 try exact⟨rfl,rfl⟩
                 try rfl))
           clear hK K
           try simp only[nrm,Act.eval,nrq]))
       refine wpQuiet_nil ?_
       intro w2 hf2
       have HF2:=Lib.hid (HR.out.trans hf2)
       clear hf2 hq
       go_wp2
       exact⟨⟨i + 1,congrArg (Value.int .i64) (by omega),hlt,HF2.out⟩,by simp[intOf];omega⟩
      ·obtain rfl:n3=i:=by omega
       have hge:¬ (n3:Int) < (n3:Int):=by omega
       go_wp2
       clear e0 e1 e2 e3 f0 f1 f2 f3 hge
       have HL:=HR
       go_ret
       exact⟨rfl,HF.out.trans HL.out⟩
set_option maxHeartbeats 4000000 in
set_option maxRecDepth 100000 in
theorem aSameS_any (v1 v2:Value) (s:SesD) (w:World) (h1:SesV w v1 s) (h2:SesV w v2 s) (hl:s.roles.length≤1000) (hr:∀ r∈s.roles,r.sts.length≤1000∧r.ctrs.length≤1000∧r.steps.length≤1000):Calls Tryz.prog 25 #[v1,v2] w (Ret (.bool true) (Frm [] w)):=by
 obtain⟨rv,rfl,g1⟩:=h1
 obtain⟨rv',rfl,g2⟩:=h2
 obtain⟨aR,cR,e,-⟩:=id g1;subst e
 obtain⟨bR,dR',e,-⟩:=id g2;subst e
 have HR1:=Lib.hid g1;have HR2:=Lib.hid g2;have HLN:=Lib.hid hr
 obtain⟨n,hn⟩:∃ n,s.roles.length=n:=⟨_,rfl⟩
 have HN:=Lib.hid hn
 rw[hn] at hl HR1 HR2
 rw[hn]
 obtain⟨X,hX⟩:∃ X,(w.alloc (.cells #[.string s.name,.slice aR n cR,.int .i64 s.cls,.int .i64 s.cap] 25)).alloc (.cells #[.string s.name,.slice bR n dR',.int .i64 s.cls,.int .i64 s.cap] 25)=X:=⟨_,rfl⟩
 have HF:Hid (Frm [] w X):=Lib.hid (by rw[← hX];exact((Frm.refl _ _).alloc _).alloc _)
 have HB:Hid (∀ V,Frm [] X V→(V.cell? ⟨w.heap.size,0,none⟩=some (.string s.name)∧V.cell? ⟨w.heap.size,1,none⟩=some (.slice aR n cR)∧V.cell? ⟨w.heap.size,2,none⟩=some (.int .i64 s.cls)∧V.cell? ⟨w.heap.size,3,none⟩=some (.int .i64 s.cap)) ∧
   (V.cell? ⟨w.heap.size + 1,0,none⟩=some (.string s.name)∧V.cell? ⟨w.heap.size + 1,1,none⟩=some (.slice bR n dR')∧V.cell? ⟨w.heap.size + 1,2,none⟩=some (.int .i64 s.cls)∧V.cell? ⟨w.heap.size + 1,3,none⟩=some (.int .i64 s.cap))):=Lib.hid fun V hV=>by
  have k1:X.heap[w.heap.size]?=some (.cells #[.string s.name,.slice aR n cR,.int .i64 s.cls,.int .i64 s.cap] 25 (0,0)):=by rw[← hX];exact alloc_at (heap_alloc_new _ _)
  have k2:X.heap[w.heap.size + 1]?=some (.cells #[.string s.name,.slice bR n dR',.int .i64 s.cls,.int .i64 s.cap] 25 (0,0)):=by rw[← hX];exact alloc_top (by simp)
  have l1:=hV.at k1 (by simp)
  have l2:=hV.at k2 (by simp)
  exact⟨⟨cell_of l1 0,cell_of l1 1,cell_of l1 2,cell_of l1 3⟩,cell_of l2 0,cell_of l2 1,cell_of l2 2,cell_of l2 3⟩
 have HE:=Lib.hid hX
 clear g1 g2 hn hr hX
 obtain⟨⟨e0,e1,e2,e3⟩,f0,f1,f2,f3⟩:=HB.out X (Frm.refl _ _)
 go_enter Tryz.func25,Tryz.ntmps25
 go_wp2_with (first | (rw[HE.out]))
 clear e0 e1 e2 e3 f0 f1 f2 f3
 have HL:=Lib.hid (Frm.refl [] X)
 go_loopw [5] (fun s5 wl=>∃ i:Nat,s5=.int .i64 i∧i≤n∧Frm [] X wl) (fun s5 _=>n - (intOf s5).toNat)
 case atStart=>exact⟨0,rfl,Nat.zero_le _,HL.out⟩
 case round =>
  obtain⟨i,rfl,hi,hf⟩:=hrel
  have HR:=Lib.hid hf
  clear hf HL
  obtain⟨w1,hw1⟩:∃ w1,w1=wr:=⟨_,rfl⟩
  subst hw1
  obtain⟨⟨e0,e1,e2,e3⟩,f0,f1,f2,f3⟩:=HB.out w1 HR.out
  by_cases hlt:i < n
  ·have hlt':(i:Int) < (n:Int):=by omega
   have hin:i < s.roles.length:=by rw[HN.out];exact hlt
   have hmem:s.rol i∈s.roles:=List.mem_of_getElem? (SesD.rol_some hin)
   obtain⟨ba,oa,sv,cv,tv,rfl,⟨a0,a1,a2,a3⟩,h3⟩:=Rls.at HR1.out hin
   obtain⟨bb,ob,sv',cv',tv',rfl,⟨b0,b1,b2,b3⟩,h3'⟩:=Rls.at HR2.out hin
   have CS:Hid (∀ V,Frm [] w V→Calls Tryz.prog 80 #[.agg #[.string (s.rol i).name,sv,cv,tv],.agg #[.string (s.rol i).name,sv',cv',tv']] V (Ret (.bool true) (Frm [] V))):=Lib.hid fun V hV =>
    aSame_any _ _ (s.rol i) V ⟨_,_,_,rfl,h3.frm hV⟩ ⟨_,_,_,rfl,h3'.frm hV⟩ (HLN.out _ hmem)
   obtain⟨nm,hnm⟩:∃ q,(s.rol i).name=q:=⟨_,rfl⟩
   rw[hnm] at CS a0 b0
   have HU:Hid (∀ V,Frm [] w V→(V.cell? ⟨ba,oa + i * 4,none⟩=some (.string nm)∧V.cell? ⟨ba,oa + i * 4 + 1,none⟩=some sv∧V.cell? ⟨ba,oa + i * 4 + 2,none⟩=some cv∧V.cell? ⟨ba,oa + i * 4 + 3,none⟩=some tv) ∧
    (V.cell? ⟨bb,ob + i * 4,none⟩=some (.string nm)∧V.cell? ⟨bb,ob + i * 4 + 1,none⟩=some sv'∧V.cell? ⟨bb,ob + i * 4 + 2,none⟩=some cv'∧V.cell? ⟨bb,ob + i * 4 + 3,none⟩=some tv')):=Lib.hid fun V hV=>⟨⟨hV.keep a0,hV.keep a1,hV.keep a2,hV.keep a3⟩,hV.keep b0,hV.keep b1,hV.keep b2,hV.keep b3⟩
   clear h3 h3' hmem hin hnm a0 a1 a2 a3 b0 b1 b2 b3
   go_upto_region 6 with fail
   refine wp_region_cq (by kernel_rfl) (by kernel_rfl) ?_
   repeat (first
    | go_big_quiet_skip
    | (refine wpQuiet_want (by rfl) (fun K hK=>?_)
       first
        | (refine quiet_move _ (by rfl) (hK _ ?_))
        | (refine quiet_assign _ (by rfl) (hK _ ?_))
        | (refine cq_call (.bool true) 80 #[.agg #[.string nm,sv,cv,tv],.agg #[.string nm,sv',cv',tv']] (fun w' hC=>?_) (fun w' hC=>Ret.cq (CS.out w' (HF.out.trans (HR.out.trans hC))) (fun w'' h=>hC.trans h)) (hK _ ?_)
           ·go_simp)
        | (apply Exists.intro
           refine⟨fun w' hC=>?_,hK _ ?_⟩
           ·(unfold Oper.quietAt
             obtain⟨⟨z0,z1,z2,z3⟩,y0,y1,y2,y3⟩:=HB.out w' (HR.out.trans hC);obtain⟨⟨p0,p1,p2,p3⟩,q0,q1,q2,q3⟩:=HU.out w' (HF.out.trans (HR.out.trans hC))
             clear hC
             go_simp
             try exact⟨rfl,rfl⟩
             try rfl))
       clear hK K
       try simp only[nrm,Act.eval,nrq]))
   refine wpQuiet_nil ?_
   intro w2 hf2
   have HF2:=Lib.hid (HR.out.trans hf2)
   clear hf2
   go_wp2
   exact⟨⟨i + 1,congrArg (Value.int .i64) (by omega),hlt,HF2.out⟩,by simp[intOf];omega⟩
  ·obtain rfl:n=i:=by omega
   have hge:¬ (n:Int) < (n:Int):=by omega
   go_wp2
   go_ret
   exact⟨rfl,HF.out.trans HR.out⟩
end Go.Proofs.YtkphhjekfimmlaaGreat
