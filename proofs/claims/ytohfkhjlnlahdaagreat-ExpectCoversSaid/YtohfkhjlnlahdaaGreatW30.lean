/- Part of the proof. -/
import Derived.Test.YtohfkhjlnlahdaaGreatW25
import Derived.Test.YtohfkhjlnlahdaaGreatW24
set_option linter.all false
namespace Go.Proofs.YtohfkhjlnlahdaaGreat
open Go.RowKit Go.BigFrame
theorem firstE_go (s:SesD):∀ (l:List RolD) (i:Nat),(∀ j,j < l.length→rolE s (i + j) (l.getD j dR)=0)→firstE s i l=0
 | [],_,_=>rfl
 | r :: l,i,h=>by
   have h0:=h 0 (by simp)
   have h1:=firstE_go s l (i + 1) (fun j hj=>by have:=h (j + 1) (by simp;omega);rw[show i + 1 + j=i + (j + 1) by omega];exact this)
   unfold firstE
   rw[if_pos (show rolE s i r=0 from h0),h1]
theorem firstE_hit (s:SesD):∀ (l:List RolD) (i k:Nat),k < l.length→(∀ j,j < k→rolE s (i + j) (l.getD j dR)=0)→rolE s (i + k) (l.getD k dR)≠0→firstE s i l=rolE s (i + k) (l.getD k dR)
 | [],_,k,hk,_,_=>by simp at hk
 | r :: l,i,0,_,_,hne=>by
   unfold firstE
   rw[if_neg (show ¬ rolE s i r=0 from hne)];rfl
 | r :: l,i,k + 1,hk,h,hne=>by
   have h0:=h 0 (by omega)
   unfold firstE
   rw[if_pos (show rolE s i r=0 from h0),firstE_hit s l (i + 1) k (by simpa using hk) (fun j hj=>by have:=h (j + 1) (by omega);rw[show i + 1 + j=i + (j + 1) by omega];exact this) (by rw[show i + 1 + k=i + (k + 1) by omega];exact hne)]
   rw[show i + 1 + k=i + (k + 1) by omega];rfl
structure SmS (s:SesD):Prop where
 n:s.roles.length≤100
 r:∀ r∈s.roles,SmR r
theorem kSpeaks_eq (x:StpD):kSpeaks x.kind=speaks x:=rfl
structure SBox (w:World) (sb nb:Nat) (s:SesD) (rv:Value):Prop where
 b:w.heap[sb]?=some (.cells #[.string s.name,rv,.int .i64 s.cls,.int .i64 s.cap] 25 (0,0))
 f:w.cell? ⟨nb,0,none⟩=some (.func (.func 162) #[] #[.pointer (some ⟨sb,0,none⟩)])
 l:Rls w rv s.roles
theorem SBox.frm {w w':World} {sb nb:Nat} {s:SesD} {rv:Value} (h:SBox w sb nb s rv) (hf:Frm [] w w'):SBox w' sb nb s rv:=⟨hf.at h.b (by simp),hf.keep h.f,h.l.frm hf⟩
theorem Tryz.call_rSes1 (args:Array Value) (w:World):(callFunc 162 args).run Tryz.prog w=.ok (.enter 162 args) w:=by kernel_rfl
theorem Tryz.call_rSes2 (args:Array Value) (w:World):(callFunc 168 args).run Tryz.prog w=.ok (.enter 168 args) w:=by kernel_rfl
theorem field_speaks (a:ByteArray) (b:Bool) (f:Value) (h:f=.nilFunc∨∃ K,f=.func (.func K) #[] #[]) (W:World):(Instr.field 279 (.agg #[.string a,.bool b,f]) 1).run Tryz.prog W=.ok (.bool b) W:=by
 rcases h with rfl | ⟨K,rfl⟩
 all_goals simp[Instr.field,go_sem,Tryz.underlying279,asAgg,part]
set_option maxHeartbeats 2000000 in
set_option maxRecDepth 100000 in
theorem rSes2_any (sb nb:Nat) (s:SesD) (rv:Value) (x:StpD) (w:World) (h:SBox w sb nb s rv) (hn:s.roles.length≤100) (hw:wf64 x.kind) :
  Calls Tryz.prog 168 #[stpV x,.pointer (some ⟨nb,0,none⟩)] w (Ret (.bool (speaks x && decide (rolIx s x.peer < 0))) (Frm [] w)):=by
 obtain⟨W1,hW1⟩:∃ W1,w.alloc (.cells (encT x) 137)=W1:=⟨_,rfl⟩
 have hf1:Frm [] w W1:=by rw[← hW1];exact(Frm.refl _ _).alloc _
 have HB:Hid (∀ V,Frm [] W1 V→V.cell? ⟨w.heap.size,2,none⟩=some (.int .i64 x.kind)∧V.cell? ⟨w.heap.size,4,none⟩=some (.string x.peer)∧V.cell? ⟨nb,0,none⟩=some (.func (.func 162) #[] #[.pointer (some ⟨sb,0,none⟩)])):=Lib.hid fun V hV=>by
  have hb:W1.heap[w.heap.size]?=some (.cells (encT x) 137 (0,0)):=by rw[← hW1];exact heap_alloc_new _ _
  exact⟨hV.keep (cell_of hb 2),hV.keep (cell_of hb 4),hV.keep (hf1.keep h.f)⟩
 have CN:Hid (∀ V,Frm [] W1 V→Calls Tryz.prog 162 #[.string x.peer,.pointer (some ⟨sb,0,none⟩)] V (Ret (.int .i64 (rolIx s x.peer)) (Frm [] V))):=Lib.hid fun V hV=>by
  have h':=h.frm (hf1.trans hV)
  exact rSes1_any sb s rv x.peer V (cell_of h'.b 1) h'.l (by omega)
 have HF:=Lib.hid hf1
 have HE:=Lib.hid hW1
 have HK:=Lib.hid hw
 have HC1:=Lib.hid Tryz.call_rSes1
 rw[← kSpeaks_eq]
 obtain⟨sp,hsp⟩:∃ b,kSpeaks x.kind=b:=⟨_,rfl⟩
 have HSP:=Lib.hid hsp
 obtain⟨q,hq⟩:∃ q,rolIx s x.peer=q:=⟨_,rfl⟩
 rw[hsp,hq]
 rw[hq] at CN
 clear h hn hw hf1 hW1 hsp hq
 go_enter Tryz.func168,Tryz.ntmps168
 go_upto_region 1 with (first | (refine wpList_box_row rfl 137 _ rfl (encT x) rfl ?_;rw[HE.out]))
 obtain⟨e0,e1,e2⟩:=HB.out W1 (Frm.refl _ _)
 have l0:=cell_lt e0
 have l2:=cell_lt e2
 have hfl:=fun b W=>field_speaks (kWord x.kind) b (kFn x.kind) (kFn_cases x.kind) W
 cases sp with
 | false =>
   refine heldG_start (by kernel_rfl) ?_
   refine cnt 1 ?_
   iterate 2
    refine tcG ?_ ?_ ?_
    rotate_left
    ·intro w' hC
     obtain⟨z0,z1,z2⟩:=HB.out w' ((Frm.refl [] W1).drew.trans hC)
     clear hC
     go_simp
     try rfl
    try simp only[nrm,Nat.reduceAdd]
   refine tcn ?_
   refine stG 0 (fun K' hK'=>?_)
   go_simp
   (refine(rKinds_any _).mono ?_;rintro e w2 ⟨v,rfl,mb,rfl,hk,hf⟩;have HF2:Hid (Frm [] W1 w2):=Lib.hid ((Frm.refl [] W1).drew.trans hf);have HLK:=Lib.hid hk;clear hk)
   refine hK'.out _ _ (hf) ?_
   clear hK' K'
   try simp only[nrm]
   refine cnt 3 ?_
   iterate 3
    refine tcG ?_ ?_ ?_
    rotate_left
    ·intro w' hC
     have hl1:=(HLK.out w' hC _ HK.out).2
     rw[HSP.out] at hl1
     clear hC
     go_simp
     try rfl
    try simp only[nrm,Nat.reduceAdd]
   refine tcn ?_
   refine cnt 6 ?_
   iterate 5
    refine scG ?_
    try simp only[nrm,Nat.reduceAdd]
   refine tcn ?_
   refine cnt 11 ?_
   iterate 2
    refine tcG ?_ ?_ ?_
    rotate_left
    ·intro w' hC
     have hl1:=(HLK.out w' hC _ HK.out).2
     rw[HSP.out] at hl1
     clear hC
     go_simp
     try rfl
    try simp only[nrm,Nat.reduceAdd]
   refine tcn ?_
   refine wpAnyH_done (by kernel_rfl) ?_ _
   go_wp2
   go_ret
   exact⟨rfl,HF.out.trans HF2.out⟩
 | true =>
   refine heldG_start (by kernel_rfl) ?_
   refine cnt 1 ?_
   iterate 2
    refine tcG ?_ ?_ ?_
    rotate_left
    ·intro w' hC
     obtain⟨z0,z1,z2⟩:=HB.out w' ((Frm.refl [] W1).drew.trans hC)
     clear hC
     go_simp
     try rfl
    try simp only[nrm,Nat.reduceAdd]
   refine tcn ?_
   refine stG 0 (fun K' hK'=>?_)
   go_simp
   (refine(rKinds_any _).mono ?_;rintro e w2 ⟨v,rfl,mb,rfl,hk,hf⟩;have HF2:Hid (Frm [] W1 w2):=Lib.hid ((Frm.refl [] W1).drew.trans hf);have HLK:=Lib.hid hk;clear hk)
   refine hK'.out _ _ (hf) ?_
   clear hK' K'
   try simp only[nrm]
   refine cnt 3 ?_
   iterate 6
    refine tcG ?_ ?_ ?_
    rotate_left
    ·intro w' hC
     have hl1:=(HLK.out w' hC _ HK.out).2
     rw[HSP.out] at hl1
     obtain⟨z0,z1,z2⟩:=HB.out w' (HF2.out.trans hC)
     clear hC
     go_simp
     try rfl
    try simp only[nrm,Nat.reduceAdd]
   refine tcn ?_
   refine stG 9 (fun K' hK'=>?_)
   go_simp
   (refine(CN.out _ HF2.out).mono ?_;rintro e w3 ⟨rfl,hf3⟩;have HF3:Hid (Frm [] W1 w3):=Lib.hid (HF2.out.trans hf3))
   refine hK'.out _ _ (hf3) ?_
   clear hK' K'
   try simp only[nrm]
   refine cnt 10 ?_
   iterate 3
    refine tcG ?_ ?_ ?_
    rotate_left
    ·intro w' hC
     clear hC
     go_simp
     try rfl
    try simp only[nrm,Nat.reduceAdd]
   refine tcn ?_
   refine wpAnyH_done (by kernel_rfl) ?_ _
   go_wp2
   go_ret
   exact⟨by simp,HF.out.trans HF3.out⟩
theorem ixf_anyB {α:Type} (p:α→Bool) (l:List α):decide (0≤ixf p l)=l.any p:=by
 rw[Bool.eq_iff_iff,decide_eq_true_eq,List.any_eq_true]
 constructor
 ·intro h
  obtain⟨i,hi,-⟩:=ixf_nat h
  obtain⟨x,h1,h2,-⟩:=ixf_at hi
  exact⟨x,List.mem_of_getElem? h1,h2⟩
 ·rintro⟨x,h1,h2⟩
  exact ixf_ex h1 h2
set_option maxHeartbeats 1000000 in
theorem ixStep_any (K:FuncId) (caps:Array Value) (p:StpD→Bool) (v:Value) (xs:List StpD) (w:World) (h:Arr 9 SpAt w v xs) (hl:xs.length≤1000) (hK:∀ args w,(callFunc K args).run Tryz.prog w=.ok (.enter K args) w)
  (hp:∀ W x,Frm [] w W→x∈xs→Calls Tryz.prog K (#[stpV x] ++ caps) W (Ret (.bool (p x)) (Frm [] W))) :
  Calls Tryz.prog 167 #[v,.func (.func K) #[] caps] w (Ret (.int .i64 (ixf p xs)) (Frm [] w)):=by
 have C2:=Lib.hid (ifStep_any K caps p v xs w h hl hK hp)
 clear h hl hK hp
 go_enter Tryz.func167,Tryz.ntmps167
 go_wp2_with (go_at_call 147;go_must (refine C2.out.mono ?_;rintro e w1 ⟨rfl,hf1⟩;have HF1:=Lib.hid hf1;clear hf1))
 go_ret
 exact⟨rfl,HF1.out⟩
theorem ses_ways (s:SesD):sesBad s=false∨(sesBad s=true∧((s.roles.length:Int) < 2∨(¬ (s.roles.length:Int) < 2∧4 < (s.roles.length:Int))∨(¬ (s.roles.length:Int) < 2∧¬ 4 < (s.roles.length:Int)∧s.cls < 1) ∨
  (¬ (s.roles.length:Int) < 2∧¬ 4 < (s.roles.length:Int)∧¬ s.cls < 1∧3 < s.cls)∨(¬ (s.roles.length:Int) < 2∧¬ 4 < (s.roles.length:Int)∧¬ s.cls < 1∧¬ 3 < s.cls∧s.cap < 1) ∨
  (¬ (s.roles.length:Int) < 2∧¬ 4 < (s.roles.length:Int)∧¬ s.cls < 1∧¬ 3 < s.cls∧¬ s.cap < 1∧4 < s.cap))):=by
 cases h:sesBad s with
 | false=>exact .inl rfl
 | true =>
   right
   refine⟨rfl,?_⟩
   unfold sesBad at h
   simp only[Bool.or_eq_true,decide_eq_true_eq] at h
   omega
theorem ses_good {s:SesD} (h:sesBad s=false):2≤s.roles.length∧s.roles.length≤4∧1≤s.cls∧s.cls≤3∧1≤s.cap∧s.cap≤4:=by
 unfold sesBad at h
 simp only[Bool.or_eq_false_iff,decide_eq_false_iff_not] at h
 omega
theorem Rls.at {w:World} {ao:Option Addr} {n cap:Nat} {s:SesD} (h:Rls w (.slice ao n cap) s.roles) {i:Nat} (hi:i < s.roles.length):∃ b o sv cv tv,ao=some ⟨b,o,none⟩ ∧
  (w.cell? ⟨b,o + i * 4,none⟩=some (.string (s.rol i).name)∧w.cell? ⟨b,o + i * 4 + 1,none⟩=some sv∧w.cell? ⟨b,o + i * 4 + 2,none⟩=some cv∧w.cell? ⟨b,o + i * 4 + 3,none⟩=some tv)∧Rl3 w sv cv tv (s.rol i):=by
 obtain⟨b,o,rfl,sv,cv,tv,h1,h2,h3,h4,h5⟩:=h.get (SesD.rol_some hi)
 exact⟨b,o,sv,cv,tv,rfl,⟨h1,h2,h3,h4⟩,h5⟩
set_option maxHeartbeats 4000000 in
set_option maxRecDepth 100000 in
theorem rSes_any (v:Value) (s:SesD) (w:World) (h:SesV w v s) (hs:SmS s):Calls Tryz.prog 111 #[v] w (RetV fun u w'=>∃ i,u=.tuple #[.int .i64 i,.int .i64 (ckSes s)]∧Frm [] w w'):=by
 obtain⟨rv,rfl,hr⟩:=h
 obtain⟨ao,cap,e,-⟩:=id hr
 subst e
 have HSM:=Lib.hid hs
 have HRL:=Lib.hid hr
 have CN:Hid (∀ V,Calls Tryz.prog 165 #[.string s.name] V (Ret (.bool (nameB s.name)) (Frm [] V))):=Lib.hid fun V=>rName_any s.name V
 have HCK:Hid (ckSes s=if nameB s.name=false then 290 else if sesBad s=true then 2 else if firstE s 0 s.roles=0 then (if s.roles.any (lostB s)=true then 294 else 0) else firstE s 0 s.roles):=Lib.hid rfl
 obtain⟨ck,hck⟩:∃ c,ckSes s=c:=⟨_,rfl⟩
 rw[hck] at HCK ⊢
 have HW:=Lib.hid (ses_ways s)
 obtain⟨n,hn⟩:∃ n,s.roles.length=n:=⟨_,rfl⟩
 rw[hn] at HW HRL ⊢
 have HN:=Lib.hid hn
 obtain⟨W0,hW0⟩:∃ W0,(w.alloc (.cells #[.string s.name,.slice ao n cap,.int .i64 s.cls,.int .i64 s.cap] 25)).alloc (.cells #[.func (.func 162) #[] #[.pointer (some ⟨w.heap.size,0,none⟩)]] 138)=W0:=⟨_,rfl⟩
 have hf0:Frm [] w W0:=by rw[← hW0];exact((Frm.refl [] w).alloc _).alloc _
 have HB:Hid (SBox W0 w.heap.size (w.heap.size + 1) s (.slice ao n cap)):=Lib.hid ⟨by rw[← hW0];exact alloc_at (heap_alloc_new _ _),by rw[← hW0];exact cell_of (alloc_top (by simp)) 0,HRL.out.frm hf0⟩
 have HF0:=Lib.hid hf0
 have HCL:Hid (∀ V,Frm [] W0 V→V.cell? ⟨w.heap.size,0,none⟩=some (.string s.name)∧V.cell? ⟨w.heap.size,1,none⟩=some (.slice ao n cap)∧V.cell? ⟨w.heap.size,2,none⟩=some (.int .i64 s.cls)∧V.cell? ⟨w.heap.size,3,none⟩=some (.int .i64 s.cap) ∧
   V.cell? ⟨w.heap.size + 1,0,none⟩=some (.func (.func 162) #[] #[.pointer (some ⟨w.heap.size,0,none⟩)])):=Lib.hid fun V hV=>by
  have hb:=(HB.out.frm hV).b
  exact⟨cell_of hb 0,cell_of hb 1,cell_of hb 2,cell_of hb 3,(HB.out.frm hV).f⟩
 have CNm:Hid (∀ V nm,Frm [] W0 V→Calls Tryz.prog 162 #[.string nm,.pointer (some ⟨w.heap.size,0,none⟩)] V (Ret (.int .i64 (rolIx s nm)) (Frm [] V))):=Lib.hid fun V nm hV=>by
  have h':=HB.out.frm hV
  exact rSes1_any w.heap.size s _ nm V (cell_of h'.b 1) h'.l (by have:=HSM.out.n;omega)
 have HE:=Lib.hid hW0
 have hcall:=Tryz.call_rSes1
 obtain⟨q0,hq0⟩:∃ q,nameB s.name=q:=⟨_,rfl⟩
 rw[hq0] at CN HCK
 clear hr hs hck hn hf0 hW0 hq0
 go_enter Tryz.func111,Tryz.ntmps111
 go_upto_region 2 with fail
 rw[HE.out]
 clear HE
 obtain⟨e0,e1,e2,e3,e4⟩:=HCL.out W0 (Frm.refl _ _)
 cases q0 with
 | false =>
   have HCK:Hid (ck=290):=Lib.hid (by rw[HCK.out,if_pos rfl])
   go_wp2_with (first
    | (go_at_call 165;go_must (refine(CN.out _).mono ?_;rintro e w1 ⟨rfl,hf1⟩;have HF1:=Lib.hid (HF0.out.trans hf1);clear hf1)))
   go_ret2
   exact⟨_,rfl,_,by rw[HCK.out];rfl,HF1.out⟩
 | true =>
   rw[if_neg (by decide)] at HCK
   rcases HW.out with hb | ⟨hb,hw⟩
   ·have hg:=ses_good hb
    rw[hb,if_neg (by decide)] at HCK
    have hc1:¬ (n:Int) < 2:=by rw[← HN.out];omega
    have hc2:¬ 4 < (n:Int):=by rw[← HN.out];omega
    have hc3:¬ s.cls < 1:=by omega
    have hc4:¬ 3 < s.cls:=by omega
    have hc5:¬ s.cap < 1:=by omega
    have hc6:¬ 4 < s.cap:=by omega
    clear hg hb HW
    go_wp2_with (first
     | (go_at_call 165;go_must (refine(CN.out _).mono ?_;rintro e w1 ⟨rfl,hf1⟩;have HF1:=Lib.hid hf1;clear e0 e1 e2 e3 e4;obtain⟨e0,e1,e2,e3,e4⟩:=HCL.out w1 hf1;clear hf1)))
    clear CN hc1 hc2 hc3 hc4 hc5 hc6 e0 e1 e2 e3 e4
    go_loopw [51] (fun s51 wr=>∃ i:Nat,s51=.int .i64 i∧i≤n∧Frm [] W0 wr∧∀ j,j < i→rolE s j (s.rol j)=0) (fun s51 _=>n - (intOf s51).toNat)
    case atStart=>exact⟨0,rfl,Nat.zero_le _,HF1.out,fun j hj=>by omega⟩
    case round =>
     obtain⟨i,rfl,hi,hf,hno⟩:=hrel
     have HF:=Lib.hid hf;have HNO:=Lib.hid hno
     clear hf hno
     by_cases hlt:i < n
     ·have hlt':(i:Int) < (n:Int):=by omega
      have hin:i < s.roles.length:=by rw[HN.out];exact hlt
      obtain⟨b,o,sv,cv,tv,rfl,⟨d0,d1,d2,d3⟩,h3⟩:=Rls.at (HB.out.frm HF.out).l hin
      obtain⟨aS,cs,es,-⟩:=id h3.sts
      obtain⟨ac,cc,ec,-⟩:=id h3.ctrs
      obtain⟨at',ct,et,-⟩:=id h3.steps
      subst es;subst ec;subst et
      have hmem:s.rol i∈s.roles:=List.mem_of_getElem? (SesD.rol_some hin)
      have CR:Hid (∀ V,Frm [] wr V→Calls Tryz.prog 166 #[.agg #[.string (s.rol i).name,.slice aS (s.rol i).sts.length cs,.slice ac (s.rol i).ctrs.length cc,.slice at' (s.rol i).steps.length ct]] V (RetV fun u w'=>∃ i',u=.tuple #[.int .i64 i',.int .i64 (ckRole (s.rol i))]∧Frm [] V w')):=Lib.hid fun V hV =>
       rCheck_any _ (s.rol i) V ⟨_,_,_,rfl,h3.frm hV⟩ (HSM.out.r _ hmem)
      have HRE:Hid (rolE s i (s.rol i)=if ckRole (s.rol i)=0 then (if rolIx s (s.rol i).name < i then 290 else 0) else ckRole (s.rol i)):=Lib.hid rfl
      have HFE:Hid (rolE s i (s.rol i)≠0→firstE s 0 s.roles=rolE s i (s.rol i)):=Lib.hid fun hne=>by
       have:=firstE_hit s s.roles 0 i hin (fun j hj=>by rw[Nat.zero_add];exact HNO.out j hj) (by rw[Nat.zero_add];exact hne)
       rw[Nat.zero_add] at this
       exact this
      have CNi:=Lib.hid (fun V hV=>CNm.out V (s.rol i).name hV)
      obtain⟨c,hc⟩:∃ c,ckRole (s.rol i)=c:=⟨_,rfl⟩
      obtain⟨q,hq⟩:∃ q,rolIx s (s.rol i).name=q:=⟨_,rfl⟩
      obtain⟨re,hre⟩:∃ q,rolE s i (s.rol i)=q:=⟨_,rfl⟩
      obtain⟨nm,hnm⟩:∃ q,(s.rol i).name=q:=⟨_,rfl⟩
      obtain⟨n1,hn1⟩:∃ q,(s.rol i).sts.length=q:=⟨_,rfl⟩
      obtain⟨n2,hn2⟩:∃ q,(s.rol i).ctrs.length=q:=⟨_,rfl⟩
      obtain⟨n3,hn3⟩:∃ q,(s.rol i).steps.length=q:=⟨_,rfl⟩
      rw[hc] at CR HRE;rw[hq] at CNi HRE;rw[hre] at HRE HFE;rw[hnm] at CR CNi d0;rw[hn1] at CR d1;rw[hn2] at CR d2;rw[hn3] at CR d3
      have HREI:=Lib.hid hre
      clear h3 hmem hin hc hq hre hnm hn1 hn2 hn3
      have HBX:Hid ((wr.alloc (.cells #[.string nm,.slice aS n1 cs,.slice ac n2 cc,.slice at' n3 ct] 87)).heap[wr.heap.size]?=some (.cells #[.string nm,.slice aS n1 cs,.slice ac n2 cc,.slice at' n3 ct] 87 (0,0))):=Lib.hid (heap_alloc_new _ _)
      by_cases hc:c=0
      ·have q1:(c == 0)=true:=by simpa using hc
       have q2:(c != 0)=false:=by simpa using hc
       rw[if_pos hc] at HRE
       clear hc
       by_cases hqi:q < (i:Int)
       ·rw[if_pos hqi] at HRE
        have HCK:Hid (ck=290):=Lib.hid (by
         have h1:=HFE.out (by rw[HRE.out];decide)
         rw[HCK.out,h1,HRE.out];rfl)
        clear HFE HRE HREI
        go_wp2_with (first
         | (refine wpList_load_whole rfl 87 _ rfl _ rfl _ 87 HBX.out _ Tryz.underlying87 rfl (by kernel_rfl) ?_)
         | (go_at_call 166;go_must (refine(CR.out _ ((Frm.refl [] wr).alloc _)).mono ?_;rintro e w2 ⟨u,rfl,i',rfl,hf2⟩;have HF2:Hid (Frm [] W0 w2):=Lib.hid ((HF.out.alloc _).trans hf2);obtain⟨e0,e1,e2,e3,e4⟩:=HCL.out w2 HF2.out;have z0:=cell_of (hf2.at HBX.out (by simp)) 0;clear hf2))
         | (go_at_call 162;go_must (refine(CNi.out _ HF2.out).mono ?_;rintro e w3 ⟨rfl,hf3⟩;have HF3:Hid (Frm [] W0 w3):=Lib.hid (HF2.out.trans hf3);clear hf3)))
        go_ret2
        exact⟨_,rfl,_,by rw[HCK.out];rfl,HF0.out.trans HF3.out⟩
       ·rw[if_neg hqi] at HRE
        clear HFE
        go_wp2_with (first
         | (refine wpList_load_whole rfl 87 _ rfl _ rfl _ 87 HBX.out _ Tryz.underlying87 rfl (by kernel_rfl) ?_)
         | (go_at_call 166;go_must (refine(CR.out _ ((Frm.refl [] wr).alloc _)).mono ?_;rintro e w2 ⟨u,rfl,i',rfl,hf2⟩;have HF2:Hid (Frm [] W0 w2):=Lib.hid ((HF.out.alloc _).trans hf2);obtain⟨e0,e1,e2,e3,e4⟩:=HCL.out w2 HF2.out;have z0:=cell_of (hf2.at HBX.out (by simp)) 0;clear hf2))
         | (go_at_call 162;go_must (refine(CNi.out _ HF2.out).mono ?_;rintro e w3 ⟨rfl,hf3⟩;have HF3:Hid (Frm [] W0 w3):=Lib.hid (HF2.out.trans hf3);clear hf3)))
        refine⟨⟨i + 1,congrArg (Value.int .i64) (by omega),hlt,HF3.out,fun j hj=>?_⟩,by simp[intOf];omega⟩
        by_cases e:j=i
        ·subst e;rw[HREI.out,HRE.out]
        ·exact HNO.out j (by omega)
      ·have q1:(c == 0)=false:=by simpa using hc
       have q2:(c != 0)=true:=by simpa using hc
       rw[if_neg hc] at HRE
       have HCK:Hid (ck=c):=Lib.hid (by
        have h1:=HFE.out (by rw[HRE.out];exact hc)
        rw[HCK.out,h1,HRE.out,if_neg hc])
       clear hc HFE HRE HREI
       go_wp2_with (first
        | (refine wpList_load_whole rfl 87 _ rfl _ rfl _ 87 HBX.out _ Tryz.underlying87 rfl (by kernel_rfl) ?_)
        | (go_at_call 166;go_must (refine(CR.out _ ((Frm.refl [] wr).alloc _)).mono ?_;rintro e w2 ⟨u,rfl,i',rfl,hf2⟩;have HF2:Hid (Frm [] W0 w2):=Lib.hid ((HF.out.alloc _).trans hf2);clear hf2)))
       go_ret2
       exact⟨_,rfl,_,by rw[HCK.out];rfl,HF0.out.trans HF2.out⟩
     ·obtain rfl:i=n:=by omega
      have hge:¬ (i:Int) < (i:Int):=by omega
      have hfe:firstE s 0 s.roles=0:=firstE_go s s.roles 0 (fun j hj=>by rw[Nat.zero_add];exact HNO.out j (by rw[HN.out] at hj;exact hj))
      rw[hfe,if_pos rfl] at HCK
      have HALL:Hid (∀ r∈s.roles,ckRole r=0):=Lib.hid fun r hr=>by
       obtain⟨j,hj⟩:=List.getElem?_of_mem hr
       have hjl:=lt_of_some hj
       have h1:=HNO.out j (by rw[HN.out] at hjl;exact hjl)
       have e:s.rol j=r:=getD_some hj
       unfold rolE at h1
       rw[e] at h1
       by_cases hz:ckRole r=0
       ·exact hz
       ·rw[if_neg hz] at h1;exact h1
      obtain⟨e0,e1,e2,e3,e4⟩:=HCL.out wr HF.out
      obtain⟨lb,hlb⟩:∃ b,s.roles.any (lostB s)=b:=⟨_,rfl⟩
      rw[hlb] at HCK
      have HLB:=Lib.hid hlb
      have HFn:=HF
      clear hfe hlb HNO hge
      go_wp2
      clear e0 e1 e2 e3 e4
      go_loopw [76] (fun s76 wl=>∃ k:Nat,s76=.int .i64 k∧k≤i∧Frm [] W0 wl∧∀ j,j < k→lostB s (s.rol j)=false) (fun s76 _=>i - (intOf s76).toNat)
      case atStart=>exact⟨0,rfl,Nat.zero_le _,HFn.out,fun j hj=>by omega⟩
      case round =>
       clear HFn HF
       obtain⟨k,rfl,hk,hf,hno⟩:=hrel
       have HF:=Lib.hid hf;have HNO:=Lib.hid hno
       clear hf hno
       obtain⟨w9,hw9⟩:∃ w9,w9=wr:=⟨_,rfl⟩
       subst hw9
       by_cases hlt:k < i
       ·have hlt':(k:Int) < (i:Int):=by omega
        have hin:k < s.roles.length:=by rw[HN.out];exact hlt
        obtain⟨b,o,sv,cv,tv,rfl,⟨d0,d1,d2,d3⟩,h3⟩:=Rls.at (HB.out.frm HF.out).l hin
        obtain⟨aS,cs,es,-⟩:=id h3.sts
        obtain⟨ac,cc,ec,-⟩:=id h3.ctrs
        obtain⟨at',ct,et,-⟩:=id h3.steps
        subst es;subst ec;subst et
        have hmem:s.rol k∈s.roles:=List.mem_of_getElem? (SesD.rol_some hin)
        have CX:Hid (∀ V,Frm [] w9 V→Calls Tryz.prog 167 #[.slice at' (s.rol k).steps.length ct,.func (.func 168) #[] #[.pointer (some ⟨w.heap.size + 1,0,none⟩)]] V (Ret (.int .i64 (ixf (fun t=>speaks t && decide (rolIx s t.peer < 0)) (s.rol k).steps)) (Frm [] V))):=Lib.hid fun V hV =>
         ixStep_any 168 #[.pointer (some ⟨w.heap.size + 1,0,none⟩)] _ _ (s.rol k).steps V (h3.frm hV).steps (by have:=(HSM.out.r _ hmem).t;omega) Tryz.call_rSes2 fun U x hU hx =>
          rSes2_any w.heap.size (w.heap.size + 1) s _ x U (HB.out.frm (HF.out.trans (hV.trans hU))) (by have:=HSM.out.n;omega) ((HSM.out.r _ hmem).k x hx)
        have HLO:Hid (lostB s (s.rol k)=decide (0≤ixf (fun t=>speaks t && decide (rolIx s t.peer < 0)) (s.rol k).steps)):=Lib.hid (ixf_anyB _ _).symm
        obtain⟨q,hq⟩:∃ q,ixf (fun t=>speaks t && decide (rolIx s t.peer < 0)) (s.rol k).steps=q:=⟨_,rfl⟩
        rw[hq] at CX HLO
        have HHIT:Hid (lostB s (s.rol k)=true→lb=true):=Lib.hid fun h=>by rw[← HLB.out,List.any_eq_true];exact⟨_,hmem,h⟩
        obtain⟨nm,hnm⟩:∃ q,(s.rol k).name=q:=⟨_,rfl⟩
        obtain⟨n1,hn1⟩:∃ q,(s.rol k).sts.length=q:=⟨_,rfl⟩
        obtain⟨n2,hn2⟩:∃ q,(s.rol k).ctrs.length=q:=⟨_,rfl⟩
        obtain⟨n3,hn3⟩:∃ q,(s.rol k).steps.length=q:=⟨_,rfl⟩
        rw[hnm] at d0;rw[hn1] at d1;rw[hn2] at d2;rw[hn3] at CX d3
        clear h3 hmem hin hq hnm hn1 hn2 hn3
        by_cases hq0:0≤q
        ·have HCK:Hid (ck=294):=Lib.hid (by
          have h1:=HHIT.out (by rw[HLO.out,decide_eq_true hq0])
          rw[HCK.out,h1,if_pos rfl])
         clear HHIT HLO
         go_wp2_with (first
          | (go_at_call 167;go_must (refine(CX.out _ ((Frm.refl [] w9).alloc _)).mono ?_;rintro e w2 ⟨rfl,hf2⟩;have HF2:Hid (Frm [] W0 w2):=Lib.hid ((HF.out.alloc _).trans hf2);clear hf2)))
         go_ret2
         exact⟨_,rfl,_,by rw[HCK.out];rfl,HF0.out.trans HF2.out⟩
        ·have HLO:Hid (lostB s (s.rol k)=false):=Lib.hid (by rw[HLO.out,decide_eq_false hq0])
         clear HHIT
         go_wp2_with (first
          | (go_at_call 167;go_must (refine(CX.out _ ((Frm.refl [] w9).alloc _)).mono ?_;rintro e w2 ⟨rfl,hf2⟩;have HF2:Hid (Frm [] W0 w2):=Lib.hid ((HF.out.alloc _).trans hf2);clear hf2)))
         refine⟨⟨k + 1,congrArg (Value.int .i64) (by omega),hlt,HF2.out,fun j hj=>?_⟩,by simp[intOf];omega⟩
         by_cases e:j=k
         ·subst e;exact HLO.out
         ·exact HNO.out j (by omega)
       ·obtain rfl:k=i:=by omega
        have hge:¬ (k:Int) < (k:Int):=by omega
        have hl:lb=false:=by
         rw[← HLB.out,List.any_eq_false]
         intro r hr
         obtain⟨j,hj⟩:=List.getElem?_of_mem hr
         have hjl:=lt_of_some hj
         have h1:=HNO.out j (by rw[HN.out] at hjl;exact hjl)
         rw[show s.rol j=r from getD_some hj] at h1
         rw[h1];decide
        have HCK:Hid (ck=0):=Lib.hid (by rw[HCK.out,hl];rfl)
        clear hl
        go_wp2
        go_ret2
        exact⟨_,rfl,⟨_,by rw[HCK.out];rfl⟩,HF0.out.trans HF.out⟩
   ·have HCK:Hid (ck=2):=Lib.hid (by rw[HCK.out,hb,if_pos rfl])
    clear hb HW
    rcases hw with h1 | ⟨h1,h2⟩ | ⟨h1,h2,h3⟩ | ⟨h1,h2,h3,h4⟩ | ⟨h1,h2,h3,h4,h5⟩ | ⟨h1,h2,h3,h4,h5,h6⟩
    all_goals
     go_wp2_with (first
      | (go_at_call 165;go_must (refine(CN.out _).mono ?_;rintro e w1 ⟨rfl,hf1⟩;have HF1:=Lib.hid (HF0.out.trans hf1);clear e0 e1 e2 e3 e4;obtain⟨e0,e1,e2,e3,e4⟩:=HCL.out w1 hf1;clear hf1)))
     go_ret2
     exact⟨_,rfl,_,by rw[HCK.out];rfl,HF1.out⟩
end Go.Proofs.YtohfkhjlnlahdaaGreat
