/- Part of the proof. -/
import Derived.Test.YtohfkhjlnlahdaaGreatW18
import Derived.Test.YtohfkhjlnlahdaaGreatW19
import Derived.Test.YtohfkhjlnlahdaaGreatW14
import Derived.Laws.EntriesVeiled
import Derived.Laws.Concat
set_option linter.all false
namespace Go.Proofs.YtohfkhjlnlahdaaGreat
open Go.RowKit Go.BigFrame
structure AlV (W0:World) (rb tb:Nat) (sv cv tv:Value) (r:RolD) (x:StpD) (W:World):Prop where
 r:RBox W rb sv cv tv r
 t:W.heap[tb]?=some (.cells (encT x) 137 (0,0))
 fr:Frm [] W0 W
theorem AlV.frm {W0 W W':World} {rb tb:Nat} {sv cv tv:Value} {r:RolD} {x:StpD} (h:AlV W0 rb tb sv cv tv r x W) (hf:Frm [] W W'):AlV W0 rb tb sv cv tv r x W':=⟨h.r.frm hf,hf.at h.t (by simp),h.fr.trans hf⟩
theorem kFn_cases (k:Int):kFn k=.nilFunc∨∃ K,kFn k=.func (.func K) #[] #[]:=by
 unfold kFn
 repeat' split
 all_goals first | exact .inl rfl | exact .inr ⟨_,rfl⟩
def fromB (k:Int) (f:StD):Bool:=if k=3 then decide (0 < f.wait) else true
set_option maxHeartbeats 1000000 in
theorem rKinds1_any (f:StD) (w:World):Calls Tryz.prog 210 #[.agg #[.string f.name,.bool f.fin,.int .i64 f.wait]] w (Ret (.bool true) (Frm [] w)):=by
 go_enter Tryz.func210,Tryz.ntmps210
 go_wp2
 go_ret
 exact⟨rfl,(Frm.refl _ _).alloc _⟩
set_option maxHeartbeats 1000000 in
theorem rKinds2_any (f:StD) (w:World):Calls Tryz.prog 211 #[.agg #[.string f.name,.bool f.fin,.int .i64 f.wait]] w (Ret (.bool (decide (0 < f.wait))) (Frm [] w)):=by
 go_enter Tryz.func211,Tryz.ntmps211
 go_wp2
 go_ret
 exact⟨rfl,(Frm.refl _ _).alloc _⟩
theorem Tryz.call_rKinds1 (args:Array Value) (w:World):(callFunc 210 args).run Tryz.prog w=.ok (.enter 210 args) w:=by kernel_rfl
theorem Tryz.call_rKinds2 (args:Array Value) (w:World):(callFunc 211 args).run Tryz.prog w=.ok (.enter 211 args) w:=by kernel_rfl
theorem kFn_call (k:Int) (h:kOk k=true):∃ K,kFn k=.func (.func K) #[] #[]∧(∀ args w,(callFunc K args).run Tryz.prog w=.ok (.enter K args) w) ∧
  ∀ (W:World) (f:StD),Calls Tryz.prog K #[.agg #[.string f.name,.bool f.fin,.int .i64 f.wait]] W (Ret (.bool (fromB k f)) (Frm [] W)):=by
 unfold kOk at h
 simp only[Bool.and_eq_true,decide_eq_true_eq] at h
 unfold kFn fromB
 by_cases h3:k=3
 ·subst h3
  exact⟨211,rfl,Tryz.call_rKinds2,fun W f=>rKinds2_any f W⟩
 ·simp only[if_neg h3]
  refine⟨210,?_,Tryz.call_rKinds1,fun W f=>rKinds1_any f W⟩
  split
  ·rfl
  ·split
   ·rfl
   ·rw[if_pos (by omega)]
theorem alw_split (r:RolD) (n:Nat) (x:StpD):(kOk x.kind=false∧stepB r n x=false)∨(kOk x.kind=true∧stIx r x.frm < 0∧stepB r n x=false) ∨
  ∃ (p:Nat) (f:StD),stIx r x.frm=p∧r.sts[p]?=some f∧kOk x.kind=true ∧
    ((stIx r x.to < 0∧stepB r n x=false)∨(0≤stIx r x.to∧decide (x∈r.steps.take n)=true∧stepB r n x=false) ∨
     (0≤stIx r x.to∧decide (x∈r.steps.take n)=false∧fromB x.kind f=false∧stepB r n x=false) ∨
     (0≤stIx r x.to∧decide (x∈r.steps.take n)=false∧fromB x.kind f=true∧stepB r n x=(guardB r x && kindB r x f))):=by
 have hs:=find_ixf (p:=fun s:StD=>decide (s.name=x.frm)) (l:=r.sts)
 unfold stepB
 cases hk:kOk x.kind with
 | false =>
   left
   refine⟨rfl,?_⟩
   cases hf:r.sts.find? (fun s=>decide (s.name=x.frm)) with
   | none=>rfl
   | some f =>
     simp only
     have:kindB r x f=false:=by
      unfold kOk at hk
      simp only[Bool.and_eq_false_iff,decide_eq_false_iff_not] at hk
      unfold kindB
      rw[if_neg (by omega),if_neg (by omega),if_neg (by omega)]
     rw[this];simp
 | true =>
   right
   cases hf:r.sts.find? (fun s=>decide (s.name=x.frm)) with
   | none =>
     rw[hf] at hs
     left
     refine⟨rfl,?_,rfl⟩
     show ixf _ _ < 0
     simp only at hs
     omega
   | some f =>
     rw[hf] at hs
     obtain⟨p,h1,h2,-⟩:=hs
     right
     refine⟨p,f,h1,h2,rfl,?_⟩
     simp only
     have hcon:(r.steps.take n).contains x=decide (x∈r.steps.take n):=by
      rw[Bool.eq_iff_iff,List.contains_iff_mem,decide_eq_true_eq]
     rw[hcon]
     by_cases ht:stIx r x.to < 0
     ·left;exact⟨ht,by rw[decide_eq_false (p:=0≤stIx r x.to) (by omega)];simp⟩
     ·right
      have ht':0≤stIx r x.to:=by omega
      rw[decide_eq_true ht']
      cases hc:decide (x∈r.steps.take n) with
      | true=>left;exact⟨ht',rfl,by simp⟩
      | false =>
        right
        cases hfr:fromB x.kind f with
        | false =>
          left
          refine⟨ht',rfl,rfl,?_⟩
          have:kindB r x f=false:=by
           unfold fromB at hfr
           split at hfr
           ·rename_i h3
            unfold kindB
            rw[if_neg (by omega),if_pos h3,hfr,Bool.and_false]
           ·cases hfr
          rw[this];simp
        | true=>right;exact⟨ht',rfl,rfl,by simp⟩
theorem Tryz.elem85:Tryz.prog.elem 85=137:=by kernel_rfl
theorem Tryz.under85:Tryz.prog.underlying 85=some (.slice (Tryz.prog.elem 85)):=by rw[Tryz.elem85];exact Tryz.underlying85
theorem steps_cut {b o n m cap:Nat} (h:n≤m) (hc:m≤cap):∀ W,(Instr.sliceAt 85 (.slice (some ⟨b,o,none⟩) m cap) none (some (.int .i64 (n:Int))) none).run Tryz.prog W=.ok (.slice (some ⟨b,o,none⟩) n cap) W:=fun W=>by
 rw[run_sliceAt_slice W 85 _ _ _ _ Tryz.under85,run_slice_h W 85 (some ⟨b,o,none⟩) m cap Tryz.under85 .i64 (n:Int) (by omega) (by omega),Tryz.elem85,Tryz.sizeOf137]
 simp only[Result.andThen,sliced,Int.toNat_natCast,Nat.zero_mul,Nat.sub_zero,Option.map_some,WideShapes.add_plain,Nat.add_zero]
 split <;> rfl
def b6 (r:RolD) (x:StpD):Bool:=if kSpeaks x.kind then (!nameB x.msg || !nameB x.peer || decide (x.peer=r.name)) else !(decide (x.msg=emptyS) && decide (x.peer=emptyS))
theorem kind_b6 {r:RolD} {x:StpD} {f:StD} (hk:kOk x.kind=true) (hf:fromB x.kind f=true):kindB r x f=!b6 r x:=by
 unfold kOk at hk
 simp only[Bool.and_eq_true,decide_eq_true_eq] at hk
 unfold kindB b6 kSpeaks
 unfold fromB at hf
 by_cases h12:x.kind=1∨x.kind=2
 ·rw[if_pos h12,if_pos (by simpa using h12)]
  cases nameB x.msg <;> cases nameB x.peer <;> simp
 ·have h12':¬ (decide (x.kind=1) || decide (x.kind=2))=true:=by simpa using h12
  rw[if_neg h12,if_neg h12']
  by_cases h3:x.kind=3
  ·rw[if_pos h3] at hf ⊢
   rw[hf];simp
  ·rw[if_neg h3,if_pos (by omega)];simp
theorem b6_ways (r:RolD) (x:StpD):(kSpeaks x.kind=true∧nameB x.msg=false∧b6 r x=true)∨(kSpeaks x.kind=true∧nameB x.msg=true∧nameB x.peer=false∧b6 r x=true) ∨
  (kSpeaks x.kind=true∧nameB x.msg=true∧nameB x.peer=true∧b6 r x=decide (x.peer=r.name))∨(kSpeaks x.kind=false∧b6 r x=!(decide (x.msg=emptyS) && decide (x.peer=emptyS))):=by
 unfold b6
 cases kSpeaks x.kind <;> cases nameB x.msg <;> cases nameB x.peer <;> simp
theorem cat_emp (a b:ByteArray):(((a ++ b).toList == ({ data:=#[] }:ByteArray).toList))=(decide (a=emptyS) && decide (b=emptyS)):=by
 rw[str_beq,Bool.eq_iff_iff,Bool.and_eq_true,decide_eq_true_eq,decide_eq_true_eq,decide_eq_true_eq]
 have e:∀ c:ByteArray,c=emptyS↔c.size=0:=fun c=>⟨fun h=>by rw[h];rfl,fun h=>ByteArray.ext (Array.eq_empty_of_size_eq_zero h)⟩
 rw[show ({ data:=#[] }:ByteArray)=emptyS from rfl,e,e,e,ByteArray.size_append]
 omega
theorem guard_none {r:RolD} {x:StpD} (h:x.ctr=emptyS):guardB r x=(decide (x.low=0) && decide (x.high=0) && decide (x.add=0)):=by unfold guardB;rw[if_pos h]
theorem guard_ways {r:RolD} {x:StpD} (h:x.ctr≠emptyS):(ctrIx r.ctrs x.ctr < 0∧guardB r x=false)∨∃ (p:Nat) (c:CtrD),ctrIx r.ctrs x.ctr=p∧r.ctrs[p]?=some c ∧
  ((x.low < 0∧guardB r x=false)∨(0≤x.low∧x.high < x.low∧guardB r x=false)∨(0≤x.low∧x.low≤x.high∧x.add < -1000∧guardB r x=false)∨(0≤x.low∧x.low≤x.high∧-1000≤x.add∧1000 < x.add∧guardB r x=false) ∨
   (0≤x.low∧x.low≤x.high∧-1000≤x.add∧x.add≤1000∧((c.lim < x.high∧guardB r x=false)∨(x.high≤c.lim∧x.low + x.add < 0∧guardB r x=false)∨(x.high≤c.lim∧0≤x.low + x.add∧c.lim < x.high + x.add∧guardB r x=false) ∨
    (x.high≤c.lim∧0≤x.low + x.add∧x.high + x.add≤c.lim∧guardB r x=true)))):=by
 have hs:=find_ixf (p:=fun c:CtrD=>decide (c.name=x.ctr)) (l:=r.ctrs)
 unfold guardB
 rw[if_neg h]
 cases hf:r.ctrs.find? (fun c=>decide (c.name=x.ctr)) with
 | none =>
   rw[hf] at hs
   left
   simp only at hs
   refine⟨?_,rfl⟩
   show ixf _ _ < 0
   omega
 | some c =>
   rw[hf] at hs
   obtain⟨p,h1,h2,-⟩:=hs
   right
   refine⟨p,c,h1,h2,?_⟩
   simp only[Bool.and_eq_false_iff,Bool.and_eq_true,decide_eq_false_iff_not,decide_eq_true_eq]
   omega
set_option maxHeartbeats 4000000 in
set_option maxRecDepth 100000 in
theorem rAllowed_any (v:Value) (r:RolD) (n:Nat) (x:StpD) (w:World) (h:RlV w v r) (hx:r.steps[n]?=some x) (hw:wf64 x.kind) (hl:r.steps.length≤100∧r.sts.length≤100∧r.ctrs.length≤100) (hlim:∀ c∈r.ctrs,1≤c.lim∧c.lim≤1000) (hms:x.msg.size≤1000∧x.peer.size≤1000) :
  Calls Tryz.prog 209 #[v,.int .i64 n] w (Ret (.bool (stepB r n x)) (Frm [] w)):=by
 obtain⟨sv,cv,tv,rfl,h3⟩:=h
 obtain⟨ao,cap,e,hxs⟩:=h3.steps
 subst e
 obtain⟨b,o,rfl,hat⟩:=hxs n x hx
 obtain⟨c0,c1,c2,c3,c4,c5,c6,c7,c8⟩:=hat
 have hblt:=cell_lt c0
 have hnl:(n:Int) < (r.steps.length:Int):=by have:=lt_of_some hx;omega
 obtain⟨m,hm⟩:∃ m,r.steps.length=m:=⟨_,rfl⟩
 rw[hm] at hnl
 have HM:=Lib.hid hm
 obtain⟨aS,cs,es,hss⟩:=h3.sts
 obtain⟨ac,cc,ec,hcc⟩:=h3.ctrs
 subst es
 subst ec
 have HSS:=Lib.hid hss;have HCC:=Lib.hid hcc
 obtain⟨ns,hns⟩:∃ ns,r.sts.length=ns:=⟨_,rfl⟩
 obtain⟨nc,hnc⟩:∃ nc,r.ctrs.length=nc:=⟨_,rfl⟩
 have HNS:=Lib.hid hns;have HNC:=Lib.hid hnc
 rw[hm,hns,hnc] at h3
 rw[hm,hns,hnc]
 clear hss hcc hns hnc
 obtain⟨W1,hW1⟩:∃ W1,(w.alloc (.cells #[.string r.name,.slice aS ns cs,.slice ac nc cc,.slice (some ⟨b,o,none⟩) m cap] 87)).alloc (.cells #[.string x.frm,.string x.to,.int .i64 x.kind,.string x.msg,.string x.peer,.string x.ctr,.int .i64 x.low,.int .i64 x.high,.int .i64 x.add] 137)=W1:=⟨_,rfl⟩
 have HA:Hid (AlV w w.heap.size (w.heap.size + 1) (.slice aS ns cs) (.slice ac nc cc) (.slice (some ⟨b,o,none⟩) m cap) r x W1):=Lib.hid (by
  have hf:Frm [] w W1:=by rw[← hW1];exact((Frm.refl _ _).alloc _).alloc _
  exact⟨⟨by rw[← hW1];exact alloc_at (heap_alloc_new w _),h3.frm hf⟩,by rw[← hW1];exact alloc_top (by simp),hf⟩)
 have HE:=Lib.hid hW1
 clear h3 hxs hm hW1
 go_enter Tryz.func209,Tryz.ntmps209
 go_upto_region 2 with fail
 rw[HE.out]
 clear HE c0 c1 c2 c3 c4 c5 c6 c7 c8 hblt
 have d2:W1.cell? ⟨w.heap.size + 1,2,none⟩=some (.int .i64 x.kind):=cell_of HA.out.t 2
 have HW:=Lib.hid hw
 have HS:Hid (∀ V,Frm [] W1 V→V.cell? ⟨w.heap.size + 1,2,none⟩=some (.int .i64 x.kind)):=Lib.hid fun V hf=>hf.keep d2
 have hlt2:=cell_lt d2
 clear hw
 go_cut [6,7] (fun s6 s7 wc=>∃ kb:Nat,s6=.pointer (some ⟨kb,0,none⟩)∧s7=.bool (kOk x.kind)∧wc.heap[kb]?=some (.cells #[.string (kWord x.kind),.bool (kSpeaks x.kind),kFn x.kind] 279 (0,0))∧Frm [] W1 wc)
 case first =>
  rcases kFn_cases x.kind with hkf | ⟨K,hkf⟩
  all_goals
   have HKF:=Lib.hid hkf
   clear hkf
   go_region_with (first
    | (go_at_call 169;refine(rKinds_any _).mono ?_;rintro e w2 ⟨v,rfl,mb,rfl,hk,hf⟩;have HF:Hid (Frm [] W1 w2):=Lib.hid (by first | exact(Frm.refl [] W1).drew.trans hf | exact((Frm.refl [] W1).alloc _).drew.trans hf | exact((Frm.refl [] W1).drew.alloc _).trans hf);have d3:=HS.out w2 HF.out;have hlt3:=cell_lt d3;have hl1:=(hk w2 (Frm.refl _ _) _ HW.out).1;have hl2:=(hk (w2.alloc (.cells #[.string { data:=#[] },.bool false,.nilFunc] 279)) ((Frm.refl _ _).alloc _) _ HW.out).1;simp only[HKF.out] at hl1 hl2;(try (have hz:w2.heap[W1.heap.size]?=some (.cells #[.string { data:=#[] },.bool false,.nilFunc] 279 (0,0)):=(by first | exact hf.at (k:=W1.heap.size) (show (W1.alloc _).drew.heap[W1.heap.size]?=_ from heap_alloc_new W1 _) (by simp) | exact hf.at (k:=W1.heap.size) (show (W1.drew.alloc _).heap[W1.heap.size]?=_ from heap_alloc_new W1.drew _) (by simp));have z0:=cell_of hz 0;have z1:=cell_of hz 1;have z2:=cell_of hz 2;have y0:=free_of hz 0;have y1:=free_of hz 1;have y2:=free_of hz 2;have hz3:=lt_of_block hz;have HZ:=Lib.hid hz;clear hz));clear hk hf))
   all_goals
    go_wp2
    go_meet
    refine⟨_,rfl,rfl,?_,?_⟩
    ·rw[HKF.out]
     first
      | exact heap_alloc_new w2 _
      | exact(block_setCell (block_setCell (block_setCell HZ.out 0 _) 1 _) 2 _).trans rfl
    ·first
      | exact HF.out.alloc _
      | exact((HF.out.setCell _ (.inr (Nat.le_refl _)) _).setCell _ (.inr (Nat.le_refl _)) _).setCell _ (.inr (Nat.le_refl _)) _
 case rest =>
  obtain⟨kb,rfl,rfl,hkb,hf⟩:=hcut
  have HV:Hid (AlV w w.heap.size (w.heap.size + 1) (.slice aS ns cs) (.slice ac nc cc) (.slice (some ⟨b,o,none⟩) m cap) r x wc):=Lib.hid (HA.out.frm hf)
  have HK:=Lib.hid hkb
  clear hf hkb d2 hlt2 HS HA
  have HU:Hid (∀ V,Frm [] wc V→(V.cell? ⟨w.heap.size,0,none⟩=some (.string r.name)∧V.cell? ⟨w.heap.size,1,none⟩=some (.slice aS ns cs)∧V.cell? ⟨w.heap.size,2,none⟩=some (.slice ac nc cc)∧V.cell? ⟨w.heap.size,3,none⟩=some (.slice (some ⟨b,o,none⟩) m cap)) ∧
    (V.cell? ⟨w.heap.size + 1,0,none⟩=some (.string x.frm)∧V.cell? ⟨w.heap.size + 1,5,none⟩=some (.string x.ctr))):=Lib.hid fun V hV =>
   ⟨(HV.out.r.frm hV).cells,hV.keep (cell_of HV.out.t 0),hV.keep (cell_of HV.out.t 5)⟩
  have C1:Hid (∀ V,Frm [] wc V→Calls Tryz.prog 207 #[.agg #[.string r.name,.slice aS ns cs,.slice ac nc cc,.slice (some ⟨b,o,none⟩) m cap],.string x.frm] V (Ret (.int .i64 (stIx r x.frm)) (Frm [] V))):=Lib.hid fun V hV=>rState_any _ r x.frm V (HV.out.r.frm hV).val (by omega)
  have C2:Hid (∀ V,Frm [] wc V→Calls Tryz.prog 205 #[.agg #[.string r.name,.slice aS ns cs,.slice ac nc cc,.slice (some ⟨b,o,none⟩) m cap],.string x.ctr] V (Ret (.int .i64 (ctrIx r.ctrs x.ctr)) (Frm [] V))):=Lib.hid fun V hV=>rCounter_any _ r x.ctr V (HV.out.r.frm hV).val (by omega)
  go_upto_region 3 with fail
  refine wp_region_cq (by kernel_rfl) (by kernel_rfl) ?_
  repeat (first
   | go_big_quiet_skip
   | (refine wpQuiet_want (by rfl) (fun K hK=>?_)
      first
       | (refine quiet_move _ (by rfl) (hK _ ?_))
       | (refine quiet_assign _ (by rfl) (hK _ ?_))
       | (refine cq_call (.int .i64 (stIx r x.frm)) 207 #[.agg #[.string r.name,.slice aS ns cs,.slice ac nc cc,.slice (some ⟨b,o,none⟩) m cap],.string x.frm] (fun w' hC=>?_) (fun w' hC=>Ret.cq (C1.out w' hC) (fun w'' h=>hC.trans h)) (hK _ ?_)
          ·go_simp)
       | (refine cq_call (.int .i64 (ctrIx r.ctrs x.ctr)) 205 #[.agg #[.string r.name,.slice aS ns cs,.slice ac nc cc,.slice (some ⟨b,o,none⟩) m cap],.string x.ctr] (fun w' hC=>?_) (fun w' hC=>Ret.cq (C2.out w' hC) (fun w'' h=>hC.trans h)) (hK _ ?_)
          ·go_simp)
       | (apply Exists.intro
          refine⟨fun w' hC=>?_,hK _ ?_⟩
          ·(unfold Oper.quietAt
            obtain⟨⟨e0,e1,e2,e3⟩,e4,e5⟩:=HU.out w' hC
            clear hC
            go_simp
            try exact⟨rfl,rfl⟩
            try rfl))
      clear hK K
      try simp only[nrm,Act.eval,nrq]))
  refine wpQuiet_nil ?_
  intro w4 hf4
  have HV4:Hid (AlV w w.heap.size (w.heap.size + 1) (.slice aS ns cs) (.slice ac nc cc) (.slice (some ⟨b,o,none⟩) m cap) r x w4):=Lib.hid (HV.out.frm hf4)
  have HK4:=Lib.hid (hf4.at HK.out (by simp))
  clear HU C1 C2 hf4 HV HK
  have HU:Hid (∀ V,Frm [] w4 V→(V.cell? ⟨w.heap.size,0,none⟩=some (.string r.name)∧V.cell? ⟨w.heap.size,1,none⟩=some (.slice aS ns cs)∧V.cell? ⟨w.heap.size,2,none⟩=some (.slice ac nc cc)∧V.cell? ⟨w.heap.size,3,none⟩=some (.slice (some ⟨b,o,none⟩) m cap)) ∧
    (V.cell? ⟨w.heap.size + 1,0,none⟩=some (.string x.frm)∧V.cell? ⟨w.heap.size + 1,1,none⟩=some (.string x.to)∧V.cell? ⟨w.heap.size + 1,2,none⟩=some (.int .i64 x.kind)∧V.cell? ⟨w.heap.size + 1,3,none⟩=some (.string x.msg)∧V.cell? ⟨w.heap.size + 1,4,none⟩=some (.string x.peer) ∧
     V.cell? ⟨w.heap.size + 1,5,none⟩=some (.string x.ctr)∧V.cell? ⟨w.heap.size + 1,6,none⟩=some (.int .i64 x.low)∧V.cell? ⟨w.heap.size + 1,7,none⟩=some (.int .i64 x.high)∧V.cell? ⟨w.heap.size + 1,8,none⟩=some (.int .i64 x.add))):=Lib.hid fun V hV=>by
   have ht:=hV.at HV4.out.t (by simp)
   exact⟨(HV4.out.r.frm hV).cells,cell_of ht 0,cell_of ht 1,cell_of ht 2,cell_of ht 3,cell_of ht 4,cell_of ht 5,cell_of ht 6,cell_of ht 7,cell_of ht 8⟩
  have CT:Hid (∀ V,Frm [] w4 V→Calls Tryz.prog 207 #[.agg #[.string r.name,.slice aS ns cs,.slice ac nc cc,.slice (some ⟨b,o,none⟩) m cap],.string x.to] V (Ret (.int .i64 (stIx r x.to)) (Frm [] V))):=Lib.hid fun V hV=>rState_any _ r x.to V (HV4.out.r.frm hV).val (by omega)
  have CO:Hid (∀ V,Frm [] w4 V→Calls Tryz.prog 222 #[.slice (some ⟨b,o,none⟩) n cap,.agg #[.string x.frm,.string x.to,.int .i64 x.kind,.string x.msg,.string x.peer,.string x.ctr,.int .i64 x.low,.int .i64 x.high,.int .i64 x.add]] V (Ret (.bool (decide (x∈r.steps.take n))) (Frm [] V))):=Lib.hid fun V hV=>by
   refine coStep_any _ (r.steps.take n) x V ?_ (by rw[List.length_take];omega)
   obtain⟨ao',cap',e',hx'⟩:=(HV4.out.r.frm hV).h3.steps
   cases e'
   refine⟨_,cap,by rw[List.length_take,HM.out];congr 1;omega,fun j y hj=>?_⟩
   rw[List.getElem?_take] at hj
   split at hj
   ·exact hx' j y hj
   ·cases hj
  have hnm:(n:Int)≤(m:Int):=by omega
  have hmc:(m:Int)≤(cap:Int):=by have:=HV4.out.r.h3.cap _ _ _ rfl;omega
  have hsl:=steps_cut (b:=b) (o:=o) (n:=n) (m:=m) (cap:=cap) (by omega) (by omega)
  obtain⟨q1,hq1⟩:∃ q1,stIx r x.frm=q1:=⟨_,rfl⟩
  obtain⟨q2,hq2⟩:∃ q2,stIx r x.to=q2:=⟨_,rfl⟩
  obtain⟨q3,hq3⟩:∃ q3,ctrIx r.ctrs x.ctr=q3:=⟨_,rfl⟩
  have HSP:=Lib.hid (alw_split r n x)
  have HQ1:=Lib.hid hq1;have HQ2:=Lib.hid hq2;have HQ3:=Lib.hid hq3
  rw[hq1,hq3]
  rw[hq2] at CT
  clear hq1 hq2 hq3
  have k2:w4.cell? ⟨kb,2,none⟩=some (kFn x.kind):=cell_of HK4.out 2
  have k1:w4.cell? ⟨kb,1,none⟩=some (.bool (kSpeaks x.kind)):=cell_of HK4.out 1
  obtain⟨sp,hsp⟩:∃ sp,kSpeaks x.kind=sp:=⟨_,rfl⟩
  rw[hsp] at k1
  have HSPK:=Lib.hid hsp
  clear hsp
  have HK1:=Lib.hid k1
  clear k1
  rcases HSP.out with ⟨hk,hres⟩ | ⟨hk,hf,hres⟩ | ⟨p,f,hp,hf,hk,hrest⟩
  ·rw[hk,hres]
   have HR:=Lib.hid hres
   clear hres hk HSP k2
   go_upto_region 4 with fail
   refine wp_region_cq (by kernel_rfl) (by kernel_rfl) ?_
   repeat (first
    | go_big_quiet_skip
    | (refine wpQuiet_want (by rfl) (fun K hK=>?_)
       first
        | (refine quiet_move _ (by rfl) (hK _ ?_))
        | (refine quiet_assign _ (by rfl) (hK _ ?_))
        | (apply Exists.intro
           refine⟨fun w' hC=>?_,hK _ ?_⟩
           ·(unfold Oper.quietAt
             obtain⟨⟨e0,e1,e2,e3⟩,t0,t1,t2,t3,t4,t5,t6,t7,t8⟩:=HU.out w' hC
             clear hC
             go_simp
             try exact⟨rfl,rfl⟩
             try rfl))
       clear hK K
       try simp only[nrm,Act.eval,nrq]))
   refine wpQuiet_nil ?_
   intro w5 hf5
   go_wp2
   go_ret
   exact⟨by rw[HR.out];rfl,HV4.out.fr.trans hf5⟩
  ·rw[hk,hres]
   rw[HQ1.out] at hf
   have HR:=Lib.hid hres
   clear hres hk HSP k2
   go_upto_region 4 with fail
   refine wp_region_cq (by kernel_rfl) (by kernel_rfl) ?_
   repeat (first
    | go_big_quiet_skip
    | (refine wpQuiet_want (by rfl) (fun K hK=>?_)
       first
        | (refine quiet_move _ (by rfl) (hK _ ?_))
        | (refine quiet_assign _ (by rfl) (hK _ ?_))
        | (apply Exists.intro
           refine⟨fun w' hC=>?_,hK _ ?_⟩
           ·(unfold Oper.quietAt
             obtain⟨⟨e0,e1,e2,e3⟩,t0,t1,t2,t3,t4,t5,t6,t7,t8⟩:=HU.out w' hC
             clear hC
             go_simp
             try exact⟨rfl,rfl⟩
             try rfl))
       clear hK K
       try simp only[nrm,Act.eval,nrq]))
   refine wpQuiet_nil ?_
   intro w5 hf5
   go_wp2
   go_ret
   exact⟨by rw[HR.out];rfl,HV4.out.fr.trans hf5⟩
  ·obtain rfl:q1=(p:Int):=by rw[← HQ1.out];exact hp
   rw[HQ2.out] at hrest
   rw[hk]
   have hp0:¬ (p:Int) < 0:=by omega
   have hpl:(p:Int) < (ns:Int):=by have:=lt_of_some hf;have:=HNS.out;omega
   obtain⟨b5,o5,rfl,g0,g1,g2⟩:=HV4.out.r.h3.sts.get hf
   have HG:Hid (StAt w4 b5 (o5 + p * 3) f):=Lib.hid ⟨g0,g1,g2⟩
   have HKO:=Lib.hid hk
   clear hp hf hk HSP g0 g1 g2
   rcases hrest with ⟨h1,hres⟩ | ⟨h1,h2,hres⟩ | ⟨h1,h2,h3,hres⟩ | ⟨h1,h2,h3,hres⟩
   ·rw[hres]
    have HR:=Lib.hid hres
    clear hres k2
    go_upto_region 4 with fail
    refine wp_region_cq (by kernel_rfl) (by kernel_rfl) ?_
    repeat (first
     | go_big_quiet_skip
     | (refine wpQuiet_want (by rfl) (fun K hK=>?_)
        first
         | (refine quiet_move _ (by rfl) (hK _ ?_))
         | (refine quiet_assign _ (by rfl) (hK _ ?_))
         | (refine cq_call (.int .i64 q2) 207 #[.agg #[.string r.name,.slice (some ⟨b5,o5,none⟩) ns cs,.slice ac nc cc,.slice (some ⟨b,o,none⟩) m cap],.string x.to] (fun w' hC=>?_) (fun w' hC=>Ret.cq (CT.out w' hC) (fun w'' h=>hC.trans h)) (hK _ ?_)
            ·go_simp)
         | (apply Exists.intro
            refine⟨fun w' hC=>?_,hK _ ?_⟩
            ·(unfold Oper.quietAt
              obtain⟨⟨e0,e1,e2,e3⟩,t0,t1,t2,t3,t4,t5,t6,t7,t8⟩:=HU.out w' hC
              clear hC
              go_simp
              try exact⟨rfl,rfl⟩
              try rfl))
        clear hK K
        try simp only[nrm,Act.eval,nrq]))
    refine wpQuiet_nil ?_
    intro w5 hf5
    go_wp2
    go_ret
    exact⟨by rw[HR.out];rfl,HV4.out.fr.trans hf5⟩
   ·rw[hres]
    have h1':¬ q2 < 0:=by omega
    rw[h2] at CO
    have HR:=Lib.hid hres
    clear hres k2 h2
    go_upto_region 4 with fail
    refine wp_region_cq (by kernel_rfl) (by kernel_rfl) ?_
    repeat (first
     | go_big_quiet_skip
     | (refine wpQuiet_want (by rfl) (fun K hK=>?_)
        first
         | (refine quiet_move _ (by rfl) (hK _ ?_))
         | (refine quiet_assign _ (by rfl) (hK _ ?_))
         | (refine cq_call (.int .i64 q2) 207 #[.agg #[.string r.name,.slice (some ⟨b5,o5,none⟩) ns cs,.slice ac nc cc,.slice (some ⟨b,o,none⟩) m cap],.string x.to] (fun w' hC=>?_) (fun w' hC=>Ret.cq (CT.out w' hC) (fun w'' h=>hC.trans h)) (hK _ ?_)
            ·go_simp)
         | (refine cq_call (.bool true) 222 #[.slice (some ⟨b,o,none⟩) n cap,.agg #[.string x.frm,.string x.to,.int .i64 x.kind,.string x.msg,.string x.peer,.string x.ctr,.int .i64 x.low,.int .i64 x.high,.int .i64 x.add]] (fun w' hC=>?_) (fun w' hC=>Ret.cq (CO.out w' hC) (fun w'' h=>hC.trans h)) (hK _ ?_)
            ·go_simp)
         | (refine cq_row 137 _ rfl (w.heap.size + 1) rfl #[.string x.frm,.string x.to,.int .i64 x.kind,.string x.msg,.string x.peer,.string x.ctr,.int .i64 x.low,.int .i64 x.high,.int .i64 x.add] 137 HV4.out.t _ Tryz.underlying137 rfl (by kernel_rfl) (hK _ ?_))
         | (apply Exists.intro
            refine⟨fun w' hC=>?_,hK _ ?_⟩
            ·(unfold Oper.quietAt
              obtain⟨⟨e0,e1,e2,e3⟩,t0,t1,t2,t3,t4,t5,t6,t7,t8⟩:=HU.out w' hC
              clear hC
              go_simp
              try exact⟨rfl,rfl⟩
              try rfl))
        clear hK K
        try simp only[nrm,Act.eval,nrq]))
    refine wpQuiet_nil ?_
    intro w5 hf5
    go_wp2
    go_ret
    exact⟨by rw[HR.out];rfl,HV4.out.fr.trans hf5⟩
   all_goals
    have h1':¬ q2 < 0:=by omega
    rw[h2] at CO
    obtain⟨KF,hK1,hK2,hK3⟩:=kFn_call x.kind HKO.out
    rw[hK1] at k2
    have hK3:=Lib.hid (fun W=>hK3 W f)
    rw[h3] at hK3
    have HF3:=Lib.hid h3
    rw[hres]
    have HR:=Lib.hid hres
    clear hres h2 h3 hK1
    go_upto_region 4 with fail
   ·refine wp_region_cq (by kernel_rfl) (by kernel_rfl) ?_
    repeat (first
     | go_big_quiet_skip
     | (refine wpQuiet_want (by rfl) (fun K hK=>?_)
        first
         | (refine quiet_move _ (by rfl) (hK _ ?_))
         | (refine quiet_assign _ (by rfl) (hK _ ?_))
         | (refine cq_call (.int .i64 q2) 207 #[.agg #[.string r.name,.slice (some ⟨b5,o5,none⟩) ns cs,.slice ac nc cc,.slice (some ⟨b,o,none⟩) m cap],.string x.to] (fun w' hC=>?_) (fun w' hC=>Ret.cq (CT.out w' hC) (fun w'' h=>hC.trans h)) (hK _ ?_)
            ·go_simp)
         | (refine cq_call (.bool false) 222 #[.slice (some ⟨b,o,none⟩) n cap,.agg #[.string x.frm,.string x.to,.int .i64 x.kind,.string x.msg,.string x.peer,.string x.ctr,.int .i64 x.low,.int .i64 x.high,.int .i64 x.add]] (fun w' hC=>?_) (fun w' hC=>Ret.cq (CO.out w' hC) (fun w'' h=>hC.trans h)) (hK _ ?_)
            ·go_simp)
         | (refine cq_call (.bool false) KF #[.agg #[.string f.name,.bool f.fin,.int .i64 f.wait]] (fun w' hC=>?_) (fun w' hC=>Ret.cq (hK3.out w') (fun w'' h=>hC.trans h)) (hK _ ?_)
            ·go_simp)
         | (refine cq_row 137 _ rfl (w.heap.size + 1) rfl #[.string x.frm,.string x.to,.int .i64 x.kind,.string x.msg,.string x.peer,.string x.ctr,.int .i64 x.low,.int .i64 x.high,.int .i64 x.add] 137 HV4.out.t _ Tryz.underlying137 rfl (by kernel_rfl) (hK _ ?_))
         | (apply Exists.intro
            refine⟨fun w' hC=>?_,hK _ ?_⟩
            ·(unfold Oper.quietAt
              obtain⟨⟨e0,e1,e2,e3⟩,t0,t1,t2,t3,t4,t5,t6,t7,t8⟩:=HU.out w' hC;obtain⟨u0,u1,u2⟩:=HG.out.frm hC;have kb2:=hC.keep k2
              clear hC
              go_simp
              try exact⟨rfl,rfl⟩
              try rfl))
        clear hK K
        try simp only[nrm,Act.eval,nrq]))
    refine wpQuiet_nil ?_
    intro w5 hf5
    go_wp2
    go_ret
    exact⟨by rw[HR.out];rfl,HV4.out.fr.trans hf5⟩
   ·refine wp_region_cq (by kernel_rfl) (by kernel_rfl) ?_
    repeat (first
     | go_big_quiet_skip
     | (refine wpQuiet_want (by rfl) (fun K hK=>?_)
        first
         | (refine quiet_move _ (by rfl) (hK _ ?_))
         | (refine quiet_assign _ (by rfl) (hK _ ?_))
         | (refine cq_call (.int .i64 q2) 207 #[.agg #[.string r.name,.slice (some ⟨b5,o5,none⟩) ns cs,.slice ac nc cc,.slice (some ⟨b,o,none⟩) m cap],.string x.to] (fun w' hC=>?_) (fun w' hC=>Ret.cq (CT.out w' hC) (fun w'' h=>hC.trans h)) (hK _ ?_)
            ·go_simp)
         | (refine cq_call (.bool false) 222 #[.slice (some ⟨b,o,none⟩) n cap,.agg #[.string x.frm,.string x.to,.int .i64 x.kind,.string x.msg,.string x.peer,.string x.ctr,.int .i64 x.low,.int .i64 x.high,.int .i64 x.add]] (fun w' hC=>?_) (fun w' hC=>Ret.cq (CO.out w' hC) (fun w'' h=>hC.trans h)) (hK _ ?_)
            ·go_simp)
         | (refine cq_call (.bool true) KF #[.agg #[.string f.name,.bool f.fin,.int .i64 f.wait]] (fun w' hC=>?_) (fun w' hC=>Ret.cq (hK3.out w') (fun w'' h=>hC.trans h)) (hK _ ?_)
            ·go_simp)
         | (refine cq_row 137 _ rfl (w.heap.size + 1) rfl #[.string x.frm,.string x.to,.int .i64 x.kind,.string x.msg,.string x.peer,.string x.ctr,.int .i64 x.low,.int .i64 x.high,.int .i64 x.add] 137 HV4.out.t _ Tryz.underlying137 rfl (by kernel_rfl) (hK _ ?_))
         | (apply Exists.intro
            refine⟨fun w' hC=>?_,hK _ ?_⟩
            ·(unfold Oper.quietAt
              obtain⟨⟨e0,e1,e2,e3⟩,t0,t1,t2,t3,t4,t5,t6,t7,t8⟩:=HU.out w' hC;obtain⟨u0,u1,u2⟩:=HG.out.frm hC;have kb2:=hC.keep k2
              clear hC
              go_simp
              try exact⟨rfl,rfl⟩
              try rfl))
        clear hK K
        try simp only[nrm,Act.eval,nrq]))
    refine wpQuiet_nil ?_
    intro w5 hf5
    have HF5:=Lib.hid hf5
    have CNM:Hid (∀ V,Calls Tryz.prog 165 #[.string x.msg] V (Ret (.bool (nameB x.msg)) (Frm [] V))):=Lib.hid fun V=>rName_any x.msg V
    have CNP:Hid (∀ V,Calls Tryz.prog 165 #[.string x.peer] V (Ret (.bool (nameB x.peer)) (Frm [] V))):=Lib.hid fun V=>rName_any x.peer V
    have HW:=Lib.hid (b6_ways r x)
    have HRES:Hid (stepB r n x=(guardB r x && !b6 r x)):=Lib.hid (by rw[HR.out,kind_b6 HKO.out HF3.out])
    have HKB1:Hid (∀ V,Frm [] w4 V→V.cell? ⟨kb,1,none⟩=some (.bool sp)):=Lib.hid fun V hV=>hV.keep HK1.out
    have hemp:∀ b:ByteArray,b.toList.isEmpty=decide (b=emptyS):=fun b=>by
     by_cases h:b=emptyS
     ·rw[decide_eq_true h];exact emp_yes h
     ·rw[decide_eq_false h];exact emp_no h
    have HCAT:Hid ((x.msg ++ x.peer).toList.isEmpty=(decide (x.msg=emptyS) && decide (x.peer=emptyS))):=Lib.hid (by rw[hemp,← cat_emp,str_beq];rfl)
    have HEM:=Lib.hid hemp
    have HRC:Hid (Arr 2 CtAt w4 (.slice ac nc cc) r.ctrs):=Lib.hid HV4.out.r.h3.ctrs
    obtain⟨bb,hbb⟩:∃ bb,b6 r x=bb:=⟨_,rfl⟩
    rw[hbb] at HW HRES
    clear hf5 CT CO hK2 hK3 k2 HR hbb hemp hsl h1' hp0 hpl HKO HF3
    go_upto_region 6 with fail
    go_cut [96] (fun s96 wc=>s96=.bool bb∧Frm [] w4 wc)
    case first =>
     obtain⟨⟨e0,e1,e2,e3⟩,t0,t1,t2,t3,t4,t5,t6,t7,t8⟩:=HU.out w5 HF5.out
     have kb1:=HKB1.out w5 HF5.out
     rcases HW.out with ⟨s1,s2,s3⟩ | ⟨s1,s2,s3,s4⟩ | ⟨s1,s2,s3,s4⟩ | ⟨s1,s2⟩
     ·obtain rfl:sp=true:=by rw[← HSPK.out];exact s1
      rw[s2] at CNM
      subst s3
      clear HW HRES s1 s2 HCAT HEM HRC
      go_wp2_with (first
       | (go_at_call 165;go_must (refine(CNM.out _).mono ?_;clear CNM;rintro e w6 ⟨rfl,hf6⟩;obtain⟨⟨e0,e1,e2,e3⟩,t0,t1,t2,t3,t4,t5,t6,t7,t8⟩:=HU.out w6 (HF5.out.trans hf6);have kb1:=HKB1.out w6 (HF5.out.trans hf6);have HF6:=Lib.hid (HF5.out.trans hf6);clear hf6)))
      go_meet
      exact⟨rfl,HF6.out⟩
     ·obtain rfl:sp=true:=by rw[← HSPK.out];exact s1
      rw[s2] at CNM
      rw[s3] at CNP
      subst s4
      clear HW HRES s1 s2 s3 HCAT HEM HRC
      go_wp2_with (first
       | (go_at_call 165;go_must (first
        | (refine(CNM.out _).mono ?_;clear CNM;rintro e w6 ⟨rfl,hf6⟩;obtain⟨⟨e0,e1,e2,e3⟩,t0,t1,t2,t3,t4,t5,t6,t7,t8⟩:=HU.out w6 (HF5.out.trans hf6);have kb1:=HKB1.out w6 (HF5.out.trans hf6);have HF6:=Lib.hid (HF5.out.trans hf6);clear hf6)
        | (refine(CNP.out _).mono ?_;clear CNP;rintro e w7 ⟨rfl,hf7⟩;obtain⟨⟨e0,e1,e2,e3⟩,t0,t1,t2,t3,t4,t5,t6,t7,t8⟩:=HU.out w7 (HF6.out.trans hf7);have kb1:=HKB1.out w7 (HF6.out.trans hf7);have HF7:=Lib.hid (HF6.out.trans hf7);clear hf7))))
      go_meet
      exact⟨rfl,HF7.out⟩
     ·obtain rfl:sp=true:=by rw[← HSPK.out];exact s1
      rw[s2] at CNM
      rw[s3] at CNP
      have hsb:(x.peer.toList == r.name.toList)=bb:=by rw[str_beq];exact s4.symm
      clear HW HRES s1 s2 s3 s4 HCAT HEM HRC
      cases bb
      all_goals
       go_wp2_with (first
        | (go_at_call 165;go_must (first
         | (refine(CNM.out _).mono ?_;clear CNM;rintro e w6 ⟨rfl,hf6⟩;obtain⟨⟨e0,e1,e2,e3⟩,t0,t1,t2,t3,t4,t5,t6,t7,t8⟩:=HU.out w6 (HF5.out.trans hf6);have kb1:=HKB1.out w6 (HF5.out.trans hf6);have HF6:=Lib.hid (HF5.out.trans hf6);clear hf6)
         | (refine(CNP.out _).mono ?_;clear CNP;rintro e w7 ⟨rfl,hf7⟩;obtain⟨⟨e0,e1,e2,e3⟩,t0,t1,t2,t3,t4,t5,t6,t7,t8⟩:=HU.out w7 (HF6.out.trans hf7);have kb1:=HKB1.out w7 (HF6.out.trans hf7);have HF7:=Lib.hid (HF6.out.trans hf7);clear hf7))))
       go_meet
       exact⟨rfl,HF7.out⟩
     ·obtain rfl:sp=false:=by rw[← HSPK.out];exact s1
      rw[← HCAT.out] at s2
      have hce:(x.msg ++ x.peer).toList.isEmpty=!bb:=by rw[s2];simp
      have hsa:=fun W=>run_string_add (P:=Tryz.prog) (w:=W) x.msg x.peer (by omega) (by omega)
      clear HW HRES s1 s2 HCAT HEM HRC
      cases bb
      all_goals
       go_wp2
       go_meet
       exact⟨rfl,HF5.out⟩
    case rest =>
     obtain⟨rfl,hf6⟩:=hcut
     obtain⟨⟨e0,e1,e2,e3⟩,t0,t1,t2,t3,t4,t5,t6,t7,t8⟩:=HU.out wc hf6
     have HF6:=Lib.hid hf6
     clear hf6 HW HF5 HKB1 CNM CNP HCAT
     cases bb with
     | true =>
       have HRR:Hid (stepB r n x=false):=Lib.hid (by rw[HRES.out];simp)
       clear HRES
       go_wp2
       go_ret
       exact⟨by rw[HRR.out];rfl,HV4.out.fr.trans HF6.out⟩
     | false =>
       by_cases he:x.ctr=emptyS
       ·have hemp:x.ctr.toList.isEmpty=true:=emp_yes he
        have HRR:Hid (stepB r n x=(decide (x.low=0) && decide (x.high=0) && decide (x.add=0))):=Lib.hid (by rw[HRES.out,guard_none he];simp)
        clear HRES he
        by_cases l0:x.low=0
        ·have q0:(x.low == 0)=true:=by simpa using l0
         by_cases l1:x.high=0
         ·have q1:(x.high == 0)=true:=by simpa using l1
          have HRR:Hid (stepB r n x=(x.add == 0)):=Lib.hid (by rw[HRR.out,decide_eq_true l0,decide_eq_true l1,Bool.true_and,Bool.true_and];by_cases h:x.add=0 <;> simp[h])
          clear l0 l1
          go_wp2
          go_ret
          exact⟨by rw[HRR.out];rfl,HV4.out.fr.trans HF6.out⟩
         ·have q1:(x.high == 0)=false:=by simpa using l1
          have HRR:Hid (stepB r n x=false):=Lib.hid (by rw[HRR.out,decide_eq_false l1];simp)
          clear l0 l1
          go_wp2
          go_ret
          exact⟨by rw[HRR.out];rfl,HV4.out.fr.trans HF6.out⟩
        ·have q0:(x.low == 0)=false:=by simpa using l0
         have HRR:Hid (stepB r n x=false):=Lib.hid (by rw[HRR.out,decide_eq_false l0];simp)
         clear l0
         go_wp2
         go_ret
         exact⟨by rw[HRR.out];rfl,HV4.out.fr.trans HF6.out⟩
       ·have hemp:x.ctr.toList.isEmpty=false:=emp_no he
        have HRR:Hid (stepB r n x=guardB r x):=Lib.hid (by rw[HRES.out];simp)
        rcases guard_ways (r:=r) he with ⟨h1,h2⟩ | ⟨p3,c,h1,h2,h3⟩
        ·rw[HQ3.out] at h1
         have HRR:Hid (stepB r n x=false):=Lib.hid (by rw[HRR.out,h2])
         clear h2 he HRES
         go_wp2
         go_ret
         exact⟨by rw[HRR.out];rfl,HV4.out.fr.trans HF6.out⟩
        ·obtain rfl:q3=(p3:Int):=by rw[← HQ3.out];exact h1
         have hq0:¬ (p3:Int) < 0:=by omega
         have hpn:(p3:Int) < (nc:Int):=by have:=lt_of_some h2;have:=HNC.out;omega
         have hcl:=hlim c (List.mem_of_getElem? h2)
         obtain⟨b7,o7,rfl,-,k1⟩:=HRC.out.get h2
         have k1:=HF6.out.keep k1
         clear h1 h2 he HRES
         rcases h3 with ⟨g1,g2⟩ | ⟨g1,g3,g2⟩ | ⟨g1,g3,g4,g2⟩ | ⟨g1,g3,g4,g5,g2⟩ | ⟨g1,g3,g4,g5,g6⟩
         ·have HRR:Hid (stepB r n x=false):=Lib.hid (by rw[HRR.out,g2])
          clear g2
          go_wp2
          go_ret
          exact⟨by rw[HRR.out];rfl,HV4.out.fr.trans HF6.out⟩
         ·have HRR:Hid (stepB r n x=false):=Lib.hid (by rw[HRR.out,g2])
          have g1':¬ x.low < 0:=by omega
          clear g2
          go_wp2
          go_ret
          exact⟨by rw[HRR.out];rfl,HV4.out.fr.trans HF6.out⟩
         ·have HRR:Hid (stepB r n x=false):=Lib.hid (by rw[HRR.out,g2])
          have g1':¬ x.low < 0:=by omega
          have g3':¬ x.high < x.low:=by omega
          clear g2
          go_wp2
          go_ret
          exact⟨by rw[HRR.out];rfl,HV4.out.fr.trans HF6.out⟩
         ·have HRR:Hid (stepB r n x=false):=Lib.hid (by rw[HRR.out,g2])
          have g1':¬ x.low < 0:=by omega
          have g3':¬ x.high < x.low:=by omega
          have g4':¬ x.add < -1000:=by omega
          clear g2
          go_wp2
          go_ret
          exact⟨by rw[HRR.out];rfl,HV4.out.fr.trans HF6.out⟩
         ·have g1':¬ x.low < 0:=by omega
          have g3':¬ x.high < x.low:=by omega
          have g4':¬ x.add < -1000:=by omega
          have g5':¬ 1000 < x.add:=by omega
          rcases g6 with ⟨m1,g2⟩ | ⟨m1,m2,g2⟩ | ⟨m1,m2,m3,g2⟩ | ⟨m1,m2,m3,g2⟩
          ·have m1':¬ x.high≤c.lim:=by omega
           have HRR:Hid (stepB r n x=false):=Lib.hid (by rw[HRR.out,g2])
           clear g2
           go_wp2
           go_ret
           exact⟨by rw[HRR.out];rfl,HV4.out.fr.trans HF6.out⟩
          all_goals
           have hw1:wrap64 (x.low + x.add)=x.low + x.add:=by unfold wrap64;omega
           have hw2:wrap64 (x.high + x.add)=x.high + x.add:=by unfold wrap64;omega
          ·have m2':¬ 0≤x.low + x.add:=by omega
           have HRR:Hid (stepB r n x=false):=Lib.hid (by rw[HRR.out,g2])
           clear g2
           go_wp2
           go_ret
           exact⟨by rw[HRR.out];rfl,HV4.out.fr.trans HF6.out⟩
          ·have m3':¬ x.high + x.add≤c.lim:=by omega
           have HRR:Hid (stepB r n x=false):=Lib.hid (by rw[HRR.out,g2])
           clear g2
           go_wp2
           go_ret
           exact⟨by rw[HRR.out];rfl,HV4.out.fr.trans HF6.out⟩
          ·have HRR:Hid (stepB r n x=true):=Lib.hid (by rw[HRR.out,g2])
           clear g2
           go_wp2
           go_ret
           exact⟨by rw[HRR.out];rfl,HV4.out.fr.trans HF6.out⟩
end Go.Proofs.YtohfkhjlnlahdaaGreat
