/- Part of the proof. -/
import Derived.Test.YtohfkhjlnlahdaaGreatW14
import Derived.Lib.Builder
import Derived.Shelf.SortM.Plain
import Derived.Shelf.SortM.SortNone
import Derived.Sort.CutIn
import Derived.OrdersIn
import Derived.Test.YtohfkhjlnlahdaaGreatW22
set_option linter.all false
namespace Go.Proofs.YtohfkhjlnlahdaaGreat
open Go.RowKit Go.BigFrame
section
variable {w w':World} {s:SesD} {yb fb sb:Nat} {x:PS}
theorem actsP_at {i:Nat} (hi:i < s.roles.length):(actsP s x)[i]?=some (((x.at i:Nat):Int),x.ctr s i):=by
 unfold actsP
 rw[List.getElem?_map,List.getElem?_range hi];rfl
theorem actsP_len:(actsP s x).length=s.roles.length:=by unfold actsP;simp
structure RlF (rb ro:Nat) (sv cv tv:Value) (r:RolD) (W:World):Prop where
 c0:W.cell? ⟨rb,ro,none⟩=some (.string r.name)
 c1:W.cell? ⟨rb,ro + 1,none⟩=some sv
 c2:W.cell? ⟨rb,ro + 2,none⟩=some cv
 c3:W.cell? ⟨rb,ro + 3,none⟩=some tv
 r3:Rl3 W sv cv tv r
theorem SyR.rol (h:SyR w s yb fb) {i:Nat} (hi:i < s.roles.length):∃ rb ro cap sv cv tv,w.cell? ⟨yb,1,none⟩=some (.slice (some ⟨rb,ro,none⟩) s.roles.length cap)∧RlF rb (ro + i * 4) sv cv tv (s.rol i) w:=by
 obtain⟨rv,h1,h2⟩:=h.out
 obtain⟨rb,ro,cap,rfl,sv,cv,tv,c0,c1,c2,c3,h3⟩:=h2.at (SesD.rol_some hi)
 exact⟨rb,ro,cap,sv,cv,tv,cell_of h1 1,c0,c1,c2,c3,h3⟩
structure AcF (ab ao bb:Nat) (p:Nat) (l:List (CtrD × Int)) (W:World):Prop where
 c0:W.cell? ⟨ab,ao,none⟩=some (.int .i64 (p:Int))
 c1:W.cell? ⟨ab,ao + 1,none⟩=some (.pointer (some ⟨bb,0,none⟩))
 bnk:Bnk W bb l
theorem AcF.frm {ab ao bb p:Nat} {l:List (CtrD × Int)} {W W':World} (h:AcF ab ao bb p l W) (hf:Frm [] W W'):AcF ab ao bb p l W':=⟨hf.keep h.c0,hf.keep h.c1,h.bnk.frm hf⟩
theorem StR.act (h:StR w s yb sb x) {i:Nat} (hi:i < s.roles.length):∃ ab ao cap bb,w.cell? ⟨sb,1,none⟩=some (.slice (some ⟨ab,ao,none⟩) s.roles.length cap)∧AcF ab (ao + i * 2) bb (x.at i) (x.ctr s i) w:=by
 obtain⟨av,wv,h1,h2,-⟩:=h.out
 obtain⟨ab,ao,cap,rfl,bb,c0,c1,h3⟩:=h2.at (actsP_at hi)
 rw[actsP_len] at h1
 exact⟨ab,ao,cap,bb,cell_of h1 1,c0,c1,h3⟩
end
set_option maxRecDepth 100000 in
theorem pNone_any (s:SesD) (yb fb:Nat) (w:World) (h:SyR w s yb fb):Calls Tryz.prog 60 #[.pointer (some ⟨yb,0,none⟩)] w (Ret (.bool false) (w=·)):=by
 obtain⟨rv,h1,-⟩:=h.out
 have c4:=cell_of h1 4
 clear h1 h
 go_enter Tryz.func60,Tryz.ntmps60
 go_wp2
 go_ret
 exact⟨rfl,rfl⟩
set_option maxRecDepth 100000 in
theorem pSnone_any (s:SesD) (yb sb:Nat) (x:PS) (w:World) (h:StR w s yb sb x):Calls Tryz.prog 101 #[.pointer (some ⟨sb,0,none⟩)] w (Ret (.bool false) (w=·)):=by
 obtain⟨av,wv,h1,-⟩:=h.out
 have c0:=cell_of h1 0
 clear h1 h
 go_enter Tryz.func101,Tryz.ntmps101
 go_wp2
 go_ret
 exact⟨rfl,rfl⟩
theorem sys_same (yb:Nat) (W:World):(binOp .neq 27 (.pointer (some ⟨yb,0,none⟩)) (.pointer (some ⟨yb,0,none⟩))).run Tryz.prog W=.ok (.bool false) W:=by
 have h:(Tryz.prog.info? 116).isSome=true:=by kernel_rfl
 obtain⟨j,hj⟩:=Option.isSome_iff_exists.1 h
 exact Lib.run_neq_ptr_same W _ Tryz.underlying27 hj
set_option maxRecDepth 100000 in
theorem pCheck_any (s:SesD) (yb fb sb:Nat) (x:PS) (w:World) (h:SyR w s yb fb) (hx:StR w s yb sb x):Calls Tryz.prog 61 #[.pointer (some ⟨yb,0,none⟩),.pointer (some ⟨sb,0,none⟩)] w (Ret (.int .i64 0) (w=·)):=by
 have C1:=Lib.hid (pNone_any s yb fb w h)
 have C2:=Lib.hid (pSnone_any s yb sb x w hx)
 have hq:=sys_same yb
 obtain⟨av,wv,h1,-⟩:=hx.out
 have c0:=cell_of h1 0
 clear h1 h hx
 go_enter Tryz.func61,Tryz.ntmps61
 go_wp2_with (first
  | (go_at_call 60;go_must (refine C1.out.mono ?_;rintro e w' ⟨rfl,rfl⟩))
  | (go_at_call 101;go_must (refine C2.out.mono ?_;rintro e w' ⟨rfl,rfl⟩)))
 go_ret
 exact⟨rfl,rfl⟩
set_option maxRecDepth 100000 in
theorem pFirst_any (s:SesD) (yb fb:Nat) (w:World) (h:SyR w s yb fb):Calls Tryz.prog 18 #[.pointer (some ⟨yb,0,none⟩)] w (Ret (.pointer (some ⟨fb,0,none⟩)) (w=·)):=by
 have C1:=Lib.hid (pNone_any s yb fb w h)
 obtain⟨rv,h1,-⟩:=h.out
 have c4:=cell_of h1 4
 clear h1 h
 go_enter Tryz.func18,Tryz.ntmps18
 go_wp2_with (first
  | (go_at_call 60;go_must (refine C1.out.mono ?_;rintro e w' ⟨rfl,rfl⟩)))
 go_ret
 exact⟨rfl,rfl⟩
set_option maxHeartbeats 4000000 in
set_option maxRecDepth 100000 in
theorem pPossible_any (s:SesD) (yb fb sb i k:Nat) (x:PS) (w:World) (h:SyR w s yb fb) (hx:StR w s yb sb x) (hi:i < s.roles.length) (hk:k < (s.rol i).steps.length) :
  Calls Tryz.prog 122 #[.pointer (some ⟨yb,0,none⟩),.pointer (some ⟨sb,0,none⟩),.int .i64 i,.int .i64 k] w (Ret (.bool (possB s x i k)) (Frm [] w)):=by
 have hso:=h.ok
 have hxo:=hx.ok
 have CA:∀ bb,Hid (∀ V,Bnk V bb (x.ctr s i)→Calls Tryz.prog 136 #[.pointer (some ⟨bb,0,none⟩),stpV ((s.rol i).stp k)] V (Ret (.tuple #[.bool (bankOk (s.rol i).ctrs (x.bank i) ((s.rol i).stp k)),.int .i64 0]) (Frm [] V))):=fun bb=>Lib.hid fun V hV=>by
  rw[← okB_bank hso hxo hi hk]
  exact bAllowed_any bb _ _ V hV (ctr_ok hso hxo hi) (ctr_has hso hxo hi hk)
 obtain⟨rb,ro,rc,sv,cv,tv,y1,hr⟩:=h.rol hi
 obtain⟨ab,ao,ac,bb,x1,ha⟩:=hx.act hi
 have hst:(s.rol i).sts[x.at i]?=some ((s.rol i).sts.getD (x.at i) dS):=some_getD (hxo.pb i hi)
 have htt:=RolD.stp_some hk
 have CA:=CA bb
 have HP:Hid (possB s x i k=(bankOk (s.rol i).ctrs (x.bank i) ((s.rol i).stp k) && decide (((s.rol i).sts.getD (x.at i) dS).name=((s.rol i).stp k).frm))):=Lib.hid rfl
 rw[HP.out]
 have hni:(i:Int) < (s.roles.length:Int):=by omega
 have hns:((x.at i:Nat):Int) < ((s.rol i).sts.length:Int):=by have:=hxo.pb i hi;omega
 have hnk:(k:Int) < ((s.rol i).steps.length:Int):=by omega
 obtain⟨b,hb⟩:∃ b,bankOk (s.rol i).ctrs (x.bank i) ((s.rol i).stp k)=b:=⟨_,rfl⟩
 rw[hb] at CA ⊢
 obtain⟨p,hp⟩:∃ p,x.at i=p:=⟨_,rfl⟩
 obtain⟨st,hst2⟩:∃ st,(s.rol i).sts.getD (x.at i) dS=st:=⟨_,rfl⟩
 obtain⟨t,ht2⟩:∃ t,(s.rol i).stp k=t:=⟨_,rfl⟩
 rw[hst2] at hst ⊢
 rw[ht2] at htt CA ⊢
 rw[hp] at ha hst hns
 obtain⟨r,hrr⟩:∃ r,s.rol i=r:=⟨_,rfl⟩
 obtain⟨l,hll⟩:∃ l,x.ctr s i=l:=⟨_,rfl⟩
 rw[hrr] at hr hst htt hns hnk
 rw[hll] at ha CA
 obtain⟨n,hn⟩:∃ n,s.roles.length=n:=⟨_,rfl⟩
 rw[hn] at y1 x1 hni
 obtain⟨aS,cs,rfl⟩:=hr.r3.sts.shape
 obtain⟨a2,c2,rfl⟩:=hr.r3.ctrs.shape
 obtain⟨at',ct,rfl⟩:=hr.r3.steps.shape
 obtain⟨b1,o1,rfl,g0,-,-⟩:=hr.r3.sts.get hst
 obtain⟨b2,o2,rfl,k0,k1,k2,k3,k4,k5,k6,k7,k8⟩:=hr.r3.steps.get htt
 obtain⟨ns,hns2⟩:∃ ns,r.sts.length=ns:=⟨_,rfl⟩
 obtain⟨nc,hnc2⟩:∃ nc,r.ctrs.length=nc:=⟨_,rfl⟩
 obtain⟨nt,hnt2⟩:∃ nt,r.steps.length=nt:=⟨_,rfl⟩
 obtain⟨d0,d1,d2,d3,-⟩:=hr
 obtain⟨e0,e1,e2⟩:=ha
 rw[hns2] at d1 hns
 rw[hnc2] at d2
 rw[hnt2] at d3 hnk
 have hl1:=cell_lt d0
 have hl2:=cell_lt e0
 have hl3:=cell_lt y1
 have hl4:=cell_lt x1
 have HB:=Lib.hid e2
 have HU:Hid (∀ V,Frm [] w V→V.cell? ⟨b1,o1 + p * 3,none⟩=some (.string st.name)∧SpAt V b2 (o2 + k * 9) t):=Lib.hid fun V hV=>⟨hV.keep g0,hV.keep k0,hV.keep k1,hV.keep k2,hV.keep k3,hV.keep k4,hV.keep k5,hV.keep k6,hV.keep k7,hV.keep k8⟩
 clear HP hp hst2 ht2 hrr hll hn hns2 hnc2 hnt2 hst htt g0 k0 k1 k2 k3 k4 k5 k6 k7 k8 h hx hso hxo hi hk hb e2
 go_enter Tryz.func122,Tryz.ntmps122
 go_upto_region 1 with fail
 go_cut [9,10] (fun s9 s10 wc=>∃ q1 q2,s9=.pointer (some ⟨q1,0,none⟩)∧s10=.pointer (some ⟨q2,0,none⟩)∧wc.heap[q1]?=some (.cells #[.string r.name,.slice (some ⟨b1,o1,none⟩) ns cs,.slice a2 nc c2,.slice (some ⟨b2,o2,none⟩) nt ct] 87 (0,0))∧wc.heap[q2]?=some (.cells #[.int .i64 p,.pointer (some ⟨bb,0,none⟩)] 143 (0,0))∧Frm [] w wc)
 case first =>
  go_region
  all_goals
   go_wp2
   go_meet
   refine⟨_,_,rfl,rfl,?_,?_,?_⟩
   ·first
     | exact heap_alloc_new _ _
     | exact alloc_at (heap_alloc_new _ _)
     | exact alloc_top (by simp)
   ·first
     | exact heap_alloc_new _ _
     | exact alloc_at (heap_alloc_new _ _)
     | exact alloc_top (by simp)
   ·first
     | exact(((Frm.refl [] w).alloc _).alloc _).drew
     | exact(((Frm.refl [] w).drew).alloc _).alloc _
     | exact((Frm.refl [] w).alloc _).drew.alloc _
     | exact((Frm.refl [] w).alloc _).alloc _
 case rest =>
  obtain⟨q1,q2,rfl,rfl,hq1,hq2,hf⟩:=hcut
  have HF:=Lib.hid hf
  have HW:Hid (∀ V,Frm [] wc V→V.heap[q1]?=some (.cells #[.string r.name,.slice (some ⟨b1,o1,none⟩) ns cs,.slice a2 nc c2,.slice (some ⟨b2,o2,none⟩) nt ct] 87 (0,0))∧V.heap[q2]?=some (.cells #[.int .i64 p,.pointer (some ⟨bb,0,none⟩)] 143 (0,0))):=Lib.hid fun V hV=>⟨hV.at hq1 (by simp),hV.at hq2 (by simp)⟩
  clear d0 d1 d2 d3 e0 e1 hl1 hl2 hl3 hl4 x1 y1 hq1 hq2 hf
  go_upto_region 2 with fail
  refine wp_region_cq (by kernel_rfl) (by kernel_rfl) ?_
  repeat (first
   | go_big_quiet_skip
   | (refine wpQuiet_want (by rfl) (fun K hK=>?_)
      first
       | (refine quiet_move _ (by rfl) (hK _ ?_))
       | (refine quiet_assign _ (by rfl) (hK _ ?_))
       | (refine cq_call (.tuple #[.bool b,.int .i64 0]) 136 #[.pointer (some ⟨bb,0,none⟩),stpV t] (fun w' hC=>?_) (fun w' hC=>Ret.cq (CA.out w' (HB.out.frm (HF.out.trans hC))) (fun w'' h=>hC.trans h)) (hK _ ?_)
          ·go_simp)
       | (apply Exists.intro
          refine⟨fun w' hC=>?_,hK _ ?_⟩
          ·(unfold Oper.quietAt
            obtain⟨z1,z2⟩:=HW.out w' hC;obtain⟨-,u0,u1,u2,u3,u4,u5,u6,u7,u8⟩:=HU.out w' (HF.out.trans hC);have v3:=cell_of z1 3;have v1:=cell_of z2 1;clear z1 z2
            clear hC
            go_simp
            try exact⟨rfl,rfl⟩
            try rfl))
      clear hK K
      try simp only[nrm,Act.eval,nrq]))
  refine wpQuiet_nil ?_
  intro w2 hf2
  have HF2:=Lib.hid hf2
  cases b with
  | false =>
    clear hf2
    go_upto_region 3 with fail
    refine wp_region_cq (by kernel_rfl) (by kernel_rfl) ?_
    repeat (first
     | go_big_quiet_skip
     | (refine wpQuiet_want (by rfl) (fun K hK=>?_)
        first
         | (refine quiet_move _ (by rfl) (hK _ ?_))
         | (refine quiet_assign _ (by rfl) (hK _ ?_))
         | (apply Exists.intro
            refine⟨fun w' hC=>?_,hK _ ?_⟩
            ·(unfold Oper.quietAt
              obtain⟨z1,z2⟩:=HW.out w' (HF2.out.trans hC)
              clear hC
              go_simp
              try exact⟨rfl,rfl⟩
              try rfl))
        clear hK K
        try simp only[nrm,Act.eval,nrq]))
    refine wpQuiet_nil ?_
    intro w3 hf3
    go_wp2
    go_ret
    exact⟨rfl,(HF.out.trans HF2.out).trans hf3⟩
  | true =>
    clear hf2
    have hsb:(st.name.toList == t.frm.toList)=decide (st.name=t.frm):=str_beq _ _
    go_upto_region 3 with fail
    refine wp_region_cq (by kernel_rfl) (by kernel_rfl) ?_
    repeat (first
     | go_big_quiet_skip
     | (refine wpQuiet_want (by rfl) (fun K hK=>?_)
        first
         | (refine quiet_move _ (by rfl) (hK _ ?_))
         | (refine quiet_assign _ (by rfl) (hK _ ?_))
         | (apply Exists.intro
            refine⟨fun w' hC=>?_,hK _ ?_⟩
            ·(unfold Oper.quietAt
              obtain⟨z1,z2⟩:=HW.out w' (HF2.out.trans hC);obtain⟨v0,u0,-⟩:=HU.out w' ((HF.out.trans HF2.out).trans hC);have v3:=cell_of z1 3;have v1:=cell_of z1 1;have v5:=cell_of z2 0;clear z1 z2
              clear hC
              go_simp
              try exact⟨rfl,rfl⟩
              try rfl))
        clear hK K
        try simp only[nrm,Act.eval,nrq]))
    refine wpQuiet_nil ?_
    intro w3 hf3
    go_wp2
    go_ret
    exact⟨by simp,(HF.out.trans HF2.out).trans hf3⟩
end Go.Proofs.YtohfkhjlnlahdaaGreat
namespace Go.Proofs.YtohfkhjlnlahdaaGreat
open Go.RowKit Go.BigFrame
structure ChS (w:World) (s:SesD) (x:PS) (yb xb ab gb rb cb f t:Nat) (F:List Nat) (L:List ByteArray) (W:World):Prop where
 fr:Frm [] w W
 new:w.heap.size≤xb∧w.heap.size≤ab∧w.heap.size≤gb∧w.heap.size≤rb∧∀ k∈F,w.heap.size≤k
 hx:∃ ca cg,W.heap[xb]?=some (.cells #[.pointer (some ⟨yb,0,none⟩),.slice (some ⟨ab,0,none⟩) s.roles.length ca,.slice (some ⟨gb,0,none⟩) s.roles.length cg] 147 (0,0))
 ha:∃ cur,W.heap[ab]?=some (.cells cur 143 (0,0))
 act:∀ i,i < s.roles.length→∃ bb,W.cell? ⟨ab,i * 2,none⟩=some (.int .i64 ((x.at i:Nat):Int))∧W.cell? ⟨ab,i * 2 + 1,none⟩=some (.pointer (some ⟨bb,0,none⟩))∧Bnk w bb (x.ctr s i)
 row:∀ i,i < s.roles.length→i≠f→∃ rv,W.cell? ⟨gb,i,none⟩=some rv∧RowV s.cls s.cap w rv (x.ways.getD i [])
 rowf:∃ cr,W.cell? ⟨gb,f,none⟩=some (.slice (some ⟨rb,0,none⟩) s.roles.length cr)
 chs:∀ k,k < s.roles.length→k≠t→∃ c G,W.cell? ⟨rb,k,none⟩=some (.pointer (some ⟨c,0,none⟩))∧Chn w c s.cls s.cap (x.way f k) G
 cht:W.cell? ⟨rb,t,none⟩=some (.pointer (some ⟨cb,0,none⟩))
 chn:Chn W cb s.cls s.cap L F
 types:(∃ c fr,W.heap[gb]?=some (.cells c 191 fr))∧∃ c fr,W.heap[rb]?=some (.cells c 130 fr)
structure Ch2 (w:World) (s:SesD) (x:PS) (yb xb ab gb rb f:Nat) (W:World):Prop where
 fr:Frm [] w W
 new:w.heap.size≤xb∧w.heap.size≤ab∧w.heap.size≤gb∧w.heap.size≤rb
 hx:∃ ca cg,W.heap[xb]?=some (.cells #[.pointer (some ⟨yb,0,none⟩),.slice (some ⟨ab,0,none⟩) s.roles.length ca,.slice (some ⟨gb,0,none⟩) s.roles.length cg] 147 (0,0))
 ha:∃ cur,W.heap[ab]?=some (.cells cur 143 (0,0))
 act:∀ i,i < s.roles.length→∃ bb,W.cell? ⟨ab,i * 2,none⟩=some (.int .i64 ((x.at i:Nat):Int))∧W.cell? ⟨ab,i * 2 + 1,none⟩=some (.pointer (some ⟨bb,0,none⟩))∧Bnk w bb (x.ctr s i)
 row:∀ i,i < s.roles.length→i≠f→∃ rv,W.cell? ⟨gb,i,none⟩=some rv∧RowV s.cls s.cap w rv (x.ways.getD i [])
 rowf:∃ cr,W.cell? ⟨gb,f,none⟩=some (.slice (some ⟨rb,0,none⟩) s.roles.length cr)
 chs:∀ k,k < s.roles.length→∃ c G,W.cell? ⟨rb,k,none⟩=some (.pointer (some ⟨c,0,none⟩))∧Chn w c s.cls s.cap (x.way f k) G
 tg:∃ c,W.heap[gb]?=some (.cells c 191 (0,0))
 tr:∃ c,W.heap[rb]?=some (.cells c 130 (0,0))
section
variable {w W W':World} {s:SesD} {x:PS} {yb xb ab gb rb cb f t:Nat} {F F':List Nat} {L L':List ByteArray}
theorem Chn.types (h:Chn W cb s.cls s.cap L F) {k:Nat} (hk:k∈F):∃ c e,W.heap[k]?=some (.cells c e (0,0))∧(e=233∨e=9):=by
 obtain⟨sv,h1,h2,-,rfl⟩:=h
 simp only[List.mem_cons,Option.mem_toList] at hk
 rcases hk with rfl | hk
 ·exact⟨_,_,h1,.inl rfl⟩
 ·obtain⟨c,hc⟩:=ownBlock_type h2 hk
  exact⟨c,9,hc,.inr rfl⟩
theorem Ch2.frm (h:Ch2 w s x yb xb ab gb rb f W) (hf:Frm [] W W'):Ch2 w s x yb xb ab gb rb f W':=by
 obtain⟨ca,cg,hx⟩:=h.hx
 obtain⟨cur,ha⟩:=h.ha
 obtain⟨c1,t1⟩:=h.tg
 obtain⟨c2,t2⟩:=h.tr
 obtain⟨cr,hr⟩:=h.rowf
 refine⟨h.fr.trans hf,h.new,⟨ca,cg,hf.at hx (by simp)⟩,⟨cur,hf.at ha (by simp)⟩,fun i hi=>?_,fun i hi hn=>?_,⟨cr,hf.keep hr⟩,fun k hk=>?_,⟨c1,hf.at t1 (by simp)⟩,c2,hf.at t2 (by simp)⟩
 ·obtain⟨bb,a1,a2,a3⟩:=h.act i hi
  exact⟨bb,hf.keep a1,hf.keep a2,a3⟩
 ·obtain⟨rv,a1,a2⟩:=h.row i hi hn
  exact⟨rv,hf.keep a1,a2⟩
 ·obtain⟨c,G,a1,a2⟩:=h.chs k hk
  exact⟨c,G,hf.keep a1,a2⟩
theorem ch2_mk {w3 w5:World} {cab cgb crb n:Nat} {curg curr:Array Value} (hn:s.roles.length=n) (hok:PSok s x) (hfl:f < s.roles.length) (fr:Frm [] w w5) (f35:Frm [] w3 w5) (n1:w.heap.size≤xb) (n2:w.heap.size≤ab) (n3:w.heap.size≤gb) (n4:w3.heap.size≤rb)
  (hx:w3.heap[xb]?=some (.cells #[.pointer (some ⟨yb,0,none⟩),.slice (some ⟨ab,0,none⟩) n cab,.slice (some ⟨gb,0,none⟩) n cgb] 147 (0,0))) {cura:Array Value} (ha:w3.heap[ab]?=some (.cells cura 143 (0,0))) (hae:∀ (i:Nat) a,(actsP s x)[i]?=some a→AoAt w w3 ab (i * 2) a)
  (hg:w5.heap[gb]?=some (.cells curg 191 (0,0))) (hg3:w3.heap[gb]?=some (.cells curg 191 (0,0))) (hge:∀ (i:Nat) R,x.ways[i]?=some R→WoAt s.cls s.cap w w3 gb (i * 1) R) (hr:w5.heap[rb]?=some (.cells curr 130 (0,0))) (hre:∀ (k:Nat) M,(x.ways.getD f [])[k]?=some M→CoAt s.cls s.cap w w5 rb (k * 1) M) :
  Ch2 w s x yb xb ab gb rb f (w5.setCell ⟨gb,f,none⟩ (.slice (some ⟨rb,0,none⟩) n crb)):=by
 have hF:Frm [gb] w5 (w5.setCell ⟨gb,f,none⟩ (.slice (some ⟨rb,0,none⟩) n crb)):=(Frm.refl _ _).setCell _ (.inl (by simp)) _
 have hb:=block_setCell hg f (.slice (some ⟨rb,0,none⟩) n crb)
 have x5:=f35.at hx (by simp)
 have a5:=f35.at ha (by simp)
 have nx:xb∉[gb]:=fun e=>by simp at e;subst e;rw[x5] at hg;cases hg
 have na:ab∉[gb]:=fun e=>by simp at e;subst e;rw[a5] at hg;cases hg
 have nr:rb∉[gb]:=fun e=>by simp at e;subst e;rw[hr] at hg;cases hg
 have hgf:f < curg.size:=by
  obtain⟨v,h1,-⟩:=hge f _ (some_getD (d:=[]) (by rw[hok.wl];exact hfl))
  rw[Nat.mul_one,cell_of hg3] at h1
  exact(Array.getElem?_eq_some_iff.1 h1).1
 have hs5:=f35.size
 have hs0:=lt_of_block hg3
 refine⟨fr.then hF (by intro y hy;simp at hy;subst hy;exact .inr n3),⟨n1,n2,n3,by omega⟩,⟨cab,cgb,by rw[hn];exact hF.at x5 nx⟩,⟨cura,hF.at a5 na⟩,fun i hi=>?_,fun i hi hne=>?_,⟨crb,?_⟩,fun k hk=>?_,⟨_,hb⟩,curr,hF.at hr nr⟩
 ·obtain⟨bb,b1,b2,b3⟩:=hae i _ (actsP_at hi)
  exact⟨bb,hF.cellAt (f35.keep b1) na,hF.cellAt (f35.keep b2) na,b3⟩
 ·obtain⟨v,b1,b2⟩:=hge i _ (some_getD (d:=[]) (by rw[hok.wl];exact hi))
  rw[Nat.mul_one] at b1
  refine⟨v,?_,b2⟩
  rw[cell_of hb,Array.getElem?_setIfInBounds_ne (by omega),← cell_of hg3]
  exact b1
 ·rw[cell_of hb,Array.getElem?_setIfInBounds_self_of_lt hgf,hn]
 ·obtain⟨c,G,b1,b2⟩:=hre k _ (some_getD (d:=[]) (by rw[hok.wr f hfl];exact hk))
  rw[Nat.mul_one] at b1
  exact⟨c,G,hF.cellAt b1 nr,b2⟩
theorem Ch2.fin {w7:World} (h:Ch2 w s x yb xb ab gb rb f W) (hf:Frm [] W w7) (hc:Chn w7 cb s.cls s.cap L F) (hF:∀ k∈F,W.heap.size≤k) (ht:t < s.roles.length):ChS w s x yb xb ab gb rb cb f t F L (w7.setCell ⟨rb,t,none⟩ (.pointer (some ⟨cb,0,none⟩))):=by
 have h7:=h.frm hf
 obtain⟨ca,cg,hx⟩:=h7.hx
 obtain⟨cur,ha⟩:=h7.ha
 obtain⟨c1,t1⟩:=h7.tg
 obtain⟨c2,t2⟩:=h7.tr
 obtain⟨cr,hr⟩:=h7.rowf
 have hS:Frm [rb] w7 (w7.setCell ⟨rb,t,none⟩ (.pointer (some ⟨cb,0,none⟩))):=(Frm.refl _ _).setCell _ (.inl (by simp)) _
 have hb:=block_setCell t2 t (.pointer (some ⟨cb,0,none⟩))
 have nx:xb∉[rb]:=fun e=>by simp at e;subst e;rw[hx] at t2;cases t2
 have na:ab∉[rb]:=fun e=>by simp at e;subst e;rw[ha] at t2;cases t2
 have ng:gb∉[rb]:=fun e=>by simp at e;subst e;rw[t1] at t2;cases t2
 have nF:∀ k∈F,k∉[rb]:=fun k hk e=>by
  obtain⟨c,e',a1,a2⟩:=hc.types hk
  simp at e;subst e
  rw[t2] at a1;cases a1
  revert a2;decide
 have hsz:t < c2.size:=by
  obtain⟨c,G,a1,-⟩:=h7.chs t ht
  rw[cell_of t2] at a1
  exact(Array.getElem?_eq_some_iff.1 a1).1
 have hs:=h.fr.size
 refine⟨h7.fr.then hS (by intro y hy;simp at hy;subst hy;exact .inr h.new.2.2.2),⟨h.new.1,h.new.2.1,h.new.2.2.1,h.new.2.2.2,fun k hk=>by have:=hF k hk;omega⟩,⟨ca,cg,hS.at hx nx⟩,⟨cur,hS.at ha na⟩,fun i hi=>?_,fun i hi hn=>?_,⟨cr,hS.cellAt hr ng⟩,fun k hk hn=>?_,?_,hc.frm hS nF,⟨c1,(0,0),hS.at t1 ng⟩,_,(0,0),hb⟩
 ·obtain⟨bb,a1,a2,a3⟩:=h7.act i hi
  exact⟨bb,hS.cellAt a1 na,hS.cellAt a2 na,a3⟩
 ·obtain⟨rv,a1,a2⟩:=h7.row i hi hn
  exact⟨rv,hS.cellAt a1 ng,a2⟩
 ·obtain⟨c,G,a1,a2⟩:=h7.chs k hk
  refine⟨c,G,?_,a2⟩
  rw[cell_of hb,Array.getElem?_setIfInBounds_ne (by omega),← cell_of t2]
  exact a1
 ·rw[cell_of hb,Array.getElem?_setIfInBounds_self_of_lt hsz]
theorem ChS.frm (h:ChS w s x yb xb ab gb rb cb f t F L W) (hf:Frm [] W W'):ChS w s x yb xb ab gb rb cb f t F L W':=by
 obtain⟨ca,cg,hx⟩:=h.hx
 obtain⟨cur,ha⟩:=h.ha
 obtain⟨⟨c1,f1,t1⟩,c2,f2,t2⟩:=h.types
 obtain⟨cr,hr⟩:=h.rowf
 refine⟨h.fr.trans hf,h.new,⟨ca,cg,hf.at hx (by simp)⟩,⟨cur,hf.at ha (by simp)⟩,fun i hi=>?_,fun i hi hn=>?_,⟨cr,hf.keep hr⟩,fun k hk hn=>?_,hf.keep h.cht,h.chn.frm hf (by simp),⟨c1,f1,hf.at t1 (by simp)⟩,c2,f2,hf.at t2 (by simp)⟩
 ·obtain⟨bb,a1,a2,a3⟩:=h.act i hi
  exact⟨bb,hf.keep a1,hf.keep a2,a3⟩
 ·obtain⟨rv,a1,a2⟩:=h.row i hi hn
  exact⟨rv,hf.keep a1,a2⟩
 ·obtain⟨c,G,a1,a2⟩:=h.chs k hk hn
  exact⟨c,G,hf.keep a1,a2⟩
theorem ChS.chan (h:ChS w s x yb xb ab gb rb cb f t F L W) (hc:ChnTo W cb s.cls s.cap L' F W'):∃ F',ChS w s x yb xb ab gb rb cb f t F' L' W':=by
 obtain⟨F',k1,k2,k3⟩:=hc
 obtain⟨ca,cg,hx⟩:=h.hx
 obtain⟨cur,ha⟩:=h.ha
 obtain⟨⟨c1,f1,t1⟩,c2,f2,t2⟩:=h.types
 obtain⟨cr,hr⟩:=h.rowf
 have nx:xb∉F:=fun hk=>by obtain⟨c,e,a1,a2⟩:=h.chn.types hk;rw[hx] at a1;cases a1;revert a2;decide
 have na:ab∉F:=fun hk=>by obtain⟨c,e,a1,a2⟩:=h.chn.types hk;rw[ha] at a1;cases a1;revert a2;decide
 have ng:gb∉F:=fun hk=>by obtain⟨c,e,a1,a2⟩:=h.chn.types hk;rw[t1] at a1;cases a1;revert a2;decide
 have nr:rb∉F:=fun hk=>by obtain⟨c,e,a1,a2⟩:=h.chn.types hk;rw[t2] at a1;cases a1;revert a2;decide
 have hs:=h.fr.size
 refine⟨F',h.fr.then k2 (fun k hk=>.inr (h.new.2.2.2.2 k hk)),⟨h.new.1,h.new.2.1,h.new.2.2.1,h.new.2.2.2.1,fun k hk=>?_⟩,⟨ca,cg,k2.at hx nx⟩,⟨cur,k2.at ha na⟩,fun i hi=>?_,fun i hi hn=>?_,⟨cr,k2.cellAt hr ng⟩,fun k hk hn=>?_,k2.cellAt h.cht nr,k1,⟨c1,f1,k2.at t1 ng⟩,c2,f2,k2.at t2 nr⟩
 ·rcases k3 k hk with a | a
  ·exact h.new.2.2.2.2 k a
  ·omega
 ·obtain⟨bb,a1,a2,a3⟩:=h.act i hi
  exact⟨bb,k2.cellAt a1 na,k2.cellAt a2 na,a3⟩
 ·obtain⟨rv,a1,a2⟩:=h.row i hi hn
  exact⟨rv,k2.cellAt a1 ng,a2⟩
 ·obtain⟨c,G,a1,a2⟩:=h.chs k hk hn
  exact⟨c,G,k2.cellAt a1 nr,a2⟩
theorem ChS.ways (h:ChS w s x yb xb ab gb rb cb f t F L W) (hx:PSok s x) (hf:f < s.roles.length) (ht:t < s.roles.length):∃ cg ca,W.heap[xb]?=some (.cells #[.pointer (some ⟨yb,0,none⟩),.slice (some ⟨ab,0,none⟩) s.roles.length ca,.slice (some ⟨gb,0,none⟩) s.roles.length cg] 147 (0,0)) ∧
  Arr 1 (RwAt s.cls s.cap) W (.slice (some ⟨gb,0,none⟩) s.roles.length cg) (setWay x.ways f t L):=by
 obtain⟨ca,cg,hxb⟩:=h.hx
 obtain⟨cr,hr⟩:=h.rowf
 refine⟨cg,ca,hxb,some ⟨gb,0,none⟩,cg,by rw[setWay_length,hx.wl],fun i R hR=>⟨gb,0,rfl,?_⟩⟩
 have hi:=lt_of_some hR
 rw[setWay_length,hx.wl] at hi
 rw[Nat.zero_add,Nat.mul_one]
 unfold setWay at hR
 rw[List.getElem?_set] at hR
 by_cases e:f=i
 ·subst e
  rw[if_pos rfl,if_pos (by rw[hx.wl];exact hi)] at hR
  cases hR
  refine⟨_,hr,some ⟨rb,0,none⟩,cr,by rw[List.length_set,hx.wr f hf],fun k M hM=>⟨rb,0,rfl,?_⟩⟩
  have hk:=lt_of_some hM
  rw[List.length_set,hx.wr f hf] at hk
  rw[Nat.zero_add,Nat.mul_one]
  rw[List.getElem?_set] at hM
  by_cases e2:t=k
  ·subst e2
   rw[if_pos rfl,if_pos (by rw[hx.wr f hf];exact hk)] at hM
   cases hM
   exact⟨cb,F,h.cht,h.chn⟩
  ·rw[if_neg e2] at hM
   obtain⟨c,G,a1,a2⟩:=h.chs k hk (fun e=>e2 e.symm)
   have:x.way f k=M:=by unfold PS.way wayOf;exact getD_some hM
   rw[this] at a2
   exact⟨c,G,a1,a2.frm h.fr (by simp)⟩
 ·rw[if_neg e] at hR
  obtain⟨rv,a1,a2⟩:=h.row i hi (fun e'=>e e'.symm)
  rw[getD_some hR] at a2
  exact⟨rv,a1,a2.frm h.fr⟩
theorem ChS.str (h:ChS w s x yb xb ab gb rb cb f t F L W) (hx:PSok s x) (hf:f < s.roles.length) (ht:t < s.roles.length) (ho:PSok s { x with ways:=setWay x.ways f t L }):StR W s yb xb { x with ways:=setWay x.ways f t L }:=by
 obtain⟨cg,ca,h1,h2⟩:=h.ways hx hf ht
 refine⟨⟨_,_,h1,⟨some ⟨ab,0,none⟩,ca,by rw[actsP_len],fun i a ha=>⟨ab,0,rfl,?_⟩⟩,h2⟩,ho⟩
 have hi:i < s.roles.length:=by have:=lt_of_some ha;rwa [actsP_len] at this
 rw[actsP_at hi] at ha
 cases ha
 obtain⟨bb,a1,a2,a3⟩:=h.act i hi
 rw[Nat.zero_add]
 exact⟨bb,a1,a2,a3.frm h.fr⟩
end
end Go.Proofs.YtohfkhjlnlahdaaGreat
namespace Go.Proofs.YtohfkhjlnlahdaaGreat
open Go.RowKit Go.BigFrame
theorem Arr.imp {α:Type} {k:Nat} {At At':World→Nat→Nat→α→Prop} {w w':World} {v:Value} {xs:List α} (hA:∀ b o x,At w b o x→At' w' b o x) (h:Arr k At w v xs):Arr k At' w' v xs:=by
 obtain⟨ao,cap,h1,h2⟩:=h
 refine⟨ao,cap,h1,fun i x hx=>?_⟩
 obtain⟨b,o,e,h3⟩:=h2 i x hx
 exact⟨b,o,e,hA _ _ _ h3⟩
theorem Fr.row {α:Type} {k:Nat} {e:TypeId} {At:World→Nat→Nat→α→Prop} {w w':World} {xs:List α} {v:Value} (h:Fr k e At w xs v w') (hn:xs.length≠0) :
  ∃ g cap cur,v=.slice (some ⟨g,0,none⟩) xs.length cap∧w.heap.size≤g∧w'.heap[g]?=some (.cells cur e (0,0))∧∀ (i:Nat) x,xs[i]?=some x→At w' g (i * k) x:=by
 rcases h.own with e | ⟨news,ho⟩
 ·rw[e] at hn;simp at hn
 ·obtain⟨g,cap,cur,rfl,hg,hc⟩:=own_block ho hn
  refine⟨g,cap,cur,rfl,hg,hc,fun i x hx=>?_⟩
  obtain⟨b,o,e,ha⟩:=h.arr.get hx
  cases e
  rw[Nat.zero_add] at ha
  exact ha
set_option maxHeartbeats 4000000 in
set_option maxRecDepth 100000 in
theorem pChange_any (s:SesD) (yb sb f t:Nat) (x:PS) (w:World) (hx:StR w s yb sb x) (hf:f < s.roles.length) (ht:t < s.roles.length) (h4:s.roles.length≤4) :
  Calls Tryz.prog 64 #[.pointer (some ⟨sb,0,none⟩),.int .i64 f,.int .i64 t] w (RetV fun v w'=>∃ xb ab gb rb cb F,v=.tuple #[.pointer (some ⟨xb,0,none⟩),.pointer (some ⟨cb,0,none⟩)]∧ChS w s x yb xb ab gb rb cb f t F (x.way f t) w'):=by
 have HST:=Lib.hid hx
 obtain⟨av,wv,h1,h2,h3⟩:=hx.out
 have hok:=hx.ok
 obtain⟨aa,ca,rfl⟩:=h2.shape
 obtain⟨aw,cw,rfl⟩:=h3.shape
 obtain⟨n,hn⟩:∃ n,s.roles.length=n:=⟨_,rfl⟩
 have CA:Hid (∀ V,Frm [] w V→Calls Tryz.prog 124 #[.slice aa n ca] V (RetV (Fr 2 143 (AoAt w) V (actsP s x)))):=Lib.hid fun V hV=>by
  have:=clActorAt_any w (.slice aa (actsP s x).length ca) (actsP s x) V (h2.imp fun _ _ _ h=>AoAt.frm h hV) (by rw[actsP_len];omega)
  rwa [actsP_len,hn] at this
 have CW:Hid (∀ V,Frm [] w V→Calls Tryz.prog 125 #[.slice aw n cw] V (RetV (Fr 1 191 (WoAt s.cls s.cap w) V x.ways))):=Lib.hid fun V hV=>by
  have:=clWaysAt_any s.cls s.cap w (.slice aw x.ways.length cw) x.ways V (h3.imp fun _ _ _ h=>WoAt.frm h hV) (by rw[hok.wl];omega)
  rwa [hok.wl,hn] at this
 rw[actsP_len,hok.wl,hn] at h1
 have HS:Hid (∀ V,Frm [] w V→V.cell? ⟨sb,0,none⟩=some (.pointer (some ⟨yb,0,none⟩))∧V.cell? ⟨sb,1,none⟩=some (.slice aa n ca)∧V.cell? ⟨sb,2,none⟩=some (.slice aw n cw)):=Lib.hid fun V hV=>⟨hV.keep (cell_of h1 0),hV.keep (cell_of h1 1),hV.keep (cell_of h1 2)⟩
 have HN:=Lib.hid hn;have HOK:=Lib.hid hok;have HFL:=Lib.hid hf;have HTL:=Lib.hid ht
 have hfn:(f:Int) < (n:Int):=by omega
 have htn:(t:Int) < (n:Int):=by omega
 clear h1 h2 h3 hx hok hn hf ht
 go_enter Tryz.func64,Tryz.ntmps64
 go_upto_region 1 with fail
 go_region_held3 (fun V=>V.cell? ⟨sb,0,none⟩=some (.pointer (some ⟨yb,0,none⟩))∧V.cell? ⟨sb,1,none⟩=some (.slice aa n ca)∧V.cell? ⟨sb,2,none⟩=some (.slice aw n cw))
  (first
   | exact HS.out _ ((Frm.refl [] w).drew)
   | exact HS.out _ F1.out
   | exact HS.out _ F2.out
   | exact HS.out _ (F2.out.alloc _))
  (first
   | (go_at_call 124;go_must (refine(CA.out _ ((Frm.refl [] w).drew)).mono ?_;rintro e w1 ⟨u,rfl,hr⟩;have F1:Hid (Frm [] w w1):=Lib.hid ((Frm.refl [] w).drew.trans hr.frm);have hrr:=hr.row (by rw[actsP_len,HN.out];omega);rw[actsP_len,HN.out] at hrr;obtain⟨ab,cab,cura,rfl,hab,hba,hae⟩:=hrr;have HAB:=Lib.hid hab;have HBA:=Lib.hid hba;have HAE:=Lib.hid hae;clear hab hba hae hr))
   | (go_at_call 125;go_must (refine(CW.out _ F1.out).mono ?_;rintro e w2 ⟨u,rfl,hr⟩;have F2:Hid (Frm [] w w2):=Lib.hid (F1.out.trans hr.frm);have F12:=Lib.hid hr.frm;have hrr:=hr.row (by rw[HOK.out.wl,HN.out];omega);rw[HOK.out.wl,HN.out] at hrr;obtain⟨gb,cgb,curg,rfl,hgb,hbg,hge⟩:=hrr;have HGB:=Lib.hid hgb;have HBG:=Lib.hid hbg;have HGE:=Lib.hid hge;clear hgb hbg hge hr)))
 obtain⟨w3,hw3⟩:∃ w3,w2.alloc (.cells #[.pointer (some ⟨yb,0,none⟩),.slice (some ⟨ab,0,none⟩) n cab,.slice (some ⟨gb,0,none⟩) n cgb] 147)=w3:=⟨_,rfl⟩
 have F3:Hid (Frm [] w w3):=Lib.hid (by rw[← hw3];exact F2.out.alloc _)
 have F13:Hid (Frm [] w1 w3):=Lib.hid (by rw[← hw3];exact F12.out.alloc _)
 have F23:Hid (Frm [] w2 w3):=Lib.hid (by rw[← hw3];exact(Frm.refl _ _).alloc _)
 have X3:Hid (w3.heap[w2.heap.size]?=some (.cells #[.pointer (some ⟨yb,0,none⟩),.slice (some ⟨ab,0,none⟩) n cab,.slice (some ⟨gb,0,none⟩) n cgb] 147 (0,0))):=Lib.hid (by rw[← hw3];exact heap_alloc_new _ _)
 have HE3:=Lib.hid hw3
 have hfl:(x.ways)[f]?=some (x.ways.getD f []):=some_getD (by rw[HOK.out.wl];exact HFL.out)
 obtain⟨rvf,q0,q1⟩:=HGE.out f _ hfl
 obtain⟨ar,cr,rfl⟩:=q1.shape
 rw[HOK.out.wr f HFL.out,HN.out,Nat.mul_one] at q0
 have CR:Hid (∀ V,Frm [] w V→Calls Tryz.prog 126 #[.slice ar n cr] V (RetV (Fr 1 130 (CoAt s.cls s.cap w) V (x.ways.getD f [])))):=Lib.hid fun V hV=>by
  have:=clRowAt_any s.cls s.cap w (.slice ar (x.ways.getD f []).length cr) (x.ways.getD f []) V (q1.imp fun _ _ _ h=>CoAt.frm h hV) (by rw[HOK.out.wr f HFL.out];omega)
  rwa [HOK.out.wr f HFL.out,HN.out] at this
 have HQ0:=Lib.hid q0
 have HS3:Hid (∀ V,Frm [] w3 V→V.cell? ⟨w2.heap.size,2,none⟩=some (.slice (some ⟨gb,0,none⟩) n cgb)∧V.cell? ⟨gb,f,none⟩=some (.slice ar n cr)):=Lib.hid fun V hV=>⟨hV.keep (cell_of X3.out 2),(F23.out.trans hV).keep HQ0.out⟩
 clear hw3 hfl q0 q1 CA CW HS
 go_upto_region 2 with fail
 rw[HE3.out]
 have HAE3:Hid (∀ (i:Nat) a,(actsP s x)[i]?=some a→AoAt w w3 ab (i * 2) a):=Lib.hid fun i a ha=>(HAE.out i a ha).frm F13.out
 have HGE3:Hid (∀ (i:Nat) R,x.ways[i]?=some R→WoAt s.cls s.cap w w3 gb (i * 1) R):=Lib.hid fun i R hR=>(HGE.out i R hR).frm F23.out
 have BA3:=Lib.hid (F13.out.at HBA.out (by simp))
 have BG3:=Lib.hid (F23.out.at HBG.out (by simp))
 have HL:Hid (w.heap.size≤w2.heap.size∧w.heap.size≤ab∧w.heap.size≤gb):=Lib.hid ⟨F2.out.size,HAB.out,Nat.le_trans F1.out.size HGB.out⟩
 obtain⟨xb,hxb⟩:∃ xb,w2.heap.size=xb:=⟨_,rfl⟩
 rw[hxb] at HS3 X3 HL ⊢
 clear hxb F12 HAE HGE HBA HBG HAB HGB HE3 F13 F23 HQ0 F1 F2
 obtain⟨y1,y2⟩:=HS3.out w3 (Frm.refl _ _)
 have hgl:=cell_lt y2
 go_cut [] (fun wc=>∃ rb,Ch2 w s x yb xb ab gb rb f wc)
 case first =>
  go_region_law (first
   | (go_simp;go_at_call 126;go_must (refine(CR.out _ F3.out.drew).mono ?_;rintro e w5 ⟨u,rfl,hr⟩;have F35:Hid (Frm [] w3 w5):=Lib.hid ((Frm.refl [] w3).drew.trans hr.frm);have hrr:=hr.row (by rw[HOK.out.wr f HFL.out,HN.out];omega);rw[HOK.out.wr f HFL.out,HN.out] at hrr;obtain⟨rb,crb,curr,rfl,hrb,hbr,hre⟩:=hrr;have HRB:=Lib.hid hrb;have HBR:=Lib.hid hbr;have HRE:=Lib.hid hre;have bg5:=F35.out.at BG3.out (by simp);obtain⟨cx5,cg5⟩:=HS3.out _ F35.out;have fg5:=free_of bg5 f;have BG5:=Lib.hid bg5;clear hrb hbr hre hr bg5)))
  all_goals
   go_wp2
   go_meet
   exact⟨rb,ch2_mk HN.out HOK.out HFL.out (F3.out.trans F35.out) F35.out HL.out.1 HL.out.2.1 HL.out.2.2 HRB.out X3.out BA3.out HAE3.out BG5.out BG3.out HGE3.out HBR.out HRE.out⟩
 case rest =>
  obtain⟨rb,h2⟩:=hcut
  have H2:=Lib.hid h2
  clear h2 y1 y2 hgl HS3 X3 HAE3 HGE3 BA3 BG3 HL CR
  have h3:=H2.out
  obtain⟨cax,cgx,hx3⟩:=h3.hx
  obtain⟨cr3,hr3⟩:=h3.rowf
  obtain⟨c0,G0,hc3,hch⟩:=h3.chs t HTL.out
  obtain⟨cg3,tg3⟩:=h3.tg
  obtain⟨ct3,tr3⟩:=h3.tr
  rw[HN.out] at hx3 hr3
  have FW:=Lib.hid h3.fr
  have HCH:=Lib.hid hch
  have HS4:Hid (∀ V,Frm [] wc V→V.cell? ⟨xb,2,none⟩=some (.slice (some ⟨gb,0,none⟩) n cgx)∧V.cell? ⟨gb,f,none⟩=some (.slice (some ⟨rb,0,none⟩) n cr3)∧V.cell? ⟨rb,t,none⟩=some (.pointer (some ⟨c0,0,none⟩))∧V.frozen? ⟨rb,t,none⟩=false):=
   Lib.hid fun V hV=>⟨hV.keep (cell_of hx3 2),hV.keep hr3,hV.keep hc3,free_of (hV.at tr3 (by simp)) t⟩
  have CC:=Lib.hid (copy_any (hch.frm h3.fr.drew (by simp)))
  have y1:=cell_of hx3 2
  have hl1:=cell_lt y1
  have hl2:=cell_lt hr3
  have hl3:=cell_lt hc3
  clear h3 hx3 tg3 tr3 hch
  go_upto_region 3 with fail
  go_cut [] (fun wd=>∃ cb F,ChS w s x yb xb ab gb rb cb f t F (x.way f t) wd)
  case first =>
   go_region_law (first
    | (go_simp;go_at_call 127;go_must (refine CC.out.mono ?_;rintro e w7 ⟨u,rfl,cb,F,rfl,hcn,hfr,hF⟩;have F7:Hid (Frm [] wc w7):=Lib.hid ((Frm.refl [] wc).drew.trans hfr);have HCN:=Lib.hid hcn;have HFF:=Lib.hid hF;obtain⟨a1,a2,a3,a4⟩:=HS4.out _ F7.out;clear hcn hfr hF)))
   all_goals
    go_wp2
    go_meet
    exact⟨cb,F,H2.out.fin F7.out HCN.out HFF.out HTL.out⟩
  case rest =>
   obtain⟨cb,F,hcs⟩:=hcut
   have HCS:=Lib.hid hcs
   obtain⟨cax',cgx',hx4⟩:=hcs.hx
   obtain⟨cr4,hr4⟩:=hcs.rowf
   rw[HN.out] at hx4 hr4
   have HS5:Hid (∀ V,Frm [] wc V→V.cell? ⟨xb,2,none⟩=some (.slice (some ⟨gb,0,none⟩) n cgx')∧V.cell? ⟨gb,f,none⟩=some (.slice (some ⟨rb,0,none⟩) n cr4)∧V.cell? ⟨rb,t,none⟩=some (.pointer (some ⟨cb,0,none⟩))):=
    Lib.hid fun V hV=>⟨hV.keep (cell_of hx4 2),hV.keep hr4,hV.keep hcs.cht⟩
   clear hcs hx4 hr4 y1 hl1 hl2 hl3 hc3 hr3 HS4 CC H2
   go_upto_region 4 with fail
   refine wp_region_cq (by kernel_rfl) (by kernel_rfl) ?_
   repeat (first
    | go_big_quiet_skip
    | (refine wpQuiet_want (by rfl) (fun K hK=>?_)
       first
        | (refine quiet_move _ (by rfl) (hK _ ?_))
        | (refine quiet_assign _ (by rfl) (hK _ ?_))
        | (apply Exists.intro
           refine⟨fun w' hC=>?_,hK _ ?_⟩
           ·(unfold Oper.quietAt
             obtain⟨z1,z2,z3⟩:=HS5.out w' hC
             clear hC
             go_simp
             try exact⟨rfl,rfl⟩
             try rfl))
       clear hK K
       try simp only[nrm,Act.eval,nrq]))
   refine wpQuiet_nil ?_
   intro w9 hf9
   go_wp2
   go_ret2
   exact⟨_,rfl,xb,ab,gb,rb,cb,F,rfl,HCS.out.frm hf9⟩
end Go.Proofs.YtohfkhjlnlahdaaGreat
