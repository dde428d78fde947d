/- Part of the proof. -/
import Derived.Test.YtohfkhjlnlahdaaGreatV14
import Derived.Test.YtohfkhjlnlahdaaGreatV19
import Derived.Lib.Builder
import Derived.Shelf.SortM.Plain
import Derived.Shelf.SortM.SortNone
import Derived.Sort.CutIn
import Derived.OrdersIn
import Derived.Test.YtohfkhjlnlahdaaGreatV24
set_option linter.all false
namespace Go.Proofs.YtohfkhjlnlahdaaGreat
open Go.RowKit Go.BigFrame
structure CtR (B:Nat) (lv:Value) (l:List (CtrD × Int)) (W:World):Prop where
 b:W.heap[B]?=some (.cells #[lv] 241 (0,0))
 a:Arr 3 CnAt W lv l
 t:∀ ao n c,lv=.slice ao n c→n≠0→∃ g cur,ao=some ⟨g,0,none⟩∧W.heap[g]?=some (.cells cur 246 (0,0))
set_option maxHeartbeats 2000000 in
set_option maxRecDepth 100000 in
theorem bCounters_any (bb:Nat) (l:List (CtrD × Int)) (w:World) (h:Bnk w bb l) (hl:l.length≤1000) :
  Calls Tryz.prog 102 #[.pointer (some ⟨bb,0,none⟩)] w (RetV fun v w'=>∃ B lv,v=.func (.func 153) #[] #[.pointer (some ⟨B,0,none⟩)]∧CtR B lv l w'∧Frm [] w w'∧w.heap.size≤B):=by
 have HF0:Hid (Frm [] w (w.alloc (.cells #[.slice none 0 0] 241))):=Lib.hid ((Frm.refl [] w).alloc _)
 have CN:=Lib.hid (bNone_any bb l _ (h.frm HF0.out))
 obtain⟨lv,h1,h2⟩:=h
 have CC:=Lib.hid (clCnt_any lv l _ (h2.frm (fun _ _ _ h=>h.frm HF0.out)) (by omega))
 have c1:=cell_of h1 1
 have hlt:=lt_of_block h1
 have b0:=heap_alloc_new w (.cells #[.slice none 0 0] 241)
 have B0:=Lib.hid b0
 clear h1 h2 hl b0
 go_enter Tryz.func102,Tryz.ntmps102
 go_wp2_with (first
  | (go_at_call 134;go_must (refine CN.out.mono ?_;rintro e w' ⟨rfl,rfl⟩))
  | (go_at_call 135;go_must (refine CC.out.mono ?_;rintro e w1 ⟨v,rfl,hr⟩;obtain⟨ao,cq,rfl⟩:=hr.arr.shape;have hb:=hr.frm.at B0.out (by simp);have cb:=cell_of hb 0;have fb:=free_of hb 0;have HB:=Lib.hid hb;have HR:=Lib.hid hr;clear hr hb)))
 go_ret
 have hb:=block_setCell HB.out 0 (.slice ao l.length cq)
 have hf:Frm [w.heap.size] w1 (w1.setCell ⟨w.heap.size,0,none⟩ (.slice ao l.length cq)):=(Frm.refl _ _).setCell _ (.inl (by simp)) _
 refine⟨_,rfl,_,_,rfl,⟨hb,?_,?_⟩,(HF0.out.trans HR.out.frm).then hf (by intro x hx;simp at hx;right;omega),Nat.le_refl _⟩
 ·rcases HR.out.own with rfl | ⟨news,ho⟩
  ·exact Arr.nil _ _ _
  by_cases hn:l.length=0
  ·rw[List.length_eq_zero_iff.1 hn];exact Arr.nil _ _ _
  ·obtain⟨g,cap,cur,e,hg,hc⟩:=own_block ho hn
   cases e
   obtain⟨ao,c,e,hx⟩:=HR.out.arr
   refine⟨ao,c,e,fun i x hi=>?_⟩
   obtain⟨b,o,e2,a0,a1,a2⟩:=hx i x hi
   rw[e2] at e
   cases e
   have hng:g∉[w.heap.size]:=by simp at hg ⊢;omega
   exact⟨g,0,e2,hf.cellAt a0 hng,hf.cellAt a1 hng,hf.cellAt a2 hng⟩
 ·intro ao n c e hn
  cases e
  rcases HR.out.own with rfl | ⟨news,ho⟩
  ·exact absurd rfl hn
  obtain⟨g,cap,cur,e,hg,hc⟩:=own_block ho hn
  cases e
  exact⟨g,cur,rfl,hf.at hc (by simp at hg ⊢;omega)⟩
theorem take_snoc' {α:Type} {L:List α} {k:Nat} {x:α} (h:L[k]?=some x):L.take (k + 1)=L.take k ++ [x]∧L=L.take k ++ x :: L.drop (k + 1):=by
 have hk:=lt_of_some h
 rw[List.getElem?_eq_getElem hk] at h
 cases h
 exact⟨List.take_succ_eq_append_getElem hk,by simp⟩
set_option maxHeartbeats 2000000 in
set_option maxRecDepth 100000 in
theorem bc_iter (B:Nat) (lv:Value) (L:List (CtrD × Int)) (hL:L.length≤1000000) :
  Iter Fence.wide 2 Tryz.prog 153 #[.pointer (some ⟨B,0,none⟩)] (fun e:CtrD × Int=>#[.string e.1.name,.int .i64 e.2]) (CtR B lv L) L:=by
 intro l J Jx sJ sJx hJR hY W h0
 have HJ:=Lib.hid sJ;have HJR:=Lib.hid hJR;have HY:=Lib.hid hY
 clear sJ sJx hJR hY
 have hr:=HJR.out _ _ h0
 have c0:=cell_of hr.b 0
 obtain⟨ao,cap,rfl⟩:=hr.a.shape
 have H0:=Lib.hid h0
 clear hr h0
 refine callsIn_of_wp Tryz.func153 rfl trivial ?_ rfl
 simp only[Tryz.ntmps153,List.size_toArray,List.length_cons,List.length_nil,Nat.reduceAdd,Nat.reduceSub,Array.replicate_succ,Array.replicate_zero,List.push_toArray,List.append_toArray,List.nil_append,List.cons_append]
 gi_wp2
 gi_loopw [7] (fun s wr=>∃ k:Nat,s=.int .i64 k∧k≤L.length∧J (L.take k) wr) (fun s _=>L.length - (intOf s).toNat)
 case atStart=>exact⟨0,rfl,Nat.zero_le _,H0.out⟩
 case round =>
  obtain⟨k,rfl,hk,hj⟩:=hrel
  have HJ1:=Lib.hid hj
  clear hj H0 c0
  by_cases hlt:k < L.length
  ·obtain⟨x,hx⟩:∃ x,L[k]?=some x:=⟨_,List.getElem?_eq_getElem hlt⟩
   have hr:=HJR.out _ _ HJ1.out
   obtain⟨b,o,c',e,g0,g1,g2⟩:=hr.a.at hx
   cases e
   have HX:=Lib.hid hx
   clear hr hx
   have hJ':J (L.take k) (wr.alloc (.cells #[.string x.1.name,.int .i64 x.1.lim,.int .i64 x.2] 246)):=HJ.out _ _ _ HJ1.out ((Frm.refl _ _).alloc _)
   obtain⟨fn,tmps,assign,body,hy,hR⟩:=HY.out (L.take k) x (L.drop (k + 1)) _ (take_snoc' HX.out).2 hJ'
   have HRR:=Lib.hid hR
   clear hJ' hR
   have hlt':(k:Int) < L.length:=by omega
   gi_wp2
   refine HRR.out.mono ?_
   rintro e W3 (⟨rfl,hJ3⟩ | ⟨rfl,hJx3⟩)
   ·have HJ3:=Lib.hid hJ3
    clear hJ3
    gi_wp2
    go_roundw
    case rel=>exact⟨k + 1,by go_num,hlt,by rw[(take_snoc' HX.out).1];exact HJ3.out⟩
    case measure=>simp[intOf];omega
   ·have HJ3:=Lib.hid hJx3
    clear hJx3
    gi_wp2
    refine bodyPost_ret (results_none rfl _ _ _) rfl ?_
    exact⟨⟨_,rfl⟩,.inr ⟨_,_,_,(take_snoc' HX.out).2,HJ3.out⟩⟩
  ·obtain rfl:k=L.length:=by omega
   have hge:¬ (L.length:Int) < L.length:=by omega
   gi_wp2
   go_end0
   exact⟨⟨_,rfl⟩,.inl (by have:=HJ1.out;rwa [List.take_length] at this)⟩
end Go.Proofs.YtohfkhjlnlahdaaGreat
namespace Go.Proofs.YtohfkhjlnlahdaaGreat
open Go.RowKit Go.BigFrame
section
variable {w w':World} {s:SesD} {yb fb sb:Nat} {x:PS}
theorem actsP_at {i:Nat} (hi:i < s.roles.length):(actsP s x)[i]?=some (((x.at i:Nat):Int),x.ctr s i):=by
 unfold actsP
 rw[List.getElem?_map,List.getElem?_range hi];rfl
theorem actsP_len:(actsP s x).length=s.roles.length:=by unfold actsP;simp
structure RlF (rb ro:Nat) (sv cv tv:Value) (r:RolD) (W:World):Prop where
 c0:W.cell? ⟨rb,ro,none⟩=some (.string r.name)
 c1:W.cell? ⟨rb,ro + 1,none⟩=some sv
 c2:W.cell? ⟨rb,ro + 2,none⟩=some cv
 c3:W.cell? ⟨rb,ro + 3,none⟩=some tv
 r3:Rl3 W sv cv tv r
theorem SyR.rol (h:SyR w s yb fb) {i:Nat} (hi:i < s.roles.length):∃ rb ro cap sv cv tv,w.cell? ⟨yb,1,none⟩=some (.slice (some ⟨rb,ro,none⟩) s.roles.length cap)∧RlF rb (ro + i * 4) sv cv tv (s.rol i) w:=by
 obtain⟨rv,h1,h2⟩:=h.out
 obtain⟨rb,ro,cap,rfl,sv,cv,tv,c0,c1,c2,c3,h3⟩:=h2.at (SesD.rol_some hi)
 exact⟨rb,ro,cap,sv,cv,tv,cell_of h1 1,c0,c1,c2,c3,h3⟩
structure AcF (ab ao bb:Nat) (p:Nat) (l:List (CtrD × Int)) (W:World):Prop where
 c0:W.cell? ⟨ab,ao,none⟩=some (.int .i64 (p:Int))
 c1:W.cell? ⟨ab,ao + 1,none⟩=some (.pointer (some ⟨bb,0,none⟩))
 bnk:Bnk W bb l
theorem AcF.frm {ab ao bb p:Nat} {l:List (CtrD × Int)} {W W':World} (h:AcF ab ao bb p l W) (hf:Frm [] W W'):AcF ab ao bb p l W':=⟨hf.keep h.c0,hf.keep h.c1,h.bnk.frm hf⟩
theorem StR.act (h:StR w s yb sb x) {i:Nat} (hi:i < s.roles.length):∃ ab ao cap bb,w.cell? ⟨sb,1,none⟩=some (.slice (some ⟨ab,ao,none⟩) s.roles.length cap)∧AcF ab (ao + i * 2) bb (x.at i) (x.ctr s i) w:=by
 obtain⟨av,wv,h1,h2,-⟩:=h.out
 obtain⟨ab,ao,cap,rfl,bb,c0,c1,h3⟩:=h2.at (actsP_at hi)
 rw[actsP_len] at h1
 exact⟨ab,ao,cap,bb,cell_of h1 1,c0,c1,h3⟩
end
set_option maxRecDepth 100000 in
theorem pNone_any (s:SesD) (yb fb:Nat) (w:World) (h:SyR w s yb fb):Calls Tryz.prog 60 #[.pointer (some ⟨yb,0,none⟩)] w (Ret (.bool false) (w=·)):=by
 obtain⟨rv,h1,-⟩:=h.out
 have c4:=cell_of h1 4
 clear h1 h
 go_enter Tryz.func60,Tryz.ntmps60
 go_wp2
 go_ret
 exact⟨rfl,rfl⟩
set_option maxRecDepth 100000 in
theorem pSnone_any (s:SesD) (yb sb:Nat) (x:PS) (w:World) (h:StR w s yb sb x):Calls Tryz.prog 101 #[.pointer (some ⟨sb,0,none⟩)] w (Ret (.bool false) (w=·)):=by
 obtain⟨av,wv,h1,-⟩:=h.out
 have c0:=cell_of h1 0
 clear h1 h
 go_enter Tryz.func101,Tryz.ntmps101
 go_wp2
 go_ret
 exact⟨rfl,rfl⟩
theorem sys_same (yb:Nat) (W:World):(binOp .neq 27 (.pointer (some ⟨yb,0,none⟩)) (.pointer (some ⟨yb,0,none⟩))).run Tryz.prog W=.ok (.bool false) W:=by
 have h:(Tryz.prog.info? 116).isSome=true:=by kernel_rfl
 obtain⟨j,hj⟩:=Option.isSome_iff_exists.1 h
 exact Lib.run_neq_ptr_same W _ Tryz.underlying27 hj
set_option maxRecDepth 100000 in
theorem pCheck_any (s:SesD) (yb fb sb:Nat) (x:PS) (w:World) (h:SyR w s yb fb) (hx:StR w s yb sb x):Calls Tryz.prog 61 #[.pointer (some ⟨yb,0,none⟩),.pointer (some ⟨sb,0,none⟩)] w (Ret (.int .i64 0) (w=·)):=by
 have C1:=Lib.hid (pNone_any s yb fb w h)
 have C2:=Lib.hid (pSnone_any s yb sb x w hx)
 have hq:=sys_same yb
 obtain⟨av,wv,h1,-⟩:=hx.out
 have c0:=cell_of h1 0
 clear h1 h hx
 go_enter Tryz.func61,Tryz.ntmps61
 go_wp2_with (first
  | (go_at_call 60;go_must (refine C1.out.mono ?_;rintro e w' ⟨rfl,rfl⟩))
  | (go_at_call 101;go_must (refine C2.out.mono ?_;rintro e w' ⟨rfl,rfl⟩)))
 go_ret
 exact⟨rfl,rfl⟩
set_option maxRecDepth 100000 in
theorem pFirst_any (s:SesD) (yb fb:Nat) (w:World) (h:SyR w s yb fb):Calls Tryz.prog 18 #[.pointer (some ⟨yb,0,none⟩)] w (Ret (.pointer (some ⟨fb,0,none⟩)) (w=·)):=by
 have C1:=Lib.hid (pNone_any s yb fb w h)
 obtain⟨rv,h1,-⟩:=h.out
 have c4:=cell_of h1 4
 clear h1 h
 go_enter Tryz.func18,Tryz.ntmps18
 go_wp2_with (first
  | (go_at_call 60;go_must (refine C1.out.mono ?_;rintro e w' ⟨rfl,rfl⟩)))
 go_ret
 exact⟨rfl,rfl⟩
set_option maxHeartbeats 4000000 in
set_option maxRecDepth 100000 in
theorem pPossible_any (s:SesD) (yb fb sb i k:Nat) (x:PS) (w:World) (h:SyR w s yb fb) (hx:StR w s yb sb x) (hi:i < s.roles.length) (hk:k < (s.rol i).steps.length) :
  Calls Tryz.prog 122 #[.pointer (some ⟨yb,0,none⟩),.pointer (some ⟨sb,0,none⟩),.int .i64 i,.int .i64 k] w (Ret (.bool (possB s x i k)) (Frm [] w)):=by
 have hso:=h.ok
 have hxo:=hx.ok
 have CA:∀ bb,Hid (∀ V,Bnk V bb (x.ctr s i)→Calls Tryz.prog 136 #[.pointer (some ⟨bb,0,none⟩),stpV ((s.rol i).stp k)] V (Ret (.tuple #[.bool (bankOk (s.rol i).ctrs (x.bank i) ((s.rol i).stp k)),.int .i64 0]) (Frm [] V))):=fun bb=>Lib.hid fun V hV=>by
  rw[← okB_bank hso hxo hi hk]
  exact bAllowed_any bb _ _ V hV (ctr_ok hso hxo hi) (ctr_has hso hxo hi hk)
 obtain⟨rb,ro,rc,sv,cv,tv,y1,hr⟩:=h.rol hi
 obtain⟨ab,ao,ac,bb,x1,ha⟩:=hx.act hi
 have hst:(s.rol i).sts[x.at i]?=some ((s.rol i).sts.getD (x.at i) dS):=some_getD (hxo.pb i hi)
 have htt:=RolD.stp_some hk
 have CA:=CA bb
 have HP:Hid (possB s x i k=(bankOk (s.rol i).ctrs (x.bank i) ((s.rol i).stp k) && decide (((s.rol i).sts.getD (x.at i) dS).name=((s.rol i).stp k).frm))):=Lib.hid rfl
 rw[HP.out]
 have hni:(i:Int) < (s.roles.length:Int):=by omega
 have hns:((x.at i:Nat):Int) < ((s.rol i).sts.length:Int):=by have:=hxo.pb i hi;omega
 have hnk:(k:Int) < ((s.rol i).steps.length:Int):=by omega
 obtain⟨b,hb⟩:∃ b,bankOk (s.rol i).ctrs (x.bank i) ((s.rol i).stp k)=b:=⟨_,rfl⟩
 rw[hb] at CA ⊢
 obtain⟨p,hp⟩:∃ p,x.at i=p:=⟨_,rfl⟩
 obtain⟨st,hst2⟩:∃ st,(s.rol i).sts.getD (x.at i) dS=st:=⟨_,rfl⟩
 obtain⟨t,ht2⟩:∃ t,(s.rol i).stp k=t:=⟨_,rfl⟩
 rw[hst2] at hst ⊢
 rw[ht2] at htt CA ⊢
 rw[hp] at ha hst hns
 obtain⟨r,hrr⟩:∃ r,s.rol i=r:=⟨_,rfl⟩
 obtain⟨l,hll⟩:∃ l,x.ctr s i=l:=⟨_,rfl⟩
 rw[hrr] at hr hst htt hns hnk
 rw[hll] at ha CA
 obtain⟨n,hn⟩:∃ n,s.roles.length=n:=⟨_,rfl⟩
 rw[hn] at y1 x1 hni
 obtain⟨aS,cs,rfl⟩:=hr.r3.sts.shape
 obtain⟨a2,c2,rfl⟩:=hr.r3.ctrs.shape
 obtain⟨at',ct,rfl⟩:=hr.r3.steps.shape
 obtain⟨b1,o1,rfl,g0,-,-⟩:=hr.r3.sts.get hst
 obtain⟨b2,o2,rfl,k0,k1,k2,k3,k4,k5,k6,k7,k8⟩:=hr.r3.steps.get htt
 obtain⟨ns,hns2⟩:∃ ns,r.sts.length=ns:=⟨_,rfl⟩
 obtain⟨nc,hnc2⟩:∃ nc,r.ctrs.length=nc:=⟨_,rfl⟩
 obtain⟨nt,hnt2⟩:∃ nt,r.steps.length=nt:=⟨_,rfl⟩
 obtain⟨d0,d1,d2,d3,-⟩:=hr
 obtain⟨e0,e1,e2⟩:=ha
 rw[hns2] at d1 hns
 rw[hnc2] at d2
 rw[hnt2] at d3 hnk
 have hl1:=cell_lt d0
 have hl2:=cell_lt e0
 have hl3:=cell_lt y1
 have hl4:=cell_lt x1
 have HB:=Lib.hid e2
 have HU:Hid (∀ V,Frm [] w V→V.cell? ⟨b1,o1 + p * 3,none⟩=some (.string st.name)∧SpAt V b2 (o2 + k * 9) t):=Lib.hid fun V hV=>⟨hV.keep g0,hV.keep k0,hV.keep k1,hV.keep k2,hV.keep k3,hV.keep k4,hV.keep k5,hV.keep k6,hV.keep k7,hV.keep k8⟩
 clear HP hp hst2 ht2 hrr hll hn hns2 hnc2 hnt2 hst htt g0 k0 k1 k2 k3 k4 k5 k6 k7 k8 h hx hso hxo hi hk hb e2
 go_enter Tryz.func122,Tryz.ntmps122
 go_upto_region 1 with fail
 go_cut [9,10] (fun s9 s10 wc=>∃ q1 q2,s9=.pointer (some ⟨q1,0,none⟩)∧s10=.pointer (some ⟨q2,0,none⟩)∧wc.heap[q1]?=some (.cells #[.string r.name,.slice (some ⟨b1,o1,none⟩) ns cs,.slice a2 nc c2,.slice (some ⟨b2,o2,none⟩) nt ct] 87 (0,0))∧wc.heap[q2]?=some (.cells #[.int .i64 p,.pointer (some ⟨bb,0,none⟩)] 143 (0,0))∧Frm [] w wc)
 case first =>
  go_region
  all_goals
   go_wp2
   go_meet
   refine⟨_,_,rfl,rfl,?_,?_,?_⟩
   ·first
     | exact heap_alloc_new _ _
     | exact alloc_at (heap_alloc_new _ _)
     | exact alloc_top (by simp)
   ·first
     | exact heap_alloc_new _ _
     | exact alloc_at (heap_alloc_new _ _)
     | exact alloc_top (by simp)
   ·first
     | exact(((Frm.refl [] w).alloc _).alloc _).drew
     | exact(((Frm.refl [] w).drew).alloc _).alloc _
     | exact((Frm.refl [] w).alloc _).drew.alloc _
     | exact((Frm.refl [] w).alloc _).alloc _
 case rest =>
  obtain⟨q1,q2,rfl,rfl,hq1,hq2,hf⟩:=hcut
  have HF:=Lib.hid hf
  have HW:Hid (∀ V,Frm [] wc V→V.heap[q1]?=some (.cells #[.string r.name,.slice (some ⟨b1,o1,none⟩) ns cs,.slice a2 nc c2,.slice (some ⟨b2,o2,none⟩) nt ct] 87 (0,0))∧V.heap[q2]?=some (.cells #[.int .i64 p,.pointer (some ⟨bb,0,none⟩)] 143 (0,0))):=Lib.hid fun V hV=>⟨hV.at hq1 (by simp),hV.at hq2 (by simp)⟩
  clear d0 d1 d2 d3 e0 e1 hl1 hl2 hl3 hl4 x1 y1 hq1 hq2 hf
  go_upto_region 2 with fail
  refine wp_region_cq (by kernel_rfl) (by kernel_rfl) ?_
  repeat (first
   | go_big_quiet_skip
   | (refine wpQuiet_want (by rfl) (fun K hK=>?_)
      first
       | (refine quiet_move _ (by rfl) (hK _ ?_))
       | (refine quiet_assign _ (by rfl) (hK _ ?_))
       | (refine cq_call (.tuple #[.bool b,.int .i64 0]) 136 #[.pointer (some ⟨bb,0,none⟩),stpV t] (fun w' hC=>?_) (fun w' hC=>Ret.cq (CA.out w' (HB.out.frm (HF.out.trans hC))) (fun w'' h=>hC.trans h)) (hK _ ?_)
          ·go_simp)
       | (apply Exists.intro
          refine⟨fun w' hC=>?_,hK _ ?_⟩
          ·(unfold Oper.quietAt
            obtain⟨z1,z2⟩:=HW.out w' hC;obtain⟨-,u0,u1,u2,u3,u4,u5,u6,u7,u8⟩:=HU.out w' (HF.out.trans hC);have v3:=cell_of z1 3;have v1:=cell_of z2 1;clear z1 z2
            clear hC
            go_simp
            try exact⟨rfl,rfl⟩
            try rfl))
      clear hK K
      try simp only[nrm,Act.eval,nrq]))
  refine wpQuiet_nil ?_
  intro w2 hf2
  have HF2:=Lib.hid hf2
  cases b with
  | false =>
    clear hf2
    go_upto_region 3 with fail
    refine wp_region_cq (by kernel_rfl) (by kernel_rfl) ?_
    repeat (first
     | go_big_quiet_skip
     | (refine wpQuiet_want (by rfl) (fun K hK=>?_)
        first
         | (refine quiet_move _ (by rfl) (hK _ ?_))
         | (refine quiet_assign _ (by rfl) (hK _ ?_))
         | (apply Exists.intro
            refine⟨fun w' hC=>?_,hK _ ?_⟩
            ·(unfold Oper.quietAt
              obtain⟨z1,z2⟩:=HW.out w' (HF2.out.trans hC)
              clear hC
              go_simp
              try exact⟨rfl,rfl⟩
              try rfl))
        clear hK K
        try simp only[nrm,Act.eval,nrq]))
    refine wpQuiet_nil ?_
    intro w3 hf3
    go_wp2
    go_ret
    exact⟨rfl,(HF.out.trans HF2.out).trans hf3⟩
  | true =>
    clear hf2
    have hsb:(st.name.toList == t.frm.toList)=decide (st.name=t.frm):=str_beq _ _
    go_upto_region 3 with fail
    refine wp_region_cq (by kernel_rfl) (by kernel_rfl) ?_
    repeat (first
     | go_big_quiet_skip
     | (refine wpQuiet_want (by rfl) (fun K hK=>?_)
        first
         | (refine quiet_move _ (by rfl) (hK _ ?_))
         | (refine quiet_assign _ (by rfl) (hK _ ?_))
         | (apply Exists.intro
            refine⟨fun w' hC=>?_,hK _ ?_⟩
            ·(unfold Oper.quietAt
              obtain⟨z1,z2⟩:=HW.out w' (HF2.out.trans hC);obtain⟨v0,u0,-⟩:=HU.out w' ((HF.out.trans HF2.out).trans hC);have v3:=cell_of z1 3;have v1:=cell_of z1 1;have v5:=cell_of z2 0;clear z1 z2
              clear hC
              go_simp
              try exact⟨rfl,rfl⟩
              try rfl))
        clear hK K
        try simp only[nrm,Act.eval,nrq]))
    refine wpQuiet_nil ?_
    intro w3 hf3
    go_wp2
    go_ret
    exact⟨by simp,(HF.out.trans HF2.out).trans hf3⟩
end Go.Proofs.YtohfkhjlnlahdaaGreat
namespace Go.Proofs.YtohfkhjlnlahdaaGreat
open Go.RowKit Go.BigFrame
structure ChS (w:World) (s:SesD) (x:PS) (yb xb ab gb rb cb f t:Nat) (F:List Nat) (L:List ByteArray) (W:World):Prop where
 fr:Frm [] w W
 new:w.heap.size≤xb∧w.heap.size≤ab∧w.heap.size≤gb∧w.heap.size≤rb∧∀ k∈F,w.heap.size≤k
 hx:∃ ca cg,W.heap[xb]?=some (.cells #[.pointer (some ⟨yb,0,none⟩),.slice (some ⟨ab,0,none⟩) s.roles.length ca,.slice (some ⟨gb,0,none⟩) s.roles.length cg] 147 (0,0))
 ha:∃ cur,W.heap[ab]?=some (.cells cur 143 (0,0))
 act:∀ i,i < s.roles.length→∃ bb,W.cell? ⟨ab,i * 2,none⟩=some (.int .i64 ((x.at i:Nat):Int))∧W.cell? ⟨ab,i * 2 + 1,none⟩=some (.pointer (some ⟨bb,0,none⟩))∧Bnk w bb (x.ctr s i)
 row:∀ i,i < s.roles.length→i≠f→∃ rv,W.cell? ⟨gb,i,none⟩=some rv∧RowV s.cls s.cap w rv (x.ways.getD i [])
 rowf:∃ cr,W.cell? ⟨gb,f,none⟩=some (.slice (some ⟨rb,0,none⟩) s.roles.length cr)
 chs:∀ k,k < s.roles.length→k≠t→∃ c G,W.cell? ⟨rb,k,none⟩=some (.pointer (some ⟨c,0,none⟩))∧Chn w c s.cls s.cap (x.way f k) G
 cht:W.cell? ⟨rb,t,none⟩=some (.pointer (some ⟨cb,0,none⟩))
 chn:Chn W cb s.cls s.cap L F
 types:(∃ c fr,W.heap[gb]?=some (.cells c 191 fr))∧∃ c fr,W.heap[rb]?=some (.cells c 130 fr)
structure Ch2 (w:World) (s:SesD) (x:PS) (yb xb ab gb rb f:Nat) (W:World):Prop where
 fr:Frm [] w W
 new:w.heap.size≤xb∧w.heap.size≤ab∧w.heap.size≤gb∧w.heap.size≤rb
 hx:∃ ca cg,W.heap[xb]?=some (.cells #[.pointer (some ⟨yb,0,none⟩),.slice (some ⟨ab,0,none⟩) s.roles.length ca,.slice (some ⟨gb,0,none⟩) s.roles.length cg] 147 (0,0))
 ha:∃ cur,W.heap[ab]?=some (.cells cur 143 (0,0))
 act:∀ i,i < s.roles.length→∃ bb,W.cell? ⟨ab,i * 2,none⟩=some (.int .i64 ((x.at i:Nat):Int))∧W.cell? ⟨ab,i * 2 + 1,none⟩=some (.pointer (some ⟨bb,0,none⟩))∧Bnk w bb (x.ctr s i)
 row:∀ i,i < s.roles.length→i≠f→∃ rv,W.cell? ⟨gb,i,none⟩=some rv∧RowV s.cls s.cap w rv (x.ways.getD i [])
 rowf:∃ cr,W.cell? ⟨gb,f,none⟩=some (.slice (some ⟨rb,0,none⟩) s.roles.length cr)
 chs:∀ k,k < s.roles.length→∃ c G,W.cell? ⟨rb,k,none⟩=some (.pointer (some ⟨c,0,none⟩))∧Chn w c s.cls s.cap (x.way f k) G
 tg:∃ c,W.heap[gb]?=some (.cells c 191 (0,0))
 tr:∃ c,W.heap[rb]?=some (.cells c 130 (0,0))
section
variable {w W W':World} {s:SesD} {x:PS} {yb xb ab gb rb cb f t:Nat} {F F':List Nat} {L L':List ByteArray}
theorem Chn.types (h:Chn W cb s.cls s.cap L F) {k:Nat} (hk:k∈F):∃ c e,W.heap[k]?=some (.cells c e (0,0))∧(e=233∨e=9):=by
 obtain⟨sv,h1,h2,-,rfl⟩:=h
 simp only[List.mem_cons,Option.mem_toList] at hk
 rcases hk with rfl | hk
 ·exact⟨_,_,h1,.inl rfl⟩
 ·obtain⟨c,hc⟩:=ownBlock_type h2 hk
  exact⟨c,9,hc,.inr rfl⟩
theorem Ch2.frm (h:Ch2 w s x yb xb ab gb rb f W) (hf:Frm [] W W'):Ch2 w s x yb xb ab gb rb f W':=by
 obtain⟨ca,cg,hx⟩:=h.hx
 obtain⟨cur,ha⟩:=h.ha
 obtain⟨c1,t1⟩:=h.tg
 obtain⟨c2,t2⟩:=h.tr
 obtain⟨cr,hr⟩:=h.rowf
 refine⟨h.fr.trans hf,h.new,⟨ca,cg,hf.at hx (by simp)⟩,⟨cur,hf.at ha (by simp)⟩,fun i hi=>?_,fun i hi hn=>?_,⟨cr,hf.keep hr⟩,fun k hk=>?_,⟨c1,hf.at t1 (by simp)⟩,c2,hf.at t2 (by simp)⟩
 ·obtain⟨bb,a1,a2,a3⟩:=h.act i hi
  exact⟨bb,hf.keep a1,hf.keep a2,a3⟩
 ·obtain⟨rv,a1,a2⟩:=h.row i hi hn
  exact⟨rv,hf.keep a1,a2⟩
 ·obtain⟨c,G,a1,a2⟩:=h.chs k hk
  exact⟨c,G,hf.keep a1,a2⟩
theorem ch2_mk {w3 w5:World} {cab cgb crb n:Nat} {curg curr:Array Value} (hn:s.roles.length=n) (hok:PSok s x) (hfl:f < s.roles.length) (fr:Frm [] w w5) (f35:Frm [] w3 w5) (n1:w.heap.size≤xb) (n2:w.heap.size≤ab) (n3:w.heap.size≤gb) (n4:w3.heap.size≤rb)
  (hx:w3.heap[xb]?=some (.cells #[.pointer (some ⟨yb,0,none⟩),.slice (some ⟨ab,0,none⟩) n cab,.slice (some ⟨gb,0,none⟩) n cgb] 147 (0,0))) {cura:Array Value} (ha:w3.heap[ab]?=some (.cells cura 143 (0,0))) (hae:∀ (i:Nat) a,(actsP s x)[i]?=some a→AoAt w w3 ab (i * 2) a)
  (hg:w5.heap[gb]?=some (.cells curg 191 (0,0))) (hg3:w3.heap[gb]?=some (.cells curg 191 (0,0))) (hge:∀ (i:Nat) R,x.ways[i]?=some R→WoAt s.cls s.cap w w3 gb (i * 1) R) (hr:w5.heap[rb]?=some (.cells curr 130 (0,0))) (hre:∀ (k:Nat) M,(x.ways.getD f [])[k]?=some M→CoAt s.cls s.cap w w5 rb (k * 1) M) :
  Ch2 w s x yb xb ab gb rb f (w5.setCell ⟨gb,f,none⟩ (.slice (some ⟨rb,0,none⟩) n crb)):=by
 have hF:Frm [gb] w5 (w5.setCell ⟨gb,f,none⟩ (.slice (some ⟨rb,0,none⟩) n crb)):=(Frm.refl _ _).setCell _ (.inl (by simp)) _
 have hb:=block_setCell hg f (.slice (some ⟨rb,0,none⟩) n crb)
 have x5:=f35.at hx (by simp)
 have a5:=f35.at ha (by simp)
 have nx:xb∉[gb]:=fun e=>by simp at e;subst e;rw[x5] at hg;cases hg
 have na:ab∉[gb]:=fun e=>by simp at e;subst e;rw[a5] at hg;cases hg
 have nr:rb∉[gb]:=fun e=>by simp at e;subst e;rw[hr] at hg;cases hg
 have hgf:f < curg.size:=by
  obtain⟨v,h1,-⟩:=hge f _ (some_getD (d:=[]) (by rw[hok.wl];exact hfl))
  rw[Nat.mul_one,cell_of hg3] at h1
  exact(Array.getElem?_eq_some_iff.1 h1).1
 have hs5:=f35.size
 have hs0:=lt_of_block hg3
 refine⟨fr.then hF (by intro y hy;simp at hy;subst hy;exact .inr n3),⟨n1,n2,n3,by omega⟩,⟨cab,cgb,by rw[hn];exact hF.at x5 nx⟩,⟨cura,hF.at a5 na⟩,fun i hi=>?_,fun i hi hne=>?_,⟨crb,?_⟩,fun k hk=>?_,⟨_,hb⟩,curr,hF.at hr nr⟩
 ·obtain⟨bb,b1,b2,b3⟩:=hae i _ (actsP_at hi)
  exact⟨bb,hF.cellAt (f35.keep b1) na,hF.cellAt (f35.keep b2) na,b3⟩
 ·obtain⟨v,b1,b2⟩:=hge i _ (some_getD (d:=[]) (by rw[hok.wl];exact hi))
  rw[Nat.mul_one] at b1
  refine⟨v,?_,b2⟩
  rw[cell_of hb,Array.getElem?_setIfInBounds_ne (by omega),← cell_of hg3]
  exact b1
 ·rw[cell_of hb,Array.getElem?_setIfInBounds_self_of_lt hgf,hn]
 ·obtain⟨c,G,b1,b2⟩:=hre k _ (some_getD (d:=[]) (by rw[hok.wr f hfl];exact hk))
  rw[Nat.mul_one] at b1
  exact⟨c,G,hF.cellAt b1 nr,b2⟩
theorem Ch2.fin {w7:World} (h:Ch2 w s x yb xb ab gb rb f W) (hf:Frm [] W w7) (hc:Chn w7 cb s.cls s.cap L F) (hF:∀ k∈F,W.heap.size≤k) (ht:t < s.roles.length):ChS w s x yb xb ab gb rb cb f t F L (w7.setCell ⟨rb,t,none⟩ (.pointer (some ⟨cb,0,none⟩))):=by
 have h7:=h.frm hf
 obtain⟨ca,cg,hx⟩:=h7.hx
 obtain⟨cur,ha⟩:=h7.ha
 obtain⟨c1,t1⟩:=h7.tg
 obtain⟨c2,t2⟩:=h7.tr
 obtain⟨cr,hr⟩:=h7.rowf
 have hS:Frm [rb] w7 (w7.setCell ⟨rb,t,none⟩ (.pointer (some ⟨cb,0,none⟩))):=(Frm.refl _ _).setCell _ (.inl (by simp)) _
 have hb:=block_setCell t2 t (.pointer (some ⟨cb,0,none⟩))
 have nx:xb∉[rb]:=fun e=>by simp at e;subst e;rw[hx] at t2;cases t2
 have na:ab∉[rb]:=fun e=>by simp at e;subst e;rw[ha] at t2;cases t2
 have ng:gb∉[rb]:=fun e=>by simp at e;subst e;rw[t1] at t2;cases t2
 have nF:∀ k∈F,k∉[rb]:=fun k hk e=>by
  obtain⟨c,e',a1,a2⟩:=hc.types hk
  simp at e;subst e
  rw[t2] at a1;cases a1
  revert a2;decide
 have hsz:t < c2.size:=by
  obtain⟨c,G,a1,-⟩:=h7.chs t ht
  rw[cell_of t2] at a1
  exact(Array.getElem?_eq_some_iff.1 a1).1
 have hs:=h.fr.size
 refine⟨h7.fr.then hS (by intro y hy;simp at hy;subst hy;exact .inr h.new.2.2.2),⟨h.new.1,h.new.2.1,h.new.2.2.1,h.new.2.2.2,fun k hk=>by have:=hF k hk;omega⟩,⟨ca,cg,hS.at hx nx⟩,⟨cur,hS.at ha na⟩,fun i hi=>?_,fun i hi hn=>?_,⟨cr,hS.cellAt hr ng⟩,fun k hk hn=>?_,?_,hc.frm hS nF,⟨c1,(0,0),hS.at t1 ng⟩,_,(0,0),hb⟩
 ·obtain⟨bb,a1,a2,a3⟩:=h7.act i hi
  exact⟨bb,hS.cellAt a1 na,hS.cellAt a2 na,a3⟩
 ·obtain⟨rv,a1,a2⟩:=h7.row i hi hn
  exact⟨rv,hS.cellAt a1 ng,a2⟩
 ·obtain⟨c,G,a1,a2⟩:=h7.chs k hk
  refine⟨c,G,?_,a2⟩
  rw[cell_of hb,Array.getElem?_setIfInBounds_ne (by omega),← cell_of t2]
  exact a1
 ·rw[cell_of hb,Array.getElem?_setIfInBounds_self_of_lt hsz]
theorem ChS.frm (h:ChS w s x yb xb ab gb rb cb f t F L W) (hf:Frm [] W W'):ChS w s x yb xb ab gb rb cb f t F L W':=by
 obtain⟨ca,cg,hx⟩:=h.hx
 obtain⟨cur,ha⟩:=h.ha
 obtain⟨⟨c1,f1,t1⟩,c2,f2,t2⟩:=h.types
 obtain⟨cr,hr⟩:=h.rowf
 refine⟨h.fr.trans hf,h.new,⟨ca,cg,hf.at hx (by simp)⟩,⟨cur,hf.at ha (by simp)⟩,fun i hi=>?_,fun i hi hn=>?_,⟨cr,hf.keep hr⟩,fun k hk hn=>?_,hf.keep h.cht,h.chn.frm hf (by simp),⟨c1,f1,hf.at t1 (by simp)⟩,c2,f2,hf.at t2 (by simp)⟩
 ·obtain⟨bb,a1,a2,a3⟩:=h.act i hi
  exact⟨bb,hf.keep a1,hf.keep a2,a3⟩
 ·obtain⟨rv,a1,a2⟩:=h.row i hi hn
  exact⟨rv,hf.keep a1,a2⟩
 ·obtain⟨c,G,a1,a2⟩:=h.chs k hk hn
  exact⟨c,G,hf.keep a1,a2⟩
theorem ChS.chan (h:ChS w s x yb xb ab gb rb cb f t F L W) (hc:ChnTo W cb s.cls s.cap L' F W'):∃ F',ChS w s x yb xb ab gb rb cb f t F' L' W':=by
 obtain⟨F',k1,k2,k3⟩:=hc
 obtain⟨ca,cg,hx⟩:=h.hx
 obtain⟨cur,ha⟩:=h.ha
 obtain⟨⟨c1,f1,t1⟩,c2,f2,t2⟩:=h.types
 obtain⟨cr,hr⟩:=h.rowf
 have nx:xb∉F:=fun hk=>by obtain⟨c,e,a1,a2⟩:=h.chn.types hk;rw[hx] at a1;cases a1;revert a2;decide
 have na:ab∉F:=fun hk=>by obtain⟨c,e,a1,a2⟩:=h.chn.types hk;rw[ha] at a1;cases a1;revert a2;decide
 have ng:gb∉F:=fun hk=>by obtain⟨c,e,a1,a2⟩:=h.chn.types hk;rw[t1] at a1;cases a1;revert a2;decide
 have nr:rb∉F:=fun hk=>by obtain⟨c,e,a1,a2⟩:=h.chn.types hk;rw[t2] at a1;cases a1;revert a2;decide
 have hs:=h.fr.size
 refine⟨F',h.fr.then k2 (fun k hk=>.inr (h.new.2.2.2.2 k hk)),⟨h.new.1,h.new.2.1,h.new.2.2.1,h.new.2.2.2.1,fun k hk=>?_⟩,⟨ca,cg,k2.at hx nx⟩,⟨cur,k2.at ha na⟩,fun i hi=>?_,fun i hi hn=>?_,⟨cr,k2.cellAt hr ng⟩,fun k hk hn=>?_,k2.cellAt h.cht nr,k1,⟨c1,f1,k2.at t1 ng⟩,c2,f2,k2.at t2 nr⟩
 ·rcases k3 k hk with a | a
  ·exact h.new.2.2.2.2 k a
  ·omega
 ·obtain⟨bb,a1,a2,a3⟩:=h.act i hi
  exact⟨bb,k2.cellAt a1 na,k2.cellAt a2 na,a3⟩
 ·obtain⟨rv,a1,a2⟩:=h.row i hi hn
  exact⟨rv,k2.cellAt a1 ng,a2⟩
 ·obtain⟨c,G,a1,a2⟩:=h.chs k hk hn
  exact⟨c,G,k2.cellAt a1 nr,a2⟩
theorem ChS.ways (h:ChS w s x yb xb ab gb rb cb f t F L W) (hx:PSok s x) (hf:f < s.roles.length) (ht:t < s.roles.length):∃ cg ca,W.heap[xb]?=some (.cells #[.pointer (some ⟨yb,0,none⟩),.slice (some ⟨ab,0,none⟩) s.roles.length ca,.slice (some ⟨gb,0,none⟩) s.roles.length cg] 147 (0,0)) ∧
  Arr 1 (RwAt s.cls s.cap) W (.slice (some ⟨gb,0,none⟩) s.roles.length cg) (setWay x.ways f t L):=by
 obtain⟨ca,cg,hxb⟩:=h.hx
 obtain⟨cr,hr⟩:=h.rowf
 refine⟨cg,ca,hxb,some ⟨gb,0,none⟩,cg,by rw[setWay_length,hx.wl],fun i R hR=>⟨gb,0,rfl,?_⟩⟩
 have hi:=lt_of_some hR
 rw[setWay_length,hx.wl] at hi
 rw[Nat.zero_add,Nat.mul_one]
 unfold setWay at hR
 rw[List.getElem?_set] at hR
 by_cases e:f=i
 ·subst e
  rw[if_pos rfl,if_pos (by rw[hx.wl];exact hi)] at hR
  cases hR
  refine⟨_,hr,some ⟨rb,0,none⟩,cr,by rw[List.length_set,hx.wr f hf],fun k M hM=>⟨rb,0,rfl,?_⟩⟩
  have hk:=lt_of_some hM
  rw[List.length_set,hx.wr f hf] at hk
  rw[Nat.zero_add,Nat.mul_one]
  rw[List.getElem?_set] at hM
  by_cases e2:t=k
  ·subst e2
   rw[if_pos rfl,if_pos (by rw[hx.wr f hf];exact hk)] at hM
   cases hM
   exact⟨cb,F,h.cht,h.chn⟩
  ·rw[if_neg e2] at hM
   obtain⟨c,G,a1,a2⟩:=h.chs k hk (fun e=>e2 e.symm)
   have:x.way f k=M:=by unfold PS.way wayOf;exact getD_some hM
   rw[this] at a2
   exact⟨c,G,a1,a2.frm h.fr (by simp)⟩
 ·rw[if_neg e] at hR
  obtain⟨rv,a1,a2⟩:=h.row i hi (fun e'=>e e'.symm)
  rw[getD_some hR] at a2
  exact⟨rv,a1,a2.frm h.fr⟩
theorem ChS.str (h:ChS w s x yb xb ab gb rb cb f t F L W) (hx:PSok s x) (hf:f < s.roles.length) (ht:t < s.roles.length) (ho:PSok s { x with ways:=setWay x.ways f t L }):StR W s yb xb { x with ways:=setWay x.ways f t L }:=by
 obtain⟨cg,ca,h1,h2⟩:=h.ways hx hf ht
 refine⟨⟨_,_,h1,⟨some ⟨ab,0,none⟩,ca,by rw[actsP_len],fun i a ha=>⟨ab,0,rfl,?_⟩⟩,h2⟩,ho⟩
 have hi:i < s.roles.length:=by have:=lt_of_some ha;rwa [actsP_len] at this
 rw[actsP_at hi] at ha
 cases ha
 obtain⟨bb,a1,a2,a3⟩:=h.act i hi
 rw[Nat.zero_add]
 exact⟨bb,a1,a2,a3.frm h.fr⟩
end
end Go.Proofs.YtohfkhjlnlahdaaGreat
namespace Go.Proofs.YtohfkhjlnlahdaaGreat
open Go.RowKit Go.BigFrame
section
variable {w w':World} {s:SesD} {yb fb sb:Nat} {x:PS}
structure WyF (gb go' rb ro cb:Nat) (cls cap:Int) (L:List ByteArray) (W:World) (n m c:Nat):Prop where
 c0:W.cell? ⟨gb,go',none⟩=some (.slice (some ⟨rb,ro,none⟩) m c)
 c1:W.cell? ⟨rb,ro + n,none⟩=some (.pointer (some ⟨cb,0,none⟩))
 chn:∃ F,Chn W cb cls cap L F
theorem StR.row (h:StR w s yb sb x) {i:Nat} (hi:i < s.roles.length):∃ gb go' cap rv,w.cell? ⟨sb,2,none⟩=some (.slice (some ⟨gb,go',none⟩) s.roles.length cap)∧w.cell? ⟨gb,go' + i,none⟩=some rv∧RowV s.cls s.cap w rv (x.ways.getD i []):=by
 obtain⟨av,wv,h1,-,h3⟩:=h.out
 obtain⟨gb,go',cap,rfl,rv,c0,h4⟩:=h3.at (some_getD (d:=[]) (by rw[h.ok.wl];exact hi))
 rw[h.ok.wl] at h1
 rw[Nat.mul_one] at c0
 exact⟨gb,go',cap,rv,cell_of h1 2,c0,h4⟩
theorem StR.way (h:StR w s yb sb x) {i k:Nat} (hi:i < s.roles.length) (hk:k < s.roles.length):∃ gb go' cap rb ro c cb,w.cell? ⟨sb,2,none⟩=some (.slice (some ⟨gb,go',none⟩) s.roles.length cap)∧WyF gb (go' + i) rb ro cb s.cls s.cap (x.way i k) w k s.roles.length c:=by
 obtain⟨gb,go',cap,rv,h1,h2,h3⟩:=h.row hi
 obtain⟨rb,ro,c,rfl,cb,F,c1,hc⟩:=h3.at (some_getD (d:=[]) (by rw[h.ok.wr i hi];exact hk))
 rw[h.ok.wr i hi] at h2
 rw[Nat.mul_one] at c1
 exact⟨gb,go',cap,rb,ro,c,cb,h1,h2,c1,F,hc⟩
end
structure MvAt (w:World) (b o:Nat) (m:Mv):Prop where
 c0:w.cell? ⟨b,o,none⟩=some (.int .i64 m.kind)
 c1:w.cell? ⟨b,o + 1,none⟩=some (.int .i64 m.role)
 c2:w.cell? ⟨b,o + 2,none⟩=some (.int .i64 m.step)
 c3:w.cell? ⟨b,o + 3,none⟩=some (.int .i64 m.place)
theorem MvAt.frm {w w':World} {b o:Nat} {m:Mv} (h:MvAt w b o m) (hf:Frm [] w w'):MvAt w' b o m:=⟨hf.keep h.c0,hf.keep h.c1,hf.keep h.c2,hf.keep h.c3⟩
abbrev mvV (m:Mv):Value:=.agg #[.int .i64 m.kind,.int .i64 m.role,.int .i64 m.step,.int .i64 m.place]
def numL {α:Type} (L:List α):List (Nat × α):=L.mapIdx fun i m=>(i,m)
theorem numL_at {α:Type} {L:List α} {k:Nat}:(numL L)[k]?=(L[k]?).map fun m=>(k,m):=by unfold numL;rw[List.getElem?_mapIdx]
theorem numL_length {α:Type} {L:List α}:(numL L).length=L.length:=by unfold numL;rw[List.length_mapIdx]
structure MvI (B:Nat) (v:Value) (L:List Mv) (W:World):Prop where
 b:W.heap[B]?=some (.cells #[v] 31 (0,0))
 a:Arr 4 MvAt W v L
theorem MvI.frm {B:Nat} {v:Value} {L:List Mv} {W W':World} (h:MvI B v L W) (hf:Frm [] W W'):MvI B v L W':=⟨hf.at h.b (by simp),h.a.frm fun _ _ _ h=>h.frm hf⟩
set_option maxRecDepth 100000 in
theorem alMove_any (v:Value) (L:List Mv) (w:World) (h:Arr 4 MvAt w v L):Calls Tryz.prog 75 #[v] w (RetV fun u w'=>u=.func (.func 146) #[] #[.pointer (some ⟨w.heap.size,0,none⟩)]∧MvI w.heap.size v L w'∧Frm [] w w'):=by
 have H:=Lib.hid h
 obtain⟨ao,cap,rfl⟩:=h.shape
 clear h
 go_enter Tryz.func75,Tryz.ntmps75
 go_wp2
 go_ret
 exact⟨_,rfl,rfl,⟨heap_alloc_new _ _,H.out.frm fun _ _ _ h=>h.frm ((Frm.refl [] w).alloc _)⟩,(Frm.refl [] w).alloc _⟩
set_option maxHeartbeats 2000000 in
set_option maxRecDepth 100000 in
theorem mv_iter (B:Nat) (v:Value) (L:List Mv) (hL:L.length≤1000000) :
  Iter Fence.wide 2 Tryz.prog 146 #[.pointer (some ⟨B,0,none⟩)] (fun e:Nat × Mv=>#[.int .i64 e.1,mvV e.2]) (MvI B v L) (numL L):=by
 intro l J Jx sJ sJx hJR hY W h0
 have HJ:=Lib.hid sJ;have HJR:=Lib.hid hJR;have HY:=Lib.hid hY
 clear sJ sJx hJR hY
 have hr:=HJR.out _ _ h0
 have c0:=cell_of hr.b 0
 obtain⟨ao,cap,rfl⟩:=hr.a.shape
 have H0:=Lib.hid h0
 have HNL:Hid ((numL L).length=L.length):=Lib.hid numL_length
 clear hr h0
 refine callsIn_of_wp Tryz.func146 rfl trivial ?_ rfl
 simp only[Tryz.ntmps146,List.size_toArray,List.length_cons,List.length_nil,Nat.reduceAdd,Nat.reduceSub,Array.replicate_succ,Array.replicate_zero,List.push_toArray,List.append_toArray,List.nil_append,List.cons_append]
 gi_wp2
 gi_loopw [7] (fun s wr=>∃ k:Nat,s=.int .i64 k∧k≤L.length∧J ((numL L).take k) wr) (fun s _=>L.length - (intOf s).toNat)
 case atStart=>exact⟨0,rfl,Nat.zero_le _,H0.out⟩
 case round =>
  obtain⟨k,rfl,hk,hj⟩:=hrel
  have HJ1:=Lib.hid hj
  clear hj H0 c0
  by_cases hlt:k < L.length
  ·obtain⟨x,hx⟩:∃ x,L[k]?=some x:=⟨_,List.getElem?_eq_getElem hlt⟩
   have hr:=HJR.out _ _ HJ1.out
   obtain⟨b,o,c',e,g0,g1,g2,g3⟩:=hr.a.at hx
   cases e
   have hnx:(numL L)[k]?=some (k,x):=by rw[numL_at,hx];rfl
   have HX:=Lib.hid hnx
   clear hr hx hnx
   have hJ':J ((numL L).take k) (wr.alloc (.cells #[.int .i64 x.kind,.int .i64 x.role,.int .i64 x.step,.int .i64 x.place] 44)):=HJ.out _ _ _ HJ1.out ((Frm.refl _ _).alloc _)
   obtain⟨fn,tmps,assign,body,hy,hR⟩:=HY.out ((numL L).take k) (k,x) ((numL L).drop (k + 1)) _ (take_snoc' HX.out).2 hJ'
   have HRR:=Lib.hid hR
   clear hJ' hR
   have hlt':(k:Int) < L.length:=by omega
   gi_wp2
   refine HRR.out.mono ?_
   rintro e W3 (⟨rfl,hJ3⟩ | ⟨rfl,hJx3⟩)
   ·have HJ3:=Lib.hid hJ3
    clear hJ3
    gi_wp2
    go_roundw
    case rel=>exact⟨k + 1,by go_num,hlt,by rw[(take_snoc' HX.out).1];exact HJ3.out⟩
    case measure=>simp[intOf];omega
   ·have HJ3:=Lib.hid hJx3
    clear hJx3
    gi_wp2
    refine bodyPost_ret (results_none rfl _ _ _) rfl ?_
    exact⟨⟨_,rfl⟩,.inr ⟨_,_,_,(take_snoc' HX.out).2,HJ3.out⟩⟩
  ·obtain rfl:k=L.length:=by omega
   have hge:¬ (L.length:Int) < L.length:=by omega
   gi_wp2
   go_end0
   exact⟨⟨_,rfl⟩,.inl (by have:=HJ1.out;rwa [← HNL.out,List.take_length] at this)⟩
set_option maxRecDepth 100000 in
theorem pFits_any (s:SesD) (yb sb:Nat) (x:PS) (i:Int) (w:World) (h:StR w s yb sb x):Calls Tryz.prog 187 #[.pointer (some ⟨sb,0,none⟩),.int .i64 i] w (Ret (.bool (decide (0≤i) && decide (i < (s.roles.length:Int)))) (w=·)):=by
 obtain⟨av,wv,h1,h2,-⟩:=h.out
 obtain⟨ao,cap,rfl⟩:=h2.shape
 rw[actsP_len] at h1
 have c1:=cell_of h1 1
 clear h1 h2 h
 by_cases h0:0≤i
 ·rw[decide_eq_true h0]
  go_enter Tryz.func187,Tryz.ntmps187
  go_wp2
  go_ret
  exact⟨by simp,rfl⟩
 ·rw[decide_eq_false h0]
  go_enter Tryz.func187,Tryz.ntmps187
  go_wp2
  go_ret
  exact⟨rfl,rfl⟩
set_option maxHeartbeats 2000000 in
set_option maxRecDepth 100000 in
theorem pAt_ok (s:SesD) (yb fb sb i:Nat) (x:PS) (w:World) (h:SyR w s yb fb) (hx:StR w s yb sb x) (hi:i < s.roles.length) :
  Calls Tryz.prog 142 #[.pointer (some ⟨sb,0,none⟩),.int .i64 i] w (Ret (.tuple #[.string ((s.rol i).sts.getD (x.at i) dS).name,.int .i64 0]) (Frm [] w)):=by
 have C1:=Lib.hid (pSnone_any s yb sb x w hx)
 have C2:=Lib.hid (pFits_any s yb sb x i w hx)
 rw[decide_eq_true (show (0:Int)≤(i:Int) by omega),decide_eq_true (show (i:Int) < (s.roles.length:Int) by omega)] at C2
 obtain⟨rb,ro,rc,sv,cv,tv,y1,hr⟩:=h.rol hi
 obtain⟨ab,ao,ac,bb,x1,ha⟩:=hx.act hi
 have hst:(s.rol i).sts[x.at i]?=some ((s.rol i).sts.getD (x.at i) dS):=some_getD (hx.ok.pb i hi)
 obtain⟨b1,o1,c1',e1,g0,-,-⟩:=hr.r3.sts.at hst
 subst e1
 have x0:w.cell? ⟨sb,0,none⟩=some (.pointer (some ⟨yb,0,none⟩)):=by obtain⟨av,wv,h1,-⟩:=hx.out;exact cell_of h1 0
 have hni:(i:Int) < (s.roles.length:Int):=by omega
 have hns:((x.at i:Nat):Int) < ((s.rol i).sts.length:Int):=by have:=hx.ok.pb i hi;omega
 obtain⟨n,hn⟩:∃ n,s.roles.length=n:=⟨_,rfl⟩
 obtain⟨m,hm⟩:∃ m,(s.rol i).sts.length=m:=⟨_,rfl⟩
 obtain⟨p,hp⟩:∃ p,x.at i=p:=⟨_,rfl⟩
 obtain⟨st,hst2⟩:∃ st,(s.rol i).sts.getD (x.at i) dS=st:=⟨_,rfl⟩
 rw[hn] at y1 x1 hni
 rw[hst2] at g0 ⊢
 rw[hp] at hns g0 ha
 obtain⟨d0,d1,-,-,-⟩:=hr
 obtain⟨e0,-,-⟩:=ha
 rw[hm] at d1 hns
 have HU:Hid (∀ V,Frm [] w V→V.cell? ⟨yb,1,none⟩=some (.slice (some ⟨rb,ro,none⟩) n rc)∧V.cell? ⟨sb,1,none⟩=some (.slice (some ⟨ab,ao,none⟩) n ac)∧V.cell? ⟨sb,0,none⟩=some (.pointer (some ⟨yb,0,none⟩))∧V.cell? ⟨rb,ro + i * 4 + 1,none⟩=some (.slice (some ⟨b1,o1,none⟩) m c1')∧V.cell? ⟨ab,ao + i * 2,none⟩=some (.int .i64 p)∧V.cell? ⟨b1,o1 + p * 3,none⟩=some (.string st.name)):=
  Lib.hid fun V hV=>⟨hV.keep y1,hV.keep x1,hV.keep x0,hV.keep d1,hV.keep e0,hV.keep g0⟩
 clear y1 x1 x0 d0 d1 e0 g0 hn hm hp hst hst2 h hx hi
 go_enter Tryz.func142,Tryz.ntmps142
 go_upto_region 5 with (first
  | (go_at_call 101;go_must (refine C1.out.mono ?_;rintro e w' ⟨rfl,rfl⟩))
  | (go_at_call 187;go_must (refine C2.out.mono ?_;rintro e w' ⟨rfl,rfl⟩)))
 refine wp_region_cq (by kernel_rfl) (by kernel_rfl) ?_
 repeat (first
  | go_big_quiet_skip
  | (refine wpQuiet_want (by rfl) (fun K hK=>?_)
     first
      | (refine quiet_move _ (by rfl) (hK _ ?_))
      | (refine quiet_assign _ (by rfl) (hK _ ?_))
      | (apply Exists.intro
         refine⟨fun w' hC=>?_,hK _ ?_⟩
         ·(unfold Oper.quietAt
           obtain⟨z0,z1,z2,z3,z4,z5⟩:=HU.out w' hC
           clear hC
           go_simp
           try exact⟨rfl,rfl⟩
           try rfl))
     clear hK K
     try simp only[nrm,Act.eval,nrq]))
 refine wpQuiet_nil ?_
 intro w2 hf2
 go_wp2
 go_ret2
 exact⟨rfl,hf2⟩
def ctV (l:List (CtrD × Int)) (n:ByteArray):Value:=match l[(cnIx l n).toNat]? with
 | some c=>if 0≤cnIx l n then .tuple #[.int .i64 c.2,.int .i64 0] else .tuple #[.int .i64 0,.int .i64 9]
 | none=>.tuple #[.int .i64 0,.int .i64 9]
theorem bGet_any (bb:Nat) (l:List (CtrD × Int)) (n:ByteArray) (w:World) (h:Bnk w bb l) (hl:l.length≤1000):∃ a e,ctV l n=.tuple #[.int .i64 a,.int .i64 e]∧Calls Tryz.prog 182 #[.pointer (some ⟨bb,0,none⟩),.string n] w (Ret (.tuple #[.int .i64 a,.int .i64 e]) (Frm [] w)):=by
 unfold ctV
 rcases Int.lt_or_le (cnIx l n) 0 with hk | hk
 ·refine⟨0,9,?_,bGet_no bb l n w h hl hk⟩
  cases l[(cnIx l n).toNat]? with
  | none=>rfl
  | some c=>simp only;rw[if_neg (by omega)]
 ·obtain⟨k,e,hkl⟩:=ixf_nat hk
  have e':cnIx l n=k:=e
  obtain⟨c,hc⟩:∃ c,l[k]?=some c:=⟨_,List.getElem?_eq_getElem hkl⟩
  refine⟨c.2,0,?_,bGet_ok bb l n k c w h hl e' hc⟩
  rw[e',Int.toNat_natCast,hc]
  simp only
  rw[if_pos (by omega)]
set_option maxHeartbeats 2000000 in
set_option maxRecDepth 100000 in
theorem pCounter_ok (s:SesD) (yb fb sb i:Nat) (x:PS) (n:ByteArray) (w:World) (h:SyR w s yb fb) (hx:StR w s yb sb x) (hi:i < s.roles.length) :
  Calls Tryz.prog 190 #[.pointer (some ⟨sb,0,none⟩),.int .i64 i,.string n] w (Ret (ctV (x.ctr s i) n) (Frm [] w)):=by
 have C1:=Lib.hid (pAt_ok s yb fb sb i x w h hx hi)
 obtain⟨ab,ao,ac,bb,x1,ha⟩:=hx.act hi
 obtain⟨a,e,hv,-⟩:=bGet_any bb (x.ctr s i) n w ha.bnk (by have:=(ctr_ok h.ok hx.ok hi).1;omega)
 have CG:Hid (∀ V,Frm [] w V→Calls Tryz.prog 182 #[.pointer (some ⟨bb,0,none⟩),.string n] V (Ret (.tuple #[.int .i64 a,.int .i64 e]) (Frm [] V))):=Lib.hid fun V hV=>by
  obtain⟨a',e',hv',hc⟩:=bGet_any bb (x.ctr s i) n V (ha.bnk.frm hV) (by have:=(ctr_ok h.ok hx.ok hi).1;omega)
  rw[hv] at hv'
  cases hv'
  exact hc
 have HX:Hid (∀ V,Frm [] w V→V.cell? ⟨sb,1,none⟩=some (.slice (some ⟨ab,ao,none⟩) s.roles.length ac)∧V.cell? ⟨ab,ao + i * 2 + 1,none⟩=some (.pointer (some ⟨bb,0,none⟩))):=Lib.hid fun V hV=>⟨hV.keep x1,hV.keep ha.c1⟩
 have hni:(i:Int) < (s.roles.length:Int):=by omega
 rw[hv]
 obtain⟨m,hm⟩:∃ m,s.roles.length=m:=⟨_,rfl⟩
 rw[hm] at HX hni
 clear ha x1 h hx hi hv hm
 go_enter Tryz.func190,Tryz.ntmps190
 go_wp2_with (first
  | (go_at_call 142;go_must (refine C1.out.mono ?_;rintro e w1 ⟨rfl,hf1⟩;obtain⟨z1,z2⟩:=HX.out _ hf1;have HF1:=Lib.hid hf1;clear hf1))
  | (go_at_call 182;go_must (refine(CG.out _ HF1.out).mono ?_;rintro e w2 ⟨rfl,hf2⟩;have HF2:=Lib.hid (HF1.out.trans hf2);clear hf2)))
 go_ret2
 exact⟨rfl,HF2.out⟩
set_option maxHeartbeats 2000000 in
set_option maxRecDepth 100000 in
theorem pChannel_ok (s:SesD) (yb sb i k:Nat) (x:PS) (w:World) (hx:StR w s yb sb x) (hi:i < s.roles.length) (hk:k < s.roles.length) (hne:i≠k) :
  Calls Tryz.prog 188 #[.pointer (some ⟨sb,0,none⟩),.int .i64 i,.int .i64 k] w (RetV fun v w'=>∃ u,v=.tuple #[u,.int .i64 0]∧Fresh w (x.way i k) u w'):=by
 have C1:=Lib.hid (pSnone_any s yb sb x w hx)
 have C2:=Lib.hid (pFits_any s yb sb x i w hx)
 have C3:=Lib.hid (pFits_any s yb sb x k w hx)
 rw[decide_eq_true (show (0:Int)≤(i:Int) by omega),decide_eq_true (show (i:Int) < (s.roles.length:Int) by omega)] at C2
 rw[decide_eq_true (show (0:Int)≤(k:Int) by omega),decide_eq_true (show (k:Int) < (s.roles.length:Int) by omega)] at C3
 obtain⟨gb,go',cap,rb,ro,c,cb,x2,hw⟩:=hx.way hi hk
 obtain⟨w0,w1,F,hch⟩:=hw
 have CA:=Lib.hid (all_any hch)
 have hni:(i:Int) < (s.roles.length:Int):=by omega
 have hnk:(k:Int) < (s.roles.length:Int):=by omega
 have hq:((i:Int) == (k:Int))=false:=by rw[beq_eq_false_iff_ne];omega
 obtain⟨m,hm⟩:∃ m,s.roles.length=m:=⟨_,rfl⟩
 rw[hm] at hni hnk x2 w0
 obtain⟨L,hL⟩:∃ L,x.way i k=L:=⟨_,rfl⟩
 rw[hL] at CA ⊢
 clear hch hx hi hk hne hm hL
 go_enter Tryz.func188,Tryz.ntmps188
 go_wp2_with (first
  | (go_at_call 101;go_must (refine C1.out.mono ?_;rintro e w' ⟨rfl,rfl⟩))
  | (go_at_call 187;go_must (first
   | (refine C2.out.mono ?_;clear C2;rintro e w' ⟨rfl,rfl⟩)
   | (refine C3.out.mono ?_;clear C3;rintro e w' ⟨rfl,rfl⟩)))
  | (go_at_call 154;go_must (refine CA.out.mono ?_;rintro e w2 ⟨v,rfl,hr⟩;obtain⟨ao,cp,rfl,-,-⟩:=hr.1.shape;have HR:=Lib.hid hr;clear hr)))
 go_ret2
 exact⟨_,rfl,_,rfl,HR.out⟩
end Go.Proofs.YtohfkhjlnlahdaaGreat
