/- Part of the proof. -/
import Derived.Test.YtohfkhjlnlahdaaGreatV23
import Derived.Test.YtohfkhjlnlahdaaGreatV39
set_option linter.all false
namespace Go.Proofs.YtohfkhjlnlahdaaGreat
open Go.RowKit Go.BigFrame Go.Maps
def keyS (s:SesD) (x:PS):ByteArray:=⟨(keyP s x).toArray⟩
theorem keyS_list (s:SesD) (x:PS):(keyS s x).data.toList=keyP s x:=by unfold keyS;simp
def AdTo (w:World) (s:SesD) (yb:Nat) (lim:Int) (whole:Bool) (qb mb:Nat) (N:List (Nd × Nat)) (W W':World):Prop:=SpR w s yb lim whole qb mb N W'∧(∃ F,Frm F W W'∧∀ b∈F,SpB W qb b)∧∀ k,k < W.heap.size→RowOf W' qb k→RowOf W qb k
theorem ndG_zero (W:World):∀ u∈ndZ.cells,NdG W u:=by
 intro u hu
 have:u=.pointer none∨u=.int .i64 0:=by
  simp[Value.cells] at hu
  rcases hu with rfl | rfl
  ·exact .inl rfl
  ·exact .inr rfl
 rcases this with rfl | rfl
 ·exact⟨fun _=>by simp,fun _ _ _=>by simp,fun _=>by simp⟩
 ·exact⟨fun _=>by simp,fun _ _ _=>by simp,fun _=>by simp⟩
theorem ndG_one {W:World} {d:Nd} {sb:Nat} (h:Ty W sb 147):∀ u∈ndC1 (d,sb),NdG W u:=by
 intro u hu
 simp only[ndC1,List.mem_cons,List.not_mem_nil,or_false] at hu
 rcases hu with rfl | rfl | rfl | rfl | rfl | rfl | rfl
 ·exact⟨fun _=>by simp,fun _ _ _=>by simp,fun p e=>by cases e;exact h⟩
 all_goals exact⟨fun _=>by simp,fun _ _ _=>by simp,fun _=>by simp⟩
theorem Tryz.infoNd:(Tryz.prog.info? 216).map (fun i=>(i.zero,i.size,i.bytes))=some (some ndZ,7,56):=by kernel_rfl
section
variable {w W:World} {s:SesD} {yb fb sb qb mb cb:Nat} {lim:Int} {whole:Bool} {N:List (Nd × Nat)} {d:Nd}
set_option maxHeartbeats 4000000 in
set_option maxRecDepth 100000 in
theorem xAdd_has (h:SpR w s yb lim whole qb mb N W) (hy:SyR W s yb fb) (hd:StR W s yb sb d.st) (hc:W.heap[cb]?=some (.cells #[.pointer (some ⟨qb,0,none⟩)] 208 (0,0))) (hk:hasK s (N.map Prod.fst) (keyP s d.st)=true) (hz:(keyS s d.st).size≤maxLen) :
  Calls Tryz.prog 117 #[ndV (d,sb),.pointer (some ⟨cb,0,none⟩)] W (Ret (.bool true) (Frm [] W)):=by
 obtain⟨W0,hW0⟩:∃ W0,W.alloc (.cells #[.pointer (some ⟨sb,0,none⟩),.int .i64 d.par,.int .i64 d.mv.kind,.int .i64 d.mv.role,.int .i64 d.mv.step,.int .i64 d.mv.place,.int .i64 d.lvl] 216)=W0:=⟨_,rfl⟩
 have hf0:Frm [] W W0:=by rw[← hW0];exact(Frm.refl _ _).alloc _
 have hb0:W0.heap[W.heap.size]?=some (.cells #[.pointer (some ⟨sb,0,none⟩),.int .i64 d.par,.int .i64 d.mv.kind,.int .i64 d.mv.role,.int .i64 d.mv.step,.int .i64 d.mv.place,.int .i64 d.lvl] 216 (0,0)):=by rw[← hW0];exact heap_alloc_new _ _
 have CK:Hid (Calls Tryz.prog 48 #[.pointer (some ⟨sb,0,none⟩)] W0 (Ret (.string (keyS s d.st)) (Frm [] W0))):=Lib.hid ((pKey_any s yb fb sb d.st W0 (hy.frm hf0) (hd.frm hf0)).mono fun e w' h=>by
  obtain⟨v,rfl,rfl,h⟩:=h
  exact⟨rfl,h⟩)
 have c0:=cell_of hb0 0
 obtain⟨ao,cap,h1,h2,-⟩:=h.bx
 have hfs:(findP s (N.map Prod.fst) (keyS s d.st).data.toList).isSome=true:=by rw[keyS_list,findP_none];exact hk
 have HL:Hid (∀ V,Frm [] W V→(V.cell? ⟨cb,0,none⟩=some (.pointer (some ⟨qb,0,none⟩))∧V.cell? ⟨qb,3,none⟩=some (.map (some mb))) ∧
   (Instr.lookup 211 (.map (some mb)) (.string (keyS s d.st)) true).run Tryz.prog V=.ok (.tuple #[.int .i64 ((findP s (N.map Prod.fst) (keyS s d.st).data.toList).getD 0:Nat),.bool true]) V):=Lib.hid fun V hV=>by
  refine⟨⟨cell_of (hV.at hc (by simp)) 0,cell_of (hV.at h1 (by simp)) 3⟩,?_⟩
  have:=SpO.look h.mp hV _ hz
  rwa [hfs] at this
 have HF0:=Lib.hid hf0;have HE:=Lib.hid hW0
 clear h hy hd hc hk hz hf0 hb0 h1 h2 hW0 hfs
 go_enter Tryz.func117,Tryz.ntmps117
 go_upto_region 1 with fail
 rw[HE.out]
 go_wp2_with (first
  | (go_at_call 48;go_must (refine CK.out.mono ?_;rintro e w2 ⟨rfl,hf2⟩;have HF2:=Lib.hid (HF0.out.trans hf2);clear hf2;obtain⟨⟨q0,q1⟩,q2⟩:=HL.out w2 HF2.out)))
 go_ret
 exact⟨rfl,HF2.out⟩
set_option maxHeartbeats 4000000 in
set_option maxRecDepth 100000 in
theorem xAdd_full (h:SpR w s yb lim whole qb mb N W) (hy:SyR W s yb fb) (hd:StR W s yb sb d.st) (hc:W.heap[cb]?=some (.cells #[.pointer (some ⟨qb,0,none⟩)] 208 (0,0))) (hk:hasK s (N.map Prod.fst) (keyP s d.st)=false) (hz:(keyS s d.st).size≤maxLen) (hl:(N.length:Int)=lim) :
  Calls Tryz.prog 117 #[ndV (d,sb),.pointer (some ⟨cb,0,none⟩)] W (Ret (.bool false) (Frm [] W)):=by
 obtain⟨W0,hW0⟩:∃ W0,W.alloc (.cells #[.pointer (some ⟨sb,0,none⟩),.int .i64 d.par,.int .i64 d.mv.kind,.int .i64 d.mv.role,.int .i64 d.mv.step,.int .i64 d.mv.place,.int .i64 d.lvl] 216)=W0:=⟨_,rfl⟩
 have hf0:Frm [] W W0:=by rw[← hW0];exact(Frm.refl _ _).alloc _
 have hb0:W0.heap[W.heap.size]?=some (.cells #[.pointer (some ⟨sb,0,none⟩),.int .i64 d.par,.int .i64 d.mv.kind,.int .i64 d.mv.role,.int .i64 d.mv.step,.int .i64 d.mv.place,.int .i64 d.lvl] 216 (0,0)):=by rw[← hW0];exact heap_alloc_new _ _
 have CK:Hid (Calls Tryz.prog 48 #[.pointer (some ⟨sb,0,none⟩)] W0 (Ret (.string (keyS s d.st)) (Frm [] W0))):=Lib.hid ((pKey_any s yb fb sb d.st W0 (hy.frm hf0) (hd.frm hf0)).mono fun e w' h=>by
  obtain⟨v,rfl,rfl,h⟩:=h
  exact⟨rfl,h⟩)
 have c0:=cell_of hb0 0
 obtain⟨ao,cap,h1,h2,-⟩:=h.bx
 have hfs:(findP s (N.map Prod.fst) (keyS s d.st).data.toList).isSome=false:=by rw[keyS_list,findP_none];exact hk
 have HL:Hid (∀ V,Frm [] W V→(V.cell? ⟨cb,0,none⟩=some (.pointer (some ⟨qb,0,none⟩))∧V.cell? ⟨qb,3,none⟩=some (.map (some mb))∧V.cell? ⟨qb,0,none⟩=some (.int .i64 lim)∧V.cell? ⟨qb,2,none⟩=some (.slice ao N.length cap)) ∧
   (Instr.lookup 211 (.map (some mb)) (.string (keyS s d.st)) true).run Tryz.prog V=.ok (.tuple #[.int .i64 ((findP s (N.map Prod.fst) (keyS s d.st).data.toList).getD 0:Nat),.bool false]) V):=Lib.hid fun V hV=>by
  refine⟨⟨cell_of (hV.at hc (by simp)) 0,cell_of (hV.at h1 (by simp)) 3,cell_of (hV.at h1 (by simp)) 0,cell_of (hV.at h1 (by simp)) 2⟩,?_⟩
  have:=SpO.look h.mp hV _ hz
  rwa [hfs] at this
 have HF0:=Lib.hid hf0;have HE:=Lib.hid hW0
 have hle:((N.length:Int) == lim)=true:=by simpa using hl
 clear h hy hd hc hk hz hf0 hb0 h1 h2 hW0 hfs hl
 go_enter Tryz.func117,Tryz.ntmps117
 go_upto_region 1 with fail
 rw[HE.out]
 go_upto_region 5 with (first
  | (go_at_call 48;go_must (refine CK.out.mono ?_;rintro e w2 ⟨rfl,hf2⟩;have HF2:=Lib.hid (HF0.out.trans hf2);clear hf2;obtain⟨⟨q0,q1,q2,q3⟩,q4⟩:=HL.out w2 HF2.out)))
 go_quiet (fail)
 go_wp2
 go_ret
 exact⟨rfl,HF2.out.drewN _⟩
set_option maxHeartbeats 4000000 in
set_option maxRecDepth 100000 in
theorem xAdd_new (h:SpR w s yb lim whole qb mb N W) (hy:SyR W s yb fb) (hd:StR W s yb sb d.st) (hc:W.heap[cb]?=some (.cells #[.pointer (some ⟨qb,0,none⟩)] 208 (0,0))) (hk:hasK s (N.map Prod.fst) (keyP s d.st)=false) (hz:(keyS s d.st).size≤maxLen) (hl:(N.length:Int)≠lim) (hs:0 < s.roles.length) (hn:N.length≤1000000) :
   Calls Tryz.prog 117 #[ndV (d,sb),.pointer (some ⟨cb,0,none⟩)] W (Ret (.bool true) (AdTo w s yb lim whole qb mb (N ++ [(d,sb)]) W)):=by
 obtain⟨W0,hW0⟩:∃ W0,W.alloc (.cells #[.pointer (some ⟨sb,0,none⟩),.int .i64 d.par,.int .i64 d.mv.kind,.int .i64 d.mv.role,.int .i64 d.mv.step,.int .i64 d.mv.place,.int .i64 d.lvl] 216)=W0:=⟨_,rfl⟩
 have hf0:Frm [] W W0:=by rw[← hW0];exact(Frm.refl _ _).alloc _
 have hb0:W0.heap[W.heap.size]?=some (.cells #[.pointer (some ⟨sb,0,none⟩),.int .i64 d.par,.int .i64 d.mv.kind,.int .i64 d.mv.role,.int .i64 d.mv.step,.int .i64 d.mv.place,.int .i64 d.lvl] 216 (0,0)):=by rw[← hW0];exact heap_alloc_new _ _
 have CK:Hid (Calls Tryz.prog 48 #[.pointer (some ⟨sb,0,none⟩)] W0 (Ret (.string (keyS s d.st)) (Frm [] W0))):=Lib.hid ((pKey_any s yb fb sb d.st W0 (hy.frm hf0) (hd.frm hf0)).mono fun e w' h=>by
  obtain⟨v,rfl,rfl,h⟩:=h
  exact⟨rfl,h⟩)
 have c0:=cell_of hb0 0
 have HB0:=Lib.hid hb0
 clear hb0
 obtain⟨ao,cap,h1,h2,h3⟩:=h.bx
 have hfs:(findP s (N.map Prod.fst) (keyS s d.st).data.toList).isSome=false:=by rw[keyS_list,findP_none];exact hk
 have HL:Hid (∀ V,Frm [] W V→(V.cell? ⟨cb,0,none⟩=some (.pointer (some ⟨qb,0,none⟩))∧V.cell? ⟨qb,3,none⟩=some (.map (some mb))∧V.cell? ⟨qb,0,none⟩=some (.int .i64 lim)∧V.cell? ⟨qb,2,none⟩=some (.slice ao N.length cap)) ∧
   (Instr.lookup 211 (.map (some mb)) (.string (keyS s d.st)) true).run Tryz.prog V=.ok (.tuple #[.int .i64 ((findP s (N.map Prod.fst) (keyS s d.st).data.toList).getD 0:Nat),.bool false]) V):=Lib.hid fun V hV=>by
  refine⟨⟨cell_of (hV.at hc (by simp)) 0,cell_of (hV.at h1 (by simp)) 3,cell_of (hV.at h1 (by simp)) 0,cell_of (hV.at h1 (by simp)) 2⟩,?_⟩
  have:=SpO.look h.mp hV _ hz
  rwa [hfs] at this
 have HF0:=Lib.hid hf0;have HE:=Lib.hid hW0
 have hle:((N.length:Int) == lim)=false:=by simpa using hl
 have HB1:=Lib.hid h1;have HB2:=Lib.hid h2;have HB3:=Lib.hid h3
 have HSP:=Lib.hid h;have HC:=Lib.hid hc;have HK:=Lib.hid hk;have HD:=Lib.hid hd;have HZ:=Lib.hid hz;have HS:=Lib.hid hs;have HN:=Lib.hid hn
 clear h hy hd hc hk hz hf0 h1 h2 h3 hW0 hfs hl hs hn
 go_enter Tryz.func117,Tryz.ntmps117
 go_upto_region 1 with fail
 rw[HE.out]
 go_upto_region 5 with (first
  | (go_at_call 48;go_must (refine CK.out.mono ?_;rintro e w2 ⟨rfl,hf2⟩;have HF2:=Lib.hid (HF0.out.trans hf2);have HG2:=Lib.hid hf2;clear hf2;obtain⟨⟨q0,q1,q2,q3⟩,q4⟩:=HL.out w2 HF2.out)))
 go_quiet (fail)
 go_upto_region 7 with fail
 obtain⟨w5,hw5⟩:∃ w5,w2.drewN nq=w5:=⟨_,rfl⟩
 have HF5:Hid (Frm [] W w5):=Lib.hid (by rw[← hw5];exact HF2.out.drewN _)
 have HG5:Hid (Frm [] W0 w5):=Lib.hid (by rw[← hw5];exact HG2.out.drewN _)
 rw[hw5]
 clear hw5 q0 q1 q2 q3 q4
 refine wp_region_cqt 10 (by kernel_rfl) (by kernel_rfl) ?_
 simp only[List.take_succ_cons,List.take_zero,List.drop_succ_cons,List.drop_zero]
 repeat (first
  | go_big_quiet_skip
  | (refine wpQuiet_want (by rfl) (fun K hK=>?_)
     first
      | (refine quiet_move _ (by rfl) (hK _ ?_))
      | (refine quiet_assign _ (by rfl) (hK _ ?_))
      | (apply Exists.intro
         refine⟨fun w' hC=>?_,hK _ ?_⟩
         ·(unfold Oper.quietAt
           obtain⟨⟨p0,p1,p2,p3⟩,p4⟩:=HL.out w' (HF5.out.trans hC)
           clear hC
           go_simp
           try exact⟨rfl,rfl⟩
           try rfl))
     clear hK K
     try simp only[nrm,Act.eval,nrq]))
 refine wpQuiet_nil ?_
 intro w6 hf6
 have HF6:=Lib.hid (HF5.out.trans hf6);have HG6:=Lib.hid (HG5.out.trans hf6)
 have HS6:=Lib.hid (HSP.out.frm HF6.out)
 obtain⟨w7,hup,hm7,hf7⟩:=HS6.out.mp.store Tryz.keyedS Tryz.underlying211 (by have:=HN.out;unfold maxLen;omega) (WideMaps.keyOf_string_mk Tryz.underlying9 HZ.out) (by trivial) (.int .i64 (N.length:Nat))
 rw[(keyF_get s (N.map Prod.fst) (keyS s d.st).data.toList).2,keyS_list,findP_none,HK.out] at hm7
 simp only[Bool.false_eq_true,if_false] at hm7
 have HM7:=Lib.hid hm7;have HF7:=Lib.hid hf7
 clear hf6 hm7 hf7
 go_upto_region 8 with fail
 obtain⟨ao',cap',g1,g2,g3⟩:=HS6.out.bx
 have eao:ao'=ao∧cap'=cap:=by
  have e:=(cell_of g1 2).symm.trans (HL.out w6 HF6.out).1.2.2.2
  simp at e
  exact e
 obtain⟨rfl,rfl⟩:=eao
 have hne:qb≠mb:=fun e=>by
  obtain⟨es,c,hb⟩:=HS6.out.mp.block rfl
  rw[← e,g1] at hb;cases hb
 have hcm:∀ {k:Nat} {C:Array Value} {t:TypeId},w6.heap[k]?=some (.cells C t (0,0))→w7.heap[k]?=some (.cells C t (0,0)):=fun {k C t} hk=>HF7.out.at hk (by
  intro hm
  simp only[List.mem_singleton] at hm
  obtain⟨es,c,hb⟩:=HS6.out.mp.block rfl
  rw[← hm,hk] at hb;cases hb)
 have x7:=hcm (HF6.out.at HC.out (by simp))
 have q7:=hcm g1
 have b7:=hcm (HG6.out.at HB0.out (by simp))
 have row7:w7.ownsRow w.heap.size 216 7 (.slice ao' N.length cap') N.length (ndC N):=HF7.out.owns g2 (by
  intro k hk hm
  simp only[List.mem_singleton] at hm
  obtain⟨c,hc⟩:=ownBlock_type g2 hk
  obtain⟨es,c',hb⟩:=HS6.out.mp.block rfl
  rw[← hm,hc] at hb;cases hb)
 have HG1:=Lib.hid g1;have HG2':=Lib.hid g2;have HG3:=Lib.hid g3;have HX7:=Lib.hid x7;have HB7:=Lib.hid b7;have HQ7:=Lib.hid q7;have HR7:=Lib.hid row7
 have hty:Ty w7 sb 147:=by
  obtain⟨av,wv,hb,-⟩:=HD.out.out
  exact⟨_,hcm (HF6.out.at hb (by simp))⟩
 have HTY:=Lib.hid hty
 have hG7:∀ V,Frm [] w7 V→RowG (NdG V) 216 (.slice ao' N.length cap') V:=fun V hV g cur hg hc u hu=>by
  obtain⟨c,hc6⟩:=ownBlock_type g2 hg
  have h7:=hV.at (hcm hc6) (by simp)
  rw[h7] at hc
  cases hc
  exact(((g3 g _ hg hc6 u hu).frm (F:=[mb]) HF7.out (fun p hp hm=>by
   simp only[List.mem_singleton] at hm
   obtain⟨D,hD⟩:=hp
   obtain⟨es,c',hb⟩:=HS6.out.mp.block rfl
   rw[← hm,hD] at hb;cases hb)).frm hV (by simp))
 have HG7:=Lib.hid hG7
 obtain⟨i0,hi0,hz0,hz1,hz2⟩:=info_parts Tryz.infoNd
 clear g1 g2 g3 x7 q7 b7 row7 hcm hty hG7 hup c0 hle CK HL HE
 obtain⟨F,hFe⟩:∃ F,(Value.slice ao' N.length cap').ownBlock.toList=F:=⟨_,rfl⟩
 have hFn:∀ k∈F,Ty w7 k 216∧k < W.heap.size:=fun k hk=>by
  rw[← hFe,Option.mem_toList] at hk
  exact⟨ownBlock_type HR7.out hk,ownBlock_lt HB2.out hk⟩
 have hX:∀ V,Frm F w7 V→V.heap[cb]?=some (.cells #[.pointer (some ⟨qb,0,none⟩)] 208 (0,0)):=fun V hV=>hV.at HX7.out (fun hm=>by
  obtain⟨D,hD⟩:=(hFn _ hm).1
  rw[HX7.out] at hD;cases hD)
 have hQ:∀ V,Frm F w7 V→V.heap[qb]?=some (.cells #[.int .i64 lim,.bool whole,.slice ao' N.length cap',.map (some mb)] 214 (0,0)):=fun V hV=>hV.at HQ7.out (fun hm=>by
  obtain⟨D,hD⟩:=(hFn _ hm).1
  rw[HQ7.out] at hD;cases hD)
 have hB:∀ V,Frm F w7 V→V.heap[W.heap.size]?=some (.cells #[.pointer (some ⟨sb,0,none⟩),.int .i64 d.par,.int .i64 d.mv.kind,.int .i64 d.mv.role,.int .i64 d.mv.step,.int .i64 d.mv.place,.int .i64 d.lvl] 216 (0,0)):=fun V hV=>hV.at HB7.out (fun hm=>by
  have:=(hFn _ hm).2;omega)
 have HCT:Hid (∀ V,Frm F w7 V→(V.cell? ⟨cb,0,none⟩=some (.pointer (some ⟨qb,0,none⟩))∧V.cell? ⟨qb,2,none⟩=some (.slice ao' N.length cap'))∧V.cell? ⟨W.heap.size,0,none⟩=some (.pointer (some ⟨sb,0,none⟩))∧V.cell? ⟨W.heap.size,1,none⟩=some (.int .i64 d.par) ∧
   V.cell? ⟨W.heap.size,2,none⟩=some (.int .i64 d.mv.kind)∧V.cell? ⟨W.heap.size,3,none⟩=some (.int .i64 d.mv.role)∧V.cell? ⟨W.heap.size,4,none⟩=some (.int .i64 d.mv.step)∧V.cell? ⟨W.heap.size,5,none⟩=some (.int .i64 d.mv.place)∧V.cell? ⟨W.heap.size,6,none⟩=some (.int .i64 d.lvl)):=Lib.hid fun V hV =>
  ⟨⟨cell_of (hX V hV) 0,cell_of (hQ V hV) 2⟩,cell_of (hB V hV) 0,cell_of (hB V hV) 1,cell_of (hB V hV) 2,cell_of (hB V hV) 3,cell_of (hB V hV) 4,cell_of (hB V hV) 5,cell_of (hB V hV) 6⟩
 have HQF:=Lib.hid hQ
 have HFE:=Lib.hid hFe
 clear hX hQ hB hFn hFe
 refine heldL_start F (wrFrom 10) (by kernel_rfl) ?_
 refine cnt 0 ?_
 iterate 6
  refine hcL ?_ ?_ ?_
  rotate_left
  ·intro w' hC
   obtain⟨⟨x0,x1⟩,y0,y1,y2,y3,y4,y5,y6⟩:=HCT.out w' ((Frm.refl F w7).drew.trans hC)
   clear hC
   go_simp
   try rfl
  try simp only[nrm,Nat.reduceAdd]
 refine tcn ?_
 obtain⟨wd,hwd⟩:∃ wd,w7.drew=wd:=⟨_,rfl⟩
 have hfd:Frm [] w7 wd:=by rw[← hwd];exact(Frm.refl _ _).drew
 rw[hwd]
 clear hwd
 have HG8:=Lib.hid (HG7.out _ (hfd.alloc (.cells #[.pointer (some ⟨sb,0,none⟩),.int .i64 d.par,.int .i64 d.mv.kind,.int .i64 d.mv.role,.int .i64 d.mv.step,.int .i64 d.mv.place,.int .i64 d.lvl] 216)))
 refine honL 6 ?_
 refine heldL_step (i:=6) rfl rfl (by rfl) (fun K' hK'=>?_)
 go_simp
 (skip)
 refine hK'.out _ _ ((Frm.refl _ _).alloc _) ?_
 clear hK' K'
 try simp only[nrm]
 obtain⟨w8,hw8⟩:∃ w8,wd.alloc (.cells #[.pointer (some ⟨sb,0,none⟩),.int .i64 d.par,.int .i64 d.mv.kind,.int .i64 d.mv.role,.int .i64 d.mv.step,.int .i64 d.mv.place,.int .i64 d.lvl] 216)=w8:=⟨_,rfl⟩
 have HF8:Hid (Frm [] w7 w8):=Lib.hid (by rw[← hw8];exact hfd.alloc _)
 have hnews:∀ j u,(ndC1 (d,sb))[j]?=some u→w8.cell? ((⟨wd.heap.size,0,none⟩:Addr).add j)=some u:=by rw[← hw8];exact new_row wd _ _
 rw[hw8] at HG8 ⊢
 have hsz8:w.heap.size≤w8.heap.size:=by have:=HS6.out.fr.size;have:=HF7.out.size;have:=HF8.out.size;omega
 have HNW:=Lib.hid hnews
 clear hw8 hnews hfd
 refine honL 7 ?_
 refine heldL_step (i:=7) rfl rfl (by rfl) (fun K' hK'=>?_)
 refine wp_append_all (NdG w8) _ _ 212 rfl w.heap.size 216 i0 ndZ 7 56 Tryz.underlying212 hi0 hz0 hz1 hz2 rfl (by decide) (.slice ao' N.length cap') N.length (ndC N) ?_ (HF8.out.owns HR7.out (by simp)) ⟨wd.heap.size,0,none⟩ 1 1 (ndC1 (d,sb)) ?_ rfl HNW.out (by simp[Value.oneCell',ndC1]) (by have:=HN.out;unfold maxLen;omega) (by have:=HN.out;omega) hsz8 (by omega) HG8.out (ndG_zero _) (ndG_one (HTY.out.frm HF8.out (by simp))) ?_;(focus (go_simp;done));(focus (go_simp;done));intro v' w9 hown' hgrow hG9 hob;have HOB:=Lib.hid hob;have HO:=Lib.hid hown';have HGR:=Lib.hid hgrow;have HG9:=Lib.hid hG9;have hfg:Frm F w8 w9:=(Frm.refl _ _).grown hgrow (fun k hk=>.inl (by rw[← HFE.out];simp[hk]));have hbx:=HQF.out w9 ((HF8.out.mono (by simp)).trans hfg);have cx9:=cell_of hbx 2;have fx9:=free_of hbx 2;obtain⟨ao9,cp9,rfl⟩:=own_shape hown';clear hown' hgrow hG9 hbx hob
 refine hK'.out _ _ hfg ?_
 clear hK' K'
 try simp only[nrm]
 refine cnt 8 ?_
 iterate 2
  refine hcL ?_ ?_ ?_
  rotate_left
  ·intro w' hC
   clear hC
   go_simp
   try rfl
  try simp only[nrm,Nat.reduceAdd]
 refine tcn ?_
 refine honL 10 ?_
 refine heldL_write (i:=10) rfl (by rfl) (by rfl) (fun K' hK'=>?_)
 go_simp
 (skip)
 refine hK'.out _ _ ?_
 clear hK' K'
 try simp only[nrm]
 refine heldL_done (by kernel_rfl) ?_ _
 go_wp2
 go_ret
 refine⟨rfl,?_⟩
 obtain⟨r1,r2,r3⟩:=HS6.out.add HS.out (HD.out.frm HF6.out) HK.out HG1.out HG2'.out HG3.out HM7.out HF7.out HF8.out HGR.out HO.out HG9.out
 refine⟨r1,⟨_,(HF6.out.mono (by simp)).trans r2,HSP.out.spB HB1.out HB2.out HB3.out⟩,fun k hk=>?_⟩
 rintro⟨a,b,v,m,e1,e2⟩
 rw[r3] at e1
 cases e1
 rcases HOB.out with e | e
 ·exact⟨_,_,_,_,HB1.out,e ▸ e2⟩
 ·rw[e] at e2
  cases e2
  have:=HF6.out.size
  have:=HF7.out.size
  have:=HF8.out.size
  omega
end
end Go.Proofs.YtohfkhjlnlahdaaGreat
