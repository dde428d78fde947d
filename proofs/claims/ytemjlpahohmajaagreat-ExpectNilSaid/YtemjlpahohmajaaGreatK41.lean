/- Part of the proof. -/
import Derived.Test.YtemjlpahohmajaaGreatK38
import Derived.Test.YtemjlpahohmajaaGreatK40
import Derived.Test.YtemjlpahohmajaaGreatK29
import Derived.Laws.StructEq
set_option linter.all false
namespace Go.Proofs.YtemjlpahohmajaaGreat
open Go.RowKit Go.BigFrame Go.Maps
def keyS (s:SesD) (x:PS):ByteArray:=⟨(keyP s x).toArray⟩
theorem keyS_list (s:SesD) (x:PS):(keyS s x).data.toList=keyP s x:=by unfold keyS;simp
def AdTo (w:World) (s:SesD) (yb:Nat) (lim:Int) (whole:Bool) (qb mb:Nat) (N:List (Nd × Nat)) (W W':World):Prop:=SpR w s yb lim whole qb mb N W'∧(∃ F,Frm F W W'∧∀ b∈F,SpB W qb b)∧∀ k,k < W.heap.size→RowOf W' qb k→RowOf W qb k
theorem ndG_zero (W:World):∀ u∈ndZ.cells,NdG W u:=by
 intro u hu
 have:u=.pointer none∨u=.int .i64 0:=by
  simp[Value.cells] at hu
  rcases hu with rfl | rfl
  ·exact .inl rfl
  ·exact .inr rfl
 rcases this with rfl | rfl
 ·exact⟨fun _=>by simp,fun _ _ _=>by simp,fun _=>by simp⟩
 ·exact⟨fun _=>by simp,fun _ _ _=>by simp,fun _=>by simp⟩
theorem ndG_one {W:World} {d:Nd} {sb:Nat} (h:Ty W sb 140):∀ u∈ndC1 (d,sb),NdG W u:=by
 intro u hu
 simp only[ndC1,List.mem_cons,List.not_mem_nil,or_false] at hu
 rcases hu with rfl | rfl | rfl | rfl | rfl | rfl | rfl
 ·exact⟨fun _=>by simp,fun _ _ _=>by simp,fun p e=>by cases e;exact h⟩
 all_goals exact⟨fun _=>by simp,fun _ _ _=>by simp,fun _=>by simp⟩
theorem Tryz.infoNd:(Tryz.prog.info? 117).map (fun i=>(i.zero,i.size,i.bytes))=some (some ndZ,7,56):=by kernel_rfl
section
variable {w W:World} {s:SesD} {yb fb sb qb mb cb:Nat} {lim:Int} {whole:Bool} {N:List (Nd × Nat)} {d:Nd}
set_option maxHeartbeats 4000000 in
set_option maxRecDepth 100000 in
theorem xAdd_has (h:SpR w s yb lim whole qb mb N W) (hy:SyR W s yb fb) (hd:StR W s yb sb d.st) (hc:W.heap[cb]?=some (.cells #[.pointer (some ⟨qb,0,none⟩)] 109 (0,0))) (hk:hasK s (N.map Prod.fst) (keyP s d.st)=true) (hz:(keyS s d.st).size≤maxLen) :
  Calls Tryz.prog 45 #[ndV (d,sb),.pointer (some ⟨cb,0,none⟩)] W (Ret (.bool true) (Frm [] W)):=by
 obtain⟨W0,hW0⟩:∃ W0,W.alloc (.cells #[.pointer (some ⟨sb,0,none⟩),.int .i64 d.par,.int .i64 d.mv.kind,.int .i64 d.mv.role,.int .i64 d.mv.step,.int .i64 d.mv.place,.int .i64 d.lvl] 117)=W0:=⟨_,rfl⟩
 have hf0:Frm [] W W0:=by rw[← hW0];exact(Frm.refl _ _).alloc _
 have hb0:W0.heap[W.heap.size]?=some (.cells #[.pointer (some ⟨sb,0,none⟩),.int .i64 d.par,.int .i64 d.mv.kind,.int .i64 d.mv.role,.int .i64 d.mv.step,.int .i64 d.mv.place,.int .i64 d.lvl] 117 (0,0)):=by rw[← hW0];exact heap_alloc_new _ _
 have CK:Hid (Calls Tryz.prog 22 #[.pointer (some ⟨sb,0,none⟩)] W0 (Ret (.string (keyS s d.st)) (Frm [] W0))):=Lib.hid ((pKey_any s yb fb sb d.st W0 (hy.frm hf0) (hd.frm hf0)).mono fun e w' h=>by
  obtain⟨v,rfl,rfl,h⟩:=h
  exact⟨rfl,h⟩)
 have c0:=cell_of hb0 0
 obtain⟨ao,cap,h1,h2,-⟩:=h.bx
 have hfs:(findP s (N.map Prod.fst) (keyS s d.st).data.toList).isSome=true:=by rw[keyS_list,findP_none];exact hk
 have HL:Hid (∀ V,Frm [] W V→(V.cell? ⟨cb,0,none⟩=some (.pointer (some ⟨qb,0,none⟩))∧V.cell? ⟨qb,3,none⟩=some (.map (some mb))) ∧
   (Instr.lookup 112 (.map (some mb)) (.string (keyS s d.st)) true).run Tryz.prog V=.ok (.tuple #[.int .i64 ((findP s (N.map Prod.fst) (keyS s d.st).data.toList).getD 0:Nat),.bool true]) V):=Lib.hid fun V hV=>by
  refine⟨⟨cell_of (hV.at hc (by simp)) 0,cell_of (hV.at h1 (by simp)) 3⟩,?_⟩
  have:=SpO.look h.mp hV _ hz
  rwa [hfs] at this
 have HF0:=Lib.hid hf0;have HE:=Lib.hid hW0
 clear h hy hd hc hk hz hf0 hb0 h1 h2 hW0 hfs
 go_enter Tryz.func45,Tryz.ntmps45
 go_upto_region 1 with fail
 rw[HE.out]
 go_wp2_with (first
  | (go_at_call 22;go_must (refine CK.out.mono ?_;rintro e w2 ⟨rfl,hf2⟩;have HF2:=Lib.hid (HF0.out.trans hf2);clear hf2;obtain⟨⟨q0,q1⟩,q2⟩:=HL.out w2 HF2.out)))
 go_ret
 exact⟨rfl,HF2.out⟩
set_option maxHeartbeats 4000000 in
set_option maxRecDepth 100000 in
theorem xAdd_full (h:SpR w s yb lim whole qb mb N W) (hy:SyR W s yb fb) (hd:StR W s yb sb d.st) (hc:W.heap[cb]?=some (.cells #[.pointer (some ⟨qb,0,none⟩)] 109 (0,0))) (hk:hasK s (N.map Prod.fst) (keyP s d.st)=false) (hz:(keyS s d.st).size≤maxLen) (hl:(N.length:Int)=lim) :
  Calls Tryz.prog 45 #[ndV (d,sb),.pointer (some ⟨cb,0,none⟩)] W (Ret (.bool false) (Frm [] W)):=by
 obtain⟨W0,hW0⟩:∃ W0,W.alloc (.cells #[.pointer (some ⟨sb,0,none⟩),.int .i64 d.par,.int .i64 d.mv.kind,.int .i64 d.mv.role,.int .i64 d.mv.step,.int .i64 d.mv.place,.int .i64 d.lvl] 117)=W0:=⟨_,rfl⟩
 have hf0:Frm [] W W0:=by rw[← hW0];exact(Frm.refl _ _).alloc _
 have hb0:W0.heap[W.heap.size]?=some (.cells #[.pointer (some ⟨sb,0,none⟩),.int .i64 d.par,.int .i64 d.mv.kind,.int .i64 d.mv.role,.int .i64 d.mv.step,.int .i64 d.mv.place,.int .i64 d.lvl] 117 (0,0)):=by rw[← hW0];exact heap_alloc_new _ _
 have CK:Hid (Calls Tryz.prog 22 #[.pointer (some ⟨sb,0,none⟩)] W0 (Ret (.string (keyS s d.st)) (Frm [] W0))):=Lib.hid ((pKey_any s yb fb sb d.st W0 (hy.frm hf0) (hd.frm hf0)).mono fun e w' h=>by
  obtain⟨v,rfl,rfl,h⟩:=h
  exact⟨rfl,h⟩)
 have c0:=cell_of hb0 0
 obtain⟨ao,cap,h1,h2,-⟩:=h.bx
 have hfs:(findP s (N.map Prod.fst) (keyS s d.st).data.toList).isSome=false:=by rw[keyS_list,findP_none];exact hk
 have HL:Hid (∀ V,Frm [] W V→(V.cell? ⟨cb,0,none⟩=some (.pointer (some ⟨qb,0,none⟩))∧V.cell? ⟨qb,3,none⟩=some (.map (some mb))∧V.cell? ⟨qb,0,none⟩=some (.int .i64 lim)∧V.cell? ⟨qb,2,none⟩=some (.slice ao N.length cap)) ∧
   (Instr.lookup 112 (.map (some mb)) (.string (keyS s d.st)) true).run Tryz.prog V=.ok (.tuple #[.int .i64 ((findP s (N.map Prod.fst) (keyS s d.st).data.toList).getD 0:Nat),.bool false]) V):=Lib.hid fun V hV=>by
  refine⟨⟨cell_of (hV.at hc (by simp)) 0,cell_of (hV.at h1 (by simp)) 3,cell_of (hV.at h1 (by simp)) 0,cell_of (hV.at h1 (by simp)) 2⟩,?_⟩
  have:=SpO.look h.mp hV _ hz
  rwa [hfs] at this
 have HF0:=Lib.hid hf0;have HE:=Lib.hid hW0
 have hle:((N.length:Int) == lim)=true:=by simpa using hl
 clear h hy hd hc hk hz hf0 hb0 h1 h2 hW0 hfs hl
 go_enter Tryz.func45,Tryz.ntmps45
 go_upto_region 1 with fail
 rw[HE.out]
 go_upto_region 5 with (first
  | (go_at_call 22;go_must (refine CK.out.mono ?_;rintro e w2 ⟨rfl,hf2⟩;have HF2:=Lib.hid (HF0.out.trans hf2);clear hf2;obtain⟨⟨q0,q1,q2,q3⟩,q4⟩:=HL.out w2 HF2.out)))
 go_quiet (fail)
 go_wp2
 go_ret
 exact⟨rfl,HF2.out.drewN _⟩
set_option maxHeartbeats 4000000 in
set_option maxRecDepth 100000 in
theorem xAdd_new (h:SpR w s yb lim whole qb mb N W) (hy:SyR W s yb fb) (hd:StR W s yb sb d.st) (hc:W.heap[cb]?=some (.cells #[.pointer (some ⟨qb,0,none⟩)] 109 (0,0))) (hk:hasK s (N.map Prod.fst) (keyP s d.st)=false) (hz:(keyS s d.st).size≤maxLen) (hl:(N.length:Int)≠lim) (hs:0 < s.roles.length) (hn:N.length≤1000000) :
   Calls Tryz.prog 45 #[ndV (d,sb),.pointer (some ⟨cb,0,none⟩)] W (Ret (.bool true) (AdTo w s yb lim whole qb mb (N ++ [(d,sb)]) W)):=by
 obtain⟨W0,hW0⟩:∃ W0,W.alloc (.cells #[.pointer (some ⟨sb,0,none⟩),.int .i64 d.par,.int .i64 d.mv.kind,.int .i64 d.mv.role,.int .i64 d.mv.step,.int .i64 d.mv.place,.int .i64 d.lvl] 117)=W0:=⟨_,rfl⟩
 have hf0:Frm [] W W0:=by rw[← hW0];exact(Frm.refl _ _).alloc _
 have hb0:W0.heap[W.heap.size]?=some (.cells #[.pointer (some ⟨sb,0,none⟩),.int .i64 d.par,.int .i64 d.mv.kind,.int .i64 d.mv.role,.int .i64 d.mv.step,.int .i64 d.mv.place,.int .i64 d.lvl] 117 (0,0)):=by rw[← hW0];exact heap_alloc_new _ _
 have CK:Hid (Calls Tryz.prog 22 #[.pointer (some ⟨sb,0,none⟩)] W0 (Ret (.string (keyS s d.st)) (Frm [] W0))):=Lib.hid ((pKey_any s yb fb sb d.st W0 (hy.frm hf0) (hd.frm hf0)).mono fun e w' h=>by
  obtain⟨v,rfl,rfl,h⟩:=h
  exact⟨rfl,h⟩)
 have c0:=cell_of hb0 0
 have HB0:=Lib.hid hb0
 clear hb0
 obtain⟨ao,cap,h1,h2,h3⟩:=h.bx
 have hfs:(findP s (N.map Prod.fst) (keyS s d.st).data.toList).isSome=false:=by rw[keyS_list,findP_none];exact hk
 have HL:Hid (∀ V,Frm [] W V→(V.cell? ⟨cb,0,none⟩=some (.pointer (some ⟨qb,0,none⟩))∧V.cell? ⟨qb,3,none⟩=some (.map (some mb))∧V.cell? ⟨qb,0,none⟩=some (.int .i64 lim)∧V.cell? ⟨qb,2,none⟩=some (.slice ao N.length cap)) ∧
   (Instr.lookup 112 (.map (some mb)) (.string (keyS s d.st)) true).run Tryz.prog V=.ok (.tuple #[.int .i64 ((findP s (N.map Prod.fst) (keyS s d.st).data.toList).getD 0:Nat),.bool false]) V):=Lib.hid fun V hV=>by
  refine⟨⟨cell_of (hV.at hc (by simp)) 0,cell_of (hV.at h1 (by simp)) 3,cell_of (hV.at h1 (by simp)) 0,cell_of (hV.at h1 (by simp)) 2⟩,?_⟩
  have:=SpO.look h.mp hV _ hz
  rwa [hfs] at this
 have HF0:=Lib.hid hf0;have HE:=Lib.hid hW0
 have hle:((N.length:Int) == lim)=false:=by simpa using hl
 have HB1:=Lib.hid h1;have HB2:=Lib.hid h2;have HB3:=Lib.hid h3
 have HSP:=Lib.hid h;have HC:=Lib.hid hc;have HK:=Lib.hid hk;have HD:=Lib.hid hd;have HZ:=Lib.hid hz;have HS:=Lib.hid hs;have HN:=Lib.hid hn
 clear h hy hd hc hk hz hf0 h1 h2 h3 hW0 hfs hl hs hn
 go_enter Tryz.func45,Tryz.ntmps45
 go_upto_region 1 with fail
 rw[HE.out]
 go_upto_region 5 with (first
  | (go_at_call 22;go_must (refine CK.out.mono ?_;rintro e w2 ⟨rfl,hf2⟩;have HF2:=Lib.hid (HF0.out.trans hf2);have HG2:=Lib.hid hf2;clear hf2;obtain⟨⟨q0,q1,q2,q3⟩,q4⟩:=HL.out w2 HF2.out)))
 go_quiet (fail)
 go_upto_region 7 with fail
 obtain⟨w5,hw5⟩:∃ w5,w2.drewN nq=w5:=⟨_,rfl⟩
 have HF5:Hid (Frm [] W w5):=Lib.hid (by rw[← hw5];exact HF2.out.drewN _)
 have HG5:Hid (Frm [] W0 w5):=Lib.hid (by rw[← hw5];exact HG2.out.drewN _)
 rw[hw5]
 clear hw5 q0 q1 q2 q3 q4
 refine wp_region_cqt 10 (by kernel_rfl) (by kernel_rfl) ?_
 simp only[List.take_succ_cons,List.take_zero,List.drop_succ_cons,List.drop_zero]
 repeat (first
  | go_big_quiet_skip
  | (refine wpQuiet_want (by rfl) (fun K hK=>?_)
     first
      | (refine quiet_move _ (by rfl) (hK _ ?_))
      | (refine quiet_assign _ (by rfl) (hK _ ?_))
      | (apply Exists.intro
         refine⟨fun w' hC=>?_,hK _ ?_⟩
         ·(unfold Oper.quietAt
           obtain⟨⟨p0,p1,p2,p3⟩,p4⟩:=HL.out w' (HF5.out.trans hC)
           clear hC
           go_simp
           try exact⟨rfl,rfl⟩
           try rfl))
     clear hK K
     try simp only[nrm,Act.eval,nrq]))
 refine wpQuiet_nil ?_
 intro w6 hf6
 have HF6:=Lib.hid (HF5.out.trans hf6);have HG6:=Lib.hid (HG5.out.trans hf6)
 have HS6:=Lib.hid (HSP.out.frm HF6.out)
 obtain⟨w7,hup,hm7,hf7⟩:=HS6.out.mp.store Tryz.keyedS Tryz.underlying112 (by have:=HN.out;unfold maxLen;omega) (WideMaps.keyOf_string_mk Tryz.underlying9 HZ.out) (by trivial) (.int .i64 (N.length:Nat))
 rw[(keyF_get s (N.map Prod.fst) (keyS s d.st).data.toList).2,keyS_list,findP_none,HK.out] at hm7
 simp only[Bool.false_eq_true,if_false] at hm7
 have HM7:=Lib.hid hm7;have HF7:=Lib.hid hf7
 clear hf6 hm7 hf7
 go_upto_region 8 with fail
 obtain⟨ao',cap',g1,g2,g3⟩:=HS6.out.bx
 have eao:ao'=ao∧cap'=cap:=by
  have e:=(cell_of g1 2).symm.trans (HL.out w6 HF6.out).1.2.2.2
  simp at e
  exact e
 obtain⟨rfl,rfl⟩:=eao
 have hne:qb≠mb:=fun e=>by
  obtain⟨es,c,hb⟩:=HS6.out.mp.block rfl
  rw[← e,g1] at hb;cases hb
 have hcm:∀ {k:Nat} {C:Array Value} {t:TypeId},w6.heap[k]?=some (.cells C t (0,0))→w7.heap[k]?=some (.cells C t (0,0)):=fun {k C t} hk=>HF7.out.at hk (by
  intro hm
  simp only[List.mem_singleton] at hm
  obtain⟨es,c,hb⟩:=HS6.out.mp.block rfl
  rw[← hm,hk] at hb;cases hb)
 have x7:=hcm (HF6.out.at HC.out (by simp))
 have q7:=hcm g1
 have b7:=hcm (HG6.out.at HB0.out (by simp))
 have row7:w7.ownsRow w.heap.size 117 7 (.slice ao' N.length cap') N.length (ndC N):=HF7.out.owns g2 (by
  intro k hk hm
  simp only[List.mem_singleton] at hm
  obtain⟨c,hc⟩:=ownBlock_type g2 hk
  obtain⟨es,c',hb⟩:=HS6.out.mp.block rfl
  rw[← hm,hc] at hb;cases hb)
 have HG1:=Lib.hid g1;have HG2':=Lib.hid g2;have HG3:=Lib.hid g3;have HX7:=Lib.hid x7;have HB7:=Lib.hid b7;have HQ7:=Lib.hid q7;have HR7:=Lib.hid row7
 have hty:Ty w7 sb 140:=by
  obtain⟨av,wv,hb,-⟩:=HD.out.out
  exact⟨_,hcm (HF6.out.at hb (by simp))⟩
 have HTY:=Lib.hid hty
 have hG7:∀ V,Frm [] w7 V→RowG (NdG V) 117 (.slice ao' N.length cap') V:=fun V hV g cur hg hc u hu=>by
  obtain⟨c,hc6⟩:=ownBlock_type g2 hg
  have h7:=hV.at (hcm hc6) (by simp)
  rw[h7] at hc
  cases hc
  exact(((g3 g _ hg hc6 u hu).frm (F:=[mb]) HF7.out (fun p hp hm=>by
   simp only[List.mem_singleton] at hm
   obtain⟨D,hD⟩:=hp
   obtain⟨es,c',hb⟩:=HS6.out.mp.block rfl
   rw[← hm,hD] at hb;cases hb)).frm hV (by simp))
 have HG7:=Lib.hid hG7
 obtain⟨i0,hi0,hz0,hz1,hz2⟩:=info_parts Tryz.infoNd
 clear g1 g2 g3 x7 q7 b7 row7 hcm hty hG7 hup c0 hle CK HL HE
 obtain⟨F,hFe⟩:∃ F,(Value.slice ao' N.length cap').ownBlock.toList=F:=⟨_,rfl⟩
 have hFn:∀ k∈F,Ty w7 k 117∧k < W.heap.size:=fun k hk=>by
  rw[← hFe,Option.mem_toList] at hk
  exact⟨ownBlock_type HR7.out hk,ownBlock_lt HB2.out hk⟩
 have hX:∀ V,Frm F w7 V→V.heap[cb]?=some (.cells #[.pointer (some ⟨qb,0,none⟩)] 109 (0,0)):=fun V hV=>hV.at HX7.out (fun hm=>by
  obtain⟨D,hD⟩:=(hFn _ hm).1
  rw[HX7.out] at hD;cases hD)
 have hQ:∀ V,Frm F w7 V→V.heap[qb]?=some (.cells #[.int .i64 lim,.bool whole,.slice ao' N.length cap',.map (some mb)] 115 (0,0)):=fun V hV=>hV.at HQ7.out (fun hm=>by
  obtain⟨D,hD⟩:=(hFn _ hm).1
  rw[HQ7.out] at hD;cases hD)
 have hB:∀ V,Frm F w7 V→V.heap[W.heap.size]?=some (.cells #[.pointer (some ⟨sb,0,none⟩),.int .i64 d.par,.int .i64 d.mv.kind,.int .i64 d.mv.role,.int .i64 d.mv.step,.int .i64 d.mv.place,.int .i64 d.lvl] 117 (0,0)):=fun V hV=>hV.at HB7.out (fun hm=>by
  have:=(hFn _ hm).2;omega)
 have HCT:Hid (∀ V,Frm F w7 V→(V.cell? ⟨cb,0,none⟩=some (.pointer (some ⟨qb,0,none⟩))∧V.cell? ⟨qb,2,none⟩=some (.slice ao' N.length cap'))∧V.cell? ⟨W.heap.size,0,none⟩=some (.pointer (some ⟨sb,0,none⟩))∧V.cell? ⟨W.heap.size,1,none⟩=some (.int .i64 d.par) ∧
   V.cell? ⟨W.heap.size,2,none⟩=some (.int .i64 d.mv.kind)∧V.cell? ⟨W.heap.size,3,none⟩=some (.int .i64 d.mv.role)∧V.cell? ⟨W.heap.size,4,none⟩=some (.int .i64 d.mv.step)∧V.cell? ⟨W.heap.size,5,none⟩=some (.int .i64 d.mv.place)∧V.cell? ⟨W.heap.size,6,none⟩=some (.int .i64 d.lvl)):=Lib.hid fun V hV =>
  ⟨⟨cell_of (hX V hV) 0,cell_of (hQ V hV) 2⟩,cell_of (hB V hV) 0,cell_of (hB V hV) 1,cell_of (hB V hV) 2,cell_of (hB V hV) 3,cell_of (hB V hV) 4,cell_of (hB V hV) 5,cell_of (hB V hV) 6⟩
 have HQF:=Lib.hid hQ
 have HFE:=Lib.hid hFe
 clear hX hQ hB hFn hFe
 refine heldL_start F (wrFrom 10) (by kernel_rfl) ?_
 refine cnt 0 ?_
 iterate 6
  refine hcL ?_ ?_ ?_
  rotate_left
  ·intro w' hC
   obtain⟨⟨x0,x1⟩,y0,y1,y2,y3,y4,y5,y6⟩:=HCT.out w' ((Frm.refl F w7).drew.trans hC)
   clear hC
   go_simp
   try rfl
  try simp only[nrm,Nat.reduceAdd]
 refine tcn ?_
 obtain⟨wd,hwd⟩:∃ wd,w7.drew=wd:=⟨_,rfl⟩
 have hfd:Frm [] w7 wd:=by rw[← hwd];exact(Frm.refl _ _).drew
 rw[hwd]
 clear hwd
 have HG8:=Lib.hid (HG7.out _ (hfd.alloc (.cells #[.pointer (some ⟨sb,0,none⟩),.int .i64 d.par,.int .i64 d.mv.kind,.int .i64 d.mv.role,.int .i64 d.mv.step,.int .i64 d.mv.place,.int .i64 d.lvl] 117)))
 refine honL 6 ?_
 refine heldL_step (i:=6) rfl rfl (by rfl) (fun K' hK'=>?_)
 go_simp
 (skip)
 refine hK'.out _ _ ((Frm.refl _ _).alloc _) ?_
 clear hK' K'
 try simp only[nrm]
 obtain⟨w8,hw8⟩:∃ w8,wd.alloc (.cells #[.pointer (some ⟨sb,0,none⟩),.int .i64 d.par,.int .i64 d.mv.kind,.int .i64 d.mv.role,.int .i64 d.mv.step,.int .i64 d.mv.place,.int .i64 d.lvl] 117)=w8:=⟨_,rfl⟩
 have HF8:Hid (Frm [] w7 w8):=Lib.hid (by rw[← hw8];exact hfd.alloc _)
 have hnews:∀ j u,(ndC1 (d,sb))[j]?=some u→w8.cell? ((⟨wd.heap.size,0,none⟩:Addr).add j)=some u:=by rw[← hw8];exact new_row wd _ _
 rw[hw8] at HG8 ⊢
 have hsz8:w.heap.size≤w8.heap.size:=by have:=HS6.out.fr.size;have:=HF7.out.size;have:=HF8.out.size;omega
 have HNW:=Lib.hid hnews
 clear hw8 hnews hfd
 refine honL 7 ?_
 refine heldL_step (i:=7) rfl rfl (by rfl) (fun K' hK'=>?_)
 refine wp_append_all (NdG w8) _ _ 113 rfl w.heap.size 117 i0 ndZ 7 56 Tryz.underlying113 hi0 hz0 hz1 hz2 rfl (by decide) (.slice ao' N.length cap') N.length (ndC N) ?_ (HF8.out.owns HR7.out (by simp)) ⟨wd.heap.size,0,none⟩ 1 1 (ndC1 (d,sb)) ?_ rfl HNW.out (by simp[Value.oneCell',ndC1]) (by have:=HN.out;unfold maxLen;omega) (by have:=HN.out;omega) hsz8 (by omega) HG8.out (ndG_zero _) (ndG_one (HTY.out.frm HF8.out (by simp))) ?_;(focus (go_simp;done));(focus (go_simp;done));intro v' w9 hown' hgrow hG9 hob;have HOB:=Lib.hid hob;have HO:=Lib.hid hown';have HGR:=Lib.hid hgrow;have HG9:=Lib.hid hG9;have hfg:Frm F w8 w9:=(Frm.refl _ _).grown hgrow (fun k hk=>.inl (by rw[← HFE.out];simp[hk]));have hbx:=HQF.out w9 ((HF8.out.mono (by simp)).trans hfg);have cx9:=cell_of hbx 2;have fx9:=free_of hbx 2;obtain⟨ao9,cp9,rfl⟩:=own_shape hown';clear hown' hgrow hG9 hbx hob
 refine hK'.out _ _ hfg ?_
 clear hK' K'
 try simp only[nrm]
 refine cnt 8 ?_
 iterate 2
  refine hcL ?_ ?_ ?_
  rotate_left
  ·intro w' hC
   clear hC
   go_simp
   try rfl
  try simp only[nrm,Nat.reduceAdd]
 refine tcn ?_
 refine honL 10 ?_
 refine heldL_write (i:=10) rfl (by rfl) (by rfl) (fun K' hK'=>?_)
 go_simp
 (skip)
 refine hK'.out _ _ ?_
 clear hK' K'
 try simp only[nrm]
 refine heldL_done (by kernel_rfl) ?_ _
 go_wp2
 go_ret
 refine⟨rfl,?_⟩
 obtain⟨r1,r2,r3⟩:=HS6.out.add HS.out (HD.out.frm HF6.out) HK.out HG1.out HG2'.out HG3.out HM7.out HF7.out HF8.out HGR.out HO.out HG9.out
 refine⟨r1,⟨_,(HF6.out.mono (by simp)).trans r2,HSP.out.spB HB1.out HB2.out HB3.out⟩,fun k hk=>?_⟩
 rintro⟨a,b,v,m,e1,e2⟩
 rw[r3] at e1
 cases e1
 rcases HOB.out with e | e
 ·exact⟨_,_,_,_,HB1.out,e ▸ e2⟩
 ·rw[e] at e2
  cases e2
  have:=HF6.out.size
  have:=HF7.out.size
  have:=HF8.out.size
  omega
end
end Go.Proofs.YtemjlpahohmajaaGreat
namespace Go.Proofs.YtemjlpahohmajaaGreat
open Go.RowKit Go.BigFrame Go.Maps
theorem cat_le {α:Type} {f:Nat→List α} {b:Nat}:∀ {n:Nat},(∀ k,k < n→(f k).length≤b)→(cat f n).length≤n * b
 | 0,_=>by simp[cat]
 | n + 1,h=>by
   rw[cat,List.length_append]
   have h1:=cat_le (n:=n) fun k hk=>h k (by omega)
   have h2:=h n (by omega)
   rw[Nat.add_mul,Nat.one_mul]
   omega
theorem flatMap_len {α β:Type} {f:α→List β} {b:Nat} (h:∀ x,(f x).length≤b):∀ l:List α,(l.flatMap f).length≤l.length * b
 | []=>by simp
 | x :: l=>by
   rw[List.flatMap_cons,List.length_append,List.length_cons,Nat.add_mul,Nat.one_mul]
   have:=flatMap_len h l
   have:=h x
   omega
theorem keyS_size {s:SesD} {x:PS} (hs:SesOk s) (hx:PSok s x):(keyS s x).size≤3000:=by
 have h4:=hs.n4
 have hr:∀ i,i < s.roles.length→(keyRole x i).length≤9:=fun i hi=>by
  unfold keyRole
  rw[List.length_cons]
  have h1:=flatMap_len (f:=two) (b:=2) (fun v=>by simp[two]) (x.bank i)
  have h2:=(hx.vb i hi).1
  have h3:=(hs.at hi).c4
  omega
 have hw:∀ i k,i < s.roles.length→k < s.roles.length→(keyWay s x i k).length≤140:=fun i k hi hk=>by
  unfold keyWay
  split
  ·simp
  ·rw[List.length_cons]
   obtain⟨h1,h2⟩:=hx.wb i k hi hk
   have h3:=keyB_size (keyL s.cls (x.way i k)) fun m hm=>(h2 m (keyL_mem hm)).2
   rw[keyL_length] at h3
   have h5:=hs.k4
   have h6:(byt (keyB (keyL s.cls (x.way i k)))).length=(keyB (keyL s.cls (x.way i k))).size:=byt_length _
   omega
 have e:(keyS s x).size=(keyP s x).length:=by
  unfold keyS
  exact List.size_toArray
 rw[e]
 unfold keyP
 rw[List.length_append]
 have h1:=cat_le (f:=keyRole x) (n:=s.roles.length) hr
 have h2:=cat_le (f:=fun i=>cat (keyWay s x i) s.roles.length) (n:=s.roles.length) (b:=4 * 140) fun i hi=>Nat.le_trans (cat_le fun k hk=>hw i k hi hk) (Nat.mul_le_mul_right _ h4)
 have h3:s.roles.length * 9≤4 * 9:=Nat.mul_le_mul_right _ h4
 have h5:s.roles.length * (4 * 140)≤4 * (4 * 140):=Nat.mul_le_mul_right _ h4
 omega
theorem addMv_snoc {s:SesD} {lim:Nat} {x:PS} {n lvl:Nat} {m:Mv}:∀ {ms:List Mv} {N N':List Nd},addMv s lim x n lvl N ms=(N',true)→addMv s lim x n lvl N (ms ++ [m])=addMv s lim x n lvl N' [m]
 | [],N,N',h=>by cases h;rfl
 | a :: ms,N,N',h=>by
   rw[List.cons_append,addMv]
   rw[addMv] at h
   split at h
   ·rename_i hk;rw[if_pos hk];exact addMv_snoc h
   ·rename_i hk
    rw[if_neg hk]
    split at h
    ·cases h
    ·rename_i hl;rw[if_neg hl];exact addMv_snoc h
theorem addMv_stop {s:SesD} {lim:Nat} {x:PS} {n lvl:Nat}:∀ {ms ks:List Mv} {N N':List Nd},addMv s lim x n lvl N ms=(N',false)→addMv s lim x n lvl N (ms ++ ks)=(N',false)
 | [],ks,N,N',h=>by cases h
 | a :: ms,ks,N,N',h=>by
   rw[List.cons_append,addMv]
   rw[addMv] at h
   split at h
   ·rename_i hk;rw[if_pos hk];exact addMv_stop h
   ·rename_i hk
    rw[if_neg hk]
    split at h
    ·rename_i hl;rw[if_pos hl];exact h
    ·rename_i hl;rw[if_neg hl];exact addMv_stop h
theorem addMv_one {s:SesD} {lim:Nat} {x:PS} {n lvl:Nat} {m:Mv} {N:List Nd}:addMv s lim x n lvl N [m]=if hasK s N (keyP s (nextP s x m)) then (N,true) else if N.length=lim then (N,false) else (N ++ [⟨nextP s x m,n,m,lvl + 1⟩],true):=by
 rw[addMv,addMv,addMv]
theorem wp_store_row {P:Program} {op:Oper} {a:Act} {w:World} {K:Act→World→Prop} {Q:Exit→Act→World→Prop} (ty:TypeId) (x y:Operand) (ho:op.op=.store ty x y) (b:Nat) (A C:Array Value) (t:TypeId) (hx:a.eval x=.pointer (some ⟨b,0,none⟩)) (hy:a.eval y=.agg A)
  (hb:w.heap[b]?=some (.cells C t (0,0))) (hs:A.size=C.size) (hi:(P.info? ty).map (·.size)=some A.size) (h1:A.all (·.oneCell')=true)
  (h:∀ w',w'.heap[b]?=some (.cells A t (0,0))→Frm [b] w w'→K (a.put op.dst undef) w'):op.wp P a w K Q:=by
 have hw:=setCells_whole hb A hs
 refine wp_store_mid ty x y ho b 0 A hx hy (fun j hj=>⟨?_,?_⟩) hi h1 (h _ hw.1 hw.2)
 ·rw[Nat.zero_add,cell_of hb];simp[show j < C.size by omega]
 ·rw[Nat.zero_add];exact free_of hb j
structure SeS (w:World) (s:SesD) (yb fb:Nat) (lim:Int) (whole:Bool) (qb mb yB cb ab:Nat) (N:List (Nd × Nat)) (W:World):Prop where
 sp:SpR w s yb lim whole qb mb N W
 y:W.heap[yB]?=some (.cells #[.pointer (some ⟨yb,0,none⟩)] 26 (0,0))
 c:W.heap[cb]?=some (.cells #[.pointer (some ⟨qb,0,none⟩)] 109 (0,0))
 a:W.heap[ab]?=some (.cells #[.func (.func 45) #[] #[.pointer (some ⟨cb,0,none⟩)]] 119 (0,0))
 sy:SyR W s yb fb
theorem book_fg {W:World}:∀ b∈books W,FgB W b:=fun b hb=>by
 obtain⟨o,ho,hi⟩:=mem_books.1 hb
 have hn:∀ C t fr,o≠.cells C t fr:=fun C t fr e=>by subst e;cases hi
 have hc:∀ x,W.cell? ⟨b,x,none⟩=none:=fun x=>by
  unfold World.cell?
  rw[ho]
  cases o with
  | cells C t fr=>exact absurd rfl (hn _ _ _)
  | _=>rfl
 exact⟨fun C t e=>(by rw[ho] at e;cases e;exact absurd rfl (hn _ _ _)),fun o' x e=>(by rw[hc] at e;cases e),fun o' p e=>(by rw[hc] at e;cases e),fun o' g o'' p n c e=>(by rw[hc] at e;cases e)⟩
section
variable {w W V:World} {s:SesD} {yb fb qb mb yB cb ab:Nat} {lim:Int} {whole:Bool} {N N':List (Nd × Nat)}
theorem SpR.bk (h:SpR w s yb lim whole qb mb N W) (hs:0 < s.roles.length) {B:Nat} (hb:Bk B W V) (hB:w.heap.size≤B):SpR w s yb lim whole qb mb N V:=by
 obtain⟨ao,cap,h1,h2,h3⟩:=h.bx
 have hf:=hb.frm
 have hnb:∀ {k:Nat} {C:Array Value} {t:TypeId},W.heap[k]?=some (.cells C t (0,0))→k∉books W:=fun hk=>not_books hk rfl
 refine⟨hb.old h.fr hB,h.lq,h.lm,⟨ao,cap,hb.at h1 rfl,hf.owns h2 fun k hk=>?_,fun g cur hg hc u hu=>?_⟩,h.mp.frm hf fun b e=>?_,fun d hd=>(h.st d hd).fg hs book_fg hf⟩
 ·obtain⟨c,hc⟩:=ownBlock_type h2 hk
  exact hnb hc
 ·obtain⟨c,hc'⟩:=ownBlock_type h2 hg
  have:=hb.at hc' rfl
  rw[this] at hc
  cases hc
  exact(h3 g _ hg hc' u hu).frm hf fun p hp=>by
   obtain⟨D,hD⟩:=hp
   exact hnb hD
 ·cases e
  obtain⟨es,c,hm⟩:=h.mp.block rfl
  exact not_books hm rfl
theorem SyR.bk (h:SyR W s yb fb) {B:Nat} (hb:Bk B W V):SyR V s yb fb:=h.fg book_fg hb.frm
theorem SeS.bk (h:SeS w s yb fb lim whole qb mb yB cb ab N W) {B:Nat} (hb:Bk B W V) (hB:w.heap.size≤B):SeS w s yb fb lim whole qb mb yB cb ab N V:=
 ⟨h.sp.bk (by have:=h.sy.ok.n2;omega) hb hB,hb.at h.y rfl,hb.at h.c rfl,hb.at h.a rfl,h.sy.bk hb⟩
theorem SeS.frm (h:SeS w s yb fb lim whole qb mb yB cb ab N W) (hf:Frm [] W V):SeS w s yb fb lim whole qb mb yB cb ab N V:=
 ⟨h.sp.frm hf,hf.at h.y (by simp),hf.at h.c (by simp),hf.at h.a (by simp),h.sy.frm hf⟩
theorem SeS.to (h:SeS w s yb fb lim whole qb mb yB cb ab N W) (ha:AdTo w s yb lim whole qb mb N' W V):SeS w s yb fb lim whole qb mb yB cb ab N' V:=by
 obtain⟨h1,⟨F,hf,hF⟩,-⟩:=ha
 exact⟨h1,SpB.at hF hf h.y (by decide) (.inl (by decide)),SpB.at hF hf h.c (by decide) (.inl (by decide)),SpB.at hF hf h.a (by decide) (.inl (by decide)),h.sy.fg (SpB.fg hF) hf⟩
theorem SpR.part (h:SpR w s yb lim whole qb mb N W) (hs:0 < s.roles.length):SpR w s yb lim false qb mb N (W.setCell ⟨qb,1,none⟩ (.bool false)):=by
 obtain⟨ao,cap,h1,h2,h3⟩:=h.bx
 have hfg:∀ b∈[qb],FgB W b:=fun b hb=>by rw[List.mem_singleton] at hb;subst hb;exact h.fgq.1
 obtain⟨V,hV⟩:∃ V,W.setCell ⟨qb,1,none⟩ (.bool false)=V:=⟨_,rfl⟩
 have hf:Frm [qb] W V:=by rw[← hV];exact(Frm.refl _ _).setCell _ (.inl (by simp)) _
 have b1:V.heap[qb]?=some (.cells #[.int .i64 lim,.bool false,.slice ao N.length cap,.map (some mb)] 115 (0,0)):=by rw[← hV];exact(block_setCell h1 1 _).trans rfl
 have hr:∀ k,(Value.slice ao N.length cap).ownBlock=some k→k∉[qb]:=fun k hk hm=>by
  rw[List.mem_singleton] at hm
  subst hm
  obtain⟨c,hc⟩:=ownBlock_type h2 hk
  rw[h1] at hc;cases hc
 rw[hV]
 refine⟨h.fr.then hf (by intro k hk;simp at hk;subst hk;exact .inr h.lq),h.lq,h.lm,⟨ao,cap,b1,hf.owns h2 hr,fun g cur hg hc u hu=>?_⟩,h.mp.frm hf fun b e hm=>?_,fun d hd=>(h.st d hd).fg hs hfg hf⟩
 ·obtain⟨c,hc'⟩:=ownBlock_type h2 hg
  have:=hf.at hc' (hr g hg)
  rw[this] at hc
  cases hc
  exact(h3 g _ hg hc' u hu).frm hf fun p hp hm=>by
   obtain⟨D,hD⟩:=hp
   exact FgB.ne hfg hD (by simp[sysT]) hm
 ·cases e
  rw[List.mem_singleton] at hm
  subst hm
  obtain⟨es,c,hm⟩:=h.mp.block rfl
  rw[h1] at hm;cases hm
theorem SeS.part (h:SeS w s yb fb lim whole qb mb yB cb ab N W):SeS w s yb fb lim false qb mb yB cb ab N (W.setCell ⟨qb,1,none⟩ (.bool false))∧KB W (W.setCell ⟨qb,1,none⟩ (.bool false)):=by
 have hn:0 < s.roles.length:=by have:=h.sy.ok.n2;omega
 obtain⟨ao,cap,h1,h2,h3⟩:=h.sp.bx
 have hfg:∀ b∈[qb],FgB W b:=fun b hb=>by rw[List.mem_singleton] at hb;subst hb;exact h.sp.fgq.1
 have hf:Frm [qb] W (W.setCell ⟨qb,1,none⟩ (.bool false)):=(Frm.refl _ _).setCell _ (.inl (by simp)) _
 have ht:∀ {k:Nat} {C:Array Value} {t:TypeId},W.heap[k]?=some (.cells C t (0,0))→t≠115→k∉[qb]:=fun hk ht hm=>by
  rw[List.mem_singleton] at hm
  subst hm
  rw[h1] at hk;cases hk
  exact ht rfl
 refine⟨⟨h.sp.part hn,hf.at h.y (ht h.y (by decide)),hf.at h.c (ht h.c (by decide)),hf.at h.a (ht h.a (by decide)),h.sy.fg hfg hf⟩,KB.frm hf fun k hk hb=>?_⟩
 rw[List.mem_singleton] at hk
 subst hk
 exact not_books h1 rfl hb
structure SrS (w:World) (s:SesD) (yb fb:Nat) (lim:Int) (whole:Bool) (qb mb yB cb ab nb xb n:Nat) (d:Nd × Nat) (B:Nat) (u:Value) (L:List Mv) (N:List (Nd × Nat)) (W:World):Prop where
 se:SeS w s yb fb lim whole qb mb yB cb ab N W
 hn:W.heap[nb]?=some (.cells #[.int .i64 n] 3 (0,0))
 hx:W.heap[xb]?=some (.cells #[.pointer (some ⟨d.2,0,none⟩),.int .i64 d.1.par,.int .i64 d.1.mv.kind,.int .i64 d.1.mv.role,.int .i64 d.1.mv.step,.int .i64 d.1.mv.place,.int .i64 d.1.lvl] 117 (0,0))
 xr:¬ RowOf W qb xb
 hb:W.heap[B]?=some (.cells #[u] 49 (0,0))
 hu:W.ownsRow w.heap.size 70 4 u L.length (mvC L)
 at':N[n]?=some d
variable {nb xb n B:Nat} {d:Nd × Nat} {u:Value} {L:List Mv}
theorem SrS.mvs (h:SrS w s yb fb lim whole qb mb yB cb ab nb xb n d B u L N W):MvI B u L W:=⟨h.hb,mv_arr h.hu⟩
theorem RowOf.back {F:List Nat} {k:Nat} (hf:Frm F W V) (hq:qb∉F) (hl:qb < W.heap.size) (h:RowOf V qb k):RowOf W qb k:=by
 obtain⟨a,b,v,m,e1,e2⟩:=h
 exact⟨a,b,v,m,(hf.block qb hl hq).symm.trans e1,e2⟩
theorem SpR.lt (h:SpR w s yb lim whole qb mb N W):qb < W.heap.size:=by
 obtain⟨ao,cap,h1,-⟩:=h.bx
 exact lt_of_block h1
theorem SrS.frm (h:SrS w s yb fb lim whole qb mb yB cb ab nb xb n d B u L N W) (hf:Frm [] W V):SrS w s yb fb lim whole qb mb yB cb ab nb xb n d B u L N V:=
 ⟨h.se.frm hf,hf.at h.hn (by simp),hf.at h.hx (by simp),fun hr=>h.xr (hr.back hf (by simp) h.se.sp.lt),hf.at h.hb (by simp),hf.owns h.hu (by simp),h.at'⟩
theorem SrS.bk (h:SrS w s yb fb lim whole qb mb yB cb ab nb xb n d B u L N W) {D:Nat} (hb:Bk D W V) (hD:w.heap.size≤D):SrS w s yb fb lim whole qb mb yB cb ab nb xb n d B u L N V:=by
 refine⟨h.se.bk hb hD,hb.at h.hn rfl,hb.at h.hx rfl,fun hr=>h.xr ?_,hb.at h.hb rfl,hb.frm.owns h.hu fun k hk=>?_,h.at'⟩
 ·obtain⟨ao,cap,h1,-⟩:=h.se.sp.bx
  exact hr.back hb.frm (not_books h1 rfl) (lt_of_block h1)
 ·obtain⟨c,hc⟩:=ownBlock_type h.hu hk
  exact not_books hc rfl
theorem SrS.to (h:SrS w s yb fb lim whole qb mb yB cb ab nb xb n d B u L N W) (ha:AdTo w s yb lim whole qb mb N' W V) (hn:N'[n]?=some d):SrS w s yb fb lim whole qb mb yB cb ab nb xb n d B u L N' V:=by
 have h0:=h.se.to ha
 obtain⟨h1,⟨F,hf,hF⟩,hr⟩:=ha
 refine⟨h0,SpB.at hF hf h.hn (by decide) (.inl (by decide)),SpB.at hF hf h.hx (by decide) (.inr h.xr),fun e=>h.xr (hr _ (lt_of_block h.hx) e),SpB.at hF hf h.hb (by decide) (.inl (by decide)),hf.owns h.hu fun k hk hm=>?_,hn⟩
 obtain⟨c,hc⟩:=ownBlock_type h.hu hk
 have:=SpB.at hF hf hc (by decide) (.inl (by decide))
 rcases (hF k hm).2 with ⟨es,c',e⟩ | ⟨D,e⟩ | ⟨⟨D,e⟩,-⟩ <;> rw[hc] at e <;> cases e
theorem AdTo.kb (ha:AdTo w s yb lim whole qb mb N' W V):KB W V:=by
 obtain⟨h1,⟨F,hf,hF⟩,-⟩:=ha
 refine KB.frm hf fun k hk hb=>?_
 obtain⟨o,ho,hi⟩:=mem_books.1 hb
 rcases (hF k hk).2 with ⟨es,c',e⟩ | ⟨D,e⟩ | ⟨⟨D,e⟩,-⟩ <;> rw[ho] at e <;> cases e <;> cases hi
end
def SrI (w:World) (s:SesD) (yb fb lim qb mb yB cb ab nb xb n:Nat) (d:Nd × Nat) (B:Nat) (u:Value) (L:List Mv) (N0:List Nd) (ds:List Nat) (pre:List (Nat × Mv)) (W:World):Prop:=
 ∃ N,SrS w s yb fb lim true qb mb yB cb ab nb xb n d B u L N W∧addMv s lim d.1.st n d.1.lvl N0 (pre.map Prod.snd)=(N.map Prod.fst,true)∧(N.length≤lim∧∀ e∈N,e.1.lvl≤N.length)∧Ms w ds W
def SrX (c:Code) (w:World) (s:SesD) (yb fb lim qb mb yB cb ab n:Nat) (d:Nd × Nat) (N0:List Nd) (ds:List Nat) (c':Code) (pre:List (Nat × Mv)) (W:World):Prop:=
 c'=c∧∃ N,SeS w s yb fb lim false qb mb yB cb ab N W∧addMv s lim d.1.st n d.1.lvl N0 (pre.map Prod.snd)=(N.map Prod.fst,false)∧Ms w ds W
section
variable {w W V:World} {s:SesD} {yb fb lim qb mb yB cb ab nb xb n B D:Nat} {d:Nd × Nat} {u:Value} {L:List Mv} {N0:List Nd} {ds:List Nat} {pre:List (Nat × Mv)} {c c':Code}
theorem Ms.bk (h:Ms w ds W) (hb:Bk D W V) (hds:∀ E∈ds,E < D):Ms w ds V:=⟨h.nd,fun E hE=>⟨(h.dl E hE).1,hb.block E _ (h.dl E hE).2 (.inl (hds E hE))⟩⟩
theorem Ms.kb (h:Ms w ds W) (hk:KB W V):Ms w ds V:=⟨h.nd,fun E hE=>⟨(h.dl E hE).1,hk E _ (h.dl E hE).2 rfl⟩⟩
theorem SrI.bk (h:SrI w s yb fb lim qb mb yB cb ab nb xb n d B u L N0 ds pre W) (hb:Bk D W V) (hD:w.heap.size≤D) (hds:∀ E∈ds,E < D):SrI w s yb fb lim qb mb yB cb ab nb xb n d B u L N0 ds pre V:=by
 obtain⟨N,h1,h2,h3,h4⟩:=h
 exact⟨N,h1.bk hb hD,h2,h3,h4.bk hb hds⟩
theorem SrX.bk (h:SrX c w s yb fb lim qb mb yB cb ab n d N0 ds c' pre W) (hb:Bk D W V) (hD:w.heap.size≤D) (hds:∀ E∈ds,E < D):SrX c w s yb fb lim qb mb yB cb ab n d N0 ds c' pre V:=by
 obtain⟨h0,N,h1,h2,h4⟩:=h
 exact⟨h0,N,h1.bk hb hD,h2,h4.bk hb hds⟩
end
theorem numL_some {α:Type} {L:List α} {pre rest:List (Nat × α)} {y:Nat × α} (h:numL L=pre ++ y :: rest):L[pre.length]?=some y.2:=by
 have h1:(numL L)[pre.length]?=some y:=by rw[h,List.getElem?_append_right (Nat.le_refl _),Nat.sub_self];rfl
 rw[numL_at,Option.map_eq_some_iff] at h1
 obtain⟨m,hm,rfl⟩:=h1
 exact hm
theorem bfs_step {s:SesD} {lim f n:Nat} {N N':List Nd} {d:Nd} (h:N[n]?=some d) (h2:addMv s lim d.st n d.lvl N (movesP s d.st)=(N',true)):bfs s lim (f + 1) n N=bfs s lim f (n + 1) N':=by
 rw[bfs,h]
 simp only[h2]
theorem bfs_stop {s:SesD} {lim f n:Nat} {N N':List Nd} {d:Nd} (h:N[n]?=some d) (h2:addMv s lim d.st n d.lvl N (movesP s d.st)=(N',false)):bfs s lim (f + 1) n N=(N',false):=by
 rw[bfs,h]
 simp only[h2]
theorem bfs_end {s:SesD} {lim f n:Nat} {N:List Nd} (h:N[n]?=none):bfs s lim (f + 1) n N=(N,true):=by
 rw[bfs,h]
theorem Ms.unmark {w W:World} {ds:List Nat} (h:Ms w ds W):Bk w.heap.size W (unmark ds W):=by
 have hf:=unmark_frm ds W
 refine⟨hf.os,hf.tape,hf.output,hf.size,fun k o hk ho=>hf.at hk fun hm=>?_⟩
 obtain⟨h1,h2⟩:=h.dl k hm
 rw[hk] at h2
 cases h2
 rcases ho with ho | ho
 ·omega
 ·cases ho
set_option maxHeartbeats 2000000 in
set_option maxRecDepth 100000 in
theorem pMvs_own (s:SesD) (yb fb sb:Nat) (x:PS) (w:World) (h:SyR w s yb fb) (hx:StR w s yb sb x):Calls Tryz.prog 33 #[.pointer (some ⟨yb,0,none⟩),.pointer (some ⟨sb,0,none⟩)] w
  (RetV fun v w'=>∃ B u,v=.func (.func 126) #[] #[.pointer (some ⟨B,0,none⟩)]∧w'.heap[B]?=some (.cells #[u] 49 (0,0))∧w'.ownsRow w.heap.size 70 4 u (movesP s x).length (mvC (movesP s x))∧Frm [] w w'):=by
 have C1:=Lib.hid (pCheck_any s yb fb sb x w h hx)
 have C2:=Lib.hid (pmoves_own s yb fb sb x w h hx)
 clear h hx
 go_enter Tryz.func33,Tryz.ntmps33
 go_wp2_with (first
  | (go_at_call 61;go_must (refine C1.out.mono ?_;rintro e w' ⟨rfl,rfl⟩))
  | (go_at_call 63;go_must (refine C2.out.mono ?_;rintro e w1 ⟨v,rfl,ha,hf⟩;obtain⟨ao,cq,rfl⟩:=own_shape ha;have HA:=Lib.hid ha;have HF:=Lib.hid hf;have C3:=Lib.hid (alMove_any _ (movesP s x) w1 (mv_arr ha));clear ha hf))
  | (go_at_call 75;go_must (refine C3.out.mono ?_;rintro e w2 ⟨v,rfl,rfl,ha,hf⟩;have HB:=Lib.hid ha;have HG:=Lib.hid hf;clear ha hf)))
 go_ret
 exact⟨_,rfl,_,_,rfl,HB.out.b,HG.out.owns HA.out (by simp),HF.out.trans HG.out⟩
end Go.Proofs.YtemjlpahohmajaaGreat
