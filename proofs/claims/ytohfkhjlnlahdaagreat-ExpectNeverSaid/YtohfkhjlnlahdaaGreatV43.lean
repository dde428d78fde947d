/- Part of the proof. -/
import Derived.Test.YtohfkhjlnlahdaaGreatV41
import Derived.Laws.EntriesVeiled
import Derived.Test.YtohfkhjlnlahdaaGreatV36
import Derived.Test.YtohfkhjlnlahdaaGreatV37
set_option linter.all false
namespace Go.Proofs.YtohfkhjlnlahdaaGreat
open Go.RowKit Go.BigFrame Go.Maps
def SchTo (w:World) (s:SesD) (yb lim:Nat) (v:Value) (w':World):Prop:=
 ∃ pb N,v=.tuple #[.pointer (some ⟨pb,0,none⟩),.int .i64 0]∧SpO w' s yb (searchP s lim).2 pb N∧N.map Prod.fst=(searchP s lim).1∧Frm [] w w'
def boxOf (v:Value) (w:World):Nat:=match v with | .pointer (some a)=>(intOf ((w.cell? a).getD undef)).toNat | _=>0
theorem sch_end {w W:World} {s:SesD} {yb fb lim qb mb yB cb ab pb:Nat} {whole:Bool} {N:List (Nd × Nat)} {ds:List Nat} {fn:Func} {tmps:Array Value} (h:SeS w s yb fb lim whole qb mb yB cb ab N W)
  (hp:W.heap[pb]?=some (.cells #[.pointer (some ⟨qb,0,none⟩)] 219 (0,0))) (hm:Ms w ds W) (hN:searchP s lim=(N.map Prod.fst,whole)) (hr:∀ V:World,(results fn tmps).run Tryz.prog V=.ok (.tuple #[.pointer (some ⟨pb,0,none⟩),.int .i64 0]) V) :
  LeavesInM Fence.wide 3 Tryz.prog fn tmps (RetV (SchTo w s yb lim)) (marks ds) .returning W:=by
 have hb:=hm.unmark
 have h2:=h.sp.bk (by have:=h.sy.ok.n2;omega) hb (Nat.le_refl _)
 refine leaves_many ds W hm.nd (fun D hD=>(hm.dl D hD).2) ⟨_,hr _,_,rfl,pb,N,rfl,?_,by rw[hN],h2.fr⟩
 rw[hN]
 exact h2.done (hb.at hp rfl)
theorem boxOf_at {W:World} {b:Nat} {i:Int} (h:W.heap[b]?=some (.cells #[.int .i64 i] 3 (0,0))):boxOf (.pointer (some ⟨b,0,none⟩)) W=i.toNat:=by
 have h2:W.cell? ⟨b,0,none⟩=some (.int .i64 i):=cell_of h 0
 unfold boxOf
 simp only[h2,Option.getD_some]
 rfl
theorem Ms.cons {w W:World} {ds:List Nat} {D:Nat} (h:Ms w ds W) (hds:∀ E∈ds,E < D) (hD:w.heap.size≤D) (hk:W.heap[D]?=some (.deferred (some []))):Ms w (D :: ds) W:=by
 refine⟨List.nodup_cons.2 ⟨fun hx=>by have:=hds D hx;omega,h.nd⟩,fun E hE=>?_⟩
 rcases List.mem_cons.1 hE with rfl | hE
 ·exact⟨hD,hk⟩
 ·exact h.dl E hE
attribute [local go_sem] Oper.semAt_some
set_option maxHeartbeats 8000000 in
set_option maxRecDepth 100000 in
theorem xSearch_any (s:SesD) (yb fb lim:Nat) (w:World) (h:SyR w s yb fb) (h1:1≤lim) (h2:lim≤200000) :
  Calls Tryz.prog 57 #[.pointer (some ⟨yb,0,none⟩),.int .i64 lim] w (RetV (SchTo w s yb lim)):=by
 obtain⟨w0,hw0⟩:∃ w0,w.alloc (.cells #[.pointer (some ⟨yb,0,none⟩)] 27)=w0:=⟨_,rfl⟩
 have hf0:Frm [] w w0:=by rw[← hw0];exact(Frm.refl _ _).alloc _
 have hb0:w0.heap[w.heap.size]?=some (.cells #[.pointer (some ⟨yb,0,none⟩)] 27 (0,0)):=by rw[← hw0];exact heap_alloc_new _ _
 have CF:=Lib.hid (pFirst_any s yb fb w0 (h.frm hf0))
 have y0:=cell_of hb0 0
 have hl1:¬ ((lim:Int) < 1):=by omega
 have hl2:¬ (200000 < (lim:Int)):=by omega
 have HSY:=Lib.hid h;have HF0:=Lib.hid hf0;have HB0:=Lib.hid hb0;have HE:=Lib.hid hw0;have HL1:=Lib.hid h1;have HL2:=Lib.hid h2
 clear h hf0 hb0 hw0 h1 h2
 have hmm:=@run_makeMap Tryz.prog
 refine calls_of_marks Tryz.func57 rfl ?_
 simp only[Tryz.ntmps57,List.size_toArray,List.length_cons,List.length_nil,Nat.reduceAdd,Nat.reduceSub,Array.replicate_succ,Array.replicate_zero,List.push_toArray,List.append_toArray,List.nil_append,List.cons_append]
 go_upto_region 1 with fail
 rw[HE.out]
 refine wp_scope_straight ?_
 obtain⟨W4,hW4⟩:∃ W4,(((w0.alloc (.map #[] 0)).alloc (.cells #[.int .i64 lim,.bool true,.slice none 0 0,.map (some w0.heap.size)] 214)).alloc (.cells #[.pointer (some ⟨w0.heap.size + 1,0,none⟩)] 208)).alloc (.cells #[.func (.func 117) #[] #[.pointer (some ⟨w0.heap.size + 1 + 1,0,none⟩)]] 217)=W4:=⟨_,rfl⟩
 have hf4:Frm [] w0 W4:=by rw[← hW4];exact((((Frm.refl _ _).alloc _).alloc _).alloc _).alloc _
 have hq4:W4.heap[w0.heap.size + 1]?=some (.cells #[.int .i64 lim,.bool true,.slice none 0 0,.map (some w0.heap.size)] 214 (0,0)):=by
  rw[← hW4]
  exact alloc_at (alloc_at (alloc_top (by simp)))
 have hc4:W4.heap[w0.heap.size + 1 + 1]?=some (.cells #[.pointer (some ⟨w0.heap.size + 1,0,none⟩)] 208 (0,0)):=by
  rw[← hW4]
  exact alloc_at (alloc_top (by simp))
 have ha4:W4.heap[w0.heap.size + 1 + 1 + 1]?=some (.cells #[.func (.func 117) #[] #[.pointer (some ⟨w0.heap.size + 1 + 1,0,none⟩)]] 217 (0,0)):=by
  rw[← hW4]
  exact alloc_top (by simp)
 have hm4:MapAt Tryz.prog 9 W4 (some w0.heap.size) 0 (keyF s []) 0:=by
  rw[keyF_nil]
  refine(MapAt.made Tryz.prog 9 w0).frm (F:=[]) ?_ (by simp)
  rw[← hW4]
  exact(((Frm.refl _ _).alloc _).alloc _).alloc _
 have hsz:w.heap.size≤w0.heap.size:=HF0.out.size
 have hSE:SeS w s yb fb lim true (w0.heap.size + 1) w0.heap.size w.heap.size (w0.heap.size + 1 + 1) (w0.heap.size + 1 + 1 + 1) [] W4:=
  ⟨⟨HF0.out.trans hf4,by omega,by omega,⟨none,0,hq4,World.ownsRow_nil _ _ _ _,fun g cur hg=>by cases hg⟩,hm4,fun d hd=>by simp at hd⟩,hf4.at HB0.out (by simp),hc4,ha4,HSY.out.frm (HF0.out.trans hf4)⟩
 have a0:=cell_of ha4 0
 have CA:Hid (Calls Tryz.prog 117 #[ndV (nd0 s,fb),.pointer (some ⟨w0.heap.size + 1 + 1,0,none⟩)] W4 (Ret (.bool true) (AdTo w s yb lim true (w0.heap.size + 1) w0.heap.size [(nd0 s,fb)] W4))):=
  Lib.hid (xAdd_new (d:=nd0 s) hSE.sp hSE.sy hSE.sy.first hc4 rfl (by have:=keyS_size HSY.out.ok (first_ok HSY.out.ok);unfold maxLen;exact Nat.le_trans this (by omega)) (by simp;have:=HL1.out;omega) (by have:=HSY.out.ok.n2;omega) (by simp))
 have HSE:=Lib.hid hSE;have HE4:=Lib.hid hW4
 clear hf4 hq4 hc4 hm4 ha4 hSE hW4
 go_upto_region 8 with (first
  | (go_at_call 18;go_must (refine CF.out.mono ?_;rintro e w' ⟨rfl,rfl⟩)))
 rw[HE4.out]
 go_wp2_with (first
  | (go_at_call 117;go_must (refine CA.out.mono ?_;rintro e w5 ⟨rfl,ha⟩;have HAT:=Lib.hid ha;clear ha)))
 clear CF CA hmm hsz a0 y0
 refine wp_label ?_
 go_wp2
 have HM0:Hid (SeS w s yb fb lim true (w0.heap.size + 1) w0.heap.size w.heap.size (w0.heap.size + 1 + 1) (w0.heap.size + 1 + 1 + 1) [(nd0 s,fb)] (w5.alloc (.cells #[.int .i64 0] 3))):=Lib.hid ((HSE.out.to HAT.out).frm ((Frm.refl _ _).alloc _))
 have HN0:Hid ((w5.alloc (.cells #[.int .i64 0] 3)).heap[w5.heap.size]?=some (.cells #[.int .i64 ((0:Nat):Int)] 3 (0,0))):=Lib.hid (heap_alloc_new _ _)
 obtain⟨qb,hqb⟩:∃ q,w0.heap.size + 1=q:=⟨_,rfl⟩
 obtain⟨mb,hmb⟩:∃ q,w0.heap.size=q:=⟨_,rfl⟩
 rw[hqb] at HM0 ⊢
 rw[hmb] at HM0 ⊢
 clear HSE HAT HE4 HE hqb hmb HB0
 refine wp_loop (fun a' w'=>∃ ds,∃ u9 u10 u11 u12 u13 u14 u37 u38 u39 u40 u41 u42 u43 u44 u45 u46 u47 u48 u49 u50 u51 u52 u53 u54 u55 u56 u57 u58 u59 u60 u61 u62 u63 u64 u65 u66 u67 u68 u69 u70 u71 u72 u73 u74 u75 u76 u77 u78 u79 u80 u81:Value,(fun ds u9 w'=>∃ (n nb:Nat) (N:List (Nd × Nat)) (f:Nat),(∀ e∈N,e.1.lvl≤N.length)∧u9=.pointer (some ⟨nb,0,none⟩)∧SeS w s yb fb lim true qb mb w.heap.size (qb + 1) (qb + 1 + 1) N w'∧w'.heap[nb]?=some (.cells #[.int .i64 (n:Nat)] 3 (0,0))∧bfs s lim f n (N.map Prod.fst)=searchP s lim∧lim + 1≤n + f∧n≤N.length∧N.length≤lim∧Ms w ds w') ds u9 w'∧a'={ tmps:=#[.pointer (some ⟨yb,0,none⟩),.int .i64 lim,.pointer (some ⟨w.heap.size,0,none⟩),undef,.pointer none,.int .i64 0,.pointer (some ⟨fb,0,none⟩),.pointer (some ⟨qb + 1,0,none⟩),.pointer (some ⟨qb + 1 + 1,0,none⟩),u9,u10,u11,u12,u13,u14,.pointer (some ⟨yb,0,none⟩),.pointer (some ⟨fb,0,none⟩),.bool false,.pointer (some ⟨fb,0,none⟩),.bool false,.bool (decide ((lim:Int) < 1) || decide (200000 < (lim:Int))),.int .i64 lim,.bool (decide ((lim:Int) < 1)),.bool (decide ((lim:Int) < 1)),.int .i64 lim,.bool (decide (200000 < (lim:Int))),.bool (decide ((lim:Int) < 1) || decide (200000 < (lim:Int))),.int .i64 lim,.agg #[.int .i64 lim,.bool true],.map (some mb),.agg #[.int .i64 lim,.bool true,.slice none 0 0,.map (some mb)],.pointer (some ⟨qb,0,none⟩),.func (.func 117) #[] #[.pointer (some ⟨qb + 1,0,none⟩)],.func (.func 117) #[] #[.pointer (some ⟨qb + 1,0,none⟩)],.pointer (some ⟨fb,0,none⟩),.agg #[.pointer (some ⟨fb,0,none⟩),.int .i64 (-1),.int .i64 0,.int .i64 0,.int .i64 0,.int .i64 0,.int .i64 0],.bool true,u37,u38,u39,u40,u41,u42,u43,u44,u45,u46,u47,u48,u49,u50,u51,u52,u53,u54,u55,u56,u57,u58,u59,u60,u61,u62,u63,u64,u65,u66,u67,u68,u69,u70,u71,u72,u73,u74,u75,u76,u77,u78,u79,u80,u81,undef,undef,undef],defers:=marks ds }) (fun a' w'=>lim + 1 - boxOf (a'.tmps.getD 9 undef) w') ?_ ?_
 ·refine⟨[],?_⟩
  (repeat apply Exists.intro)
  exact⟨⟨0,_,_,lim + 1,by simp[nd0],rfl,HM0.out,HN0.out,rfl,by omega,by simp,by simpa using HL1.out,Ms.nil _ _⟩,rfl⟩
 intro a' wr hinv
 obtain⟨ds,hinv⟩:=hinv
 obtain⟨u9,hinv⟩:=hinv
 obtain⟨u10,hinv⟩:=hinv
 obtain⟨u11,hinv⟩:=hinv
 obtain⟨u12,hinv⟩:=hinv
 obtain⟨u13,hinv⟩:=hinv
 obtain⟨u14,hinv⟩:=hinv
 obtain⟨u37,hinv⟩:=hinv
 obtain⟨u38,hinv⟩:=hinv
 obtain⟨u39,hinv⟩:=hinv
 obtain⟨u40,hinv⟩:=hinv
 obtain⟨u41,hinv⟩:=hinv
 obtain⟨u42,hinv⟩:=hinv
 obtain⟨u43,hinv⟩:=hinv
 obtain⟨u44,hinv⟩:=hinv
 obtain⟨u45,hinv⟩:=hinv
 obtain⟨u46,hinv⟩:=hinv
 obtain⟨u47,hinv⟩:=hinv
 obtain⟨u48,hinv⟩:=hinv
 obtain⟨u49,hinv⟩:=hinv
 obtain⟨u50,hinv⟩:=hinv
 obtain⟨u51,hinv⟩:=hinv
 obtain⟨u52,hinv⟩:=hinv
 obtain⟨u53,hinv⟩:=hinv
 obtain⟨u54,hinv⟩:=hinv
 obtain⟨u55,hinv⟩:=hinv
 obtain⟨u56,hinv⟩:=hinv
 obtain⟨u57,hinv⟩:=hinv
 obtain⟨u58,hinv⟩:=hinv
 obtain⟨u59,hinv⟩:=hinv
 obtain⟨u60,hinv⟩:=hinv
 obtain⟨u61,hinv⟩:=hinv
 obtain⟨u62,hinv⟩:=hinv
 obtain⟨u63,hinv⟩:=hinv
 obtain⟨u64,hinv⟩:=hinv
 obtain⟨u65,hinv⟩:=hinv
 obtain⟨u66,hinv⟩:=hinv
 obtain⟨u67,hinv⟩:=hinv
 obtain⟨u68,hinv⟩:=hinv
 obtain⟨u69,hinv⟩:=hinv
 obtain⟨u70,hinv⟩:=hinv
 obtain⟨u71,hinv⟩:=hinv
 obtain⟨u72,hinv⟩:=hinv
 obtain⟨u73,hinv⟩:=hinv
 obtain⟨u74,hinv⟩:=hinv
 obtain⟨u75,hinv⟩:=hinv
 obtain⟨u76,hinv⟩:=hinv
 obtain⟨u77,hinv⟩:=hinv
 obtain⟨u78,hinv⟩:=hinv
 obtain⟨u79,hinv⟩:=hinv
 obtain⟨u80,hinv⟩:=hinv
 obtain⟨u81,hinv⟩:=hinv
 obtain⟨hrel,ha⟩:=hinv
 subst ha
 try dsimp only
 clear HM0 HN0
 obtain⟨n,nb,N,f,hlv,rfl,hse,hnb,hbf,hf,hn,hN,hms⟩:=hrel
 obtain⟨wq,hwq⟩:∃ wq,wq=wr:=⟨_,rfl⟩
 subst hwq
 obtain⟨ao,cap,b1,b2,b3⟩:=hse.sp.bx
 have n0:wq.cell? ⟨nb,0,none⟩=some (.int .i64 (n:Nat)):=cell_of hnb 0
 have c0:wq.cell? ⟨qb + 1,0,none⟩=some (.pointer (some ⟨qb,0,none⟩)):=cell_of hse.c 0
 have q2:wq.cell? ⟨qb,2,none⟩=some (.slice ao N.length cap):=cell_of b1 2
 have hna:=nd_arr b2
 have HSE:=Lib.hid hse;have HNB:=Lib.hid hnb;have HMS:=Lib.hid hms;have HB1:=Lib.hid b1;have HBF:=Lib.hid hbf;have HB2:=Lib.hid b2;have HLV:=Lib.hid hlv
 have ln:=lt_of_block hnb
 have lc:=lt_of_block hse.c
 have lq:=lt_of_block b1
 clear hse hnb hms b1 b2 b3 hbf hlv
 by_cases hlt:n < N.length
 ·have hlt':(n:Int) < (N.length:Int):=by omega
  obtain⟨d,hd⟩:∃ d,N[n]?=some d:=⟨_,List.getElem?_eq_getElem hlt⟩
  obtain⟨g,o,rfl,n7⟩:=hna.get hd
  obtain⟨d0,d1,d2,d3,d4,d5,d6⟩:=n7
  have lg:=cell_lt d0
  have HD:=Lib.hid hd
  clear hna hd
  go_upto_region 12 with (go_quiet (fail))
  obtain⟨wa,hwa⟩:∃ wa,wq.drewN nq=wa:=⟨_,rfl⟩
  have hfa:Frm [] wq wa:=by rw[← hwa];exact(Frm.refl _ _).drewN _
  rw[hwa]
  have HCT:Hid (∀ V,Frm [] wa V→(V.cell? ⟨nb,0,none⟩=some (.int .i64 (n:Nat))∧V.cell? ⟨qb + 1,0,none⟩=some (.pointer (some ⟨qb,0,none⟩))∧V.cell? ⟨qb,2,none⟩=some (.slice (some ⟨g,o,none⟩) N.length cap))∧NdAt V g (o + n * 7) d):=Lib.hid fun V hV =>
   ⟨⟨(hfa.trans hV).keep n0,(hfa.trans hV).keep c0,(hfa.trans hV).keep q2⟩,NdAt.frm ⟨d0,d1,d2,d3,d4,d5,d6⟩ (hfa.trans hV)⟩
  have HFA:=Lib.hid hfa
  clear hwa hfa n0 c0 q2 d0 d1 d2 d3 d4 d5 d6 lg ln lc lq
  generalize hQQ:Exit.then _ _=QQ
  refine wp_mono (Q:=fun e a' w'=>match e with | .normal=>QQ .normal a' w' | _=>False) ?_ (fun e a' w' h=>by cases e <;> first | exact h | exact h.elim)
  refine heldL_start [] (wrFrom 8) (by kernel_rfl) ?_
  refine cnt 0 ?_
  iterate 7
   refine hcL ?_ ?_ ?_
   rotate_left
   ·intro w' hC
    obtain⟨⟨x0,x1,x2⟩,⟨y0,y1,y2,y3,y4,y5,y6⟩⟩:=HCT.out w' ((Frm.refl [] wa).drew.trans hC)
    clear hC
    go_simp
    try rfl
   try simp only[nrm,Nat.reduceAdd]
  refine tcn ?_
  obtain⟨wd,hwd⟩:∃ wd,wa.drew=wd:=⟨_,rfl⟩
  have HFD:Hid (Frm [] wq wd):=Lib.hid (by rw[← hwd];exact HFA.out.drew)
  rw[hwd]
  clear hwd
  refine honL 7 ?_
  refine heldL_step (i:=7) rfl rfl (by rfl) (fun K' hK'=>?_)
  go_simp
  (skip)
  refine hK'.out _ _ ((Frm.refl _ _).alloc _) ?_
  clear hK' K'
  try simp only[nrm]
  obtain⟨we,hwe⟩:∃ we,wd.alloc (.cells #[.pointer none,.int .i64 0,.int .i64 0,.int .i64 0,.int .i64 0,.int .i64 0,.int .i64 0] 216)=we:=⟨_,rfl⟩
  have HXB:Hid (we.heap[wd.heap.size]?=some (.cells #[.pointer none,.int .i64 0,.int .i64 0,.int .i64 0,.int .i64 0,.int .i64 0,.int .i64 0] 216 (0,0))):=Lib.hid (by rw[← hwe];exact heap_alloc_new _ _)
  have HFE:Hid (Frm [] wd we):=Lib.hid (by rw[← hwe];exact(Frm.refl _ _).alloc _)
  rw[hwe]
  clear hwe
  obtain⟨xb,hxb⟩:∃ xb,wd.heap.size=xb:=⟨_,rfl⟩
  have HXL:=Lib.hid hxb
  rw[hxb] at HXB ⊢
  clear hxb
  refine honL 8 ?_
  refine heldL_write (i:=8) rfl (by rfl) (by rfl) (fun K' hK'=>?_)
  refine wp_store_row 216 _ _ rfl xb _ _ 216 rfl rfl HXB.out rfl Tryz.infoNode (one_nd _ _ _ _ _ _ _) ?_
  intro wf hbf hff
  have HXF:=Lib.hid hbf
  have HFF:Hid (Frm [] wd wf):=Lib.hid (HFE.out.then hff (by intro k hk;simp at hk;subst hk;rw[← HXL.out];exact .inr (Nat.le_refl _)))
  clear hbf hff
  refine hK'.out _ _ ?_
  clear hK' K'
  try simp only[nrm]
  refine heldL_done (by kernel_rfl) ?_ _
  subst hQQ
  have HWF:Hid (Frm [] wq wf):=Lib.hid (HFD.out.trans HFF.out)
  have HSF:=Lib.hid (HSE.out.frm HWF.out)
  have HDM:=List.mem_of_getElem? HD.out
  have HST:=Lib.hid (HSF.out.sp.st d HDM)
  have CM:=Lib.hid (pMvs_own s yb fb d.2 d.1.st wf HSF.out.sy HST.out)
  have y0:wf.cell? ⟨w.heap.size,0,none⟩=some (.pointer (some ⟨yb,0,none⟩)):=cell_of HSF.out.y 0
  have x0:wf.cell? ⟨xb,0,none⟩=some (.pointer (some ⟨d.2,0,none⟩)):=cell_of HXF.out 0
  go_wp2_with (first
   | (go_at_call 21;go_must (refine CM.out.mono ?_;rintro e wg ⟨v,rfl,B,u,rfl,hb,hu,hf⟩;have HBG:=Lib.hid hb;have HUG:=Lib.hid hu;have HFG:=Lib.hid hf;clear hb hu hf)))
  have hSR:SrI w s yb fb lim qb mb w.heap.size (qb + 1) (qb + 1 + 1) nb xb n d B u (movesP s d.1.st) (N.map Prod.fst) ds [] wg:=by
   have f1:=HWF.out.trans HFG.out
   refine⟨N,⟨HSE.out.frm f1,f1.at HNB.out (by simp),HFG.out.at HXF.out (by simp),fun hr=>?_,HBG.out,own_low HUG.out (by have:=HSF.out.sp.fr.size;omega),HD.out⟩,rfl,⟨hN,HLV.out⟩,HMS.out.frm f1⟩
   obtain⟨a,b,v,m,e1,e2⟩:=hr.back f1 (by simp) (lt_of_block HB1.out)
   rw[HB1.out] at e1
   cases e1
   have h1:=ownBlock_lt HB2.out e2
   have h2:=HFD.out.size
   have h3:=HXL.out
   omega
  have HSR:=Lib.hid hSR
  have HDS:Hid (∀ E∈ds,E < wg.heap.size):=Lib.hid fun E hE=>lt_of_block ((HMS.out.frm (HWF.out.trans HFG.out)).dl E hE).2
  have hW:w.heap.size≤wg.heap.size:=by have:=HSF.out.sp.fr.size;have:=HFG.out.size;omega
  have HWS:=Lib.hid hW
  have hit:=mv_iter B u (movesP s d.1.st) (by have:=moves_len HSY.out.ok HST.out.ok;omega)
  clear hSR hW y0 x0 CM
  refine wp_rangeList rfl (enters_of Tryz.func146 (by kernel_rfl) rfl) hit (fun _=>rfl) (SrI w s yb fb lim qb mb w.heap.size (qb + 1) (qb + 1 + 1) nb xb n d B u (movesP s d.1.st) (N.map Prod.fst) ds) (SrX (.exit 1) w s yb fb lim qb mb w.heap.size (qb + 1) (qb + 1 + 1) n d (N.map Prod.fst) ds)
   (fun _ _ _ h hb=>h.bk hb HWS.out HDS.out) (fun _ _ _ _ h hb=>h.bk hb HWS.out HDS.out) (fun _ _ h=>by obtain⟨N',h,-⟩:=h;exact h.mvs) HSR.out ?_ ?_ ?_
  ·intro l pre y rest W hxs hI hl hlr
   obtain⟨hy,hpl⟩:=numL_pre hxs
   have hLk:=numL_some hxs
   obtain⟨yi,ym⟩:=y
   simp only at hy hLk
   subst hy
   have hmem:=List.mem_of_getElem? hLk
   obtain⟨N',i1,i2,⟨i3,i4⟩,i5⟩:=hI
   have HI:=Lib.hid i1;have HAD:=Lib.hid i2;have HN3:=Lib.hid i3;have HL4:=Lib.hid i4;have HMM:=Lib.hid i5;have HMEM:=Lib.hid hmem
   clear i1 i2 i3 i4 i5 hl hlr hxs hit hpl hLk hmem
   gi_wp2
   refine⟨KB.frm0 ((Frm.refl [] W).alloc _),fun Wq hbk _=>?_⟩
   have hcv:Wq.heap[W.heap.size]?=some (.cells #[.int .i64 ym.kind,.int .i64 ym.role,.int .i64 ym.step,.int .i64 ym.place] 44 (0,0)):=hbk.at (heap_alloc_new W _) rfl
   have hi2:=(HI.out.frm ((Frm.refl [] W).alloc (.cells #[.int .i64 ym.kind,.int .i64 ym.role,.int .i64 ym.step,.int .i64 ym.place] 44))).bk hbk HWS.out
   have hm2:=(HMM.out.frm ((Frm.refl [] W).alloc (.cells #[.int .i64 ym.kind,.int .i64 ym.role,.int .i64 ym.step,.int .i64 ym.place] 44))).bk hbk HDS.out
   have HI2:=Lib.hid hi2;have HM2:=Lib.hid hm2;have HCV:=Lib.hid hcv
   have CD:=Lib.hid (pDo_yes s yb fb d.2 d.1.st ym Wq hi2.se.sy (hi2.se.sp.st d (List.mem_of_getElem? hi2.at')) HMEM.out)
   have y0:Wq.cell? ⟨w.heap.size,0,none⟩=some (.pointer (some ⟨yb,0,none⟩)):=cell_of hi2.se.y 0
   have x0:Wq.cell? ⟨xb,0,none⟩=some (.pointer (some ⟨d.2,0,none⟩)):=cell_of hi2.hx 0
   have m0:Wq.cell? ⟨W.heap.size,0,none⟩=some (.int .i64 ym.kind):=cell_of hcv 0
   have m1:Wq.cell? ⟨W.heap.size,1,none⟩=some (.int .i64 ym.role):=cell_of hcv 1
   have m2:Wq.cell? ⟨W.heap.size,2,none⟩=some (.int .i64 ym.step):=cell_of hcv 2
   have m3:Wq.cell? ⟨W.heap.size,3,none⟩=some (.int .i64 ym.place):=cell_of hcv 3
   clear hbk hi2 hm2 hcv HI HMM
   gi_upto_region 16 with (first
    | (refine⟨trivial,?_⟩;gi_at_call 19;go_must (refine(CallsIn.inRound l (callsIn_wide.2 CD.out)).mono ?_;rintro e wh ⟨v,rfl,sb,rfl,hst,hfh⟩;have HST2:=Lib.hid hst;have HFH:=Lib.hid hfh;clear hst hfh m0 m1 m2 m3 x0 y0)))
   have hi3:=HI2.out.frm HFH.out
   have HI3:=Lib.hid hi3
   have HM3:=Lib.hid (HM2.out.frm HFH.out)
   have hcv3:=HFH.out.at HCV.out (by simp)
   have a0:wh.cell? ⟨qb + 1 + 1,0,none⟩=some (.func (.func 117) #[] #[.pointer (some ⟨qb + 1,0,none⟩)]):=cell_of hi3.se.a 0
   have n0:wh.cell? ⟨nb,0,none⟩=some (.int .i64 (n:Nat)):=cell_of hi3.hn 0
   have m0:wh.cell? ⟨W.heap.size,0,none⟩=some (.int .i64 ym.kind):=cell_of hcv3 0
   have m1:wh.cell? ⟨W.heap.size,1,none⟩=some (.int .i64 ym.role):=cell_of hcv3 1
   have m2:wh.cell? ⟨W.heap.size,2,none⟩=some (.int .i64 ym.step):=cell_of hcv3 2
   have m3:wh.cell? ⟨W.heap.size,3,none⟩=some (.int .i64 ym.place):=cell_of hcv3 3
   have x6:wh.cell? ⟨xb,6,none⟩=some (.int .i64 d.1.lvl):=cell_of hi3.hx 6
   have hlvl:=HL4.out d (List.mem_of_getElem? hi3.at')
   have hN3:=HN3.out
   have hL2:=HL2.out
   have hw:wrap64 ((d.1.lvl:Int) + 1)=((d.1.lvl + 1:Nat):Int):=by unfold wrap64;omega
   have hz:(keyS s (nextP s d.1.st ym)).size≤maxLen:=by
    have:=keyS_size HSY.out.ok HST2.out.ok
    unfold maxLen
    exact Nat.le_trans this (by omega)
   have hsn:((pre ++ [(pre.length,ym)]).map Prod.snd)=pre.map Prod.snd ++ [ym]:=by rw[List.map_append];rfl
   have HSN:=Lib.hid hsn;have HZ:=Lib.hid hz;have HLV2:=Lib.hid hlvl
   clear hi3 hcv3 hlvl hN3 hL2 hz hsn
   by_cases hk:hasK s (N'.map Prod.fst) (keyP s (nextP s d.1.st ym))=true
   ·have CA:=Lib.hid (xAdd_has (d:=⟨nextP s d.1.st ym,n,ym,d.1.lvl + 1⟩) (sb:=sb) HI3.out.se.sp HI3.out.se.sy HST2.out HI3.out.se.c hk HZ.out)
    have HK:=Lib.hid hk
    clear hk
    gi_wp2_with (first
     | (refine⟨trivial,?_⟩;gi_at_call 117;go_must (refine(CallsIn.inRound l (callsIn_wide.2 CA.out)).mono ?_;rintro e wi ⟨rfl,hfi⟩;have HFI:=Lib.hid hfi;clear hfi)))
    refine⟨KB.frm0 (HFH.out.trans HFI.out),N',HI3.out.frm HFI.out,?_,⟨HN3.out,HL4.out⟩,HM3.out.frm HFI.out⟩
    rw[HSN.out,addMv_snoc HAD.out,addMv_one,if_pos HK.out]
   ·have hk':hasK s (N'.map Prod.fst) (keyP s (nextP s d.1.st ym))=false:=by simpa using hk
    have HK:=Lib.hid hk'
    clear hk hk'
    by_cases hl:N'.length=lim
    ·have CA:=Lib.hid (xAdd_full (d:=⟨nextP s d.1.st ym,n,ym,d.1.lvl + 1⟩) (sb:=sb) HI3.out.se.sp HI3.out.se.sy HST2.out HI3.out.se.c HK.out HZ.out (by omega))
     have HL:=Lib.hid hl
     clear hl
     gi_wp2_with (first
      | (refine⟨trivial,?_⟩;gi_at_call 117;go_must (refine(CallsIn.inRound l (callsIn_wide.2 CA.out)).mono ?_;rintro e wi ⟨rfl,hfi⟩;have HFI:=Lib.hid hfi;have hsi:=(HI3.out.frm hfi).se;have HSI:=Lib.hid hsi;have c0:wi.cell? ⟨qb + 1,0,none⟩=some (.pointer (some ⟨qb,0,none⟩)):=cell_of hsi.c 0;obtain⟨ao9,cap9,b9,-⟩:=hsi.sp.bx;have q1:wi.cell? ⟨qb,1,none⟩=some (.bool true):=cell_of b9 1;have f1:=free_of b9 1;clear hfi hsi b9 a0 n0 m0 m1 m2 m3 x6)))
     obtain⟨p1,p2⟩:=HSI.out.part
     refine⟨(KB.frm0 (HFH.out.trans HFI.out)).trans p2,rfl,N',p1,?_,(HM3.out.frm HFI.out).kb p2⟩
     rw[HSN.out,addMv_snoc HAD.out,addMv_one,HK.out,if_neg (by simp),if_pos (by rw[List.length_map,HL.out])]
    ·have CA:=Lib.hid (xAdd_new (d:=⟨nextP s d.1.st ym,n,ym,d.1.lvl + 1⟩) (sb:=sb) HI3.out.se.sp HI3.out.se.sy HST2.out HI3.out.se.c HK.out HZ.out (by omega) (by have:=HSY.out.ok.n2;omega) (by have:=HN3.out;have:=HL2.out;omega))
     have HL:=Lib.hid hl
     clear hl
     gi_wp2_with (first
      | (refine⟨trivial,?_⟩;gi_at_call 117;go_must (refine(CallsIn.inRound l (callsIn_wide.2 CA.out)).mono ?_;rintro e wi ⟨rfl,hat⟩;have HAT:=Lib.hid hat;clear hat)))
     have hln:(N' ++ [((⟨nextP s d.1.st ym,n,ym,d.1.lvl + 1⟩:Nd),sb)]).length=N'.length + 1:=by simp
     refine⟨(KB.frm0 HFH.out).trans HAT.out.kb,N' ++ [(⟨nextP s d.1.st ym,n,ym,d.1.lvl + 1⟩,sb)],HI3.out.to HAT.out ?_,?_,⟨?_,fun e he=>?_⟩,HM3.out.kb HAT.out.kb⟩
     ·rw[List.getElem?_append_left (lt_of_some HI3.out.at')];exact HI3.out.at'
     ·rw[HSN.out,addMv_snoc HAD.out,addMv_one,HK.out,if_neg (by simp),if_neg (by rw[List.length_map];exact HL.out),List.map_append]
      rfl
     ·have:=HN3.out
      have:=HL.out
      rw[hln];omega
     ·rw[hln]
      rcases List.mem_append.1 he with he | he
      ·have:=HL4.out e he;omega
      ·rw[List.mem_singleton] at he
       subst he
       have:=HLV2.out
       simp only
       omega
  ·intro D W hD hI hK
   obtain⟨N',i1,i2,⟨i3,i4⟩,i5⟩:=hI
   rw[numL_snd] at i2
   have n0:W.cell? ⟨nb,0,none⟩=some (.int .i64 (n:Nat)):=cell_of i1.hn 0
   have HI:=Lib.hid i1;have HAD:=Lib.hid i2;have HN3:=Lib.hid i3;have HL4:=Lib.hid i4;have HMM:=Lib.hid i5;have HKD:=Lib.hid hK;have HDL:=Lib.hid hD
   have hL2:=HL2.out
   obtain⟨f',rfl⟩:∃ f',f=f' + 1:=⟨f - 1,by omega⟩
   have hw:wrap64 ((n:Int) + 1)=((n + 1:Nat):Int):=by unfold wrap64;omega
   have hb9:bfs s lim f' (n + 1) (N'.map Prod.fst)=searchP s lim:=by
    rw[← HBF.out]
    exact(bfs_step (by rw[List.getElem?_map,HD.out];rfl) i2).symm
   have hln:n + 1≤N'.length:=by
    have:=lt_of_some i1.at'
    omega
   have hm9:=i5.cons (D:=D) (fun E hE=>by have:=HDS.out E hE;omega) (by have:=HWS.out;omega) hK
   have HB9:=Lib.hid hb9;have HLN:=Lib.hid hln;have HM9:=Lib.hid hm9
   clear i1 i2 i3 i4 i5 hK hD hit hb9 hln hm9
   go_wp2
   have hnew:(W.alloc (.cells #[.int .i64 ((n:Int) + 1)] 3)).heap[W.heap.size]?=some (.cells #[.int .i64 ((n + 1:Nat):Int)] 3 (0,0)):=heap_alloc_new _ _
   have hfr:Frm [] W (W.alloc (.cells #[.int .i64 ((n:Int) + 1)] 3)):=(Frm.refl _ _).alloc _
   have hmm:lim + 1 - boxOf (.pointer (some ⟨W.heap.size,0,none⟩)) (W.alloc (.cells #[.int .i64 ((n:Int) + 1)] 3)) < lim + 1 - boxOf (.pointer (some ⟨nb,0,none⟩)) wq:=by
    rw[boxOf_at hnew,boxOf_at HNB.out]
    omega
   refine⟨⟨D :: ds,?_⟩,hmm⟩
   (repeat apply Exists.intro)
   exact⟨⟨n + 1,W.heap.size,N',f',HL4.out,rfl,HI.out.se.frm hfr,hnew,HB9.out,by omega,HLN.out,HN3.out,HM9.out.frm hfr⟩,rfl⟩
  ·intro D c pre y rest W hxs hD hI hK
   obtain⟨rfl,N',i1,i2,i3⟩:=hI
   have h9:=addMv_stop (ks:=rest.map Prod.snd) i2
   rw[← List.map_append,List.append_assoc,List.singleton_append,← hxs,numL_snd] at h9
   obtain⟨f',rfl⟩:∃ f',f=f' + 1:=⟨f - 1,by omega⟩
   have h10:searchP s lim=(N'.map Prod.fst,false):=by
    rw[← HBF.out]
    exact bfs_stop (by rw[List.getElem?_map,HD.out];rfl) h9
   have c0:W.cell? ⟨qb + 1,0,none⟩=some (.pointer (some ⟨qb,0,none⟩)):=cell_of i1.c 0
   have HI:=Lib.hid i1;have HSE2:=Lib.hid h10;have HMM:=Lib.hid i3;have HKD:=Lib.hid hK;have HDL:=Lib.hid hD
   have hm9:=i3.cons (D:=D) (fun E hE=>by have:=HDS.out E hE;omega) (by have:=HWS.out;omega) hK
   have HM9:=Lib.hid hm9
   clear i1 i2 i3 hK hD hit hxs h9 h10 hm9
   go_wp2
   rw[Exit.noGoto_ret]
   exact sch_end (ds:=D :: ds) (HI.out.frm ((Frm.refl _ _).alloc _)) (heap_alloc_new _ _) (HM9.out.frm ((Frm.refl _ _).alloc _)) HSE2.out (fun V=>by simp[results,Tryz.results57,go_sem])
 ·obtain rfl:n=N.length:=by omega
  have hge:¬ ((N.length:Int) < (N.length:Int)):=by omega
  obtain⟨f',rfl⟩:∃ f',f=f' + 1:=⟨f - 1,by omega⟩
  have h10:searchP s lim=(N.map Prod.fst,true):=by
   rw[← HBF.out]
   exact bfs_end (by rw[List.getElem?_map,List.getElem?_eq_none (Nat.le_refl _)];rfl)
  have HSE2:=Lib.hid h10
  clear hna h10
  go_wp2_with (go_quiet (fail))
  try rw[Exit.noGoto_ret]
  have hfr:Frm [] wq (wq.drewN nq):=(Frm.refl _ _).drewN _
  exact sch_end (HSE.out.frm (hfr.alloc _)) (heap_alloc_new _ _) (HMS.out.frm (hfr.alloc _)) HSE2.out (fun V=>by simp[results,Tryz.results57,go_sem])
end Go.Proofs.YtohfkhjlnlahdaaGreat
