/- Part of the proof. -/
import Derived.Test.YtohfkhjlnlahdaaGreatV47
import Derived.Test.YtohfkhjlnlahdaaGreatV49
import Derived.Test.YtohfkhjlnlahdaaGreatV50
import Derived.Test.YtohfkhjlnlahdaaGreatV48
set_option linter.all false
namespace Go.Proofs.YtohfkhjlnlahdaaGreat
open Go.RowKit Go.BigFrame
theorem arr1_mv (W:World) (t:TypeId) (m:Mv):Arr 4 MvAt (W.alloc (.cells #[.int .i64 m.kind,.int .i64 m.role,.int .i64 m.step,.int .i64 m.place] t)) (.slice (some ⟨W.heap.size,0,none⟩) 1 1) [m]:=by
 have h:=cell_of (heap_alloc_new W (.cells #[.int .i64 m.kind,.int .i64 m.role,.int .i64 m.step,.int .i64 m.place] t))
 refine⟨_,1,rfl,fun i x hx=>⟨W.heap.size,0,rfl,?_⟩⟩
 match i,hx with
 | 0,hx=>cases hx;exact⟨h 0,h 1,h 2,h 3⟩
 | i + 1,hx=>simp at hx
theorem arr1_sp (W:World) (t:TypeId) (x:Sp):Arr 3 SuAt (W.alloc (.cells #[.int .i64 x.role,.int .i64 x.peer,.string x.msg] t)) (.slice (some ⟨W.heap.size,0,none⟩) 1 1) [x]:=by
 have h:=cell_of (heap_alloc_new W (.cells #[.int .i64 x.role,.int .i64 x.peer,.string x.msg] t))
 refine⟨_,1,rfl,fun i y hy=>⟨W.heap.size,0,rfl,?_⟩⟩
 match i,hy with
 | 0,hy=>cases hy;exact⟨h 0,h 1,h 2⟩
 | i + 1,hy=>simp at hy
theorem e_fst {w w':World} {v:Value} (h:FstTo w smE 100 v w'):∃ ao c,v=.tuple #[.slice ao 1 c,suV spE,.bool true,.int .i64 0]∧Arr 4 MvAt w' (.slice ao 1 c) [km1]∧Frm [] w w':=by
 obtain⟨hf,⟨h1,-⟩ | ⟨n,u,rest,tv,h1,rfl,h2⟩⟩:=h
 ·have:=e_all
  rw[h1] at this
  cases this
 ·have ha:=e_all
  have hb:=e_first
  rw[h1] at ha hb
  obtain rfl:u=spE:=(List.cons.inj ha).1
  have hb':traceP (searchP smE 100).1 n=[km1]:=Option.some.inj hb
  rw[hb'] at h2
  obtain⟨ao,c,rfl⟩:=h2.shape
  exact⟨ao,c,rfl,h2,hf⟩
theorem e_usd {w w':World} {v:Value} (h:UsdTo w smE 100 v w'):∃ g o c b0 b1,v=.tuple #[.slice (some ⟨g,o,none⟩) 2 c,.int .i64 0] ∧
  (w'.cell? ⟨g,o,none⟩=some (.slice (some ⟨b0,0,none⟩) 2 2)∧w'.cell? ⟨g,o + 1,none⟩=some (.slice (some ⟨b1,0,none⟩) 1 1))∧(w'.cell? ⟨b0,0,none⟩=some (.bool true)∧w'.cell? ⟨b0,1,none⟩=some (.bool true))∧w'.cell? ⟨b1,0,none⟩=some (.bool true)∧Frm [] w w':=by
 obtain⟨hf,u,rfl,hu⟩:=h
 have e:usRow smE (usedP smE (searchP smE 100).1)=[[usedP smE (searchP smE 100).1 0 0,usedP smE (searchP smE 100).1 0 1],[usedP smE (searchP smE 100).1 1 0]]:=rfl
 have hu9:=e_used
 simp only[Bool.and_eq_true] at hu9
 rw[e,hu9.1.1,hu9.1.2,hu9.2] at hu
 obtain⟨ao,cap,rfl,h3⟩:=hu
 obtain⟨g,o,e1,b0,c0,d0⟩:=h3 0 _ rfl
 subst e1
 obtain⟨g',o',e1,b1,c1,d1⟩:=h3 1 _ rfl
 cases e1
 exact⟨g,o,cap,b0,b1,rfl,⟨c0,c1⟩,⟨cell_of d0 0,cell_of d0 1⟩,cell_of d1 0,hf⟩
theorem e_len:(searchP smE 100).1.length=6:=by rw[search_i];decide +kernel
theorem fg_sc {W:World} {b:Nat} {c:Value} {t:TypeId} (h:W.heap[b]?=some (.cells #[c] t (0,0))) (hc:(∃ v,c=.int .i64 v)∨∃ v,c=.bool v) (ht:t=3∨t=4):∀ x∈[b],FgB W x:=by
 intro x hx
 rw[List.mem_singleton] at hx
 subst hx
 have k:=fun o=>cell_of h o
 have kz:∀ (o:Nat) (u:Value),W.cell? ⟨x,o,none⟩=some u→u=c:=fun o u e=>by
  rw[k] at e
  cases o with
  | zero=>exact(Option.some.inj e).symm
  | succ o=>simp at e
 refine⟨fun C t' e=>?_,fun o y e=>?_,fun o p e=>?_,fun o g o' p n c' e e2=>?_⟩
 ·rw[h] at e
  cases e
  rcases ht with rfl | rfl <;> decide
 ·rcases hc with ⟨v,rfl⟩ | ⟨v,rfl⟩ <;> cases kz _ _ e
 ·rcases hc with ⟨v,rfl⟩ | ⟨v,rfl⟩ <;> cases kz _ _ e
 ·rcases hc with ⟨v,rfl⟩ | ⟨v,rfl⟩ <;> cases kz _ _ e
theorem SpO.sc {W V:World} {s:SesD} {yb pb b:Nat} {whole:Bool} {N:List (Nd × Nat)} {c:Value} {t:TypeId} (h:SpO W s yb whole pb N) (hs:0 < s.roles.length) (hb:W.heap[b]?=some (.cells #[c] t (0,0))) (hc:(∃ v,c=.int .i64 v)∨∃ v,c=.bool v) (ht:t=3∨t=4) (hf:Frm [b] W V):SpO V s yb whole pb N:=by
 obtain⟨qb,mb,lim,ao,cap,h1,h2,h3,h4⟩:=h.out
 have hfb:=fg_sc hb hc ht
 refine⟨⟨qb,mb,lim,ao,cap,hf.at h1 ?_,hf.at h2 ?_,h3.frm fun g o d hd=>?_,h4.frm hf fun b' e hm=>?_⟩,fun d hd=>(h.st d hd).fg hs hfb hf⟩
 ·rw[List.mem_singleton];exact ty_ne h1 hb (by rcases ht with rfl | rfl <;> decide)
 ·rw[List.mem_singleton];exact ty_ne h2 hb (by rcases ht with rfl | rfl <;> decide)
 ·have hg:g∉[b]:=fun hm=>by
   rw[List.mem_singleton] at hm
   subst hm
   have:=hd.c0
   rw[cell_of hb] at this
   cases o with
   | zero =>
     have e:c=_:=Option.some.inj this
     subst e
     rcases hc with ⟨v,hv⟩ | ⟨v,hv⟩ <;> cases hv
   | succ o=>simp at this
  exact⟨hf.cellAt hd.c0 hg,hf.cellAt hd.c1 hg,hf.cellAt hd.c2 hg,hf.cellAt hd.c3 hg,hf.cellAt hd.c4 hg,hf.cellAt hd.c5 hg,hf.cellAt hd.c6 hg⟩
 ·obtain⟨es,c',h9⟩:=h4.block e
  rw[List.mem_singleton] at hm
  subst hm
  rw[hb] at h9
  cases h9
theorem AlI.sc {B1 B2 pb yb fb cp b:Nat} {ra:Option Addr} {s:SesD} {wh:Bool} {N:List (Nd × Nat)} {W V:World} {c:Value} {t:TypeId} (h:AlI B1 B2 pb ra cp s yb fb wh N W) (hb:W.heap[b]?=some (.cells #[c] t (0,0))) (hc:(∃ v,c=.int .i64 v)∨∃ v,c=.bool v) (ht:t=3∨t=4) (hf:Frm [b] W V) :
  AlI B1 B2 pb ra cp s yb fb wh N V:=
 ⟨hf.at h.b1 (by rw[List.mem_singleton];exact ty_ne h.b1 hb (by rcases ht with rfl | rfl <;> decide)),hf.at h.b2 (by rw[List.mem_singleton];exact ty_ne h.b2 hb (by rcases ht with rfl | rfl <;> decide)),h.ses.fg (fg_sc hb hc ht) hf,h.sp.sc (by have:=h.sy.ok.n2;omega) hb hc ht hf,h.sy.fg (fg_sc hb hc ht) hf⟩
theorem res_tmp0 {fn:Func} {tmps:Array Value} {V:World} {u:Value} (hf:fn.results=#[.tmp 0]) (h:tmps.getD 0 undef=u):(results fn tmps).run Tryz.prog V=.ok u V:=by
 have h':tmps[0]?.getD undef=u:=by simpa using h
 simp[results,hf,h',go_sem]
attribute [local go_sem] Oper.semAt_some
set_option maxHeartbeats 8000000 in
set_option maxRecDepth 100000 in
theorem known36_any (w:World):Calls Tryz.prog 15 #[] w (Ret (.bool true) (Frm [] w)):=by
 have CS:=Lib.hid (sample36_any w)
 refine calls_of_marks Tryz.func15 rfl ?_
 simp only[Tryz.ntmps15,List.size_toArray,List.length_cons,List.length_nil,Nat.reduceAdd,Nat.reduceSub,Array.replicate_succ,Array.replicate_zero,List.push_toArray,List.append_toArray,List.nil_append,List.cons_append]
 go_upto_region 5 with (first
  | (go_at_call 56;go_must (refine CS.out.mono ?_;rintro e w1 ⟨v,rfl,hs,hf⟩;have HF1:=Lib.hid hf;have CN:=Lib.hid (pNew_ok v smE w1 hs smE_sm e_ck);clear hs hf CS))
  | (go_at_call 53;go_must (refine CN.out.mono ?_;rintro e w2 ⟨v,rfl,hn⟩;obtain⟨⟨yb,fb,rfl,-,hsy⟩,hf⟩:=hn;have HY:=Lib.hid (hsy w2 (Agree.refl _ _));have HF2:=Lib.hid (HF1.out.trans hf);clear hsy hf CN))
  | (go_at_call 17;go_must (refine(num36_any _ _).mono ?_;rintro e w' ⟨rfl,rfl⟩)))
 obtain⟨W3,hW3⟩:∃ W,w2.alloc (.cells #[.int .i64 1,.int .i64 0,.string { data:=#[110] }] 90)=W:=⟨_,rfl⟩
 obtain⟨bw,hbw⟩:∃ b,w2.heap.size=b:=⟨_,rfl⟩
 have HF3:Hid (Frm [] w2 W3):=Lib.hid (by rw[← hW3];exact(Frm.refl _ _).alloc _)
 have HWA:Hid (Arr 3 SuAt W3 (.slice (some ⟨bw,0,none⟩) 1 1) [spE]):=Lib.hid (by rw[← hW3,← hbw];exact arr1_sp w2 _ spE)
 rw[hW3,hbw]
 clear hW3 hbw
 have CF:=Lib.hid (xpFirst_any smE yb fb 100 W3 (HY.out.frm HF3.out) (by omega) (by omega))
 go_upto_region 6 with (first
  | (go_at_call 16;go_must (refine CF.out.mono ?_;rintro e w4 ⟨v,rfl,ho⟩;obtain⟨at',ct,rfl,hat,hf⟩:=e_fst ho;have HAT:=Lib.hid hat;have HF4:=Lib.hid hf;clear ho hat hf CF)))
 obtain⟨W5,hW5⟩:∃ W,w4.alloc (.cells #[.int .i64 spE.role,.int .i64 spE.peer,.string spE.msg] 33)=W:=⟨_,rfl⟩
 obtain⟨br,hbr⟩:∃ b,w4.heap.size=b:=⟨_,rfl⟩
 have HF5:Hid (Frm [] w4 W5):=Lib.hid (by rw[← hW5];exact(Frm.refl _ _).alloc _)
 have HX5:Hid (W5.heap[br]?=some (.cells #[.int .i64 spE.role,.int .i64 spE.peer,.string spE.msg] 33 (0,0))):=Lib.hid (by rw[← hW5,← hbr];exact heap_alloc_new _ _)
 rw[hW5,hbr]
 clear hW5 hbr
 have HY5:=Lib.hid (HY.out.frm (HF3.out.trans (HF4.out.trans HF5.out)))
 have CU:=Lib.hid (xpUsed_any smE yb fb 100 W5 HY5.out (by omega) (by omega) e_whole)
 go_upto_region 7 with (first
  | (go_at_call 30;go_must (refine CU.out.mono ?_;rintro e w6 ⟨v,rfl,ho⟩;obtain⟨g,o,cu,b0,b1,rfl,hk⟩:=e_usd ho;have HK:=Lib.hid hk;have HF6:=Lib.hid hk.2.2.2;clear ho hk CU)))
 have HAT6:=Lib.hid (HAT.out.frm fun _ _ _ h=>h.frm (HF5.out.trans HF6.out))
 have HWA6:=Lib.hid (HWA.out.frm fun _ _ _ h=>h.frm (HF4.out.trans (HF5.out.trans HF6.out)))
 have HX6:=Lib.hid (HF6.out.at HX5.out (by simp))
 have HA6:Hid (Frm [] w6 (w6.alloc (.cells #[.int .i64 1,.int .i64 0,.int .i64 1,.int .i64 0] 67))):=Lib.hid ((Frm.refl _ _).alloc _)
 have CM:=Lib.hid (moves36_any _ _ [km1] _ (HAT6.out.frm fun _ _ _ h=>h.frm HA6.out) (arr1_mv w6 67 km1) (by simp))
 have CSm:=fun V=>Lib.hid (sample36_any V)
 go_upto_region 9 with (first
  | (go_at_call 17;go_must (refine(num36_any _ _).mono ?_;rintro e w' ⟨rfl,rfl⟩))
  | (go_at_call 33;go_must (refine CM.out.mono ?_;rintro e w7 ⟨rfl,hf⟩;have HF7:Hid (Frm [] w6 w7):=Lib.hid (HA6.out.trans hf);clear hf CM;have HX7:=HF7.out.at HX6.out (by simp);have z0:=cell_of HX7 0;have z1:=cell_of HX7 1;have z2:=cell_of HX7 2;clear HX7;have HA7:Hid (Frm [] w7 (w7.alloc (.cells #[.int .i64 spE.role,.int .i64 spE.peer,.string spE.msg] 33))):=Lib.hid ((Frm.refl _ _).alloc _);have CE:=Lib.hid (same36_any _ _ [spE] _ (arr1_sp w7 33 spE) (HWA6.out.frm fun _ _ _ h=>h.frm (HF7.out.trans HA7.out)) (by simp))))
  | (go_at_call 23;(refine CE.out.mono ?_;rintro e w8 ⟨rfl,hf⟩;have HF8:Hid (Frm [] w6 w8):=Lib.hid (HF7.out.trans (HA7.out.trans hf));clear hf CE z0 z1 z2))
  | (go_at_call 56;go_must (refine(CSm _).out.mono ?_;rintro e w9 ⟨v9,rfl,hs,hf⟩;have HF9:=Lib.hid (HF8.out.trans hf);have CNv:=Lib.hid (xpNever_any smE v9 w9 hs (by decide) (by decide));rw[e_never] at CNv;clear hs hf))
  | (go_at_call 24;go_must (refine CNv.out.mono ?_;rintro e w10 ⟨u,rfl,ho,hf⟩;obtain⟨ao,cp,hsh⟩:=own_shape ho;subst hsh;have HF10:=Lib.hid (HF9.out.trans hf);have CE2:=Lib.hid (same36_any _ _ [spE] _ (su_arr ho) (HWA6.out.frm fun _ _ _ h=>h.frm (HF9.out.trans hf)) (by simp));clear ho hf CNv))
  | (go_at_call 23;go_must (refine CE2.out.mono ?_;rintro e w11 ⟨rfl,hf⟩;have HF11:=Lib.hid (HF10.out.trans hf);clear hf CE2;obtain⟨⟨k0,k1⟩,⟨k2,k3⟩,k4,-⟩:=HK.out;replace k0:=HF11.out.keep k0;replace k1:=HF11.out.keep k1;replace k2:=HF11.out.keep k2;replace k3:=HF11.out.keep k3;replace k4:=HF11.out.keep k4)))
 clear k0 k1 k2 k3 k4 CSm
 have HY11:=Lib.hid (HY5.out.frm (HF6.out.trans HF11.out))
 have CD:=Lib.hid (pDo_yes smE yb fb fb (firstP smE) km0 w11 HY11.out HY11.out.first e_m0.1)
 have CP:=Lib.hid (pFirst_any smE yb fb w11 HY11.out)
 go_upto_region 12 with (first
  | (go_at_call 18;go_must (refine CP.out.mono ?_;rintro e w' ⟨rfl,rfl⟩;clear CP))
  | (go_at_call 19;(refine CD.out.mono ?_;rintro e w12 ⟨u,rfl,xa,rfl,hx,hf⟩;have HF12:=Lib.hid hf;have CD2:=Lib.hid (pDo_yes smE yb fb xa _ km1 w12 (HY11.out.frm hf) hx e_m0.2.1);clear hx hf CD))
  | (go_at_call 19;go_must (refine CD2.out.mono ?_;rintro e w13 ⟨u,rfl,xc,rfl,hx,hf⟩;have HF13:=Lib.hid (HF12.out.trans hf);have CO:=Lib.hid (xpOf_any smE yb fb xc _ w13 (HY11.out.frm (HF12.out.trans hf)) hx);rw[e_m0.2.2] at CO;clear hx hf CD2))
  | (go_at_call 20;go_must (refine CO.out.mono ?_;rintro e w14 ⟨v,rfl,u,rfl,ho,hf⟩;obtain⟨ao2,cp2,hsh⟩:=own_shape ho;subst hsh;have HF14:=Lib.hid (HF13.out.trans hf);have HSP:=Lib.hid (su_arr ho);clear ho hf CO)))
 go_upto_region 13 with fail
 obtain⟨W15,hW15⟩:∃ W,w14.alloc (.cells #[.int .i64 0] 3)=W:=⟨_,rfl⟩
 obtain⟨nb,hnb⟩:∃ b,w14.heap.size=b:=⟨_,rfl⟩
 have HF15:Hid (Frm [] w14 W15):=Lib.hid (by rw[← hW15];exact(Frm.refl _ _).alloc _)
 have HN15:Hid (W15.heap[nb]?=some (.cells #[.int .i64 0] 3 (0,0))):=Lib.hid (by rw[← hW15,← hnb];exact heap_alloc_new _ _)
 have HNB:Hid (w14.heap.size≤nb):=Lib.hid (by omega)
 rw[hW15,hnb]
 clear hW15 hnb
 have CA:=Lib.hid (xpAll_any smE yb fb 100 W15 (HY11.out.frm (HF14.out.trans HF15.out)) (by omega) (by omega))
 have hnf:=fun W f lb=>run_eql_func (P:=Tryz.prog) W 92 #[179] #[] false f lb Tryz.underlying92
 go_upto_region 17 with (first
  | (go_at_call 36;go_must (refine CA.out.mono ?_;rintro e w16 ⟨v,rfl,B1,B2,pb,ra,cp,N,rfl,hal,hN,hf⟩;have HAL:=Lib.hid hal;have HN:=Lib.hid hN;have HF16:=Lib.hid hf;clear hal hN hf CA)))
 clear hnf
 have HNL:Hid (N.length=6):=Lib.hid (by have:=e_len;rw[← HN.out,List.length_map] at this;exact this)
 have HAS:Hid ((allSp smE (N.map Prod.fst)).length=3):=Lib.hid (by rw[HN.out,← List.length_map (f:=Prod.snd),e_all];rfl)
 have HN16:=Lib.hid (HF16.out.at HN15.out (by simp))
 refine wp_rangeListT (T:=fun t=>t=3) rfl (enters_of Tryz.func94 (by kernel_rfl) rfl) (al_iter (fun t=>t=3) (by decide) (by decide) (by decide) B1 B2 pb yb fb cp ra smE _ N (by have:=HNL.out;omega)) (fun _=>rfl)
  (fun pre V=>Frm [nb] w16 V∧V.heap[nb]?=some (.cells #[.int .i64 (pre.length:Int)] 3 (0,0)))
  (fun _ _ _=>False)
  (fun _ _ _ h hb=>⟨hb.oldG h.1 (Nat.le_refl _),hb.at h.2 rfl⟩)
  (fun _ _ _ _ h _=>h)
  (fun _ V h=>HAL.out.sc HN16.out (.inl ⟨_,rfl⟩) (.inl rfl) h.1) ⟨Frm.refl _ _,HN16.out⟩ ?_ ?_ (fun _ _ _ _ _ _ _ _ h _=>h.elim)
 ·intro l pre y rest Wr hxs hI hl hlr
  have HFI:=Lib.hid hI.1;have HBI:=Lib.hid hI.2
  have hp3:pre.length < 3:=by
   have:=HAS.out
   rw[hxs,List.length_append,List.length_cons] at this
   omega
  clear hI hl hlr hxs
  gi_wp2
  refine⟨Kc.refl _ _ _,fun Wq hbk _=>?_⟩
  have HBQ:=Lib.hid (hbk.at HBI.out rfl)
  have HFQ:=Lib.hid (hbk.oldG HFI.out (Nat.le_refl _))
  clear hbk HBI HFI
  have x0:=cell_of HBQ.out 0
  have f0:=free_of HBQ.out 0
  have hw:wrap64 ((pre.length:Int) + 1)=(pre.length:Int) + 1:=by unfold wrap64;omega
  gi_wp2
  refine⟨Kc.set (T:=fun t=>t=3) (Kc.refl _ _ _) HBQ.out rfl 0 _,HFQ.out.setCell _ (.inl (by simp)) _,(block_setCell HBQ.out 0 _).trans ?_⟩
  simp
 ·intro D V hD hI hK
  have HFV:=Lib.hid hI.1;have HBV:=Lib.hid hI.2;have HKD:=Lib.hid hK;have HDD:=Lib.hid hD
  clear hI hK hD
  have HF14V:Hid (Frm [] w14 V):=Lib.hid ((HF15.out.trans HF16.out).then HFV.out fun q hq=>.inr (by rw[List.mem_singleton] at hq;subst hq;exact HNB.out))
  have HWv:Hid (Arr 3 SuAt V (.slice (some ⟨bw,0,none⟩) 1 1) [spE]):=Lib.hid (HWA6.out.frm fun _ _ _ h=>h.frm (HF11.out.trans (HF14.out.trans HF14V.out)))
  have CE:=Lib.hid (same36_any _ _ [spE] V (HSP.out.frm fun _ _ _ h=>h.frm HF14V.out) HWv.out (by simp))
  rw[HAS.out] at HBV
  go_wp2_with (first
   | (go_at_call 17;go_must (refine(num36_any _ _).mono ?_;rintro e w' ⟨rfl,rfl⟩))
   | (go_at_call 23;go_must (refine CE.out.mono ?_;rintro e w17 ⟨rfl,hf⟩;have HF17:=Lib.hid hf;clear hf CE;have x0:=cell_of (HF17.out.at HBV.out (by simp)) 0)))
  have hw17:Frm [] w w17:=HF2.out.trans (HF3.out.trans (HF4.out.trans (HF5.out.trans (HF6.out.trans (HF11.out.trans (HF14.out.trans (HF14V.out.trans HF17.out)))))))
  have hs16:Frm [] w w16:=HF2.out.trans (HF3.out.trans (HF4.out.trans (HF5.out.trans (HF6.out.trans (HF11.out.trans (HF14.out.trans (HF15.out.trans HF16.out)))))))
  exact leaves_mark (HF17.out.at HKD.out (by simp)) ⟨_,res_tmp0 rfl rfl,rfl,hw17.then (Frm.putObj w17 D _) fun q hq=>.inr (by rw[List.mem_singleton] at hq;subst hq;exact Nat.le_trans hs16.size HDD.out)⟩
end Go.Proofs.YtohfkhjlnlahdaaGreat
