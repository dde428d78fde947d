/- Part of the proof. -/
import Derived.Test.YtemjlpahohmajaaGreatK50
import Derived.Test.YtemjlpahohmajaaGreatK51
import Derived.Test.YtemjlpahohmajaaGreatK29
import Derived.Test.YtemjlpahohmajaaGreatK47
set_option linter.all false
namespace Go.Proofs.YtemjlpahohmajaaGreat
open Go.RowKit Go.BigFrame
theorem neq_sp (a:Sp) (w:World):(binOp .neq 63 (suV a) (suV a)).run Tryz.prog w=.ok (.bool false) w:=by
 have h:=eql_sp a a w
 rw[decide_eq_true rfl] at h
 have h2:(Op.equalIn (9999 + 1) 63 (suV a) (suV a)).run Tryz.prog w=.ok true w:=by
  rw[run_equalIn_struct w 9999 63 _ _ Tryz.undSp (by kernel_rfl)]
  simp[go_sem,Tryz.underlying63,encU]
 simp only[binOp]
 simp[show Op.equal 63 (suV a) (suV a)=Op.equalIn (9999 + 1) 63 (suV a) (suV a) from rfl,h2]
attribute [local go_sem] Oper.semAt_some
set_option maxHeartbeats 8000000 in
set_option maxRecDepth 100000 in
theorem enil_any (lim:Int) (w:World):Calls Tryz.prog 7 #[.int .i64 lim] w (Ret (.bool true) (Frm [] w)):=by
 obtain⟨w0,hw0⟩:∃ w0,w.alloc (.cells #[.bool false] 4)=w0:=⟨_,rfl⟩
 have HB:Hid (w0.heap[w.heap.size]?=some (.cells #[.bool false] 4 (0,0))):=Lib.hid (by rw[← hw0];exact heap_alloc_new _ _)
 have HF0:Hid (Frm [] w w0):=Lib.hid (by rw[← hw0];exact(Frm.refl _ _).alloc _)
 have HE:=Lib.hid hw0
 have CS:=fun V=>Lib.hid (sample36_any V)
 clear hw0
 refine calls_of_marks Tryz.func7 rfl ?_
 simp only[Tryz.ntmps7,List.size_toArray,List.length_cons,List.length_nil,Nat.reduceAdd,Nat.reduceSub,Array.replicate_succ,Array.replicate_zero,List.push_toArray,List.append_toArray,List.nil_append,List.cons_append]
 go_upto_region 1 with fail
 rw[HE.out]
 clear HE
 go_upto_region 2 with (first
  | (go_at_call 38;go_must (refine(CS _).out.mono ?_;rintro e w1 ⟨vs1,rfl,hs,hf⟩;have HF1:=Lib.hid hf;have CN:=Lib.hid (pNew_ok vs1 smE w1 hs smE_sm e_ck);clear hs hf))
  | (go_at_call 37;go_must (refine CN.out.mono ?_;rintro e w2 ⟨v,rfl,hn⟩;obtain⟨⟨y1,f1,rfl,hl1,hsy⟩,hf⟩:=hn;have HY1:=Lib.hid (hsy w2 (Agree.refl _ _));have HF2:=Lib.hid (HF1.out.trans hf);clear hsy hf CN)))
 go_upto_region 5 with (first
  | (go_at_call 38;go_must (refine(CS _).out.mono ?_;rintro e w3 ⟨vs2,rfl,hs,hf⟩;have HF3:=Lib.hid (HF2.out.trans hf);have HY13:=Lib.hid (HY1.out.frm hf);have CN:=Lib.hid (pNew_ok vs2 smE w3 hs smE_sm e_ck);clear hs hf))
  | (go_at_call 37;go_must (refine CN.out.mono ?_;rintro e w4 ⟨v,rfl,hn⟩;obtain⟨⟨y2,f2,rfl,hl2,hsy⟩,hf⟩:=hn;have HY2:=Lib.hid (hsy w4 (Agree.refl _ _));have HF4:=Lib.hid (HF3.out.trans hf);have HY14:=Lib.hid (HY13.out.frm hf);clear hsy hf CN))
  | (go_at_call 29;go_must (refine(num36_any _ _).mono ?_;rintro e w' ⟨rfl,rfl⟩)))
 have hne:y2≠y1:=by
  obtain⟨rv,h1,-⟩:=HY13.out.out
  have:=lt_of_block h1
  omega
 have CP:=Lib.hid (pFirst_any smE y2 f2 w4 HY2.out)
 have CO1:=Lib.hid (xpOf_err 2 (by decide) (pCheck_other smE smE y1 f1 y2 f2 f2 _ HY14.out HY2.out HY2.out.first hne))
 have CO2:=Lib.hid (xpOf_err 1 (by decide) (pCheck_noS smE y1 f1 HY14.out (show NoS w4 none from .inl rfl)))
 go_upto_region 10 with (first
  | (go_at_call 30;go_must (refine CP.out.mono ?_;rintro e w' ⟨rfl,rfl⟩;clear CP))
  | (go_at_call 32;(refine CO1.out.mono ?_;rintro e w' ⟨rfl,rfl⟩;clear CO1))
  | (go_at_call 32;go_must (refine CO2.out.mono ?_;rintro e w' ⟨rfl,rfl⟩;clear CO2)))
 clear hne
 obtain⟨W9,hW9⟩:∃ W9,(w4.alloc (.cells #[.string { data:=#[] },.slice none 0 0,.int .i64 0,.int .i64 0,.pointer none] 98)).alloc (.cells #[.pointer none,.pointer (some ⟨w4.heap.size,0,none⟩)] 26)=W9:=⟨_,rfl⟩
 have HE9:=Lib.hid hW9
 go_upto_region 11 with fail
 have hs9:W9.heap[w4.heap.size + 1]?=some (.cells #[.pointer none,.pointer (some ⟨w4.heap.size,0,none⟩)] 26 (0,0)):=by rw[← hW9];exact alloc_top (by simp)
 have hz9:W9.heap[w4.heap.size]?=some (.cells #[.string { data:=#[] },.slice none 0 0,.int .i64 0,.int .i64 0,.pointer none] 98 (0,0)):=by rw[← hW9];exact alloc_at (heap_alloc_new _ _)
 have hf9:Frm [] w4 W9:=by rw[← hW9];exact((Frm.refl _ _).alloc _).alloc _
 have HP:Hid (∀ k:Nat,k < 2→∃ po,∀ V,Frm [] W9 V→V.cell? ⟨w4.heap.size + 1,k,none⟩=some (.pointer po)∧NoY V po):=Lib.hid fun k hk=>by
  match k,hk with
  | 0,_=>exact⟨none,fun V hV=>⟨hV.keep (cell_of hs9 0),.inl rfl⟩⟩
  | 1,_=>exact⟨some ⟨w4.heap.size,0,none⟩,fun V hV=>⟨hV.keep (cell_of hs9 1),.inr ⟨_,rfl,hV.at hz9 (by simp)⟩⟩⟩
 have HF9:Hid (Frm [] w W9):=Lib.hid (HF0.out.trans (HF4.out.trans hf9))
 have HB9:Hid (W9.heap[w.heap.size]?=some (.cells #[.bool false] 4 (0,0))):=Lib.hid (hf9.at (HF4.out.at HB.out (by simp)) (by simp))
 have HY9:=Lib.hid (HY14.out.frm hf9)
 obtain⟨b4,hb4⟩:∃ b,w4.heap.size=b:=⟨_,rfl⟩
 rw[hb4] at HP
 rw[hb4]
 clear hs9 hz9 hf9 hW9 HE9 HF0 HB hb4 HY1 HY13 HY14 HY2 CS
 have CK:Hid (∀ V,Calls Tryz.prog 27 #[] V (Ret (.bool true) (Frm [] V))):=Lib.hid known36_any
 refine wp_loop (fun a' w'=>∃ ds,∃ u13 u14 u15 u16 u17 u18 u19 u20 u21 u22 u62 u63 u64 u65 u66 u67 u68 u69 u70 u71 u72 u73 u74 u75 u76 u77 u78 u79 u80 u81 u82 u83 u84 u85 u86 u87 u88 u89 u90 u91 u92 u93 u94 u95 u96 u97 u98 u99 u100 u101 u102 u103 u104 u105 u106 u107 u108 u109 u110 u111 u112 u113 u114 u115 u116 u117 u118 u119 u120 u121 u122 u123 u124:Value,(fun ds u62 w'=>∃ k:Nat,u62=.int .i64 (k:Int)∧k≤2∧Frm [] W9 w'∧Ms w ds w') ds u62 w'∧a'={ tmps:=#[.int .i64 lim,undef,.pointer (some ⟨w.heap.size,0,none⟩),pv y1,.int .i64 0,pv y2,.int .i64 0,.slice none 0 0,.int .i64 2,.slice none 0 0,.int .i64 1,.pointer none,undef,u13,u14,u15,u16,u17,u18,u19,u20,u21,u22,.tuple #[pv y1,.int .i64 0],vs1,.tuple #[pv y1,.int .i64 0],pv y1,.int .i64 0,.tuple #[pv y2,.int .i64 0],vs2,.tuple #[pv y2,.int .i64 0],pv y2,.int .i64 0,.int .i64 0,.int .i64 0,.int .i64 0,.int .i64 0,.int .i64 0,.bool false,.tuple #[.slice none 0 0,.int .i64 2],pv y1,pv y2,.pointer (some ⟨f2,0,none⟩),.tuple #[.slice none 0 0,.int .i64 2],.slice none 0 0,.int .i64 2,.tuple #[.slice none 0 0,.int .i64 1],pv y1,.tuple #[.slice none 0 0,.int .i64 1],.slice none 0 0,.int .i64 1,.int .i64 2,.bool false,.bool false,.int .i64 1,.bool false,.bool false,.pointer none,.agg #[.string { data:=#[] },.slice none 0 0,.int .i64 0,.int .i64 0,.pointer none],.pointer (some ⟨b4,0,none⟩),.slice (some ⟨b4 + 1,0,none⟩) 2 2,.int .i64 2,u62,u63,u64,u65,u66,u67,u68,u69,u70,u71,u72,u73,u74,u75,u76,u77,u78,u79,u80,u81,u82,u83,u84,u85,u86,u87,u88,u89,u90,u91,u92,u93,u94,u95,u96,u97,u98,u99,u100,u101,u102,u103,u104,u105,u106,u107,u108,u109,u110,u111,u112,u113,u114,u115,u116,u117,u118,u119,u120,u121,u122,u123,u124,undef],defers:=marks ds }) (fun a' _=>2 - (intOf (a'.tmps.getD 62 undef)).toNat) ?_ ?_
 ·refine⟨[],?_⟩
  (repeat apply Exists.intro)
  exact⟨⟨0,rfl,by omega,Frm.refl _ _,Ms.nil _ _⟩,rfl⟩
 intro a' wr hinv
 obtain⟨ds,hinv⟩:=hinv
 obtain⟨u13,hinv⟩:=hinv
 obtain⟨u14,hinv⟩:=hinv
 obtain⟨u15,hinv⟩:=hinv
 obtain⟨u16,hinv⟩:=hinv
 obtain⟨u17,hinv⟩:=hinv
 obtain⟨u18,hinv⟩:=hinv
 obtain⟨u19,hinv⟩:=hinv
 obtain⟨u20,hinv⟩:=hinv
 obtain⟨u21,hinv⟩:=hinv
 obtain⟨u22,hinv⟩:=hinv
 obtain⟨u62,hinv⟩:=hinv
 obtain⟨u63,hinv⟩:=hinv
 obtain⟨u64,hinv⟩:=hinv
 obtain⟨u65,hinv⟩:=hinv
 obtain⟨u66,hinv⟩:=hinv
 obtain⟨u67,hinv⟩:=hinv
 obtain⟨u68,hinv⟩:=hinv
 obtain⟨u69,hinv⟩:=hinv
 obtain⟨u70,hinv⟩:=hinv
 obtain⟨u71,hinv⟩:=hinv
 obtain⟨u72,hinv⟩:=hinv
 obtain⟨u73,hinv⟩:=hinv
 obtain⟨u74,hinv⟩:=hinv
 obtain⟨u75,hinv⟩:=hinv
 obtain⟨u76,hinv⟩:=hinv
 obtain⟨u77,hinv⟩:=hinv
 obtain⟨u78,hinv⟩:=hinv
 obtain⟨u79,hinv⟩:=hinv
 obtain⟨u80,hinv⟩:=hinv
 obtain⟨u81,hinv⟩:=hinv
 obtain⟨u82,hinv⟩:=hinv
 obtain⟨u83,hinv⟩:=hinv
 obtain⟨u84,hinv⟩:=hinv
 obtain⟨u85,hinv⟩:=hinv
 obtain⟨u86,hinv⟩:=hinv
 obtain⟨u87,hinv⟩:=hinv
 obtain⟨u88,hinv⟩:=hinv
 obtain⟨u89,hinv⟩:=hinv
 obtain⟨u90,hinv⟩:=hinv
 obtain⟨u91,hinv⟩:=hinv
 obtain⟨u92,hinv⟩:=hinv
 obtain⟨u93,hinv⟩:=hinv
 obtain⟨u94,hinv⟩:=hinv
 obtain⟨u95,hinv⟩:=hinv
 obtain⟨u96,hinv⟩:=hinv
 obtain⟨u97,hinv⟩:=hinv
 obtain⟨u98,hinv⟩:=hinv
 obtain⟨u99,hinv⟩:=hinv
 obtain⟨u100,hinv⟩:=hinv
 obtain⟨u101,hinv⟩:=hinv
 obtain⟨u102,hinv⟩:=hinv
 obtain⟨u103,hinv⟩:=hinv
 obtain⟨u104,hinv⟩:=hinv
 obtain⟨u105,hinv⟩:=hinv
 obtain⟨u106,hinv⟩:=hinv
 obtain⟨u107,hinv⟩:=hinv
 obtain⟨u108,hinv⟩:=hinv
 obtain⟨u109,hinv⟩:=hinv
 obtain⟨u110,hinv⟩:=hinv
 obtain⟨u111,hinv⟩:=hinv
 obtain⟨u112,hinv⟩:=hinv
 obtain⟨u113,hinv⟩:=hinv
 obtain⟨u114,hinv⟩:=hinv
 obtain⟨u115,hinv⟩:=hinv
 obtain⟨u116,hinv⟩:=hinv
 obtain⟨u117,hinv⟩:=hinv
 obtain⟨u118,hinv⟩:=hinv
 obtain⟨u119,hinv⟩:=hinv
 obtain⟨u120,hinv⟩:=hinv
 obtain⟨u121,hinv⟩:=hinv
 obtain⟨u122,hinv⟩:=hinv
 obtain⟨u123,hinv⟩:=hinv
 obtain⟨u124,hinv⟩:=hinv
 obtain⟨hrel,ha⟩:=hinv
 subst ha
 try dsimp only
 obtain⟨k,rfl,hk,hf,hms⟩:=hrel
 have HF:=Lib.hid hf;have HMS:=Lib.hid hms
 clear hf hms
 obtain⟨wq,hwq⟩:∃ wq,wq=wr:=⟨_,rfl⟩
 subst hwq
 by_cases hlt:k < 2
 ·have hlt':(k:Int) < 2:=by omega
  obtain⟨po,hpo⟩:=HP.out k hlt
  have hv:=hpo wq HF.out
  have p0:=hv.1
  have hyq:=HY9.out.frm HF.out
  have CP:=Lib.hid (pFirst_any smE y1 f1 wq hyq)
  have CO:=Lib.hid (xpOf_err 1 (by decide) (pCheck_noY hv.2 (some ⟨f1,0,none⟩)))
  have CF:=Lib.hid (xpFirst_no lim wq hv.2)
  have CU:=Lib.hid (fun V (hV:Frm [] wq V)=>xpUsed_no lim V (hv.2.frm hV))
  have CA:=Lib.hid (fun V (hV:Frm [] wq V)=>xpAll_no lim V (hv.2.frm hV))
  have hq:∀ V,(binOp .neq 63 suZ suZ).run Tryz.prog V=.ok (.bool false) V:=fun V=>neq_sp ⟨0,0,{ data:=#[] }⟩ V
  clear hv hpo hyq
  go_upto_region 18 with (first
   | (go_at_call 30;go_must (refine CP.out.mono ?_;rintro e w' ⟨rfl,rfl⟩;clear CP))
   | (go_at_call 32;go_must (refine CO.out.mono ?_;rintro e w' ⟨rfl,rfl⟩;clear CO p0))
   | (go_at_call 28;go_must (refine CF.out.mono ?_;rintro e wa ⟨v,rfl,rfl,hf⟩;have HFa:=Lib.hid (hf.alloc (.cells #[.int .i64 0,.int .i64 0,.string { data:=#[] }] 63));have HXa:Hid ((wa.alloc (.cells #[.int .i64 0,.int .i64 0,.string { data:=#[] }] 63)).heap[wa.heap.size]?=some (.cells #[.int .i64 0,.int .i64 0,.string { data:=#[] }] 63 (0,0))):=Lib.hid (heap_alloc_new _ _);clear hf CF))
   | (go_at_call 34;go_must (refine(CU.out _ HFa.out).mono ?_;rintro e wb ⟨v,rfl,rfl,hf⟩;have HFb:=Lib.hid (HFa.out.trans hf);have hx:=hf.at HXa.out (by simp);have x0:=cell_of hx 0;have x1:=cell_of hx 1;have x2:=cell_of hx 2;clear hf hx CU)))
  have hnf:=fun W f lb=>run_eql_func (P:=Tryz.prog) W 92 #[172] #[] false f lb Tryz.underlying92
  go_upto_region 22 with (first
   | (go_at_call 36;go_must (refine(CA.out _ HFb.out).mono ?_;rintro e wg ⟨v,rfl,B1,B2,rfl,hal,hf⟩;have HAL:=Lib.hid hal;have HFg:=Lib.hid (HFb.out.trans hf);clear hf hal CA)))
  clear hnf x0 x1 x2 hq
  have HIN:Hid (w.heap.size≤wg.heap.size):=Lib.hid (HF9.out.trans (HF.out.trans HFg.out)).size
  have HMG:Hid (Ms w ds wg):=Lib.hid (HMS.out.frm HFg.out)
  have HDS:Hid (∀ E∈ds,E < wg.heap.size):=Lib.hid fun E hE=>lt_of_block (HMG.out.dl E hE).2
  refine wp_rangeListT (T:=fun _=>False) rfl (enters_of Tryz.func79 (by kernel_rfl) rfl) (al_iter_no (fun _=>False) B1 B2 none) (fun _=>rfl) (fun _ W=>Frm [] wg W∧Ms w ds W) (fun _ _ _=>False)
   (fun _ W W' h hb=>⟨hb.old h.1 (Nat.le_refl _),h.2.bk hb HDS.out⟩) (fun _ _ _ _ h _=>h.elim) (fun _ W h=>⟨h.1.at HAL.out.1 (by simp),.inl rfl⟩) ⟨Frm.refl _ _,HMG.out⟩ ?_ ?_ ?_
  ·intro l pre x rest W hxs
   simp at hxs
  ·intro D W hD hI hK
   have hm9:=hI.2.cons (D:=D) (fun E hE=>by have:=HDS.out E hE;omega) (by have:=HIN.out;omega) hK
   have HM9:=Lib.hid hm9;have HFW:=Lib.hid hI.1
   have hw1:wrap64 ((k:Int) + 1)=((k + 1:Nat):Int):=by unfold wrap64;omega
   clear hI hK hm9
   go_wp2
   refine⟨⟨D :: ds,?_⟩,?_⟩
   ·(repeat apply Exists.intro)
    exact⟨⟨k + 1,rfl,hlt,HF.out.trans (HFg.out.trans HFW.out),HM9.out⟩,rfl⟩
   ·exact meas_upS hlt
  ·intro D c pre x rest W hxs
   simp at hxs
 ·have hge:¬ (k:Int) < 2:=by omega
  go_wp2_with (first
   | (go_at_call 27;go_must (refine(CK.out _).mono ?_;rintro e wk ⟨rfl,hf'⟩;have HFK:=Lib.hid (HF.out.trans hf');have HMK:=Lib.hid (HMS.out.frm hf');have c6:=cell_of (HFK.out.at HB9.out (by simp)) 0;have f6:=free_of (HFK.out.at HB9.out (by simp)) 0;clear hf')))
  exact law_end (HF9.out.trans HFK.out) (HFK.out.at HB9.out (by simp)) (Nat.le_refl _) HMK.out
end Go.Proofs.YtemjlpahohmajaaGreat
