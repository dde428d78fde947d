/- Part of the proof. -/
import Derived.Test.YtkphhjekfimmlaaGreatH51
import Derived.Test.YtkphhjekfimmlaaGreatH52
import Derived.Test.YtkphhjekfimmlaaGreatH37
set_option linter.all false
namespace Go.Proofs.YtkphhjekfimmlaaGreat
open Go.RowKit Go.BigFrame Go.Maps
attribute [local go_sem] Oper.semAt_some
theorem nil_end {w w0 w1:World} {tmps:Array Value} (h0:Frm [] w w0) (h1:Frm [] w0 w1) (hb:w1.heap[w.heap.size]?=some (.cells #[.bool false] 4 (0,0))) (ht:tmps.getD 6 undef=.pointer (some ⟨w.heap.size,0,none⟩):=by rfl) :
  bodyPost Tryz.prog Tryz.f12 (Ret (.bool true) (Frm [] w)) .ret { tmps:=tmps,defers:=[] } (w1.setCell ⟨w.heap.size,0,none⟩ (.bool true)):=by
 have r0:=cell_of (block_setCell hb 0 (.bool true)) 0
 refine bodyPost_ret (v:=.bool true) ?_ rfl ⟨rfl,(h0.trans h1).setCell _ (.inr (Nat.le_refl _)) _⟩
 have ht2:(tmps[6]?).getD undef=.pointer (some ⟨w.heap.size,0,none⟩):=by rw[← ht];simp
 simp[results,Tryz.results12,go_sem,ht2,r0]
set_option maxRecDepth 100000 in
theorem xnil_big (lim n:Int) (key:ByteArray) (w:World) (h:60 < key.size):Calls Tryz.prog 12 #[.int .i64 lim,.int .i64 n,.string key] w (Ret (.bool true) (Frm [] w)):=by
 have h':(60:Int) < (key.size:Int):=by omega
 obtain⟨w0,hw0⟩:∃ w0,w.alloc (.cells #[.bool false] 4)=w0:=⟨_,rfl⟩
 have HB:Hid (w0.heap[w.heap.size]?=some (.cells #[.bool false] 4 (0,0))):=Lib.hid (by rw[← hw0];exact heap_alloc_new _ _)
 have HF0:Hid (Frm [] w w0):=Lib.hid (by rw[← hw0];exact(Frm.refl _ _).alloc _)
 have HK:=Lib.hid (known34_any w0)
 have HE:=Lib.hid hw0
 clear h hw0
 go_enter Tryz.func12,Tryz.ntmps12
 go_upto_region 1 with fail
 rw[HE.out]
 clear HE
 go_wp2_with (first
  | (go_at_call 31;go_must (refine HK.out.mono ?_;rintro e w1 ⟨rfl,hf⟩;have HF:=Lib.hid hf;have hb:=hf.at HB.out (by simp);have HB1:=Lib.hid hb;have c0:=cell_of hb 0;have f0:=free_of hb 0;clear hf HK hb)))
 exact nil_end HF0.out HF.out HB1.out
set_option maxHeartbeats 8000000 in
set_option maxRecDepth 100000 in
theorem xnil_any (lim n:Int) (key:ByteArray) (w:World) (h:¬ 60 < key.size):Calls Tryz.prog 12 #[.int .i64 lim,.int .i64 n,.string key] w (Ret (.bool true) (Frm [] w)):=by
 have h':¬ (60:Int) < (key.size:Int):=by omega
 obtain⟨w0,hw0⟩:∃ w0,w.alloc (.cells #[.bool false] 4)=w0:=⟨_,rfl⟩
 have HB:Hid (w0.heap[w.heap.size]?=some (.cells #[.bool false] 4 (0,0))):=Lib.hid (by rw[← hw0];exact heap_alloc_new _ _)
 have HF0:Hid (Frm [] w w0):=Lib.hid (by rw[← hw0];exact(Frm.refl _ _).alloc _)
 have HE:=Lib.hid hw0
 have C1:=Lib.hid (xSearch_no lim w0 (.inl rfl))
 clear h hw0
 refine calls_of_marks Tryz.func12 rfl ?_
 simp only[Tryz.ntmps12,List.size_toArray,List.length_cons,List.length_nil,Nat.reduceAdd,Nat.reduceSub,Array.replicate_succ,Array.replicate_zero,List.push_toArray,List.append_toArray,List.nil_append,List.cons_append]
 go_upto_region 1 with fail
 rw[HE.out]
 clear HE
 go_upto_region 5 with (first
  | (go_at_call 32;go_must (refine C1.out.mono ?_;rintro e w1 ⟨v,rfl,rfl,hf⟩;have HF1:=Lib.hid hf;clear hf C1)))
 have hz0:(w1.alloc (.cells #[.string { data:=#[] },.slice none 0 0,.int .i64 0,.int .i64 0,.pointer none] 114)).heap[w1.heap.size]?=some (.cells #[.string { data:=#[] },.slice none 0 0,.int .i64 0,.int .i64 0,.pointer none] 114 (0,0)):=heap_alloc_new _ _
 have C2:=Lib.hid (xFollow_no (.slice (some ⟨w1.heap.size + 1,0,none⟩) 1 1) ((w1.alloc (.cells #[.string { data:=#[] },.slice none 0 0,.int .i64 0,.int .i64 0,.pointer none] 114)).alloc (.cells #[.int .i64 1,.int .i64 0,.int .i64 0,.int .i64 0] 45)) (.inr ⟨_,rfl,alloc_at hz0⟩))
 clear hz0
 go_upto_region 9 with (first
  | (go_at_call 46;go_must (refine C2.out.mono ?_;rintro e w2 ⟨v,rfl,rfl,hf⟩;have HF2:=Lib.hid (HF1.out.trans ((((Frm.refl _ _).alloc _).alloc _).trans hf));clear hf C2)))
 clear HF1
 obtain⟨W9,hW9⟩:∃ W9,(w2.alloc (.cells #[.pointer none] 129)).alloc (.cells #[.pointer none,.pointer (some ⟨w2.heap.size,0,none⟩)] 82)=W9:=⟨_,rfl⟩
 have HE9:=Lib.hid hW9
 go_upto_region 10 with fail
 have hs9:W9.heap[w2.heap.size + 1]?=some (.cells #[.pointer none,.pointer (some ⟨w2.heap.size,0,none⟩)] 82 (0,0)):=by rw[← hW9];exact alloc_top (by simp)
 have hz9:W9.heap[w2.heap.size]?=some (.cells #[.pointer none] 129 (0,0)):=by rw[← hW9];exact alloc_at (heap_alloc_new _ _)
 have hf9:Frm [] w0 W9:=HF2.out.trans (by rw[← hW9];exact((Frm.refl _ _).alloc _).alloc _)
 have HP:Hid (∀ k:Nat,k < 2→∃ po,∀ V,Frm [] W9 V→V.cell? ⟨w2.heap.size + 1,k,none⟩=some (.pointer po)∧NoP V po):=Lib.hid fun k hk=>by
  match k,hk with
  | 0,_=>exact⟨none,fun V hV=>⟨hV.keep (cell_of hs9 0),.inl rfl⟩⟩
  | 1,_=>exact⟨some ⟨w2.heap.size,0,none⟩,fun V hV=>⟨hV.keep (cell_of hs9 1),.inr ⟨_,rfl,hV.at hz9 (by simp)⟩⟩⟩
 have HF9:Hid (Frm [] w W9):=Lib.hid (HF0.out.trans hf9)
 have HB9:Hid (W9.heap[w.heap.size]?=some (.cells #[.bool false] 4 (0,0))):=Lib.hid (hf9.at HB.out (by simp))
 have CK:Hid (∀ V,Calls Tryz.prog 31 #[] V (Ret (.bool true) (Frm [] V))):=Lib.hid known34_any
 obtain⟨b1,hb1⟩:∃ b,w1.heap.size=b:=⟨_,rfl⟩
 obtain⟨b2,hb2⟩:∃ b,w2.heap.size=b:=⟨_,rfl⟩
 rw[hb2] at HP
 rw[hb1,hb2]
 clear hs9 hz9 hf9 hW9 HE9 HF2 HF0 HB hb1 hb2
 refine wp_loop (fun a' w'=>∃ ds,∃ u15 u16 u17 u18 u19 u20 u21 u22 u23 u24 u67 u68 u69 u70 u71 u72 u73 u74 u75 u76 u77 u78 u79 u80 u81 u82 u83 u84 u85 u86 u87 u88 u89 u90 u91 u92 u93 u94 u95 u96 u97 u98 u99 u100 u101 u102 u103 u104 u105 u106 u107 u108 u109 u110 u111 u112 u113 u114 u115 u116 u117 u118 u119 u120 u121 u122 u123 u124 u125 u126 u127 u128 u129 u130 u131 u132 u133 u134 u135 u136 u137 u138 u139:Value,(fun ds u67 w'=>∃ k:Nat,u67=.int .i64 (k:Int)∧k≤2∧Frm [] W9 w'∧Ms w ds w') ds u67 w'∧a'={ tmps:=#[.int .i64 lim,.int .i64 n,.string key,undef,undef,undef,.pointer (some ⟨w.heap.size,0,none⟩),.pointer none,.pointer none,.int .i64 1,.pointer none,.int .i64 0,.int .i64 1,.pointer none,undef,u15,u16,u17,u18,u19,u20,u21,u22,u23,u24,.string key,.int .i64 (key.size:Int),.bool false,undef,.tuple #[.pointer none,.int .i64 1],.pointer none,.int .i64 lim,.tuple #[.pointer none,.int .i64 1],.pointer none,.int .i64 1,.tuple #[.pointer none,.int .i64 0,.int .i64 1],.agg #[.string { data:=#[] },.slice none 0 0,.int .i64 0,.int .i64 0,.pointer none],.pointer (some ⟨b1,0,none⟩),.agg #[.int .i64 1,.int .i64 0,.int .i64 0,.int .i64 0],.slice (some ⟨b1 + 1,0,none⟩) 1 1,.tuple #[.pointer none,.int .i64 0,.int .i64 1],.pointer none,.int .i64 0,.int .i64 1,.pointer none,.bool false,.bool false,.int .i64 1,.bool false,.bool false,.bool false,.pointer none,.bool false,.bool false,.bool false,.int .i64 0,.bool false,.bool false,.bool false,.int .i64 1,.bool false,.bool false,.pointer none,.agg #[.pointer none],.pointer (some ⟨b2,0,none⟩),.slice (some ⟨b2 + 1,0,none⟩) 2 2,.int .i64 2,u67,u68,u69,u70,u71,u72,u73,u74,u75,u76,u77,u78,u79,u80,u81,u82,u83,u84,u85,u86,u87,u88,u89,u90,u91,u92,u93,u94,u95,u96,u97,u98,u99,u100,u101,u102,u103,u104,u105,u106,u107,u108,u109,u110,u111,u112,u113,u114,u115,u116,u117,u118,u119,u120,u121,u122,u123,u124,u125,u126,u127,u128,u129,u130,u131,u132,u133,u134,u135,u136,u137,u138,u139,undef],defers:=marks ds }) (fun a' _=>2 - (intOf (a'.tmps.getD 67 undef)).toNat) ?_ ?_
 ·refine⟨[],?_⟩
  (repeat apply Exists.intro)
  exact⟨⟨0,rfl,by omega,Frm.refl _ _,Ms.nil _ _⟩,rfl⟩
 intro a' wr hinv
 obtain⟨ds,hinv⟩:=hinv
 obtain⟨u15,hinv⟩:=hinv
 obtain⟨u16,hinv⟩:=hinv
 obtain⟨u17,hinv⟩:=hinv
 obtain⟨u18,hinv⟩:=hinv
 obtain⟨u19,hinv⟩:=hinv
 obtain⟨u20,hinv⟩:=hinv
 obtain⟨u21,hinv⟩:=hinv
 obtain⟨u22,hinv⟩:=hinv
 obtain⟨u23,hinv⟩:=hinv
 obtain⟨u24,hinv⟩:=hinv
 obtain⟨u67,hinv⟩:=hinv
 obtain⟨u68,hinv⟩:=hinv
 obtain⟨u69,hinv⟩:=hinv
 obtain⟨u70,hinv⟩:=hinv
 obtain⟨u71,hinv⟩:=hinv
 obtain⟨u72,hinv⟩:=hinv
 obtain⟨u73,hinv⟩:=hinv
 obtain⟨u74,hinv⟩:=hinv
 obtain⟨u75,hinv⟩:=hinv
 obtain⟨u76,hinv⟩:=hinv
 obtain⟨u77,hinv⟩:=hinv
 obtain⟨u78,hinv⟩:=hinv
 obtain⟨u79,hinv⟩:=hinv
 obtain⟨u80,hinv⟩:=hinv
 obtain⟨u81,hinv⟩:=hinv
 obtain⟨u82,hinv⟩:=hinv
 obtain⟨u83,hinv⟩:=hinv
 obtain⟨u84,hinv⟩:=hinv
 obtain⟨u85,hinv⟩:=hinv
 obtain⟨u86,hinv⟩:=hinv
 obtain⟨u87,hinv⟩:=hinv
 obtain⟨u88,hinv⟩:=hinv
 obtain⟨u89,hinv⟩:=hinv
 obtain⟨u90,hinv⟩:=hinv
 obtain⟨u91,hinv⟩:=hinv
 obtain⟨u92,hinv⟩:=hinv
 obtain⟨u93,hinv⟩:=hinv
 obtain⟨u94,hinv⟩:=hinv
 obtain⟨u95,hinv⟩:=hinv
 obtain⟨u96,hinv⟩:=hinv
 obtain⟨u97,hinv⟩:=hinv
 obtain⟨u98,hinv⟩:=hinv
 obtain⟨u99,hinv⟩:=hinv
 obtain⟨u100,hinv⟩:=hinv
 obtain⟨u101,hinv⟩:=hinv
 obtain⟨u102,hinv⟩:=hinv
 obtain⟨u103,hinv⟩:=hinv
 obtain⟨u104,hinv⟩:=hinv
 obtain⟨u105,hinv⟩:=hinv
 obtain⟨u106,hinv⟩:=hinv
 obtain⟨u107,hinv⟩:=hinv
 obtain⟨u108,hinv⟩:=hinv
 obtain⟨u109,hinv⟩:=hinv
 obtain⟨u110,hinv⟩:=hinv
 obtain⟨u111,hinv⟩:=hinv
 obtain⟨u112,hinv⟩:=hinv
 obtain⟨u113,hinv⟩:=hinv
 obtain⟨u114,hinv⟩:=hinv
 obtain⟨u115,hinv⟩:=hinv
 obtain⟨u116,hinv⟩:=hinv
 obtain⟨u117,hinv⟩:=hinv
 obtain⟨u118,hinv⟩:=hinv
 obtain⟨u119,hinv⟩:=hinv
 obtain⟨u120,hinv⟩:=hinv
 obtain⟨u121,hinv⟩:=hinv
 obtain⟨u122,hinv⟩:=hinv
 obtain⟨u123,hinv⟩:=hinv
 obtain⟨u124,hinv⟩:=hinv
 obtain⟨u125,hinv⟩:=hinv
 obtain⟨u126,hinv⟩:=hinv
 obtain⟨u127,hinv⟩:=hinv
 obtain⟨u128,hinv⟩:=hinv
 obtain⟨u129,hinv⟩:=hinv
 obtain⟨u130,hinv⟩:=hinv
 obtain⟨u131,hinv⟩:=hinv
 obtain⟨u132,hinv⟩:=hinv
 obtain⟨u133,hinv⟩:=hinv
 obtain⟨u134,hinv⟩:=hinv
 obtain⟨u135,hinv⟩:=hinv
 obtain⟨u136,hinv⟩:=hinv
 obtain⟨u137,hinv⟩:=hinv
 obtain⟨u138,hinv⟩:=hinv
 obtain⟨u139,hinv⟩:=hinv
 obtain⟨hrel,ha⟩:=hinv
 subst ha
 try dsimp only
 obtain⟨k,rfl,hk,hf,hms⟩:=hrel
 have HF:=Lib.hid hf;have HMS:=Lib.hid hms
 clear hf hms
 obtain⟨wq,hwq⟩:∃ wq,wq=wr:=⟨_,rfl⟩
 subst hwq
 by_cases hlt:k < 2
 ·have hlt':(k:Int) < 2:=by omega
  obtain⟨po,hpo⟩:=HP.out k hlt
  have hv:=hpo wq HF.out
  have p0:=hv.1
  have CN:=Lib.hid (fun V (hV:Frm [] wq V)=>xNode_no (hv.2.frm hV) n)
  have CFi:=Lib.hid (fun V (hV:Frm [] wq V)=>xFind_no (hv.2.frm hV) key)
  have CL:=Lib.hid (fun V (hV:Frm [] wq V)=>xLen_no (hv.2.frm hV))
  have CW:=Lib.hid (fun V (hV:Frm [] wq V)=>xWhole_no (hv.2.frm hV))
  have CD:Hid (∀ V,Frm [] wq V→Calls Tryz.prog 37 #[.pointer po] V (Ret (.int .i64 0) (Frm [] V))):=Lib.hid fun V hV=>xDepth_of (n:=0) (e:=1) ((xLen_no (hv.2.frm hV)).mono (by rintro e w' ⟨rfl,rfl⟩;exact⟨rfl,Frm.refl _ _⟩)) (fun V2 hV2=>xLevel_of (xNode_no (hv.2.frm (hV.trans hV2)) _)) (by omega)
  have CS:=Lib.hid (fun V (hV:Frm [] wq V)=>(⟨xStates_any po V,hv.2.frm hV⟩:_∧NoP V po))
  clear hv hpo
  go_upto_region 18 with (first
   | (go_at_call 39;go_must (refine(xState_of (CN.out _ (Frm.refl _ _))).mono ?_;rintro e wa ⟨rfl,hf⟩;have HFa:=Lib.hid hf;clear hf p0))
   | (go_at_call 40;go_must (refine(xLevel_of (CN.out _ HFa.out)).mono ?_;rintro e wb ⟨rfl,hf⟩;have HFb:=Lib.hid (HFa.out.trans hf);clear hf))
   | (go_at_call 41;go_must (refine(xTrace_err (CN.out _ HFb.out) (by decide)).mono ?_;rintro e wc ⟨v,rfl,rfl,hf⟩;have HFc:=Lib.hid (HFb.out.trans hf);clear hf))
   | (go_at_call 42;go_must (refine(CFi.out _ HFc.out).mono ?_;rintro e wd ⟨rfl,hf⟩;have HFd:=Lib.hid (HFc.out.trans hf);clear hf))
   | (go_at_call 35;go_must (refine(CL.out _ HFd.out).mono ?_;rintro e we ⟨rfl,rfl⟩))
   | (go_at_call 37;go_must (refine(CD.out _ HFd.out).mono ?_;rintro e wf ⟨rfl,hf⟩;have HFf:=Lib.hid (HFd.out.trans hf);clear hf))
   | (go_at_call 36;go_must (refine(CW.out _ HFf.out).mono ?_;rintro e wg ⟨rfl,rfl⟩)))
  have hnf:=fun W f lb=>run_eql_func (P:=Tryz.prog) W 102 #[199] #[] false f lb Tryz.underlying102
  go_wp2_with (first
   | (go_at_call 45;go_must (refine(CS.out _ HFf.out).1.mono ?_;rintro e wg ⟨v,rfl,bx,rfl,hbx,hf⟩;have HBX:=Lib.hid hbx;have HFg:=Lib.hid (HFf.out.trans hf);clear hf hbx)))
  have HST:Hid (StN bx po wg):=Lib.hid ⟨HBX.out,(CS.out _ HFg.out).2⟩
  clear hnf CN CFi CL CW CD CS HBX
  have hin:w.heap.size≤wg.heap.size:=(HF9.out.trans (HF.out.trans HFg.out)).size
  have HIN:=Lib.hid hin
  have HMG:Hid (Ms w ds wg):=Lib.hid (HMS.out.frm HFg.out)
  have HDS:Hid (∀ E∈ds,E < wg.heap.size):=Lib.hid fun E hE=>lt_of_block (HMG.out.dl E hE).2
  clear hin
  refine wp_rangeList rfl (enters_of Tryz.func97 (by kernel_rfl) rfl) (st_iter_no bx po) (fun _=>rfl) (fun _ W=>Frm [] wg W∧Ms w ds W) (fun _ _ _=>False)
   (fun _ W W' h hb=>⟨hb.old h.1 (Nat.le_refl _),h.2.bk hb HDS.out⟩) (fun _ _ _ _ h _=>h.elim) (fun _ W h=>⟨h.1.at HST.out.1 (by simp),HST.out.2.frm h.1⟩) ⟨Frm.refl _ _,HMG.out⟩ ?_ ?_ ?_
  ·intro l pre x rest W hxs
   simp at hxs
  ·intro D W hD hI hK
   have hm9:=hI.2.cons (D:=D) (fun E hE=>by have:=HDS.out E hE;omega) (by have:=HIN.out;omega) hK
   have HM9:=Lib.hid hm9;have HFW:=Lib.hid hI.1
   have hw1:wrap64 ((k:Int) + 1)=((k + 1:Nat):Int):=by unfold wrap64;omega
   clear hI hK hm9
   go_wp2
   refine⟨⟨D :: ds,?_⟩,?_⟩
   ·(repeat apply Exists.intro)
    exact⟨⟨k + 1,rfl,hlt,HF.out.trans (HFg.out.trans HFW.out),HM9.out⟩,rfl⟩
   ·exact meas_upS hlt
  ·intro D c pre x rest W hxs
   simp at hxs
 ·have hge:¬ (k:Int) < 2:=by omega
  go_wp2_with (first
   | (go_at_call 31;go_must (refine(CK.out _).mono ?_;rintro e wk ⟨rfl,hf'⟩;have HFK:=Lib.hid (HF.out.trans hf');have HMK:=Lib.hid (HMS.out.frm hf');have c6:=cell_of (HFK.out.at HB9.out (by simp)) 0;have f6:=free_of (HFK.out.at HB9.out (by simp)) 0;clear hf')))
  exact law_end (HF9.out.trans HFK.out) (HFK.out.at HB9.out (by simp)) (Nat.le_refl _) HMK.out
end Go.Proofs.YtkphhjekfimmlaaGreat
