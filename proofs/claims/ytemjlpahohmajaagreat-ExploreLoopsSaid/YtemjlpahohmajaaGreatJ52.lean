/- Part of the proof. -/
import Derived.Test.YtemjlpahohmajaaGreatJ43
import Derived.Test.YtemjlpahohmajaaGreatJ51
import Derived.Test.YtemjlpahohmajaaGreatJ34
import Derived.Test.YtemjlpahohmajaaGreatJ47
set_option linter.all false
namespace Go.Proofs.YtemjlpahohmajaaGreat
open Go.RowKit Go.BigFrame Go.Maps
attribute [local go_sem] Oper.semAt_some
set_option maxHeartbeats 0 in
set_option maxRecDepth 100000 in
theorem xloops_any (v:Value) (s:SesD) (lim many:Int) (w:World) (h:SesV w v s) (hw:WfS s):Calls Tryz.prog 4 #[v,.int .i64 lim,.int .i64 many] w (Ret (.bool true) (Frm [] w)):=by
 have HSV:=Lib.hid h
 obtain⟨rv,rfl,hr⟩:=h
 obtain⟨ao,cap,rfl⟩:=hr.shape
 obtain⟨n,hn⟩:∃ n,s.roles.length=n:=⟨_,rfl⟩
 rw[hn] at HSV ⊢
 obtain⟨W0,hW0⟩:∃ W0,((w.alloc (.cells #[.string s.name,.slice ao n cap,.int .i64 s.cls,.int .i64 s.cap] 25)).alloc (.cells #[.int .i64 many] 3)).alloc (.cells #[.bool false] 4)=W0:=⟨_,rfl⟩
 have hf0:Frm [] w W0:=by rw[← hW0];exact(((Frm.refl _ _).alloc _).alloc _).alloc _
 have HF0:=Lib.hid hf0
 have hb0:W0.heap[w.heap.size]?=some (.cells #[.string s.name,.slice ao n cap,.int .i64 s.cls,.int .i64 s.cap] 25 (0,0)):=by rw[← hW0];exact alloc_at (alloc_at (heap_alloc_new _ _))
 have hb1:W0.heap[w.heap.size + 1]?=some (.cells #[.int .i64 many] 3 (0,0)):=by rw[← hW0];exact alloc_at (alloc_top (by simp))
 have hb2:W0.heap[w.heap.size + 2]?=some (.cells #[.bool false] 4 (0,0)):=by rw[← hW0];exact alloc_top (by simp)
 have HB0:=Lib.hid (fun V (hV:Frm [] W0 V)=>hV.at hb0 (by simp))
 have HB1:=Lib.hid (fun V (hV:Frm [] W0 V)=>hV.at hb1 (by simp))
 have HB2:=Lib.hid (fun V (hV:Frm [] W0 V)=>hV.at hb2 (by simp))
 have CK:Hid (∀ V,Calls Tryz.prog 10 #[] V (Ret (.bool true) (Frm [] V))):=Lib.hid known34_any
 have HE:=Lib.hid hW0
 have HG:=Lib.hid (fun h1=>given_no (HSV.out.frm hf0) hw h1)
 have HY:=Lib.hid (fun h1=>given_yes (HSV.out.frm hf0) hw h1)
 clear hr hw hf0 hb0 hb1 hb2 hW0 hn
 refine calls_of_marks Tryz.func4 rfl ?_
 simp only[Tryz.ntmps4,List.size_toArray,List.length_cons,List.length_nil,Nat.reduceAdd,Nat.reduceSub,Array.replicate_succ,Array.replicate_zero,List.push_toArray,List.append_toArray,List.nil_append,List.cons_append]
 go_upto_region 1 with fail
 rw[HE.out]
 clear HE
 cases hg:gvB s with
 | false =>
   have CG:=Lib.hid (HG.out hg)
   clear hg HG HY
   go_wp2_with (first
    | (refine wpList_load_whole rfl 25 _ rfl _ rfl _ 25 (HB0.out _ (Frm.refl _ _)) _ Tryz.underlying25 rfl (by kernel_rfl) ?_)
    | (go_at_call 9;go_must (refine CG.out.mono ?_;rintro e w1 ⟨u,rfl,rfl,hf1⟩;have HF1:=Lib.hid hf1;clear hf1))
    | (go_at_call 10;go_must (refine(CK.out _).mono ?_;rintro e wk ⟨rfl,hf'⟩;have HFK:Hid (Frm [] W0 wk):=Lib.hid (HF1.out.trans hf');have c4:=cell_of (HB2.out _ HFK.out) 0;have f4:=free_of (HB2.out _ HFK.out) 0;clear hf')))
   exact law_end (ds:=[]) (HF0.out.trans HFK.out) (HB2.out _ HFK.out) (by omega) (Ms.nil _ _)
 | true =>
   have CG:=Lib.hid (HY.out hg)
   have HOK:=Lib.hid (gv_ok hg)
   clear hg HG HY
   by_cases hl:lim < 1∨60 < lim
   ·by_cases hl1:lim < 1
    ·go_wp2_with (first
      | (refine wpList_load_whole rfl 25 _ rfl _ rfl _ 25 (HB0.out _ (Frm.refl _ _)) _ Tryz.underlying25 rfl (by kernel_rfl) ?_)
      | (go_at_call 9;go_must (refine CG.out.mono ?_;rintro e w1 ⟨u,rfl,yb,fb,rfl,hsy,hf1⟩;have HF1:=Lib.hid hf1;clear hf1 hsy))
      | (go_at_call 10;go_must (refine(CK.out _).mono ?_;rintro e wk ⟨rfl,hf'⟩;have HFK:Hid (Frm [] W0 wk):=Lib.hid (HF1.out.trans hf');have c4:=cell_of (HB2.out _ HFK.out) 0;have f4:=free_of (HB2.out _ HFK.out) 0;clear hf')))
     exact law_end (ds:=[]) (HF0.out.trans HFK.out) (HB2.out _ HFK.out) (by omega) (Ms.nil _ _)
    ·have hl2:60 < lim:=hl.resolve_left hl1
     have hd1:decide (lim < 1)=false:=decide_eq_false hl1
     have hd2:decide (60 < lim)=true:=decide_eq_true hl2
     clear hl
     go_wp2_with (first
      | (refine wpList_load_whole rfl 25 _ rfl _ rfl _ 25 (HB0.out _ (Frm.refl _ _)) _ Tryz.underlying25 rfl (by kernel_rfl) ?_)
      | (go_at_call 9;go_must (refine CG.out.mono ?_;rintro e w1 ⟨u,rfl,yb,fb,rfl,hsy,hf1⟩;have HF1:=Lib.hid hf1;clear hf1 hsy))
      | (go_at_call 10;go_must (refine(CK.out _).mono ?_;rintro e wk ⟨rfl,hf'⟩;have HFK:Hid (Frm [] W0 wk):=Lib.hid (HF1.out.trans hf');have c4:=cell_of (HB2.out _ HFK.out) 0;have f4:=free_of (HB2.out _ HFK.out) 0;clear hf')))
     exact law_end (ds:=[]) (HF0.out.trans HFK.out) (HB2.out _ HFK.out) (by omega) (Ms.nil _ _)
   ·obtain⟨m,rfl⟩:∃ m:Nat,lim=(m:Int):=⟨lim.toNat,by omega⟩
    have hm1:¬ ((m:Int) < 1):=by omega
    have hm2:¬ (60 < (m:Int)):=by omega
    have hd1:decide ((m:Int) < 1)=false:=decide_eq_false hm1
    have hd2:decide (60 < (m:Int))=false:=decide_eq_false hm2
    have HM:Hid (1≤m∧m≤60):=Lib.hid (by omega)
    clear hl
    have hnf:=fun W f lb=>run_eql_func (P:=Tryz.prog) W 58 #[150] #[] false f lb Tryz.underlying58
    go_upto_region 11 with (first
     | (refine wpList_load_whole rfl 25 _ rfl _ rfl _ 25 (HB0.out _ (Frm.refl _ _)) _ Tryz.underlying25 rfl (by kernel_rfl) ?_)
     | (go_at_call 9;go_must (refine CG.out.mono ?_;rintro e w1 ⟨u,rfl,yb,fb,rfl,hsy,hf1⟩;have HF1:=Lib.hid hf1;have HSY1:=Lib.hid hsy;have CS:=Lib.hid (xSearch_any s yb fb m w1 hsy HM.out.1 (by have:=HM.out;omega));clear hf1 hsy))
     | (go_at_call 11;go_must (refine CS.out.mono ?_;rintro e w2 ⟨u,rfl,pb,N,rfl,hsp,hN,hf2⟩;have HSP:=Lib.hid hsp;have HNN:=Lib.hid hN;have HF12:=Lib.hid hf2;have HF2:=Lib.hid (HF1.out.trans hf2);have CY:=Lib.hid (ySearch_any s _ m w2 (HSV.out.frm (HF0.out.trans (HF1.out.trans hf2))) HOK.out HM.out.1 (by have:=HM.out;omega));have HB2w:=Lib.hid (HB0.out _ HF2.out);clear hsp hN hf2))
     | (go_at_call 13;go_must (refine(num34_any _ _).mono ?_;rintro e w' ⟨rfl,rfl⟩))
     | (refine wpList_load_whole rfl 25 _ rfl _ rfl _ 25 HB2w.out _ Tryz.underlying25 rfl (by kernel_rfl) ?_)
     | (go_at_call 12;go_must (refine CY.out.mono ?_;rintro e w3 ⟨u,rfl,hys,hf3⟩;obtain⟨a0,c0,a1,c1,a2,c2,a3',c3',eu,-⟩:=id hys.out;subst eu;have HYS:=Lib.hid hys;have HF3:=Lib.hid (HF2.out.trans hf3);have HF23:=Lib.hid hf3;clear hys hf3))
     | (refine wpList_store_row rfl 39 _ _ rfl _ _ _ 39 rfl rfl (heap_alloc_new _ _) rfl Tryz.infoRSp (one5s ..) ?_;intro w4 hb4 hf4;have HB4:=Lib.hid hb4;have HF34:=Lib.hid (((Frm.refl [] w3).alloc _).then hf4 (by intro q hq;simp at hq;subst hq;exact .inr (Nat.le_refl _)));clear hb4 hf4)
     | (go_at_call 25;go_must (refine(xStates_any _ _).mono ?_;rintro e w5 ⟨u,rfl,bx,rfl,hbx,hf5⟩;have HBXI:=Lib.hid hbx;have HF45:=Lib.hid hf5;clear hbx hf5)))
    clear hnf hd1 hd2 hm1 hm2
    obtain⟨nn,hfo⟩:=search_ok (lim:=m) HOK.out HM.out.1
    obtain⟨R,hR⟩:∃ R,searchP s m=R:=⟨_,rfl⟩
    have hN:=HNN.out
    rw[hR] at hfo hN HSP HYS HB4 ⊢
    obtain⟨R1,wh⟩:=R
    have hN':N.map Prod.fst=R1:=hN
    subst hN'
    have hnl:(N.map Prod.fst).length=N.length:=List.length_map ..
    have hlen2:N.length≤m:=by
     have:=hfo.top
     rw[List.length_map] at this
     omega
    have HL:Hid (N.length≤m):=Lib.hid hlen2
    have HF5:Hid (Frm [] W0 w5):=Lib.hid (HF3.out.trans (HF34.out.trans HF45.out))
    have HSP5:Hid (SpO w5 s yb wh pb N):=Lib.hid (HSP.out.frm (HF23.out.trans (HF34.out.trans HF45.out)))
    have HSY5:Hid (SyR w5 s yb fb):=Lib.hid (HSY1.out.frm (HF12.out.trans (HF23.out.trans (HF34.out.trans HF45.out))))
    have hys:YsV w5 s (.agg #[.slice a0 (N.map Prod.fst).length c0,.slice a1 (N.map Prod.fst).length c1,.slice a2 (N.map Prod.fst).length c2,.slice a3' (N.map Prod.fst).length c3',.bool wh]) (N.map Prod.fst) wh:=HYS.out.frm (HF34.out.trans HF45.out)
    have hb5:w5.heap[w3.heap.size]?=some (.cells #[.slice a0 (N.map Prod.fst).length c0,.slice a1 (N.map Prod.fst).length c1,.slice a2 (N.map Prod.fst).length c2,.slice a3' (N.map Prod.fst).length c3',.bool wh] 39 (0,0)):=HF45.out.at HB4.out (by simp)
    obtain⟨b0,e0,b1,e1,b2,e2,b3,e3,heq,-,hk1,-,-⟩:=hys.out
    have hla:b1=a1∧e1=c1:=by
     have h1:=congrArg (fun v=>match v with | .agg A=>A.getD 1 undef | _=>undef) heq
     have h2:Value.slice a1 (N.map Prod.fst).length c1=Value.slice b1 (N.map Prod.fst).length e1:=h1
     injection h2 with h3 h4 h5
     exact⟨h3.symm,h5.symm⟩
    obtain⟨rfl,rfl⟩:=hla
    try dsimp only
    rw[hnl] at hb5 hk1 ⊢
    have HKS:=Lib.hid hk1
    have HBX:=Lib.hid hb5
    have HBI:Hid (w5.heap[bx]?=some (.cells #[.pointer (some ⟨pb,0,none⟩)] 30 (0,0))):=HBXI
    have hit:=st_iter bx yb pb s wh N (by have:=HM.out;omega)
    have HIT:=Lib.hid hit
    clear hR hN hfo HNN HYS HB4 HSP CY CS CG hlen2 hnl hys hb5 heq hk1 hit HBXI HF12 HF23 HF34 HF45 HB2w HF1 HF2 HF3 HSY1
    go_upto_region 12 with fail
    have hb0:(w5.alloc (.cells #[.int .i64 0] 3)).heap[w5.heap.size]?=some (.cells #[.int .i64 ((0:Nat):Int)] 3 (0,0)):=heap_alloc_new _ _
    have HT0:=Lib.hid hb0
    have HFa:Hid (Frm [] w5 (w5.alloc (.cells #[.int .i64 0] 3))):=Lib.hid ((Frm.refl _ _).alloc _)
    clear hb0
    refine wp_loop (fun a' w'=>∃ ds,∃ u13 u14 u15 u16 u53 u54 u55 u56 u57 u58 u59 u60 u61 u62 u63 u64 u65 u66 u67 u68 u69 u70 u71 u72 u73 u74 u75 u76 u77 u78 u79 u80 u81 u82 u83 u84 u85 u86 u87 u88 u89 u90 u91 u92 u93 u94 u95 u96 u97 u98 u99 u100 u101 u102 u103 u104 u105 u106 u107 u108 u109 u110 u111 u112 u113 u114 u115 u116:Value,(fun ds u13 w'=>∃ T bt:Nat,u13=.pointer (some ⟨bt,0,none⟩)∧T≤2∧Frm [] w5 w'∧w'.heap[bt]?=some (.cells #[.int .i64 ((T:Nat):Int)] 3 (0,0))∧w5.heap.size≤bt∧Ms w ds w') ds u13 w'∧a'={ tmps:=#[.agg #[.string s.name,.slice ao n cap,.int .i64 s.cls,.int .i64 s.cap],.int .i64 (m:Int),.int .i64 many,.pointer (some ⟨w.heap.size,0,none⟩),undef,.pointer (some ⟨w.heap.size + 1,0,none⟩),.pointer (some ⟨w.heap.size + 1 + 1,0,none⟩),.pointer (some ⟨yb,0,none⟩),.bool true,.pointer (some ⟨pb,0,none⟩),.int .i64 0,.pointer (some ⟨w3.heap.size,0,none⟩),.func (.func 58) #[] #[.pointer (some ⟨bx,0,none⟩)],u13,u14,u15,u16,.tuple #[.pointer (some ⟨yb,0,none⟩),.bool true],.agg #[.string s.name,.slice ao n cap,.int .i64 s.cls,.int .i64 s.cap],.tuple #[.pointer (some ⟨yb,0,none⟩),.bool true],.pointer (some ⟨yb,0,none⟩),.bool true,.bool true,.bool false,.bool false,.int .i64 (m:Int),.bool false,.bool false,.bool false,.int .i64 (m:Int),.bool false,.bool false,undef,.tuple #[.pointer (some ⟨pb,0,none⟩),.int .i64 0],.pointer (some ⟨yb,0,none⟩),.int .i64 (m:Int),.tuple #[.pointer (some ⟨pb,0,none⟩),.int .i64 0],.pointer (some ⟨pb,0,none⟩),.int .i64 0,.int .i64 0,.int .i64 0,.bool false,.bool false,.pointer (some ⟨pb,0,none⟩),.bool false,.bool false,.agg #[.string s.name,.slice ao n cap,.int .i64 s.cls,.int .i64 s.cap],.int .i64 (m:Int),.agg #[.slice a0 N.length c0,.slice b1 N.length e1,.slice a2 N.length c2,.slice a3' N.length c3',.bool wh],.pointer (some ⟨pb,0,none⟩),.func (.func 58) #[] #[.pointer (some ⟨bx,0,none⟩)],.func (.func 58) #[] #[.pointer (some ⟨bx,0,none⟩)],.bool false,u53,u54,u55,u56,u57,u58,u59,u60,u61,u62,u63,u64,u65,u66,u67,u68,u69,u70,u71,u72,u73,u74,u75,u76,u77,u78,u79,u80,u81,u82,u83,u84,u85,u86,u87,u88,u89,u90,u91,u92,u93,u94,u95,u96,u97,u98,u99,u100,u101,u102,u103,u104,u105,u106,u107,u108,u109,u110,u111,u112,u113,u114,u115,u116,undef],defers:=marks ds }) (fun a' w'=>2 - boxN (a'.tmps.getD 13 undef) w') ?_ ?_
    ·refine⟨[],?_⟩
     (repeat apply Exists.intro)
     exact⟨⟨0,w5.heap.size,rfl,Nat.zero_le _,HFa.out,HT0.out,Nat.le_refl _,Ms.nil _ _⟩,rfl⟩
    intro a' wr hinv
    obtain⟨ds,hinv⟩:=hinv
    obtain⟨u13,hinv⟩:=hinv
    obtain⟨u14,hinv⟩:=hinv
    obtain⟨u15,hinv⟩:=hinv
    obtain⟨u16,hinv⟩:=hinv
    obtain⟨u53,hinv⟩:=hinv
    obtain⟨u54,hinv⟩:=hinv
    obtain⟨u55,hinv⟩:=hinv
    obtain⟨u56,hinv⟩:=hinv
    obtain⟨u57,hinv⟩:=hinv
    obtain⟨u58,hinv⟩:=hinv
    obtain⟨u59,hinv⟩:=hinv
    obtain⟨u60,hinv⟩:=hinv
    obtain⟨u61,hinv⟩:=hinv
    obtain⟨u62,hinv⟩:=hinv
    obtain⟨u63,hinv⟩:=hinv
    obtain⟨u64,hinv⟩:=hinv
    obtain⟨u65,hinv⟩:=hinv
    obtain⟨u66,hinv⟩:=hinv
    obtain⟨u67,hinv⟩:=hinv
    obtain⟨u68,hinv⟩:=hinv
    obtain⟨u69,hinv⟩:=hinv
    obtain⟨u70,hinv⟩:=hinv
    obtain⟨u71,hinv⟩:=hinv
    obtain⟨u72,hinv⟩:=hinv
    obtain⟨u73,hinv⟩:=hinv
    obtain⟨u74,hinv⟩:=hinv
    obtain⟨u75,hinv⟩:=hinv
    obtain⟨u76,hinv⟩:=hinv
    obtain⟨u77,hinv⟩:=hinv
    obtain⟨u78,hinv⟩:=hinv
    obtain⟨u79,hinv⟩:=hinv
    obtain⟨u80,hinv⟩:=hinv
    obtain⟨u81,hinv⟩:=hinv
    obtain⟨u82,hinv⟩:=hinv
    obtain⟨u83,hinv⟩:=hinv
    obtain⟨u84,hinv⟩:=hinv
    obtain⟨u85,hinv⟩:=hinv
    obtain⟨u86,hinv⟩:=hinv
    obtain⟨u87,hinv⟩:=hinv
    obtain⟨u88,hinv⟩:=hinv
    obtain⟨u89,hinv⟩:=hinv
    obtain⟨u90,hinv⟩:=hinv
    obtain⟨u91,hinv⟩:=hinv
    obtain⟨u92,hinv⟩:=hinv
    obtain⟨u93,hinv⟩:=hinv
    obtain⟨u94,hinv⟩:=hinv
    obtain⟨u95,hinv⟩:=hinv
    obtain⟨u96,hinv⟩:=hinv
    obtain⟨u97,hinv⟩:=hinv
    obtain⟨u98,hinv⟩:=hinv
    obtain⟨u99,hinv⟩:=hinv
    obtain⟨u100,hinv⟩:=hinv
    obtain⟨u101,hinv⟩:=hinv
    obtain⟨u102,hinv⟩:=hinv
    obtain⟨u103,hinv⟩:=hinv
    obtain⟨u104,hinv⟩:=hinv
    obtain⟨u105,hinv⟩:=hinv
    obtain⟨u106,hinv⟩:=hinv
    obtain⟨u107,hinv⟩:=hinv
    obtain⟨u108,hinv⟩:=hinv
    obtain⟨u109,hinv⟩:=hinv
    obtain⟨u110,hinv⟩:=hinv
    obtain⟨u111,hinv⟩:=hinv
    obtain⟨u112,hinv⟩:=hinv
    obtain⟨u113,hinv⟩:=hinv
    obtain⟨u114,hinv⟩:=hinv
    obtain⟨u115,hinv⟩:=hinv
    obtain⟨u116,hinv⟩:=hinv
    obtain⟨hrel,ha⟩:=hinv
    subst ha
    try dsimp only
    clear HT0 HFa
    obtain⟨T,bt,rfl,hT2,hf,hbt,hbl,hms⟩:=hrel
    have HF:=Lib.hid hf;have HBT:=Lib.hid hbt;have HMS:=Lib.hid hms;have HBL:=Lib.hid hbl
    clear hf hbt hms hbl
    obtain⟨wq,hwq⟩:∃ wq,wq=wr:=⟨_,rfl⟩
    subst hwq
    have c13:=cell_of HBT.out 0
    rcases Nat.lt_or_ge T 2 with hTl | hTg
    ·have hTl':(T:Int) < 2:=by omega
     have HTL:=Lib.hid hTl
     go_upto_region 15 with fail
     have hst:TnI (α:=Nat × Nat) wq (T:Int) many [] (wq.alloc (.cells #[.int .i64 0] 3)):=TnI.start wq T many
     have hbt1:(wq.alloc (.cells #[.int .i64 0] 3)).heap[bt]?=some (.cells #[.int .i64 ((T:Nat):Int)] 3 (0,0)):=alloc_at HBT.out
     have HST:=Lib.hid hst
     clear hst hbt1 c13
     go_wp2
     refine wp_rangeList rfl (enters_of Tryz.func58 (by kernel_rfl) rfl) HIT.out (fun _=>rfl)
      (TnI wq (T:Int) many) (TnX (.exit 2) wq (T:Int) many) (fun _ _ _ h hb=>h.bk hb (by simp)) (fun _ _ _ _ h hb=>h.bk hb (by simp)) (fun _ _ h=>⟨(HF.out.trans h.fr).at HBI.out (by simp),HSP5.out.frm (HF.out.trans h.fr)⟩) HST.out ?_ ?_ ?_
     ·intro l pre y rest Wr hxs hI hl hlr
      obtain⟨hy,hpl⟩:=numL_pre hxs
      have hLk:=numL_some hxs
      obtain⟨yi,ym⟩:=y
      simp only at hy hLk
      subst hy
      have HI:=Lib.hid hI
      clear hI hl hlr hxs
      gi_wp2
      refine⟨KB.refl _,fun Wq hbk _=>?_⟩
      have HI2:Hid (TnI wq (T:Int) many pre Wq):=Lib.hid (HI.out.bk hbk (by simp))
      clear hbk HI
      obtain⟨d,hd,rfl⟩:=some_map hLk
      have HFw:Hid (Frm [] w5 Wq):=Lib.hid (HF.out.trans HI2.out.fr)
      have HSTd:Hid (StR Wq s yb d.2 d.1.st):=Lib.hid ((HSP5.out.frm HFw.out).st d (List.mem_of_getElem? hd))
      obtain⟨g1,o1,eg,q1⟩:=HKS.out.get (show ((N.map Prod.fst).map fun d=>keyS s d.st)[pre.length]?=some (keyS s d.1.st) by rw[List.getElem?_map,List.getElem?_map,hd];rfl)
      subst eg
      have HCW:Hid (∀ V,Frm [] Wq V→V.cell? ⟨wq.heap.size,0,none⟩=some (.int .i64 (pre.length:Nat))∧V.cell? ⟨w3.heap.size,0,none⟩=some (.slice a0 N.length c0)∧V.cell? ⟨w3.heap.size,1,none⟩=some (.slice (some ⟨g1,o1,none⟩) N.length e1)∧V.cell? ⟨g1,o1 + pre.length,none⟩=some (.string (keyS s d.1.st))):=Lib.hid fun V hV=>by
       have q2:w5.cell? ⟨g1,o1 + pre.length * 1,none⟩=some (.string (keyS s d.1.st)):=q1
       rw[Nat.mul_one] at q2
       have hb:=(HFw.out.trans hV).at HBX.out (by simp)
       exact⟨cell_of (hV.at HI2.out.kb (by simp)) 0,cell_of hb 0,cell_of hb 1,(HFw.out.trans hV).keep q2⟩
      have hqN:pre.length < N.length:=lt_of_some hd
      have hN60:N.length≤60:=by have:=HL.out;have:=HM.out;omega
      have hk1:(pre.length:Int) < (N.length:Int):=by omega
      have hk2:¬ (N.length:Int)≤(pre.length:Int):=by omega
      have hk3:decide ((N.length:Int)≤(pre.length:Int))=false:=decide_eq_false hk2
      have hk4:¬ N.length≤pre.length:=by omega
      have hk5:decide (N.length≤pre.length)=false:=decide_eq_false hk4
      clear hd q1 hLk hpl
      gi_upto_region 18 with fail
      refine wpIn_region_cq (by kernel_rfl) (by kernel_rfl) (by kernel_rfl) ?_
      repeat (first
       | gi_big_quiet_skip
       | (refine wpQuietIn_want (fun _ _ _ _=>trivial) (by rfl) (fun K hK=>?_)
          first
           | (refine quietIn_move _ (by rfl) (hK _ ?_))
           | (refine quietIn_assign _ (by rfl) (hK _ ?_))
           | (refine cqi_call (.string (keyS s d.1.st)) 22 #[.pointer (some ⟨d.2,0,none⟩)] (fun w' hC=>?_) (fun _=>by decide) (fun w' hC=>CallsIn.inRound _ (callsIn_wide.2 (Ret.cq (pKey_ret s yb fb d.2 d.1.st w' (HSY5.out.frm (HFw.out.trans hC)) (HSTd.out.frm hC)) (fun w'' h=>hC.trans h)))) (hK _ ?_)
              ·go_simp)
           | (apply Exists.intro
              refine⟨fun w' hC=>?_,hK _ ?_⟩
              ·(unfold Oper.quietAtIn
                obtain⟨kc,x0,x1,kx⟩:=HCW.out w' hC
                clear hC
                go_simp
                try exact⟨rfl,rfl⟩
                try rfl))
          clear hK K
          try simp only[nrm,Act.eval,nrq]))
      refine wpQuietIn_nil ?_
      intro Wn HFn
      replace HFn:=Lib.hid HFn
      have HI3:=Lib.hid (HI2.out.frm HFn.out)
      have c14:=cell_of HI3.out.kb 0
      have f14:=free_of HI3.out.kb 0
      obtain⟨kb3,fr3,k3⟩:=HI3.out.count (pre.length,d.2) (k:=(pre.length:Int) + 1) rfl
      have HKB:Hid (KB Wq (Wn.setCell ⟨wq.heap.size,0,none⟩ (.int .i64 ((pre.length:Int) + 1)))):=Lib.hid ((KB.frm0 HFn.out).trans kb3)
      have hwk:wrap64 ((pre.length:Int) + 1)=(pre.length:Int) + 1:=by unfold wrap64;omega
      have s14:=cell_of k3 0
      simp only[List.length_append,List.length_cons,List.length_nil] at s14
      have smb:=cell_of (HB1.out _ (HF5.out.trans (HF.out.trans fr3))) 0
      have c13:=cell_of (HI3.out.fr.at HBT.out (by simp)) 0
      have s13:=cell_of (fr3.at HBT.out (by simp)) 0
      clear kb3 fr3 k3 hk1 hk2 hk3 hk4 hk5 HCW HSTd HFw HFn
      obtain rfl | rfl:T=0∨T=1:=by have:=HTL.out;omega
      ·rcases Int.lt_or_le ((pre.length:Int) + 1) many with hmm | hmm
       ·have HMM:=Lib.hid hmm
        gi_wp2
        exact⟨HKB.out,(HI3.out.more (pre.length,d.2) rfl (fun _=>HMM.out)).2⟩
       ·have HMM:=Lib.hid hmm
        gi_wp2
        exact⟨HKB.out,(HI3.out.last (pre.length,d.2) rfl rfl HMM.out).2⟩
      ·gi_wp2
       exact⟨HKB.out,(HI3.out.more (pre.length,d.2) rfl (fun h=>by omega)).2⟩
     (rotate_left 1)
     intro D c pre x rest Va hxs hD hX hK
     have hkl:=hX.some hxs
     rw[numL_length,List.length_map] at hkl
     obtain rfl:=hX.co
     have HFa:Hid (Frm [] wq Va):=Lib.hid hX.fr
     have hkb:=hX.kb
     obtain⟨q,hq⟩:∃ q:Nat,(pre ++ [x]).length=q:=⟨_,rfl⟩
     rw[hq] at hkb hkl
     have HKB:=Lib.hid hkb
     have HDD:Hid (wq.heap.size + 1≤D):=Lib.hid (by simpa using hD)
     have HKD:=Lib.hid hK
     have HQN:Hid (q≤N.length):=Lib.hid hkl.2
     have HM0:Hid (T=0→min (N.length:Int) (max 1 many)=(q:Int)):=Lib.hid fun _=>hkl.1
     have HM1:Hid (T=1→q=N.length):=Lib.hid fun h=>by have:=hX.tz;omega
     clear hX hkb hkl hq hD hK hxs
     (rotate_left 1)
     intro D Va hD hI hK
     have HFa:Hid (Frm [] wq Va):=Lib.hid hI.fr
     have hkb:=hI.kb
     obtain⟨q,hq⟩:∃ q:Nat,N.length=q:=⟨_,rfl⟩
     have HM0:Hid (T=0→min (N.length:Int) (max 1 many)=(q:Int)):=Lib.hid fun h=>by
      have h1:=hI.all (by omega)
      rw[numL_length,List.length_map] at h1
      rw[h1,hq]
     rw[numL_length,List.length_map,hq] at hkb
     have HKB:=Lib.hid hkb
     have HDD:Hid (wq.heap.size + 1≤D):=Lib.hid (by simpa using hD)
     have HKD:=Lib.hid hK
     have HQN:Hid (q≤N.length):=Lib.hid (by omega)
     have HM1:Hid (T=1→q=N.length):=Lib.hid fun _=>hq.symm
     clear hI hkb hq hD hK
     all_goals
      have HFW:=Lib.hid (HF.out.trans HFa.out)
      have c13:=cell_of (HFa.out.at HBT.out (by simp)) 0
      have c14:=cell_of HKB.out 0
      have cmb:=cell_of (HB1.out _ (HF5.out.trans HFW.out)) 0
      have cwt:=cell_of (HFW.out.at HBX.out (by simp)) 0
      have hN60:N.length≤60:=by have:=HL.out;have:=HM.out;omega
      have hbn:Frm [] Va (Va.alloc (.cells #[.int .i64 ((T + 1:Nat):Int)] 3)):=(Frm.refl _ _).alloc _
      have HTB:Hid ((Va.alloc (.cells #[.int .i64 ((T + 1:Nat):Int)] 3)).heap[Va.heap.size]?=some (.cells #[.int .i64 ((T + 1:Nat):Int)] 3 (0,0))):=Lib.hid (heap_alloc_new _ _)
      have HFV:=Lib.hid (HFW.out.trans hbn)
      have HMS2:Hid (Ms w (D :: ds) (Va.alloc (.cells #[.int .i64 ((T + 1:Nat):Int)] 3))):=Lib.hid (HMS.out.more (T:=[]) (HF0.out.trans (HF5.out.trans HF.out)).size (Kt.frm (HFa.out.trans hbn)) (by have:=HDD.out;omega) (hbn.at HKD.out (by simp)))
      have HWV:Hid (w5.heap.size≤Va.heap.size):=Lib.hid HFW.out.size
      clear hbn hN60
      obtain rfl | rfl:T=0∨T=1:=by have:=HTL.out;omega
     all_goals first
      | (have hmin:min (N.length:Int) (max 1 many)=(q:Int):=HM0.out rfl
         have HTB0:Hid ((Va.alloc (.cells #[.int .i64 1] 3)).heap[Va.heap.size]?=some (.cells #[.int .i64 ((1:Nat):Int)] 3 (0,0))):=Lib.hid HTB.out
         clear HM0 HM1
         go_wp2
         refine⟨⟨D :: ds,?_⟩,?_⟩
         (focus
          (repeat apply Exists.intro)
          exact⟨⟨1,Va.heap.size,rfl,by omega,HFV.out,HTB0.out,HWV.out,HMS2.out⟩,rfl⟩)
         exact turn_meas (cell_of HBT.out 0) (cell_of HTB0.out 0) (by omega))
      | (have hq1:q=N.length:=HM1.out rfl
         rw[hq1] at c14
         have HTB0:Hid ((Va.alloc (.cells #[.int .i64 2] 3)).heap[Va.heap.size]?=some (.cells #[.int .i64 ((2:Nat):Int)] 3 (0,0))):=Lib.hid HTB.out
         clear HM0 HM1 hq1
         go_wp2
         refine⟨⟨D :: ds,?_⟩,?_⟩
         (focus
          (repeat apply Exists.intro)
          exact⟨⟨2,Va.heap.size,rfl,by omega,HFV.out,HTB0.out,HWV.out,HMS2.out⟩,rfl⟩)
         exact turn_meas (cell_of HBT.out 0) (cell_of HTB0.out 0) (by omega))
    ·obtain rfl:T=2:=by omega
     have hge:¬ (((2:Nat):Int) < 2):=by omega
     go_wp2_with (go_at_call 10;go_must (refine(CK.out _).mono ?_;rintro e wk ⟨rfl,hf'⟩;have HFK:Hid (Frm [] wq wk):=Lib.hid hf';have HFL:Hid (Frm [] W0 wk):=Lib.hid (HF5.out.trans (HF.out.trans hf'));have c4:=cell_of (HB2.out _ HFL.out) 0;have f4:=free_of (HB2.out _ HFL.out) 0;clear hf'))
     exact law_end (HF0.out.trans HFL.out) (HB2.out _ HFL.out) (by omega) (HMS.out.frm HFK.out)
end Go.Proofs.YtemjlpahohmajaaGreat
