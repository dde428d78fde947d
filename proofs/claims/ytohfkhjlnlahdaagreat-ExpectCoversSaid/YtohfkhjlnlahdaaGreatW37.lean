/- Part of the proof. -/
import Derived.Test.YtohfkhjlnlahdaaGreatW24
import Derived.Test.YtohfkhjlnlahdaaGreatW36
set_option linter.all false
namespace Go.Proofs.YtohfkhjlnlahdaaGreat
open Go.RowKit Go.BigFrame
def IvR (W:World) (v:Value) (l:List Int):Prop:=W.ownsRow 0 3 1 v l.length (l.map iv)
theorem IAt.mov:Movable 1 IAt:=fun w b o x h=>⟨[.int .i64 x],rfl,by simp[Value.oneCell'],fun j u hu=>by
 cases j with
 | zero=>simp at hu;subst hu;exact h
 | succ j=>simp at hu,fun w' b' o' _ hc=>hc 0 _ rfl⟩
theorem own_iv {W:World} {base:Nat} {v:Value} {vs:List Int} {news:List Value} (ho:W.ownsRow base 3 1 v vs.length news) (ha:Arr 1 IAt W v vs):W.ownsRow base 3 1 v vs.length (vs.map iv):=by
 obtain⟨h1,h2⟩:=ho
 refine⟨by simp,?_⟩
 rcases h2 with h2 | ⟨g,cap,cur,rfl,hb,hg,hn,hm,hs,ht⟩
 ·exact .inl h2
 ·refine .inr ⟨g,cap,cur,rfl,hb,hg,hn,hm,hs,?_⟩
  apply List.ext_getElem?
  intro j
  rw[List.getElem?_take,List.getElem?_map]
  by_cases hj:j < vs.length
  ·obtain⟨x,hx⟩:∃ x,vs[j]?=some x:=⟨_,List.getElem?_eq_getElem hj⟩
   obtain⟨b,o,e,hc⟩:=ha.get hx
   cases e
   unfold IAt at hc
   rw[cell_of hg,Nat.zero_add,Nat.mul_one] at hc
   rw[if_pos (by omega),hx]
   simpa[iv] using hc
  ·rw[if_neg (by omega),List.getElem?_eq_none (by omega)];rfl
theorem own_set {W:World} {base e n g cap k:Nat} {xs:List Value} (ho:W.ownsRow base e 1 (.slice (some ⟨g,0,none⟩) n cap) n xs) (u:Value):(W.setCell ⟨g,k,none⟩ u).ownsRow base e 1 (.slice (some ⟨g,0,none⟩) n cap) n (xs.set k u):=by
 obtain⟨h1,h2⟩:=ho
 refine⟨by simpa using h1,.inr ?_⟩
 rcases h2 with ⟨h2,-⟩ | ⟨g',cap',cur,e',hb,hg,hn,hm,hs,ht⟩
 ·cases h2
 ·cases e'
  refine⟨g,cap,_,rfl,hb,block_setCell hg k u,hn,hm,by simpa using hs,?_⟩
  rw[← ht,Array.toList_setIfInBounds,List.take_set]
theorem IvR.arr {W:World} {v:Value} {l:List Int} (h:IvR W v l):Arr 1 IAt W v l:=int_arr h rfl
theorem IvR.frm {F:List Nat} {W V:World} {v:Value} {l:List Int} (h:IvR W v l) (hf:Frm F W V) (hn:∀ k,v.ownBlock=some k→k∉F):IvR V v l:=hf.owns h hn
theorem Tryz.info159s:(Tryz.prog.info? 159).map (·.size)=some 2:=by kernel_rfl
theorem results_b2 {fn:Func} {p q:Tmp} (h:fn.results=#[.cell p 159,.tmp q]) {tmps:Array Value} {w:World} {g:Nat} {A:Array Value} {t:TypeId} {v:Value} (hp:tmps.getD p undef=.pointer (some ⟨g,0,none⟩)) (hq:tmps.getD q undef=v) (hg:w.heap[g]?=some (.cells A t (0,0))) (hs:A.size=2) :
  (results fn tmps).run Tryz.prog w=.ok (.tuple #[.agg A,v]) w:=by
 have hp':tmps[p]?.getD undef=.pointer (some ⟨g,0,none⟩):=by simpa using hp
 have hq':tmps[q]?.getD undef=v:=by simpa using hq
 simp[results,h,hp',hq',asAddr,run_loadVar_row w g t 159 A (0,0) _ hg Tryz.underlying159 rfl (by rw[Tryz.info159s,hs])]
def ApV (w:World) (dv vv:Value) (vs:List Int) (e:Int) (u:Value) (w':World):Prop:=
 ∃ vv',u=.tuple #[.agg #[dv,vv'],.int .i64 e]∧IvR w' vv' vs∧Frm [] w w'∧∀ k,vv'.ownBlock=some k→vv.ownBlock=some k∨w.heap.size≤k
theorem one2 (a b:Option Addr) (n c m d:Nat):(#[.slice a n c,.slice b m d]:Array Value).all (·.oneCell')=true:=by
 rw[← Array.all_toList];rfl
set_option maxHeartbeats 4000000 in
set_option maxRecDepth 100000 in
theorem jApply_any (dv vv:Value) (cs:List CtrD) (vs:List Int) (t:StpD) (w:World) (hd:Arr 2 CtAt w dv cs) (hv:IvR w vv vs) (hok:BkOk cs vs t) :
  Calls Tryz.prog 86 #[.agg #[dv,vv],stpV t] w (RetV (ApV w dv vv (if bankOk cs vs t=true then bankDo cs vs t else vs) (if bankOk cs vs t=true then 0 else 8))):=by
 obtain⟨da,dc,rfl⟩:=hd.shape
 obtain⟨va,vc,rfl⟩:=hv.arr.shape
 have CA0:=Lib.hid (fun V (hV:Frm [] w V)=>jAllowed_any (.agg #[.slice da cs.length dc,.slice va vs.length vc]) cs vs t V ⟨_,_,rfl,hd.frm fun _ _ _ h=>h.frm hV,hv.arr.frm fun _ _ _ h=>hV.keep h⟩ hok)
 have CF0:=Lib.hid (fun V (hV:Frm [] w V) (vv:Value)=>jFind_any (.slice da cs.length dc) vv cs t.ctr V (hd.frm fun _ _ _ h=>h.frm hV) hok.n)
 obtain⟨n,hn⟩:∃ n,cs.length=n:=⟨_,rfl⟩
 have hm:=hok.l
 rw[hn] at hm
 have HV:Hid (w.ownsRow 0 3 1 (.slice va n vc) n (vs.map iv)):=Lib.hid (by have:=hv;unfold IvR at this;rw[hm] at this;exact this)
 obtain⟨b,hb⟩:∃ b,bankOk cs vs t=b:=⟨_,rfl⟩
 rw[hb,hn,hm] at CA0
 rw[hn] at CF0
 obtain⟨W0,hW0⟩:∃ W0,((w.alloc (.cells #[.slice da n dc,.slice va n vc] 159)).alloc (.cells #[.string t.frm,.string t.to,.int .i64 t.kind,.string t.msg,.string t.peer,.string t.ctr,.int .i64 t.low,.int .i64 t.high,.int .i64 t.add] 137)).alloc (.cells #[.slice none 0 0,.slice none 0 0] 159)=W0:=⟨_,rfl⟩
 have HF:Hid (Frm [] w W0):=Lib.hid (by rw[← hW0];exact(((Frm.refl _ _).alloc _).alloc _).alloc _)
 have HB:Hid (W0.heap[w.heap.size]?=some (.cells #[.slice da n dc,.slice va n vc] 159 (0,0))):=Lib.hid (by rw[← hW0];exact alloc_at (alloc_at (heap_alloc_new _ _)))
 have HT:Hid (W0.heap[w.heap.size + 1]?=some (.cells #[.string t.frm,.string t.to,.int .i64 t.kind,.string t.msg,.string t.peer,.string t.ctr,.int .i64 t.low,.int .i64 t.high,.int .i64 t.add] 137 (0,0))):=Lib.hid (by rw[← hW0];exact alloc_at (alloc_top (by simp)))
 have HR:Hid (W0.heap[w.heap.size + 1 + 1]?=some (.cells #[.slice none 0 0,.slice none 0 0] 159 (0,0))):=Lib.hid (by rw[← hW0];exact alloc_top (by simp))
 have CA:=Lib.hid (CA0.out W0 HF.out)
 have HE:=Lib.hid hW0
 have HBB:=Lib.hid hb
 have HOK:=Lib.hid hok
 have HN:=Lib.hid hn
 have HM:=Lib.hid hm
 rw[hb,hn,hm]
 clear hd hv hok hn hm hW0 hb CA0
 cases b with
 | false =>
   simp only[Bool.false_eq_true,if_false]
   go_enter Tryz.func86,Tryz.ntmps86
   go_upto_region 1 with fail
   rw[HE.out]
   clear HE
   go_wp2_with (first
    | (refine wpList_load_whole rfl 159 _ rfl _ rfl _ 159 HB.out _ Tryz.underlying159 rfl (by kernel_rfl) ?_)
    | (refine wpList_load_whole rfl 137 _ rfl _ rfl _ 137 HT.out _ Tryz.underlying137 rfl (by kernel_rfl) ?_)
    | (go_at_call 149;go_must (refine CA.out.mono ?_;clear CA;rintro e w1 ⟨rfl,hf1⟩;have HF1:=Lib.hid hf1;clear hf1))
    | (refine wpList_load_whole rfl 159 _ rfl _ rfl _ 159 (HF1.out.at HB.out (by simp)) _ Tryz.underlying159 rfl (by kernel_rfl) ?_)
    | (refine wpList_store_row rfl 159 _ _ rfl _ _ _ _ rfl rfl (HF1.out.at HR.out (by simp)) rfl (by kernel_rfl) (one2 ..) ?_;intro w2 hb2 hf2;have HB2:=Lib.hid hb2;have HF2:=Lib.hid hf2;clear hb2 hf2))
   have hfe:Frm [] w w2:=(HF.out.trans HF1.out).then HF2.out (by intro x hx;simp at hx;omega)
   refine bodyPost_ret (results_b2 rfl rfl rfl HB2.out rfl) rfl ⟨_,rfl,_,rfl,?_,hfe,fun k hk=>.inl hk⟩
   have:=HV.out
   unfold IvR
   rw[HM.out]
   exact hfe.owns this (by simp)
 | true =>
   simp only[if_true]
   by_cases he:t.ctr=emptyS
   ·have e1:bankDo cs vs t=vs:=by unfold bankDo;rw[if_pos he]
    rw[e1]
    have hs:t.ctr.toList.isEmpty=true:=emp_yes he
    clear he e1
    go_enter Tryz.func86,Tryz.ntmps86
    go_upto_region 1 with fail
    rw[HE.out]
    clear HE
    go_wp2_with (first
     | (refine wpList_load_whole rfl 159 _ rfl _ rfl _ 159 HB.out _ Tryz.underlying159 rfl (by kernel_rfl) ?_)
     | (refine wpList_load_whole rfl 137 _ rfl _ rfl _ 137 HT.out _ Tryz.underlying137 rfl (by kernel_rfl) ?_)
     | (go_at_call 149;go_must (refine CA.out.mono ?_;clear CA;rintro e w1 ⟨rfl,hf1⟩;have HF1:=Lib.hid hf1;have c5:=cell_of (hf1.at HT.out (by simp)) 5;clear hf1))
     | (refine wpList_load_whole rfl 159 _ rfl _ rfl _ 159 (HF1.out.at HB.out (by simp)) _ Tryz.underlying159 rfl (by kernel_rfl) ?_)
     | (refine wpList_store_row rfl 159 _ _ rfl _ _ _ _ rfl rfl (HF1.out.at HR.out (by simp)) rfl (by kernel_rfl) (one2 ..) ?_;intro w2 hb2 hf2;have HB2:=Lib.hid hb2;have HF2:=Lib.hid hf2;clear hb2 hf2))
    have hfe:Frm [] w w2:=(HF.out.trans HF1.out).then HF2.out (by intro x hx;simp at hx;omega)
    refine bodyPost_ret (results_b2 rfl rfl rfl HB2.out rfl) rfl ⟨_,rfl,_,rfl,?_,hfe,fun k hk=>.inl hk⟩
    have:=HV.out
    unfold IvR
    rw[HM.out]
    exact hfe.owns this (by simp)
   ·obtain⟨g1,g2,g3⟩:=HOK.out.c he
    have hs:t.ctr.toList.isEmpty=false:=emp_no he
    obtain⟨k,hk,hkl⟩:=ixf_nat g1
    have hck:ctrIx cs t.ctr=(k:Int):=hk
    obtain⟨c,hc⟩:∃ c,cs[k]?=some c:=⟨_,List.getElem?_eq_getElem hkl⟩
    obtain⟨x,hx⟩:∃ x,vs[k]?=some x:=⟨_,List.getElem?_eq_getElem (by rw[HOK.out.l];exact hkl)⟩
    obtain⟨v1,v2,v3,v4⟩:=HOK.out.v k c hc
    rw[getD_some hx] at v3 v4
    have e1:bankDo cs vs t=vs.set k (x + t.add):=by unfold bankDo;rw[if_neg he,hck,Int.toNat_natCast,getD_some hx]
    rw[e1]
    have hw:IntKind.i64.wrap (x + t.add)=x + t.add:=by simp[IntKind.wrap,show IntKind.i64.bits=64 from rfl,show IntKind.i64.signed=true from rfl];omega
    have CF:=Lib.hid (fun V hV=>hck ▸ CF0.out V hV (.slice va n vc))
    have HX:=Lib.hid hx
    rw[HN.out] at hkl
    have hkn:(k:Int) < (n:Int):=by omega
    have hA0:Arr 1 IAt w (.slice va n vc) vs:=int_arr HV.out HM.out
    have HAV:Hid (∀ V,Frm [] w V→Arr 1 IAt V (.slice va n vc) vs):=Lib.hid fun V hV=>hA0.frm fun _ _ _ h=>hV.keep h
    have HL:Hid (n≤100000):=Lib.hid (by have:=HOK.out.n;rw[HN.out] at this;omega)
    have hlw:w.heap.size < W0.heap.size:=lt_of_block HB.out
    clear he g1 g2 g3 hk hck hc hx v1 v2 v3 v4 e1 hA0 CF0
    go_enter Tryz.func86,Tryz.ntmps86
    go_upto_region 1 with fail
    rw[HE.out]
    clear HE
    go_upto_region 8 with (first
     | (refine wpList_load_whole rfl 159 _ rfl _ rfl _ 159 HB.out _ Tryz.underlying159 rfl (by kernel_rfl) ?_)
     | (refine wpList_load_whole rfl 137 _ rfl _ rfl _ 137 HT.out _ Tryz.underlying137 rfl (by kernel_rfl) ?_)
     | (go_at_call 149;go_must (refine CA.out.mono ?_;clear CA;rintro e w1 ⟨rfl,hf1⟩;have HF1:=Lib.hid hf1;have c5:=cell_of (hf1.at HT.out (by simp)) 5;clear hf1))
     | (refine wpList_load_whole rfl 159 _ rfl _ rfl _ 159 (HF1.out.at HB.out (by simp)) _ Tryz.underlying159 rfl (by kernel_rfl) ?_)
     | (go_at_call 150;go_must (refine(CF.out _ (HF.out.trans HF1.out)).mono ?_;clear CF;rintro e w2 ⟨rfl,hf2⟩;have HF2:=Lib.hid (HF1.out.trans hf2);clear hf2 c5)))
    have B2:=Lib.hid (HF2.out.at HB.out (by simp))
    have z1:w2.cell? ⟨w.heap.size,1,none⟩=some (.slice va n vc):=cell_of B2.out 1
    have hlz:=cell_lt z1
    go_upto_region 9 with (first
     | (at_builtin;refine wpList_clone (k:=1) (At:=IAt) (z:=.int .i64 0) (bytes:=8) rfl _ _ rfl rfl rfl Tryz.underlying57 (by kernel_rfl) rfl (by decide) (by decide) IAt.mov HM.out (HAV.out _ ((HF.out.trans HF2.out).alloc _)) HL.out ?_;intro ao' cap' w3 hr;have HFR:=Lib.hid hr;have b3:=hr.frm.at (alloc_at B2.out) (by simp);have d1:=cell_of b3 1;have f1:=free_of b3 1;have B3:=Lib.hid b3;clear hr b3 z1))
    try clear d1 f1
    have hi:=HFR.out
    obtain⟨g,cp,cur,e2,hgl,hgb,ho⟩:∃ g cp cur,Value.slice ao' n cap'=.slice (some ⟨g,0,none⟩) n cp∧w2.heap.size < g + 0 + 1∧w3.heap[g]?=some (.cells cur 3 (0,0))∧w3.ownsRow 0 3 1 (.slice ao' n cap') n (vs.map iv):=by
     rcases hi.own with e | ⟨news,ho⟩
     ·rw[e] at HM;have:=HM.out;simp at this;omega
     ·have ho2:=own_iv ho hi.arr
      rw[HM.out] at ho2
      obtain⟨g,cp,cur,e2,hg,hc⟩:=own_block ho2 (by omega)
      refine⟨g,cp,cur,e2,by simp at hg;omega,hc,ho2.1,?_⟩
      rcases ho2.2 with h | ⟨g',c',cu',h1,h2,h3⟩
      ·exact .inl h
      ·exact .inr ⟨g',c',cu',h1,Nat.zero_le _,h3⟩
    cases e2
    have hnb:g≠w.heap.size:=by have:=lt_of_block B2.out;omega
    obtain⟨w4,hw4⟩:∃ w4,w3.setCell ⟨w.heap.size,1,none⟩ (.slice (some ⟨g,0,none⟩) n cap')=w4:=⟨_,rfl⟩
    have hs4:Frm [w.heap.size] w3 w4:=by rw[← hw4];exact(Frm.refl _ _).setCell _ (.inl (by simp)) _
    have B4:Hid (w4.heap[w.heap.size]?=some (.cells #[.slice da n dc,.slice (some ⟨g,0,none⟩) n cap'] 159 (0,0))):=Lib.hid (by rw[← hw4];exact(block_setCell B3.out 1 _).trans rfl)
    have HO4:Hid (w4.ownsRow 0 3 1 (.slice (some ⟨g,0,none⟩) n cap') n (vs.map iv)):=Lib.hid (hs4.owns ho (by intro k hk;simp[Value.ownBlock] at hk;subst hk;simpa using hnb))
    have HG4:Hid (w4.heap[g]?=some (.cells cur 3 (0,0))):=Lib.hid (hs4.at hgb (by simpa using hnb))
    have HX4:Hid (w4.cell? ⟨g,k,none⟩=some (.int .i64 x)):=Lib.hid (by
     obtain⟨b,o,e,h⟩:=(int_arr HO4.out HM.out).get HX.out
     cases e
     unfold IAt at h
     rwa [Nat.zero_add,Nat.mul_one] at h)
    have HT4:=Lib.hid (hs4.at (hi.frm.at (alloc_at (HF2.out.at HT.out (by simp))) (by simp)) (by simp))
    have HR4:=Lib.hid (hs4.at (hi.frm.at (alloc_at (HF2.out.at HR.out (by simp))) (by simp)) (by simp;omega))
    have HF4:Hid (Frm [] w w4):=Lib.hid (((HF.out.trans HF2.out).alloc _).trans hi.frm |>.then hs4 (by intro y hy;simp at hy;subst hy;exact .inr (Nat.le_refl _)))
    have hgr:g≠w.heap.size + 1 + 1:=fun e=>by
     have h1:=HG4.out
     rw[e,HR4.out] at h1
     cases h1
    have hgw:w.heap.size≤g:=by have:=HF2.out.size;have:=HF.out.size;omega
    clear hi ho hgb hs4 hgl
    rw[hw4]
    clear hw4
    refine wp_region_cqt 12 (by kernel_rfl) (by kernel_rfl) ?_
    simp only[List.take_succ_cons,List.take_zero,List.drop_succ_cons,List.drop_zero]
    repeat (first
     | go_big_quiet_skip
     | (refine wpQuiet_want (by rfl) (fun K hK=>?_)
        first
         | (refine quiet_move _ (by rfl) (hK _ ?_))
         | (refine quiet_assign _ (by rfl) (hK _ ?_))
         | (apply Exists.intro
            refine⟨fun w' hC=>?_,hK _ ?_⟩
            ·(unfold Oper.quietAt
              obtain hz:=hC.at B4.out (by simp);have z1:=cell_of hz 1;have y0:=hC.keep HX4.out;have y1:=cell_of (hC.at HT4.out (by simp)) 8;clear hz
              clear hC
              go_simp
              try exact⟨rfl,rfl⟩
              try rfl))
        clear hK K
        try simp only[nrm,Act.eval,nrq]))
    refine wpQuiet_nil ?_
    intro w5 hf5
    have y5:=hf5.keep HX4.out
    have q5:=free_of (hf5.at HG4.out (by simp)) k
    have HF5:=Lib.hid hf5
    obtain⟨w6,hw6⟩:∃ w6,w5.setCell ⟨g,k,none⟩ (.int .i64 (x + t.add))=w6:=⟨_,rfl⟩
    have hs6:Frm [g] w5 w6:=by rw[← hw6];exact(Frm.refl _ _).setCell _ (.inl (by simp)) _
    have HO6:Hid (w6.ownsRow 0 3 1 (.slice (some ⟨g,0,none⟩) n cap') n ((vs.map iv).set k (iv (x + t.add)))):=Lib.hid (by rw[← hw6];exact own_set (hf5.owns HO4.out (by simp)) _)
    have HB6:=Lib.hid (hs6.at (hf5.at B4.out (by simp)) (by simpa using hnb.symm))
    have HR6:=Lib.hid (hs6.at (hf5.at HR4.out (by simp)) (by simpa using hgr.symm))
    have HF6:Hid (Frm [] w w6):=Lib.hid ((HF4.out.trans hf5).then hs6 (by intro y hy;simp at hy;subst hy;exact .inr hgw))
    have HE6:=Lib.hid hw6
    clear hf5 hs6 hw6
    go_upto_region 10 with fail
    rw[HE6.out]
    go_wp2_with (first
     | (refine wpList_load_whole rfl 159 _ rfl _ rfl _ 159 HB6.out _ Tryz.underlying159 rfl (by kernel_rfl) ?_)
     | (refine wpList_store_row rfl 159 _ _ rfl _ _ _ _ rfl rfl HR6.out rfl (by kernel_rfl) (one2 ..) ?_;intro w7 hb7 hf7;have HB7:=Lib.hid hb7;have HF7:=Lib.hid hf7;clear hb7 hf7))
    have hfe:Frm [] w w7:=HF6.out.then HF7.out (by intro x hx;simp at hx;omega)
    refine bodyPost_ret (results_b2 rfl rfl rfl HB7.out rfl) rfl ⟨_,rfl,_,rfl,?_,hfe,fun k hk=>.inr ?_⟩
    ·unfold IvR
     rw[List.length_set,HM.out,List.map_set]
     exact HF7.out.owns HO6.out (by intro k hk;simp[Value.ownBlock] at hk;subst hk;simpa using hgr)
    ·simp[Value.ownBlock] at hk;subst hk;exact hgw
end Go.Proofs.YtohfkhjlnlahdaaGreat
