/- Part of the proof. -/
import Derived.Test.YtemjlpahohmajaaGreatJ18
import Derived.Test.YtemjlpahohmajaaGreatJ30
import Derived.Test.YtemjlpahohmajaaGreatJ16
set_option linter.all false
namespace Go.Proofs.YtemjlpahohmajaaGreat
open Go.RowKit Go.BigFrame
def IvR (W:World) (v:Value) (l:List Int):Prop:=W.ownsRow 0 3 1 v l.length (l.map iv)
theorem IAt.mov:Movable 1 IAt:=fun w b o x h=>⟨[.int .i64 x],rfl,by simp[Value.oneCell'],fun j u hu=>by
 cases j with
 | zero=>simp at hu;subst hu;exact h
 | succ j=>simp at hu,fun w' b' o' _ hc=>hc 0 _ rfl⟩
theorem own_iv {W:World} {base:Nat} {v:Value} {vs:List Int} {news:List Value} (ho:W.ownsRow base 3 1 v vs.length news) (ha:Arr 1 IAt W v vs):W.ownsRow base 3 1 v vs.length (vs.map iv):=by
 obtain⟨h1,h2⟩:=ho
 refine⟨by simp,?_⟩
 rcases h2 with h2 | ⟨g,cap,cur,rfl,hb,hg,hn,hm,hs,ht⟩
 ·exact .inl h2
 ·refine .inr ⟨g,cap,cur,rfl,hb,hg,hn,hm,hs,?_⟩
  apply List.ext_getElem?
  intro j
  rw[List.getElem?_take,List.getElem?_map]
  by_cases hj:j < vs.length
  ·obtain⟨x,hx⟩:∃ x,vs[j]?=some x:=⟨_,List.getElem?_eq_getElem hj⟩
   obtain⟨b,o,e,hc⟩:=ha.get hx
   cases e
   unfold IAt at hc
   rw[cell_of hg,Nat.zero_add,Nat.mul_one] at hc
   rw[if_pos (by omega),hx]
   simpa[iv] using hc
  ·rw[if_neg (by omega),List.getElem?_eq_none (by omega)];rfl
theorem own_set {W:World} {base e n g cap k:Nat} {xs:List Value} (ho:W.ownsRow base e 1 (.slice (some ⟨g,0,none⟩) n cap) n xs) (u:Value):(W.setCell ⟨g,k,none⟩ u).ownsRow base e 1 (.slice (some ⟨g,0,none⟩) n cap) n (xs.set k u):=by
 obtain⟨h1,h2⟩:=ho
 refine⟨by simpa using h1,.inr ?_⟩
 rcases h2 with ⟨h2,-⟩ | ⟨g',cap',cur,e',hb,hg,hn,hm,hs,ht⟩
 ·cases h2
 ·cases e'
  refine⟨g,cap,_,rfl,hb,block_setCell hg k u,hn,hm,by simpa using hs,?_⟩
  rw[← ht,Array.toList_setIfInBounds,List.take_set]
theorem IvR.arr {W:World} {v:Value} {l:List Int} (h:IvR W v l):Arr 1 IAt W v l:=int_arr h rfl
theorem IvR.frm {F:List Nat} {W V:World} {v:Value} {l:List Int} (h:IvR W v l) (hf:Frm F W V) (hn:∀ k,v.ownBlock=some k→k∉F):IvR V v l:=hf.owns h hn
theorem Tryz.info185s:(Tryz.prog.info? 185).map (·.size)=some 2:=by kernel_rfl
theorem results_b2 {fn:Func} {p q:Tmp} (h:fn.results=#[.cell p 185,.tmp q]) {tmps:Array Value} {w:World} {g:Nat} {A:Array Value} {t:TypeId} {v:Value} (hp:tmps.getD p undef=.pointer (some ⟨g,0,none⟩)) (hq:tmps.getD q undef=v) (hg:w.heap[g]?=some (.cells A t (0,0))) (hs:A.size=2) :
  (results fn tmps).run Tryz.prog w=.ok (.tuple #[.agg A,v]) w:=by
 have hp':tmps[p]?.getD undef=.pointer (some ⟨g,0,none⟩):=by simpa using hp
 have hq':tmps[q]?.getD undef=v:=by simpa using hq
 simp[results,h,hp',hq',asAddr,run_loadVar_row w g t 185 A (0,0) _ hg Tryz.underlying185 rfl (by rw[Tryz.info185s,hs])]
def ApV (w:World) (dv vv:Value) (vs:List Int) (e:Int) (u:Value) (w':World):Prop:=
 ∃ vv',u=.tuple #[.agg #[dv,vv'],.int .i64 e]∧IvR w' vv' vs∧Frm [] w w'∧∀ k,vv'.ownBlock=some k→vv.ownBlock=some k∨w.heap.size≤k
theorem one2 (a b:Option Addr) (n c m d:Nat):(#[.slice a n c,.slice b m d]:Array Value).all (·.oneCell')=true:=by
 rw[← Array.all_toList];rfl
set_option maxHeartbeats 4000000 in
set_option maxRecDepth 100000 in
theorem jApply_any (dv vv:Value) (cs:List CtrD) (vs:List Int) (t:StpD) (w:World) (hd:Arr 2 CtAt w dv cs) (hv:IvR w vv vs) (hok:BkOk cs vs t) :
  Calls Tryz.prog 92 #[.agg #[dv,vv],stpV t] w (RetV (ApV w dv vv (if bankOk cs vs t=true then bankDo cs vs t else vs) (if bankOk cs vs t=true then 0 else 8))):=by
 obtain⟨da,dc,rfl⟩:=hd.shape
 obtain⟨va,vc,rfl⟩:=hv.arr.shape
 have CA0:=Lib.hid (fun V (hV:Frm [] w V)=>jAllowed_any (.agg #[.slice da cs.length dc,.slice va vs.length vc]) cs vs t V ⟨_,_,rfl,hd.frm fun _ _ _ h=>h.frm hV,hv.arr.frm fun _ _ _ h=>hV.keep h⟩ hok)
 have CF0:=Lib.hid (fun V (hV:Frm [] w V) (vv:Value)=>jFind_any (.slice da cs.length dc) vv cs t.ctr V (hd.frm fun _ _ _ h=>h.frm hV) hok.n)
 obtain⟨n,hn⟩:∃ n,cs.length=n:=⟨_,rfl⟩
 have hm:=hok.l
 rw[hn] at hm
 have HV:Hid (w.ownsRow 0 3 1 (.slice va n vc) n (vs.map iv)):=Lib.hid (by have:=hv;unfold IvR at this;rw[hm] at this;exact this)
 obtain⟨b,hb⟩:∃ b,bankOk cs vs t=b:=⟨_,rfl⟩
 rw[hb,hn,hm] at CA0
 rw[hn] at CF0
 obtain⟨W0,hW0⟩:∃ W0,((w.alloc (.cells #[.slice da n dc,.slice va n vc] 185)).alloc (.cells #[.string t.frm,.string t.to,.int .i64 t.kind,.string t.msg,.string t.peer,.string t.ctr,.int .i64 t.low,.int .i64 t.high,.int .i64 t.add] 90)).alloc (.cells #[.slice none 0 0,.slice none 0 0] 185)=W0:=⟨_,rfl⟩
 have HF:Hid (Frm [] w W0):=Lib.hid (by rw[← hW0];exact(((Frm.refl _ _).alloc _).alloc _).alloc _)
 have HB:Hid (W0.heap[w.heap.size]?=some (.cells #[.slice da n dc,.slice va n vc] 185 (0,0))):=Lib.hid (by rw[← hW0];exact alloc_at (alloc_at (heap_alloc_new _ _)))
 have HT:Hid (W0.heap[w.heap.size + 1]?=some (.cells #[.string t.frm,.string t.to,.int .i64 t.kind,.string t.msg,.string t.peer,.string t.ctr,.int .i64 t.low,.int .i64 t.high,.int .i64 t.add] 90 (0,0))):=Lib.hid (by rw[← hW0];exact alloc_at (alloc_top (by simp)))
 have HR:Hid (W0.heap[w.heap.size + 1 + 1]?=some (.cells #[.slice none 0 0,.slice none 0 0] 185 (0,0))):=Lib.hid (by rw[← hW0];exact alloc_top (by simp))
 have CA:=Lib.hid (CA0.out W0 HF.out)
 have HE:=Lib.hid hW0
 have HBB:=Lib.hid hb
 have HOK:=Lib.hid hok
 have HN:=Lib.hid hn
 have HM:=Lib.hid hm
 rw[hb,hn,hm]
 clear hd hv hok hn hm hW0 hb CA0
 cases b with
 | false =>
   simp only[Bool.false_eq_true,if_false]
   go_enter Tryz.func92,Tryz.ntmps92
   go_upto_region 1 with fail
   rw[HE.out]
   clear HE
   go_wp2_with (first
    | (refine wpList_load_whole rfl 185 _ rfl _ rfl _ 185 HB.out _ Tryz.underlying185 rfl (by kernel_rfl) ?_)
    | (refine wpList_load_whole rfl 90 _ rfl _ rfl _ 90 HT.out _ Tryz.underlying90 rfl (by kernel_rfl) ?_)
    | (go_at_call 144;go_must (refine CA.out.mono ?_;clear CA;rintro e w1 ⟨rfl,hf1⟩;have HF1:=Lib.hid hf1;clear hf1))
    | (refine wpList_load_whole rfl 185 _ rfl _ rfl _ 185 (HF1.out.at HB.out (by simp)) _ Tryz.underlying185 rfl (by kernel_rfl) ?_)
    | (refine wpList_store_row rfl 185 _ _ rfl _ _ _ _ rfl rfl (HF1.out.at HR.out (by simp)) rfl (by kernel_rfl) (one2 ..) ?_;intro w2 hb2 hf2;have HB2:=Lib.hid hb2;have HF2:=Lib.hid hf2;clear hb2 hf2))
   have hfe:Frm [] w w2:=(HF.out.trans HF1.out).then HF2.out (by intro x hx;simp at hx;omega)
   refine bodyPost_ret (results_b2 rfl rfl rfl HB2.out rfl) rfl ⟨_,rfl,_,rfl,?_,hfe,fun k hk=>.inl hk⟩
   have:=HV.out
   unfold IvR
   rw[HM.out]
   exact hfe.owns this (by simp)
 | true =>
   simp only[if_true]
   by_cases he:t.ctr=emptyS
   ·have e1:bankDo cs vs t=vs:=by unfold bankDo;rw[if_pos he]
    rw[e1]
    have hs:t.ctr.toList.isEmpty=true:=emp_yes he
    clear he e1
    go_enter Tryz.func92,Tryz.ntmps92
    go_upto_region 1 with fail
    rw[HE.out]
    clear HE
    go_wp2_with (first
     | (refine wpList_load_whole rfl 185 _ rfl _ rfl _ 185 HB.out _ Tryz.underlying185 rfl (by kernel_rfl) ?_)
     | (refine wpList_load_whole rfl 90 _ rfl _ rfl _ 90 HT.out _ Tryz.underlying90 rfl (by kernel_rfl) ?_)
     | (go_at_call 144;go_must (refine CA.out.mono ?_;clear CA;rintro e w1 ⟨rfl,hf1⟩;have HF1:=Lib.hid hf1;have c5:=cell_of (hf1.at HT.out (by simp)) 5;clear hf1))
     | (refine wpList_load_whole rfl 185 _ rfl _ rfl _ 185 (HF1.out.at HB.out (by simp)) _ Tryz.underlying185 rfl (by kernel_rfl) ?_)
     | (refine wpList_store_row rfl 185 _ _ rfl _ _ _ _ rfl rfl (HF1.out.at HR.out (by simp)) rfl (by kernel_rfl) (one2 ..) ?_;intro w2 hb2 hf2;have HB2:=Lib.hid hb2;have HF2:=Lib.hid hf2;clear hb2 hf2))
    have hfe:Frm [] w w2:=(HF.out.trans HF1.out).then HF2.out (by intro x hx;simp at hx;omega)
    refine bodyPost_ret (results_b2 rfl rfl rfl HB2.out rfl) rfl ⟨_,rfl,_,rfl,?_,hfe,fun k hk=>.inl hk⟩
    have:=HV.out
    unfold IvR
    rw[HM.out]
    exact hfe.owns this (by simp)
   ·obtain⟨g1,g2,g3⟩:=HOK.out.c he
    have hs:t.ctr.toList.isEmpty=false:=emp_no he
    obtain⟨k,hk,hkl⟩:=ixf_nat g1
    have hck:ctrIx cs t.ctr=(k:Int):=hk
    obtain⟨c,hc⟩:∃ c,cs[k]?=some c:=⟨_,List.getElem?_eq_getElem hkl⟩
    obtain⟨x,hx⟩:∃ x,vs[k]?=some x:=⟨_,List.getElem?_eq_getElem (by rw[HOK.out.l];exact hkl)⟩
    obtain⟨v1,v2,v3,v4⟩:=HOK.out.v k c hc
    rw[getD_some hx] at v3 v4
    have e1:bankDo cs vs t=vs.set k (x + t.add):=by unfold bankDo;rw[if_neg he,hck,Int.toNat_natCast,getD_some hx]
    rw[e1]
    have hw:IntKind.i64.wrap (x + t.add)=x + t.add:=by simp[IntKind.wrap,show IntKind.i64.bits=64 from rfl,show IntKind.i64.signed=true from rfl];omega
    have CF:=Lib.hid (fun V hV=>hck ▸ CF0.out V hV (.slice va n vc))
    have HX:=Lib.hid hx
    rw[HN.out] at hkl
    have hkn:(k:Int) < (n:Int):=by omega
    have hA0:Arr 1 IAt w (.slice va n vc) vs:=int_arr HV.out HM.out
    have HAV:Hid (∀ V,Frm [] w V→Arr 1 IAt V (.slice va n vc) vs):=Lib.hid fun V hV=>hA0.frm fun _ _ _ h=>hV.keep h
    have HL:Hid (n≤100000):=Lib.hid (by have:=HOK.out.n;rw[HN.out] at this;omega)
    have hlw:w.heap.size < W0.heap.size:=lt_of_block HB.out
    clear he g1 g2 g3 hk hck hc hx v1 v2 v3 v4 e1 hA0 CF0
    go_enter Tryz.func92,Tryz.ntmps92
    go_upto_region 1 with fail
    rw[HE.out]
    clear HE
    go_upto_region 8 with (first
     | (refine wpList_load_whole rfl 185 _ rfl _ rfl _ 185 HB.out _ Tryz.underlying185 rfl (by kernel_rfl) ?_)
     | (refine wpList_load_whole rfl 90 _ rfl _ rfl _ 90 HT.out _ Tryz.underlying90 rfl (by kernel_rfl) ?_)
     | (go_at_call 144;go_must (refine CA.out.mono ?_;clear CA;rintro e w1 ⟨rfl,hf1⟩;have HF1:=Lib.hid hf1;have c5:=cell_of (hf1.at HT.out (by simp)) 5;clear hf1))
     | (refine wpList_load_whole rfl 185 _ rfl _ rfl _ 185 (HF1.out.at HB.out (by simp)) _ Tryz.underlying185 rfl (by kernel_rfl) ?_)
     | (go_at_call 145;go_must (refine(CF.out _ (HF.out.trans HF1.out)).mono ?_;clear CF;rintro e w2 ⟨rfl,hf2⟩;have HF2:=Lib.hid (HF1.out.trans hf2);clear hf2 c5)))
    have B2:=Lib.hid (HF2.out.at HB.out (by simp))
    have z1:w2.cell? ⟨w.heap.size,1,none⟩=some (.slice va n vc):=cell_of B2.out 1
    have hlz:=cell_lt z1
    go_upto_region 9 with (first
     | (at_builtin;refine wpList_clone (k:=1) (At:=IAt) (z:=.int .i64 0) (bytes:=8) rfl _ _ rfl rfl rfl Tryz.underlying36 (by kernel_rfl) rfl (by decide) (by decide) IAt.mov HM.out (HAV.out _ ((HF.out.trans HF2.out).alloc _)) HL.out ?_;intro ao' cap' w3 hr;have HFR:=Lib.hid hr;have b3:=hr.frm.at (alloc_at B2.out) (by simp);have d1:=cell_of b3 1;have f1:=free_of b3 1;have B3:=Lib.hid b3;clear hr b3 z1))
    try clear d1 f1
    have hi:=HFR.out
    obtain⟨g,cp,cur,e2,hgl,hgb,ho⟩:∃ g cp cur,Value.slice ao' n cap'=.slice (some ⟨g,0,none⟩) n cp∧w2.heap.size < g + 0 + 1∧w3.heap[g]?=some (.cells cur 3 (0,0))∧w3.ownsRow 0 3 1 (.slice ao' n cap') n (vs.map iv):=by
     rcases hi.own with e | ⟨news,ho⟩
     ·rw[e] at HM;have:=HM.out;simp at this;omega
     ·have ho2:=own_iv ho hi.arr
      rw[HM.out] at ho2
      obtain⟨g,cp,cur,e2,hg,hc⟩:=own_block ho2 (by omega)
      refine⟨g,cp,cur,e2,by simp at hg;omega,hc,ho2.1,?_⟩
      rcases ho2.2 with h | ⟨g',c',cu',h1,h2,h3⟩
      ·exact .inl h
      ·exact .inr ⟨g',c',cu',h1,Nat.zero_le _,h3⟩
    cases e2
    have hnb:g≠w.heap.size:=by have:=lt_of_block B2.out;omega
    obtain⟨w4,hw4⟩:∃ w4,w3.setCell ⟨w.heap.size,1,none⟩ (.slice (some ⟨g,0,none⟩) n cap')=w4:=⟨_,rfl⟩
    have hs4:Frm [w.heap.size] w3 w4:=by rw[← hw4];exact(Frm.refl _ _).setCell _ (.inl (by simp)) _
    have B4:Hid (w4.heap[w.heap.size]?=some (.cells #[.slice da n dc,.slice (some ⟨g,0,none⟩) n cap'] 185 (0,0))):=Lib.hid (by rw[← hw4];exact(block_setCell B3.out 1 _).trans rfl)
    have HO4:Hid (w4.ownsRow 0 3 1 (.slice (some ⟨g,0,none⟩) n cap') n (vs.map iv)):=Lib.hid (hs4.owns ho (by intro k hk;simp[Value.ownBlock] at hk;subst hk;simpa using hnb))
    have HG4:Hid (w4.heap[g]?=some (.cells cur 3 (0,0))):=Lib.hid (hs4.at hgb (by simpa using hnb))
    have HX4:Hid (w4.cell? ⟨g,k,none⟩=some (.int .i64 x)):=Lib.hid (by
     obtain⟨b,o,e,h⟩:=(int_arr HO4.out HM.out).get HX.out
     cases e
     unfold IAt at h
     rwa [Nat.zero_add,Nat.mul_one] at h)
    have HT4:=Lib.hid (hs4.at (hi.frm.at (alloc_at (HF2.out.at HT.out (by simp))) (by simp)) (by simp))
    have HR4:=Lib.hid (hs4.at (hi.frm.at (alloc_at (HF2.out.at HR.out (by simp))) (by simp)) (by simp;omega))
    have HF4:Hid (Frm [] w w4):=Lib.hid (((HF.out.trans HF2.out).alloc _).trans hi.frm |>.then hs4 (by intro y hy;simp at hy;subst hy;exact .inr (Nat.le_refl _)))
    have hgr:g≠w.heap.size + 1 + 1:=fun e=>by
     have h1:=HG4.out
     rw[e,HR4.out] at h1
     cases h1
    have hgw:w.heap.size≤g:=by have:=HF2.out.size;have:=HF.out.size;omega
    clear hi ho hgb hs4 hgl
    rw[hw4]
    clear hw4
    refine wp_region_cqt 12 (by kernel_rfl) (by kernel_rfl) ?_
    simp only[List.take_succ_cons,List.take_zero,List.drop_succ_cons,List.drop_zero]
    repeat (first
     | go_big_quiet_skip
     | (refine wpQuiet_want (by rfl) (fun K hK=>?_)
        first
         | (refine quiet_move _ (by rfl) (hK _ ?_))
         | (refine quiet_assign _ (by rfl) (hK _ ?_))
         | (apply Exists.intro
            refine⟨fun w' hC=>?_,hK _ ?_⟩
            ·(unfold Oper.quietAt
              obtain hz:=hC.at B4.out (by simp);have z1:=cell_of hz 1;have y0:=hC.keep HX4.out;have y1:=cell_of (hC.at HT4.out (by simp)) 8;clear hz
              clear hC
              go_simp
              try exact⟨rfl,rfl⟩
              try rfl))
        clear hK K
        try simp only[nrm,Act.eval,nrq]))
    refine wpQuiet_nil ?_
    intro w5 hf5
    have y5:=hf5.keep HX4.out
    have q5:=free_of (hf5.at HG4.out (by simp)) k
    have HF5:=Lib.hid hf5
    obtain⟨w6,hw6⟩:∃ w6,w5.setCell ⟨g,k,none⟩ (.int .i64 (x + t.add))=w6:=⟨_,rfl⟩
    have hs6:Frm [g] w5 w6:=by rw[← hw6];exact(Frm.refl _ _).setCell _ (.inl (by simp)) _
    have HO6:Hid (w6.ownsRow 0 3 1 (.slice (some ⟨g,0,none⟩) n cap') n ((vs.map iv).set k (iv (x + t.add)))):=Lib.hid (by rw[← hw6];exact own_set (hf5.owns HO4.out (by simp)) _)
    have HB6:=Lib.hid (hs6.at (hf5.at B4.out (by simp)) (by simpa using hnb.symm))
    have HR6:=Lib.hid (hs6.at (hf5.at HR4.out (by simp)) (by simpa using hgr.symm))
    have HF6:Hid (Frm [] w w6):=Lib.hid ((HF4.out.trans hf5).then hs6 (by intro y hy;simp at hy;subst hy;exact .inr hgw))
    have HE6:=Lib.hid hw6
    clear hf5 hs6 hw6
    go_upto_region 10 with fail
    rw[HE6.out]
    go_wp2_with (first
     | (refine wpList_load_whole rfl 185 _ rfl _ rfl _ 185 HB6.out _ Tryz.underlying185 rfl (by kernel_rfl) ?_)
     | (refine wpList_store_row rfl 185 _ _ rfl _ _ _ _ rfl rfl HR6.out rfl (by kernel_rfl) (one2 ..) ?_;intro w7 hb7 hf7;have HB7:=Lib.hid hb7;have HF7:=Lib.hid hf7;clear hb7 hf7))
    have hfe:Frm [] w w7:=HF6.out.then HF7.out (by intro x hx;simp at hx;omega)
    refine bodyPost_ret (results_b2 rfl rfl rfl HB7.out rfl) rfl ⟨_,rfl,_,rfl,?_,hfe,fun k hk=>.inr ?_⟩
    ·unfold IvR
     rw[List.length_set,HM.out,List.map_set]
     exact HF7.out.owns HO6.out (by intro k hk;simp[Value.ownBlock] at hk;subst hk;simpa using hgr)
    ·simp[Value.ownBlock] at hk;subst hk;exact hgw
end Go.Proofs.YtemjlpahohmajaaGreat
namespace Go.Proofs.YtemjlpahohmajaaGreat
open Go.RowKit Go.BigFrame
theorem wp_own_step {P:Program} {o:Oper} {a:Act} {w:World} {K:Act→World→Prop} {Q:Exit→Act→World→Prop} (s x:Operand) (t:TypeId)
  (ho:o.op=.call { callee:=.builtin .append,args:=#[s,x],argTypes:=#[t,t] })
  (base:Nat) (e:TypeId) {i:TypeInfo} {z:Value} {size bytes:Nat} (ht:P.underlying t=some (.slice e)) (hi:P.info? e=some i) (hz:i.zero=some z)
  (hsize:i.size=size) (hby:i.bytes=bytes) (hzs:z.cells.size=size) (hsz:0 < size)
  (v:Value) (n:Nat) (xs:List Value) (hs:a.eval s=v) (hown:w.ownsRow base e size v n xs)
  (ad:Addr) (m c:Nat) (news:List Value) (hx:a.eval x=.slice (some ad) m c) (hl:news.length=m * size) (hnews:∀ (j:Nat) u,news[j]?=some u→w.cell? (ad.add j)=some u) (h1:∀ u∈news,u.oneCell'=true)
  (h63:n + m≤maxLen) (hbytes:(n + m) * bytes≤140737488355328) (hbase:base≤w.heap.size)
  (h:∀ v' w',w'.ownsRow base e size v' (n + m) (xs ++ news)→w.grownBy w' v.ownBlock→K (a.put o.dst v') w'):Oper.wp P o a w K Q:=by
 obtain⟨v',w',hr,h2,h3,h4,h5⟩:=run_append_own_at (P:=P) w base t o.type e i z size bytes ht hi hz hsize hby hzs hsz v n xs hown ad m c news hl hnews h1 h63 hbytes hbase
 unfold Oper.wp execOp
 simp only[ho,resolve,invoke,builtin,Sem.run_bind,Sem.run_pure,Result.andThen_ok,List.map_toArray,List.map_cons,List.map_nil,hs,hx,hr]
 exact h v' w' h2 h3
theorem Kt.own {W V:World} {base e size n:Nat} {v:Value} {xs:List Value} (ho:W.ownsRow base e size v n xs) (hg:W.grownBy V v.ownBlock):Kt [e] W V:=
 (Kt.refl _ _).grown hg fun k hk=>by
  obtain⟨c,hc⟩:=ownBlock_type ho hk
  exact⟨c,e,(0,0),hc,by simp⟩
structure NI (w:World) (cs:List CtrD) (i:Nat) (W:World):Prop where
 fr:Frm [] w W
 rb:W.heap[w.heap.size]?=some (.cells #[.slice none 0 0,.slice none 0 0] 185 (0,0))
 bx:∃ ad cd av cv,W.heap[w.heap.size + 1]?=some (.cells #[.slice ad i cd,.slice av i cv] 185 (0,0))∧W.ownsRow (w.heap.size + 2) 205 2 (.slice ad i cd) i ((cs.take i).flatMap ctC1)∧W.ownsRow (w.heap.size + 2) 3 1 (.slice av i cv) i (List.replicate i (iv 0))
theorem NI.frm {w W V:World} {cs:List CtrD} {i:Nat} (h:NI w cs i W) (hf:Frm [] W V):NI w cs i V:=by
 obtain⟨ad,cd,av,cv,h1,h2,h3⟩:=h.bx
 exact⟨h.fr.trans hf,hf.at h.rb (by simp),ad,cd,av,cv,hf.at h1 (by simp),hf.owns h2 (by simp),hf.owns h3 (by simp)⟩
theorem Tryz.infoCt:(Tryz.prog.info? 205).map (fun i=>(i.zero,i.size,i.bytes))=some (some (.agg #[.string { data:=#[] },.int .i64 0]),2,24):=by kernel_rfl
theorem Tryz.infoIn:(Tryz.prog.info? 3).map (fun i=>(i.zero,i.size,i.bytes))=some (some (.int .i64 0),1,8):=by kernel_rfl
def JnTo (w:World) (cs:List CtrD) (u:Value) (w':World):Prop:=
 ∃ dv vv,u=.tuple #[.agg #[dv,vv],.int .i64 0]∧w'.ownsRow w.heap.size 205 2 dv cs.length (cs.flatMap ctC1)∧w'.ownsRow w.heap.size 3 1 vv cs.length (List.replicate cs.length (iv 0))∧Frm [] w w'
theorem NI.end {w W:World} {cs:List CtrD} {i:Nat} {d1 v1:Value} {W1 W2:World} {D V:Value} (h:NI w cs i W) (hd:W.heap[w.heap.size + 1]?=some (.cells #[D,V] 185 (0,0)))
  (hf:Frm (D.ownBlock.toList ++ V.ownBlock.toList) W W1) (hD:∀ k,D.ownBlock=some k→w.heap.size + 2≤k) (hV:∀ k,V.ownBlock=some k→w.heap.size + 2≤k) (hp:W1.heap[w.heap.size + 1]?=some (.cells #[D,V] 185 (0,0))) (hr:W1.heap[w.heap.size]?=some (.cells #[.slice none 0 0,.slice none 0 0] 185 (0,0)))
  (o1:W1.ownsRow (w.heap.size + 2) 205 2 d1 (i + 1) ((cs.take (i + 1)).flatMap ctC1)) (o2:W1.ownsRow (w.heap.size + 2) 3 1 v1 (i + 1) (List.replicate (i + 1) (iv 0)))
  (e:(W1.setCell ⟨w.heap.size + 1,0,none⟩ d1).setCell ⟨w.heap.size + 1,1,none⟩ v1=W2):NI w cs (i + 1) W2:=by
 obtain⟨a1,c1,rfl⟩:=own_shape o1
 obtain⟨a2,c2,rfl⟩:=own_shape o2
 have h1:=block_setCell hp 0 (.slice a1 (i + 1) c1)
 have h2:=block_setCell h1 1 (.slice a2 (i + 1) c2)
 have hF:Frm [w.heap.size + 1] W1 W2:=by rw[← e];exact((Frm.refl _ W1).setCell _ (.inl (by simp)) _).setCell _ (.inl (by simp)) _
 rw[e] at h2
 refine⟨(h.fr.then hf (fun x hx=>.inr ?_)).then hF (fun x hx=>.inr ?_),hF.at hr (by simp),a1,c1,a2,c2,h2,hF.owns o1 (fun k hk hm=>?_),hF.owns o2 (fun k hk hm=>?_)⟩
 ·rcases List.mem_append.1 hx with hx | hx
  ·have:=hD x (by simpa using hx);omega
  ·have:=hV x (by simpa using hx);omega
 ·simp at hx;omega
 ·have:=ownBlock_ge o1 hk;simp at hm;omega
 ·have:=ownBlock_ge o2 hk;simp at hm;omega
theorem row_cells {X:World} {r:Nat} {A:Array Value} {t:TypeId} (h:X.heap[r]?=some (.cells A t (0,0))) (j:Nat) (u:Value) (hu:A.toList[j]?=some u):X.cell? ((⟨r,0,none⟩:Addr).add j)=some u:=by
 have e:∀ o,(⟨r,o,none⟩:Addr).add j=⟨r,o + j,none⟩:=fun o=>by simp[Addr.add]
 rw[e,Nat.zero_add,cell_of h,← Array.getElem?_toList]
 exact hu
structure BB (w wl:World) (F:List Nat) (D V:Value) (d v:Value) (n1 n2:Nat) (L1 L2:List Value) (X:World):Prop where
 fr:Frm F wl X
 p:X.heap[w.heap.size + 1]?=some (.cells #[D,V] 185 (0,0))
 rb:X.heap[w.heap.size]?=some (.cells #[.slice none 0 0,.slice none 0 0] 185 (0,0))
 o1:X.ownsRow (w.heap.size + 2) 205 2 d n1 L1
 o2:X.ownsRow (w.heap.size + 2) 3 1 v n2 L2
section
variable {w wl X Y:World} {F:List Nat} {D V d v d' v':Value} {n1 n2 m1 m2:Nat} {L1 L2 M1 M2:List Value}
theorem BB.alloc (h:BB w wl F D V d v n1 n2 L1 L2 X) (o:Obj):BB w wl F D V d v n1 n2 L1 L2 (X.alloc o):=⟨h.fr.alloc _,alloc_at h.p,alloc_at h.rb,h.o1.alloc _,h.o2.alloc _⟩
theorem BB.app1 (h:BB w wl F D V D v n1 n2 L1 L2 X) (hF:∀ k,D.ownBlock=some k→k∈F) (hg:X.grownBy Y D.ownBlock) (ho:Y.ownsRow (w.heap.size + 2) 205 2 d' m1 M1):BB w wl F D V d' v m1 n2 M1 L2 Y:=
 ⟨h.fr.grown hg (fun k hk=>.inl (hF k hk)),(Kt.own h.o1 hg).cells h.p (by decide),(Kt.own h.o1 hg).cells h.rb (by decide),ho,(Kt.own h.o1 hg).row h.o2 (by decide)⟩
theorem BB.app2 (h:BB w wl F D V d V n1 n2 L1 L2 X) (hF:∀ k,V.ownBlock=some k→k∈F) (hg:X.grownBy Y V.ownBlock) (ho:Y.ownsRow (w.heap.size + 2) 3 1 v' m2 M2):BB w wl F D V d v' n1 m2 L1 M2 Y:=
 ⟨h.fr.grown hg (fun k hk=>.inl (hF k hk)),(Kt.own h.o2 hg).cells h.p (by decide),(Kt.own h.o2 hg).cells h.rb (by decide),(Kt.own h.o2 hg).row h.o1 (by decide),ho⟩
end
set_option maxHeartbeats 8000000 in
set_option maxRecDepth 100000 in
theorem jNew_any (v:Value) (cs:List CtrD) (w:World) (h:Arr 2 CtAt w v cs) (hok:DefsOk cs):Calls Tryz.prog 87 #[v] w (RetV (JnTo w cs)):=by
 obtain⟨la,lc,rfl⟩:=h.shape
 obtain⟨n,hn⟩:∃ n,cs.length=n:=⟨_,rfl⟩
 rw[hn] at h
 have h4:n≤4:=hn ▸ hok.n
 have h4':decide (4 < (n:Int))=false:=decide_eq_false (by omega)
 obtain⟨W0,hW0⟩:∃ W0,(w.alloc (.cells #[.slice none 0 0,.slice none 0 0] 185)).alloc (.cells #[.slice none 0 0,.slice none 0 0] 185)=W0:=⟨_,rfl⟩
 have HI0:Hid (NI w cs 0 W0):=Lib.hid (by
  refine⟨by rw[← hW0];exact((Frm.refl _ _).alloc _).alloc _,by rw[← hW0];exact alloc_at (heap_alloc_new _ _),none,0,none,0,by rw[← hW0];exact alloc_top (by simp),World.ownsRow_nil _ _ _ _,World.ownsRow_nil _ _ _ _⟩)
 have HA:=Lib.hid h;have HN:=Lib.hid hn;have HOK:=Lib.hid hok
 have HE:=Lib.hid hW0
 rw[hn]
 clear h hn hok hW0
 go_enter Tryz.func87,Tryz.ntmps87
 go_upto_region 4 with fail
 rw[HE.out]
 clear HE h4'
 go_upto_region 5 with fail
 go_loopw [5] (fun s5 wr=>∃ i:Nat,s5=.int .i64 i∧i≤n∧NI w cs i wr) (fun s5 _=>n - (intOf s5).toNat)
 case atStart=>exact⟨0,rfl,Nat.zero_le _,HI0.out⟩
 case round =>
  clear HI0
  obtain⟨i,rfl,hi,hni⟩:=hrel
  have HNI:=Lib.hid hni
  clear hni
  obtain⟨wq,hwq⟩:∃ wq,wq=wr:=⟨_,rfl⟩
  subst hwq
  by_cases hlt:i < n
  ·have hlt':(i:Int) < (n:Int):=by omega
   obtain⟨c,hc⟩:∃ c,cs[i]?=some c:=⟨_,List.getElem?_eq_getElem (by rw[HN.out];exact hlt)⟩
   have hmem:c∈cs:=List.mem_of_getElem? hc
   have hemp:c.name.toList.isEmpty=false:=emp_no (HOK.out.ne c hmem)
   obtain⟨l1,l2⟩:=HOK.out.lo c hmem
   have l1':decide (c.lim < 1)=false:=decide_eq_false (by omega)
   have l2':decide (1000 < c.lim)=false:=decide_eq_false (by omega)
   obtain⟨lb,lo,e1,q1⟩:=HA.out.get hc
   subst e1
   have HQ1:Hid (∀ V,Frm [] w V→CtAt V lb (lo + i * 2) c):=Lib.hid fun V hV=>q1.frm hV
   obtain⟨c0,c1⟩:=HQ1.out _ HNI.out.fr
   have HC:=Lib.hid hc
   clear hc hmem l1 l2 q1
   go_upto_region 10 with fail
   clear c0 c1 l1' l2' hemp
   go_loopw [6] (fun s6 wl=>∃ k:Nat,s6=.int .i64 k∧k≤i∧Frm [] wq wl) (fun s6 _=>i - (intOf s6).toNat)
   case atStart=>exact⟨0,rfl,Nat.zero_le _,Frm.refl _ _⟩
   case round =>
    obtain⟨k,rfl,hk,hf⟩:=hrel
    have HL1:=Lib.hid hf
    clear hf
    obtain⟨wl,hwl⟩:∃ wl,wl=wr:=⟨_,rfl⟩
    subst hwl
    by_cases hlk:k < i
    ·have hlk':(k:Int) < (i:Int):=by omega
     have hkn:(k:Int) < (n:Int):=by omega
     obtain⟨d,hd⟩:∃ d,cs[k]?=some d:=⟨_,List.getElem?_eq_getElem (by rw[HN.out];omega)⟩
     have hne:(d.name.toList == c.name.toList)=false:=by
      rw[str_beq,decide_eq_false_iff_not]
      intro e
      have:=HOK.out.un k i d c hd HC.out e
      omega
     obtain⟨lb',lo',e1,q1⟩:=HA.out.get hd
     cases e1
     have HQ2:Hid (∀ V,Frm [] w V→CtAt V lb (lo + k * 2) d):=Lib.hid fun V hV=>q1.frm hV
     clear q1 hd
     go_upto_region 12 with fail
     refine wp_region_cq (by kernel_rfl) (by kernel_rfl) ?_
     repeat (first
      | go_big_quiet_skip
      | (refine wpQuiet_want (by rfl) (fun K hK=>?_)
         first
          | (refine quiet_move _ (by rfl) (hK _ ?_))
          | (refine quiet_assign _ (by rfl) (hK _ ?_))
          | (apply Exists.intro
             refine⟨fun w' hC=>?_,hK _ ?_⟩
             ·(unfold Oper.quietAt
               obtain⟨y0,-⟩:=HQ1.out w' (HNI.out.fr.trans (HL1.out.trans hC));obtain⟨y1,-⟩:=HQ2.out w' (HNI.out.fr.trans (HL1.out.trans hC))
               clear hC
               go_simp
               try exact⟨rfl,rfl⟩
               try rfl))
         clear hK K
         try simp only[nrm,Act.eval,nrq]))
     refine wpQuiet_nil ?_
     intro w2 hf2
     have HF2:=Lib.hid (HL1.out.trans hf2)
     clear hf2
     go_wp2
     exact⟨⟨k + 1,congrArg (Value.int .i64) (by omega),hlk,HF2.out⟩,by simp[intOf];omega⟩
    ·obtain rfl:i=k:=by omega
     have hge:¬ (i:Int) < (i:Int):=by omega
     have HNL:=Lib.hid (HNI.out.frm HL1.out)
     obtain⟨ad,cd,av,cv,hb,ho1,ho2⟩:=HNL.out.bx
     have HB:=Lib.hid hb;have HO1:=Lib.hid ho1;have HO2:=Lib.hid ho2
     obtain⟨i0,hi0,hz0,hz1,hz2⟩:=info_parts Tryz.infoCt
     obtain⟨i1,hi1,hy0,hy1,hy2⟩:=info_parts Tryz.infoIn
     have hwl:w.heap.size + 2≤wl.heap.size:=lt_of_block hb
     obtain⟨F,hFe⟩:∃ F,(Value.slice ad i cd).ownBlock.toList ++ (Value.slice av i cv).ownBlock.toList=F:=⟨_,rfl⟩
     have hFD:∀ k,(Value.slice ad i cd).ownBlock=some k→k∈F:=fun k hk=>by rw[← hFe];simp[hk]
     have hFV:∀ k,(Value.slice av i cv).ownBlock=some k→k∈F:=fun k hk=>by rw[← hFe];simp[hk]
     have hFn:∀ k∈F,w.heap.size + 2≤k:=fun k hk=>by
      rw[← hFe] at hk
      rcases List.mem_append.1 hk with hk | hk
      ·exact ownBlock_ge ho1 (by simpa using hk)
      ·exact ownBlock_ge ho2 (by simpa using hk)
     have hlb:lb < w.heap.size:=by
      obtain⟨y0,-⟩:=HQ1.out w (Frm.refl _ _)
      exact cell_lt y0
     have HCF:Hid (∀ V,Frm F wl V→(V.cell? ⟨w.heap.size + 1,0,none⟩=some (.slice ad i cd)∧V.cell? ⟨w.heap.size + 1,1,none⟩=some (.slice av i cv))∧V.cell? ⟨lb,lo + i * 2,none⟩=some (.string c.name)∧V.cell? ⟨lb,lo + i * 2 + 1,none⟩=some (.int .i64 c.lim)):=Lib.hid fun V hV=>by
      obtain⟨y0,y1⟩:=HQ1.out wl (HNI.out.fr.trans HL1.out)
      have hp:w.heap.size + 1∉F:=fun hm=>by have:=hFn _ hm;omega
      have hl:lb∉F:=fun hm=>by have:=hFn _ hm;omega
      have hz:=hV.at hb hp
      exact⟨⟨cell_of hz 0,cell_of hz 1⟩,hV.cellAt y0 hl,hV.cellAt y1 hl⟩
     have HFD:=Lib.hid hFD;have HFV:=Lib.hid hFV;have HFN:=Lib.hid hFn;have HFE:=Lib.hid hFe
     have HBB:Hid (BB w wl F (.slice ad i cd) (.slice av i cv) (.slice ad i cd) (.slice av i cv) i i _ _ wl.drew):=Lib.hid ⟨(Frm.refl F wl).drew,hb,HNL.out.rb,ho1,ho2⟩
     clear hb ho1 ho2 hFD hFV hFn hFe hlk hk
     go_upto_region 14 with fail
     refine heldL_start F (wrFrom 13) (by kernel_rfl) ?_
     refine cnt 0 ?_
     iterate 6
      refine hcL ?_ ?_ ?_
      rotate_left
      ·intro w' hC
       obtain⟨⟨x0,x1⟩,x2,x3⟩:=HCF.out w' ((Frm.refl F wl).drew.trans hC)
       clear hC
       go_simp
       try rfl
      try simp only[nrm,Nat.reduceAdd]
     refine tcn ?_
     refine cnt 8 ?_
     iterate 2
      refine hcL ?_ ?_ ?_
      rotate_left
      ·intro w' hC
       obtain⟨⟨x0,x1⟩,x2,x3⟩:=HCF.out w' ((Frm.refl F wl).drew.trans hC)
       clear hC
       go_simp
       try rfl
      try simp only[nrm,Nat.reduceAdd]
     refine tcn ?_
     obtain⟨wd,hwd⟩:∃ wd,wl.drew=wd:=⟨_,rfl⟩
     rw[hwd] at HBB ⊢
     clear hwd
     refine heldL_all (rs:=[6,10]) (by kernel_rfl) (by simp) (allL_cons ?_ (allL_cons ?_ allL_nil))
     ·skip
      refine heldL_step (i:=6) rfl rfl (by rfl) (fun K' hK'=>?_)
      go_simp
      (skip)
      refine hK'.out _ _ ((Frm.refl _ _).alloc _) ?_
      clear hK' K'
      try simp only[nrm]
      have hr6:=heap_alloc_new (wd) (.cells #[.string c.name,.int .i64 c.lim] 205)
      have hb6:=BB.alloc HBB.out (.cells #[.string c.name,.int .i64 c.lim] 205)
      refine heldL_all (rs:=[7,10]) (by kernel_rfl) (by simp) (allL_cons ?_ (allL_cons ?_ allL_nil))
      ·skip
       refine heldL_step (i:=7) rfl rfl (by rfl) (fun K' hK'=>?_)
       refine wp_own_step _ _ 83 rfl (w.heap.size + 2) 205 Tryz.underlying83 hi0 hz0 hz1 hz2 rfl (by decide) (.slice ad i cd) i _ rfl hb6.o1 _ 1 1 [.string c.name,.int .i64 c.lim] rfl rfl (by have:=row_cells hr6;simpa using this) (by simp[Value.oneCell']) (by unfold maxLen;omega) (by omega) (by have:=hb6.fr.size;omega) ?_
       intro d1 X7 ho7 hg7
       have hb7:=BB.app1 hb6 HFD.out hg7 ho7
       obtain⟨a7,c7,hsh7⟩:=own_shape ho7
       subst hsh7
       refine hK'.out _ _ ((Frm.refl F _).grown hg7 (fun k hk=>.inl (HFD.out k hk))) ?_
       clear hK' K'
       try simp only[nrm]
       refine htL 12 ?_ ?_ ?_
       rotate_left
       ·intro w' hC
        clear hC
        go_simp
        try rfl
       try simp only[nrm]
       refine honL 10 ?_
       refine heldL_step (i:=10) rfl rfl (by rfl) (fun K' hK'=>?_)
       go_simp
       (skip)
       refine hK'.out _ _ ((Frm.refl _ _).alloc _) ?_
       clear hK' K'
       try simp only[nrm]
       have hr10:=heap_alloc_new (X7) (.cells #[.int .i64 0] 3)
       have hb10:=BB.alloc hb7 (.cells #[.int .i64 0] 3)
       refine heldL_all (rs:=[11]) (by kernel_rfl) (by simp) (allL_cons ?_ allL_nil)
       refine heldL_step (i:=11) rfl rfl (by rfl) (fun K' hK'=>?_)
       refine wp_own_step _ _ 36 rfl (w.heap.size + 2) 3 Tryz.underlying36 hi1 hy0 hy1 hy2 rfl (by decide) (.slice av i cv) i _ rfl hb10.o2 _ 1 1 [.int .i64 0] rfl rfl (by have:=row_cells hr10;simpa using this) (by simp[Value.oneCell']) (by unfold maxLen;omega) (by omega) (by have:=hb10.fr.size;omega) ?_
       intro v1 X11 ho11 hg11
       have hb11:=BB.app2 hb10 HFV.out hg11 ho11
       obtain⟨a11,c11,hsh11⟩:=own_shape ho11
       subst hsh11
       refine hK'.out _ _ ((Frm.refl F _).grown hg11 (fun k hk=>.inl (HFV.out k hk))) ?_
       clear hK' K'
       try simp only[nrm]
       have HBE:=Lib.hid hb11
       have fp:=free_of HBE.out.p 0
       have fq:=free_of HBE.out.p 1
       have y0:=cell_of HBE.out.p 0
       have y1:=cell_of HBE.out.p 1
       clear hb6 hb7 hb10 hb11 ho7 ho11 hg7 hg11
       refine honL 13 ?_
       refine heldL_write (i:=13) rfl (by rfl) (by rfl) (fun K' hK'=>?_)
       go_simp
       (skip)
       refine hK'.out _ _ ?_
       clear hK' K'
       try simp only[nrm]
       refine honL 14 ?_
       refine heldL_write (i:=14) rfl (by rfl) (by rfl) (fun K' hK'=>?_)
       go_simp
       (skip)
       refine hK'.out _ _ ?_
       clear hK' K'
       try simp only[nrm]
       refine honL 15 ?_
       refine heldL_write (i:=15) rfl (by rfl) (by rfl) (fun K' hK'=>?_)
       go_simp
       (skip)
       refine hK'.out _ _ ?_
       clear hK' K'
       try simp only[nrm]
       refine heldL_done (by kernel_rfl) ?_ _
       go_wp2
       refine⟨⟨i + 1,congrArg (Value.int .i64) (by omega),hlt,?_⟩,by simp[intOf];omega⟩
       refine NI.end HNL.out HB.out (HFE.out ▸ HBE.out.fr) (fun k hk=>ownBlock_ge HO1.out hk) (fun k hk=>ownBlock_ge HO2.out hk) HBE.out.p HBE.out.rb ?_ ?_ rfl
       ·rw[List.take_add_one,HC.out,List.flatMap_append];exact HBE.out.o1
       ·rw[List.replicate_succ'];exact HBE.out.o2
      ·skip
       refine heldL_step (i:=10) rfl rfl (by rfl) (fun K' hK'=>?_)
       go_simp
       (skip)
       refine hK'.out _ _ ((Frm.refl _ _).alloc _) ?_
       clear hK' K'
       try simp only[nrm]
       have hr6:=alloc_at (x:=.cells #[.int .i64 0] 3) hr6
       have hr10:=heap_alloc_new ((wd).alloc (.cells #[.string c.name,.int .i64 c.lim] 205)) (.cells #[.int .i64 0] 3)
       have hb10:=BB.alloc hb6 (.cells #[.int .i64 0] 3)
       refine heldL_all (rs:=[7]) (by kernel_rfl) (by simp) (allL_cons ?_ allL_nil)
       refine heldL_step (i:=7) rfl rfl (by rfl) (fun K' hK'=>?_)
       refine wp_own_step _ _ 83 rfl (w.heap.size + 2) 205 Tryz.underlying83 hi0 hz0 hz1 hz2 rfl (by decide) (.slice ad i cd) i _ rfl hb10.o1 _ 1 1 [.string c.name,.int .i64 c.lim] rfl rfl (by have:=row_cells hr6;simpa using this) (by simp[Value.oneCell']) (by unfold maxLen;omega) (by omega) (by have:=hb10.fr.size;omega) ?_
       intro d1 X7 ho7 hg7
       have hb7:=BB.app1 hb10 HFD.out hg7 ho7
       replace hr10:=(Kt.own hb10.o1 hg7).cells hr10 (by decide)
       obtain⟨a7,c7,hsh7⟩:=own_shape ho7
       subst hsh7
       refine hK'.out _ _ ((Frm.refl F _).grown hg7 (fun k hk=>.inl (HFD.out k hk))) ?_
       clear hK' K'
       try simp only[nrm]
       refine htL 12 ?_ ?_ ?_
       rotate_left
       ·intro w' hC
        clear hC
        go_simp
        try rfl
       try simp only[nrm]
       refine heldL_all (rs:=[11]) (by kernel_rfl) (by simp) (allL_cons ?_ allL_nil)
       refine heldL_step (i:=11) rfl rfl (by rfl) (fun K' hK'=>?_)
       refine wp_own_step _ _ 36 rfl (w.heap.size + 2) 3 Tryz.underlying36 hi1 hy0 hy1 hy2 rfl (by decide) (.slice av i cv) i _ rfl hb7.o2 _ 1 1 [.int .i64 0] rfl rfl (by have:=row_cells hr10;simpa using this) (by simp[Value.oneCell']) (by unfold maxLen;omega) (by omega) (by have:=hb7.fr.size;omega) ?_
       intro v1 X11 ho11 hg11
       have hb11:=BB.app2 hb7 HFV.out hg11 ho11
       obtain⟨a11,c11,hsh11⟩:=own_shape ho11
       subst hsh11
       refine hK'.out _ _ ((Frm.refl F _).grown hg11 (fun k hk=>.inl (HFV.out k hk))) ?_
       clear hK' K'
       try simp only[nrm]
       have HBE:=Lib.hid hb11
       have fp:=free_of HBE.out.p 0
       have fq:=free_of HBE.out.p 1
       have y0:=cell_of HBE.out.p 0
       have y1:=cell_of HBE.out.p 1
       clear hb6 hb7 hb10 hb11 ho7 ho11 hg7 hg11
       refine honL 13 ?_
       refine heldL_write (i:=13) rfl (by rfl) (by rfl) (fun K' hK'=>?_)
       go_simp
       (skip)
       refine hK'.out _ _ ?_
       clear hK' K'
       try simp only[nrm]
       refine honL 14 ?_
       refine heldL_write (i:=14) rfl (by rfl) (by rfl) (fun K' hK'=>?_)
       go_simp
       (skip)
       refine hK'.out _ _ ?_
       clear hK' K'
       try simp only[nrm]
       refine honL 15 ?_
       refine heldL_write (i:=15) rfl (by rfl) (by rfl) (fun K' hK'=>?_)
       go_simp
       (skip)
       refine hK'.out _ _ ?_
       clear hK' K'
       try simp only[nrm]
       refine heldL_done (by kernel_rfl) ?_ _
       go_wp2
       refine⟨⟨i + 1,congrArg (Value.int .i64) (by omega),hlt,?_⟩,by simp[intOf];omega⟩
       refine NI.end HNL.out HB.out (HFE.out ▸ HBE.out.fr) (fun k hk=>ownBlock_ge HO1.out hk) (fun k hk=>ownBlock_ge HO2.out hk) HBE.out.p HBE.out.rb ?_ ?_ rfl
       ·rw[List.take_add_one,HC.out,List.flatMap_append];exact HBE.out.o1
       ·rw[List.replicate_succ'];exact HBE.out.o2
     ·skip
      refine heldL_step (i:=10) rfl rfl (by rfl) (fun K' hK'=>?_)
      go_simp
      (skip)
      refine hK'.out _ _ ((Frm.refl _ _).alloc _) ?_
      clear hK' K'
      try simp only[nrm]
      have hr10:=heap_alloc_new (wd) (.cells #[.int .i64 0] 3)
      have hb10:=BB.alloc HBB.out (.cells #[.int .i64 0] 3)
      refine honL 6 ?_
      refine heldL_step (i:=6) rfl rfl (by rfl) (fun K' hK'=>?_)
      go_simp
      (skip)
      refine hK'.out _ _ ((Frm.refl _ _).alloc _) ?_
      clear hK' K'
      try simp only[nrm]
      have hr10:=alloc_at (x:=.cells #[.string c.name,.int .i64 c.lim] 205) hr10
      have hr6:=heap_alloc_new ((wd).alloc (.cells #[.int .i64 0] 3)) (.cells #[.string c.name,.int .i64 c.lim] 205)
      have hb6:=BB.alloc hb10 (.cells #[.string c.name,.int .i64 c.lim] 205)
      refine heldL_all (rs:=[7]) (by kernel_rfl) (by simp) (allL_cons ?_ allL_nil)
      refine heldL_step (i:=7) rfl rfl (by rfl) (fun K' hK'=>?_)
      refine wp_own_step _ _ 83 rfl (w.heap.size + 2) 205 Tryz.underlying83 hi0 hz0 hz1 hz2 rfl (by decide) (.slice ad i cd) i _ rfl hb6.o1 _ 1 1 [.string c.name,.int .i64 c.lim] rfl rfl (by have:=row_cells hr6;simpa using this) (by simp[Value.oneCell']) (by unfold maxLen;omega) (by omega) (by have:=hb6.fr.size;omega) ?_
      intro d1 X7 ho7 hg7
      have hb7:=BB.app1 hb6 HFD.out hg7 ho7
      replace hr10:=(Kt.own hb6.o1 hg7).cells hr10 (by decide)
      obtain⟨a7,c7,hsh7⟩:=own_shape ho7
      subst hsh7
      refine hK'.out _ _ ((Frm.refl F _).grown hg7 (fun k hk=>.inl (HFD.out k hk))) ?_
      clear hK' K'
      try simp only[nrm]
      refine htL 12 ?_ ?_ ?_
      rotate_left
      ·intro w' hC
       clear hC
       go_simp
       try rfl
      try simp only[nrm]
      refine heldL_all (rs:=[11]) (by kernel_rfl) (by simp) (allL_cons ?_ allL_nil)
      refine heldL_step (i:=11) rfl rfl (by rfl) (fun K' hK'=>?_)
      refine wp_own_step _ _ 36 rfl (w.heap.size + 2) 3 Tryz.underlying36 hi1 hy0 hy1 hy2 rfl (by decide) (.slice av i cv) i _ rfl hb7.o2 _ 1 1 [.int .i64 0] rfl rfl (by have:=row_cells hr10;simpa using this) (by simp[Value.oneCell']) (by unfold maxLen;omega) (by omega) (by have:=hb7.fr.size;omega) ?_
      intro v1 X11 ho11 hg11
      have hb11:=BB.app2 hb7 HFV.out hg11 ho11
      obtain⟨a11,c11,hsh11⟩:=own_shape ho11
      subst hsh11
      refine hK'.out _ _ ((Frm.refl F _).grown hg11 (fun k hk=>.inl (HFV.out k hk))) ?_
      clear hK' K'
      try simp only[nrm]
      have HBE:=Lib.hid hb11
      have fp:=free_of HBE.out.p 0
      have fq:=free_of HBE.out.p 1
      have y0:=cell_of HBE.out.p 0
      have y1:=cell_of HBE.out.p 1
      clear hb6 hb7 hb10 hb11 ho7 ho11 hg7 hg11
      refine honL 13 ?_
      refine heldL_write (i:=13) rfl (by rfl) (by rfl) (fun K' hK'=>?_)
      go_simp
      (skip)
      refine hK'.out _ _ ?_
      clear hK' K'
      try simp only[nrm]
      refine honL 14 ?_
      refine heldL_write (i:=14) rfl (by rfl) (by rfl) (fun K' hK'=>?_)
      go_simp
      (skip)
      refine hK'.out _ _ ?_
      clear hK' K'
      try simp only[nrm]
      refine honL 15 ?_
      refine heldL_write (i:=15) rfl (by rfl) (by rfl) (fun K' hK'=>?_)
      go_simp
      (skip)
      refine hK'.out _ _ ?_
      clear hK' K'
      try simp only[nrm]
      refine heldL_done (by kernel_rfl) ?_ _
      go_wp2
      refine⟨⟨i + 1,congrArg (Value.int .i64) (by omega),hlt,?_⟩,by simp[intOf];omega⟩
      refine NI.end HNL.out HB.out (HFE.out ▸ HBE.out.fr) (fun k hk=>ownBlock_ge HO1.out hk) (fun k hk=>ownBlock_ge HO2.out hk) HBE.out.p HBE.out.rb ?_ ?_ rfl
      ·rw[List.take_add_one,HC.out,List.flatMap_append];exact HBE.out.o1
      ·rw[List.replicate_succ'];exact HBE.out.o2
  ·obtain rfl:n=i:=by omega
   have hge:¬ (n:Int) < (n:Int):=by omega
   obtain⟨ad,cd,av,cv,hb,ho1,ho2⟩:=HNI.out.bx
   have HB:=Lib.hid hb;have HO1:=Lib.hid ho1;have HO2:=Lib.hid ho2
   clear hb ho1 ho2
   go_wp2_with (first
    | (refine wpList_load_whole rfl 185 _ rfl _ rfl _ 185 HB.out _ Tryz.underlying185 rfl (by kernel_rfl) ?_)
    | (refine wpList_store_row rfl 185 _ _ rfl _ _ _ _ rfl rfl HNI.out.rb rfl (by kernel_rfl) (one2 ..) ?_;intro w7 hb7 hf7;have HB7:=Lib.hid hb7;have HF7:=Lib.hid hf7;clear hb7 hf7))
   have hfe:Frm [] w w7:=HNI.out.fr.then HF7.out (by intro x hx;simp at hx;omega)
   have ht:cs.take n=cs:=by rw[← HN.out,List.take_length]
   have o1:=HO1.out
   rw[ht] at o1
   refine bodyPost_ret (results_b2 rfl rfl rfl HB7.out rfl) rfl ⟨_,rfl,_,_,rfl,?_,?_,hfe⟩
   ·rw[HN.out]
    exact own_low (HF7.out.owns o1 (fun k hk hm=>by have:=ownBlock_ge o1 hk;simp at hm;omega)) (by omega)
   ·rw[HN.out]
    exact own_low (HF7.out.owns HO2.out (fun k hk hm=>by have:=ownBlock_ge HO2.out hk;simp at hm;omega)) (by omega)
end Go.Proofs.YtemjlpahohmajaaGreat
namespace Go.Proofs.YtemjlpahohmajaaGreat
open Go.RowKit Go.BigFrame
def RbAt (w0 w:World) (b o:Nat) (e:List CtrD × List Int):Prop:=∃ dv vv,w.cell? ⟨b,o,none⟩=some dv∧w.cell? ⟨b,o + 1,none⟩=some vv∧DfV w0 dv e.1∧IvR w0 vv e.2
def RcAt (cls cap:Int) (w0 w:World) (b o:Nat) (L:List ByteArray):Prop:=∃ lv,w.cell? ⟨b,o,none⟩=some (.int .i64 cls)∧w.cell? ⟨b,o + 1,none⟩=some (.int .i64 cap)∧w.cell? ⟨b,o + 2,none⟩=some lv∧Lf w0 lv L
theorem RbAt.mov (w0:World):Movable 2 (RbAt w0):=fun w b o x h=>by
 obtain⟨dv,vv,h0,h1,h2,h3⟩:=h
 refine⟨[dv,vv],rfl,?_,fun j u hu=>?_,fun w' b' o' hf hc=>⟨dv,vv,hc 0 _ rfl,hc 1 _ rfl,h2,h3⟩⟩
 ·obtain⟨a1,c1,rfl⟩:=own_shape h2
  obtain⟨a2,c2,rfl⟩:=own_shape h3
  simp[Value.oneCell']
 ·match j,hu with
  | 0,hu=>cases hu;exact h0
  | 1,hu=>cases hu;exact h1
  | j + 2,hu=>simp at hu
theorem RcAt.mov (cls cap:Int) (w0:World):Movable 3 (RcAt cls cap w0):=fun w b o x h=>by
 obtain⟨lv,h0,h1,h2,h3⟩:=h
 refine⟨[.int .i64 cls,.int .i64 cap,lv],rfl,?_,fun j u hu=>?_,fun w' b' o' hf hc=>⟨lv,hc 0 _ rfl,hc 1 _ rfl,hc 2 _ rfl,h3⟩⟩
 ·obtain⟨a1,c1,rfl,-⟩:=h3.shape
  simp[Value.oneCell']
 ·match j,hu with
  | 0,hu=>cases hu;exact h0
  | 1,hu=>cases hu;exact h1
  | 2,hu=>cases hu;exact h2
  | j + 3,hu=>simp at hu
theorem RbAt.frm {w0 w w':World} {b o:Nat} {e:List CtrD × List Int} (h:RbAt w0 w b o e) (hf:Frm [] w w'):RbAt w0 w' b o e:=by
 obtain⟨dv,vv,h0,h1,h2⟩:=h
 exact⟨dv,vv,hf.keep h0,hf.keep h1,h2⟩
theorem RcAt.frm {cls cap:Int} {w0 w w':World} {b o:Nat} {L:List ByteArray} (h:RcAt cls cap w0 w b o L) (hf:Frm [] w w'):RcAt cls cap w0 w' b o L:=by
 obtain⟨lv,h0,h1,h2,h3⟩:=h
 exact⟨lv,hf.keep h0,hf.keep h1,hf.keep h2,h3⟩
def posL (s:SesD) (x:PS):List Int:=(List.range s.roles.length).map fun i=>((x.at i:Nat):Int)
def bnkL (s:SesD) (x:PS):List (List CtrD × List Int):=(List.range s.roles.length).map fun i=>((s.rol i).ctrs,x.bank i)
def rowL (s:SesD) (x:PS) (i:Nat):List (List ByteArray):=(List.range s.roles.length).map fun k=>x.way i k
theorem posL_len (s:SesD) (x:PS):(posL s x).length=s.roles.length:=by simp[posL]
theorem bnkL_len (s:SesD) (x:PS):(bnkL s x).length=s.roles.length:=by simp[bnkL]
theorem rowL_len (s:SesD) (x:PS) (i:Nat):(rowL s x i).length=s.roles.length:=by simp[rowL]
theorem range_map_at {α:Type} {f:Nat→α} {n i:Nat} {y:α} (h:((List.range n).map f)[i]?=some y):i < n∧y=f i:=by
 have hi:=lt_of_some h
 rw[List.length_map,List.length_range] at hi
 rw[List.getElem?_map,List.getElem?_range hi] at h
 cases h
 exact⟨hi,rfl⟩
section
variable {W V:World} {s:SesD} {ba bb bw:Nat} {bi:Nat→Nat} {x:PS}
theorem RO.posA (h:RO W s ba bb bw bi x) (c:Nat):Arr 1 IAt W (.slice (some ⟨ba,0,none⟩) s.roles.length c) (posL s x):=
 ⟨_,c,by rw[posL_len],fun i y hy=>⟨ba,0,rfl,by
  obtain⟨hi,rfl⟩:=range_map_at hy
  unfold IAt
  rw[Nat.zero_add,Nat.mul_one]
  exact h.a i hi⟩⟩
theorem RO.bnkA (h:RO W s ba bb bw bi x) (c:Nat):Arr 2 (RbAt W) W (.slice (some ⟨bb,0,none⟩) s.roles.length c) (bnkL s x):=
 ⟨_,c,by rw[bnkL_len],fun i y hy=>⟨bb,0,rfl,by
  obtain⟨hi,rfl⟩:=range_map_at hy
  obtain⟨dv,vv,h1,h2,h3,h4⟩:=h.b i hi
  rw[Nat.zero_add]
  exact⟨dv,vv,h1,h2,h3,h4.1⟩⟩⟩
theorem RO.rowA (h:RO W s ba bb bw bi x) {i:Nat} (hi:i < s.roles.length) (c:Nat):Arr 3 (RcAt s.cls s.cap W) W (.slice (some ⟨bi i,0,none⟩) s.roles.length c) (rowL s x i):=
 ⟨_,c,by rw[rowL_len],fun k y hy=>⟨bi i,0,rfl,by
  obtain⟨hk,rfl⟩:=range_map_at hy
  rw[Nat.zero_add]
  exact h.r i k hi hk⟩⟩
end
structure RW (B:Nat) (s:SesD) (x:PS) (i:Nat) (bi:Nat→Nat) (W:World):Prop where
 ti:∀ j,j < i→Ty W (bi j) 190∧B≤bi j
 inj:∀ j k,j < i→k < i→bi j=bi k→j=k
 r:∀ j k,j < i→k < s.roles.length→∃ lv,W.cell? ⟨bi j,k * 3,none⟩=some (.int .i64 s.cls)∧W.cell? ⟨bi j,k * 3 + 1,none⟩=some (.int .i64 s.cap)∧W.cell? ⟨bi j,k * 3 + 2,none⟩=some lv∧Lf W lv (x.way j k)
theorem Kt.strs {T:List TypeId} {W V:World} (h:Kt T W V) {lv:Value} {L:List ByteArray} (hl:Lf W lv L) (h9:9∉T):Lf V lv L:=by
 rcases hl with hl | ⟨g,cur,rfl,hb,ht⟩
 ·exact .inl (h.row hl h9)
 ·exact .inr ⟨g,cur,rfl,h.cells hb h9,ht⟩
theorem Kt.cell {T:List TypeId} {W V:World} (h:Kt T W V) {g o:Nat} {e:TypeId} {v:Value} (ht:Ty W g e) (he:e∉T) (hc:W.cell? ⟨g,o,none⟩=some v):V.cell? ⟨g,o,none⟩=some v:=by
 obtain⟨c,hb⟩:=ht
 rw[cell_of hb] at hc
 rw[cell_of (h.cells hb he)]
 exact hc
theorem Kt.ty {T:List TypeId} {W V:World} (h:Kt T W V) {g:Nat} {e:TypeId} (ht:Ty W g e) (he:e∉T):Ty V g e:=by
 obtain⟨c,hb⟩:=ht
 exact⟨c,h.cells hb he⟩
theorem RW.kt {T:List TypeId} {B:Nat} {s:SesD} {x:PS} {i:Nat} {bi:Nat→Nat} {W V:World} (h:RW B s x i bi W) (hk:Kt T W V) (h1:190∉T) (h2:9∉T):RW B s x i bi V:=by
 refine⟨fun j hj=>⟨hk.ty (h.ti j hj).1 h1,(h.ti j hj).2⟩,h.inj,fun j k hj hkk=>?_⟩
 obtain⟨lv,r1,r2,r3,r4⟩:=h.r j k hj hkk
 have ht:=(h.ti j hj).1
 exact⟨lv,hk.cell ht h1 r1,hk.cell ht h1 r2,hk.cell ht h1 r3,hk.strs r4 h2⟩
theorem RW.zero (B:Nat) (s:SesD) (x:PS) (bi:Nat→Nat) (W:World):RW B s x 0 bi W:=⟨fun j hj=>by omega,fun j k hj=>by omega,fun j k hj=>by omega⟩
theorem RW.add {B:Nat} {s:SesD} {x:PS} {i g n c:Nat} {bi:Nat→Nat} {W:World} (h:RW B s x i bi W) (hg:Ty W g 190) (hB:B≤g) (hne:∀ j,j < i→bi j≠g) (ha:Arr 3 (RcAt s.cls s.cap W) W (.slice (some ⟨g,0,none⟩) n c) (rowL s x i)) :
  RW B s x (i + 1) (fun j=>if j=i then g else bi j) W:=by
 have e:∀ j,j < i + 1→(j=i∧(if j=i then g else bi j)=g)∨(j < i∧(if j=i then g else bi j)=bi j):=fun j hj=>by
  by_cases e:j=i
  ·exact .inl ⟨e,if_pos e⟩
  ·exact .inr ⟨by omega,if_neg e⟩
 refine⟨fun j hj=>?_,fun j k hj hk he=>?_,fun j k hj hk=>?_⟩
 ·show Ty W (if j=i then g else bi j) _∧_
  rcases e j hj with ⟨-,e1⟩ | ⟨h1,e1⟩
  ·rw[e1];exact⟨hg,hB⟩
  ·rw[e1];exact h.ti j h1
 ·have he:(if j=i then g else bi j)=(if k=i then g else bi k):=he
  rcases e j hj with ⟨h1,e1⟩ | ⟨h1,e1⟩ <;> rcases e k hk with ⟨h2,e2⟩ | ⟨h2,e2⟩ <;> rw[e1,e2] at he
  ·omega
  ·exact absurd he.symm (hne k h2)
  ·exact absurd he (hne j h1)
  ·exact h.inj j k h1 h2 he
 ·show ∃ lv,W.cell? ⟨if j=i then g else bi j,_,none⟩=_∧W.cell? ⟨if j=i then g else bi j,_,none⟩=_∧W.cell? ⟨if j=i then g else bi j,_,none⟩=_∧_
  rcases e j hj with ⟨h1,e1⟩ | ⟨h1,e1⟩
  ·rw[e1,h1]
   have hy:(rowL s x i)[k]?=some (x.way i k):=by
    unfold rowL
    rw[List.getElem?_map,List.getElem?_range hk]
    rfl
   obtain⟨b,o,e2,r0⟩:=ha.get hy
   cases e2
   rw[Nat.zero_add] at r0
   exact r0
  ·rw[e1];exact h.r j k h1 hk
def WyR (B:Nat) (i n:Nat) (bi:Nat→Nat) (v:Value) (W:World):Prop:=∃ ws:List Value,W.ownsRow B 188 1 v i ws∧∀ j,j < i→∃ c,ws[j]?=some (.slice (some ⟨bi j,0,none⟩) n c)
theorem WyR.kt {T:List TypeId} {B i n:Nat} {bi:Nat→Nat} {v:Value} {W V:World} (h:WyR B i n bi v W) (hk:Kt T W V) (h1:188∉T):WyR B i n bi v V:=by
 obtain⟨ws,h2,h3⟩:=h
 exact⟨ws,hk.row h2 h1,h3⟩
theorem WyR.add {B i n g c:Nat} {bi:Nat→Nat} {v v':Value} {W V:World} {ws:List Value} (h2:W.ownsRow B 188 1 v i ws) (h3:∀ j,j < i→∃ c,ws[j]?=some (.slice (some ⟨bi j,0,none⟩) n c)) (ho:V.ownsRow B 188 1 v' (i + 1) (ws ++ [.slice (some ⟨g,0,none⟩) n c])) :
  WyR B (i + 1) n (fun j=>if j=i then g else bi j) v' V:=by
 have hl:ws.length=i:=by have:=h2.1;omega
 refine⟨_,ho,fun j hj=>?_⟩
 show ∃ c',_=some (Value.slice (some ⟨if j=i then g else bi j,0,none⟩) n c')
 by_cases e:j=i
 ·rw[if_pos e,List.getElem?_append_right (by omega),hl,e,Nat.sub_self]
  exact⟨c,rfl⟩
 ·rw[if_neg e,List.getElem?_append_left (by omega)]
  exact h3 j (by omega)
theorem own_at {W:World} {base e size n g c:Nat} {xs:List Value} (h:W.ownsRow base e size (.slice (some ⟨g,0,none⟩) n c) n xs) {j:Nat} {u:Value} (hu:xs[j]?=some u):W.cell? ⟨g,j,none⟩=some u:=by
 obtain⟨h1,h2⟩:=h
 rcases h2 with ⟨h2,-⟩ | ⟨g',c',cur,e',hb,hg,hn,hm,hs,ht⟩
 ·cases h2
 ·cases e'
  have hj:=lt_of_some hu
  rw[← ht,List.getElem?_take_of_lt (by omega)] at hu
  rw[cell_of hg,← Array.getElem?_toList]
  exact hu
theorem RSt.mk' {B:Nat} {W:World} {s:SesD} {x:PS} {av bv wv:Value} {bi:Nat→Nat} (hn:0 < s.roles.length) (hok:PSok s x) (ha:Arr 1 IAt W av (posL s x)) (hao:∀ k,av.ownBlock=some k→B≤k∧Ty W k 3) (ha0:∃ g c,av=.slice (some ⟨g,0,none⟩) s.roles.length c)
  (hb:Arr 2 (RbAt W) W bv (bnkL s x)) (hbo:∀ k,bv.ownBlock=some k→B≤k∧Ty W k 185) (hb0:∃ g c,bv=.slice (some ⟨g,0,none⟩) s.roles.length c) (hw:WyR B s.roles.length s.roles.length bi wv W) (hr:RW B s x s.roles.length bi W)
  (hv:∀ i b o vv,i < s.roles.length→bv.ownBlock=some b→o=i * 2 + 1→W.cell? ⟨b,o,none⟩=some vv→∀ k,vv.ownBlock=some k→av.ownBlock≠some k):RSt B W s (.agg #[av,bv,wv]) x:=by
 obtain⟨ga,ca,rfl⟩:=ha0
 obtain⟨gb,cb,rfl⟩:=hb0
 obtain⟨ws,w1,w2⟩:=hw
 obtain⟨gw,cw,cur,rfl,hgw,hcw⟩:=own_block w1 (by omega)
 obtain⟨a1,a2⟩:=hao ga rfl
 obtain⟨b1,b2⟩:=hbo gb rfl
 refine⟨⟨ga,gb,gw,bi,ca,cb,cw,rfl,⟨a2,b2,⟨_,hcw⟩,fun i hi=>(hr.ti i hi).1,fun i j hi hj=>hr.inj i j hi hj,fun i hi=>?_,fun i hi=>?_,fun i hi=>?_,fun i k hi hk=>hr.r i k hi hk⟩,a1,b1,hgw,fun i hi=>(hr.ti i hi).2⟩,hok⟩
 ·have hy:(posL s x)[i]?=some ((x.at i:Nat):Int):=by unfold posL;rw[List.getElem?_map,List.getElem?_range hi];rfl
  obtain⟨b,o,e,h⟩:=ha.get hy
  cases e
  unfold IAt at h
  rwa [Nat.zero_add,Nat.mul_one] at h
 ·have hy:(bnkL s x)[i]?=some ((s.rol i).ctrs,x.bank i):=by unfold bnkL;rw[List.getElem?_map,List.getElem?_range hi];rfl
  obtain⟨b,o,e,dv,vv,q0,q1,q2,q3⟩:=hb.get hy
  cases e
  rw[Nat.zero_add] at q0 q1
  exact⟨dv,vv,q0,q1,q2,q3,fun e=>hv i gb _ vv hi rfl rfl q1 ga e rfl⟩
 ·obtain⟨c,hc⟩:=w2 i hi
  exact⟨c,own_at w1 hc⟩
end Go.Proofs.YtemjlpahohmajaaGreat
namespace Go.Proofs.YtemjlpahohmajaaGreat
open Go.RowKit Go.BigFrame
def wrSet (l:List Nat) (j:Nat):Bool:=l.contains j
theorem RO.kt {T:List TypeId} {W V:World} {s:SesD} {ba bb bw:Nat} {bi:Nat→Nat} {x:PS} (h:RO W s ba bb bw bi x) (hk:Kt T W V) (h1:3∉T) (h2:185∉T) (h3:188∉T) (h4:190∉T) (h5:205∉T) (h6:9∉T):RO V s ba bb bw bi x:=by
 refine⟨hk.ty h.ta h1,hk.ty h.tb h2,hk.ty h.tw h3,fun i hi=>hk.ty (h.ti i hi) h4,h.inj,fun i hi=>hk.cell h.ta h1 (h.a i hi),fun i hi=>?_,fun i hi=>?_,fun i k hi hkk=>?_⟩
 ·obtain⟨dv,vv,b1,b2,b3,b4⟩:=h.b i hi
  exact⟨dv,vv,hk.cell h.tb h2 b1,hk.cell h.tb h2 b2,hk.row b3 h5,hk.row b4.1 h1,b4.2⟩
 ·obtain⟨c,h7⟩:=h.w i hi
  exact⟨c,hk.cell h.tw h3 h7⟩
 ·obtain⟨lv,r1,r2,r3,r4⟩:=h.r i k hi hkk
  exact⟨lv,hk.cell (h.ti i hi) h4 r1,hk.cell (h.ti i hi) h4 r2,hk.cell (h.ti i hi) h4 r3,hk.strs r4 h6⟩
def DoTo (w:World) (s:SesD) (x:PS) (m:Mv) (u:Value) (w':World):Prop:=
 Frm [] w w'∧((doB s x m=true∧∃ yv,u=.tuple #[yv,.bool true]∧RSt w.heap.size w' s yv (nextP s x m))∨(doB s x m=false∧∃ A:Array Value,u=.tuple #[.agg A,.bool false]∧A.size=3∧A.all (·.oneCell')=true))
theorem Tryz.info125s:(Tryz.prog.info? 125).map (·.size)=some 3:=by kernel_rfl
theorem results_s2 {fn:Func} {p q:Tmp} (h:fn.results=#[.cell p 125,.tmp q]) {tmps:Array Value} {w:World} {g:Nat} {A:Array Value} {t:TypeId} {v:Value} (hp:tmps.getD p undef=.pointer (some ⟨g,0,none⟩)) (hq:tmps.getD q undef=v) (hg:w.heap[g]?=some (.cells A t (0,0))) (hs:A.size=3) :
  (results fn tmps).run Tryz.prog w=.ok (.tuple #[.agg A,v]) w:=by
 have hp':tmps[p]?.getD undef=.pointer (some ⟨g,0,none⟩):=by simpa using hp
 have hq':tmps[q]?.getD undef=v:=by simpa using hq
 simp[results,h,hp',hq',asAddr,run_loadVar_row w g t 125 A (0,0) _ hg Tryz.underlying125 rfl (by rw[Tryz.info125s,hs])]
structure DoX (w:World) (s:SesD) (ao:Option Addr) (n cap ba bb bw ca cb cw:Nat) (m:Mv) (W:World):Prop where
 b0:W.heap[w.heap.size]?=some (.cells #[.string s.name,.slice ao n cap,.int .i64 s.cls,.int .i64 s.cap] 25 (0,0))
 b1:W.heap[w.heap.size + 1]?=some (.cells #[.slice (some ⟨ba,0,none⟩) n ca,.slice (some ⟨bb,0,none⟩) n cb,.slice (some ⟨bw,0,none⟩) n cw] 125 (0,0))
 b2:W.heap[w.heap.size + 2]?=some (.cells #[.int .i64 m.kind,.int .i64 m.role,.int .i64 m.step,.int .i64 m.place] 129 (0,0))
 b3:W.heap[w.heap.size + 3]?=some (.cells #[.slice none 0 0,.slice none 0 0,.slice none 0 0] 125 (0,0))
theorem DoX.frm {w W V:World} {s:SesD} {ao:Option Addr} {n cap ba bb bw ca cb cw:Nat} {m:Mv} {F:List Nat} (h:DoX w s ao n cap ba bb bw ca cb cw m W) (hf:Frm F W V) (hF:∀ k∈F,w.heap.size + 3 < k):DoX w s ao n cap ba bb bw ca cb cw m V:=
 ⟨hf.at h.b0 (fun hm=>by have:=hF _ hm;omega),hf.at h.b1 (fun hm=>by have:=hF _ hm;omega),hf.at h.b2 (fun hm=>by have:=hF _ hm;omega),hf.at h.b3 (fun hm=>by have:=hF _ hm;omega)⟩
structure YSt (w:World) (s:SesD) (b8:Nat) (y:PS) (W:World):Prop where
 lo:w.heap.size + 3 < b8
 out:∃ ba bb bw bi ca cb cw,W.heap[b8]?=some (.cells #[.slice (some ⟨ba,0,none⟩) s.roles.length ca,.slice (some ⟨bb,0,none⟩) s.roles.length cb,.slice (some ⟨bw,0,none⟩) s.roles.length cw] 125 (0,0))∧RO W s ba bb bw bi y ∧
  w.heap.size + 3 < ba∧w.heap.size + 3 < bb∧w.heap.size + 3 < bw∧∀ i,i < s.roles.length→w.heap.size + 3 < bi i
theorem YSt.frm {w W V:World} {s:SesD} {b8:Nat} {y:PS} (h:YSt w s b8 y W) (hf:Frm [] W V):YSt w s b8 y V:=by
 obtain⟨ba,bb,bw,bi,ca,cb,cw,h1,h2,h3⟩:=h.out
 exact⟨h.lo,ba,bb,bw,bi,ca,cb,cw,hf.at h1 (by simp),h2.frm hf,h3⟩
theorem YSt.end {w W Z:World} {s:SesD} {b8 ba bb bw ca cb cw:Nat} {y:PS} (h:YSt w s b8 y W) (hok:PSok s y) (hb:W.heap[b8]?=some (.cells #[.slice (some ⟨ba,0,none⟩) s.roles.length ca,.slice (some ⟨bb,0,none⟩) s.roles.length cb,.slice (some ⟨bw,0,none⟩) s.roles.length cw] 125 (0,0))) (hk:Kt [125] W Z) :
  RSt w.heap.size Z s (.agg #[.slice (some ⟨ba,0,none⟩) s.roles.length ca,.slice (some ⟨bb,0,none⟩) s.roles.length cb,.slice (some ⟨bw,0,none⟩) s.roles.length cw]) y:=by
 obtain⟨ba',bb',bw',bi',ca',cb',cw',h1,h2,h3,h4,h5,h6⟩:=h.out
 rw[hb] at h1
 injection h1 with h1
 injection h1 with h1
 have e:=congrArg Array.toList h1
 injection e with e1 e
 injection e with e2 e
 injection e with e3 e
 cases e1
 cases e2
 cases e3
 exact⟨⟨ba,bb,bw,bi',ca,cb,cw,rfl,h2.kt hk (by decide) (by decide) (by decide) (by decide) (by decide) (by decide),by omega,by omega,by omega,fun i hi=>by have:=h6 i hi;omega⟩,hok⟩
theorem put3 {W:World} {b:Nat} {A:Array Value} {t:TypeId} {u v z:Value} (h:W.heap[b]?=some (.cells A t (0,0))) (hA:A.size=3) :
  (((W.setCell ⟨b,0,none⟩ u).setCell ⟨b,1,none⟩ v).setCell ⟨b,2,none⟩ z).heap[b]?=some (.cells #[u,v,z] t (0,0))∧Frm [b] W (((W.setCell ⟨b,0,none⟩ u).setCell ⟨b,1,none⟩ v).setCell ⟨b,2,none⟩ z)∧Kt [t] W (((W.setCell ⟨b,0,none⟩ u).setCell ⟨b,1,none⟩ v).setCell ⟨b,2,none⟩ z):=by
 have b1:=block_setCell h 0 u
 have b2:=block_setCell b1 1 v
 have b3:=block_setCell b2 2 z
 refine⟨b3.trans ?_,((setFrm W _ _ _).trans (setFrm _ _ _ _)).trans (setFrm _ _ _ _),(((Kt.refl _ W).set h (by simp) _).set b1 (by simp) _).set b2 (by simp) _⟩
 obtain⟨l⟩:=A
 match l,hA with
 | [a,c,d],_=>rfl
end Go.Proofs.YtemjlpahohmajaaGreat
namespace Go.Proofs.YtemjlpahohmajaaGreat
open Go.RowKit Go.BigFrame
theorem ctC_at:∀ {L:List CtrD} {i:Nat} {c:CtrD},L[i]?=some c→(L.flatMap ctC1)[i * 2]?=some (.string c.name)∧(L.flatMap ctC1)[i * 2 + 1]?=some (.int .i64 c.lim)
 | [],i,c,h=>by simp at h
 | a :: L,0,c,h=>by
   simp at h;subst h
   exact⟨rfl,rfl⟩
 | a :: L,i + 1,c,h=>by
   have:=ctC_at (L:=L) (i:=i) (c:=c) (by simpa using h)
   rw[List.flatMap_cons,List.getElem?_append_right (by simp[ctC1];omega),List.getElem?_append_right (by simp[ctC1];omega)]
   rw[show (ctC1 a).length=2 from rfl,show (i + 1) * 2 - 2=i * 2 by omega,show (i + 1) * 2 + 1 - 2=i * 2 + 1 by omega]
   exact this
theorem df_arr {W:World} {dv:Value} {cs:List CtrD} (h:DfV W dv cs):Arr 2 CtAt W dv cs:=by
 obtain⟨ao,c,rfl⟩:=own_shape h
 refine⟨ao,c,rfl,fun i y hy=>?_⟩
 obtain⟨g,c',cur,e,-,-⟩:=own_block h (by have:=lt_of_some hy;omega)
 cases e
 obtain⟨q0,q1⟩:=ctC_at hy
 exact⟨g,0,rfl,by rw[Nat.zero_add];exact⟨own_at h q0,own_at h q1⟩⟩
theorem bkOk_of {s:SesD} {x:PS} (hs:SesOk s) (hx:PSok s x) {i k:Nat} (hi:i < s.roles.length) (hk:k < (s.rol i).steps.length):BkOk (s.rol i).ctrs (x.bank i) ((s.rol i).stp k):=by
 obtain⟨hl,hv⟩:=hx.vb i hi
 have hr:=hs.at hi
 refine⟨hl,by have:=hr.c4;omega,fun j c hc=>?_,fun hne=>?_⟩
 ·obtain⟨h1,h2⟩:=hv j c hc
  have h3:=(hr.cN c (List.mem_of_getElem? hc)).2
  omega
 ·obtain⟨j,c,h1,h2,h3⟩:=(hs.stp hi hk).ctr hne
  rw[h1]
  omega
theorem stIx_iff {s:SesD} {r:RolD} (h:RolOk s r) {p:Nat} (hp:p < r.sts.length) (n:ByteArray):stIx r n=(p:Int)↔(r.sts.getD p dS).name=n:=by
 have hs:r.sts[p]?=some (r.sts.getD p dS):=some_getD hp
 constructor
 ·intro e
  obtain⟨a,h1,h2,-⟩:=ixf_at e
  rw[hs] at h1
  cases h1
  simpa using h2
 ·intro e
  refine ixf_some hs (decide_eq_true e) fun j y hj hy=>?_
  rw[decide_eq_false_iff_not]
  intro e2
  have:=h.sU j p y _ hy hs (e2.trans e.symm)
  omega
end Go.Proofs.YtemjlpahohmajaaGreat
