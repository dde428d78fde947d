/- Part of the proof. -/
import Derived.Test.YtohfkhjlnlahdaaGreatW14
import Derived.Test.YtohfkhjlnlahdaaGreatW23
import Derived.Test.YtohfkhjlnlahdaaGreatW22
import Derived.Test.YtohfkhjlnlahdaaGreatW24
import Derived.Shelf.SlicesG.Delete
import Derived.Sort.OwnSorted
import Derived.OrdersHeld
import Derived.RangeFuncBound
import Derived.OwnWalkIn
import Derived.TacticsInMore
import Derived.LoopNIn
import Derived.LoopIn
import Derived.Sort.CutIn
import Derived.OrdersIn
import Derived.Shelf.SortM.Plain
import Derived.Shelf.SortM.SortNone
import Derived.Test.YtohfkhjlnlahdaaGreatW27
set_option linter.all false
namespace Go.Proofs.YtohfkhjlnlahdaaGreat
open Go.RowKit Go.BigFrame
structure CtR (B:Nat) (lv:Value) (l:List (CtrD × Int)) (W:World):Prop where
 b:W.heap[B]?=some (.cells #[lv] 241 (0,0))
 a:Arr 3 CnAt W lv l
 t:∀ ao n c,lv=.slice ao n c→n≠0→∃ g cur,ao=some ⟨g,0,none⟩∧W.heap[g]?=some (.cells cur 246 (0,0))
set_option maxHeartbeats 2000000 in
set_option maxRecDepth 100000 in
theorem bCounters_any (bb:Nat) (l:List (CtrD × Int)) (w:World) (h:Bnk w bb l) (hl:l.length≤1000) :
  Calls Tryz.prog 102 #[.pointer (some ⟨bb,0,none⟩)] w (RetV fun v w'=>∃ B lv,v=.func (.func 153) #[] #[.pointer (some ⟨B,0,none⟩)]∧CtR B lv l w'∧Frm [] w w'∧w.heap.size≤B):=by
 have HF0:Hid (Frm [] w (w.alloc (.cells #[.slice none 0 0] 241))):=Lib.hid ((Frm.refl [] w).alloc _)
 have CN:=Lib.hid (bNone_any bb l _ (h.frm HF0.out))
 obtain⟨lv,h1,h2⟩:=h
 have CC:=Lib.hid (clCnt_any lv l _ (h2.frm (fun _ _ _ h=>h.frm HF0.out)) (by omega))
 have c1:=cell_of h1 1
 have hlt:=lt_of_block h1
 have b0:=heap_alloc_new w (.cells #[.slice none 0 0] 241)
 have B0:=Lib.hid b0
 clear h1 h2 hl b0
 go_enter Tryz.func102,Tryz.ntmps102
 go_wp2_with (first
  | (go_at_call 134;go_must (refine CN.out.mono ?_;rintro e w' ⟨rfl,rfl⟩))
  | (go_at_call 135;go_must (refine CC.out.mono ?_;rintro e w1 ⟨v,rfl,hr⟩;obtain⟨ao,cq,rfl⟩:=hr.arr.shape;have hb:=hr.frm.at B0.out (by simp);have cb:=cell_of hb 0;have fb:=free_of hb 0;have HB:=Lib.hid hb;have HR:=Lib.hid hr;clear hr hb)))
 go_ret
 have hb:=block_setCell HB.out 0 (.slice ao l.length cq)
 have hf:Frm [w.heap.size] w1 (w1.setCell ⟨w.heap.size,0,none⟩ (.slice ao l.length cq)):=(Frm.refl _ _).setCell _ (.inl (by simp)) _
 refine⟨_,rfl,_,_,rfl,⟨hb,?_,?_⟩,(HF0.out.trans HR.out.frm).then hf (by intro x hx;simp at hx;right;omega),Nat.le_refl _⟩
 ·rcases HR.out.own with rfl | ⟨news,ho⟩
  ·exact Arr.nil _ _ _
  by_cases hn:l.length=0
  ·rw[List.length_eq_zero_iff.1 hn];exact Arr.nil _ _ _
  ·obtain⟨g,cap,cur,e,hg,hc⟩:=own_block ho hn
   cases e
   obtain⟨ao,c,e,hx⟩:=HR.out.arr
   refine⟨ao,c,e,fun i x hi=>?_⟩
   obtain⟨b,o,e2,a0,a1,a2⟩:=hx i x hi
   rw[e2] at e
   cases e
   have hng:g∉[w.heap.size]:=by simp at hg ⊢;omega
   exact⟨g,0,e2,hf.cellAt a0 hng,hf.cellAt a1 hng,hf.cellAt a2 hng⟩
 ·intro ao n c e hn
  cases e
  rcases HR.out.own with rfl | ⟨news,ho⟩
  ·exact absurd rfl hn
  obtain⟨g,cap,cur,e,hg,hc⟩:=own_block ho hn
  cases e
  exact⟨g,cur,rfl,hf.at hc (by simp at hg ⊢;omega)⟩
theorem take_snoc' {α:Type} {L:List α} {k:Nat} {x:α} (h:L[k]?=some x):L.take (k + 1)=L.take k ++ [x]∧L=L.take k ++ x :: L.drop (k + 1):=by
 have hk:=lt_of_some h
 rw[List.getElem?_eq_getElem hk] at h
 cases h
 exact⟨List.take_succ_eq_append_getElem hk,by simp⟩
set_option maxHeartbeats 2000000 in
set_option maxRecDepth 100000 in
theorem bc_iter (B:Nat) (lv:Value) (L:List (CtrD × Int)) (hL:L.length≤1000000) :
  Iter Fence.wide 2 Tryz.prog 153 #[.pointer (some ⟨B,0,none⟩)] (fun e:CtrD × Int=>#[.string e.1.name,.int .i64 e.2]) (CtR B lv L) L:=by
 intro l J Jx sJ sJx hJR hY W h0
 have HJ:=Lib.hid sJ;have HJR:=Lib.hid hJR;have HY:=Lib.hid hY
 clear sJ sJx hJR hY
 have hr:=HJR.out _ _ h0
 have c0:=cell_of hr.b 0
 obtain⟨ao,cap,rfl⟩:=hr.a.shape
 have H0:=Lib.hid h0
 clear hr h0
 refine callsIn_of_wp Tryz.func153 rfl trivial ?_ rfl
 simp only[Tryz.ntmps153,List.size_toArray,List.length_cons,List.length_nil,Nat.reduceAdd,Nat.reduceSub,Array.replicate_succ,Array.replicate_zero,List.push_toArray,List.append_toArray,List.nil_append,List.cons_append]
 gi_wp2
 gi_loopw [7] (fun s wr=>∃ k:Nat,s=.int .i64 k∧k≤L.length∧J (L.take k) wr) (fun s _=>L.length - (intOf s).toNat)
 case atStart=>exact⟨0,rfl,Nat.zero_le _,H0.out⟩
 case round =>
  obtain⟨k,rfl,hk,hj⟩:=hrel
  have HJ1:=Lib.hid hj
  clear hj H0 c0
  by_cases hlt:k < L.length
  ·obtain⟨x,hx⟩:∃ x,L[k]?=some x:=⟨_,List.getElem?_eq_getElem hlt⟩
   have hr:=HJR.out _ _ HJ1.out
   obtain⟨b,o,c',e,g0,g1,g2⟩:=hr.a.at hx
   cases e
   have HX:=Lib.hid hx
   clear hr hx
   have hJ':J (L.take k) (wr.alloc (.cells #[.string x.1.name,.int .i64 x.1.lim,.int .i64 x.2] 246)):=HJ.out _ _ _ HJ1.out ((Frm.refl _ _).alloc _)
   obtain⟨fn,tmps,assign,body,hy,hR⟩:=HY.out (L.take k) x (L.drop (k + 1)) _ (take_snoc' HX.out).2 hJ'
   have HRR:=Lib.hid hR
   clear hJ' hR
   have hlt':(k:Int) < L.length:=by omega
   gi_wp2
   refine HRR.out.mono ?_
   rintro e W3 (⟨rfl,hJ3⟩ | ⟨rfl,hJx3⟩)
   ·have HJ3:=Lib.hid hJ3
    clear hJ3
    gi_wp2
    go_roundw
    case rel=>exact⟨k + 1,by go_num,hlt,by rw[(take_snoc' HX.out).1];exact HJ3.out⟩
    case measure=>simp[intOf];omega
   ·have HJ3:=Lib.hid hJx3
    clear hJx3
    gi_wp2
    refine bodyPost_ret (results_none rfl _ _ _) rfl ?_
    exact⟨⟨_,rfl⟩,.inr ⟨_,_,_,(take_snoc' HX.out).2,HJ3.out⟩⟩
  ·obtain rfl:k=L.length:=by omega
   have hge:¬ (L.length:Int) < L.length:=by omega
   gi_wp2
   go_end0
   exact⟨⟨_,rfl⟩,.inl (by have:=HJ1.out;rwa [List.take_length] at this)⟩
end Go.Proofs.YtohfkhjlnlahdaaGreat
namespace Go.Proofs.YtohfkhjlnlahdaaGreat
open Go.RowKit Go.BigFrame Go.Sort
theorem enc_byt (L:List ByteArray):(L.map byt).map encStr=L.map Value.string:=by
 rw[List.map_map];rfl
theorem Strs.holds {w:World} {g cap:Nat} {L:List ByteArray} (h:Strs w (.slice (some ⟨g,0,none⟩) L.length cap) L):Holds encStr w g 0 (L.map byt).toArray∧L.length≤cap∧cap≤maxLen∧∃ cur,w.heap[g]?=some (.cells cur 9 (0,0))∧cur.size=cap * 1:=by
 obtain⟨h1,h2⟩:=h
 rcases h2 with ⟨hv,hn⟩ | ⟨g',cap',cur,hv,hb,hh,q1,q2,q3,q4⟩
 ·cases hv
 ·cases hv
  refine⟨holds_of_block hh ?_,q1,q2,cur,hh,q3⟩
  rw[enc_byt,← q4];simp
theorem Strs.prefix' {w:World} {g cap n:Nat} {xs:List Value} {L:List ByteArray} (h:w.ownsRow 0 9 1 (.slice (some ⟨g,0,none⟩) n cap) n xs) (hx:xs.take L.length=L.map Value.string) (hn:L.length≤n):Strs w (.slice (some ⟨g,0,none⟩) L.length cap) L:=by
 obtain⟨h1,h2⟩:=h
 rcases h2 with ⟨hv,_⟩ | ⟨g',cap',cur,hv,hb,hh,q1,q2,q3,q4⟩
 ·cases hv
 ·cases hv
  refine⟨by simp,.inr ⟨g,cap,cur,rfl,hb,hh,by omega,q2,q3,?_⟩⟩
  rw[← hx,← q4,List.take_take]
  congr 1;omega
theorem delete_any (v:Value) (L:List ByteArray) (p:Nat) (w:World) (h:Strs w v L) (hp:p < L.length) (hL:L.length≤1000) :
  Calls Tryz.prog 132 #[v,.int .i64 p,.int .i64 ((p:Int) + 1)] w (RetV fun v' w'=>Strs w' v' (L.eraseIdx p)∧v'.ownBlock=v.ownBlock∧Frm v.ownBlock.toList w w'):=by
 obtain⟨ao,cap,rfl,hn,hc⟩:=h.shape
 obtain⟨g,rfl,-⟩:=hc p _ (List.getElem?_eq_getElem hp)
 obtain⟨hH,q1,q2,cur,hh,q3⟩:=h.holds
 have hd:=AnyG.slices_Delete_string Tryz.deleteS g 0 cap p (p + 1) (L.map byt) w hH (by simpa using q1) (by unfold maxLen at q2;omega) (by omega) (by simp;omega)
 rw[List.length_map] at hd
 refine(show Calls Tryz.prog 132 _ w _ from hd).mono ?_
 rintro e w' ⟨rfl,q,rfl⟩
 have hlen:(L.eraseIdx p).length=L.length - (p + 1 - p):=by rw[List.length_eraseIdx_of_lt hp];omega
 refine⟨_,rfl,?_,rfl,?_⟩
 ·have ho:=ownsRow_sorted (w:=w) (base:=0) (g:=g) (cap:=cap) (n:=q) (e:=9) (os:=#[]) (cur:=cur) (ss:=L.map byt) (ts:=(L.map byt).take p ++ (L.map byt).drop (p + 1) ++ List.replicate (p + 1 - p) []) (by simp;omega) (Nat.zero_le _) hh (by simpa using q1) q2 q3
  rw[grow_empty,List.length_map] at ho
  rw[← hlen]
  refine Strs.prefix' ho ?_ (by rw[hlen];omega)
  have e1:((L.map byt).take p ++ (L.map byt).drop (p + 1)).map encStr=(L.eraseIdx p).map Value.string:=by
   rw[← enc_byt,List.eraseIdx_eq_take_drop_succ,List.map_append (f:=byt),List.map_take,List.map_drop]
  rw[List.map_append (f:=encStr),e1,List.take_left' (by simp)]
 ·have hb:=grownBy_sorted (w:=w) (g:=g) (n:=q) (os:=#[]) ((L.map byt).take p ++ (L.map byt).drop (p + 1) ++ List.replicate (p + 1 - p) []).toArray
  rw[grow_empty] at hb
  exact(Frm.refl _ _).grown hb (fun k hk=>by cases hk;exact .inl (by simp[Value.ownBlock]))
def cfn (cls:Int):Nat:=if cls=2 then 180 else 179
theorem chc_any (cls:Int) (v:Value) (L:List ByteArray) (i:Nat) (w:World) (h:Strs w v L) (hL:L.length≤1000000) (hi:i < L.length) :
  Calls Tryz.prog (cfn cls) #[v,.int .i64 i] w (Ret (.bool (chc cls L i)) (w=·)):=by
 unfold cfn chc
 split
 ·exact second_any v L i _ w h hL (by rw[List.getD_eq_getElem?_getD,List.getElem?_eq_getElem hi];rfl)
 ·exact first_any v i w
theorem tab_at {cls:Int} (h1:1≤cls) (h3:cls≤3):∃ k:Nat,cls=(k:Int)∧k < 4∧(#[Value.nilFunc,.func (.func 179) #[] #[],.func (.func 180) #[] #[],.func (.func 179) #[] #[]]:Array Value)[k]?=some (.func (.func (cfn cls)) #[] #[]):=by
 have:cls=1∨cls=2∨cls=3:=by omega
 rcases this with rfl | rfl | rfl
 ·exact⟨1,rfl,by decide,rfl⟩
 ·exact⟨2,rfl,by decide,rfl⟩
 ·exact⟨3,rfl,by decide,rfl⟩
theorem Good.erase {cls cap:Int} {L:List ByteArray} {p:Nat} (h:Good cls cap L):Good cls cap (L.eraseIdx p):=
 ⟨h.c1,h.c3,h.k1,h.k64,by have:=h.len;have:=List.length_eraseIdx_le L p;omega,fun x hx=>h.sz x (List.mem_of_mem_eraseIdx hx)⟩
theorem take_end {w wc w1 w2:World} {cb:Nat} {cls cap:Int} {L L':List ByteArray} {sv v' v2:Value} (h0:w.heap[cb]?=some (.cells #[.int .i64 cls,.int .i64 cap,sv] 233 (0,0))) (hg':Good cls cap L')
  (hf:Frm [] w wc) (hr:Fresh wc L v' w1) (hst:Strs w2 v2 L') (ho:v2.ownBlock=v'.ownBlock) (h2:Frm v'.ownBlock.toList w1 w2) (hca:w2.heap[cb]?=some (.cells #[.int .i64 cls,.int .i64 cap,sv] 233 (0,0))) :
  ChnTo w cb cls cap L' (cb :: sv.ownBlock.toList) (w2.setCell ⟨cb,2,none⟩ v2):=by
 have hlt:=lt_of_block h0
 have hs:=hf.size
 have hn:∀ k,v'.ownBlock=some k→w.heap.size≤k:=fun k hk=>by have:=hr.2.2 k hk;omega
 refine⟨cb :: v2.ownBlock.toList,⟨v2,(block_setCell hca 2 v2).trans rfl,ownsRow_setCell_other hst (fun e=>?_) v2,hg',rfl⟩,?_,fun x hx=>?_⟩
 ·rw[ho] at e;have h5:w.heap.size≤cb:=hn _ e;omega
 ·refine Frm.setCell ?_ _ (.inl (by simp)) _
  exact((hf.trans hr.2.1).mono (F':=cb :: sv.ownBlock.toList) (by simp)).then h2 (fun x hx=>.inr (hn x (by simpa using hx)))
 ·simp only[List.mem_cons,Option.mem_toList] at hx ⊢
  rcases hx with rfl | hx
  ·exact .inl (.inl rfl)
  ·rw[ho] at hx;exact .inr (hn x hx)
theorem cls_cases {cls:Int} (h1:1≤cls) (h3:cls≤3):cls=1∨cls=2∨cls=3:=by omega
set_option maxHeartbeats 4000000 in
set_option maxRecDepth 100000 in
theorem take_in (cb:Nat) (cls cap:Int) (L:List ByteArray) (F:List Nat) (p:Nat) (w:World) (h:Chn w cb cls cap L F) (hp:p < L.length) :
  Calls Tryz.prog 68 #[.pointer (some ⟨cb,0,none⟩),.int .i64 p] w (Ret (.tuple #[.string (takeM cls L p),.int .i64 (takeE cls L p)]) (ChnTo w cb cls cap (takeL cls L p) F)):=by
 have CN:=Lib.hid (none_any cb cls cap L F w h)
 have HG:=Lib.hid h.good
 have HT:=Lib.hid h.to
 have hg:=h.good.lenN
 obtain⟨sv,e1,e2,-,rfl⟩:=h
 have c0:=cell_of e1 0
 have c2:=cell_of e1 2
 obtain⟨ao,c,rfl,-,hcs⟩:=e2.shape
 obtain⟨g,rfl,cx⟩:=hcs p _ (List.getElem?_eq_getElem hp)
 have HE1:=Lib.hid e1;have HE2:=Lib.hid e2
 have hp0:decide ((p:Int) < 0)=false:=by simp
 have hp1:decide (L.length≤p)=false:=by simp;omega
 obtain⟨r,hc⟩:∃ r,chc cls L p=r:=⟨_,rfl⟩
 have HCH:Hid (∀ w',Frm [] w w'→Calls Tryz.prog (cfn cls) #[.slice (some ⟨g,0,none⟩) L.length c,.int .i64 p] w' (Ret (.bool r) (w'=·))):=Lib.hid fun w' hf=>by
  have:=chc_any cls _ L p w' (HE2.out.frm hf (by simp)) (by omega) hp
  rwa [hc] at this
 have HC0:=Lib.hid hc
 have c0':w.cell? ⟨cb,0,none⟩=some (.int .i64 cls):=c0
 have c2':w.cell? ⟨cb,2,none⟩=some (.slice (some ⟨g,0,none⟩) L.length c):=c2
 have HCA:Hid (∀ w',Frm [] w w'→w'.cell? ⟨cb,0,none⟩=some (.int .i64 cls)∧w'.cell? ⟨cb,2,none⟩=some (.slice (some ⟨g,0,none⟩) L.length c)):=Lib.hid fun w' hf=>⟨hf.keep c0',hf.keep c2'⟩
 clear e1 e2 hcs c0 c2 hc
 go_enter Tryz.func68,Tryz.ntmps68
 go_wp2_with (first
  | (go_at_call 128;go_must (refine CN.out.mono ?_;rintro e w' ⟨rfl,rfl⟩)))
 go_cut [35] (fun s35 w'=>s35=.bool (!r)∧Frm [] w w')
 case first =>
  rcases cls_cases HG.out.c1 HG.out.c3 with e | e | e
  all_goals
   rw[e] at HCA HCH
   clear e c0' c2'
   refine heldG_start (by kernel_rfl) ?_
   refine cnt 0 ?_
   iterate 12
    refine tcG ?_ ?_ ?_
    rotate_left
    ·intro w' hC
     obtain⟨e0,e2⟩:=HCA.out w' ((Frm.refl [] w).drew.trans hC)
     clear hC
     go_simp
     try rfl
    try simp only[nrm,Nat.reduceAdd]
   refine tcn ?_
   refine cnt 13 ?_
   iterate 4
    refine tcG ?_ ?_ ?_
    rotate_left
    ·intro w' hC
     obtain⟨e0,e2⟩:=HCA.out w' ((Frm.refl [] w).drew.trans hC)
     clear hC
     go_simp
     try rfl
    try simp only[nrm,Nat.reduceAdd]
   refine tcn ?_
   refine cnt 19 ?_
   iterate 5
    refine tcG ?_ ?_ ?_
    rotate_left
    ·intro w' hC
     obtain⟨e0,e2⟩:=HCA.out w' ((Frm.refl [] w).drew.trans hC)
     clear hC
     go_simp
     try rfl
    try simp only[nrm,Nat.reduceAdd]
   refine tcn ?_
   refine stG 12 (fun K' hK'=>?_)
   go_simp
   (refine(choices_any w.drew).mono ?_;rintro e w1 ⟨rfl,rfl⟩)
   refine hK'.out _ _ ((Frm.refl [] w.drew).alloc tabO) ?_
   clear hK' K'
   try simp only[nrm]
   have c1:(w.drew.alloc tabO).cell? ⟨w.heap.size,1,none⟩=some (.func (.func 179) #[] #[]):=cell_of (heap_alloc_new w.drew _) 1
   have c2:(w.drew.alloc tabO).cell? ⟨w.heap.size,2,none⟩=some (.func (.func 180) #[] #[]):=cell_of (heap_alloc_new w.drew _) 2
   have c3:(w.drew.alloc tabO).cell? ⟨w.heap.size,3,none⟩=some (.func (.func 179) #[] #[]):=cell_of (heap_alloc_new w.drew _) 3
   have HWT:Frm [] w (w.drew.alloc tabO):=(Frm.refl [] w).drew.alloc _
   generalize w.drew.alloc tabO=wz at c1 c2 c3 HWT ⊢
   refine tkG 17 ?_ ?_ ?_
   rotate_left
   ·intro w' hC
    have d1:=hC.keep c1
    have d2:=hC.keep c2
    have d3:=hC.keep c3
    clear hC
    go_simp
    try rfl
   try simp only[nrm]
   refine stG 18 (fun K' hK'=>?_)
   go_simp
   (skip)
   refine hK'.out _ _ (Frm.refl [] _) ?_
   clear hK' K'
   try simp only[nrm]
   refine stG 24 (fun K' hK'=>?_)
   go_simp
   (refine(HCH.out _ HWT).mono ?_;rintro e w2 ⟨rfl,rfl⟩)
   refine hK'.out _ _ (Frm.refl [] _) ?_
   clear hK' K'
   try simp only[nrm]
   refine cnt 25 ?_
   iterate 2
    refine tcG ?_ ?_ ?_
    rotate_left
    ·intro w' hC
     clear hC
     go_simp
     try rfl
    try simp only[nrm,Nat.reduceAdd]
   refine tcn ?_
   refine wpAnyH_done (by kernel_rfl) ?_ _
   go_wp2
   go_meet
   exact⟨rfl,HWT⟩
 case rest =>
  obtain⟨rfl,hf⟩:=hcut
  cases r with
  | false =>
    have ho:takeOk cls L (p:Int)=false:=by unfold takeOk;simp[HC0.out]
    have HF:=Lib.hid hf
    have HO:=Lib.hid ho
    clear hf HCH c0' c2' cx ho
    go_wp2
    go_ret2
    simp only[takeM,takeE,takeL,HO.out,Bool.false_eq_true,if_false]
    exact⟨rfl,HT.out.frm HF.out⟩
  | true =>
    have ho:takeOk cls L (p:Int)=true:=by unfold takeOk;simp[HC0.out,hp]
    have HO:=Lib.hid ho
    clear ho
    have HF:=Lib.hid hf
    have d2:=hf.keep c2'
    have dx:=hf.keep cx
    have HE2':=Lib.hid (HE2.out.frm hf (by simp))
    clear hf HCH c0' c2' cx
    have fcb:=HF.out.at HE1.out (by simp)
    have HCB:=Lib.hid fcb
    clear fcb
    go_wp2_with (first
     | (go_at_call 133;go_must (refine(clone_any _ L wc HE2'.out (by omega)).mono ?_;rintro e w1 ⟨v',rfl,hr⟩;have HR:=Lib.hid hr;clear hr))
     | (go_at_call 132;go_must (refine(delete_any v' L p w1 HR.out.1 hp (by omega)).mono ?_;rintro e w2 ⟨v2,rfl,hr⟩;have hst:=hr.1;obtain⟨ao',c',hv,-,-⟩:=hst.shape;rw[List.length_eraseIdx_of_lt hp] at hv;subst hv;have HD:=Lib.hid hr;have hca:=hr.2.2.at (HR.out.2.1.at HCB.out (by simp)) (fun hx=>by have:=HR.out.2.2 _ (by simpa using hx);have:=lt_of_block HCB.out;omega);have HCA:=Lib.hid hca;have k2:=cell_of hca 2;have kf:=free_of hca 2;clear hst hr hca)))
    go_ret2
    simp only[takeM,takeE,takeL,HO.out,if_true,Int.toNat_natCast]
    refine⟨?_,take_end HE1.out HG.out.erase HF.out HR.out HD.out.1 HD.out.2.1 HD.out.2.2 HCA.out⟩
    rw[List.getD_eq_getElem?_getD,List.getElem?_eq_getElem hp];rfl
set_option maxHeartbeats 4000000 in
set_option maxRecDepth 100000 in
theorem take_out (cb:Nat) (cls cap:Int) (L:List ByteArray) (F:List Nat) (p:Int) (w:World) (h:Chn w cb cls cap L F) (hp:p < 0∨(L.length:Int)≤p) :
  Calls Tryz.prog 68 #[.pointer (some ⟨cb,0,none⟩),.int .i64 p] w (Ret (.tuple #[.string { data:=#[] },.int .i64 9]) (Frm [] w)):=by
 have CN:=Lib.hid (none_any cb cls cap L F w h)
 obtain⟨sv,e1,e2,-,rfl⟩:=h
 have c2:=cell_of e1 2
 obtain⟨ao,c,rfl,-,hcs⟩:=e2.shape
 have c2':w.cell? ⟨cb,2,none⟩=some (.slice ao L.length c):=c2
 clear e1 e2 hcs c2
 by_cases hp0:p < 0
 ·have hq:decide (p < 0)=true:=by simpa using hp0
  clear hp hp0
  go_enter Tryz.func68,Tryz.ntmps68
  go_wp2_with (first
   | (go_at_call 128;go_must (refine CN.out.mono ?_;rintro e w' ⟨rfl,rfl⟩)))
  go_quiet (fail)
  go_wp2
  go_ret2
  exact⟨rfl,(Frm.refl [] w).drewN _⟩
 ·obtain⟨p,rfl⟩:=Int.eq_ofNat_of_zero_le (by omega:(0:Int)≤p)
  have hq:decide ((p:Int) < 0)=false:=by simp
  have hp1:decide (L.length≤p)=true:=by simp;omega
  clear hp hp0
  go_enter Tryz.func68,Tryz.ntmps68
  go_wp2_with (first
   | (go_at_call 128;go_must (refine CN.out.mono ?_;rintro e w' ⟨rfl,rfl⟩)))
  go_quiet (fail)
  go_wp2
  go_ret2
  exact⟨rfl,(Frm.refl [] w).drewN _⟩
theorem take_any (cb:Nat) (cls cap:Int) (L:List ByteArray) (F:List Nat) (p:Int) (w:World) (h:Chn w cb cls cap L F) :
  Calls Tryz.prog 68 #[.pointer (some ⟨cb,0,none⟩),.int .i64 p] w (Ret (.tuple #[.string (takeM cls L p),.int .i64 (takeE cls L p)]) (ChnTo w cb cls cap (takeL cls L p) F)):=by
 by_cases hr:p < 0∨(L.length:Int)≤p
 ·have ho:takeOk cls L p=false:=by unfold takeOk;rw[decide_eq_false (by omega)];rfl
  simp only[takeM,takeE,takeL,ho,Bool.false_eq_true,if_false]
  exact(take_out cb cls cap L F p w h hr).mono fun e w' ⟨he,hf⟩=>⟨he,h.to.frm hf⟩
 ·obtain⟨p,rfl⟩:=Int.eq_ofNat_of_zero_le (by omega:(0:Int)≤p)
  exact take_in cb cls cap L F p w h (by omega)
set_option maxHeartbeats 4000000 in
theorem lose_any (cb:Nat) (cls cap:Int) (L:List ByteArray) (F:List Nat) (w:World) (h:Chn w cb cls cap L F) :
  Calls Tryz.prog 65 #[.pointer (some ⟨cb,0,none⟩)] w (Ret (.tuple #[.string (loseM cls L),.int .i64 (loseE cls L)]) (ChnTo w cb cls cap (loseL cls L) F)):=by
 have CN:=Lib.hid (none_any cb cls cap L F w h)
 have HT:=Lib.hid h.to
 have CT:=Lib.hid (take_any cb cls cap L F 0 w h)
 obtain⟨sv,e1,-,-,-⟩:=h
 have c0:w.cell? ⟨cb,0,none⟩=some (.int .i64 cls):=cell_of e1 0
 clear e1
 by_cases h3:cls=3
 ·subst h3
  simp only[loseM,loseE,loseL,if_true]
  go_enter Tryz.func65,Tryz.ntmps65
  go_wp2_with (first
   | (go_at_call 128;go_must (refine CN.out.mono ?_;rintro e w' ⟨rfl,rfl⟩))
   | (go_at_call 68;go_must (refine CT.out.mono ?_;rintro e w' ⟨rfl,hr⟩;have HR:=Lib.hid hr;clear hr)))
  go_ret2
  exact⟨rfl,HR.out⟩
 ·simp only[loseM,loseE,loseL,if_neg h3]
  have hne:(cls == 3)=false:=by simpa using h3
  go_enter Tryz.func65,Tryz.ntmps65
  go_wp2_with (first
   | (go_at_call 128;go_must (refine CN.out.mono ?_;rintro e w' ⟨rfl,rfl⟩)))
  go_ret2
  exact⟨rfl,HT.out⟩
end Go.Proofs.YtohfkhjlnlahdaaGreat
namespace Go.Proofs.YtohfkhjlnlahdaaGreat
open Go.RowKit Go.BigFrame
theorem via {T G:Prop} (main:T→G) (tail:T):G:=main tail
theorem tkI {F:Fence} {n:Nat} {P:Program} {ops:Array Oper} {Q:Exit→Act→World→Prop} {md:Region.Mode} (i:Nat) {oi:Oper} (v:Value) {fuel:Nat} {listed:Array Bool} {a:Act} {w:World}
  (h:wpAnyIn F n P md ops Q fuel (listed.setIfInBounds i true) (a.put oi.dst v) w) (hro:F.round=none:=by rfl) (hi:ops[i]?=some oi:=by rfl) (hb:(Region.noSelect ops && Region.free md ops listed i && (Region.ready md ops listed).contains i)=true:=by decide +kernel)
  (hQ:∀ c a w,Q (.panic c) (a.put oi.dst v) w→Q (.panic c) a w:=by exact fun _ _ _ h=>h) (hy:YieldsFenced P ops oi v a:=by (refine⟨Or.inl ⟨?_,?_⟩,?_⟩;(focus rfl);(focus (intro w';go_simp;done));(exact fun _=>rfl))):wpAnyIn F n P md ops Q (fuel + 1) listed a w:=by
 simp only[Bool.and_eq_true] at hb
 exact wpAnyIn_take hro hi hb.1.1 hb.1.2 hb.2 hQ hy h
theorem tkU {F:Fence} {n:Nat} {P:Program} {ops:Array Oper} {Q:Exit→Act→World→Prop} {md:Region.Mode} (i:Nat) {oi:Oper} {fuel:Nat} {listed:Array Bool} {a:Act} {w:World}
  (h:wpAnyIn F n P md ops Q fuel (listed.setIfInBounds i true) (a.put oi.dst undef) w) (hro:F.round=none:=by rfl) (hi:ops[i]?=some oi:=by rfl) (hb:(Region.noSelect ops && Region.free md ops listed i && (Region.ready md ops listed).contains i)=true:=by decide +kernel)
  (hQ:∀ c a w,Q (.panic c) (a.put oi.dst undef) w→Q (.panic c) a w:=by exact fun _ _ _ h=>h) (hy:YieldsFenced P ops oi undef a:=by (refine⟨Or.inr ⟨?_,?_⟩,?_⟩;(focus rfl);(focus rfl);(exact fun _=>rfl))):wpAnyIn F n P md ops Q (fuel + 1) listed a w:=by
 simp only[Bool.and_eq_true] at hb
 exact wpAnyIn_take hro hi hb.1.1 hb.1.2 hb.2 hQ hy h
theorem enter_cfn (cls:Int) (args:Array Value) (w:World):(callFunc (cfn cls) args).run Tryz.prog w=.ok (.enter (cfn cls) args) w:=by
 unfold cfn
 split <;> kernel_rfl
def ChR (bl bc cb:Nat) (cls:Int) (sv:Value) (L:List ByteArray) (W:World):Prop:=
 W.heap[bl]?=some (.cells #[sv] 75 (0,0))∧Strs W sv L∧W.heap[bc]?=some (.cells #[.pointer (some ⟨cb,0,none⟩)] 130 (0,0))∧W.cell? ⟨cb,0,none⟩=some (.int .i64 cls)
def encC (e:Nat × ByteArray):Array Value:=#[.int .i64 e.1,.string e.2]
set_option maxHeartbeats 8000000 in
set_option maxRecDepth 100000 in
theorem chc_iter (bl bc cb:Nat) (cls:Int) (sv:Value) (L:List ByteArray) (h1:1≤cls) (h3:cls≤3) (hL:L.length≤1000) :
  Iter Fence.wide 2 Tryz.prog 178 #[.pointer (some ⟨bl,0,none⟩),.pointer (some ⟨bc,0,none⟩)] encC (ChR bl bc cb cls sv L) (chlK cls L L.length):=by
 intro l J Jx sJ sJx hJR hY W h0
 have HJ:=Lib.hid sJ;have HJR:=Lib.hid hJR;have HY:=Lib.hid hY
 clear sJ sJx hJR hY
 have hr:=HJR.out _ _ h0
 have c0:=cell_of hr.1 0
 obtain⟨ao,cap,hsv,-,-⟩:=hr.2.1.shape
 subst hsv
 have H0:=Lib.hid h0
 clear hr h0
 refine callsIn_of_wp Tryz.func178 rfl trivial ?_ rfl
 simp only[Tryz.ntmps178,List.size_toArray,List.length_cons,List.length_nil,Nat.reduceAdd,Nat.reduceSub,Array.replicate_succ,Array.replicate_zero,List.push_toArray,List.append_toArray,List.nil_append,List.cons_append]
 gi_wp2
 gi_loopw [8] (fun s wr=>∃ k:Nat,s=.int .i64 k∧k≤L.length∧J (chlK cls L k) wr) (fun s _=>L.length - (intOf s).toNat)
 case atStart=>exact⟨0,rfl,Nat.zero_le _,H0.out⟩
 case round =>
  obtain⟨k,rfl,hk,hj⟩:=hrel
  have HJ1:=Lib.hid hj
  clear hj H0 c0
  by_cases hlt:k < L.length
  ·have hr:=HJR.out _ _ HJ1.out
   obtain⟨x,hx⟩:∃ x,L[k]?=some x:=⟨_,List.getElem?_eq_getElem hlt⟩
   obtain⟨ao',cap',hsv,-,hcs⟩:=hr.2.1.shape
   cases hsv
   obtain⟨g,rfl,cx⟩:=hcs k x hx
   have cl:wr.cell? ⟨bl,0,none⟩=some (.slice (some ⟨g,0,none⟩) L.length cap):=cell_of hr.1 0
   have cc:wr.cell? ⟨bc,0,none⟩=some (.pointer (some ⟨cb,0,none⟩)):=cell_of hr.2.2.1 0
   have ck:=hr.2.2.2
   have hlt':(k:Int) < L.length:=by omega
   have HST:=Lib.hid hr.2.1
   clear hr hcs
   gi_upto_region 3 with (fail)
   have HCH:Hid (Calls Tryz.prog (cfn cls) #[.slice (some ⟨g,0,none⟩) L.length cap,.int .i64 k] (wr.alloc tabO).drew (Ret (.bool (chc cls L k)) ((wr.alloc tabO).drew=·))):=
    Lib.hid (chc_any cls _ L k _ (HST.out.frm ((Frm.refl [] wr).alloc _).drew (by simp)) (by omega) hlt)
   have HW:Hid (Frm [] wr (wr.alloc tabO).drew):=Lib.hid ((Frm.refl [] wr).alloc _).drew
   obtain⟨q,hq,hq4,htab⟩:=tab_at h1 h3
   have hqi:(q:Int) < 4:=by omega
   rw[hq] at ck
   have x1:(wr.drew.alloc tabO).cell? ⟨wr.heap.size,q,none⟩=some (.func (.func (cfn cls)) #[] #[]):=(cell_of (heap_alloc_new wr.drew _) q).trans htab
   have y1:(wr.alloc tabO).cell? ⟨wr.heap.size,q,none⟩=some (.func (.func (cfn cls)) #[] #[]):=(cell_of (heap_alloc_new wr _) q).trans htab
   clear hq h1 h3 htab
   focus
    refine wpIn_region_any (by kernel_rfl) ?_
    change wpAnyIn _ _ _ _ _ _ _ _ _ (World.drew _)
    have cl2:(wr.alloc tabO).cell? ⟨bl,0,none⟩=some (.slice (some ⟨g,0,none⟩) L.length cap):=((Frm.refl [] wr).alloc _).keep cl
    have cc2:(wr.alloc tabO).cell? ⟨bc,0,none⟩=some (.pointer (some ⟨cb,0,none⟩)):=((Frm.refl [] wr).alloc _).keep cc
    have ck2:=((Frm.refl [] wr).alloc tabO).keep ck
    apply via
    case main =>
     intro tail
     repeat' (first
      | (refine tkI 8 (.int .i64 k) ?_;try simp only[nrm])
      | ((first | refine tkI 2 (.pointer (some ⟨cb,0,none⟩)) ?_ | refine tkI 3 (.pointer (some ⟨cb,0,none⟩)) ?_);try simp only[nrm])
      | (refine tkI 5 (.pointer (some ⟨wr.heap.size,q,none⟩)) ?_;try simp only[nrm])
      | ((first
          | refine wpAnyIn_ready (rs:=[0,1,7]) (by decide +kernel) (by simp) (AllReadyIn.cons rfl (fun K hK=>?_) (AllReadyIn.cons rfl (fun K hK=>?_) (AllReadyIn.cons rfl (fun K hK=>?_) AllReadyIn.nil)))
          | refine wpAnyIn_ready (rs:=[0,1]) (by decide +kernel) (by simp) (AllReadyIn.cons rfl (fun K hK=>?_) (AllReadyIn.cons rfl (fun K hK=>?_) AllReadyIn.nil))
          | refine wpAnyIn_ready (rs:=[0,4,7]) (by decide +kernel) (by simp) (AllReadyIn.cons rfl (fun K hK=>?_) (AllReadyIn.cons rfl (fun K hK=>?_) (AllReadyIn.cons rfl (fun K hK=>?_) AllReadyIn.nil)))
          | refine wpAnyIn_ready (rs:=[0,4]) (by decide +kernel) (by simp) (AllReadyIn.cons rfl (fun K hK=>?_) (AllReadyIn.cons rfl (fun K hK=>?_) AllReadyIn.nil))
          | refine wpAnyIn_ready (rs:=[0,7]) (by decide +kernel) (by simp) (AllReadyIn.cons rfl (fun K hK=>?_) (AllReadyIn.cons rfl (fun K hK=>?_) AllReadyIn.nil))
          | refine wpAnyIn_ready (rs:=[0]) (by decide +kernel) (by simp) (AllReadyIn.cons rfl (fun K hK=>?_) AllReadyIn.nil)
          | refine wpAnyIn_ready (rs:=[1,7]) (by decide +kernel) (by simp) (AllReadyIn.cons rfl (fun K hK=>?_) (AllReadyIn.cons rfl (fun K hK=>?_) AllReadyIn.nil))
          | refine wpAnyIn_ready (rs:=[1]) (by decide +kernel) (by simp) (AllReadyIn.cons rfl (fun K hK=>?_) AllReadyIn.nil)
          | refine wpAnyIn_ready (rs:=[4,7]) (by decide +kernel) (by simp) (AllReadyIn.cons rfl (fun K hK=>?_) (AllReadyIn.cons rfl (fun K hK=>?_) AllReadyIn.nil))
          | refine wpAnyIn_ready (rs:=[4]) (by decide +kernel) (by simp) (AllReadyIn.cons rfl (fun K hK=>?_) AllReadyIn.nil)
          | refine wpAnyIn_ready (rs:=[6,7]) (by decide +kernel) (by simp) (AllReadyIn.cons rfl (fun K hK=>?_) (AllReadyIn.cons rfl (fun K hK=>?_) AllReadyIn.nil))
          | refine wpAnyIn_ready (rs:=[6]) (by decide +kernel) (by simp) (AllReadyIn.cons rfl (fun K hK=>?_) AllReadyIn.nil)
          | refine wpAnyIn_ready (rs:=[7]) (by decide +kernel) (by simp) (AllReadyIn.cons rfl (fun K hK=>?_) AllReadyIn.nil)
        ) <;> (rw[if_pos (by rfl)];go_simp;(try (refine⟨trivial,(callsIn_wide.2 (choices_any _)).mono ?_⟩;rintro e w1 ⟨rfl,rfl⟩));refine hK _ _ ?_;clear hK K;try simp only[nrm]))
      | exact tail)
    case tail =>
     generalize (wr.alloc tabO).drew=wz at HCH HW ⊢
     clear x1 y1 cl2 cc2 ck2
     have he:=enter_cfn cls
     refine wpAnyIn_ready (rs:=[9]) (by kernel_rfl) (by simp) (AllReadyIn.cons rfl (fun K hK=>?_) AllReadyIn.nil)
     rw[if_pos (by rfl)]
     go_simp
     refine⟨trivial,(callsIn_wide.2 HCH.out).mono ?_⟩
     rintro e w1 ⟨rfl,rfl⟩
     refine hK _ _ ?_
     clear hK K HCH he
     try simp only[nrm]
     cases hc:chc cls L k with
     | false =>
       have HJ2:Hid (J (chlK cls L (k + 1)) wz):=by
        have h4:=HJ.out _ _ _ HJ1.out HW.out
        have h5:J (chlK cls L (k + 1)) wz:=by simpa[chlK,hc] using h4
        exact Lib.hid h5
       refine tkI 10 (.bool false) ?_
       try simp only[nrm]
       iterate 5
        first | refine tkU 11 ?_ | refine tkU 12 ?_ | refine tkU 13 ?_ | refine tkU 14 ?_ | refine tkU 15 ?_
        try simp only[nrm]
       refine wpAnyIn_ready (rs:=[16]) (by kernel_rfl) (by simp) (AllReadyIn.cons rfl (fun K hK=>?_) AllReadyIn.nil)
       rw[if_pos (by rfl)]
       go_simp
       refine hK _ _ ?_
       clear hK K
       try simp only[nrm]
       refine wpAnyIn_done (by kernel_rfl) ?_ _
       clear hc HY HJR HST cl cc ck cx hx
       gi_wp2
       go_roundw
       case rel=>exact⟨k + 1,by go_num,hlt,HJ2.out⟩
       case measure=>simp[intOf];omega
     | true =>
       obtain⟨rest,hsp⟩:=chl_split hlt hc
       have hJ':=HJ.out _ _ _ HJ1.out HW.out
       have hgd:L.getD k ByteArray.empty=x:=by rw[List.getD_eq_getElem?_getD,hx];rfl
       rw[hgd] at hsp
       obtain⟨fn,tmps,assign,body,hy,hR⟩:=HY.out _ _ _ _ hsp hJ'
       have HSP:=Lib.hid hsp
       have HC1:Hid (chlK cls L (k + 1)=chlK cls L k ++ [(k,x)]):=Lib.hid (by rw[chlK,hc,if_pos rfl,hgd])
       have HRR:=Lib.hid hR
       simp only[encC] at hy
       clear hJ' hR hsp
       refine tkI 10 (.bool true) ?_
       try simp only[nrm]
       refine tkI 11 (.func (.yield l) #[] #[]) ?_
       try simp only[nrm]
       refine tkI 12 (.int .i64 k) ?_
       try simp only[nrm]
       refine tkI 13 (.string x) ?_
       try simp only[nrm]
       refine wpAnyIn_ready (rs:=[14]) (by kernel_rfl) (by simp) (AllReadyIn.cons rfl (fun K hK=>?_) AllReadyIn.nil)
       rw[if_pos (by rfl)]
       go_simp
       refine HRR.out.mono ?_
       rintro e W3 (⟨rfl,hJ3⟩ | ⟨rfl,hJ3⟩)
       ·have HJ3:=Lib.hid hJ3
        clear hJ3 hy
        refine hK _ _ ?_
        clear hK K
        try simp only[nrm]
        refine tkI 15 (.bool false) ?_
        try simp only[nrm]
        refine tkI 16 (.bool false) ?_
        try simp only[nrm]
        refine wpAnyIn_done (by kernel_rfl) ?_ _
        gi_wp2
        go_roundw
        case rel=>exact⟨k + 1,by go_num,hlt,by rw[HC1.out];exact HJ3.out⟩
        case measure=>simp[intOf];omega
       ·have HJ3:=Lib.hid hJ3
        clear hJ3 hy
        refine hK _ _ ?_
        clear hK K
        try simp only[nrm]
        refine tkI 15 (.bool true) ?_
        try simp only[nrm]
        refine tkI 16 (.bool true) ?_
        try simp only[nrm]
        refine wpAnyIn_done (by kernel_rfl) ?_ _
        gi_wp2
        refine bodyPost_ret (results_none rfl _ _ _) rfl ?_
        first | exact⟨⟨_,rfl⟩,.inr ⟨_,_,_,HSP.out,HJ3.out⟩⟩ | exact⟨⟨_,rfl⟩,.inr ⟨_,_,⟨_,HSP.out⟩,HJ3.out⟩⟩
  ·obtain rfl:k=L.length:=by omega
   have hge:¬ (L.length:Int) < L.length:=by omega
   gi_wp2
   go_end0
   exact⟨⟨_,rfl⟩,.inl HJ1.out⟩
end Go.Proofs.YtohfkhjlnlahdaaGreat
namespace Go.Proofs.YtohfkhjlnlahdaaGreat
open Go.RowKit Go.BigFrame
def ChTo (w:World) (cb:Nat) (cls:Int) (L:List ByteArray) (v:Value) (w':World):Prop:=
 ∃ bl bc sv,v=.func (.func 178) #[] #[.pointer (some ⟨bl,0,none⟩),.pointer (some ⟨bc,0,none⟩)]∧ChR bl bc cb cls sv L w'∧Frm [] w w'∧w.heap.size≤bl∧w.heap.size≤bc∧∀ k,sv.ownBlock=some k→w.heap.size≤k
theorem Chn.cell0 {w:World} {cb:Nat} {cls cap:Int} {L:List ByteArray} {F:List Nat} (h:Chn w cb cls cap L F):w.cell? ⟨cb,0,none⟩=some (.int .i64 cls):=by
 obtain⟨sv,e1,-,-,-⟩:=h;exact cell_of e1 0
set_option maxHeartbeats 1000000 in
theorem choose_any (cb:Nat) (cls cap:Int) (L:List ByteArray) (F:List Nat) (w:World) (h:Chn w cb cls cap L F) :
  Calls Tryz.prog 123 #[.pointer (some ⟨cb,0,none⟩)] w (RetV (ChTo w cb cls L)):=by
 have HC:=Lib.hid h
 have CA:=Lib.hid (all_any (h.frm ((Frm.refl [] w).alloc (.cells #[.pointer (some ⟨cb,0,none⟩)] 130)) (by simp)))
 have b0:(w.alloc (.cells #[.pointer (some ⟨cb,0,none⟩)] 130)).heap[w.heap.size]?=some (.cells #[.pointer (some ⟨cb,0,none⟩)] 130 (0,0)):=heap_alloc_new _ _
 have B0:=Lib.hid b0
 have c0:=cell_of b0 0
 clear h b0
 go_enter Tryz.func123,Tryz.ntmps123
 go_wp2_with (go_at_call 154;go_must (refine CA.out.mono ?_;rintro e w1 ⟨v,rfl,hr⟩;obtain⟨ao,cp,rfl,-,-⟩:=hr.1.shape;have HR:=Lib.hid hr;clear hr))
 go_ret
 have hf0:Frm [] w w1:=((Frm.refl [] w).alloc _).trans HR.out.2.1
 refine⟨_,rfl,_,_,_,rfl,⟨heap_alloc_new _ _,HR.out.1.frm ((Frm.refl [] _).alloc _) (by simp),((Frm.refl [] w1).alloc _).at (HR.out.2.1.at B0.out (by simp)) (by simp),(hf0.alloc _).keep HC.out.cell0⟩,hf0.alloc _,?_,Nat.le_refl _,fun k hk=>?_⟩
 ·exact hf0.size
 ·have:=HR.out.2.2 k hk;simp at this;omega
end Go.Proofs.YtohfkhjlnlahdaaGreat
namespace Go.Proofs.YtohfkhjlnlahdaaGreat
open Go.RowKit Go.BigFrame
section
variable {w w':World} {s:SesD} {yb fb sb:Nat} {x:PS}
structure WyF (gb go' rb ro cb:Nat) (cls cap:Int) (L:List ByteArray) (W:World) (n m c:Nat):Prop where
 c0:W.cell? ⟨gb,go',none⟩=some (.slice (some ⟨rb,ro,none⟩) m c)
 c1:W.cell? ⟨rb,ro + n,none⟩=some (.pointer (some ⟨cb,0,none⟩))
 chn:∃ F,Chn W cb cls cap L F
theorem StR.row (h:StR w s yb sb x) {i:Nat} (hi:i < s.roles.length):∃ gb go' cap rv,w.cell? ⟨sb,2,none⟩=some (.slice (some ⟨gb,go',none⟩) s.roles.length cap)∧w.cell? ⟨gb,go' + i,none⟩=some rv∧RowV s.cls s.cap w rv (x.ways.getD i []):=by
 obtain⟨av,wv,h1,-,h3⟩:=h.out
 obtain⟨gb,go',cap,rfl,rv,c0,h4⟩:=h3.at (some_getD (d:=[]) (by rw[h.ok.wl];exact hi))
 rw[h.ok.wl] at h1
 rw[Nat.mul_one] at c0
 exact⟨gb,go',cap,rv,cell_of h1 2,c0,h4⟩
theorem StR.way (h:StR w s yb sb x) {i k:Nat} (hi:i < s.roles.length) (hk:k < s.roles.length):∃ gb go' cap rb ro c cb,w.cell? ⟨sb,2,none⟩=some (.slice (some ⟨gb,go',none⟩) s.roles.length cap)∧WyF gb (go' + i) rb ro cb s.cls s.cap (x.way i k) w k s.roles.length c:=by
 obtain⟨gb,go',cap,rv,h1,h2,h3⟩:=h.row hi
 obtain⟨rb,ro,c,rfl,cb,F,c1,hc⟩:=h3.at (some_getD (d:=[]) (by rw[h.ok.wr i hi];exact hk))
 rw[h.ok.wr i hi] at h2
 rw[Nat.mul_one] at c1
 exact⟨gb,go',cap,rb,ro,c,cb,h1,h2,c1,F,hc⟩
end
structure MvAt (w:World) (b o:Nat) (m:Mv):Prop where
 c0:w.cell? ⟨b,o,none⟩=some (.int .i64 m.kind)
 c1:w.cell? ⟨b,o + 1,none⟩=some (.int .i64 m.role)
 c2:w.cell? ⟨b,o + 2,none⟩=some (.int .i64 m.step)
 c3:w.cell? ⟨b,o + 3,none⟩=some (.int .i64 m.place)
theorem MvAt.frm {w w':World} {b o:Nat} {m:Mv} (h:MvAt w b o m) (hf:Frm [] w w'):MvAt w' b o m:=⟨hf.keep h.c0,hf.keep h.c1,hf.keep h.c2,hf.keep h.c3⟩
abbrev mvV (m:Mv):Value:=.agg #[.int .i64 m.kind,.int .i64 m.role,.int .i64 m.step,.int .i64 m.place]
def numL {α:Type} (L:List α):List (Nat × α):=L.mapIdx fun i m=>(i,m)
theorem numL_at {α:Type} {L:List α} {k:Nat}:(numL L)[k]?=(L[k]?).map fun m=>(k,m):=by unfold numL;rw[List.getElem?_mapIdx]
theorem numL_length {α:Type} {L:List α}:(numL L).length=L.length:=by unfold numL;rw[List.length_mapIdx]
structure MvI (B:Nat) (v:Value) (L:List Mv) (W:World):Prop where
 b:W.heap[B]?=some (.cells #[v] 31 (0,0))
 a:Arr 4 MvAt W v L
theorem MvI.frm {B:Nat} {v:Value} {L:List Mv} {W W':World} (h:MvI B v L W) (hf:Frm [] W W'):MvI B v L W':=⟨hf.at h.b (by simp),h.a.frm fun _ _ _ h=>h.frm hf⟩
set_option maxRecDepth 100000 in
theorem alMove_any (v:Value) (L:List Mv) (w:World) (h:Arr 4 MvAt w v L):Calls Tryz.prog 75 #[v] w (RetV fun u w'=>u=.func (.func 146) #[] #[.pointer (some ⟨w.heap.size,0,none⟩)]∧MvI w.heap.size v L w'∧Frm [] w w'):=by
 have H:=Lib.hid h
 obtain⟨ao,cap,rfl⟩:=h.shape
 clear h
 go_enter Tryz.func75,Tryz.ntmps75
 go_wp2
 go_ret
 exact⟨_,rfl,rfl,⟨heap_alloc_new _ _,H.out.frm fun _ _ _ h=>h.frm ((Frm.refl [] w).alloc _)⟩,(Frm.refl [] w).alloc _⟩
set_option maxHeartbeats 2000000 in
set_option maxRecDepth 100000 in
theorem mv_iter (B:Nat) (v:Value) (L:List Mv) (hL:L.length≤1000000) :
  Iter Fence.wide 2 Tryz.prog 146 #[.pointer (some ⟨B,0,none⟩)] (fun e:Nat × Mv=>#[.int .i64 e.1,mvV e.2]) (MvI B v L) (numL L):=by
 intro l J Jx sJ sJx hJR hY W h0
 have HJ:=Lib.hid sJ;have HJR:=Lib.hid hJR;have HY:=Lib.hid hY
 clear sJ sJx hJR hY
 have hr:=HJR.out _ _ h0
 have c0:=cell_of hr.b 0
 obtain⟨ao,cap,rfl⟩:=hr.a.shape
 have H0:=Lib.hid h0
 have HNL:Hid ((numL L).length=L.length):=Lib.hid numL_length
 clear hr h0
 refine callsIn_of_wp Tryz.func146 rfl trivial ?_ rfl
 simp only[Tryz.ntmps146,List.size_toArray,List.length_cons,List.length_nil,Nat.reduceAdd,Nat.reduceSub,Array.replicate_succ,Array.replicate_zero,List.push_toArray,List.append_toArray,List.nil_append,List.cons_append]
 gi_wp2
 gi_loopw [7] (fun s wr=>∃ k:Nat,s=.int .i64 k∧k≤L.length∧J ((numL L).take k) wr) (fun s _=>L.length - (intOf s).toNat)
 case atStart=>exact⟨0,rfl,Nat.zero_le _,H0.out⟩
 case round =>
  obtain⟨k,rfl,hk,hj⟩:=hrel
  have HJ1:=Lib.hid hj
  clear hj H0 c0
  by_cases hlt:k < L.length
  ·obtain⟨x,hx⟩:∃ x,L[k]?=some x:=⟨_,List.getElem?_eq_getElem hlt⟩
   have hr:=HJR.out _ _ HJ1.out
   obtain⟨b,o,c',e,g0,g1,g2,g3⟩:=hr.a.at hx
   cases e
   have hnx:(numL L)[k]?=some (k,x):=by rw[numL_at,hx];rfl
   have HX:=Lib.hid hnx
   clear hr hx hnx
   have hJ':J ((numL L).take k) (wr.alloc (.cells #[.int .i64 x.kind,.int .i64 x.role,.int .i64 x.step,.int .i64 x.place] 44)):=HJ.out _ _ _ HJ1.out ((Frm.refl _ _).alloc _)
   obtain⟨fn,tmps,assign,body,hy,hR⟩:=HY.out ((numL L).take k) (k,x) ((numL L).drop (k + 1)) _ (take_snoc' HX.out).2 hJ'
   have HRR:=Lib.hid hR
   clear hJ' hR
   have hlt':(k:Int) < L.length:=by omega
   gi_wp2
   refine HRR.out.mono ?_
   rintro e W3 (⟨rfl,hJ3⟩ | ⟨rfl,hJx3⟩)
   ·have HJ3:=Lib.hid hJ3
    clear hJ3
    gi_wp2
    go_roundw
    case rel=>exact⟨k + 1,by go_num,hlt,by rw[(take_snoc' HX.out).1];exact HJ3.out⟩
    case measure=>simp[intOf];omega
   ·have HJ3:=Lib.hid hJx3
    clear hJx3
    gi_wp2
    refine bodyPost_ret (results_none rfl _ _ _) rfl ?_
    exact⟨⟨_,rfl⟩,.inr ⟨_,_,_,(take_snoc' HX.out).2,HJ3.out⟩⟩
  ·obtain rfl:k=L.length:=by omega
   have hge:¬ (L.length:Int) < L.length:=by omega
   gi_wp2
   go_end0
   exact⟨⟨_,rfl⟩,.inl (by have:=HJ1.out;rwa [← HNL.out,List.take_length] at this)⟩
set_option maxRecDepth 100000 in
theorem pFits_any (s:SesD) (yb sb:Nat) (x:PS) (i:Int) (w:World) (h:StR w s yb sb x):Calls Tryz.prog 187 #[.pointer (some ⟨sb,0,none⟩),.int .i64 i] w (Ret (.bool (decide (0≤i) && decide (i < (s.roles.length:Int)))) (w=·)):=by
 obtain⟨av,wv,h1,h2,-⟩:=h.out
 obtain⟨ao,cap,rfl⟩:=h2.shape
 rw[actsP_len] at h1
 have c1:=cell_of h1 1
 clear h1 h2 h
 by_cases h0:0≤i
 ·rw[decide_eq_true h0]
  go_enter Tryz.func187,Tryz.ntmps187
  go_wp2
  go_ret
  exact⟨by simp,rfl⟩
 ·rw[decide_eq_false h0]
  go_enter Tryz.func187,Tryz.ntmps187
  go_wp2
  go_ret
  exact⟨rfl,rfl⟩
set_option maxHeartbeats 2000000 in
set_option maxRecDepth 100000 in
theorem pAt_ok (s:SesD) (yb fb sb i:Nat) (x:PS) (w:World) (h:SyR w s yb fb) (hx:StR w s yb sb x) (hi:i < s.roles.length) :
  Calls Tryz.prog 142 #[.pointer (some ⟨sb,0,none⟩),.int .i64 i] w (Ret (.tuple #[.string ((s.rol i).sts.getD (x.at i) dS).name,.int .i64 0]) (Frm [] w)):=by
 have C1:=Lib.hid (pSnone_any s yb sb x w hx)
 have C2:=Lib.hid (pFits_any s yb sb x i w hx)
 rw[decide_eq_true (show (0:Int)≤(i:Int) by omega),decide_eq_true (show (i:Int) < (s.roles.length:Int) by omega)] at C2
 obtain⟨rb,ro,rc,sv,cv,tv,y1,hr⟩:=h.rol hi
 obtain⟨ab,ao,ac,bb,x1,ha⟩:=hx.act hi
 have hst:(s.rol i).sts[x.at i]?=some ((s.rol i).sts.getD (x.at i) dS):=some_getD (hx.ok.pb i hi)
 obtain⟨b1,o1,c1',e1,g0,-,-⟩:=hr.r3.sts.at hst
 subst e1
 have x0:w.cell? ⟨sb,0,none⟩=some (.pointer (some ⟨yb,0,none⟩)):=by obtain⟨av,wv,h1,-⟩:=hx.out;exact cell_of h1 0
 have hni:(i:Int) < (s.roles.length:Int):=by omega
 have hns:((x.at i:Nat):Int) < ((s.rol i).sts.length:Int):=by have:=hx.ok.pb i hi;omega
 obtain⟨n,hn⟩:∃ n,s.roles.length=n:=⟨_,rfl⟩
 obtain⟨m,hm⟩:∃ m,(s.rol i).sts.length=m:=⟨_,rfl⟩
 obtain⟨p,hp⟩:∃ p,x.at i=p:=⟨_,rfl⟩
 obtain⟨st,hst2⟩:∃ st,(s.rol i).sts.getD (x.at i) dS=st:=⟨_,rfl⟩
 rw[hn] at y1 x1 hni
 rw[hst2] at g0 ⊢
 rw[hp] at hns g0 ha
 obtain⟨d0,d1,-,-,-⟩:=hr
 obtain⟨e0,-,-⟩:=ha
 rw[hm] at d1 hns
 have HU:Hid (∀ V,Frm [] w V→V.cell? ⟨yb,1,none⟩=some (.slice (some ⟨rb,ro,none⟩) n rc)∧V.cell? ⟨sb,1,none⟩=some (.slice (some ⟨ab,ao,none⟩) n ac)∧V.cell? ⟨sb,0,none⟩=some (.pointer (some ⟨yb,0,none⟩))∧V.cell? ⟨rb,ro + i * 4 + 1,none⟩=some (.slice (some ⟨b1,o1,none⟩) m c1')∧V.cell? ⟨ab,ao + i * 2,none⟩=some (.int .i64 p)∧V.cell? ⟨b1,o1 + p * 3,none⟩=some (.string st.name)):=
  Lib.hid fun V hV=>⟨hV.keep y1,hV.keep x1,hV.keep x0,hV.keep d1,hV.keep e0,hV.keep g0⟩
 clear y1 x1 x0 d0 d1 e0 g0 hn hm hp hst hst2 h hx hi
 go_enter Tryz.func142,Tryz.ntmps142
 go_upto_region 5 with (first
  | (go_at_call 101;go_must (refine C1.out.mono ?_;rintro e w' ⟨rfl,rfl⟩))
  | (go_at_call 187;go_must (refine C2.out.mono ?_;rintro e w' ⟨rfl,rfl⟩)))
 refine wp_region_cq (by kernel_rfl) (by kernel_rfl) ?_
 repeat (first
  | go_big_quiet_skip
  | (refine wpQuiet_want (by rfl) (fun K hK=>?_)
     first
      | (refine quiet_move _ (by rfl) (hK _ ?_))
      | (refine quiet_assign _ (by rfl) (hK _ ?_))
      | (apply Exists.intro
         refine⟨fun w' hC=>?_,hK _ ?_⟩
         ·(unfold Oper.quietAt
           obtain⟨z0,z1,z2,z3,z4,z5⟩:=HU.out w' hC
           clear hC
           go_simp
           try exact⟨rfl,rfl⟩
           try rfl))
     clear hK K
     try simp only[nrm,Act.eval,nrq]))
 refine wpQuiet_nil ?_
 intro w2 hf2
 go_wp2
 go_ret2
 exact⟨rfl,hf2⟩
def ctV (l:List (CtrD × Int)) (n:ByteArray):Value:=match l[(cnIx l n).toNat]? with
 | some c=>if 0≤cnIx l n then .tuple #[.int .i64 c.2,.int .i64 0] else .tuple #[.int .i64 0,.int .i64 9]
 | none=>.tuple #[.int .i64 0,.int .i64 9]
theorem bGet_any (bb:Nat) (l:List (CtrD × Int)) (n:ByteArray) (w:World) (h:Bnk w bb l) (hl:l.length≤1000):∃ a e,ctV l n=.tuple #[.int .i64 a,.int .i64 e]∧Calls Tryz.prog 182 #[.pointer (some ⟨bb,0,none⟩),.string n] w (Ret (.tuple #[.int .i64 a,.int .i64 e]) (Frm [] w)):=by
 unfold ctV
 rcases Int.lt_or_le (cnIx l n) 0 with hk | hk
 ·refine⟨0,9,?_,bGet_no bb l n w h hl hk⟩
  cases l[(cnIx l n).toNat]? with
  | none=>rfl
  | some c=>simp only;rw[if_neg (by omega)]
 ·obtain⟨k,e,hkl⟩:=ixf_nat hk
  have e':cnIx l n=k:=e
  obtain⟨c,hc⟩:∃ c,l[k]?=some c:=⟨_,List.getElem?_eq_getElem hkl⟩
  refine⟨c.2,0,?_,bGet_ok bb l n k c w h hl e' hc⟩
  rw[e',Int.toNat_natCast,hc]
  simp only
  rw[if_pos (by omega)]
set_option maxHeartbeats 2000000 in
set_option maxRecDepth 100000 in
theorem pCounter_ok (s:SesD) (yb fb sb i:Nat) (x:PS) (n:ByteArray) (w:World) (h:SyR w s yb fb) (hx:StR w s yb sb x) (hi:i < s.roles.length) :
  Calls Tryz.prog 190 #[.pointer (some ⟨sb,0,none⟩),.int .i64 i,.string n] w (Ret (ctV (x.ctr s i) n) (Frm [] w)):=by
 have C1:=Lib.hid (pAt_ok s yb fb sb i x w h hx hi)
 obtain⟨ab,ao,ac,bb,x1,ha⟩:=hx.act hi
 obtain⟨a,e,hv,-⟩:=bGet_any bb (x.ctr s i) n w ha.bnk (by have:=(ctr_ok h.ok hx.ok hi).1;omega)
 have CG:Hid (∀ V,Frm [] w V→Calls Tryz.prog 182 #[.pointer (some ⟨bb,0,none⟩),.string n] V (Ret (.tuple #[.int .i64 a,.int .i64 e]) (Frm [] V))):=Lib.hid fun V hV=>by
  obtain⟨a',e',hv',hc⟩:=bGet_any bb (x.ctr s i) n V (ha.bnk.frm hV) (by have:=(ctr_ok h.ok hx.ok hi).1;omega)
  rw[hv] at hv'
  cases hv'
  exact hc
 have HX:Hid (∀ V,Frm [] w V→V.cell? ⟨sb,1,none⟩=some (.slice (some ⟨ab,ao,none⟩) s.roles.length ac)∧V.cell? ⟨ab,ao + i * 2 + 1,none⟩=some (.pointer (some ⟨bb,0,none⟩))):=Lib.hid fun V hV=>⟨hV.keep x1,hV.keep ha.c1⟩
 have hni:(i:Int) < (s.roles.length:Int):=by omega
 rw[hv]
 obtain⟨m,hm⟩:∃ m,s.roles.length=m:=⟨_,rfl⟩
 rw[hm] at HX hni
 clear ha x1 h hx hi hv hm
 go_enter Tryz.func190,Tryz.ntmps190
 go_wp2_with (first
  | (go_at_call 142;go_must (refine C1.out.mono ?_;rintro e w1 ⟨rfl,hf1⟩;obtain⟨z1,z2⟩:=HX.out _ hf1;have HF1:=Lib.hid hf1;clear hf1))
  | (go_at_call 182;go_must (refine(CG.out _ HF1.out).mono ?_;rintro e w2 ⟨rfl,hf2⟩;have HF2:=Lib.hid (HF1.out.trans hf2);clear hf2)))
 go_ret2
 exact⟨rfl,HF2.out⟩
set_option maxHeartbeats 2000000 in
set_option maxRecDepth 100000 in
theorem pChannel_ok (s:SesD) (yb sb i k:Nat) (x:PS) (w:World) (hx:StR w s yb sb x) (hi:i < s.roles.length) (hk:k < s.roles.length) (hne:i≠k) :
  Calls Tryz.prog 188 #[.pointer (some ⟨sb,0,none⟩),.int .i64 i,.int .i64 k] w (RetV fun v w'=>∃ u,v=.tuple #[u,.int .i64 0]∧Fresh w (x.way i k) u w'):=by
 have C1:=Lib.hid (pSnone_any s yb sb x w hx)
 have C2:=Lib.hid (pFits_any s yb sb x i w hx)
 have C3:=Lib.hid (pFits_any s yb sb x k w hx)
 rw[decide_eq_true (show (0:Int)≤(i:Int) by omega),decide_eq_true (show (i:Int) < (s.roles.length:Int) by omega)] at C2
 rw[decide_eq_true (show (0:Int)≤(k:Int) by omega),decide_eq_true (show (k:Int) < (s.roles.length:Int) by omega)] at C3
 obtain⟨gb,go',cap,rb,ro,c,cb,x2,hw⟩:=hx.way hi hk
 obtain⟨w0,w1,F,hch⟩:=hw
 have CA:=Lib.hid (all_any hch)
 have hni:(i:Int) < (s.roles.length:Int):=by omega
 have hnk:(k:Int) < (s.roles.length:Int):=by omega
 have hq:((i:Int) == (k:Int))=false:=by rw[beq_eq_false_iff_ne];omega
 obtain⟨m,hm⟩:∃ m,s.roles.length=m:=⟨_,rfl⟩
 rw[hm] at hni hnk x2 w0
 obtain⟨L,hL⟩:∃ L,x.way i k=L:=⟨_,rfl⟩
 rw[hL] at CA ⊢
 clear hch hx hi hk hne hm hL
 go_enter Tryz.func188,Tryz.ntmps188
 go_wp2_with (first
  | (go_at_call 101;go_must (refine C1.out.mono ?_;rintro e w' ⟨rfl,rfl⟩))
  | (go_at_call 187;go_must (first
   | (refine C2.out.mono ?_;clear C2;rintro e w' ⟨rfl,rfl⟩)
   | (refine C3.out.mono ?_;clear C3;rintro e w' ⟨rfl,rfl⟩)))
  | (go_at_call 154;go_must (refine CA.out.mono ?_;rintro e w2 ⟨v,rfl,hr⟩;obtain⟨ao,cp,rfl,-,-⟩:=hr.1.shape;have HR:=Lib.hid hr;clear hr)))
 go_ret2
 exact⟨_,rfl,_,rfl,HR.out⟩
end Go.Proofs.YtohfkhjlnlahdaaGreat
namespace Go.Proofs.YtohfkhjlnlahdaaGreat
open Go.RowKit Go.BigFrame
def mvC1 (m:Mv):List Value:=[.int .i64 m.kind,.int .i64 m.role,.int .i64 m.step,.int .i64 m.place]
def mvC (L:List Mv):List Value:=L.flatMap mvC1
theorem mvC_append (A B:List Mv):mvC (A ++ B)=mvC A ++ mvC B:=by unfold mvC;rw[List.flatMap_append]
theorem mvC_at {L:List Mv}:∀ {i:Nat} {m:Mv},L[i]?=some m→(mvC L)[i * 4]?=some (.int .i64 m.kind)∧(mvC L)[i * 4 + 1]?=some (.int .i64 m.role)∧(mvC L)[i * 4 + 2]?=some (.int .i64 m.step)∧(mvC L)[i * 4 + 3]?=some (.int .i64 m.place):=by
 induction L with
 | nil=>intro i m h;simp at h
 | cons a L ih =>
   intro i m h
   have e:mvC (a :: L)=mvC1 a ++ mvC L:=rfl
   cases i with
   | zero=>simp at h;subst h;rw[e];exact⟨rfl,rfl,rfl,rfl⟩
   | succ i =>
     have:=ih (i:=i) (m:=m) (by simpa using h)
     have hl:(mvC1 a).length=4:=rfl
     rw[e,List.getElem?_append_right (by omega),List.getElem?_append_right (by omega),List.getElem?_append_right (by omega),List.getElem?_append_right (by omega),hl]
     rw[show (i + 1) * 4 - 4=i * 4 by omega,show (i + 1) * 4 + 1 - 4=i * 4 + 1 by omega,show (i + 1) * 4 + 2 - 4=i * 4 + 2 by omega,show (i + 1) * 4 + 3 - 4=i * 4 + 3 by omega]
     exact this
theorem mv_arr {W:World} {base:Nat} {v:Value} {L:List Mv} (h:W.ownsRow base 44 4 v L.length (mvC L)):Arr 4 MvAt W v L:=by
 obtain⟨ao,cap,rfl⟩:=own_shape h
 refine⟨ao,cap,rfl,fun i m hm=>?_⟩
 have hl:=lt_of_some hm
 obtain⟨g,c,cur,e,-,-⟩:=own_block h (by omega)
 cases e
 have hc:=fun j hj=>World.ownsRow.cellAt h j hj
 obtain⟨h0,h1,h2,h3⟩:=mvC_at hm
 exact⟨g,0,rfl,by rw[Nat.zero_add,hc _ (by omega)];exact h0,by rw[Nat.zero_add,hc _ (by omega)];exact h1,by rw[Nat.zero_add,hc _ (by omega)];exact h2,by rw[Nat.zero_add,hc _ (by omega)];exact h3⟩
abbrev MB (w:World) (ob:Nat) (L:List Mv) (W:World):Prop:=BO 31 44 4 w ob L.length (mvC L) W
abbrev mvT:List TypeId:=[31,44]
theorem Tryz.infoMv:(Tryz.prog.info? 44).map (fun i=>(i.zero,i.size,i.bytes))=some (some (.agg #[.int .i64 0,.int .i64 0,.int .i64 0,.int .i64 0]),4,32):=by kernel_rfl
theorem MB.add {w W w1:World} {ob:Nat} {L:List Mv} {ao:Option Addr} {cap:Nat} {o:Obj} {v':Value} (m:Mv) (h:MB w ob L W) (h1:W.heap[ob]?=some (.cells #[.slice ao L.length cap] 31 (0,0))) (h2:W.ownsRow w.heap.size 44 4 (.slice ao L.length cap) L.length (mvC L))
  (hg:(W.alloc o).grownBy w1 (Value.slice ao L.length cap).ownBlock) (ho:w1.ownsRow w.heap.size 44 4 v' (L.length + 1) (mvC L ++ mvC1 m)) :
  MB w ob (L ++ [m]) (w1.setCell ⟨ob,0,none⟩ v')∧Kt mvT W (w1.setCell ⟨ob,0,none⟩ v'):=by
 have:=h.step h1 h2 (by decide) hg ho
 unfold MB
 rw[mvC_append,List.length_append]
 exact⟨by simpa[mvC] using this.1,this.2⟩
theorem hits_snoc {m:ByteArray} {i k:Nat} (pre:List (Nat × ByteArray)) (e:Nat × ByteArray):hits m i k (pre ++ [e])=if e.2=m then hits m i k pre ++ [⟨1,i,k,e.1⟩] else hits m i k pre:=by
 unfold hits
 rw[List.filterMap_append,List.filterMap_cons]
 split
 ·rename_i h
  split at h
  ·cases h
  ·rename_i h2;rw[if_neg h2];simp
 ·rename_i b h
  split at h
  ·rename_i h2;cases h;rw[if_pos h2];rfl
  ·cases h
theorem hits_len {m:ByteArray} {i k:Nat} (pre:List (Nat × ByteArray)):(hits m i k pre).length≤pre.length:=List.length_filterMap_le _ _
theorem ChR.kt {bl bc cb:Nat} {cls cap:Int} {sv:Value} {L L':List ByteArray} {F:List Nat} {W W':World} (h:ChR bl bc cb cls sv L W) (hk:Kt mvT W W') (hc:Chn W cb cls cap L' F):ChR bl bc cb cls sv L W':=by
 obtain⟨sv',hc1,-⟩:=hc
 exact⟨hk.cells h.1 (by decide),hk.row h.2.1 (by decide),hk.cells h.2.2.1 (by decide),cell_of (hk.cells hc1 (by decide)) 0⟩
end Go.Proofs.YtohfkhjlnlahdaaGreat
