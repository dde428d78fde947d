/- Part of the proof. -/
import Derived.Test.YtohfkhjlnlahdaaGreatV24
import Derived.Test.YtohfkhjlnlahdaaGreatV26
import Derived.Shelf.SlicesG.Delete
import Derived.Sort.OwnSorted
import Derived.OrdersHeld
set_option linter.all false
namespace Go.Proofs.YtohfkhjlnlahdaaGreat
open Go.RowKit Go.BigFrame Go.Sort
theorem enc_byt (L:List ByteArray):(L.map byt).map encStr=L.map Value.string:=by
 rw[List.map_map];rfl
theorem Strs.holds {w:World} {g cap:Nat} {L:List ByteArray} (h:Strs w (.slice (some ⟨g,0,none⟩) L.length cap) L):Holds encStr w g 0 (L.map byt).toArray∧L.length≤cap∧cap≤maxLen∧∃ cur,w.heap[g]?=some (.cells cur 9 (0,0))∧cur.size=cap * 1:=by
 obtain⟨h1,h2⟩:=h
 rcases h2 with ⟨hv,hn⟩ | ⟨g',cap',cur,hv,hb,hh,q1,q2,q3,q4⟩
 ·cases hv
 ·cases hv
  refine⟨holds_of_block hh ?_,q1,q2,cur,hh,q3⟩
  rw[enc_byt,← q4];simp
theorem Strs.prefix' {w:World} {g cap n:Nat} {xs:List Value} {L:List ByteArray} (h:w.ownsRow 0 9 1 (.slice (some ⟨g,0,none⟩) n cap) n xs) (hx:xs.take L.length=L.map Value.string) (hn:L.length≤n):Strs w (.slice (some ⟨g,0,none⟩) L.length cap) L:=by
 obtain⟨h1,h2⟩:=h
 rcases h2 with ⟨hv,_⟩ | ⟨g',cap',cur,hv,hb,hh,q1,q2,q3,q4⟩
 ·cases hv
 ·cases hv
  refine⟨by simp,.inr ⟨g,cap,cur,rfl,hb,hh,by omega,q2,q3,?_⟩⟩
  rw[← hx,← q4,List.take_take]
  congr 1;omega
theorem delete_any (v:Value) (L:List ByteArray) (p:Nat) (w:World) (h:Strs w v L) (hp:p < L.length) (hL:L.length≤1000) :
  Calls Tryz.prog 132 #[v,.int .i64 p,.int .i64 ((p:Int) + 1)] w (RetV fun v' w'=>Strs w' v' (L.eraseIdx p)∧v'.ownBlock=v.ownBlock∧Frm v.ownBlock.toList w w'):=by
 obtain⟨ao,cap,rfl,hn,hc⟩:=h.shape
 obtain⟨g,rfl,-⟩:=hc p _ (List.getElem?_eq_getElem hp)
 obtain⟨hH,q1,q2,cur,hh,q3⟩:=h.holds
 have hd:=AnyG.slices_Delete_string Tryz.deleteS g 0 cap p (p + 1) (L.map byt) w hH (by simpa using q1) (by unfold maxLen at q2;omega) (by omega) (by simp;omega)
 rw[List.length_map] at hd
 refine(show Calls Tryz.prog 132 _ w _ from hd).mono ?_
 rintro e w' ⟨rfl,q,rfl⟩
 have hlen:(L.eraseIdx p).length=L.length - (p + 1 - p):=by rw[List.length_eraseIdx_of_lt hp];omega
 refine⟨_,rfl,?_,rfl,?_⟩
 ·have ho:=ownsRow_sorted (w:=w) (base:=0) (g:=g) (cap:=cap) (n:=q) (e:=9) (os:=#[]) (cur:=cur) (ss:=L.map byt) (ts:=(L.map byt).take p ++ (L.map byt).drop (p + 1) ++ List.replicate (p + 1 - p) []) (by simp;omega) (Nat.zero_le _) hh (by simpa using q1) q2 q3
  rw[grow_empty,List.length_map] at ho
  rw[← hlen]
  refine Strs.prefix' ho ?_ (by rw[hlen];omega)
  have e1:((L.map byt).take p ++ (L.map byt).drop (p + 1)).map encStr=(L.eraseIdx p).map Value.string:=by
   rw[← enc_byt,List.eraseIdx_eq_take_drop_succ,List.map_append (f:=byt),List.map_take,List.map_drop]
  rw[List.map_append (f:=encStr),e1,List.take_left' (by simp)]
 ·have hb:=grownBy_sorted (w:=w) (g:=g) (n:=q) (os:=#[]) ((L.map byt).take p ++ (L.map byt).drop (p + 1) ++ List.replicate (p + 1 - p) []).toArray
  rw[grow_empty] at hb
  exact(Frm.refl _ _).grown hb (fun k hk=>by cases hk;exact .inl (by simp[Value.ownBlock]))
def cfn (cls:Int):Nat:=if cls=2 then 180 else 179
theorem chc_any (cls:Int) (v:Value) (L:List ByteArray) (i:Nat) (w:World) (h:Strs w v L) (hL:L.length≤1000000) (hi:i < L.length) :
  Calls Tryz.prog (cfn cls) #[v,.int .i64 i] w (Ret (.bool (chc cls L i)) (w=·)):=by
 unfold cfn chc
 split
 ·exact second_any v L i _ w h hL (by rw[List.getD_eq_getElem?_getD,List.getElem?_eq_getElem hi];rfl)
 ·exact first_any v i w
theorem tab_at {cls:Int} (h1:1≤cls) (h3:cls≤3):∃ k:Nat,cls=(k:Int)∧k < 4∧(#[Value.nilFunc,.func (.func 179) #[] #[],.func (.func 180) #[] #[],.func (.func 179) #[] #[]]:Array Value)[k]?=some (.func (.func (cfn cls)) #[] #[]):=by
 have:cls=1∨cls=2∨cls=3:=by omega
 rcases this with rfl | rfl | rfl
 ·exact⟨1,rfl,by decide,rfl⟩
 ·exact⟨2,rfl,by decide,rfl⟩
 ·exact⟨3,rfl,by decide,rfl⟩
theorem Good.erase {cls cap:Int} {L:List ByteArray} {p:Nat} (h:Good cls cap L):Good cls cap (L.eraseIdx p):=
 ⟨h.c1,h.c3,h.k1,h.k64,by have:=h.len;have:=List.length_eraseIdx_le L p;omega,fun x hx=>h.sz x (List.mem_of_mem_eraseIdx hx)⟩
theorem take_end {w wc w1 w2:World} {cb:Nat} {cls cap:Int} {L L':List ByteArray} {sv v' v2:Value} (h0:w.heap[cb]?=some (.cells #[.int .i64 cls,.int .i64 cap,sv] 233 (0,0))) (hg':Good cls cap L')
  (hf:Frm [] w wc) (hr:Fresh wc L v' w1) (hst:Strs w2 v2 L') (ho:v2.ownBlock=v'.ownBlock) (h2:Frm v'.ownBlock.toList w1 w2) (hca:w2.heap[cb]?=some (.cells #[.int .i64 cls,.int .i64 cap,sv] 233 (0,0))) :
  ChnTo w cb cls cap L' (cb :: sv.ownBlock.toList) (w2.setCell ⟨cb,2,none⟩ v2):=by
 have hlt:=lt_of_block h0
 have hs:=hf.size
 have hn:∀ k,v'.ownBlock=some k→w.heap.size≤k:=fun k hk=>by have:=hr.2.2 k hk;omega
 refine⟨cb :: v2.ownBlock.toList,⟨v2,(block_setCell hca 2 v2).trans rfl,ownsRow_setCell_other hst (fun e=>?_) v2,hg',rfl⟩,?_,fun x hx=>?_⟩
 ·rw[ho] at e;have h5:w.heap.size≤cb:=hn _ e;omega
 ·refine Frm.setCell ?_ _ (.inl (by simp)) _
  exact((hf.trans hr.2.1).mono (F':=cb :: sv.ownBlock.toList) (by simp)).then h2 (fun x hx=>.inr (hn x (by simpa using hx)))
 ·simp only[List.mem_cons,Option.mem_toList] at hx ⊢
  rcases hx with rfl | hx
  ·exact .inl (.inl rfl)
  ·rw[ho] at hx;exact .inr (hn x hx)
theorem cls_cases {cls:Int} (h1:1≤cls) (h3:cls≤3):cls=1∨cls=2∨cls=3:=by omega
set_option maxHeartbeats 4000000 in
set_option maxRecDepth 100000 in
theorem take_in (cb:Nat) (cls cap:Int) (L:List ByteArray) (F:List Nat) (p:Nat) (w:World) (h:Chn w cb cls cap L F) (hp:p < L.length) :
  Calls Tryz.prog 68 #[.pointer (some ⟨cb,0,none⟩),.int .i64 p] w (Ret (.tuple #[.string (takeM cls L p),.int .i64 (takeE cls L p)]) (ChnTo w cb cls cap (takeL cls L p) F)):=by
 have CN:=Lib.hid (none_any cb cls cap L F w h)
 have HG:=Lib.hid h.good
 have HT:=Lib.hid h.to
 have hg:=h.good.lenN
 obtain⟨sv,e1,e2,-,rfl⟩:=h
 have c0:=cell_of e1 0
 have c2:=cell_of e1 2
 obtain⟨ao,c,rfl,-,hcs⟩:=e2.shape
 obtain⟨g,rfl,cx⟩:=hcs p _ (List.getElem?_eq_getElem hp)
 have HE1:=Lib.hid e1;have HE2:=Lib.hid e2
 have hp0:decide ((p:Int) < 0)=false:=by simp
 have hp1:decide (L.length≤p)=false:=by simp;omega
 obtain⟨r,hc⟩:∃ r,chc cls L p=r:=⟨_,rfl⟩
 have HCH:Hid (∀ w',Frm [] w w'→Calls Tryz.prog (cfn cls) #[.slice (some ⟨g,0,none⟩) L.length c,.int .i64 p] w' (Ret (.bool r) (w'=·))):=Lib.hid fun w' hf=>by
  have:=chc_any cls _ L p w' (HE2.out.frm hf (by simp)) (by omega) hp
  rwa [hc] at this
 have HC0:=Lib.hid hc
 have c0':w.cell? ⟨cb,0,none⟩=some (.int .i64 cls):=c0
 have c2':w.cell? ⟨cb,2,none⟩=some (.slice (some ⟨g,0,none⟩) L.length c):=c2
 have HCA:Hid (∀ w',Frm [] w w'→w'.cell? ⟨cb,0,none⟩=some (.int .i64 cls)∧w'.cell? ⟨cb,2,none⟩=some (.slice (some ⟨g,0,none⟩) L.length c)):=Lib.hid fun w' hf=>⟨hf.keep c0',hf.keep c2'⟩
 clear e1 e2 hcs c0 c2 hc
 go_enter Tryz.func68,Tryz.ntmps68
 go_wp2_with (first
  | (go_at_call 128;go_must (refine CN.out.mono ?_;rintro e w' ⟨rfl,rfl⟩)))
 go_cut [35] (fun s35 w'=>s35=.bool (!r)∧Frm [] w w')
 case first =>
  rcases cls_cases HG.out.c1 HG.out.c3 with e | e | e
  all_goals
   rw[e] at HCA HCH
   clear e c0' c2'
   refine heldG_start (by kernel_rfl) ?_
   refine cnt 0 ?_
   iterate 12
    refine tcG ?_ ?_ ?_
    rotate_left
    ·intro w' hC
     obtain⟨e0,e2⟩:=HCA.out w' ((Frm.refl [] w).drew.trans hC)
     clear hC
     go_simp
     try rfl
    try simp only[nrm,Nat.reduceAdd]
   refine tcn ?_
   refine cnt 13 ?_
   iterate 4
    refine tcG ?_ ?_ ?_
    rotate_left
    ·intro w' hC
     obtain⟨e0,e2⟩:=HCA.out w' ((Frm.refl [] w).drew.trans hC)
     clear hC
     go_simp
     try rfl
    try simp only[nrm,Nat.reduceAdd]
   refine tcn ?_
   refine cnt 19 ?_
   iterate 5
    refine tcG ?_ ?_ ?_
    rotate_left
    ·intro w' hC
     obtain⟨e0,e2⟩:=HCA.out w' ((Frm.refl [] w).drew.trans hC)
     clear hC
     go_simp
     try rfl
    try simp only[nrm,Nat.reduceAdd]
   refine tcn ?_
   refine stG 12 (fun K' hK'=>?_)
   go_simp
   (refine(choices_any w.drew).mono ?_;rintro e w1 ⟨rfl,rfl⟩)
   refine hK'.out _ _ ((Frm.refl [] w.drew).alloc tabO) ?_
   clear hK' K'
   try simp only[nrm]
   have c1:(w.drew.alloc tabO).cell? ⟨w.heap.size,1,none⟩=some (.func (.func 179) #[] #[]):=cell_of (heap_alloc_new w.drew _) 1
   have c2:(w.drew.alloc tabO).cell? ⟨w.heap.size,2,none⟩=some (.func (.func 180) #[] #[]):=cell_of (heap_alloc_new w.drew _) 2
   have c3:(w.drew.alloc tabO).cell? ⟨w.heap.size,3,none⟩=some (.func (.func 179) #[] #[]):=cell_of (heap_alloc_new w.drew _) 3
   have HWT:Frm [] w (w.drew.alloc tabO):=(Frm.refl [] w).drew.alloc _
   generalize w.drew.alloc tabO=wz at c1 c2 c3 HWT ⊢
   refine tkG 17 ?_ ?_ ?_
   rotate_left
   ·intro w' hC
    have d1:=hC.keep c1
    have d2:=hC.keep c2
    have d3:=hC.keep c3
    clear hC
    go_simp
    try rfl
   try simp only[nrm]
   refine stG 18 (fun K' hK'=>?_)
   go_simp
   (skip)
   refine hK'.out _ _ (Frm.refl [] _) ?_
   clear hK' K'
   try simp only[nrm]
   refine stG 24 (fun K' hK'=>?_)
   go_simp
   (refine(HCH.out _ HWT).mono ?_;rintro e w2 ⟨rfl,rfl⟩)
   refine hK'.out _ _ (Frm.refl [] _) ?_
   clear hK' K'
   try simp only[nrm]
   refine cnt 25 ?_
   iterate 2
    refine tcG ?_ ?_ ?_
    rotate_left
    ·intro w' hC
     clear hC
     go_simp
     try rfl
    try simp only[nrm,Nat.reduceAdd]
   refine tcn ?_
   refine wpAnyH_done (by kernel_rfl) ?_ _
   go_wp2
   go_meet
   exact⟨rfl,HWT⟩
 case rest =>
  obtain⟨rfl,hf⟩:=hcut
  cases r with
  | false =>
    have ho:takeOk cls L (p:Int)=false:=by unfold takeOk;simp[HC0.out]
    have HF:=Lib.hid hf
    have HO:=Lib.hid ho
    clear hf HCH c0' c2' cx ho
    go_wp2
    go_ret2
    simp only[takeM,takeE,takeL,HO.out,Bool.false_eq_true,if_false]
    exact⟨rfl,HT.out.frm HF.out⟩
  | true =>
    have ho:takeOk cls L (p:Int)=true:=by unfold takeOk;simp[HC0.out,hp]
    have HO:=Lib.hid ho
    clear ho
    have HF:=Lib.hid hf
    have d2:=hf.keep c2'
    have dx:=hf.keep cx
    have HE2':=Lib.hid (HE2.out.frm hf (by simp))
    clear hf HCH c0' c2' cx
    have fcb:=HF.out.at HE1.out (by simp)
    have HCB:=Lib.hid fcb
    clear fcb
    go_wp2_with (first
     | (go_at_call 133;go_must (refine(clone_any _ L wc HE2'.out (by omega)).mono ?_;rintro e w1 ⟨v',rfl,hr⟩;have HR:=Lib.hid hr;clear hr))
     | (go_at_call 132;go_must (refine(delete_any v' L p w1 HR.out.1 hp (by omega)).mono ?_;rintro e w2 ⟨v2,rfl,hr⟩;have hst:=hr.1;obtain⟨ao',c',hv,-,-⟩:=hst.shape;rw[List.length_eraseIdx_of_lt hp] at hv;subst hv;have HD:=Lib.hid hr;have hca:=hr.2.2.at (HR.out.2.1.at HCB.out (by simp)) (fun hx=>by have:=HR.out.2.2 _ (by simpa using hx);have:=lt_of_block HCB.out;omega);have HCA:=Lib.hid hca;have k2:=cell_of hca 2;have kf:=free_of hca 2;clear hst hr hca)))
    go_ret2
    simp only[takeM,takeE,takeL,HO.out,if_true,Int.toNat_natCast]
    refine⟨?_,take_end HE1.out HG.out.erase HF.out HR.out HD.out.1 HD.out.2.1 HD.out.2.2 HCA.out⟩
    rw[List.getD_eq_getElem?_getD,List.getElem?_eq_getElem hp];rfl
set_option maxHeartbeats 4000000 in
set_option maxRecDepth 100000 in
theorem take_out (cb:Nat) (cls cap:Int) (L:List ByteArray) (F:List Nat) (p:Int) (w:World) (h:Chn w cb cls cap L F) (hp:p < 0∨(L.length:Int)≤p) :
  Calls Tryz.prog 68 #[.pointer (some ⟨cb,0,none⟩),.int .i64 p] w (Ret (.tuple #[.string { data:=#[] },.int .i64 9]) (Frm [] w)):=by
 have CN:=Lib.hid (none_any cb cls cap L F w h)
 obtain⟨sv,e1,e2,-,rfl⟩:=h
 have c2:=cell_of e1 2
 obtain⟨ao,c,rfl,-,hcs⟩:=e2.shape
 have c2':w.cell? ⟨cb,2,none⟩=some (.slice ao L.length c):=c2
 clear e1 e2 hcs c2
 by_cases hp0:p < 0
 ·have hq:decide (p < 0)=true:=by simpa using hp0
  clear hp hp0
  go_enter Tryz.func68,Tryz.ntmps68
  go_wp2_with (first
   | (go_at_call 128;go_must (refine CN.out.mono ?_;rintro e w' ⟨rfl,rfl⟩)))
  go_quiet (fail)
  go_wp2
  go_ret2
  exact⟨rfl,(Frm.refl [] w).drewN _⟩
 ·obtain⟨p,rfl⟩:=Int.eq_ofNat_of_zero_le (by omega:(0:Int)≤p)
  have hq:decide ((p:Int) < 0)=false:=by simp
  have hp1:decide (L.length≤p)=true:=by simp;omega
  clear hp hp0
  go_enter Tryz.func68,Tryz.ntmps68
  go_wp2_with (first
   | (go_at_call 128;go_must (refine CN.out.mono ?_;rintro e w' ⟨rfl,rfl⟩)))
  go_quiet (fail)
  go_wp2
  go_ret2
  exact⟨rfl,(Frm.refl [] w).drewN _⟩
theorem take_any (cb:Nat) (cls cap:Int) (L:List ByteArray) (F:List Nat) (p:Int) (w:World) (h:Chn w cb cls cap L F) :
  Calls Tryz.prog 68 #[.pointer (some ⟨cb,0,none⟩),.int .i64 p] w (Ret (.tuple #[.string (takeM cls L p),.int .i64 (takeE cls L p)]) (ChnTo w cb cls cap (takeL cls L p) F)):=by
 by_cases hr:p < 0∨(L.length:Int)≤p
 ·have ho:takeOk cls L p=false:=by unfold takeOk;rw[decide_eq_false (by omega)];rfl
  simp only[takeM,takeE,takeL,ho,Bool.false_eq_true,if_false]
  exact(take_out cb cls cap L F p w h hr).mono fun e w' ⟨he,hf⟩=>⟨he,h.to.frm hf⟩
 ·obtain⟨p,rfl⟩:=Int.eq_ofNat_of_zero_le (by omega:(0:Int)≤p)
  exact take_in cb cls cap L F p w h (by omega)
set_option maxHeartbeats 4000000 in
theorem lose_any (cb:Nat) (cls cap:Int) (L:List ByteArray) (F:List Nat) (w:World) (h:Chn w cb cls cap L F) :
  Calls Tryz.prog 65 #[.pointer (some ⟨cb,0,none⟩)] w (Ret (.tuple #[.string (loseM cls L),.int .i64 (loseE cls L)]) (ChnTo w cb cls cap (loseL cls L) F)):=by
 have CN:=Lib.hid (none_any cb cls cap L F w h)
 have HT:=Lib.hid h.to
 have CT:=Lib.hid (take_any cb cls cap L F 0 w h)
 obtain⟨sv,e1,-,-,-⟩:=h
 have c0:w.cell? ⟨cb,0,none⟩=some (.int .i64 cls):=cell_of e1 0
 clear e1
 by_cases h3:cls=3
 ·subst h3
  simp only[loseM,loseE,loseL,if_true]
  go_enter Tryz.func65,Tryz.ntmps65
  go_wp2_with (first
   | (go_at_call 128;go_must (refine CN.out.mono ?_;rintro e w' ⟨rfl,rfl⟩))
   | (go_at_call 68;go_must (refine CT.out.mono ?_;rintro e w' ⟨rfl,hr⟩;have HR:=Lib.hid hr;clear hr)))
  go_ret2
  exact⟨rfl,HR.out⟩
 ·simp only[loseM,loseE,loseL,if_neg h3]
  have hne:(cls == 3)=false:=by simpa using h3
  go_enter Tryz.func65,Tryz.ntmps65
  go_wp2_with (first
   | (go_at_call 128;go_must (refine CN.out.mono ?_;rintro e w' ⟨rfl,rfl⟩)))
  go_ret2
  exact⟨rfl,HT.out⟩
end Go.Proofs.YtohfkhjlnlahdaaGreat
