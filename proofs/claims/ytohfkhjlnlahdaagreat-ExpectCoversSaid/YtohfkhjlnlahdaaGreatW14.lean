/- Part of the proof. -/
import Derived.Test.YtohfkhjlnlahdaaGreatW11
import Derived.Test.YtohfkhjlnlahdaaGreatW13
import Derived.Test.YtohfkhjlnlahdaaGreatW12
set_option linter.all false
namespace Go.Proofs.YtohfkhjlnlahdaaGreat
open Go.RowKit Go.BigFrame
theorem emp_yes {b:ByteArray} (h:b=emptyS):b.toList.isEmpty=true:=by
 have:=str_beq b { data:=#[] }
 rw[decide_eq_true (show b={ data:=#[] } from h)] at this
 simpa using this
theorem emp_no {b:ByteArray} (h:b≠emptyS):b.toList.isEmpty=false:=by
 have:=str_beq b { data:=#[] }
 rw[decide_eq_false (show ¬ b={ data:=#[] } from h)] at this
 simpa using this
def okB (l:List (CtrD × Int)) (t:StpD):Bool:=
 if t.ctr=emptyS then true else match l[(cnIx l t.ctr).toNat]? with | none=>false | some c=>allowsV c.1.lim t c.2
def doC (l:List (CtrD × Int)) (t:StpD):List (CtrD × Int):=
 if t.ctr=emptyS then l else match l[(cnIx l t.ctr).toNat]? with | none=>l | some c=>l.set (cnIx l t.ctr).toNat (c.1,c.2 + t.add)
def CnOk (l:List (CtrD × Int)):Prop:=l.length≤4∧∀ c∈l,1≤c.1.lim∧c.1.lim≤1000∧0≤c.2∧c.2≤c.1.lim
set_option maxHeartbeats 2000000 in
set_option maxRecDepth 100000 in
theorem bAllowed_none (bb:Nat) (l:List (CtrD × Int)) (t:StpD) (w:World) (h:Bnk w bb l) (he:t.ctr=emptyS) :
  Calls Tryz.prog 136 #[.pointer (some ⟨bb,0,none⟩),stpV t] w (Ret (.tuple #[.bool true,.int .i64 0]) (Frm [] w)):=by
 have CN:Hid (∀ V,Frm [] w V→Calls Tryz.prog 134 #[.pointer (some ⟨bb,0,none⟩)] V (Ret (.bool false) (V=·))):=Lib.hid fun V hV=>bNone_any bb l V (h.frm hV)
 have hq:t.ctr.toList.isEmpty=true:=emp_yes he
 have hlt:bb < w.heap.size:=by obtain⟨lv,h1,-⟩:=h;exact lt_of_block h1
 clear h he
 go_enter Tryz.func136,Tryz.ntmps136
 go_wp2_with (first
  | (go_at_call 134;go_must (refine(CN.out _ ((Frm.refl [] w).alloc _)).mono ?_;rintro e w' ⟨rfl,rfl⟩)))
 go_ret2
 exact⟨rfl,(Frm.refl [] w).alloc _⟩
set_option maxHeartbeats 2000000 in
set_option maxRecDepth 100000 in
theorem bAllowed_at (bb:Nat) (l:List (CtrD × Int)) (t:StpD) (k:Nat) (x:CtrD × Int) (w:World) (h:Bnk w bb l) (hok:CnOk l) (hne:t.ctr≠emptyS) (hk:cnIx l t.ctr=k) (hx:l[k]?=some x) :
  Calls Tryz.prog 136 #[.pointer (some ⟨bb,0,none⟩),stpV t] w (Ret (.tuple #[.bool (allowsV x.1.lim t x.2),.int .i64 0]) (Frm [] w)):=by
 have CN:Hid (∀ V,Frm [] w V→Calls Tryz.prog 134 #[.pointer (some ⟨bb,0,none⟩)] V (Ret (.bool false) (V=·))):=Lib.hid fun V hV=>bNone_any bb l V (h.frm hV)
 have CG:Hid (∀ V,Frm [] w V→Calls Tryz.prog 182 #[.pointer (some ⟨bb,0,none⟩),.string t.ctr] V (Ret (.tuple #[.int .i64 x.2,.int .i64 0]) (Frm [] V))):=Lib.hid fun V hV=>bGet_ok bb l t.ctr k x V (h.frm hV) (by have:=hok.1;omega) hk hx
 have CF:Hid (∀ V,Frm [] w V→Calls Tryz.prog 137 #[.pointer (some ⟨bb,0,none⟩),.string t.ctr] V (Ret (.int .i64 (k:Int)) (Frm [] V))):=Lib.hid fun V hV=>by rw[← hk];exact bFind_any bb l t.ctr V (h.frm hV) (by have:=hok.1;omega)
 have hb:=hok.2 x (List.mem_of_getElem? hx)
 have CA:=Lib.hid (fun V=>bAllows_any x.1.lim x.2 t V (by omega) (by omega))
 have hq:t.ctr.toList.isEmpty=false:=emp_no hne
 obtain⟨lv,h1,h2⟩:=h
 obtain⟨b,o,cap,rfl,g0,g1,g2⟩:=h2.at hx
 have hlt:bb < w.heap.size:=lt_of_block h1
 have hlt2:=cell_lt g0
 have hkl:(k:Int) < (l.length:Int):=by have:=lt_of_some hx;omega
 obtain⟨m,hm⟩:∃ m,l.length=m:=⟨_,rfl⟩
 obtain⟨r,hr⟩:∃ r,allowsV x.1.lim t x.2=r:=⟨_,rfl⟩
 rw[hr] at CA ⊢
 rw[hm] at h1 hkl
 have HC:Hid (∀ W,Frm [] w W→W.cell? ⟨bb,1,none⟩=some (.slice (some ⟨b,o,none⟩) m cap)∧W.cell? ⟨b,o + k * 3 + 1,none⟩=some (.int .i64 x.1.lim)):=Lib.hid fun W hf=>⟨hf.keep (cell_of h1 1),hf.keep g1⟩
 have HT:Hid (∀ W,Frm [] (w.alloc (.cells #[.string t.frm,.string t.to,.int .i64 t.kind,.string t.msg,.string t.peer,.string t.ctr,.int .i64 t.low,.int .i64 t.high,.int .i64 t.add] 137)) W→W.heap[w.heap.size]?=some (.cells #[.string t.frm,.string t.to,.int .i64 t.kind,.string t.msg,.string t.peer,.string t.ctr,.int .i64 t.low,.int .i64 t.high,.int .i64 t.add] 137 (0,0))):=Lib.hid fun W hf=>hf.at (heap_alloc_new w _) (by simp)
 have HF0:Hid (Frm [] w (w.alloc (.cells #[.string t.frm,.string t.to,.int .i64 t.kind,.string t.msg,.string t.peer,.string t.ctr,.int .i64 t.low,.int .i64 t.high,.int .i64 t.add] 137))):=Lib.hid ((Frm.refl [] w).alloc _)
 have HA:Hid (∀ W,Frm [] (w.alloc (.cells #[.string t.frm,.string t.to,.int .i64 t.kind,.string t.msg,.string t.peer,.string t.ctr,.int .i64 t.low,.int .i64 t.high,.int .i64 t.add] 137)) W→W.cell? ⟨w.heap.size,5,none⟩=some (.string t.ctr)):=Lib.hid fun W hf=>cell_of (HT.out W hf) 5
 clear h1 h2 g0 g1 g2 hk hx hm hr hok hne hb
 go_enter Tryz.func136,Tryz.ntmps136
 go_upto_region 8 with (first
  | (go_at_call 134;go_must (refine(CN.out _ HF0.out).mono ?_;rintro e w' ⟨rfl,rfl⟩))
  | (go_at_call 182;go_must (refine(CG.out _ HF0.out).mono ?_;rintro e w1 ⟨rfl,hf1⟩;have HF1:=Lib.hid hf1;clear hf1)))
 have HG:Hid (Frm [] w w1):=Lib.hid (HF0.out.trans HF1.out)
 have HT1:=Lib.hid (HT.out _ HF1.out)
 refine wp_region_cq (by kernel_rfl) (by kernel_rfl) ?_
 repeat (first
  | go_big_quiet_skip
  | (refine wpQuiet_want (by rfl) (fun K hK=>?_)
     first
      | (refine quiet_move _ (by rfl) (hK _ ?_))
      | (refine quiet_assign _ (by rfl) (hK _ ?_))
      | (refine cq_call (.int .i64 (k:Int)) 137 #[.pointer (some ⟨bb,0,none⟩),.string t.ctr] (fun w' hC=>?_) (fun w' hC=>Ret.cq (CF.out w' (HG.out.trans hC)) (fun w'' h=>hC.trans h)) (hK _ ?_)
         ·go_simp)
      | (refine cq_call (.bool r) 183 #[.int .i64 x.1.lim,stpV t,.int .i64 x.2] (fun w' hC=>?_) (fun w' hC=>Ret.cq (CA.out w') (fun w'' h=>hC.trans h)) (hK _ ?_)
         ·go_simp)
      | (refine cq_row 137 _ rfl w.heap.size rfl #[.string t.frm,.string t.to,.int .i64 t.kind,.string t.msg,.string t.peer,.string t.ctr,.int .i64 t.low,.int .i64 t.high,.int .i64 t.add] 137 HT1.out _ Tryz.underlying137 rfl (by kernel_rfl) (hK _ ?_))
      | (apply Exists.intro
         refine⟨fun w' hC=>?_,hK _ ?_⟩
         ·(unfold Oper.quietAt
           obtain⟨d1,d2⟩:=HC.out w' (HG.out.trans hC);have d3:=HA.out w' (HF1.out.trans hC)
           clear hC
           go_simp
           try exact⟨rfl,rfl⟩
           try rfl))
     clear hK K
     try simp only[nrm,Act.eval,nrq]))
 refine wpQuiet_nil ?_
 intro w2 hf2
 go_wp2
 go_ret2
 exact⟨rfl,HG.out.trans hf2⟩
structure BnkO (w:World) (bb g:Nat) (l:List (CtrD × Int)):Prop where
 bnk:Bnk w bb l
 row:l=[]∨∃ cap cur,w.heap[bb]?=some (.cells #[.bool true,.slice (some ⟨g,0,none⟩) l.length cap] 248 (0,0))∧w.heap[g]?=some (.cells cur 246 (0,0))
theorem BnkO.frm {w w':World} {bb g:Nat} {l:List (CtrD × Int)} {F:List Nat} (h:BnkO w bb g l) (hf:Frm F w w') (h1:bb∉F) (h2:g∉F):BnkO w' bb g l:=by
 obtain⟨⟨lv,k1,k2⟩,h3⟩:=h
 rcases h3 with rfl | ⟨cap,cur,k3,k4⟩
 ·obtain⟨ao,c,rfl,-⟩:=k2
  exact⟨⟨_,hf.at k1 h1,Arr.nil _ _ _⟩,.inl rfl⟩
 ·rw[k1] at k3
  cases k3
  refine⟨⟨_,hf.at k1 h1,?_⟩,.inr ⟨cap,cur,hf.at k1 h1,hf.at k4 h2⟩⟩
  obtain⟨ao,c,e,hx⟩:=k2
  refine⟨ao,c,e,fun i x hi=>?_⟩
  obtain⟨b,o,e2,a0,a1,a2⟩:=hx i x hi
  rw[e2] at e
  cases e
  exact⟨g,0,e2,hf.cellAt a0 h2,hf.cellAt a1 h2,hf.cellAt a2 h2⟩
theorem own_block {w:World} {base e size n:Nat} {v:Value} {xs:List Value} (h:w.ownsRow base e size v n xs) (hn:n≠0):∃ g cap cur,v=.slice (some ⟨g,0,none⟩) n cap∧base≤g∧w.heap[g]?=some (.cells cur e (0,0)):=by
 obtain⟨-,h2⟩:=h
 rcases h2 with ⟨-,h2⟩ | ⟨g,cap,cur,rfl,hg,hb,-⟩
 ·exact absurd h2 hn
 ·exact⟨g,cap,cur,rfl,hg,hb⟩
set_option maxHeartbeats 2000000 in
set_option maxRecDepth 100000 in
theorem bCopy_any (bb:Nat) (l:List (CtrD × Int)) (w:World) (h:Bnk w bb l) (hl:l.length≤1000) :
  Calls Tryz.prog 69 #[.pointer (some ⟨bb,0,none⟩)] w (RetV fun v w'=>∃ b' g,v=.pointer (some ⟨b',0,none⟩)∧BnkO w' b' g l∧Frm [] w w'∧w.heap.size≤b'∧w.heap.size≤g):=by
 have CN:=Lib.hid (bNone_any bb l w h)
 obtain⟨lv,h1,h2⟩:=h
 have CC:=Lib.hid (clCnt_any lv l w h2 (by omega))
 have c1:=cell_of h1 1
 clear h1 h2 hl
 go_enter Tryz.func69,Tryz.ntmps69
 go_wp2_with (first
  | (go_at_call 134;go_must (refine CN.out.mono ?_;rintro e w' ⟨rfl,rfl⟩))
  | (go_at_call 135;go_must (refine CC.out.mono ?_;rintro e w1 ⟨v,rfl,hr⟩;obtain⟨ao,cq,rfl⟩:=hr.arr.shape;have HR:=Lib.hid hr;clear hr)))
 go_ret
 have hr:=HR.out
 have hb:=heap_alloc_new w1 (.cells #[.bool true,.slice ao l.length cq] 248)
 have hs:=hr.frm.size
 have ha:Arr 3 CnAt (w1.alloc (.cells #[.bool true,.slice ao l.length cq] 248)) (.slice ao l.length cq) l:=hr.arr.frm fun _ _ _ h=>h.frm ((Frm.refl [] _).alloc _)
 rcases hr.own with rfl | ⟨news,ho⟩
 ·exact⟨_,rfl,_,w1.heap.size,rfl,⟨⟨_,hb,ha⟩,.inl rfl⟩,hr.frm.alloc _,hs,hs⟩
 ·by_cases hn:l.length=0
  ·exact⟨_,rfl,_,w1.heap.size,rfl,⟨⟨_,hb,ha⟩,.inl (List.length_eq_zero_iff.1 hn)⟩,hr.frm.alloc _,hs,hs⟩
  ·obtain⟨g,cap,cur,e,hg,hc⟩:=own_block ho hn
   cases e
   exact⟨_,rfl,_,g,rfl,⟨⟨_,hb,ha⟩,.inr ⟨_,cur,hb,alloc_at hc⟩⟩,hr.frm.alloc _,hs,hg⟩
theorem set_cn {cur:Array Value} {l:List (CtrD × Int)} (h:∀ (i:Nat) x,l[i]?=some x→cur[i * 3]?=some (.string x.1.name)∧cur[i * 3 + 1]?=some (.int .i64 x.1.lim)∧cur[i * 3 + 2]?=some (.int .i64 x.2)) {k:Nat} {x:CtrD × Int} (hk:l[k]?=some x) (v:Int) :
  ∀ (i:Nat) y,(l.set k (x.1,v))[i]?=some y→(cur.setIfInBounds (k * 3 + 2) (.int .i64 v))[i * 3]?=some (.string y.1.name)∧(cur.setIfInBounds (k * 3 + 2) (.int .i64 v))[i * 3 + 1]?=some (.int .i64 y.1.lim)∧(cur.setIfInBounds (k * 3 + 2) (.int .i64 v))[i * 3 + 2]?=some (.int .i64 y.2):=by
 intro i y hy
 rw[List.getElem?_set] at hy
 have h2:=(h k x hk)
 have hlt:k * 3 + 2 < cur.size:=(Array.getElem?_eq_some_iff.1 h2.2.2).1
 rw[Array.getElem?_setIfInBounds_ne (by omega),Array.getElem?_setIfInBounds_ne (by omega)]
 by_cases e:k=i
 ·subst e
  rw[if_pos rfl,if_pos (lt_of_some hk)] at hy
  cases hy
  exact⟨h2.1,h2.2.1,Array.getElem?_setIfInBounds_self_of_lt hlt⟩
 ·rw[if_neg e] at hy
  rw[Array.getElem?_setIfInBounds_ne (by omega)]
  exact h i y hy
theorem BnkO.set {w:World} {bb g:Nat} {l:List (CtrD × Int)} (h:BnkO w bb g l) {k:Nat} {x:CtrD × Int} (hk:l[k]?=some x) (v:Int) :
  bb≠g∧w.frozen? ⟨g,k * 3 + 2,none⟩=false∧(∃ cap,w.cell? ⟨bb,1,none⟩=some (.slice (some ⟨g,0,none⟩) l.length cap))∧CnAt w g (k * 3) x∧BnkO (w.setCell ⟨g,k * 3 + 2,none⟩ (.int .i64 v)) bb g (l.set k (x.1,v))∧Frm [g] w (w.setCell ⟨g,k * 3 + 2,none⟩ (.int .i64 v)):=by
 obtain⟨⟨lv,k1,k2⟩,h3⟩:=h
 rcases h3 with rfl | ⟨cap,cur,k3,k4⟩
 ·simp at hk
 ·rw[k1] at k3
  cases k3
  have hne:bb≠g:=fun e=>by subst e;rw[k1] at k4;cases k4
  have hf:Frm [g] w (w.setCell ⟨g,k * 3 + 2,none⟩ (.int .i64 v)):=(Frm.refl [g] w).setCell _ (.inl (by simp)) _
  have hcur:∀ (i:Nat) x,l[i]?=some x→cur[i * 3]?=some (.string x.1.name)∧cur[i * 3 + 1]?=some (.int .i64 x.1.lim)∧cur[i * 3 + 2]?=some (.int .i64 x.2):=by
   intro i x hi
   obtain⟨b,o,c,e,a0,a1,a2⟩:=k2.at hi
   cases e
   rw[cell_of k4] at a0 a1 a2
   rw[Nat.zero_add] at a0 a1 a2
   exact⟨a0,a1,a2⟩
  have hb:=block_setCell k4 (k * 3 + 2) (.int .i64 v)
  have hcx:=hcur k x hk
  have hb1:=hf.at k1 (by simpa using hne)
  refine⟨hne,free_of k4 _,⟨cap,cell_of k1 1⟩,⟨?_,?_,?_⟩,⟨⟨_,hb1,⟨_,cap,by rw[List.length_set],fun i y hy=>⟨g,0,rfl,?_⟩⟩⟩,.inr ⟨cap,_,by rw[List.length_set];exact hb1,hb⟩⟩,hf⟩
  ·rw[cell_of k4];exact hcx.1
  ·rw[cell_of k4];exact hcx.2.1
  ·rw[cell_of k4];exact hcx.2.2
  ·have:=set_cn hcur hk v i y hy
   unfold CnAt
   rw[cell_of hb,cell_of hb,cell_of hb,Nat.zero_add]
   exact this
set_option maxHeartbeats 2000000 in
set_option maxRecDepth 100000 in
theorem bApply_none (bb g:Nat) (l:List (CtrD × Int)) (t:StpD) (w:World) (h:BnkO w bb g l) (he:t.ctr=emptyS) :
  Calls Tryz.prog 70 #[.pointer (some ⟨bb,0,none⟩),stpV t] w (Ret (.int .i64 0) fun w'=>BnkO w' bb g l∧Frm [g] w w'):=by
 have hq:t.ctr.toList.isEmpty=true:=emp_yes he
 have HB:=Lib.hid h
 have HF0:Hid (Frm [] w (w.alloc (.cells #[.string t.frm,.string t.to,.int .i64 t.kind,.string t.msg,.string t.peer,.string t.ctr,.int .i64 t.low,.int .i64 t.high,.int .i64 t.add] 137))):=Lib.hid ((Frm.refl [] w).alloc _)
 have CA:=Lib.hid (bAllowed_none bb l t _ (h.bnk.frm HF0.out) he)
 have h5:Hid (∀ W,Frm [] (w.alloc (.cells #[.string t.frm,.string t.to,.int .i64 t.kind,.string t.msg,.string t.peer,.string t.ctr,.int .i64 t.low,.int .i64 t.high,.int .i64 t.add] 137)) W→W.cell? ⟨w.heap.size,5,none⟩=some (.string t.ctr)):=Lib.hid fun W hf=>hf.keep (cell_of (heap_alloc_new w _) 5)
 clear h he
 go_enter Tryz.func70,Tryz.ntmps70
 go_wp2_with (first
  | (go_at_call 136;go_must (refine CA.out.mono ?_;rintro e w1 ⟨rfl,hf1⟩;have c5:=h5.out _ hf1;have HF1:=Lib.hid (HF0.out.trans hf1);clear hf1)))
 go_ret
 exact⟨rfl,HB.out.frm HF1.out (by simp) (by simp),HF1.out.mono (by simp)⟩
set_option maxHeartbeats 2000000 in
set_option maxRecDepth 100000 in
theorem bApply_at (bb g:Nat) (l:List (CtrD × Int)) (t:StpD) (k:Nat) (x:CtrD × Int) (w:World) (h:BnkO w bb g l) (hok:CnOk l) (hne:t.ctr≠emptyS) (hk:cnIx l t.ctr=k) (hx:l[k]?=some x) (ha:allowsV x.1.lim t x.2=true) :
  Calls Tryz.prog 70 #[.pointer (some ⟨bb,0,none⟩),stpV t] w (Ret (.int .i64 0) fun w'=>BnkO w' bb g (l.set k (x.1,x.2 + t.add))∧Frm [g] w w'):=by
 have hq:t.ctr.toList.isEmpty=false:=emp_no hne
 have HB:=Lib.hid h
 have HF0:Hid (Frm [] w (w.alloc (.cells #[.string t.frm,.string t.to,.int .i64 t.kind,.string t.msg,.string t.peer,.string t.ctr,.int .i64 t.low,.int .i64 t.high,.int .i64 t.add] 137))):=Lib.hid ((Frm.refl [] w).alloc _)
 have CA:=Lib.hid (bAllowed_at bb l t k x _ (h.bnk.frm HF0.out) hok hne hk hx)
 rw[ha] at CA
 have h5:Hid (∀ W,Frm [] (w.alloc (.cells #[.string t.frm,.string t.to,.int .i64 t.kind,.string t.msg,.string t.peer,.string t.ctr,.int .i64 t.low,.int .i64 t.high,.int .i64 t.add] 137)) W→W.cell? ⟨w.heap.size,5,none⟩=some (.string t.ctr)∧W.cell? ⟨w.heap.size,8,none⟩=some (.int .i64 t.add)):=Lib.hid fun W hf=>⟨hf.keep (cell_of (heap_alloc_new w _) 5),hf.keep (cell_of (heap_alloc_new w _) 8)⟩
 have CF:Hid (∀ V,Frm [] w V→Calls Tryz.prog 137 #[.pointer (some ⟨bb,0,none⟩),.string t.ctr] V (Ret (.int .i64 (k:Int)) (Frm [] V))):=Lib.hid fun V hV=>by rw[← hk];exact bFind_any bb l t.ctr V (h.bnk.frm hV) (by have:=hok.1;omega)
 have hb:=hok.2 x (List.mem_of_getElem? hx)
 have hwr:wrap64 (x.2 + t.add)=x.2 + t.add:=by
  unfold allowsV at ha
  simp only[Bool.and_eq_true,decide_eq_true_eq] at ha
  unfold wrap64;omega
 have hkl:(k:Int) < (l.length:Int):=by have:=lt_of_some hx;omega
 have HX:=Lib.hid hx
 obtain⟨m,hm⟩:∃ m,l.length=m:=⟨_,rfl⟩
 have HM:=Lib.hid hm
 rw[hm] at hkl
 obtain⟨-,-,⟨cap,s1⟩,⟨s2,s3,s4⟩,-,-⟩:=h.set hx 0
 have HS:Hid (∀ W,Frm [] w W→W.cell? ⟨bb,1,none⟩=some (.slice (some ⟨g,0,none⟩) m cap)∧W.cell? ⟨g,k * 3 + 2,none⟩=some (.int .i64 x.2)):=Lib.hid fun W hf=>⟨by rw[← hm];exact hf.keep s1,hf.keep s4⟩
 clear h hok hne hk hx ha hb hm s1 s2 s3 s4
 go_enter Tryz.func70,Tryz.ntmps70
 go_upto_region 7 with (first
  | (go_at_call 136;go_must (refine CA.out.mono ?_;rintro e w1 ⟨rfl,hf1⟩;obtain⟨c5,c8⟩:=h5.out _ hf1;have HF1:=Lib.hid (HF0.out.trans hf1);have HF2:=Lib.hid hf1;clear hf1)))
 clear c5 c8
 refine wp_region_cqt 16 (by kernel_rfl) (by kernel_rfl) ?_
 simp only[List.take_succ_cons,List.take_zero,List.drop_succ_cons,List.drop_zero]
 repeat (first
  | go_big_quiet_skip
  | (refine wpQuiet_want (by rfl) (fun K hK=>?_)
     first
      | (refine quiet_move _ (by rfl) (hK _ ?_))
      | (refine quiet_assign _ (by rfl) (hK _ ?_))
      | (refine cq_call (.int .i64 (k:Int)) 137 #[.pointer (some ⟨bb,0,none⟩),.string t.ctr] (fun w' hC=>?_) (fun w' hC=>Ret.cq (CF.out w' (HF1.out.trans hC)) (fun w'' h=>hC.trans h)) (hK _ ?_)
         ·go_simp)
      | (apply Exists.intro
         refine⟨fun w' hC=>?_,hK _ ?_⟩
         ·(unfold Oper.quietAt
           obtain⟨d1,d2⟩:=HS.out w' (HF1.out.trans hC);obtain⟨d3,d4⟩:=h5.out w' (HF2.out.trans hC)
           clear hC
           go_simp
           try exact⟨rfl,rfl⟩
           try rfl))
     clear hK K
     try simp only[nrm,Act.eval,nrq]))
 refine wpQuiet_nil ?_
 intro w2 hf2
 obtain⟨z1,z2,-,⟨-,-,z3⟩,z4,z5⟩:=(HB.out.frm (HF1.out.trans hf2) (by simp) (by simp)).set HX.out (x.2 + t.add)
 have HZ:=Lib.hid z4;have HZ5:=Lib.hid z5
 clear z1 z4 z5
 go_wp2
 go_ret
 refine⟨rfl,?_⟩
 rw[hwr]
 exact⟨HZ.out,((HF1.out.trans hf2).mono (by simp)).trans HZ5.out⟩
def HasC (l:List (CtrD × Int)) (t:StpD):Prop:=t.ctr=emptyS∨∃ (k:Nat) (x:CtrD × Int),cnIx l t.ctr=k∧l[k]?=some x
theorem bAllowed_any (bb:Nat) (l:List (CtrD × Int)) (t:StpD) (w:World) (h:Bnk w bb l) (hok:CnOk l) (hc:HasC l t) :
  Calls Tryz.prog 136 #[.pointer (some ⟨bb,0,none⟩),stpV t] w (Ret (.tuple #[.bool (okB l t),.int .i64 0]) (Frm [] w)):=by
 by_cases he:t.ctr=emptyS
 ·unfold okB
  rw[if_pos he]
  exact bAllowed_none bb l t w h he
 ·rcases hc with hc | ⟨k,x,hk,hx⟩
  ·exact absurd hc he
  ·unfold okB
   rw[if_neg he,hk,Int.toNat_natCast,hx]
   exact bAllowed_at bb l t k x w h hok he hk hx
structure ApTo (w:World) (bb g:Nat) (l:List (CtrD × Int)) (w':World):Prop where
 bnk:BnkO w' bb g l
 frm:Frm [g] w w'
theorem bApply_any (bb g:Nat) (l:List (CtrD × Int)) (t:StpD) (w:World) (h:BnkO w bb g l) (hok:CnOk l) (hc:HasC l t) (ho:okB l t=true) :
  Calls Tryz.prog 70 #[.pointer (some ⟨bb,0,none⟩),stpV t] w (Ret (.int .i64 0) (ApTo w bb g (doC l t))):=by
 by_cases he:t.ctr=emptyS
 ·unfold doC
  rw[if_pos he]
  exact(bApply_none bb g l t w h he).mono fun e w' ⟨h1,h2,h3⟩=>⟨h1,h2,h3⟩
 ·rcases hc with hc | ⟨k,x,hk,hx⟩
  ·exact absurd hc he
  ·unfold okB at ho
   unfold doC
   rw[if_neg he,hk,Int.toNat_natCast,hx] at ho ⊢
   exact(bApply_at bb g l t k x w h hok he hk hx ho).mono fun e w' ⟨h1,h2,h3⟩=>⟨h1,h2,h3⟩
structure CpTo (w:World) (l:List (CtrD × Int)) (b g:Nat) (w':World):Prop where
 bnk:BnkO w' b g l
 frm:Frm [] w w'
 b:w.heap.size≤b
 g:w.heap.size≤g
theorem bCopy_to (bb:Nat) (l:List (CtrD × Int)) (w:World) (h:Bnk w bb l) (hl:l.length≤1000):Calls Tryz.prog 69 #[.pointer (some ⟨bb,0,none⟩)] w (RetV fun v w'=>∃ b g,v=.pointer (some ⟨b,0,none⟩)∧CpTo w l b g w'):=
 (bCopy_any bb l w h hl).mono fun e w' ⟨v,h1,b,g,h2,h3,h4,h5,h6⟩=>⟨v,h1,b,g,h2,h3,h4,h5,h6⟩
section
variable {s:SesD} {x:PS}
theorem zip_at {cs:List CtrD} {vs:List Int} (hl:vs.length=cs.length) {k:Nat} {c:CtrD} (hc:cs[k]?=some c):(cs.zip vs)[k]?=some (c,vs.getD k 0):=by
 rw[List.getElem?_zip_eq_some]
 exact⟨hc,some_getD (by rw[hl];exact lt_of_some hc)⟩
theorem cnIx_zip {cs:List CtrD} {vs:List Int} (hl:vs.length=cs.length) (n:ByteArray):cnIx (cs.zip vs) n=ctrIx cs n:=by
 unfold cnIx ctrIx
 induction cs generalizing vs with
 | nil=>rfl
 | cons c cs ih =>
   cases vs with
   | nil=>simp at hl
   | cons v vs =>
     rw[List.zip_cons_cons]
     unfold ixf
     rw[ih (by simpa using hl)]
theorem ctr_len (hx:PSok s x) {i:Nat} (hi:i < s.roles.length):(x.ctr s i).length=(s.rol i).ctrs.length:=by
 unfold PS.ctr
 rw[List.length_zip,(hx.vb i hi).1,Nat.min_self]
theorem ctr_ok (hs:SesOk s) (hx:PSok s x) {i:Nat} (hi:i < s.roles.length):CnOk (x.ctr s i):=by
 refine⟨by rw[ctr_len hx hi];exact(hs.at hi).c4,?_⟩
 rintro⟨c,v⟩ hm
 obtain⟨k,hk⟩:=List.getElem?_of_mem hm
 unfold PS.ctr at hk
 rw[List.getElem?_zip_eq_some] at hk
 have h1:=(hs.at hi).cN c (List.mem_of_getElem? hk.1)
 have h2:=(hx.vb i hi).2 k c hk.1
 rw[getD_some hk.2] at h2
 exact⟨h1.2.1,h1.2.2,h2.1,h2.2⟩
theorem ctr_has (hs:SesOk s) (hx:PSok s x) {i k:Nat} (hi:i < s.roles.length) (hk:k < (s.rol i).steps.length):HasC (x.ctr s i) ((s.rol i).stp k):=by
 by_cases he:((s.rol i).stp k).ctr=emptyS
 ·exact .inl he
 ·obtain⟨j,c,h1,h2,-⟩:=(hs.stp hi hk).ctr he
  refine .inr ⟨j,(c,(x.bank i).getD j 0),?_,zip_at (hx.vb i hi).1 h2⟩
  unfold PS.ctr
  rw[cnIx_zip (hx.vb i hi).1,h1]
theorem okB_bank (hs:SesOk s) (hx:PSok s x) {i k:Nat} (hi:i < s.roles.length) (hk:k < (s.rol i).steps.length):okB (x.ctr s i) ((s.rol i).stp k)=bankOk (s.rol i).ctrs (x.bank i) ((s.rol i).stp k):=by
 unfold okB bankOk
 by_cases he:((s.rol i).stp k).ctr=emptyS
 ·rw[if_pos he,if_pos he]
 ·obtain⟨j,c,h1,h2,-⟩:=(hs.stp hi hk).ctr he
  rw[if_neg he,if_neg he]
  unfold PS.ctr
  rw[cnIx_zip (hx.vb i hi).1,h1,Int.toNat_natCast,zip_at (hx.vb i hi).1 h2,getD_some h2,decide_eq_true (show (0:Int)≤(j:Int) by omega)]
  rfl
theorem doC_bank (hs:SesOk s) (hx:PSok s x) {i k:Nat} (hi:i < s.roles.length) (hk:k < (s.rol i).steps.length):doC (x.ctr s i) ((s.rol i).stp k)=(s.rol i).ctrs.zip (bankDo (s.rol i).ctrs (x.bank i) ((s.rol i).stp k)):=by
 unfold doC bankDo
 by_cases he:((s.rol i).stp k).ctr=emptyS
 ·rw[if_pos he,if_pos he];rfl
 ·obtain⟨j,c,h1,h2,-⟩:=(hs.stp hi hk).ctr he
  rw[if_neg he,if_neg he]
  unfold PS.ctr
  rw[cnIx_zip (hx.vb i hi).1,h1,Int.toNat_natCast,zip_at (hx.vb i hi).1 h2]
  apply List.ext_getElem?
  intro q
  rw[List.getElem?_set]
  by_cases e:j=q
  ·subst e
   rw[if_pos rfl,if_pos (lt_of_some (zip_at (hx.vb i hi).1 h2))]
   symm
   rw[List.getElem?_zip_eq_some]
   exact⟨h2,by rw[List.getElem?_set,if_pos rfl,if_pos (by rw[(hx.vb i hi).1];exact lt_of_some h2)]⟩
  ·rw[if_neg e]
   rw[List.zip_eq_zipWith,List.zip_eq_zipWith,List.getElem?_zipWith,List.getElem?_zipWith,List.getElem?_set_ne e]
end
end Go.Proofs.YtohfkhjlnlahdaaGreat
