/- Part of the proof. -/
import Derived.Test.YtkphhjekfimmlaaGreatH41
import Derived.Test.YtkphhjekfimmlaaGreatH34
set_option linter.all false
namespace Go.Proofs.YtkphhjekfimmlaaGreat
open Go.RowKit Go.BigFrame
def StTo (w:World) (s:SesD) (yb:Nat) (y:PS) (v:Value) (w':World):Prop:=∃ xb,v=.tuple #[.pointer (some ⟨xb,0,none⟩),.int .i64 0]∧StR w' s yb xb y∧Frm [] w w'
section
variable {w W W':World} {s:SesD} {x:PS} {yb xb ab gb rb cb f t:Nat} {F F':List Nat} {L L':List ByteArray}
theorem ChS.step (h:ChS w s x yb xb ab gb rb cb f t F L W) (hx:PSok s x) (hf:f < s.roles.length) (ht:t < s.roles.length) {i b g p:Nat} {vs:List Int} (hi:i < s.roles.length) (ob:BnkO W b g ((s.rol i).ctrs.zip vs)) (hb:b≠ab) (hg:g≠ab) {y:PS}
  (hy:y={ pos:=x.pos.set i p,vals:=x.vals.set i vs,ways:=setWay x.ways f t L }) (ho:PSok s y) :
  StR ((W.setCell ⟨ab,i * 2,none⟩ (.int .i64 (p:Int))).setCell ⟨ab,i * 2 + 1,none⟩ (.pointer (some ⟨b,0,none⟩))) s yb xb y∧Frm [] w ((W.setCell ⟨ab,i * 2,none⟩ (.int .i64 (p:Int))).setCell ⟨ab,i * 2 + 1,none⟩ (.pointer (some ⟨b,0,none⟩))):=by
 obtain⟨cg,ca,h1,-⟩:=h.ways hx hf ht
 obtain⟨cur,ha⟩:=h.ha
 have hS:Frm [ab] W ((W.setCell ⟨ab,i * 2,none⟩ (.int .i64 (p:Int))).setCell ⟨ab,i * 2 + 1,none⟩ (.pointer (some ⟨b,0,none⟩))):=((Frm.refl [ab] W).setCell _ (.inl (by simp)) _).setCell _ (.inl (by simp)) _
 have hb2:=block_setCell (block_setCell ha (i * 2) (.int .i64 (p:Int))) (i * 2 + 1) (.pointer (some ⟨b,0,none⟩))
 obtain⟨W2,hW2⟩:∃ W2,(W.setCell ⟨ab,i * 2,none⟩ (.int .i64 (p:Int))).setCell ⟨ab,i * 2 + 1,none⟩ (.pointer (some ⟨b,0,none⟩))=W2:=⟨_,rfl⟩
 rw[hW2] at hS hb2 ⊢
 have nx:xb∉[ab]:=fun e=>by simp at e;subst e;rw[h1] at ha;cases ha
 obtain⟨⟨c1,f1,t1⟩,c2,f2,t2⟩:=h.types
 have ng:gb∉[ab]:=fun e=>by simp at e;subst e;rw[t1] at ha;cases ha
 have nr:rb∉[ab]:=fun e=>by simp at e;subst e;rw[t2] at ha;cases ha
 have nF:∀ k∈F,k∉[ab]:=fun k hk e=>by
  obtain⟨c,e',a1,a2⟩:=h.chn.types hk
  simp at e;subst e
  rw[ha] at a1;cases a1
  revert a2;decide
 have hfw:Frm [] w W2:=h.fr.then hS (by intro k hk;simp at hk;subst hk;exact .inr h.new.2.1)
 obtain⟨cr,hr⟩:=h.rowf
 have h':ChS w s x yb xb ab gb rb cb f t F L W→True:=fun _=>trivial
 have hsz:i * 2 + 1 < cur.size:=by
  obtain⟨bb,a1,a2,-⟩:=h.act i hi
  rw[cell_of ha] at a2
  exact(Array.getElem?_eq_some_iff.1 a2).1
 subst hy
 refine⟨⟨⟨_,_,hS.at h1 nx,⟨some ⟨ab,0,none⟩,ca,by rw[actsP_len],fun j a hj=>⟨ab,0,rfl,?_⟩⟩,some ⟨gb,0,none⟩,cg,by rw[setWay_length,hx.wl],fun j R hR=>⟨gb,0,rfl,?_⟩⟩,ho⟩,hfw⟩
 ·have hjl:j < s.roles.length:=by have:=lt_of_some hj;rwa [actsP_len] at this
  rw[actsP_at hjl] at hj
  cases hj
  rw[Nat.zero_add]
  by_cases e:j=i
  ·subst e
   refine⟨b,?_,?_,?_⟩
   ·rw[cell_of hb2,Array.getElem?_setIfInBounds_ne (by omega),Array.getElem?_setIfInBounds_self_of_lt (by omega)]
    simp only[PS.at]
    rw[List.getD_eq_getElem?_getD,List.getElem?_set_self (by rw[hx.pl];exact hi)]
    rfl
   ·rw[cell_of hb2,Array.getElem?_setIfInBounds_self_of_lt (by simp;omega)]
   ·have:=ob.frm hS (by simpa using hb) (by simpa using hg)
    simp only[PS.ctr,PS.bank]
    rw[List.getD_eq_getElem?_getD,List.getElem?_set_self (by rw[hx.vl];exact hi)]
    exact this.bnk
  ·obtain⟨bb,a1,a2,a3⟩:=h.act j hjl
   rw[cell_of ha] at a1 a2
   refine⟨bb,?_,?_,?_⟩
   ·rw[cell_of hb2,Array.getElem?_setIfInBounds_ne (by omega),Array.getElem?_setIfInBounds_ne (by omega),a1]
    simp only[PS.at]
    rw[List.getD_eq_getElem?_getD,List.getD_eq_getElem?_getD,List.getElem?_set_ne (fun h=>e h.symm)]
   ·rw[cell_of hb2,Array.getElem?_setIfInBounds_ne (by omega),Array.getElem?_setIfInBounds_ne (by omega),a2]
   ·have a3':=a3.frm hfw
    unfold PS.ctr PS.bank at a3' ⊢
    rw[List.getD_eq_getElem?_getD] at a3'
    simp only
    rw[List.getD_eq_getElem?_getD,List.getElem?_set_ne (fun h=>e h.symm)]
    exact a3'
 ·have hjl:=lt_of_some hR
  rw[setWay_length,hx.wl] at hjl
  rw[Nat.zero_add,Nat.mul_one]
  unfold setWay at hR
  rw[List.getElem?_set] at hR
  by_cases e:f=j
  ·subst e
   rw[if_pos rfl,if_pos (by rw[hx.wl];exact hjl)] at hR
   cases hR
   refine⟨_,hS.cellAt hr ng,some ⟨rb,0,none⟩,cr,by rw[List.length_set,hx.wr f hf],fun k M hM=>⟨rb,0,rfl,?_⟩⟩
   have hk:=lt_of_some hM
   rw[List.length_set,hx.wr f hf] at hk
   rw[Nat.zero_add,Nat.mul_one]
   rw[List.getElem?_set] at hM
   by_cases e2:t=k
   ·subst e2
    rw[if_pos rfl,if_pos (by rw[hx.wr f hf];exact hk)] at hM
    cases hM
    exact⟨cb,F,hS.cellAt h.cht nr,h.chn.frm hS nF⟩
   ·rw[if_neg e2] at hM
    obtain⟨c,G,a1,a2⟩:=h.chs k hk (fun e=>e2 e.symm)
    have:x.way f k=M:=by unfold PS.way wayOf;exact getD_some hM
    rw[this] at a2
    exact⟨c,G,hS.cellAt a1 nr,a2.frm hfw (by simp)⟩
  ·rw[if_neg e] at hR
   obtain⟨rv,a1,a2⟩:=h.row j hjl (fun e'=>e e'.symm)
   rw[getD_some hR] at a2
   exact⟨rv,hS.cellAt a1 ng,a2.frm hfw⟩
end
theorem setWay_self {ws:List (List (List ByteArray))} {i k:Nat} (hi:i < ws.length) (hk:k < (ws.getD i []).length):setWay ws i k (wayOf ws i k)=ws:=by
 unfold setWay wayOf
 have e1:(ws.getD i []).set k ((ws.getD i []).getD k [])=ws.getD i []:=by
  apply List.ext_getElem?
  intro j
  rw[List.getElem?_set]
  by_cases e:k=j
  ·subst e;rw[if_pos rfl,if_pos hk];exact(some_getD hk).symm
  ·rw[if_neg e]
 rw[e1]
 apply List.ext_getElem?
 intro j
 rw[List.getElem?_set]
 by_cases e:i=j
 ·subst e;rw[if_pos rfl,if_pos hi];exact(some_getD hi).symm
 ·rw[if_neg e]
set_option maxHeartbeats 4000000 in
set_option maxRecDepth 100000 in
theorem pDo_no (s:SesD) (yb fb sb:Nat) (x:PS) (m:Mv) (w:World) (h:SyR w s yb fb) (hx:StR w s yb sb x) (hm:m∉movesP s x) :
  Calls Tryz.prog 24 #[.pointer (some ⟨yb,0,none⟩),.pointer (some ⟨sb,0,none⟩),mvV m] w (Ret (.tuple #[.pointer none,.int .i64 9]) (Frm [] w)):=by
 have HF0:Hid (Frm [] w (w.alloc (.cells (encM m) 45))):=Lib.hid ((Frm.refl [] w).alloc _)
 have C1:=Lib.hid (pCheck_any s yb fb sb x _ (h.frm HF0.out) (hx.frm HF0.out))
 have CM:Hid (∀ V,Frm [] w V→Calls Tryz.prog 57 #[.pointer (some ⟨yb,0,none⟩),.pointer (some ⟨sb,0,none⟩)] V (RetV fun v w'=>Arr 4 MvAt w' v (movesP s x)∧Frm [] V w')):=Lib.hid fun V hV=>pmoves_any s yb fb sb x V (h.frm hV) (hx.frm hV)
 have HLN:Hid ((movesP s x).length≤5000):=Lib.hid (by
  have a1:=stepsMv_len h.ok hx.ok (Nat.le_refl s.roles.length)
  have a2:=losesMv_len (x:=x) h.ok (Nat.le_refl s.roles.length)
  unfold movesP
  rw[List.length_append]
  exact Nat.le_trans (Nat.add_le_add a1 a2) (by decide))
 have HM:Hid (decide (m∈movesP s x)=false):=Lib.hid (decide_eq_false hm)
 have HS:Hid (∀ V,Frm [] (w.alloc (.cells (encM m) 45)) V→V.cell? ⟨w.heap.size,0,none⟩=some (.int .i64 m.kind)∧V.cell? ⟨w.heap.size,1,none⟩=some (.int .i64 m.role)∧V.cell? ⟨w.heap.size,2,none⟩=some (.int .i64 m.step)∧V.cell? ⟨w.heap.size,3,none⟩=some (.int .i64 m.place)):=Lib.hid fun V hV=>by
  have hb:=hV.at (heap_alloc_new w (.cells (encM m) 45)) (by simp)
  exact⟨cell_of hb 0,cell_of hb 1,cell_of hb 2,cell_of hb 3⟩
 clear h hx hm
 go_enter Tryz.func24,Tryz.ntmps24
 go_upto_region 4 with (first
  | (go_at_call 56;go_must (refine C1.out.mono ?_;rintro e w' ⟨rfl,rfl⟩)))
 obtain⟨w0,hw0⟩:∃ w0,w.alloc (.cells (encM m) 45)=w0:=⟨_,rfl⟩
 rw[hw0] at HS HF0
 try rw[hw0]
 clear hw0 C1
 go_region_held3 (fun V=>V.cell? ⟨w.heap.size,0,none⟩=some (.int .i64 m.kind)∧V.cell? ⟨w.heap.size,1,none⟩=some (.int .i64 m.role)∧V.cell? ⟨w.heap.size,2,none⟩=some (.int .i64 m.step)∧V.cell? ⟨w.heap.size,3,none⟩=some (.int .i64 m.place))
  (first
   | exact HS.out _ ((Frm.refl [] w0).drew)
   | exact HS.out _ F1.out
   | exact HS.out _ F2.out)
  (first
   | (go_at_call 57;go_must (refine(CM.out _ HF0.out.drew).mono ?_;rintro e w1 ⟨u,rfl,ha,hf⟩;have F1:Hid (Frm [] w0 w1):=Lib.hid ((Frm.refl [] w0).drew.trans hf);obtain⟨am,cm,rfl⟩:=ha.shape;have CC:=Lib.hid (coMove_any _ _ m w1 ha HLN.out);rw[HM.out] at CC;clear ha hf))
   | (go_at_call 73;go_must (refine CC.out.mono ?_;rintro e w2 ⟨rfl,hf⟩;have F2:Hid (Frm [] w0 w2):=Lib.hid (F1.out.trans hf);clear hf)))
 go_wp2
 go_ret2
 exact⟨rfl,HF0.out.trans F2.out⟩
end Go.Proofs.YtkphhjekfimmlaaGreat
