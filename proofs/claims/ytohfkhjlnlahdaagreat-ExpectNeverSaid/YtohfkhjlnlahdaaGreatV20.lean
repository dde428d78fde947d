/- Part of the proof. -/
import Derived.Maps.OwnSet
import Derived.Maps.OwnOps
import Derived.Test.YtohfkhjlnlahdaaGreatV07
import Derived.Test.YtohfkhjlnlahdaaGreatV13
import Derived.BigQuiet
import Derived.StillTail
import Derived.Test.YtohfkhjlnlahdaaGreatProg
import Derived.Lib.Hide
import Derived.WalkLawsBesides
import Derived.Deep.DeepMust
import Derived.LoopTactic
import Derived.Test.YtohfkhjlnlahdaaGreatV02
import Derived.Laws.IdiomStrings
import Derived.Shelf.Bytes.SlSmallAll
import Derived.Deep.Upon
import Derived.ArgAppend
import Derived.Deep.AppendLies
import Derived.Maps.AppendAt
import Derived.BigRegion
import Derived.Deep.RegionHeld3
import Derived.Deep.RegionLaw
import Derived.Deep.DeepCutAuto
import Derived.Laws.StructEq
set_option linter.all false
namespace Go.Proofs.YtohfkhjlnlahdaaGreat
open Go.RowKit Go.BigFrame
def encT (t:StpD):Array Value:=#[.string t.frm,.string t.to,.int .i64 t.kind,.string t.msg,.string t.peer,.string t.ctr,.int .i64 t.low,.int .i64 t.high,.int .i64 t.add]
theorem Tryz.und60:Tryz.prog.underlying 137=some (.struct (Tryz.prog.fieldsOf 137)):=by kernel_rfl
theorem toList_iff {a b:ByteArray}:a.toList=b.toList↔a=b:=by
 rw[ByteArray.toList_eq,ByteArray.toList_eq]
 exact⟨fun h=>ByteArray.ext (Array.toList_inj.mp h),fun h=>by rw[h]⟩
set_option maxHeartbeats 1000000 in
set_option maxRecDepth 100000 in
theorem eql_step (a b:StpD) (w:World):(binOp .eql 137 (.agg (encT a)) (.agg (encT b))).run Tryz.prog w=.ok (.bool (decide (a=b))) w:=by
 have h:(Op.equalIn (9999 + 1) 137 (.agg (encT a)) (.agg (encT b))).run Tryz.prog w=.ok (decide (a=b)) w:=by
  rw[run_equalIn_struct w 9999 137 _ _ Tryz.und60 (by kernel_rfl)]
  simp[go_sem,encT,Tryz.underlying137]
  obtain⟨a1,a2,a3,a4,a5,a6,a7,a8,a9⟩:=a
  obtain⟨b1,b2,b3,b4,b5,b6,b7,b8,b9⟩:=b
  simp only[toList_iff,StpD.mk.injEq]
  repeat' split
  all_goals simp[*]
 simp only[binOp]
 simp[show Op.equal 137 (.agg (encT a)) (.agg (encT b))=Op.equalIn (9999 + 1) 137 (.agg (encT a)) (.agg (encT b)) from rfl,h]
set_option maxHeartbeats 1000000 in
theorem inStep_any (v:Value) (xs:List StpD) (y:StpD) (w:World) (h:Arr 9 SpAt w v xs) (hl:xs.length≤1000) :
  Calls Tryz.prog 225 #[v,.agg (encT y)] w (Ret (.int .i64 (ixf (fun x=>decide (y=x)) xs)) (Frm [] w)):=by
 obtain⟨ao,cap,rfl,hx⟩:=h
 have HX:=Lib.hid hx
 obtain⟨n,hn⟩:∃ n,xs.length=n:=⟨_,rfl⟩
 rw[hn] at hl ⊢
 have HN:=Lib.hid hn
 obtain⟨W0,hW0⟩:∃ W0,w.alloc (.cells (encT y) 137)=W0:=⟨_,rfl⟩
 have HW0:Hid (Frm [] w W0):=Lib.hid (by rw[← hW0];exact(Frm.refl _ _).alloc _)
 have HB:Hid (W0.heap[w.heap.size]?=some (.cells (encT y) 137 (0,0))):=Lib.hid (by rw[← hW0];exact heap_alloc_new w _)
 have HE:=Lib.hid hW0
 clear hx hn hW0
 go_enter Tryz.func225,Tryz.ntmps225
 go_wp2_with (refine wpList_box_row rfl 137 _ rfl (encT y) rfl ?_;rw[HE.out])
 clear HE
 go_loopw [8,5] (fun s8 s5 wr=>∃ i:Nat,s8=.int .i64 i∧i≤n∧Frm [] W0 wr∧∀ j x,j < i→xs[j]?=some x→decide (y=x)=false) (fun s8 _ _=>n - (intOf s8).toNat)
 case atStart=>exact⟨0,rfl,Nat.zero_le _,Frm.refl _ _,fun j x hj=>by omega⟩
 case round =>
  obtain⟨i,rfl,hi,hf,hno⟩:=hrel
  have HF:=Lib.hid hf;have HNO:=Lib.hid hno
  clear hf hno
  by_cases hlt:i < n
  ·have hlt':(i:Int) < (n:Int):=by omega
   obtain⟨x,hx⟩:∃ x,xs[i]?=some x:=⟨_,List.getElem?_eq_getElem (by rw[HN.out];exact hlt)⟩
   obtain⟨b,o,rfl,hat⟩:=HX.out i x hx
   obtain⟨c0,c1,c2,c3,c4,c5,c6,c7,c8⟩:=hat.frm (HW0.out.trans HF.out)
   have hbb:=HF.out.at HB.out (by simp)
   have d0:wr.cell? ⟨w.heap.size,0,none⟩=some (.string y.frm):=cell_of hbb 0
   have d1:wr.cell? ⟨w.heap.size,1,none⟩=some (.string y.to):=cell_of hbb 1
   have d2:wr.cell? ⟨w.heap.size,2,none⟩=some (.int .i64 y.kind):=cell_of hbb 2
   have d3:wr.cell? ⟨w.heap.size,3,none⟩=some (.string y.msg):=cell_of hbb 3
   have d4:wr.cell? ⟨w.heap.size,4,none⟩=some (.string y.peer):=cell_of hbb 4
   have d5:wr.cell? ⟨w.heap.size,5,none⟩=some (.string y.ctr):=cell_of hbb 5
   have d6:wr.cell? ⟨w.heap.size,6,none⟩=some (.int .i64 y.low):=cell_of hbb 6
   have d7:wr.cell? ⟨w.heap.size,7,none⟩=some (.int .i64 y.high):=cell_of hbb 7
   have d8:wr.cell? ⟨w.heap.size,8,none⟩=some (.int .i64 y.add):=cell_of hbb 8
   have hq:∀ V,(binOp .eql 137 (.agg #[.string y.frm,.string y.to,.int .i64 y.kind,.string y.msg,.string y.peer,.string y.ctr,.int .i64 y.low,.int .i64 y.high,.int .i64 y.add]) (.agg #[.string x.frm,.string x.to,.int .i64 x.kind,.string x.msg,.string x.peer,.string x.ctr,.int .i64 x.low,.int .i64 x.high,.int .i64 x.add])).run Tryz.prog V=.ok (.bool (decide (y=x))) V:=fun V=>eql_step y x V
   have HXI:=Lib.hid hx
   clear hat hx hbb
   cases hpx:decide (y=x) with
   | true =>
     rw[hpx] at hq
     have HPX:=Lib.hid hpx
     clear hpx
     go_wp2
     go_quiet (fail)
     go_wp2
     go_ret
     exact⟨by rw[ixf_some HXI.out HPX.out HNO.out];rfl,HW0.out.trans (HF.out.drewN _)⟩
   | false =>
     rw[hpx] at hq
     have HPX:=Lib.hid hpx
     clear hpx
     go_wp2
     go_quiet (fail)
     go_wp2
     refine⟨⟨i + 1,by simp,hlt,HF.out.drewN _,fun j z hj hz=>?_⟩,by simp[intOf];omega⟩
     by_cases e:j=i
     ·subst e;rw[HXI.out] at hz;cases hz;exact HPX.out
     ·exact HNO.out j z (by omega) hz
  ·have hge:¬ (i:Int) < (n:Int):=by omega
   go_wp2
   go_ret
   refine⟨?_,HW0.out.trans HF.out⟩
   have e:=ixf_none (p:=fun x=>decide (y=x)) (l:=xs) fun x hx=>by
    obtain⟨j,hj⟩:=List.getElem?_of_mem hx
    exact HNO.out j x (by have:=lt_of_some hj;rw[HN.out] at this;omega) hj
   rw[e];rfl
theorem mem_ixf {xs:List StpD} {y:StpD}:decide (0≤ixf (fun x=>decide (y=x)) xs)=decide (y∈xs):=by
 by_cases h:y∈xs
 ·rw[decide_eq_true (ixf_ex (p:=fun x=>decide (y=x)) h (by simp)),decide_eq_true h]
 ·rw[decide_eq_false h,decide_eq_false]
  intro h2
  obtain⟨i,hi,-⟩:=ixf_nat h2
  obtain⟨x,h3,h4,-⟩:=ixf_at hi
  rw[decide_eq_true_eq] at h4
  subst h4
  exact h (List.mem_of_getElem? h3)
set_option maxHeartbeats 1000000 in
theorem coStep_any (v:Value) (xs:List StpD) (y:StpD) (w:World) (h:Arr 9 SpAt w v xs) (hl:xs.length≤1000) :
  Calls Tryz.prog 222 #[v,.agg (encT y)] w (Ret (.bool (decide (y∈xs))) (Frm [] w)):=by
 obtain⟨ao,cap,e,-⟩:=id h
 subst e
 have hf0:Frm [] w (w.alloc (.cells (encT y) 137)):=(Frm.refl _ _).alloc _
 have C1:=Lib.hid (inStep_any (.slice ao xs.length cap) xs y (w.alloc (.cells (encT y) 137)) (h.frm fun _ _ _ h=>h.frm hf0) hl)
 have HF0:=Lib.hid hf0
 rw[← mem_ixf]
 obtain⟨q,hq⟩:∃ q,ixf (fun x=>decide (y=x)) xs=q:=⟨_,rfl⟩
 rw[hq] at C1 ⊢
 have hb:(w.alloc (.cells (encT y) 137)).heap[w.heap.size]?=some (.cells (encT y) 137 (0,0)):=heap_alloc_new w _
 have d0:(w.alloc (.cells (encT y) 137)).cell? ⟨w.heap.size,0,none⟩=some (.string y.frm):=cell_of hb 0
 obtain⟨W0,hW0⟩:∃ W0,w.alloc (.cells (encT y) 137)=W0:=⟨_,rfl⟩
 rw[hW0] at C1 HF0 hb
 have HB:=Lib.hid hb
 have HW:=Lib.hid hW0
 clear h hf0 hq hW0 hb d0
 go_enter Tryz.func222,Tryz.ntmps222
 go_wp2_with (first
  | (refine wpList_box_row rfl 137 _ rfl (encT y) rfl ?_;rw[HW.out])
  | (refine wpList_load_whole rfl 137 _ rfl _ rfl _ 137 HB.out _ Tryz.underlying137 rfl (by kernel_rfl) ?_)
  | (go_at_call 225;go_must (refine C1.out.mono ?_;rintro e w1 ⟨rfl,hf1⟩;have HF1:=Lib.hid hf1;clear hf1)))
 go_ret
 exact⟨rfl,HF0.out.trans HF1.out⟩
def fewI (n:Nat) (least most:Int) (q:Nat→Bool):Int:=if (n:Int) < least then 0 else if most < (n:Int) then most else ixf q (List.range n)
theorem fewI_iff {n:Nat} {least most:Int} {q:Nat→Bool} (hm:0≤most):0≤fewI n least most q↔(n:Int) < least∨most < (n:Int)∨∃ i,i < n∧q i=true:=by
 unfold fewI
 by_cases h1:(n:Int) < least
 ·rw[if_pos h1];simp[h1]
 ·rw[if_neg h1]
  by_cases h2:most < (n:Int)
  ·rw[if_pos h2];simp[h1,h2,hm]
  ·rw[if_neg h2]
   constructor
   ·intro h
    obtain⟨i,hi,-⟩:=ixf_nat h
    obtain⟨x,h3,h4,-⟩:=ixf_at hi
    have:=List.mem_of_getElem? h3
    rw[List.mem_range] at this
    exact .inr (.inr ⟨x,this,h4⟩)
   ·rintro(h | h | ⟨i,h3,h4⟩)
    ·exact absurd h h1
    ·exact absurd h h2
    ·exact ixf_ex (List.mem_range.2 h3) h4
theorem range_at {n i x:Nat} (h:(List.range n)[i]?=some x):x=i∧i < n:=by
 have:=lt_of_some h
 rw[List.length_range] at this
 rw[List.getElem?_range this] at h
 cases h
 exact⟨rfl,this⟩
set_option maxHeartbeats 1000000 in
theorem rFew_any (K:FuncId) (caps:Array Value) (n:Nat) (least most:Int) (q:Nat→Bool) (w:World) (hn:n≤100000) (hK:∀ args w,(callFunc K args).run Tryz.prog w=.ok (.enter K args) w)
  (hp:∀ W (i:Nat),i < n→(n:Int)≤most→Frm [] w W→Calls Tryz.prog K (#[.int .i64 i] ++ caps) W (Ret (.bool (q i)) (Frm [] W))) :
  Calls Tryz.prog 203 #[.int .i64 n,.int .i64 least,.int .i64 most,.func (.func K) #[] caps] w (Ret (.int .i64 (fewI n least most q)) (Frm [] w)):=by
 by_cases h1:(n:Int) < least
 ·have e:fewI n least most q=0:=by unfold fewI;rw[if_pos h1]
  rw[e]
  clear e hp
  go_enter Tryz.func203,Tryz.ntmps203
  go_wp2
  go_ret
  exact⟨rfl,Frm.refl _ _⟩
 by_cases h2:most < (n:Int)
 ·have e:fewI n least most q=most:=by unfold fewI;rw[if_neg h1,if_pos h2]
  rw[e]
  clear e hp
  go_enter Tryz.func203,Tryz.ntmps203
  go_wp2
  go_ret
  exact⟨rfl,Frm.refl _ _⟩
 have e:fewI n least most q=ixf q (List.range n):=by unfold fewI;rw[if_neg h1,if_neg h2]
 rw[e]
 have HP:=Lib.hid hp
 have HM:Hid ((n:Int)≤most):=Lib.hid (by omega)
 clear e hp
 go_enter Tryz.func203,Tryz.ntmps203
 go_wp2
 clear h1 h2
 go_loopw [20,9] (fun s20 s9 wr=>∃ i:Nat,s20=.int .i64 i∧i≤n∧Frm [] w wr∧∀ j,j < i→q j=false) (fun s20 _ _=>n - (intOf s20).toNat)
 case atStart=>exact⟨0,rfl,Nat.zero_le _,Frm.refl _ _,fun j hj=>by omega⟩
 case round =>
  obtain⟨i,rfl,hi,hf,hno⟩:=hrel
  have HF:=Lib.hid hf;have HNO:=Lib.hid hno
  clear hf hno
  by_cases hlt:i < n
  ·have hlt':(i:Int) < (n:Int):=by omega
   have C1:=Lib.hid (HP.out wr i hlt HM.out HF.out)
   cases hpx:q i with
   | true =>
     rw[hpx] at C1
     have HPX:=Lib.hid hpx
     clear hpx
     go_wp2_with fail
     refine C1.out.mono ?_
     rintro e w1 ⟨rfl,hf1⟩
     have HF1:=Lib.hid hf1
     clear hf1
     go_wp2
     go_ret
     refine⟨?_,HF.out.trans HF1.out⟩
     have e:ixf q (List.range n)=(i:Int):=ixf_some (List.getElem?_range hlt) HPX.out (fun j y hj hy=>by
      obtain⟨rfl,-⟩:=range_at hy
      exact HNO.out _ hj)
     rw[e];rfl
   | false =>
     rw[hpx] at C1
     have HPX:=Lib.hid hpx
     clear hpx
     go_wp2_with fail
     refine C1.out.mono ?_
     rintro e w1 ⟨rfl,hf1⟩
     have HF1:=Lib.hid hf1
     clear hf1
     go_wp2
     refine⟨⟨i + 1,by simp,hlt,HF.out.trans HF1.out,fun j hj=>?_⟩,by simp[intOf];omega⟩
     by_cases e:j=i
     ·subst e;exact HPX.out
     ·exact HNO.out j (by omega)
  ·have hge:¬ (i:Int) < (n:Int):=by omega
   go_wp2
   go_ret
   refine⟨?_,HF.out⟩
   have e:=ixf_none (p:=q) (l:=List.range n) fun x hx=>by
    rw[List.mem_range] at hx
    exact HNO.out x (by omega)
   rw[e];rfl
end Go.Proofs.YtohfkhjlnlahdaaGreat
