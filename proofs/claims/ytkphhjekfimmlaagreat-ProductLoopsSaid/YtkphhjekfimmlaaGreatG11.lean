/- Part of the proof. -/
import Derived.Test.YtkphhjekfimmlaaGreatG08
import Derived.LoopTactic
import Derived.Shelf.SlicesG.Turned
import Derived.Shelf.SlicesG.Delete
import Derived.Sort.OwnSorted
import Derived.OrdersHeld
import Derived.Lib.SliceRun
import Derived.RangeFuncNested
import Derived.RangeFuncLeaves
import Derived.RangeFuncCalls
import Derived.RangeFuncBound
import Derived.OwnWalkIn
import Derived.TacticsInMore
import Derived.LoopNIn
import Derived.LoopIn
set_option linter.all false
namespace Go.Proofs.YtkphhjekfimmlaaGreat
open Go.RowKit Go.BigFrame
set_option maxHeartbeats 1000000 in
theorem ifCnt_any (K:FuncId) (caps:Array Value) (p:(CtrD × Int)→Bool) (v:Value) (xs:List (CtrD × Int)) (w:World) (h:Arr 3 CnAt w v xs) (hl:xs.length≤1000) (hK:∀ args w,(callFunc K args).run Tryz.prog w=.ok (.enter K args) w)
  (hp:∀ W x,Frm [] w W→x∈xs→Calls Tryz.prog K (#[.agg #[.string x.1.name,.int .i64 x.1.lim,.int .i64 x.2]] ++ caps) W (Ret (.bool (p x)) (Frm [] W))) :
  Calls Tryz.prog 160 #[v,.func (.func K) #[] caps] w (Ret (.int .i64 (ixf p xs)) (Frm [] w)):=by
 obtain⟨ao,cap,rfl,hx⟩:=h
 have HX:=Lib.hid hx;have HP:=Lib.hid hp
 obtain⟨n,hn⟩:∃ n,xs.length=n:=⟨_,rfl⟩
 rw[hn] at hl ⊢
 have HN:=Lib.hid hn
 clear hx hp hn
 go_enter Tryz.func160,Tryz.ntmps160
 go_wp2
 go_loopw [8,5] (fun s8 s5 wr=>∃ i:Nat,s8=.int .i64 i∧i≤n∧Frm [] w wr∧∀ j x,j < i→xs[j]?=some x→p x=false) (fun s8 _ _=>n - (intOf s8).toNat)
 case atStart=>exact⟨0,rfl,Nat.zero_le _,Frm.refl _ _,fun j x hj=>by omega⟩
 case round =>
  obtain⟨i,rfl,hi,hf,hno⟩:=hrel
  have HF:=Lib.hid hf;have HNO:=Lib.hid hno
  clear hf hno
  by_cases hlt:i < n
  ·have hlt':(i:Int) < (n:Int):=by omega
   obtain⟨x,hx⟩:∃ x,xs[i]?=some x:=⟨_,List.getElem?_eq_getElem (by rw[HN.out];exact hlt)⟩
   obtain⟨b,o,rfl,hat⟩:=HX.out i x hx
   obtain⟨c0,c1,c2⟩:=hat.frm HF.out
   have C1:=Lib.hid (HP.out wr x HF.out (List.mem_of_getElem? hx))
   have HXI:=Lib.hid hx
   clear hat hx
   cases hpx:p x with
   | true =>
     rw[hpx] at C1
     have HPX:=Lib.hid hpx
     clear hpx
     go_wp2_with fail
     refine C1.out.mono ?_
     rintro e w1 ⟨rfl,hf1⟩
     have HF1:=Lib.hid hf1
     clear hf1
     go_wp2
     go_ret
     exact⟨by rw[ixf_some HXI.out HPX.out HNO.out];rfl,HF.out.trans HF1.out⟩
   | false =>
     rw[hpx] at C1
     have HPX:=Lib.hid hpx
     clear hpx
     go_wp2_with fail
     refine C1.out.mono ?_
     rintro e w1 ⟨rfl,hf1⟩
     have HF1:=Lib.hid hf1
     clear hf1
     go_wp2
     refine⟨⟨i + 1,by simp,hlt,HF.out.trans HF1.out,fun j y hj hy=>?_⟩,by simp[intOf];omega⟩
     by_cases e:j=i
     ·subst e;rw[HXI.out] at hy;cases hy;exact HPX.out
     ·exact HNO.out j y (by omega) hy
  ·have hge:¬ (i:Int) < (n:Int):=by omega
   go_wp2
   go_ret
   refine⟨?_,HF.out⟩
   have e:=ixf_none (p:=p) (l:=xs) fun x hx=>by
    obtain⟨j,hj⟩:=List.getElem?_of_mem hx
    exact HNO.out j x (by have:=lt_of_some hj;rw[HN.out] at this;omega) hj
   rw[e];rfl
set_option maxHeartbeats 1000000 in
theorem ifChan_any (cls cap:Int) (K:FuncId) (caps:Array Value) (p:(List ByteArray)→Bool) (v:Value) (xs:List (List ByteArray)) (w:World) (h:RowV cls cap w v xs) (hl:xs.length≤1000) (hK:∀ args w,(callFunc K args).run Tryz.prog w=.ok (.enter K args) w)
  (hp:∀ W x cb F,Frm [] w W→x∈xs→Chn W cb cls cap x F→Calls Tryz.prog K (#[.pointer (some ⟨cb,0,none⟩)] ++ caps) W (Ret (.bool (p x)) (Frm [] W))) :
  Calls Tryz.prog 148 #[v,.func (.func K) #[] caps] w (Ret (.int .i64 (ixf p xs)) (Frm [] w)):=by
 obtain⟨ao,cap,rfl,hx⟩:=h
 have HX:=Lib.hid hx;have HP:=Lib.hid hp
 obtain⟨n,hn⟩:∃ n,xs.length=n:=⟨_,rfl⟩
 rw[hn] at hl ⊢
 have HN:=Lib.hid hn
 clear hx hp hn
 go_enter Tryz.func148,Tryz.ntmps148
 go_wp2
 go_loopw [8,5] (fun s8 s5 wr=>∃ i:Nat,s8=.int .i64 i∧i≤n∧Frm [] w wr∧∀ j x,j < i→xs[j]?=some x→p x=false) (fun s8 _ _=>n - (intOf s8).toNat)
 case atStart=>exact⟨0,rfl,Nat.zero_le _,Frm.refl _ _,fun j x hj=>by omega⟩
 case round =>
  obtain⟨i,rfl,hi,hf,hno⟩:=hrel
  have HF:=Lib.hid hf;have HNO:=Lib.hid hno
  clear hf hno
  by_cases hlt:i < n
  ·have hlt':(i:Int) < (n:Int):=by omega
   obtain⟨x,hx⟩:∃ x,xs[i]?=some x:=⟨_,List.getElem?_eq_getElem (by rw[HN.out];exact hlt)⟩
   obtain⟨b,o,rfl,hat⟩:=HX.out i x hx
   obtain⟨cb,F,c0,hr3⟩:=hat.frm HF.out;rw[Nat.mul_one] at c0
   have C1:=Lib.hid (HP.out wr x cb F HF.out (List.mem_of_getElem? hx) hr3)
   have HXI:=Lib.hid hx
   clear hat hx hr3
   cases hpx:p x with
   | true =>
     rw[hpx] at C1
     have HPX:=Lib.hid hpx
     clear hpx
     go_wp2_with fail
     refine C1.out.mono ?_
     rintro e w1 ⟨rfl,hf1⟩
     have HF1:=Lib.hid hf1
     clear hf1
     go_wp2
     go_ret
     exact⟨by rw[ixf_some HXI.out HPX.out HNO.out];rfl,HF.out.trans HF1.out⟩
   | false =>
     rw[hpx] at C1
     have HPX:=Lib.hid hpx
     clear hpx
     go_wp2_with fail
     refine C1.out.mono ?_
     rintro e w1 ⟨rfl,hf1⟩
     have HF1:=Lib.hid hf1
     clear hf1
     go_wp2
     refine⟨⟨i + 1,by simp,hlt,HF.out.trans HF1.out,fun j y hj hy=>?_⟩,by simp[intOf];omega⟩
     by_cases e:j=i
     ·subst e;rw[HXI.out] at hy;cases hy;exact HPX.out
     ·exact HNO.out j y (by omega) hy
  ·have hge:¬ (i:Int) < (n:Int):=by omega
   go_wp2
   go_ret
   refine⟨?_,HF.out⟩
   have e:=ixf_none (p:=p) (l:=xs) fun x hx=>by
    obtain⟨j,hj⟩:=List.getElem?_of_mem hx
    exact HNO.out j x (by have:=lt_of_some hj;rw[HN.out] at this;omega) hj
   rw[e];rfl
end Go.Proofs.YtkphhjekfimmlaaGreat
namespace Go.Proofs.YtkphhjekfimmlaaGreat
open Go.RowKit Go.BigFrame
def cnIx (l:List (CtrD × Int)) (n:ByteArray):Int:=ixf (fun c=>decide (c.1.name=n)) l
abbrev stpV (t:StpD):Value:=.agg #[.string t.frm,.string t.to,.int .i64 t.kind,.string t.msg,.string t.peer,.string t.ctr,.int .i64 t.low,.int .i64 t.high,.int .i64 t.add]
theorem bNone_any (bb:Nat) (l:List (CtrD × Int)) (w:World) (h:Bnk w bb l):Calls Tryz.prog 124 #[.pointer (some ⟨bb,0,none⟩)] w (Ret (.bool false) (w=·)):=by
 obtain⟨lv,h1,-⟩:=h
 have c0:=cell_of h1 0
 clear h1
 go_enter Tryz.func124,Tryz.ntmps124
 go_wp2
 go_ret
 exact⟨rfl,rfl⟩
set_option maxHeartbeats 1000000 in
theorem bFind1_any (c:Nat) (n:ByteArray) (x:CtrD × Int) (w:World) (h:w.cell? ⟨c,0,none⟩=some (.string n)):Calls Tryz.prog 161 #[.agg #[.string x.1.name,.int .i64 x.1.lim,.int .i64 x.2],.pointer (some ⟨c,0,none⟩)] w (Ret (.bool (decide (x.1.name=n))) (Frm [] w)):=by
 rw[← str_beq]
 have hlt:=cell_lt h
 go_enter Tryz.func161,Tryz.ntmps161
 go_wp2
 go_ret
 exact⟨rfl,(Frm.refl _ _).alloc _⟩
theorem Tryz.call_bFind1 (args:Array Value) (w:World):(callFunc 161 args).run Tryz.prog w=.ok (.enter 161 args) w:=by kernel_rfl
set_option maxHeartbeats 1000000 in
theorem bFind_any (bb:Nat) (l:List (CtrD × Int)) (n:ByteArray) (w:World) (h:Bnk w bb l) (hl:l.length≤1000):Calls Tryz.prog 123 #[.pointer (some ⟨bb,0,none⟩),.string n] w (Ret (.int .i64 (cnIx l n)) (Frm [] w)):=by
 obtain⟨lv,h1,h2⟩:=h
 have c1:=cell_of h1 1
 have C1:Hid (∀ W,Frm [] w W→W.cell? ⟨w.heap.size,0,none⟩=some (.string n)→Calls Tryz.prog 160 #[lv,.func (.func 161) #[] #[.pointer (some ⟨w.heap.size,0,none⟩)]] W (Ret (.int .i64 (cnIx l n)) (Frm [] W))):=
  Lib.hid fun W hf hc=>ifCnt_any 161 #[.pointer (some ⟨w.heap.size,0,none⟩)] (fun s=>decide (s.1.name=n)) lv l W (h2.frm fun _ _ _ h=>h.frm hf) hl Tryz.call_bFind1 (fun V x hV _=>bFind1_any _ n x V (hV.keep hc))
 have hlt:=cell_lt c1
 clear h1 h2
 go_enter Tryz.func123,Tryz.ntmps123
 go_wp2_with (go_at_call 160;go_must (refine(C1.out _ ((Frm.refl [] w).alloc _) (cell_of (alloc_top (by simp)) 0)).mono ?_;rintro e w1 ⟨rfl,hf1⟩;have HF1:=Lib.hid hf1;clear hf1))
 go_ret
 exact⟨rfl,((Frm.refl [] w).alloc _).trans HF1.out⟩
theorem Arr.at {α:Type} {k:Nat} {At:World→Nat→Nat→α→Prop} {w:World} {v:Value} {xs:List α} (h:Arr k At w v xs) {i:Nat} {x:α} (hx:xs[i]?=some x):∃ b o cap,v=.slice (some ⟨b,o,none⟩) xs.length cap∧At w b (o + i * k) x:=by
 obtain⟨ao,cap,rfl,h⟩:=h
 obtain⟨b,o,rfl,ha⟩:=h i x hx
 exact⟨b,o,cap,rfl,ha⟩
theorem Arr.get {α:Type} {k:Nat} {At:World→Nat→Nat→α→Prop} {w:World} {ao:Option Addr} {n cap:Nat} {xs:List α} (h:Arr k At w (.slice ao n cap) xs) {i:Nat} {x:α} (hx:xs[i]?=some x):∃ b o,ao=some ⟨b,o,none⟩∧At w b (o + i * k) x:=by
 obtain⟨ao',cap',e,h⟩:=h
 cases e
 exact h i x hx
set_option maxHeartbeats 1000000 in
theorem bGet_ok (bb:Nat) (l:List (CtrD × Int)) (n:ByteArray) (k:Nat) (x:CtrD × Int) (w:World) (h:Bnk w bb l) (hl:l.length≤1000) (hk:cnIx l n=k) (hx:l[k]?=some x) :
  Calls Tryz.prog 106 #[.pointer (some ⟨bb,0,none⟩),.string n] w (Ret (.tuple #[.int .i64 x.2,.int .i64 0]) (Frm [] w)):=by
 have CN:=Lib.hid (bNone_any bb l w h)
 have CF:=Lib.hid (bFind_any bb l n w h hl)
 rw[hk] at CF
 obtain⟨lv,h1,h2⟩:=h
 obtain⟨b,o,cap,rfl,g0,g1,g2⟩:=h2.at hx
 have hkl:(k:Int) < (l.length:Int):=by have:=lt_of_some hx;omega
 have HC:Hid (∀ W,Frm [] w W→W.cell? ⟨bb,1,none⟩=some (.slice (some ⟨b,o,none⟩) l.length cap)∧W.cell? ⟨b,o + k * 3 + 2,none⟩=some (.int .i64 x.2)):=Lib.hid fun W hf=>⟨hf.keep (cell_of h1 1),hf.keep g2⟩
 obtain⟨m,hm⟩:∃ m,l.length=m:=⟨_,rfl⟩
 rw[hm] at HC hkl hl
 clear h1 h2 g0 g1 g2 hk hx hm
 go_enter Tryz.func106,Tryz.ntmps106
 go_wp2_with (first
  | (go_at_call 124;go_must (refine CN.out.mono ?_;rintro e w' ⟨rfl,rfl⟩))
  | (go_at_call 123;go_must (refine CF.out.mono ?_;rintro e w1 ⟨rfl,hf1⟩;obtain⟨c1,c2⟩:=HC.out _ hf1;have HF1:=Lib.hid hf1;clear hf1)))
 go_ret2
 exact⟨rfl,HF1.out⟩
set_option maxHeartbeats 1000000 in
theorem bGet_no (bb:Nat) (l:List (CtrD × Int)) (n:ByteArray) (w:World) (h:Bnk w bb l) (hl:l.length≤1000) (hk:cnIx l n < 0) :
  Calls Tryz.prog 106 #[.pointer (some ⟨bb,0,none⟩),.string n] w (Ret (.tuple #[.int .i64 0,.int .i64 9]) (Frm [] w)):=by
 have CN:=Lib.hid (bNone_any bb l w h)
 have CF:=Lib.hid (bFind_any bb l n w h hl)
 obtain⟨q,hq⟩:∃ q,cnIx l n=q:=⟨_,rfl⟩
 rw[hq] at CF hk
 clear h hl hq
 go_enter Tryz.func106,Tryz.ntmps106
 go_wp2_with (first
  | (go_at_call 124;go_must (refine CN.out.mono ?_;rintro e w' ⟨rfl,rfl⟩))
  | (go_at_call 123;go_must (refine CF.out.mono ?_;rintro e w1 ⟨rfl,hf1⟩;have HF1:=Lib.hid hf1;clear hf1)))
 go_ret2
 exact⟨rfl,HF1.out⟩
set_option maxHeartbeats 1000000 in
theorem bAllows_any (lim v:Int) (t:StpD) (w:World) (hl:0≤lim∧lim≤1000) (hv:0≤v∧v≤1000):Calls Tryz.prog 167 #[.int .i64 lim,stpV t,.int .i64 v] w (Ret (.bool (allowsV lim t v)) (Frm [] w)):=by
 have w1:IntKind.i64.wrap (-v)=-v:=by simp[IntKind.wrap,show IntKind.i64.bits=64 from rfl,show IntKind.i64.signed=true from rfl];omega
 have w2:IntKind.i64.wrap (lim - v)=lim - v:=by simp[IntKind.wrap,show IntKind.i64.bits=64 from rfl,show IntKind.i64.signed=true from rfl];omega
 unfold allowsV
 clear hl hv
 by_cases h1:t.low≤v
 ·by_cases h2:v≤t.high
  ·by_cases h3:-v≤t.add
   ·rw[decide_eq_true h1,decide_eq_true h2,decide_eq_true h3]
    go_enter Tryz.func167,Tryz.ntmps167
    go_wp2
    go_ret
    exact⟨rfl,(Frm.refl _ _).alloc _⟩
   ·rw[decide_eq_true h1,decide_eq_true h2,decide_eq_false h3]
    go_enter Tryz.func167,Tryz.ntmps167
    go_wp2
    go_ret
    exact⟨rfl,(Frm.refl _ _).alloc _⟩
  ·rw[decide_eq_true h1,decide_eq_false h2]
   go_enter Tryz.func167,Tryz.ntmps167
   go_wp2
   go_ret
   exact⟨rfl,(Frm.refl _ _).alloc _⟩
 ·rw[decide_eq_false h1]
  go_enter Tryz.func167,Tryz.ntmps167
  go_wp2
  go_ret
  exact⟨rfl,(Frm.refl _ _).alloc _⟩
end Go.Proofs.YtkphhjekfimmlaaGreat
