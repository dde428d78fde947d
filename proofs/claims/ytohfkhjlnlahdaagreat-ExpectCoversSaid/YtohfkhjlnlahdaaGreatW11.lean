/- Part of the proof. -/
import Derived.Test.YtohfkhjlnlahdaaGreatW10
import Derived.Shelf.SlicesG.Turned
import Derived.Shelf.SlicesG.Delete
import Derived.Sort.OwnSorted
import Derived.OrdersHeld
import Derived.Lib.SliceRun
import Derived.RangeFuncNested
import Derived.RangeFuncLeaves
import Derived.RangeFuncCalls
import Derived.RangeFuncBound
import Derived.OwnWalkIn
import Derived.TacticsInMore
import Derived.LoopNIn
import Derived.LoopIn
set_option linter.all false
namespace Go.Proofs.YtohfkhjlnlahdaaGreat
open Go.RowKit Go.BigFrame
def cnIx (l:List (CtrD × Int)) (n:ByteArray):Int:=ixf (fun c=>decide (c.1.name=n)) l
abbrev stpV (t:StpD):Value:=.agg #[.string t.frm,.string t.to,.int .i64 t.kind,.string t.msg,.string t.peer,.string t.ctr,.int .i64 t.low,.int .i64 t.high,.int .i64 t.add]
theorem bNone_any (bb:Nat) (l:List (CtrD × Int)) (w:World) (h:Bnk w bb l):Calls Tryz.prog 134 #[.pointer (some ⟨bb,0,none⟩)] w (Ret (.bool false) (w=·)):=by
 obtain⟨lv,h1,-⟩:=h
 have c0:=cell_of h1 0
 clear h1
 go_enter Tryz.func134,Tryz.ntmps134
 go_wp2
 go_ret
 exact⟨rfl,rfl⟩
set_option maxHeartbeats 1000000 in
theorem bFind1_any (c:Nat) (n:ByteArray) (x:CtrD × Int) (w:World) (h:w.cell? ⟨c,0,none⟩=some (.string n)):Calls Tryz.prog 185 #[.agg #[.string x.1.name,.int .i64 x.1.lim,.int .i64 x.2],.pointer (some ⟨c,0,none⟩)] w (Ret (.bool (decide (x.1.name=n))) (Frm [] w)):=by
 rw[← str_beq]
 have hlt:=cell_lt h
 go_enter Tryz.func185,Tryz.ntmps185
 go_wp2
 go_ret
 exact⟨rfl,(Frm.refl _ _).alloc _⟩
theorem Tryz.call_bFind1 (args:Array Value) (w:World):(callFunc 185 args).run Tryz.prog w=.ok (.enter 185 args) w:=by kernel_rfl
set_option maxHeartbeats 1000000 in
theorem bFind_any (bb:Nat) (l:List (CtrD × Int)) (n:ByteArray) (w:World) (h:Bnk w bb l) (hl:l.length≤1000):Calls Tryz.prog 137 #[.pointer (some ⟨bb,0,none⟩),.string n] w (Ret (.int .i64 (cnIx l n)) (Frm [] w)):=by
 obtain⟨lv,h1,h2⟩:=h
 have c1:=cell_of h1 1
 have C1:Hid (∀ W,Frm [] w W→W.cell? ⟨w.heap.size,0,none⟩=some (.string n)→Calls Tryz.prog 184 #[lv,.func (.func 185) #[] #[.pointer (some ⟨w.heap.size,0,none⟩)]] W (Ret (.int .i64 (cnIx l n)) (Frm [] W))):=
  Lib.hid fun W hf hc=>ifCnt_any 185 #[.pointer (some ⟨w.heap.size,0,none⟩)] (fun s=>decide (s.1.name=n)) lv l W (h2.frm fun _ _ _ h=>h.frm hf) hl Tryz.call_bFind1 (fun V x hV _=>bFind1_any _ n x V (hV.keep hc))
 have hlt:=cell_lt c1
 clear h1 h2
 go_enter Tryz.func137,Tryz.ntmps137
 go_wp2_with (go_at_call 184;go_must (refine(C1.out _ ((Frm.refl [] w).alloc _) (cell_of (alloc_top (by simp)) 0)).mono ?_;rintro e w1 ⟨rfl,hf1⟩;have HF1:=Lib.hid hf1;clear hf1))
 go_ret
 exact⟨rfl,((Frm.refl [] w).alloc _).trans HF1.out⟩
theorem Arr.at {α:Type} {k:Nat} {At:World→Nat→Nat→α→Prop} {w:World} {v:Value} {xs:List α} (h:Arr k At w v xs) {i:Nat} {x:α} (hx:xs[i]?=some x):∃ b o cap,v=.slice (some ⟨b,o,none⟩) xs.length cap∧At w b (o + i * k) x:=by
 obtain⟨ao,cap,rfl,h⟩:=h
 obtain⟨b,o,rfl,ha⟩:=h i x hx
 exact⟨b,o,cap,rfl,ha⟩
theorem Arr.get {α:Type} {k:Nat} {At:World→Nat→Nat→α→Prop} {w:World} {ao:Option Addr} {n cap:Nat} {xs:List α} (h:Arr k At w (.slice ao n cap) xs) {i:Nat} {x:α} (hx:xs[i]?=some x):∃ b o,ao=some ⟨b,o,none⟩∧At w b (o + i * k) x:=by
 obtain⟨ao',cap',e,h⟩:=h
 cases e
 exact h i x hx
set_option maxHeartbeats 1000000 in
theorem bGet_ok (bb:Nat) (l:List (CtrD × Int)) (n:ByteArray) (k:Nat) (x:CtrD × Int) (w:World) (h:Bnk w bb l) (hl:l.length≤1000) (hk:cnIx l n=k) (hx:l[k]?=some x) :
  Calls Tryz.prog 182 #[.pointer (some ⟨bb,0,none⟩),.string n] w (Ret (.tuple #[.int .i64 x.2,.int .i64 0]) (Frm [] w)):=by
 have CN:=Lib.hid (bNone_any bb l w h)
 have CF:=Lib.hid (bFind_any bb l n w h hl)
 rw[hk] at CF
 obtain⟨lv,h1,h2⟩:=h
 obtain⟨b,o,cap,rfl,g0,g1,g2⟩:=h2.at hx
 have hkl:(k:Int) < (l.length:Int):=by have:=lt_of_some hx;omega
 have HC:Hid (∀ W,Frm [] w W→W.cell? ⟨bb,1,none⟩=some (.slice (some ⟨b,o,none⟩) l.length cap)∧W.cell? ⟨b,o + k * 3 + 2,none⟩=some (.int .i64 x.2)):=Lib.hid fun W hf=>⟨hf.keep (cell_of h1 1),hf.keep g2⟩
 obtain⟨m,hm⟩:∃ m,l.length=m:=⟨_,rfl⟩
 rw[hm] at HC hkl hl
 clear h1 h2 g0 g1 g2 hk hx hm
 go_enter Tryz.func182,Tryz.ntmps182
 go_wp2_with (first
  | (go_at_call 134;go_must (refine CN.out.mono ?_;rintro e w' ⟨rfl,rfl⟩))
  | (go_at_call 137;go_must (refine CF.out.mono ?_;rintro e w1 ⟨rfl,hf1⟩;obtain⟨c1,c2⟩:=HC.out _ hf1;have HF1:=Lib.hid hf1;clear hf1)))
 go_ret2
 exact⟨rfl,HF1.out⟩
set_option maxHeartbeats 1000000 in
theorem bGet_no (bb:Nat) (l:List (CtrD × Int)) (n:ByteArray) (w:World) (h:Bnk w bb l) (hl:l.length≤1000) (hk:cnIx l n < 0) :
  Calls Tryz.prog 182 #[.pointer (some ⟨bb,0,none⟩),.string n] w (Ret (.tuple #[.int .i64 0,.int .i64 9]) (Frm [] w)):=by
 have CN:=Lib.hid (bNone_any bb l w h)
 have CF:=Lib.hid (bFind_any bb l n w h hl)
 obtain⟨q,hq⟩:∃ q,cnIx l n=q:=⟨_,rfl⟩
 rw[hq] at CF hk
 clear h hl hq
 go_enter Tryz.func182,Tryz.ntmps182
 go_wp2_with (first
  | (go_at_call 134;go_must (refine CN.out.mono ?_;rintro e w' ⟨rfl,rfl⟩))
  | (go_at_call 137;go_must (refine CF.out.mono ?_;rintro e w1 ⟨rfl,hf1⟩;have HF1:=Lib.hid hf1;clear hf1)))
 go_ret2
 exact⟨rfl,HF1.out⟩
set_option maxHeartbeats 1000000 in
theorem bAllows_any (lim v:Int) (t:StpD) (w:World) (hl:0≤lim∧lim≤1000) (hv:0≤v∧v≤1000):Calls Tryz.prog 183 #[.int .i64 lim,stpV t,.int .i64 v] w (Ret (.bool (allowsV lim t v)) (Frm [] w)):=by
 have w1:IntKind.i64.wrap (-v)=-v:=by simp[IntKind.wrap,show IntKind.i64.bits=64 from rfl,show IntKind.i64.signed=true from rfl];omega
 have w2:IntKind.i64.wrap (lim - v)=lim - v:=by simp[IntKind.wrap,show IntKind.i64.bits=64 from rfl,show IntKind.i64.signed=true from rfl];omega
 unfold allowsV
 clear hl hv
 by_cases h1:t.low≤v
 ·by_cases h2:v≤t.high
  ·by_cases h3:-v≤t.add
   ·rw[decide_eq_true h1,decide_eq_true h2,decide_eq_true h3]
    go_enter Tryz.func183,Tryz.ntmps183
    go_wp2
    go_ret
    exact⟨rfl,(Frm.refl _ _).alloc _⟩
   ·rw[decide_eq_true h1,decide_eq_true h2,decide_eq_false h3]
    go_enter Tryz.func183,Tryz.ntmps183
    go_wp2
    go_ret
    exact⟨rfl,(Frm.refl _ _).alloc _⟩
  ·rw[decide_eq_true h1,decide_eq_false h2]
   go_enter Tryz.func183,Tryz.ntmps183
   go_wp2
   go_ret
   exact⟨rfl,(Frm.refl _ _).alloc _⟩
 ·rw[decide_eq_false h1]
  go_enter Tryz.func183,Tryz.ntmps183
  go_wp2
  go_ret
  exact⟨rfl,(Frm.refl _ _).alloc _⟩
end Go.Proofs.YtohfkhjlnlahdaaGreat
