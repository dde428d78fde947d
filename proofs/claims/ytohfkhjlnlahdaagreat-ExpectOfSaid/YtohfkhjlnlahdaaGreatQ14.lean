/- Part of the proof. -/
import Derived.Test.YtohfkhjlnlahdaaGreatQ04
import Derived.Test.YtohfkhjlnlahdaaGreatQ13
import Derived.Shelf.SlicesG.Turned
import Derived.Shelf.SlicesG.Delete
import Derived.Sort.OwnSorted
import Derived.OrdersHeld
import Derived.Lib.SliceRun
import Derived.RangeFuncNested
import Derived.RangeFuncLeaves
import Derived.RangeFuncCalls
import Derived.RangeFuncBound
import Derived.OwnWalkIn
import Derived.TacticsInMore
import Derived.LoopNIn
import Derived.LoopIn
set_option linter.all false
namespace Go.Proofs.YtohfkhjlnlahdaaGreat
open Go.RowKit Go.BigFrame
def fm (l:List (CtrD × Int)) (n:ByteArray):Int:=ixf (fun c=>decide (c.1.name=n)) l
abbrev dN (t:StpD):Value:=.agg #[.string t.frm,.string t.to,.int .i64 t.kind,.string t.msg,.string t.peer,.string t.ctr,.int .i64 t.low,.int .i64 t.high,.int .i64 t.add]
theorem ew (a:Nat) (l:List (CtrD × Int)) (w:World) (A:Bnk w a l):Calls Tryz.prog 134 #[.pointer (some ⟨a,0,none⟩)] w (Ret (.bool false) (w=·)):=by
 obtain⟨E,h,-⟩:=A
 have c0:=ae h 0
 clear h
 go_enter Tryz.func134,Tryz.ntmps134
 go_wp2
 go_ret
 exact⟨rfl,rfl⟩
set_option maxHeartbeats 1000000 in
theorem n9 (c:Nat) (n:ByteArray) (x:CtrD × Int) (w:World) (a:w.cell? ⟨c,0,none⟩=some (.string n)):Calls Tryz.prog 185 #[.agg #[.string x.1.name,.int .i64 x.1.lim,.int .i64 x.2],.pointer (some ⟨c,0,none⟩)] w (Ret (.bool (decide (x.1.name=n))) (Frm [] w)):=by
 rw[← aK]
 have h:=aI a
 go_enter Tryz.func185,Tryz.ntmps185
 go_wp2
 go_ret
 exact⟨rfl,(Frm.refl _ _).alloc _⟩
theorem Tryz.call_bFind1 (args:Array Value) (w:World):(callFunc 185 args).run Tryz.prog w=.ok (.enter 185 args) w:=by kernel_rfl
set_option maxHeartbeats 1000000 in
theorem fe (A:Nat) (l:List (CtrD × Int)) (n:ByteArray) (w:World) (h:Bnk w A l) (V:l.length≤1000):Calls Tryz.prog 137 #[.pointer (some ⟨A,0,none⟩),.string n] w (Ret (.int .i64 (fm l n)) (Frm [] w)):=by
 obtain⟨I,E,G⟩:=h
 have O:=ae E 1
 have J:Hid (∀ a,Frm [] w a→a.cell? ⟨w.heap.size,0,none⟩=some (.string n)→Calls Tryz.prog 184 #[I,.func (.func 185) #[] #[.pointer (some ⟨w.heap.size,0,none⟩)]] a (Ret (.int .i64 (fm l n)) (Frm [] a))):=
  vi fun a U S=>p8 185 #[.pointer (some ⟨w.heap.size,0,none⟩)] (fun s=>decide (s.1.name=n)) I l a (G.frm fun _ _ _ h=>h.frm U) V Tryz.call_bFind1 (fun N x R _=>n9 _ n x N (R.keep S))
 have W:=aI O
 clear E G
 go_enter Tryz.func137,Tryz.ntmps137
 go_wp2_with (go_at_call 184;go_must (refine(J.out _ ((Frm.refl [] w).alloc _) (ae (aq (by simp)) 0)).mono ?_;rintro e X ⟨rfl,H⟩;have K:=vi H;clear H))
 go_ret
 exact⟨rfl,((Frm.refl [] w).alloc _).trans K.out⟩
theorem Arr.at {α:Type} {k:Nat} {At:World→Nat→Nat→α→Prop} {w:World} {v:Value} {h:List α} (a:Arr k At w v h) {i:Nat} {x:α} (E:h[i]?=some x):∃ b o cap,v=.slice (some ⟨b,o,none⟩) h.length cap∧At w b (o+i*k) x:=by
 obtain⟨ao,cap,rfl,a⟩:=a
 obtain⟨b,o,rfl,A⟩:=a i x E
 exact⟨b,o,cap,rfl,A⟩
theorem Arr.get {α:Type} {k:Nat} {At:World→Nat→Nat→α→Prop} {w:World} {ao:Option Addr} {n cap:Nat} {h:List α} (a:Arr k At w (.slice ao n cap) h) {i:Nat} {x:α} (A:h[i]?=some x):∃ b o,ao=some ⟨b,o,none⟩∧At w b (o+i*k) x:=by
 obtain⟨E,G,e,a⟩:=a
 cases e
 exact a i x A
set_option maxHeartbeats 1000000 in
theorem o3 (a:Nat) (l:List (CtrD × Int)) (n:ByteArray) (k:Nat) (x:CtrD × Int) (w:World) (A:Bnk w a l) (S:l.length≤1000) (R:fm l n=k) (G:l[k]?=some x) :
  Calls Tryz.prog 182 #[.pointer (some ⟨a,0,none⟩),.string n] w (Ret (.tuple #[.int .i64 x.2,.int .i64 0]) (Frm [] w)):=by
 have V:=vi (ew a l w A)
 have H:=vi (fe a l n w A S)
 rw[R] at H
 obtain⟨af,K,N⟩:=A
 obtain⟨b,o,cap,rfl,X,Y,J⟩:=N.at G
 have aa:(k:Int)<(l.length:Int):=by have:=ag G;omega
 have I:Hid (∀ h,Frm [] w h→h.cell? ⟨a,1,none⟩=some (.slice (some ⟨b,o,none⟩) l.length cap)∧h.cell? ⟨b,o+k*3+2,none⟩=some (.int .i64 x.2)):=vi fun h O=>⟨O.keep (ae K 1),O.keep J⟩
 obtain⟨m,U⟩:∃ m,l.length=m:=⟨_,rfl⟩
 rw[U] at I aa S
 clear K N X Y J R G U
 go_enter Tryz.func182,Tryz.ntmps182
 go_wp2_with (first
  | (go_at_call 134;go_must (refine V.out.mono ?_;rintro e w' ⟨rfl,rfl⟩))
  | (go_at_call 137;go_must (refine H.out.mono ?_;rintro e ah ⟨rfl,E⟩;obtain⟨ab,ad⟩:=I.out _ E;have W:=vi E;clear E)))
 go_ret2
 exact⟨rfl,W.out⟩
set_option maxHeartbeats 1000000 in
theorem sE (a:Nat) (l:List (CtrD × Int)) (n:ByteArray) (w:World) (h:Bnk w a l) (G:l.length≤1000) (K:fm l n<0) :
  Calls Tryz.prog 182 #[.pointer (some ⟨a,0,none⟩),.string n] w (Ret (.tuple #[.int .i64 0,.int .i64 9]) (Frm [] w)):=by
 have I:=vi (ew a l w h)
 have A:=vi (fe a l n w h G)
 obtain⟨q,H⟩:∃ q,fm l n=q:=⟨_,rfl⟩
 rw[H] at A K
 clear h G H
 go_enter Tryz.func182,Tryz.ntmps182
 go_wp2_with (first
  | (go_at_call 134;go_must (refine I.out.mono ?_;rintro e w' ⟨rfl,rfl⟩))
  | (go_at_call 137;go_must (refine A.out.mono ?_;rintro e N ⟨rfl,E⟩;have J:=vi E;clear E)))
 go_ret2
 exact⟨rfl,J.out⟩
set_option maxHeartbeats 1000000 in
theorem mC (lim v:Int) (t:StpD) (w:World) (a:0≤lim∧lim≤1000) (h:0≤v∧v≤1000):Calls Tryz.prog 183 #[.int .i64 lim,dN t,.int .i64 v] w (Ret (.bool (cD lim t v)) (Frm [] w)):=by
 have A:IntKind.i64.wrap (-v)=-v:=by simp[IntKind.wrap,show IntKind.i64.bits=64 from rfl,show IntKind.i64.signed=true from rfl];omega
 have E:IntKind.i64.wrap (lim - v)=lim - v:=by simp[IntKind.wrap,show IntKind.i64.bits=64 from rfl,show IntKind.i64.signed=true from rfl];omega
 unfold cD
 clear a h
 by_cases h1:t.low≤v
 ·by_cases h2:v≤t.high
  ·by_cases h3:-v≤t.add
   ·rw[decide_eq_true h1,decide_eq_true h2,decide_eq_true h3]
    go_enter Tryz.func183,Tryz.ntmps183
    go_wp2
    go_ret
    exact⟨rfl,(Frm.refl _ _).alloc _⟩
   ·rw[decide_eq_true h1,decide_eq_true h2,decide_eq_false h3]
    go_enter Tryz.func183,Tryz.ntmps183
    go_wp2
    go_ret
    exact⟨rfl,(Frm.refl _ _).alloc _⟩
  ·rw[decide_eq_true h1,decide_eq_false h2]
   go_enter Tryz.func183,Tryz.ntmps183
   go_wp2
   go_ret
   exact⟨rfl,(Frm.refl _ _).alloc _⟩
 ·rw[decide_eq_false h1]
  go_enter Tryz.func183,Tryz.ntmps183
  go_wp2
  go_ret
  exact⟨rfl,(Frm.refl _ _).alloc _⟩
end Go.Proofs.YtohfkhjlnlahdaaGreat
