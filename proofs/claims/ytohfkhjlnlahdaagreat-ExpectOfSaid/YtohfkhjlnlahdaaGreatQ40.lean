/- Part of the proof. -/
import Derived.Test.YtohfkhjlnlahdaaGreatQ04
import Derived.Test.YtohfkhjlnlahdaaGreatQ17
import Derived.Test.YtohfkhjlnlahdaaGreatQ24
import Derived.Test.YtohfkhjlnlahdaaGreatQ26
import Derived.Shelf.SortM.Plain
import Derived.Shelf.SortM.SortNone
import Derived.Test.YtohfkhjlnlahdaaGreatQ34
import Derived.Test.YtohfkhjlnlahdaaGreatQ23
import Derived.Laws.StructEq
import Derived.Test.YtohfkhjlnlahdaaGreatQ16
import Derived.WalkMore
import Derived.Sort.CutIn
import Derived.OrdersIn
import Derived.Lib.Builder
import Derived.Lib.AppendStr
set_option linter.all false
namespace Go.Proofs.YtohfkhjlnlahdaaGreat
open Go.RowKit Go.BigFrame
structure CtR (B:Nat) (lv:Value) (l:List (CtrD × Int)) (W:World):Prop where
 b:W.heap[B]?=some (.cells #[lv] 241 (0,0))
 a:Arr 3 CnAt W lv l
 t:∀ ao n c,lv=.slice ao n c→n≠0→∃ g cur,ao=some ⟨g,0,none⟩∧W.heap[g]?=some (.cells cur 246 (0,0))
set_option maxHeartbeats 2000000 in
set_option maxRecDepth 100000 in
theorem jU (I:Nat) (l:List (CtrD × Int)) (w:World) (E:Bnk w I l) (am:l.length≤1000) :
  Calls Tryz.prog 102 #[.pointer (some ⟨I,0,none⟩)] w (aU fun v w'=>∃ B S,v=.func (.func 153) #[] #[.pointer (some ⟨B,0,none⟩)]∧CtR B S l w'∧Frm [] w w'∧w.heap.size≤B):=by
 have H:Hid (Frm [] w (w.alloc (.cells #[.slice none 0 0] 241))):=vi ((Frm.refl [] w).alloc _)
 have af:=vi (ew I l _ (E.frm H.out))
 obtain⟨S,J,X⟩:=E
 have ad:=vi (j9 S l _ (X.frm (fun _ _ _ E=>E.frm H.out)) (by omega))
 have aq:=ae J 1
 have au:=lt_of_block J
 have U:=heap_alloc_new w (.cells #[.slice none 0 0] 241)
 have ab:=vi U
 clear J X am U
 go_enter Tryz.func102,Tryz.ntmps102
 go_wp2_with (first
  | (go_at_call 134;go_must (refine af.out.mono ?_;rintro e w' ⟨rfl,rfl⟩))
  | (go_at_call 135;go_must (refine ad.out.mono ?_;rintro e aa ⟨v,rfl,G⟩;obtain⟨ao,V,rfl⟩:=G.arr.shape;have hb:=G.frm.at ab.out (by simp);have cb:=ae hb 0;have ar:=aj hb 0;have ag:=vi hb;have A:=vi G;clear G hb)))
 go_ret
 have hb:=ap ag.out 0 (.slice ao l.length V)
 have a:Frm [w.heap.size] aa (aa.setCell ⟨w.heap.size,0,none⟩ (.slice ao l.length V)):=(Frm.refl _ _).setCell _ (.inl (by simp)) _
 refine⟨_,rfl,_,_,rfl,⟨hb,?_,?_⟩,(H.out.trans A.out.frm).then a (by intro x R;simp at R;right;omega),Nat.le_refl _⟩
 ·rcases A.out.own with rfl | ⟨an,O⟩
  ·exact Arr.nil _ _ _
  by_cases h:l.length=0
  ·rw[List.length_eq_zero_iff.1 h];exact Arr.nil _ _ _
  ·obtain⟨g,cap,cur,e,K,Y⟩:=aZ O h
   cases e
   obtain⟨ao,c,e,R⟩:=A.out.arr
   refine⟨ao,c,e,fun i x al=>?_⟩
   obtain⟨b,o,W,ah,ai,ak⟩:=R i x al
   rw[W] at e
   cases e
   have N:g∉[w.heap.size]:=by simp at K ⊢;omega
   exact⟨g,0,W,a.cellAt ah N,a.cellAt ai N,a.cellAt ak N⟩
 ·intro ao n c e h
  cases e
  rcases A.out.own with rfl | ⟨an,O⟩
  ·exact absurd rfl h
  obtain⟨g,cap,cur,e,K,Y⟩:=aZ O h
  cases e
  exact⟨g,cur,rfl,a.at Y (by simp at K ⊢;omega)⟩
theorem bu {α:Type} {L:List α} {k:Nat} {x:α} (a:L[k]?=some x):L.take (k+1)=L.take k++[x]∧L=L.take k++x :: L.drop (k+1):=by
 have h:=ag a
 rw[List.getElem?_eq_getElem h] at a
 cases a
 exact⟨List.take_succ_eq_append_getElem h,by simp⟩
set_option maxHeartbeats 2000000 in
set_option maxRecDepth 100000 in
theorem sT (B:Nat) (ad:Value) (L:List (CtrD × Int)) (an:L.length≤1000000) :
  Iter Fence.wide 2 Tryz.prog 153 #[.pointer (some ⟨B,0,none⟩)] (fun e:CtrD × Int=>#[.string e.1.name,.int .i64 e.2]) (CtR B ad L) L:=by
 intro l K ag X af R V ah G
 have Y:=vi X;have J:=vi R;have ab:=vi V
 clear X af R V
 have a:=J.out _ _ G
 have c0:=ae a.b 0
 obtain⟨ao,cap,rfl⟩:=a.a.shape
 have I:=vi G
 clear a G
 refine callsIn_of_wp Tryz.func153 rfl trivial ?_ rfl
 simp only[Tryz.ntmps153,List.size_toArray,List.length_cons,List.length_nil,Nat.reduceAdd,Nat.reduceSub,Array.replicate_succ,Array.replicate_zero,List.push_toArray,List.append_toArray,List.nil_append,List.cons_append]
 gi_wp2
 gi_loopw [7] (fun s wr=>∃ k:Nat,s=.int .i64 k∧k≤L.length∧K (L.take k) wr) (fun s _=>L.length - (intOf s).toNat)
 case atStart=>exact⟨0,rfl,Nat.zero_le _,I.out⟩
 case round =>
  obtain⟨k,rfl,aq,W⟩:=hrel
  have h:=vi W
  clear W I c0
  by_cases hlt:k<L.length
  ·obtain⟨x,H⟩:∃ x,L[k]?=some x:=⟨_,List.getElem?_eq_getElem hlt⟩
   have a:=J.out _ _ h.out
   obtain⟨b,o,aj,e,ak,al,am⟩:=a.a.at H
   cases e
   have E:=vi H
   clear a H
   have N:K (L.take k) (wr.alloc (.cells #[.string x.1.name,.int .i64 x.1.lim,.int .i64 x.2] 246)):=Y.out _ _ _ h.out ((Frm.refl _ _).alloc _)
   obtain⟨fn,tmps,assign,body,au,U⟩:=ab.out (L.take k) x (L.drop (k+1)) _ (bu E.out).2 N
   have aa:=vi U
   clear N U
   have ar:(k:Int)<L.length:=by omega
   gi_wp2
   refine aa.out.mono ?_
   rintro e ai (⟨rfl,O⟩ | ⟨rfl,S⟩)
   ·have A:=vi O
    clear O
    gi_wp2
    go_roundw
    case rel=>exact⟨k+1,by go_num,hlt,by rw[(bu E.out).1];exact A.out⟩
    case measure=>simp[intOf];omega
   ·have A:=vi S
    clear S
    gi_wp2
    refine bodyPost_ret (results_none rfl _ _ _) rfl ?_
    exact⟨⟨_,rfl⟩,.inr ⟨_,_,_,(bu E.out).2,A.out⟩⟩
  ·obtain rfl:k=L.length:=by omega
   have ap:¬ (L.length:Int)<L.length:=by omega
   gi_wp2
   go_end0
   exact⟨⟨_,rfl⟩,.inl (by have:=h.out;rwa [List.take_length] at this)⟩
end Go.Proofs.YtohfkhjlnlahdaaGreat
namespace Go.Proofs.YtohfkhjlnlahdaaGreat
open Go.RowKit Go.BigFrame Go.Sort
theorem rj (v:Value) (L:List ByteArray) (w:World) (h:Strs w v L) (U:L.length≤1000000) :
  Calls Tryz.prog 105 #[v] w (Ret (.tuple #[]) (fun w'=>Strs w' v (dj 2 L)∧Frm v.ownBlock.toList w w')):=by
 obtain⟨ao,cap,rfl,V,J⟩:=h.shape
 have N:(dj 2 L).length=L.length:=by simp[dj]
 cases L with
 | nil =>
   refine(AnyM.slices_Sort_string_none Tryz.sortS ao cap w).mono ?_
   rintro e w' ⟨rfl,rfl⟩
   exact⟨rfl,by simpa[dj] using h,Frm.refl _ _⟩
 | cons x a =>
   obtain⟨g,rfl,-⟩:=J 0 x rfl
   obtain⟨I,O,R,cur,E,S⟩:=h.holds
   have A:=AnyM.slices_Sort_string Tryz.sortS g 0 cap ((x :: a).map byt) w I (lt_of_block E) (by rw[List.length_map];omega)
   rw[List.length_map] at A
   refine(show Calls Tryz.prog 105 _ w _ from A).mono ?_
   rintro e w' ⟨rfl,q,os,rfl⟩
   refine⟨rfl,?_,?_⟩
   ·have G:=ownsRow_sorted (w:=w) (base:=0) (g:=g) (cap:=cap) (n:=q) (e:=9) (os:=os) (cur:=cur) (ss:=(x :: a).map byt) (ts:=((x :: a).map byt).mergeSort fun x y=>decide (x≤y)) (by simp) (Nat.zero_le _) E (by simpa using O) R S
    rw[List.length_map] at G
    have H:(dj 2 (x :: a)).map Value.string=(((x :: a).map byt).mergeSort fun x y=>decide (x≤y)).map encStr:=by rw[dj,if_pos rfl,List.map_map];rfl
    unfold Strs
    rw[N,H]
    exact G
   ·exact(Frm.refl _ _).grown (grownBy_sorted _) (fun k K=>by cases K;exact .inl (by simp[Value.ownBlock]))
theorem fz {x:Int} (a:0≤x) (h:x≤255):IntKind.u8.wrap x=x:=by simp[IntKind.wrap,show IntKind.u8.bits=8 from rfl,show IntKind.u8.signed=false from rfl];omega
theorem mo (w:World) (x:ByteArray) (A:x.size≤32):(convert 26 9 (.slice (some ⟨w.heap.size,0,none⟩) 1 1)).run Tryz.prog (w.alloc (.cells #[.int .u8 (x.size:Int)] 5))=.ok (.string ⟨#[UInt8.ofNat x.size]⟩) (w.alloc (.cells #[.int .u8 (x.size:Int)] 5)):=
 run_convert_bytes_back _ 26 9 5 ⟨w.heap.size,0,none⟩ 1 [UInt8.ofNat x.size] Tryz.underlying26 Tryz.underlying5 Tryz.underlying9 (fun j h=>by
  have a:j=0:=by simpa using h
  subst a
  have e:((UInt8.ofNat x.size).toNat:Int)=(x.size:Int):=by simp;omega
  show (w.alloc _).cell? ⟨w.heap.size,0+0,none⟩=some (.int .u8 ((UInt8.ofNat x.size).toNat:Int))
  rw[e]
  exact ae (heap_alloc_new w _) 0)
set_option maxHeartbeats 1000000 in
set_option maxRecDepth 100000 in
theorem th (cb:Nat) (cls cap:Int) (L:List ByteArray) (F:List Nat) (w:World) (S:Chn w cb cls cap L F) :
  Calls Tryz.prog 104 #[.pointer (some ⟨cb,0,none⟩)] w (Ret (.string (dV (dj cls L))) (Frm [] w)):=by
 have al:=vi S.good
 have aA:=S.good.lenN
 have W:=vi S
 have aj:=vi (iQ S)
 clear S
 have G:Hid ((dj cls L).length=L.length):=vi (eR cls L)
 have K:Hid (∀ x∈dj cls L,1≤x.size∧x.size≤32):=vi (fun x h=>al.out.sz x (gO h))
 by_cases hz:cls=2
 ·subst hz
  obtain⟨a,H⟩:∃ a,dj 2 L=a:=⟨_,rfl⟩
  rw[H] at G K ⊢
  go_enter Tryz.func104,Tryz.ntmps104
  go_wp2_with (first
   | (go_at_call 154;go_must (refine aj.out.mono ?_;rintro e J ⟨v,rfl,I⟩;obtain⟨ao,ad,rfl,-,-⟩:=I.1.shape;have A:=vi I;clear I))
   | (go_at_call 128;go_must (refine(dd cb 2 cap L F J (W.out.frm A.out.2.1 (by simp))).mono ?_;rintro e w' ⟨rfl,rfl⟩;obtain⟨az,R,-,-,-⟩:=W.out;have c0:=A.out.2.1.keep (ae R 0);clear R))
   | (go_at_call 105;go_must (refine(rj _ L J A.out.1 (by omega)).mono ?_;rintro e ai ⟨rfl,ak⟩;have X:=vi ak;clear ak)))
  rw[H] at X
  clear H
  have Y:Hid (Strs ai (.slice ao L.length ad) a):=vi X.out.1
  have aa:Hid (Frm [] w ai):=vi ((A.out.2.1).then X.out.2 (fun x h=>.inr (A.out.2.2 x (by simpa using h))))
  go_loopw [2,22] (fun s2 s22 wr=>∃ i:Nat,s2=.string (dV (a.take i))∧s22=.int .i64 i∧i≤L.length∧Frm [] ai wr) (fun _ s22 _=>L.length - (intOf s22).toNat)
  case atStart=>exact⟨0,rfl,rfl,Nat.zero_le _,Frm.refl _ _⟩
  case round =>
   obtain⟨i,rfl,rfl,av,E⟩:=hrel
   have N:=vi E
   by_cases hlt:i<L.length
   ·obtain⟨x,h⟩:∃ x,a[i]?=some x:=⟨_,List.getElem?_eq_getElem (by rw[G.out];exact hlt)⟩
    have ag:=K.out x (List.mem_of_getElem? h)
    obtain⟨an,ap,V,-,U⟩:=Y.out.shape
    rw[G.out] at V;cases V
    obtain⟨g,rfl,O⟩:=U i x h
    have aq:=E.keep O
    have ax:(i:Int)<(L.length:Int):=by omega
    have ay:IntKind.u8.wrap (x.size:Int)=(x.size:Int):=fz (by omega) (by omega)
    have ab:=vi h
    have ar:(convert 26 9 (.slice (some ⟨wr.heap.size,0,none⟩) 1 1)).run Tryz.prog (wr.alloc (.cells #[.int .u8 (x.size:Int)] 5))=.ok (.string ⟨#[UInt8.ofNat x.size]⟩) (wr.alloc (.cells #[.int .u8 (x.size:Int)] 5)):=mo wr x ag.2
    have aw:(dV (a.take i)).size≤3000:=by
     have af:=ey (a.take i) (fun y ah=>(K.out y (List.mem_of_mem_take ah)).2)
     rw[List.length_take] at af
     omega
    clear U O E h
    go_wp2_with fail
    exact⟨⟨i+1,by rw[kn ab.out],by simp,hlt,N.out.alloc _⟩,by simp[intOf];omega⟩
   ·have au:¬ (i:Int)<(L.length:Int):=by omega
    clear E
    go_wp2
    go_ret
    refine⟨?_,aa.out.trans N.out⟩
    rw[List.take_of_length_le (by rw[G.out];omega)]
    rfl
 ·have aB:(cls == 2)=false:=by simpa using hz
  obtain⟨a,H⟩:∃ a,dj cls L=a:=⟨_,rfl⟩
  have am:Hid (a=L):=vi (H.symm.trans (if_neg hz))
  rw[H] at G K ⊢
  clear H
  go_enter Tryz.func104,Tryz.ntmps104
  go_wp2_with (first
   | (go_at_call 154;go_must (refine aj.out.mono ?_;rintro e J ⟨v,rfl,I⟩;obtain⟨ao,ad,rfl,-,-⟩:=I.1.shape;have A:=vi I;clear I))
   | (go_at_call 128;go_must (refine(dd cb cls cap L F J (W.out.frm A.out.2.1 (by simp))).mono ?_;rintro e w' ⟨rfl,rfl⟩;obtain⟨az,R,-,-,-⟩:=W.out;have c0:=A.out.2.1.keep (ae R 0);clear R)))
  have Y:Hid (Strs J (.slice ao L.length ad) a):=vi (by rw[am.out];exact A.out.1)
  have aa:Hid (Frm [] w J):=vi A.out.2.1
  go_loopw [2,22] (fun s2 s22 wr=>∃ i:Nat,s2=.string (dV (a.take i))∧s22=.int .i64 i∧i≤L.length∧Frm [] J wr) (fun _ s22 _=>L.length - (intOf s22).toNat)
  case atStart=>exact⟨0,rfl,rfl,Nat.zero_le _,Frm.refl _ _⟩
  case round =>
   obtain⟨i,rfl,rfl,av,E⟩:=hrel
   have N:=vi E
   by_cases hlt:i<L.length
   ·obtain⟨x,h⟩:∃ x,a[i]?=some x:=⟨_,List.getElem?_eq_getElem (by rw[G.out];exact hlt)⟩
    have ag:=K.out x (List.mem_of_getElem? h)
    obtain⟨an,ap,V,-,U⟩:=Y.out.shape
    rw[G.out] at V;cases V
    obtain⟨g,rfl,O⟩:=U i x h
    have aq:=E.keep O
    have ax:(i:Int)<(L.length:Int):=by omega
    have ay:IntKind.u8.wrap (x.size:Int)=(x.size:Int):=fz (by omega) (by omega)
    have ab:=vi h
    have ar:(convert 26 9 (.slice (some ⟨wr.heap.size,0,none⟩) 1 1)).run Tryz.prog (wr.alloc (.cells #[.int .u8 (x.size:Int)] 5))=.ok (.string ⟨#[UInt8.ofNat x.size]⟩) (wr.alloc (.cells #[.int .u8 (x.size:Int)] 5)):=mo wr x ag.2
    have aw:(dV (a.take i)).size≤3000:=by
     have af:=ey (a.take i) (fun y ah=>(K.out y (List.mem_of_mem_take ah)).2)
     rw[List.length_take] at af
     omega
    clear U O E h
    go_wp2_with fail
    exact⟨⟨i+1,by rw[kn ab.out],by simp,hlt,N.out.alloc _⟩,by simp[intOf];omega⟩
   ·have au:¬ (i:Int)<(L.length:Int):=by omega
    clear E
    go_wp2
    go_ret
    refine⟨?_,aa.out.trans N.out⟩
    rw[List.take_of_length_le (by rw[G.out];omega)]
    rfl
end Go.Proofs.YtohfkhjlnlahdaaGreat
namespace Go.Proofs.YtohfkhjlnlahdaaGreat
open Go.RowKit Go.BigFrame
section
variable {w w':World} {s:SesD} {yb fb sb:Nat} {x:PS}
structure WyF (gb go' rb ro cb:Nat) (cls cap:Int) (L:List ByteArray) (W:World) (n m c:Nat):Prop where
 c0:W.cell? ⟨gb,go',none⟩=some (.slice (some ⟨rb,ro,none⟩) m c)
 c1:W.cell? ⟨rb,ro+n,none⟩=some (.pointer (some ⟨cb,0,none⟩))
 chn:∃ F,Chn W cb cls cap L F
theorem StR.row (E:StR w s yb sb x) {i:Nat} (J:i<s.roles.length):∃ a h cap A,w.cell? ⟨sb,2,none⟩=some (.slice (some ⟨a,h,none⟩) s.roles.length cap)∧w.cell? ⟨a,h+i,none⟩=some A∧RowV s.cls s.cap w A (x.ways.getD i []):=by
 obtain⟨K,N,G,-,H⟩:=E.out
 obtain⟨a,h,cap,rfl,A,c0,I⟩:=H.at (bf (d:=[]) (by rw[E.ok.wl];exact J))
 rw[E.ok.wl] at G
 rw[Nat.mul_one] at c0
 exact⟨a,h,cap,A,ae G 2,c0,I⟩
theorem StR.way (A:StR w s yb sb x) {i k:Nat} (E:i<s.roles.length) (O:k<s.roles.length):∃ a h cap rb G c cb,w.cell? ⟨sb,2,none⟩=some (.slice (some ⟨a,h,none⟩) s.roles.length cap)∧WyF a (h+i) rb G cb s.cls s.cap (x.way i k) w k s.roles.length c:=by
 obtain⟨a,h,cap,R,J,I,K⟩:=A.row E
 obtain⟨rb,G,c,rfl,cb,F,H,N⟩:=K.at (bf (d:=[]) (by rw[A.ok.wr i E];exact O))
 rw[A.ok.wr i E] at I
 rw[Nat.mul_one] at H
 exact⟨a,h,cap,rb,G,c,cb,J,I,H,F,N⟩
end
structure MvAt (w:World) (b o:Nat) (m:Mv):Prop where
 c0:w.cell? ⟨b,o,none⟩=some (.int .i64 m.kind)
 c1:w.cell? ⟨b,o+1,none⟩=some (.int .i64 m.role)
 c2:w.cell? ⟨b,o+2,none⟩=some (.int .i64 m.step)
 c3:w.cell? ⟨b,o+3,none⟩=some (.int .i64 m.place)
theorem MvAt.frm {w w':World} {b o:Nat} {m:Mv} (a:MvAt w b o m) (h:Frm [] w w'):MvAt w' b o m:=⟨h.keep a.c0,h.keep a.c1,h.keep a.c2,h.keep a.c3⟩
abbrev mvV (m:Mv):Value:=.agg #[.int .i64 m.kind,.int .i64 m.role,.int .i64 m.step,.int .i64 m.place]
def dD {α:Type} (L:List α):List (Nat × α):=L.mapIdx fun i m=>(i,m)
theorem ep {α:Type} {L:List α} {k:Nat}:(dD L)[k]?=(L[k]?).map fun m=>(k,m):=by unfold dD;rw[List.getElem?_mapIdx]
theorem du {α:Type} {L:List α}:(dD L).length=L.length:=by unfold dD;rw[List.length_mapIdx]
structure MvI (B:Nat) (v:Value) (L:List Mv) (W:World):Prop where
 b:W.heap[B]?=some (.cells #[v] 31 (0,0))
 a:Arr 4 MvAt W v L
theorem MvI.frm {B:Nat} {v:Value} {L:List Mv} {h A:World} (a:MvI B v L h) (E:Frm [] h A):MvI B v L A:=⟨E.at a.b (by simp),a.a.frm fun _ _ _ a=>a.frm E⟩
set_option maxRecDepth 100000 in
theorem jc (v:Value) (L:List Mv) (w:World) (a:Arr 4 MvAt w v L):Calls Tryz.prog 75 #[v] w (aU fun u w'=>u=.func (.func 146) #[] #[.pointer (some ⟨w.heap.size,0,none⟩)]∧MvI w.heap.size v L w'∧Frm [] w w'):=by
 have h:=vi a
 obtain⟨ao,cap,rfl⟩:=a.shape
 clear a
 go_enter Tryz.func75,Tryz.ntmps75
 go_wp2
 go_ret
 exact⟨_,rfl,rfl,⟨heap_alloc_new _ _,h.out.frm fun _ _ _ a=>a.frm ((Frm.refl [] w).alloc _)⟩,(Frm.refl [] w).alloc _⟩
set_option maxHeartbeats 2000000 in
set_option maxRecDepth 100000 in
theorem oY (B:Nat) (v:Value) (L:List Mv) (aq:L.length≤1000000) :
  Iter Fence.wide 2 Tryz.prog 146 #[.pointer (some ⟨B,0,none⟩)] (fun e:Nat × Mv=>#[.int .i64 e.1,mvV e.2]) (MvI B v L) (dD L):=by
 intro l K ah Y ag R V ai G
 have aa:=vi Y;have J:=vi R;have af:=vi V
 clear Y ag R V
 have a:=J.out _ _ G
 have c0:=ae a.b 0
 obtain⟨ao,cap,rfl⟩:=a.a.shape
 have I:=vi G
 have ab:Hid ((dD L).length=L.length):=vi du
 clear a G
 refine callsIn_of_wp Tryz.func146 rfl trivial ?_ rfl
 simp only[Tryz.ntmps146,List.size_toArray,List.length_cons,List.length_nil,Nat.reduceAdd,Nat.reduceSub,Array.replicate_succ,Array.replicate_zero,List.push_toArray,List.append_toArray,List.nil_append,List.cons_append]
 gi_wp2
 gi_loopw [7] (fun s wr=>∃ k:Nat,s=.int .i64 k∧k≤L.length∧K ((dD L).take k) wr) (fun s _=>L.length - (intOf s).toNat)
 case atStart=>exact⟨0,rfl,Nat.zero_le _,I.out⟩
 case round =>
  obtain⟨k,rfl,au,W⟩:=hrel
  have h:=vi W
  clear W I c0
  by_cases hlt:k<L.length
  ·obtain⟨x,H⟩:∃ x,L[k]?=some x:=⟨_,List.getElem?_eq_getElem hlt⟩
   have a:=J.out _ _ h.out
   obtain⟨b,o,ak,e,al,am,an,ap⟩:=a.a.at H
   cases e
   have X:(dD L)[k]?=some (k,x):=by rw[ep,H];rfl
   have E:=vi X
   clear a H X
   have N:K ((dD L).take k) (wr.alloc (.cells #[.int .i64 x.kind,.int .i64 x.role,.int .i64 x.step,.int .i64 x.place] 44)):=aa.out _ _ _ h.out ((Frm.refl _ _).alloc _)
   obtain⟨fn,tmps,assign,body,aw,U⟩:=af.out ((dD L).take k) (k,x) ((dD L).drop (k+1)) _ (bu E.out).2 N
   have ad:=vi U
   clear N U
   have av:(k:Int)<L.length:=by omega
   gi_wp2
   refine ad.out.mono ?_
   rintro e aj (⟨rfl,O⟩ | ⟨rfl,S⟩)
   ·have A:=vi O
    clear O
    gi_wp2
    go_roundw
    case rel=>exact⟨k+1,by go_num,hlt,by rw[(bu E.out).1];exact A.out⟩
    case measure=>simp[intOf];omega
   ·have A:=vi S
    clear S
    gi_wp2
    refine bodyPost_ret (results_none rfl _ _ _) rfl ?_
    exact⟨⟨_,rfl⟩,.inr ⟨_,_,_,(bu E.out).2,A.out⟩⟩
  ·obtain rfl:k=L.length:=by omega
   have ar:¬ (L.length:Int)<L.length:=by omega
   gi_wp2
   go_end0
   exact⟨⟨_,rfl⟩,.inl (by have:=h.out;rwa [← ab.out,List.take_length] at this)⟩
set_option maxRecDepth 100000 in
theorem gZ (s:SesD) (yb sb:Nat) (x:PS) (i:Int) (w:World) (h:StR w s yb sb x):Calls Tryz.prog 187 #[.pointer (some ⟨sb,0,none⟩),.int .i64 i] w (Ret (.bool (decide (0≤i) && decide (i<(s.roles.length:Int)))) (w=·)):=by
 obtain⟨E,H,a,A,-⟩:=h.out
 obtain⟨ao,cap,rfl⟩:=A.shape
 rw[cB] at a
 have G:=ae a 1
 clear a A h
 by_cases h0:0≤i
 ·rw[decide_eq_true h0]
  go_enter Tryz.func187,Tryz.ntmps187
  go_wp2
  go_ret
  exact⟨by simp,rfl⟩
 ·rw[decide_eq_false h0]
  go_enter Tryz.func187,Tryz.ntmps187
  go_wp2
  go_ret
  exact⟨rfl,rfl⟩
set_option maxHeartbeats 2000000 in
set_option maxRecDepth 100000 in
theorem qF (s:SesD) (yb fb sb i:Nat) (x:PS) (w:World) (U:SyR w s yb fb) (h:StR w s yb sb x) (E:i<s.roles.length) :
  Calls Tryz.prog 142 #[.pointer (some ⟨sb,0,none⟩),.int .i64 i] w (Ret (.tuple #[.string ((s.rol i).sts.getD (x.at i) dS).name,.int .i64 0]) (Frm [] w)):=by
 have ak:=vi (fl s yb sb x w h)
 have O:=vi (gZ s yb sb x i w h)
 rw[decide_eq_true (show (0:Int)≤(i:Int) by omega),decide_eq_true (show (i:Int)<(s.roles.length:Int) by omega)] at O
 obtain⟨rb,ai,aw,aB,aA,aC,N,ad⟩:=U.rol E
 obtain⟨R,ao,ac,az,K,W⟩:=h.act E
 have af:(s.rol i).sts[x.at i]?=some ((s.rol i).sts.getD (x.at i) dS):=bf (h.ok.pb i E)
 obtain⟨b1,ah,an,aq,G,-,-⟩:=ad.r3.sts.at af
 subst aq
 have aj:w.cell? ⟨sb,0,none⟩=some (.pointer (some ⟨yb,0,none⟩)):=by obtain⟨ax,aE,ar,-⟩:=h.out;exact ae ar 0
 have av:(i:Int)<(s.roles.length:Int):=by omega
 have aa:((x.at i:Nat):Int)<((s.rol i).sts.length:Int):=by have:=h.ok.pb i E;omega
 obtain⟨n,Y⟩:∃ n,s.roles.length=n:=⟨_,rfl⟩
 obtain⟨m,X⟩:∃ m,(s.rol i).sts.length=m:=⟨_,rfl⟩
 obtain⟨p,ab⟩:∃ p,x.at i=p:=⟨_,rfl⟩
 obtain⟨J,ag⟩:∃ J,(s.rol i).sts.getD (x.at i) dS=J:=⟨_,rfl⟩
 rw[Y] at N K av
 rw[ag] at G ⊢
 rw[ab] at aa G W
 obtain⟨ap,I,-,-,-⟩:=ad
 obtain⟨S,-,-⟩:=W
 rw[X] at I aa
 have al:Hid (∀ a,Frm [] w a→a.cell? ⟨yb,1,none⟩=some (.slice (some ⟨rb,ai,none⟩) n aw)∧a.cell? ⟨sb,1,none⟩=some (.slice (some ⟨R,ao,none⟩) n ac)∧a.cell? ⟨sb,0,none⟩=some (.pointer (some ⟨yb,0,none⟩))∧a.cell? ⟨rb,ai+i*4+1,none⟩=some (.slice (some ⟨b1,ah,none⟩) m an)∧a.cell? ⟨R,ao+i*2,none⟩=some (.int .i64 p)∧a.cell? ⟨b1,ah+p*3,none⟩=some (.string J.name)):=
  vi fun a A=>⟨A.keep N,A.keep K,A.keep aj,A.keep I,A.keep S,A.keep G⟩
 clear N K aj ap I S G Y X ab af ag U h E
 go_enter Tryz.func142,Tryz.ntmps142
 go_upto_region 5 with (first
  | (go_at_call 101;go_must (refine ak.out.mono ?_;rintro e w' ⟨rfl,rfl⟩))
  | (go_at_call 187;go_must (refine O.out.mono ?_;rintro e w' ⟨rfl,rfl⟩)))
 refine ay (by kernel_rfl) (by kernel_rfl) ?_
 repeat (first
  | go_big_quiet_skip
  | (refine wpQuiet_want (by rfl) (fun am H=>?_)
     first
      | (refine quiet_move _ (by rfl) (H _ ?_))
      | (refine quiet_assign _ (by rfl) (H _ ?_))
      | (apply Exists.intro
         refine⟨fun w' V=>?_,H _ ?_⟩
         ·(unfold Oper.quietAt
           obtain⟨aF,aG,aH,aI,aJ,aK⟩:=al.out w' V
           clear V
           go_simp
           try exact⟨rfl,rfl⟩
           try rfl))
     clear H am
     try simp only[nrm,Act.eval,nrq]))
 refine wpQuiet_nil ?_
 intro aD au
 go_wp2
 go_ret2
 exact⟨rfl,au⟩
def ctV (l:List (CtrD × Int)) (n:ByteArray):Value:=match l[(fm l n).toNat]? with
 | some c=>if 0≤fm l n then .tuple #[.int .i64 c.2,.int .i64 0] else .tuple #[.int .i64 0,.int .i64 9]
 | none=>.tuple #[.int .i64 0,.int .i64 9]
theorem lK (a:Nat) (l:List (CtrD × Int)) (n:ByteArray) (w:World) (G:Bnk w a l) (I:l.length≤1000):∃ A e,ctV l n=.tuple #[.int .i64 A,.int .i64 e]∧Calls Tryz.prog 182 #[.pointer (some ⟨a,0,none⟩),.string n] w (Ret (.tuple #[.int .i64 A,.int .i64 e]) (Frm [] w)):=by
 unfold ctV
 rcases Int.lt_or_le (fm l n) 0 with h | h
 ·refine⟨0,9,?_,sE a l n w G I h⟩
  cases l[(fm l n).toNat]? with
  | none=>rfl
  | some c=>simp only;rw[if_neg (by omega)]
 ·obtain⟨k,e,J⟩:=cO h
  have E:fm l n=k:=e
  obtain⟨c,H⟩:∃ c,l[k]?=some c:=⟨_,List.getElem?_eq_getElem J⟩
  refine⟨c.2,0,?_,o3 a l n k c w G I E H⟩
  rw[E,Int.toNat_natCast,H]
  simp only
  rw[if_pos (by omega)]
set_option maxHeartbeats 2000000 in
set_option maxRecDepth 100000 in
theorem lI (s:SesD) (yb fb sb i:Nat) (x:PS) (n:ByteArray) (w:World) (G:SyR w s yb fb) (A:StR w s yb sb x) (h:i<s.roles.length) :
  Calls Tryz.prog 190 #[.pointer (some ⟨sb,0,none⟩),.int .i64 i,.string n] w (Ret (ctV (x.ctr s i) n) (Frm [] w)):=by
 have X:=vi (qF s yb fb sb i x w G A h)
 obtain⟨R,ao,ac,E,W,I⟩:=A.act h
 obtain⟨ab,e,K,-⟩:=lK E (x.ctr s i) n w I.bnk (by have:=(gp G.ok A.ok h).1;omega)
 have Y:Hid (∀ a,Frm [] w a→Calls Tryz.prog 182 #[.pointer (some ⟨E,0,none⟩),.string n] a (Ret (.tuple #[.int .i64 ab,.int .i64 e]) (Frm [] a))):=vi fun a H=>by
  obtain⟨a',af,V,ad⟩:=lK E (x.ctr s i) n a (I.bnk.frm H) (by have:=(gp G.ok A.ok h).1;omega)
  rw[K] at V
  cases V
  exact ad
 have O:Hid (∀ a,Frm [] w a→a.cell? ⟨sb,1,none⟩=some (.slice (some ⟨R,ao,none⟩) s.roles.length ac)∧a.cell? ⟨R,ao+i*2+1,none⟩=some (.pointer (some ⟨E,0,none⟩))):=vi fun a H=>⟨H.keep W,H.keep I.c1⟩
 have ae:(i:Int)<(s.roles.length:Int):=by omega
 rw[K]
 obtain⟨m,U⟩:∃ m,s.roles.length=m:=⟨_,rfl⟩
 rw[U] at O ae
 clear I W G A h K U
 go_enter Tryz.func190,Tryz.ntmps190
 go_wp2_with (first
  | (go_at_call 142;go_must (refine X.out.mono ?_;rintro e ag ⟨rfl,J⟩;obtain⟨ai,aj⟩:=O.out _ J;have N:=vi J;clear J))
  | (go_at_call 182;go_must (refine(Y.out _ N.out).mono ?_;rintro e ah ⟨rfl,S⟩;have aa:=vi (N.out.trans S);clear S)))
 go_ret2
 exact⟨rfl,aa.out⟩
set_option maxHeartbeats 2000000 in
set_option maxRecDepth 100000 in
theorem lJ (s:SesD) (yb sb i k:Nat) (x:PS) (w:World) (a:StR w s yb sb x) (J:i<s.roles.length) (K:k<s.roles.length) (S:i≠k) :
  Calls Tryz.prog 188 #[.pointer (some ⟨sb,0,none⟩),.int .i64 i,.int .i64 k] w (aU fun v w'=>∃ u,v=.tuple #[u,.int .i64 0]∧o4 w (x.way i k) u w'):=by
 have O:=vi (fl s yb sb x w a)
 have h:=vi (gZ s yb sb x i w a)
 have A:=vi (gZ s yb sb x k w a)
 rw[decide_eq_true (show (0:Int)≤(i:Int) by omega),decide_eq_true (show (i:Int)<(s.roles.length:Int) by omega)] at h
 rw[decide_eq_true (show (0:Int)≤(k:Int) by omega),decide_eq_true (show (k:Int)<(s.roles.length:Int) by omega)] at A
 obtain⟨aa,ab,cap,rb,ae,c,cb,X,W⟩:=a.way J K
 obtain⟨w0,af,F,I⟩:=W
 have G:=vi (iQ I)
 have U:(i:Int)<(s.roles.length:Int):=by omega
 have V:(k:Int)<(s.roles.length:Int):=by omega
 have ad:((i:Int) == (k:Int))=false:=by rw[beq_eq_false_iff_ne];omega
 obtain⟨m,N⟩:∃ m,s.roles.length=m:=⟨_,rfl⟩
 rw[N] at U V X w0
 obtain⟨L,H⟩:∃ L,x.way i k=L:=⟨_,rfl⟩
 rw[H] at G ⊢
 clear I a J K S N H
 go_enter Tryz.func188,Tryz.ntmps188
 go_wp2_with (first
  | (go_at_call 101;go_must (refine O.out.mono ?_;rintro e w' ⟨rfl,rfl⟩))
  | (go_at_call 187;go_must (first
   | (refine h.out.mono ?_;clear h;rintro e w' ⟨rfl,rfl⟩)
   | (refine A.out.mono ?_;clear A;rintro e w' ⟨rfl,rfl⟩)))
  | (go_at_call 154;go_must (refine G.out.mono ?_;rintro e ag ⟨v,rfl,E⟩;obtain⟨ao,Y,rfl,-,-⟩:=E.1.shape;have R:=vi E;clear E)))
 go_ret2
 exact⟨_,rfl,_,rfl,R.out⟩
end Go.Proofs.YtohfkhjlnlahdaaGreat
namespace Go.Proofs.YtohfkhjlnlahdaaGreat
open Go.RowKit Go.BigFrame
abbrev dK (m:Mv):Array Value:=#[.int .i64 m.kind,.int .i64 m.role,.int .i64 m.step,.int .i64 m.place]
theorem Tryz.undMv:Tryz.prog.underlying 44=some (.struct (Tryz.prog.fieldsOf 44)):=by kernel_rfl
set_option maxHeartbeats 1000000 in
set_option maxRecDepth 100000 in
theorem rl (a b:Mv) (w:World):(binOp .eql 44 (.agg (dK a)) (.agg (dK b))).run Tryz.prog w=.ok (.bool (decide (a=b))) w:=by
 have h:(Op.equalIn (9999+1) 44 (.agg (dK a)) (.agg (dK b))).run Tryz.prog w=.ok (decide (a=b)) w:=by
  rw[run_equalIn_struct w 9999 44 _ _ Tryz.undMv (by kernel_rfl)]
  simp[go_sem,dK,Tryz.underlying44]
  obtain⟨A,E,G,H⟩:=a
  obtain⟨b1,b2,I,J⟩:=b
  simp only[Mv.mk.injEq]
  repeat' split
  all_goals simp[*]
 simp only[binOp]
 simp[show Op.equal 44 (.agg (dK a)) (.agg (dK b))=Op.equalIn (9999+1) 44 (.agg (dK a)) (.agg (dK b)) from rfl,h]
set_option maxHeartbeats 1000000 in
theorem n8 (v:Value) (h:List Mv) (y:Mv) (w:World) (ah:Arr 4 MvAt w v h) (ai:h.length≤5000) :
  Calls Tryz.prog 121 #[v,.agg (dK y)] w (Ret (.int .i64 (ixf (fun x=>decide (y=x)) h)) (Frm [] w)):=by
 obtain⟨ao,cap,rfl,a⟩:=ah
 have af:=vi a
 obtain⟨n,R⟩:∃ n,h.length=n:=⟨_,rfl⟩
 rw[R] at ai ⊢
 have V:=vi R
 obtain⟨E,I⟩:∃ E,w.alloc (.cells (dK y) 44)=E:=⟨_,rfl⟩
 have O:Hid (Frm [] w E):=vi (by rw[← I];exact(Frm.refl _ _).alloc _)
 have ad:Hid (E.heap[w.heap.size]?=some (.cells (dK y) 44 (0,0))):=vi (by rw[← I];exact heap_alloc_new w _)
 have U:=vi I
 clear a R I
 go_enter Tryz.func121,Tryz.ntmps121
 go_wp2_with (refine aH rfl 44 _ rfl (dK y) rfl ?_;rw[U.out])
 clear U
 go_loopw [8,5] (fun s8 s5 wr=>∃ i:Nat,s8=.int .i64 i∧i≤n∧Frm [] E wr∧∀ j x,j<i→h[j]?=some x→decide (y=x)=false) (fun s8 _ _=>n - (intOf s8).toNat)
 case atStart=>exact⟨0,rfl,Nat.zero_le _,Frm.refl _ _,fun j x J=>by omega⟩
 case round =>
  obtain⟨i,rfl,au,Y,aa⟩:=hrel
  have A:=vi Y;have K:=vi aa
  clear Y aa
  by_cases hlt:i<n
  ·have av:(i:Int)<(n:Int):=by omega
   obtain⟨x,a⟩:∃ x,h[i]?=some x:=⟨_,List.getElem?_eq_getElem (by rw[V.out];exact hlt)⟩
   obtain⟨b,o,rfl,X⟩:=af.out i x a
   obtain⟨c0,aj,ak,al⟩:=X.frm (O.out.trans A.out)
   have G:=A.out.at ad.out (by simp)
   have am:wr.cell? ⟨w.heap.size,0,none⟩=some (.int .i64 y.kind):=ae G 0
   have an:wr.cell? ⟨w.heap.size,1,none⟩=some (.int .i64 y.role):=ae G 1
   have ap:wr.cell? ⟨w.heap.size,2,none⟩=some (.int .i64 y.step):=ae G 2
   have aq:wr.cell? ⟨w.heap.size,3,none⟩=some (.int .i64 y.place):=ae G 3
   have ab:∀ H,(binOp .eql 44 (mvV y) (mvV x)).run Tryz.prog H=.ok (.bool (decide (y=x))) H:=fun H=>rl y x H
   have W:=vi a
   clear X a G
   cases hpx:decide (y=x) with
   | true =>
     rw[hpx] at ab
     have N:=vi hpx
     clear hpx
     go_wp2
     go_quiet (fail)
     go_wp2
     go_ret
     exact⟨by rw[cj W.out N.out K.out];rfl,O.out.trans (A.out.drewN _)⟩
   | false =>
     rw[hpx] at ab
     have N:=vi hpx
     clear hpx
     go_wp2
     go_quiet (fail)
     go_wp2
     refine⟨⟨i+1,by simp,hlt,A.out.drewN _,fun j z J S=>?_⟩,by simp[intOf];omega⟩
     by_cases e:j=i
     ·subst e;rw[W.out] at S;cases S;exact N.out
     ·exact K.out j z (by omega) S
  ·have ar:¬ (i:Int)<(n:Int):=by omega
   go_wp2
   go_ret
   refine⟨?_,O.out.trans A.out⟩
   have e:=cn (p:=fun x=>decide (y=x)) (l:=h) fun x a=>by
    obtain⟨j,J⟩:=List.getElem?_of_mem a
    exact K.out j x (by have:=ag J;rw[V.out] at this;omega) J
   rw[e];rfl
theorem tk {a:List Mv} {y:Mv}:decide (0≤ixf (fun x=>decide (y=x)) a)=decide (y∈a):=by
 by_cases h:y∈a
 ·rw[decide_eq_true (fQ (p:=fun x=>decide (y=x)) h (by simp)),decide_eq_true h]
 ·rw[decide_eq_false h,decide_eq_false]
  intro E
  obtain⟨i,H,-⟩:=cO E
  obtain⟨x,G,A,-⟩:=ef H
  rw[decide_eq_true_eq] at A
  subst A
  exact h (List.mem_of_getElem? G)
set_option maxHeartbeats 1000000 in
theorem jz (v:Value) (a:List Mv) (y:Mv) (w:World) (h:Arr 4 MvAt w v a) (S:a.length≤5000) :
  Calls Tryz.prog 62 #[v,.agg (dK y)] w (Ret (.bool (decide (y∈a))) (Frm [] w)):=by
 obtain⟨ao,cap,e,-⟩:=id h
 subst e
 have G:Frm [] w (w.alloc (.cells (dK y) 44)):=(Frm.refl _ _).alloc _
 have A:=vi (n8 (.slice ao a.length cap) a y (w.alloc (.cells (dK y) 44)) (h.frm fun _ _ _ h=>h.frm G) S)
 have H:=vi G
 rw[← tk]
 obtain⟨q,K⟩:∃ q,ixf (fun x=>decide (y=x)) a=q:=⟨_,rfl⟩
 rw[K] at A ⊢
 have hb:(w.alloc (.cells (dK y) 44)).heap[w.heap.size]?=some (.cells (dK y) 44 (0,0)):=heap_alloc_new w _
 obtain⟨I,E⟩:∃ I,w.alloc (.cells (dK y) 44)=I:=⟨_,rfl⟩
 rw[E] at A H hb
 have N:=vi hb
 have R:=vi E
 clear h G K E hb
 go_enter Tryz.func62,Tryz.ntmps62
 go_wp2_with (first
  | (refine aH rfl 44 _ rfl (dK y) rfl ?_;rw[R.out])
  | (refine af rfl 44 _ rfl _ rfl _ 44 N.out _ Tryz.underlying44 rfl (by kernel_rfl) ?_)
  | (go_at_call 121;go_must (refine A.out.mono ?_;rintro e U ⟨rfl,J⟩;have O:=vi J;clear J)))
 go_ret
 exact⟨rfl,H.out.trans O.out⟩
end Go.Proofs.YtohfkhjlnlahdaaGreat
namespace Go.Proofs.YtohfkhjlnlahdaaGreat
open Go.RowKit Go.BigFrame
def uq (w:World) (s:SesD) (yb:Nat) (y:PS) (v:Value) (w':World):Prop:=∃ xb,v=.tuple #[.pointer (some ⟨xb,0,none⟩),.int .i64 0]∧StR w' s yb xb y∧Frm [] w w'
section
variable {w W W':World} {s:SesD} {x:PS} {yb xb ab gb rb cb f t:Nat} {F F':List Nat} {L L':List ByteArray}
theorem ChS.step (a:ChS w s x yb xb ab gb rb cb f t F L W) (H:PSok s x) (R:f<s.roles.length) (ax:t<s.roles.length) {i b g p:Nat} {aj:List Int} (X:i<s.roles.length) (aB:BnkO W b g ((s.rol i).ctrs.zip aj)) (hb:b≠ab) (au:g≠ab) {y:PS}
  (ay:y={ pos:=x.pos.set i p,vals:=x.vals.set i aj,ways:=setWay x.ways f t L }) (av:PSok s y) :
  StR ((W.setCell ⟨ab,i*2,none⟩ (.int .i64 (p:Int))).setCell ⟨ab,i*2+1,none⟩ (.pointer (some ⟨b,0,none⟩))) s yb xb y∧Frm [] w ((W.setCell ⟨ab,i*2,none⟩ (.int .i64 (p:Int))).setCell ⟨ab,i*2+1,none⟩ (.pointer (some ⟨b,0,none⟩))):=by
 obtain⟨an,am,af,-⟩:=a.ways H R ax
 obtain⟨cur,E⟩:=a.ha
 have G:Frm [ab] W ((W.setCell ⟨ab,i*2,none⟩ (.int .i64 (p:Int))).setCell ⟨ab,i*2+1,none⟩ (.pointer (some ⟨b,0,none⟩))):=((Frm.refl [ab] W).setCell _ (.inl (by simp)) _).setCell _ (.inl (by simp)) _
 have O:=ap (ap E (i*2) (.int .i64 (p:Int))) (i*2+1) (.pointer (some ⟨b,0,none⟩))
 obtain⟨U,ar⟩:∃ U,(W.setCell ⟨ab,i*2,none⟩ (.int .i64 (p:Int))).setCell ⟨ab,i*2+1,none⟩ (.pointer (some ⟨b,0,none⟩))=U:=⟨_,rfl⟩
 rw[ar] at G O ⊢
 have aA:xb∉[ab]:=fun e=>by simp at e;subst e;rw[af] at E;cases E
 obtain⟨⟨aH,aJ,aD⟩,aI,aK,aE⟩:=a.types
 have ah:gb∉[ab]:=fun e=>by simp at e;subst e;rw[aD] at E;cases E
 have ai:rb∉[ab]:=fun e=>by simp at e;subst e;rw[aE] at E;cases E
 have az:∀ k∈F,k∉[ab]:=fun k I e=>by
  obtain⟨c,ad,A,h⟩:=a.chn.types I
  simp at e;subst e
  rw[E] at A;cases A
  revert h;decide
 have S:Frm [] w U:=a.fr.then G (by intro k I;simp at I;subst I;exact .inr a.new.2.1)
 obtain⟨aq,aw⟩:=a.rowf
 have aL:ChS w s x yb xb ab gb rb cb f t F L W→True:=fun _=>trivial
 have aM:i*2+1<cur.size:=by
  obtain⟨aa,A,h,-⟩:=a.act i X
  rw[ae E] at h
  exact(Array.getElem?_eq_some_iff.1 h).1
 subst ay
 refine⟨⟨⟨_,_,G.at af aA,⟨some ⟨ab,0,none⟩,am,by rw[cB],fun j aG Y=>⟨ab,0,rfl,?_⟩⟩,some ⟨gb,0,none⟩,an,by rw[dk,H.wl],fun j aF J=>⟨gb,0,rfl,?_⟩⟩,av⟩,S⟩
 ·have N:j<s.roles.length:=by have:=ag Y;rwa [cB] at this
  rw[fM N] at Y
  cases Y
  rw[Nat.zero_add]
  by_cases e:j=i
  ·subst e
   refine⟨b,?_,?_,?_⟩
   ·rw[ae O,Array.getElem?_setIfInBounds_ne (by omega),Array.getElem?_setIfInBounds_self_of_lt (by omega)]
    simp only[PS.at]
    rw[List.getD_eq_getElem?_getD,List.getElem?_set_self (by rw[H.pl];exact X)]
    rfl
   ·rw[ae O,Array.getElem?_setIfInBounds_self_of_lt (by simp;omega)]
   ·have:=aB.frm G (by simpa using hb) (by simpa using au)
    simp only[PS.ctr,PS.bank]
    rw[List.getD_eq_getElem?_getD,List.getElem?_set_self (by rw[H.vl];exact X)]
    exact this.bnk
  ·obtain⟨aa,A,h,al⟩:=a.act j N
   rw[ae E] at A h
   refine⟨aa,?_,?_,?_⟩
   ·rw[ae O,Array.getElem?_setIfInBounds_ne (by omega),Array.getElem?_setIfInBounds_ne (by omega),A]
    simp only[PS.at]
    rw[List.getD_eq_getElem?_getD,List.getD_eq_getElem?_getD,List.getElem?_set_ne (fun a=>e a.symm)]
   ·rw[ae O,Array.getElem?_setIfInBounds_ne (by omega),Array.getElem?_setIfInBounds_ne (by omega),h]
   ·have V:=al.frm S
    unfold PS.ctr PS.bank at V ⊢
    rw[List.getD_eq_getElem?_getD] at V
    simp only
    rw[List.getD_eq_getElem?_getD,List.getElem?_set_ne (fun a=>e a.symm)]
    exact V
 ·have N:=ag J
  rw[dk,H.wl] at N
  rw[Nat.zero_add,Nat.mul_one]
  unfold setWay at J
  rw[List.getElem?_set] at J
  by_cases e:f=j
  ·subst e
   rw[if_pos rfl,if_pos (by rw[H.wl];exact N)] at J
   cases J
   refine⟨_,G.cellAt aw ah,some ⟨rb,0,none⟩,aq,by rw[List.length_set,H.wr f R],fun k M K=>⟨rb,0,rfl,?_⟩⟩
   have I:=ag K
   rw[List.length_set,H.wr f R] at I
   rw[Nat.zero_add,Nat.mul_one]
   rw[List.getElem?_set] at K
   by_cases e2:t=k
   ·subst e2
    rw[if_pos rfl,if_pos (by rw[H.wr f R];exact I)] at K
    cases K
    exact⟨cb,F,G.cellAt a.cht ai,a.chn.frm G az⟩
   ·rw[if_neg e2] at K
    obtain⟨c,ak,A,h⟩:=a.chs k I (fun e=>e2 e.symm)
    have:x.way f k=M:=by unfold PS.way fE;exact aW K
    rw[this] at h
    exact⟨c,ak,G.cellAt A ai,h.frm S (by simp)⟩
  ·rw[if_neg e] at J
   obtain⟨aC,A,h⟩:=a.row j N (fun ad=>e ad.symm)
   rw[aW J] at h
   exact⟨aC,G.cellAt A ah,h.frm S⟩
end
theorem mL {a:List (List (List ByteArray))} {i k:Nat} (h:i<a.length) (A:k<(a.getD i []).length):setWay a i k (fE a i k)=a:=by
 unfold setWay fE
 have E:(a.getD i []).set k ((a.getD i []).getD k [])=a.getD i []:=by
  apply List.ext_getElem?
  intro j
  rw[List.getElem?_set]
  by_cases e:k=j
  ·subst e;rw[if_pos rfl,if_pos A];exact(bf A).symm
  ·rw[if_neg e]
 rw[E]
 apply List.ext_getElem?
 intro j
 rw[List.getElem?_set]
 by_cases e:i=j
 ·subst e;rw[if_pos rfl,if_pos h];exact(bf h).symm
 ·rw[if_neg e]
end Go.Proofs.YtohfkhjlnlahdaaGreat
namespace Go.Proofs.YtohfkhjlnlahdaaGreat
open Go.RowKit Go.BigFrame Go.Maps
def im (d:Nd × Nat):List Value:=[.pointer (some ⟨d.2,0,none⟩),.int .i64 d.1.par,.int .i64 d.1.mv.kind,.int .i64 d.1.mv.role,.int .i64 d.1.mv.step,.int .i64 d.1.mv.place,.int .i64 d.1.lvl]
abbrev ndV (d:Nd × Nat):Value:=.agg #[.pointer (some ⟨d.2,0,none⟩),.int .i64 d.1.par,.int .i64 d.1.mv.kind,.int .i64 d.1.mv.role,.int .i64 d.1.mv.step,.int .i64 d.1.mv.place,.int .i64 d.1.lvl]
def ndC (N:List (Nd × Nat)):List Value:=N.flatMap im
theorem oM (N:List (Nd × Nat)):(ndC N).length=N.length*7:=by
 induction N with
 | nil=>rfl
 | cons d N ih=>unfold ndC at ih ⊢;rw[List.flatMap_cons,List.length_append,ih];simp[im];omega
theorem oN (a B:List (Nd × Nat)):ndC (a++B)=ndC a++ndC B:=by unfold ndC;rw[List.flatMap_append]
theorem tR (d:Nd × Nat):ndC [d]=im d:=by unfold ndC;simp
theorem uD {N:List (Nd × Nat)}:∀ {i:Nat} {d:Nd × Nat},N[i]?=some d→∀ j,j<7→(ndC N)[i*7+j]?=(im d)[j]?:=by
 induction N with
 | nil=>intro i d a;simp at a
 | cons h N ih =>
   intro i d a j E
   have e:ndC (h :: N)=im h++ndC N:=rfl
   have A:(im h).length=7:=rfl
   rw[e]
   cases i with
   | zero=>simp at a;subst a;rw[List.getElem?_append_left (by omega)];congr 1;omega
   | succ i=>rw[List.getElem?_append_right (by omega),A,show (i+1)*7+j - 7=i*7+j by omega];exact ih (by simpa using a) j E
structure NdAt (W:World) (b o:Nat) (d:Nd × Nat):Prop where
 c0:W.cell? ⟨b,o,none⟩=some (.pointer (some ⟨d.2,0,none⟩))
 c1:W.cell? ⟨b,o+1,none⟩=some (.int .i64 d.1.par)
 c2:W.cell? ⟨b,o+2,none⟩=some (.int .i64 d.1.mv.kind)
 c3:W.cell? ⟨b,o+3,none⟩=some (.int .i64 d.1.mv.role)
 c4:W.cell? ⟨b,o+4,none⟩=some (.int .i64 d.1.mv.step)
 c5:W.cell? ⟨b,o+5,none⟩=some (.int .i64 d.1.mv.place)
 c6:W.cell? ⟨b,o+6,none⟩=some (.int .i64 d.1.lvl)
theorem NdAt.frm {W V:World} {b o:Nat} {d:Nd × Nat} (a:NdAt W b o d) (h:Frm [] W V):NdAt V b o d:=⟨h.keep a.c0,h.keep a.c1,h.keep a.c2,h.keep a.c3,h.keep a.c4,h.keep a.c5,h.keep a.c6⟩
theorem qz {W:World} {base:Nat} {v:Value} {N:List (Nd × Nat)} (a:W.ownsRow base 216 7 v N.length (ndC N)):Arr 7 NdAt W v N:=by
 obtain⟨ao,cap,rfl⟩:=an a
 refine⟨ao,cap,rfl,fun i d A=>?_⟩
 have I:=ag A
 obtain⟨g,c,cur,e,-,-⟩:=aZ a (by omega)
 cases e
 have G:=fun j h=>World.ownsRow.cellAt a j h
 have E:=uD A
 have J:=oM N
 refine⟨g,0,rfl,?_⟩
 rw[Nat.zero_add]
 have k:∀ j u,j<7→(im d)[j]?=some u→W.cell? ⟨g,i*7+j,none⟩=some u:=fun j u h H=>(G _ (by omega)).trans ((E j h).trans H)
 exact⟨k 0 _ (by omega) rfl,k 1 _ (by omega) rfl,k 2 _ (by omega) rfl,k 3 _ (by omega) rfl,k 4 _ (by omega) rfl,k 5 _ (by omega) rfl,k 6 _ (by omega) rfl⟩
def dH (s:SesD) (N:List Nd) (k:List UInt8):Option Nat:=N.findIdx? fun d=>decide (cY s d.st=k)
def gX (s:SesD) (N:List Nd):Lit→Option Value
 | .string k=>(dH s N k).map fun i=>.int .i64 (i:Nat)
 | _=>none
theorem eL {s:SesD} {N:List Nd} {k:List UInt8}:(dH s N k).isSome=eP s N k:=by
 unfold dH eP
 rw[List.findIdx?_isSome]
theorem qy (s:SesD):gX s []=fun _=>none:=by
 funext k
 cases k <;> rfl
theorem qq {s:SesD} {N:List Nd} {d:Nd} (A:eP s N (cY s d.st)=false):gX s (N++[d])=nQ (gX s N) (.string (cY s d.st)) (some (.int .i64 (N.length:Nat))):=by
 funext k
 by_cases e:k=.string (cY s d.st)
 ·subst e
  rw[dU]
  have a:dH s N (cY s d.st)=none:=by rw[← Option.not_isSome_iff_eq_none,eL,A];simp
  unfold dH at a
  simp only[gX,dH,List.findIdx?_append,a]
  simp[List.findIdx?_cons]
 ·rw[dr _ _ e]
  cases k with
  | string b =>
    have E:¬ cY s d.st=b:=fun h=>e (by rw[h])
    simp only[gX,dH,List.findIdx?_append]
    simp[List.findIdx?_cons,E]
  | _=>rfl
def NdG (W:World) (u:Value):Prop:=(∀ x,u≠.string x)∧(∀ a n c,u≠.slice a n c)∧∀ p,u=.pointer (some ⟨p,0,none⟩)→Ty W p 147
theorem NdG.frm {W V:World} {F:List Nat} {u:Value} (a:NdG W u) (h:Frm F W V) (A:∀ p,Ty W p 147→p∉F):NdG V u:=⟨a.1,a.2.1,fun p e=>(a.2.2 p e).frm h (A p (a.2.2 p e))⟩
structure SpR (w:World) (s:SesD) (yb:Nat) (lim:Int) (whole:Bool) (qb mb:Nat) (N:List (Nd × Nat)) (W:World):Prop where
 fr:Frm [] w W
 lq:w.heap.size≤qb
 lm:w.heap.size≤mb
 bx:∃ ao cap,W.heap[qb]?=some (.cells #[.int .i64 lim,.bool whole,.slice ao N.length cap,.map (some mb)] 214 (0,0))∧W.ownsRow w.heap.size 216 7 (.slice ao N.length cap) N.length (ndC N)∧jQ (NdG W) 216 (.slice ao N.length cap) W
 mp:MapAt Tryz.prog 9 W (some mb) N.length (gX s (N.map Prod.fst)) N.length
 st:∀ d∈N,StR W s yb d.2 d.1.st
structure SpO (W:World) (s:SesD) (yb:Nat) (whole:Bool) (pb:Nat) (N:List (Nd × Nat)):Prop where
 out:∃ qb mb lim ao cap,W.heap[pb]?=some (.cells #[.pointer (some ⟨qb,0,none⟩)] 219 (0,0))∧W.heap[qb]?=some (.cells #[.int .i64 lim,.bool whole,.slice ao N.length cap,.map (some mb)] 214 (0,0)) ∧
  Arr 7 NdAt W (.slice ao N.length cap) N∧MapAt Tryz.prog 9 W (some mb) N.length (gX s (N.map Prod.fst)) N.length
 st:∀ d∈N,StR W s yb d.2 d.1.st
def RowOf (W:World) (qb k:Nat):Prop:=∃ a b v m,W.heap[qb]?=some (.cells #[a,b,v,m] 214 (0,0))∧v.ownBlock=some k
def SpB (W:World) (qb b:Nat):Prop:=FgB W b∧((∃ a c,W.heap[b]?=some (.map a c))∨Ty W b 214∨(Ty W b 216∧RowOf W qb b))
theorem jJ {W:World} {b o:Nat} {a:Array MapEntry} {c:Nat} (h:W.heap[b]?=some (.map a c)):W.cell? ⟨b,o,none⟩=none:=by simp[World.cell?,h]
section
variable {w W V:World} {s:SesD} {yb qb mb pb:Nat} {lim:Int} {whole:Bool} {N:List (Nd × Nat)}
theorem SpR.frm (h:SpR w s yb lim whole qb mb N W) (a:Frm [] W V):SpR w s yb lim whole qb mb N V:=by
 obtain⟨ao,cap,I,A,J⟩:=h.bx
 refine⟨h.fr.trans a,h.lq,h.lm,⟨ao,cap,a.at I (by simp),a.owns A (by simp),fun g cur H E u O=>?_⟩,h.mp.frm a (by simp),fun d K=>(h.st d K).frm a⟩
 obtain⟨c,G⟩:=ak A H
 have:=a.at G (by simp)
 rw[this] at E
 cases E
 exact(J g _ H G u O).frm a (by simp)
theorem SpO.frm (h:SpO W s yb whole pb N) (a:Frm [] W V):SpO V s yb whole pb N:=by
 obtain⟨qb,mb,lim,ao,cap,A,E,G,H⟩:=h.out
 exact⟨⟨qb,mb,lim,ao,cap,a.at A (by simp),a.at E (by simp),G.frm fun _ _ _ h=>h.frm a,H.frm a (by simp)⟩,fun d I=>(h.st d I).frm a⟩
theorem SpR.done (a:SpR w s yb lim whole qb mb N W) (E:W.heap[pb]?=some (.cells #[.pointer (some ⟨qb,0,none⟩)] 219 (0,0))):SpO W s yb whole pb N:=by
 obtain⟨ao,cap,h,A,G⟩:=a.bx
 exact⟨⟨qb,mb,lim,ao,cap,E,h,qz A,a.mp⟩,a.st⟩
theorem SpR.fgm (a:SpR w s yb lim whole qb mb N W):SpB W qb mb:=by
 obtain⟨h,c,hb⟩:=a.mp.block rfl
 exact⟨⟨fun C t e=>(by rw[hb] at e;cases e),fun o x e=>(by rw[jJ hb] at e;cases e),fun o p e=>(by rw[jJ hb] at e;cases e),fun o g A p n c e=>(by rw[jJ hb] at e;cases e)⟩,.inl ⟨_,_,hb⟩⟩
theorem SpR.fgq (I:SpR w s yb lim whole qb mb N W):SpB W qb qb:=by
 obtain⟨ao,cap,a,J,K⟩:=I.bx
 have c:=fun o=>ae a o
 refine⟨⟨fun C t e=>?_,fun o x e=>?_,fun o p e=>?_,fun o g S p n R e A=>?_⟩,.inr (.inl ⟨_,a⟩)⟩
 ·rw[a] at e;cases e;decide
 ·rw[c] at e
  match o,e with
  | 0,e=>cases e
  | 1,e=>cases e
  | 2,e=>cases e
  | 3,e=>cases e
  | o+4,e=>simp at e
 ·rw[c] at e
  match o,e with
  | 0,e=>cases e
  | 1,e=>cases e
  | 2,e=>cases e
  | 3,e=>cases e
  | o+4,e=>simp at e
 ·rw[c] at e
  match o,e with
  | 0,e=>cases e
  | 1,e=>cases e
  | 2,e =>
    cases e
    obtain⟨H,G⟩:=ak J rfl
    have h:∃ u∈H,u=Value.pointer (some ⟨p,0,none⟩):=by
     rw[ae G] at A
     exact⟨_,Array.mem_of_getElem? A,rfl⟩
    obtain⟨u,h,rfl⟩:=h
    obtain⟨d,O⟩:=(K g _ rfl G _ h).2.2 p rfl
    intro C t E
    rw[O] at E;cases E
    decide
  | 3,e=>cases e
  | o+4,e=>simp at e
theorem SpR.fgr {ao:Option Addr} {cap g:Nat} (E:W.heap[qb]?=some (.cells #[.int .i64 lim,.bool whole,.slice ao N.length cap,.map (some mb)] 214 (0,0))) (G:W.ownsRow w.heap.size 216 7 (.slice ao N.length cap) N.length (ndC N)) (H:jQ (NdG W) 216 (.slice ao N.length cap) W) (h:(Value.slice ao N.length cap).ownBlock=some g):SpB W qb g:=by
 obtain⟨J,a⟩:=ak G h
 have k:∀ o u,W.cell? ⟨g,o,none⟩=some u→NdG W u:=fun o u e=>by
  rw[ae a] at e
  exact H g _ h a u (Array.mem_of_getElem? e)
 refine⟨⟨fun C t e=>?_,fun o x e=>(k o _ e).1 x rfl,fun o p e C t A=>?_,fun o g K p n c e=>absurd rfl ((k o _ e).2.1 _ _ _)⟩,.inr (.inr ⟨⟨_,a⟩,_,_,_,_,E,h⟩)⟩
 ·rw[a] at e;cases e;decide
 ·obtain⟨D,I⟩:=(k o _ e).2.2 p rfl
  rw[I] at A;cases A
  exact⟨by decide,by decide⟩
theorem SpB.at {F:List Nat} (hb:∀ b∈F,SpB W qb b) (G:Frm F W V) {k:Nat} {C:Array Value} {t:TypeId} (h:W.heap[k]?=some (.cells C t (0,0))) (E:t≠214) (a:t≠216∨¬ RowOf W qb k):V.heap[k]?=some (.cells C t (0,0)):=
 G.at h fun H=>by
  rcases (hb k H).2 with ⟨I,c,e⟩ | ⟨D,e⟩ | ⟨⟨D,e⟩,A⟩ <;> rw[h] at e <;> cases e
  ·exact E rfl
  ·rcases a with a | a
   ·exact a rfl
   ·exact a A
theorem SpB.fg {F:List Nat} (hb:∀ b∈F,SpB W qb b):∀ b∈F,FgB W b:=fun b a=>(hb b a).1
theorem SpR.spB {ao:Option Addr} {cap:Nat} (a:SpR w s yb lim whole qb mb N W) (b1:W.heap[qb]?=some (.cells #[.int .i64 lim,.bool whole,.slice ao N.length cap,.map (some mb)] 214 (0,0))) (b2:W.ownsRow w.heap.size 216 7 (.slice ao N.length cap) N.length (ndC N)) (h:jQ (NdG W) 216 (.slice ao N.length cap) W):∀ b∈mb :: qb :: (Value.slice ao N.length cap).ownBlock.toList,SpB W qb b:=fun b hb=>by
 rcases List.mem_cons.1 hb with rfl | hb
 ·exact a.fgm
 rcases List.mem_cons.1 hb with rfl | hb
 ·exact a.fgq
 rw[Option.mem_toList] at hb
 exact SpR.fgr b1 b2 h hb
theorem SpR.add {aq Y A:World} {d:Nd} {sb:Nat} {ao:Option Addr} {cap:Nat} {v':Value} (G:SpR w s yb lim whole qb mb N W) (aG:0<s.roles.length) (aQ:StR W s yb sb d.st) (K:eP s (N.map Prod.fst) (cY s d.st)=false)
  (b1:W.heap[qb]?=some (.cells #[.int .i64 lim,.bool whole,.slice ao N.length cap,.map (some mb)] 214 (0,0))) (b2:W.ownsRow w.heap.size 216 7 (.slice ao N.length cap) N.length (ndC N)) (aJ:jQ (NdG W) 216 (.slice ao N.length cap) W)
  (O:MapAt Tryz.prog 9 aq (some mb) (N.length+1) (nQ (gX s (N.map Prod.fst)) (.string (cY s d.st)) (some (.int .i64 (N.length:Nat)))) (N.length+1)) (ab:Frm [mb] W aq) (I:Frm [] aq Y)
  (ah:Y.grownBy A (Value.slice ao N.length cap).ownBlock) (al:A.ownsRow w.heap.size 216 7 v' (N.length+1) (ndC N++im (d,sb))) (aO:jQ (NdG Y) 216 v' A) :
  SpR w s yb lim whole qb mb (N++[(d,sb)]) (A.setCell ⟨qb,2,none⟩ v')∧Frm (mb :: qb :: (Value.slice ao N.length cap).ownBlock.toList) W (A.setCell ⟨qb,2,none⟩ v')∧(A.setCell ⟨qb,2,none⟩ v').heap[qb]?=some (.cells #[.int .i64 lim,.bool whole,v',.map (some mb)] 214 (0,0)):=by
 obtain⟨F,H⟩:∃ F,F=mb :: qb :: (Value.slice ao N.length cap).ownBlock.toList:=⟨_,rfl⟩
 have aC:∀ b∈F,SpB W qb b:=fun b hb=>G.spB b1 b2 aJ b (by rwa [H] at hb)
 obtain⟨aK,c,af⟩:=G.mp.block rfl
 have aE:qb≠mb:=fun e=>by subst e;rw[b1] at af;cases af
 have aX:(Value.slice ao N.length cap).ownBlock≠some qb:=fun e=>by
  obtain⟨c,a⟩:=ak b2 e
  rw[b1] at a;cases a
 have aN:Y.heap[qb]?=some (.cells #[.int .i64 lim,.bool whole,.slice ao N.length cap,.map (some mb)] 214 (0,0)):=I.at (ab.at b1 (by simpa using aE)) (by simp)
 have aw:=bJ ah aN aX
 have aH:v'.ownBlock≠some qb:=fun e=>by
  obtain⟨c,a⟩:=ak al e
  rw[aw] at a;cases a
 obtain⟨ar,au,rfl⟩:=an al
 obtain⟨S,ae⟩:∃ S,A.setCell ⟨qb,2,none⟩ (.slice ar (N.length+1) au)=S:=⟨_,rfl⟩
 have aM:Frm F W A:=((ab.mono (F':=F) (by rw[H];simp)).then I (by simp)).grown ah fun k K=>.inl (by rw[H];simp[K])
 have ad:Frm F W S:=by rw[← ae];exact aM.setCell _ (.inl (by rw[H];simp)) _
 have ax:=SpB.fg aC
 have aW:∀ {X:World},Frm F W X→∀ p,Ty W p 147→Ty X p 147:=fun aR p am=>am.frm aR fun O=>by
  obtain⟨D,J⟩:=am
  exact FgB.ne ax J (by simp[lA]) O
 have av:Frm [qb] A S:=by rw[← ae];exact(Frm.refl _ _).setCell _ (.inl (by simp)) _
 have aA:S.heap[qb]?=some (.cells #[.int .i64 lim,.bool whole,.slice ar (N.length+1) au,.map (some mb)] 214 (0,0)):=by rw[← ae];exact(ap aw 2 _).trans rfl
 have ai:(N++[(d,sb)]).length=N.length+1:=by simp
 have aL:Frm F W Y:=(ab.mono (F':=F) (by rw[H];simp)).then I (by simp)
 have aS:Frm [] w S:=G.fr.then ad fun x R=>.inr (by
  rw[H] at R
  rcases List.mem_cons.1 R with rfl | R
  ·exact G.lm
  rcases List.mem_cons.1 R with rfl | R
  ·exact G.lq
  rw[Option.mem_toList] at R
  exact aF b2 R)
 rw[ae]
 refine⟨⟨aS,G.lq,G.lm,⟨ar,au,?_,?_,?_⟩,?_,fun e U=>?_⟩,by rw[← H];exact ad,aA⟩
 ·rw[ai];exact aA
 ·rw[ai,oN,tR];exact av.owns al (by intro k K O;simp at O;subst O;exact aH K)
 ·rw[ai]
  intro g cur ay a u aY
  have aT:g≠qb:=fun e=>aH (by rw[← e];exact ay)
  obtain⟨a0,aD⟩:=ak al ay
  have aP:=av.at aD (by simpa using aT)
  rw[aP] at a
  cases a
  have az:=aO g _ ay aD u aY
  refine⟨az.1,az.2.1,fun p e=>?_⟩
  have aB:=az.2.2 p e
  by_cases am:p<W.heap.size
  ·have:Ty W p 147:=by
    obtain⟨D,J⟩:=aB
    by_cases E:p∈F
    ·exfalso
     have h:=J
     rcases (aC p E).2 with ⟨aK,c,e⟩ | ⟨aI,e⟩ | ⟨⟨aI,e⟩,-⟩
     ·have aU:p=mb:=by
       rw[H] at E
       rcases List.mem_cons.1 E with rfl | E
       ·rfl
       rcases List.mem_cons.1 E with rfl | E
       ·rw[b1] at e;cases e
       rw[Option.mem_toList] at E
       obtain⟨c,a⟩:=ak b2 E
       rw[a] at e;cases e
      subst aU
      obtain⟨a1,aZ,aa⟩:=(O.frm I (by simp)).block rfl
      rw[aa] at h;cases h
     ·have ag:p≠mb:=fun aa=>by subst aa;rw[af] at e;cases e
      rw[I.at (ab.at e (by simpa using ag)) (by simp)] at h
      cases h
     ·have ag:p≠mb:=fun aa=>by subst aa;rw[af] at e;cases e
      rw[I.at (ab.at e (by simpa using ag)) (by simp)] at h
      cases h
    ·have:=aL.block p am E
     rw[this] at J
     exact⟨D,J⟩
   exact aW ad p this
  ·obtain⟨D,J⟩:=aB
   have aV:(Value.slice ao N.length cap).ownBlock≠some p:=fun e=>by
    have:=bV b2 e;omega
   have h:=bJ ah J aV
   have ag:p≠qb:=fun e=>by subst e;rw[aw] at h;cases h
   exact⟨D,av.at h (by simpa using ag)⟩
 ·rw[ai,List.map_append,List.map_cons,List.map_nil,qq K,List.length_map]
  refine O.frm (F:=qb :: (Value.slice ao N.length cap).ownBlock.toList) ?_ ?_
  ·rw[← ae]
   exact((I.mono (F':=qb :: (Value.slice ao N.length cap).ownBlock.toList) (by simp)).grown ah fun k K=>.inl (by simp[K])).setCell _ (.inl (by simp)) _
  ·intro b hb aj
   cases hb
   rcases List.mem_cons.1 aj with e | aj
   ·exact aE e.symm
   ·rw[Option.mem_toList] at aj
    obtain⟨c,a⟩:=ak b2 aj
    rw[af] at a;cases a
 ·rcases List.mem_append.1 U with U | U
  ·exact(G.st e U).fg aG ax ad
  ·rw[List.mem_singleton] at U;subst U
   exact aQ.fg aG ax ad
end
end Go.Proofs.YtohfkhjlnlahdaaGreat
namespace Go.Proofs.YtohfkhjlnlahdaaGreat
open Go.RowKit Go.BigFrame Go.Maps
abbrev ndZ:Value:=.agg #[.pointer none,.int .i64 0,.int .i64 0,.int .i64 0,.int .i64 0,.int .i64 0,.int .i64 0]
section
variable {W V:World} {s:SesD} {yb pb:Nat} {whole:Bool} {N:List (Nd × Nat)} {po:Option Addr}
theorem ib (a:SpO W s yb whole pb N):Calls Tryz.prog 120 #[.pointer (some ⟨pb,0,none⟩)] W (Ret (.bool false) (W=·)):=by
 obtain⟨E,A,lim,ao,cap,h,-⟩:=a.out
 have c0:=ae h 0
 clear h a
 go_enter Tryz.func120,Tryz.ntmps120
 go_wp2
 go_ret
 exact⟨rfl,rfl⟩
set_option maxRecDepth 100000 in
theorem qW (a:SpO W s yb whole pb N):Calls Tryz.prog 95 #[.pointer (some ⟨pb,0,none⟩)] W (Ret (.int .i64 (N.length:Nat)) (Frm [] W)):=by
 have E:=vi (ib a)
 obtain⟨I,H,lim,ao,cap,h,A,-⟩:=a.out
 have c0:=ae h 0
 have G:=ae A 2
 clear h A a
 go_enter Tryz.func95,Tryz.ntmps95
 go_wp2_with (first
  | (go_at_call 120;go_must (refine E.out.mono ?_;rintro e w' ⟨rfl,rfl⟩)))
 go_ret
 exact⟨rfl,Frm.refl _ _⟩
theorem nk (p:Option Addr) (a b c d e f:Int):(#[.pointer p,.int .i64 a,.int .i64 b,.int .i64 c,.int .i64 d,.int .i64 e,.int .i64 f]:Array Value).all (·.oneCell')=true:=by
 rw[← Array.all_toList];rfl
theorem Tryz.infoNode:(Tryz.prog.info? 216).map (·.size)=some 7:=by kernel_rfl
set_option maxRecDepth 100000 in
theorem l9 (E:SpO W s yb whole pb N) {i:Nat} {d:Nd × Nat} (H:N[i]?=some d) (aE:N.length≤1000000):Calls Tryz.prog 118 #[.pointer (some ⟨pb,0,none⟩),.int .i64 i] W (Ret (.tuple #[ndV d,.int .i64 0]) (Frm [] W)):=by
 have I:Hid (∀ V,Frm [] W V→Calls Tryz.prog 120 #[.pointer (some ⟨pb,0,none⟩)] V (Ret (.bool false) (V=·))):=vi fun V ai=>ib (E.frm ai)
 obtain⟨aa,aI,lim,ao,cap,O,R,S,-⟩:=E.out
 obtain⟨b,o,rfl,aj⟩:=S.get H
 have aG:=ag H
 have aH:(i:Int)<(N.length:Int):=by omega
 have aF:decide ((N.length:Int)≤(i:Int))=false:=decide_eq_false (by omega)
 have c0:=ae O 0
 have K:=ae R 2
 have h:=(Frm.refl [] W).alloc (.cells #[.pointer none,.int .i64 0,.int .i64 0,.int .i64 0,.int .i64 0,.int .i64 0,.int .i64 0] 216)
 have J:=vi (heap_alloc_new W (.cells #[.pointer none,.int .i64 0,.int .i64 0,.int .i64 0,.int .i64 0,.int .i64 0,.int .i64 0] 216))
 obtain⟨A,G⟩:∃ A,W.alloc (.cells #[.pointer none,.int .i64 0,.int .i64 0,.int .i64 0,.int .i64 0,.int .i64 0,.int .i64 0] 216)=A:=⟨_,rfl⟩
 rw[G] at h J
 have ab:=vi (I.out _ h)
 have aB:A.cell? ⟨pb,0,none⟩=some (.pointer (some ⟨aa,0,none⟩)):=h.keep c0
 have aC:A.cell? ⟨aa,2,none⟩=some (.slice (some ⟨b,o,none⟩) N.length cap):=h.keep K
 obtain⟨ak,al,am,an,ap,aq,ar⟩:=aj.frm h
 have ad:=vi G;have af:=vi h
 clear O R S E H c0 K I h G
 go_enter Tryz.func118,Tryz.ntmps118
 go_upto_region 1 with fail
 rw[ad.out]
 go_upto_region 5 with (first
  | (go_at_call 120;go_must (refine ab.out.mono ?_;rintro e w' ⟨rfl,rfl⟩)))
 go_wp2_with (first
  | (refine aD rfl 216 _ _ rfl _ _ _ 216 rfl rfl J.out rfl Tryz.infoNode (nk _ _ _ _ _ _ _) ?_;intro aJ U X;have a:=vi U;have ah:=vi X;clear U X ak al am an ap aq ar;have au:=ae a.out 0;have av:=ae a.out 1;have aw:=ae a.out 2;have ax:=ae a.out 3;have ay:=ae a.out 4;have az:=ae a.out 5;have aA:=ae a.out 6))
 refine bodyPost_ret (v:=.tuple #[ndV d,.int .i64 0]) (by simp[results,Tryz.results118,go_sem,au,av,aw,ax,ay,az,aA]) rfl ?_
 exact⟨rfl,af.out.then ah.out (by intro k Y;simp at Y;subst Y;exact .inr (Nat.le_refl _))⟩
theorem Tryz.zeroInt (w:World):(zeroValue 3).run Tryz.prog w=.ok (.int .i64 0) w:=
 (zero_of_info (show (Tryz.prog.info? 3).map (fun i=>(i.zero,i.size))=some (some (.int .i64 0),1) by kernel_rfl)).1 w
theorem Tryz.keyedS:Keyed Tryz.prog 9:=string_keyed Tryz.underlying9
theorem ma (s:SesD) (N:List Nd) (k:List UInt8):(gX s N (.string k)).getD (.int .i64 0)=.int .i64 ((dH s N k).getD 0:Nat)∧(gX s N (.string k)).isSome=(dH s N k).isSome:=by
 have e:gX s N (.string k)=(dH s N k).map fun i=>.int .i64 (i:Nat):=rfl
 rw[e]
 cases dH s N k <;> exact⟨rfl,rfl⟩
theorem SpO.look {W V:World} {h:Nat} {n:Nat} (G:MapAt Tryz.prog 9 W (some h) n (gX s (N.map Prod.fst)) n) (H:Frm [] W V) (k:ByteArray) (I:k.size≤maxLen) :
  (Instr.lookup 211 (.map (some h)) (.string k) true).run Tryz.prog V=.ok (.tuple #[.int .i64 ((dH s (N.map Prod.fst) k.data.toList).getD 0:Nat),.bool (dH s (N.map Prod.fst) k.data.toList).isSome]) V:=by
 have a:=(G.frm H (by simp)).look_ok Tryz.keyedS Tryz.underlying211 (Tryz.zeroInt V) (WideMaps.keyOf_string_mk Tryz.underlying9 I)
 obtain⟨A,E⟩:=ma s (N.map Prod.fst) k.data.toList
 rw[A,E] at a
 exact a
end
end Go.Proofs.YtohfkhjlnlahdaaGreat
namespace Go.Proofs.YtohfkhjlnlahdaaGreat
open Go.RowKit Go.BigFrame Go.Maps
section
variable {F:Fence} {n:Nat} {P:Program} {b:Frame} {a:Act} {k:List Item} {cs:List Frame} {w:World} {Q:Exit→Act→World→Prop}
theorem dB {c:Code}:step P (lone (b.atR a (.code (.scope c) :: k)) cs w)=.next (lone (b.atR a (.code c :: .inScope c :: k)) cs w):=
 step_lone_go (by simp[stepG,stepG.exec,Frame.atR])
theorem j0 {c:Code}:step P (lone (b.atR a (.inScope c :: k)) cs w)=.next (lone (b.atR a k) cs w):=
 step_lone_go (by simp[stepG,stepG.exec,Frame.atR])
theorem em {c:Code} (O:c.wpIn F n P (Exit.noGoto Q) a w):(Code.scope c).wpIn F n P Q a w:=by
 intro b k cs S hb J
 have h:(lone (b.atR a (.code (.scope c) :: k)) cs w).fenced P F:=fenced_calm hb J rfl
 obtain⟨e,G,H,E,A⟩:=O b (.inScope c :: k) cs S hb J
 cases e with
 | normal=>exact⟨.normal,G,H,E,.head h dB (StepsIn.trans A (.one (fenced_calm hb J rfl) j0))⟩
 | exit N =>
   have K:exitTo N (.inScope c :: k)=exitTo N k:=by simp[exitTo]
   exact⟨_,G,H,E,fun U I=>.head h dB (A.1 U (by rw[K];exact I)),
    fun R I=>let ⟨k₁,h1,h2⟩:=A.2 R (by rw[K];exact I);⟨k₁,h1,.head h dB h2⟩⟩
 | goto l=>exact E.elim
 | ret=>exact⟨_,G,H,E,.of_steps (.one h dB) A⟩
 | panic V=>exact⟨_,G,H,E,.of_steps (.one h dB) A⟩
 | outgrown=>exact⟨_,G,H,E,.of_steps (.one h dB) A⟩
end
def uU (w:World) (A:Option Addr) (v:Value) (w':World):Prop:=∃ h,v=.func (.func 151) #[] #[.pointer (some ⟨h,0,none⟩)]∧w'.heap[h]?=some (.cells #[.pointer A] 122 (0,0))∧Frm [] w w'
theorem iz (h:Option Addr) (w:World):Calls Tryz.prog 91 #[.pointer h] w (aU (uU w h)):=by
 go_enter Tryz.func91,Tryz.ntmps91
 go_wp2
 go_ret
 exact⟨_,rfl,_,rfl,heap_alloc_new _ _,(Frm.refl _ _).alloc _⟩
structure StI (B:Nat) (s:SesD) (yb pb:Nat) (whole:Bool) (N:List (Nd × Nat)) (W:World):Prop where
 b:W.heap[B]?=some (.cells #[.pointer (some ⟨pb,0,none⟩)] 122 (0,0))
 sp:SpO W s yb whole pb N
set_option maxHeartbeats 2000000 in
set_option maxRecDepth 100000 in
theorem ph (B ay av:Nat) (s:SesD) (ax:Bool) (h:List (Nd × Nat)) (aB:h.length≤1000000) :
  Iter Fence.wide 2 Tryz.prog 151 #[.pointer (some ⟨B,0,none⟩)] (fun e:Nat × Nat=>#[.int .i64 e.1,.pointer (some ⟨e.2,0,none⟩)]) (StI B s ay av ax h) (dD (h.map Prod.snd)):=by
 intro l R au al aw W aa az I
 have an:=vi al;have O:=vi W;have ar:=vi aa
 clear al aw W aa
 have A:=O.out _ _ I
 have c0:=ae A.b 0
 have K:=vi (qW A.sp)
 have N:=vi I
 have ap:Hid ((dD (h.map Prod.snd)).length=h.length):=vi (by rw[du,List.length_map])
 clear A I
 refine callsIn_of_wp Tryz.func151 rfl trivial ?_ rfl
 simp only[Tryz.ntmps151,List.size_toArray,List.length_cons,List.length_nil,Nat.reduceAdd,Nat.reduceSub,Array.replicate_succ,Array.replicate_zero,List.push_toArray,List.append_toArray,List.nil_append,List.cons_append]
 refine em (wpIn_seq (wpIn_label ?_))
 gi_wp2_with (refine⟨trivial,?_⟩;gi_at_call 95;go_must (refine(callsIn_wide.2 K.out).mono ?_;rintro e aL ⟨rfl,ab⟩;have am:=vi ab;clear ab K))
 gi_loopw [6] (fun s wr=>∃ k:Nat,s=.int .i64 k∧k≤h.length∧R ((dD (h.map Prod.snd)).take k) wr) (fun s _=>h.length - (intOf s).toNat)
 case atStart=>exact⟨0,rfl,Nat.zero_le _,an.out _ _ _ N.out am.out⟩
 case round =>
  obtain⟨k,rfl,aD,ad⟩:=hrel
  have E:=vi ad
  clear ad N c0
  by_cases hlt:k<h.length
  ·obtain⟨x,J⟩:∃ x,h[k]?=some x:=⟨_,List.getElem?_eq_getElem hlt⟩
   have A:=O.out _ _ E.out
   have c0:=ae A.b 0
   obtain⟨aK,aG,lim,ao,cap,ai,aj,ak,-⟩:=A.sp.out
   have aI:=ae ai 0
   have aJ:=ae aj 2
   obtain⟨b,o,rfl,af⟩:=ak.get J
   have aH:=af.c0
   have ag:(dD (h.map Prod.snd))[k]?=some (k,x.2):=by rw[ep,List.getElem?_map,J];rfl
   have H:=vi ag
   have U:=E.out
   clear A J ag ai aj ak af
   obtain⟨fn,tmps,assign,body,aF,Y⟩:=ar.out ((dD (h.map Prod.snd)).take k) (k,x.2) ((dD (h.map Prod.snd)).drop (k+1)) _ (bu H.out).2 U
   have aq:=vi Y
   clear U Y
   have aE:(k:Int)<h.length:=by omega
   gi_wp2
   refine aq.out.mono ?_
   rintro e aA (⟨rfl,V⟩ | ⟨rfl,X⟩)
   ·have G:=vi V
    clear V
    gi_wp2
    go_roundw
    case rel=>exact⟨k+1,by go_num,hlt,by rw[(bu H.out).1];exact G.out⟩
    case measure=>simp[intOf];omega
   ·have G:=vi X
    clear X
    gi_wp2
    rw[Exit.noGoto_normal]
    change bodyPost Tryz.prog Tryz.f151 (fun e S=>(∃ v,e=Ending.returned v)∧(R (dD (h.map Prod.snd)) S∨∃ ah x rest,dD (h.map Prod.snd)=ah++x :: rest∧au (ah++[x]) S)) Exit.normal _ _
    go_end0
    exact⟨⟨_,rfl⟩,.inr ⟨_,_,_,(bu H.out).2,G.out⟩⟩
  ·have aC:¬ (k:Int)<h.length:=by omega
   gi_wp2
   try rw[Exit.noGoto_normal]
   go_end0
   refine⟨⟨_,rfl⟩,.inl ?_⟩
   have:=E.out
   rwa [List.take_of_length_le (by rw[ap.out];omega)] at this
end Go.Proofs.YtohfkhjlnlahdaaGreat
namespace Go.Proofs.YtohfkhjlnlahdaaGreat
open Go.RowKit Go.BigFrame Go.Maps
def fR (L:List StpD) (st:ByteArray):List (Nat × StpD):=(dD L).filter fun e=>decide (e.2.frm=st)
def fG (L:List StpD) (st:ByteArray) (k:Nat):List (Nat × StpD):=((dD L).take k).filter fun e=>decide (e.2.frm=st)
section
variable {L:List StpD} {st:ByteArray} {k:Nat} {x:StpD}
theorem j3 (h:L[k]?=some x) (H:x.frm=st):fG L st (k+1)=fG L st k++[(k,x)]∧∃ rest,fR L st=fG L st k++(k,x) :: rest:=by
 have G:(dD L)[k]?=some (k,x):=by rw[ep,h];rfl
 obtain⟨A,E⟩:=bu G
 have a:decide (x.frm=st)=true:=decide_eq_true H
 refine⟨?_,((dD L).drop (k+1)).filter fun e=>decide (e.2.frm=st),?_⟩
 ·unfold fG;rw[A,List.filter_append];simp[a]
 ·unfold fR fG
  conv=>lhs;rw[E]
  rw[List.filter_append];simp[a]
theorem qM (a:L[k]?=some x) (G:x.frm≠st):fG L st (k+1)=fG L st k:=by
 have E:(dD L)[k]?=some (k,x):=by rw[ep,a];rfl
 obtain⟨h,-⟩:=bu E
 have A:decide (x.frm=st)=false:=decide_eq_false G
 unfold fG;rw[h,List.filter_append];simp[A]
theorem pO:fG L st L.length=fR L st:=by unfold fG fR;rw[List.take_of_length_le (by rw[du];exact Nat.le_refl _)]
theorem mem_fromL {i:Nat}:(i,x)∈fR L st↔L[i]?=some x∧x.frm=st:=by
 unfold fR
 rw[List.mem_filter]
 constructor
 ·rintro⟨h,A⟩
  obtain⟨j,a⟩:=List.getElem?_of_mem h
  rw[ep] at a
  cases hz:L[j]? with
  | none=>rw[hz] at a;simp at a
  | some z =>
    rw[hz] at a
    simp at a
    obtain⟨rfl,rfl⟩:=a
    exact⟨hz,of_decide_eq_true A⟩
 ·rintro⟨h,A⟩
  exact⟨List.mem_of_getElem? (i:=i) (by rw[ep,h];rfl),decide_eq_true A⟩
end
structure FrI (B1 B2:Nat) (v:Value) (L:List StpD) (st:ByteArray) (W:World):Prop where
 b1:W.heap[B1]?=some (.cells #[v] 85 (0,0))
 b2:W.heap[B2]?=some (.cells #[.string st] 9 (0,0))
 a:Arr 9 SpAt W v L
set_option maxHeartbeats 2000000 in
set_option maxRecDepth 100000 in
theorem pP (O E:Nat) (v:Value) (L:List StpD) (st:ByteArray) (aG:L.length≤1000000) :
  Iter Fence.wide 2 Tryz.prog 189 #[.pointer (some ⟨O,0,none⟩),.pointer (some ⟨E,0,none⟩)] (fun e:Nat × StpD=>#[.int .i64 e.1,dN e.2]) (FrI O E v L st) (fR L st):=by
 intro l J am ag ar X ab au K
 have S:=vi ag;have U:=vi X;have al:=vi ab
 clear ag ar X ab
 have a:=U.out _ _ K
 have c0:=ae a.b1 0
 obtain⟨ao,cap,rfl⟩:=a.a.shape
 have R:=vi K
 clear a K
 refine callsIn_of_wp Tryz.func189 rfl trivial ?_ rfl
 simp only[Tryz.ntmps189,List.size_toArray,List.length_cons,List.length_nil,Nat.reduceAdd,Nat.reduceSub,Array.replicate_succ,Array.replicate_zero,List.push_toArray,List.append_toArray,List.nil_append,List.cons_append]
 refine em (wpIn_seq (wpIn_label ?_))
 gi_wp2
 gi_loopw [8] (fun s wr=>∃ k:Nat,s=.int .i64 k∧k≤L.length∧J (fG L st k) wr) (fun s _=>L.length - (intOf s).toNat)
 case atStart=>exact⟨0,rfl,Nat.zero_le _,R.out⟩
 case round =>
  obtain⟨k,rfl,aI,ad⟩:=hrel
  have A:=vi ad
  clear ad R c0
  by_cases hlt:k<L.length
  ·obtain⟨x,N⟩:∃ x,L[k]?=some x:=⟨_,List.getElem?_eq_getElem hlt⟩
   have a:=U.out _ _ A.out
   obtain⟨b,o,aw,e,h⟩:=a.a.at N
   cases e
   obtain⟨ax,ay,az,aA,aB,aC,aD,aE,aF⟩:=h
   have I:=vi N
   have aq:wr.cell? ⟨E,0,none⟩=some (.string st):=ae a.b2 0
   have aJ:(k:Int)<L.length:=by omega
   have G:Hid (Frm [] wr (wr.alloc (.cells #[.string x.frm,.string x.to,.int .i64 x.kind,.string x.msg,.string x.peer,.string x.ctr,.int .i64 x.low,.int .i64 x.high,.int .i64 x.add] 137))):=vi ((Frm.refl _ _).alloc _)
   have aK:=G.out.keep aq
   clear a N
   by_cases hm:x.frm=st
   ·obtain⟨rest,h⟩:=(j3 I.out hm).2
    obtain⟨fn,tmps,assign,body,aL,aa⟩:=al.out _ _ _ _ h (S.out _ _ _ A.out G.out)
    have aj:=vi aa;have ak:=vi h;have ai:=vi hm
    have an:(x.frm.toList == st.toList)=true:=by rw[hm];simp
    clear aa h hm
    gi_wp2
    refine aj.out.mono ?_
    rintro e av (⟨rfl,W⟩ | ⟨rfl,Y⟩)
    ·have H:=vi W
     clear W
     gi_wp2
     go_roundw
     case rel=>exact⟨k+1,by go_num,hlt,by rw[(j3 I.out ai.out).1];exact H.out⟩
     case measure=>simp[intOf];omega
    ·have H:=vi Y
     clear Y
     gi_wp2
     rw[Exit.noGoto_normal]
     change bodyPost Tryz.prog Tryz.f189 (fun e V=>(∃ v,e=Ending.returned v)∧(J (fR L st) V∨∃ af x rest,fR L st=af++x :: rest∧am (af++[x]) V)) Exit.normal _ _
     go_end0
     exact⟨⟨_,rfl⟩,.inr ⟨_,_,_,ak.out,H.out⟩⟩
   ·have an:(x.frm.toList == st.toList)=false:=nA hm
    have ah:Hid (J (fG L st (k+1)) (wr.alloc (.cells #[.string x.frm,.string x.to,.int .i64 x.kind,.string x.msg,.string x.peer,.string x.ctr,.int .i64 x.low,.int .i64 x.high,.int .i64 x.add] 137))):=vi (by
     rw[qM I.out hm]
     exact S.out _ _ _ A.out G.out)
    clear hm
    gi_wp2
    refine⟨(fun f ap=>by cases ap),?_⟩
    gi_wp2
    go_roundw
    case rel=>exact⟨k+1,by go_num,hlt,ah.out⟩
    case measure=>simp[intOf];omega
  ·obtain rfl:k=L.length:=by omega
   have aH:¬ (L.length:Int)<L.length:=by omega
   gi_wp2
   try rw[Exit.noGoto_normal]
   go_end0
   exact⟨⟨_,rfl⟩,.inl (by have:=A.out;rwa [pO] at this)⟩
theorem pQ (r:RolD) (st:ByteArray) (E b c d:Value) (w:World) (a:Arr 9 SpAt w d r.steps) (ag:r.steps.length≤100000):Calls Tryz.prog 144 #[.agg #[E,b,c,d],.string st] w (aU fun u w'=>∃ J K ai,u=.func (.func 189) #[] #[.pointer (some ⟨J,0,none⟩),.pointer (some ⟨K,0,none⟩)]∧FrI J K ai r.steps st w'∧Frm [] w w'):=by
 obtain⟨ao,cap,rfl⟩:=a.shape
 have O:=vi a
 obtain⟨n,I⟩:∃ n,r.steps.length=n:=⟨_,rfl⟩
 have aj:=vi I
 rw[I] at O ⊢
 have G:Frm [] w ((w.alloc (.cells #[E,b,c,.slice ao n cap] 87)).alloc (.cells #[.string st] 9)):=((Frm.refl _ _).alloc _).alloc _
 obtain⟨A,h⟩:∃ ab,((w.alloc (.cells #[E,b,c,.slice ao n cap] 87)).alloc (.cells #[.string st] 9))=ab:=⟨_,rfl⟩
 have U:A.heap[w.heap.size]?=some (.cells #[E,b,c,.slice ao n cap] 87 (0,0)):=by rw[← h];exact ah (heap_alloc_new _ _)
 have V:A.heap[w.heap.size+1]?=some (.cells #[.string st] 9 (0,0)):=by rw[← h];exact aq (by simp)
 rw[h] at G
 have aa:=vi G;have Y:=vi V;have R:=vi h
 have N:=vi (jh (.slice ao n cap) r.steps A (O.out.frm fun _ _ _ a=>a.frm G) ag)
 have ak:=ae U 3
 clear a I U V G h
 go_enter Tryz.func144,Tryz.ntmps144
 go_upto_region 1 with (first | (refine aH rfl 87 _ rfl _ rfl ?_))
 rw[R.out]
 clear R
 go_wp2_with (first
  | (go_at_call 173;go_must (refine N.out.mono ?_;rintro e X ⟨v,rfl,H⟩;obtain⟨ad,af,rfl⟩:=H.arr.shape;have S:=vi H;clear H N)))
 go_ret
 have W:Frm [] A (X.alloc (.cells #[.slice ad r.steps.length af] 85)):=S.out.frm.alloc _
 exact⟨_,rfl,_,_,_,rfl,⟨heap_alloc_new _ _,W.at Y.out (by simp),S.out.arr.frm fun _ _ _ a=>a.frm ((Frm.refl [] X).alloc _)⟩,aa.out.trans W⟩
end Go.Proofs.YtohfkhjlnlahdaaGreat
namespace Go.Proofs.YtohfkhjlnlahdaaGreat
open Go.RowKit Go.BigFrame
theorem lD {α:Type} (L:List α):(dD L).map Prod.snd=L:=by
 refine List.ext_getElem? fun i=>?_
 rw[List.getElem?_map,ep]
 cases L[i]? <;> rfl
theorem gE {α:Type} {L:List α} {a rest:List (Nat × α)} {y:Nat × α} (A:dD L=a++y :: rest):y.1=a.length∧a.length<L.length:=by
 have h:(dD L)[a.length]?=some y:=by rw[A,List.getElem?_append_right (Nat.le_refl _),Nat.sub_self];rfl
 rw[ep,Option.map_eq_some_iff] at h
 obtain⟨m,E,rfl⟩:=h
 exact⟨rfl,ag E⟩
attribute [local go_sem] Oper.semAt_some
end Go.Proofs.YtohfkhjlnlahdaaGreat
namespace Go.Proofs.YtohfkhjlnlahdaaGreat
open Go.RowKit Go.BigFrame
abbrev YB (w:World) (ob:Nat) (L:List UInt8) (W:World):Prop:=BO 26 5 1 w ob L.length (L.map u8) W
abbrev byT:List TypeId:=[26,5]
theorem YB.add {w a A:World} {h m:Nat} {L M:List UInt8} {ao:Option Addr} {cap:Nat} {o:Obj} {v':Value} (E:YB w h L a) (G:a.heap[h]?=some (.cells #[.slice ao L.length cap] 26 (0,0))) (H:a.ownsRow w.heap.size 5 1 (.slice ao L.length cap) L.length (L.map u8))
  (I:(a.alloc o).grownBy A (Value.slice ao L.length cap).ownBlock) (J:M.length=m) (K:A.ownsRow w.heap.size 5 1 v' (L.length+m) (L.map u8++M.map u8)) :
  YB w h (L++M) (A.setCell ⟨h,0,none⟩ v')∧Kt byT a (A.setCell ⟨h,0,none⟩ v'):=by
 have:=E.step G H (by decide) I K
 unfold YB
 rw[List.map_append,List.length_append,J]
 exact this
theorem CtR.kt {B:Nat} {S:Value} {l:List (CtrD × Int)} {H I:World} (h:CtR B S l H) (G:Kt byT H I):CtR B S l I:=by
 refine⟨G.cells h.b (by decide),?_,fun ao n c e V=>?_⟩
 ·obtain⟨ao,c,rfl,W⟩:=h.a
  refine⟨ao,c,rfl,fun i x R=>?_⟩
  obtain⟨b,o,e,J,K,N⟩:=W i x R
  obtain⟨g,cur,a,O⟩:=h.t _ _ _ rfl (by have:=ag R;omega)
  have U:g=b∧0=o:=by rw[a] at e;injection e with e;injection e with A e3;exact⟨A,e3⟩
  obtain⟨rfl,rfl⟩:=U
  have E:=G.cells O (by decide)
  rw[ae O] at J K N
  exact⟨g,0,a,(ae E _).trans J,(ae E _).trans K,(ae E _).trans N⟩
 ·obtain⟨g,cur,A,a⟩:=h.t _ _ _ e V
  exact⟨g,cur,A,G.cells a (by decide)⟩
theorem rh {v:Int} (a:0≤v) (h:v≤65535):u8 (UInt8.ofNat (v.toNat / 256))=.int .u8 (v / 256)∧u8 (UInt8.ofNat (v.toNat % 256))=.int .u8 (v % 256):=by
 obtain⟨n,rfl⟩:=Int.eq_ofNat_of_zero_le a
 unfold u8
 simp only[Int.toNat_natCast,UInt8.toNat_ofNat']
 constructor
 ·congr 1
  have:n / 256<256:=by omega
  rw[Nat.mod_eq_of_lt this];rfl
 ·congr 1
  have:n % 256<256:=by omega
  rw[Nat.mod_eq_of_lt this];rfl
theorem te {p:Nat} (a:p<256):u8 (UInt8.ofNat p)=.int .u8 (p:Int):=by
 unfold u8
 rw[UInt8.toNat_ofNat',Nat.mod_eq_of_lt a]
end Go.Proofs.YtohfkhjlnlahdaaGreat
namespace Go.Proofs.YtohfkhjlnlahdaaGreat
open Go.RowKit Go.BigFrame Go.Lib
theorem lw (s:ByteArray):strCells s=(byt s).map u8:=rfl
theorem tI {ty:TypeId} {W:World} {base:Nat} {v:Value} {a:List UInt8} (H:W.ownsRow base 5 1 v a.length (a.map u8)) (s:ByteArray) (O:a.length+s.size≤4000000) (hb:base≤W.heap.size) :
  ∃ v' W',(Builtin.append_ #[26,9] ty #[v,.string s]).run Tryz.prog W=.ok v' W'∧W'.ownsRow base 5 1 v' (a++byt s).length ((a++byt s).map u8)∧W.grownBy W' v.ownBlock:=by
 obtain⟨N,G,I,J,K⟩:=info_parts Tryz.info5
 obtain⟨v',W',h,A,E,-⟩:=run_append_own_string (P:=Tryz.prog) W base 26 9 ty 5 N Tryz.underlying26 Tryz.underlying9 G I J K v a.length (a.map u8) H s (by unfold maxLen;omega) (by omega) hb
 refine⟨v',W',h,?_,E⟩
 rw[List.length_append,List.map_append,← lw]
 have:(byt s).length=s.size:=by unfold byt;simp
 rw[this]
 exact A
theorem kU {I:Array Oper} {o:Oper} {A:Act} {w:World} {G:Act→World→Prop} {Q:Exit→Act→World→Prop} {K:Prop} (O:o.guard=none) (s x:Operand) (S:o.op=.call { callee:=.builtin .append,args:=#[s,x],argTypes:=#[26,9] })
  (base:Nat) (v:Value) (a:ByteArray) (X:A.eval s=v) (aa:A.eval x=.string a) (h:List UInt8) (U:w.ownsRow base 5 1 v h.length (h.map u8)) (R:h.length+a.size≤4000000) (hb:base≤w.heap.size)
  (N:∀ ao E w',w'.ownsRow base 5 1 (.slice ao (h++byt a).length E) (h++byt a).length ((h++byt a).map u8)→w.grownBy w' v.ownBlock→G (A.put o.dst (.slice ao (h++byt a).length E)) w'):if Region.wanted o (yielded I A.tmps)=true then Oper.wp Tryz.prog o A w G Q else K:=by
 have Y:Region.wanted o (yielded I A.tmps)=true:=by simp[Region.wanted,O]
 rw[if_pos Y]
 obtain⟨v',w',V,J,ab⟩:=tI (ty:=o.type) U a R hb
 obtain⟨ao,E,rfl⟩:=an J
 unfold Oper.wp
 simp[execOp,S,resolve,invoke,builtin,X,aa,V,Result.andThen]
 have H:=N ao E w' J ab
 rw[List.length_append] at H
 exact H
structure YP (w wr:World) (ob:Nat) (v0 v:Value) (L:List UInt8) (W:World):Prop where
 f:Frm [] w W
 b:W.heap[ob]?=some (.cells #[v0] 26 (0,0))
 o:W.ownsRow w.heap.size 5 1 v L.length (L.map u8)
 k:Kt byT wr W
section
variable {w wr W W':World} {ob:Nat} {v0 v:Value} {L l:List UInt8}
theorem YP.frm (a:YP w wr ob v0 v L W) (h:Frm [] W W'):YP w wr ob v0 v L W':=⟨a.f.trans h,h.at a.b (by simp),h.owns a.o (by simp),a.k.trans (Kt.frm h)⟩
theorem YP.grow {v':Value} (a:YP w wr ob v0 v L W) (A:W.grownBy W' v.ownBlock) (H:W'.ownsRow w.heap.size 5 1 v' (L++l).length ((L++l).map u8)):YP w wr ob v0 v' (L++l) W':=by
 refine⟨a.f.grown A (fun q E=>.inr (aF a.o E)),bJ A a.b (fun G=>?_),H,a.k.grown A (fun q E=>?_)⟩
 ·obtain⟨c,h⟩:=ak a.o G
  have hb:=a.b
  rw[hb] at h;cases h
 ·obtain⟨c,h⟩:=ak a.o E
  exact⟨c,5,(0,0),h,by simp⟩
theorem YP.fin (a:YP w wr ob v0 v L W) (A:w.heap.size≤ob):YB w ob L (W.setCell ⟨ob,0,none⟩ v)∧Kt byT wr (W.setCell ⟨ob,0,none⟩ v):=by
 obtain⟨E,G,rfl⟩:=an a.o
 refine⟨⟨a.f.setCell _ (.inr A) _,A,E,G,(ap a.b 0 _).trans rfl,?_⟩,a.k.set a.b (by simp) _⟩
 refine ownsRow_setCell_other a.o (fun H=>?_) _
 obtain⟨c,h⟩:=ak a.o H
 have hb:=a.b
 rw[hb] at h;cases h
end
set_option maxRecDepth 100000 in
theorem ri {W:World} {base:Nat} {ao:Option Addr} {a:Nat} {L:List UInt8} (h:W.ownsRow base 5 1 (.slice ao L.length a) L.length (L.map u8)) (G:L.length≠0):(convert 26 9 (.slice ao L.length a)).run Tryz.prog W=.ok (.string ⟨L.toArray⟩) W:=by
 obtain⟨g,c,cur,e,-,-⟩:=aZ h G
 cases e
 exact run_convert_bytes_back _ 26 9 5 ⟨g,0,none⟩ a L Tryz.underlying26 Tryz.underlying5 Tryz.underlying9 (fun j A=>by
  have E:=World.ownsRow.cellAt h j (by simpa using A)
  rw[WideShapes.add_plain]
  rw[Nat.zero_add,E]
  simp[u8,A])
end Go.Proofs.YtohfkhjlnlahdaaGreat
namespace Go.Proofs.YtohfkhjlnlahdaaGreat
open Go.RowKit Go.BigFrame
theorem Tryz.call_pFinal1 (args:Array Value) (w:World):(callFunc 141 args).run Tryz.prog w=.ok (.enter 141 args) w:=by kernel_rfl
set_option maxRecDepth 100000 in
theorem mD (cb:Nat) (cls cap:Int) (L:List ByteArray) (F:List Nat) (w:World) (a:Chn w cb cls cap L F):Calls Tryz.prog 141 #[.pointer (some ⟨cb,0,none⟩)] w (Ret (.bool (decide (0<L.length))) (Frm [] w)):=by
 have A:=vi (iT a)
 have e:decide (0<L.length)=decide ((0:Int)<(L.length:Int)):=by rw[decide_eq_decide];omega
 rw[e]
 clear a e
 go_enter Tryz.func141,Tryz.ntmps141
 go_wp2_with (go_at_call 103;go_must (refine A.out.mono ?_;rintro e G ⟨rfl,h⟩;have E:=vi h;clear h))
 go_ret
 exact⟨by simp,E.out⟩
def iB (a:List (List ByteArray)):Bool:=a.any fun l=>decide (0<l.length)
theorem rz (A:List (List ByteArray)):decide (0≤ixf (fun l=>decide (0<l.length)) A)=iB A:=by
 unfold iB
 rw[Bool.eq_iff_iff,decide_eq_true_eq,List.any_eq_true]
 constructor
 ·intro E
  obtain⟨i,G,-⟩:=cO E
  obtain⟨x,a,h,-⟩:=ef G
  exact⟨x,List.mem_of_getElem? a,h⟩
 ·rintro⟨x,a,h⟩
  exact fQ a h
set_option maxRecDepth 100000 in
theorem oe (cls cap:Int) (v:Value) (a:List (List ByteArray)) (w:World) (h:RowV cls cap w v a) (E:a.length≤1000):Calls Tryz.prog 140 #[v,.func (.func 141) #[] #[]] w (Ret (.bool (iB a)) (Frm [] w)):=by
 have CI:=vi (od cls cap 141 #[] (fun l=>decide (0<l.length)) v a w h E Tryz.call_pFinal1 (fun I x cb F _ _ J=>mD cb cls cap x F I J))
 obtain⟨ao,K,rfl⟩:=Arr.shape h
 rw[← rz]
 obtain⟨q,G⟩:∃ q,ixf (fun l:List ByteArray=>decide (0<l.length)) a=q:=⟨_,rfl⟩
 rw[G] at CI ⊢
 clear h E G
 go_enter Tryz.func140,Tryz.ntmps140
 go_wp2_with (go_at_call 186;go_must (refine CI.out.mono ?_;rintro e N ⟨rfl,A⟩;have H:=vi A;clear A))
 go_ret
 exact⟨rfl,H.out⟩
def rA (s:SesD) (x:PS) (i:Nat):Bool:=(x.ways.getD i []).all (fun l=>l.isEmpty) && ((s.rol i).sts.getD (x.at i) dS).fin
theorem rB (A:List (List ByteArray)):(A.all fun l=>l.isEmpty)=!iB A:=by
 unfold iB
 rw[Bool.eq_iff_iff,List.all_eq_true,Bool.not_eq_true',List.any_eq_false]
 constructor
 ·intro a x h
  have:=a x h
  rw[List.isEmpty_iff] at this
  simp[this]
 ·intro a x h
  have:=a x h
  rw[decide_eq_true_eq] at this
  rw[List.isEmpty_iff,← List.length_eq_zero_iff];omega
set_option maxHeartbeats 2000000 in
set_option maxRecDepth 100000 in
theorem nN (s:SesD) (N aF sb:Nat) (x:PS) (w:World) (J:SyR w s N aF) (X:StR w s N sb x):Calls Tryz.prog 72 #[.pointer (some ⟨N,0,none⟩),.pointer (some ⟨sb,0,none⟩)] w (Ret (.tuple #[.bool (og s x),.int .i64 0]) (Frm [] w)):=by
 have a5:=vi J;have S:=vi X
 have aC:=vi (eJ s N aF sb x w J X)
 obtain⟨bh,bw,ag,aH,aJ⟩:=X.out
 obtain⟨be,bj,rfl⟩:=aH.shape
 obtain⟨bi,bl,rfl⟩:=aJ.shape
 rw[cB,X.ok.wl] at ag
 obtain⟨n,W⟩:∃ n,s.roles.length=n:=⟨_,rfl⟩
 rw[W] at ag
 have aY:=ae ag 1
 have a7:=vi aY
 have am:=vi W
 have al:Hid (og s x=(List.range n).all fun i=>rA s x i):=vi (by rw[← W];rfl)
 obtain⟨aG,aO⟩:∃ b,og s x=b:=⟨_,rfl⟩
 rw[aO] at al ⊢
 have bs:n≤4:=by rw[← W];exact J.ok.n4
 clear J X ag aH aJ W aO
 go_enter Tryz.func72,Tryz.ntmps72
 go_wp2_with (first
  | (go_at_call 61;go_must (refine aC.out.mono ?_;rintro e w' ⟨rfl,rfl⟩)))
 clear aY aC
 go_loopw [21] (fun s21 wr=>∃ i:Nat,s21=.int .i64 i∧i≤n∧Frm [] w wr∧∀ j,j<i→rA s x j=true) (fun s21 _=>n - (intOf s21).toNat)
 case atStart=>exact⟨0,rfl,Nat.zero_le _,Frm.refl _ _,fun j av=>by omega⟩
 case round =>
  obtain⟨i,rfl,bq,aM,aR⟩:=hrel
  have A:=vi aM;have aD:=vi aR
  clear aM aR
  by_cases hlt:i<n
  ·have br:(i:Int)<(n:Int):=by omega
   have H:i<s.roles.length:=by rw[am.out];exact hlt
   obtain⟨bn,bo,bm,aV,Y,aj,aA⟩:=S.out.row H
   obtain⟨bg,ao,ac,a8,aa,ba⟩:=S.out.act H
   obtain⟨rb,ai,aU,bu,bk,bv,aB,ax⟩:=a5.out.rol H
   have aT:(s.rol i).sts[x.at i]?=some ((s.rol i).sts.getD (x.at i) dS):=bf (S.out.ok.pb i H)
   have aw:=S.out.ok.pb i H
   have az:=S.out.ok.wr i H
   obtain⟨bd,aE,rfl⟩:=ax.r3.sts.shape
   obtain⟨b1,ah,rfl,-,af,-⟩:=ax.r3.sts.get aT
   obtain⟨-,ap,-,-,-⟩:=ax
   obtain⟨ad,aq,-⟩:=ba
   rw[am.out] at Y aa aB
   have q:=Option.some.inj (a7.out.symm.trans aa)
   cases q
   have I:Hid (rA s x i=(!iB (x.ways.getD i []) && ((s.rol i).sts.getD (x.at i) dS).fin)):=vi (by unfold rA;rw[rB])
   obtain⟨V,aK⟩:∃ V,x.ways.getD i []=V:=⟨_,rfl⟩
   obtain⟨p,aS⟩:∃ p,x.at i=p:=⟨_,rfl⟩
   obtain⟨m,aQ⟩:∃ m,(s.rol i).sts.length=m:=⟨_,rfl⟩
   obtain⟨ar,aP⟩:∃ f,((s.rol i).sts.getD (x.at i) dS).fin=f:=⟨_,rfl⟩
   rw[aP] at af I
   rw[aK] at aA I az
   rw[aS] at ad af aw
   rw[aQ] at ap aw
   have bt:(p:Int)<(m:Int):=by omega
   have ak:Hid (∀ a,Frm [] w a→Calls Tryz.prog 140 #[aV,.func (.func 141) #[] #[]] a (Ret (.bool (iB V)) (Frm [] a))):=vi fun a G=>oe s.cls s.cap aV V a (aA.frm G) (by rw[az,am.out];omega)
   obtain⟨a9,aL⟩:∃ b,iB V=b:=⟨_,rfl⟩
   rw[aL] at ak I
   have a6:Hid (∀ a,Frm [] w a→a.cell? ⟨N,1,none⟩=some (.slice (some ⟨rb,ai,none⟩) n aU)∧a.cell? ⟨rb,ai+i*4+1,none⟩=some (.slice (some ⟨b1,ah,none⟩) m aE)∧a.cell? ⟨b1,ah+p*3+1,none⟩=some (.bool ar)):=vi fun a G=>⟨G.keep aB,G.keep ap,G.keep af⟩
   replace Y:=A.out.keep Y;replace aj:=A.out.keep aj;replace aa:=A.out.keep aa;replace ad:=A.out.keep ad;replace aq:=A.out.keep aq
   have bb:=aI Y
   have bc:=aI aj
   clear aT az aA aB ap af aK aS aQ aP aL H aw
   go_upto_region 8 with (first
    | (go_at_call 140;go_must (refine(ak.out _ (A.out.alloc _)).mono ?_;rintro e aW ⟨rfl,au⟩;have a4:=vi (au.at (heap_alloc_new wr (.cells #[.int .i64 p,.pointer (some ⟨a8,0,none⟩)] 143)) (by simp));have ab:Hid (Frm [] w aW):=vi ((A.out.alloc _).trans au);clear au)))
   have an:Hid (∀ a,Frm [] aW a→(a.cell? ⟨N,1,none⟩=some (.slice (some ⟨rb,ai,none⟩) n aU)∧a.cell? ⟨rb,ai+i*4+1,none⟩=some (.slice (some ⟨b1,ah,none⟩) m aE)∧a.cell? ⟨b1,ah+p*3+1,none⟩=some (.bool ar))∧a.cell? ⟨wr.heap.size,0,none⟩=some (.int .i64 p)):=vi fun a G=>⟨a6.out a (ab.out.trans G),G.keep (ae a4.out 0)⟩
   clear Y aj aa ad aq ak bb bc
   have aN:rA s x i=false→aG=false:=fun J=>by
    rw[al.out,List.all_eq_false]
    exact⟨i,by simpa using hlt,by rw[J];decide⟩
   have O:=vi aN
   clear aN
   cases a9 with
   | true =>
     have R:=vi (O.out (by rw[I.out];rfl))
     clear O
     refine ay (by kernel_rfl) (by kernel_rfl) ?_
     repeat (first
      | go_big_quiet_skip
      | (refine wpQuiet_want (by rfl) (fun U h=>?_)
         first
          | (refine quiet_move _ (by rfl) (h _ ?_))
          | (refine quiet_assign _ (by rfl) (h _ ?_))
          | (apply Exists.intro
             refine⟨fun w' E=>?_,h _ ?_⟩
             ·(unfold Oper.quietAt
               obtain⟨⟨aZ,a0,a1⟩,a2⟩:=an.out w' E
               clear E
               go_simp
               try exact⟨rfl,rfl⟩
               try rfl))
         clear h U
         try simp only[nrm,Act.eval,nrq]))
     refine wpQuiet_nil ?_
     intro aX K
     go_wp2
     go_ret2
     exact⟨by rw[R.out];rfl,ab.out.trans K⟩
   | false =>
     cases ar with
     | false =>
       have R:=vi (O.out (by rw[I.out];rfl))
       clear O
       refine ay (by kernel_rfl) (by kernel_rfl) ?_
       repeat (first
        | go_big_quiet_skip
        | (refine wpQuiet_want (by rfl) (fun U h=>?_)
           first
            | (refine quiet_move _ (by rfl) (h _ ?_))
            | (refine quiet_assign _ (by rfl) (h _ ?_))
            | (apply Exists.intro
               refine⟨fun w' E=>?_,h _ ?_⟩
               ·(unfold Oper.quietAt
                 obtain⟨⟨aZ,a0,a1⟩,a2⟩:=an.out w' E
                 clear E
                 go_simp
                 try exact⟨rfl,rfl⟩
                 try rfl))
           clear h U
           try simp only[nrm,Act.eval,nrq]))
       refine wpQuiet_nil ?_
       intro aX K
       go_wp2
       go_ret2
       exact⟨by rw[R.out];rfl,ab.out.trans K⟩
     | true =>
       clear O
       refine ay (by kernel_rfl) (by kernel_rfl) ?_
       repeat (first
        | go_big_quiet_skip
        | (refine wpQuiet_want (by rfl) (fun U h=>?_)
           first
            | (refine quiet_move _ (by rfl) (h _ ?_))
            | (refine quiet_assign _ (by rfl) (h _ ?_))
            | (apply Exists.intro
               refine⟨fun w' E=>?_,h _ ?_⟩
               ·(unfold Oper.quietAt
                 obtain⟨⟨aZ,a0,a1⟩,a2⟩:=an.out w' E
                 clear E
                 go_simp
                 try exact⟨rfl,rfl⟩
                 try rfl))
           clear h U
           try simp only[nrm,Act.eval,nrq]))
       refine wpQuiet_nil ?_
       intro aX K
       have a3:=vi (ab.out.trans K)
       clear K
       go_wp2
       refine⟨⟨i+1,congrArg (Value.int .i64) (by omega),hlt,a3.out,fun j av=>?_⟩,by simp[intOf];omega⟩
       by_cases e:j=i
       ·subst e;rw[I.out];rfl
       ·exact aD.out j (by omega)
  ·have bp:¬ (i:Int)<(n:Int):=by omega
   have R:Hid (aG=true):=vi (by
    rw[al.out,List.all_eq_true]
    intro j av
    exact aD.out j (by rw[List.mem_range] at av;omega))
   go_wp2
   go_ret2
   exact⟨by rw[R.out];rfl,A.out⟩
end Go.Proofs.YtohfkhjlnlahdaaGreat
