/- Part of the proof. -/
import Derived.Test.YtohfkhjlnlahdaaGreatQ04
import Derived.Test.YtohfkhjlnlahdaaGreatQ14
import Derived.Test.YtohfkhjlnlahdaaGreatQ16
import Derived.Test.YtohfkhjlnlahdaaGreatQ15
set_option linter.all false
namespace Go.Proofs.YtohfkhjlnlahdaaGreat
open Go.RowKit Go.BigFrame
theorem dg {b:ByteArray} (a:b=aG):b.toList.isEmpty=true:=by
 have:=aK b { data:=#[] }
 rw[decide_eq_true (show b={ data:=#[] } from a)] at this
 simpa using this
theorem dF {b:ByteArray} (a:b≠aG):b.toList.isEmpty=false:=by
 have:=aK b { data:=#[] }
 rw[decide_eq_false (show ¬ b={ data:=#[] } from a)] at this
 simpa using this
def okB (l:List (CtrD × Int)) (t:StpD):Bool:=
 if t.ctr=aG then true else match l[(fm l t.ctr).toNat]? with | none=>false | some c=>cD c.1.lim t c.2
def doC (l:List (CtrD × Int)) (t:StpD):List (CtrD × Int):=
 if t.ctr=aG then l else match l[(fm l t.ctr).toNat]? with | none=>l | some c=>l.set (fm l t.ctr).toNat (c.1,c.2+t.add)
def sj (l:List (CtrD × Int)):Prop:=l.length≤4∧∀ c∈l,1≤c.1.lim∧c.1.lim≤1000∧0≤c.2∧c.2≤c.1.lim
set_option maxHeartbeats 2000000 in
set_option maxRecDepth 100000 in
theorem gj (h:Nat) (l:List (CtrD × Int)) (t:StpD) (w:World) (A:Bnk w h l) (E:t.ctr=aG) :
  Calls Tryz.prog 136 #[.pointer (some ⟨h,0,none⟩),dN t] w (Ret (.tuple #[.bool true,.int .i64 0]) (Frm [] w)):=by
 have G:Hid (∀ a,Frm [] w a→Calls Tryz.prog 134 #[.pointer (some ⟨h,0,none⟩)] a (Ret (.bool false) (a=·))):=vi fun a I=>ew h l a (A.frm I)
 have K:t.ctr.toList.isEmpty=true:=dg E
 have J:h<w.heap.size:=by obtain⟨N,H,-⟩:=A;exact lt_of_block H
 clear A E
 go_enter Tryz.func136,Tryz.ntmps136
 go_wp2_with (first
  | (go_at_call 134;go_must (refine(G.out _ ((Frm.refl [] w).alloc _)).mono ?_;rintro e w' ⟨rfl,rfl⟩)))
 go_ret2
 exact⟨rfl,(Frm.refl [] w).alloc _⟩
set_option maxHeartbeats 2000000 in
set_option maxRecDepth 100000 in
theorem iI (A:Nat) (l:List (CtrD × Int)) (t:StpD) (k:Nat) (x:CtrD × Int) (w:World) (G:Bnk w A l) (O:sj l) (ah:t.ctr≠aG) (V:fm l t.ctr=k) (K:l[k]?=some x) :
  Calls Tryz.prog 136 #[.pointer (some ⟨A,0,none⟩),dN t] w (Ret (.tuple #[.bool (cD x.1.lim t x.2),.int .i64 0]) (Frm [] w)):=by
 have al:Hid (∀ a,Frm [] w a→Calls Tryz.prog 134 #[.pointer (some ⟨A,0,none⟩)] a (Ret (.bool false) (a=·))):=vi fun a J=>ew A l a (G.frm J)
 have ak:Hid (∀ a,Frm [] w a→Calls Tryz.prog 182 #[.pointer (some ⟨A,0,none⟩),.string t.ctr] a (Ret (.tuple #[.int .i64 x.2,.int .i64 0]) (Frm [] a))):=vi fun a J=>o3 A l t.ctr k x a (G.frm J) (by have:=O.1;omega) V K
 have aj:Hid (∀ a,Frm [] w a→Calls Tryz.prog 137 #[.pointer (some ⟨A,0,none⟩),.string t.ctr] a (Ret (.int .i64 (k:Int)) (Frm [] a))):=vi fun a J=>by rw[← V];exact fe A l t.ctr a (G.frm J) (by have:=O.1;omega)
 have hb:=O.2 x (List.mem_of_getElem? K)
 have W:=vi (fun a=>mC x.1.lim x.2 t a (by omega) (by omega))
 have aE:t.ctr.toList.isEmpty=false:=dF ah
 obtain⟨aF,N,ab⟩:=G
 obtain⟨b,o,cap,rfl,Y,aa,ar⟩:=ab.at K
 have aC:A<w.heap.size:=lt_of_block N
 have aD:=aI Y
 have av:(k:Int)<(l.length:Int):=by have:=ag K;omega
 obtain⟨m,af⟩:∃ m,l.length=m:=⟨_,rfl⟩
 obtain⟨r,ai⟩:∃ r,cD x.1.lim t x.2=r:=⟨_,rfl⟩
 rw[ai] at W ⊢
 rw[af] at N av
 have an:Hid (∀ h,Frm [] w h→h.cell? ⟨A,1,none⟩=some (.slice (some ⟨b,o,none⟩) m cap)∧h.cell? ⟨b,o+k*3+1,none⟩=some (.int .i64 x.1.lim)):=vi fun h I=>⟨I.keep (ae N 1),I.keep aa⟩
 have X:Hid (∀ h,Frm [] (w.alloc (.cells #[.string t.frm,.string t.to,.int .i64 t.kind,.string t.msg,.string t.peer,.string t.ctr,.int .i64 t.low,.int .i64 t.high,.int .i64 t.add] 137)) h→h.heap[w.heap.size]?=some (.cells #[.string t.frm,.string t.to,.int .i64 t.kind,.string t.msg,.string t.peer,.string t.ctr,.int .i64 t.low,.int .i64 t.high,.int .i64 t.add] 137 (0,0))):=vi fun h I=>I.at (heap_alloc_new w _) (by simp)
 have R:Hid (Frm [] w (w.alloc (.cells #[.string t.frm,.string t.to,.int .i64 t.kind,.string t.msg,.string t.peer,.string t.ctr,.int .i64 t.low,.int .i64 t.high,.int .i64 t.add] 137))):=vi ((Frm.refl [] w).alloc _)
 have am:Hid (∀ h,Frm [] (w.alloc (.cells #[.string t.frm,.string t.to,.int .i64 t.kind,.string t.msg,.string t.peer,.string t.ctr,.int .i64 t.low,.int .i64 t.high,.int .i64 t.add] 137)) h→h.cell? ⟨w.heap.size,5,none⟩=some (.string t.ctr)):=vi fun h I=>ae (X.out h I) 5
 clear N ab Y aa ar V K af ai O ah hb
 go_enter Tryz.func136,Tryz.ntmps136
 go_upto_region 8 with (first
  | (go_at_call 134;go_must (refine(al.out _ R.out).mono ?_;rintro e w' ⟨rfl,rfl⟩))
  | (go_at_call 182;go_must (refine(ak.out _ R.out).mono ?_;rintro e ax ⟨rfl,ad⟩;have S:=vi ad;clear ad)))
 have U:Hid (Frm [] w ax):=vi (R.out.trans S.out)
 have ap:=vi (X.out _ S.out)
 refine ay (by kernel_rfl) (by kernel_rfl) ?_
 repeat (first
  | go_big_quiet_skip
  | (refine wpQuiet_want (by rfl) (fun aq H=>?_)
     first
      | (refine quiet_move _ (by rfl) (H _ ?_))
      | (refine quiet_assign _ (by rfl) (H _ ?_))
      | (refine aV (.int .i64 (k:Int)) 137 #[.pointer (some ⟨A,0,none⟩),.string t.ctr] (fun w' E=>?_) (fun w' E=>Ret.cq (aj.out w' (U.out.trans E)) (fun aw G=>E.trans G)) (H _ ?_)
         ·go_simp)
      | (refine aV (.bool r) 183 #[.int .i64 x.1.lim,dN t,.int .i64 x.2] (fun w' E=>?_) (fun w' E=>Ret.cq (W.out w') (fun aw G=>E.trans G)) (H _ ?_)
         ·go_simp)
      | (refine dO 137 _ rfl w.heap.size rfl #[.string t.frm,.string t.to,.int .i64 t.kind,.string t.msg,.string t.peer,.string t.ctr,.int .i64 t.low,.int .i64 t.high,.int .i64 t.add] 137 ap.out _ Tryz.underlying137 rfl (by kernel_rfl) (H _ ?_))
      | (apply Exists.intro
         refine⟨fun w' E=>?_,H _ ?_⟩
         ·(unfold Oper.quietAt
           obtain⟨az,aA⟩:=an.out w' (U.out.trans E);have aB:=am.out w' (S.out.trans E)
           clear E
           go_simp
           try exact⟨rfl,rfl⟩
           try rfl))
     clear H aq
     try simp only[nrm,Act.eval,nrq]))
 refine wpQuiet_nil ?_
 intro aH au
 go_wp2
 go_ret2
 exact⟨rfl,U.out.trans au⟩
structure BnkO (w:World) (bb g:Nat) (l:List (CtrD × Int)):Prop where
 bnk:Bnk w bb l
 row:l=[]∨∃ cap cur,w.heap[bb]?=some (.cells #[.bool true,.slice (some ⟨g,0,none⟩) l.length cap] 248 (0,0))∧w.heap[g]?=some (.cells cur 246 (0,0))
theorem BnkO.frm {w w':World} {E g:Nat} {l:List (CtrD × Int)} {F:List Nat} (R:BnkO w E g l) (a:Frm F w w') (G:E∉F) (h:g∉F):BnkO w' E g l:=by
 obtain⟨⟨X,A,I⟩,S⟩:=R
 rcases S with rfl | ⟨cap,cur,J,W⟩
 ·obtain⟨ao,c,rfl,-⟩:=I
  exact⟨⟨_,a.at A G,Arr.nil _ _ _⟩,.inl rfl⟩
 ·rw[A] at J
  cases J
  refine⟨⟨_,a.at A G,?_⟩,.inr ⟨cap,cur,a.at A G,a.at W h⟩⟩
  obtain⟨ao,c,e,V⟩:=I
  refine⟨ao,c,e,fun i x U=>?_⟩
  obtain⟨b,o,H,K,N,O⟩:=V i x U
  rw[H] at e
  cases e
  exact⟨g,0,H,a.cellAt K h,a.cellAt N h,a.cellAt O h⟩
theorem aZ {w:World} {base e G n:Nat} {v:Value} {H:List Value} (h:w.ownsRow base e G v n H) (E:n≠0):∃ g cap cur,v=.slice (some ⟨g,0,none⟩) n cap∧base≤g∧w.heap[g]?=some (.cells cur e (0,0)):=by
 obtain⟨-,a⟩:=h
 rcases a with ⟨-,a⟩ | ⟨g,cap,cur,rfl,A,hb,-⟩
 ·exact absurd a E
 ·exact⟨g,cap,cur,rfl,A,hb⟩
set_option maxHeartbeats 2000000 in
set_option maxRecDepth 100000 in
theorem qn (H:Nat) (l:List (CtrD × Int)) (w:World) (A:Bnk w H l) (W:l.length≤1000) :
  Calls Tryz.prog 69 #[.pointer (some ⟨H,0,none⟩)] w (aU fun v w'=>∃ G g,v=.pointer (some ⟨G,0,none⟩)∧BnkO w' G g l∧Frm [] w w'∧w.heap.size≤G∧w.heap.size≤g):=by
 have R:=vi (ew H l w A)
 obtain⟨Y,K,N⟩:=A
 have O:=vi (j9 Y l w N (by omega))
 have aa:=ae K 1
 clear K N W
 go_enter Tryz.func69,Tryz.ntmps69
 go_wp2_with (first
  | (go_at_call 134;go_must (refine R.out.mono ?_;rintro e w' ⟨rfl,rfl⟩))
  | (go_at_call 135;go_must (refine O.out.mono ?_;rintro e E ⟨v,rfl,a⟩;obtain⟨ao,I,rfl⟩:=a.arr.shape;have S:=vi a;clear a)))
 go_ret
 have a:=S.out
 have hb:=heap_alloc_new E (.cells #[.bool true,.slice ao l.length I] 248)
 have h:=a.frm.size
 have J:Arr 3 CnAt (E.alloc (.cells #[.bool true,.slice ao l.length I] 248)) (.slice ao l.length I) l:=a.arr.frm fun _ _ _ A=>A.frm ((Frm.refl [] _).alloc _)
 rcases a.own with rfl | ⟨ab,X⟩
 ·exact⟨_,rfl,_,E.heap.size,rfl,⟨⟨_,hb,J⟩,.inl rfl⟩,a.frm.alloc _,h,h⟩
 ·by_cases hn:l.length=0
  ·exact⟨_,rfl,_,E.heap.size,rfl,⟨⟨_,hb,J⟩,.inl (List.length_eq_zero_iff.1 hn)⟩,a.frm.alloc _,h,h⟩
  ·obtain⟨g,cap,cur,e,V,U⟩:=aZ X hn
   cases e
   exact⟨_,rfl,_,g,rfl,⟨⟨_,hb,J⟩,.inr ⟨_,cur,hb,ah U⟩⟩,a.frm.alloc _,h,V⟩
theorem uy {cur:Array Value} {l:List (CtrD × Int)} (A:∀ (i:Nat) x,l[i]?=some x→cur[i*3]?=some (.string x.1.name)∧cur[i*3+1]?=some (.int .i64 x.1.lim)∧cur[i*3+2]?=some (.int .i64 x.2)) {k:Nat} {x:CtrD × Int} (E:l[k]?=some x) (v:Int) :
  ∀ (i:Nat) y,(l.set k (x.1,v))[i]?=some y→(cur.setIfInBounds (k*3+2) (.int .i64 v))[i*3]?=some (.string y.1.name)∧(cur.setIfInBounds (k*3+2) (.int .i64 v))[i*3+1]?=some (.int .i64 y.1.lim)∧(cur.setIfInBounds (k*3+2) (.int .i64 v))[i*3+2]?=some (.int .i64 y.2):=by
 intro i y a
 rw[List.getElem?_set] at a
 have h:=(A k x E)
 have G:k*3+2<cur.size:=(Array.getElem?_eq_some_iff.1 h.2.2).1
 rw[Array.getElem?_setIfInBounds_ne (by omega),Array.getElem?_setIfInBounds_ne (by omega)]
 by_cases e:k=i
 ·subst e
  rw[if_pos rfl,if_pos (ag E)] at a
  cases a
  exact⟨h.1,h.2.1,Array.getElem?_setIfInBounds_self_of_lt G⟩
 ·rw[if_neg e] at a
  rw[Array.getElem?_setIfInBounds_ne (by omega)]
  exact A i y a
theorem BnkO.set {w:World} {h g:Nat} {l:List (CtrD × Int)} (U:BnkO w h g l) {k:Nat} {x:CtrD × Int} (J:l[k]?=some x) (v:Int) :
  h≠g∧w.frozen? ⟨g,k*3+2,none⟩=false∧(∃ cap,w.cell? ⟨h,1,none⟩=some (.slice (some ⟨g,0,none⟩) l.length cap))∧CnAt w g (k*3) x∧BnkO (w.setCell ⟨g,k*3+2,none⟩ (.int .i64 v)) h g (l.set k (x.1,v))∧Frm [g] w (w.setCell ⟨g,k*3+2,none⟩ (.int .i64 v)):=by
 obtain⟨⟨aa,A,Y⟩,V⟩:=U
 rcases V with rfl | ⟨cap,cur,S,a⟩
 ·simp at J
 ·rw[A] at S
  cases S
  have R:h≠g:=fun e=>by subst e;rw[A] at a;cases a
  have O:Frm [g] w (w.setCell ⟨g,k*3+2,none⟩ (.int .i64 v)):=(Frm.refl [g] w).setCell _ (.inl (by simp)) _
  have N:∀ (i:Nat) x,l[i]?=some x→cur[i*3]?=some (.string x.1.name)∧cur[i*3+1]?=some (.int .i64 x.1.lim)∧cur[i*3+2]?=some (.int .i64 x.2):=by
   intro i x W
   obtain⟨b,o,c,e,E,G,H⟩:=Y.at W
   cases e
   rw[ae a] at E G H
   rw[Nat.zero_add] at E G H
   exact⟨E,G,H⟩
  have hb:=ap a (k*3+2) (.int .i64 v)
  have I:=N k x J
  have K:=O.at A (by simpa using R)
  refine⟨R,aj a _,⟨cap,ae A 1⟩,⟨?_,?_,?_⟩,⟨⟨_,K,⟨_,cap,by rw[List.length_set],fun i y X=>⟨g,0,rfl,?_⟩⟩⟩,.inr ⟨cap,_,by rw[List.length_set];exact K,hb⟩⟩,O⟩
  ·rw[ae a];exact I.1
  ·rw[ae a];exact I.2.1
  ·rw[ae a];exact I.2.2
  ·have:=uy N J v i y X
   unfold CnAt
   rw[ae hb,ae hb,ae hb,Nat.zero_add]
   exact this
set_option maxHeartbeats 2000000 in
set_option maxRecDepth 100000 in
theorem mS (a g:Nat) (l:List (CtrD × Int)) (t:StpD) (w:World) (A:BnkO w a g l) (E:t.ctr=aG) :
  Calls Tryz.prog 70 #[.pointer (some ⟨a,0,none⟩),dN t] w (Ret (.int .i64 0) fun w'=>BnkO w' a g l∧Frm [g] w w'):=by
 have S:t.ctr.toList.isEmpty=true:=dg E
 have K:=vi A
 have H:Hid (Frm [] w (w.alloc (.cells #[.string t.frm,.string t.to,.int .i64 t.kind,.string t.msg,.string t.peer,.string t.ctr,.int .i64 t.low,.int .i64 t.high,.int .i64 t.add] 137))):=vi ((Frm.refl [] w).alloc _)
 have J:=vi (gj a l t _ (A.bnk.frm H.out) E)
 have N:Hid (∀ h,Frm [] (w.alloc (.cells #[.string t.frm,.string t.to,.int .i64 t.kind,.string t.msg,.string t.peer,.string t.ctr,.int .i64 t.low,.int .i64 t.high,.int .i64 t.add] 137)) h→h.cell? ⟨w.heap.size,5,none⟩=some (.string t.ctr)):=vi fun h O=>O.keep (ae (heap_alloc_new w _) 5)
 clear A E
 go_enter Tryz.func70,Tryz.ntmps70
 go_wp2_with (first
  | (go_at_call 136;go_must (refine J.out.mono ?_;rintro e U ⟨rfl,G⟩;have R:=N.out _ G;have I:=vi (H.out.trans G);clear G)))
 go_ret
 exact⟨rfl,K.out.frm I.out (by simp) (by simp),I.out.mono (by simp)⟩
set_option maxHeartbeats 2000000 in
set_option maxRecDepth 100000 in
theorem qo (h g:Nat) (l:List (CtrD × Int)) (t:StpD) (k:Nat) (x:CtrD × Int) (w:World) (A:BnkO w h g l) (S:sj l) (V:t.ctr≠aG) (U:fm l t.ctr=k) (G:l[k]?=some x) (N:cD x.1.lim t x.2=true) :
  Calls Tryz.prog 70 #[.pointer (some ⟨h,0,none⟩),dN t] w (Ret (.int .i64 0) fun w'=>BnkO w' h g (l.set k (x.1,x.2+t.add))∧Frm [g] w w'):=by
 have aC:t.ctr.toList.isEmpty=false:=dF V
 have ah:=vi A
 have X:Hid (Frm [] w (w.alloc (.cells #[.string t.frm,.string t.to,.int .i64 t.kind,.string t.msg,.string t.peer,.string t.ctr,.int .i64 t.low,.int .i64 t.high,.int .i64 t.add] 137))):=vi ((Frm.refl [] w).alloc _)
 have W:=vi (iI h l t k x _ (A.bnk.frm X.out) S V U G)
 rw[N] at W
 have Y:Hid (∀ a,Frm [] (w.alloc (.cells #[.string t.frm,.string t.to,.int .i64 t.kind,.string t.msg,.string t.peer,.string t.ctr,.int .i64 t.low,.int .i64 t.high,.int .i64 t.add] 137)) a→a.cell? ⟨w.heap.size,5,none⟩=some (.string t.ctr)∧a.cell? ⟨w.heap.size,8,none⟩=some (.int .i64 t.add)):=vi fun a J=>⟨J.keep (ae (heap_alloc_new w _) 5),J.keep (ae (heap_alloc_new w _) 8)⟩
 have af:Hid (∀ H,Frm [] w H→Calls Tryz.prog 137 #[.pointer (some ⟨h,0,none⟩),.string t.ctr] H (Ret (.int .i64 (k:Int)) (Frm [] H))):=vi fun H ar=>by rw[← U];exact fe h l t.ctr H (A.bnk.frm ar) (by have:=S.1;omega)
 have hb:=S.2 x (List.mem_of_getElem? G)
 have av:wrap64 (x.2+t.add)=x.2+t.add:=by
  unfold cD at N
  simp only[Bool.and_eq_true,decide_eq_true_eq] at N
  unfold wrap64;omega
 have au:(k:Int)<(l.length:Int):=by have:=ag G;omega
 have ak:=vi G
 obtain⟨m,R⟩:∃ m,l.length=m:=⟨_,rfl⟩
 have ax:=vi R
 rw[R] at au
 obtain⟨-,-,⟨cap,s1⟩,⟨s2,s3,s4⟩,-,-⟩:=A.set G 0
 have aj:Hid (∀ a,Frm [] w a→a.cell? ⟨h,1,none⟩=some (.slice (some ⟨g,0,none⟩) m cap)∧a.cell? ⟨g,k*3+2,none⟩=some (.int .i64 x.2)):=vi fun a J=>⟨by rw[← R];exact J.keep s1,J.keep s4⟩
 clear A S V U G N hb R s1 s2 s3 s4
 go_enter Tryz.func70,Tryz.ntmps70
 go_upto_region 7 with (first
  | (go_at_call 136;go_must (refine W.out.mono ?_;rintro e aE ⟨rfl,O⟩;obtain⟨ap,aq⟩:=Y.out _ O;have K:=vi (X.out.trans O);have ai:=vi O;clear O)))
 clear ap aq
 refine bQ 16 (by kernel_rfl) (by kernel_rfl) ?_
 simp only[List.take_succ_cons,List.take_zero,List.drop_succ_cons,List.drop_zero]
 repeat (first
  | go_big_quiet_skip
  | (refine wpQuiet_want (by rfl) (fun an I=>?_)
     first
      | (refine quiet_move _ (by rfl) (I _ ?_))
      | (refine quiet_assign _ (by rfl) (I _ ?_))
      | (refine aV (.int .i64 (k:Int)) 137 #[.pointer (some ⟨h,0,none⟩),.string t.ctr] (fun w' E=>?_) (fun w' E=>Ret.cq (af.out w' (K.out.trans E)) (fun aD A=>E.trans A)) (I _ ?_)
         ·go_simp)
      | (apply Exists.intro
         refine⟨fun w' E=>?_,I _ ?_⟩
         ·(unfold Oper.quietAt
           obtain⟨ay,az⟩:=aj.out w' (K.out.trans E);obtain⟨aA,aB⟩:=Y.out w' (ai.out.trans E)
           clear E
           go_simp
           try exact⟨rfl,rfl⟩
           try rfl))
     clear I an
     try simp only[nrm,Act.eval,nrq]))
 refine wpQuiet_nil ?_
 intro aF aa
 obtain⟨aw,aH,-,⟨-,-,aI⟩,ab,ad⟩:=(ah.out.frm (K.out.trans aa) (by simp) (by simp)).set ak.out (x.2+t.add)
 have al:=vi ab;have am:=vi ad
 clear aw ab ad
 go_wp2
 go_ret
 refine⟨rfl,?_⟩
 rw[av]
 exact⟨al.out,((K.out.trans aa).mono (by simp)).trans am.out⟩
def uz (l:List (CtrD × Int)) (t:StpD):Prop:=t.ctr=aG∨∃ (k:Nat) (x:CtrD × Int),fm l t.ctr=k∧l[k]?=some x
theorem lh (a:Nat) (l:List (CtrD × Int)) (t:StpD) (w:World) (A:Bnk w a l) (H:sj l) (h:uz l t) :
  Calls Tryz.prog 136 #[.pointer (some ⟨a,0,none⟩),dN t] w (Ret (.tuple #[.bool (okB l t),.int .i64 0]) (Frm [] w)):=by
 by_cases he:t.ctr=aG
 ·unfold okB
  rw[if_pos he]
  exact gj a l t w A he
 ·rcases h with h | ⟨k,x,E,G⟩
  ·exact absurd h he
  ·unfold okB
   rw[if_neg he,E,Int.toNat_natCast,G]
   exact iI a l t k x w A H he E G
structure ApTo (w:World) (bb g:Nat) (l:List (CtrD × Int)) (w':World):Prop where
 bnk:BnkO w' bb g l
 frm:Frm [g] w w'
theorem gD (a g:Nat) (l:List (CtrD × Int)) (t:StpD) (w:World) (I:BnkO w a g l) (N:sj l) (G:uz l t) (H:okB l t=true) :
  Calls Tryz.prog 70 #[.pointer (some ⟨a,0,none⟩),dN t] w (Ret (.int .i64 0) (ApTo w a g (doC l t))):=by
 by_cases he:t.ctr=aG
 ·unfold doC
  rw[if_pos he]
  exact(mS a g l t w I he).mono fun e w' ⟨h,A,E⟩=>⟨h,A,E⟩
 ·rcases G with G | ⟨k,x,J,K⟩
  ·exact absurd G he
  ·unfold okB at H
   unfold doC
   rw[if_neg he,J,Int.toNat_natCast,K] at H ⊢
   exact(qo a g l t k x w I N he J K H).mono fun e w' ⟨h,A,E⟩=>⟨h,A,E⟩
structure CpTo (w:World) (l:List (CtrD × Int)) (b g:Nat) (w':World):Prop where
 bnk:BnkO w' b g l
 frm:Frm [] w w'
 b:w.heap.size≤b
 g:w.heap.size≤g
theorem jG (a:Nat) (l:List (CtrD × Int)) (w:World) (h:Bnk w a l) (K:l.length≤1000):Calls Tryz.prog 69 #[.pointer (some ⟨a,0,none⟩)] w (aU fun v w'=>∃ b g,v=.pointer (some ⟨b,0,none⟩)∧CpTo w l b g w'):=
 (qn a l w h K).mono fun e w' ⟨v,A,b,g,E,G,H,I,J⟩=>⟨v,A,b,g,E,G,H,I,J⟩
section
variable {s:SesD} {x:PS}
theorem iZ {a:List CtrD} {h:List Int} (E:h.length=a.length) {k:Nat} {c:CtrD} (A:a[k]?=some c):(a.zip h)[k]?=some (c,h.getD k 0):=by
 rw[List.getElem?_zip_eq_some]
 exact⟨A,bf (by rw[E];exact ag A)⟩
theorem gG {a:List CtrD} {h:List Int} (A:h.length=a.length) (n:ByteArray):fm (a.zip h) n=bL a n:=by
 unfold fm bL
 induction a generalizing h with
 | nil=>rfl
 | cons c a ih =>
   cases h with
   | nil=>simp at A
   | cons v h =>
     rw[List.zip_cons_cons]
     unfold ixf
     rw[ih (by simpa using A)]
theorem tL (h:PSok s x) {i:Nat} (a:i<s.roles.length):(x.ctr s i).length=(s.rol i).ctrs.length:=by
 unfold PS.ctr
 rw[List.length_zip,(h.vb i a).1,Nat.min_self]
theorem gp (G:SesOk s) (H:PSok s x) {i:Nat} (h:i<s.roles.length):sj (x.ctr s i):=by
 refine⟨by rw[tL H h];exact(G.at h).c4,?_⟩
 rintro⟨c,v⟩ I
 obtain⟨k,a⟩:=List.getElem?_of_mem I
 unfold PS.ctr at a
 rw[List.getElem?_zip_eq_some] at a
 have E:=(G.at h).cN c (List.mem_of_getElem? a.1)
 have A:=(H.vb i h).2 k c a.1
 rw[aW a.2] at A
 exact⟨E.2.1,E.2.2,A.1,A.2⟩
theorem pk (H:SesOk s) (h:PSok s x) {i k:Nat} (a:i<s.roles.length) (G:k<(s.rol i).steps.length):uz (x.ctr s i) ((s.rol i).stp k):=by
 by_cases he:((s.rol i).stp k).ctr=aG
 ·exact .inl he
 ·obtain⟨j,c,A,E,-⟩:=(H.stp a G).ctr he
  refine .inr ⟨j,(c,(x.bank i).getD j 0),?_,iZ (h.vb i a).1 E⟩
  unfold PS.ctr
  rw[gG (h.vb i a).1,A]
theorem mE (H:SesOk s) (A:PSok s x) {i k:Nat} (a:i<s.roles.length) (G:k<(s.rol i).steps.length):okB (x.ctr s i) ((s.rol i).stp k)=bY (s.rol i).ctrs (x.bank i) ((s.rol i).stp k):=by
 unfold okB bY
 by_cases he:((s.rol i).stp k).ctr=aG
 ·rw[if_pos he,if_pos he]
 ·obtain⟨j,c,E,h,-⟩:=(H.stp a G).ctr he
  rw[if_neg he,if_neg he]
  unfold PS.ctr
  rw[gG (A.vb i a).1,E,Int.toNat_natCast,iZ (A.vb i a).1 h,aW h,decide_eq_true (show (0:Int)≤(j:Int) by omega)]
  rfl
theorem sk (H:SesOk s) (A:PSok s x) {i k:Nat} (a:i<s.roles.length) (G:k<(s.rol i).steps.length):doC (x.ctr s i) ((s.rol i).stp k)=(s.rol i).ctrs.zip (cJ (s.rol i).ctrs (x.bank i) ((s.rol i).stp k)):=by
 unfold doC cJ
 by_cases he:((s.rol i).stp k).ctr=aG
 ·rw[if_pos he,if_pos he];rfl
 ·obtain⟨j,c,E,h,-⟩:=(H.stp a G).ctr he
  rw[if_neg he,if_neg he]
  unfold PS.ctr
  rw[gG (A.vb i a).1,E,Int.toNat_natCast,iZ (A.vb i a).1 h]
  apply List.ext_getElem?
  intro q
  rw[List.getElem?_set]
  by_cases e:j=q
  ·subst e
   rw[if_pos rfl,if_pos (ag (iZ (A.vb i a).1 h))]
   symm
   rw[List.getElem?_zip_eq_some]
   exact⟨h,by rw[List.getElem?_set,if_pos rfl,if_pos (by rw[(A.vb i a).1];exact ag h)]⟩
  ·rw[if_neg e]
   rw[List.zip_eq_zipWith,List.zip_eq_zipWith,List.getElem?_zipWith,List.getElem?_zipWith,List.getElem?_set_ne e]
end
end Go.Proofs.YtohfkhjlnlahdaaGreat
