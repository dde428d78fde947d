/- Part of the proof. -/
import Derived.Test.YtohfkhjlnlahdaaGreatQ04
import Derived.Test.YtohfkhjlnlahdaaGreatQ10
import Derived.Shelf.SlicesG.Turned
import Derived.Shelf.SlicesG.Delete
import Derived.Sort.OwnSorted
import Derived.OrdersHeld
import Derived.Test.YtohfkhjlnlahdaaGreatQ16
import Derived.RangeFuncNested
import Derived.RangeFuncLeaves
import Derived.RangeFuncCalls
import Derived.RangeFuncBound
import Derived.OwnWalkIn
import Derived.TacticsInMore
import Derived.LoopNIn
import Derived.LoopIn
import Derived.Sort.CutIn
import Derived.OrdersIn
import Derived.Test.YtohfkhjlnlahdaaGreatQ03
set_option linter.all false
namespace Go.Proofs.YtohfkhjlnlahdaaGreat
open Go.RowKit Go.BigFrame
def okC (cls cap:Int):Bool:=decide (1≤cls∧cls≤3∧1≤cap∧cap≤64)
theorem uY (cls cap:Int) (w:World) (a:okC cls cap=false):Calls Tryz.prog 113 #[.int .i64 cls,.int .i64 cap] w (Ret (.tuple #[.pointer none,.int .i64 2]) (w=·)):=by
 simp only[okC,decide_eq_false_iff_not] at a
 by_cases h1:cls<1
 ·go_enter Tryz.func113,Tryz.ntmps113
  go_wp2
  go_ret2
  exact⟨rfl,rfl⟩
 ·by_cases h2:3<cls
  ·go_enter Tryz.func113,Tryz.ntmps113
   go_wp2
   go_ret2
   exact⟨rfl,rfl⟩
  ·by_cases h3:cap<1
   ·go_enter Tryz.func113,Tryz.ntmps113
    go_wp2
    go_ret2
    exact⟨rfl,rfl⟩
   ·have h:64<cap:=by omega
    go_enter Tryz.func113,Tryz.ntmps113
    go_wp2
    go_ret2
    exact⟨rfl,rfl⟩
theorem qE (cls cap:Int) (w:World) (a:okC cls cap=true):Calls Tryz.prog 113 #[.int .i64 cls,.int .i64 cap] w
  (Ret (.tuple #[.pointer (some ⟨w.heap.size,0,none⟩),.int .i64 0]) (fun w'=>Frm [] w w'∧Chn w' w.heap.size cls cap [] [w.heap.size])):=by
 simp only[okC,decide_eq_true_iff] at a
 obtain⟨h,A,E,G⟩:=a
 have H:¬ cls<1:=by omega
 have I:¬ 3<cls:=by omega
 have J:¬ cap<1:=by omega
 have K:¬ 64<cap:=by omega
 go_enter Tryz.func113,Tryz.ntmps113
 go_wp2
 go_ret2
 exact⟨rfl,(Frm.refl _ _).alloc _,.slice none 0 0,heap_alloc_new _ _,World.ownsRow_nil _ _ _ _,⟨h,A,E,G,by simpa using (by omega:(0:Int)≤cap),by simp⟩,rfl⟩
section
variable {w:World} {cb:Nat} {cls cap:Int} {L:List ByteArray} {F:List Nat}
theorem Good.lenN (a:Good cls cap L):L.length≤64:=by have:=a.len;have:=a.k64;omega
theorem iQ (a:Chn w cb cls cap L F):Calls Tryz.prog 154 #[.pointer (some ⟨cb,0,none⟩)] w (aU (o4 w L)):=by
 have H:=vi (dd cb cls cap L F w a)
 have N:=a.good.lenN
 obtain⟨J,h,A,-,-⟩:=a
 have G:=vi (ia J L w A (by omega))
 have K:=ae h 2
 clear h A
 go_enter Tryz.func154,Tryz.ntmps154
 go_wp2_with (first
  | (go_at_call 128;go_must (refine H.out.mono ?_;rintro e w' ⟨rfl,rfl⟩))
  | (go_at_call 133;go_must (refine G.out.mono ?_;rintro e w' ⟨v,rfl,E⟩;have I:=vi E;clear E)))
 go_ret
 exact⟨_,rfl,I.out⟩
theorem iT (h:Chn w cb cls cap L F):Calls Tryz.prog 103 #[.pointer (some ⟨cb,0,none⟩)] w (Ret (.int .i64 L.length) (Frm [] w)):=by
 have A:=vi (iQ h)
 clear h
 go_enter Tryz.func103,Tryz.ntmps103
 go_wp2_with (go_at_call 154;go_must (refine A.out.mono ?_;rintro e w' ⟨v,rfl,a⟩;obtain⟨ao,c,rfl,-,-⟩:=a.1.shape;have E:=vi a;clear a))
 go_ret
 exact⟨rfl,E.out.2.1⟩
set_option maxHeartbeats 1000000 in
set_option maxRecDepth 100000 in
theorem qU (h:Chn w cb cls cap L F):Calls Tryz.prog 127 #[.pointer (some ⟨cb,0,none⟩)] w (aU fun v w'=>∃ I F',v=.pointer (some ⟨I,0,none⟩)∧Chn w' I cls cap L F'∧Frm [] w w'∧∀ x∈F',w.heap.size≤x):=by
 have N:=vi (dd cb cls cap L F w h)
 have O:=vi h.good
 have ab:=h.good.lenN
 obtain⟨K,A,J,-,-⟩:=h
 have R:=vi J
 have c0:=ae A 0
 have S:=ae A 1
 have U:=ae A 2
 clear A J
 go_enter Tryz.func127,Tryz.ntmps127
 go_wp2_with (first
  | (go_at_call 128;go_must (refine N.out.mono ?_;rintro e w' ⟨rfl,rfl⟩)))
 go_region_held3 (fun w'=>w'.cell? ⟨cb,0,none⟩=some (.int .i64 cls)∧w'.cell? ⟨cb,1,none⟩=some (.int .i64 cap)∧w'.cell? ⟨cb,2,none⟩=some K)
  (first
   | (exact⟨a.out.keep c0,a.out.keep S,a.out.keep U⟩)
   | go_keep)
  (first | (go_at_call 133;go_must (refine(ia K L _ ((Frm.refl [] w).drew.owns R.out (by simp)) (by omega)).mono ?_;rintro e X ⟨v',rfl,E⟩;obtain⟨Y,aa,rfl,-,-⟩:=E.1.shape;have H:=vi E;have a:Hid (Frm [] w X):=vi ((Frm.refl [] w).drew.trans E.2.1);clear E)))
 all_goals
  go_wp2
  go_ret
  exact⟨_,rfl,_,_,rfl,⟨_,heap_alloc_new _ _,(H.out.1.frm ((Frm.refl [] _).alloc _) (by simp)),O.out,rfl⟩,a.out.alloc _,fun x G=>by
   have V:=H.out.2.2
   have W:=a.out.size
   simp only[List.mem_cons,Option.mem_toList] at G
   rcases G with rfl | G
   ·exact W
   ·exact V x G⟩
end
theorem pT (v:Value) (i:Int) (w:World):Calls Tryz.prog 179 #[v,.int .i64 i] w (Ret (.bool (i == 0)) (w=·)):=by
 go_enter Tryz.func179,Tryz.ntmps179
 go_wp2
 go_ret
 exact⟨rfl,rfl⟩
abbrev ge:Obj:=.cells #[.nilFunc,.func (.func 179) #[] #[],.func (.func 180) #[] #[],.func (.func 179) #[] #[]] 236
theorem ix (w:World):Calls Tryz.prog 131 #[] w (Ret (.slice (some ⟨w.heap.size,0,none⟩) 4 4) (w.alloc ge=·)):=by
 go_enter Tryz.func131,Tryz.ntmps131
 go_wp2
 go_ret
 exact⟨rfl,rfl⟩
theorem nM (v:Value) (L:List ByteArray) (i:Nat) (x:ByteArray) (w:World) (A:Strs w v L) (O:L.length≤1000000) (a:L[i]?=some x) :
  Calls Tryz.prog 180 #[v,.int .i64 i] w (Ret (.bool (Lib.idxOfS L x == (i:Int))) (w=·)):=by
 obtain⟨ao,cap,rfl,J,h⟩:=A.shape
 obtain⟨g,rfl,K⟩:=h i x a
 have H:=ag a
 have R:(i:Int)<(L.length:Int):=by omega
 have CI:=AnyG.slices_Index_string Tryz.indexS g 0 L.length cap L x w (Nat.le_refl _) (by omega) (fun j I=>by
  have a:L[j]?=some (L.getD j ByteArray.empty):=by rw[List.getD_eq_getElem?_getD,List.getElem?_eq_getElem I];rfl
  obtain⟨N,G,e⟩:=h j _ a
  cases G
  rw[Nat.zero_add];exact e)
 rw[List.take_length] at CI
 have E:=vi CI
 clear CI A J h a H
 go_enter Tryz.func180,Tryz.ntmps180
 go_wp2_with (go_at_call 181;go_must (refine E.out.mono ?_;rintro e w' ⟨rfl,rfl⟩))
 go_ret
 exact⟨rfl,rfl⟩
theorem Good.add {cls cap:Int} {L:List ByteArray} {m:ByteArray} (h:Good cls cap L) (A:1≤m.size) (E:m.size≤32) (G:(L.length:Int)<cap):Good cls cap (L++[m]):=
 ⟨h.c1,h.c3,h.k1,h.k64,by simp;omega,fun x a=>by
  rcases List.mem_append.1 a with a | a
  ·exact h.sz x a
  ·simp at a;subst a;exact⟨A,E⟩⟩
theorem sM {w H A:World} {cb:Nat} {cls cap:Int} {L L':List ByteArray} {h v':Value} {E:Obj} (V:w.heap[cb]?=some (.cells #[.int .i64 cls,.int .i64 cap,h] 233 (0,0))) (_:Strs w h L) (_:Good cls cap L) (N:Good cls cap L')
  (J:Frm [] w H) (O:(H.alloc E).grownBy A h.ownBlock) (K:Strs A v' L') (S:v'.ownBlock=h.ownBlock∨v'.ownBlock=some (H.alloc E).heap.size) (I:A.heap[cb]?=some (.cells #[.int .i64 cls,.int .i64 cap,h] 233 (0,0))) :
  ChnTo w cb cls cap L' (cb :: h.ownBlock.toList) (A.setCell ⟨cb,2,none⟩ v'):=by
 have U:v'.ownBlock≠some cb:=fun e=>by
  obtain⟨x,a⟩:=ak K e
  rw[I] at a;cases a
 refine⟨cb :: v'.ownBlock.toList,⟨v',(ap I 2 v').trans rfl,ownsRow_setCell_other K U v',N,rfl⟩,?_,fun x a=>?_⟩
 ·exact(((J.alloc E).mono (F':=cb :: h.ownBlock.toList) (by simp)).grown O (fun k R=>.inl (by simp[R]))).setCell _ (.inl (by simp)) _
 ·simp only[List.mem_cons,Option.mem_toList] at a ⊢
  rcases a with rfl | a
  ·exact .inl (.inl rfl)
  ·rcases S with G | G
   ·rw[G] at a;exact .inl (.inr a)
   ·rw[G] at a;simp at a;have:=J.size;right;omega
theorem Tryz.info9:(Tryz.prog.info? 9).map (fun i=>(i.zero,i.size,i.bytes))=some (some (.string { data:=#[] }),1,16):=by kernel_rfl
set_option maxHeartbeats 1000000 in
set_option maxRecDepth 100000 in
theorem oZ (cb:Nat) (cls cap:Int) (L:List ByteArray) (F:List Nat) (m:ByteArray) (w:World) (G:Chn w cb cls cap L F) (ap:1≤m.size) (aq:m.size≤32) (ar:(L.length:Int)<cap) :
  Calls Tryz.prog 67 #[.pointer (some ⟨cb,0,none⟩),.string m] w (Ret (.int .i64 0) (ChnTo w cb cls cap (L++[m]) F)):=by
 have ab:=vi (dd cb cls cap L F w G)
 have S:=vi G.good
 have aI:=G.good.lenN
 obtain⟨aM,a,K,-,rfl⟩:=G
 have an:=ae a 1
 have U:=ae a 2
 obtain⟨ao,c,rfl,-,-⟩:=K.shape
 have E:=vi a;have J:=vi K;have R:=vi a
 clear a K
 obtain⟨aA,au,ax,ay,az⟩:=info_parts Tryz.info9
 have aJ:¬ (m.size:Int)<1:=by omega
 have aK:¬ (32:Int)<(m.size:Int):=by omega
 have aL:((L.length:Int) == cap)=false:=by simp;omega
 go_enter Tryz.func67,Tryz.ntmps67
 go_wp2_with (first
  | (go_at_call 128;go_must (refine ab.out.mono ?_;rintro e w' ⟨rfl,rfl⟩)))
 go_quiet (fail)
 obtain⟨A,I⟩:∃ A,w.drewN nq=A:=⟨_,rfl⟩
 have h:Frm [] w A:=by rw[← I];exact(Frm.refl [] w).drewN _
 have X:w.heap.size=A.heap.size:=by rw[← I];rfl
 rw[I]
 have al:=vi h
 have U:=h.keep U
 have ai:=vi (J.out.frm h (by simp))
 have E:=vi (h.at E.out (by simp))
 have aH:=aj E.out 2
 have aC:=vi X
 have av:Hid ((Value.slice ao L.length c).ownBlock≠some cb):=vi (fun e=>by
  obtain⟨x,aa⟩:=ak J.out e
  rw[R.out] at aa;cases aa)
 clear an I h X
 go_wp2_with (at_builtin;refine wpList_append_own_at _ rfl _ _ 75 rfl 0 9 aA (.string { data:=#[] }) 1 16 Tryz.underlying75 au ax ay az rfl (by decide) _ _ _ rfl (ai.out.alloc _) ⟨A.heap.size,0,none⟩ 1 1 [.string m] rfl rfl (cell_one_new _ _ _) (by simp[Value.oneCell']) (by unfold maxLen;omega) (by omega) (Nat.zero_le _) ?_;intro v' aB W N aw V;have O:Strs aB v' (L++[m]):=(by simpa[Strs] using W);obtain⟨aD,aE,Y,-,-⟩:=O.shape;rw[List.length_append,List.length_cons,List.length_nil,Nat.zero_add] at Y;subst Y;have am:=vi O;have H:=bJ N (ah E.out) av.out;have ad:=vi H;have af:=vi N;have ag:=vi V;have aF:=ae H 2;have aG:=aj H 2;clear O H W N V aw)
 go_ret
 exact⟨rfl,sM R.out J.out S.out (S.out.add ap aq ar) al.out af.out am.out ag.out ad.out⟩
set_option maxHeartbeats 1000000 in
theorem sN (cb:Nat) (cls cap:Int) (L:List ByteArray) (F:List Nat) (m:ByteArray) (w:World) (a:Chn w cb cls cap L F) :
  Calls Tryz.prog 67 #[.pointer (some ⟨cb,0,none⟩),.string m] w (Ret (.int .i64 (eq cap L m)) (ChnTo w cb cls cap (gv cap L m) F)):=by
 have H:=a.good.len
 by_cases h1:m.size<1
 ·have h:eq cap L m=2:=by simp[eq,h1]
  have J:(m.size:Int)<1:=by omega
  rw[gv,h,if_neg (by decide)]
  have A:=vi (dd cb cls cap L F w a)
  have E:=vi a.to
  clear a H
  go_enter Tryz.func67,Tryz.ntmps67
  go_wp2_with (go_at_call 128;go_must (refine A.out.mono ?_;rintro e w' ⟨rfl,rfl⟩))
  go_ret
  exact⟨rfl,E.out⟩
 ·by_cases h2:32<m.size
  ·have h:eq cap L m=2:=by simp[eq,h2]
   have J:¬ (m.size:Int)<1:=by omega
   have K:(32:Int)<(m.size:Int):=by omega
   rw[gv,h,if_neg (by decide)]
   have A:=vi (dd cb cls cap L F w a)
   have E:=vi a.to
   clear a H
   go_enter Tryz.func67,Tryz.ntmps67
   go_wp2_with (go_at_call 128;go_must (refine A.out.mono ?_;rintro e w' ⟨rfl,rfl⟩))
   go_ret
   exact⟨rfl,E.out⟩
  ·by_cases h3:(L.length:Int)=cap
   ·have h:eq cap L m=7:=by rw[eq,if_neg (by omega),if_pos h3]
    have J:¬ (m.size:Int)<1:=by omega
    have K:¬ (32:Int)<(m.size:Int):=by omega
    have R:((L.length:Int) == cap)=true:=by simpa using h3
    rw[gv,h,if_neg (by decide)]
    have A:=vi (dd cb cls cap L F w a)
    have E:=vi a.to
    obtain⟨S,G,I,-,rfl⟩:=a
    have N:=ae G 1
    have O:=ae G 2
    obtain⟨ao,c,rfl,-,-⟩:=I.shape
    clear G I H
    go_enter Tryz.func67,Tryz.ntmps67
    go_wp2_with (go_at_call 128;go_must (refine A.out.mono ?_;rintro e w' ⟨rfl,rfl⟩))
    go_quiet (fail)
    go_wp2
    go_ret
    exact⟨rfl,E.out.frm ((Frm.refl [] _).drewN _)⟩
   ·have h:eq cap L m=0:=by rw[eq,if_neg (by omega),if_neg h3]
    rw[gv,h,if_pos rfl]
    exact oZ cb cls cap L F m w a (by omega) (by omega) (by omega)
end Go.Proofs.YtohfkhjlnlahdaaGreat
namespace Go.Proofs.YtohfkhjlnlahdaaGreat
open Go.RowKit Go.BigFrame
def Lf (w:World) (a:Value) (L:List ByteArray):Prop:=
 Strs w a L∨∃ g cur,a=.slice (some ⟨g,0,none⟩) L.length L.length∧w.heap[g]?=some (.cells cur 9 (0,0))∧cur.toList.take L.length=L.map Value.string
theorem Lf.shape {w:World} {E:Value} {L:List ByteArray} (h:Lf w E L):∃ ao cap,E=.slice ao L.length cap∧(∀ k x,L[k]?=some x→∃ g,ao=some ⟨g,0,none⟩∧w.cell? ⟨g,k,none⟩=some (.string x)):=by
 rcases h with h | ⟨g,cur,rfl,hb,I⟩
 ·obtain⟨ao,cap,a,-,G⟩:=h.shape
  exact⟨ao,cap,a,G⟩
 ·refine⟨_,_,rfl,fun k x A=>⟨g,rfl,?_⟩⟩
  have H:=ag A
  rw[ae hb]
  have a:(cur.toList.take L.length)[k]?=some (.string x):=by rw[I];simp[A]
  rw[List.getElem?_take_of_lt H] at a
  simpa using a
theorem Lf.room {w:World} {ao:Option Addr} {L:List ByteArray} {cap:Nat} (h:Lf w (.slice ao L.length cap) L):L.length≤cap:=by
 rcases h with h | ⟨g,cur,a,hb,G⟩
 ·rcases h.2 with ⟨a,E⟩ | ⟨g,c,cur,a,-,-,A,-⟩
  ·omega
  ·cases a;exact A
 ·cases a;exact Nat.le_refl _
theorem Lf.frm {F:List Nat} {w w':World} {h:Value} {L:List ByteArray} (a:Lf w h L) (A:Frm F w w') (E:∀ k,h.ownBlock=some k→k∉F):Lf w' h L:=by
 rcases a with a | ⟨g,cur,rfl,hb,G⟩
 ·exact .inl (a.frm A E)
 ·exact .inr ⟨g,cur,rfl,A.at hb (E g rfl),G⟩
theorem Lf.lt {w:World} {A:Value} {L:List ByteArray} (a:Lf w A L) {k:Nat} (h:A.ownBlock=some k):k<w.heap.size:=by
 rcases a with a | ⟨g,cur,rfl,hb,E⟩
 ·exact bV a h
 ·cases h;exact lt_of_block hb
end Go.Proofs.YtohfkhjlnlahdaaGreat
namespace Go.Proofs.YtohfkhjlnlahdaaGreat
open Go.RowKit Go.BigFrame
theorem Lf.cells {h:World} {ao:Option Addr} {cap:Nat} {L:List ByteArray} (a:Lf h (.slice ao L.length cap) L):∀ b,ao=some b→∀ j u,(L.map Value.string)[j]?=some u→h.cell? (b.add j)=some u:=by
 intro b hb j u G
 obtain⟨N,O,J,I⟩:=a.shape
 cases J
 rw[List.getElem?_map,Option.map_eq_some_iff] at G
 obtain⟨y,K,rfl⟩:=G
 obtain⟨A,E,e⟩:=I j y K
 rw[hb] at E
 cases E
 have H:(⟨A,0,none⟩:Addr).add j=⟨A,j,none⟩:=by simp[Addr.add];exact fun a=>a.symm
 rw[H];exact e
theorem o6 {ty:TypeId} (b:Nat) (a:World) (hb:a.heap[b]?=some (.cells #[] 9 (0,0))) (I:Value) (n:Nat) (h:List Value) (N:Src Tryz.prog 1 75 I n h a) (U:0<n→∃ A c,I=.slice (some A) n c∧∀ j u,h[j]?=some u→a.cell? (A.add j)=some u) (ab:n≤1000000) :
  ∃ ao E G,(Builtin.append_ #[75,75] ty #[.slice (some ⟨b,0,none⟩) 0 0,I]).run Tryz.prog a=.ok (.slice ao n E) G∧G.ownsRow b 9 1 (.slice ao n E) n h∧a.grownBy G none:=by
 obtain⟨R,J,X,O,Y⟩:=info_parts Tryz.info9
 have K:=N.newsLen
 cases n with
 | zero =>
   obtain rfl:h=[]:=List.length_eq_zero_iff.1 (by simpa using K)
   refine⟨_,_,_,run_append_nothing a 75 75 _ 9 R Tryz.underlying75 J (some ⟨b,0,none⟩) 0 0 (Nat.le_refl _) _ (by rw[O];exact N),⟨rfl,.inr ⟨b,0,#[],rfl,Nat.le_refl _,hb,Nat.le_refl _,Nat.zero_le _,rfl,rfl⟩⟩,(Frm.refl [] a).grownNone⟩
 | succ n =>
   obtain⟨A,c,rfl,S⟩:=U (Nat.succ_pos n)
   obtain⟨v',w',V,H,aa⟩:=run_append_arg_grows (P:=Tryz.prog) a 75 ty 9 R (.string { data:=#[] }) 1 16 Tryz.underlying75 J X O Y rfl (by decide) ⟨b,0,none⟩ 0 0 [] (by simp) (fun j u W=>by simp at W) A (n+1) c h K S (by omega) (by unfold maxLen;omega) (by omega)
   rw[Nat.zero_add,List.nil_append] at H
   obtain⟨ao,E,rfl⟩:=an H
   exact⟨ao,E,w',V,df H (Nat.le_of_lt (lt_of_block hb)),aa⟩
theorem gS {H:Array Oper} {rest:List Oper} {o:Oper} {A:Act} {Q:Exit→Act→World→Prop} {w:World} (K:o.guard=none) (s x:Operand) (R:o.op=.call { callee:=.builtin .append,args:=#[s,x],argTypes:=#[75,75] })
  (b:Nat) (V:A.eval s=.slice (some ⟨b,0,none⟩) 0 0) (hb:w.heap[b]?=some (.cells #[] 9 (0,0))) (h:Value) (X:A.eval x=h) (n:Nat) (E:List Value) (W:Src Tryz.prog 1 75 h n E w)
  (N:0<n→∃ G c,h=.slice (some G) n c∧∀ j u,E[j]?=some u→w.cell? (G.add j)=some u) (O:n≤1000000)
  (I:∀ ao a w',w'.ownsRow b 9 1 (.slice ao n a) n E→w.grownBy w' none→wpList Tryz.prog H Q rest (A.put o.dst (.slice ao n a)) w'):wpList Tryz.prog H Q (o :: rest) A w:=by
 refine wpList_plain K fun ab J=>?_
 obtain⟨ao,a,w',S,Y,aa⟩:=o6 b w hb h n E W N O
 have U:(Builtin.append_ #[75,75] o.type #[.slice (some ⟨b,0,none⟩) 0 0,h]).run Tryz.prog w=.ok (.slice ao n a) w':=S
 unfold Oper.wp
 simp[execOp,R,resolve,invoke,builtin,V,X,U,Result.andThen]
 exact J _ _ (I ao a w' Y aa)
theorem Lf.src {a:World} {ao:Option Addr} {cap:Nat} {L:List ByteArray} (A:Lf a (.slice ao L.length cap) L):Src Tryz.prog 1 75 (.slice ao L.length cap) L.length (L.map Value.string) a:=by
 cases ao with
 | none =>
   obtain⟨J,K,I,E⟩:=A.shape
   cases I
   have e:L=[]:=by
    cases L with
    | nil=>rfl
    | cons x l=>obtain⟨g,G,-⟩:=E 0 x rfl;cases G
   subst e
   exact Src.ofNil a Tryz.underlying75 cap
 | some h=>exact Src.ofSlice a Tryz.underlying75 h L.length cap _ (by simp) (A.cells h rfl) (by intro u H;obtain⟨x,-,rfl⟩:=List.mem_map.1 H;rfl)
theorem Lf.some_addr {a:World} {ao:Option Addr} {cap:Nat} {L:List ByteArray} (A:Lf a (.slice ao L.length cap) L) (G:0<L.length):∃ h c,Value.slice ao L.length cap=.slice (some h) L.length c∧∀ j u,(L.map Value.string)[j]?=some u→a.cell? (h.add j)=some u:=by
 obtain⟨I,J,H,E⟩:=A.shape
 cases H
 cases L with
 | nil=>simp at G
 | cons x l =>
   obtain⟨g,rfl,-⟩:=E 0 x rfl
   exact⟨_,_,rfl,A.cells _ rfl⟩
theorem Tryz.info164s:(Tryz.prog.info? 164).map (·.size)=some 3:=by kernel_rfl
theorem eK {fn:Func} {p q:Tmp} (h:fn.results=#[.cell p 164,.tmp q]) {tmps:Array Value} {w:World} {g:Nat} {a:Array Value} {t:TypeId} {v:Value} (E:tmps.getD p undef=.pointer (some ⟨g,0,none⟩)) (H:tmps.getD q undef=v) (A:w.heap[g]?=some (.cells a t (0,0))) (J:a.size=3) :
  (results fn tmps).run Tryz.prog w=.ok (.tuple #[.agg a,v]) w:=by
 have G:tmps[p]?.getD undef=.pointer (some ⟨g,0,none⟩):=by simpa using E
 have I:tmps[q]?.getD undef=v:=by simpa using H
 simp[results,h,G,I,asAddr,run_loadVar_row w g t 164 a (0,0) _ A Tryz.underlying164 rfl (by rw[Tryz.info164s,J])]
theorem eD {fn:Func} {p q r:Tmp} (h:fn.results=#[.cell p 164,.tmp q,.tmp r]) {tmps:Array Value} {w:World} {g:Nat} {a:Array Value} {t:TypeId} {v u:Value} (E:tmps.getD p undef=.pointer (some ⟨g,0,none⟩)) (H:tmps.getD q undef=v) (J:tmps.getD r undef=u) (A:w.heap[g]?=some (.cells a t (0,0))) (N:a.size=3) :
  (results fn tmps).run Tryz.prog w=.ok (.tuple #[.agg a,v,u]) w:=by
 have G:tmps[p]?.getD undef=.pointer (some ⟨g,0,none⟩):=by simpa using E
 have I:tmps[q]?.getD undef=v:=by simpa using H
 have K:tmps[r]?.getD undef=u:=by simpa using J
 simp[results,h,G,I,K,asAddr,run_loadVar_row w g t 164 a (0,0) _ A Tryz.underlying164 rfl (by rw[Tryz.info164s,N])]
def RfTo (w:World) (cls cap:Int) (h:Value) (L':List ByteArray) (A:Value→Value) (v:Value) (w':World):Prop:=
 ∃ a,v=A (.agg #[.int .i64 cls,.int .i64 cap,a])∧Lf w' a L'∧Frm [] w w'∧∀ k,a.ownBlock=some k→h.ownBlock=some k∨w.heap.size≤k
theorem RfTo.same {w w':World} {cls cap:Int} {a:Value} {L:List ByteArray} {A:Value→Value} (E:Lf w a L) (h:Frm [] w w'):RfTo w cls cap a L A (A (.agg #[.int .i64 cls,.int .i64 cap,a])) w':=
 ⟨a,rfl,E.frm h (by simp),h,fun _ G=>.inl G⟩
theorem pN (a b:Int) (ao:Option Addr) (n c:Nat):(#[.int .i64 a,.int .i64 b,.slice ao n c]:Array Value).all (·.oneCell')=true:=by
 rw[← Array.all_toList];rfl
theorem tt {w0 G a:World} {p q b n:Nat} {H Z:Array Value} {N:Obj} {K:Value} {R:List Value} (I:w0.heap[p]?=some (.cells H 164 (0,0))) (J:w0.heap[q]?=some (.cells Z 164 (0,0))) (E:G.ownsRow b 9 1 K n R) (hb:w0.heap.size≤b)
  (h:(w0.alloc (.cells #[] 9)).grownBy G none) (A:(G.alloc N).grownBy a K.ownBlock):a.heap[p]?=some (.cells H 164 (0,0))∧a.heap[q]?=some (.cells Z 164 (0,0))∧Frm [] w0 a:=by
 have S:=lt_of_block I
 have U:=lt_of_block J
 refine⟨bJ A (ah (bJ h (ah I) (by simp))) (fun e=>?_),bJ A (ah (bJ h (ah J) (by simp))) (fun e=>?_),
  ((((Frm.refl [] w0).alloc _).grown h (by simp)).alloc _).grown A (fun k O=>.inr (Nat.le_trans hb (aF E O)))⟩
 ·have:=aF E e;omega
 ·have:=aF E e;omega
theorem kH {w w0 h H:World} {p q b n:Nat} {cls cap:Int} {V v' x:Value} {N:Value→Value} {L':List ByteArray} (O:Frm [] w w0) (W:w.heap.size≤p) (Y:w.heap.size≤q) (X:p<b) (aa:q<b) (R:Frm [] w0 h)
  (K:h.ownsRow b 9 1 v' n (L'.map Value.string)) (S:n=L'.length) (J:Frm [q] (h.setCell ⟨p,2,none⟩ x) H):RfTo w cls cap V L' N (N (.agg #[.int .i64 cls,.int .i64 cap,v'])) H:=by
 subst S
 have A:=fun k a=>aF K (k:=k) a
 have U:Strs h v' L':=Strs.of_own K
 have I:Frm [p] h (h.setCell ⟨p,2,none⟩ x):=(Frm.refl [p] h).setCell _ (.inl (by simp)) _
 refine⟨v',rfl,.inl ((U.frm I (fun k a E=>?_)).frm J (fun k a E=>?_)),?_,fun k a=>.inr ?_⟩
 ·have:=A k a;simp at E;omega
 ·have:=A k a;simp at E;omega
 ·exact((O.trans R).then I (by intro y G;simp at G;right;omega)).then J (by intro y G;simp at G;right;omega)
 ·have:=A k a;omega
set_option maxHeartbeats 1000000 in
set_option maxRecDepth 100000 in
theorem p7 (cls cap:Int) (w:World) (a:okC cls cap=true):Calls Tryz.prog 81 #[.int .i64 cls,.int .i64 cap] w (Ret (.tuple #[.agg #[.int .i64 cls,.int .i64 cap,.slice none 0 0],.int .i64 0]) (Frm [] w)):=by
 unfold okC at a
 rw[decide_eq_true_iff] at a
 obtain⟨h,A,E,G⟩:=a
 have H:¬ cls<1:=by omega
 have I:¬ 3<cls:=by omega
 have J:¬ cap<1:=by omega
 have K:¬ 64<cap:=by omega
 go_enter Tryz.func81,Tryz.ntmps81
 go_wp2
 exact bodyPost_ret (eK rfl rfl rfl (heap_alloc_new _ _) rfl) rfl ⟨rfl,(Frm.refl [] w).alloc _⟩
set_option maxHeartbeats 1000000 in
set_option maxRecDepth 100000 in
theorem oh (cls cap:Int) (H:Value) (L:List ByteArray) (m:ByteArray) (w:World) (h:Lf w H L) (aG:L.length≤64) :
  Calls Tryz.prog 90 #[.agg #[.int .i64 cls,.int .i64 cap,H],.string m] w (aU (RfTo w cls cap H (gv cap L m) fun ad=>.tuple #[ad,.int .i64 (eq cap L m)])):=by
 obtain⟨ao,aC,rfl,-⟩:=h.shape
 have E:=vi h
 by_cases h1:m.size<1
 ·have a:eq cap L m=2:=by simp[eq,h1]
  have I:(m.size:Int)<1:=by omega
  rw[gv,a,if_neg (by decide)]
  clear h h1 a
  go_enter Tryz.func90,Tryz.ntmps90
  go_wp2_with (first
   | (refine af rfl 164 _ rfl _ rfl _ 164 (ah (aq (by simp))) _ Tryz.underlying164 rfl Tryz.info164s ?_))
  exact bodyPost_ret (eK rfl rfl rfl (aq (by simp)) rfl) rfl ⟨_,rfl,RfTo.same E.out (((Frm.refl [] w).alloc _).alloc _)⟩
 ·by_cases h2:32<m.size
  ·have a:eq cap L m=2:=by simp[eq,h2]
   have I:¬ (m.size:Int)<1:=by omega
   have W:(32:Int)<(m.size:Int):=by omega
   rw[gv,a,if_neg (by decide)]
   clear h h1 h2 a
   go_enter Tryz.func90,Tryz.ntmps90
   go_wp2_with (first
    | (refine af rfl 164 _ rfl _ rfl _ 164 (ah (aq (by simp))) _ Tryz.underlying164 rfl Tryz.info164s ?_))
   exact bodyPost_ret (eK rfl rfl rfl (aq (by simp)) rfl) rfl ⟨_,rfl,RfTo.same E.out (((Frm.refl [] w).alloc _).alloc _)⟩
  ·by_cases h3:(L.length:Int)=cap
   ·have a:eq cap L m=7:=by rw[eq,if_neg (by omega),if_pos h3]
    have I:¬ (m.size:Int)<1:=by omega
    have W:¬ (32:Int)<(m.size:Int):=by omega
    have ax:((L.length:Int) == cap)=true:=by simpa using h3
    rw[gv,a,if_neg (by decide)]
    clear h h1 h2 h3 a
    go_enter Tryz.func90,Tryz.ntmps90
    go_wp2_with (first
     | (refine af rfl 164 _ rfl _ rfl _ 164 (ah (aq (by simp))) _ Tryz.underlying164 rfl Tryz.info164s ?_))
    exact bodyPost_ret (eK rfl rfl rfl (aq (by simp)) rfl) rfl ⟨_,rfl,RfTo.same E.out (((Frm.refl [] w).alloc _).alloc _)⟩
   ·have a:eq cap L m=0:=by rw[eq,if_neg (by omega),if_neg h3]
    have I:¬ (m.size:Int)<1:=by omega
    have W:¬ (32:Int)<(m.size:Int):=by omega
    have ax:((L.length:Int) == cap)=false:=by simpa using h3
    rw[gv,a,if_pos rfl]
    clear h h1 h2 h3 a
    obtain⟨aw,ak,ar,au,av⟩:=info_parts Tryz.info9
    go_enter Tryz.func90,Tryz.ntmps90
    go_wp2_with (first
     | (at_builtin;refine gS rfl _ _ rfl _ rfl (aq (by simp)) _ rfl L.length _ (E.out.frm ((((Frm.refl [] w).alloc _).alloc _).alloc _) (by simp)).src (E.out.frm ((((Frm.refl [] w).alloc _).alloc _).alloc _) (by simp)).some_addr (by omega) ?_;intro aA aE ay V S;have K:=vi V;have J:=vi S;clear V S)
     | (at_builtin;refine wpList_append_own_at _ rfl _ _ 75 rfl (w.heap.size+1+1) 9 aw (.string { data:=#[] }) 1 16 Tryz.underlying75 ak ar au av rfl (by decide) _ _ _ rfl (K.out.alloc _) ⟨ay.heap.size,0,none⟩ 1 1 [.string m] rfl rfl (cell_one_new _ _ _) (by simp[Value.oneCell']) (by unfold maxLen;omega) (by omega) (by have:=J.out.size;simp at this ⊢;omega) ?_;intro v' az G U am al;obtain⟨N,R,rfl⟩:=an G;have aa:=vi G;have A:=tt (p:=w.heap.size) (q:=w.heap.size+1) (ah (aq (by simp))) (aq (by simp)) K.out (by simp) J.out U;have Y:=vi A;have O:=ae A.1;have aF:=aj A.1 2;have aB:=O 2;have X:=vi (ap A.1 2 (.slice N (L.length+1) R));have ab:Hid ((az.setCell ⟨w.heap.size,2,none⟩ (.slice N (L.length+1) R)).heap[w.heap.size+1]?=some (.cells #[.int .i64 0,.int .i64 0,.slice none 0 0] 164 (0,0))):=vi (bC A.2.1 (by simp) _);clear O A G U am al)
     | (refine af rfl 164 _ rfl _ rfl _ 164 X.out _ Tryz.underlying164 rfl Tryz.info164s ?_)
     | (refine aD rfl 164 _ _ rfl _ _ _ 164 rfl rfl ab.out rfl Tryz.info164s (pN _ _ _ _ _) ?_;intro aH ag ai))
    exact bodyPost_ret (eK rfl rfl rfl ag rfl) rfl ⟨_,rfl,kH (p:=w.heap.size) (q:=w.heap.size+1) (b:=w.heap.size+1+1) (L':=L++[m]) ((((Frm.refl [] w).alloc _).alloc _)) (Nat.le_refl _) (by omega) (by omega) (by omega) Y.out.2.2 (by simpa using aa.out) (by simp) ai⟩
end Go.Proofs.YtohfkhjlnlahdaaGreat
namespace Go.Proofs.YtohfkhjlnlahdaaGreat
open Go.RowKit Go.BigFrame
def Ints (w:World) (v:Value) (l:List Nat):Prop:=w.ownsRow 0 3 1 v l.length (l.map fun k:Nat=>Value.int .i64 (k:Int))
theorem Tryz.info3:(Tryz.prog.info? 3).map (fun i=>(i.zero,i.size,i.bytes))=some (some (.int .i64 0),1,8):=by kernel_rfl
def CI (w:World) (a:Array Value) (cls:Int) (L:List ByteArray) (i:Nat) (v:Value) (wr:World):Prop:=
 wr.heap[w.heap.size]?=some (.cells a 164 (0,0))∧wr.ownsRow (w.heap.size+1) 3 1 v (chp cls L i).length ((chp cls L i).map fun k:Nat=>Value.int .i64 (k:Int))∧Frm [] w wr
theorem CI.add {w wr h:World} {A:Array Value} {cls:Int} {L:List ByteArray} {i n:Nat} {v v':Value} {H:Obj} (a:CI w A cls L i v wr) (e:chp cls L (i+1)=chp cls L i++[i])
  (G:h.ownsRow (w.heap.size+1) 3 1 v' (n+1) ((chp cls L i).map (fun k:Nat=>Value.int .i64 (k:Int))++[.int .i64 (i:Int)])) (E:(wr.alloc H).grownBy h v.ownBlock):CI w A cls L (i+1) v' h:=by
 have K:n+1=(chp cls L i).length+1:=by have:=G.1;simpa using this.symm
 refine⟨bJ E (ah a.1) (fun I=>?_),?_,((a.2.2.alloc _).grown E fun k J=>.inr ?_)⟩
 ·have:=aF a.2.1 I;omega
 ·rw[e,List.length_append,List.length_cons,List.length_nil,List.map_append,← K]
  exact G
 ·have:=aF a.2.1 J;omega
theorem CI.frm {w wr E:World} {A:Array Value} {cls:Int} {L:List ByteArray} {i:Nat} {v:Value} (a:CI w A cls L i v wr) (h:Frm [] wr E):CI w A cls L i v E:=⟨h.at a.1 (by simp),h.owns a.2.1 (by simp),a.2.2.trans h⟩
set_option maxHeartbeats 2000000 in
set_option maxRecDepth 100000 in
theorem fO (cls cap:Int) (ay:Value) (L:List ByteArray) (w:World) (aj:Lf w ay L) (aN:L.length≤64) :
  Calls Tryz.prog 82 #[.agg #[.int .i64 cls,.int .i64 cap,ay]] w (aU fun v w'=>Ints w' v (chp cls L L.length)∧Frm [] w w'∧∀ k,v.ownBlock=some k→w.heap.size≤k):=by
 obtain⟨ao,S,rfl,ap⟩:=aj.shape
 have aA:Hid (∀ wr,Frm [] w wr→∀ k x,L[k]?=some x→∃ g,ao=some ⟨g,0,none⟩∧wr.cell? ⟨g,k,none⟩=some (.string x)):=vi fun wr K k x N=>by
  obtain⟨g,aC,A⟩:=ap k x N
  exact⟨g,aC,K.keep A⟩
 clear aj ap
 obtain⟨ax,ar,au,av,aw⟩:=info_parts Tryz.info3
 have af:Hid (CI w #[.int .i64 cls,.int .i64 cap,.slice ao L.length S] cls L 0 (.slice none 0 0) (w.alloc (.cells #[.int .i64 cls,.int .i64 cap,.slice ao L.length S] 164))):=vi ⟨aq rfl,World.ownsRow_nil _ _ _ _,(Frm.refl [] w).alloc _⟩
 go_enter Tryz.func82,Tryz.ntmps82
 go_wp2
 go_loopw [3,4] (fun s3 s4 wr=>∃ i:Nat,s4=.int .i64 i∧i≤L.length∧CI w #[.int .i64 cls,.int .i64 cap,.slice ao L.length S] cls L i s3 wr) (fun _ s4 _=>L.length - (intOf s4).toNat)
 case atStart=>exact⟨0,rfl,Nat.zero_le _,af.out⟩
 case round =>
  clear af
  obtain⟨i,rfl,aP,hb,X,K⟩:=hrel
  have c0:=ae hb 0
  have ag:=ae hb 2
  have G:=vi hb;have h:=vi X;have a:=vi K
  obtain⟨aJ,aL,rfl⟩:=an X
  have aT:(chp cls L i).length≤i:=gq cls L i
  clear hb X K
  by_cases hlt:i<L.length
  ·have aE:(i:Int)<(L.length:Int):=by omega
   by_cases A:cls=2
   ·have b2:(cls == 2)=true:=by simpa using A
    have az:=vi A
    clear A
    have ad:=vi (aA.out _ a.out)
    obtain⟨y,aa⟩:∃ y,L[i]?=some y:=⟨_,List.getElem?_eq_getElem hlt⟩
    obtain⟨g,rfl,ah⟩:=ad.out i y aa
    have aB:Hid (L.getD i ByteArray.empty=y):=vi (by rw[List.getD_eq_getElem?_getD,aa];rfl)
    clear aa
    obtain⟨ab,rfl⟩:∃ ab,ab=wr:=⟨_,rfl⟩
    go_wp2
    go_loopw [5,6] (fun s5 s6 aI=>∃ k:Nat,s6=.int .i64 k∧k≤i∧s5=.bool (nf L i k)∧Frm [] ab aI) (fun _ s6 _=>i - (intOf s6).toNat)
    case atStart=>exact⟨0,rfl,Nat.zero_le _,rfl,Frm.refl _ _⟩
    case round =>
     obtain⟨k,rfl,N,rfl,E⟩:=hrel
     have H:=vi E
     have c0:=E.keep c0
     have ag:=E.keep ag
     have ah:=E.keep ah
     by_cases hki:k<i
     ·have aQ:(k:Int)<(i:Int):=by omega
      obtain⟨x,Y⟩:∃ x,L[k]?=some x:=⟨_,List.getElem?_eq_getElem (by omega)⟩
      obtain⟨aM,aD,ai⟩:=ad.out k x Y
      cases aD
      have ai:=E.keep ai
      clear E
      have aS:(k:Int)<(L.length:Int):=by omega
      have O:nf L i (k+1)=(nf L i k && !decide (x=y)):=by
       rw[nf,aB.out,List.getD_eq_getElem?_getD,Y];rfl
      have aO:=aK x y
      clear Y
      cases hnf:nf L i k with
      | true =>
        rw[hnf] at O
        go_wp2
        go_quiet (fail)
        go_wp2
        exact⟨⟨k+1,by simp,hki,by rw[O];simp,H.out.drewN _⟩,by simp[intOf];omega⟩
      | false =>
        rw[hnf] at O
        go_wp2
        go_quiet (fail)
        go_wp2
        exact⟨⟨k+1,by simp,hki,by rw[O];simp,H.out.drewN _⟩,by simp[intOf];omega⟩
     ·obtain rfl:k=i:=by omega
      clear E
      have am:chc cls L k=nf L k k:=by rw[az.out];exact tC hlt
      have aR:¬ (k:Int)<(k:Int):=by omega
      by_cases hcc:chc cls L k=true
      ·have e:chp cls L (k+1)=chp cls L k++[k]:=by rw[fg,if_pos hcc]
       have W:nf L k k=true:=by rw[← am];exact hcc
       rw[W]
       go_wp2_with (first
        | (at_builtin;go_must (refine wpList_append_own_at _ rfl _ _ 57 rfl (w.heap.size+1) 3 ax (.int .i64 0) 1 8 Tryz.underlying57 ar au av aw rfl (by decide) _ _ _ rfl ((H.out.owns h.out (by simp)).alloc _) ⟨wr.heap.size,0,none⟩ 1 1 [.int .i64 (k:Int)] rfl rfl (cell_one_new _ _ _) (by simp[Value.oneCell']) (by unfold maxLen;omega) (by omega) (by have:=a.out.size;have:=H.out.size;have:=lt_of_block G.out;simp;omega) ?_);intro v' aH J I V U;have R:=vi (CI.add (CI.frm ⟨G.out,h.out,a.out⟩ H.out) e J I);clear J I V U))
       exact⟨⟨k+1,by simp,by omega,R.out⟩,by simp[intOf];omega⟩
      ·have e:chp cls L (k+1)=chp cls L k:=by rw[fg,if_neg hcc]
       have W:nf L k k=false:=by rw[← am];simpa using hcc
       rw[W]
       go_wp2
       exact⟨⟨k+1,by simp,by omega,by have al:=CI.frm ⟨G.out,h.out,a.out⟩ H.out;unfold CI at al ⊢;rw[e];exact al⟩,by simp[intOf];omega⟩
   ·have b2:(cls == 2)=false:=by simpa using A
    have ak:chc cls L i=((i:Int) == 0):=by unfold chc;rw[if_neg A]
    by_cases hcc:chc cls L i=true
    ·have e:chp cls L (i+1)=chp cls L i++[i]:=by rw[fg,if_pos hcc]
     have aG:((i:Int) == 0)=true:=by rw[← ak];exact hcc
     go_wp2_with (first
      | (at_builtin;refine wpList_append_own_at _ rfl _ _ 57 rfl (w.heap.size+1) 3 ax (.int .i64 0) 1 8 Tryz.underlying57 ar au av aw rfl (by decide) _ _ _ rfl (h.out.alloc _) ⟨wr.heap.size,0,none⟩ 1 1 [.int .i64 (i:Int)] rfl rfl (cell_one_new _ _ _) (by simp[Value.oneCell']) (by unfold maxLen;omega) (by omega) (by have:=a.out.size;have:=lt_of_block G.out;simp;omega) ?_;intro v' aH J I V U;have R:=vi (CI.add ⟨G.out,h.out,a.out⟩ e J I);clear J I V U))
     exact⟨⟨i+1,by simp,by omega,R.out⟩,by simp[intOf];omega⟩
    ·have e:chp cls L (i+1)=chp cls L i:=by rw[fg,if_neg hcc]
     have aG:((i:Int) == 0)=false:=by rw[← ak];simpa using hcc
     go_wp2
     exact⟨⟨i+1,by simp,by omega,G.out,by rw[e];exact h.out,a.out⟩,by simp[intOf];omega⟩
  ·obtain rfl:i=L.length:=by omega
   have aE:¬ (L.length:Int)<(L.length:Int):=by omega
   go_wp2
   go_ret
   exact⟨_,rfl,by simpa[Ints] using df h.out (Nat.zero_le _),a.out,fun k N=>by have:=aF h.out N;omega⟩
end Go.Proofs.YtohfkhjlnlahdaaGreat
