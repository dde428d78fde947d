/- Part of the proof. -/
import Derived.Test.YtohfkhjlnlahdaaGreatQ04
import Derived.Test.YtohfkhjlnlahdaaGreatQ23
set_option linter.all false
namespace Go.Proofs.YtohfkhjlnlahdaaGreat
open Go.RowKit Go.BigFrame
theorem lN {α:Type} {l:List α} {k:Nat} {x:α} (a:l[k]?=some x):k<l.length:=(List.getElem?_eq_some_iff.1 a).1
theorem qI {l:List Nat} {p:Nat} (a:p∈l):∃ j:Nat,l[j]?=some p∧∀ i:Nat,i<j→∀ x,l[i]?=some x→x≠p:=by
 induction l with
 | nil=>cases a
 | cons y l ih =>
   by_cases e:y=p
   ·subst e;exact⟨0,rfl,fun i G=>by omega⟩
   ·obtain⟨j,A,E⟩:=ih (by rcases List.mem_cons.1 a with a | a;exact absurd a.symm e;exact a)
    refine⟨j+1,by simpa using A,fun i G x h=>?_⟩
    cases i with
    | zero=>simp at h;subst h;exact e
    | succ i=>exact E i (by omega) x (by simpa using h)
theorem Ints.at {w:World} {ao:Option Addr} {E n:Nat} {l:List Nat} (G:Ints w (.slice ao n E) l) {i x:Nat} (A:l[i]?=some x):∃ g,ao=some ⟨g,0,none⟩∧w.cell? ⟨g,i,none⟩=some (.int .i64 (x:Int)):=by
 have I:=(List.getElem?_eq_some_iff.1 A).1
 rcases G.2 with ⟨h,J⟩ | ⟨g,c,cur,h,-,hb,-,-,-,H⟩
 ·omega
 ·cases h
  refine⟨g,rfl,?_⟩
  rw[ae hb]
  have a:(cur.toList.take (l.length*1))[i]?=some (.int .i64 (x:Int)):=by rw[H];simp[A]
  rw[List.getElem?_take_of_lt (by omega)] at a
  simpa using a
theorem fF {I:Array Oper} {o:Oper} {a:Act} {w:World} {G:Act→World→Prop} {Q:Exit→Act→World→Prop} {J:Prop} (N:o.guard=none) (s x:Operand) (S:o.op=.call { callee:=.builtin .append,args:=#[s,x],argTypes:=#[75,75] })
  (b:Nat) (W:a.eval s=.slice (some ⟨b,0,none⟩) 0 0) (hb:w.heap[b]?=some (.cells #[] 9 (0,0))) (A:Value) (aa:a.eval x=A) (n:Nat) (E:List Value) (X:Src Tryz.prog 1 75 A n E w)
  (O:0<n→∃ H c,A=.slice (some H) n c∧∀ j u,E[j]?=some u→w.cell? (H.add j)=some u) (R:n≤1000000)
  (K:∀ ao h w',w'.ownsRow b 9 1 (.slice ao n h) n E→w.grownBy w' none→G (a.put o.dst (.slice ao n h)) w'):if Region.wanted o (yielded I a.tmps)=true then Oper.wp Tryz.prog o a w G Q else J:=by
 have Y:Region.wanted o (yielded I a.tmps)=true:=by simp[Region.wanted,N]
 rw[if_pos Y]
 obtain⟨ao,h,w',U,ab,ad⟩:=o6 b w hb A n E X O R
 have V:(Builtin.append_ #[75,75] o.type #[.slice (some ⟨b,0,none⟩) 0 0,A]).run Tryz.prog w=.ok (.slice ao n h) w':=U
 unfold Oper.wp
 simp[execOp,S,resolve,invoke,builtin,W,aa,V,Result.andThen]
 exact K ao h w' ab ad
theorem cV {P:Program} {I:Array Oper} {o:Oper} {h:Act} {w:World} {H:Act→World→Prop} {Q:Exit→Act→World→Prop} {J:Prop} (X:o.guard=none) (s x:Operand) (t:TypeId)
  (ad:o.op=.call { callee:=.builtin .append,args:=#[s,x],argTypes:=#[t,t] })
  (base:Nat) (e:TypeId) (i:TypeInfo) (z:Value) (a bytes:Nat) (aj:P.underlying t=some (.slice e)) (Y:P.info? e=some i) (am:i.zero=some z)
  (ah:i.size=a) (V:i.bytes=bytes) (an:z.cells.size=a) (ai:0<a)
  (v:Value) (n:Nat) (G:List Value) (ag:h.eval s=v) (ae:w.ownsRow base e a v n G)
  (E:Addr) (m c:Nat) (A:List Value) (al:h.eval x=.slice (some E) m c) (aa:A.length=m*a) (ab:∀ j u,A[j]?=some u→w.cell? (E.add j)=some u) (N:∀ u∈A,u.oneCell'=true)
  (S:n+m≤maxLen) (W:(n+m)*bytes≤140737488355328) (U:base≤w.heap.size)
  (K:∀ v' w',w'.ownsRow base e a v' (n+m) (G++A)→w.grownBy w' v.ownBlock→H (h.put o.dst v') w') :
  if Region.wanted o (yielded I h.tmps)=true then Oper.wp P o h w H Q else J:=by
 have ak:Region.wanted o (yielded I h.tmps)=true:=by simp[Region.wanted,X]
 rw[if_pos ak]
 obtain⟨v',w',af,O,R,ap,aq⟩:=run_append_own_at (P:=P) w base t o.type e i z a bytes aj Y am ah V an ai v n G ae E m c A aa ab N S W U
 unfold Oper.wp execOp
 simp only[ad,resolve,invoke,builtin,Sem.run_bind,Sem.run_pure,Result.andThen_ok,List.map_toArray,List.map_cons,List.map_nil,ag,al,af]
 exact K v' w' O R
structure TkE (w wr:World) (A:Array Value) (v':Value) (n:Nat) (L':List ByteArray) (wa:World):Prop where
 b:wa.heap[w.heap.size]?=some (.cells A 164 (0,0))
 z:wa.heap[w.heap.size+1]?=some (.cells #[.int .i64 0,.int .i64 0,.slice none 0 0] 164 (0,0))
 f:Frm [] w wa
 o:wa.ownsRow wr.heap.size 9 1 v' n (L'.map Value.string)
 n:n=L'.length
theorem TkE.mk1 {w wr a G:World} {H:Array Value} {I v':Value} {p:Nat} {L:List ByteArray} (hb:a.heap[w.heap.size]?=some (.cells H 164 (0,0))) (R:a.heap[w.heap.size+1]?=some (.cells #[.int .i64 0,.int .i64 0,.slice none 0 0] 164 (0,0))) (J:Frm [] w a)
  (K:a.ownsRow wr.heap.size 9 1 I p ((L.take p).map Value.string)) (_h1:w.heap.size<wr.heap.size) (S:w.heap.size+1<wr.heap.size)
  (N:G.ownsRow wr.heap.size 9 1 v' (p+(L.length - (p+1))) ((L.take p).map Value.string++(L.drop (p+1)).map Value.string)) (h:a.grownBy G I.ownBlock) (O:p<L.length):TkE w wr H v' (p+(L.length - (p+1))) (L.eraseIdx p) G:=by
 have A:=fun k E=>aF K (k:=k) E
 refine⟨bJ h hb (fun e=>?_),bJ h R (fun e=>?_),J.grown h (fun k E=>.inr (by have:=A k E;omega)),?_,?_⟩
 ·have:=A _ e;omega
 ·have:=A _ e;omega
 ·rw[List.eraseIdx_eq_take_drop_succ,List.map_append];exact N
 ·rw[List.length_eraseIdx_of_lt O];omega
theorem TkE.mk2 {w wr a h:World} {A:Array Value} {E v':Value} {p:Nat} {L:List ByteArray} (hb:a.heap[w.heap.size]?=some (.cells A 164 (0,0))) (R:a.heap[w.heap.size+1]?=some (.cells #[.int .i64 0,.int .i64 0,.slice none 0 0] 164 (0,0))) (J:Frm [] w a)
  (N:a.ownsRow wr.heap.size 9 1 E p ((L.take p).map Value.string)) (H:w.heap.size<wr.heap.size) (I:w.heap.size+1<wr.heap.size)
  (O:h.ownsRow wr.heap.size 9 1 v' p ((L.take p).map Value.string)) (K:a.grownBy h E.ownBlock) (S:p+1=L.length):TkE w wr A v' p (L.eraseIdx p) h:=by
 have e:p+(L.length - (p+1))=p:=by omega
 have G:=TkE.mk1 (v':=v') (L:=L) hb R J N H I (by rw[e,List.drop_of_length_le (by omega)];simpa using O) K (by omega)
 rwa [e] at G
set_option maxHeartbeats 2000000 in
set_option maxRecDepth 100000 in
theorem iu (cls cap:Int) (aS:Value) (L:List ByteArray) (q:Int) (w:World) (ay:Lf w aS L) (bl:L.length≤64) :
  Calls Tryz.prog 89 #[.agg #[.int .i64 cls,.int .i64 cap,aS],.int .i64 q] w (aU (RfTo w cls cap aS (dG cls L q) fun bh=>.tuple #[bh,.string (dm cls L q),.int .i64 (cZ cls L q)])):=by
 obtain⟨ao,E,rfl,a0⟩:=ay.shape
 have aF:=vi ay
 have W:=vi (fun w' (a:Frm [] w w')=>fO cls cap _ L w' (ay.frm a (by simp)) bl)
 obtain⟨C,V⟩:∃ C,chp cls L L.length=C:=⟨_,rfl⟩
 have bp:C.length≤L.length:=by rw[← V];exact gq _ _ _
 rw[V] at W
 clear ay
 cases hok:cK cls L q with
 | false =>
   have ab:dG cls L q=L:=by simp[dG,hok]
   have R:dm cls L q={ data:=#[] }:=by simp[dm,hok]
   have ad:cZ cls L q=9:=by simp[cZ,hok]
   rw[ab,R,ad]
   have bf:Hid (∀ (i:Nat) (x:Nat),C[i]?=some x→((x:Int) == q)=false):=vi fun i x bm=>by
    have I:=List.mem_of_getElem? bm
    rw[← V] at I
    obtain⟨az,aA⟩:=(gI _).1 I
    rw[beq_eq_false_iff_ne]
    intro e
    have:cK cls L q=true:=by
     unfold cK
     rw[← e,Bool.and_eq_true,decide_eq_true_iff]
     exact⟨⟨by omega,by omega⟩,by simpa using aA⟩
    rw[hok] at this;cases this
   clear ab R ad hok V
   go_enter Tryz.func89,Tryz.ntmps89
   go_wp2_with (first
    | (go_at_call 82;go_must (refine(W.out _ (((Frm.refl [] w).alloc _).alloc _)).mono ?_;rintro e S ⟨v,rfl,J,a,aP⟩;obtain⟨bi,bj,rfl⟩:=an J;have aw:=vi J;have U:=vi ((((Frm.refl [] w).alloc _).alloc _).trans a);have H:=vi (a.at (ah (aq (o:=.cells #[.int .i64 cls,.int .i64 cap,.slice ao L.length E] 164) rfl)) (by simp));have K:=vi (a.at (aq (o:=.cells #[.int .i64 0,.int .i64 0,.slice none 0 0] 164) (n:=w.heap.size+1) (by simp)) (by simp));clear J a aP)))
   clear W
   go_loopw [8] (fun s8 aT=>∃ i:Nat,s8=.int .i64 i∧i≤C.length∧aT=S) (fun s8 _=>C.length - (intOf s8).toNat)
   case atStart=>exact⟨0,rfl,Nat.zero_le _,rfl⟩
   case round =>
    obtain⟨i,rfl,J,rfl⟩:=hrel
    by_cases hlt:i<C.length
    ·have a3:(i:Int)<(C.length:Int):=by omega
     obtain⟨x,I⟩:∃ x,C[i]?=some x:=⟨_,List.getElem?_eq_getElem hlt⟩
     obtain⟨g,rfl,ax⟩:=aw.out.at I
     have a5:=bf.out i x I
     clear I
     go_wp2
     exact⟨⟨i+1,by simp,by omega,trivial⟩,by simp[intOf];omega⟩
    ·have a3:¬ (i:Int)<(C.length:Int):=by omega
     go_wp2_with (first
      | (refine af rfl 164 _ rfl _ rfl _ 164 H.out _ Tryz.underlying164 rfl Tryz.info164s ?_)
      | (refine aD rfl 164 _ _ rfl _ _ _ 164 rfl rfl K.out rfl Tryz.info164s (pN _ _ _ _ _) ?_;intro ba ag ai))
     exact bodyPost_ret (eD rfl rfl rfl rfl ag rfl) rfl ⟨_,rfl,RfTo.same aF.out (U.out.then ai (by intro y bo;simp at bo;right;omega))⟩
 | true =>
   have aQ:=hok
   unfold cK at aQ
   rw[Bool.and_eq_true,decide_eq_true_iff] at aQ
   obtain⟨⟨aY,az⟩,aA⟩:=aQ
   obtain⟨p,rfl⟩:=Int.eq_ofNat_of_zero_le aY
   have aR:p<L.length:=by omega
   obtain⟨am,aO⟩:∃ am,L[p]?=some am:=⟨_,List.getElem?_eq_getElem aR⟩
   have ab:dG cls L (p:Int)=L.eraseIdx p:=by simp[dG,hok]
   have R:dm cls L (p:Int)=am:=by simp[dm,hok,List.getD_eq_getElem?_getD,aO]
   have ad:cZ cls L (p:Int)=0:=by simp[cZ,hok]
   rw[ab,R,ad]
   have a4:p∈C:=by rw[← V];exact(gI _).2 ⟨aR,by simpa using aA⟩
   obtain⟨j,aN,a2⟩:=qI a4
   have bs:=(List.getElem?_eq_some_iff.1 aN).1
   have bd:=vi aN;have be:=vi a2
   obtain⟨g,rfl,aZ⟩:=a0 p am aO
   have bb:Hid (∀ wr,Frm [] w wr→wr.cell? ⟨g,p,none⟩=some (.string am)):=vi fun wr a=>a.keep aZ
   have bz:=aF.out.room
   clear a0 aZ a4 aN a2 ab R ad hok V aY az aA aO
   obtain⟨a9,a1,a6,a7,a8⟩:=info_parts Tryz.info9
   go_enter Tryz.func89,Tryz.ntmps89
   go_wp2_with (first
    | (go_at_call 82;go_must (refine(W.out _ (((Frm.refl [] w).alloc _).alloc _)).mono ?_;rintro e S ⟨v,rfl,J,a,aP⟩;obtain⟨bi,bj,rfl⟩:=an J;have aw:=vi J;have U:=vi ((((Frm.refl [] w).alloc _).alloc _).trans a);have H:=vi (a.at (ah (aq (o:=.cells #[.int .i64 cls,.int .i64 cap,.slice (some ⟨g,0,none⟩) L.length E] 164) rfl)) (by simp));have K:=vi (a.at (aq (o:=.cells #[.int .i64 0,.int .i64 0,.slice none 0 0] 164) (n:=w.heap.size+1) (by simp)) (by simp));clear J a aP)))
   clear W
   go_loopw [8] (fun s8 aT=>∃ i:Nat,s8=.int .i64 i∧i≤j∧aT=S) (fun s8 _=>j - (intOf s8).toNat)
   case atStart=>exact⟨0,rfl,Nat.zero_le _,rfl⟩
   case round =>
    obtain⟨i,rfl,J,rfl⟩:=hrel
    have a3:(i:Int)<(C.length:Int):=by omega
    by_cases hlt:i<j
    ·obtain⟨x,I⟩:∃ x,C[i]?=some x:=⟨_,List.getElem?_eq_getElem (by omega)⟩
     obtain⟨bk,rfl,ax⟩:=aw.out.at I
     have a5:((x:Int) == (p:Int))=false:=by have:=be.out i hlt x I;simp;omega
     clear I
     go_wp2
     exact⟨⟨i+1,by simp,by omega,trivial⟩,by simp[intOf];omega⟩
    ·obtain rfl:i=j:=by omega
     obtain⟨bk,rfl,ax⟩:=aw.out.at bd.out
     have a5:((p:Int) == (p:Int))=true:=by simp
     have aX:=bb.out _ U.out
     have cb:wr.cell? ⟨w.heap.size,2,none⟩=some (.slice (some ⟨g,0,none⟩) L.length E):=ae H.out 2
     have bt:p≤E:=by omega
     have bu:p+1≤E:=by omega
     have bv:p+1≤L.length:=by omega
     have bx:(p:Int)<(L.length:Int):=by omega
     have bB:IntKind.i64.wrap ((p:Int)+1)=(p:Int)+1:=by simp[IntKind.wrap,show IntKind.i64.bits=64 from rfl,show IntKind.i64.signed=true from rfl];omega
     have bA:((p:Int)+1).toNat=p+1:=by omega
     have bq:(p:Int)+1≤(L.length:Int):=by omega
     have br:(0:Int)≤(p:Int)+1:=by omega
     have aW:(wr.alloc (.cells #[] 9)).cell? ⟨w.heap.size,2,none⟩=some (.slice (some ⟨g,0,none⟩) L.length E):=ae (ah H.out) 2
     have aV:Hid (∀ N,Frm [] w N→Lf N (.slice (some ⟨g,0,none⟩) L.length E) L):=vi fun N a=>aF.out.frm a (by simp)
     have au:Hid (∀ (o:Obj) j u,((L.take p).map Value.string)[j]?=some u→(wr.alloc o).drew.cell? ((⟨g,0,none⟩:Addr).add j)=some u):=vi fun o j u h=>(aV.out _ ((U.out.alloc o).drew)).cells _ rfl j u (by
      rw[List.map_take] at h
      have bn:j<p:=by have:=lN h;simp at this;omega
      rwa [List.getElem?_take_of_lt bn] at h)
     go_wp2
     by_cases hlc:E=p+1
     ·subst hlc
      have bg:Hid (p+1=L.length):=vi (by omega)
      have bw:(p:Int)≤(p:Int)+1:=by omega
      go_region_law (first
       | (refine fF rfl _ _ rfl wr.heap.size ?_ ?_ (.slice (some ⟨g,0,none⟩) p (p+1)) ?_ p ((L.take p).map Value.string) ?_ ?_ ?_ ?_;(focus (go_simp;done));(focus exact(show (wr.alloc (.cells #[] 9)).heap[wr.heap.size]?=some (.cells #[] 9 (0,0)) from aq rfl));(focus (go_simp;done));(focus exact Src.ofSlice _ Tryz.underlying75 _ p (p+1) _ (by simp;omega) (au.out _) (by intro u h;obtain⟨x,-,rfl⟩:=List.mem_map.1 h;rfl));(focus exact fun _=>⟨_,_,rfl,au.out _⟩);(focus omega);intro aI aL S al G;have aK:S.cell? ⟨w.heap.size,2,none⟩=some (.slice (some ⟨g,0,none⟩) L.length (p+1)):=ae (bJ G (ah H.out) (by simp)) 2;have aB:=vi (bJ G (show (wr.alloc (.cells #[] 9)).drew.heap[w.heap.size]?=_ from ah H.out) (by simp));have aG:=vi (bJ G (show (wr.alloc (.cells #[] 9)).drew.heap[w.heap.size+1]?=_ from ah K.out) (by simp));have av:=vi (((U.out.alloc (.cells #[] 9)).drew).grown G (by simp));have X:=vi al;have aE:=vi G;clear al G)
       | (refine cV rfl _ _ 75 rfl wr.heap.size 9 a9 (.string { data:=#[] }) 1 16 Tryz.underlying75 a1 a6 a7 a8 rfl (by decide) (.slice aI p aL) p ((L.take p).map Value.string) ?_ X.out ⟨g,0,none⟩ 0 0 [] ?_ ?_ ?_ ?_ ?_ ?_ ?_ ?_;(focus (go_simp;done));(focus (go_simp;done));(focus simp);(focus exact(fun j u h=>by simp at h));(focus (intro u h;simp at h));(focus (unfold maxLen;omega));(focus omega);(focus (have:=aE.out.size;simp at this;omega));intro v' ar O ak;rw[Nat.add_zero,List.append_nil] at O;obtain⟨Y,aa,rfl⟩:=an O;have A:=vi (TkE.mk2 aB.out aG.out av.out X.out (lt_of_block H.out) (lt_of_block K.out) O ak bg.out);have aJ:ar.cell? ⟨w.heap.size,2,none⟩=some (.slice (some ⟨g,0,none⟩) L.length (p+1)):=ae A.out.b 2;have aM:=aj A.out.b 2;clear O ak))
      all_goals
       have aC:=vi (ap A.out.b 2 (.slice Y p aa))
       have aH:Hid ((ar.setCell ⟨w.heap.size,2,none⟩ (.slice Y p aa)).heap[w.heap.size+1]?=some (.cells #[.int .i64 0,.int .i64 0,.slice none 0 0] 164 (0,0))):=vi (bC A.out.z (by simp) _)
       clear aJ aM aW aK cb aX ax
       go_wp2_with (first
        | (refine af rfl 164 _ rfl _ rfl _ 164 aC.out _ Tryz.underlying164 rfl Tryz.info164s ?_)
        | (refine aD rfl 164 _ _ rfl _ _ _ 164 rfl rfl aH.out rfl Tryz.info164s (pN _ _ _ _ _) ?_;intro ba ag ai))
       exact bodyPost_ret (eD rfl rfl rfl rfl ag rfl) rfl ⟨_,rfl,kH (w0:=w) (p:=w.heap.size) (q:=w.heap.size+1) (b:=wr.heap.size) (L':=L.eraseIdx p) (Frm.refl [] w) (Nat.le_refl _) (by omega) (lt_of_block H.out) (lt_of_block K.out) A.out.f A.out.o A.out.n ai⟩
     ·have bc:Hid (∀ N,Frm [] w N→∀ j u,((L.drop (p+1)).map Value.string)[j]?=some u→N.cell? ((⟨g,p+1,none⟩:Addr).add j)=some u):=vi fun N a j u h=>by
       have e:(⟨g,p+1,none⟩:Addr).add j=⟨g,p+1+j,none⟩:=by cases j <;> simp[Addr.add]
       rw[List.map_drop,List.getElem?_drop] at h
       have az:=(aV.out N a).cells _ rfl (p+1+j) u h
       have R:(⟨g,0,none⟩:Addr).add (p+1+j)=⟨g,p+1+j,none⟩:=by simp[Addr.add]
       rw[e];rwa [R] at az
      go_region_law (first
       | (refine fF rfl _ _ rfl wr.heap.size ?_ ?_ (.slice (some ⟨g,0,none⟩) p E) ?_ p ((L.take p).map Value.string) ?_ ?_ ?_ ?_;(focus (go_simp;done));(focus exact(show (wr.alloc (.cells #[] 9)).heap[wr.heap.size]?=some (.cells #[] 9 (0,0)) from aq rfl));(focus (go_simp;done));(focus exact Src.ofSlice _ Tryz.underlying75 _ p E _ (by simp;omega) (au.out _) (by intro u h;obtain⟨x,-,rfl⟩:=List.mem_map.1 h;rfl));(focus exact fun _=>⟨_,_,rfl,au.out _⟩);(focus omega);intro aI aL S al G;have aK:S.cell? ⟨w.heap.size,2,none⟩=some (.slice (some ⟨g,0,none⟩) L.length E):=ae (bJ G (ah H.out) (by simp)) 2;have aB:=vi (bJ G (show (wr.alloc (.cells #[] 9)).drew.heap[w.heap.size]?=_ from ah H.out) (by simp));have aG:=vi (bJ G (show (wr.alloc (.cells #[] 9)).drew.heap[w.heap.size+1]?=_ from ah K.out) (by simp));have av:=vi (((U.out.alloc (.cells #[] 9)).drew).grown G (by simp));have X:=vi al;have aE:=vi G;clear al G)
       | (refine cV rfl _ _ 75 rfl wr.heap.size 9 a9 (.string { data:=#[] }) 1 16 Tryz.underlying75 a1 a6 a7 a8 rfl (by decide) (.slice aI p aL) p ((L.take p).map Value.string) ?_ X.out ⟨g,p+1,none⟩ (L.length - (p+1)) (E - (p+1)) ((L.drop (p+1)).map Value.string) ?_ ?_ ?_ ?_ ?_ ?_ ?_ ?_;(focus (go_simp;done));(focus (go_simp;done));(focus simp);(focus exact(bc.out _ av.out));(focus (intro u h;obtain⟨x,-,rfl⟩:=List.mem_map.1 h;rfl));(focus (unfold maxLen;omega));(focus omega);(focus (have:=aE.out.size;simp at this;omega));intro v' ar O ak;obtain⟨Y,aa,rfl⟩:=an O;have A:=vi (TkE.mk1 aB.out aG.out av.out X.out (lt_of_block H.out) (lt_of_block K.out) O ak aR);have aJ:ar.cell? ⟨w.heap.size,2,none⟩=some (.slice (some ⟨g,0,none⟩) L.length E):=ae A.out.b 2;have aM:=aj A.out.b 2;clear O ak))
      all_goals
       have aC:=vi (ap A.out.b 2 (.slice Y (p+(L.length - (p+1))) aa))
       have aH:Hid ((ar.setCell ⟨w.heap.size,2,none⟩ (.slice Y (p+(L.length - (p+1))) aa)).heap[w.heap.size+1]?=some (.cells #[.int .i64 0,.int .i64 0,.slice none 0 0] 164 (0,0))):=vi (bC A.out.z (by simp) _)
       clear aJ aM aW aK cb aX ax
       go_wp2_with (first
        | (refine af rfl 164 _ rfl _ rfl _ 164 aC.out _ Tryz.underlying164 rfl Tryz.info164s ?_)
        | (refine aD rfl 164 _ _ rfl _ _ _ 164 rfl rfl aH.out rfl Tryz.info164s (pN _ _ _ _ _) ?_;intro ba ag ai))
       exact bodyPost_ret (eD rfl rfl rfl rfl ag rfl) rfl ⟨_,rfl,kH (w0:=w) (p:=w.heap.size) (q:=w.heap.size+1) (b:=wr.heap.size) (L':=L.eraseIdx p) (Frm.refl [] w) (Nat.le_refl _) (by omega) (lt_of_block H.out) (lt_of_block K.out) A.out.f A.out.o A.out.n ai⟩
set_option maxHeartbeats 2000000 in
set_option maxRecDepth 100000 in
theorem lE (cls cap:Int) (H:Value) (L:List ByteArray) (w:World) (E:Lf w H L) (ab:L.length≤64) :
  Calls Tryz.prog 85 #[.agg #[.int .i64 cls,.int .i64 cap,H]] w (aU (RfTo w cls cap H (eZ cls L) fun W=>.tuple #[W,.string (iX cls L),.int .i64 (fJ cls L)])):=by
 obtain⟨ao,Y,rfl,ae⟩:=E.shape
 have I:=vi E
 have O:=vi (fun w' (h:Frm [] w w')=>iu cls cap _ L 0 w' (E.frm h (by simp)) ab)
 clear E ae
 by_cases h3:cls=3
 ·have al:(cls != 3)=false:=by simpa using h3
  rw[eZ,iX,fJ,if_pos h3,if_pos h3,if_pos h3]
  clear h3
  go_enter Tryz.func85,Tryz.ntmps85
  go_wp2_with (first
   | (refine af rfl 164 _ rfl _ rfl _ 164 (ah (aq (by simp))) _ Tryz.underlying164 rfl Tryz.info164s ?_)
   | (go_at_call 89;go_must (refine(O.out _ (((Frm.refl [] w).alloc _).alloc _)).mono ?_;rintro e ak ⟨v,rfl,am,rfl,G,h,K⟩;obtain⟨X,aa,rfl,-⟩:=G.shape;have S:=vi G;have R:=vi h;have U:=vi K;have V:=vi (h.at (aq (o:=.cells #[.int .i64 0,.int .i64 0,.slice none 0 0] 164) (n:=w.heap.size+1) (by simp)) (by simp));clear h G K))
   | (refine aD rfl 164 _ _ rfl _ _ _ 164 rfl rfl V.out rfl Tryz.info164s (pN _ _ _ _ _) ?_;intro an ad J))
  obtain⟨ai,N⟩:Frm [] w ak∧∀ k,(Value.slice X (dG cls L 0).length aa).ownBlock=some k→(Value.slice ao L.length Y).ownBlock=some k∨w.heap.size+2≤k:=
   ⟨(((Frm.refl [] w).alloc _).alloc _).trans R.out,fun k A=>by have:=U.out k A;simpa using this⟩
  exact bodyPost_ret (eD rfl rfl rfl rfl ad rfl) rfl ⟨_,rfl,_,rfl,S.out.frm J (fun k A ag=>by
   have a:=N k A
   simp at ag
   rcases a with a | a
   ·have:=I.out.lt a;omega
   ·omega),ai.then J (by intro y aj;simp at aj;right;omega),fun k A=>by
   rcases N k A with a | a
   ·exact .inl a
   ·exact .inr (by omega)⟩
 ·have al:(cls != 3)=true:=by simpa using h3
  rw[eZ,iX,fJ,if_neg h3,if_neg h3,if_neg h3]
  clear h3
  go_enter Tryz.func85,Tryz.ntmps85
  go_wp2_with (first
   | (refine af rfl 164 _ rfl _ rfl _ 164 (ah (aq (by simp))) _ Tryz.underlying164 rfl Tryz.info164s ?_))
  exact bodyPost_ret (eD rfl rfl rfl rfl (aq (by simp)) rfl) rfl ⟨_,rfl,RfTo.same I.out (((Frm.refl [] w).alloc _).alloc _)⟩
end Go.Proofs.YtohfkhjlnlahdaaGreat
