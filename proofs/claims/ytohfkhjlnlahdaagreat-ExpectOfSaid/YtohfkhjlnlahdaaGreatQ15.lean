/- Part of the proof. -/
import Derived.Test.YtohfkhjlnlahdaaGreatQ04
import Derived.Test.YtohfkhjlnlahdaaGreatQ12
import Derived.Shelf.SlicesG.Turned
import Derived.Shelf.SlicesG.Delete
import Derived.Sort.OwnSorted
import Derived.OrdersHeld
import Derived.Lib.SliceRun
set_option linter.all false
namespace Go.Proofs.YtohfkhjlnlahdaaGreat
open Go.RowKit Go.BigFrame
def cL {α:Type} (k:Nat) (At:World→Nat→Nat→α→Prop):Prop:=
 ∀ w b o x,At w b o x→∃ a:List Value,a.length=k∧(∀ u∈a,u.oneCell'=true)∧(∀ (j:Nat) u,a[j]?=some u→w.cell? ⟨b,o+j,none⟩=some u) ∧
   ∀ w' h A,Frm [] w w'→(∀ (j:Nat) u,a[j]?=some u→w'.cell? ⟨h,A+j,none⟩=some u)→At w' h A x
structure Fr {α:Type} (k:Nat) (e:TypeId) (At:World→Nat→Nat→α→Prop) (w:World) (xs:List α) (v:Value) (w':World):Prop where
 arr:Arr k At w' v xs
 frm:Frm [] w w'
 own:xs=[]∨∃ news,w'.ownsRow w.heap.size e k v xs.length news
theorem o9 {α:Type} {k:Nat} {At:World→Nat→Nat→α→Prop} (K:cL k At) {w:World} {b o:Nat}:∀ (G:List α) (d:Nat),(∀ (i:Nat) x,G[i]?=some x→At w b (o+(d+i)*k) x) →
  ∃ I:List Value,I.length=G.length*k∧(∀ u∈I,u.oneCell'=true)∧(∀ (j:Nat) u,I[j]?=some u→w.cell? ⟨b,o+d*k+j,none⟩=some u) ∧
    ∀ w' A h,Frm [] w w'→(∀ (j:Nat) u,I[j]?=some u→w'.cell? ⟨A,h+j,none⟩=some u)→∀ (i:Nat) x,G[i]?=some x→At w' A (h+i*k) x
 | [],d,_=>⟨[],by simp,by simp,by simp,fun _ _ _ _ _ i x H=>by simp at H⟩
 | x :: G,d,H=>by
   obtain⟨ab,J,W,X,Y⟩:=K w b _ x (H 0 x rfl)
   obtain⟨aa,R,S,U,V⟩:=o9 K G (d+1) (fun i y E=>by
    rw[show d+1+i=d+(i+1) by omega];exact H (i+1) y (by simpa using E))
   refine⟨ab++aa,by rw[List.length_append,J,R,List.length_cons,Nat.add_mul];omega,fun u a=>?_,fun j u a=>?_,fun w' A h O N i y E=>?_⟩
   ·rcases List.mem_append.1 a with a | a
    ·exact W u a
    ·exact S u a
   ·by_cases hj:j<k
    ·rw[List.getElem?_append_left (by omega)] at a
     have:=X j u a
     rw[Nat.add_zero] at this
     exact this
    ·rw[List.getElem?_append_right (by omega),J] at a
     have:=U (j - k) u a
     rw[Nat.add_mul] at this
     rw[show o+d*k+j=o+(d*k+1*k)+(j - k) by omega]
     exact this
   ·cases i with
    | zero =>
      simp only[List.getElem?_cons_zero,Option.some.injEq] at E
      subst E
      rw[Nat.zero_mul,Nat.add_zero]
      exact Y w' A h O fun j u a=>N j u (by rw[List.getElem?_append_left (ag a)];exact a)
    | succ i =>
      rw[show h+(i+1)*k=(h+k)+i*k by rw[Nat.add_mul];omega]
      refine V w' A (h+k) O (fun j u a=>?_) i y (by simpa using E)
      rw[show h+k+j=h+(k+j) by omega]
      exact N (k+j) u (by rw[List.getElem?_append_right (by omega),J,show k+j - k=j by omega];exact a)
theorem Arr.shape {α:Type} {k:Nat} {At:World→Nat→Nat→α→Prop} {w:World} {v:Value} {a:List α} (h:Arr k At w v a):∃ ao cap,v=.slice ao a.length cap:=by
 obtain⟨ao,cap,e,-⟩:=h;exact⟨ao,cap,e⟩
theorem j8 {α:Type} {k:Nat} {At:World→Nat→Nat→α→Prop} {t e ty:TypeId} {z:Value} {bytes:Nat} (E:Tryz.prog.underlying t=some (.slice e)) (ad:(Tryz.prog.info? e).map (fun i=>(i.zero,i.size,i.bytes))=some (some z,k,bytes))
  (an:z.cells.size=k) (ah:0<k) (hb:bytes≤1000) (Y:cL k At) {ao:Option Addr} {cap d:Nat} {a:List α} {w:World} (X:Arr k At w (.slice ao a.length cap) a) (ai:a.length≤100000) :
  ∃ G A w',(Builtin.append_ #[t,t] ty #[.slice (some ⟨d,0,none⟩) 0 0,.slice ao a.length cap]).run Tryz.prog w=.ok (.slice G a.length A) w'∧Fr k e At w a (.slice G a.length A) w':=by
 obtain⟨K,I,ak,al,am⟩:=info_parts ad
 obtain⟨G,A,H,U⟩:=X
 cases H
 cases a with
 | nil =>
   refine⟨some ⟨d,0,none⟩,0,w,?_,Arr.nil _ _ _,Frm.refl _ _,.inl rfl⟩
   cases ao with
   | none=>exact run_append_nothing w t t ty e K E I (some ⟨d,0,none⟩) 0 0 (Nat.le_refl _) _ (Src.ofNil w E cap)
   | some W=>exact run_append_nothing w t t ty e K E I (some ⟨d,0,none⟩) 0 0 (Nat.le_refl _) _ (Src.ofSlice w E W 0 cap [] (by simp) (fun j u h=>by simp at h) (by simp))
 | cons x a =>
   obtain⟨b,o,rfl,-⟩:=U 0 x rfl
   obtain⟨N,V,az,ap,ar⟩:=o9 Y (w:=w) (b:=b) (o:=o) (x :: a) 0 (fun i y J=>by
    obtain⟨ax,aA,H,aa⟩:=U i y J
    cases H
    rw[Nat.zero_add];exact aa)
   have aq:∀ (j:Nat) u,N[j]?=some u→w.cell? ((⟨b,o,none⟩:Addr).add j)=some u:=fun j u h=>by
    have:=ap j u h
    rw[Nat.zero_mul,Nat.add_zero] at this
    have e:(⟨b,o,none⟩:Addr).add j=⟨b,o+j,none⟩:=by simp[Addr.add]
    rw[e];exact this
   have ay:(x :: a).length*bytes≤100000*1000:=Nat.mul_le_mul ai hb
   obtain⟨v',w',aj,R,aw⟩:=run_append_arg_grows (P:=Tryz.prog) w t ty e K z k bytes E I ak al am an ah ⟨d,0,none⟩ 0 0 [] (by simp) (fun j u h=>by simp at h) ⟨b,o,none⟩ (x :: a).length cap N V aq
    (by simp) (by unfold maxLen;omega) (by rw[Nat.zero_add];omega)
   rw[Nat.zero_add,List.nil_append] at R
   have S:Frm [] w w':=(Frm.refl [] w).grown aw (by simp)
   have av:=R
   obtain⟨aB,O⟩:=R
   rcases O with ⟨-,O⟩ | ⟨g,A,cur,rfl,-,ab,-,-,-,au⟩
   ·simp at O
   ·refine⟨some ⟨g,0,none⟩,A,w',aj,⟨_,A,rfl,fun i y J=>⟨g,0,rfl,?_⟩⟩,S,.inr ⟨N,av⟩⟩
    refine ar w' g 0 S (fun j u h=>?_) i y J
    rw[Nat.zero_add,ae ab,← Array.getElem?_toList]
    have af:j<(x :: a).length*k:=by rw[← V];exact ag h
    rw[← au,List.getElem?_take_of_lt af] at h
    exact h
theorem cG {α:Type} {k:Nat} {At:World→Nat→Nat→α→Prop} {t e:TypeId} {z:Value} {bytes:Nat} {G:Array Oper} {rest:List Oper} {o:Oper} {a:Act} {Q:Exit→Act→World→Prop} {w:World} (N:o.guard=none) (s x:Operand)
  (V:o.op=.call { callee:=.builtin .append,args:=#[s,x],argTypes:=#[t,t] }) {d:Nat} (X:a.eval s=.slice (some ⟨d,0,none⟩) 0 0) {ao:Option Addr} {n cap:Nat} (aa:a.eval x=.slice ao n cap)
  (Y:Tryz.prog.underlying t=some (.slice e)) (O:(Tryz.prog.info? e).map (fun i=>(i.zero,i.size,i.bytes))=some (some z,k,bytes)) (ab:z.cells.size=k) (R:0<k) (hb:bytes≤1000) (K:cL k At) {E:List α} (U:E.length=n)
  (H:Arr k At w (.slice ao n cap) E) (S:n≤100000) (I:∀ h A w',Fr k e At w E (.slice h n A) w'→wpList Tryz.prog G Q rest (a.put o.dst (.slice h n A)) w'):wpList Tryz.prog G Q (o :: rest) a w:=by
 subst U
 refine wpList_plain N fun ae J=>?_
 obtain⟨h,A,w',W,ad⟩:=j8 (ty:=o.type) (d:=d) Y O ab R hb K H S
 unfold Oper.wp
 simp[execOp,V,resolve,invoke,builtin,X,aa,W,Result.andThen]
 exact J _ _ (I h A w' ad)
theorem Fr.old {α:Type} {k:Nat} {e:TypeId} {At:World→Nat→Nat→α→Prop} {w A w':World} {E:List α} {v:Value} (a:Fr k e At A E v w') (h:Frm [] w A):Fr k e At w E v w':=
 ⟨a.arr,h.trans a.frm,a.own.imp id fun⟨H,G⟩=>⟨H,df G h.size⟩⟩
theorem StAt.mov:cL 3 StAt:=fun w b o x A=>by
 obtain⟨E,G,H⟩:=A
 refine⟨[.string x.name,.bool x.fin,.int .i64 x.wait],rfl,by simp[Value.oneCell'],fun j u a=>?_,fun w' I J _ h=>⟨h 0 _ rfl,h 1 _ rfl,h 2 _ rfl⟩⟩
 match j,a with
 | 0,a=>cases a;exact E
 | 1,a=>cases a;exact G
 | 2,a=>cases a;exact H
 | j+3,a=>simp at a
theorem CtAt.mov:cL 2 CtAt:=fun w b o x A=>by
 obtain⟨E,G⟩:=A
 refine⟨[.string x.name,.int .i64 x.lim],rfl,by simp[Value.oneCell'],fun j u a=>?_,fun w' H I _ h=>⟨h 0 _ rfl,h 1 _ rfl⟩⟩
 match j,a with
 | 0,a=>cases a;exact E
 | 1,a=>cases a;exact G
 | j+2,a=>simp at a
theorem SpAt.mov:cL 9 SpAt:=fun w b o t A=>by
 obtain⟨E,G,H,I,J,K,N,O,R⟩:=A
 refine⟨[.string t.frm,.string t.to,.int .i64 t.kind,.string t.msg,.string t.peer,.string t.ctr,.int .i64 t.low,.int .i64 t.high,.int .i64 t.add],rfl,by simp[Value.oneCell'],fun j u a=>?_,
  fun w' S U _ h=>⟨h 0 _ rfl,h 1 _ rfl,h 2 _ rfl,h 3 _ rfl,h 4 _ rfl,h 5 _ rfl,h 6 _ rfl,h 7 _ rfl,h 8 _ rfl⟩⟩
 match j,a with
 | 0,a=>cases a;exact E
 | 1,a=>cases a;exact G
 | 2,a=>cases a;exact H
 | 3,a=>cases a;exact I
 | 4,a=>cases a;exact J
 | 5,a=>cases a;exact K
 | 6,a=>cases a;exact N
 | 7,a=>cases a;exact O
 | 8,a=>cases a;exact R
 | j+9,a=>simp at a
theorem CnAt.mov:cL 3 CnAt:=fun w b o x A=>by
 obtain⟨E,G,H⟩:=A
 refine⟨[.string x.1.name,.int .i64 x.1.lim,.int .i64 x.2],rfl,by simp[Value.oneCell'],fun j u a=>?_,fun w' I J _ h=>⟨h 0 _ rfl,h 1 _ rfl,h 2 _ rfl⟩⟩
 match j,a with
 | 0,a=>cases a;exact E
 | 1,a=>cases a;exact G
 | 2,a=>cases a;exact H
 | j+3,a=>simp at a
theorem RlAt.mov:cL 4 RlAt:=fun w b o x N=>by
 obtain⟨G,E,H,O,R,S,U,h⟩:=N
 refine⟨[.string x.name,G,E,H],rfl,?_,fun j u a=>?_,fun w' aa af V A=>⟨G,E,H,A 0 _ rfl,A 1 _ rfl,A 2 _ rfl,A 3 _ rfl,h.frm V⟩⟩
 ·obtain⟨W,ab,I⟩:=h.sts.shape
  obtain⟨X,ad,J⟩:=h.ctrs.shape
  obtain⟨Y,ae,K⟩:=h.steps.shape
  rw[I,J,K]
  simp[Value.oneCell']
 ·match j,a with
  | 0,a=>cases a;exact O
  | 1,a=>cases a;exact R
  | 2,a=>cases a;exact S
  | 3,a=>cases a;exact U
  | j+4,a=>simp at a
def RoAt (w0 w:World) (b o:Nat) (r:RolD):Prop:=
 ∃ h a A,w.cell? ⟨b,o,none⟩=some (.string r.name)∧w.cell? ⟨b,o+1,none⟩=some h∧w.cell? ⟨b,o+2,none⟩=some a∧w.cell? ⟨b,o+3,none⟩=some A∧Rl3 w0 h a A r
theorem RoAt.frm {w0 w w':World} {b o:Nat} {r:RolD} (A:RoAt w0 w b o r) (a:Frm [] w w'):RoAt w0 w' b o r:=by
 obtain⟨K,h,N,E,G,H,I,J⟩:=A
 exact⟨K,h,N,a.keep E,a.keep G,a.keep H,a.keep I,J⟩
theorem RoAt.mov (w0:World):cL 4 (RoAt w0):=fun w b o x N=>by
 obtain⟨G,E,H,O,R,S,U,h⟩:=N
 refine⟨[.string x.name,G,E,H],rfl,?_,fun j u a=>?_,fun w' Y af ae A=>⟨G,E,H,A 0 _ rfl,A 1 _ rfl,A 2 _ rfl,A 3 _ rfl,h⟩⟩
 ·obtain⟨V,aa,I⟩:=h.sts.shape
  obtain⟨W,ab,J⟩:=h.ctrs.shape
  obtain⟨X,ad,K⟩:=h.steps.shape
  rw[I,J,K]
  simp[Value.oneCell']
 ·match j,a with
  | 0,a=>cases a;exact O
  | 1,a=>cases a;exact R
  | 2,a=>cases a;exact S
  | 3,a=>cases a;exact U
  | j+4,a=>simp at a
def AoAt (w0 w:World) (b o:Nat) (x:Int × List (CtrD × Int)):Prop:=∃ a,w.cell? ⟨b,o,none⟩=some (.int .i64 x.1)∧w.cell? ⟨b,o+1,none⟩=some (.pointer (some ⟨a,0,none⟩))∧Bnk w0 a x.2
def WoAt (cls cap:Int) (w0 w:World) (b o:Nat) (a:List (List ByteArray)):Prop:=∃ v,w.cell? ⟨b,o,none⟩=some v∧RowV cls cap w0 v a
def CoAt (cls cap:Int) (w0 w:World) (b o:Nat) (L:List ByteArray):Prop:=∃ cb F,w.cell? ⟨b,o,none⟩=some (.pointer (some ⟨cb,0,none⟩))∧Chn w0 cb cls cap L F
theorem AoAt.frm {w0 w w':World} {b o:Nat} {x:Int × List (CtrD × Int)} (A:AoAt w0 w b o x) (a:Frm [] w w'):AoAt w0 w' b o x:=by
 obtain⟨h,E,G,H⟩:=A
 exact⟨h,a.keep E,a.keep G,H⟩
theorem WoAt.frm {cls cap:Int} {w0 w w':World} {b o:Nat} {x:List (List ByteArray)} (a:WoAt cls cap w0 w b o x) (E:Frm [] w w'):WoAt cls cap w0 w' b o x:=by
 obtain⟨v,h,A⟩:=a
 exact⟨v,E.keep h,A⟩
theorem CoAt.frm {cls cap:Int} {w0 w w':World} {b o:Nat} {x:List ByteArray} (a:CoAt cls cap w0 w b o x) (E:Frm [] w w'):CoAt cls cap w0 w' b o x:=by
 obtain⟨cb,F,h,A⟩:=a
 exact⟨cb,F,E.keep h,A⟩
theorem AoAt.mov (w0:World):cL 2 (AoAt w0):=fun w b o x E=>by
 obtain⟨h,G,H,I⟩:=E
 refine⟨[.int .i64 x.1,.pointer (some ⟨h,0,none⟩)],rfl,by simp[Value.oneCell'],fun j u a=>?_,fun w' J N K A=>⟨h,A 0 _ rfl,A 1 _ rfl,I⟩⟩
 match j,a with
 | 0,a=>cases a;exact G
 | 1,a=>cases a;exact H
 | j+2,a=>simp at a
theorem CoAt.mov (cls cap:Int) (w0:World):cL 1 (CoAt cls cap w0):=fun w b o x h=>by
 obtain⟨cb,F,A,E⟩:=h
 refine⟨[.pointer (some ⟨cb,0,none⟩)],rfl,by simp[Value.oneCell'],fun j u a=>?_,fun w' H J I G=>⟨cb,F,G 0 _ rfl,E⟩⟩
 match j,a with
 | 0,a=>cases a;exact A
 | j+1,a=>simp at a
theorem WoAt.mov (cls cap:Int) (w0:World):cL 1 (WoAt cls cap w0):=fun w b o x E=>by
 obtain⟨v,G,h⟩:=E
 refine⟨[v],rfl,?_,fun j u a=>?_,fun w' J O N H=>⟨v,H 0 _ rfl,h⟩⟩
 ·obtain⟨I,K,A⟩:=Arr.shape h
  rw[A]
  simp[Value.oneCell']
 ·match j,a with
  | 0,a=>cases a;exact G
  | j+1,a=>simp at a
set_option maxHeartbeats 1000000 in
set_option maxRecDepth 100000 in
theorem kL (w0:World) (v:Value) (h:List RolD) (w:World) (A:Arr 4 (RoAt w0) w v h) (H:h.length≤100000):Calls Tryz.prog 170 #[v] w (aU (Fr 4 87 (RoAt w0) w h)):=by
 have I:Hid (∀ a,Frm [] w a→Arr 4 (RoAt w0) a v h):=vi fun a Y=>A.frm fun _ _ _ A=>A.frm Y
 obtain⟨ao,K,rfl⟩:=A.shape
 obtain⟨n,E⟩:∃ n,h.length=n:=⟨_,rfl⟩
 rw[E] at I H ⊢
 have R:=vi E
 have O:=vi H
 cases ao with
 | none =>
   have G:h=[]:=by
    obtain⟨V,W,X,G⟩:=A
    cases X
    cases h with
    | nil=>rfl
    | cons x h=>obtain⟨b,o,e,-⟩:=G 0 x rfl;cases e
   have J:=vi G
   obtain rfl:n=0:=by rw[← E,G];rfl
   have aa:∀ a,(binOp .eql 22 (.slice none 0 K) (.slice none 0 0)).run Tryz.prog a=.ok (.bool true) a:=fun a=>run_eql_nil_slice a _ _ _ _ _ _ _ Tryz.underlying22
   clear A E H G
   go_enter Tryz.func170,Tryz.ntmps170
   go_wp2
   go_ret
   exact⟨_,rfl,by rw[J.out];exact Arr.nil _ _ _,Frm.refl _ _,.inl J.out⟩
 | some U =>
   have aa:∀ a,(binOp .eql 22 (.slice (some U) n K) (.slice none 0 0)).run Tryz.prog a=.ok (.bool false) a:=fun a=>Lib.run_eql_slice_nil a _ _ _ _ _ _ _ Tryz.underlying22
   clear A E H
   go_enter Tryz.func170,Tryz.ntmps170
   go_wp2_with (first
    | (at_builtin;refine cG (k:=4) (At:=(RoAt w0)) (z:=.agg #[.string { data:=#[] },.slice none 0 0,.slice none 0 0,.slice none 0 0]) (bytes:=88) rfl _ _ rfl rfl rfl Tryz.underlying22 (by kernel_rfl) rfl (by decide) (by decide) (RoAt.mov w0) R.out (I.out _ ((Frm.refl [] w).alloc _)) O.out ?_;intro V W w' N;have S:=vi N;clear N))
   go_ret
   exact⟨_,rfl,S.out.old ((Frm.refl [] w).alloc _)⟩
set_option maxHeartbeats 1000000 in
set_option maxRecDepth 100000 in
theorem lX (v:Value) (h:List StD) (w:World) (A:Arr 3 StAt w v h) (H:h.length≤100000):Calls Tryz.prog 171 #[v] w (aU (Fr 3 206 StAt w h)):=by
 have I:Hid (∀ a,Frm [] w a→Arr 3 StAt a v h):=vi fun a Y=>A.frm fun _ _ _ A=>A.frm Y
 obtain⟨ao,K,rfl⟩:=A.shape
 obtain⟨n,E⟩:∃ n,h.length=n:=⟨_,rfl⟩
 rw[E] at I H ⊢
 have R:=vi E
 have O:=vi H
 cases ao with
 | none =>
   have G:h=[]:=by
    obtain⟨V,W,X,G⟩:=A
    cases X
    cases h with
    | nil=>rfl
    | cons x h=>obtain⟨b,o,e,-⟩:=G 0 x rfl;cases e
   have J:=vi G
   obtain rfl:n=0:=by rw[← E,G];rfl
   have aa:∀ a,(binOp .eql 83 (.slice none 0 K) (.slice none 0 0)).run Tryz.prog a=.ok (.bool true) a:=fun a=>run_eql_nil_slice a _ _ _ _ _ _ _ Tryz.underlying83
   clear A E H G
   go_enter Tryz.func171,Tryz.ntmps171
   go_wp2
   go_ret
   exact⟨_,rfl,by rw[J.out];exact Arr.nil _ _ _,Frm.refl _ _,.inl J.out⟩
 | some U =>
   have aa:∀ a,(binOp .eql 83 (.slice (some U) n K) (.slice none 0 0)).run Tryz.prog a=.ok (.bool false) a:=fun a=>Lib.run_eql_slice_nil a _ _ _ _ _ _ _ Tryz.underlying83
   clear A E H
   go_enter Tryz.func171,Tryz.ntmps171
   go_wp2_with (first
    | (at_builtin;refine cG (k:=3) (At:=StAt) (z:=.agg #[.string { data:=#[] },.bool false,.int .i64 0]) (bytes:=32) rfl _ _ rfl rfl rfl Tryz.underlying83 (by kernel_rfl) rfl (by decide) (by decide) StAt.mov R.out (I.out _ ((Frm.refl [] w).alloc _)) O.out ?_;intro V W w' N;have S:=vi N;clear N))
   go_ret
   exact⟨_,rfl,S.out.old ((Frm.refl [] w).alloc _)⟩
set_option maxHeartbeats 1000000 in
set_option maxRecDepth 100000 in
theorem pU (v:Value) (h:List CtrD) (w:World) (A:Arr 2 CtAt w v h) (H:h.length≤100000):Calls Tryz.prog 172 #[v] w (aU (Fr 2 244 CtAt w h)):=by
 have I:Hid (∀ a,Frm [] w a→Arr 2 CtAt a v h):=vi fun a Y=>A.frm fun _ _ _ A=>A.frm Y
 obtain⟨ao,K,rfl⟩:=A.shape
 obtain⟨n,E⟩:∃ n,h.length=n:=⟨_,rfl⟩
 rw[E] at I H ⊢
 have R:=vi E
 have O:=vi H
 cases ao with
 | none =>
   have G:h=[]:=by
    obtain⟨V,W,X,G⟩:=A
    cases X
    cases h with
    | nil=>rfl
    | cons x h=>obtain⟨b,o,e,-⟩:=G 0 x rfl;cases e
   have J:=vi G
   obtain rfl:n=0:=by rw[← E,G];rfl
   have aa:∀ a,(binOp .eql 84 (.slice none 0 K) (.slice none 0 0)).run Tryz.prog a=.ok (.bool true) a:=fun a=>run_eql_nil_slice a _ _ _ _ _ _ _ Tryz.underlying84
   clear A E H G
   go_enter Tryz.func172,Tryz.ntmps172
   go_wp2
   go_ret
   exact⟨_,rfl,by rw[J.out];exact Arr.nil _ _ _,Frm.refl _ _,.inl J.out⟩
 | some U =>
   have aa:∀ a,(binOp .eql 84 (.slice (some U) n K) (.slice none 0 0)).run Tryz.prog a=.ok (.bool false) a:=fun a=>Lib.run_eql_slice_nil a _ _ _ _ _ _ _ Tryz.underlying84
   clear A E H
   go_enter Tryz.func172,Tryz.ntmps172
   go_wp2_with (first
    | (at_builtin;refine cG (k:=2) (At:=CtAt) (z:=.agg #[.string { data:=#[] },.int .i64 0]) (bytes:=24) rfl _ _ rfl rfl rfl Tryz.underlying84 (by kernel_rfl) rfl (by decide) (by decide) CtAt.mov R.out (I.out _ ((Frm.refl [] w).alloc _)) O.out ?_;intro V W w' N;have S:=vi N;clear N))
   go_ret
   exact⟨_,rfl,S.out.old ((Frm.refl [] w).alloc _)⟩
set_option maxHeartbeats 1000000 in
set_option maxRecDepth 100000 in
theorem jh (v:Value) (h:List StpD) (w:World) (A:Arr 9 SpAt w v h) (H:h.length≤100000):Calls Tryz.prog 173 #[v] w (aU (Fr 9 137 SpAt w h)):=by
 have I:Hid (∀ a,Frm [] w a→Arr 9 SpAt a v h):=vi fun a Y=>A.frm fun _ _ _ A=>A.frm Y
 obtain⟨ao,K,rfl⟩:=A.shape
 obtain⟨n,E⟩:∃ n,h.length=n:=⟨_,rfl⟩
 rw[E] at I H ⊢
 have R:=vi E
 have O:=vi H
 cases ao with
 | none =>
   have G:h=[]:=by
    obtain⟨V,W,X,G⟩:=A
    cases X
    cases h with
    | nil=>rfl
    | cons x h=>obtain⟨b,o,e,-⟩:=G 0 x rfl;cases e
   have J:=vi G
   obtain rfl:n=0:=by rw[← E,G];rfl
   have aa:∀ a,(binOp .eql 85 (.slice none 0 K) (.slice none 0 0)).run Tryz.prog a=.ok (.bool true) a:=fun a=>run_eql_nil_slice a _ _ _ _ _ _ _ Tryz.underlying85
   clear A E H G
   go_enter Tryz.func173,Tryz.ntmps173
   go_wp2
   go_ret
   exact⟨_,rfl,by rw[J.out];exact Arr.nil _ _ _,Frm.refl _ _,.inl J.out⟩
 | some U =>
   have aa:∀ a,(binOp .eql 85 (.slice (some U) n K) (.slice none 0 0)).run Tryz.prog a=.ok (.bool false) a:=fun a=>Lib.run_eql_slice_nil a _ _ _ _ _ _ _ Tryz.underlying85
   clear A E H
   go_enter Tryz.func173,Tryz.ntmps173
   go_wp2_with (first
    | (at_builtin;refine cG (k:=9) (At:=SpAt) (z:=.agg #[.string { data:=#[] },.string { data:=#[] },.int .i64 0,.string { data:=#[] },.string { data:=#[] },.string { data:=#[] },.int .i64 0,.int .i64 0,.int .i64 0]) (bytes:=112) rfl _ _ rfl rfl rfl Tryz.underlying85 (by kernel_rfl) rfl (by decide) (by decide) SpAt.mov R.out (I.out _ ((Frm.refl [] w).alloc _)) O.out ?_;intro V W w' N;have S:=vi N;clear N))
   go_ret
   exact⟨_,rfl,S.out.old ((Frm.refl [] w).alloc _)⟩
set_option maxHeartbeats 1000000 in
set_option maxRecDepth 100000 in
theorem j9 (v:Value) (h:List (CtrD × Int)) (w:World) (A:Arr 3 CnAt w v h) (H:h.length≤100000):Calls Tryz.prog 135 #[v] w (aU (Fr 3 246 CnAt w h)):=by
 have I:Hid (∀ a,Frm [] w a→Arr 3 CnAt a v h):=vi fun a Y=>A.frm fun _ _ _ A=>A.frm Y
 obtain⟨ao,K,rfl⟩:=A.shape
 obtain⟨n,E⟩:∃ n,h.length=n:=⟨_,rfl⟩
 rw[E] at I H ⊢
 have R:=vi E
 have O:=vi H
 cases ao with
 | none =>
   have G:h=[]:=by
    obtain⟨V,W,X,G⟩:=A
    cases X
    cases h with
    | nil=>rfl
    | cons x h=>obtain⟨b,o,e,-⟩:=G 0 x rfl;cases e
   have J:=vi G
   obtain rfl:n=0:=by rw[← E,G];rfl
   have aa:∀ a,(binOp .eql 241 (.slice none 0 K) (.slice none 0 0)).run Tryz.prog a=.ok (.bool true) a:=fun a=>run_eql_nil_slice a _ _ _ _ _ _ _ Tryz.underlying241
   clear A E H G
   go_enter Tryz.func135,Tryz.ntmps135
   go_wp2
   go_ret
   exact⟨_,rfl,by rw[J.out];exact Arr.nil _ _ _,Frm.refl _ _,.inl J.out⟩
 | some U =>
   have aa:∀ a,(binOp .eql 241 (.slice (some U) n K) (.slice none 0 0)).run Tryz.prog a=.ok (.bool false) a:=fun a=>Lib.run_eql_slice_nil a _ _ _ _ _ _ _ Tryz.underlying241
   clear A E H
   go_enter Tryz.func135,Tryz.ntmps135
   go_wp2_with (first
    | (at_builtin;refine cG (k:=3) (At:=CnAt) (z:=.agg #[.string { data:=#[] },.int .i64 0,.int .i64 0]) (bytes:=32) rfl _ _ rfl rfl rfl Tryz.underlying241 (by kernel_rfl) rfl (by decide) (by decide) CnAt.mov R.out (I.out _ ((Frm.refl [] w).alloc _)) O.out ?_;intro V W w' N;have S:=vi N;clear N))
   go_ret
   exact⟨_,rfl,S.out.old ((Frm.refl [] w).alloc _)⟩
set_option maxHeartbeats 1000000 in
set_option maxRecDepth 100000 in
theorem jT (w0:World) (v:Value) (h:List (Int × List (CtrD × Int))) (w:World) (A:Arr 2 (AoAt w0) w v h) (H:h.length≤100000):Calls Tryz.prog 124 #[v] w (aU (Fr 2 143 (AoAt w0) w h)):=by
 have I:Hid (∀ a,Frm [] w a→Arr 2 (AoAt w0) a v h):=vi fun a Y=>A.frm fun _ _ _ A=>A.frm Y
 obtain⟨ao,K,rfl⟩:=A.shape
 obtain⟨n,E⟩:∃ n,h.length=n:=⟨_,rfl⟩
 rw[E] at I H ⊢
 have R:=vi E
 have O:=vi H
 cases ao with
 | none =>
   have G:h=[]:=by
    obtain⟨V,W,X,G⟩:=A
    cases X
    cases h with
    | nil=>rfl
    | cons x h=>obtain⟨b,o,e,-⟩:=G 0 x rfl;cases e
   have J:=vi G
   obtain rfl:n=0:=by rw[← E,G];rfl
   have aa:∀ a,(binOp .eql 144 (.slice none 0 K) (.slice none 0 0)).run Tryz.prog a=.ok (.bool true) a:=fun a=>run_eql_nil_slice a _ _ _ _ _ _ _ Tryz.underlying144
   clear A E H G
   go_enter Tryz.func124,Tryz.ntmps124
   go_wp2
   go_ret
   exact⟨_,rfl,by rw[J.out];exact Arr.nil _ _ _,Frm.refl _ _,.inl J.out⟩
 | some U =>
   have aa:∀ a,(binOp .eql 144 (.slice (some U) n K) (.slice none 0 0)).run Tryz.prog a=.ok (.bool false) a:=fun a=>Lib.run_eql_slice_nil a _ _ _ _ _ _ _ Tryz.underlying144
   clear A E H
   go_enter Tryz.func124,Tryz.ntmps124
   go_wp2_with (first
    | (at_builtin;refine cG (k:=2) (At:=(AoAt w0)) (z:=.agg #[.int .i64 0,.pointer none]) (bytes:=16) rfl _ _ rfl rfl rfl Tryz.underlying144 (by kernel_rfl) rfl (by decide) (by decide) (AoAt.mov w0) R.out (I.out _ ((Frm.refl [] w).alloc _)) O.out ?_;intro V W w' N;have S:=vi N;clear N))
   go_ret
   exact⟨_,rfl,S.out.old ((Frm.refl [] w).alloc _)⟩
set_option maxHeartbeats 1000000 in
set_option maxRecDepth 100000 in
theorem lY (cls cap:Int) (w0:World) (v:Value) (h:List (List ByteArray)) (w:World) (A:Arr 1 (CoAt cls cap w0) w v h) (H:h.length≤100000):Calls Tryz.prog 126 #[v] w (aU (Fr 1 130 (CoAt cls cap w0) w h)):=by
 have I:Hid (∀ a,Frm [] w a→Arr 1 (CoAt cls cap w0) a v h):=vi fun a Y=>A.frm fun _ _ _ A=>A.frm Y
 obtain⟨ao,K,rfl⟩:=A.shape
 obtain⟨n,E⟩:∃ n,h.length=n:=⟨_,rfl⟩
 rw[E] at I H ⊢
 have R:=vi E
 have O:=vi H
 cases ao with
 | none =>
   have G:h=[]:=by
    obtain⟨V,W,X,G⟩:=A
    cases X
    cases h with
    | nil=>rfl
    | cons x h=>obtain⟨b,o,e,-⟩:=G 0 x rfl;cases e
   have J:=vi G
   obtain rfl:n=0:=by rw[← E,G];rfl
   have aa:∀ a,(binOp .eql 191 (.slice none 0 K) (.slice none 0 0)).run Tryz.prog a=.ok (.bool true) a:=fun a=>run_eql_nil_slice a _ _ _ _ _ _ _ Tryz.underlying191
   clear A E H G
   go_enter Tryz.func126,Tryz.ntmps126
   go_wp2
   go_ret
   exact⟨_,rfl,by rw[J.out];exact Arr.nil _ _ _,Frm.refl _ _,.inl J.out⟩
 | some U =>
   have aa:∀ a,(binOp .eql 191 (.slice (some U) n K) (.slice none 0 0)).run Tryz.prog a=.ok (.bool false) a:=fun a=>Lib.run_eql_slice_nil a _ _ _ _ _ _ _ Tryz.underlying191
   clear A E H
   go_enter Tryz.func126,Tryz.ntmps126
   go_wp2_with (first
    | (at_builtin;refine cG (k:=1) (At:=(CoAt cls cap w0)) (z:=.pointer none) (bytes:=8) rfl _ _ rfl rfl rfl Tryz.underlying191 (by kernel_rfl) rfl (by decide) (by decide) (CoAt.mov cls cap w0) R.out (I.out _ ((Frm.refl [] w).alloc _)) O.out ?_;intro V W w' N;have S:=vi N;clear N))
   go_ret
   exact⟨_,rfl,S.out.old ((Frm.refl [] w).alloc _)⟩
set_option maxHeartbeats 1000000 in
set_option maxRecDepth 100000 in
theorem kM (cls cap:Int) (w0:World) (v:Value) (h:List (List (List ByteArray))) (w:World) (A:Arr 1 (WoAt cls cap w0) w v h) (H:h.length≤100000):Calls Tryz.prog 125 #[v] w (aU (Fr 1 191 (WoAt cls cap w0) w h)):=by
 have I:Hid (∀ a,Frm [] w a→Arr 1 (WoAt cls cap w0) a v h):=vi fun a Y=>A.frm fun _ _ _ A=>A.frm Y
 obtain⟨ao,K,rfl⟩:=A.shape
 obtain⟨n,E⟩:∃ n,h.length=n:=⟨_,rfl⟩
 rw[E] at I H ⊢
 have R:=vi E
 have O:=vi H
 cases ao with
 | none =>
   have G:h=[]:=by
    obtain⟨V,W,X,G⟩:=A
    cases X
    cases h with
    | nil=>rfl
    | cons x h=>obtain⟨b,o,e,-⟩:=G 0 x rfl;cases e
   have J:=vi G
   obtain rfl:n=0:=by rw[← E,G];rfl
   have aa:∀ a,(binOp .eql 145 (.slice none 0 K) (.slice none 0 0)).run Tryz.prog a=.ok (.bool true) a:=fun a=>run_eql_nil_slice a _ _ _ _ _ _ _ Tryz.underlying145
   clear A E H G
   go_enter Tryz.func125,Tryz.ntmps125
   go_wp2
   go_ret
   exact⟨_,rfl,by rw[J.out];exact Arr.nil _ _ _,Frm.refl _ _,.inl J.out⟩
 | some U =>
   have aa:∀ a,(binOp .eql 145 (.slice (some U) n K) (.slice none 0 0)).run Tryz.prog a=.ok (.bool false) a:=fun a=>Lib.run_eql_slice_nil a _ _ _ _ _ _ _ Tryz.underlying145
   clear A E H
   go_enter Tryz.func125,Tryz.ntmps125
   go_wp2_with (first
    | (at_builtin;refine cG (k:=1) (At:=(WoAt cls cap w0)) (z:=.slice none 0 0) (bytes:=24) rfl _ _ rfl rfl rfl Tryz.underlying145 (by kernel_rfl) rfl (by decide) (by decide) (WoAt.mov cls cap w0) R.out (I.out _ ((Frm.refl [] w).alloc _)) O.out ?_;intro V W w' N;have S:=vi N;clear N))
   go_ret
   exact⟨_,rfl,S.out.old ((Frm.refl [] w).alloc _)⟩
end Go.Proofs.YtohfkhjlnlahdaaGreat
