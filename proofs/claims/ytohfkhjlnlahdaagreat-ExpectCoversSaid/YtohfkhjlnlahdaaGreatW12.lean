/- Part of the proof. -/
import Derived.Test.YtohfkhjlnlahdaaGreatW09
import Derived.Shelf.SlicesG.Turned
import Derived.Shelf.SlicesG.Delete
import Derived.Sort.OwnSorted
import Derived.OrdersHeld
import Derived.Lib.SliceRun
set_option linter.all false
namespace Go.Proofs.YtohfkhjlnlahdaaGreat
open Go.RowKit Go.BigFrame
def Movable {α:Type} (k:Nat) (At:World→Nat→Nat→α→Prop):Prop:=
 ∀ w b o x,At w b o x→∃ vs:List Value,vs.length=k∧(∀ u∈vs,u.oneCell'=true)∧(∀ (j:Nat) u,vs[j]?=some u→w.cell? ⟨b,o + j,none⟩=some u) ∧
   ∀ w' b' o',Frm [] w w'→(∀ (j:Nat) u,vs[j]?=some u→w'.cell? ⟨b',o' + j,none⟩=some u)→At w' b' o' x
structure Fr {α:Type} (k:Nat) (e:TypeId) (At:World→Nat→Nat→α→Prop) (w:World) (xs:List α) (v:Value) (w':World):Prop where
 arr:Arr k At w' v xs
 frm:Frm [] w w'
 own:xs=[]∨∃ news,w'.ownsRow w.heap.size e k v xs.length news
theorem mov_row {α:Type} {k:Nat} {At:World→Nat→Nat→α→Prop} (hM:Movable k At) {w:World} {b o:Nat}:∀ (xs:List α) (d:Nat),(∀ (i:Nat) x,xs[i]?=some x→At w b (o + (d + i) * k) x) →
  ∃ news:List Value,news.length=xs.length * k∧(∀ u∈news,u.oneCell'=true)∧(∀ (j:Nat) u,news[j]?=some u→w.cell? ⟨b,o + d * k + j,none⟩=some u) ∧
    ∀ w' b' o',Frm [] w w'→(∀ (j:Nat) u,news[j]?=some u→w'.cell? ⟨b',o' + j,none⟩=some u)→∀ (i:Nat) x,xs[i]?=some x→At w' b' (o' + i * k) x
 | [],d,_=>⟨[],by simp,by simp,by simp,fun _ _ _ _ _ i x h=>by simp at h⟩
 | x :: xs,d,h=>by
   obtain⟨vs,h1,h2,h3,h4⟩:=hM w b _ x (h 0 x rfl)
   obtain⟨ns,g1,g2,g3,g4⟩:=mov_row hM xs (d + 1) (fun i y hy=>by
    rw[show d + 1 + i=d + (i + 1) by omega];exact h (i + 1) y (by simpa using hy))
   refine⟨vs ++ ns,by rw[List.length_append,h1,g1,List.length_cons,Nat.add_mul];omega,fun u hu=>?_,fun j u hu=>?_,fun w' b' o' hf hc i y hy=>?_⟩
   ·rcases List.mem_append.1 hu with hu | hu
    ·exact h2 u hu
    ·exact g2 u hu
   ·by_cases hj:j < k
    ·rw[List.getElem?_append_left (by omega)] at hu
     have:=h3 j u hu
     rw[Nat.add_zero] at this
     exact this
    ·rw[List.getElem?_append_right (by omega),h1] at hu
     have:=g3 (j - k) u hu
     rw[Nat.add_mul] at this
     rw[show o + d * k + j=o + (d * k + 1 * k) + (j - k) by omega]
     exact this
   ·cases i with
    | zero =>
      simp only[List.getElem?_cons_zero,Option.some.injEq] at hy
      subst hy
      rw[Nat.zero_mul,Nat.add_zero]
      exact h4 w' b' o' hf fun j u hu=>hc j u (by rw[List.getElem?_append_left (lt_of_some hu)];exact hu)
    | succ i =>
      rw[show o' + (i + 1) * k=(o' + k) + i * k by rw[Nat.add_mul];omega]
      refine g4 w' b' (o' + k) hf (fun j u hu=>?_) i y (by simpa using hy)
      rw[show o' + k + j=o' + (k + j) by omega]
      exact hc (k + j) u (by rw[List.getElem?_append_right (by omega),h1,show k + j - k=j by omega];exact hu)
theorem Arr.shape {α:Type} {k:Nat} {At:World→Nat→Nat→α→Prop} {w:World} {v:Value} {xs:List α} (h:Arr k At w v xs):∃ ao cap,v=.slice ao xs.length cap:=by
 obtain⟨ao,cap,e,-⟩:=h;exact⟨ao,cap,e⟩
theorem clone_run {α:Type} {k:Nat} {At:World→Nat→Nat→α→Prop} {t e ty:TypeId} {z:Value} {bytes:Nat} (ht:Tryz.prog.underlying t=some (.slice e)) (hi:(Tryz.prog.info? e).map (fun i=>(i.zero,i.size,i.bytes))=some (some z,k,bytes))
  (hzs:z.cells.size=k) (hk:0 < k) (hb:bytes≤1000) (hM:Movable k At) {ao:Option Addr} {cap d:Nat} {xs:List α} {w:World} (h:Arr k At w (.slice ao xs.length cap) xs) (hl:xs.length≤100000) :
  ∃ ao' cap' w',(Builtin.append_ #[t,t] ty #[.slice (some ⟨d,0,none⟩) 0 0,.slice ao xs.length cap]).run Tryz.prog w=.ok (.slice ao' xs.length cap') w'∧Fr k e At w xs (.slice ao' xs.length cap') w':=by
 obtain⟨i0,hi0,hz0,hz1,hz2⟩:=info_parts hi
 obtain⟨ao',cap',e',hx⟩:=h
 cases e'
 cases xs with
 | nil =>
   refine⟨some ⟨d,0,none⟩,0,w,?_,Arr.nil _ _ _,Frm.refl _ _,.inl rfl⟩
   cases ao with
   | none=>exact run_append_nothing w t t ty e i0 ht hi0 (some ⟨d,0,none⟩) 0 0 (Nat.le_refl _) _ (Src.ofNil w ht cap)
   | some ad=>exact run_append_nothing w t t ty e i0 ht hi0 (some ⟨d,0,none⟩) 0 0 (Nat.le_refl _) _ (Src.ofSlice w ht ad 0 cap [] (by simp) (fun j u hu=>by simp at hu) (by simp))
 | cons x xs =>
   obtain⟨b,o,rfl,-⟩:=hx 0 x rfl
   obtain⟨news,n1,n2,n3,n4⟩:=mov_row hM (w:=w) (b:=b) (o:=o) (x :: xs) 0 (fun i y hy=>by
    obtain⟨b',o',e',ha⟩:=hx i y hy
    cases e'
    rw[Nat.zero_add];exact ha)
   have n3':∀ (j:Nat) u,news[j]?=some u→w.cell? ((⟨b,o,none⟩:Addr).add j)=some u:=fun j u hu=>by
    have:=n3 j u hu
    rw[Nat.zero_mul,Nat.add_zero] at this
    have e:(⟨b,o,none⟩:Addr).add j=⟨b,o + j,none⟩:=by simp[Addr.add]
    rw[e];exact this
   have hbytes:(x :: xs).length * bytes≤100000 * 1000:=Nat.mul_le_mul hl hb
   obtain⟨v',w',hrun,r1,r2⟩:=run_append_arg_grows (P:=Tryz.prog) w t ty e i0 z k bytes ht hi0 hz0 hz1 hz2 hzs hk ⟨d,0,none⟩ 0 0 [] (by simp) (fun j u hu=>by simp at hu) ⟨b,o,none⟩ (x :: xs).length cap news n1 n3'
    (by simp) (by unfold maxLen;omega) (by rw[Nat.zero_add];omega)
   rw[Nat.zero_add,List.nil_append] at r1
   have hf:Frm [] w w':=(Frm.refl [] w).grown r2 (by simp)
   have r0:=r1
   obtain⟨q1,q2⟩:=r1
   rcases q2 with ⟨-,q2⟩ | ⟨g,cap',cur,rfl,-,hb',-,-,-,q3⟩
   ·simp at q2
   ·refine⟨some ⟨g,0,none⟩,cap',w',hrun,⟨_,cap',rfl,fun i y hy=>⟨g,0,rfl,?_⟩⟩,hf,.inr ⟨news,r0⟩⟩
    refine n4 w' g 0 hf (fun j u hu=>?_) i y hy
    rw[Nat.zero_add,cell_of hb',← Array.getElem?_toList]
    have hj:j < (x :: xs).length * k:=by rw[← n1];exact lt_of_some hu
    rw[← q3,List.getElem?_take_of_lt hj] at hu
    exact hu
theorem wpList_clone {α:Type} {k:Nat} {At:World→Nat→Nat→α→Prop} {t e:TypeId} {z:Value} {bytes:Nat} {ops:Array Oper} {rest:List Oper} {o:Oper} {a:Act} {Q:Exit→Act→World→Prop} {w:World} (hgd:o.guard=none) (s x:Operand)
  (ho:o.op=.call { callee:=.builtin .append,args:=#[s,x],argTypes:=#[t,t] }) {d:Nat} (hs:a.eval s=.slice (some ⟨d,0,none⟩) 0 0) {ao:Option Addr} {n cap:Nat} (hx:a.eval x=.slice ao n cap)
  (ht:Tryz.prog.underlying t=some (.slice e)) (hi:(Tryz.prog.info? e).map (fun i=>(i.zero,i.size,i.bytes))=some (some z,k,bytes)) (hzs:z.cells.size=k) (hk:0 < k) (hb:bytes≤1000) (hM:Movable k At) {xs:List α} (hn:xs.length=n)
  (h:Arr k At w (.slice ao n cap) xs) (hl:n≤100000) (hK:∀ ao' cap' w',Fr k e At w xs (.slice ao' n cap') w'→wpList Tryz.prog ops Q rest (a.put o.dst (.slice ao' n cap')) w'):wpList Tryz.prog ops Q (o :: rest) a w:=by
 subst hn
 refine wpList_plain hgd fun K hKK=>?_
 obtain⟨ao',cap',w',hrun,r1⟩:=clone_run (ty:=o.type) (d:=d) ht hi hzs hk hb hM h hl
 unfold Oper.wp
 simp[execOp,ho,resolve,invoke,builtin,hs,hx,hrun,Result.andThen]
 exact hKK _ _ (hK ao' cap' w' r1)
theorem Fr.old {α:Type} {k:Nat} {e:TypeId} {At:World→Nat→Nat→α→Prop} {w w1 w':World} {xs:List α} {v:Value} (h:Fr k e At w1 xs v w') (hf:Frm [] w w1):Fr k e At w xs v w':=
 ⟨h.arr,hf.trans h.frm,h.own.imp id fun⟨news,ho⟩=>⟨news,own_low ho hf.size⟩⟩
theorem StAt.mov:Movable 3 StAt:=fun w b o x h=>by
 obtain⟨h0,h1,h2⟩:=h
 refine⟨[.string x.name,.bool x.fin,.int .i64 x.wait],rfl,by simp[Value.oneCell'],fun j u hu=>?_,fun w' b' o' _ hc=>⟨hc 0 _ rfl,hc 1 _ rfl,hc 2 _ rfl⟩⟩
 match j,hu with
 | 0,hu=>cases hu;exact h0
 | 1,hu=>cases hu;exact h1
 | 2,hu=>cases hu;exact h2
 | j + 3,hu=>simp at hu
theorem CtAt.mov:Movable 2 CtAt:=fun w b o x h=>by
 obtain⟨h0,h1⟩:=h
 refine⟨[.string x.name,.int .i64 x.lim],rfl,by simp[Value.oneCell'],fun j u hu=>?_,fun w' b' o' _ hc=>⟨hc 0 _ rfl,hc 1 _ rfl⟩⟩
 match j,hu with
 | 0,hu=>cases hu;exact h0
 | 1,hu=>cases hu;exact h1
 | j + 2,hu=>simp at hu
theorem SpAt.mov:Movable 9 SpAt:=fun w b o t h=>by
 obtain⟨h0,h1,h2,h3,h4,h5,h6,h7,h8⟩:=h
 refine⟨[.string t.frm,.string t.to,.int .i64 t.kind,.string t.msg,.string t.peer,.string t.ctr,.int .i64 t.low,.int .i64 t.high,.int .i64 t.add],rfl,by simp[Value.oneCell'],fun j u hu=>?_,
  fun w' b' o' _ hc=>⟨hc 0 _ rfl,hc 1 _ rfl,hc 2 _ rfl,hc 3 _ rfl,hc 4 _ rfl,hc 5 _ rfl,hc 6 _ rfl,hc 7 _ rfl,hc 8 _ rfl⟩⟩
 match j,hu with
 | 0,hu=>cases hu;exact h0
 | 1,hu=>cases hu;exact h1
 | 2,hu=>cases hu;exact h2
 | 3,hu=>cases hu;exact h3
 | 4,hu=>cases hu;exact h4
 | 5,hu=>cases hu;exact h5
 | 6,hu=>cases hu;exact h6
 | 7,hu=>cases hu;exact h7
 | 8,hu=>cases hu;exact h8
 | j + 9,hu=>simp at hu
theorem CnAt.mov:Movable 3 CnAt:=fun w b o x h=>by
 obtain⟨h0,h1,h2⟩:=h
 refine⟨[.string x.1.name,.int .i64 x.1.lim,.int .i64 x.2],rfl,by simp[Value.oneCell'],fun j u hu=>?_,fun w' b' o' _ hc=>⟨hc 0 _ rfl,hc 1 _ rfl,hc 2 _ rfl⟩⟩
 match j,hu with
 | 0,hu=>cases hu;exact h0
 | 1,hu=>cases hu;exact h1
 | 2,hu=>cases hu;exact h2
 | j + 3,hu=>simp at hu
theorem RlAt.mov:Movable 4 RlAt:=fun w b o x h=>by
 obtain⟨sv,cv,tv,h0,h1,h2,h3,h4⟩:=h
 refine⟨[.string x.name,sv,cv,tv],rfl,?_,fun j u hu=>?_,fun w' b' o' hf hc=>⟨sv,cv,tv,hc 0 _ rfl,hc 1 _ rfl,hc 2 _ rfl,hc 3 _ rfl,h4.frm hf⟩⟩
 ·obtain⟨a1,c1,e1⟩:=h4.sts.shape
  obtain⟨a2,c2,e2⟩:=h4.ctrs.shape
  obtain⟨a3,c3,e3⟩:=h4.steps.shape
  rw[e1,e2,e3]
  simp[Value.oneCell']
 ·match j,hu with
  | 0,hu=>cases hu;exact h0
  | 1,hu=>cases hu;exact h1
  | 2,hu=>cases hu;exact h2
  | 3,hu=>cases hu;exact h3
  | j + 4,hu=>simp at hu
def RoAt (w0 w:World) (b o:Nat) (r:RolD):Prop:=
 ∃ sv cv tv,w.cell? ⟨b,o,none⟩=some (.string r.name)∧w.cell? ⟨b,o + 1,none⟩=some sv∧w.cell? ⟨b,o + 2,none⟩=some cv∧w.cell? ⟨b,o + 3,none⟩=some tv∧Rl3 w0 sv cv tv r
theorem RoAt.frm {w0 w w':World} {b o:Nat} {r:RolD} (h:RoAt w0 w b o r) (hf:Frm [] w w'):RoAt w0 w' b o r:=by
 obtain⟨sv,cv,tv,h0,h1,h2,h3,h4⟩:=h
 exact⟨sv,cv,tv,hf.keep h0,hf.keep h1,hf.keep h2,hf.keep h3,h4⟩
theorem RoAt.mov (w0:World):Movable 4 (RoAt w0):=fun w b o x h=>by
 obtain⟨sv,cv,tv,h0,h1,h2,h3,h4⟩:=h
 refine⟨[.string x.name,sv,cv,tv],rfl,?_,fun j u hu=>?_,fun w' b' o' hf hc=>⟨sv,cv,tv,hc 0 _ rfl,hc 1 _ rfl,hc 2 _ rfl,hc 3 _ rfl,h4⟩⟩
 ·obtain⟨a1,c1,e1⟩:=h4.sts.shape
  obtain⟨a2,c2,e2⟩:=h4.ctrs.shape
  obtain⟨a3,c3,e3⟩:=h4.steps.shape
  rw[e1,e2,e3]
  simp[Value.oneCell']
 ·match j,hu with
  | 0,hu=>cases hu;exact h0
  | 1,hu=>cases hu;exact h1
  | 2,hu=>cases hu;exact h2
  | 3,hu=>cases hu;exact h3
  | j + 4,hu=>simp at hu
def AoAt (w0 w:World) (b o:Nat) (x:Int × List (CtrD × Int)):Prop:=∃ bb,w.cell? ⟨b,o,none⟩=some (.int .i64 x.1)∧w.cell? ⟨b,o + 1,none⟩=some (.pointer (some ⟨bb,0,none⟩))∧Bnk w0 bb x.2
def WoAt (cls cap:Int) (w0 w:World) (b o:Nat) (Ls:List (List ByteArray)):Prop:=∃ v,w.cell? ⟨b,o,none⟩=some v∧RowV cls cap w0 v Ls
def CoAt (cls cap:Int) (w0 w:World) (b o:Nat) (L:List ByteArray):Prop:=∃ cb F,w.cell? ⟨b,o,none⟩=some (.pointer (some ⟨cb,0,none⟩))∧Chn w0 cb cls cap L F
theorem AoAt.frm {w0 w w':World} {b o:Nat} {x:Int × List (CtrD × Int)} (h:AoAt w0 w b o x) (hf:Frm [] w w'):AoAt w0 w' b o x:=by
 obtain⟨bb,h1,h2,h3⟩:=h
 exact⟨bb,hf.keep h1,hf.keep h2,h3⟩
theorem WoAt.frm {cls cap:Int} {w0 w w':World} {b o:Nat} {x:List (List ByteArray)} (h:WoAt cls cap w0 w b o x) (hf:Frm [] w w'):WoAt cls cap w0 w' b o x:=by
 obtain⟨v,h1,h2⟩:=h
 exact⟨v,hf.keep h1,h2⟩
theorem CoAt.frm {cls cap:Int} {w0 w w':World} {b o:Nat} {x:List ByteArray} (h:CoAt cls cap w0 w b o x) (hf:Frm [] w w'):CoAt cls cap w0 w' b o x:=by
 obtain⟨cb,F,h1,h2⟩:=h
 exact⟨cb,F,hf.keep h1,h2⟩
theorem AoAt.mov (w0:World):Movable 2 (AoAt w0):=fun w b o x h=>by
 obtain⟨bb,h0,h1,h2⟩:=h
 refine⟨[.int .i64 x.1,.pointer (some ⟨bb,0,none⟩)],rfl,by simp[Value.oneCell'],fun j u hu=>?_,fun w' b' o' hf hc=>⟨bb,hc 0 _ rfl,hc 1 _ rfl,h2⟩⟩
 match j,hu with
 | 0,hu=>cases hu;exact h0
 | 1,hu=>cases hu;exact h1
 | j + 2,hu=>simp at hu
theorem CoAt.mov (cls cap:Int) (w0:World):Movable 1 (CoAt cls cap w0):=fun w b o x h=>by
 obtain⟨cb,F,h0,h1⟩:=h
 refine⟨[.pointer (some ⟨cb,0,none⟩)],rfl,by simp[Value.oneCell'],fun j u hu=>?_,fun w' b' o' hf hc=>⟨cb,F,hc 0 _ rfl,h1⟩⟩
 match j,hu with
 | 0,hu=>cases hu;exact h0
 | j + 1,hu=>simp at hu
theorem WoAt.mov (cls cap:Int) (w0:World):Movable 1 (WoAt cls cap w0):=fun w b o x h=>by
 obtain⟨v,h0,h1⟩:=h
 refine⟨[v],rfl,?_,fun j u hu=>?_,fun w' b' o' hf hc=>⟨v,hc 0 _ rfl,h1⟩⟩
 ·obtain⟨a1,c1,e1⟩:=Arr.shape h1
  rw[e1]
  simp[Value.oneCell']
 ·match j,hu with
  | 0,hu=>cases hu;exact h0
  | j + 1,hu=>simp at hu
set_option maxHeartbeats 1000000 in
set_option maxRecDepth 100000 in
theorem clRoleAt_any (w0:World) (v:Value) (xs:List RolD) (w:World) (h:Arr 4 (RoAt w0) w v xs) (hl:xs.length≤100000):Calls Tryz.prog 170 #[v] w (RetV (Fr 4 87 (RoAt w0) w xs)):=by
 have HA:Hid (∀ W,Frm [] w W→Arr 4 (RoAt w0) W v xs):=Lib.hid fun W hf=>h.frm fun _ _ _ h=>h.frm hf
 obtain⟨ao,cq,rfl⟩:=h.shape
 obtain⟨n,hn⟩:∃ n,xs.length=n:=⟨_,rfl⟩
 rw[hn] at HA hl ⊢
 have HN:=Lib.hid hn
 have HL:=Lib.hid hl
 cases ao with
 | none =>
   have hx:xs=[]:=by
    obtain⟨ao',cap',e',hx⟩:=h
    cases e'
    cases xs with
    | nil=>rfl
    | cons x xs=>obtain⟨b,o,e,-⟩:=hx 0 x rfl;cases e
   have HX:=Lib.hid hx
   obtain rfl:n=0:=by rw[← hn,hx];rfl
   have hq:∀ W,(binOp .eql 22 (.slice none 0 cq) (.slice none 0 0)).run Tryz.prog W=.ok (.bool true) W:=fun W=>run_eql_nil_slice W _ _ _ _ _ _ _ Tryz.underlying22
   clear h hn hl hx
   go_enter Tryz.func170,Tryz.ntmps170
   go_wp2
   go_ret
   exact⟨_,rfl,by rw[HX.out];exact Arr.nil _ _ _,Frm.refl _ _,.inl HX.out⟩
 | some ad =>
   have hq:∀ W,(binOp .eql 22 (.slice (some ad) n cq) (.slice none 0 0)).run Tryz.prog W=.ok (.bool false) W:=fun W=>Lib.run_eql_slice_nil W _ _ _ _ _ _ _ Tryz.underlying22
   clear h hn hl
   go_enter Tryz.func170,Tryz.ntmps170
   go_wp2_with (first
    | (at_builtin;refine wpList_clone (k:=4) (At:=(RoAt w0)) (z:=.agg #[.string { data:=#[] },.slice none 0 0,.slice none 0 0,.slice none 0 0]) (bytes:=88) rfl _ _ rfl rfl rfl Tryz.underlying22 (by kernel_rfl) rfl (by decide) (by decide) (RoAt.mov w0) HN.out (HA.out _ ((Frm.refl [] w).alloc _)) HL.out ?_;intro ao' cap' w' hr;have HR:=Lib.hid hr;clear hr))
   go_ret
   exact⟨_,rfl,HR.out.old ((Frm.refl [] w).alloc _)⟩
set_option maxHeartbeats 1000000 in
set_option maxRecDepth 100000 in
theorem clState_any (v:Value) (xs:List StD) (w:World) (h:Arr 3 StAt w v xs) (hl:xs.length≤100000):Calls Tryz.prog 171 #[v] w (RetV (Fr 3 206 StAt w xs)):=by
 have HA:Hid (∀ W,Frm [] w W→Arr 3 StAt W v xs):=Lib.hid fun W hf=>h.frm fun _ _ _ h=>h.frm hf
 obtain⟨ao,cq,rfl⟩:=h.shape
 obtain⟨n,hn⟩:∃ n,xs.length=n:=⟨_,rfl⟩
 rw[hn] at HA hl ⊢
 have HN:=Lib.hid hn
 have HL:=Lib.hid hl
 cases ao with
 | none =>
   have hx:xs=[]:=by
    obtain⟨ao',cap',e',hx⟩:=h
    cases e'
    cases xs with
    | nil=>rfl
    | cons x xs=>obtain⟨b,o,e,-⟩:=hx 0 x rfl;cases e
   have HX:=Lib.hid hx
   obtain rfl:n=0:=by rw[← hn,hx];rfl
   have hq:∀ W,(binOp .eql 83 (.slice none 0 cq) (.slice none 0 0)).run Tryz.prog W=.ok (.bool true) W:=fun W=>run_eql_nil_slice W _ _ _ _ _ _ _ Tryz.underlying83
   clear h hn hl hx
   go_enter Tryz.func171,Tryz.ntmps171
   go_wp2
   go_ret
   exact⟨_,rfl,by rw[HX.out];exact Arr.nil _ _ _,Frm.refl _ _,.inl HX.out⟩
 | some ad =>
   have hq:∀ W,(binOp .eql 83 (.slice (some ad) n cq) (.slice none 0 0)).run Tryz.prog W=.ok (.bool false) W:=fun W=>Lib.run_eql_slice_nil W _ _ _ _ _ _ _ Tryz.underlying83
   clear h hn hl
   go_enter Tryz.func171,Tryz.ntmps171
   go_wp2_with (first
    | (at_builtin;refine wpList_clone (k:=3) (At:=StAt) (z:=.agg #[.string { data:=#[] },.bool false,.int .i64 0]) (bytes:=32) rfl _ _ rfl rfl rfl Tryz.underlying83 (by kernel_rfl) rfl (by decide) (by decide) StAt.mov HN.out (HA.out _ ((Frm.refl [] w).alloc _)) HL.out ?_;intro ao' cap' w' hr;have HR:=Lib.hid hr;clear hr))
   go_ret
   exact⟨_,rfl,HR.out.old ((Frm.refl [] w).alloc _)⟩
set_option maxHeartbeats 1000000 in
set_option maxRecDepth 100000 in
theorem clCtr_any (v:Value) (xs:List CtrD) (w:World) (h:Arr 2 CtAt w v xs) (hl:xs.length≤100000):Calls Tryz.prog 172 #[v] w (RetV (Fr 2 244 CtAt w xs)):=by
 have HA:Hid (∀ W,Frm [] w W→Arr 2 CtAt W v xs):=Lib.hid fun W hf=>h.frm fun _ _ _ h=>h.frm hf
 obtain⟨ao,cq,rfl⟩:=h.shape
 obtain⟨n,hn⟩:∃ n,xs.length=n:=⟨_,rfl⟩
 rw[hn] at HA hl ⊢
 have HN:=Lib.hid hn
 have HL:=Lib.hid hl
 cases ao with
 | none =>
   have hx:xs=[]:=by
    obtain⟨ao',cap',e',hx⟩:=h
    cases e'
    cases xs with
    | nil=>rfl
    | cons x xs=>obtain⟨b,o,e,-⟩:=hx 0 x rfl;cases e
   have HX:=Lib.hid hx
   obtain rfl:n=0:=by rw[← hn,hx];rfl
   have hq:∀ W,(binOp .eql 84 (.slice none 0 cq) (.slice none 0 0)).run Tryz.prog W=.ok (.bool true) W:=fun W=>run_eql_nil_slice W _ _ _ _ _ _ _ Tryz.underlying84
   clear h hn hl hx
   go_enter Tryz.func172,Tryz.ntmps172
   go_wp2
   go_ret
   exact⟨_,rfl,by rw[HX.out];exact Arr.nil _ _ _,Frm.refl _ _,.inl HX.out⟩
 | some ad =>
   have hq:∀ W,(binOp .eql 84 (.slice (some ad) n cq) (.slice none 0 0)).run Tryz.prog W=.ok (.bool false) W:=fun W=>Lib.run_eql_slice_nil W _ _ _ _ _ _ _ Tryz.underlying84
   clear h hn hl
   go_enter Tryz.func172,Tryz.ntmps172
   go_wp2_with (first
    | (at_builtin;refine wpList_clone (k:=2) (At:=CtAt) (z:=.agg #[.string { data:=#[] },.int .i64 0]) (bytes:=24) rfl _ _ rfl rfl rfl Tryz.underlying84 (by kernel_rfl) rfl (by decide) (by decide) CtAt.mov HN.out (HA.out _ ((Frm.refl [] w).alloc _)) HL.out ?_;intro ao' cap' w' hr;have HR:=Lib.hid hr;clear hr))
   go_ret
   exact⟨_,rfl,HR.out.old ((Frm.refl [] w).alloc _)⟩
set_option maxHeartbeats 1000000 in
set_option maxRecDepth 100000 in
theorem clStep_any (v:Value) (xs:List StpD) (w:World) (h:Arr 9 SpAt w v xs) (hl:xs.length≤100000):Calls Tryz.prog 173 #[v] w (RetV (Fr 9 137 SpAt w xs)):=by
 have HA:Hid (∀ W,Frm [] w W→Arr 9 SpAt W v xs):=Lib.hid fun W hf=>h.frm fun _ _ _ h=>h.frm hf
 obtain⟨ao,cq,rfl⟩:=h.shape
 obtain⟨n,hn⟩:∃ n,xs.length=n:=⟨_,rfl⟩
 rw[hn] at HA hl ⊢
 have HN:=Lib.hid hn
 have HL:=Lib.hid hl
 cases ao with
 | none =>
   have hx:xs=[]:=by
    obtain⟨ao',cap',e',hx⟩:=h
    cases e'
    cases xs with
    | nil=>rfl
    | cons x xs=>obtain⟨b,o,e,-⟩:=hx 0 x rfl;cases e
   have HX:=Lib.hid hx
   obtain rfl:n=0:=by rw[← hn,hx];rfl
   have hq:∀ W,(binOp .eql 85 (.slice none 0 cq) (.slice none 0 0)).run Tryz.prog W=.ok (.bool true) W:=fun W=>run_eql_nil_slice W _ _ _ _ _ _ _ Tryz.underlying85
   clear h hn hl hx
   go_enter Tryz.func173,Tryz.ntmps173
   go_wp2
   go_ret
   exact⟨_,rfl,by rw[HX.out];exact Arr.nil _ _ _,Frm.refl _ _,.inl HX.out⟩
 | some ad =>
   have hq:∀ W,(binOp .eql 85 (.slice (some ad) n cq) (.slice none 0 0)).run Tryz.prog W=.ok (.bool false) W:=fun W=>Lib.run_eql_slice_nil W _ _ _ _ _ _ _ Tryz.underlying85
   clear h hn hl
   go_enter Tryz.func173,Tryz.ntmps173
   go_wp2_with (first
    | (at_builtin;refine wpList_clone (k:=9) (At:=SpAt) (z:=.agg #[.string { data:=#[] },.string { data:=#[] },.int .i64 0,.string { data:=#[] },.string { data:=#[] },.string { data:=#[] },.int .i64 0,.int .i64 0,.int .i64 0]) (bytes:=112) rfl _ _ rfl rfl rfl Tryz.underlying85 (by kernel_rfl) rfl (by decide) (by decide) SpAt.mov HN.out (HA.out _ ((Frm.refl [] w).alloc _)) HL.out ?_;intro ao' cap' w' hr;have HR:=Lib.hid hr;clear hr))
   go_ret
   exact⟨_,rfl,HR.out.old ((Frm.refl [] w).alloc _)⟩
set_option maxHeartbeats 1000000 in
set_option maxRecDepth 100000 in
theorem clCnt_any (v:Value) (xs:List (CtrD × Int)) (w:World) (h:Arr 3 CnAt w v xs) (hl:xs.length≤100000):Calls Tryz.prog 135 #[v] w (RetV (Fr 3 246 CnAt w xs)):=by
 have HA:Hid (∀ W,Frm [] w W→Arr 3 CnAt W v xs):=Lib.hid fun W hf=>h.frm fun _ _ _ h=>h.frm hf
 obtain⟨ao,cq,rfl⟩:=h.shape
 obtain⟨n,hn⟩:∃ n,xs.length=n:=⟨_,rfl⟩
 rw[hn] at HA hl ⊢
 have HN:=Lib.hid hn
 have HL:=Lib.hid hl
 cases ao with
 | none =>
   have hx:xs=[]:=by
    obtain⟨ao',cap',e',hx⟩:=h
    cases e'
    cases xs with
    | nil=>rfl
    | cons x xs=>obtain⟨b,o,e,-⟩:=hx 0 x rfl;cases e
   have HX:=Lib.hid hx
   obtain rfl:n=0:=by rw[← hn,hx];rfl
   have hq:∀ W,(binOp .eql 241 (.slice none 0 cq) (.slice none 0 0)).run Tryz.prog W=.ok (.bool true) W:=fun W=>run_eql_nil_slice W _ _ _ _ _ _ _ Tryz.underlying241
   clear h hn hl hx
   go_enter Tryz.func135,Tryz.ntmps135
   go_wp2
   go_ret
   exact⟨_,rfl,by rw[HX.out];exact Arr.nil _ _ _,Frm.refl _ _,.inl HX.out⟩
 | some ad =>
   have hq:∀ W,(binOp .eql 241 (.slice (some ad) n cq) (.slice none 0 0)).run Tryz.prog W=.ok (.bool false) W:=fun W=>Lib.run_eql_slice_nil W _ _ _ _ _ _ _ Tryz.underlying241
   clear h hn hl
   go_enter Tryz.func135,Tryz.ntmps135
   go_wp2_with (first
    | (at_builtin;refine wpList_clone (k:=3) (At:=CnAt) (z:=.agg #[.string { data:=#[] },.int .i64 0,.int .i64 0]) (bytes:=32) rfl _ _ rfl rfl rfl Tryz.underlying241 (by kernel_rfl) rfl (by decide) (by decide) CnAt.mov HN.out (HA.out _ ((Frm.refl [] w).alloc _)) HL.out ?_;intro ao' cap' w' hr;have HR:=Lib.hid hr;clear hr))
   go_ret
   exact⟨_,rfl,HR.out.old ((Frm.refl [] w).alloc _)⟩
set_option maxHeartbeats 1000000 in
set_option maxRecDepth 100000 in
theorem clActorAt_any (w0:World) (v:Value) (xs:List (Int × List (CtrD × Int))) (w:World) (h:Arr 2 (AoAt w0) w v xs) (hl:xs.length≤100000):Calls Tryz.prog 124 #[v] w (RetV (Fr 2 143 (AoAt w0) w xs)):=by
 have HA:Hid (∀ W,Frm [] w W→Arr 2 (AoAt w0) W v xs):=Lib.hid fun W hf=>h.frm fun _ _ _ h=>h.frm hf
 obtain⟨ao,cq,rfl⟩:=h.shape
 obtain⟨n,hn⟩:∃ n,xs.length=n:=⟨_,rfl⟩
 rw[hn] at HA hl ⊢
 have HN:=Lib.hid hn
 have HL:=Lib.hid hl
 cases ao with
 | none =>
   have hx:xs=[]:=by
    obtain⟨ao',cap',e',hx⟩:=h
    cases e'
    cases xs with
    | nil=>rfl
    | cons x xs=>obtain⟨b,o,e,-⟩:=hx 0 x rfl;cases e
   have HX:=Lib.hid hx
   obtain rfl:n=0:=by rw[← hn,hx];rfl
   have hq:∀ W,(binOp .eql 144 (.slice none 0 cq) (.slice none 0 0)).run Tryz.prog W=.ok (.bool true) W:=fun W=>run_eql_nil_slice W _ _ _ _ _ _ _ Tryz.underlying144
   clear h hn hl hx
   go_enter Tryz.func124,Tryz.ntmps124
   go_wp2
   go_ret
   exact⟨_,rfl,by rw[HX.out];exact Arr.nil _ _ _,Frm.refl _ _,.inl HX.out⟩
 | some ad =>
   have hq:∀ W,(binOp .eql 144 (.slice (some ad) n cq) (.slice none 0 0)).run Tryz.prog W=.ok (.bool false) W:=fun W=>Lib.run_eql_slice_nil W _ _ _ _ _ _ _ Tryz.underlying144
   clear h hn hl
   go_enter Tryz.func124,Tryz.ntmps124
   go_wp2_with (first
    | (at_builtin;refine wpList_clone (k:=2) (At:=(AoAt w0)) (z:=.agg #[.int .i64 0,.pointer none]) (bytes:=16) rfl _ _ rfl rfl rfl Tryz.underlying144 (by kernel_rfl) rfl (by decide) (by decide) (AoAt.mov w0) HN.out (HA.out _ ((Frm.refl [] w).alloc _)) HL.out ?_;intro ao' cap' w' hr;have HR:=Lib.hid hr;clear hr))
   go_ret
   exact⟨_,rfl,HR.out.old ((Frm.refl [] w).alloc _)⟩
set_option maxHeartbeats 1000000 in
set_option maxRecDepth 100000 in
theorem clRowAt_any (cls cap:Int) (w0:World) (v:Value) (xs:List (List ByteArray)) (w:World) (h:Arr 1 (CoAt cls cap w0) w v xs) (hl:xs.length≤100000):Calls Tryz.prog 126 #[v] w (RetV (Fr 1 130 (CoAt cls cap w0) w xs)):=by
 have HA:Hid (∀ W,Frm [] w W→Arr 1 (CoAt cls cap w0) W v xs):=Lib.hid fun W hf=>h.frm fun _ _ _ h=>h.frm hf
 obtain⟨ao,cq,rfl⟩:=h.shape
 obtain⟨n,hn⟩:∃ n,xs.length=n:=⟨_,rfl⟩
 rw[hn] at HA hl ⊢
 have HN:=Lib.hid hn
 have HL:=Lib.hid hl
 cases ao with
 | none =>
   have hx:xs=[]:=by
    obtain⟨ao',cap',e',hx⟩:=h
    cases e'
    cases xs with
    | nil=>rfl
    | cons x xs=>obtain⟨b,o,e,-⟩:=hx 0 x rfl;cases e
   have HX:=Lib.hid hx
   obtain rfl:n=0:=by rw[← hn,hx];rfl
   have hq:∀ W,(binOp .eql 191 (.slice none 0 cq) (.slice none 0 0)).run Tryz.prog W=.ok (.bool true) W:=fun W=>run_eql_nil_slice W _ _ _ _ _ _ _ Tryz.underlying191
   clear h hn hl hx
   go_enter Tryz.func126,Tryz.ntmps126
   go_wp2
   go_ret
   exact⟨_,rfl,by rw[HX.out];exact Arr.nil _ _ _,Frm.refl _ _,.inl HX.out⟩
 | some ad =>
   have hq:∀ W,(binOp .eql 191 (.slice (some ad) n cq) (.slice none 0 0)).run Tryz.prog W=.ok (.bool false) W:=fun W=>Lib.run_eql_slice_nil W _ _ _ _ _ _ _ Tryz.underlying191
   clear h hn hl
   go_enter Tryz.func126,Tryz.ntmps126
   go_wp2_with (first
    | (at_builtin;refine wpList_clone (k:=1) (At:=(CoAt cls cap w0)) (z:=.pointer none) (bytes:=8) rfl _ _ rfl rfl rfl Tryz.underlying191 (by kernel_rfl) rfl (by decide) (by decide) (CoAt.mov cls cap w0) HN.out (HA.out _ ((Frm.refl [] w).alloc _)) HL.out ?_;intro ao' cap' w' hr;have HR:=Lib.hid hr;clear hr))
   go_ret
   exact⟨_,rfl,HR.out.old ((Frm.refl [] w).alloc _)⟩
set_option maxHeartbeats 1000000 in
set_option maxRecDepth 100000 in
theorem clWaysAt_any (cls cap:Int) (w0:World) (v:Value) (xs:List (List (List ByteArray))) (w:World) (h:Arr 1 (WoAt cls cap w0) w v xs) (hl:xs.length≤100000):Calls Tryz.prog 125 #[v] w (RetV (Fr 1 191 (WoAt cls cap w0) w xs)):=by
 have HA:Hid (∀ W,Frm [] w W→Arr 1 (WoAt cls cap w0) W v xs):=Lib.hid fun W hf=>h.frm fun _ _ _ h=>h.frm hf
 obtain⟨ao,cq,rfl⟩:=h.shape
 obtain⟨n,hn⟩:∃ n,xs.length=n:=⟨_,rfl⟩
 rw[hn] at HA hl ⊢
 have HN:=Lib.hid hn
 have HL:=Lib.hid hl
 cases ao with
 | none =>
   have hx:xs=[]:=by
    obtain⟨ao',cap',e',hx⟩:=h
    cases e'
    cases xs with
    | nil=>rfl
    | cons x xs=>obtain⟨b,o,e,-⟩:=hx 0 x rfl;cases e
   have HX:=Lib.hid hx
   obtain rfl:n=0:=by rw[← hn,hx];rfl
   have hq:∀ W,(binOp .eql 145 (.slice none 0 cq) (.slice none 0 0)).run Tryz.prog W=.ok (.bool true) W:=fun W=>run_eql_nil_slice W _ _ _ _ _ _ _ Tryz.underlying145
   clear h hn hl hx
   go_enter Tryz.func125,Tryz.ntmps125
   go_wp2
   go_ret
   exact⟨_,rfl,by rw[HX.out];exact Arr.nil _ _ _,Frm.refl _ _,.inl HX.out⟩
 | some ad =>
   have hq:∀ W,(binOp .eql 145 (.slice (some ad) n cq) (.slice none 0 0)).run Tryz.prog W=.ok (.bool false) W:=fun W=>Lib.run_eql_slice_nil W _ _ _ _ _ _ _ Tryz.underlying145
   clear h hn hl
   go_enter Tryz.func125,Tryz.ntmps125
   go_wp2_with (first
    | (at_builtin;refine wpList_clone (k:=1) (At:=(WoAt cls cap w0)) (z:=.slice none 0 0) (bytes:=24) rfl _ _ rfl rfl rfl Tryz.underlying145 (by kernel_rfl) rfl (by decide) (by decide) (WoAt.mov cls cap w0) HN.out (HA.out _ ((Frm.refl [] w).alloc _)) HL.out ?_;intro ao' cap' w' hr;have HR:=Lib.hid hr;clear hr))
   go_ret
   exact⟨_,rfl,HR.out.old ((Frm.refl [] w).alloc _)⟩
end Go.Proofs.YtohfkhjlnlahdaaGreat
