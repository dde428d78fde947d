/- Part of the proof. -/
import Derived.Test.YtkphhjekfimmlaaGreatG36
set_option linter.all false
namespace Go.Proofs.YtkphhjekfimmlaaGreat
open Go.RowKit Go.BigFrame
def RbAt (w0 w:World) (b o:Nat) (e:List CtrD × List Int):Prop:=∃ dv vv,w.cell? ⟨b,o,none⟩=some dv∧w.cell? ⟨b,o + 1,none⟩=some vv∧DfV w0 dv e.1∧IvR w0 vv e.2
def RcAt (cls cap:Int) (w0 w:World) (b o:Nat) (L:List ByteArray):Prop:=∃ lv,w.cell? ⟨b,o,none⟩=some (.int .i64 cls)∧w.cell? ⟨b,o + 1,none⟩=some (.int .i64 cap)∧w.cell? ⟨b,o + 2,none⟩=some lv∧Lf w0 lv L
theorem RbAt.mov (w0:World):Movable 2 (RbAt w0):=fun w b o x h=>by
 obtain⟨dv,vv,h0,h1,h2,h3⟩:=h
 refine⟨[dv,vv],rfl,?_,fun j u hu=>?_,fun w' b' o' hf hc=>⟨dv,vv,hc 0 _ rfl,hc 1 _ rfl,h2,h3⟩⟩
 ·obtain⟨a1,c1,rfl⟩:=own_shape h2
  obtain⟨a2,c2,rfl⟩:=own_shape h3
  simp[Value.oneCell']
 ·match j,hu with
  | 0,hu=>cases hu;exact h0
  | 1,hu=>cases hu;exact h1
  | j + 2,hu=>simp at hu
theorem RcAt.mov (cls cap:Int) (w0:World):Movable 3 (RcAt cls cap w0):=fun w b o x h=>by
 obtain⟨lv,h0,h1,h2,h3⟩:=h
 refine⟨[.int .i64 cls,.int .i64 cap,lv],rfl,?_,fun j u hu=>?_,fun w' b' o' hf hc=>⟨lv,hc 0 _ rfl,hc 1 _ rfl,hc 2 _ rfl,h3⟩⟩
 ·obtain⟨a1,c1,rfl,-⟩:=h3.shape
  simp[Value.oneCell']
 ·match j,hu with
  | 0,hu=>cases hu;exact h0
  | 1,hu=>cases hu;exact h1
  | 2,hu=>cases hu;exact h2
  | j + 3,hu=>simp at hu
theorem RbAt.frm {w0 w w':World} {b o:Nat} {e:List CtrD × List Int} (h:RbAt w0 w b o e) (hf:Frm [] w w'):RbAt w0 w' b o e:=by
 obtain⟨dv,vv,h0,h1,h2⟩:=h
 exact⟨dv,vv,hf.keep h0,hf.keep h1,h2⟩
theorem RcAt.frm {cls cap:Int} {w0 w w':World} {b o:Nat} {L:List ByteArray} (h:RcAt cls cap w0 w b o L) (hf:Frm [] w w'):RcAt cls cap w0 w' b o L:=by
 obtain⟨lv,h0,h1,h2,h3⟩:=h
 exact⟨lv,hf.keep h0,hf.keep h1,hf.keep h2,h3⟩
def posL (s:SesD) (x:PS):List Int:=(List.range s.roles.length).map fun i=>((x.at i:Nat):Int)
def bnkL (s:SesD) (x:PS):List (List CtrD × List Int):=(List.range s.roles.length).map fun i=>((s.rol i).ctrs,x.bank i)
def rowL (s:SesD) (x:PS) (i:Nat):List (List ByteArray):=(List.range s.roles.length).map fun k=>x.way i k
theorem posL_len (s:SesD) (x:PS):(posL s x).length=s.roles.length:=by simp[posL]
theorem bnkL_len (s:SesD) (x:PS):(bnkL s x).length=s.roles.length:=by simp[bnkL]
theorem rowL_len (s:SesD) (x:PS) (i:Nat):(rowL s x i).length=s.roles.length:=by simp[rowL]
theorem range_map_at {α:Type} {f:Nat→α} {n i:Nat} {y:α} (h:((List.range n).map f)[i]?=some y):i < n∧y=f i:=by
 have hi:=lt_of_some h
 rw[List.length_map,List.length_range] at hi
 rw[List.getElem?_map,List.getElem?_range hi] at h
 cases h
 exact⟨hi,rfl⟩
section
variable {W V:World} {s:SesD} {ba bb bw:Nat} {bi:Nat→Nat} {x:PS}
theorem RO.posA (h:RO W s ba bb bw bi x) (c:Nat):Arr 1 IAt W (.slice (some ⟨ba,0,none⟩) s.roles.length c) (posL s x):=
 ⟨_,c,by rw[posL_len],fun i y hy=>⟨ba,0,rfl,by
  obtain⟨hi,rfl⟩:=range_map_at hy
  unfold IAt
  rw[Nat.zero_add,Nat.mul_one]
  exact h.a i hi⟩⟩
theorem RO.bnkA (h:RO W s ba bb bw bi x) (c:Nat):Arr 2 (RbAt W) W (.slice (some ⟨bb,0,none⟩) s.roles.length c) (bnkL s x):=
 ⟨_,c,by rw[bnkL_len],fun i y hy=>⟨bb,0,rfl,by
  obtain⟨hi,rfl⟩:=range_map_at hy
  obtain⟨dv,vv,h1,h2,h3,h4⟩:=h.b i hi
  rw[Nat.zero_add]
  exact⟨dv,vv,h1,h2,h3,h4.1⟩⟩⟩
theorem RO.rowA (h:RO W s ba bb bw bi x) {i:Nat} (hi:i < s.roles.length) (c:Nat):Arr 3 (RcAt s.cls s.cap W) W (.slice (some ⟨bi i,0,none⟩) s.roles.length c) (rowL s x i):=
 ⟨_,c,by rw[rowL_len],fun k y hy=>⟨bi i,0,rfl,by
  obtain⟨hk,rfl⟩:=range_map_at hy
  rw[Nat.zero_add]
  exact h.r i k hi hk⟩⟩
end
structure RW (B:Nat) (s:SesD) (x:PS) (i:Nat) (bi:Nat→Nat) (W:World):Prop where
 ti:∀ j,j < i→Ty W (bi j) 168∧B≤bi j
 inj:∀ j k,j < i→k < i→bi j=bi k→j=k
 r:∀ j k,j < i→k < s.roles.length→∃ lv,W.cell? ⟨bi j,k * 3,none⟩=some (.int .i64 s.cls)∧W.cell? ⟨bi j,k * 3 + 1,none⟩=some (.int .i64 s.cap)∧W.cell? ⟨bi j,k * 3 + 2,none⟩=some lv∧Lf W lv (x.way j k)
theorem Kt.strs {T:List TypeId} {W V:World} (h:Kt T W V) {lv:Value} {L:List ByteArray} (hl:Lf W lv L) (h9:9∉T):Lf V lv L:=by
 rcases hl with hl | ⟨g,cur,rfl,hb,ht⟩
 ·exact .inl (h.row hl h9)
 ·exact .inr ⟨g,cur,rfl,h.cells hb h9,ht⟩
theorem Kt.cell {T:List TypeId} {W V:World} (h:Kt T W V) {g o:Nat} {e:TypeId} {v:Value} (ht:Ty W g e) (he:e∉T) (hc:W.cell? ⟨g,o,none⟩=some v):V.cell? ⟨g,o,none⟩=some v:=by
 obtain⟨c,hb⟩:=ht
 rw[cell_of hb] at hc
 rw[cell_of (h.cells hb he)]
 exact hc
theorem Kt.ty {T:List TypeId} {W V:World} (h:Kt T W V) {g:Nat} {e:TypeId} (ht:Ty W g e) (he:e∉T):Ty V g e:=by
 obtain⟨c,hb⟩:=ht
 exact⟨c,h.cells hb he⟩
theorem RW.kt {T:List TypeId} {B:Nat} {s:SesD} {x:PS} {i:Nat} {bi:Nat→Nat} {W V:World} (h:RW B s x i bi W) (hk:Kt T W V) (h1:168∉T) (h2:9∉T):RW B s x i bi V:=by
 refine⟨fun j hj=>⟨hk.ty (h.ti j hj).1 h1,(h.ti j hj).2⟩,h.inj,fun j k hj hkk=>?_⟩
 obtain⟨lv,r1,r2,r3,r4⟩:=h.r j k hj hkk
 have ht:=(h.ti j hj).1
 exact⟨lv,hk.cell ht h1 r1,hk.cell ht h1 r2,hk.cell ht h1 r3,hk.strs r4 h2⟩
theorem RW.zero (B:Nat) (s:SesD) (x:PS) (bi:Nat→Nat) (W:World):RW B s x 0 bi W:=⟨fun j hj=>by omega,fun j k hj=>by omega,fun j k hj=>by omega⟩
theorem RW.add {B:Nat} {s:SesD} {x:PS} {i g n c:Nat} {bi:Nat→Nat} {W:World} (h:RW B s x i bi W) (hg:Ty W g 168) (hB:B≤g) (hne:∀ j,j < i→bi j≠g) (ha:Arr 3 (RcAt s.cls s.cap W) W (.slice (some ⟨g,0,none⟩) n c) (rowL s x i)) :
  RW B s x (i + 1) (fun j=>if j=i then g else bi j) W:=by
 have e:∀ j,j < i + 1→(j=i∧(if j=i then g else bi j)=g)∨(j < i∧(if j=i then g else bi j)=bi j):=fun j hj=>by
  by_cases e:j=i
  ·exact .inl ⟨e,if_pos e⟩
  ·exact .inr ⟨by omega,if_neg e⟩
 refine⟨fun j hj=>?_,fun j k hj hk he=>?_,fun j k hj hk=>?_⟩
 ·show Ty W (if j=i then g else bi j) _∧_
  rcases e j hj with ⟨-,e1⟩ | ⟨h1,e1⟩
  ·rw[e1];exact⟨hg,hB⟩
  ·rw[e1];exact h.ti j h1
 ·have he:(if j=i then g else bi j)=(if k=i then g else bi k):=he
  rcases e j hj with ⟨h1,e1⟩ | ⟨h1,e1⟩ <;> rcases e k hk with ⟨h2,e2⟩ | ⟨h2,e2⟩ <;> rw[e1,e2] at he
  ·omega
  ·exact absurd he.symm (hne k h2)
  ·exact absurd he (hne j h1)
  ·exact h.inj j k h1 h2 he
 ·show ∃ lv,W.cell? ⟨if j=i then g else bi j,_,none⟩=_∧W.cell? ⟨if j=i then g else bi j,_,none⟩=_∧W.cell? ⟨if j=i then g else bi j,_,none⟩=_∧_
  rcases e j hj with ⟨h1,e1⟩ | ⟨h1,e1⟩
  ·rw[e1,h1]
   have hy:(rowL s x i)[k]?=some (x.way i k):=by
    unfold rowL
    rw[List.getElem?_map,List.getElem?_range hk]
    rfl
   obtain⟨b,o,e2,r0⟩:=ha.get hy
   cases e2
   rw[Nat.zero_add] at r0
   exact r0
  ·rw[e1];exact h.r j k h1 hk
def WyR (B:Nat) (i n:Nat) (bi:Nat→Nat) (v:Value) (W:World):Prop:=∃ ws:List Value,W.ownsRow B 171 1 v i ws∧∀ j,j < i→∃ c,ws[j]?=some (.slice (some ⟨bi j,0,none⟩) n c)
theorem WyR.kt {T:List TypeId} {B i n:Nat} {bi:Nat→Nat} {v:Value} {W V:World} (h:WyR B i n bi v W) (hk:Kt T W V) (h1:171∉T):WyR B i n bi v V:=by
 obtain⟨ws,h2,h3⟩:=h
 exact⟨ws,hk.row h2 h1,h3⟩
theorem WyR.add {B i n g c:Nat} {bi:Nat→Nat} {v v':Value} {W V:World} {ws:List Value} (h2:W.ownsRow B 171 1 v i ws) (h3:∀ j,j < i→∃ c,ws[j]?=some (.slice (some ⟨bi j,0,none⟩) n c)) (ho:V.ownsRow B 171 1 v' (i + 1) (ws ++ [.slice (some ⟨g,0,none⟩) n c])) :
  WyR B (i + 1) n (fun j=>if j=i then g else bi j) v' V:=by
 have hl:ws.length=i:=by have:=h2.1;omega
 refine⟨_,ho,fun j hj=>?_⟩
 show ∃ c',_=some (Value.slice (some ⟨if j=i then g else bi j,0,none⟩) n c')
 by_cases e:j=i
 ·rw[if_pos e,List.getElem?_append_right (by omega),hl,e,Nat.sub_self]
  exact⟨c,rfl⟩
 ·rw[if_neg e,List.getElem?_append_left (by omega)]
  exact h3 j (by omega)
theorem own_at {W:World} {base e size n g c:Nat} {xs:List Value} (h:W.ownsRow base e size (.slice (some ⟨g,0,none⟩) n c) n xs) {j:Nat} {u:Value} (hu:xs[j]?=some u):W.cell? ⟨g,j,none⟩=some u:=by
 obtain⟨h1,h2⟩:=h
 rcases h2 with ⟨h2,-⟩ | ⟨g',c',cur,e',hb,hg,hn,hm,hs,ht⟩
 ·cases h2
 ·cases e'
  have hj:=lt_of_some hu
  rw[← ht,List.getElem?_take_of_lt (by omega)] at hu
  rw[cell_of hg,← Array.getElem?_toList]
  exact hu
theorem RSt.mk' {B:Nat} {W:World} {s:SesD} {x:PS} {av bv wv:Value} {bi:Nat→Nat} (hn:0 < s.roles.length) (hok:PSok s x) (ha:Arr 1 IAt W av (posL s x)) (hao:∀ k,av.ownBlock=some k→B≤k∧Ty W k 3) (ha0:∃ g c,av=.slice (some ⟨g,0,none⟩) s.roles.length c)
  (hb:Arr 2 (RbAt W) W bv (bnkL s x)) (hbo:∀ k,bv.ownBlock=some k→B≤k∧Ty W k 173) (hb0:∃ g c,bv=.slice (some ⟨g,0,none⟩) s.roles.length c) (hw:WyR B s.roles.length s.roles.length bi wv W) (hr:RW B s x s.roles.length bi W)
  (hv:∀ i b o vv,i < s.roles.length→bv.ownBlock=some b→o=i * 2 + 1→W.cell? ⟨b,o,none⟩=some vv→∀ k,vv.ownBlock=some k→av.ownBlock≠some k):RSt B W s (.agg #[av,bv,wv]) x:=by
 obtain⟨ga,ca,rfl⟩:=ha0
 obtain⟨gb,cb,rfl⟩:=hb0
 obtain⟨ws,w1,w2⟩:=hw
 obtain⟨gw,cw,cur,rfl,hgw,hcw⟩:=own_block w1 (by omega)
 obtain⟨a1,a2⟩:=hao ga rfl
 obtain⟨b1,b2⟩:=hbo gb rfl
 refine⟨⟨ga,gb,gw,bi,ca,cb,cw,rfl,⟨a2,b2,⟨_,hcw⟩,fun i hi=>(hr.ti i hi).1,fun i j hi hj=>hr.inj i j hi hj,fun i hi=>?_,fun i hi=>?_,fun i hi=>?_,fun i k hi hk=>hr.r i k hi hk⟩,a1,b1,hgw,fun i hi=>(hr.ti i hi).2⟩,hok⟩
 ·have hy:(posL s x)[i]?=some ((x.at i:Nat):Int):=by unfold posL;rw[List.getElem?_map,List.getElem?_range hi];rfl
  obtain⟨b,o,e,h⟩:=ha.get hy
  cases e
  unfold IAt at h
  rwa [Nat.zero_add,Nat.mul_one] at h
 ·have hy:(bnkL s x)[i]?=some ((s.rol i).ctrs,x.bank i):=by unfold bnkL;rw[List.getElem?_map,List.getElem?_range hi];rfl
  obtain⟨b,o,e,dv,vv,q0,q1,q2,q3⟩:=hb.get hy
  cases e
  rw[Nat.zero_add] at q0 q1
  exact⟨dv,vv,q0,q1,q2,q3,fun e=>hv i gb _ vv hi rfl rfl q1 ga e rfl⟩
 ·obtain⟨c,hc⟩:=w2 i hi
  exact⟨c,own_at w1 hc⟩
end Go.Proofs.YtkphhjekfimmlaaGreat
namespace Go.Proofs.YtkphhjekfimmlaaGreat
open Go.RowKit Go.BigFrame
theorem clone_own {α:Type} {k:Nat} {At:World→Nat→Nat→α→Prop} {t e ty:TypeId} {z:Value} {bytes:Nat} (ht:Tryz.prog.underlying t=some (.slice e)) (hi:(Tryz.prog.info? e).map (fun i=>(i.zero,i.size,i.bytes))=some (some z,k,bytes))
  (hzs:z.cells.size=k) (hk:0 < k) (hb:bytes≤1000) (hM:Movable k At) {ao:Option Addr} {cap d:Nat} {xs:List α} {w:World} (h:Arr k At w (.slice ao xs.length cap) xs) (hl:xs.length≤100000) (hd:w.heap[d]?=some (.cells #[] e (0,0))) :
  ∃ ao' cap' w',(Builtin.append_ #[t,t] ty #[.slice (some ⟨d,0,none⟩) 0 0,.slice ao xs.length cap]).run Tryz.prog w=.ok (.slice ao' xs.length cap') w'∧Arr k At w' (.slice ao' xs.length cap') xs∧Frm [] w w'∧∃ news,w'.ownsRow d e k (.slice ao' xs.length cap') xs.length news:=by
 cases hx:xs with
 | nil =>
   subst hx
   obtain⟨i0,hi0,hz0,hz1,hz2⟩:=info_parts hi
   refine⟨some ⟨d,0,none⟩,0,w,?_,Arr.nil _ _ _,Frm.refl _ _,[],by simp,.inr ⟨d,0,#[],rfl,Nat.le_refl _,hd,Nat.le_refl _,Nat.zero_le _,by simp,by simp⟩⟩
   cases ao with
   | none=>exact run_append_nothing w t t ty e i0 ht hi0 (some ⟨d,0,none⟩) 0 0 (Nat.le_refl _) _ (Src.ofNil w ht cap)
   | some ad=>exact run_append_nothing w t t ty e i0 ht hi0 (some ⟨d,0,none⟩) 0 0 (Nat.le_refl _) _ (Src.ofSlice w ht ad 0 cap [] (by simp) (fun j u hu=>by simp at hu) (by simp))
 | cons x l =>
   rw[← hx]
   obtain⟨ao',cap',w',hrun,hr⟩:=clone_run (ty:=ty) (d:=d) ht hi hzs hk hb hM h hl
   rcases hr.own with e0 | ⟨news,ho⟩
   ·rw[hx] at e0;cases e0
   ·exact⟨ao',cap',w',hrun,hr.arr,hr.frm,news,own_low ho (Nat.le_of_lt (lt_of_block hd))⟩
theorem wpList_cloneO {α:Type} {k:Nat} {At:World→Nat→Nat→α→Prop} {t e:TypeId} {z:Value} {bytes:Nat} {ops:Array Oper} {rest:List Oper} {o:Oper} {a:Act} {Q:Exit→Act→World→Prop} {w:World} (hgd:o.guard=none) (s x:Operand)
  (ho:o.op=.call { callee:=.builtin .append,args:=#[s,x],argTypes:=#[t,t] }) {d:Nat} (hs:a.eval s=.slice (some ⟨d,0,none⟩) 0 0) {ao:Option Addr} {n cap:Nat} (hx:a.eval x=.slice ao n cap)
  (ht:Tryz.prog.underlying t=some (.slice e)) (hi:(Tryz.prog.info? e).map (fun i=>(i.zero,i.size,i.bytes))=some (some z,k,bytes)) (hzs:z.cells.size=k) (hk:0 < k) (hb:bytes≤1000) (hM:Movable k At) {xs:List α} (hn:xs.length=n)
  (h:Arr k At w (.slice ao n cap) xs) (hl:n≤100000) (hd:w.heap[d]?=some (.cells #[] e (0,0)))
  (hK:∀ ao' cap' w',Arr k At w' (.slice ao' n cap') xs→Frm [] w w'→(∃ news,w'.ownsRow d e k (.slice ao' n cap') n news)→wpList Tryz.prog ops Q rest (a.put o.dst (.slice ao' n cap')) w'):wpList Tryz.prog ops Q (o :: rest) a w:=by
 subst hn
 refine wpList_plain hgd fun K hKK=>?_
 obtain⟨ao',cap',w',hrun,r1,r2,r3⟩:=clone_own (ty:=o.type) (d:=d) ht hi hzs hk hb hM h hl hd
 unfold Oper.wp
 simp[execOp,ho,resolve,invoke,builtin,hs,hx,hrun,Result.andThen]
 exact hKK _ _ (hK ao' cap' w' r1 r2 r3)
def PtTo (w:World) (dv:Value) (l:List Int) (b:Bool) (u:Value) (w':World):Prop:=
 Frm [] w w'∧((b=true∧∃ vv',u=.tuple #[.agg #[dv,vv'],.int .i64 0]∧IvR w' vv' l∧∀ k,vv'.ownBlock=some k→w.heap.size≤k)∨(b=false∧∃ x1 x2:Value,u=.tuple #[.agg #[x1,x2],.int .i64 3]∧(#[x1,x2]:Array Value).all (·.oneCell')=true))
set_option maxHeartbeats 4000000 in
set_option maxRecDepth 100000 in
theorem jPut_any (dv vv lv:Value) (cs:List CtrD) (vs l:List Int) (w:World) (hd:Arr 2 CtAt w dv cs) (hv:Arr 1 IAt w vv vs) (hvl:vs.length=cs.length) (hl:Arr 1 IAt w lv l) (hn:l.length=cs.length) (hp:∀ x∈l,0≤x) (hc:cs.length≤1000) :
  Calls Tryz.prog 90 #[.agg #[dv,vv],lv] w (RetV (PtTo w dv l (fitsV cs l))):=by
 obtain⟨da,dc,rfl⟩:=hd.shape
 obtain⟨va,vc,rfl⟩:=hv.shape
 obtain⟨la,lc,rfl⟩:=hl.shape
 obtain⟨n,hcn⟩:∃ n,cs.length=n:=⟨_,rfl⟩
 rw[hcn] at hvl hn hc
 rw[hn] at hl
 rw[hcn] at hd
 rw[hcn,hvl,hn]
 obtain⟨W0,hW0⟩:∃ W0,(w.alloc (.cells #[.slice da n dc,.slice va n vc] 173)).alloc (.cells #[.slice none 0 0,.slice none 0 0] 173)=W0:=⟨_,rfl⟩
 have HF:Hid (Frm [] w W0):=Lib.hid (by rw[← hW0];exact((Frm.refl _ _).alloc _).alloc _)
 have HB:Hid (W0.heap[w.heap.size]?=some (.cells #[.slice da n dc,.slice va n vc] 173 (0,0))):=Lib.hid (by rw[← hW0];exact alloc_at (heap_alloc_new _ _))
 have HR:Hid (W0.heap[w.heap.size + 1]?=some (.cells #[.slice none 0 0,.slice none 0 0] 173 (0,0))):=Lib.hid (by rw[← hW0];exact alloc_top (by simp))
 have z1:=cell_of HB.out 1
 have HD:=Lib.hid hd;have HLA:=Lib.hid hl;have HLN:=Lib.hid hn;have HCN:=Lib.hid hcn;have HP:=Lib.hid hp
 have HC:Hid (n≤100000):=Lib.hid (by omega)
 have hnb:n≤1000:=by omega
 have HE:=Lib.hid hW0
 obtain⟨b,hb⟩:∃ b,fitsV cs l=b:=⟨_,rfl⟩
 have HBB:=Lib.hid hb
 rw[hb]
 clear hd hv hvl hl hn hp hc hcn hW0 hb
 go_enter Tryz.func90,Tryz.ntmps90
 go_upto_region 1 with fail
 rw[HE.out]
 clear HE
 go_upto_region 4 with fail
 clear z1
 go_loopw [6] (fun s6 wr=>∃ i:Nat,s6=.int .i64 i∧i≤n∧Frm [] W0 wr∧∀ (j:Nat) c x,j < i→cs[j]?=some c→l[j]?=some x→x≤c.lim) (fun s6 _=>n - (intOf s6).toNat)
 case atStart=>exact⟨0,rfl,Nat.zero_le _,Frm.refl _ _,fun j _ _ hj=>by omega⟩
 case round =>
  obtain⟨i,rfl,hi,hf,hall⟩:=hrel
  have HFR:=Lib.hid hf;have HALL:=Lib.hid hall
  clear hf hall
  obtain⟨wq,hwq⟩:∃ wq,wq=wr:=⟨_,rfl⟩
  subst hwq
  by_cases hlt:i < n
  ·have hlt':(i:Int) < (n:Int):=by omega
   obtain⟨c,hc⟩:∃ c,cs[i]?=some c:=⟨_,List.getElem?_eq_getElem (by rw[HCN.out];exact hlt)⟩
   obtain⟨x,hx⟩:∃ x,l[i]?=some x:=⟨_,List.getElem?_eq_getElem (by rw[HLN.out];exact hlt)⟩
   obtain⟨db,do',e1,q1⟩:=HD.out.get hc
   obtain⟨lb,lo,e2,q2⟩:=HLA.out.get hx
   subst e1 e2
   have hx0:decide (x < 0)=false:=decide_eq_false (by have:=HP.out x (List.mem_of_getElem? hx);omega)
   have HQ1:Hid (∀ V,Frm [] w V→V.cell? ⟨db,do' + i * 2 + 1,none⟩=some (.int .i64 c.lim)):=Lib.hid fun V hV=>(q1.frm hV).2
   have HQ2:Hid (∀ V,Frm [] w V→V.cell? ⟨lb,lo + i,none⟩=some (.int .i64 x)):=Lib.hid fun V hV=>by have:=hV.keep q2;rwa [Nat.mul_one] at this
   have HX:=Lib.hid hx;have HCC:=Lib.hid hc
   clear q1 q2 hx hc
   go_upto_region 6 with fail
   by_cases hbig:c.lim < x
   ·have hbig':decide (c.lim < x)=true:=decide_eq_true hbig
    have HBIG:=Lib.hid hbig
    clear hbig
    refine wp_region_cq (by kernel_rfl) (by kernel_rfl) ?_
    repeat (first
     | go_big_quiet_skip
     | (refine wpQuiet_want (by rfl) (fun K hK=>?_)
        first
         | (refine quiet_move _ (by rfl) (hK _ ?_))
         | (refine quiet_assign _ (by rfl) (hK _ ?_))
         | (apply Exists.intro
            refine⟨fun w' hC=>?_,hK _ ?_⟩
            ·(unfold Oper.quietAt
              obtain hz:=(HFR.out.trans hC).at HB.out (by simp);have z0:=cell_of hz 0;have y0:=HQ1.out w' (HF.out.trans (HFR.out.trans hC));have y1:=HQ2.out w' (HF.out.trans (HFR.out.trans hC));clear hz
              clear hC
              go_simp
              try exact⟨rfl,rfl⟩
              try rfl))
        clear hK K
        try simp only[nrm,Act.eval,nrq]))
    refine wpQuiet_nil ?_
    intro w2 hf2
    have HF2:=Lib.hid (HFR.out.trans hf2)
    clear hf2
    go_wp2_with (first
     | (refine wpList_load_whole rfl 173 _ rfl _ rfl _ 173 (HF2.out.at HB.out (by simp)) _ Tryz.underlying173 rfl (by kernel_rfl) ?_)
     | (refine wpList_store_row rfl 173 _ _ rfl _ _ _ _ rfl rfl (HF2.out.at HR.out (by simp)) rfl (by kernel_rfl) (one2 ..) ?_;intro w3 hb3 hf3;have HB3:=Lib.hid hb3;have HF3:=Lib.hid hf3;clear hb3 hf3))
    have hfe:Frm [] w w3:=(HF.out.trans HF2.out).then HF3.out (by intro x hx;simp at hx;omega)
    refine bodyPost_ret (results_b2 rfl rfl rfl HB3.out rfl) rfl ⟨_,rfl,hfe,.inr ⟨?_,_,_,rfl,one2 ..⟩⟩
    rw[← HBB.out]
    unfold fitsV
    rw[Bool.eq_false_iff]
    intro hall
    have:=List.all_eq_true.1 hall (c,x) (List.mem_of_getElem? (i:=i) (by rw[List.getElem?_zip_eq_some];exact⟨HCC.out,HX.out⟩))
    simp at this
    have:=HBIG.out
    omega
   ·have hbig':decide (c.lim < x)=false:=decide_eq_false hbig
    have HBIG:=Lib.hid hbig
    clear hbig
    refine wp_region_cq (by kernel_rfl) (by kernel_rfl) ?_
    repeat (first
     | go_big_quiet_skip
     | (refine wpQuiet_want (by rfl) (fun K hK=>?_)
        first
         | (refine quiet_move _ (by rfl) (hK _ ?_))
         | (refine quiet_assign _ (by rfl) (hK _ ?_))
         | (apply Exists.intro
            refine⟨fun w' hC=>?_,hK _ ?_⟩
            ·(unfold Oper.quietAt
              obtain hz:=(HFR.out.trans hC).at HB.out (by simp);have z0:=cell_of hz 0;have y0:=HQ1.out w' (HF.out.trans (HFR.out.trans hC));have y1:=HQ2.out w' (HF.out.trans (HFR.out.trans hC));clear hz
              clear hC
              go_simp
              try exact⟨rfl,rfl⟩
              try rfl))
        clear hK K
        try simp only[nrm,Act.eval,nrq]))
    refine wpQuiet_nil ?_
    intro w2 hf2
    have HF2:=Lib.hid (HFR.out.trans hf2)
    clear hf2
    go_wp2
    refine⟨⟨i + 1,congrArg (Value.int .i64) (by omega),hlt,HF2.out,fun j a y hj ha hy=>?_⟩,by simp[intOf];omega⟩
    by_cases e:j=i
    ·subst e
     rw[HCC.out] at ha;rw[HX.out] at hy
     cases ha;cases hy
     have:=HBIG.out
     omega
    ·exact HALL.out j a y (by omega) ha hy
  ·obtain rfl:n=i:=by omega
   have hge:¬ (n:Int) < (n:Int):=by omega
   have B4:=Lib.hid (HFR.out.at HB.out (by simp))
   have R4:=Lib.hid (HFR.out.at HR.out (by simp))
   have z1:wq.cell? ⟨w.heap.size,1,none⟩=some (.slice va n vc):=cell_of B4.out 1
   have hlz:=cell_lt z1
   have hLA:Arr 1 IAt (wq.alloc (.cells #[] 3)) (.slice la n lc) l:=HLA.out.frm fun _ _ _ h=>(HF.out.trans (HFR.out.alloc _)).keep h
   have HLW:=Lib.hid hLA
   clear hLA hlt hi
   go_upto_region 9 with (first
    | (at_builtin;refine wpList_cloneO (k:=1) (At:=IAt) (z:=.int .i64 0) (bytes:=8) rfl _ _ rfl rfl rfl Tryz.underlying31 (by kernel_rfl) rfl (by decide) (by decide) IAt.mov HLN.out HLW.out HC.out (heap_alloc_new _ _) ?_;intro ao' cap' w3 hr hfr how;have HAR:=Lib.hid hr;have HFW:=Lib.hid hfr;have HOW:=Lib.hid how;have b3:=hfr.at (alloc_at B4.out) (by simp);have d1:=cell_of b3 1;have f1:=free_of b3 1;have B3:=Lib.hid b3;clear hr hfr how b3 z1))
   obtain⟨news,ho⟩:=HOW.out
   have ho2:=own_iv (by rw[HLN.out];exact ho) HAR.out
   rw[HLN.out] at ho2
   have hge2:∀ k,(Value.slice ao' n cap').ownBlock=some k→wq.heap.size≤k:=fun k hk=>ownBlock_ge ho2 hk
   obtain⟨w4,hw4⟩:∃ w4,w3.setCell ⟨w.heap.size,1,none⟩ (.slice ao' n cap')=w4:=⟨_,rfl⟩
   have hs4:Frm [w.heap.size] w3 w4:=by rw[← hw4];exact(Frm.refl _ _).setCell _ (.inl (by simp)) _
   have HB5:Hid (w4.heap[w.heap.size]?=some (.cells #[.slice da n dc,.slice ao' n cap'] 173 (0,0))):=Lib.hid (by rw[← hw4];exact(block_setCell B3.out 1 _).trans rfl)
   have HR5:=Lib.hid (hs4.at (HFW.out.at (alloc_at R4.out) (by simp)) (by simp))
   have HO5:=Lib.hid (hs4.owns ho2 (fun k hk hm=>by have:=hge2 k hk;simp at hm;omega))
   have HF5:Hid (Frm [] w w4):=Lib.hid ((((HF.out.trans HFR.out).alloc _).trans HFW.out).then hs4 (by intro y hy;simp at hy;subst hy;exact .inr (Nat.le_refl _)))
   have HG5:=Lib.hid hge2
   clear ho ho2 hge2 hs4
   rw[hw4]
   clear hw4
   go_wp2_with (first
    | (refine wpList_load_whole rfl 173 _ rfl _ rfl _ 173 HB5.out _ Tryz.underlying173 rfl (by kernel_rfl) ?_)
    | (refine wpList_store_row rfl 173 _ _ rfl _ _ _ _ rfl rfl HR5.out rfl (by kernel_rfl) (one2 ..) ?_;intro w7 hb7 hf7;have HB7:=Lib.hid hb7;have HF7:=Lib.hid hf7;clear hb7 hf7))
   have hfe:Frm [] w w7:=HF5.out.then HF7.out (by intro x hx;simp at hx;omega)
   refine bodyPost_ret (results_b2 rfl rfl rfl HB7.out rfl) rfl ⟨_,rfl,hfe,.inl ⟨?_,_,rfl,?_,fun k hk=>?_⟩⟩
   ·rw[← HBB.out]
    unfold fitsV
    rw[List.all_eq_true]
    rintro⟨c,x⟩ hm
    obtain⟨j,hj⟩:=List.getElem?_of_mem hm
    rw[List.getElem?_zip_eq_some] at hj
    exact decide_eq_true (HALL.out j c x (by have:=lt_of_some hj.1;rw[HCN.out] at this;exact this) hj.1 hj.2)
   ·unfold IvR
    rw[HLN.out]
    refine own_low (HF7.out.owns HO5.out (fun k hk hm=>?_)) (Nat.zero_le _)
    have:=HG5.out k hk
    have:=(HF.out.trans HFR.out).size
    have:=lt_of_block R4.out
    simp at hm
    omega
   ·have:=HG5.out k hk
    have:=(HF.out.trans HFR.out).size
    omega
end Go.Proofs.YtkphhjekfimmlaaGreat
namespace Go.Proofs.YtkphhjekfimmlaaGreat
open Go.RowKit Go.BigFrame
def wrSet (l:List Nat) (j:Nat):Bool:=l.contains j
theorem RO.kt {T:List TypeId} {W V:World} {s:SesD} {ba bb bw:Nat} {bi:Nat→Nat} {x:PS} (h:RO W s ba bb bw bi x) (hk:Kt T W V) (h1:3∉T) (h2:173∉T) (h3:171∉T) (h4:168∉T) (h5:182∉T) (h6:9∉T):RO V s ba bb bw bi x:=by
 refine⟨hk.ty h.ta h1,hk.ty h.tb h2,hk.ty h.tw h3,fun i hi=>hk.ty (h.ti i hi) h4,h.inj,fun i hi=>hk.cell h.ta h1 (h.a i hi),fun i hi=>?_,fun i hi=>?_,fun i k hi hkk=>?_⟩
 ·obtain⟨dv,vv,b1,b2,b3,b4⟩:=h.b i hi
  exact⟨dv,vv,hk.cell h.tb h2 b1,hk.cell h.tb h2 b2,hk.row b3 h5,hk.row b4.1 h1,b4.2⟩
 ·obtain⟨c,h7⟩:=h.w i hi
  exact⟨c,hk.cell h.tw h3 h7⟩
 ·obtain⟨lv,r1,r2,r3,r4⟩:=h.r i k hi hkk
  exact⟨lv,hk.cell (h.ti i hi) h4 r1,hk.cell (h.ti i hi) h4 r2,hk.cell (h.ti i hi) h4 r3,hk.strs r4 h6⟩
def DoTo (w:World) (s:SesD) (x:PS) (m:Mv) (u:Value) (w':World):Prop:=
 Frm [] w w'∧((doB s x m=true∧∃ yv,u=.tuple #[yv,.bool true]∧RSt w.heap.size w' s yv (nextP s x m))∨(doB s x m=false∧∃ A:Array Value,u=.tuple #[.agg A,.bool false]∧A.size=3∧A.all (·.oneCell')=true))
theorem Tryz.info35s:(Tryz.prog.info? 35).map (·.size)=some 3:=by kernel_rfl
theorem results_s2 {fn:Func} {p q:Tmp} (h:fn.results=#[.cell p 35,.tmp q]) {tmps:Array Value} {w:World} {g:Nat} {A:Array Value} {t:TypeId} {v:Value} (hp:tmps.getD p undef=.pointer (some ⟨g,0,none⟩)) (hq:tmps.getD q undef=v) (hg:w.heap[g]?=some (.cells A t (0,0))) (hs:A.size=3) :
  (results fn tmps).run Tryz.prog w=.ok (.tuple #[.agg A,v]) w:=by
 have hp':tmps[p]?.getD undef=.pointer (some ⟨g,0,none⟩):=by simpa using hp
 have hq':tmps[q]?.getD undef=v:=by simpa using hq
 simp[results,h,hp',hq',asAddr,run_loadVar_row w g t 35 A (0,0) _ hg Tryz.underlying35 rfl (by rw[Tryz.info35s,hs])]
structure DoX (w:World) (s:SesD) (ao:Option Addr) (n cap ba bb bw ca cb cw:Nat) (m:Mv) (W:World):Prop where
 b0:W.heap[w.heap.size]?=some (.cells #[.string s.name,.slice ao n cap,.int .i64 s.cls,.int .i64 s.cap] 25 (0,0))
 b1:W.heap[w.heap.size + 1]?=some (.cells #[.slice (some ⟨ba,0,none⟩) n ca,.slice (some ⟨bb,0,none⟩) n cb,.slice (some ⟨bw,0,none⟩) n cw] 35 (0,0))
 b2:W.heap[w.heap.size + 2]?=some (.cells #[.int .i64 m.kind,.int .i64 m.role,.int .i64 m.step,.int .i64 m.place] 47 (0,0))
 b3:W.heap[w.heap.size + 3]?=some (.cells #[.slice none 0 0,.slice none 0 0,.slice none 0 0] 35 (0,0))
theorem DoX.frm {w W V:World} {s:SesD} {ao:Option Addr} {n cap ba bb bw ca cb cw:Nat} {m:Mv} {F:List Nat} (h:DoX w s ao n cap ba bb bw ca cb cw m W) (hf:Frm F W V) (hF:∀ k∈F,w.heap.size + 3 < k):DoX w s ao n cap ba bb bw ca cb cw m V:=
 ⟨hf.at h.b0 (fun hm=>by have:=hF _ hm;omega),hf.at h.b1 (fun hm=>by have:=hF _ hm;omega),hf.at h.b2 (fun hm=>by have:=hF _ hm;omega),hf.at h.b3 (fun hm=>by have:=hF _ hm;omega)⟩
structure YSt (w:World) (s:SesD) (b8:Nat) (y:PS) (W:World):Prop where
 lo:w.heap.size + 3 < b8
 out:∃ ba bb bw bi ca cb cw,W.heap[b8]?=some (.cells #[.slice (some ⟨ba,0,none⟩) s.roles.length ca,.slice (some ⟨bb,0,none⟩) s.roles.length cb,.slice (some ⟨bw,0,none⟩) s.roles.length cw] 35 (0,0))∧RO W s ba bb bw bi y ∧
  w.heap.size + 3 < ba∧w.heap.size + 3 < bb∧w.heap.size + 3 < bw∧∀ i,i < s.roles.length→w.heap.size + 3 < bi i
theorem YSt.frm {w W V:World} {s:SesD} {b8:Nat} {y:PS} (h:YSt w s b8 y W) (hf:Frm [] W V):YSt w s b8 y V:=by
 obtain⟨ba,bb,bw,bi,ca,cb,cw,h1,h2,h3⟩:=h.out
 exact⟨h.lo,ba,bb,bw,bi,ca,cb,cw,hf.at h1 (by simp),h2.frm hf,h3⟩
theorem YSt.end {w W Z:World} {s:SesD} {b8 ba bb bw ca cb cw:Nat} {y:PS} (h:YSt w s b8 y W) (hok:PSok s y) (hb:W.heap[b8]?=some (.cells #[.slice (some ⟨ba,0,none⟩) s.roles.length ca,.slice (some ⟨bb,0,none⟩) s.roles.length cb,.slice (some ⟨bw,0,none⟩) s.roles.length cw] 35 (0,0))) (hk:Kt [35] W Z) :
  RSt w.heap.size Z s (.agg #[.slice (some ⟨ba,0,none⟩) s.roles.length ca,.slice (some ⟨bb,0,none⟩) s.roles.length cb,.slice (some ⟨bw,0,none⟩) s.roles.length cw]) y:=by
 obtain⟨ba',bb',bw',bi',ca',cb',cw',h1,h2,h3,h4,h5,h6⟩:=h.out
 rw[hb] at h1
 injection h1 with h1
 injection h1 with h1
 have e:=congrArg Array.toList h1
 injection e with e1 e
 injection e with e2 e
 injection e with e3 e
 cases e1
 cases e2
 cases e3
 exact⟨⟨ba,bb,bw,bi',ca,cb,cw,rfl,h2.kt hk (by decide) (by decide) (by decide) (by decide) (by decide) (by decide),by omega,by omega,by omega,fun i hi=>by have:=h6 i hi;omega⟩,hok⟩
theorem put3 {W:World} {b:Nat} {A:Array Value} {t:TypeId} {u v z:Value} (h:W.heap[b]?=some (.cells A t (0,0))) (hA:A.size=3) :
  (((W.setCell ⟨b,0,none⟩ u).setCell ⟨b,1,none⟩ v).setCell ⟨b,2,none⟩ z).heap[b]?=some (.cells #[u,v,z] t (0,0))∧Frm [b] W (((W.setCell ⟨b,0,none⟩ u).setCell ⟨b,1,none⟩ v).setCell ⟨b,2,none⟩ z)∧Kt [t] W (((W.setCell ⟨b,0,none⟩ u).setCell ⟨b,1,none⟩ v).setCell ⟨b,2,none⟩ z):=by
 have b1:=block_setCell h 0 u
 have b2:=block_setCell b1 1 v
 have b3:=block_setCell b2 2 z
 refine⟨b3.trans ?_,((setFrm W _ _ _).trans (setFrm _ _ _ _)).trans (setFrm _ _ _ _),(((Kt.refl _ W).set h (by simp) _).set b1 (by simp) _).set b2 (by simp) _⟩
 obtain⟨l⟩:=A
 match l,hA with
 | [a,c,d],_=>rfl
end Go.Proofs.YtkphhjekfimmlaaGreat
namespace Go.Proofs.YtkphhjekfimmlaaGreat
open Go.RowKit Go.BigFrame
theorem ctC_at:∀ {L:List CtrD} {i:Nat} {c:CtrD},L[i]?=some c→(L.flatMap ctC1)[i * 2]?=some (.string c.name)∧(L.flatMap ctC1)[i * 2 + 1]?=some (.int .i64 c.lim)
 | [],i,c,h=>by simp at h
 | a :: L,0,c,h=>by
   simp at h;subst h
   exact⟨rfl,rfl⟩
 | a :: L,i + 1,c,h=>by
   have:=ctC_at (L:=L) (i:=i) (c:=c) (by simpa using h)
   rw[List.flatMap_cons,List.getElem?_append_right (by simp[ctC1];omega),List.getElem?_append_right (by simp[ctC1];omega)]
   rw[show (ctC1 a).length=2 from rfl,show (i + 1) * 2 - 2=i * 2 by omega,show (i + 1) * 2 + 1 - 2=i * 2 + 1 by omega]
   exact this
theorem df_arr {W:World} {dv:Value} {cs:List CtrD} (h:DfV W dv cs):Arr 2 CtAt W dv cs:=by
 obtain⟨ao,c,rfl⟩:=own_shape h
 refine⟨ao,c,rfl,fun i y hy=>?_⟩
 obtain⟨g,c',cur,e,-,-⟩:=own_block h (by have:=lt_of_some hy;omega)
 cases e
 obtain⟨q0,q1⟩:=ctC_at hy
 exact⟨g,0,rfl,by rw[Nat.zero_add];exact⟨own_at h q0,own_at h q1⟩⟩
theorem bkOk_of {s:SesD} {x:PS} (hs:SesOk s) (hx:PSok s x) {i k:Nat} (hi:i < s.roles.length) (hk:k < (s.rol i).steps.length):BkOk (s.rol i).ctrs (x.bank i) ((s.rol i).stp k):=by
 obtain⟨hl,hv⟩:=hx.vb i hi
 have hr:=hs.at hi
 refine⟨hl,by have:=hr.c4;omega,fun j c hc=>?_,fun hne=>?_⟩
 ·obtain⟨h1,h2⟩:=hv j c hc
  have h3:=(hr.cN c (List.mem_of_getElem? hc)).2
  omega
 ·obtain⟨j,c,h1,h2,h3⟩:=(hs.stp hi hk).ctr hne
  rw[h1]
  omega
theorem stIx_iff {s:SesD} {r:RolD} (h:RolOk s r) {p:Nat} (hp:p < r.sts.length) (n:ByteArray):stIx r n=(p:Int)↔(r.sts.getD p dS).name=n:=by
 have hs:r.sts[p]?=some (r.sts.getD p dS):=some_getD hp
 constructor
 ·intro e
  obtain⟨a,h1,h2,-⟩:=ixf_at e
  rw[hs] at h1
  cases h1
  simpa using h2
 ·intro e
  refine ixf_some hs (decide_eq_true e) fun j y hj hy=>?_
  rw[decide_eq_false_iff_not]
  intro e2
  have:=h.sU j p y _ hy hs (e2.trans e.symm)
  omega
end Go.Proofs.YtkphhjekfimmlaaGreat
