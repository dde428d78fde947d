/- Part of the proof. -/
import Derived.Test.YtohfkhjlnlahdaaGreatQ01
import Derived.Deep.MidRow
import Derived.Deep.WholeRow
import Derived.BigQuiet
import Derived.StillTail
import Derived.Maps.OwnSet
import Derived.Maps.OwnOps
set_option linter.all false
namespace Go.Proofs.YtohfkhjlnlahdaaGreat
open Go.RowKit Go.BigFrame
section
variable {P:Program} {ops:Array Oper} {md:Region.Mode} {C:World→Prop}
def jD (P:Program) (md:Region.Mode) (ops:Array Oper) (C:World→Prop) (n:Nat) (L:Array Bool→Act→Prop):Nat→Array Bool→Act→Prop
 | 0,listed,a=>L listed a
 | f+1,listed,a=>Region.ready md ops listed≠[]∧∀ i∈Region.ready md ops listed,i<n∧qOp P ops C i (jD P md ops C n L f (listed.setIfInBounds i true)) a
theorem fV {n g:Nat} {L:Array Bool→Act→Prop} {Q':Exit→Act→World→Prop} (A:∀ listed a w,C w→L listed a→wpAny P md ops Q' g listed a w) :
  ∀ (f:Nat) (listed:Array Bool) (a:Act) (w:World),C w→jD P md ops C n L f listed a→wpAny P md ops Q' (f+g) listed a w
 | 0,listed,a,w,hw,h=>by rw[Nat.zero_add];exact A _ _ _ hw h
 | f+1,listed,a,w,hw,h=>by
   rw[show f+1+g=(f+g)+1 by omega]
   exact⟨fun G=>absurd G h.1,fun i H=>wpOp_of_qOp hw (fun a' w' I E=>fV A f _ a' w' I E) (h.2 i H).2⟩
theorem lu {n i:Nat} {I:Oper} {v:Value} {L:Array Bool→Act→Prop} (W:ops[i]?=some I) (ah:∀ (j:Nat) (o:Oper) N b,ops[j]?=some o→o.op≠.select N b)
  (ag:Region.sinkB md ops n=true) (aa:Region.chainB md ops n=true) (af:n<ops.size) (ad:i<n)
  (ak:∀ listed a,L listed a→∀ j∈Region.ready md ops listed,n≤j) :
  ∀ (f:Nat) (listed:Array Bool) (a:Act),HeadInv md ops n listed →
    (∀ j H,ops[j]?=some H→j≠i→listed.getD j true=false→(∀ e∈H.after,Region.binds md e=true→e.on≠i)→I.apart ops H=true) →
    i∈Region.ready md ops listed→YieldsIn P ops C I v a →
    jD P md ops C n L f (listed.setIfInBounds i true) (a.put I.dst v)→jD P md ops C n L (f+1) listed a:=by
 intro f
 induction f with
 | zero =>
   intro listed a V _ A U J
   have G:=(mem_ready.1 A).1
   refine⟨fun h=>(by rw[h] at A;cases A),fun j E=>?_⟩
   have S:j<n:=by
    rcases Nat.lt_or_ge j n with h | h
    ·exact h
    ·exact absurd E (tail_waits ag aa af V _ i rfl ad G j h)
   refine⟨S,?_⟩
   by_cases hji:j=i
   ·subst hji;exact U.qOp W J
   ·have:=ak _ _ J j (ready_mono E hji)
    omega
 | succ f ih =>
   intro listed a V ab A U J
   have G:=(mem_ready.1 A).1
   refine⟨fun h=>(by rw[h] at A;cases A),fun j E=>?_⟩
   have S:j<n:=by
    rcases Nat.lt_or_ge j n with h | h
    ·exact h
    ·exact absurd E (tail_waits ag aa af V _ i rfl ad G j h)
   refine⟨S,?_⟩
   by_cases hji:j=i
   ·subst hji;exact U.qOp W J
   ·have R:=(J.2 j (ready_mono E hji)).2
    obtain⟨ae,H,X,aj⟩:=mem_ready.1 E
    have au:∀ e∈H.after,Region.binds md e=true→e.on≠i:=fun e al hb am=>by
     have R:=aj e al hb
     rw[am,getD_both G] at R
     cases R
    have ai:=qOp_put X (ab j H X hji ae au) (fun N b=>ah i I N b W) (fun N b=>ah j H N b X) U R
    have an:∀ k O,ops[k]?=some O→k≠i→(listed.setIfInBounds j true).getD k true=false →
      (∀ e∈O.after,Region.binds md e=true→e.on≠i)→I.apart ops O=true:=fun k O ap aq G ar=>by
     refine ab k O ap aq ?_ ar
     by_cases hjk:j=k
     ·subst hjk;exact ae
     ·rw[getD_set_ne true hjk] at G;exact G
    refine qOp_mono (fun a' Y=>ih (listed.setIfInBounds j true) a' (V.set E S) an (ready_mono A (Ne.symm hji)) Y.1 ?_) ai
    rw[Array.setIfInBounds_comm _ _ hji]
    exact Y.2
theorem jE {n g:Nat} {E:Act→Prop} (O:Region.noSelect ops=true) (N:Region.sinkB md ops n=true) (G:Region.chainB md ops n=true) (I:n<ops.size) :
  ∀ (l:List Oper) (k:Nat) (listed:Array Bool) (a:Act),(∀ j,j<l.length→l[j]?=ops[k+j]?)→k+l.length=n→HeadInv md ops n listed →
  Region.lexHead md ops g l.length k listed=true→wpQuiet P ops C E l a →
  jD P md ops C n (fun R a'=>Region.seqB md ops g n R=true∧E a') l.length listed a
 | [],k,listed,a,_,hk,_,hB,h=>by
   have:k=n:=by simpa using hk
   subst this
   exact⟨by simpa[Region.lexHead] using hB,h⟩
 | o :: l,k,listed,a,hl,hk,inv,hB,h=>by
   have A:ops[k]?=some o:=by simpa using (hl 0 (by simp)).symm
   simp only[List.length_cons,Region.lexHead,Bool.and_eq_true] at hB
   obtain⟨⟨X,W⟩,S⟩:=hB
   have H:k<n:=by simp only[List.length_cons] at hk;omega
   have J:k∈Region.ready md ops listed:=by simpa using X
   have Y:qOp P ops C k (wpQuiet P ops C E l) a:=by unfold qOp;simp only[A];exact h
   obtain⟨v,aa,U⟩:=yieldsIn_of_qOp A Y
   exact lu A (Region.noSelect_spec O) N G I H (fun R a' V=>seqB_ready V.1) l.length listed a inv (Region.free_spec A W) J aa
    (jE O N G I l (k+1) _ _ (fun j ab=>by have:=hl (j+1) (by simp;omega);simpa[Nat.add_assoc,Nat.add_comm 1 j] using this) (by simp only[List.length_cons] at hk;omega) (inv.set J H) S U)
theorem gV (C:World→Prop) {ad:Nat} {Q:Exit→Act→World→Prop} {a:Act} {w:World} {l:List Oper} (n:Nat) (W:P.follows .mixedOrders=true) (A:Region.lexTailB .any l.toArray n=true)
  (R:C { w with drawn:=w.drawn+1 }) (O:wpQuiet P l.toArray C (fun a'=>∀ w',C w'→wpList P l.toArray Q (l.drop n) a' w') (l.take n) a):(Code.region ad l.toArray true).wp P Q a w:=by
 simp only[Region.lexTailB,Bool.and_eq_true,decide_eq_true_eq] at A
 obtain⟨⟨⟨⟨Y,J⟩,X⟩,S⟩,V⟩:=A
 have af:n<l.length:=by simpa using J
 have h:(l.take n).length=n:=by simp;omega
 have G:(l.drop n).length=l.toArray.size - n:=by simp
 have ae:HeadInv .any l.toArray n (Array.replicate l.toArray.size false):=
  ⟨by simp,fun j ag _ I=>(by rw[getD_replicate_false] at I;cases I),fun t _ aa=>getD_in (by simpa using aa) (getD_replicate_false _ _)⟩
 have N:=jE (md:=.any) (g:=l.toArray.size - n) Y X S J (l.take n) 0 _ a (fun j H=>by
  have U:j<n:=by rw[h] at H;exact H
  simp[U]) (by simpa using h) ae (by rw[h];exact V) O
 refine wp_region_any W ?_
 have:=fV (Q':=Q) (g:=l.toArray.size - n) (fun listed a' w' ab E=>by
  have:=wpAny_of_seq (md:=.any) (Q':=Q) (l.drop n) n listed a' w' (fun j=>by simp[List.getElem?_drop]) (by rw[G];exact E.1) (E.2 w' ab)
  rwa [G] at this) _ _ _ _ R N
 rw[h,show n+(l.toArray.size - n)=l.toArray.size by omega] at this
 exact this
end
theorem ay {P:Program} {G:Nat} {Q:Exit→Act→World→Prop} {a:Act} {w:World} {l:List Oper} (E:P.follows .mixedOrders=true) (A:Region.lexB .any l.toArray=true)
  (h:wpQuiet P l.toArray (Frm [] w) (fun a'=>∀ w',Frm [] w w'→Q .normal a' w') l a):(Code.region G l.toArray true).wp P Q a w:=
 wp_region_quiet (C:=Frm [] w) E A ⟨rfl,rfl,rfl,Nat.le_refl _,fun _ _ _=>rfl⟩ (by simpa using h)
theorem bQ {P:Program} {G:Nat} {Q:Exit→Act→World→Prop} {a:Act} {w:World} {l:List Oper} (n:Nat) (E:P.follows .mixedOrders=true) (A:Region.lexTailB .any l.toArray n=true)
  (h:wpQuiet P l.toArray (Frm [] w) (fun a'=>∀ w',Frm [] w w'→wpList P l.toArray Q (l.drop n) a' w') (l.take n) a):(Code.region G l.toArray true).wp P Q a w:=
 gV (Frm [] w) n E A ⟨rfl,rfl,rfl,Nat.le_refl _,fun _ _ _=>rfl⟩ h
section
variable {P:Program} {o:Oper} {a:Act} {C:World→Prop} {K:Act→Prop}
theorem sf (v:Value) (h:∀ w,C w→(execOp a.eval o).run P w=.ok (.value v) w) (E:K (a.put o.dst v)):o.quiet P a C K:=
 ⟨v,fun w A=>by unfold Oper.quietAt;rw[h w A];exact⟨rfl,rfl⟩,E⟩
theorem aV (v:Value) (f:FuncId) (args:Array Value) (A:∀ w,C w→(execOp a.eval o).run P w=.ok (.enter f args) w) (E:∀ w,C w→Calls P f args w fun e w'=>e=.returned v∧C w') (G:K (a.put o.dst v)):o.quiet P a C K:=
 ⟨v,fun w h=>by unfold Oper.quietAt;rw[A w h];exact⟨rfl,E w h⟩,G⟩
theorem uZ (ty:TypeId) (x:Operand) (I:o.op=.load ty x) (b:Nat) (N:a.eval x=.pointer (some ⟨b,0,none⟩)) (h:Array Value) (t:TypeId) (hb:∀ w,C w→w.heap[b]?=some (.cells h t (0,0)))
  (d:TypeDesc) (J:P.underlying ty=some d) (E:(match d with | .struct _ | .array _ _=>true | _=>false)=true) (G:(P.info? ty).map (·.size)=some h.size) (H:K (a.put o.dst (.agg h))):o.quiet P a C K:=
 sf (.agg h) (fun w A=>by
  unfold execOp
  simp only[I,N,Instr.loadAt,Instr.sureAddr,Sem.run_bind,Sem.run_pure,Result.andThen_ok,run_loadVar_row w b t ty h (0,0) d (hb w A) J E G]) H
theorem dO {w0:World} (ty:TypeId) (x:Operand) (I:o.op=.load ty x) (b:Nat) (N:a.eval x=.pointer (some ⟨b,0,none⟩)) (h:Array Value) (t:TypeId) (hb:w0.heap[b]?=some (.cells h t (0,0)))
  (d:TypeDesc) (J:P.underlying ty=some d) (E:(match d with | .struct _ | .array _ _=>true | _=>false)=true) (G:(P.info? ty).map (·.size)=some h.size) (H:K (a.put o.dst (.agg h))):o.quiet P a (Frm [] w0) K:=
 sf (.agg h) (fun w A=>by
  unfold execOp
  simp only[I,N,Instr.loadAt,Instr.sureAddr,Sem.run_bind,Sem.run_pure,Result.andThen_ok,run_loadVar_row w b t ty h (0,0) d (A.at hb (by simp)) J E G]) H
end
theorem Ret.cq {v:Value} {h:World→Prop} {C:World→Prop} {P:Program} {f:FuncId} {args:Array Value} {w:World} (A:Calls P f args w (Ret v h)) (E:∀ w',h w'→C w'):Calls P f args w fun e w'=>e=.returned v∧C w':=
 A.mono fun _ w' ⟨G,H⟩=>⟨G,E w' H⟩
end Go.Proofs.YtohfkhjlnlahdaaGreat
namespace Go.Proofs.YtohfkhjlnlahdaaGreat
open Go.RowKit Go.Maps
def sS (v:Value):Option (DataW Value × List MemPlace):=some (.held v,[])
def MapAt (P:Program) (K:TypeId) (w:World) (mb:Option Nat) (n:Nat) (f:Lit→Option Value) (c:Nat):Prop:=
 (mb=none∧(∀ k,f k=none)∧c=0) ∨
 ∃ b D,mb=some b∧w.ownsMap P K sS b n D∧(∀ k,Maps.has D k=(f k).isSome)∧(∀ k v,f k=some v→∀ z,D.atKey k z=.held v)∧Maps.size D=c
noncomputable def nQ (f:Lit→Option Value) (k:Lit) (o:Option Value):Lit→Option Value:=fun x=>@ite _ (x=k) (Classical.propDecidable _) o (f x)
theorem dU (f:Lit→Option Value) (k:Lit) (o:Option Value):nQ f k o k=o:=by simp[nQ]
theorem dr (f:Lit→Option Value) {k x:Lit} (o:Option Value) (a:x≠k):nQ f k o x=f x:=by simp[nQ,a]
theorem mc {D:DataW Value} (A:Maps.IsMap D) {k:Lit} (a:Maps.has D k=false) (z:DataW Value):D.atKey k z=z:=by
 obtain⟨h,rfl⟩:=A
 unfold DataW.atKey
 simp only[Maps.has] at a
 have:h.find? (fun p=>p.1.sameKey k)=none:=by
  rw[List.find?_eq_none]
  intro x H G
  have:=List.any_eq_false.1 a x H
  exact this G
 simp[this]
section
variable {P:Program} {K T E:TypeId} {w:World} {mb:Option Nat} {n c:Nat} {f:Lit→Option Value}
theorem MapAt.made (P:Program) (K:TypeId) (w:World):MapAt P K (w.alloc (.map #[] 0)) (some w.heap.size) 0 (fun _=>Option.none) 0:=
 .inr ⟨_,_,rfl,World.ownsMap_made w P K sS,fun _=>rfl,fun _ _ a=>(by cases a),rfl⟩
theorem MapAt.frm {F:List Nat} {w':World} (a:MapAt P K w mb n f c) (G:Frm F w w') (H:∀ b,mb=some b→b∉F):MapAt P K w' mb n f c:=by
 rcases a with a | ⟨b,D,rfl,I,r⟩
 ·exact .inl a
 ·obtain⟨A,h,hb,q⟩:=I
  exact .inr ⟨b,D,rfl,⟨A,h,G.at hb (H b rfl),q⟩,r⟩
theorem MapAt.block (a:MapAt P K w mb n f c) {b:Nat} (hb:mb=some b):∃ A h,w.heap[b]?=some (.map A h):=by
 rcases a with ⟨a,_⟩ | ⟨H,D,a,⟨A,h,G,_⟩,_⟩
 ·rw[a] at hb;cases hb
 ·rw[a] at hb;cases hb;exact⟨A,h,G⟩
theorem MapAt.look_ok (A:MapAt P K w mb n f c) (H:Keyed P K) (I:P.underlying T=some (.map K E)) {z:Value} (O:(zeroValue E).run P w=.ok z w) {R:Value} {a:Lit} (J:keyOf P K R=some a) :
  (Instr.lookup T (.map mb) R true).run P w=.ok (.tuple #[(f a).getD z,.bool (f a).isSome]) w:=by
 rcases A with ⟨rfl,A,_⟩ | ⟨b,D,rfl,N,G,S,_⟩
 ·rw[look_nil true H I O J];simp[A a]
 ·obtain⟨v,ps,U,h⟩:=N.look_ok H I O (zd:=.held z) (zp:=[]) rfl J
  rw[U,G a]
  congr 3
  simp only[sS,Option.some.injEq,Prod.mk.injEq] at h
  cases hf:f a with
  | some x=>rw[S a x hf] at h;simpa using h.1
  | none =>
    rw[mc N.isMap (by rw[G,hf];rfl)] at h
    simpa using h.1
theorem MapAt.look (A:MapAt P K w mb n f c) (G:Keyed P K) (H:P.underlying T=some (.map K E)) {z:Value} (N:(zeroValue E).run P w=.ok z w) {O:Value} {h:Lit} (I:keyOf P K O=some h) :
  (Instr.lookup T (.map mb) O false).run P w=.ok ((f h).getD z) w:=by
 rcases A with ⟨rfl,A,_⟩ | ⟨b,D,rfl,J,R,S,_⟩
 ·rw[look_nil false G H N I];simp[A h]
 ·obtain⟨v,ps,U,a⟩:=J.lookup G H N (zd:=.held z) (zp:=[]) rfl I
  rw[U]
  congr 1
  simp only[sS,Option.some.injEq,Prod.mk.injEq] at a
  cases hf:f h with
  | some x=>rw[S h x hf] at a;simpa using a.1
  | none =>
    rw[mc J.isMap (by rw[R,hf];rfl)] at a
    simpa using a.1
theorem MapAt.store {b:Nat} (h:MapAt P K w (some b) n f c) (I:Keyed P K) (R:P.underlying T=some (.map K E)) (V:n<maxLen) {N:Value} {a:Lit} (U:keyOf P K N=some a) (J:WideAt.IsKeyLit a) (v:Value) :
  ∃ w',(Instr.mapUpdate T (.map (some b)) N v).run P w=.ok () w'∧MapAt P K w' (some b) (n+1) (nQ f a (some v)) (if (f a).isSome then c else c+1)∧Frm [b] w w':=by
 rcases h with ⟨h,_⟩ | ⟨Y,D,h,A,H,O,rfl⟩
 ·cases h
 ·cases h
  obtain⟨w',X,W,S⟩:=A.update I R V (d:=.held v) (ps:=[]) U rfl
  refine⟨w',X,.inr ⟨b,_,rfl,W,fun k=>?_,fun k u G z=>?_,?_⟩,(Frm.refl _ _).grown S (by simp)⟩
  ·by_cases e:k=a
   ·subst e;rw[has_put_same A.isMap J,dU];rfl
   ·rw[has_put_other e,H,dr _ _ e]
  ·by_cases e:k=a
   ·subst e
    rw[dU] at G;cases G
    exact atKey_put_same A.isMap J _ _
   ·rw[atKey_put_other e]
    rw[dr _ _ e] at G
    exact O k u G z
  ·rw[size_put (A.tidy I),H a]
end
end Go.Proofs.YtohfkhjlnlahdaaGreat
namespace Go.Proofs.YtohfkhjlnlahdaaGreat
open Go.RowKit
theorem fT:∀ (A:List Value) (o:Nat) (w:World) (b:Nat) (c:Array Value) (t:TypeId),w.heap[b]?=some (.cells c t (0,0))→o+A.length≤c.size →
  ∃ h,(w.setCells b o A).heap[b]?=some (.cells h t (0,0))∧h.size=c.size∧(∀ j,j<o→h[j]?=c[j]?)∧(∀ j v,A[j]?=some v→h[o+j]?=some v)∧Frm [b] w (w.setCells b o A)
 | [],o,w,b,c,t,E,_=>⟨c,E,rfl,fun _ _=>rfl,fun j v E=>by simp at E,Frm.refl _ _⟩
 | v :: A,o,w,b,c,t,E,hl=>by
   have hb:=ap E o v
   simp only[List.length_cons] at hl
   obtain⟨h,I,J,H,K,N⟩:=fT A (o+1) (w.setCell ⟨b,o,none⟩ v) b _ t hb (by simp;omega)
   refine⟨h,I,by simpa using J,fun j O=>?_,fun j u G=>?_,((Frm.refl _ _).setCell _ (.inl (by simp)) _).trans N⟩
   ·rw[H j (by omega),Array.getElem?_setIfInBounds_ne (by omega)]
   ·cases j with
    | zero =>
      simp at G;subst G
      rw[Nat.add_zero,H o (by omega),Array.getElem?_setIfInBounds_self_of_lt (by omega)]
    | succ j =>
      rw[show o+(j+1)=o+1+j by omega]
      exact K j u (by simpa using G)
theorem dI {w:World} {b:Nat} {c:Array Value} {t:TypeId} (A:w.heap[b]?=some (.cells c t (0,0))) (h:Array Value) (I:h.size=c.size) :
  (w.setCells b 0 h.toList).heap[b]?=some (.cells h t (0,0))∧Frm [b] w (w.setCells b 0 h.toList):=by
 obtain⟨J,E,K,_,G,H⟩:=fT h.toList 0 w b c t A (by simp[I])
 refine⟨?_,H⟩
 rw[E]
 congr 2
 apply Array.ext_getElem?
 intro i
 by_cases hi:i<h.size
 ·have:=G i h[i] (by simp[hi])
  rw[Nat.zero_add] at this
  rw[this];simp[hi]
 ·rw[Array.getElem?_eq_none (by omega),Array.getElem?_eq_none (by omega)]
section
variable {P:Program} {ops:Array Oper} {rest:List Oper} {o:Oper} {a:Act} {Q:Exit→Act→World→Prop} {w:World}
theorem mq (w:World) (ty:TypeId) (h:Array Value):(Instr.box ty (.agg h)).run P w=.ok (.pointer (some ⟨w.heap.size,0,none⟩)) (w.alloc (.cells h ty)):=by
 simp[Instr.box,newVar,newRow,Value.cells,go_sem]
theorem aH (H:o.guard=none) (ty:TypeId) (x:Operand) (I:o.op=.box ty x) (h:Array Value) (G:a.eval x=.agg h)
  (A:wpList P ops Q rest (a.put o.dst (.pointer (some ⟨w.heap.size,0,none⟩))) (w.alloc (.cells h ty))):wpList P ops Q (o :: rest) a w:=
 wpList_plain H fun _ E=>by
  unfold Oper.wp execOp
  simp only[I,G,Sem.run_bind,Sem.run_pure,Result.andThen_ok,mq w ty h]
  exact E _ _ A
theorem aD (H:o.guard=none) (ty:TypeId) (x y:Operand) (J:o.op=.store ty x y) (b:Nat) (h C:Array Value) (t:TypeId) (N:a.eval x=.pointer (some ⟨b,0,none⟩)) (O:a.eval y=.agg h)
  (hb:w.heap[b]?=some (.cells C t (0,0))) (K:h.size=C.size) (I:(P.info? ty).map (·.size)=some h.size) (G:h.all (·.oneCell')=true)
  (E:∀ w',w'.heap[b]?=some (.cells h t (0,0))→Frm [b] w w'→wpList P ops Q rest (a.put o.dst undef) w'):wpList P ops Q (o :: rest) a w:=by
 have A:=dI hb h K
 refine wpList_store_mid H ty x y J b 0 h N O (fun j R=>⟨?_,?_⟩) I G (E _ A.1 A.2)
 ·rw[Nat.zero_add,ae hb];simp[show j<C.size by omega]
 ·rw[Nat.zero_add];exact aj hb j
theorem af (G:o.guard=none) (ty:TypeId) (x:Operand) (I:o.op=.load ty x) (b:Nat) (K:a.eval x=.pointer (some ⟨b,0,none⟩)) (h:Array Value) (t:TypeId) (hb:w.heap[b]?=some (.cells h t (0,0)))
 (d:TypeDesc) (J:P.underlying ty=some d) (E:(match d with | .struct _ | .array _ _=>true | _=>false)=true) (H:(P.info? ty).map (·.size)=some h.size)
 (A:wpList P ops Q rest (a.put o.dst (.agg h)) w):wpList P ops Q (o :: rest) a w:=wpList_load_row G ty x I b K t h (0,0) d hb J E H A
end
end Go.Proofs.YtohfkhjlnlahdaaGreat
