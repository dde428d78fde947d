/- Part of the proof. -/
import Derived.WalkKit
import Derived.WalkSpells
import Derived.Deep.QuietTactic
set_option linter.all false
namespace Go.Proofs.YtohfkhjlnlahdaaGreat
open Go.RowKit
theorem nrm:(∀ (a:Act) (i:Nat) (v:Value),a.put (some i) v={ a with tmps:=a.tmps.setIfInBounds i v })∧(∀ (a:Act) (v:Value),a.put none v=a) ∧
  (∀ {α:Type} (l:List α) (i:Nat) (h:i<l.toArray.size),l.toArray[i]=l[i]'(by simpa using h)) ∧
  (∀ {α:Type} (a:α) (l:List α) (h:0<(a :: l).length),(a :: l)[0]=a) ∧
  (∀ {α:Type} (a:α) (l:List α) (i:Nat) (h:i+1<(a :: l).length),(a :: l)[i+1]=l[i]'(by simpa using h)) ∧
  (∀ {α:Type} (l:List α) (i:Nat) (a:α),l.toArray.setIfInBounds i a=(l.set i a).toArray) ∧
  (∀ {α:Type} (x a:α) (l:List α),(x :: l).set 0 a=a :: l) ∧
  (∀ {α:Type} (x a:α) (l:List α) (i:Nat),(x :: l).set (i+1) a=x :: l.set i a):=
 ⟨fun _ _ _=>rfl,fun _ _=>rfl,fun _ _ _=>rfl,fun _ _ _=>rfl,fun _ _ _ _=>rfl,fun _ _ _=>by simp,fun _ _ _=>rfl,fun _ _ _ _=>rfl⟩
theorem nrq:(∀ {α:Type} (l:Array α) (i:Nat) (d:α),l.getD i d=l[i]?.getD d)∧(∀ {α:Type} (l:List α) (i:Nat),l.toArray[i]?=l[i]?)∧(∀ {α:Type} (a:α) (l:List α),(a :: l)[0]?=some a) ∧
  (∀ {α:Type} (a:α) (l:List α) (i:Nat),(a :: l)[i+1]?=l[i]?)∧(∀ {α:Type} (a d:α),(some a).getD d=a):=
 ⟨fun _ _ _=>by simp,fun _ _=>by simp,fun _ _=>rfl,fun _ _ _=>rfl,fun _ _=>rfl⟩
def Cnt (_:Nat) (P:Prop):Prop:=P
theorem cnt (k:Nat) {P:Prop} (a:Cnt k P):P:=a
theorem tcn {k:Nat} {P:Prop} (a:P):Cnt k P:=a
def Ret (v:Value) (a:World→Prop) (e:Ending) (w':World):Prop:=e=.returned v∧a w'
def aU (a:Value→World→Prop) (e:Ending) (w':World):Prop:=∃ v,e=.returned v∧a v w'
structure Frm (F:List Nat) (w w':World):Prop where
 os:w'.os=w.os
 tape:w'.tape=w.tape
 output:w'.output=w.output
 size:w.heap.size≤w'.heap.size
 block:∀ k,k<w.heap.size→k∉F→w'.heap[k]?=w.heap[k]?
theorem Frm.refl (F:List Nat) (w:World):Frm F w w:=⟨rfl,rfl,rfl,Nat.le_refl _,fun _ _ _=>rfl⟩
theorem Frm.then {F F1:List Nat} {h b c:World} (a:Frm F h b) (k:Frm F1 b c) (H:∀ x∈F1,x∈F∨h.heap.size≤x):Frm F h c:=
 ⟨k.os.trans a.os,k.tape.trans a.tape,k.output.trans a.output,Nat.le_trans a.size k.size,fun i A E =>
  (k.block i (Nat.lt_of_lt_of_le A a.size) (fun G=>(H i G).elim E (fun G=>by omega))).trans (a.block i A E)⟩
theorem Frm.trans {F:List Nat} {a b c:World} (h:Frm F a b) (k:Frm F b c):Frm F a c:=h.then k (fun _ A=>.inl A)
theorem Frm.mono {F F':List Nat} {h b:World} (a:Frm F h b) (E:∀ x∈F,x∈F'∨h.heap.size≤x):Frm F' h b:=
 ⟨a.os,a.tape,a.output,a.size,fun i G H=>a.block i G (fun A=>(E i A).elim H (fun A=>by omega))⟩
theorem Frm.drew {F:List Nat} {h w:World} (a:Frm F h w):Frm F h w.drew:=⟨a.os,a.tape,a.output,a.size,a.block⟩
theorem Frm.drewN {F:List Nat} {h w:World} (a:Frm F h w) (n:Nat):Frm F h (w.drewN n):=⟨a.os,a.tape,a.output,a.size,a.block⟩
theorem Frm.alloc {F:List Nat} {a w:World} (h:Frm F a w) (o:Obj):Frm F a (w.alloc o):=
 h.trans ⟨rfl,rfl,rfl,by simp,fun k A _=>Below.heap_alloc _ _ _ A⟩
theorem Frm.setCell {F:List Nat} {a w:World} (h:Frm F a w) (p:Addr) (E:p.block∈F∨a.heap.size≤p.block) (u:Value):Frm F a (w.setCell p u):=
 h.then (F1:=[p.block]) ⟨rfl,rfl,rfl,by simp[World.setCell],fun k _ A=>Below.heap_setCell _ _ _ _ (by simpa using A)⟩ (by simpa using E)
theorem Frm.grown {F:List Nat} {h w w':World} {A:Option Nat} (G:Frm F h w) (a:w.grownBy w' A) (J:∀ k,A=some k→k∈F∨h.heap.size≤k):Frm F h w':=
 G.then (F1:=A.toList) ⟨a.os,a.tape,a.output,a.size,fun k H I=>a.block k H (fun e=>I (by simp[← e]))⟩ (by intro x E;simp at E;exact J x E)
theorem Frm.below {F:List Nat} {h b:World} (a:Frm F h b) {B:Nat} (G:B≤h.heap.size) (A:∀ x∈F,B≤x):Below B h b:=
 ⟨a.os,a.tape,a.output,a.size,fun k H=>a.block k (by omega) (fun E=>by have:=A k E;omega)⟩
theorem Frm.of_below {h b:World} (a:Below h.heap.size h b) (F:List Nat):Frm F h b:=⟨a.os,a.tape,a.output,a.size,fun k A _=>a.block k A⟩
theorem Frm.at {F:List Nat} {a b:World} (A:Frm F a b) {k:Nat} {o:Obj} (h:a.heap[k]?=some o) (E:k∉F):b.heap[k]?=some o:=
 (A.block k (lt_of_block h) E).trans h
theorem Frm.grownNone {h b:World} (a:Frm [] h b):h.grownBy b none:=⟨a.os,a.tape,a.output,a.size,fun k A _=>a.block k A (by simp)⟩
theorem Frm.owns {F:List Nat} {h b:World} (G:Frm F h b) {base e A n:Nat} {v:Value} {E:List Value} (N:h.ownsRow base e A v n E) (K:∀ k,v.ownBlock=some k→k∉F):b.ownsRow base e A v n E:=by
 obtain⟨H,a⟩:=N
 refine⟨H,?_⟩
 rcases a with a | ⟨g,cap,cur,O,I,J,r⟩
 ·exact .inl a
 ·subst O
  exact .inr ⟨g,cap,cur,rfl,I,G.at J (K g rfl),r⟩
theorem ae {w:World} {b:Nat} {c:Array Value} {t:TypeId} {a:Nat × Nat} (h:w.heap[b]?=some (.cells c t a)) (o:Nat):w.cell? ⟨b,o,none⟩=c[o]?:=by simp[World.cell?,h]
theorem aj {w:World} {b:Nat} {c:Array Value} {t:TypeId} (a:w.heap[b]?=some (.cells c t (0,0))) (o:Nat):w.frozen? ⟨b,o,none⟩=false:=by simp[World.frozen?,a]
theorem ap {w:World} {b:Nat} {c:Array Value} {t:TypeId} {a:Nat × Nat} (h:w.heap[b]?=some (.cells c t a)) (o:Nat) (u:Value) :
  (w.setCell ⟨b,o,none⟩ u).heap[b]?=some (.cells (c.setIfInBounds o u) t a):=by
 have A:=lt_of_block h
 have E:w.heap[b]=.cells c t a:=by simpa[Array.getElem?_eq_getElem A] using h
 show (w.heap.modify b _)[b]?=_
 rw[Array.getElem?_eq_getElem (by simpa using A),Array.getElem_modify_self,E]
 simp
theorem bV {w:World} {base e G n:Nat} {v:Value} {H:List Value} (E:w.ownsRow base e G v n H) {k:Nat} (a:v.ownBlock=some k):k<w.heap.size:=by
 obtain⟨_,h⟩:=E
 rcases h with ⟨rfl,_⟩ | ⟨g,cap,cur,rfl,I,A,r⟩
 ·simp[Value.ownBlock] at a
 ·simp[Value.ownBlock] at a;subst a;exact lt_of_block A
theorem ak {w:World} {base e G n:Nat} {v:Value} {H:List Value} (E:w.ownsRow base e G v n H) {k:Nat} (a:v.ownBlock=some k):∃ c,w.heap[k]?=some (.cells c e (0,0)):=by
 obtain⟨_,h⟩:=E
 rcases h with ⟨rfl,_⟩ | ⟨g,cap,cur,rfl,I,A,r⟩
 ·simp[Value.ownBlock] at a
 ·simp[Value.ownBlock] at a;subst a;exact⟨_,A⟩
theorem Frm.cellAt {F:List Nat} {a b:World} (A:Frm F a b) {k o:Nat} {v:Value} (h:a.cell? ⟨k,o,none⟩=some v) (E:k∉F):b.cell? ⟨k,o,none⟩=some v:=
 (World.cell?_of_block (w:=a) (A.block k (World.block_lt_of_cell? _ _ h) E)).trans h
theorem Frm.keep {a b:World} (A:Frm [] a b) {p:Addr} {v:Value} (h:a.cell? p=some v):b.cell? p=some v:=
 (World.cell?_of_block (w:=a) (A.block p.block (World.block_lt_of_cell? _ _ h) (by simp))).trans h
theorem bJ {w w':World} {h:Option Nat} (A:w.grownBy w' h) {k:Nat} {o:Obj} (a:w.heap[k]?=some o) (E:h≠some k):w'.heap[k]?=some o:=
 (A.block k (lt_of_block a) (fun e=>E e.symm)).trans a
theorem ah {w:World} {k:Nat} {o x:Obj} (a:w.heap[k]?=some o):(w.alloc x).heap[k]?=some o:=(Below.heap_alloc _ _ _ (lt_of_block a)).trans a
theorem bC {w:World} {k:Nat} {o:Obj} (a:w.heap[k]?=some o) {p:Addr} (h:k≠p.block) (u:Value):(w.setCell p u).heap[k]?=some o:=(Below.heap_setCell _ _ _ _ h).trans a
end Go.Proofs.YtohfkhjlnlahdaaGreat
