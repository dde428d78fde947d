/- Part of the proof. -/
import Derived.WalkKit
import Derived.WalkSpells
import Derived.Deep.QuietTactic
set_option linter.all false
namespace Go.Proofs.YtohfkhjlnlahdaaGreat
open Go.RowKit
theorem nrm:(∀ (a:Act) (i:Nat) (v:Value),a.put (some i) v={ a with tmps:=a.tmps.setIfInBounds i v })∧(∀ (a:Act) (v:Value),a.put none v=a) ∧
  (∀ {α:Type} (l:List α) (i:Nat) (h:i < l.toArray.size),l.toArray[i]=l[i]'(by simpa using h)) ∧
  (∀ {α:Type} (a:α) (l:List α) (h:0 < (a :: l).length),(a :: l)[0]=a) ∧
  (∀ {α:Type} (a:α) (l:List α) (i:Nat) (h:i + 1 < (a :: l).length),(a :: l)[i + 1]=l[i]'(by simpa using h)) ∧
  (∀ {α:Type} (l:List α) (i:Nat) (a:α),l.toArray.setIfInBounds i a=(l.set i a).toArray) ∧
  (∀ {α:Type} (x a:α) (l:List α),(x :: l).set 0 a=a :: l) ∧
  (∀ {α:Type} (x a:α) (l:List α) (i:Nat),(x :: l).set (i + 1) a=x :: l.set i a):=
 ⟨fun _ _ _=>rfl,fun _ _=>rfl,fun _ _ _=>rfl,fun _ _ _=>rfl,fun _ _ _ _=>rfl,fun _ _ _=>by simp,fun _ _ _=>rfl,fun _ _ _ _=>rfl⟩
theorem nrq:(∀ {α:Type} (l:Array α) (i:Nat) (d:α),l.getD i d=l[i]?.getD d)∧(∀ {α:Type} (l:List α) (i:Nat),l.toArray[i]?=l[i]?)∧(∀ {α:Type} (a:α) (l:List α),(a :: l)[0]?=some a) ∧
  (∀ {α:Type} (a:α) (l:List α) (i:Nat),(a :: l)[i + 1]?=l[i]?)∧(∀ {α:Type} (a d:α),(some a).getD d=a):=
 ⟨fun _ _ _=>by simp,fun _ _=>by simp,fun _ _=>rfl,fun _ _ _=>rfl,fun _ _=>rfl⟩
def Cnt (_:Nat) (P:Prop):Prop:=P
theorem cnt (k:Nat) {P:Prop} (h:Cnt k P):P:=h
theorem tcn {k:Nat} {P:Prop} (h:P):Cnt k P:=h
def Ret (v:Value) (R:World→Prop) (e:Ending) (w':World):Prop:=e=.returned v∧R w'
def RetV (R:Value→World→Prop) (e:Ending) (w':World):Prop:=∃ v,e=.returned v∧R v w'
structure Frm (F:List Nat) (w w':World):Prop where
 os:w'.os=w.os
 tape:w'.tape=w.tape
 output:w'.output=w.output
 size:w.heap.size≤w'.heap.size
 block:∀ k,k < w.heap.size→k∉F→w'.heap[k]?=w.heap[k]?
theorem Frm.refl (F:List Nat) (w:World):Frm F w w:=⟨rfl,rfl,rfl,Nat.le_refl _,fun _ _ _=>rfl⟩
theorem Frm.then {F F1:List Nat} {a b c:World} (h:Frm F a b) (k:Frm F1 b c) (hf:∀ x∈F1,x∈F∨a.heap.size≤x):Frm F a c:=
 ⟨k.os.trans h.os,k.tape.trans h.tape,k.output.trans h.output,Nat.le_trans h.size k.size,fun i hi hn =>
  (k.block i (Nat.lt_of_lt_of_le hi h.size) (fun hx=>(hf i hx).elim hn (fun hx=>by omega))).trans (h.block i hi hn)⟩
theorem Frm.trans {F:List Nat} {a b c:World} (h:Frm F a b) (k:Frm F b c):Frm F a c:=h.then k (fun _ hx=>.inl hx)
theorem Frm.mono {F F':List Nat} {a b:World} (h:Frm F a b) (hf:∀ x∈F,x∈F'∨a.heap.size≤x):Frm F' a b:=
 ⟨h.os,h.tape,h.output,h.size,fun i hi hn=>h.block i hi (fun hx=>(hf i hx).elim hn (fun hx=>by omega))⟩
theorem Frm.drew {F:List Nat} {a w:World} (h:Frm F a w):Frm F a w.drew:=⟨h.os,h.tape,h.output,h.size,h.block⟩
theorem Frm.drewN {F:List Nat} {a w:World} (h:Frm F a w) (n:Nat):Frm F a (w.drewN n):=⟨h.os,h.tape,h.output,h.size,h.block⟩
theorem Frm.alloc {F:List Nat} {a w:World} (h:Frm F a w) (o:Obj):Frm F a (w.alloc o):=
 h.trans ⟨rfl,rfl,rfl,by simp,fun k hk _=>Below.heap_alloc _ _ _ hk⟩
theorem Frm.setCell {F:List Nat} {a w:World} (h:Frm F a w) (p:Addr) (hp:p.block∈F∨a.heap.size≤p.block) (u:Value):Frm F a (w.setCell p u):=
 h.then (F1:=[p.block]) ⟨rfl,rfl,rfl,by simp[World.setCell],fun k _ hn=>Below.heap_setCell _ _ _ _ (by simpa using hn)⟩ (by simpa using hp)
theorem Frm.grown {F:List Nat} {a w w':World} {row:Option Nat} (h:Frm F a w) (hg:w.grownBy w' row) (hr:∀ k,row=some k→k∈F∨a.heap.size≤k):Frm F a w':=
 h.then (F1:=row.toList) ⟨hg.os,hg.tape,hg.output,hg.size,fun k hk hn=>hg.block k hk (fun e=>hn (by simp[← e]))⟩ (by intro x hx;simp at hx;exact hr x hx)
theorem Frm.below {F:List Nat} {a b:World} (h:Frm F a b) {B:Nat} (hB:B≤a.heap.size) (hf:∀ x∈F,B≤x):Below B a b:=
 ⟨h.os,h.tape,h.output,h.size,fun k hk=>h.block k (by omega) (fun hx=>by have:=hf k hx;omega)⟩
theorem Frm.of_below {a b:World} (h:Below a.heap.size a b) (F:List Nat):Frm F a b:=⟨h.os,h.tape,h.output,h.size,fun k hk _=>h.block k hk⟩
theorem Frm.at {F:List Nat} {a b:World} (h:Frm F a b) {k:Nat} {o:Obj} (hk:a.heap[k]?=some o) (hn:k∉F):b.heap[k]?=some o:=
 (h.block k (lt_of_block hk) hn).trans hk
theorem Frm.grownNone {a b:World} (h:Frm [] a b):a.grownBy b none:=⟨h.os,h.tape,h.output,h.size,fun k hk _=>h.block k hk (by simp)⟩
theorem Frm.owns {F:List Nat} {a b:World} (h:Frm F a b) {base e size n:Nat} {v:Value} {xs:List Value} (ho:a.ownsRow base e size v n xs) (hn:∀ k,v.ownBlock=some k→k∉F):b.ownsRow base e size v n xs:=by
 obtain⟨h1,h2⟩:=ho
 refine⟨h1,?_⟩
 rcases h2 with h2 | ⟨g,cap,cur,hv,hg,hh,r⟩
 ·exact .inl h2
 ·subst hv
  exact .inr ⟨g,cap,cur,rfl,hg,h.at hh (hn g rfl),r⟩
theorem cell_of {w:World} {b:Nat} {c:Array Value} {t:TypeId} {fr:Nat × Nat} (h:w.heap[b]?=some (.cells c t fr)) (o:Nat):w.cell? ⟨b,o,none⟩=c[o]?:=by simp[World.cell?,h]
theorem free_of {w:World} {b:Nat} {c:Array Value} {t:TypeId} (h:w.heap[b]?=some (.cells c t (0,0))) (o:Nat):w.frozen? ⟨b,o,none⟩=false:=by simp[World.frozen?,h]
theorem block_setCell {w:World} {b:Nat} {c:Array Value} {t:TypeId} {fr:Nat × Nat} (h:w.heap[b]?=some (.cells c t fr)) (o:Nat) (u:Value) :
  (w.setCell ⟨b,o,none⟩ u).heap[b]?=some (.cells (c.setIfInBounds o u) t fr):=by
 have hlt:=lt_of_block h
 have h':w.heap[b]=.cells c t fr:=by simpa[Array.getElem?_eq_getElem hlt] using h
 show (w.heap.modify b _)[b]?=_
 rw[Array.getElem?_eq_getElem (by simpa using hlt),Array.getElem_modify_self,h']
 simp
theorem ownBlock_lt {w:World} {base e size n:Nat} {v:Value} {xs:List Value} (ho:w.ownsRow base e size v n xs) {k:Nat} (hk:v.ownBlock=some k):k < w.heap.size:=by
 obtain⟨_,h2⟩:=ho
 rcases h2 with ⟨rfl,_⟩ | ⟨g,cap,cur,rfl,hg,hh,r⟩
 ·simp[Value.ownBlock] at hk
 ·simp[Value.ownBlock] at hk;subst hk;exact lt_of_block hh
theorem ownBlock_type {w:World} {base e size n:Nat} {v:Value} {xs:List Value} (ho:w.ownsRow base e size v n xs) {k:Nat} (hk:v.ownBlock=some k):∃ c,w.heap[k]?=some (.cells c e (0,0)):=by
 obtain⟨_,h2⟩:=ho
 rcases h2 with ⟨rfl,_⟩ | ⟨g,cap,cur,rfl,hg,hh,r⟩
 ·simp[Value.ownBlock] at hk
 ·simp[Value.ownBlock] at hk;subst hk;exact⟨_,hh⟩
theorem Frm.cellAt {F:List Nat} {a b:World} (h:Frm F a b) {k o:Nat} {v:Value} (hk:a.cell? ⟨k,o,none⟩=some v) (hn:k∉F):b.cell? ⟨k,o,none⟩=some v:=
 (World.cell?_of_block (w:=a) (h.block k (World.block_lt_of_cell? _ _ hk) hn)).trans hk
theorem Frm.keep {a b:World} (h:Frm [] a b) {p:Addr} {v:Value} (hk:a.cell? p=some v):b.cell? p=some v:=
 (World.cell?_of_block (w:=a) (h.block p.block (World.block_lt_of_cell? _ _ hk) (by simp))).trans hk
theorem grown_at {w w':World} {row:Option Nat} (hg:w.grownBy w' row) {k:Nat} {o:Obj} (h:w.heap[k]?=some o) (hne:row≠some k):w'.heap[k]?=some o:=
 (hg.block k (lt_of_block h) (fun e=>hne e.symm)).trans h
theorem alloc_at {w:World} {k:Nat} {o x:Obj} (h:w.heap[k]?=some o):(w.alloc x).heap[k]?=some o:=(Below.heap_alloc _ _ _ (lt_of_block h)).trans h
theorem setCell_at {w:World} {k:Nat} {o:Obj} (h:w.heap[k]?=some o) {p:Addr} (hne:k≠p.block) (u:Value):(w.setCell p u).heap[k]?=some o:=(Below.heap_setCell _ _ _ _ hne).trans h
end Go.Proofs.YtohfkhjlnlahdaaGreat
