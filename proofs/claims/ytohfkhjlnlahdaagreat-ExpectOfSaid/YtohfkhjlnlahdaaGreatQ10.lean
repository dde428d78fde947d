/- Part of the proof. -/
import Derived.Test.YtohfkhjlnlahdaaGreatQ09
import Derived.Test.YtohfkhjlnlahdaaGreatQ05
import Derived.Test.YtohfkhjlnlahdaaGreatQ08
import Derived.Shelf.SlicesG.Clone
set_option linter.all false
namespace Go.Proofs.YtohfkhjlnlahdaaGreat
open Go.RowKit Go.BigFrame
def Strs (w:World) (v:Value) (l:List ByteArray):Prop:=w.ownsRow 0 9 1 v l.length (l.map Value.string)
theorem Strs.of_own {w:World} {base:Nat} {v:Value} {l:List ByteArray} (a:w.ownsRow base 9 1 v l.length (l.map Value.string)):Strs w v l:=by
 obtain⟨h,A⟩:=a
 exact⟨h,A.imp id fun⟨g,cap,cur,E,I,H⟩=>⟨g,cap,cur,E,Nat.zero_le _,H⟩⟩
theorem Strs.shape {w:World} {v:Value} {l:List ByteArray} (a:Strs w v l):∃ ao cap,v=.slice ao l.length cap∧(ao=none→l=[])∧(∀ k x,l[k]?=some x→∃ g,ao=some ⟨g,0,none⟩∧w.cell? ⟨g,k,none⟩=some (.string x)):=by
 have E:=a
 obtain⟨J,I⟩:=a
 rcases I with ⟨A,H⟩ | ⟨g,cap,cur,A,_⟩
 ·exact⟨none,0,by rw[A,H],fun _=>List.length_eq_zero_iff.1 H,fun k x h=>by have:=ag h;omega⟩
 ·refine⟨some ⟨g,0,none⟩,cap,A,(fun a=>by cases a),fun k x h=>⟨g,rfl,?_⟩⟩
  rw[A] at E
  rw[World.ownsRow.cellAt E k (by have:=ag h;omega)]
  simp[h]
theorem Strs.frm {F:List Nat} {w w':World} {v:Value} {l:List ByteArray} (a:Strs w v l) (h:Frm F w w') (A:∀ k,v.ownBlock=some k→k∉F):Strs w' v l:=h.owns a A
def o4 (w:World) (L:List ByteArray) (v:Value) (w':World):Prop:=Strs w' v L∧Frm [] w w'∧∀ k,v.ownBlock=some k→w.heap.size≤k
theorem ia (v:Value) (L:List ByteArray) (w:World) (I:Strs w v L) (U:L.length≤1000000):Calls Tryz.prog 133 #[v] w (aU (o4 w L)):=by
 obtain⟨ao,cap,rfl,O,E⟩:=I.shape
 cases ao with
 | none =>
   obtain rfl:=O rfl
   refine(AnyG.slices_Clone_string_nil Tryz.cloneS 0 cap w).mono ?_
   rintro e w' ⟨rfl,rfl⟩
   exact⟨_,rfl,World.ownsRow_nil _ _ _ _,Frm.refl _ _,by simp[Value.ownBlock]⟩
 | some H =>
   cases L with
   | nil =>
     refine(AnyG.slices_Clone_string_zero Tryz.cloneS H cap w).mono ?_
     rintro e w' ⟨v',rfl,a,-,hb⟩
     exact⟨_,rfl,Strs.of_own a,Frm.of_below hb _,fun k A=>aF a A⟩
   | cons x h =>
     obtain⟨g,J,-⟩:=E 0 x rfl
     cases J
     refine(AnyG.slices_Clone_string Tryz.cloneS g 0 (x :: h).length cap (x :: h) w (Nat.le_refl _) (by omega) (fun j N=>?_)).mono ?_
     ·have R:(x :: h)[j]?=some ((x :: h).getD j ByteArray.empty):=by rw[List.getD_eq_getElem?_getD,List.getElem?_eq_getElem N];rfl
      obtain⟨S,K,e⟩:=E j _ R
      cases K
      rw[Nat.zero_add];exact e
     ·rintro e w' ⟨v',rfl,a,-,hb⟩
      rw[List.take_length] at a
      exact⟨_,rfl,Strs.of_own a,Frm.of_below hb _,fun k A=>aF a A⟩
structure Good (cls cap:Int) (L:List ByteArray):Prop where
 c1:1≤cls
 c3:cls≤3
 k1:1≤cap
 k64:cap≤64
 len:(L.length:Int)≤cap
 sz:∀ m∈L,1≤m.size∧m.size≤32
def Chn (w:World) (cb:Nat) (cls cap:Int) (L:List ByteArray) (F:List Nat):Prop:=
 ∃ a,w.heap[cb]?=some (.cells #[.int .i64 cls,.int .i64 cap,a] 233 (0,0))∧Strs w a L∧Good cls cap L∧F=cb :: a.ownBlock.toList
def ChnTo (w:World) (cb:Nat) (cls cap:Int) (L:List ByteArray) (F:List Nat) (w':World):Prop:=
 ∃ F',Chn w' cb cls cap L F'∧Frm F w w'∧∀ x∈F',x∈F∨w.heap.size≤x
section
variable {w w' w2:World} {cb:Nat} {cls cap:Int} {L L':List ByteArray} {F F' G:List Nat}
theorem Chn.frm (A:Chn w cb cls cap L F) (a:Frm G w w') (h:∀ x∈F,x∉G):Chn w' cb cls cap L F:=by
 obtain⟨K,E,H,I,rfl⟩:=A
 exact⟨K,a.at E (h _ (by simp)),H.frm a (fun k J=>h k (by simp[J])),I,rfl⟩
theorem Chn.good (a:Chn w cb cls cap L F):Good cls cap L:=by
 obtain⟨H,A,E,h,rfl⟩:=a;exact h
theorem Chn.to (a:Chn w cb cls cap L F):ChnTo w cb cls cap L F w:=⟨F,a,Frm.refl _ _,fun _ h=>.inl h⟩
theorem ChnTo.frm (h:ChnTo w cb cls cap L F w') (a:Frm [] w' w2):ChnTo w cb cls cap L F w2:=by
 obtain⟨F',A,E,H⟩:=h
 exact⟨F',A.frm a (by simp),E.then a (by simp),H⟩
end
theorem dd (cb:Nat) (cls cap:Int) (L:List ByteArray) (F:List Nat) (w:World) (a:Chn w cb cls cap L F):Calls Tryz.prog 128 #[.pointer (some ⟨cb,0,none⟩)] w (Ret (.bool false) (w=·)):=by
 have E:=a.good.k1
 have H:(cap == 0)=false:=by simp;omega
 obtain⟨I,h,-,-,-⟩:=a
 have A:=ae h 1
 clear h
 go_enter Tryz.func128,Tryz.ntmps128
 go_wp2
 go_ret
 exact⟨rfl,rfl⟩
end Go.Proofs.YtohfkhjlnlahdaaGreat
