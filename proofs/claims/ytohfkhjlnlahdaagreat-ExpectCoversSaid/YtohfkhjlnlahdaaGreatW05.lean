/- Part of the proof. -/
import Derived.Test.YtohfkhjlnlahdaaGreatW04
import Derived.Test.YtohfkhjlnlahdaaGreatW03
import Derived.Test.YtohfkhjlnlahdaaGreatW02
import Derived.Shelf.SlicesG.Clone
set_option linter.all false
namespace Go.Proofs.YtohfkhjlnlahdaaGreat
open Go.RowKit Go.BigFrame
def Strs (w:World) (v:Value) (l:List ByteArray):Prop:=w.ownsRow 0 9 1 v l.length (l.map Value.string)
theorem Strs.of_own {w:World} {base:Nat} {v:Value} {l:List ByteArray} (h:w.ownsRow base 9 1 v l.length (l.map Value.string)):Strs w v l:=by
 obtain⟨h1,h2⟩:=h
 exact⟨h1,h2.imp id fun⟨g,cap,cur,q1,q2,q3⟩=>⟨g,cap,cur,q1,Nat.zero_le _,q3⟩⟩
theorem Strs.shape {w:World} {v:Value} {l:List ByteArray} (h:Strs w v l):∃ ao cap,v=.slice ao l.length cap∧(ao=none→l=[])∧(∀ k x,l[k]?=some x→∃ g,ao=some ⟨g,0,none⟩∧w.cell? ⟨g,k,none⟩=some (.string x)):=by
 have h0:=h
 obtain⟨h1,h2⟩:=h
 rcases h2 with ⟨hv,hn⟩ | ⟨g,cap,cur,hv,_⟩
 ·exact⟨none,0,by rw[hv,hn],fun _=>List.length_eq_zero_iff.1 hn,fun k x hk=>by have:=lt_of_some hk;omega⟩
 ·refine⟨some ⟨g,0,none⟩,cap,hv,(fun h=>by cases h),fun k x hk=>⟨g,rfl,?_⟩⟩
  rw[hv] at h0
  rw[World.ownsRow.cellAt h0 k (by have:=lt_of_some hk;omega)]
  simp[hk]
theorem Strs.frm {F:List Nat} {w w':World} {v:Value} {l:List ByteArray} (h:Strs w v l) (hf:Frm F w w') (hn:∀ k,v.ownBlock=some k→k∉F):Strs w' v l:=hf.owns h hn
def Fresh (w:World) (L:List ByteArray) (v:Value) (w':World):Prop:=Strs w' v L∧Frm [] w w'∧∀ k,v.ownBlock=some k→w.heap.size≤k
theorem clone_any (v:Value) (L:List ByteArray) (w:World) (h:Strs w v L) (hL:L.length≤1000000):Calls Tryz.prog 133 #[v] w (RetV (Fresh w L)):=by
 obtain⟨ao,cap,rfl,hn,hc⟩:=h.shape
 cases ao with
 | none =>
   obtain rfl:=hn rfl
   refine(AnyG.slices_Clone_string_nil Tryz.cloneS 0 cap w).mono ?_
   rintro e w' ⟨rfl,rfl⟩
   exact⟨_,rfl,World.ownsRow_nil _ _ _ _,Frm.refl _ _,by simp[Value.ownBlock]⟩
 | some a =>
   cases L with
   | nil =>
     refine(AnyG.slices_Clone_string_zero Tryz.cloneS a cap w).mono ?_
     rintro e w' ⟨v',rfl,ho,-,hb⟩
     exact⟨_,rfl,Strs.of_own ho,Frm.of_below hb _,fun k hk=>ownBlock_ge ho hk⟩
   | cons x xs =>
     obtain⟨g,hg,-⟩:=hc 0 x rfl
     cases hg
     refine(AnyG.slices_Clone_string Tryz.cloneS g 0 (x :: xs).length cap (x :: xs) w (Nat.le_refl _) (by omega) (fun j hj=>?_)).mono ?_
     ·have hx:(x :: xs)[j]?=some ((x :: xs).getD j ByteArray.empty):=by rw[List.getD_eq_getElem?_getD,List.getElem?_eq_getElem hj];rfl
      obtain⟨g',hg',e⟩:=hc j _ hx
      cases hg'
      rw[Nat.zero_add];exact e
     ·rintro e w' ⟨v',rfl,ho,-,hb⟩
      rw[List.take_length] at ho
      exact⟨_,rfl,Strs.of_own ho,Frm.of_below hb _,fun k hk=>ownBlock_ge ho hk⟩
structure Good (cls cap:Int) (L:List ByteArray):Prop where
 c1:1≤cls
 c3:cls≤3
 k1:1≤cap
 k64:cap≤64
 len:(L.length:Int)≤cap
 sz:∀ m∈L,1≤m.size∧m.size≤32
def Chn (w:World) (cb:Nat) (cls cap:Int) (L:List ByteArray) (F:List Nat):Prop:=
 ∃ sv,w.heap[cb]?=some (.cells #[.int .i64 cls,.int .i64 cap,sv] 233 (0,0))∧Strs w sv L∧Good cls cap L∧F=cb :: sv.ownBlock.toList
def ChnTo (w:World) (cb:Nat) (cls cap:Int) (L:List ByteArray) (F:List Nat) (w':World):Prop:=
 ∃ F',Chn w' cb cls cap L F'∧Frm F w w'∧∀ x∈F',x∈F∨w.heap.size≤x
section
variable {w w' w2:World} {cb:Nat} {cls cap:Int} {L L':List ByteArray} {F F' G:List Nat}
theorem Chn.frm (h:Chn w cb cls cap L F) (hf:Frm G w w') (hn:∀ x∈F,x∉G):Chn w' cb cls cap L F:=by
 obtain⟨sv,h1,h2,h3,rfl⟩:=h
 exact⟨sv,hf.at h1 (hn _ (by simp)),h2.frm hf (fun k hk=>hn k (by simp[hk])),h3,rfl⟩
theorem Chn.good (h:Chn w cb cls cap L F):Good cls cap L:=by
 obtain⟨sv,h1,h2,h3,rfl⟩:=h;exact h3
theorem Chn.to (h:Chn w cb cls cap L F):ChnTo w cb cls cap L F w:=⟨F,h,Frm.refl _ _,fun _ hx=>.inl hx⟩
theorem ChnTo.frm (h:ChnTo w cb cls cap L F w') (hf:Frm [] w' w2):ChnTo w cb cls cap L F w2:=by
 obtain⟨F',h1,h2,h3⟩:=h
 exact⟨F',h1.frm hf (by simp),h2.then hf (by simp),h3⟩
end
theorem none_any (cb:Nat) (cls cap:Int) (L:List ByteArray) (F:List Nat) (w:World) (h:Chn w cb cls cap L F):Calls Tryz.prog 128 #[.pointer (some ⟨cb,0,none⟩)] w (Ret (.bool false) (w=·)):=by
 have hg:=h.good.k1
 have hz:(cap == 0)=false:=by simp;omega
 obtain⟨sv,h1,-,-,-⟩:=h
 have c1:=cell_of h1 1
 clear h1
 go_enter Tryz.func128,Tryz.ntmps128
 go_wp2
 go_ret
 exact⟨rfl,rfl⟩
end Go.Proofs.YtohfkhjlnlahdaaGreat
