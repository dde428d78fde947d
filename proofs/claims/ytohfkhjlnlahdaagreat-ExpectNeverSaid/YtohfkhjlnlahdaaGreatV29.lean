/- Part of the proof. -/
import Derived.Shelf.SortM.Plain
import Derived.Shelf.SortM.SortNone
import Derived.Test.YtohfkhjlnlahdaaGreatV28
set_option linter.all false
namespace Go.Proofs.YtohfkhjlnlahdaaGreat
open Go.RowKit Go.BigFrame
def ChTo (w:World) (cb:Nat) (cls:Int) (L:List ByteArray) (v:Value) (w':World):Prop:=
 ∃ bl bc sv,v=.func (.func 178) #[] #[.pointer (some ⟨bl,0,none⟩),.pointer (some ⟨bc,0,none⟩)]∧ChR bl bc cb cls sv L w'∧Frm [] w w'∧w.heap.size≤bl∧w.heap.size≤bc∧∀ k,sv.ownBlock=some k→w.heap.size≤k
theorem Chn.cell0 {w:World} {cb:Nat} {cls cap:Int} {L:List ByteArray} {F:List Nat} (h:Chn w cb cls cap L F):w.cell? ⟨cb,0,none⟩=some (.int .i64 cls):=by
 obtain⟨sv,e1,-,-,-⟩:=h;exact cell_of e1 0
set_option maxHeartbeats 1000000 in
theorem choose_any (cb:Nat) (cls cap:Int) (L:List ByteArray) (F:List Nat) (w:World) (h:Chn w cb cls cap L F) :
  Calls Tryz.prog 123 #[.pointer (some ⟨cb,0,none⟩)] w (RetV (ChTo w cb cls L)):=by
 have HC:=Lib.hid h
 have CA:=Lib.hid (all_any (h.frm ((Frm.refl [] w).alloc (.cells #[.pointer (some ⟨cb,0,none⟩)] 130)) (by simp)))
 have b0:(w.alloc (.cells #[.pointer (some ⟨cb,0,none⟩)] 130)).heap[w.heap.size]?=some (.cells #[.pointer (some ⟨cb,0,none⟩)] 130 (0,0)):=heap_alloc_new _ _
 have B0:=Lib.hid b0
 have c0:=cell_of b0 0
 clear h b0
 go_enter Tryz.func123,Tryz.ntmps123
 go_wp2_with (go_at_call 154;go_must (refine CA.out.mono ?_;rintro e w1 ⟨v,rfl,hr⟩;obtain⟨ao,cp,rfl,-,-⟩:=hr.1.shape;have HR:=Lib.hid hr;clear hr))
 go_ret
 have hf0:Frm [] w w1:=((Frm.refl [] w).alloc _).trans HR.out.2.1
 refine⟨_,rfl,_,_,_,rfl,⟨heap_alloc_new _ _,HR.out.1.frm ((Frm.refl [] _).alloc _) (by simp),((Frm.refl [] w1).alloc _).at (HR.out.2.1.at B0.out (by simp)) (by simp),(hf0.alloc _).keep HC.out.cell0⟩,hf0.alloc _,?_,Nat.le_refl _,fun k hk=>?_⟩
 ·exact hf0.size
 ·have:=HR.out.2.2 k hk;simp at this;omega
end Go.Proofs.YtohfkhjlnlahdaaGreat
