/- Part of the proof. -/
import Derived.Shelf.SortM.Plain
import Derived.Shelf.SortM.SortNone
import Derived.Test.YtemjlpahohmajaaGreatK31
import Derived.Test.YtemjlpahohmajaaGreatK28
import Derived.Test.YtemjlpahohmajaaGreatK26
set_option linter.all false
namespace Go.Proofs.YtemjlpahohmajaaGreat
open Go.RowKit Go.BigFrame
def ChTo (w:World) (cb:Nat) (cls:Int) (L:List ByteArray) (v:Value) (w':World):Prop:=
 ∃ bl bc sv,v=.func (.func 149) #[] #[.pointer (some ⟨bl,0,none⟩),.pointer (some ⟨bc,0,none⟩)]∧ChR bl bc cb cls sv L w'∧Frm [] w w'∧w.heap.size≤bl∧w.heap.size≤bc∧∀ k,sv.ownBlock=some k→w.heap.size≤k
theorem Chn.cell0 {w:World} {cb:Nat} {cls cap:Int} {L:List ByteArray} {F:List Nat} (h:Chn w cb cls cap L F):w.cell? ⟨cb,0,none⟩=some (.int .i64 cls):=by
 obtain⟨sv,e1,-,-,-⟩:=h;exact cell_of e1 0
set_option maxHeartbeats 1000000 in
theorem choose_any (cb:Nat) (cls cap:Int) (L:List ByteArray) (F:List Nat) (w:World) (h:Chn w cb cls cap L F) :
  Calls Tryz.prog 106 #[.pointer (some ⟨cb,0,none⟩)] w (RetV (ChTo w cb cls L)):=by
 have HC:=Lib.hid h
 have CA:=Lib.hid (all_any (h.frm ((Frm.refl [] w).alloc (.cells #[.pointer (some ⟨cb,0,none⟩)] 149)) (by simp)))
 have b0:(w.alloc (.cells #[.pointer (some ⟨cb,0,none⟩)] 149)).heap[w.heap.size]?=some (.cells #[.pointer (some ⟨cb,0,none⟩)] 149 (0,0)):=heap_alloc_new _ _
 have B0:=Lib.hid b0
 have c0:=cell_of b0 0
 clear h b0
 go_enter Tryz.func106,Tryz.ntmps106
 go_wp2_with (go_at_call 101;go_must (refine CA.out.mono ?_;rintro e w1 ⟨v,rfl,hr⟩;obtain⟨ao,cp,rfl,-,-⟩:=hr.1.shape;have HR:=Lib.hid hr;clear hr))
 go_ret
 have hf0:Frm [] w w1:=((Frm.refl [] w).alloc _).trans HR.out.2.1
 refine⟨_,rfl,_,_,_,rfl,⟨heap_alloc_new _ _,HR.out.1.frm ((Frm.refl [] _).alloc _) (by simp),((Frm.refl [] w1).alloc _).at (HR.out.2.1.at B0.out (by simp)) (by simp),(hf0.alloc _).keep HC.out.cell0⟩,hf0.alloc _,?_,Nat.le_refl _,fun k hk=>?_⟩
 ·exact hf0.size
 ·have:=HR.out.2.2 k hk;simp at this;omega
end Go.Proofs.YtemjlpahohmajaaGreat
namespace Go.Proofs.YtemjlpahohmajaaGreat
open Go.RowKit Go.BigFrame
def mvC1 (m:Mv):List Value:=[.int .i64 m.kind,.int .i64 m.role,.int .i64 m.step,.int .i64 m.place]
def mvC (L:List Mv):List Value:=L.flatMap mvC1
theorem mvC_append (A B:List Mv):mvC (A ++ B)=mvC A ++ mvC B:=by unfold mvC;rw[List.flatMap_append]
theorem mvC_at {L:List Mv}:∀ {i:Nat} {m:Mv},L[i]?=some m→(mvC L)[i * 4]?=some (.int .i64 m.kind)∧(mvC L)[i * 4 + 1]?=some (.int .i64 m.role)∧(mvC L)[i * 4 + 2]?=some (.int .i64 m.step)∧(mvC L)[i * 4 + 3]?=some (.int .i64 m.place):=by
 induction L with
 | nil=>intro i m h;simp at h
 | cons a L ih =>
   intro i m h
   have e:mvC (a :: L)=mvC1 a ++ mvC L:=rfl
   cases i with
   | zero=>simp at h;subst h;rw[e];exact⟨rfl,rfl,rfl,rfl⟩
   | succ i =>
     have:=ih (i:=i) (m:=m) (by simpa using h)
     have hl:(mvC1 a).length=4:=rfl
     rw[e,List.getElem?_append_right (by omega),List.getElem?_append_right (by omega),List.getElem?_append_right (by omega),List.getElem?_append_right (by omega),hl]
     rw[show (i + 1) * 4 - 4=i * 4 by omega,show (i + 1) * 4 + 1 - 4=i * 4 + 1 by omega,show (i + 1) * 4 + 2 - 4=i * 4 + 2 by omega,show (i + 1) * 4 + 3 - 4=i * 4 + 3 by omega]
     exact this
theorem mv_arr {W:World} {base:Nat} {v:Value} {L:List Mv} (h:W.ownsRow base 70 4 v L.length (mvC L)):Arr 4 MvAt W v L:=by
 obtain⟨ao,cap,rfl⟩:=own_shape h
 refine⟨ao,cap,rfl,fun i m hm=>?_⟩
 have hl:=lt_of_some hm
 obtain⟨g,c,cur,e,-,-⟩:=own_block h (by omega)
 cases e
 have hc:=fun j hj=>World.ownsRow.cellAt h j hj
 obtain⟨h0,h1,h2,h3⟩:=mvC_at hm
 exact⟨g,0,rfl,by rw[Nat.zero_add,hc _ (by omega)];exact h0,by rw[Nat.zero_add,hc _ (by omega)];exact h1,by rw[Nat.zero_add,hc _ (by omega)];exact h2,by rw[Nat.zero_add,hc _ (by omega)];exact h3⟩
abbrev MB (w:World) (ob:Nat) (L:List Mv) (W:World):Prop:=BO 49 70 4 w ob L.length (mvC L) W
abbrev mvT:List TypeId:=[49,70]
theorem Tryz.infoMv:(Tryz.prog.info? 70).map (fun i=>(i.zero,i.size,i.bytes))=some (some (.agg #[.int .i64 0,.int .i64 0,.int .i64 0,.int .i64 0]),4,32):=by kernel_rfl
theorem MB.add {w W w1:World} {ob:Nat} {L:List Mv} {ao:Option Addr} {cap:Nat} {o:Obj} {v':Value} (m:Mv) (h:MB w ob L W) (h1:W.heap[ob]?=some (.cells #[.slice ao L.length cap] 49 (0,0))) (h2:W.ownsRow w.heap.size 70 4 (.slice ao L.length cap) L.length (mvC L))
  (hg:(W.alloc o).grownBy w1 (Value.slice ao L.length cap).ownBlock) (ho:w1.ownsRow w.heap.size 70 4 v' (L.length + 1) (mvC L ++ mvC1 m)) :
  MB w ob (L ++ [m]) (w1.setCell ⟨ob,0,none⟩ v')∧Kt mvT W (w1.setCell ⟨ob,0,none⟩ v'):=by
 have:=h.step h1 h2 (by decide) hg ho
 unfold MB
 rw[mvC_append,List.length_append]
 exact⟨by simpa[mvC] using this.1,this.2⟩
theorem hits_snoc {m:ByteArray} {i k:Nat} (pre:List (Nat × ByteArray)) (e:Nat × ByteArray):hits m i k (pre ++ [e])=if e.2=m then hits m i k pre ++ [⟨1,i,k,e.1⟩] else hits m i k pre:=by
 unfold hits
 rw[List.filterMap_append,List.filterMap_cons]
 split
 ·rename_i h
  split at h
  ·cases h
  ·rename_i h2;rw[if_neg h2];simp
 ·rename_i b h
  split at h
  ·rename_i h2;cases h;rw[if_pos h2];rfl
  ·cases h
theorem hits_len {m:ByteArray} {i k:Nat} (pre:List (Nat × ByteArray)):(hits m i k pre).length≤pre.length:=List.length_filterMap_le _ _
theorem ChR.kt {bl bc cb:Nat} {cls cap:Int} {sv:Value} {L L':List ByteArray} {F:List Nat} {W W':World} (h:ChR bl bc cb cls sv L W) (hk:Kt mvT W W') (hc:Chn W cb cls cap L' F):ChR bl bc cb cls sv L W':=by
 obtain⟨sv',hc1,-⟩:=hc
 exact⟨hk.cells h.1 (by decide),hk.row h.2.1 (by decide),hk.cells h.2.2.1 (by decide),cell_of (hk.cells hc1 (by decide)) 0⟩
end Go.Proofs.YtemjlpahohmajaaGreat
