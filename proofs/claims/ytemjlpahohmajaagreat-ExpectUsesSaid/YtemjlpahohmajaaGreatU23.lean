/- Part of the proof. -/
import Derived.Test.YtemjlpahohmajaaGreatU01
import Derived.Deep.MidRow
import Derived.Deep.WholeRow
set_option linter.all false
namespace Go.Proofs.YtemjlpahohmajaaGreat
open Go.RowKit
theorem setCells_block:∀ (vs:List Value) (o:Nat) (w:World) (b:Nat) (c:Array Value) (t:TypeId),w.heap[b]?=some (.cells c t (0,0))→o + vs.length≤c.size →
  ∃ c',(w.setCells b o vs).heap[b]?=some (.cells c' t (0,0))∧c'.size=c.size∧(∀ j,j < o→c'[j]?=c[j]?)∧(∀ j v,vs[j]?=some v→c'[o + j]?=some v)∧Frm [b] w (w.setCells b o vs)
 | [],o,w,b,c,t,h,_=>⟨c,h,rfl,fun _ _=>rfl,fun j v h=>by simp at h,Frm.refl _ _⟩
 | v :: vs,o,w,b,c,t,h,hl=>by
   have hb:=block_setCell h o v
   simp only[List.length_cons] at hl
   obtain⟨c',h1,h2,h3,h4,h5⟩:=setCells_block vs (o + 1) (w.setCell ⟨b,o,none⟩ v) b _ t hb (by simp;omega)
   refine⟨c',h1,by simpa using h2,fun j hj=>?_,fun j u hu=>?_,((Frm.refl _ _).setCell _ (.inl (by simp)) _).trans h5⟩
   ·rw[h3 j (by omega),Array.getElem?_setIfInBounds_ne (by omega)]
   ·cases j with
    | zero =>
      simp at hu;subst hu
      rw[Nat.add_zero,h3 o (by omega),Array.getElem?_setIfInBounds_self_of_lt (by omega)]
    | succ j =>
      rw[show o + (j + 1)=o + 1 + j by omega]
      exact h4 j u (by simpa using hu)
theorem setCells_whole {w:World} {b:Nat} {c:Array Value} {t:TypeId} (h:w.heap[b]?=some (.cells c t (0,0))) (A:Array Value) (hs:A.size=c.size) :
  (w.setCells b 0 A.toList).heap[b]?=some (.cells A t (0,0))∧Frm [b] w (w.setCells b 0 A.toList):=by
 obtain⟨c',h1,h2,_,h4,h5⟩:=setCells_block A.toList 0 w b c t h (by simp[hs])
 refine⟨?_,h5⟩
 rw[h1]
 congr 2
 apply Array.ext_getElem?
 intro i
 by_cases hi:i < A.size
 ·have:=h4 i A[i] (by simp[hi])
  rw[Nat.zero_add] at this
  rw[this];simp[hi]
 ·rw[Array.getElem?_eq_none (by omega),Array.getElem?_eq_none (by omega)]
section
variable {P:Program} {ops:Array Oper} {rest:List Oper} {o:Oper} {a:Act} {Q:Exit→Act→World→Prop} {w:World}
theorem run_box_row (w:World) (ty:TypeId) (A:Array Value):(Instr.box ty (.agg A)).run P w=.ok (.pointer (some ⟨w.heap.size,0,none⟩)) (w.alloc (.cells A ty)):=by
 simp[Instr.box,newVar,newRow,Value.cells,go_sem]
theorem wpList_box_row (hgd:o.guard=none) (ty:TypeId) (x:Operand) (ho:o.op=.box ty x) (A:Array Value) (he:a.eval x=.agg A)
  (h:wpList P ops Q rest (a.put o.dst (.pointer (some ⟨w.heap.size,0,none⟩))) (w.alloc (.cells A ty))):wpList P ops Q (o :: rest) a w:=
 wpList_plain hgd fun _ hK=>by
  unfold Oper.wp execOp
  simp only[ho,he,Sem.run_bind,Sem.run_pure,Result.andThen_ok,run_box_row w ty A]
  exact hK _ _ h
theorem wpList_store_row (hgd:o.guard=none) (ty:TypeId) (x y:Operand) (ho:o.op=.store ty x y) (b:Nat) (A C:Array Value) (t:TypeId) (hx:a.eval x=.pointer (some ⟨b,0,none⟩)) (hy:a.eval y=.agg A)
  (hb:w.heap[b]?=some (.cells C t (0,0))) (hs:A.size=C.size) (hi:(P.info? ty).map (·.size)=some A.size) (h1:A.all (·.oneCell')=true)
  (h:∀ w',w'.heap[b]?=some (.cells A t (0,0))→Frm [b] w w'→wpList P ops Q rest (a.put o.dst undef) w'):wpList P ops Q (o :: rest) a w:=by
 have hw:=setCells_whole hb A hs
 refine wpList_store_mid hgd ty x y ho b 0 A hx hy (fun j hj=>⟨?_,?_⟩) hi h1 (h _ hw.1 hw.2)
 ·rw[Nat.zero_add,cell_of hb];simp[show j < C.size by omega]
 ·rw[Nat.zero_add];exact free_of hb j
theorem wpList_load_whole (hgd:o.guard=none) (ty:TypeId) (x:Operand) (ho:o.op=.load ty x) (b:Nat) (hx:a.eval x=.pointer (some ⟨b,0,none⟩)) (A:Array Value) (t:TypeId) (hb:w.heap[b]?=some (.cells A t (0,0)))
 (d:TypeDesc) (hu:P.underlying ty=some d) (hd:(match d with | .struct _ | .array _ _=>true | _=>false)=true) (hi:(P.info? ty).map (·.size)=some A.size)
 (h:wpList P ops Q rest (a.put o.dst (.agg A)) w):wpList P ops Q (o :: rest) a w:=wpList_load_row hgd ty x ho b hx t A (0,0) d hb hu hd hi h
end
end Go.Proofs.YtemjlpahohmajaaGreat
