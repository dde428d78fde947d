/- Part of the proof. -/
import Derived.Test.YtohfkhjlnlahdaaGreatV25
import Derived.Test.YtohfkhjlnlahdaaGreatV22
import Derived.Shelf.SortM.Plain
import Derived.Shelf.SortM.SortNone
import Derived.Test.YtohfkhjlnlahdaaGreatV28
set_option linter.all false
namespace Go.Proofs.YtohfkhjlnlahdaaGreat
open Go.RowKit Go.BigFrame
def mvC1 (m:Mv):List Value:=[.int .i64 m.kind,.int .i64 m.role,.int .i64 m.step,.int .i64 m.place]
def mvC (L:List Mv):List Value:=L.flatMap mvC1
theorem mvC_append (A B:List Mv):mvC (A ++ B)=mvC A ++ mvC B:=by unfold mvC;rw[List.flatMap_append]
theorem mvC_at {L:List Mv}:∀ {i:Nat} {m:Mv},L[i]?=some m→(mvC L)[i * 4]?=some (.int .i64 m.kind)∧(mvC L)[i * 4 + 1]?=some (.int .i64 m.role)∧(mvC L)[i * 4 + 2]?=some (.int .i64 m.step)∧(mvC L)[i * 4 + 3]?=some (.int .i64 m.place):=by
 induction L with
 | nil=>intro i m h;simp at h
 | cons a L ih =>
   intro i m h
   have e:mvC (a :: L)=mvC1 a ++ mvC L:=rfl
   cases i with
   | zero=>simp at h;subst h;rw[e];exact⟨rfl,rfl,rfl,rfl⟩
   | succ i =>
     have:=ih (i:=i) (m:=m) (by simpa using h)
     have hl:(mvC1 a).length=4:=rfl
     rw[e,List.getElem?_append_right (by omega),List.getElem?_append_right (by omega),List.getElem?_append_right (by omega),List.getElem?_append_right (by omega),hl]
     rw[show (i + 1) * 4 - 4=i * 4 by omega,show (i + 1) * 4 + 1 - 4=i * 4 + 1 by omega,show (i + 1) * 4 + 2 - 4=i * 4 + 2 by omega,show (i + 1) * 4 + 3 - 4=i * 4 + 3 by omega]
     exact this
theorem mv_arr {W:World} {base:Nat} {v:Value} {L:List Mv} (h:W.ownsRow base 44 4 v L.length (mvC L)):Arr 4 MvAt W v L:=by
 obtain⟨ao,cap,rfl⟩:=own_shape h
 refine⟨ao,cap,rfl,fun i m hm=>?_⟩
 have hl:=lt_of_some hm
 obtain⟨g,c,cur,e,-,-⟩:=own_block h (by omega)
 cases e
 have hc:=fun j hj=>World.ownsRow.cellAt h j hj
 obtain⟨h0,h1,h2,h3⟩:=mvC_at hm
 exact⟨g,0,rfl,by rw[Nat.zero_add,hc _ (by omega)];exact h0,by rw[Nat.zero_add,hc _ (by omega)];exact h1,by rw[Nat.zero_add,hc _ (by omega)];exact h2,by rw[Nat.zero_add,hc _ (by omega)];exact h3⟩
abbrev MB (w:World) (ob:Nat) (L:List Mv) (W:World):Prop:=BO 31 44 4 w ob L.length (mvC L) W
abbrev mvT:List TypeId:=[31,44]
theorem Tryz.infoMv:(Tryz.prog.info? 44).map (fun i=>(i.zero,i.size,i.bytes))=some (some (.agg #[.int .i64 0,.int .i64 0,.int .i64 0,.int .i64 0]),4,32):=by kernel_rfl
theorem MB.add {w W w1:World} {ob:Nat} {L:List Mv} {ao:Option Addr} {cap:Nat} {o:Obj} {v':Value} (m:Mv) (h:MB w ob L W) (h1:W.heap[ob]?=some (.cells #[.slice ao L.length cap] 31 (0,0))) (h2:W.ownsRow w.heap.size 44 4 (.slice ao L.length cap) L.length (mvC L))
  (hg:(W.alloc o).grownBy w1 (Value.slice ao L.length cap).ownBlock) (ho:w1.ownsRow w.heap.size 44 4 v' (L.length + 1) (mvC L ++ mvC1 m)) :
  MB w ob (L ++ [m]) (w1.setCell ⟨ob,0,none⟩ v')∧Kt mvT W (w1.setCell ⟨ob,0,none⟩ v'):=by
 have:=h.step h1 h2 (by decide) hg ho
 unfold MB
 rw[mvC_append,List.length_append]
 exact⟨by simpa[mvC] using this.1,this.2⟩
theorem hits_snoc {m:ByteArray} {i k:Nat} (pre:List (Nat × ByteArray)) (e:Nat × ByteArray):hits m i k (pre ++ [e])=if e.2=m then hits m i k pre ++ [⟨1,i,k,e.1⟩] else hits m i k pre:=by
 unfold hits
 rw[List.filterMap_append,List.filterMap_cons]
 split
 ·rename_i h
  split at h
  ·cases h
  ·rename_i h2;rw[if_neg h2];simp
 ·rename_i b h
  split at h
  ·rename_i h2;cases h;rw[if_pos h2];rfl
  ·cases h
theorem hits_len {m:ByteArray} {i k:Nat} (pre:List (Nat × ByteArray)):(hits m i k pre).length≤pre.length:=List.length_filterMap_le _ _
theorem ChR.kt {bl bc cb:Nat} {cls cap:Int} {sv:Value} {L L':List ByteArray} {F:List Nat} {W W':World} (h:ChR bl bc cb cls sv L W) (hk:Kt mvT W W') (hc:Chn W cb cls cap L' F):ChR bl bc cb cls sv L W':=by
 obtain⟨sv',hc1,-⟩:=hc
 exact⟨hk.cells h.1 (by decide),hk.row h.2.1 (by decide),hk.cells h.2.2.1 (by decide),cell_of (hk.cells hc1 (by decide)) 0⟩
end Go.Proofs.YtohfkhjlnlahdaaGreat
