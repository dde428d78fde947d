/- Part of the proof. -/
import Derived.Lib.Builder
import Derived.Shelf.SortM.Plain
import Derived.Shelf.SortM.SortNone
import Derived.Sort.CutIn
import Derived.OrdersIn
import Derived.Lib.AppendStr
import Derived.Laws.OwnMore
import Derived.Test.YtkphhjekfimmlaaGreatH38
import Derived.LaidEql
import Derived.Test.YtkphhjekfimmlaaGreatH34
set_option linter.all false
namespace Go.Proofs.YtkphhjekfimmlaaGreat
open Go.RowKit Go.BigFrame
def bA:ByteArray:={ data:=#[97] }
def bB:ByteArray:={ data:=#[98] }
def bX:ByteArray:={ data:=#[120] }
def bY:ByteArray:={ data:=#[121] }
def bM:ByteArray:={ data:=#[109] }
def bS:ByteArray:={ data:=#[115] }
def smS (cap:Int):SesD:=⟨bS,[⟨bA,[⟨bX,true,0⟩],[],[⟨bX,bX,1,bM,bB,emptyS,0,0,0⟩]⟩,⟨bB,[⟨bY,true,0⟩],[],[⟨bY,bY,2,bM,bA,emptyS,0,0,0⟩]⟩],1,cap⟩
theorem smS_sm (cap:Int):SmS (smS cap):=by
 refine⟨by simp[smS],fun r hr=>?_⟩
 simp only[smS,List.mem_cons,List.not_mem_nil,or_false] at hr
 rcases hr with rfl | rfl
 all_goals
  refine⟨by simp,by simp,by simp,fun x hx=>?_,fun x hx=>?_⟩
  ·simp only[List.mem_cons,List.not_mem_nil,or_false] at hx
   subst hx
   unfold wf64;decide
  ·simp only[List.mem_cons,List.not_mem_nil,or_false] at hx
   subst hx
   decide
end Go.Proofs.YtkphhjekfimmlaaGreat
namespace Go.Proofs.YtkphhjekfimmlaaGreat
open Go.RowKit Go.BigFrame
theorem num34_any (e:Int) (W:World):Calls Tryz.prog 34 #[.int .i64 e] W (Ret (.int .i64 e) (W=·)):=by
 go_enter Tryz.func34,Tryz.ntmps34
 go_wp2
 go_ret
 exact⟨rfl,rfl⟩
set_option maxHeartbeats 2000000 in
set_option maxRecDepth 100000 in
theorem sample34_any (w:World):Calls Tryz.prog 91 #[] w (RetV fun v w'=>SesV w' v (smS 2)∧Frm [] w w'):=by
 go_enter Tryz.func91,Tryz.ntmps91
 go_upto_region 3 with fail
 obtain⟨X,hX⟩:∃ X,(((((((w.alloc (.cells #[.string { data:=#[] },.slice none 0 0,.int .i64 0,.int .i64 0] 25)).alloc (.cells #[.string { data:=#[120] },.bool true,.int .i64 0] 62)).alloc (.cells #[.string { data:=#[120] },.string { data:=#[120] },.int .i64 1,.string { data:=#[109] },.string { data:=#[98] },.string { data:=#[] },.int .i64 0,.int .i64 0,.int .i64 0] 60)).alloc (.cells #[.string { data:=#[97] },.slice (some ⟨w.heap.size + 1,0,none⟩) 1 1,.slice none 0 0,.slice (some ⟨w.heap.size + 1 + 1,0,none⟩) 1 1] 53)).alloc (.cells #[.string { data:=#[121] },.bool true,.int .i64 0] 62)).alloc (.cells #[.string { data:=#[121] },.string { data:=#[121] },.int .i64 2,.string { data:=#[109] },.string { data:=#[97] },.string { data:=#[] },.int .i64 0,.int .i64 0,.int .i64 0] 60)).alloc (.cells #[.string { data:=#[98] },.slice (some ⟨w.heap.size + 1 + 1 + 1 + 1,0,none⟩) 1 1,.slice none 0 0,.slice (some ⟨w.heap.size + 1 + 1 + 1 + 1 + 1,0,none⟩) 1 1] 53))=X:=⟨_,rfl⟩
 have HF:Hid (Frm [] w X):=Lib.hid (by rw[← hX];exact(((((((Frm.refl [] w).alloc _).alloc _).alloc _).alloc _).alloc _).alloc _).alloc _)
 have H0:Hid (X.heap[w.heap.size]?=some (.cells #[.string { data:=#[] },.slice none 0 0,.int .i64 0,.int .i64 0] 25 (0,0))):=Lib.hid (by rw[← hX];exact alloc_at (alloc_at (alloc_at (alloc_at (alloc_at (alloc_at (alloc_top (by simp))))))))
 have H1:Hid (X.heap[w.heap.size + 1]?=some (.cells #[.string { data:=#[120] },.bool true,.int .i64 0] 62 (0,0))):=Lib.hid (by rw[← hX];exact alloc_at (alloc_at (alloc_at (alloc_at (alloc_at (alloc_top (by simp)))))))
 have H2:Hid (X.heap[w.heap.size + 1 + 1]?=some (.cells #[.string { data:=#[120] },.string { data:=#[120] },.int .i64 1,.string { data:=#[109] },.string { data:=#[98] },.string { data:=#[] },.int .i64 0,.int .i64 0,.int .i64 0] 60 (0,0))):=Lib.hid (by rw[← hX];exact alloc_at (alloc_at (alloc_at (alloc_at (alloc_top (by simp))))))
 have H3:Hid (X.heap[w.heap.size + 1 + 1 + 1]?=some (.cells #[.string { data:=#[97] },.slice (some ⟨w.heap.size + 1,0,none⟩) 1 1,.slice none 0 0,.slice (some ⟨w.heap.size + 1 + 1,0,none⟩) 1 1] 53 (0,0))):=Lib.hid (by rw[← hX];exact alloc_at (alloc_at (alloc_at (alloc_top (by simp)))))
 have H4:Hid (X.heap[w.heap.size + 1 + 1 + 1 + 1]?=some (.cells #[.string { data:=#[121] },.bool true,.int .i64 0] 62 (0,0))):=Lib.hid (by rw[← hX];exact alloc_at (alloc_at (alloc_top (by simp))))
 have H5:Hid (X.heap[w.heap.size + 1 + 1 + 1 + 1 + 1]?=some (.cells #[.string { data:=#[121] },.string { data:=#[121] },.int .i64 2,.string { data:=#[109] },.string { data:=#[97] },.string { data:=#[] },.int .i64 0,.int .i64 0,.int .i64 0] 60 (0,0))):=Lib.hid (by rw[← hX];exact alloc_at (alloc_top (by simp)))
 have H6:Hid (X.heap[w.heap.size + 1 + 1 + 1 + 1 + 1 + 1]?=some (.cells #[.string { data:=#[98] },.slice (some ⟨w.heap.size + 1 + 1 + 1 + 1,0,none⟩) 1 1,.slice none 0 0,.slice (some ⟨w.heap.size + 1 + 1 + 1 + 1 + 1,0,none⟩) 1 1] 53 (0,0))):=Lib.hid (by rw[← hX];exact alloc_top (by simp))
 rw[hX]
 have HB0:Hid ((X.alloc (.cells #[.string { data:=#[97] },.slice (some ⟨w.heap.size + 1,0,none⟩) 1 1,.slice none 0 0,.slice (some ⟨w.heap.size + 1 + 1,0,none⟩) 1 1,.string { data:=#[98] },.slice (some ⟨w.heap.size + 1 + 1 + 1 + 1,0,none⟩) 1 1,.slice none 0 0,.slice (some ⟨w.heap.size + 1 + 1 + 1 + 1 + 1,0,none⟩) 1 1] 53)).heap[w.heap.size]?=some (.cells #[.string { data:=#[] },.slice none 0 0,.int .i64 0,.int .i64 0] 25 (0,0))):=Lib.hid (alloc_at H0.out)
 clear hX
 go_wp2_with (first
  | (refine wpList_load_whole rfl 53 _ rfl _ rfl _ 53 H3.out _ Tryz.underlying53 rfl (by kernel_rfl) ?_)
  | (refine wpList_load_whole rfl 53 _ rfl _ rfl _ 53 H6.out _ Tryz.underlying53 rfl (by kernel_rfl) ?_)
  | (refine wpList_store_row rfl 25 _ _ rfl _ _ _ 25 rfl rfl HB0.out rfl (by kernel_rfl) (by simp[Value.oneCell']) ?_;intro w2 hb2 hf2))
 have hfX:Frm [w.heap.size] X w2:=((Frm.refl [] X).alloc _).mono (by simp) |>.trans hf2
 have hr:w2.heap[X.heap.size]?=some (.cells #[.string { data:=#[97] },.slice (some ⟨w.heap.size + 1,0,none⟩) 1 1,.slice none 0 0,.slice (some ⟨w.heap.size + 1 + 1,0,none⟩) 1 1,.string { data:=#[98] },.slice (some ⟨w.heap.size + 1 + 1 + 1 + 1,0,none⟩) 1 1,.slice none 0 0,.slice (some ⟨w.heap.size + 1 + 1 + 1 + 1 + 1,0,none⟩) 1 1] 53 (0,0)):=hf2.at (heap_alloc_new X _) (by have:=HF.out.size;have:=lt_of_block H0.out;simp;omega)
 have c1:=hfX.at H1.out (by simp <;> omega)
 have c2:=hfX.at H2.out (by simp <;> omega)
 have c4:=hfX.at H4.out (by simp <;> omega)
 have c5:=hfX.at H5.out (by simp <;> omega)
 refine bodyPost_ret (results_c1 (d:=_) (Tryz.results91) rfl hb2 rfl Tryz.underlying25 (by kernel_rfl)) rfl ⟨_,rfl,?_,HF.out.then hfX (by simp)⟩
 refine⟨_,rfl,_,2,rfl,fun i r hi=>?_⟩
 match i,hi with
 | 0,hi =>
   cases hi
   refine⟨X.heap.size,0,rfl,_,_,_,cell_of hr 0,cell_of hr 1,cell_of hr 2,cell_of hr 3,⟨⟨_,1,rfl,fun j x hj=>?_⟩,Arr.nil _ _ _,⟨_,1,rfl,fun j x hj=>?_⟩,fun _ _ _ e=>by cases e;exact Nat.le_refl _⟩⟩
   ·match j,hj with
    | 0,hj=>cases hj;exact⟨_,0,rfl,cell_of c1 0,cell_of c1 1,cell_of c1 2⟩
    | j + 1,hj=>simp at hj
   ·match j,hj with
    | 0,hj=>cases hj;exact⟨_,0,rfl,cell_of c2 0,cell_of c2 1,cell_of c2 2,cell_of c2 3,cell_of c2 4,cell_of c2 5,cell_of c2 6,cell_of c2 7,cell_of c2 8⟩
    | j + 1,hj=>simp at hj
 | 1,hi =>
   cases hi
   refine⟨X.heap.size,0,rfl,_,_,_,cell_of hr 4,cell_of hr 5,cell_of hr 6,cell_of hr 7,⟨⟨_,1,rfl,fun j x hj=>?_⟩,Arr.nil _ _ _,⟨_,1,rfl,fun j x hj=>?_⟩,fun _ _ _ e=>by cases e;exact Nat.le_refl _⟩⟩
   ·match j,hj with
    | 0,hj=>cases hj;exact⟨_,0,rfl,cell_of c4 0,cell_of c4 1,cell_of c4 2⟩
    | j + 1,hj=>simp at hj
   ·match j,hj with
    | 0,hj=>cases hj;exact⟨_,0,rfl,cell_of c5 0,cell_of c5 1,cell_of c5 2,cell_of c5 3,cell_of c5 4,cell_of c5 5,cell_of c5 6,cell_of c5 7,cell_of c5 8⟩
    | j + 1,hj=>simp at hj
 | i + 2,hi=>simp[smS] at hi
end Go.Proofs.YtkphhjekfimmlaaGreat
