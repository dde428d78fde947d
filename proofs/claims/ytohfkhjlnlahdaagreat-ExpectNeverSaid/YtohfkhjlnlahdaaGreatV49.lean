/- Part of the proof. -/
import Derived.Test.YtohfkhjlnlahdaaGreatV23
import Derived.Test.YtohfkhjlnlahdaaGreatV22
import Derived.Test.YtohfkhjlnlahdaaGreatV32
set_option linter.all false
namespace Go.Proofs.YtohfkhjlnlahdaaGreat
open Go.RowKit Go.BigFrame
def insB (a:ByteArray):List ByteArray→List ByteArray
 | []=>[a]
 | b :: l=>if byt a≤byt b then a :: b :: l else b :: insB a l
def srtB:List ByteArray→List ByteArray
 | []=>[]
 | a :: l=>insB a (srtB l)
theorem insB_perm (a:ByteArray):∀ l,(insB a l).Perm (a :: l)
 | []=>List.Perm.refl _
 | b :: l=>by
   unfold insB
   split
   ·exact List.Perm.refl _
   ·exact((insB_perm a l).cons b).trans (List.Perm.swap a b l)
theorem srtB_perm:∀ l,(srtB l).Perm l
 | []=>List.Perm.refl _
 | a :: l=>(insB_perm a (srtB l)).trans ((srtB_perm l).cons a)
theorem insB_sorted (a:ByteArray):∀ l:List ByteArray,l.Pairwise (fun a b=>byt a≤byt b)→(insB a l).Pairwise fun a b=>byt a≤byt b
 | [],_=>by unfold insB;simp
 | b :: l,h=>by
   obtain⟨h1,h2⟩:=List.pairwise_cons.1 h
   unfold insB
   split
   ·rename_i hab
    refine List.pairwise_cons.2 ⟨fun x hx=>?_,h⟩
    rcases List.mem_cons.1 hx with rfl | hx
    ·exact hab
    ·exact le_tr hab (h1 x hx)
   ·rename_i hab
    refine List.pairwise_cons.2 ⟨fun x hx=>?_,insB_sorted a l h2⟩
    rcases List.mem_cons.1 ((insB_perm a l).mem_iff.1 hx) with rfl | hx
    ·exact(le_tot _ _).resolve_left hab
    ·exact h1 x hx
theorem srtB_sorted:∀ l,(srtB l).Pairwise fun a b=>byt a≤byt b
 | []=>List.Pairwise.nil
 | a :: l=>insB_sorted a _ (srtB_sorted l)
def keyLi (cls:Int) (L:List ByteArray):List ByteArray:=if cls=2 then srtB L else L
theorem keyL_i (cls:Int) (L:List ByteArray):keyL cls L=keyLi cls L:=by
 unfold keyLi
 split
 ·rename_i h
  rw[h]
  exact(key_unique (srtB_perm L) (srtB_sorted L)).symm
 ·rename_i h
  unfold keyL
  rw[if_neg h]
def keyWayI (s:SesD) (x:PS) (i k:Nat):List UInt8:=if i=k then [] else UInt8.ofNat (x.way i k).length :: byt (keyB (keyLi s.cls (x.way i k)))
theorem keyWay_i (s:SesD) (x:PS) (i:Nat):keyWay s x i=keyWayI s x i:=by
 funext k
 unfold keyWay keyWayI
 rw[keyL_i]
def keyPI (s:SesD) (x:PS):List UInt8:=cat (keyRole x) s.roles.length ++ cat (fun i=>cat (keyWayI s x i) s.roles.length) s.roles.length
theorem keyP_i (s:SesD) (x:PS):keyP s x=keyPI s x:=by
 unfold keyP keyPI
 simp only[keyWay_i]
def hasKI (s:SesD) (N:List Nd) (k:List UInt8):Bool:=N.any fun d=>decide (keyPI s d.st=k)
theorem hasK_i (s:SesD) (N:List Nd) (k:List UInt8):hasK s N k=hasKI s N k:=by
 unfold hasK hasKI
 simp only[keyP_i]
def addMvI (s:SesD) (lim:Nat) (x:PS) (n lvl:Nat):List Nd→List Mv→List Nd × Bool
 | N,[]=>(N,true)
 | N,m :: ms =>
   if hasKI s N (keyPI s (nextP s x m)) then addMvI s lim x n lvl N ms
   else if N.length=lim then (N,false)
   else addMvI s lim x n lvl (N ++ [⟨nextP s x m,n,m,lvl + 1⟩]) ms
theorem addMv_i (s:SesD) (lim:Nat) (x:PS) (n lvl:Nat):∀ (ms:List Mv) (N:List Nd),addMv s lim x n lvl N ms=addMvI s lim x n lvl N ms
 | [],N=>rfl
 | m :: ms,N=>by
   unfold addMv addMvI
   rw[hasK_i,keyP_i,addMv_i s lim x n lvl ms,addMv_i s lim x n lvl ms]
def bfsI (s:SesD) (lim:Nat):Nat→Nat→List Nd→List Nd × Bool
 | 0,_,N=>(N,true)
 | f + 1,n,N=>match N[n]? with
   | none=>(N,true)
   | some d=>match addMvI s lim d.st n d.lvl N (movesP s d.st) with
     | (N',true)=>bfsI s lim f (n + 1) N'
     | (N',false)=>(N',false)
theorem bfs_i (s:SesD) (lim:Nat):∀ (f n:Nat) (N:List Nd),bfs s lim f n N=bfsI s lim f n N
 | 0,_,_=>rfl
 | f + 1,n,N=>by
   unfold bfs bfsI
   cases N[n]? with
   | none=>rfl
   | some d =>
     simp only[addMv_i]
     obtain⟨⟨N',b⟩,hr⟩:∃ r,addMvI s lim d.st n d.lvl N (movesP s d.st)=r:=⟨_,rfl⟩
     rw[hr]
     cases b with
     | true=>exact bfs_i s lim f (n + 1) N'
     | false=>rfl
theorem search_i (s:SesD) (lim:Nat):searchP s lim=bfsI s lim (lim + 1) 0 [nd0 s]:=bfs_i s lim _ _ _
def bN:ByteArray:={ data:=#[110] }
def bR:ByteArray:={ data:=#[114] }
def smE:SesD:=⟨bS,[⟨bA,[⟨bX,true,0⟩],[],[⟨bX,bX,1,bM,bB,emptyS,0,0,0⟩,⟨bX,bX,1,bN,bB,emptyS,0,0,0⟩]⟩,⟨bB,[⟨bR,true,0⟩],[],[⟨bR,bR,2,bM,bA,emptyS,0,0,0⟩]⟩],2,2⟩
def km1:Mv:=⟨1,0,1,0⟩
def spE:Sp:=⟨1,0,bN⟩
theorem e_ck:ckSes smE=0:=by decide +kernel
theorem e_never:neverP smE=[spE]:=by decide +kernel
theorem e_whole:(searchP smE 100).2=true:=by rw[search_i];decide +kernel
theorem e_all:(allSp smE (searchP smE 100).1).map Prod.snd=[spE,spE,spE]:=by rw[search_i];decide +kernel
theorem e_first:((allSp smE (searchP smE 100).1).head?.map fun e=>traceP (searchP smE 100).1 e.1)=some [km1]:=by rw[search_i];decide +kernel
theorem e_used:((usedP smE (searchP smE 100).1 0 0 && usedP smE (searchP smE 100).1 0 1) && usedP smE (searchP smE 100).1 1 0)=true:=by rw[search_i];decide +kernel
theorem e_m0:km0∈movesP smE (firstP smE)∧km1∈movesP smE (nextP smE (firstP smE) km0)∧ofP smE (nextP smE (nextP smE (firstP smE) km0) km1)=[spE]:=by decide +kernel
theorem smE_sm:SmS smE:=by
 refine⟨by simp[smE],fun r hr=>?_⟩
 simp only[smE,List.mem_cons,List.not_mem_nil,or_false] at hr
 rcases hr with rfl | rfl
 all_goals
  refine⟨by simp,by simp,by simp,fun x hx=>?_,fun x hx=>?_⟩
  ·simp only[List.mem_cons,List.not_mem_nil,or_false] at hx
   first
    | (rcases hx with rfl | rfl <;> (unfold wf64;decide))
    | (subst hx;unfold wf64;decide)
  ·simp only[List.mem_cons,List.not_mem_nil,or_false] at hx
   first
    | (rcases hx with rfl | rfl <;> decide)
    | (subst hx;decide)
set_option maxHeartbeats 2000000 in
set_option maxRecDepth 100000 in
theorem sample36_any (w:World):Calls Tryz.prog 56 #[] w (RetV fun v w'=>SesV w' v smE∧Frm [] w w'):=by
 go_enter Tryz.func56,Tryz.ntmps56
 go_upto_region 3 with fail
 obtain⟨X,hX⟩:∃ X,(((((((w.alloc (.cells #[.string { data:=#[] },.slice none 0 0,.int .i64 0,.int .i64 0] 25)).alloc (.cells #[.string { data:=#[120] },.bool true,.int .i64 0] 206)).alloc (.cells #[.string { data:=#[120] },.string { data:=#[120] },.int .i64 1,.string { data:=#[109] },.string { data:=#[98] },.string { data:=#[] },.int .i64 0,.int .i64 0,.int .i64 0,.string { data:=#[120] },.string { data:=#[120] },.int .i64 1,.string { data:=#[110] },.string { data:=#[98] },.string { data:=#[] },.int .i64 0,.int .i64 0,.int .i64 0] 137)).alloc (.cells #[.string { data:=#[97] },.slice (some ⟨w.heap.size + 1,0,none⟩) 1 1,.slice none 0 0,.slice (some ⟨w.heap.size + 1 + 1,0,none⟩) 2 2] 87)).alloc (.cells #[.string { data:=#[114] },.bool true,.int .i64 0] 206)).alloc (.cells #[.string { data:=#[114] },.string { data:=#[114] },.int .i64 2,.string { data:=#[109] },.string { data:=#[97] },.string { data:=#[] },.int .i64 0,.int .i64 0,.int .i64 0] 137)).alloc (.cells #[.string { data:=#[98] },.slice (some ⟨w.heap.size + 1 + 1 + 1 + 1,0,none⟩) 1 1,.slice none 0 0,.slice (some ⟨w.heap.size + 1 + 1 + 1 + 1 + 1,0,none⟩) 1 1] 87))=X:=⟨_,rfl⟩
 have HF:Hid (Frm [] w X):=Lib.hid (by rw[← hX];exact(((((((Frm.refl [] w).alloc _).alloc _).alloc _).alloc _).alloc _).alloc _).alloc _)
 have H0:Hid (X.heap[w.heap.size]?=some (.cells #[.string { data:=#[] },.slice none 0 0,.int .i64 0,.int .i64 0] 25 (0,0))):=Lib.hid (by rw[← hX];exact alloc_at (alloc_at (alloc_at (alloc_at (alloc_at (alloc_at (alloc_top (by simp))))))))
 have H1:Hid (X.heap[w.heap.size + 1]?=some (.cells #[.string { data:=#[120] },.bool true,.int .i64 0] 206 (0,0))):=Lib.hid (by rw[← hX];exact alloc_at (alloc_at (alloc_at (alloc_at (alloc_at (alloc_top (by simp)))))))
 have H2:Hid (X.heap[w.heap.size + 1 + 1]?=some (.cells #[.string { data:=#[120] },.string { data:=#[120] },.int .i64 1,.string { data:=#[109] },.string { data:=#[98] },.string { data:=#[] },.int .i64 0,.int .i64 0,.int .i64 0,.string { data:=#[120] },.string { data:=#[120] },.int .i64 1,.string { data:=#[110] },.string { data:=#[98] },.string { data:=#[] },.int .i64 0,.int .i64 0,.int .i64 0] 137 (0,0))):=Lib.hid (by rw[← hX];exact alloc_at (alloc_at (alloc_at (alloc_at (alloc_top (by simp))))))
 have H3:Hid (X.heap[w.heap.size + 1 + 1 + 1]?=some (.cells #[.string { data:=#[97] },.slice (some ⟨w.heap.size + 1,0,none⟩) 1 1,.slice none 0 0,.slice (some ⟨w.heap.size + 1 + 1,0,none⟩) 2 2] 87 (0,0))):=Lib.hid (by rw[← hX];exact alloc_at (alloc_at (alloc_at (alloc_top (by simp)))))
 have H4:Hid (X.heap[w.heap.size + 1 + 1 + 1 + 1]?=some (.cells #[.string { data:=#[114] },.bool true,.int .i64 0] 206 (0,0))):=Lib.hid (by rw[← hX];exact alloc_at (alloc_at (alloc_top (by simp))))
 have H5:Hid (X.heap[w.heap.size + 1 + 1 + 1 + 1 + 1]?=some (.cells #[.string { data:=#[114] },.string { data:=#[114] },.int .i64 2,.string { data:=#[109] },.string { data:=#[97] },.string { data:=#[] },.int .i64 0,.int .i64 0,.int .i64 0] 137 (0,0))):=Lib.hid (by rw[← hX];exact alloc_at (alloc_top (by simp)))
 have H6:Hid (X.heap[w.heap.size + 1 + 1 + 1 + 1 + 1 + 1]?=some (.cells #[.string { data:=#[98] },.slice (some ⟨w.heap.size + 1 + 1 + 1 + 1,0,none⟩) 1 1,.slice none 0 0,.slice (some ⟨w.heap.size + 1 + 1 + 1 + 1 + 1,0,none⟩) 1 1] 87 (0,0))):=Lib.hid (by rw[← hX];exact alloc_top (by simp))
 rw[hX]
 have HB0:Hid ((X.alloc (.cells #[.string { data:=#[97] },.slice (some ⟨w.heap.size + 1,0,none⟩) 1 1,.slice none 0 0,.slice (some ⟨w.heap.size + 1 + 1,0,none⟩) 2 2,.string { data:=#[98] },.slice (some ⟨w.heap.size + 1 + 1 + 1 + 1,0,none⟩) 1 1,.slice none 0 0,.slice (some ⟨w.heap.size + 1 + 1 + 1 + 1 + 1,0,none⟩) 1 1] 87)).heap[w.heap.size]?=some (.cells #[.string { data:=#[] },.slice none 0 0,.int .i64 0,.int .i64 0] 25 (0,0))):=Lib.hid (alloc_at H0.out)
 clear hX
 go_wp2_with (first
  | (refine wpList_load_whole rfl 87 _ rfl _ rfl _ 87 H3.out _ Tryz.underlying87 rfl (by kernel_rfl) ?_)
  | (refine wpList_load_whole rfl 87 _ rfl _ rfl _ 87 H6.out _ Tryz.underlying87 rfl (by kernel_rfl) ?_)
  | (refine wpList_store_row rfl 25 _ _ rfl _ _ _ 25 rfl rfl HB0.out rfl (by kernel_rfl) (by simp[Value.oneCell']) ?_;intro w2 hb2 hf2))
 have hfX:Frm [w.heap.size] X w2:=((Frm.refl [] X).alloc _).mono (by simp) |>.trans hf2
 have hr:w2.heap[X.heap.size]?=some (.cells #[.string { data:=#[97] },.slice (some ⟨w.heap.size + 1,0,none⟩) 1 1,.slice none 0 0,.slice (some ⟨w.heap.size + 1 + 1,0,none⟩) 2 2,.string { data:=#[98] },.slice (some ⟨w.heap.size + 1 + 1 + 1 + 1,0,none⟩) 1 1,.slice none 0 0,.slice (some ⟨w.heap.size + 1 + 1 + 1 + 1 + 1,0,none⟩) 1 1] 87 (0,0)):=hf2.at (heap_alloc_new X _) (by have:=HF.out.size;have:=lt_of_block H0.out;simp;omega)
 have c1:=hfX.at H1.out (by simp <;> omega)
 have c2:=hfX.at H2.out (by simp <;> omega)
 have c4:=hfX.at H4.out (by simp <;> omega)
 have c5:=hfX.at H5.out (by simp <;> omega)
 refine bodyPost_ret (results_c1 (d:=_) (Tryz.results56) rfl hb2 rfl Tryz.underlying25 (by kernel_rfl)) rfl ⟨_,rfl,?_,HF.out.then hfX (by simp)⟩
 refine⟨_,rfl,_,2,rfl,fun i r hi=>?_⟩
 match i,hi with
 | 0,hi =>
   cases hi
   refine⟨X.heap.size,0,rfl,_,_,_,cell_of hr 0,cell_of hr 1,cell_of hr 2,cell_of hr 3,⟨⟨_,1,rfl,fun j x hj=>?_⟩,Arr.nil _ _ _,⟨_,2,rfl,fun j x hj=>?_⟩,fun _ _ _ e=>by cases e;exact Nat.le_refl _⟩⟩
   ·match j,hj with
    | 0,hj=>cases hj;exact⟨_,0,rfl,cell_of c1 0,cell_of c1 1,cell_of c1 2⟩
    | j + 1,hj=>simp at hj
   ·match j,hj with
    | 0,hj=>cases hj;exact⟨_,0,rfl,cell_of c2 0,cell_of c2 1,cell_of c2 2,cell_of c2 3,cell_of c2 4,cell_of c2 5,cell_of c2 6,cell_of c2 7,cell_of c2 8⟩
    | 1,hj=>cases hj;exact⟨_,0,rfl,cell_of c2 9,cell_of c2 10,cell_of c2 11,cell_of c2 12,cell_of c2 13,cell_of c2 14,cell_of c2 15,cell_of c2 16,cell_of c2 17⟩
    | j + 2,hj=>simp at hj
 | 1,hi =>
   cases hi
   refine⟨X.heap.size,0,rfl,_,_,_,cell_of hr 4,cell_of hr 5,cell_of hr 6,cell_of hr 7,⟨⟨_,1,rfl,fun j x hj=>?_⟩,Arr.nil _ _ _,⟨_,1,rfl,fun j x hj=>?_⟩,fun _ _ _ e=>by cases e;exact Nat.le_refl _⟩⟩
   ·match j,hj with
    | 0,hj=>cases hj;exact⟨_,0,rfl,cell_of c4 0,cell_of c4 1,cell_of c4 2⟩
    | j + 1,hj=>simp at hj
   ·match j,hj with
    | 0,hj=>cases hj;exact⟨_,0,rfl,cell_of c5 0,cell_of c5 1,cell_of c5 2,cell_of c5 3,cell_of c5 4,cell_of c5 5,cell_of c5 6,cell_of c5 7,cell_of c5 8⟩
    | j + 1,hj=>simp at hj
 | i + 2,hi=>simp[smE] at hi
end Go.Proofs.YtohfkhjlnlahdaaGreat
