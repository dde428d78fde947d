/- Part of the proof. -/
import Derived.Test.YtohfkhjlnlahdaaGreatV05
import Derived.Shelf.SlicesG.Turned
set_option linter.all false
namespace Go.Proofs.YtohfkhjlnlahdaaGreat
open Go.RowKit Go.BigFrame
def okC (cls cap:Int):Bool:=decide (1≤cls∧cls≤3∧1≤cap∧cap≤64)
theorem new_bad (cls cap:Int) (w:World) (h:okC cls cap=false):Calls Tryz.prog 113 #[.int .i64 cls,.int .i64 cap] w (Ret (.tuple #[.pointer none,.int .i64 2]) (w=·)):=by
 simp only[okC,decide_eq_false_iff_not] at h
 by_cases h1:cls < 1
 ·go_enter Tryz.func113,Tryz.ntmps113
  go_wp2
  go_ret2
  exact⟨rfl,rfl⟩
 ·by_cases h2:3 < cls
  ·go_enter Tryz.func113,Tryz.ntmps113
   go_wp2
   go_ret2
   exact⟨rfl,rfl⟩
  ·by_cases h3:cap < 1
   ·go_enter Tryz.func113,Tryz.ntmps113
    go_wp2
    go_ret2
    exact⟨rfl,rfl⟩
   ·have h4:64 < cap:=by omega
    go_enter Tryz.func113,Tryz.ntmps113
    go_wp2
    go_ret2
    exact⟨rfl,rfl⟩
theorem new_ok (cls cap:Int) (w:World) (h:okC cls cap=true):Calls Tryz.prog 113 #[.int .i64 cls,.int .i64 cap] w
  (Ret (.tuple #[.pointer (some ⟨w.heap.size,0,none⟩),.int .i64 0]) (fun w'=>Frm [] w w'∧Chn w' w.heap.size cls cap [] [w.heap.size])):=by
 simp only[okC,decide_eq_true_iff] at h
 obtain⟨g1,g2,g3,g4⟩:=h
 have h1:¬ cls < 1:=by omega
 have h2:¬ 3 < cls:=by omega
 have h3:¬ cap < 1:=by omega
 have h4:¬ 64 < cap:=by omega
 go_enter Tryz.func113,Tryz.ntmps113
 go_wp2
 go_ret2
 exact⟨rfl,(Frm.refl _ _).alloc _,.slice none 0 0,heap_alloc_new _ _,World.ownsRow_nil _ _ _ _,⟨g1,g2,g3,g4,by simpa using (by omega:(0:Int)≤cap),by simp⟩,rfl⟩
section
variable {w:World} {cb:Nat} {cls cap:Int} {L:List ByteArray} {F:List Nat}
theorem Good.lenN (h:Good cls cap L):L.length≤64:=by have:=h.len;have:=h.k64;omega
theorem all_any (h:Chn w cb cls cap L F):Calls Tryz.prog 154 #[.pointer (some ⟨cb,0,none⟩)] w (RetV (Fresh w L)):=by
 have CN:=Lib.hid (none_any cb cls cap L F w h)
 have hg:=h.good.lenN
 obtain⟨sv,h1,h2,-,-⟩:=h
 have CC:=Lib.hid (clone_any sv L w h2 (by omega))
 have c2:=cell_of h1 2
 clear h1 h2
 go_enter Tryz.func154,Tryz.ntmps154
 go_wp2_with (first
  | (go_at_call 128;go_must (refine CN.out.mono ?_;rintro e w' ⟨rfl,rfl⟩))
  | (go_at_call 133;go_must (refine CC.out.mono ?_;rintro e w' ⟨v,rfl,hr⟩;have HR:=Lib.hid hr;clear hr)))
 go_ret
 exact⟨_,rfl,HR.out⟩
theorem len_any (h:Chn w cb cls cap L F):Calls Tryz.prog 103 #[.pointer (some ⟨cb,0,none⟩)] w (Ret (.int .i64 L.length) (Frm [] w)):=by
 have CA:=Lib.hid (all_any h)
 clear h
 go_enter Tryz.func103,Tryz.ntmps103
 go_wp2_with (go_at_call 154;go_must (refine CA.out.mono ?_;rintro e w' ⟨v,rfl,hr⟩;obtain⟨ao,c,rfl,-,-⟩:=hr.1.shape;have HR:=Lib.hid hr;clear hr))
 go_ret
 exact⟨rfl,HR.out.2.1⟩
set_option maxHeartbeats 1000000 in
set_option maxRecDepth 100000 in
theorem copy_any (h:Chn w cb cls cap L F):Calls Tryz.prog 127 #[.pointer (some ⟨cb,0,none⟩)] w (RetV fun v w'=>∃ db F',v=.pointer (some ⟨db,0,none⟩)∧Chn w' db cls cap L F'∧Frm [] w w'∧∀ x∈F',w.heap.size≤x):=by
 have CN:=Lib.hid (none_any cb cls cap L F w h)
 have HG:=Lib.hid h.good
 have hg:=h.good.lenN
 obtain⟨sv,h1,h2,-,-⟩:=h
 have HS:=Lib.hid h2
 have c0:=cell_of h1 0
 have c1:=cell_of h1 1
 have c2:=cell_of h1 2
 clear h1 h2
 go_enter Tryz.func127,Tryz.ntmps127
 go_wp2_with (first
  | (go_at_call 128;go_must (refine CN.out.mono ?_;rintro e w' ⟨rfl,rfl⟩)))
 go_region_held3 (fun w'=>w'.cell? ⟨cb,0,none⟩=some (.int .i64 cls)∧w'.cell? ⟨cb,1,none⟩=some (.int .i64 cap)∧w'.cell? ⟨cb,2,none⟩=some sv)
  (first
   | (exact⟨HFA.out.keep c0,HFA.out.keep c1,HFA.out.keep c2⟩)
   | go_keep)
  (first | (go_at_call 133;go_must (refine(clone_any sv L _ ((Frm.refl [] w).drew.owns HS.out (by simp)) (by omega)).mono ?_;rintro e w1 ⟨v',rfl,hr⟩;obtain⟨ao',c',rfl,-,-⟩:=hr.1.shape;have HR:=Lib.hid hr;have HFA:Hid (Frm [] w w1):=Lib.hid ((Frm.refl [] w).drew.trans hr.2.1);clear hr)))
 all_goals
  go_wp2
  go_ret
  exact⟨_,rfl,_,_,rfl,⟨_,heap_alloc_new _ _,(HR.out.1.frm ((Frm.refl [] _).alloc _) (by simp)),HG.out,rfl⟩,HFA.out.alloc _,fun x hx=>by
   have h3:=HR.out.2.2
   have h4:=HFA.out.size
   simp only[List.mem_cons,Option.mem_toList] at hx
   rcases hx with rfl | hx
   ·exact h4
   ·exact h3 x hx⟩
end
theorem first_any (v:Value) (i:Int) (w:World):Calls Tryz.prog 179 #[v,.int .i64 i] w (Ret (.bool (i == 0)) (w=·)):=by
 go_enter Tryz.func179,Tryz.ntmps179
 go_wp2
 go_ret
 exact⟨rfl,rfl⟩
abbrev tabO:Obj:=.cells #[.nilFunc,.func (.func 179) #[] #[],.func (.func 180) #[] #[],.func (.func 179) #[] #[]] 236
theorem choices_any (w:World):Calls Tryz.prog 131 #[] w (Ret (.slice (some ⟨w.heap.size,0,none⟩) 4 4) (w.alloc tabO=·)):=by
 go_enter Tryz.func131,Tryz.ntmps131
 go_wp2
 go_ret
 exact⟨rfl,rfl⟩
theorem second_any (v:Value) (L:List ByteArray) (i:Nat) (x:ByteArray) (w:World) (h:Strs w v L) (hL:L.length≤1000000) (hx:L[i]?=some x) :
  Calls Tryz.prog 180 #[v,.int .i64 i] w (Ret (.bool (Lib.idxOfS L x == (i:Int))) (w=·)):=by
 obtain⟨ao,cap,rfl,hn,hc⟩:=h.shape
 obtain⟨g,rfl,cx⟩:=hc i x hx
 have hil:=lt_of_some hx
 have hil':(i:Int) < (L.length:Int):=by omega
 have CI:=AnyG.slices_Index_string Tryz.indexS g 0 L.length cap L x w (Nat.le_refl _) (by omega) (fun j hj=>by
  have hx:L[j]?=some (L.getD j ByteArray.empty):=by rw[List.getD_eq_getElem?_getD,List.getElem?_eq_getElem hj];rfl
  obtain⟨g',hg',e⟩:=hc j _ hx
  cases hg'
  rw[Nat.zero_add];exact e)
 rw[List.take_length] at CI
 have HI:=Lib.hid CI
 clear CI h hn hc hx hil
 go_enter Tryz.func180,Tryz.ntmps180
 go_wp2_with (go_at_call 181;go_must (refine HI.out.mono ?_;rintro e w' ⟨rfl,rfl⟩))
 go_ret
 exact⟨rfl,rfl⟩
theorem Good.add {cls cap:Int} {L:List ByteArray} {m:ByteArray} (h:Good cls cap L) (h1:1≤m.size) (h2:m.size≤32) (h3:(L.length:Int) < cap):Good cls cap (L ++ [m]):=
 ⟨h.c1,h.c3,h.k1,h.k64,by simp;omega,fun x hx=>by
  rcases List.mem_append.1 hx with hx | hx
  ·exact h.sz x hx
  ·simp at hx;subst hx;exact⟨h1,h2⟩⟩
theorem put_end {w wq wa:World} {cb:Nat} {cls cap:Int} {L L':List ByteArray} {sv v':Value} {X:Obj} (h0:w.heap[cb]?=some (.cells #[.int .i64 cls,.int .i64 cap,sv] 233 (0,0))) (_:Strs w sv L) (_:Good cls cap L) (hg':Good cls cap L')
  (hq:Frm [] w wq) (hgr:(wq.alloc X).grownBy wa sv.ownBlock) (hst:Strs wa v' L') (hlo:v'.ownBlock=sv.ownBlock∨v'.ownBlock=some (wq.alloc X).heap.size) (hca:wa.heap[cb]?=some (.cells #[.int .i64 cls,.int .i64 cap,sv] 233 (0,0))) :
  ChnTo w cb cls cap L' (cb :: sv.ownBlock.toList) (wa.setCell ⟨cb,2,none⟩ v'):=by
 have hne:v'.ownBlock≠some cb:=fun e=>by
  obtain⟨x,hx⟩:=ownBlock_type hst e
  rw[hca] at hx;cases hx
 refine⟨cb :: v'.ownBlock.toList,⟨v',(block_setCell hca 2 v').trans rfl,ownsRow_setCell_other hst hne v',hg',rfl⟩,?_,fun x hx=>?_⟩
 ·exact(((hq.alloc X).mono (F':=cb :: sv.ownBlock.toList) (by simp)).grown hgr (fun k hk=>.inl (by simp[hk]))).setCell _ (.inl (by simp)) _
 ·simp only[List.mem_cons,Option.mem_toList] at hx ⊢
  rcases hx with rfl | hx
  ·exact .inl (.inl rfl)
  ·rcases hlo with h | h
   ·rw[h] at hx;exact .inl (.inr hx)
   ·rw[h] at hx;simp at hx;have:=hq.size;right;omega
theorem Tryz.info9:(Tryz.prog.info? 9).map (fun i=>(i.zero,i.size,i.bytes))=some (some (.string { data:=#[] }),1,16):=by kernel_rfl
set_option maxHeartbeats 1000000 in
set_option maxRecDepth 100000 in
theorem put_any (cb:Nat) (cls cap:Int) (L:List ByteArray) (F:List Nat) (m:ByteArray) (w:World) (h:Chn w cb cls cap L F) (h1:1≤m.size) (h2:m.size≤32) (h3:(L.length:Int) < cap) :
  Calls Tryz.prog 67 #[.pointer (some ⟨cb,0,none⟩),.string m] w (Ret (.int .i64 0) (ChnTo w cb cls cap (L ++ [m]) F)):=by
 have CN:=Lib.hid (none_any cb cls cap L F w h)
 have HG:=Lib.hid h.good
 have hg:=h.good.lenN
 obtain⟨sv,e1,e2,-,rfl⟩:=h
 have c1:=cell_of e1 1
 have c2:=cell_of e1 2
 obtain⟨ao,c,rfl,-,-⟩:=e2.shape
 have HE1:=Lib.hid e1;have HE2:=Lib.hid e2;have HE0:=Lib.hid e1
 clear e1 e2
 obtain⟨i0,hi,hz0,hz1,hz2⟩:=info_parts Tryz.info9
 have q1:¬ (m.size:Int) < 1:=by omega
 have q2:¬ (32:Int) < (m.size:Int):=by omega
 have q3:((L.length:Int) == cap)=false:=by simp;omega
 go_enter Tryz.func67,Tryz.ntmps67
 go_wp2_with (first
  | (go_at_call 128;go_must (refine CN.out.mono ?_;rintro e w' ⟨rfl,rfl⟩)))
 go_quiet (fail)
 obtain⟨wq,hq1⟩:∃ wq,w.drewN nq=wq:=⟨_,rfl⟩
 have hq2:Frm [] w wq:=by rw[← hq1];exact(Frm.refl [] w).drewN _
 have hqs:w.heap.size=wq.heap.size:=by rw[← hq1];rfl
 rw[hq1]
 have HQ:=Lib.hid hq2
 have c2:=hq2.keep c2
 have HOQ:=Lib.hid (HE2.out.frm hq2 (by simp))
 have HE1:=Lib.hid (hq2.at HE1.out (by simp))
 have fb:=free_of HE1.out 2
 have HQS:=Lib.hid hqs
 have hne:Hid ((Value.slice ao L.length c).ownBlock≠some cb):=Lib.hid (fun e=>by
  obtain⟨x,hx⟩:=ownBlock_type HE2.out e
  rw[HE0.out] at hx;cases hx)
 clear c1 hq1 hq2 hqs
 go_wp2_with (at_builtin;refine wpList_append_own_at _ rfl _ _ 75 rfl 0 9 i0 (.string { data:=#[] }) 1 16 Tryz.underlying75 hi hz0 hz1 hz2 rfl (by decide) _ _ _ rfl (HOQ.out.alloc _) ⟨wq.heap.size,0,none⟩ 1 1 [.string m] rfl rfl (cell_one_new _ _ _) (by simp[Value.oneCell']) (by unfold maxLen;omega) (by omega) (Nat.zero_le _) ?_;intro v' wa hown' hgrow hnil hloc;have hst:Strs wa v' (L ++ [m]):=(by simpa[Strs] using hown');obtain⟨ao',c',hv,-,-⟩:=hst.shape;rw[List.length_append,List.length_cons,List.length_nil,Nat.zero_add] at hv;subst hv;have HST:=Lib.hid hst;have hca:=grown_at hgrow (alloc_at HE1.out) hne.out;have HCA:=Lib.hid hca;have HGR:=Lib.hid hgrow;have HLO:=Lib.hid hloc;have ca2:=cell_of hca 2;have fa2:=free_of hca 2;clear hst hca hown' hgrow hloc hnil)
 go_ret
 exact⟨rfl,put_end HE0.out HE2.out HG.out (HG.out.add h1 h2 h3) HQ.out HGR.out HST.out HLO.out HCA.out⟩
set_option maxHeartbeats 1000000 in
theorem put_all (cb:Nat) (cls cap:Int) (L:List ByteArray) (F:List Nat) (m:ByteArray) (w:World) (h:Chn w cb cls cap L F) :
  Calls Tryz.prog 67 #[.pointer (some ⟨cb,0,none⟩),.string m] w (Ret (.int .i64 (putE cap L m)) (ChnTo w cb cls cap (putL cap L m) F)):=by
 have hlen:=h.good.len
 by_cases h1:m.size < 1
 ·have he:putE cap L m=2:=by simp[putE,h1]
  have q1:(m.size:Int) < 1:=by omega
  rw[putL,he,if_neg (by decide)]
  have CN:=Lib.hid (none_any cb cls cap L F w h)
  have HT:=Lib.hid h.to
  clear h hlen
  go_enter Tryz.func67,Tryz.ntmps67
  go_wp2_with (go_at_call 128;go_must (refine CN.out.mono ?_;rintro e w' ⟨rfl,rfl⟩))
  go_ret
  exact⟨rfl,HT.out⟩
 ·by_cases h2:32 < m.size
  ·have he:putE cap L m=2:=by simp[putE,h2]
   have q1:¬ (m.size:Int) < 1:=by omega
   have q2:(32:Int) < (m.size:Int):=by omega
   rw[putL,he,if_neg (by decide)]
   have CN:=Lib.hid (none_any cb cls cap L F w h)
   have HT:=Lib.hid h.to
   clear h hlen
   go_enter Tryz.func67,Tryz.ntmps67
   go_wp2_with (go_at_call 128;go_must (refine CN.out.mono ?_;rintro e w' ⟨rfl,rfl⟩))
   go_ret
   exact⟨rfl,HT.out⟩
  ·by_cases h3:(L.length:Int)=cap
   ·have he:putE cap L m=7:=by rw[putE,if_neg (by omega),if_pos h3]
    have q1:¬ (m.size:Int) < 1:=by omega
    have q2:¬ (32:Int) < (m.size:Int):=by omega
    have q3:((L.length:Int) == cap)=true:=by simpa using h3
    rw[putL,he,if_neg (by decide)]
    have CN:=Lib.hid (none_any cb cls cap L F w h)
    have HT:=Lib.hid h.to
    obtain⟨sv,e1,e2,-,rfl⟩:=h
    have c1:=cell_of e1 1
    have c2:=cell_of e1 2
    obtain⟨ao,c,rfl,-,-⟩:=e2.shape
    clear e1 e2 hlen
    go_enter Tryz.func67,Tryz.ntmps67
    go_wp2_with (go_at_call 128;go_must (refine CN.out.mono ?_;rintro e w' ⟨rfl,rfl⟩))
    go_quiet (fail)
    go_wp2
    go_ret
    exact⟨rfl,HT.out.frm ((Frm.refl [] _).drewN _)⟩
   ·have he:putE cap L m=0:=by rw[putE,if_neg (by omega),if_neg h3]
    rw[putL,he,if_pos rfl]
    exact put_any cb cls cap L F m w h (by omega) (by omega) (by omega)
end Go.Proofs.YtohfkhjlnlahdaaGreat
