/- Part of the proof. -/
import Derived.Test.YtohfkhjlnlahdaaGreatW05
import Derived.Shelf.SlicesG.Turned
import Derived.Shelf.SlicesG.Delete
import Derived.Sort.OwnSorted
import Derived.OrdersHeld
import Derived.Test.YtohfkhjlnlahdaaGreatW13
import Derived.RangeFuncNested
import Derived.RangeFuncLeaves
import Derived.RangeFuncCalls
import Derived.RangeFuncBound
import Derived.OwnWalkIn
import Derived.TacticsInMore
import Derived.LoopNIn
import Derived.LoopIn
import Derived.Sort.CutIn
import Derived.OrdersIn
import Derived.Test.YtohfkhjlnlahdaaGreatW07
set_option linter.all false
namespace Go.Proofs.YtohfkhjlnlahdaaGreat
open Go.RowKit Go.BigFrame
def okC (cls cap:Int):Bool:=decide (1≤cls∧cls≤3∧1≤cap∧cap≤64)
theorem new_bad (cls cap:Int) (w:World) (h:okC cls cap=false):Calls Tryz.prog 113 #[.int .i64 cls,.int .i64 cap] w (Ret (.tuple #[.pointer none,.int .i64 2]) (w=·)):=by
 simp only[okC,decide_eq_false_iff_not] at h
 by_cases h1:cls < 1
 ·go_enter Tryz.func113,Tryz.ntmps113
  go_wp2
  go_ret2
  exact⟨rfl,rfl⟩
 ·by_cases h2:3 < cls
  ·go_enter Tryz.func113,Tryz.ntmps113
   go_wp2
   go_ret2
   exact⟨rfl,rfl⟩
  ·by_cases h3:cap < 1
   ·go_enter Tryz.func113,Tryz.ntmps113
    go_wp2
    go_ret2
    exact⟨rfl,rfl⟩
   ·have h4:64 < cap:=by omega
    go_enter Tryz.func113,Tryz.ntmps113
    go_wp2
    go_ret2
    exact⟨rfl,rfl⟩
theorem new_ok (cls cap:Int) (w:World) (h:okC cls cap=true):Calls Tryz.prog 113 #[.int .i64 cls,.int .i64 cap] w
  (Ret (.tuple #[.pointer (some ⟨w.heap.size,0,none⟩),.int .i64 0]) (fun w'=>Frm [] w w'∧Chn w' w.heap.size cls cap [] [w.heap.size])):=by
 simp only[okC,decide_eq_true_iff] at h
 obtain⟨g1,g2,g3,g4⟩:=h
 have h1:¬ cls < 1:=by omega
 have h2:¬ 3 < cls:=by omega
 have h3:¬ cap < 1:=by omega
 have h4:¬ 64 < cap:=by omega
 go_enter Tryz.func113,Tryz.ntmps113
 go_wp2
 go_ret2
 exact⟨rfl,(Frm.refl _ _).alloc _,.slice none 0 0,heap_alloc_new _ _,World.ownsRow_nil _ _ _ _,⟨g1,g2,g3,g4,by simpa using (by omega:(0:Int)≤cap),by simp⟩,rfl⟩
section
variable {w:World} {cb:Nat} {cls cap:Int} {L:List ByteArray} {F:List Nat}
theorem Good.lenN (h:Good cls cap L):L.length≤64:=by have:=h.len;have:=h.k64;omega
theorem all_any (h:Chn w cb cls cap L F):Calls Tryz.prog 154 #[.pointer (some ⟨cb,0,none⟩)] w (RetV (Fresh w L)):=by
 have CN:=Lib.hid (none_any cb cls cap L F w h)
 have hg:=h.good.lenN
 obtain⟨sv,h1,h2,-,-⟩:=h
 have CC:=Lib.hid (clone_any sv L w h2 (by omega))
 have c2:=cell_of h1 2
 clear h1 h2
 go_enter Tryz.func154,Tryz.ntmps154
 go_wp2_with (first
  | (go_at_call 128;go_must (refine CN.out.mono ?_;rintro e w' ⟨rfl,rfl⟩))
  | (go_at_call 133;go_must (refine CC.out.mono ?_;rintro e w' ⟨v,rfl,hr⟩;have HR:=Lib.hid hr;clear hr)))
 go_ret
 exact⟨_,rfl,HR.out⟩
theorem len_any (h:Chn w cb cls cap L F):Calls Tryz.prog 103 #[.pointer (some ⟨cb,0,none⟩)] w (Ret (.int .i64 L.length) (Frm [] w)):=by
 have CA:=Lib.hid (all_any h)
 clear h
 go_enter Tryz.func103,Tryz.ntmps103
 go_wp2_with (go_at_call 154;go_must (refine CA.out.mono ?_;rintro e w' ⟨v,rfl,hr⟩;obtain⟨ao,c,rfl,-,-⟩:=hr.1.shape;have HR:=Lib.hid hr;clear hr))
 go_ret
 exact⟨rfl,HR.out.2.1⟩
set_option maxHeartbeats 1000000 in
set_option maxRecDepth 100000 in
theorem copy_any (h:Chn w cb cls cap L F):Calls Tryz.prog 127 #[.pointer (some ⟨cb,0,none⟩)] w (RetV fun v w'=>∃ db F',v=.pointer (some ⟨db,0,none⟩)∧Chn w' db cls cap L F'∧Frm [] w w'∧∀ x∈F',w.heap.size≤x):=by
 have CN:=Lib.hid (none_any cb cls cap L F w h)
 have HG:=Lib.hid h.good
 have hg:=h.good.lenN
 obtain⟨sv,h1,h2,-,-⟩:=h
 have HS:=Lib.hid h2
 have c0:=cell_of h1 0
 have c1:=cell_of h1 1
 have c2:=cell_of h1 2
 clear h1 h2
 go_enter Tryz.func127,Tryz.ntmps127
 go_wp2_with (first
  | (go_at_call 128;go_must (refine CN.out.mono ?_;rintro e w' ⟨rfl,rfl⟩)))
 go_region_held3 (fun w'=>w'.cell? ⟨cb,0,none⟩=some (.int .i64 cls)∧w'.cell? ⟨cb,1,none⟩=some (.int .i64 cap)∧w'.cell? ⟨cb,2,none⟩=some sv)
  (first
   | (exact⟨HFA.out.keep c0,HFA.out.keep c1,HFA.out.keep c2⟩)
   | go_keep)
  (first | (go_at_call 133;go_must (refine(clone_any sv L _ ((Frm.refl [] w).drew.owns HS.out (by simp)) (by omega)).mono ?_;rintro e w1 ⟨v',rfl,hr⟩;obtain⟨ao',c',rfl,-,-⟩:=hr.1.shape;have HR:=Lib.hid hr;have HFA:Hid (Frm [] w w1):=Lib.hid ((Frm.refl [] w).drew.trans hr.2.1);clear hr)))
 all_goals
  go_wp2
  go_ret
  exact⟨_,rfl,_,_,rfl,⟨_,heap_alloc_new _ _,(HR.out.1.frm ((Frm.refl [] _).alloc _) (by simp)),HG.out,rfl⟩,HFA.out.alloc _,fun x hx=>by
   have h3:=HR.out.2.2
   have h4:=HFA.out.size
   simp only[List.mem_cons,Option.mem_toList] at hx
   rcases hx with rfl | hx
   ·exact h4
   ·exact h3 x hx⟩
end
theorem first_any (v:Value) (i:Int) (w:World):Calls Tryz.prog 179 #[v,.int .i64 i] w (Ret (.bool (i == 0)) (w=·)):=by
 go_enter Tryz.func179,Tryz.ntmps179
 go_wp2
 go_ret
 exact⟨rfl,rfl⟩
abbrev tabO:Obj:=.cells #[.nilFunc,.func (.func 179) #[] #[],.func (.func 180) #[] #[],.func (.func 179) #[] #[]] 236
theorem choices_any (w:World):Calls Tryz.prog 131 #[] w (Ret (.slice (some ⟨w.heap.size,0,none⟩) 4 4) (w.alloc tabO=·)):=by
 go_enter Tryz.func131,Tryz.ntmps131
 go_wp2
 go_ret
 exact⟨rfl,rfl⟩
theorem second_any (v:Value) (L:List ByteArray) (i:Nat) (x:ByteArray) (w:World) (h:Strs w v L) (hL:L.length≤1000000) (hx:L[i]?=some x) :
  Calls Tryz.prog 180 #[v,.int .i64 i] w (Ret (.bool (Lib.idxOfS L x == (i:Int))) (w=·)):=by
 obtain⟨ao,cap,rfl,hn,hc⟩:=h.shape
 obtain⟨g,rfl,cx⟩:=hc i x hx
 have hil:=lt_of_some hx
 have hil':(i:Int) < (L.length:Int):=by omega
 have CI:=AnyG.slices_Index_string Tryz.indexS g 0 L.length cap L x w (Nat.le_refl _) (by omega) (fun j hj=>by
  have hx:L[j]?=some (L.getD j ByteArray.empty):=by rw[List.getD_eq_getElem?_getD,List.getElem?_eq_getElem hj];rfl
  obtain⟨g',hg',e⟩:=hc j _ hx
  cases hg'
  rw[Nat.zero_add];exact e)
 rw[List.take_length] at CI
 have HI:=Lib.hid CI
 clear CI h hn hc hx hil
 go_enter Tryz.func180,Tryz.ntmps180
 go_wp2_with (go_at_call 181;go_must (refine HI.out.mono ?_;rintro e w' ⟨rfl,rfl⟩))
 go_ret
 exact⟨rfl,rfl⟩
theorem Good.add {cls cap:Int} {L:List ByteArray} {m:ByteArray} (h:Good cls cap L) (h1:1≤m.size) (h2:m.size≤32) (h3:(L.length:Int) < cap):Good cls cap (L ++ [m]):=
 ⟨h.c1,h.c3,h.k1,h.k64,by simp;omega,fun x hx=>by
  rcases List.mem_append.1 hx with hx | hx
  ·exact h.sz x hx
  ·simp at hx;subst hx;exact⟨h1,h2⟩⟩
theorem put_end {w wq wa:World} {cb:Nat} {cls cap:Int} {L L':List ByteArray} {sv v':Value} {X:Obj} (h0:w.heap[cb]?=some (.cells #[.int .i64 cls,.int .i64 cap,sv] 233 (0,0))) (_:Strs w sv L) (_:Good cls cap L) (hg':Good cls cap L')
  (hq:Frm [] w wq) (hgr:(wq.alloc X).grownBy wa sv.ownBlock) (hst:Strs wa v' L') (hlo:v'.ownBlock=sv.ownBlock∨v'.ownBlock=some (wq.alloc X).heap.size) (hca:wa.heap[cb]?=some (.cells #[.int .i64 cls,.int .i64 cap,sv] 233 (0,0))) :
  ChnTo w cb cls cap L' (cb :: sv.ownBlock.toList) (wa.setCell ⟨cb,2,none⟩ v'):=by
 have hne:v'.ownBlock≠some cb:=fun e=>by
  obtain⟨x,hx⟩:=ownBlock_type hst e
  rw[hca] at hx;cases hx
 refine⟨cb :: v'.ownBlock.toList,⟨v',(block_setCell hca 2 v').trans rfl,ownsRow_setCell_other hst hne v',hg',rfl⟩,?_,fun x hx=>?_⟩
 ·exact(((hq.alloc X).mono (F':=cb :: sv.ownBlock.toList) (by simp)).grown hgr (fun k hk=>.inl (by simp[hk]))).setCell _ (.inl (by simp)) _
 ·simp only[List.mem_cons,Option.mem_toList] at hx ⊢
  rcases hx with rfl | hx
  ·exact .inl (.inl rfl)
  ·rcases hlo with h | h
   ·rw[h] at hx;exact .inl (.inr hx)
   ·rw[h] at hx;simp at hx;have:=hq.size;right;omega
theorem Tryz.info9:(Tryz.prog.info? 9).map (fun i=>(i.zero,i.size,i.bytes))=some (some (.string { data:=#[] }),1,16):=by kernel_rfl
set_option maxHeartbeats 1000000 in
set_option maxRecDepth 100000 in
theorem put_any (cb:Nat) (cls cap:Int) (L:List ByteArray) (F:List Nat) (m:ByteArray) (w:World) (h:Chn w cb cls cap L F) (h1:1≤m.size) (h2:m.size≤32) (h3:(L.length:Int) < cap) :
  Calls Tryz.prog 67 #[.pointer (some ⟨cb,0,none⟩),.string m] w (Ret (.int .i64 0) (ChnTo w cb cls cap (L ++ [m]) F)):=by
 have CN:=Lib.hid (none_any cb cls cap L F w h)
 have HG:=Lib.hid h.good
 have hg:=h.good.lenN
 obtain⟨sv,e1,e2,-,rfl⟩:=h
 have c1:=cell_of e1 1
 have c2:=cell_of e1 2
 obtain⟨ao,c,rfl,-,-⟩:=e2.shape
 have HE1:=Lib.hid e1;have HE2:=Lib.hid e2;have HE0:=Lib.hid e1
 clear e1 e2
 obtain⟨i0,hi,hz0,hz1,hz2⟩:=info_parts Tryz.info9
 have q1:¬ (m.size:Int) < 1:=by omega
 have q2:¬ (32:Int) < (m.size:Int):=by omega
 have q3:((L.length:Int) == cap)=false:=by simp;omega
 go_enter Tryz.func67,Tryz.ntmps67
 go_wp2_with (first
  | (go_at_call 128;go_must (refine CN.out.mono ?_;rintro e w' ⟨rfl,rfl⟩)))
 go_quiet (fail)
 obtain⟨wq,hq1⟩:∃ wq,w.drewN nq=wq:=⟨_,rfl⟩
 have hq2:Frm [] w wq:=by rw[← hq1];exact(Frm.refl [] w).drewN _
 have hqs:w.heap.size=wq.heap.size:=by rw[← hq1];rfl
 rw[hq1]
 have HQ:=Lib.hid hq2
 have c2:=hq2.keep c2
 have HOQ:=Lib.hid (HE2.out.frm hq2 (by simp))
 have HE1:=Lib.hid (hq2.at HE1.out (by simp))
 have fb:=free_of HE1.out 2
 have HQS:=Lib.hid hqs
 have hne:Hid ((Value.slice ao L.length c).ownBlock≠some cb):=Lib.hid (fun e=>by
  obtain⟨x,hx⟩:=ownBlock_type HE2.out e
  rw[HE0.out] at hx;cases hx)
 clear c1 hq1 hq2 hqs
 go_wp2_with (at_builtin;refine wpList_append_own_at _ rfl _ _ 75 rfl 0 9 i0 (.string { data:=#[] }) 1 16 Tryz.underlying75 hi hz0 hz1 hz2 rfl (by decide) _ _ _ rfl (HOQ.out.alloc _) ⟨wq.heap.size,0,none⟩ 1 1 [.string m] rfl rfl (cell_one_new _ _ _) (by simp[Value.oneCell']) (by unfold maxLen;omega) (by omega) (Nat.zero_le _) ?_;intro v' wa hown' hgrow hnil hloc;have hst:Strs wa v' (L ++ [m]):=(by simpa[Strs] using hown');obtain⟨ao',c',hv,-,-⟩:=hst.shape;rw[List.length_append,List.length_cons,List.length_nil,Nat.zero_add] at hv;subst hv;have HST:=Lib.hid hst;have hca:=grown_at hgrow (alloc_at HE1.out) hne.out;have HCA:=Lib.hid hca;have HGR:=Lib.hid hgrow;have HLO:=Lib.hid hloc;have ca2:=cell_of hca 2;have fa2:=free_of hca 2;clear hst hca hown' hgrow hloc hnil)
 go_ret
 exact⟨rfl,put_end HE0.out HE2.out HG.out (HG.out.add h1 h2 h3) HQ.out HGR.out HST.out HLO.out HCA.out⟩
set_option maxHeartbeats 1000000 in
theorem put_all (cb:Nat) (cls cap:Int) (L:List ByteArray) (F:List Nat) (m:ByteArray) (w:World) (h:Chn w cb cls cap L F) :
  Calls Tryz.prog 67 #[.pointer (some ⟨cb,0,none⟩),.string m] w (Ret (.int .i64 (putE cap L m)) (ChnTo w cb cls cap (putL cap L m) F)):=by
 have hlen:=h.good.len
 by_cases h1:m.size < 1
 ·have he:putE cap L m=2:=by simp[putE,h1]
  have q1:(m.size:Int) < 1:=by omega
  rw[putL,he,if_neg (by decide)]
  have CN:=Lib.hid (none_any cb cls cap L F w h)
  have HT:=Lib.hid h.to
  clear h hlen
  go_enter Tryz.func67,Tryz.ntmps67
  go_wp2_with (go_at_call 128;go_must (refine CN.out.mono ?_;rintro e w' ⟨rfl,rfl⟩))
  go_ret
  exact⟨rfl,HT.out⟩
 ·by_cases h2:32 < m.size
  ·have he:putE cap L m=2:=by simp[putE,h2]
   have q1:¬ (m.size:Int) < 1:=by omega
   have q2:(32:Int) < (m.size:Int):=by omega
   rw[putL,he,if_neg (by decide)]
   have CN:=Lib.hid (none_any cb cls cap L F w h)
   have HT:=Lib.hid h.to
   clear h hlen
   go_enter Tryz.func67,Tryz.ntmps67
   go_wp2_with (go_at_call 128;go_must (refine CN.out.mono ?_;rintro e w' ⟨rfl,rfl⟩))
   go_ret
   exact⟨rfl,HT.out⟩
  ·by_cases h3:(L.length:Int)=cap
   ·have he:putE cap L m=7:=by rw[putE,if_neg (by omega),if_pos h3]
    have q1:¬ (m.size:Int) < 1:=by omega
    have q2:¬ (32:Int) < (m.size:Int):=by omega
    have q3:((L.length:Int) == cap)=true:=by simpa using h3
    rw[putL,he,if_neg (by decide)]
    have CN:=Lib.hid (none_any cb cls cap L F w h)
    have HT:=Lib.hid h.to
    obtain⟨sv,e1,e2,-,rfl⟩:=h
    have c1:=cell_of e1 1
    have c2:=cell_of e1 2
    obtain⟨ao,c,rfl,-,-⟩:=e2.shape
    clear e1 e2 hlen
    go_enter Tryz.func67,Tryz.ntmps67
    go_wp2_with (go_at_call 128;go_must (refine CN.out.mono ?_;rintro e w' ⟨rfl,rfl⟩))
    go_quiet (fail)
    go_wp2
    go_ret
    exact⟨rfl,HT.out.frm ((Frm.refl [] _).drewN _)⟩
   ·have he:putE cap L m=0:=by rw[putE,if_neg (by omega),if_neg h3]
    rw[putL,he,if_pos rfl]
    exact put_any cb cls cap L F m w h (by omega) (by omega) (by omega)
end Go.Proofs.YtohfkhjlnlahdaaGreat
namespace Go.Proofs.YtohfkhjlnlahdaaGreat
open Go.RowKit Go.BigFrame
def Lf (w:World) (lv:Value) (L:List ByteArray):Prop:=
 Strs w lv L∨∃ g cur,lv=.slice (some ⟨g,0,none⟩) L.length L.length∧w.heap[g]?=some (.cells cur 9 (0,0))∧cur.toList.take L.length=L.map Value.string
theorem Lf.shape {w:World} {lv:Value} {L:List ByteArray} (h:Lf w lv L):∃ ao cap,lv=.slice ao L.length cap∧(∀ k x,L[k]?=some x→∃ g,ao=some ⟨g,0,none⟩∧w.cell? ⟨g,k,none⟩=some (.string x)):=by
 rcases h with h | ⟨g,cur,rfl,hb,ht⟩
 ·obtain⟨ao,cap,h1,-,h2⟩:=h.shape
  exact⟨ao,cap,h1,h2⟩
 ·refine⟨_,_,rfl,fun k x hk=>⟨g,rfl,?_⟩⟩
  have hl:=lt_of_some hk
  rw[cell_of hb]
  have h1:(cur.toList.take L.length)[k]?=some (.string x):=by rw[ht];simp[hk]
  rw[List.getElem?_take_of_lt hl] at h1
  simpa using h1
theorem Lf.room {w:World} {ao:Option Addr} {L:List ByteArray} {cap:Nat} (h:Lf w (.slice ao L.length cap) L):L.length≤cap:=by
 rcases h with h | ⟨g,cur,hv,hb,ht⟩
 ·rcases h.2 with ⟨hv,hn⟩ | ⟨g,c,cur,hv,-,-,h1,-⟩
  ·omega
  ·cases hv;exact h1
 ·cases hv;exact Nat.le_refl _
theorem Lf.frm {F:List Nat} {w w':World} {lv:Value} {L:List ByteArray} (h:Lf w lv L) (hf:Frm F w w') (hn:∀ k,lv.ownBlock=some k→k∉F):Lf w' lv L:=by
 rcases h with h | ⟨g,cur,rfl,hb,ht⟩
 ·exact .inl (h.frm hf hn)
 ·exact .inr ⟨g,cur,rfl,hf.at hb (hn g rfl),ht⟩
theorem Lf.lt {w:World} {lv:Value} {L:List ByteArray} (h:Lf w lv L) {k:Nat} (hk:lv.ownBlock=some k):k < w.heap.size:=by
 rcases h with h | ⟨g,cur,rfl,hb,ht⟩
 ·exact ownBlock_lt h hk
 ·cases hk;exact lt_of_block hb
end Go.Proofs.YtohfkhjlnlahdaaGreat
namespace Go.Proofs.YtohfkhjlnlahdaaGreat
open Go.RowKit Go.BigFrame
theorem Lf.cells {W:World} {ao:Option Addr} {cap:Nat} {L:List ByteArray} (h:Lf W (.slice ao L.length cap) L):∀ b,ao=some b→∀ j u,(L.map Value.string)[j]?=some u→W.cell? (b.add j)=some u:=by
 intro b hb j u hu
 obtain⟨ao',cap',hv,hcs⟩:=h.shape
 cases hv
 rw[List.getElem?_map,Option.map_eq_some_iff] at hu
 obtain⟨y,hy,rfl⟩:=hu
 obtain⟨g',hg',e⟩:=hcs j y hy
 rw[hb] at hg'
 cases hg'
 have e1:(⟨g',0,none⟩:Addr).add j=⟨g',j,none⟩:=by simp[Addr.add];exact fun h=>h.symm
 rw[e1];exact e
theorem app_any {ty:TypeId} (b:Nat) (W:World) (hb:W.heap[b]?=some (.cells #[] 9 (0,0))) (sv:Value) (n:Nat) (news:List Value) (hs:Src Tryz.prog 1 75 sv n news W) (hk:0 < n→∃ ad c,sv=.slice (some ad) n c∧∀ j u,news[j]?=some u→W.cell? (ad.add j)=some u) (hn:n≤1000000) :
  ∃ ao cp W',(Builtin.append_ #[75,75] ty #[.slice (some ⟨b,0,none⟩) 0 0,sv]).run Tryz.prog W=.ok (.slice ao n cp) W'∧W'.ownsRow b 9 1 (.slice ao n cp) n news∧W.grownBy W' none:=by
 obtain⟨i0,hi0,hz0,hz1,hz2⟩:=info_parts Tryz.info9
 have hl:=hs.newsLen
 cases n with
 | zero =>
   obtain rfl:news=[]:=List.length_eq_zero_iff.1 (by simpa using hl)
   refine⟨_,_,_,run_append_nothing W 75 75 _ 9 i0 Tryz.underlying75 hi0 (some ⟨b,0,none⟩) 0 0 (Nat.le_refl _) _ (by rw[hz1];exact hs),⟨rfl,.inr ⟨b,0,#[],rfl,Nat.le_refl _,hb,Nat.le_refl _,Nat.zero_le _,rfl,rfl⟩⟩,(Frm.refl [] W).grownNone⟩
 | succ n =>
   obtain⟨ad,c,rfl,hc⟩:=hk (Nat.succ_pos n)
   obtain⟨v',w',hrun,r1,r2⟩:=run_append_arg_grows (P:=Tryz.prog) W 75 ty 9 i0 (.string { data:=#[] }) 1 16 Tryz.underlying75 hi0 hz0 hz1 hz2 rfl (by decide) ⟨b,0,none⟩ 0 0 [] (by simp) (fun j u hu=>by simp at hu) ad (n + 1) c news hl hc (by omega) (by unfold maxLen;omega) (by omega)
   rw[Nat.zero_add,List.nil_append] at r1
   obtain⟨ao,cp,rfl⟩:=own_shape r1
   exact⟨ao,cp,w',hrun,own_low r1 (Nat.le_of_lt (lt_of_block hb)),r2⟩
theorem wpList_append_src {ops:Array Oper} {rest:List Oper} {o:Oper} {a:Act} {Q:Exit→Act→World→Prop} {w:World} (hgd:o.guard=none) (s x:Operand) (ho:o.op=.call { callee:=.builtin .append,args:=#[s,x],argTypes:=#[75,75] })
  (b:Nat) (hs:a.eval s=.slice (some ⟨b,0,none⟩) 0 0) (hb:w.heap[b]?=some (.cells #[] 9 (0,0))) (sv:Value) (hx:a.eval x=sv) (n:Nat) (news:List Value) (hsrc:Src Tryz.prog 1 75 sv n news w)
  (hk:0 < n→∃ ad c,sv=.slice (some ad) n c∧∀ j u,news[j]?=some u→w.cell? (ad.add j)=some u) (hn:n≤1000000)
  (h:∀ ao cp w',w'.ownsRow b 9 1 (.slice ao n cp) n news→w.grownBy w' none→wpList Tryz.prog ops Q rest (a.put o.dst (.slice ao n cp)) w'):wpList Tryz.prog ops Q (o :: rest) a w:=by
 refine wpList_plain hgd fun K hK=>?_
 obtain⟨ao,cp,w',hrun,r1,r2⟩:=app_any b w hb sv n news hsrc hk hn
 have hrun':(Builtin.append_ #[75,75] o.type #[.slice (some ⟨b,0,none⟩) 0 0,sv]).run Tryz.prog w=.ok (.slice ao n cp) w':=hrun
 unfold Oper.wp
 simp[execOp,ho,resolve,invoke,builtin,hs,hx,hrun',Result.andThen]
 exact hK _ _ (h ao cp w' r1 r2)
theorem Lf.src {W:World} {ao:Option Addr} {cap:Nat} {L:List ByteArray} (h:Lf W (.slice ao L.length cap) L):Src Tryz.prog 1 75 (.slice ao L.length cap) L.length (L.map Value.string) W:=by
 cases ao with
 | none =>
   obtain⟨ao',cap',hv,hcs⟩:=h.shape
   cases hv
   have e:L=[]:=by
    cases L with
    | nil=>rfl
    | cons x l=>obtain⟨g,hg,-⟩:=hcs 0 x rfl;cases hg
   subst e
   exact Src.ofNil W Tryz.underlying75 cap
 | some ad=>exact Src.ofSlice W Tryz.underlying75 ad L.length cap _ (by simp) (h.cells ad rfl) (by intro u hu;obtain⟨x,-,rfl⟩:=List.mem_map.1 hu;rfl)
theorem Lf.some_addr {W:World} {ao:Option Addr} {cap:Nat} {L:List ByteArray} (h:Lf W (.slice ao L.length cap) L) (hpos:0 < L.length):∃ ad c,Value.slice ao L.length cap=.slice (some ad) L.length c∧∀ j u,(L.map Value.string)[j]?=some u→W.cell? (ad.add j)=some u:=by
 obtain⟨ao',cap',hv,hcs⟩:=h.shape
 cases hv
 cases L with
 | nil=>simp at hpos
 | cons x l =>
   obtain⟨g,rfl,-⟩:=hcs 0 x rfl
   exact⟨_,_,rfl,h.cells _ rfl⟩
theorem Tryz.info164s:(Tryz.prog.info? 164).map (·.size)=some 3:=by kernel_rfl
theorem results_c2 {fn:Func} {p q:Tmp} (h:fn.results=#[.cell p 164,.tmp q]) {tmps:Array Value} {w:World} {g:Nat} {A:Array Value} {t:TypeId} {v:Value} (hp:tmps.getD p undef=.pointer (some ⟨g,0,none⟩)) (hq:tmps.getD q undef=v) (hg:w.heap[g]?=some (.cells A t (0,0))) (hs:A.size=3) :
  (results fn tmps).run Tryz.prog w=.ok (.tuple #[.agg A,v]) w:=by
 have hp':tmps[p]?.getD undef=.pointer (some ⟨g,0,none⟩):=by simpa using hp
 have hq':tmps[q]?.getD undef=v:=by simpa using hq
 simp[results,h,hp',hq',asAddr,run_loadVar_row w g t 164 A (0,0) _ hg Tryz.underlying164 rfl (by rw[Tryz.info164s,hs])]
theorem results_c3 {fn:Func} {p q r:Tmp} (h:fn.results=#[.cell p 164,.tmp q,.tmp r]) {tmps:Array Value} {w:World} {g:Nat} {A:Array Value} {t:TypeId} {v u:Value} (hp:tmps.getD p undef=.pointer (some ⟨g,0,none⟩)) (hq:tmps.getD q undef=v) (hr:tmps.getD r undef=u) (hg:w.heap[g]?=some (.cells A t (0,0))) (hs:A.size=3) :
  (results fn tmps).run Tryz.prog w=.ok (.tuple #[.agg A,v,u]) w:=by
 have hp':tmps[p]?.getD undef=.pointer (some ⟨g,0,none⟩):=by simpa using hp
 have hq':tmps[q]?.getD undef=v:=by simpa using hq
 have hr':tmps[r]?.getD undef=u:=by simpa using hr
 simp[results,h,hp',hq',hr',asAddr,run_loadVar_row w g t 164 A (0,0) _ hg Tryz.underlying164 rfl (by rw[Tryz.info164s,hs])]
def RfTo (w:World) (cls cap:Int) (lv:Value) (L':List ByteArray) (mk:Value→Value) (v:Value) (w':World):Prop:=
 ∃ lv',v=mk (.agg #[.int .i64 cls,.int .i64 cap,lv'])∧Lf w' lv' L'∧Frm [] w w'∧∀ k,lv'.ownBlock=some k→lv.ownBlock=some k∨w.heap.size≤k
theorem RfTo.same {w w':World} {cls cap:Int} {lv:Value} {L:List ByteArray} {mk:Value→Value} (h:Lf w lv L) (hf:Frm [] w w'):RfTo w cls cap lv L mk (mk (.agg #[.int .i64 cls,.int .i64 cap,lv])) w':=
 ⟨lv,rfl,h.frm hf (by simp),hf,fun _ hk=>.inl hk⟩
theorem one3 (a b:Int) (ao:Option Addr) (n c:Nat):(#[.int .i64 a,.int .i64 b,.slice ao n c]:Array Value).all (·.oneCell')=true:=by
 rw[← Array.all_toList];rfl
theorem ref_mid {w0 w1 wa:World} {p q b n:Nat} {A Z:Array Value} {X:Obj} {v1:Value} {xs:List Value} (hp:w0.heap[p]?=some (.cells A 164 (0,0))) (hq:w0.heap[q]?=some (.cells Z 164 (0,0))) (ho1:w1.ownsRow b 9 1 v1 n xs) (hb:w0.heap.size≤b)
  (hg1:(w0.alloc (.cells #[] 9)).grownBy w1 none) (hg2:(w1.alloc X).grownBy wa v1.ownBlock):wa.heap[p]?=some (.cells A 164 (0,0))∧wa.heap[q]?=some (.cells Z 164 (0,0))∧Frm [] w0 wa:=by
 have hl:=lt_of_block hp
 have hl2:=lt_of_block hq
 refine⟨grown_at hg2 (alloc_at (grown_at hg1 (alloc_at hp) (by simp))) (fun e=>?_),grown_at hg2 (alloc_at (grown_at hg1 (alloc_at hq) (by simp))) (fun e=>?_),
  ((((Frm.refl [] w0).alloc _).grown hg1 (by simp)).alloc _).grown hg2 (fun k hk=>.inr (Nat.le_trans hb (ownBlock_ge ho1 hk)))⟩
 ·have:=ownBlock_ge ho1 e;omega
 ·have:=ownBlock_ge ho1 e;omega
theorem ref_end {w w0 wa W2:World} {p q b n:Nat} {cls cap:Int} {lv v' x:Value} {mk:Value→Value} {L':List ByteArray} (h0:Frm [] w w0) (hp0:w.heap.size≤p) (hq0:w.heap.size≤q) (hpb:p < b) (hqb:q < b) (hf:Frm [] w0 wa)
  (hown:wa.ownsRow b 9 1 v' n (L'.map Value.string)) (hn:n=L'.length) (hf2:Frm [q] (wa.setCell ⟨p,2,none⟩ x) W2):RfTo w cls cap lv L' mk (mk (.agg #[.int .i64 cls,.int .i64 cap,v'])) W2:=by
 subst hn
 have hge:=fun k hk=>ownBlock_ge hown (k:=k) hk
 have hs:Strs wa v' L':=Strs.of_own hown
 have f1:Frm [p] wa (wa.setCell ⟨p,2,none⟩ x):=(Frm.refl [p] wa).setCell _ (.inl (by simp)) _
 refine⟨v',rfl,.inl ((hs.frm f1 (fun k hk hm=>?_)).frm hf2 (fun k hk hm=>?_)),?_,fun k hk=>.inr ?_⟩
 ·have:=hge k hk;simp at hm;omega
 ·have:=hge k hk;simp at hm;omega
 ·exact((h0.trans hf).then f1 (by intro y hy;simp at hy;right;omega)).then hf2 (by intro y hy;simp at hy;right;omega)
 ·have:=hge k hk;omega
set_option maxHeartbeats 1000000 in
set_option maxRecDepth 100000 in
theorem refNew_ok (cls cap:Int) (w:World) (h:okC cls cap=true):Calls Tryz.prog 81 #[.int .i64 cls,.int .i64 cap] w (Ret (.tuple #[.agg #[.int .i64 cls,.int .i64 cap,.slice none 0 0],.int .i64 0]) (Frm [] w)):=by
 unfold okC at h
 rw[decide_eq_true_iff] at h
 obtain⟨h1,h2,h3,h4⟩:=h
 have k1:¬ cls < 1:=by omega
 have k2:¬ 3 < cls:=by omega
 have k3:¬ cap < 1:=by omega
 have k4:¬ 64 < cap:=by omega
 go_enter Tryz.func81,Tryz.ntmps81
 go_wp2
 exact bodyPost_ret (results_c2 rfl rfl rfl (heap_alloc_new _ _) rfl) rfl ⟨rfl,(Frm.refl [] w).alloc _⟩
set_option maxHeartbeats 1000000 in
set_option maxRecDepth 100000 in
theorem refPut_any (cls cap:Int) (lv:Value) (L:List ByteArray) (m:ByteArray) (w:World) (h:Lf w lv L) (hL:L.length≤64) :
  Calls Tryz.prog 90 #[.agg #[.int .i64 cls,.int .i64 cap,lv],.string m] w (RetV (RfTo w cls cap lv (putL cap L m) fun a=>.tuple #[a,.int .i64 (putE cap L m)])):=by
 obtain⟨ao,cp,rfl,-⟩:=h.shape
 have HL:=Lib.hid h
 by_cases h1:m.size < 1
 ·have he:putE cap L m=2:=by simp[putE,h1]
  have q1:(m.size:Int) < 1:=by omega
  rw[putL,he,if_neg (by decide)]
  clear h h1 he
  go_enter Tryz.func90,Tryz.ntmps90
  go_wp2_with (first
   | (refine wpList_load_whole rfl 164 _ rfl _ rfl _ 164 (alloc_at (alloc_top (by simp))) _ Tryz.underlying164 rfl Tryz.info164s ?_))
  exact bodyPost_ret (results_c2 rfl rfl rfl (alloc_top (by simp)) rfl) rfl ⟨_,rfl,RfTo.same HL.out (((Frm.refl [] w).alloc _).alloc _)⟩
 ·by_cases h2:32 < m.size
  ·have he:putE cap L m=2:=by simp[putE,h2]
   have q1:¬ (m.size:Int) < 1:=by omega
   have q2:(32:Int) < (m.size:Int):=by omega
   rw[putL,he,if_neg (by decide)]
   clear h h1 h2 he
   go_enter Tryz.func90,Tryz.ntmps90
   go_wp2_with (first
    | (refine wpList_load_whole rfl 164 _ rfl _ rfl _ 164 (alloc_at (alloc_top (by simp))) _ Tryz.underlying164 rfl Tryz.info164s ?_))
   exact bodyPost_ret (results_c2 rfl rfl rfl (alloc_top (by simp)) rfl) rfl ⟨_,rfl,RfTo.same HL.out (((Frm.refl [] w).alloc _).alloc _)⟩
  ·by_cases h3:(L.length:Int)=cap
   ·have he:putE cap L m=7:=by rw[putE,if_neg (by omega),if_pos h3]
    have q1:¬ (m.size:Int) < 1:=by omega
    have q2:¬ (32:Int) < (m.size:Int):=by omega
    have q3:((L.length:Int) == cap)=true:=by simpa using h3
    rw[putL,he,if_neg (by decide)]
    clear h h1 h2 h3 he
    go_enter Tryz.func90,Tryz.ntmps90
    go_wp2_with (first
     | (refine wpList_load_whole rfl 164 _ rfl _ rfl _ 164 (alloc_at (alloc_top (by simp))) _ Tryz.underlying164 rfl Tryz.info164s ?_))
    exact bodyPost_ret (results_c2 rfl rfl rfl (alloc_top (by simp)) rfl) rfl ⟨_,rfl,RfTo.same HL.out (((Frm.refl [] w).alloc _).alloc _)⟩
   ·have he:putE cap L m=0:=by rw[putE,if_neg (by omega),if_neg h3]
    have q1:¬ (m.size:Int) < 1:=by omega
    have q2:¬ (32:Int) < (m.size:Int):=by omega
    have q3:((L.length:Int) == cap)=false:=by simpa using h3
    rw[putL,he,if_pos rfl]
    clear h h1 h2 h3 he
    obtain⟨i0,hi0,hz0,hz1,hz2⟩:=info_parts Tryz.info9
    go_enter Tryz.func90,Tryz.ntmps90
    go_wp2_with (first
     | (at_builtin;refine wpList_append_src rfl _ _ rfl _ rfl (alloc_top (by simp)) _ rfl L.length _ (HL.out.frm ((((Frm.refl [] w).alloc _).alloc _).alloc _) (by simp)).src (HL.out.frm ((((Frm.refl [] w).alloc _).alloc _).alloc _) (by simp)).some_addr (by omega) ?_;intro ao1 cp1 w1 ho1 hg1;have HO1:=Lib.hid ho1;have HG1:=Lib.hid hg1;clear ho1 hg1)
     | (at_builtin;refine wpList_append_own_at _ rfl _ _ 75 rfl (w.heap.size + 1 + 1) 9 i0 (.string { data:=#[] }) 1 16 Tryz.underlying75 hi0 hz0 hz1 hz2 rfl (by decide) _ _ _ rfl (HO1.out.alloc _) ⟨w1.heap.size,0,none⟩ 1 1 [.string m] rfl rfl (cell_one_new _ _ _) (by simp[Value.oneCell']) (by unfold maxLen;omega) (by omega) (by have:=HG1.out.size;simp at this ⊢;omega) ?_;intro v' wa hown' hgrow hnil hloc;obtain⟨ao2,cp2,rfl⟩:=own_shape hown';have HO2:=Lib.hid hown';have hm:=ref_mid (p:=w.heap.size) (q:=w.heap.size + 1) (alloc_at (alloc_top (by simp))) (alloc_top (by simp)) HO1.out (by simp) HG1.out hgrow;have HM:=Lib.hid hm;have ca:=cell_of hm.1;have fa:=free_of hm.1 2;have ca2:=ca 2;have HB:=Lib.hid (block_setCell hm.1 2 (.slice ao2 (L.length + 1) cp2));have HZ:Hid ((wa.setCell ⟨w.heap.size,2,none⟩ (.slice ao2 (L.length + 1) cp2)).heap[w.heap.size + 1]?=some (.cells #[.int .i64 0,.int .i64 0,.slice none 0 0] 164 (0,0))):=Lib.hid (setCell_at hm.2.1 (by simp) _);clear ca hm hown' hgrow hnil hloc)
     | (refine wpList_load_whole rfl 164 _ rfl _ rfl _ 164 HB.out _ Tryz.underlying164 rfl Tryz.info164s ?_)
     | (refine wpList_store_row rfl 164 _ _ rfl _ _ _ 164 rfl rfl HZ.out rfl Tryz.info164s (one3 _ _ _ _ _) ?_;intro w2 hb2 hf2))
    exact bodyPost_ret (results_c2 rfl rfl rfl hb2 rfl) rfl ⟨_,rfl,ref_end (p:=w.heap.size) (q:=w.heap.size + 1) (b:=w.heap.size + 1 + 1) (L':=L ++ [m]) ((((Frm.refl [] w).alloc _).alloc _)) (Nat.le_refl _) (by omega) (by omega) (by omega) HM.out.2.2 (by simpa using HO2.out) (by simp) hf2⟩
end Go.Proofs.YtohfkhjlnlahdaaGreat
namespace Go.Proofs.YtohfkhjlnlahdaaGreat
open Go.RowKit Go.BigFrame
def Ints (w:World) (v:Value) (l:List Nat):Prop:=w.ownsRow 0 3 1 v l.length (l.map fun k:Nat=>Value.int .i64 (k:Int))
theorem Tryz.info3:(Tryz.prog.info? 3).map (fun i=>(i.zero,i.size,i.bytes))=some (some (.int .i64 0),1,8):=by kernel_rfl
def CI (w:World) (A:Array Value) (cls:Int) (L:List ByteArray) (i:Nat) (v:Value) (wr:World):Prop:=
 wr.heap[w.heap.size]?=some (.cells A 164 (0,0))∧wr.ownsRow (w.heap.size + 1) 3 1 v (chp cls L i).length ((chp cls L i).map fun k:Nat=>Value.int .i64 (k:Int))∧Frm [] w wr
theorem CI.add {w wr wa:World} {A:Array Value} {cls:Int} {L:List ByteArray} {i n:Nat} {v v':Value} {X:Obj} (h:CI w A cls L i v wr) (e:chp cls L (i + 1)=chp cls L i ++ [i])
  (hown:wa.ownsRow (w.heap.size + 1) 3 1 v' (n + 1) ((chp cls L i).map (fun k:Nat=>Value.int .i64 (k:Int)) ++ [.int .i64 (i:Int)])) (hg:(wr.alloc X).grownBy wa v.ownBlock):CI w A cls L (i + 1) v' wa:=by
 have hn:n + 1=(chp cls L i).length + 1:=by have:=hown.1;simpa using this.symm
 refine⟨grown_at hg (alloc_at h.1) (fun e2=>?_),?_,((h.2.2.alloc _).grown hg fun k hk=>.inr ?_)⟩
 ·have:=ownBlock_ge h.2.1 e2;omega
 ·rw[e,List.length_append,List.length_cons,List.length_nil,List.map_append,← hn]
  exact hown
 ·have:=ownBlock_ge h.2.1 hk;omega
theorem CI.frm {w wr wx:World} {A:Array Value} {cls:Int} {L:List ByteArray} {i:Nat} {v:Value} (h:CI w A cls L i v wr) (hf:Frm [] wr wx):CI w A cls L i v wx:=⟨hf.at h.1 (by simp),hf.owns h.2.1 (by simp),h.2.2.trans hf⟩
set_option maxHeartbeats 2000000 in
set_option maxRecDepth 100000 in
theorem refChoices_any (cls cap:Int) (lv:Value) (L:List ByteArray) (w:World) (h:Lf w lv L) (hL:L.length≤64) :
  Calls Tryz.prog 82 #[.agg #[.int .i64 cls,.int .i64 cap,lv]] w (RetV fun v w'=>Ints w' v (chp cls L L.length)∧Frm [] w w'∧∀ k,v.ownBlock=some k→w.heap.size≤k):=by
 obtain⟨ao,cp,rfl,hcs⟩:=h.shape
 have HC:Hid (∀ wr,Frm [] w wr→∀ k x,L[k]?=some x→∃ g,ao=some ⟨g,0,none⟩∧wr.cell? ⟨g,k,none⟩=some (.string x)):=Lib.hid fun wr hf k x hk=>by
  obtain⟨g,h1,h2⟩:=hcs k x hk
  exact⟨g,h1,hf.keep h2⟩
 clear h hcs
 obtain⟨i0,hi0,hz0,hz1,hz2⟩:=info_parts Tryz.info3
 have HS:Hid (CI w #[.int .i64 cls,.int .i64 cap,.slice ao L.length cp] cls L 0 (.slice none 0 0) (w.alloc (.cells #[.int .i64 cls,.int .i64 cap,.slice ao L.length cp] 164))):=Lib.hid ⟨alloc_top rfl,World.ownsRow_nil _ _ _ _,(Frm.refl [] w).alloc _⟩
 go_enter Tryz.func82,Tryz.ntmps82
 go_wp2
 go_loopw [3,4] (fun s3 s4 wr=>∃ i:Nat,s4=.int .i64 i∧i≤L.length∧CI w #[.int .i64 cls,.int .i64 cap,.slice ao L.length cp] cls L i s3 wr) (fun _ s4 _=>L.length - (intOf s4).toNat)
 case atStart=>exact⟨0,rfl,Nat.zero_le _,HS.out⟩
 case round =>
  clear HS
  obtain⟨i,rfl,hi,hb,ho,hf⟩:=hrel
  have c0:=cell_of hb 0
  have c2:=cell_of hb 2
  have HB:=Lib.hid hb;have HO:=Lib.hid ho;have HF:=Lib.hid hf
  obtain⟨ao3,c3,rfl⟩:=own_shape ho
  have hlen:(chp cls L i).length≤i:=chp_length cls L i
  clear hb ho hf
  by_cases hlt:i < L.length
  ·have hlt':(i:Int) < (L.length:Int):=by omega
   by_cases h2:cls=2
   ·have b2:(cls == 2)=true:=by simpa using h2
    have H2:=Lib.hid h2
    clear h2
    have HC1:=Lib.hid (HC.out _ HF.out)
    obtain⟨y,hy⟩:∃ y,L[i]?=some y:=⟨_,List.getElem?_eq_getElem hlt⟩
    obtain⟨g,rfl,ci⟩:=HC1.out i y hy
    have HY:Hid (L.getD i ByteArray.empty=y):=Lib.hid (by rw[List.getD_eq_getElem?_getD,hy];rfl)
    clear hy
    obtain⟨wo,rfl⟩:∃ wo,wo=wr:=⟨_,rfl⟩
    go_wp2
    go_loopw [5,6] (fun s5 s6 wx=>∃ k:Nat,s6=.int .i64 k∧k≤i∧s5=.bool (nf L i k)∧Frm [] wo wx) (fun _ s6 _=>i - (intOf s6).toNat)
    case atStart=>exact⟨0,rfl,Nat.zero_le _,rfl,Frm.refl _ _⟩
    case round =>
     obtain⟨k,rfl,hk,rfl,hfx⟩:=hrel
     have HX:=Lib.hid hfx
     have c0:=hfx.keep c0
     have c2:=hfx.keep c2
     have ci:=hfx.keep ci
     by_cases hki:k < i
     ·have hki':(k:Int) < (i:Int):=by omega
      obtain⟨x,hx⟩:∃ x,L[k]?=some x:=⟨_,List.getElem?_eq_getElem (by omega)⟩
      obtain⟨g',hg',ck⟩:=HC1.out k x hx
      cases hg'
      have ck:=hfx.keep ck
      clear hfx
      have hkl:(k:Int) < (L.length:Int):=by omega
      have hnx:nf L i (k + 1)=(nf L i k && !decide (x=y)):=by
       rw[nf,HY.out,List.getD_eq_getElem?_getD,hx];rfl
      have hbe:=str_beq x y
      clear hx
      cases hnf:nf L i k with
      | true =>
        rw[hnf] at hnx
        go_wp2
        go_quiet (fail)
        go_wp2
        exact⟨⟨k + 1,by simp,hki,by rw[hnx];simp,HX.out.drewN _⟩,by simp[intOf];omega⟩
      | false =>
        rw[hnf] at hnx
        go_wp2
        go_quiet (fail)
        go_wp2
        exact⟨⟨k + 1,by simp,hki,by rw[hnx];simp,HX.out.drewN _⟩,by simp[intOf];omega⟩
     ·obtain rfl:k=i:=by omega
      clear hfx
      have hcn:chc cls L k=nf L k k:=by rw[H2.out];exact chc_two hlt
      have hkk:¬ (k:Int) < (k:Int):=by omega
      by_cases hcc:chc cls L k=true
      ·have e:chp cls L (k + 1)=chp cls L k ++ [k]:=by rw[chp_succ,if_pos hcc]
       have hnt:nf L k k=true:=by rw[← hcn];exact hcc
       rw[hnt]
       go_wp2_with (first
        | (at_builtin;go_must (refine wpList_append_own_at _ rfl _ _ 57 rfl (w.heap.size + 1) 3 i0 (.int .i64 0) 1 8 Tryz.underlying57 hi0 hz0 hz1 hz2 rfl (by decide) _ _ _ rfl ((HX.out.owns HO.out (by simp)).alloc _) ⟨wr.heap.size,0,none⟩ 1 1 [.int .i64 (k:Int)] rfl rfl (cell_one_new _ _ _) (by simp[Value.oneCell']) (by unfold maxLen;omega) (by omega) (by have:=HF.out.size;have:=HX.out.size;have:=lt_of_block HB.out;simp;omega) ?_);intro v' wa hown' hgrow hnil hloc;have HE:=Lib.hid (CI.add (CI.frm ⟨HB.out,HO.out,HF.out⟩ HX.out) e hown' hgrow);clear hown' hgrow hnil hloc))
       exact⟨⟨k + 1,by simp,by omega,HE.out⟩,by simp[intOf];omega⟩
      ·have e:chp cls L (k + 1)=chp cls L k:=by rw[chp_succ,if_neg hcc]
       have hnt:nf L k k=false:=by rw[← hcn];simpa using hcc
       rw[hnt]
       go_wp2
       exact⟨⟨k + 1,by simp,by omega,by have hci:=CI.frm ⟨HB.out,HO.out,HF.out⟩ HX.out;unfold CI at hci ⊢;rw[e];exact hci⟩,by simp[intOf];omega⟩
   ·have b2:(cls == 2)=false:=by simpa using h2
    have hch:chc cls L i=((i:Int) == 0):=by unfold chc;rw[if_neg h2]
    by_cases hcc:chc cls L i=true
    ·have e:chp cls L (i + 1)=chp cls L i ++ [i]:=by rw[chp_succ,if_pos hcc]
     have hz:((i:Int) == 0)=true:=by rw[← hch];exact hcc
     go_wp2_with (first
      | (at_builtin;refine wpList_append_own_at _ rfl _ _ 57 rfl (w.heap.size + 1) 3 i0 (.int .i64 0) 1 8 Tryz.underlying57 hi0 hz0 hz1 hz2 rfl (by decide) _ _ _ rfl (HO.out.alloc _) ⟨wr.heap.size,0,none⟩ 1 1 [.int .i64 (i:Int)] rfl rfl (cell_one_new _ _ _) (by simp[Value.oneCell']) (by unfold maxLen;omega) (by omega) (by have:=HF.out.size;have:=lt_of_block HB.out;simp;omega) ?_;intro v' wa hown' hgrow hnil hloc;have HE:=Lib.hid (CI.add ⟨HB.out,HO.out,HF.out⟩ e hown' hgrow);clear hown' hgrow hnil hloc))
     exact⟨⟨i + 1,by simp,by omega,HE.out⟩,by simp[intOf];omega⟩
    ·have e:chp cls L (i + 1)=chp cls L i:=by rw[chp_succ,if_neg hcc]
     have hz:((i:Int) == 0)=false:=by rw[← hch];simpa using hcc
     go_wp2
     exact⟨⟨i + 1,by simp,by omega,HB.out,by rw[e];exact HO.out,HF.out⟩,by simp[intOf];omega⟩
  ·obtain rfl:i=L.length:=by omega
   have hlt':¬ (L.length:Int) < (L.length:Int):=by omega
   go_wp2
   go_ret
   exact⟨_,rfl,by simpa[Ints] using own_low HO.out (Nat.zero_le _),HF.out,fun k hk=>by have:=ownBlock_ge HO.out hk;omega⟩
end Go.Proofs.YtohfkhjlnlahdaaGreat
