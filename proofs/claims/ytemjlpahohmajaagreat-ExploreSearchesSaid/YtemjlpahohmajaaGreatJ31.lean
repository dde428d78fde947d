/- Part of the proof. -/
import Derived.WalkKit
import Derived.WalkSpells
import Derived.Deep.QuietTactic
import Derived.Deep.MidRow
import Derived.Deep.WholeRow
import Derived.Lib.SlicesS
import Derived.Shelf.SlGeneric
import Derived.Shelf.SlLaysN
import Derived.Shelf.SlLaysM
import Derived.Ground.SlgnProg
import Derived.Ground.SlgmProg
import Derived.Test.YtemjlpahohmajaaGreatProg
import Derived.BigQuiet
import Derived.StillTail
import Derived.Laws.IdiomStrings
import Derived.Shelf.Bytes.SlSmallAll
import Derived.Deep.Upon
import Derived.ArgAppend
import Derived.Deep.AppendLies
import Derived.Maps.AppendAt
import Derived.Lib.Hide
import Derived.Deep.DeepMust
import Derived.WalkLawsBesides
import Derived.BigRegion
import Derived.Deep.RegionHeld3
import Derived.Deep.RegionLaw
import Derived.Deep.DeepCutAuto
import Derived.Shelf.SlicesG.Clone
import Derived.Shelf.SlicesG.Turned
import Derived.Shelf.SlicesG.Delete
import Derived.Sort.OwnSorted
import Derived.OrdersHeld
import Derived.Lib.SliceRun
import Derived.LoopTactic
import Derived.RangeFuncNested
import Derived.RangeFuncLeaves
import Derived.RangeFuncCalls
import Derived.RangeFuncBound
import Derived.OwnWalkIn
import Derived.TacticsInMore
import Derived.LoopNIn
import Derived.LoopIn
import Derived.Test.YtemjlpahohmajaaGreatJ14
import Derived.Test.YtemjlpahohmajaaGreatJ16
import Derived.Sort.CutIn
import Derived.OrdersIn
import Derived.Shelf.SortM.Plain
import Derived.Shelf.SortM.SortNone
import Derived.Test.YtemjlpahohmajaaGreatJ02
import Derived.Lib.Builder
import Derived.Laws.StructEq
import Derived.Test.YtemjlpahohmajaaGreatJ13
import Derived.Test.YtemjlpahohmajaaGreatJ08
import Derived.Test.YtemjlpahohmajaaGreatJ09
import Derived.Test.YtemjlpahohmajaaGreatJ03
import Derived.Lib.AppendStr
import Derived.Test.YtemjlpahohmajaaGreatJ15
import Derived.Laws.EntriesVeiled
import Derived.Laws.Concat
import Derived.Test.YtemjlpahohmajaaGreatJ06
set_option linter.all false
namespace Go.Proofs.YtemjlpahohmajaaGreat
open Go.RowKit Go.BigFrame
def RowG (G:Value→Prop) (e:TypeId) (v:Value) (w:World):Prop:=∀ g cur,v.ownBlock=some g→w.heap[g]?=some (.cells cur e (0,0))→∀ u∈cur,G u
theorem zeroCells_all {zero:Array Value} {n:Nat} {G:Value→Prop} (h0:0 < zero.size) (h:∀ u∈zero,G u):∀ u∈Builtin.zeroCells zero n,G u:=by
 intro u hu
 unfold Builtin.zeroCells at hu
 simp only[Array.mem_map,Array.mem_range] at hu
 obtain⟨i,-,rfl⟩:=hu
 have hi:i % zero.size < zero.size:=Nat.mod_lt _ h0
 rw[getElem!_pos zero _ hi]
 exact h _ (Array.getElem_mem hi)
theorem append_all {P:Program} (w:World) (G:Value→Prop) (base:Nat) (t ty e:TypeId) (i:TypeInfo) (z:Value) (size bytes:Nat) (ht:P.underlying t=some (.slice e)) (hi:P.info? e=some i) (hz:i.zero=some z)
  (hsize:i.size=size) (hby:i.bytes=bytes) (hzs:z.cells.size=size) (hsz:0 < size) (v:Value) (n:Nat) (xs:List Value) (hown:w.ownsRow base e size v n xs)
  (a:Addr) (m c:Nat) (news:List Value) (hl:news.length=m * size) (hnews:∀ j u,news[j]?=some u→w.cell? (a.add j)=some u) (h1:∀ u∈news,u.oneCell'=true)
  (h63:n + m≤maxLen) (hbytes:(n + m) * bytes≤140737488355328) (hbase:base≤w.heap.size) (hm:0 < m) (hG:RowG G e v w) (hGz:∀ u∈z.cells,G u) (hGn:∀ u∈news,G u) :
  ∃ v' w',(Builtin.append_ #[t,t] ty #[v,.slice (some a) m c]).run P w=.ok v' w'∧w'.ownsRow base e size v' (n + m) (xs ++ news)∧w.grownBy w' v.ownBlock∧RowG G e v' w'∧(v'.ownBlock=v.ownBlock∨v'.ownBlock=some w.heap.size):=by
 obtain⟨v',w',hr,h2,h3,-,h5⟩:=run_append_own_at (P:=P) w base t ty e i z size bytes ht hi hz hsize hby hzs hsz v n xs hown a m c news hl hnews h1 h63 hbytes hbase
 refine⟨v',w',hr,h2,h3,?_,h5⟩
 clear h5
 subst hsize
 subst hby
 have hsmall:n + m≤9223372036854775807:=by simp only[maxLen] at h63;omega
 have hold:∀ g cap,v=.slice (some ⟨g,0,none⟩) n cap→∀ u∈xs,G u:=by
  rintro g cap rfl u hu
  obtain⟨-,⟨e1,-⟩ | ⟨g',cap',cur,e1,-,hg,-,-,-,htake⟩⟩:=hown
  ·cases e1
  ·cases e1
   rw[← htake] at hu
   exact hG g cur rfl hg u (by simpa using List.mem_of_mem_take hu)
 rcases hown.2 with ⟨rfl,rfl⟩ | ⟨g,cap,cur,rfl,hbg,hg,hnc,hcm,hcs,htake⟩
 ·have hx:xs=[]:=List.eq_nil_of_length_eq_zero (by simpa using hown.1)
  subst hx
  have hr2:=run_append_nil (P:=P) w t ty e i z ht hi hz a m c news hl hnews hm (by omega) (by have hb:=hbytes;simp only[Nat.zero_add] at hb;omega)
  rw[hr2] at hr
  injection hr with e1 e2
  subst e1
  subst e2
  intro g' cur' hg' hc' u hu
  simp only[Value.ownBlock,Option.some.injEq] at hg'
  subst hg'
  have hh:=heap_alloc_new w.drew (.cells (news.toArray ++ Builtin.zeroCells z.cells (grownCap w m 0 e - m)) e)
  rw[show w.drew.heap.size=w.heap.size from rfl] at hh
  rw[hh] at hc'
  cases hc'
  rcases Array.mem_append.1 hu with hu | hu
  ·exact hGn u (by simpa using hu)
  ·exact zeroCells_all (by omega) hGz u hu
 ·by_cases hroom:n + m≤cap
  ·have hfit:n * i.size + news.length≤cur.size:=by rw[hl,hcs,← Nat.add_mul];exact Nat.mul_le_mul_right _ hroom
   have hr2:=run_append_room (P:=P) w t ty e i ht hi g n cap cur hg a m c news hl hnews h1 hroom hfit
   rw[hr2] at hr
   injection hr with e1 e2
   subst e1
   subst e2
   intro g' cur' hg' hc' u hu
   simp only[Value.ownBlock,Option.some.injEq] at hg'
   subst hg'
   rw[setRow_heap w g cur _ e _ hg] at hc'
   cases hc'
   simp only[List.mem_toArray,List.mem_append] at hu
   rcases hu with (hu | hu) | hu
   ·exact hG g cur rfl hg u (by simpa using List.mem_of_mem_take hu)
   ·exact hGn u hu
   ·exact hG g cur rfl hg u (by simpa using List.mem_of_mem_drop hu)
  ·have holds:∀ j u,xs[j]?=some u→w.cell? ((⟨g,0,none⟩:Addr).add j)=some u:=hown.cells (g:=g) rfl
   have hr2:=run_append_grow (P:=P) w t ty e i z ht hi hz ⟨g,0,none⟩ n cap xs hown.1 holds a m c news hl hnews (by omega) (by omega) (growslice_fits (by omega) hbytes)
   rw[hr2] at hr
   injection hr with e1 e2
   subst e1
   subst e2
   intro g' cur' hg' hc' u hu
   simp only[Value.ownBlock,Option.some.injEq] at hg'
   subst hg'
   have hh:=heap_alloc_new w.drew (.cells (xs.toArray ++ news.toArray ++ Builtin.zeroCells z.cells (grownCap w (n + m) cap e - (n + m))) e)
   rw[show w.drew.heap.size=w.heap.size from rfl] at hh
   rw[hh] at hc'
   cases hc'
   simp only[Array.mem_append,List.mem_toArray] at hu
   rcases hu with (hu | hu) | hu
   ·exact hold g cap rfl u hu
   ·exact hGn u hu
   ·exact zeroCells_all (by omega) hGz u hu
theorem wp_append_all {P:Program} {o:Oper} {a:Act} {w:World} {K:Act→World→Prop} {Q:Exit→Act→World→Prop} (G:Value→Prop) (s x:Operand) (t:TypeId)
  (ho:o.op=.call { callee:=.builtin .append,args:=#[s,x],argTypes:=#[t,t] })
  (base:Nat) (e:TypeId) (i:TypeInfo) (z:Value) (size bytes:Nat) (ht:P.underlying t=some (.slice e)) (hi:P.info? e=some i) (hz:i.zero=some z)
  (hsize:i.size=size) (hby:i.bytes=bytes) (hzs:z.cells.size=size) (hsz:0 < size)
  (v:Value) (n:Nat) (xs:List Value) (hs:a.eval s=v) (hown:w.ownsRow base e size v n xs)
  (ad:Addr) (m c:Nat) (news:List Value) (hx:a.eval x=.slice (some ad) m c) (hl:news.length=m * size) (hnews:∀ j u,news[j]?=some u→w.cell? (ad.add j)=some u) (h1:∀ u∈news,u.oneCell'=true)
  (h63:n + m≤maxLen) (hbytes:(n + m) * bytes≤140737488355328) (hbase:base≤w.heap.size) (hm:0 < m) (hG:RowG G e v w) (hGz:∀ u∈z.cells,G u) (hGn:∀ u∈news,G u)
  (h:∀ v' w',w'.ownsRow base e size v' (n + m) (xs ++ news)→w.grownBy w' v.ownBlock→RowG G e v' w'→(v'.ownBlock=v.ownBlock∨v'.ownBlock=some w.heap.size)→K (a.put o.dst v') w') :
  Oper.wp P o a w K Q:=by
 obtain⟨v',w',hr,h2,h3,h4,h5⟩:=append_all (P:=P) w G base t o.type e i z size bytes ht hi hz hsize hby hzs hsz v n xs hown ad m c news hl hnews h1 h63 hbytes hbase hm hG hGz hGn
 unfold Oper.wp execOp
 simp only[ho,resolve,invoke,builtin,Sem.run_bind,Sem.run_pure,Result.andThen_ok,List.map_toArray,List.map_cons,List.map_nil,hs,hx,hr]
 exact h v' w' h2 h3 h4 h5
end Go.Proofs.YtemjlpahohmajaaGreat
namespace Go.Proofs.YtemjlpahohmajaaGreat
open Go.RowKit Go.BigFrame
structure CtR (B:Nat) (lv:Value) (l:List (CtrD × Int)) (W:World):Prop where
 b:W.heap[B]?=some (.cells #[lv] 202 (0,0))
 a:Arr 3 CnAt W lv l
 t:∀ ao n c,lv=.slice ao n c→n≠0→∃ g cur,ao=some ⟨g,0,none⟩∧W.heap[g]?=some (.cells cur 207 (0,0))
set_option maxHeartbeats 2000000 in
set_option maxRecDepth 100000 in
theorem bCounters_any (bb:Nat) (l:List (CtrD × Int)) (w:World) (h:Bnk w bb l) (hl:l.length≤1000) :
  Calls Tryz.prog 55 #[.pointer (some ⟨bb,0,none⟩)] w (RetV fun v w'=>∃ B lv,v=.func (.func 100) #[] #[.pointer (some ⟨B,0,none⟩)]∧CtR B lv l w'∧Frm [] w w'∧w.heap.size≤B):=by
 have HF0:Hid (Frm [] w (w.alloc (.cells #[.slice none 0 0] 202))):=Lib.hid ((Frm.refl [] w).alloc _)
 have CN:=Lib.hid (bNone_any bb l _ (h.frm HF0.out))
 obtain⟨lv,h1,h2⟩:=h
 have CC:=Lib.hid (clCnt_any lv l _ (h2.frm (fun _ _ _ h=>h.frm HF0.out)) (by omega))
 have c1:=cell_of h1 1
 have hlt:=lt_of_block h1
 have b0:=heap_alloc_new w (.cells #[.slice none 0 0] 202)
 have B0:=Lib.hid b0
 clear h1 h2 hl b0
 go_enter Tryz.func55,Tryz.ntmps55
 go_wp2_with (first
  | (go_at_call 98;go_must (refine CN.out.mono ?_;rintro e w' ⟨rfl,rfl⟩))
  | (go_at_call 99;go_must (refine CC.out.mono ?_;rintro e w1 ⟨v,rfl,hr⟩;obtain⟨ao,cq,rfl⟩:=hr.arr.shape;have hb:=hr.frm.at B0.out (by simp);have cb:=cell_of hb 0;have fb:=free_of hb 0;have HB:=Lib.hid hb;have HR:=Lib.hid hr;clear hr hb)))
 go_ret
 have hb:=block_setCell HB.out 0 (.slice ao l.length cq)
 have hf:Frm [w.heap.size] w1 (w1.setCell ⟨w.heap.size,0,none⟩ (.slice ao l.length cq)):=(Frm.refl _ _).setCell _ (.inl (by simp)) _
 refine⟨_,rfl,_,_,rfl,⟨hb,?_,?_⟩,(HF0.out.trans HR.out.frm).then hf (by intro x hx;simp at hx;right;omega),Nat.le_refl _⟩
 ·rcases HR.out.own with rfl | ⟨news,ho⟩
  ·exact Arr.nil _ _ _
  by_cases hn:l.length=0
  ·rw[List.length_eq_zero_iff.1 hn];exact Arr.nil _ _ _
  ·obtain⟨g,cap,cur,e,hg,hc⟩:=own_block ho hn
   cases e
   obtain⟨ao,c,e,hx⟩:=HR.out.arr
   refine⟨ao,c,e,fun i x hi=>?_⟩
   obtain⟨b,o,e2,a0,a1,a2⟩:=hx i x hi
   rw[e2] at e
   cases e
   have hng:g∉[w.heap.size]:=by simp at hg ⊢;omega
   exact⟨g,0,e2,hf.cellAt a0 hng,hf.cellAt a1 hng,hf.cellAt a2 hng⟩
 ·intro ao n c e hn
  cases e
  rcases HR.out.own with rfl | ⟨news,ho⟩
  ·exact absurd rfl hn
  obtain⟨g,cap,cur,e,hg,hc⟩:=own_block ho hn
  cases e
  exact⟨g,cur,rfl,hf.at hc (by simp at hg ⊢;omega)⟩
theorem take_snoc' {α:Type} {L:List α} {k:Nat} {x:α} (h:L[k]?=some x):L.take (k + 1)=L.take k ++ [x]∧L=L.take k ++ x :: L.drop (k + 1):=by
 have hk:=lt_of_some h
 rw[List.getElem?_eq_getElem hk] at h
 cases h
 exact⟨List.take_succ_eq_append_getElem hk,by simp⟩
set_option maxHeartbeats 2000000 in
set_option maxRecDepth 100000 in
theorem bc_iter (B:Nat) (lv:Value) (L:List (CtrD × Int)) (hL:L.length≤1000000) :
  Iter Fence.wide 2 Tryz.prog 100 #[.pointer (some ⟨B,0,none⟩)] (fun e:CtrD × Int=>#[.string e.1.name,.int .i64 e.2]) (CtR B lv L) L:=by
 intro l J Jx sJ sJx hJR hY W h0
 have HJ:=Lib.hid sJ;have HJR:=Lib.hid hJR;have HY:=Lib.hid hY
 clear sJ sJx hJR hY
 have hr:=HJR.out _ _ h0
 have c0:=cell_of hr.b 0
 obtain⟨ao,cap,rfl⟩:=hr.a.shape
 have H0:=Lib.hid h0
 clear hr h0
 refine callsIn_of_wp Tryz.func100 rfl trivial ?_ rfl
 simp only[Tryz.ntmps100,List.size_toArray,List.length_cons,List.length_nil,Nat.reduceAdd,Nat.reduceSub,Array.replicate_succ,Array.replicate_zero,List.push_toArray,List.append_toArray,List.nil_append,List.cons_append]
 gi_wp2
 gi_loopw [7] (fun s wr=>∃ k:Nat,s=.int .i64 k∧k≤L.length∧J (L.take k) wr) (fun s _=>L.length - (intOf s).toNat)
 case atStart=>exact⟨0,rfl,Nat.zero_le _,H0.out⟩
 case round =>
  obtain⟨k,rfl,hk,hj⟩:=hrel
  have HJ1:=Lib.hid hj
  clear hj H0 c0
  by_cases hlt:k < L.length
  ·obtain⟨x,hx⟩:∃ x,L[k]?=some x:=⟨_,List.getElem?_eq_getElem hlt⟩
   have hr:=HJR.out _ _ HJ1.out
   obtain⟨b,o,c',e,g0,g1,g2⟩:=hr.a.at hx
   cases e
   have HX:=Lib.hid hx
   clear hr hx
   have hJ':J (L.take k) (wr.alloc (.cells #[.string x.1.name,.int .i64 x.1.lim,.int .i64 x.2] 207)):=HJ.out _ _ _ HJ1.out ((Frm.refl _ _).alloc _)
   obtain⟨fn,tmps,assign,body,hy,hR⟩:=HY.out (L.take k) x (L.drop (k + 1)) _ (take_snoc' HX.out).2 hJ'
   have HRR:=Lib.hid hR
   clear hJ' hR
   have hlt':(k:Int) < L.length:=by omega
   gi_wp2
   refine HRR.out.mono ?_
   rintro e W3 (⟨rfl,hJ3⟩ | ⟨rfl,hJx3⟩)
   ·have HJ3:=Lib.hid hJ3
    clear hJ3
    gi_wp2
    go_roundw
    case rel=>exact⟨k + 1,by go_num,hlt,by rw[(take_snoc' HX.out).1];exact HJ3.out⟩
    case measure=>simp[intOf];omega
   ·have HJ3:=Lib.hid hJx3
    clear hJx3
    gi_wp2
    refine bodyPost_ret (results_none rfl _ _ _) rfl ?_
    exact⟨⟨_,rfl⟩,.inr ⟨_,_,_,(take_snoc' HX.out).2,HJ3.out⟩⟩
  ·obtain rfl:k=L.length:=by omega
   have hge:¬ (L.length:Int) < L.length:=by omega
   gi_wp2
   go_end0
   exact⟨⟨_,rfl⟩,.inl (by have:=HJ1.out;rwa [List.take_length] at this)⟩
end Go.Proofs.YtemjlpahohmajaaGreat
namespace Go.Proofs.YtemjlpahohmajaaGreat
open Go.RowKit Go.BigFrame Go.Sort
theorem enc_byt (L:List ByteArray):(L.map byt).map encStr=L.map Value.string:=by
 rw[List.map_map];rfl
theorem Strs.holds {w:World} {g cap:Nat} {L:List ByteArray} (h:Strs w (.slice (some ⟨g,0,none⟩) L.length cap) L):Holds encStr w g 0 (L.map byt).toArray∧L.length≤cap∧cap≤maxLen∧∃ cur,w.heap[g]?=some (.cells cur 9 (0,0))∧cur.size=cap * 1:=by
 obtain⟨h1,h2⟩:=h
 rcases h2 with ⟨hv,hn⟩ | ⟨g',cap',cur,hv,hb,hh,q1,q2,q3,q4⟩
 ·cases hv
 ·cases hv
  refine⟨holds_of_block hh ?_,q1,q2,cur,hh,q3⟩
  rw[enc_byt,← q4];simp
theorem Strs.prefix' {w:World} {g cap n:Nat} {xs:List Value} {L:List ByteArray} (h:w.ownsRow 0 9 1 (.slice (some ⟨g,0,none⟩) n cap) n xs) (hx:xs.take L.length=L.map Value.string) (hn:L.length≤n):Strs w (.slice (some ⟨g,0,none⟩) L.length cap) L:=by
 obtain⟨h1,h2⟩:=h
 rcases h2 with ⟨hv,_⟩ | ⟨g',cap',cur,hv,hb,hh,q1,q2,q3,q4⟩
 ·cases hv
 ·cases hv
  refine⟨by simp,.inr ⟨g,cap,cur,rfl,hb,hh,by omega,q2,q3,?_⟩⟩
  rw[← hx,← q4,List.take_take]
  congr 1;omega
theorem delete_any (v:Value) (L:List ByteArray) (p:Nat) (w:World) (h:Strs w v L) (hp:p < L.length) (hL:L.length≤1000) :
  Calls Tryz.prog 114 #[v,.int .i64 p,.int .i64 ((p:Int) + 1)] w (RetV fun v' w'=>Strs w' v' (L.eraseIdx p)∧v'.ownBlock=v.ownBlock∧Frm v.ownBlock.toList w w'):=by
 obtain⟨ao,cap,rfl,hn,hc⟩:=h.shape
 obtain⟨g,rfl,-⟩:=hc p _ (List.getElem?_eq_getElem hp)
 obtain⟨hH,q1,q2,cur,hh,q3⟩:=h.holds
 have hd:=AnyG.slices_Delete_string Tryz.deleteS g 0 cap p (p + 1) (L.map byt) w hH (by simpa using q1) (by unfold maxLen at q2;omega) (by omega) (by simp;omega)
 rw[List.length_map] at hd
 refine(show Calls Tryz.prog 114 _ w _ from hd).mono ?_
 rintro e w' ⟨rfl,q,rfl⟩
 have hlen:(L.eraseIdx p).length=L.length - (p + 1 - p):=by rw[List.length_eraseIdx_of_lt hp];omega
 refine⟨_,rfl,?_,rfl,?_⟩
 ·have ho:=ownsRow_sorted (w:=w) (base:=0) (g:=g) (cap:=cap) (n:=q) (e:=9) (os:=#[]) (cur:=cur) (ss:=L.map byt) (ts:=(L.map byt).take p ++ (L.map byt).drop (p + 1) ++ List.replicate (p + 1 - p) []) (by simp;omega) (Nat.zero_le _) hh (by simpa using q1) q2 q3
  rw[grow_empty,List.length_map] at ho
  rw[← hlen]
  refine Strs.prefix' ho ?_ (by rw[hlen];omega)
  have e1:((L.map byt).take p ++ (L.map byt).drop (p + 1)).map encStr=(L.eraseIdx p).map Value.string:=by
   rw[← enc_byt,List.eraseIdx_eq_take_drop_succ,List.map_append (f:=byt),List.map_take,List.map_drop]
  rw[List.map_append (f:=encStr),e1,List.take_left' (by simp)]
 ·have hb:=grownBy_sorted (w:=w) (g:=g) (n:=q) (os:=#[]) ((L.map byt).take p ++ (L.map byt).drop (p + 1) ++ List.replicate (p + 1 - p) []).toArray
  rw[grow_empty] at hb
  exact(Frm.refl _ _).grown hb (fun k hk=>by cases hk;exact .inl (by simp[Value.ownBlock]))
def cfn (cls:Int):Nat:=if cls=2 then 151 else 150
theorem chc_any (cls:Int) (v:Value) (L:List ByteArray) (i:Nat) (w:World) (h:Strs w v L) (hL:L.length≤1000000) (hi:i < L.length) :
  Calls Tryz.prog (cfn cls) #[v,.int .i64 i] w (Ret (.bool (chc cls L i)) (w=·)):=by
 unfold cfn chc
 split
 ·exact second_any v L i _ w h hL (by rw[List.getD_eq_getElem?_getD,List.getElem?_eq_getElem hi];rfl)
 ·exact first_any v i w
theorem tab_at {cls:Int} (h1:1≤cls) (h3:cls≤3):∃ k:Nat,cls=(k:Int)∧k < 4∧(#[Value.nilFunc,.func (.func 150) #[] #[],.func (.func 151) #[] #[],.func (.func 150) #[] #[]]:Array Value)[k]?=some (.func (.func (cfn cls)) #[] #[]):=by
 have:cls=1∨cls=2∨cls=3:=by omega
 rcases this with rfl | rfl | rfl
 ·exact⟨1,rfl,by decide,rfl⟩
 ·exact⟨2,rfl,by decide,rfl⟩
 ·exact⟨3,rfl,by decide,rfl⟩
theorem Good.erase {cls cap:Int} {L:List ByteArray} {p:Nat} (h:Good cls cap L):Good cls cap (L.eraseIdx p):=
 ⟨h.c1,h.c3,h.k1,h.k64,by have:=h.len;have:=List.length_eraseIdx_le L p;omega,fun x hx=>h.sz x (List.mem_of_mem_eraseIdx hx)⟩
theorem take_end {w wc w1 w2:World} {cb:Nat} {cls cap:Int} {L L':List ByteArray} {sv v' v2:Value} (h0:w.heap[cb]?=some (.cells #[.int .i64 cls,.int .i64 cap,sv] 213 (0,0))) (hg':Good cls cap L')
  (hf:Frm [] w wc) (hr:Fresh wc L v' w1) (hst:Strs w2 v2 L') (ho:v2.ownBlock=v'.ownBlock) (h2:Frm v'.ownBlock.toList w1 w2) (hca:w2.heap[cb]?=some (.cells #[.int .i64 cls,.int .i64 cap,sv] 213 (0,0))) :
  ChnTo w cb cls cap L' (cb :: sv.ownBlock.toList) (w2.setCell ⟨cb,2,none⟩ v2):=by
 have hlt:=lt_of_block h0
 have hs:=hf.size
 have hn:∀ k,v'.ownBlock=some k→w.heap.size≤k:=fun k hk=>by have:=hr.2.2 k hk;omega
 refine⟨cb :: v2.ownBlock.toList,⟨v2,(block_setCell hca 2 v2).trans rfl,ownsRow_setCell_other hst (fun e=>?_) v2,hg',rfl⟩,?_,fun x hx=>?_⟩
 ·rw[ho] at e;have h5:w.heap.size≤cb:=hn _ e;omega
 ·refine Frm.setCell ?_ _ (.inl (by simp)) _
  exact((hf.trans hr.2.1).mono (F':=cb :: sv.ownBlock.toList) (by simp)).then h2 (fun x hx=>.inr (hn x (by simpa using hx)))
 ·simp only[List.mem_cons,Option.mem_toList] at hx ⊢
  rcases hx with rfl | hx
  ·exact .inl (.inl rfl)
  ·rw[ho] at hx;exact .inr (hn x hx)
theorem cls_cases {cls:Int} (h1:1≤cls) (h3:cls≤3):cls=1∨cls=2∨cls=3:=by omega
set_option maxHeartbeats 4000000 in
set_option maxRecDepth 100000 in
theorem take_in (cb:Nat) (cls cap:Int) (L:List ByteArray) (F:List Nat) (p:Nat) (w:World) (h:Chn w cb cls cap L F) (hp:p < L.length) :
  Calls Tryz.prog 68 #[.pointer (some ⟨cb,0,none⟩),.int .i64 p] w (Ret (.tuple #[.string (takeM cls L p),.int .i64 (takeE cls L p)]) (ChnTo w cb cls cap (takeL cls L p) F)):=by
 have CN:=Lib.hid (none_any cb cls cap L F w h)
 have HG:=Lib.hid h.good
 have HT:=Lib.hid h.to
 have hg:=h.good.lenN
 obtain⟨sv,e1,e2,-,rfl⟩:=h
 have c0:=cell_of e1 0
 have c2:=cell_of e1 2
 obtain⟨ao,c,rfl,-,hcs⟩:=e2.shape
 obtain⟨g,rfl,cx⟩:=hcs p _ (List.getElem?_eq_getElem hp)
 have HE1:=Lib.hid e1;have HE2:=Lib.hid e2
 have hp0:decide ((p:Int) < 0)=false:=by simp
 have hp1:decide (L.length≤p)=false:=by simp;omega
 obtain⟨r,hc⟩:∃ r,chc cls L p=r:=⟨_,rfl⟩
 have HCH:Hid (∀ w',Frm [] w w'→Calls Tryz.prog (cfn cls) #[.slice (some ⟨g,0,none⟩) L.length c,.int .i64 p] w' (Ret (.bool r) (w'=·))):=Lib.hid fun w' hf=>by
  have:=chc_any cls _ L p w' (HE2.out.frm hf (by simp)) (by omega) hp
  rwa [hc] at this
 have HC0:=Lib.hid hc
 have c0':w.cell? ⟨cb,0,none⟩=some (.int .i64 cls):=c0
 have c2':w.cell? ⟨cb,2,none⟩=some (.slice (some ⟨g,0,none⟩) L.length c):=c2
 have HCA:Hid (∀ w',Frm [] w w'→w'.cell? ⟨cb,0,none⟩=some (.int .i64 cls)∧w'.cell? ⟨cb,2,none⟩=some (.slice (some ⟨g,0,none⟩) L.length c)):=Lib.hid fun w' hf=>⟨hf.keep c0',hf.keep c2'⟩
 clear e1 e2 hcs c0 c2 hc
 go_enter Tryz.func68,Tryz.ntmps68
 go_wp2_with (first
  | (go_at_call 102;go_must (refine CN.out.mono ?_;rintro e w' ⟨rfl,rfl⟩)))
 go_cut [35] (fun s35 w'=>s35=.bool (!r)∧Frm [] w w')
 case first =>
  rcases cls_cases HG.out.c1 HG.out.c3 with e | e | e
  all_goals
   rw[e] at HCA HCH
   clear e c0' c2'
   refine heldG_start (by kernel_rfl) ?_
   refine cnt 0 ?_
   iterate 12
    refine tcG ?_ ?_ ?_
    rotate_left
    ·intro w' hC
     obtain⟨e0,e2⟩:=HCA.out w' ((Frm.refl [] w).drew.trans hC)
     clear hC
     go_simp
     try rfl
    try simp only[nrm,Nat.reduceAdd]
   refine tcn ?_
   refine cnt 13 ?_
   iterate 4
    refine tcG ?_ ?_ ?_
    rotate_left
    ·intro w' hC
     obtain⟨e0,e2⟩:=HCA.out w' ((Frm.refl [] w).drew.trans hC)
     clear hC
     go_simp
     try rfl
    try simp only[nrm,Nat.reduceAdd]
   refine tcn ?_
   refine cnt 19 ?_
   iterate 5
    refine tcG ?_ ?_ ?_
    rotate_left
    ·intro w' hC
     obtain⟨e0,e2⟩:=HCA.out w' ((Frm.refl [] w).drew.trans hC)
     clear hC
     go_simp
     try rfl
    try simp only[nrm,Nat.reduceAdd]
   refine tcn ?_
   refine stG 12 (fun K' hK'=>?_)
   go_simp
   (refine(choices_any w.drew).mono ?_;rintro e w1 ⟨rfl,rfl⟩)
   refine hK'.out _ _ ((Frm.refl [] w.drew).alloc tabO) ?_
   clear hK' K'
   try simp only[nrm]
   have c1:(w.drew.alloc tabO).cell? ⟨w.heap.size,1,none⟩=some (.func (.func 150) #[] #[]):=cell_of (heap_alloc_new w.drew _) 1
   have c2:(w.drew.alloc tabO).cell? ⟨w.heap.size,2,none⟩=some (.func (.func 151) #[] #[]):=cell_of (heap_alloc_new w.drew _) 2
   have c3:(w.drew.alloc tabO).cell? ⟨w.heap.size,3,none⟩=some (.func (.func 150) #[] #[]):=cell_of (heap_alloc_new w.drew _) 3
   have HWT:Frm [] w (w.drew.alloc tabO):=(Frm.refl [] w).drew.alloc _
   generalize w.drew.alloc tabO=wz at c1 c2 c3 HWT ⊢
   refine tkG 17 ?_ ?_ ?_
   rotate_left
   ·intro w' hC
    have d1:=hC.keep c1
    have d2:=hC.keep c2
    have d3:=hC.keep c3
    clear hC
    go_simp
    try rfl
   try simp only[nrm]
   refine stG 18 (fun K' hK'=>?_)
   go_simp
   (skip)
   refine hK'.out _ _ (Frm.refl [] _) ?_
   clear hK' K'
   try simp only[nrm]
   refine stG 24 (fun K' hK'=>?_)
   go_simp
   (refine(HCH.out _ HWT).mono ?_;rintro e w2 ⟨rfl,rfl⟩)
   refine hK'.out _ _ (Frm.refl [] _) ?_
   clear hK' K'
   try simp only[nrm]
   refine cnt 25 ?_
   iterate 2
    refine tcG ?_ ?_ ?_
    rotate_left
    ·intro w' hC
     clear hC
     go_simp
     try rfl
    try simp only[nrm,Nat.reduceAdd]
   refine tcn ?_
   refine wpAnyH_done (by kernel_rfl) ?_ _
   go_wp2
   go_meet
   exact⟨rfl,HWT⟩
 case rest =>
  obtain⟨rfl,hf⟩:=hcut
  cases r with
  | false =>
    have ho:takeOk cls L (p:Int)=false:=by unfold takeOk;simp[HC0.out]
    have HF:=Lib.hid hf
    have HO:=Lib.hid ho
    clear hf HCH c0' c2' cx ho
    go_wp2
    go_ret2
    simp only[takeM,takeE,takeL,HO.out,Bool.false_eq_true,if_false]
    exact⟨rfl,HT.out.frm HF.out⟩
  | true =>
    have ho:takeOk cls L (p:Int)=true:=by unfold takeOk;simp[HC0.out,hp]
    have HO:=Lib.hid ho
    clear ho
    have HF:=Lib.hid hf
    have d2:=hf.keep c2'
    have dx:=hf.keep cx
    have HE2':=Lib.hid (HE2.out.frm hf (by simp))
    clear hf HCH c0' c2' cx
    have fcb:=HF.out.at HE1.out (by simp)
    have HCB:=Lib.hid fcb
    clear fcb
    go_wp2_with (first
     | (go_at_call 115;go_must (refine(clone_any _ L wc HE2'.out (by omega)).mono ?_;rintro e w1 ⟨v',rfl,hr⟩;have HR:=Lib.hid hr;clear hr))
     | (go_at_call 114;go_must (refine(delete_any v' L p w1 HR.out.1 hp (by omega)).mono ?_;rintro e w2 ⟨v2,rfl,hr⟩;have hst:=hr.1;obtain⟨ao',c',hv,-,-⟩:=hst.shape;rw[List.length_eraseIdx_of_lt hp] at hv;subst hv;have HD:=Lib.hid hr;have hca:=hr.2.2.at (HR.out.2.1.at HCB.out (by simp)) (fun hx=>by have:=HR.out.2.2 _ (by simpa using hx);have:=lt_of_block HCB.out;omega);have HCA:=Lib.hid hca;have k2:=cell_of hca 2;have kf:=free_of hca 2;clear hst hr hca)))
    go_ret2
    simp only[takeM,takeE,takeL,HO.out,if_true,Int.toNat_natCast]
    refine⟨?_,take_end HE1.out HG.out.erase HF.out HR.out HD.out.1 HD.out.2.1 HD.out.2.2 HCA.out⟩
    rw[List.getD_eq_getElem?_getD,List.getElem?_eq_getElem hp];rfl
set_option maxHeartbeats 4000000 in
set_option maxRecDepth 100000 in
theorem take_out (cb:Nat) (cls cap:Int) (L:List ByteArray) (F:List Nat) (p:Int) (w:World) (h:Chn w cb cls cap L F) (hp:p < 0∨(L.length:Int)≤p) :
  Calls Tryz.prog 68 #[.pointer (some ⟨cb,0,none⟩),.int .i64 p] w (Ret (.tuple #[.string { data:=#[] },.int .i64 9]) (Frm [] w)):=by
 have CN:=Lib.hid (none_any cb cls cap L F w h)
 obtain⟨sv,e1,e2,-,rfl⟩:=h
 have c2:=cell_of e1 2
 obtain⟨ao,c,rfl,-,hcs⟩:=e2.shape
 have c2':w.cell? ⟨cb,2,none⟩=some (.slice ao L.length c):=c2
 clear e1 e2 hcs c2
 by_cases hp0:p < 0
 ·have hq:decide (p < 0)=true:=by simpa using hp0
  clear hp hp0
  go_enter Tryz.func68,Tryz.ntmps68
  go_wp2_with (first
   | (go_at_call 102;go_must (refine CN.out.mono ?_;rintro e w' ⟨rfl,rfl⟩)))
  go_quiet (fail)
  go_wp2
  go_ret2
  exact⟨rfl,(Frm.refl [] w).drewN _⟩
 ·obtain⟨p,rfl⟩:=Int.eq_ofNat_of_zero_le (by omega:(0:Int)≤p)
  have hq:decide ((p:Int) < 0)=false:=by simp
  have hp1:decide (L.length≤p)=true:=by simp;omega
  clear hp hp0
  go_enter Tryz.func68,Tryz.ntmps68
  go_wp2_with (first
   | (go_at_call 102;go_must (refine CN.out.mono ?_;rintro e w' ⟨rfl,rfl⟩)))
  go_quiet (fail)
  go_wp2
  go_ret2
  exact⟨rfl,(Frm.refl [] w).drewN _⟩
theorem take_any (cb:Nat) (cls cap:Int) (L:List ByteArray) (F:List Nat) (p:Int) (w:World) (h:Chn w cb cls cap L F) :
  Calls Tryz.prog 68 #[.pointer (some ⟨cb,0,none⟩),.int .i64 p] w (Ret (.tuple #[.string (takeM cls L p),.int .i64 (takeE cls L p)]) (ChnTo w cb cls cap (takeL cls L p) F)):=by
 by_cases hr:p < 0∨(L.length:Int)≤p
 ·have ho:takeOk cls L p=false:=by unfold takeOk;rw[decide_eq_false (by omega)];rfl
  simp only[takeM,takeE,takeL,ho,Bool.false_eq_true,if_false]
  exact(take_out cb cls cap L F p w h hr).mono fun e w' ⟨he,hf⟩=>⟨he,h.to.frm hf⟩
 ·obtain⟨p,rfl⟩:=Int.eq_ofNat_of_zero_le (by omega:(0:Int)≤p)
  exact take_in cb cls cap L F p w h (by omega)
set_option maxHeartbeats 4000000 in
theorem lose_any (cb:Nat) (cls cap:Int) (L:List ByteArray) (F:List Nat) (w:World) (h:Chn w cb cls cap L F) :
  Calls Tryz.prog 65 #[.pointer (some ⟨cb,0,none⟩)] w (Ret (.tuple #[.string (loseM cls L),.int .i64 (loseE cls L)]) (ChnTo w cb cls cap (loseL cls L) F)):=by
 have CN:=Lib.hid (none_any cb cls cap L F w h)
 have HT:=Lib.hid h.to
 have CT:=Lib.hid (take_any cb cls cap L F 0 w h)
 obtain⟨sv,e1,-,-,-⟩:=h
 have c0:w.cell? ⟨cb,0,none⟩=some (.int .i64 cls):=cell_of e1 0
 clear e1
 by_cases h3:cls=3
 ·subst h3
  simp only[loseM,loseE,loseL,if_true]
  go_enter Tryz.func65,Tryz.ntmps65
  go_wp2_with (first
   | (go_at_call 102;go_must (refine CN.out.mono ?_;rintro e w' ⟨rfl,rfl⟩))
   | (go_at_call 68;go_must (refine CT.out.mono ?_;rintro e w' ⟨rfl,hr⟩;have HR:=Lib.hid hr;clear hr)))
  go_ret2
  exact⟨rfl,HR.out⟩
 ·simp only[loseM,loseE,loseL,if_neg h3]
  have hne:(cls == 3)=false:=by simpa using h3
  go_enter Tryz.func65,Tryz.ntmps65
  go_wp2_with (first
   | (go_at_call 102;go_must (refine CN.out.mono ?_;rintro e w' ⟨rfl,rfl⟩)))
  go_ret2
  exact⟨rfl,HT.out⟩
end Go.Proofs.YtemjlpahohmajaaGreat
namespace Go.Proofs.YtemjlpahohmajaaGreat
open Go.RowKit Go.BigFrame
theorem via {T G:Prop} (main:T→G) (tail:T):G:=main tail
theorem tkI {F:Fence} {n:Nat} {P:Program} {ops:Array Oper} {Q:Exit→Act→World→Prop} {md:Region.Mode} (i:Nat) {oi:Oper} (v:Value) {fuel:Nat} {listed:Array Bool} {a:Act} {w:World}
  (h:wpAnyIn F n P md ops Q fuel (listed.setIfInBounds i true) (a.put oi.dst v) w) (hro:F.round=none:=by rfl) (hi:ops[i]?=some oi:=by rfl) (hb:(Region.noSelect ops && Region.free md ops listed i && (Region.ready md ops listed).contains i)=true:=by decide +kernel)
  (hQ:∀ c a w,Q (.panic c) (a.put oi.dst v) w→Q (.panic c) a w:=by exact fun _ _ _ h=>h) (hy:YieldsFenced P ops oi v a:=by (refine⟨Or.inl ⟨?_,?_⟩,?_⟩;(focus rfl);(focus (intro w';go_simp;done));(exact fun _=>rfl))):wpAnyIn F n P md ops Q (fuel + 1) listed a w:=by
 simp only[Bool.and_eq_true] at hb
 exact wpAnyIn_take hro hi hb.1.1 hb.1.2 hb.2 hQ hy h
theorem tkU {F:Fence} {n:Nat} {P:Program} {ops:Array Oper} {Q:Exit→Act→World→Prop} {md:Region.Mode} (i:Nat) {oi:Oper} {fuel:Nat} {listed:Array Bool} {a:Act} {w:World}
  (h:wpAnyIn F n P md ops Q fuel (listed.setIfInBounds i true) (a.put oi.dst undef) w) (hro:F.round=none:=by rfl) (hi:ops[i]?=some oi:=by rfl) (hb:(Region.noSelect ops && Region.free md ops listed i && (Region.ready md ops listed).contains i)=true:=by decide +kernel)
  (hQ:∀ c a w,Q (.panic c) (a.put oi.dst undef) w→Q (.panic c) a w:=by exact fun _ _ _ h=>h) (hy:YieldsFenced P ops oi undef a:=by (refine⟨Or.inr ⟨?_,?_⟩,?_⟩;(focus rfl);(focus rfl);(exact fun _=>rfl))):wpAnyIn F n P md ops Q (fuel + 1) listed a w:=by
 simp only[Bool.and_eq_true] at hb
 exact wpAnyIn_take hro hi hb.1.1 hb.1.2 hb.2 hQ hy h
theorem enter_cfn (cls:Int) (args:Array Value) (w:World):(callFunc (cfn cls) args).run Tryz.prog w=.ok (.enter (cfn cls) args) w:=by
 unfold cfn
 split <;> kernel_rfl
def ChR (bl bc cb:Nat) (cls:Int) (sv:Value) (L:List ByteArray) (W:World):Prop:=
 W.heap[bl]?=some (.cells #[sv] 35 (0,0))∧Strs W sv L∧W.heap[bc]?=some (.cells #[.pointer (some ⟨cb,0,none⟩)] 149 (0,0))∧W.cell? ⟨cb,0,none⟩=some (.int .i64 cls)
def encC (e:Nat × ByteArray):Array Value:=#[.int .i64 e.1,.string e.2]
set_option maxHeartbeats 8000000 in
set_option maxRecDepth 100000 in
theorem chc_iter (bl bc cb:Nat) (cls:Int) (sv:Value) (L:List ByteArray) (h1:1≤cls) (h3:cls≤3) (hL:L.length≤1000) :
  Iter Fence.wide 2 Tryz.prog 149 #[.pointer (some ⟨bl,0,none⟩),.pointer (some ⟨bc,0,none⟩)] encC (ChR bl bc cb cls sv L) (chlK cls L L.length):=by
 intro l J Jx sJ sJx hJR hY W h0
 have HJ:=Lib.hid sJ;have HJR:=Lib.hid hJR;have HY:=Lib.hid hY
 clear sJ sJx hJR hY
 have hr:=HJR.out _ _ h0
 have c0:=cell_of hr.1 0
 obtain⟨ao,cap,hsv,-,-⟩:=hr.2.1.shape
 subst hsv
 have H0:=Lib.hid h0
 clear hr h0
 refine callsIn_of_wp Tryz.func149 rfl trivial ?_ rfl
 simp only[Tryz.ntmps149,List.size_toArray,List.length_cons,List.length_nil,Nat.reduceAdd,Nat.reduceSub,Array.replicate_succ,Array.replicate_zero,List.push_toArray,List.append_toArray,List.nil_append,List.cons_append]
 gi_wp2
 gi_loopw [8] (fun s wr=>∃ k:Nat,s=.int .i64 k∧k≤L.length∧J (chlK cls L k) wr) (fun s _=>L.length - (intOf s).toNat)
 case atStart=>exact⟨0,rfl,Nat.zero_le _,H0.out⟩
 case round =>
  obtain⟨k,rfl,hk,hj⟩:=hrel
  have HJ1:=Lib.hid hj
  clear hj H0 c0
  by_cases hlt:k < L.length
  ·have hr:=HJR.out _ _ HJ1.out
   obtain⟨x,hx⟩:∃ x,L[k]?=some x:=⟨_,List.getElem?_eq_getElem hlt⟩
   obtain⟨ao',cap',hsv,-,hcs⟩:=hr.2.1.shape
   cases hsv
   obtain⟨g,rfl,cx⟩:=hcs k x hx
   have cl:wr.cell? ⟨bl,0,none⟩=some (.slice (some ⟨g,0,none⟩) L.length cap):=cell_of hr.1 0
   have cc:wr.cell? ⟨bc,0,none⟩=some (.pointer (some ⟨cb,0,none⟩)):=cell_of hr.2.2.1 0
   have ck:=hr.2.2.2
   have hlt':(k:Int) < L.length:=by omega
   have HST:=Lib.hid hr.2.1
   clear hr hcs
   gi_upto_region 3 with (fail)
   have HCH:Hid (Calls Tryz.prog (cfn cls) #[.slice (some ⟨g,0,none⟩) L.length cap,.int .i64 k] (wr.alloc tabO).drew (Ret (.bool (chc cls L k)) ((wr.alloc tabO).drew=·))):=
    Lib.hid (chc_any cls _ L k _ (HST.out.frm ((Frm.refl [] wr).alloc _).drew (by simp)) (by omega) hlt)
   have HW:Hid (Frm [] wr (wr.alloc tabO).drew):=Lib.hid ((Frm.refl [] wr).alloc _).drew
   obtain⟨q,hq,hq4,htab⟩:=tab_at h1 h3
   have hqi:(q:Int) < 4:=by omega
   rw[hq] at ck
   have x1:(wr.drew.alloc tabO).cell? ⟨wr.heap.size,q,none⟩=some (.func (.func (cfn cls)) #[] #[]):=(cell_of (heap_alloc_new wr.drew _) q).trans htab
   have y1:(wr.alloc tabO).cell? ⟨wr.heap.size,q,none⟩=some (.func (.func (cfn cls)) #[] #[]):=(cell_of (heap_alloc_new wr _) q).trans htab
   clear hq h1 h3 htab
   focus
    refine wpIn_region_any (by kernel_rfl) ?_
    change wpAnyIn _ _ _ _ _ _ _ _ _ (World.drew _)
    have cl2:(wr.alloc tabO).cell? ⟨bl,0,none⟩=some (.slice (some ⟨g,0,none⟩) L.length cap):=((Frm.refl [] wr).alloc _).keep cl
    have cc2:(wr.alloc tabO).cell? ⟨bc,0,none⟩=some (.pointer (some ⟨cb,0,none⟩)):=((Frm.refl [] wr).alloc _).keep cc
    have ck2:=((Frm.refl [] wr).alloc tabO).keep ck
    apply via
    case main =>
     intro tail
     repeat' (first
      | (refine tkI 8 (.int .i64 k) ?_;try simp only[nrm])
      | ((first | refine tkI 2 (.pointer (some ⟨cb,0,none⟩)) ?_ | refine tkI 3 (.pointer (some ⟨cb,0,none⟩)) ?_);try simp only[nrm])
      | (refine tkI 5 (.pointer (some ⟨wr.heap.size,q,none⟩)) ?_;try simp only[nrm])
      | ((first
          | refine wpAnyIn_ready (rs:=[0,1,7]) (by decide +kernel) (by simp) (AllReadyIn.cons rfl (fun K hK=>?_) (AllReadyIn.cons rfl (fun K hK=>?_) (AllReadyIn.cons rfl (fun K hK=>?_) AllReadyIn.nil)))
          | refine wpAnyIn_ready (rs:=[0,1]) (by decide +kernel) (by simp) (AllReadyIn.cons rfl (fun K hK=>?_) (AllReadyIn.cons rfl (fun K hK=>?_) AllReadyIn.nil))
          | refine wpAnyIn_ready (rs:=[0,4,7]) (by decide +kernel) (by simp) (AllReadyIn.cons rfl (fun K hK=>?_) (AllReadyIn.cons rfl (fun K hK=>?_) (AllReadyIn.cons rfl (fun K hK=>?_) AllReadyIn.nil)))
          | refine wpAnyIn_ready (rs:=[0,4]) (by decide +kernel) (by simp) (AllReadyIn.cons rfl (fun K hK=>?_) (AllReadyIn.cons rfl (fun K hK=>?_) AllReadyIn.nil))
          | refine wpAnyIn_ready (rs:=[0,7]) (by decide +kernel) (by simp) (AllReadyIn.cons rfl (fun K hK=>?_) (AllReadyIn.cons rfl (fun K hK=>?_) AllReadyIn.nil))
          | refine wpAnyIn_ready (rs:=[0]) (by decide +kernel) (by simp) (AllReadyIn.cons rfl (fun K hK=>?_) AllReadyIn.nil)
          | refine wpAnyIn_ready (rs:=[1,7]) (by decide +kernel) (by simp) (AllReadyIn.cons rfl (fun K hK=>?_) (AllReadyIn.cons rfl (fun K hK=>?_) AllReadyIn.nil))
          | refine wpAnyIn_ready (rs:=[1]) (by decide +kernel) (by simp) (AllReadyIn.cons rfl (fun K hK=>?_) AllReadyIn.nil)
          | refine wpAnyIn_ready (rs:=[4,7]) (by decide +kernel) (by simp) (AllReadyIn.cons rfl (fun K hK=>?_) (AllReadyIn.cons rfl (fun K hK=>?_) AllReadyIn.nil))
          | refine wpAnyIn_ready (rs:=[4]) (by decide +kernel) (by simp) (AllReadyIn.cons rfl (fun K hK=>?_) AllReadyIn.nil)
          | refine wpAnyIn_ready (rs:=[6,7]) (by decide +kernel) (by simp) (AllReadyIn.cons rfl (fun K hK=>?_) (AllReadyIn.cons rfl (fun K hK=>?_) AllReadyIn.nil))
          | refine wpAnyIn_ready (rs:=[6]) (by decide +kernel) (by simp) (AllReadyIn.cons rfl (fun K hK=>?_) AllReadyIn.nil)
          | refine wpAnyIn_ready (rs:=[7]) (by decide +kernel) (by simp) (AllReadyIn.cons rfl (fun K hK=>?_) AllReadyIn.nil)
        ) <;> (rw[if_pos (by rfl)];go_simp;(try (refine⟨trivial,(callsIn_wide.2 (choices_any _)).mono ?_⟩;rintro e w1 ⟨rfl,rfl⟩));refine hK _ _ ?_;clear hK K;try simp only[nrm]))
      | exact tail)
    case tail =>
     generalize (wr.alloc tabO).drew=wz at HCH HW ⊢
     clear x1 y1 cl2 cc2 ck2
     have he:=enter_cfn cls
     refine wpAnyIn_ready (rs:=[9]) (by kernel_rfl) (by simp) (AllReadyIn.cons rfl (fun K hK=>?_) AllReadyIn.nil)
     rw[if_pos (by rfl)]
     go_simp
     refine⟨trivial,(callsIn_wide.2 HCH.out).mono ?_⟩
     rintro e w1 ⟨rfl,rfl⟩
     refine hK _ _ ?_
     clear hK K HCH he
     try simp only[nrm]
     cases hc:chc cls L k with
     | false =>
       have HJ2:Hid (J (chlK cls L (k + 1)) wz):=by
        have h4:=HJ.out _ _ _ HJ1.out HW.out
        have h5:J (chlK cls L (k + 1)) wz:=by simpa[chlK,hc] using h4
        exact Lib.hid h5
       refine tkI 10 (.bool false) ?_
       try simp only[nrm]
       iterate 5
        first | refine tkU 11 ?_ | refine tkU 12 ?_ | refine tkU 13 ?_ | refine tkU 14 ?_ | refine tkU 15 ?_
        try simp only[nrm]
       refine wpAnyIn_ready (rs:=[16]) (by kernel_rfl) (by simp) (AllReadyIn.cons rfl (fun K hK=>?_) AllReadyIn.nil)
       rw[if_pos (by rfl)]
       go_simp
       refine hK _ _ ?_
       clear hK K
       try simp only[nrm]
       refine wpAnyIn_done (by kernel_rfl) ?_ _
       clear hc HY HJR HST cl cc ck cx hx
       gi_wp2
       go_roundw
       case rel=>exact⟨k + 1,by go_num,hlt,HJ2.out⟩
       case measure=>simp[intOf];omega
     | true =>
       obtain⟨rest,hsp⟩:=chl_split hlt hc
       have hJ':=HJ.out _ _ _ HJ1.out HW.out
       have hgd:L.getD k ByteArray.empty=x:=by rw[List.getD_eq_getElem?_getD,hx];rfl
       rw[hgd] at hsp
       obtain⟨fn,tmps,assign,body,hy,hR⟩:=HY.out _ _ _ _ hsp hJ'
       have HSP:=Lib.hid hsp
       have HC1:Hid (chlK cls L (k + 1)=chlK cls L k ++ [(k,x)]):=Lib.hid (by rw[chlK,hc,if_pos rfl,hgd])
       have HRR:=Lib.hid hR
       simp only[encC] at hy
       clear hJ' hR hsp
       refine tkI 10 (.bool true) ?_
       try simp only[nrm]
       refine tkI 11 (.func (.yield l) #[] #[]) ?_
       try simp only[nrm]
       refine tkI 12 (.int .i64 k) ?_
       try simp only[nrm]
       refine tkI 13 (.string x) ?_
       try simp only[nrm]
       refine wpAnyIn_ready (rs:=[14]) (by kernel_rfl) (by simp) (AllReadyIn.cons rfl (fun K hK=>?_) AllReadyIn.nil)
       rw[if_pos (by rfl)]
       go_simp
       refine HRR.out.mono ?_
       rintro e W3 (⟨rfl,hJ3⟩ | ⟨rfl,hJ3⟩)
       ·have HJ3:=Lib.hid hJ3
        clear hJ3 hy
        refine hK _ _ ?_
        clear hK K
        try simp only[nrm]
        refine tkI 15 (.bool false) ?_
        try simp only[nrm]
        refine tkI 16 (.bool false) ?_
        try simp only[nrm]
        refine wpAnyIn_done (by kernel_rfl) ?_ _
        gi_wp2
        go_roundw
        case rel=>exact⟨k + 1,by go_num,hlt,by rw[HC1.out];exact HJ3.out⟩
        case measure=>simp[intOf];omega
       ·have HJ3:=Lib.hid hJ3
        clear hJ3 hy
        refine hK _ _ ?_
        clear hK K
        try simp only[nrm]
        refine tkI 15 (.bool true) ?_
        try simp only[nrm]
        refine tkI 16 (.bool true) ?_
        try simp only[nrm]
        refine wpAnyIn_done (by kernel_rfl) ?_ _
        gi_wp2
        refine bodyPost_ret (results_none rfl _ _ _) rfl ?_
        first | exact⟨⟨_,rfl⟩,.inr ⟨_,_,_,HSP.out,HJ3.out⟩⟩ | exact⟨⟨_,rfl⟩,.inr ⟨_,_,⟨_,HSP.out⟩,HJ3.out⟩⟩
  ·obtain rfl:k=L.length:=by omega
   have hge:¬ (L.length:Int) < L.length:=by omega
   gi_wp2
   go_end0
   exact⟨⟨_,rfl⟩,.inl HJ1.out⟩
end Go.Proofs.YtemjlpahohmajaaGreat
namespace Go.Proofs.YtemjlpahohmajaaGreat
open Go.RowKit Go.BigFrame
def ChTo (w:World) (cb:Nat) (cls:Int) (L:List ByteArray) (v:Value) (w':World):Prop:=
 ∃ bl bc sv,v=.func (.func 149) #[] #[.pointer (some ⟨bl,0,none⟩),.pointer (some ⟨bc,0,none⟩)]∧ChR bl bc cb cls sv L w'∧Frm [] w w'∧w.heap.size≤bl∧w.heap.size≤bc∧∀ k,sv.ownBlock=some k→w.heap.size≤k
theorem Chn.cell0 {w:World} {cb:Nat} {cls cap:Int} {L:List ByteArray} {F:List Nat} (h:Chn w cb cls cap L F):w.cell? ⟨cb,0,none⟩=some (.int .i64 cls):=by
 obtain⟨sv,e1,-,-,-⟩:=h;exact cell_of e1 0
set_option maxHeartbeats 1000000 in
theorem choose_any (cb:Nat) (cls cap:Int) (L:List ByteArray) (F:List Nat) (w:World) (h:Chn w cb cls cap L F) :
  Calls Tryz.prog 106 #[.pointer (some ⟨cb,0,none⟩)] w (RetV (ChTo w cb cls L)):=by
 have HC:=Lib.hid h
 have CA:=Lib.hid (all_any (h.frm ((Frm.refl [] w).alloc (.cells #[.pointer (some ⟨cb,0,none⟩)] 149)) (by simp)))
 have b0:(w.alloc (.cells #[.pointer (some ⟨cb,0,none⟩)] 149)).heap[w.heap.size]?=some (.cells #[.pointer (some ⟨cb,0,none⟩)] 149 (0,0)):=heap_alloc_new _ _
 have B0:=Lib.hid b0
 have c0:=cell_of b0 0
 clear h b0
 go_enter Tryz.func106,Tryz.ntmps106
 go_wp2_with (go_at_call 101;go_must (refine CA.out.mono ?_;rintro e w1 ⟨v,rfl,hr⟩;obtain⟨ao,cp,rfl,-,-⟩:=hr.1.shape;have HR:=Lib.hid hr;clear hr))
 go_ret
 have hf0:Frm [] w w1:=((Frm.refl [] w).alloc _).trans HR.out.2.1
 refine⟨_,rfl,_,_,_,rfl,⟨heap_alloc_new _ _,HR.out.1.frm ((Frm.refl [] _).alloc _) (by simp),((Frm.refl [] w1).alloc _).at (HR.out.2.1.at B0.out (by simp)) (by simp),(hf0.alloc _).keep HC.out.cell0⟩,hf0.alloc _,?_,Nat.le_refl _,fun k hk=>?_⟩
 ·exact hf0.size
 ·have:=HR.out.2.2 k hk;simp at this;omega
end Go.Proofs.YtemjlpahohmajaaGreat
namespace Go.Proofs.YtemjlpahohmajaaGreat
open Go.RowKit Go.BigFrame Go.Sort
theorem sort_any (v:Value) (L:List ByteArray) (w:World) (h:Strs w v L) (hL:L.length≤1000000) :
  Calls Tryz.prog 103 #[v] w (Ret (.tuple #[]) (fun w'=>Strs w' v (keyL 2 L)∧Frm v.ownBlock.toList w w')):=by
 obtain⟨ao,cap,rfl,hn,hc⟩:=h.shape
 have hlen:(keyL 2 L).length=L.length:=by simp[keyL]
 cases L with
 | nil =>
   refine(AnyM.slices_Sort_string_none Tryz.sortS ao cap w).mono ?_
   rintro e w' ⟨rfl,rfl⟩
   exact⟨rfl,by simpa[keyL] using h,Frm.refl _ _⟩
 | cons x xs =>
   obtain⟨g,rfl,-⟩:=hc 0 x rfl
   obtain⟨hH,q1,q2,cur,hh,q3⟩:=h.holds
   have hd:=AnyM.slices_Sort_string Tryz.sortS g 0 cap ((x :: xs).map byt) w hH (lt_of_block hh) (by rw[List.length_map];omega)
   rw[List.length_map] at hd
   refine(show Calls Tryz.prog 103 _ w _ from hd).mono ?_
   rintro e w' ⟨rfl,q,os,rfl⟩
   refine⟨rfl,?_,?_⟩
   ·have ho:=ownsRow_sorted (w:=w) (base:=0) (g:=g) (cap:=cap) (n:=q) (e:=9) (os:=os) (cur:=cur) (ss:=(x :: xs).map byt) (ts:=((x :: xs).map byt).mergeSort fun x y=>decide (x≤y)) (by simp) (Nat.zero_le _) hh (by simpa using q1) q2 q3
    rw[List.length_map] at ho
    have e1:(keyL 2 (x :: xs)).map Value.string=(((x :: xs).map byt).mergeSort fun x y=>decide (x≤y)).map encStr:=by rw[keyL,if_pos rfl,List.map_map];rfl
    unfold Strs
    rw[hlen,e1]
    exact ho
   ·exact(Frm.refl _ _).grown (grownBy_sorted _) (fun k hk=>by cases hk;exact .inl (by simp[Value.ownBlock]))
theorem wrap_small {x:Int} (h0:0≤x) (h1:x≤255):IntKind.u8.wrap x=x:=by simp[IntKind.wrap,show IntKind.u8.bits=8 from rfl,show IntKind.u8.signed=false from rfl];omega
theorem len_byte (w:World) (x:ByteArray) (h:x.size≤32):(convert 61 9 (.slice (some ⟨w.heap.size,0,none⟩) 1 1)).run Tryz.prog (w.alloc (.cells #[.int .u8 (x.size:Int)] 5))=.ok (.string ⟨#[UInt8.ofNat x.size]⟩) (w.alloc (.cells #[.int .u8 (x.size:Int)] 5)):=
 run_convert_bytes_back _ 61 9 5 ⟨w.heap.size,0,none⟩ 1 [UInt8.ofNat x.size] Tryz.underlying61 Tryz.underlying5 Tryz.underlying9 (fun j hj=>by
  have h0:j=0:=by simpa using hj
  subst h0
  have e:((UInt8.ofNat x.size).toNat:Int)=(x.size:Int):=by simp;omega
  show (w.alloc _).cell? ⟨w.heap.size,0 + 0,none⟩=some (.int .u8 ((UInt8.ofNat x.size).toNat:Int))
  rw[e]
  exact cell_of (heap_alloc_new w _) 0)
set_option maxHeartbeats 1000000 in
set_option maxRecDepth 100000 in
theorem key_any (cb:Nat) (cls cap:Int) (L:List ByteArray) (F:List Nat) (w:World) (h:Chn w cb cls cap L F) :
  Calls Tryz.prog 57 #[.pointer (some ⟨cb,0,none⟩)] w (Ret (.string (keyB (keyL cls L))) (Frm [] w)):=by
 have HG:=Lib.hid h.good
 have hg:=h.good.lenN
 have HC:=Lib.hid h
 have CA:=Lib.hid (all_any h)
 clear h
 have HSL:Hid ((keyL cls L).length=L.length):=Lib.hid (keyL_length cls L)
 have HSZ:Hid (∀ x∈keyL cls L,1≤x.size∧x.size≤32):=Lib.hid (fun x hx=>HG.out.sz x (keyL_mem hx))
 by_cases hz:cls=2
 ·subst hz
  obtain⟨S,hS⟩:∃ S,keyL 2 L=S:=⟨_,rfl⟩
  rw[hS] at HSL HSZ ⊢
  go_enter Tryz.func57,Tryz.ntmps57
  go_wp2_with (first
   | (go_at_call 101;go_must (refine CA.out.mono ?_;rintro e w1 ⟨v,rfl,hr⟩;obtain⟨ao,cp,rfl,-,-⟩:=hr.1.shape;have HR:=Lib.hid hr;clear hr))
   | (go_at_call 102;go_must (refine(none_any cb 2 cap L F w1 (HC.out.frm HR.out.2.1 (by simp))).mono ?_;rintro e w' ⟨rfl,rfl⟩;obtain⟨sv,e1,-,-,-⟩:=HC.out;have c0:=HR.out.2.1.keep (cell_of e1 0);clear e1))
   | (go_at_call 103;go_must (refine(sort_any _ L w1 HR.out.1 (by omega)).mono ?_;rintro e w2 ⟨rfl,hs⟩;have HS:=Lib.hid hs;clear hs)))
  rw[hS] at HS
  clear hS
  have HST:Hid (Strs w2 (.slice ao L.length cp) S):=Lib.hid HS.out.1
  have HWW:Hid (Frm [] w w2):=Lib.hid ((HR.out.2.1).then HS.out.2 (fun x hx=>.inr (HR.out.2.2 x (by simpa using hx))))
  go_loopw [2,22] (fun s2 s22 wr=>∃ i:Nat,s2=.string (keyB (S.take i))∧s22=.int .i64 i∧i≤L.length∧Frm [] w2 wr) (fun _ s22 _=>L.length - (intOf s22).toNat)
  case atStart=>exact⟨0,rfl,rfl,Nat.zero_le _,Frm.refl _ _⟩
  case round =>
   obtain⟨i,rfl,rfl,hi,hf⟩:=hrel
   have HF:=Lib.hid hf
   by_cases hlt:i < L.length
   ·obtain⟨x,hx⟩:∃ x,S[i]?=some x:=⟨_,List.getElem?_eq_getElem (by rw[HSL.out];exact hlt)⟩
    have hsz:=HSZ.out x (List.mem_of_getElem? hx)
    obtain⟨ao',cp',hv,-,hcs⟩:=HST.out.shape
    rw[HSL.out] at hv;cases hv
    obtain⟨g,rfl,cx0⟩:=hcs i x hx
    have cx:=hf.keep cx0
    have hlt':(i:Int) < (L.length:Int):=by omega
    have hwr:IntKind.u8.wrap (x.size:Int)=(x.size:Int):=wrap_small (by omega) (by omega)
    have HX:=Lib.hid hx
    have hconv:(convert 61 9 (.slice (some ⟨wr.heap.size,0,none⟩) 1 1)).run Tryz.prog (wr.alloc (.cells #[.int .u8 (x.size:Int)] 5))=.ok (.string ⟨#[UInt8.ofNat x.size]⟩) (wr.alloc (.cells #[.int .u8 (x.size:Int)] 5)):=len_byte wr x hsz.2
    have hks:(keyB (S.take i)).size≤3000:=by
     have h1:=keyB_size (S.take i) (fun y hy=>(HSZ.out y (List.mem_of_mem_take hy)).2)
     rw[List.length_take] at h1
     omega
    clear hcs cx0 hf hx
    go_wp2_with fail
    exact⟨⟨i + 1,by rw[keyB_snoc HX.out],by simp,hlt,HF.out.alloc _⟩,by simp[intOf];omega⟩
   ·have hge:¬ (i:Int) < (L.length:Int):=by omega
    clear hf
    go_wp2
    go_ret
    refine⟨?_,HWW.out.trans HF.out⟩
    rw[List.take_of_length_le (by rw[HSL.out];omega)]
    rfl
 ·have hne:(cls == 2)=false:=by simpa using hz
  obtain⟨S,hS⟩:∃ S,keyL cls L=S:=⟨_,rfl⟩
  have HSE:Hid (S=L):=Lib.hid (hS.symm.trans (if_neg hz))
  rw[hS] at HSL HSZ ⊢
  clear hS
  go_enter Tryz.func57,Tryz.ntmps57
  go_wp2_with (first
   | (go_at_call 101;go_must (refine CA.out.mono ?_;rintro e w1 ⟨v,rfl,hr⟩;obtain⟨ao,cp,rfl,-,-⟩:=hr.1.shape;have HR:=Lib.hid hr;clear hr))
   | (go_at_call 102;go_must (refine(none_any cb cls cap L F w1 (HC.out.frm HR.out.2.1 (by simp))).mono ?_;rintro e w' ⟨rfl,rfl⟩;obtain⟨sv,e1,-,-,-⟩:=HC.out;have c0:=HR.out.2.1.keep (cell_of e1 0);clear e1)))
  have HST:Hid (Strs w1 (.slice ao L.length cp) S):=Lib.hid (by rw[HSE.out];exact HR.out.1)
  have HWW:Hid (Frm [] w w1):=Lib.hid HR.out.2.1
  go_loopw [2,22] (fun s2 s22 wr=>∃ i:Nat,s2=.string (keyB (S.take i))∧s22=.int .i64 i∧i≤L.length∧Frm [] w1 wr) (fun _ s22 _=>L.length - (intOf s22).toNat)
  case atStart=>exact⟨0,rfl,rfl,Nat.zero_le _,Frm.refl _ _⟩
  case round =>
   obtain⟨i,rfl,rfl,hi,hf⟩:=hrel
   have HF:=Lib.hid hf
   by_cases hlt:i < L.length
   ·obtain⟨x,hx⟩:∃ x,S[i]?=some x:=⟨_,List.getElem?_eq_getElem (by rw[HSL.out];exact hlt)⟩
    have hsz:=HSZ.out x (List.mem_of_getElem? hx)
    obtain⟨ao',cp',hv,-,hcs⟩:=HST.out.shape
    rw[HSL.out] at hv;cases hv
    obtain⟨g,rfl,cx0⟩:=hcs i x hx
    have cx:=hf.keep cx0
    have hlt':(i:Int) < (L.length:Int):=by omega
    have hwr:IntKind.u8.wrap (x.size:Int)=(x.size:Int):=wrap_small (by omega) (by omega)
    have HX:=Lib.hid hx
    have hconv:(convert 61 9 (.slice (some ⟨wr.heap.size,0,none⟩) 1 1)).run Tryz.prog (wr.alloc (.cells #[.int .u8 (x.size:Int)] 5))=.ok (.string ⟨#[UInt8.ofNat x.size]⟩) (wr.alloc (.cells #[.int .u8 (x.size:Int)] 5)):=len_byte wr x hsz.2
    have hks:(keyB (S.take i)).size≤3000:=by
     have h1:=keyB_size (S.take i) (fun y hy=>(HSZ.out y (List.mem_of_mem_take hy)).2)
     rw[List.length_take] at h1
     omega
    clear hcs cx0 hf hx
    go_wp2_with fail
    exact⟨⟨i + 1,by rw[keyB_snoc HX.out],by simp,hlt,HF.out.alloc _⟩,by simp[intOf];omega⟩
   ·have hge:¬ (i:Int) < (L.length:Int):=by omega
    clear hf
    go_wp2
    go_ret
    refine⟨?_,HWW.out.trans HF.out⟩
    rw[List.take_of_length_le (by rw[HSL.out];omega)]
    rfl
end Go.Proofs.YtemjlpahohmajaaGreat
namespace Go.Proofs.YtemjlpahohmajaaGreat
open Go.RowKit Go.BigFrame
def But (M:List ByteArray) (i k:Nat):Prop:=∀ a b x y,a < b→b≤i→b≠k→M[a]?=some x→M[b]?=some y→byt x≤byt y
theorem But.start {M:List ByteArray} {i:Nat} (h:∀ a b x y,a < b→b < i→M[a]?=some x→M[b]?=some y→byt x≤byt y):But M i i:=fun a b x y h1 h2 h3 h4 h5=>h a b x y h1 (by omega) h4 h5
theorem But.done0 {M:List ByteArray} {i:Nat} (h:But M i 0):∀ a b x y,a < b→b < i + 1→M[a]?=some x→M[b]?=some y→byt x≤byt y:=fun a b x y h1 h2 h3 h4=>h a b x y h1 (by omega) (by omega) h3 h4
theorem But.doneK {M:List ByteArray} {i k:Nat} {x y:ByteArray} (h:But M i (k + 1)) (hk:k + 1≤i) (hx:M[k + 1]?=some x) (hy:M[k]?=some y) (hle:byt y≤byt x):∀ a b x y,a < b→b < i + 1→M[a]?=some x→M[b]?=some y→byt x≤byt y:=by
 intro a b u v h1 h2 h3 h4
 by_cases e:b=k + 1
 ·subst e
  rw[hx] at h4;cases h4
  by_cases e2:a=k
  ·subst e2;rw[hy] at h3;cases h3;exact hle
  ·exact le_tr (h a k u y (by omega) (by omega) (by omega) h3 hy) hle
 ·exact h a b u v h1 (by omega) e h3 h4
theorem get_swap {M:List ByteArray} {k:Nat} {x y:ByteArray} (hx:M[k + 1]?=some x) (hy:M[k]?=some y) (a:Nat) :
  ((M.set (k + 1) y).set k x)[a]?=if a=k then some x else if a=k + 1 then some y else M[a]?:=by
 have h1:=(List.getElem?_eq_some_iff.1 hx).1
 by_cases e:a=k
 ·subst e
  rw[if_pos rfl,List.getElem?_set_self (by rw[List.length_set];omega)]
 ·rw[if_neg e,List.getElem?_set_ne (fun h=>e h.symm)]
  by_cases e2:a=k + 1
  ·subst e2;rw[if_pos rfl,List.getElem?_set_self h1]
  ·rw[if_neg e2,List.getElem?_set_ne (fun h=>e2 h.symm)]
theorem But.step {M:List ByteArray} {i k:Nat} {x y:ByteArray} (h:But M i (k + 1)) (hk:k + 1≤i) (hx:M[k + 1]?=some x) (hy:M[k]?=some y) (hlt:byt x≤byt y):But ((M.set (k + 1) y).set k x) i k:=by
 intro a b u v h1 h2 h3 h4 h5
 rw[get_swap hx hy] at h4 h5
 rw[if_neg h3] at h5
 by_cases eb:b=k + 1
 ·subst eb
  rw[if_pos rfl] at h5;cases h5
  by_cases ea:a=k
  ·rw[if_pos ea] at h4;cases h4;exact hlt
  ·rw[if_neg ea,if_neg (by omega)] at h4
   exact h a k u y (by omega) (by omega) (by omega) h4 hy
 ·rw[if_neg eb] at h5
  by_cases ea:a=k
  ·rw[if_pos ea] at h4;cases h4
   exact h (k + 1) b x v (by omega) h2 eb hx h5
  ·rw[if_neg ea] at h4
   by_cases ea2:a=k + 1
   ·rw[if_pos ea2] at h4;cases h4
    exact h k b y v (by omega) h2 eb hy h5
   ·rw[if_neg ea2] at h4
    exact h a b u v h1 h2 eb h4 h5
theorem swap_perm {M:List ByteArray} {k:Nat} {x y:ByteArray} (hx:M[k + 1]?=some x) (hy:M[k]?=some y):((M.set (k + 1) y).set k x).Perm M:=by
 obtain⟨h1,rfl⟩:=List.getElem?_eq_some_iff.1 hx
 obtain⟨h2,rfl⟩:=List.getElem?_eq_some_iff.1 hy
 exact List.set_set_perm h1 h2
theorem pairwise_of {M:List ByteArray} (h:∀ a b x y,a < b→b < M.length→M[a]?=some x→M[b]?=some y→byt x≤byt y):M.Pairwise fun a b=>byt a≤byt b:=by
 rw[List.pairwise_iff_getElem]
 intro a b ha hb hab
 exact h a b _ _ hab hb (List.getElem?_eq_getElem ha) (List.getElem?_eq_getElem hb)
end Go.Proofs.YtemjlpahohmajaaGreat
namespace Go.Proofs.YtemjlpahohmajaaGreat
open Go.RowKit Go.BigFrame
section
variable {w w':World} {s:SesD} {yb fb sb:Nat} {x:PS}
structure WyF (gb go' rb ro cb:Nat) (cls cap:Int) (L:List ByteArray) (W:World) (n m c:Nat):Prop where
 c0:W.cell? ⟨gb,go',none⟩=some (.slice (some ⟨rb,ro,none⟩) m c)
 c1:W.cell? ⟨rb,ro + n,none⟩=some (.pointer (some ⟨cb,0,none⟩))
 chn:∃ F,Chn W cb cls cap L F
theorem StR.row (h:StR w s yb sb x) {i:Nat} (hi:i < s.roles.length):∃ gb go' cap rv,w.cell? ⟨sb,2,none⟩=some (.slice (some ⟨gb,go',none⟩) s.roles.length cap)∧w.cell? ⟨gb,go' + i,none⟩=some rv∧RowV s.cls s.cap w rv (x.ways.getD i []):=by
 obtain⟨av,wv,h1,-,h3⟩:=h.out
 obtain⟨gb,go',cap,rfl,rv,c0,h4⟩:=h3.at (some_getD (d:=[]) (by rw[h.ok.wl];exact hi))
 rw[h.ok.wl] at h1
 rw[Nat.mul_one] at c0
 exact⟨gb,go',cap,rv,cell_of h1 2,c0,h4⟩
theorem StR.way (h:StR w s yb sb x) {i k:Nat} (hi:i < s.roles.length) (hk:k < s.roles.length):∃ gb go' cap rb ro c cb,w.cell? ⟨sb,2,none⟩=some (.slice (some ⟨gb,go',none⟩) s.roles.length cap)∧WyF gb (go' + i) rb ro cb s.cls s.cap (x.way i k) w k s.roles.length c:=by
 obtain⟨gb,go',cap,rv,h1,h2,h3⟩:=h.row hi
 obtain⟨rb,ro,c,rfl,cb,F,c1,hc⟩:=h3.at (some_getD (d:=[]) (by rw[h.ok.wr i hi];exact hk))
 rw[h.ok.wr i hi] at h2
 rw[Nat.mul_one] at c1
 exact⟨gb,go',cap,rb,ro,c,cb,h1,h2,c1,F,hc⟩
end
structure MvAt (w:World) (b o:Nat) (m:Mv):Prop where
 c0:w.cell? ⟨b,o,none⟩=some (.int .i64 m.kind)
 c1:w.cell? ⟨b,o + 1,none⟩=some (.int .i64 m.role)
 c2:w.cell? ⟨b,o + 2,none⟩=some (.int .i64 m.step)
 c3:w.cell? ⟨b,o + 3,none⟩=some (.int .i64 m.place)
theorem MvAt.frm {w w':World} {b o:Nat} {m:Mv} (h:MvAt w b o m) (hf:Frm [] w w'):MvAt w' b o m:=⟨hf.keep h.c0,hf.keep h.c1,hf.keep h.c2,hf.keep h.c3⟩
abbrev mvV (m:Mv):Value:=.agg #[.int .i64 m.kind,.int .i64 m.role,.int .i64 m.step,.int .i64 m.place]
def numL {α:Type} (L:List α):List (Nat × α):=L.mapIdx fun i m=>(i,m)
theorem numL_at {α:Type} {L:List α} {k:Nat}:(numL L)[k]?=(L[k]?).map fun m=>(k,m):=by unfold numL;rw[List.getElem?_mapIdx]
theorem numL_length {α:Type} {L:List α}:(numL L).length=L.length:=by unfold numL;rw[List.length_mapIdx]
structure MvI (B:Nat) (v:Value) (L:List Mv) (W:World):Prop where
 b:W.heap[B]?=some (.cells #[v] 49 (0,0))
 a:Arr 4 MvAt W v L
set_option maxRecDepth 100000 in
theorem alMove_any (v:Value) (L:List Mv) (w:World) (h:Arr 4 MvAt w v L):Calls Tryz.prog 75 #[v] w (RetV fun u w'=>u=.func (.func 126) #[] #[.pointer (some ⟨w.heap.size,0,none⟩)]∧MvI w.heap.size v L w'∧Frm [] w w'):=by
 have H:=Lib.hid h
 obtain⟨ao,cap,rfl⟩:=h.shape
 clear h
 go_enter Tryz.func75,Tryz.ntmps75
 go_wp2
 go_ret
 exact⟨_,rfl,rfl,⟨heap_alloc_new _ _,H.out.frm fun _ _ _ h=>h.frm ((Frm.refl [] w).alloc _)⟩,(Frm.refl [] w).alloc _⟩
set_option maxHeartbeats 2000000 in
set_option maxRecDepth 100000 in
theorem mv_iter (B:Nat) (v:Value) (L:List Mv) (hL:L.length≤1000000) :
  Iter Fence.wide 2 Tryz.prog 126 #[.pointer (some ⟨B,0,none⟩)] (fun e:Nat × Mv=>#[.int .i64 e.1,mvV e.2]) (MvI B v L) (numL L):=by
 intro l J Jx sJ sJx hJR hY W h0
 have HJ:=Lib.hid sJ;have HJR:=Lib.hid hJR;have HY:=Lib.hid hY
 clear sJ sJx hJR hY
 have hr:=HJR.out _ _ h0
 have c0:=cell_of hr.b 0
 obtain⟨ao,cap,rfl⟩:=hr.a.shape
 have H0:=Lib.hid h0
 have HNL:Hid ((numL L).length=L.length):=Lib.hid numL_length
 clear hr h0
 refine callsIn_of_wp Tryz.func126 rfl trivial ?_ rfl
 simp only[Tryz.ntmps126,List.size_toArray,List.length_cons,List.length_nil,Nat.reduceAdd,Nat.reduceSub,Array.replicate_succ,Array.replicate_zero,List.push_toArray,List.append_toArray,List.nil_append,List.cons_append]
 gi_wp2
 gi_loopw [7] (fun s wr=>∃ k:Nat,s=.int .i64 k∧k≤L.length∧J ((numL L).take k) wr) (fun s _=>L.length - (intOf s).toNat)
 case atStart=>exact⟨0,rfl,Nat.zero_le _,H0.out⟩
 case round =>
  obtain⟨k,rfl,hk,hj⟩:=hrel
  have HJ1:=Lib.hid hj
  clear hj H0 c0
  by_cases hlt:k < L.length
  ·obtain⟨x,hx⟩:∃ x,L[k]?=some x:=⟨_,List.getElem?_eq_getElem hlt⟩
   have hr:=HJR.out _ _ HJ1.out
   obtain⟨b,o,c',e,g0,g1,g2,g3⟩:=hr.a.at hx
   cases e
   have hnx:(numL L)[k]?=some (k,x):=by rw[numL_at,hx];rfl
   have HX:=Lib.hid hnx
   clear hr hx hnx
   have hJ':J ((numL L).take k) (wr.alloc (.cells #[.int .i64 x.kind,.int .i64 x.role,.int .i64 x.step,.int .i64 x.place] 70)):=HJ.out _ _ _ HJ1.out ((Frm.refl _ _).alloc _)
   obtain⟨fn,tmps,assign,body,hy,hR⟩:=HY.out ((numL L).take k) (k,x) ((numL L).drop (k + 1)) _ (take_snoc' HX.out).2 hJ'
   have HRR:=Lib.hid hR
   clear hJ' hR
   have hlt':(k:Int) < L.length:=by omega
   gi_wp2
   refine HRR.out.mono ?_
   rintro e W3 (⟨rfl,hJ3⟩ | ⟨rfl,hJx3⟩)
   ·have HJ3:=Lib.hid hJ3
    clear hJ3
    gi_wp2
    go_roundw
    case rel=>exact⟨k + 1,by go_num,hlt,by rw[(take_snoc' HX.out).1];exact HJ3.out⟩
    case measure=>simp[intOf];omega
   ·have HJ3:=Lib.hid hJx3
    clear hJx3
    gi_wp2
    refine bodyPost_ret (results_none rfl _ _ _) rfl ?_
    exact⟨⟨_,rfl⟩,.inr ⟨_,_,_,(take_snoc' HX.out).2,HJ3.out⟩⟩
  ·obtain rfl:k=L.length:=by omega
   have hge:¬ (L.length:Int) < L.length:=by omega
   gi_wp2
   go_end0
   exact⟨⟨_,rfl⟩,.inl (by have:=HJ1.out;rwa [← HNL.out,List.take_length] at this)⟩
end Go.Proofs.YtemjlpahohmajaaGreat
namespace Go.Proofs.YtemjlpahohmajaaGreat
open Go.RowKit Go.BigFrame
abbrev encM (m:Mv):Array Value:=#[.int .i64 m.kind,.int .i64 m.role,.int .i64 m.step,.int .i64 m.place]
theorem Tryz.undMv:Tryz.prog.underlying 70=some (.struct (Tryz.prog.fieldsOf 70)):=by kernel_rfl
set_option maxHeartbeats 1000000 in
set_option maxRecDepth 100000 in
theorem eql_move (a b:Mv) (w:World):(binOp .eql 70 (.agg (encM a)) (.agg (encM b))).run Tryz.prog w=.ok (.bool (decide (a=b))) w:=by
 have h:(Op.equalIn (9999 + 1) 70 (.agg (encM a)) (.agg (encM b))).run Tryz.prog w=.ok (decide (a=b)) w:=by
  rw[run_equalIn_struct w 9999 70 _ _ Tryz.undMv (by kernel_rfl)]
  simp[go_sem,encM,Tryz.underlying70]
  obtain⟨a1,a2,a3,a4⟩:=a
  obtain⟨b1,b2,b3,b4⟩:=b
  simp only[Mv.mk.injEq]
  repeat' split
  all_goals simp[*]
 simp only[binOp]
 simp[show Op.equal 70 (.agg (encM a)) (.agg (encM b))=Op.equalIn (9999 + 1) 70 (.agg (encM a)) (.agg (encM b)) from rfl,h]
set_option maxHeartbeats 1000000 in
theorem inMove_any (v:Value) (xs:List Mv) (y:Mv) (w:World) (h:Arr 4 MvAt w v xs) (hl:xs.length≤5000) :
  Calls Tryz.prog 104 #[v,.agg (encM y)] w (Ret (.int .i64 (ixf (fun x=>decide (y=x)) xs)) (Frm [] w)):=by
 obtain⟨ao,cap,rfl,hx⟩:=h
 have HX:=Lib.hid hx
 obtain⟨n,hn⟩:∃ n,xs.length=n:=⟨_,rfl⟩
 rw[hn] at hl ⊢
 have HN:=Lib.hid hn
 obtain⟨W0,hW0⟩:∃ W0,w.alloc (.cells (encM y) 70)=W0:=⟨_,rfl⟩
 have HW0:Hid (Frm [] w W0):=Lib.hid (by rw[← hW0];exact(Frm.refl _ _).alloc _)
 have HB:Hid (W0.heap[w.heap.size]?=some (.cells (encM y) 70 (0,0))):=Lib.hid (by rw[← hW0];exact heap_alloc_new w _)
 have HE:=Lib.hid hW0
 clear hx hn hW0
 go_enter Tryz.func104,Tryz.ntmps104
 go_wp2_with (refine wpList_box_row rfl 70 _ rfl (encM y) rfl ?_;rw[HE.out])
 clear HE
 go_loopw [8,5] (fun s8 s5 wr=>∃ i:Nat,s8=.int .i64 i∧i≤n∧Frm [] W0 wr∧∀ j x,j < i→xs[j]?=some x→decide (y=x)=false) (fun s8 _ _=>n - (intOf s8).toNat)
 case atStart=>exact⟨0,rfl,Nat.zero_le _,Frm.refl _ _,fun j x hj=>by omega⟩
 case round =>
  obtain⟨i,rfl,hi,hf,hno⟩:=hrel
  have HF:=Lib.hid hf;have HNO:=Lib.hid hno
  clear hf hno
  by_cases hlt:i < n
  ·have hlt':(i:Int) < (n:Int):=by omega
   obtain⟨x,hx⟩:∃ x,xs[i]?=some x:=⟨_,List.getElem?_eq_getElem (by rw[HN.out];exact hlt)⟩
   obtain⟨b,o,rfl,hat⟩:=HX.out i x hx
   obtain⟨c0,c1,c2,c3⟩:=hat.frm (HW0.out.trans HF.out)
   have hbb:=HF.out.at HB.out (by simp)
   have d0:wr.cell? ⟨w.heap.size,0,none⟩=some (.int .i64 y.kind):=cell_of hbb 0
   have d1:wr.cell? ⟨w.heap.size,1,none⟩=some (.int .i64 y.role):=cell_of hbb 1
   have d2:wr.cell? ⟨w.heap.size,2,none⟩=some (.int .i64 y.step):=cell_of hbb 2
   have d3:wr.cell? ⟨w.heap.size,3,none⟩=some (.int .i64 y.place):=cell_of hbb 3
   have hq:∀ V,(binOp .eql 70 (mvV y) (mvV x)).run Tryz.prog V=.ok (.bool (decide (y=x))) V:=fun V=>eql_move y x V
   have HXI:=Lib.hid hx
   clear hat hx hbb
   cases hpx:decide (y=x) with
   | true =>
     rw[hpx] at hq
     have HPX:=Lib.hid hpx
     clear hpx
     go_wp2
     go_quiet (fail)
     go_wp2
     go_ret
     exact⟨by rw[ixf_some HXI.out HPX.out HNO.out];rfl,HW0.out.trans (HF.out.drewN _)⟩
   | false =>
     rw[hpx] at hq
     have HPX:=Lib.hid hpx
     clear hpx
     go_wp2
     go_quiet (fail)
     go_wp2
     refine⟨⟨i + 1,by simp,hlt,HF.out.drewN _,fun j z hj hz=>?_⟩,by simp[intOf];omega⟩
     by_cases e:j=i
     ·subst e;rw[HXI.out] at hz;cases hz;exact HPX.out
     ·exact HNO.out j z (by omega) hz
  ·have hge:¬ (i:Int) < (n:Int):=by omega
   go_wp2
   go_ret
   refine⟨?_,HW0.out.trans HF.out⟩
   have e:=ixf_none (p:=fun x=>decide (y=x)) (l:=xs) fun x hx=>by
    obtain⟨j,hj⟩:=List.getElem?_of_mem hx
    exact HNO.out j x (by have:=lt_of_some hj;rw[HN.out] at this;omega) hj
   rw[e];rfl
theorem mem_ixm {xs:List Mv} {y:Mv}:decide (0≤ixf (fun x=>decide (y=x)) xs)=decide (y∈xs):=by
 by_cases h:y∈xs
 ·rw[decide_eq_true (ixf_ex (p:=fun x=>decide (y=x)) h (by simp)),decide_eq_true h]
 ·rw[decide_eq_false h,decide_eq_false]
  intro h2
  obtain⟨i,hi,-⟩:=ixf_nat h2
  obtain⟨x,h3,h4,-⟩:=ixf_at hi
  rw[decide_eq_true_eq] at h4
  subst h4
  exact h (List.mem_of_getElem? h3)
set_option maxHeartbeats 1000000 in
theorem coMove_any (v:Value) (xs:List Mv) (y:Mv) (w:World) (h:Arr 4 MvAt w v xs) (hl:xs.length≤5000) :
  Calls Tryz.prog 62 #[v,.agg (encM y)] w (Ret (.bool (decide (y∈xs))) (Frm [] w)):=by
 obtain⟨ao,cap,e,-⟩:=id h
 subst e
 have hf0:Frm [] w (w.alloc (.cells (encM y) 70)):=(Frm.refl _ _).alloc _
 have C1:=Lib.hid (inMove_any (.slice ao xs.length cap) xs y (w.alloc (.cells (encM y) 70)) (h.frm fun _ _ _ h=>h.frm hf0) hl)
 have HF0:=Lib.hid hf0
 rw[← mem_ixm]
 obtain⟨q,hq⟩:∃ q,ixf (fun x=>decide (y=x)) xs=q:=⟨_,rfl⟩
 rw[hq] at C1 ⊢
 have hb:(w.alloc (.cells (encM y) 70)).heap[w.heap.size]?=some (.cells (encM y) 70 (0,0)):=heap_alloc_new w _
 obtain⟨W0,hW0⟩:∃ W0,w.alloc (.cells (encM y) 70)=W0:=⟨_,rfl⟩
 rw[hW0] at C1 HF0 hb
 have HB:=Lib.hid hb
 have HW:=Lib.hid hW0
 clear h hf0 hq hW0 hb
 go_enter Tryz.func62,Tryz.ntmps62
 go_wp2_with (first
  | (refine wpList_box_row rfl 70 _ rfl (encM y) rfl ?_;rw[HW.out])
  | (refine wpList_load_whole rfl 70 _ rfl _ rfl _ 70 HB.out _ Tryz.underlying70 rfl (by kernel_rfl) ?_)
  | (go_at_call 104;go_must (refine C1.out.mono ?_;rintro e w1 ⟨rfl,hf1⟩;have HF1:=Lib.hid hf1;clear hf1)))
 go_ret
 exact⟨rfl,HF0.out.trans HF1.out⟩
end Go.Proofs.YtemjlpahohmajaaGreat
namespace Go.Proofs.YtemjlpahohmajaaGreat
open Go
section
variable {s:SesD} {x:PS}
theorem bank_bound (h:SesOk s) (hx:PSok s x) {i:Nat} (hi:i < s.roles.length):∀ v∈x.bank i,0≤v∧v≤1000:=by
 intro v hv
 obtain⟨k,hk⟩:=List.getElem?_of_mem hv
 obtain⟨hl,hb⟩:=hx.vb i hi
 have hlt:=lt_of_some hk
 have hc:=some_getD (l:=(s.rol i).ctrs) (i:=k) (d:=dC) (by omega)
 have:=hb k _ hc
 rw[getD_some hk] at this
 have h2:=(h.at hi).cN _ (List.mem_of_getElem? hc)
 omega
end
end Go.Proofs.YtemjlpahohmajaaGreat
namespace Go.Proofs.YtemjlpahohmajaaGreat
open Go.RowKit Go.BigFrame
def mvC1 (m:Mv):List Value:=[.int .i64 m.kind,.int .i64 m.role,.int .i64 m.step,.int .i64 m.place]
def mvC (L:List Mv):List Value:=L.flatMap mvC1
theorem mvC_length (L:List Mv):(mvC L).length=L.length * 4:=by
 induction L with
 | nil=>rfl
 | cons m L ih=>unfold mvC at ih ⊢;rw[List.flatMap_cons,List.length_append,ih];simp[mvC1];omega
theorem mvC_append (A B:List Mv):mvC (A ++ B)=mvC A ++ mvC B:=by unfold mvC;rw[List.flatMap_append]
theorem mvC_at {L:List Mv}:∀ {i:Nat} {m:Mv},L[i]?=some m→(mvC L)[i * 4]?=some (.int .i64 m.kind)∧(mvC L)[i * 4 + 1]?=some (.int .i64 m.role)∧(mvC L)[i * 4 + 2]?=some (.int .i64 m.step)∧(mvC L)[i * 4 + 3]?=some (.int .i64 m.place):=by
 induction L with
 | nil=>intro i m h;simp at h
 | cons a L ih =>
   intro i m h
   have e:mvC (a :: L)=mvC1 a ++ mvC L:=rfl
   cases i with
   | zero=>simp at h;subst h;rw[e];exact⟨rfl,rfl,rfl,rfl⟩
   | succ i =>
     have:=ih (i:=i) (m:=m) (by simpa using h)
     have hl:(mvC1 a).length=4:=rfl
     rw[e,List.getElem?_append_right (by omega),List.getElem?_append_right (by omega),List.getElem?_append_right (by omega),List.getElem?_append_right (by omega),hl]
     rw[show (i + 1) * 4 - 4=i * 4 by omega,show (i + 1) * 4 + 1 - 4=i * 4 + 1 by omega,show (i + 1) * 4 + 2 - 4=i * 4 + 2 by omega,show (i + 1) * 4 + 3 - 4=i * 4 + 3 by omega]
     exact this
theorem mv_arr {W:World} {base:Nat} {v:Value} {L:List Mv} (h:W.ownsRow base 70 4 v L.length (mvC L)):Arr 4 MvAt W v L:=by
 obtain⟨ao,cap,rfl⟩:=own_shape h
 refine⟨ao,cap,rfl,fun i m hm=>?_⟩
 have hl:=lt_of_some hm
 obtain⟨g,c,cur,e,-,-⟩:=own_block h (by omega)
 cases e
 have hc:=fun j hj=>World.ownsRow.cellAt h j hj
 obtain⟨h0,h1,h2,h3⟩:=mvC_at hm
 exact⟨g,0,rfl,by rw[Nat.zero_add,hc _ (by omega)];exact h0,by rw[Nat.zero_add,hc _ (by omega)];exact h1,by rw[Nat.zero_add,hc _ (by omega)];exact h2,by rw[Nat.zero_add,hc _ (by omega)];exact h3⟩
abbrev MB (w:World) (ob:Nat) (L:List Mv) (W:World):Prop:=BO 49 70 4 w ob L.length (mvC L) W
abbrev mvT:List TypeId:=[49,70]
theorem Tryz.infoMv:(Tryz.prog.info? 70).map (fun i=>(i.zero,i.size,i.bytes))=some (some (.agg #[.int .i64 0,.int .i64 0,.int .i64 0,.int .i64 0]),4,32):=by kernel_rfl
theorem MB.add {w W w1:World} {ob:Nat} {L:List Mv} {ao:Option Addr} {cap:Nat} {o:Obj} {v':Value} (m:Mv) (h:MB w ob L W) (h1:W.heap[ob]?=some (.cells #[.slice ao L.length cap] 49 (0,0))) (h2:W.ownsRow w.heap.size 70 4 (.slice ao L.length cap) L.length (mvC L))
  (hg:(W.alloc o).grownBy w1 (Value.slice ao L.length cap).ownBlock) (ho:w1.ownsRow w.heap.size 70 4 v' (L.length + 1) (mvC L ++ mvC1 m)) :
  MB w ob (L ++ [m]) (w1.setCell ⟨ob,0,none⟩ v')∧Kt mvT W (w1.setCell ⟨ob,0,none⟩ v'):=by
 have:=h.step h1 h2 (by decide) hg ho
 unfold MB
 rw[mvC_append,List.length_append]
 exact⟨by simpa[mvC] using this.1,this.2⟩
theorem hits_snoc {m:ByteArray} {i k:Nat} (pre:List (Nat × ByteArray)) (e:Nat × ByteArray):hits m i k (pre ++ [e])=if e.2=m then hits m i k pre ++ [⟨1,i,k,e.1⟩] else hits m i k pre:=by
 unfold hits
 rw[List.filterMap_append,List.filterMap_cons]
 split
 ·rename_i h
  split at h
  ·cases h
  ·rename_i h2;rw[if_neg h2];simp
 ·rename_i b h
  split at h
  ·rename_i h2;cases h;rw[if_pos h2];rfl
  ·cases h
theorem hits_len {m:ByteArray} {i k:Nat} (pre:List (Nat × ByteArray)):(hits m i k pre).length≤pre.length:=List.length_filterMap_le _ _
theorem ChR.kt {bl bc cb:Nat} {cls cap:Int} {sv:Value} {L L':List ByteArray} {F:List Nat} {W W':World} (h:ChR bl bc cb cls sv L W) (hk:Kt mvT W W') (hc:Chn W cb cls cap L' F):ChR bl bc cb cls sv L W':=by
 obtain⟨sv',hc1,-⟩:=hc
 exact⟨hk.cells h.1 (by decide),hk.row h.2.1 (by decide),hk.cells h.2.2.1 (by decide),cell_of (hk.cells hc1 (by decide)) 0⟩
end Go.Proofs.YtemjlpahohmajaaGreat
namespace Go.Proofs.YtemjlpahohmajaaGreat
open Go
section
variable {s:SesD} {x z u:PS}
theorem next_step (s:SesD) (x:PS) (i k:Nat) (p:Int):nextP s x ⟨1,i,k,p⟩ =
  { pos:=x.pos.set i (stIx (s.rol i) ((s.rol i).stp k).to).toNat
    vals:=x.vals.set i (bankDo (s.rol i).ctrs (x.bank i) ((s.rol i).stp k))
    ways:=
     if ((s.rol i).stp k).kind=1 then setWay x.ways i (peerN s ((s.rol i).stp k)) (putL s.cap (x.way i (peerN s ((s.rol i).stp k))) ((s.rol i).stp k).msg)
     else if ((s.rol i).stp k).kind=2 then setWay x.ways (peerN s ((s.rol i).stp k)) i (takeL s.cls (x.way (peerN s ((s.rol i).stp k)) i) p)
     else x.ways }:=by
 unfold nextP
 rw[if_neg (show ¬ (1:Int)=2 by decide)]
 rfl
theorem next_lose (s:SesD) (x:PS) (i k:Nat) (p:Int):nextP s x ⟨2,i,k,p⟩={ x with ways:=setWay x.ways i k (loseL s.cls (x.way i k)) }:=by
 unfold nextP
 rw[if_pos rfl]
 rfl
end
end Go.Proofs.YtemjlpahohmajaaGreat
namespace Go.Proofs.YtemjlpahohmajaaGreat
open Go.RowKit Go.BigFrame
def sysT:List TypeId:=[140,209,213,9,98]
structure FgB (W:World) (b:Nat):Prop where
 ty:∀ C t,W.heap[b]?=some (.cells C t (0,0))→t∉sysT
 str:∀ (o:Nat) x,W.cell? ⟨b,o,none⟩≠some (.string x)
 ptr:∀ (o p:Nat),W.cell? ⟨b,o,none⟩=some (.pointer (some ⟨p,0,none⟩))→∀ C t,W.heap[p]?=some (.cells C t (0,0))→t≠209∧t≠213
 slc:∀ (o g o' p n c:Nat),W.cell? ⟨b,o,none⟩=some (.slice (some ⟨g,o',none⟩) n c)→W.cell? ⟨g,o',none⟩=some (.pointer (some ⟨p,0,none⟩))→∀ C t,W.heap[p]?=some (.cells C t (0,0))→t≠213
section
variable {W V:World} {F:List Nat}
theorem FgB.ne (h:∀ b∈F,FgB W b) {k:Nat} {C:Array Value} {t:TypeId} (hk:W.heap[k]?=some (.cells C t (0,0))) (ht:t∈sysT):k∉F:=fun hm=>(h k hm).ty _ _ hk ht
theorem FgB.str' (h:∀ b∈F,FgB W b) {k o:Nat} {x:ByteArray} (hu:W.cell? ⟨k,o,none⟩=some (.string x)):k∉F:=fun hm=>(h k hm).str _ _ hu
theorem FgB.bank (h:∀ b∈F,FgB W b) {k o p:Nat} {C:Array Value} (hu:W.cell? ⟨k,o,none⟩=some (.pointer (some ⟨p,0,none⟩))) (hp:W.heap[p]?=some (.cells C 209 (0,0))):k∉F:=fun hm=>((h k hm).ptr _ _ hu _ _ hp).1 rfl
theorem FgB.chan (h:∀ b∈F,FgB W b) {k o p:Nat} {C:Array Value} (hu:W.cell? ⟨k,o,none⟩=some (.pointer (some ⟨p,0,none⟩))) (hp:W.heap[p]?=some (.cells C 213 (0,0))):k∉F:=fun hm=>((h k hm).ptr _ _ hu _ _ hp).2 rfl
theorem Chn.fg {cb:Nat} {cls cap:Int} {L:List ByteArray} {G:List Nat} (h:Chn W cb cls cap L G) (hb:∀ b∈F,FgB W b) (hf:Frm F W V):Chn V cb cls cap L G:=h.frm hf fun x hx=>by
 obtain⟨sv,g1,g2,g3,rfl⟩:=h
 rcases List.mem_cons.1 hx with rfl | hx
 ·exact FgB.ne hb g1 (by simp[sysT])
 ·rw[Option.mem_toList] at hx
  obtain⟨D,hD⟩:=own_ty g2 hx
  exact FgB.ne hb hD (by simp[sysT])
theorem StR.fg {s:SesD} {yb sb:Nat} {x:PS} (h:StR W s yb sb x) (hs:0 < s.roles.length) (hb:∀ b∈F,FgB W b) (hf:Frm F W V):StR V s yb sb x:=by
 obtain⟨av,wv,h1,h2,h3⟩:=h.out
 refine⟨⟨av,wv,hf.at h1 (FgB.ne hb h1 (by simp[sysT])),h2.frm fun k o y hy=>?_,?_⟩,h.ok⟩
 ·obtain⟨bb,a1,a2,lv,a3,a4⟩:=hy
  have hk:=FgB.bank hb a2 a3
  exact⟨bb,hf.cellAt a1 hk,hf.cellAt a2 hk,lv,hf.at a3 (FgB.ne hb a3 (by simp[sysT])),a4.frm fun k o y hy=>by
   have hk:=FgB.str' hb hy.1
   exact⟨hf.cellAt hy.1 hk,hf.cellAt hy.2.1 hk,hf.cellAt hy.2.2 hk⟩⟩
 ·obtain⟨ao,cap,e,h4⟩:=h3
  refine⟨ao,cap,e,fun i R hR=>?_⟩
  obtain⟨g,o,e2,rv,c1,c2⟩:=h4 i R hR
  have hi:=lt_of_some hR
  have hl:R.length=s.roles.length:=by
   have:=h.ok.wr i (by rw[← h.ok.wl];exact hi)
   rwa [getD_some hR] at this
  have hg:g∉F:=fun hm=>by
   obtain⟨a',c',e4,h5⟩:=c2
   obtain⟨L,hL⟩:∃ L,R[0]?=some L:=⟨_,List.getElem?_eq_getElem (by omega)⟩
   obtain⟨k,o',e5,cb,G,q1,sv,q2,-⟩:=h5 0 L hL
   rw[Nat.zero_mul,Nat.add_zero] at q1
   subst e4
   subst e5
   exact(hb g hm).slc _ _ _ _ _ _ c1 q1 _ _ q2 rfl
  refine⟨g,o,e2,rv,hf.cellAt c1 hg,Arr.frm (fun k o' L hL=>?_) c2⟩
  obtain⟨cb,G,q1,q2⟩:=hL
  have hk:k∉F:=by
   obtain⟨sv,q3,-⟩:=id q2
   exact FgB.chan hb q1 q3
  exact⟨cb,G,hf.cellAt q1 hk,q2.fg hb hf⟩
theorem Rls.fg {v:Value} {l:List RolD} (h:Rls W v l) (hb:∀ b∈F,FgB W b) (hf:Frm F W V):Rls V v l:=Arr.frm (fun k o r hr=>by
 obtain⟨sv,cv,tv,c0,c1,c2,c3,c4⟩:=hr
 have hk:=FgB.str' hb c0
 refine⟨sv,cv,tv,hf.cellAt c0 hk,hf.cellAt c1 hk,hf.cellAt c2 hk,hf.cellAt c3 hk,⟨c4.sts.frm fun g o y hy=>?_,c4.ctrs.frm fun g o y hy=>?_,c4.steps.frm fun g o y hy=>?_,c4.cap⟩⟩
 ·have hk:=FgB.str' hb hy.1
  exact⟨hf.cellAt hy.1 hk,hf.cellAt hy.2.1 hk,hf.cellAt hy.2.2 hk⟩
 ·have hk:=FgB.str' hb hy.1
  exact⟨hf.cellAt hy.1 hk,hf.cellAt hy.2 hk⟩
 ·have hk:=FgB.str' hb hy.c0
  exact⟨hf.cellAt hy.c0 hk,hf.cellAt hy.c1 hk,hf.cellAt hy.c2 hk,hf.cellAt hy.c3 hk,hf.cellAt hy.c4 hk,hf.cellAt hy.c5 hk,hf.cellAt hy.c6 hk,hf.cellAt hy.c7 hk,hf.cellAt hy.c8 hk⟩) h
theorem SyR.fg {s:SesD} {yb fb:Nat} (h:SyR W s yb fb) (hb:∀ b∈F,FgB W b) (hf:Frm F W V):SyR V s yb fb:=by
 obtain⟨rv,h1,h2⟩:=h.out
 exact⟨⟨rv,hf.at h1 (FgB.ne hb h1 (by simp[sysT])),h2.fg hb hf⟩,h.ok,h.first.fg (by have:=h.ok.n2;omega) hb hf⟩
end
end Go.Proofs.YtemjlpahohmajaaGreat
namespace Go.Proofs.YtemjlpahohmajaaGreat
open Go.RowKit
section
variable {F:List Nat} {P:Program} {ops:Array Oper} {Q:Exit→Act→World→Prop} {md:Region.Mode} {S S':World→Prop}
theorem wpAnyF_sub (hSS:∀ W,S' W→S W):∀ (fuel:Nat) (listed:Array Bool) (a:Act) (w:World),wpAnyH P md ops Q S' fuel listed a w→wpAnyH P md ops Q S fuel listed a w
 | 0,_,_,_,h=>h
 | fuel + 1,_,_,_,h=>⟨h.1,fun i hi=>wpOp_mono (fun a' w' h'=>⟨hSS _ h'.1,wpAnyF_sub hSS fuel _ a' w' h'.2⟩) (h.2 i hi)⟩
theorem heldF_start {id:Nat} {a:Act} {w:World} (hm:P.follows .mixedOrders=true) (h:wpAnyH P .any ops Q (Frm F w.drew) ops.size (Array.replicate ops.size false) a w.drew):(Code.region id ops true).wp P Q a w:=
 wp_region_held hm h
theorem heldF_take {i:Nat} {oi:Oper} {fuel:Nat} {listed:Array Bool} {a:Act} {w:World} (v:Value) (hi:ops[i]?=some oi)
  (hs:Region.noSelect ops=true) (hf:Region.free md ops listed i=true) (hr:(Region.ready md ops listed).contains i=true)
  (hQ:∀ c a w,Q (.panic c) (a.put oi.dst v) w→Q (.panic c) a w) (hw:Region.wanted oi (yielded ops a.tmps)=true) (hy:∀ w',Frm F w w'→(execOp a.eval oi).run P w'=.ok (.value v) w')
  (h:wpAnyH P md ops Q (Frm F w) fuel (listed.setIfInBounds i true) (a.put oi.dst v) w):wpAnyH P md ops Q (Frm F w) (fuel + 1) listed a w:=
 wpAnyH_take hi hs hf hr hQ (.inl ⟨hw,hy⟩) (Frm.refl F _) h
theorem heldF_skip {i:Nat} {oi:Oper} {fuel:Nat} {listed:Array Bool} {a:Act} {w:World} (hi:ops[i]?=some oi)
  (hs:Region.noSelect ops=true) (hf:Region.free md ops listed i=true) (hr:(Region.ready md ops listed).contains i=true)
  (hQ:∀ c a w,Q (.panic c) (a.put oi.dst undef) w→Q (.panic c) a w) (hw:Region.wanted oi (yielded ops a.tmps)=false)
  (h:wpAnyH P md ops Q (Frm F w) fuel (listed.setIfInBounds i true) (a.put oi.dst undef) w):wpAnyH P md ops Q (Frm F w) (fuel + 1) listed a w:=
 wpAnyH_take hi hs hf hr hQ (.inr ⟨hw,rfl⟩) (Frm.refl F _) h
theorem heldF_step {i:Nat} {oi:Oper} {fuel:Nat} {listed:Array Bool} {a:Act} {w:World} (hi:ops[i]?=some oi) (hr:Region.ready md ops listed=[i]) (hw:Region.wanted oi (yielded ops a.tmps)=true)
  (h:∀ K':Act→World→Prop,Shut (∀ a' w',Frm F w w'→wpAnyH P md ops Q (Frm F w') fuel (listed.setIfInBounds i true) a' w'→K' a' w')→Oper.wp P oi a w K' Q):wpAnyH P md ops Q (Frm F w) (fuel + 1) listed a w:=by
 refine wpAnyH_all hr (by simp) (fun j hj=>?_)
 simp only[List.mem_singleton] at hj
 subst hj
 unfold wpOp
 simp only[hi,hw,if_true]
 exact .inl (h _ (fun a' w' hf hk=>⟨hf,wpAnyF_sub (fun W hW=>hf.trans hW) _ _ _ _ hk⟩))
theorem htF (i:Nat) {oi:Oper} {fuel:Nat} {listed:Array Bool} {a:Act} {w:World} (v:Value) (hy:∀ w',Frm F w w'→(execOp a.eval oi).run P w'=.ok (.value v) w')
  (h:wpAnyH P md ops Q (Frm F w) fuel (listed.setIfInBounds i true) (a.put oi.dst v) w) (hi:ops[i]?=some oi:=by rfl) (hb:(Region.noSelect ops && Region.free md ops listed i && (Region.ready md ops listed).contains i)=true:=by kernel_rfl)
  (hQ:∀ c a w,Q (.panic c) (a.put oi.dst v) w→Q (.panic c) a w:=by exact fun _ _ _ h=>h) (hw:Region.wanted oi (yielded ops a.tmps)=true:=by rfl):wpAnyH P md ops Q (Frm F w) (fuel + 1) listed a w:=by
 simp only[Bool.and_eq_true] at hb
 exact heldF_take v hi hb.1.1 hb.1.2 hb.2 hQ hw hy h
theorem hsF (i:Nat) {oi:Oper} {fuel:Nat} {listed:Array Bool} {a:Act} {w:World}
  (h:wpAnyH P md ops Q (Frm F w) fuel (listed.setIfInBounds i true) (a.put oi.dst undef) w) (hi:ops[i]?=some oi:=by rfl) (hb:(Region.noSelect ops && Region.free md ops listed i && (Region.ready md ops listed).contains i)=true:=by kernel_rfl)
  (hQ:∀ c a w,Q (.panic c) (a.put oi.dst undef) w→Q (.panic c) a w:=by exact fun _ _ _ h=>h) (hw:Region.wanted oi (yielded ops a.tmps)=false:=by rfl):wpAnyH P md ops Q (Frm F w) (fuel + 1) listed a w:=by
 simp only[Bool.and_eq_true] at hb
 exact heldF_skip hi hb.1.1 hb.1.2 hb.2 hQ hw h
theorem hstF (i:Nat) {oi:Oper} {fuel:Nat} {listed:Array Bool} {a:Act} {w:World}
 (h:∀ K':Act→World→Prop,Shut (∀ a' w',Frm F w w'→wpAnyH P md ops Q (Frm F w') fuel (listed.setIfInBounds i true) a' w'→K' a' w')→Oper.wp P oi a w K' Q) (hi:ops[i]?=some oi:=by rfl)
 (hr:Region.ready md ops listed=[i]:=by kernel_rfl) (hw:Region.wanted oi (yielded ops a.tmps)=true:=by rfl):wpAnyH P md ops Q (Frm F w) (fuel + 1) listed a w:=heldF_step hi hr hw h
theorem hcF {i:Nat} {oi:Oper} {fuel:Nat} {listed:Array Bool} {a:Act} {w:World} (v:Value) (hy:∀ w',Frm F w w'→(execOp a.eval oi).run P w'=.ok (.value v) w')
  (h:Cnt (i + 1) (wpAnyH P md ops Q (Frm F w) fuel (listed.setIfInBounds i true) (a.put oi.dst v) w)) (hi:ops[i]?=some oi:=by rfl) (hb:(Region.noSelect ops && Region.free md ops listed i && (Region.ready md ops listed).contains i)=true:=by kernel_rfl)
  (hQ:∀ c a w,Q (.panic c) (a.put oi.dst v) w→Q (.panic c) a w:=by exact fun _ _ _ h=>h) (hw:Region.wanted oi (yielded ops a.tmps)=true:=by rfl):Cnt i (wpAnyH P md ops Q (Frm F w) (fuel + 1) listed a w):=
 htF i v hy h hi hb hQ hw
theorem hdF {i:Nat} {oi:Oper} {fuel:Nat} {listed:Array Bool} {a:Act} {w:World}
  (h:Cnt (i + 1) (wpAnyH P md ops Q (Frm F w) fuel (listed.setIfInBounds i true) (a.put oi.dst undef) w)) (hi:ops[i]?=some oi:=by rfl) (hb:(Region.noSelect ops && Region.free md ops listed i && (Region.ready md ops listed).contains i)=true:=by kernel_rfl)
  (hQ:∀ c a w,Q (.panic c) (a.put oi.dst undef) w→Q (.panic c) a w:=by exact fun _ _ _ h=>h) (hw:Region.wanted oi (yielded ops a.tmps)=false:=by rfl):Cnt i (wpAnyH P md ops Q (Frm F w) (fuel + 1) listed a w):=
 hsF i h hi hb hQ hw
end
end Go.Proofs.YtemjlpahohmajaaGreat
namespace Go.Proofs.YtemjlpahohmajaaGreat
open Go.RowKit Go.BigFrame
abbrev YB (w:World) (ob:Nat) (L:List UInt8) (W:World):Prop:=BO 61 5 1 w ob L.length (L.map u8) W
abbrev byT:List TypeId:=[61,5]
theorem YB.add {w W w1:World} {ob m:Nat} {L M:List UInt8} {ao:Option Addr} {cap:Nat} {o:Obj} {v':Value} (h:YB w ob L W) (h1:W.heap[ob]?=some (.cells #[.slice ao L.length cap] 61 (0,0))) (h2:W.ownsRow w.heap.size 5 1 (.slice ao L.length cap) L.length (L.map u8))
  (hg:(W.alloc o).grownBy w1 (Value.slice ao L.length cap).ownBlock) (hm:M.length=m) (ho:w1.ownsRow w.heap.size 5 1 v' (L.length + m) (L.map u8 ++ M.map u8)) :
  YB w ob (L ++ M) (w1.setCell ⟨ob,0,none⟩ v')∧Kt byT W (w1.setCell ⟨ob,0,none⟩ v'):=by
 have:=h.step h1 h2 (by decide) hg ho
 unfold YB
 rw[List.map_append,List.length_append,hm]
 exact this
theorem CtR.kt {B:Nat} {lv:Value} {l:List (CtrD × Int)} {W W':World} (h:CtR B lv l W) (hk:Kt byT W W'):CtR B lv l W':=by
 refine⟨hk.cells h.b (by decide),?_,fun ao n c e hn=>?_⟩
 ·obtain⟨ao,c,rfl,hx⟩:=h.a
  refine⟨ao,c,rfl,fun i x hi=>?_⟩
  obtain⟨b,o,e,a0,a1,a2⟩:=hx i x hi
  obtain⟨g,cur,e2,hg⟩:=h.t _ _ _ rfl (by have:=lt_of_some hi;omega)
  have ebg:g=b∧0=o:=by rw[e2] at e;injection e with e;injection e with e1 e3;exact⟨e1,e3⟩
  obtain⟨rfl,rfl⟩:=ebg
  have hg':=hk.cells hg (by decide)
  rw[cell_of hg] at a0 a1 a2
  exact⟨g,0,e2,(cell_of hg' _).trans a0,(cell_of hg' _).trans a1,(cell_of hg' _).trans a2⟩
 ·obtain⟨g,cur,e1,e2⟩:=h.t _ _ _ e hn
  exact⟨g,cur,e1,hk.cells e2 (by decide)⟩
theorem two_wrap {v:Int} (h0:0≤v) (h1:v≤65535):u8 (UInt8.ofNat (v.toNat / 256))=.int .u8 (v / 256)∧u8 (UInt8.ofNat (v.toNat % 256))=.int .u8 (v % 256):=by
 obtain⟨n,rfl⟩:=Int.eq_ofNat_of_zero_le h0
 unfold u8
 simp only[Int.toNat_natCast,UInt8.toNat_ofNat']
 constructor
 ·congr 1
  have:n / 256 < 256:=by omega
  rw[Nat.mod_eq_of_lt this];rfl
 ·congr 1
  have:n % 256 < 256:=by omega
  rw[Nat.mod_eq_of_lt this];rfl
theorem at_wrap {p:Nat} (h:p < 256):u8 (UInt8.ofNat p)=.int .u8 (p:Int):=by
 unfold u8
 rw[UInt8.toNat_ofNat',Nat.mod_eq_of_lt h]
end Go.Proofs.YtemjlpahohmajaaGreat
namespace Go.Proofs.YtemjlpahohmajaaGreat
open Go.RowKit Go.BigFrame Go.Lib
theorem strCells_byt (s:ByteArray):strCells s=(byt s).map u8:=rfl
theorem app_str {ty:TypeId} {W:World} {base:Nat} {v:Value} {xs:List UInt8} (ho:W.ownsRow base 5 1 v xs.length (xs.map u8)) (s:ByteArray) (hn:xs.length + s.size≤4000000) (hb:base≤W.heap.size) :
  ∃ v' W',(Builtin.append_ #[61,9] ty #[v,.string s]).run Tryz.prog W=.ok v' W'∧W'.ownsRow base 5 1 v' (xs ++ byt s).length ((xs ++ byt s).map u8)∧W.grownBy W' v.ownBlock:=by
 obtain⟨i0,hi0,hz0,hz1,hz2⟩:=info_parts Tryz.info5
 obtain⟨v',W',h1,h2,h3,-⟩:=run_append_own_string (P:=Tryz.prog) W base 61 9 ty 5 i0 Tryz.underlying61 Tryz.underlying9 hi0 hz0 hz1 hz2 v xs.length (xs.map u8) ho s (by unfold maxLen;omega) (by omega) hb
 refine⟨v',W',h1,?_,h3⟩
 rw[List.length_append,List.map_append,← strCells_byt]
 have:(byt s).length=s.size:=by unfold byt;simp
 rw[this]
 exact h2
theorem step_app_str {ops:Array Oper} {o:Oper} {a:Act} {w:World} {K:Act→World→Prop} {Q:Exit→Act→World→Prop} {E:Prop} (hgd:o.guard=none) (s x:Operand) (ho:o.op=.call { callee:=.builtin .append,args:=#[s,x],argTypes:=#[61,9] })
  (base:Nat) (v:Value) (sv:ByteArray) (hs:a.eval s=v) (hx:a.eval x=.string sv) (xs:List UInt8) (hown:w.ownsRow base 5 1 v xs.length (xs.map u8)) (hn:xs.length + sv.size≤4000000) (hb:base≤w.heap.size)
  (h:∀ ao cp w',w'.ownsRow base 5 1 (.slice ao (xs ++ byt sv).length cp) (xs ++ byt sv).length ((xs ++ byt sv).map u8)→w.grownBy w' v.ownBlock→K (a.put o.dst (.slice ao (xs ++ byt sv).length cp)) w'):if Region.wanted o (yielded ops a.tmps)=true then Oper.wp Tryz.prog o a w K Q else E:=by
 have hw:Region.wanted o (yielded ops a.tmps)=true:=by simp[Region.wanted,hgd]
 rw[if_pos hw]
 obtain⟨v',w',hrun,r1,r2⟩:=app_str (ty:=o.type) hown sv hn hb
 obtain⟨ao,cp,rfl⟩:=own_shape r1
 unfold Oper.wp
 simp[execOp,ho,resolve,invoke,builtin,hs,hx,hrun,Result.andThen]
 have hk:=h ao cp w' r1 r2
 rw[List.length_append] at hk
 exact hk
structure YP (w wr:World) (ob:Nat) (v0 v:Value) (L:List UInt8) (W:World):Prop where
 f:Frm [] w W
 b:W.heap[ob]?=some (.cells #[v0] 61 (0,0))
 o:W.ownsRow w.heap.size 5 1 v L.length (L.map u8)
 k:Kt byT wr W
section
variable {w wr W W':World} {ob:Nat} {v0 v:Value} {L l:List UInt8}
theorem YP.frm (h:YP w wr ob v0 v L W) (hf:Frm [] W W'):YP w wr ob v0 v L W':=⟨h.f.trans hf,hf.at h.b (by simp),hf.owns h.o (by simp),h.k.trans (Kt.frm hf)⟩
theorem YP.grow {v':Value} (h:YP w wr ob v0 v L W) (hg:W.grownBy W' v.ownBlock) (ho:W'.ownsRow w.heap.size 5 1 v' (L ++ l).length ((L ++ l).map u8)):YP w wr ob v0 v' (L ++ l) W':=by
 refine⟨h.f.grown hg (fun q hq=>.inr (ownBlock_ge h.o hq)),grown_at hg h.b (fun e'=>?_),ho,h.k.grown hg (fun q hq=>?_)⟩
 ·obtain⟨c,hc⟩:=ownBlock_type h.o e'
  have hb:=h.b
  rw[hb] at hc;cases hc
 ·obtain⟨c,hc⟩:=ownBlock_type h.o hq
  exact⟨c,5,(0,0),hc,by simp⟩
theorem YP.fin (h:YP w wr ob v0 v L W) (hn:w.heap.size≤ob):YB w ob L (W.setCell ⟨ob,0,none⟩ v)∧Kt byT wr (W.setCell ⟨ob,0,none⟩ v):=by
 obtain⟨ao',cp',rfl⟩:=own_shape h.o
 refine⟨⟨h.f.setCell _ (.inr hn) _,hn,ao',cp',(block_setCell h.b 0 _).trans rfl,?_⟩,h.k.set h.b (by simp) _⟩
 refine ownsRow_setCell_other h.o (fun e'=>?_) _
 obtain⟨c,hc⟩:=ownBlock_type h.o e'
 have hb:=h.b
 rw[hb] at hc;cases hc
end
set_option maxRecDepth 100000 in
theorem conv_own {W:World} {base:Nat} {ao:Option Addr} {cp:Nat} {L:List UInt8} (h:W.ownsRow base 5 1 (.slice ao L.length cp) L.length (L.map u8)) (hp:L.length≠0):(convert 61 9 (.slice ao L.length cp)).run Tryz.prog W=.ok (.string ⟨L.toArray⟩) W:=by
 obtain⟨g,c,cur,e,-,-⟩:=own_block h hp
 cases e
 exact run_convert_bytes_back _ 61 9 5 ⟨g,0,none⟩ cp L Tryz.underlying61 Tryz.underlying5 Tryz.underlying9 (fun j hj=>by
  have h1:=World.ownsRow.cellAt h j (by simpa using hj)
  rw[WideShapes.add_plain]
  rw[Nat.zero_add,h1]
  simp[u8,hj])
end Go.Proofs.YtemjlpahohmajaaGreat
namespace Go.Proofs.YtemjlpahohmajaaGreat
open Go.RowKit Go.BigFrame
def stepBig (t:StpD):Bool:=decide (60 < t.msg.size) || decide (60 < t.peer.size)
def WfS (s:SesD):Prop:=∀ r∈s.roles,∀ x∈r.steps,wf64 x.kind
end Go.Proofs.YtemjlpahohmajaaGreat
namespace Go.Proofs.YtemjlpahohmajaaGreat
open Go
structure Nd where
 st:PS
 par:Int
 mv:Mv
 lvl:Nat
 deriving DecidableEq
def mv0:Mv:=⟨0,0,0,0⟩
def hasK (s:SesD) (N:List Nd) (k:List UInt8):Bool:=N.any fun d=>decide (keyP s d.st=k)
def addMv (s:SesD) (lim:Nat) (x:PS) (n lvl:Nat):List Nd→List Mv→List Nd × Bool
 | N,[]=>(N,true)
 | N,m :: ms =>
   if hasK s N (keyP s (nextP s x m)) then addMv s lim x n lvl N ms
   else if N.length=lim then (N,false)
   else addMv s lim x n lvl (N ++ [⟨nextP s x m,n,m,lvl + 1⟩]) ms
def bfs (s:SesD) (lim:Nat):Nat→Nat→List Nd→List Nd × Bool
 | 0,_,N=>(N,true)
 | f + 1,n,N=>match N[n]? with
   | none=>(N,true)
   | some d=>match addMv s lim d.st n d.lvl N (movesP s d.st) with
     | (N',true)=>bfs s lim f (n + 1) N'
     | (N',false)=>(N',false)
def nd0 (s:SesD):Nd:=⟨firstP s,-1,mv0,0⟩
def searchP (s:SesD) (lim:Nat):List Nd × Bool:=bfs s lim (lim + 1) 0 [nd0 s]
structure SI (s:SesD) (lim:Nat) (n:Nat) (N:List Nd):Prop where
 ok:∀ d∈N,PSok s d.st
 one:N[0]?=some (nd0 s)
 top:N.length≤lim
 nn:n≤N.length
 dist:∀ (i j:Nat) (a b:Nd),N[i]?=some a→N[j]?=some b→keyP s a.st=keyP s b.st→i=j
 par:∀ (i:Nat) (a:Nd),N[i]?=some a→0 < i→∃ (p:Nat) (b:Nd),a.par=p∧p < i∧N[p]?=some b∧a.mv∈movesP s b.st∧a.st=nextP s b.st a.mv∧a.lvl=b.lvl + 1
 mono:∀ (i j:Nat) (a b:Nd),N[i]?=some a→N[j]?=some b→i≤j→a.lvl≤b.lvl
theorem hasK_iff {s:SesD} {N:List Nd} {k:List UInt8}:hasK s N k=true↔∃ (i:Nat) (d:Nd),N[i]?=some d∧keyP s d.st=k:=by
 unfold hasK
 rw[List.any_eq_true]
 constructor
 ·rintro⟨d,hd,h⟩
  obtain⟨i,hi⟩:=List.getElem?_of_mem hd
  exact⟨i,d,hi,of_decide_eq_true h⟩
 ·rintro⟨i,d,hi,h⟩
  exact⟨d,List.mem_of_getElem? hi,decide_eq_true h⟩
section
variable {s:SesD} {lim:Nat}
theorem SI.start (h:SesOk s) (hl:1≤lim):SI s lim 0 [nd0 s]:=by
 refine⟨fun d hd=>?_,rfl,by simpa using hl,Nat.zero_le _,fun i j a b hi hj _=>?_,fun i a hi h0=>?_,fun i j a b hi hj _=>?_⟩
 ·rw[List.mem_singleton] at hd;subst hd;exact first_ok h
 ·have h1:=lt_of_some hi;have h2:=lt_of_some hj;simp at h1 h2;omega
 ·have h1:=lt_of_some hi;simp at h1;omega
 ·have h1:=lt_of_some hi;have h2:=lt_of_some hj
  simp at h1 h2
  subst h1;subst h2
  rw[hi] at hj;cases hj;exact Nat.le_refl _
structure SJ (s:SesD) (lim:Nat) (n:Nat) (d:Nd) (N:List Nd):Prop extends SI s lim n N where
 at':N[n]?=some d
 deep:∀ a∈N,a.lvl≤d.lvl + 1
theorem SJ.add {n:Nat} {d:Nd} {N:List Nd} (hs:SesOk s) (h:SJ s lim n d N) {m:Mv} (hm:m∈movesP s d.st) (hk:hasK s N (keyP s (nextP s d.st m))=false) (hl:N.length≠lim) :
  SJ s lim n d (N ++ [⟨nextP s d.st m,n,m,d.lvl + 1⟩]):=by
 have hd:=h.ok d (List.mem_of_getElem? h.at')
 have hn:=lt_of_some h.at'
 have hlen:(N ++ [(⟨nextP s d.st m,n,m,d.lvl + 1⟩:Nd)]).length=N.length + 1:=by simp
 have hg:∀ (i:Nat) (a:Nd),(N ++ [⟨nextP s d.st m,n,m,d.lvl + 1⟩])[i]?=some a→N[i]?=some a∨i=N.length∧a=⟨nextP s d.st m,n,m,d.lvl + 1⟩:=by
  intro i a hi
  by_cases e:i < N.length
  ·rw[List.getElem?_append_left e] at hi;exact .inl hi
  ·rw[List.getElem?_append_right (by omega)] at hi
   have h1:=lt_of_some hi
   simp at h1
   obtain rfl:i=N.length:=by omega
   simp at hi
   exact .inr ⟨rfl,hi.symm⟩
 have hk':∀ (i:Nat) (a:Nd),N[i]?=some a→keyP s a.st≠keyP s (nextP s d.st m):=by
  intro i a hi e
  rw[hasK_iff.2 ⟨i,a,hi,e⟩] at hk;cases hk
 have hlim:=h.top
 refine⟨⟨fun a ha=>?_,?_,by omega,?_,?_,?_,?_⟩,?_,?_⟩
 ·rcases List.mem_append.1 ha with ha | ha
  ·exact h.ok a ha
  ·rw[List.mem_singleton] at ha;subst ha;exact next_ok hs hd hm
 ·rw[List.getElem?_append_left (by omega)];exact h.one
 ·have:=h.nn;omega
 ·intro i j a b hi hj e
  rcases hg i a hi with h1 | ⟨rfl,rfl⟩ <;> rcases hg j b hj with h2 | ⟨rfl,rfl⟩
  ·exact h.dist i j a b h1 h2 e
  ·exact absurd e (hk' i a h1)
  ·exact absurd e.symm (hk' j b h2)
  ·rfl
 ·intro i a hi h0
  rcases hg i a hi with h1 | ⟨rfl,rfl⟩
  ·obtain⟨p,b,e1,e2,e3,e4⟩:=h.par i a h1 h0
   exact⟨p,b,e1,e2,by rw[List.getElem?_append_left (lt_of_some e3)];exact e3,e4⟩
  ·exact⟨n,d,rfl,hn,by rw[List.getElem?_append_left hn];exact h.at',hm,rfl,rfl⟩
 ·intro i j a b hi hj hij
  rcases hg i a hi with h1 | ⟨rfl,rfl⟩ <;> rcases hg j b hj with h2 | ⟨rfl,rfl⟩
  ·exact h.mono i j a b h1 h2 hij
  ·exact h.deep a (List.mem_of_getElem? h1)
  ·have:=lt_of_some h2;omega
  ·exact Nat.le_refl _
 ·rw[List.getElem?_append_left hn];exact h.at'
 ·intro a ha
  rcases List.mem_append.1 ha with ha | ha
  ·exact h.deep a ha
  ·rw[List.mem_singleton] at ha;subst ha;exact Nat.le_refl _
theorem hasK_append {N M:List Nd} {k:List UInt8} (h:hasK s N k=true):hasK s (N ++ M) k=true:=by
 unfold hasK at h ⊢
 rw[List.any_append,h];rfl
theorem addMv_ok (hs:SesOk s) {n:Nat} {d:Nd}:∀ (ms:List Mv) (N:List Nd),SJ s lim n d N→(∀ m∈ms,m∈movesP s d.st) →
  SJ s lim n d (addMv s lim d.st n d.lvl N ms).1∧(∃ M,(addMv s lim d.st n d.lvl N ms).1=N ++ M) ∧
  ((addMv s lim d.st n d.lvl N ms).2=true→∀ m∈ms,hasK s (addMv s lim d.st n d.lvl N ms).1 (keyP s (nextP s d.st m))=true) ∧
  ((addMv s lim d.st n d.lvl N ms).2=false→(addMv s lim d.st n d.lvl N ms).1.length=lim∧∃ m∈ms,hasK s (addMv s lim d.st n d.lvl N ms).1 (keyP s (nextP s d.st m))=false)
 | [],N,h,_=>⟨h,⟨[],by simp[addMv]⟩,fun _ m hm=>by simp at hm,fun e=>by cases e⟩
 | m :: ms,N,h,hm=>by
   rw[addMv]
   cases hk:hasK s N (keyP s (nextP s d.st m)) with
   | true =>
     simp only[if_true]
     obtain⟨h1,⟨M,h2⟩,h3,h4⟩:=addMv_ok hs ms N h (fun x hx=>hm x (by simp[hx]))
     refine⟨h1,⟨M,h2⟩,fun e x hx=>?_,fun e=>?_⟩
     ·rcases List.mem_cons.1 hx with rfl | hx
      ·rw[h2];exact hasK_append hk
      ·exact h3 e x hx
     ·obtain⟨g1,x,g2,g3⟩:=h4 e
      exact⟨g1,x,by simp[g2],g3⟩
   | false =>
     simp only[Bool.false_eq_true,if_false]
     by_cases hl:N.length=lim
     ·rw[if_pos hl]
      exact⟨h,⟨[],by simp⟩,(fun e=>by cases e),fun _=>⟨hl,m,by simp,hk⟩⟩
     ·rw[if_neg hl]
      obtain⟨h1,⟨M,h2⟩,h3,h4⟩:=addMv_ok hs ms _ (h.add hs (hm m (by simp)) hk hl) (fun x hx=>hm x (by simp[hx]))
      refine⟨h1,⟨[⟨nextP s d.st m,n,m,d.lvl + 1⟩] ++ M,by rw[h2];simp⟩,fun e x hx=>?_,fun e=>?_⟩
      ·rcases List.mem_cons.1 hx with rfl | hx
       ·rw[h2]
        refine hasK_append (hasK_iff.2 ⟨N.length,⟨nextP s d.st x,n,x,d.lvl + 1⟩,by simp,rfl⟩)
       ·exact h3 e x hx
      ·obtain⟨g1,x,g2,g3⟩:=h4 e
       exact⟨g1,x,by simp[g2],g3⟩
def ClosedN (s:SesD) (n:Nat) (N:List Nd):Prop:=∀ (i:Nat) (a:Nd),i < n→N[i]?=some a→∀ m∈movesP s a.st,∃ (j:Nat) (b:Nd),N[j]?=some b∧keyP s b.st=keyP s (nextP s a.st m)∧b.lvl≤a.lvl + 1
structure Found (s:SesD) (lim:Nat) (R:List Nd × Bool) (n:Nat):Prop extends SI s lim n R.1 where
 closed:ClosedN s n R.1
 deep:∀ (i:Nat) (a:Nd),n≤i→R.1[i]?=some a→∀ b∈R.1,b.lvl≤a.lvl + 1
 whole:R.2=true→n=R.1.length
 cut:R.2=false→R.1.length=lim∧n < R.1.length
theorem SI.next {n:Nat} {d:Nd} {N:List Nd} (h:SI s lim n N) (hd:N[n]?=some d) (hb:∀ a∈N,a.lvl≤d.lvl + 1):SJ s lim n d N:=⟨h,hd,hb⟩
theorem SI.up {n:Nat} {N:List Nd} (h:SI s lim n N) (hn:n < N.length):SI s lim (n + 1) N:=⟨h.ok,h.one,h.top,hn,h.dist,h.par,h.mono⟩
theorem ClosedN.more {n k:Nat} {N M:List Nd} (h:ClosedN s n N) (hk:k≤n) (hn:n≤N.length):ClosedN s k (N ++ M):=by
 intro i a hi ha m hm
 rw[List.getElem?_append_left (by omega)] at ha
 obtain⟨j,b,h1,h2⟩:=h i a (by omega) ha m hm
 exact⟨j,b,by rw[List.getElem?_append_left (lt_of_some h1)];exact h1,h2⟩
theorem bfs_ok (hs:SesOk s):∀ (f n:Nat) (N:List Nd),SI s lim n N→ClosedN s n N→(∀ (d:Nd),N[n]?=some d→∀ a∈N,a.lvl≤d.lvl + 1)→lim + 1≤n + f→∃ k,Found s lim (bfs s lim f n N) k
 | 0,n,N,h,hc,hb,hf=>by
   have:=h.nn;have:=h.top;omega
 | f + 1,n,N,h,hc,hb,hf=>by
   rw[bfs]
   cases hd:N[n]? with
   | none =>
     have hn:N.length≤n:=List.getElem?_eq_none_iff.1 hd
     have hnn:=h.nn
     exact⟨n,h,hc,(fun i a hi ha=>by have:=lt_of_some ha;simp only at this;omega),(fun _=>by simp only;omega),fun e=>by cases e⟩
   | some d =>
     simp only
     have hj:=h.next hd (hb d hd)
     obtain⟨h1,⟨M,h2⟩,h3,h4⟩:=addMv_ok hs (movesP s d.st) N hj (fun m hm=>hm)
     generalize hR:addMv s lim d.st n d.lvl N (movesP s d.st)=R at h1 h2 h3 h4
     obtain⟨N',b⟩:=R
     simp only at h1 h2 h3 h4
     have hn:=lt_of_some h1.at'
     have hold:∀ (i:Nat) (a:Nd),i < N.length→N'[i]?=some a→N[i]?=some a:=fun i a hi ha=>by rw[h2,List.getElem?_append_left hi] at ha;exact ha
     have hdeep:∀ (i:Nat) (a:Nd),n≤i→N'[i]?=some a→∀ b∈N',b.lvl≤a.lvl + 1:=fun i a hi ha b hb=>by
      have h5:=h1.deep b hb
      have h6:=h1.mono n i d a h1.at' ha hi
      omega
     cases b with
     | true =>
       simp only
       refine bfs_ok hs f (n + 1) N' (h1.toSI.up hn) (fun i a hi ha m hm=>?_) (fun e he a ha=>hdeep (n + 1) e (by omega) he a ha) (by omega)
       by_cases e:i=n
       ·subst e
        rw[h1.at'] at ha
        cases ha
        obtain⟨j,b,g1,g2⟩:=hasK_iff.1 (h3 rfl m hm)
        exact⟨j,b,g1,g2,h1.deep b (List.mem_of_getElem? g1)⟩
       ·have h5:=hc.more (M:=M) (Nat.le_refl _) h.nn
        rw[← h2] at h5
        exact h5 i a (by omega) ha m hm
     | false =>
       simp only
       refine⟨n,h1.toSI,?_,hdeep,(fun e=>by cases e),fun _=>⟨(h4 rfl).1,hn⟩⟩
       simp only
       rw[h2]
       exact hc.more (Nat.le_refl _) h.nn
theorem search_ok (hs:SesOk s) (hl:1≤lim):∃ n,Found s lim (searchP s lim) n:=
 bfs_ok hs (lim + 1) 0 [nd0 s] (SI.start hs hl) (fun i a hi _=>by omega) (fun d hd a ha=>by
  rw[List.mem_singleton] at ha
  subst ha
  exact Nat.zero_le _) (by omega)
def trc (N:List Nd):Nat→Nat→List Mv
 | 0,_=>[]
 | f + 1,n=>match N[n]? with
   | none=>[]
   | some d=>if d.par < 0 then [] else trc N f d.par.toNat ++ [d.mv]
def traceP (N:List Nd) (n:Nat):List Mv:=trc N (n + 1) n
theorem trc_more {n:Nat} {N:List Nd} (h:SI s lim n N):∀ (f k:Nat),k < f→trc N f k=traceP N k:=by
 intro f
 induction f using Nat.strongRecOn with
 | _ f ih =>
   intro k hk
   match f,ih,hk with
   | 0,_,hk=>omega
   | f + 1,ih,hk =>
     unfold traceP
     rw[trc,trc]
     cases hd:N[k]? with
     | none=>rfl
     | some d =>
       simp only
       by_cases e:d.par < 0
       ·rw[if_pos e,if_pos e]
       ·rw[if_neg e,if_neg e]
        have hp:∃ p:Nat,d.par=p∧p < k:=by
         rcases Nat.eq_zero_or_pos k with h0 | h0
         ·subst h0
          rw[h.one] at hd;cases hd
          exact absurd (show (-1:Int) < 0 by decide) e
         ·obtain⟨p,b,e1,e2,-⟩:=h.par k d hd h0
          exact⟨p,e1,e2⟩
        obtain⟨p,e1,e2⟩:=hp
        rw[e1,Int.toNat_natCast]
        by_cases hkf:k=f
        ·subst hkf;rfl
        ·rw[ih f (by omega) p (by omega),ih k (by omega) p (by omega)]
theorem trace_zero {n:Nat} {N:List Nd} (h:SI s lim n N):traceP N 0=[]:=by
 unfold traceP
 rw[trc,h.one]
 rfl
theorem trace_step {n:Nat} {N:List Nd} (h:SI s lim n N) {i p:Nat} {d:Nd} (hd:N[i]?=some d) (hp:d.par=p) (hpi:p < i):traceP N i=traceP N p ++ [d.mv]:=by
 rw[← trc_more h (i + 1) i (by omega),trc,hd]
 simp only
 rw[hp,if_neg (by omega),Int.toNat_natCast,trc_more h _ _ hpi]
def follow (s:SesD):PS→List Mv→Option PS
 | x,[]=>some x
 | x,m :: l=>if m∈movesP s x then follow s (nextP s x m) l else none
theorem follow_append (s:SesD):∀ (l k:List Mv) (x:PS),follow s x (l ++ k)=(follow s x l).bind fun z=>follow s z k
 | [],k,x=>rfl
 | m :: l,k,x=>by
   rw[List.cons_append,follow,follow]
   split
   ·exact follow_append s l k _
   ·rfl
theorem trace_leads {n:Nat} {N:List Nd} (h:SI s lim n N):∀ (i:Nat) (d:Nd),N[i]?=some d→follow s (firstP s) (traceP N i)=some d.st∧(traceP N i).length=d.lvl:=by
 intro i
 induction i using Nat.strongRecOn with
 | _ i ih =>
   intro d hd
   rcases Nat.eq_zero_or_pos i with h0 | h0
   ·subst h0
    rw[h.one] at hd;cases hd
    rw[trace_zero h]
    exact⟨rfl,rfl⟩
   ·obtain⟨p,b,e1,e2,e3,e4,e5,e6⟩:=h.par i d hd h0
    obtain⟨g1,g2⟩:=ih p e2 b e3
    rw[trace_step h hd e1 e2,follow_append,g1]
    refine⟨?_,by rw[List.length_append,g2,e6];rfl⟩
    show follow s b.st [d.mv]=_
    rw[follow,if_pos e4,follow,e5]
end
end Go.Proofs.YtemjlpahohmajaaGreat
namespace Go.Proofs.YtemjlpahohmajaaGreat
open Go.RowKit Go.BigFrame Go.Maps
def ndC1 (d:Nd × Nat):List Value:=[.pointer (some ⟨d.2,0,none⟩),.int .i64 d.1.par,.int .i64 d.1.mv.kind,.int .i64 d.1.mv.role,.int .i64 d.1.mv.step,.int .i64 d.1.mv.place,.int .i64 d.1.lvl]
abbrev ndV (d:Nd × Nat):Value:=.agg #[.pointer (some ⟨d.2,0,none⟩),.int .i64 d.1.par,.int .i64 d.1.mv.kind,.int .i64 d.1.mv.role,.int .i64 d.1.mv.step,.int .i64 d.1.mv.place,.int .i64 d.1.lvl]
def ndC (N:List (Nd × Nat)):List Value:=N.flatMap ndC1
theorem ndC_length (N:List (Nd × Nat)):(ndC N).length=N.length * 7:=by
 induction N with
 | nil=>rfl
 | cons d N ih=>unfold ndC at ih ⊢;rw[List.flatMap_cons,List.length_append,ih];simp[ndC1];omega
theorem ndC_append (A B:List (Nd × Nat)):ndC (A ++ B)=ndC A ++ ndC B:=by unfold ndC;rw[List.flatMap_append]
theorem ndC_one (d:Nd × Nat):ndC [d]=ndC1 d:=by unfold ndC;simp
theorem ndC_at {N:List (Nd × Nat)}:∀ {i:Nat} {d:Nd × Nat},N[i]?=some d→∀ j,j < 7→(ndC N)[i * 7 + j]?=(ndC1 d)[j]?:=by
 induction N with
 | nil=>intro i d h;simp at h
 | cons a N ih =>
   intro i d h j hj
   have e:ndC (a :: N)=ndC1 a ++ ndC N:=rfl
   have h7:(ndC1 a).length=7:=rfl
   rw[e]
   cases i with
   | zero=>simp at h;subst h;rw[List.getElem?_append_left (by omega)];congr 1;omega
   | succ i=>rw[List.getElem?_append_right (by omega),h7,show (i + 1) * 7 + j - 7=i * 7 + j by omega];exact ih (by simpa using h) j hj
structure NdAt (W:World) (b o:Nat) (d:Nd × Nat):Prop where
 c0:W.cell? ⟨b,o,none⟩=some (.pointer (some ⟨d.2,0,none⟩))
 c1:W.cell? ⟨b,o + 1,none⟩=some (.int .i64 d.1.par)
 c2:W.cell? ⟨b,o + 2,none⟩=some (.int .i64 d.1.mv.kind)
 c3:W.cell? ⟨b,o + 3,none⟩=some (.int .i64 d.1.mv.role)
 c4:W.cell? ⟨b,o + 4,none⟩=some (.int .i64 d.1.mv.step)
 c5:W.cell? ⟨b,o + 5,none⟩=some (.int .i64 d.1.mv.place)
 c6:W.cell? ⟨b,o + 6,none⟩=some (.int .i64 d.1.lvl)
theorem NdAt.frm {W V:World} {b o:Nat} {d:Nd × Nat} (h:NdAt W b o d) (hf:Frm [] W V):NdAt V b o d:=⟨hf.keep h.c0,hf.keep h.c1,hf.keep h.c2,hf.keep h.c3,hf.keep h.c4,hf.keep h.c5,hf.keep h.c6⟩
theorem nd_arr {W:World} {base:Nat} {v:Value} {N:List (Nd × Nat)} (h:W.ownsRow base 117 7 v N.length (ndC N)):Arr 7 NdAt W v N:=by
 obtain⟨ao,cap,rfl⟩:=own_shape h
 refine⟨ao,cap,rfl,fun i d hd=>?_⟩
 have hl:=lt_of_some hd
 obtain⟨g,c,cur,e,-,-⟩:=own_block h (by omega)
 cases e
 have hc:=fun j hj=>World.ownsRow.cellAt h j hj
 have a:=ndC_at hd
 have hlen:=ndC_length N
 refine⟨g,0,rfl,?_⟩
 rw[Nat.zero_add]
 have k:∀ j u,j < 7→(ndC1 d)[j]?=some u→W.cell? ⟨g,i * 7 + j,none⟩=some u:=fun j u hj hu=>(hc _ (by omega)).trans ((a j hj).trans hu)
 exact⟨k 0 _ (by omega) rfl,k 1 _ (by omega) rfl,k 2 _ (by omega) rfl,k 3 _ (by omega) rfl,k 4 _ (by omega) rfl,k 5 _ (by omega) rfl,k 6 _ (by omega) rfl⟩
def findP (s:SesD) (N:List Nd) (k:List UInt8):Option Nat:=N.findIdx? fun d=>decide (keyP s d.st=k)
def keyF (s:SesD) (N:List Nd):Lit→Option Value
 | .string k=>(findP s N k).map fun i=>.int .i64 (i:Nat)
 | _=>none
theorem findP_none {s:SesD} {N:List Nd} {k:List UInt8}:(findP s N k).isSome=hasK s N k:=by
 unfold findP hasK
 rw[List.findIdx?_isSome]
theorem findP_at {s:SesD} {N:List Nd} {k:List UInt8} {i:Nat} (h:findP s N k=some i):∃ d,N[i]?=some d∧keyP s d.st=k:=by
 unfold findP at h
 obtain⟨hl,h1,-⟩:=List.findIdx?_eq_some_iff_getElem.1 h
 exact⟨_,List.getElem?_eq_getElem hl,of_decide_eq_true h1⟩
theorem keyF_nil (s:SesD):keyF s []=fun _=>none:=by
 funext k
 cases k <;> rfl
theorem keyF_snoc {s:SesD} {N:List Nd} {d:Nd} (h:hasK s N (keyP s d.st)=false):keyF s (N ++ [d])=updL (keyF s N) (.string (keyP s d.st)) (some (.int .i64 (N.length:Nat))):=by
 funext k
 by_cases e:k=.string (keyP s d.st)
 ·subst e
  rw[updL_same]
  have h0:findP s N (keyP s d.st)=none:=by rw[← Option.not_isSome_iff_eq_none,findP_none,h];simp
  unfold findP at h0
  simp only[keyF,findP,List.findIdx?_append,h0]
  simp[List.findIdx?_cons]
 ·rw[updL_other _ _ e]
  cases k with
  | string b =>
    have hne:¬ keyP s d.st=b:=fun e'=>e (by rw[e'])
    simp only[keyF,findP,List.findIdx?_append]
    simp[List.findIdx?_cons,hne]
  | _=>rfl
def NdG (W:World) (u:Value):Prop:=(∀ x,u≠.string x)∧(∀ a n c,u≠.slice a n c)∧∀ p,u=.pointer (some ⟨p,0,none⟩)→Ty W p 140
theorem NdG.frm {W V:World} {F:List Nat} {u:Value} (h:NdG W u) (hf:Frm F W V) (hn:∀ p,Ty W p 140→p∉F):NdG V u:=⟨h.1,h.2.1,fun p e=>(h.2.2 p e).frm hf (hn p (h.2.2 p e))⟩
structure SpR (w:World) (s:SesD) (yb:Nat) (lim:Int) (whole:Bool) (qb mb:Nat) (N:List (Nd × Nat)) (W:World):Prop where
 fr:Frm [] w W
 lq:w.heap.size≤qb
 lm:w.heap.size≤mb
 bx:∃ ao cap,W.heap[qb]?=some (.cells #[.int .i64 lim,.bool whole,.slice ao N.length cap,.map (some mb)] 115 (0,0))∧W.ownsRow w.heap.size 117 7 (.slice ao N.length cap) N.length (ndC N)∧RowG (NdG W) 117 (.slice ao N.length cap) W
 mp:MapAt Tryz.prog 9 W (some mb) N.length (keyF s (N.map Prod.fst)) N.length
 st:∀ d∈N,StR W s yb d.2 d.1.st
structure SpO (W:World) (s:SesD) (yb:Nat) (whole:Bool) (pb:Nat) (N:List (Nd × Nat)):Prop where
 out:∃ qb mb lim ao cap,W.heap[pb]?=some (.cells #[.pointer (some ⟨qb,0,none⟩)] 121 (0,0))∧W.heap[qb]?=some (.cells #[.int .i64 lim,.bool whole,.slice ao N.length cap,.map (some mb)] 115 (0,0)) ∧
  Arr 7 NdAt W (.slice ao N.length cap) N∧MapAt Tryz.prog 9 W (some mb) N.length (keyF s (N.map Prod.fst)) N.length
 st:∀ d∈N,StR W s yb d.2 d.1.st
def RowOf (W:World) (qb k:Nat):Prop:=∃ a b v m,W.heap[qb]?=some (.cells #[a,b,v,m] 115 (0,0))∧v.ownBlock=some k
def SpB (W:World) (qb b:Nat):Prop:=FgB W b∧((∃ es c,W.heap[b]?=some (.map es c))∨Ty W b 115∨(Ty W b 117∧RowOf W qb b))
theorem cell_map {W:World} {b o:Nat} {es:Array MapEntry} {c:Nat} (h:W.heap[b]?=some (.map es c)):W.cell? ⟨b,o,none⟩=none:=by simp[World.cell?,h]
section
variable {w W V:World} {s:SesD} {yb qb mb pb:Nat} {lim:Int} {whole:Bool} {N:List (Nd × Nat)}
theorem SpR.frm (h:SpR w s yb lim whole qb mb N W) (hf:Frm [] W V):SpR w s yb lim whole qb mb N V:=by
 obtain⟨ao,cap,h1,h2,h3⟩:=h.bx
 refine⟨h.fr.trans hf,h.lq,h.lm,⟨ao,cap,hf.at h1 (by simp),hf.owns h2 (by simp),fun g cur hg hc u hu=>?_⟩,h.mp.frm hf (by simp),fun d hd=>(h.st d hd).frm hf⟩
 obtain⟨c,hc'⟩:=ownBlock_type h2 hg
 have:=hf.at hc' (by simp)
 rw[this] at hc
 cases hc
 exact(h3 g _ hg hc' u hu).frm hf (by simp)
theorem SpO.frm (h:SpO W s yb whole pb N) (hf:Frm [] W V):SpO V s yb whole pb N:=by
 obtain⟨qb,mb,lim,ao,cap,h1,h2,h3,h4⟩:=h.out
 exact⟨⟨qb,mb,lim,ao,cap,hf.at h1 (by simp),hf.at h2 (by simp),h3.frm fun _ _ _ h=>h.frm hf,h4.frm hf (by simp)⟩,fun d hd=>(h.st d hd).frm hf⟩
theorem SpR.done (h:SpR w s yb lim whole qb mb N W) (hp:W.heap[pb]?=some (.cells #[.pointer (some ⟨qb,0,none⟩)] 121 (0,0))):SpO W s yb whole pb N:=by
 obtain⟨ao,cap,h1,h2,h3⟩:=h.bx
 exact⟨⟨qb,mb,lim,ao,cap,hp,h1,nd_arr h2,h.mp⟩,h.st⟩
theorem SpR.fgm (h:SpR w s yb lim whole qb mb N W):SpB W qb mb:=by
 obtain⟨es,c,hb⟩:=h.mp.block rfl
 exact⟨⟨fun C t e=>(by rw[hb] at e;cases e),fun o x e=>(by rw[cell_map hb] at e;cases e),fun o p e=>(by rw[cell_map hb] at e;cases e),fun o g o' p n c e=>(by rw[cell_map hb] at e;cases e)⟩,.inl ⟨_,_,hb⟩⟩
theorem SpR.fgq (h:SpR w s yb lim whole qb mb N W):SpB W qb qb:=by
 obtain⟨ao,cap,h1,h2,h3⟩:=h.bx
 have c:=fun o=>cell_of h1 o
 refine⟨⟨fun C t e=>?_,fun o x e=>?_,fun o p e=>?_,fun o g o' p n c' e e2=>?_⟩,.inr (.inl ⟨_,h1⟩)⟩
 ·rw[h1] at e;cases e;decide
 ·rw[c] at e
  match o,e with
  | 0,e=>cases e
  | 1,e=>cases e
  | 2,e=>cases e
  | 3,e=>cases e
  | o + 4,e=>simp at e
 ·rw[c] at e
  match o,e with
  | 0,e=>cases e
  | 1,e=>cases e
  | 2,e=>cases e
  | 3,e=>cases e
  | o + 4,e=>simp at e
 ·rw[c] at e
  match o,e with
  | 0,e=>cases e
  | 1,e=>cases e
  | 2,e =>
    cases e
    obtain⟨cu,hcu⟩:=ownBlock_type h2 rfl
    have hu:∃ u∈cu,u=Value.pointer (some ⟨p,0,none⟩):=by
     rw[cell_of hcu] at e2
     exact⟨_,Array.mem_of_getElem? e2,rfl⟩
    obtain⟨u,hu,rfl⟩:=hu
    obtain⟨d,hd⟩:=(h3 g _ rfl hcu _ hu).2.2 p rfl
    intro C t e3
    rw[hd] at e3;cases e3
    decide
  | 3,e=>cases e
  | o + 4,e=>simp at e
theorem SpR.fgr {ao:Option Addr} {cap g:Nat} (h1:W.heap[qb]?=some (.cells #[.int .i64 lim,.bool whole,.slice ao N.length cap,.map (some mb)] 115 (0,0))) (h2:W.ownsRow w.heap.size 117 7 (.slice ao N.length cap) N.length (ndC N)) (h3:RowG (NdG W) 117 (.slice ao N.length cap) W) (hg:(Value.slice ao N.length cap).ownBlock=some g):SpB W qb g:=by
 obtain⟨cu,hcu⟩:=ownBlock_type h2 hg
 have k:∀ o u,W.cell? ⟨g,o,none⟩=some u→NdG W u:=fun o u e=>by
  rw[cell_of hcu] at e
  exact h3 g _ hg hcu u (Array.mem_of_getElem? e)
 refine⟨⟨fun C t e=>?_,fun o x e=>(k o _ e).1 x rfl,fun o p e C t e2=>?_,fun o g o' p n c e=>absurd rfl ((k o _ e).2.1 _ _ _)⟩,.inr (.inr ⟨⟨_,hcu⟩,_,_,_,_,h1,hg⟩)⟩
 ·rw[hcu] at e;cases e;decide
 ·obtain⟨D,hD⟩:=(k o _ e).2.2 p rfl
  rw[hD] at e2;cases e2
  exact⟨by decide,by decide⟩
theorem SpB.at {F:List Nat} (hb:∀ b∈F,SpB W qb b) (hf:Frm F W V) {k:Nat} {C:Array Value} {t:TypeId} (hk:W.heap[k]?=some (.cells C t (0,0))) (h1:t≠115) (h2:t≠117∨¬ RowOf W qb k):V.heap[k]?=some (.cells C t (0,0)):=
 hf.at hk fun hm=>by
  rcases (hb k hm).2 with ⟨es,c,e⟩ | ⟨D,e⟩ | ⟨⟨D,e⟩,e2⟩ <;> rw[hk] at e <;> cases e
  ·exact h1 rfl
  ·rcases h2 with h2 | h2
   ·exact h2 rfl
   ·exact h2 e2
theorem SpB.fg {F:List Nat} (hb:∀ b∈F,SpB W qb b):∀ b∈F,FgB W b:=fun b hm=>(hb b hm).1
theorem SpR.spB {ao:Option Addr} {cap:Nat} (h:SpR w s yb lim whole qb mb N W) (b1:W.heap[qb]?=some (.cells #[.int .i64 lim,.bool whole,.slice ao N.length cap,.map (some mb)] 115 (0,0))) (b2:W.ownsRow w.heap.size 117 7 (.slice ao N.length cap) N.length (ndC N)) (b3:RowG (NdG W) 117 (.slice ao N.length cap) W):∀ b∈mb :: qb :: (Value.slice ao N.length cap).ownBlock.toList,SpB W qb b:=fun b hb=>by
 rcases List.mem_cons.1 hb with rfl | hb
 ·exact h.fgm
 rcases List.mem_cons.1 hb with rfl | hb
 ·exact h.fgq
 rw[Option.mem_toList] at hb
 exact SpR.fgr b1 b2 b3 hb
theorem SpR.add {W1 W2 W3:World} {d:Nd} {sb:Nat} {ao:Option Addr} {cap:Nat} {v':Value} (h:SpR w s yb lim whole qb mb N W) (hs:0 < s.roles.length) (hd:StR W s yb sb d.st) (hk:hasK s (N.map Prod.fst) (keyP s d.st)=false)
  (b1:W.heap[qb]?=some (.cells #[.int .i64 lim,.bool whole,.slice ao N.length cap,.map (some mb)] 115 (0,0))) (b2:W.ownsRow w.heap.size 117 7 (.slice ao N.length cap) N.length (ndC N)) (b3:RowG (NdG W) 117 (.slice ao N.length cap) W)
  (hm:MapAt Tryz.prog 9 W1 (some mb) (N.length + 1) (updL (keyF s (N.map Prod.fst)) (.string (keyP s d.st)) (some (.int .i64 (N.length:Nat)))) (N.length + 1)) (f1:Frm [mb] W W1) (f2:Frm [] W1 W2)
  (hg:W2.grownBy W3 (Value.slice ao N.length cap).ownBlock) (ho:W3.ownsRow w.heap.size 117 7 v' (N.length + 1) (ndC N ++ ndC1 (d,sb))) (hG:RowG (NdG W2) 117 v' W3) :
  SpR w s yb lim whole qb mb (N ++ [(d,sb)]) (W3.setCell ⟨qb,2,none⟩ v')∧Frm (mb :: qb :: (Value.slice ao N.length cap).ownBlock.toList) W (W3.setCell ⟨qb,2,none⟩ v')∧(W3.setCell ⟨qb,2,none⟩ v').heap[qb]?=some (.cells #[.int .i64 lim,.bool whole,v',.map (some mb)] 115 (0,0)):=by
 obtain⟨F,hF⟩:∃ F,F=mb :: qb :: (Value.slice ao N.length cap).ownBlock.toList:=⟨_,rfl⟩
 have hB:∀ b∈F,SpB W qb b:=fun b hb=>h.spB b1 b2 b3 b (by rwa [hF] at hb)
 obtain⟨es,c,hmb⟩:=h.mp.block rfl
 have hne:qb≠mb:=fun e=>by subst e;rw[b1] at hmb;cases hmb
 have hrq:(Value.slice ao N.length cap).ownBlock≠some qb:=fun e=>by
  obtain⟨c,hc⟩:=ownBlock_type b2 e
  rw[b1] at hc;cases hc
 have g1:W2.heap[qb]?=some (.cells #[.int .i64 lim,.bool whole,.slice ao N.length cap,.map (some mb)] 115 (0,0)):=f2.at (f1.at b1 (by simpa using hne)) (by simp)
 have g2:=grown_at hg g1 hrq
 have hv:v'.ownBlock≠some qb:=fun e=>by
  obtain⟨c,hc⟩:=ownBlock_type ho e
  rw[g2] at hc;cases hc
 obtain⟨ao',cap',rfl⟩:=own_shape ho
 obtain⟨W4,hW4⟩:∃ W4,W3.setCell ⟨qb,2,none⟩ (.slice ao' (N.length + 1) cap')=W4:=⟨_,rfl⟩
 have f3:Frm F W W3:=((f1.mono (F':=F) (by rw[hF];simp)).then f2 (by simp)).grown hg fun k hk=>.inl (by rw[hF];simp[hk])
 have f4:Frm F W W4:=by rw[← hW4];exact f3.setCell _ (.inl (by rw[hF];simp)) _
 have hfg:=SpB.fg hB
 have hps:∀ {X:World},Frm F W X→∀ p,Ty W p 140→Ty X p 140:=fun hf p hp=>hp.frm hf fun hm=>by
  obtain⟨D,hD⟩:=hp
  exact FgB.ne hfg hD (by simp[sysT]) hm
 have f34:Frm [qb] W3 W4:=by rw[← hW4];exact(Frm.refl _ _).setCell _ (.inl (by simp)) _
 have g4:W4.heap[qb]?=some (.cells #[.int .i64 lim,.bool whole,.slice ao' (N.length + 1) cap',.map (some mb)] 115 (0,0)):=by rw[← hW4];exact(block_setCell g2 2 _).trans rfl
 have hlen:(N ++ [(d,sb)]).length=N.length + 1:=by simp
 have f2w:Frm F W W2:=(f1.mono (F':=F) (by rw[hF];simp)).then f2 (by simp)
 have hfr0:Frm [] w W4:=h.fr.then f4 fun x hx=>.inr (by
  rw[hF] at hx
  rcases List.mem_cons.1 hx with rfl | hx
  ·exact h.lm
  rcases List.mem_cons.1 hx with rfl | hx
  ·exact h.lq
  rw[Option.mem_toList] at hx
  exact ownBlock_ge b2 hx)
 rw[hW4]
 refine⟨⟨hfr0,h.lq,h.lm,⟨ao',cap',?_,?_,?_⟩,?_,fun e he=>?_⟩,by rw[← hF];exact f4,g4⟩
 ·rw[hlen];exact g4
 ·rw[hlen,ndC_append,ndC_one];exact f34.owns ho (by intro k hk hm;simp at hm;subst hm;exact hv hk)
 ·rw[hlen]
  intro g cur hgk hc u hu
  have hgq:g≠qb:=fun e=>hv (by rw[← e];exact hgk)
  obtain⟨cu,hcu⟩:=ownBlock_type ho hgk
  have hcu4:=f34.at hcu (by simpa using hgq)
  rw[hcu4] at hc
  cases hc
  have hu':=hG g _ hgk hcu u hu
  refine⟨hu'.1,hu'.2.1,fun p e=>?_⟩
  have h2:=hu'.2.2 p e
  by_cases hp:p < W.heap.size
  ·have:Ty W p 140:=by
    obtain⟨D,hD⟩:=h2
    by_cases hpm:p∈F
    ·exfalso
     have hD3:=hD
     rcases (hB p hpm).2 with ⟨es,c,e⟩ | ⟨D',e⟩ | ⟨⟨D',e⟩,-⟩
     ·have hpmb:p=mb:=by
       rw[hF] at hpm
       rcases List.mem_cons.1 hpm with rfl | hpm
       ·rfl
       rcases List.mem_cons.1 hpm with rfl | hpm
       ·rw[b1] at e;cases e
       rw[Option.mem_toList] at hpm
       obtain⟨c,hc⟩:=ownBlock_type b2 hpm
       rw[hc] at e;cases e
      subst hpmb
      obtain⟨es',c',e'⟩:=(hm.frm f2 (by simp)).block rfl
      rw[e'] at hD3;cases hD3
     ·have hpq:p≠mb:=fun e'=>by subst e';rw[hmb] at e;cases e
      rw[f2.at (f1.at e (by simpa using hpq)) (by simp)] at hD3
      cases hD3
     ·have hpq:p≠mb:=fun e'=>by subst e';rw[hmb] at e;cases e
      rw[f2.at (f1.at e (by simpa using hpq)) (by simp)] at hD3
      cases hD3
    ·have:=f2w.block p hp hpm
     rw[this] at hD
     exact⟨D,hD⟩
   exact hps f4 p this
  ·obtain⟨D,hD⟩:=h2
   have hpr:(Value.slice ao N.length cap).ownBlock≠some p:=fun e=>by
    have:=ownBlock_lt b2 e;omega
   have hD3:=grown_at hg hD hpr
   have hpq:p≠qb:=fun e=>by subst e;rw[g2] at hD3;cases hD3
   exact⟨D,f34.at hD3 (by simpa using hpq)⟩
 ·rw[hlen,List.map_append,List.map_cons,List.map_nil,keyF_snoc hk,List.length_map]
  refine hm.frm (F:=qb :: (Value.slice ao N.length cap).ownBlock.toList) ?_ ?_
  ·rw[← hW4]
   exact((f2.mono (F':=qb :: (Value.slice ao N.length cap).ownBlock.toList) (by simp)).grown hg fun k hk=>.inl (by simp[hk])).setCell _ (.inl (by simp)) _
  ·intro b hb hm'
   cases hb
   rcases List.mem_cons.1 hm' with e | hm'
   ·exact hne e.symm
   ·rw[Option.mem_toList] at hm'
    obtain⟨c,hc⟩:=ownBlock_type b2 hm'
    rw[hmb] at hc;cases hc
 ·rcases List.mem_append.1 he with he | he
  ·exact(h.st e he).fg hs hfg f4
  ·rw[List.mem_singleton] at he;subst he
   exact hd.fg hs hfg f4
end
end Go.Proofs.YtemjlpahohmajaaGreat
namespace Go.Proofs.YtemjlpahohmajaaGreat
open Go.RowKit Go.BigFrame Go.Maps
abbrev ndZ:Value:=.agg #[.pointer none,.int .i64 0,.int .i64 0,.int .i64 0,.int .i64 0,.int .i64 0,.int .i64 0]
section
variable {W V:World} {s:SesD} {yb pb:Nat} {whole:Bool} {N:List (Nd × Nat)} {po:Option Addr}
theorem xNone_any (h:SpO W s yb whole pb N):Calls Tryz.prog 51 #[.pointer (some ⟨pb,0,none⟩)] W (Ret (.bool false) (W=·)):=by
 obtain⟨qb,mb,lim,ao,cap,h1,-⟩:=h.out
 have c0:=cell_of h1 0
 clear h1 h
 go_enter Tryz.func51,Tryz.ntmps51
 go_wp2
 go_ret
 exact⟨rfl,rfl⟩
set_option maxRecDepth 100000 in
theorem xLen_any (h:SpO W s yb whole pb N):Calls Tryz.prog 14 #[.pointer (some ⟨pb,0,none⟩)] W (Ret (.int .i64 (N.length:Nat)) (Frm [] W)):=by
 have C1:=Lib.hid (xNone_any h)
 obtain⟨qb,mb,lim,ao,cap,h1,h2,-⟩:=h.out
 have c0:=cell_of h1 0
 have c2:=cell_of h2 2
 clear h1 h2 h
 go_enter Tryz.func14,Tryz.ntmps14
 go_wp2_with (first
  | (go_at_call 51;go_must (refine C1.out.mono ?_;rintro e w' ⟨rfl,rfl⟩)))
 go_ret
 exact⟨rfl,Frm.refl _ _⟩
set_option maxRecDepth 100000 in
theorem xWhole_any (h:SpO W s yb whole pb N):Calls Tryz.prog 15 #[.pointer (some ⟨pb,0,none⟩)] W (Ret (.bool whole) (Frm [] W)):=by
 have C1:=Lib.hid (xNone_any h)
 obtain⟨qb,mb,lim,ao,cap,h1,h2,-⟩:=h.out
 have c0:=cell_of h1 0
 have c1:=cell_of h2 1
 clear h1 h2 h
 go_enter Tryz.func15,Tryz.ntmps15
 go_wp2_with (first
  | (go_at_call 51;go_must (refine C1.out.mono ?_;rintro e w' ⟨rfl,rfl⟩)))
 go_ret
 exact⟨rfl,Frm.refl _ _⟩
theorem one_nd (p:Option Addr) (a b c d e f:Int):(#[.pointer p,.int .i64 a,.int .i64 b,.int .i64 c,.int .i64 d,.int .i64 e,.int .i64 f]:Array Value).all (·.oneCell')=true:=by
 rw[← Array.all_toList];rfl
theorem Tryz.infoNode:(Tryz.prog.info? 117).map (·.size)=some 7:=by kernel_rfl
set_option maxRecDepth 100000 in
theorem xNode_in (h:SpO W s yb whole pb N) {i:Nat} {d:Nd × Nat} (hd:N[i]?=some d) (h5:N.length≤1000000):Calls Tryz.prog 52 #[.pointer (some ⟨pb,0,none⟩),.int .i64 i] W (Ret (.tuple #[ndV d,.int .i64 0]) (Frm [] W)):=by
 have C1:Hid (∀ V,Frm [] W V→Calls Tryz.prog 51 #[.pointer (some ⟨pb,0,none⟩)] V (Ret (.bool false) (V=·))):=Lib.hid fun V hV=>xNone_any (h.frm hV)
 obtain⟨qb,mb,lim,ao,cap,h1,h2,h3,-⟩:=h.out
 obtain⟨b,o,rfl,hn⟩:=h3.get hd
 have hl:=lt_of_some hd
 have hl':(i:Int) < (N.length:Int):=by omega
 have hge:decide ((N.length:Int)≤(i:Int))=false:=decide_eq_false (by omega)
 have c0:=cell_of h1 0
 have c2:=cell_of h2 2
 have f0:=(Frm.refl [] W).alloc (.cells #[.pointer none,.int .i64 0,.int .i64 0,.int .i64 0,.int .i64 0,.int .i64 0,.int .i64 0] 117)
 have HA:=Lib.hid (heap_alloc_new W (.cells #[.pointer none,.int .i64 0,.int .i64 0,.int .i64 0,.int .i64 0,.int .i64 0,.int .i64 0] 117))
 obtain⟨W0,hW0⟩:∃ W0,W.alloc (.cells #[.pointer none,.int .i64 0,.int .i64 0,.int .i64 0,.int .i64 0,.int .i64 0,.int .i64 0] 117)=W0:=⟨_,rfl⟩
 rw[hW0] at f0 HA
 have C2:=Lib.hid (C1.out _ f0)
 have d0:W0.cell? ⟨pb,0,none⟩=some (.pointer (some ⟨qb,0,none⟩)):=f0.keep c0
 have d2:W0.cell? ⟨qb,2,none⟩=some (.slice (some ⟨b,o,none⟩) N.length cap):=f0.keep c2
 obtain⟨n0,n1,n2,n3,n4,n5,n6⟩:=hn.frm f0
 have HE:=Lib.hid hW0;have HF0:=Lib.hid f0
 clear h1 h2 h3 h hd c0 c2 C1 f0 hW0
 go_enter Tryz.func52,Tryz.ntmps52
 go_upto_region 1 with fail
 rw[HE.out]
 go_upto_region 5 with (first
  | (go_at_call 51;go_must (refine C2.out.mono ?_;rintro e w' ⟨rfl,rfl⟩)))
 go_wp2_with (first
  | (refine wpList_store_row rfl 117 _ _ rfl _ _ _ 117 rfl rfl HA.out rfl Tryz.infoNode (one_nd _ _ _ _ _ _ _) ?_;intro w2 hb2 hf2;have HB2:=Lib.hid hb2;have HF2:=Lib.hid hf2;clear hb2 hf2 n0 n1 n2 n3 n4 n5 n6;have r0:=cell_of HB2.out 0;have r1:=cell_of HB2.out 1;have r2:=cell_of HB2.out 2;have r3:=cell_of HB2.out 3;have r4:=cell_of HB2.out 4;have r5:=cell_of HB2.out 5;have r6:=cell_of HB2.out 6))
 refine bodyPost_ret (v:=.tuple #[ndV d,.int .i64 0]) (by simp[results,Tryz.results52,go_sem,r0,r1,r2,r3,r4,r5,r6]) rfl ?_
 exact⟨rfl,HF0.out.then HF2.out (by intro k hk;simp at hk;subst hk;exact .inr (Nat.le_refl _))⟩
set_option maxRecDepth 100000 in
theorem xNode_out (h:SpO W s yb whole pb N) {n:Int} (hn:n < 0∨(N.length:Int)≤n):Calls Tryz.prog 52 #[.pointer (some ⟨pb,0,none⟩),.int .i64 n] W (Ret (.tuple #[ndZ,.int .i64 3]) (Frm [] W)):=by
 obtain⟨W0,hW0⟩:∃ W0,W.alloc (.cells #[.pointer none,.int .i64 0,.int .i64 0,.int .i64 0,.int .i64 0,.int .i64 0,.int .i64 0] 117)=W0:=⟨_,rfl⟩
 have f0:Frm [] W W0:=by rw[← hW0];exact(Frm.refl [] W).alloc _
 have HA:Hid (W0.heap[W.heap.size]?=some (.cells #[.pointer none,.int .i64 0,.int .i64 0,.int .i64 0,.int .i64 0,.int .i64 0,.int .i64 0] 117 (0,0))):=Lib.hid (by rw[← hW0];exact heap_alloc_new W _)
 have HE:=Lib.hid hW0;have HF0:=Lib.hid f0
 have C2:=Lib.hid (xNone_any (h.frm f0))
 obtain⟨qb,mb,lim,ao,cap,h1,h2,h3,-⟩:=h.out
 have d0:W0.cell? ⟨pb,0,none⟩=some (.pointer (some ⟨qb,0,none⟩)):=f0.keep (cell_of h1 0)
 have d2:W0.cell? ⟨qb,2,none⟩=some (.slice ao N.length cap):=f0.keep (cell_of h2 2)
 have HN:=Lib.hid hn
 clear h1 h2 h3 h f0 hW0 hn
 go_enter Tryz.func52,Tryz.ntmps52
 go_upto_region 1 with fail
 rw[HE.out]
 by_cases hn:n < 0
 ·go_wp2_with (first
   | (go_at_call 51;go_must (refine C2.out.mono ?_;rintro e w' ⟨rfl,rfl⟩))
   | (refine wpList_store_row rfl 117 _ _ rfl _ _ _ 117 rfl rfl HA.out rfl Tryz.infoNode (one_nd _ _ _ _ _ _ _) ?_;intro w2 hb2 hf2;have HB2:=Lib.hid hb2;have HF2:=Lib.hid hf2;clear hb2 hf2;have r0:=cell_of HB2.out 0;have r1:=cell_of HB2.out 1;have r2:=cell_of HB2.out 2;have r3:=cell_of HB2.out 3;have r4:=cell_of HB2.out 4;have r5:=cell_of HB2.out 5;have r6:=cell_of HB2.out 6))
  refine bodyPost_ret (v:=.tuple #[ndZ,.int .i64 3]) (by simp[results,Tryz.results52,go_sem,r0,r1,r2,r3,r4,r5,r6]) rfl ?_
  exact⟨rfl,HF0.out.then HF2.out (by intro k hk;simp at hk;subst hk;exact .inr (Nat.le_refl _))⟩
 ·have hn2:(N.length:Int)≤n:=HN.out.resolve_left hn
  go_wp2_with (first
   | (go_at_call 51;go_must (refine C2.out.mono ?_;rintro e w' ⟨rfl,rfl⟩))
   | (refine wpList_store_row rfl 117 _ _ rfl _ _ _ 117 rfl rfl HA.out rfl Tryz.infoNode (one_nd _ _ _ _ _ _ _) ?_;intro w2 hb2 hf2;have HB2:=Lib.hid hb2;have HF2:=Lib.hid hf2;clear hb2 hf2;have r0:=cell_of HB2.out 0;have r1:=cell_of HB2.out 1;have r2:=cell_of HB2.out 2;have r3:=cell_of HB2.out 3;have r4:=cell_of HB2.out 4;have r5:=cell_of HB2.out 5;have r6:=cell_of HB2.out 6))
  refine bodyPost_ret (v:=.tuple #[ndZ,.int .i64 3]) (by simp[results,Tryz.results52,go_sem,r0,r1,r2,r3,r4,r5,r6]) rfl ?_
  exact⟨rfl,HF0.out.then HF2.out (by intro k hk;simp at hk;subst hk;exact .inr (Nat.le_refl _))⟩
theorem xState_of {po:Option Addr} {n e:Int} {p:Option Addr} {a1 a2 a3 a4 a5 a6:Int} (hc:Calls Tryz.prog 52 #[.pointer po,.int .i64 n] W (Ret (.tuple #[.agg #[.pointer p,.int .i64 a1,.int .i64 a2,.int .i64 a3,.int .i64 a4,.int .i64 a5,.int .i64 a6],.int .i64 e]) (Frm [] W))) :
  Calls Tryz.prog 18 #[.pointer po,.int .i64 n] W (Ret (.tuple #[.pointer p,.int .i64 e]) (Frm [] W)):=by
 have HC:=Lib.hid hc
 clear hc
 go_enter Tryz.func18,Tryz.ntmps18
 go_wp2_with (first
  | (go_at_call 52;go_must (refine HC.out.mono ?_;rintro e w1 ⟨rfl,hf⟩;have HF:=Lib.hid hf;clear hf)))
 go_ret2
 exact⟨rfl,HF.out.alloc _⟩
theorem xLevel_of {po:Option Addr} {n e:Int} {p:Option Addr} {a1 a2 a3 a4 a5 a6:Int} (hc:Calls Tryz.prog 52 #[.pointer po,.int .i64 n] W (Ret (.tuple #[.agg #[.pointer p,.int .i64 a1,.int .i64 a2,.int .i64 a3,.int .i64 a4,.int .i64 a5,.int .i64 a6],.int .i64 e]) (Frm [] W))) :
  Calls Tryz.prog 19 #[.pointer po,.int .i64 n] W (Ret (.tuple #[.int .i64 a6,.int .i64 e]) (Frm [] W)):=by
 have HC:=Lib.hid hc
 clear hc
 go_enter Tryz.func19,Tryz.ntmps19
 go_wp2_with (first
  | (go_at_call 52;go_must (refine HC.out.mono ?_;rintro e w1 ⟨rfl,hf⟩;have HF:=Lib.hid hf;clear hf)))
 go_ret2
 exact⟨rfl,HF.out.alloc _⟩
theorem xDepth_of {po:Option Addr} {n l e:Int} (h1:Calls Tryz.prog 14 #[.pointer po] W (Ret (.int .i64 n) (Frm [] W))) (h2:∀ V,Frm [] W V→Calls Tryz.prog 19 #[.pointer po,.int .i64 (n - 1)] V (Ret (.tuple #[.int .i64 l,.int .i64 e]) (Frm [] V))) (hn:0≤n∧n≤1000000) :
  Calls Tryz.prog 16 #[.pointer po] W (Ret (.int .i64 l) (Frm [] W)):=by
 have C1:=Lib.hid h1
 have C2:=Lib.hid h2
 have hw:IntKind.i64.wrap (n - 1)=n - 1:=by rw[IntKind.wrap_i64];omega
 clear h1 h2
 go_enter Tryz.func16,Tryz.ntmps16
 go_wp2_with (first
  | (go_at_call 14;go_must (refine C1.out.mono ?_;rintro e w1 ⟨rfl,hf⟩;have HF:=Lib.hid hf;clear hf))
  | (go_at_call 19;go_must (refine(C2.out _ HF.out).mono ?_;rintro e w2 ⟨rfl,hf2⟩;have HF2:=Lib.hid hf2;clear hf2)))
 go_ret
 exact⟨rfl,HF.out.trans HF2.out⟩
theorem Tryz.zeroInt (w:World):(zeroValue 3).run Tryz.prog w=.ok (.int .i64 0) w:=
 (zero_of_info (show (Tryz.prog.info? 3).map (fun i=>(i.zero,i.size))=some (some (.int .i64 0),1) by kernel_rfl)).1 w
theorem Tryz.keyedS:Keyed Tryz.prog 9:=string_keyed Tryz.underlying9
theorem keyF_get (s:SesD) (N:List Nd) (k:List UInt8):(keyF s N (.string k)).getD (.int .i64 0)=.int .i64 ((findP s N k).getD 0:Nat)∧(keyF s N (.string k)).isSome=(findP s N k).isSome:=by
 have e:keyF s N (.string k)=(findP s N k).map fun i=>.int .i64 (i:Nat):=rfl
 rw[e]
 cases findP s N k <;> exact⟨rfl,rfl⟩
theorem SpO.look {W V:World} {mb:Nat} {n:Nat} (h4:MapAt Tryz.prog 9 W (some mb) n (keyF s (N.map Prod.fst)) n) (hf:Frm [] W V) (k:ByteArray) (hk:k.size≤maxLen) :
  (Instr.lookup 112 (.map (some mb)) (.string k) true).run Tryz.prog V=.ok (.tuple #[.int .i64 ((findP s (N.map Prod.fst) k.data.toList).getD 0:Nat),.bool (findP s (N.map Prod.fst) k.data.toList).isSome]) V:=by
 have h:=(h4.frm hf (by simp)).look_ok Tryz.keyedS Tryz.underlying112 (Tryz.zeroInt V) (WideMaps.keyOf_string_mk Tryz.underlying9 hk)
 obtain⟨e1,e2⟩:=keyF_get s (N.map Prod.fst) k.data.toList
 rw[e1,e2] at h
 exact h
def fndV (s:SesD) (N:List Nd) (k:List UInt8):Value:=match findP s N k with | some i=>.tuple #[.int .i64 (i:Nat),.int .i64 0] | none=>.tuple #[.int .i64 0,.int .i64 9]
set_option maxRecDepth 100000 in
theorem xFind_any (h:SpO W s yb whole pb N) (k:ByteArray) (hk:k.size≤maxLen):Calls Tryz.prog 21 #[.pointer (some ⟨pb,0,none⟩),.string k] W (Ret (fndV s (N.map Prod.fst) k.data.toList) (Frm [] W)):=by
 have C1:=Lib.hid (xNone_any h)
 obtain⟨qb,mb,lim,ao,cap,h1,h2,h3,h4⟩:=h.out
 have c0:=cell_of h1 0
 have c3:=cell_of h2 3
 have hl:=fun V hV=>SpO.look h4 hV k hk (V:=V)
 have hl0:=hl W (Frm.refl _ _)
 unfold fndV
 cases hf:findP s (N.map Prod.fst) k.data.toList with
 | some i =>
   rw[hf] at hl0
   clear h1 h2 h3 h4 h hl hf
   go_enter Tryz.func21,Tryz.ntmps21
   go_wp2_with (first
    | (go_at_call 51;go_must (refine C1.out.mono ?_;rintro e w' ⟨rfl,rfl⟩)))
   go_ret2
   exact⟨rfl,Frm.refl _ _⟩
 | none =>
   rw[hf] at hl0
   clear h1 h2 h3 h4 h hl hf
   go_enter Tryz.func21,Tryz.ntmps21
   go_wp2_with (first
    | (go_at_call 51;go_must (refine C1.out.mono ?_;rintro e w' ⟨rfl,rfl⟩)))
   go_ret2
   exact⟨rfl,Frm.refl _ _⟩
end
end Go.Proofs.YtemjlpahohmajaaGreat
namespace Go.Proofs.YtemjlpahohmajaaGreat
open Go.RowKit Go.BigFrame
section
variable {P:Program}
theorem run_append_pre (w:World) (t ty e:TypeId) (i:TypeInfo) (z:Value) (size bytes:Nat) (ht:P.underlying t=some (.slice e)) (hi:P.info? e=some i) (hz:i.zero=some z)
  (hsize:i.size=size) (hby:i.bytes=bytes) (hzs:z.cells.size=size) (g n cap:Nat) (cur:Array Value) (hg:w.heap[g]?=some (.cells cur e (0,0))) (hc:cur.size=cap * size) (hcm:cap≤maxLen) (hnc:n≤cap)
  (a:Addr) (m c:Nat) (news:List Value) (hl:news.length=m * size) (hnews:∀ (j:Nat) u,news[j]?=some u→w.cell? (a.add j)=some u) (h1:∀ u∈news,u.oneCell'=true)
  (h63:n + m≤maxLen) (hbytes:(n + m) * bytes≤140737488355328) :
  ∃ v' w',(Builtin.append_ #[t,t] ty #[.slice (some ⟨g,0,none⟩) n cap,.slice (some a) m c]).run P w=.ok v' w' ∧
    ((n + m≤cap∧v'=.slice (some ⟨g,0,none⟩) (n + m) cap∧Frm [g] w w'∧w'.heap[g]?=some (.cells (cur.toList.take (n * size) ++ news ++ cur.toList.drop (n * size + news.length)).toArray e (0,0))) ∨
     (∃ cap',n + m≤cap'∧cap'≤maxLen∧v'=.slice (some ⟨w.heap.size,0,none⟩) (n + m) cap'∧Frm [] w w'∧w'.heap[w.heap.size]?=some (.cells ((cur.toList.take (n * size)).toArray ++ news.toArray ++ Builtin.zeroCells z.cells (cap' - (n + m))) e (0,0)))):=by
 subst hsize
 subst hby
 have hsmall:n + m≤9223372036854775807:=by simp only[maxLen] at h63;omega
 have hnl:(cur.toList.take (n * i.size)).length=n * i.size:=by
  rw[List.length_take,Array.length_toList,hc]
  exact Nat.min_eq_left (Nat.mul_le_mul_right _ hnc)
 by_cases hroom:n + m≤cap
 ·have hfit:n * i.size + news.length≤cur.size:=by rw[hl,hc,← Nat.add_mul];exact Nat.mul_le_mul_right _ hroom
  have hr:=run_append_room (P:=P) w t ty e i ht hi g n cap cur hg a m c news hl hnews h1 hroom hfit
  exact⟨_,_,hr,.inl ⟨hroom,rfl,⟨rfl,rfl,rfl,by simp,fun k hk hn=>setRow_other w g k _ (by simpa using hn)⟩,setRow_heap w g cur _ e _ hg⟩⟩
 ·have holds:∀ j u,(cur.toList.take (n * i.size))[j]?=some u→w.cell? ((⟨g,0,none⟩:Addr).add j)=some u:=fun j u hu=>by
   have hadd:(⟨g,0,none⟩:Addr).add j=⟨g,j,none⟩:=by unfold Addr.add;split <;> simp_all
   rw[hadd,cell_of_row w g j cur e (0,0) hg]
   rw[List.getElem?_take] at hu
   split at hu
   ·simpa using hu
   ·cases hu
  have hr:=run_append_grow (P:=P) w t ty e i z ht hi hz ⟨g,0,none⟩ n cap _ hnl holds a m c news hl hnews (by omega) (by omega) (growslice_fits (by omega) hbytes)
  exact⟨_,_,hr,.inr ⟨_,grownCap_ge ..,grownCap_le_maxLen _ _ _ _ h63,rfl,(Frm.refl [] w).drew.alloc _,heap_alloc_new w.drew _⟩⟩
end
def RowZ (z:Value) (e:TypeId) (base:Nat) (W:World) (v:Value) (xs:List Value):Prop:=
 ∃ g cap cur,v=.slice (some ⟨g,0,none⟩) xs.length cap∧base≤g∧xs.length≤cap∧cap≤maxLen∧W.heap[g]?=some (.cells cur e (0,0))∧cur.size=cap∧cur.toList=xs ++ List.replicate (cap - xs.length) z
section
variable {W V:World} {s:SesD} {z:Value} {e:TypeId} {base:Nat} {v:Value} {xs:List Value}
theorem RowZ.frm {F:List Nat} (h:RowZ z e base W v xs) (hf:Frm F W V) (hn:∀ k,v.ownBlock=some k→k∉F):RowZ z e base V v xs:=by
 obtain⟨g,cap,cur,rfl,h1,h2,h3,h4,h5⟩:=h
 exact⟨g,cap,cur,rfl,h1,h2,h3,hf.at h4 (hn g rfl),h5⟩
theorem RowZ.at (h:RowZ z e base W v xs) {i:Nat} {u:Value} (hu:xs[i]?=some u):∃ g cap,v=.slice (some ⟨g,0,none⟩) xs.length cap∧W.cell? ⟨g,i,none⟩=some u:=by
 obtain⟨g,cap,cur,rfl,h1,h2,h3,h4,h5,h6⟩:=h
 refine⟨g,cap,rfl,?_⟩
 rw[cell_of h4,← Array.getElem?_toList,h6,List.getElem?_append_left (lt_of_some hu)]
 exact hu
structure Gr (z:Value) (e:TypeId) (g:Nat) (xs:List Value) (W V:World):Prop where
 out:∃ cur cur' k,W.heap[g]?=some (.cells cur e (0,0))∧V.heap[g]?=some (.cells cur' e (0,0))∧cur'.size=cur.size∧cur.toList=xs ++ List.replicate (k + 1) z∧∀ j,j < xs.length→cur'[j]?=cur[j]?
 fr:Frm [g] W V
theorem RowZ.append {P:Program} {t ty:TypeId} {i:TypeInfo} {bytes:Nat} (h:RowZ z e base W v xs) (ht:P.underlying t=some (.slice e)) (hi:P.info? e=some i) (hz:i.zero=some z) (hsize:i.size=1) (hby:i.bytes=bytes) (hzs:z.cells=#[z])
  (a:Addr) (c:Nat) (u:Value) (hu:W.cell? (a.add 0)=some u) (h1:u.oneCell'=true) (h63:xs.length + 1≤maxLen) (hbytes:(xs.length + 1) * bytes≤140737488355328) (hb:base≤W.heap.size) :
  ∃ v' V,(Builtin.append_ #[t,t] ty #[v,.slice (some a) 1 c]).run P W=.ok v' V∧RowZ z e base V v' (xs ++ [u])∧(Frm [] W V∨∃ g,v.ownBlock=some g∧v'.ownBlock=some g∧Gr z e g xs W V)∧(v'.ownBlock=v.ownBlock∨v'.ownBlock=some W.heap.size):=by
 obtain⟨g,cap,cur,rfl,q1,q2,q3,q4,q5,q6⟩:=h
 have htk:cur.toList.take (xs.length * 1)=xs:=by rw[Nat.mul_one,q6,List.take_left]
 obtain⟨v',V,hr,hc⟩:=run_append_pre (P:=P) W t ty e i z 1 bytes ht hi hz hsize hby (by rw[hzs];rfl) g xs.length cap cur q4 (by omega) q3 q2 a 1 c [u] rfl (fun j x hx=>by
  match j,hx with
  | 0,hx=>cases hx;exact hu) (fun x hx=>by rw[List.mem_singleton] at hx;subst hx;exact h1) h63 hbytes
 rw[htk] at hc
 refine⟨v',V,hr,?_⟩
 rcases hc with ⟨c1,rfl,c3,c4⟩ | ⟨cap',c1,c2,rfl,c3,c4⟩
 ·obtain⟨k,hk⟩:∃ k,cap - xs.length=k + 1:=⟨cap - xs.length - 1,by omega⟩
  have hnew:(xs ++ [u] ++ cur.toList.drop (xs.length * 1 + [u].length))=xs ++ [u] ++ List.replicate (cap - (xs ++ [u]).length) z:=by
   congr 1
   rw[q6,hk,List.drop_append,List.drop_of_length_le (by simp),List.nil_append,List.drop_replicate]
   congr 1
   simp
   omega
  rw[hnew] at c4
  refine⟨⟨g,cap,_,by rw[List.length_append];rfl,q1,by rw[List.length_append];exact c1,q3,c4,?_,by simp⟩,.inr ⟨g,rfl,rfl,⟨cur,_,k,q4,c4,?_,by rw[← hk];exact q6,fun j hj=>?_⟩,c3⟩,.inl rfl⟩
  ·simp;omega
  ·simp;omega
  ·rw[← Array.getElem?_toList,← Array.getElem?_toList,q6,List.append_assoc]
   show (xs ++ _)[j]?=_
   rw[List.getElem?_append_left hj,List.getElem?_append_left hj]
 ·refine⟨⟨_,cap',_,by rw[List.length_append];rfl,hb,by rw[List.length_append];exact c1,c2,c4,?_,?_⟩,.inl c3,.inr rfl⟩
  ·simp[Builtin.zeroCells,hzs];omega
  ·rw[hzs]
   simp[Builtin.zeroCells]
   refine List.ext_getElem (by simp) fun j h1 h2=>?_
   simp[Nat.mod_one]
end
end Go.Proofs.YtemjlpahohmajaaGreat
namespace Go.Proofs.YtemjlpahohmajaaGreat
open Go.RowKit Go.BigFrame
section
variable {W V:World} {s:SesD} {ba bb bw:Nat} {bi:Nat→Nat} {x:PS} {F:List Nat}
theorem RO.ty (h:RO W s ba bb bw bi x) (hf:Frm F W V) (hn:∀ k∈F,Ty W k 125∨Ty W k 129∨Ty W k 39):RO V s ba bb bw bi x:=by
 have hne:∀ {k:Nat} {t:TypeId},Ty W k t→(t≠125∧t≠129∧t≠39)→k∉F:=fun {k t} h1 h2 hk=>by
  rcases hn k hk with h | h | h
  ·exact h1.ne h h2.1 rfl
  ·exact h1.ne h h2.2.1 rfl
  ·exact h1.ne h h2.2.2 rfl
 have n1:=hne h.ta (by decide)
 have n2:=hne h.tb (by decide)
 have n3:=hne h.tw (by decide)
 refine⟨h.ta.frm hf n1,h.tb.frm hf n2,h.tw.frm hf n3,fun i hi=>(h.ti i hi).frm hf (hne (h.ti i hi) (by decide)),h.inj,fun i hi=>hf.cellAt (h.a i hi) n1,fun i hi=>?_,fun i hi=>?_,fun i k hi hk=>?_⟩
 ·obtain⟨dv,vv,h1,h2,h3,h4⟩:=h.b i hi
  exact⟨dv,vv,hf.cellAt h1 n2,hf.cellAt h2 n2,h3.frm hf (fun k hk e=>hne e (by decide) hk),h4.frm hf (fun k hk=>.inr fun e=>hne e (by decide) hk)⟩
 ·obtain⟨c,h1⟩:=h.w i hi
  exact⟨c,hf.cellAt h1 n3⟩
 ·obtain⟨lv,h1,h2,h3,h4⟩:=h.r i k hi hk
  have n4:=hne (h.ti i hi) (by decide)
  exact⟨lv,hf.cellAt h1 n4,hf.cellAt h2 n4,hf.cellAt h3 n4,h4.frm hf fun q hq=>hne (h4.ty hq) (by decide)⟩
theorem Gr.take {z:Value} {e:TypeId} {g:Nat} {xs l:List Value} {cur:Array Value} (h:Gr z e g xs W V) (hc:W.heap[g]?=some (.cells cur e (0,0))) (hl:cur.toList.take l.length=l) (hz:(∀ u∈l,u≠z)∨∃ b,xs[0]?=some b∧b∉l) :
  ∃ cur',V.heap[g]?=some (.cells cur' e (0,0))∧cur'.size=cur.size∧cur'.toList.take l.length=l:=by
 obtain⟨cur0,cur',k,h1,h2,h3,h4,h5⟩:=h.out
 rw[hc] at h1
 cases h1
 refine⟨cur',h2,h3,?_⟩
 have key:l.length≤xs.length:=by
  rcases hz with hz | ⟨b,hb,hbn⟩
  ·rcases Nat.lt_or_ge xs.length l.length with hlt | hge
   ·exfalso
    have e1:l[xs.length]?=some z:=by
     rw[← hl,List.getElem?_take,if_pos hlt,h4,List.getElem?_append_right (Nat.le_refl _),Nat.sub_self]
     simp
    exact hz z (List.mem_of_getElem? e1) rfl
   ·exact hge
  ·rcases Nat.eq_zero_or_pos l.length with h0 | h0
   ·omega
   ·exfalso
    have e1:l[0]?=some b:=by
     rw[← hl,List.getElem?_take,if_pos h0,h4,List.getElem?_append_left (lt_of_some hb)]
     exact hb
    exact hbn (List.mem_of_getElem? e1)
 refine Eq.trans (List.ext_getElem? fun j=>?_) hl
 rw[List.getElem?_take,List.getElem?_take]
 split
 ·rw[Array.getElem?_toList,Array.getElem?_toList]
  exact h5 j (by omega)
 ·rfl
theorem Gr.own {z:Value} {e:TypeId} {g n:Nat} {xs l:List Value} {v:Value} (h:Gr z e g xs W V) (ho:W.ownsRow 0 e 1 v n l) (hz:(∀ u∈l,u≠z)∨∃ b,xs[0]?=some b∧b∉l):V.ownsRow 0 e 1 v n l:=by
 by_cases hv:v.ownBlock=some g
 ·obtain⟨hl,hn | ⟨g',cap,cur,rfl,q1,q2,q3,q4,q5,q6⟩⟩:=ho
  ·obtain⟨rfl,-⟩:=hn
   simp[Value.ownBlock] at hv
  ·simp[Value.ownBlock] at hv
   subst hv
   rw[← hl] at q6
   obtain⟨cur',c1,c2,c3⟩:=h.take q2 q6 hz
   rw[hl] at c3
   exact⟨hl,.inr ⟨g',cap,cur',rfl,q1,c1,q3,q4,by rw[c2,q5],c3⟩⟩
 ·exact h.fr.owns ho fun k hk hm=>by
   rw[List.mem_singleton] at hm
   exact hv (by rw[hk,hm])
theorem RO.grS {g:Nat} {xs:List Value} (h:RO W s ba bb bw bi x) (hg:Gr (.string { data:=#[] }) 9 g xs W V) (hx:PSok s x):RO V s ba bb bw bi x:=by
 have hf:=hg.fr
 have hty:Ty W g 9:=by obtain⟨cur,-,-,h1,-⟩:=hg.out;exact⟨_,h1⟩
 have hne:∀ {k:Nat} {t:TypeId},Ty W k t→t≠9→k∉[g]:=fun {k t} h1 h2 hk=>by
  rw[List.mem_singleton] at hk
  exact h1.ne hty h2 hk
 have n1:=hne h.ta (by decide)
 have n2:=hne h.tb (by decide)
 have n3:=hne h.tw (by decide)
 refine⟨h.ta.frm hf n1,h.tb.frm hf n2,h.tw.frm hf n3,fun i hi=>(h.ti i hi).frm hf (hne (h.ti i hi) (by decide)),h.inj,fun i hi=>hf.cellAt (h.a i hi) n1,fun i hi=>?_,fun i hi=>?_,fun i k hi hk=>?_⟩
 ·obtain⟨dv,vv,h1,h2,h3,h4⟩:=h.b i hi
  exact⟨dv,vv,hf.cellAt h1 n2,hf.cellAt h2 n2,h3.frm hf (fun k hk e=>hne e (by decide) hk),h4.frm hf (fun k hk=>.inr fun e=>hne e (by decide) hk)⟩
 ·obtain⟨c,h1⟩:=h.w i hi
  exact⟨c,hf.cellAt h1 n3⟩
 ·obtain⟨lv,h1,h2,h3,h4⟩:=h.r i k hi hk
  have n4:=hne (h.ti i hi) (by decide)
  have hz:∀ u∈(x.way i k).map Value.string,u≠.string { data:=#[] }:=fun u hu e=>by
   obtain⟨m,hm,rfl⟩:=List.mem_map.1 hu
   have h9:=((hx.wb i k hi hk).2 m hm).1
   injection e with e
   rw[e] at h9
   exact absurd h9 (by decide)
  refine⟨lv,hf.cellAt h1 n4,hf.cellAt h2 n4,hf.cellAt h3 n4,?_⟩
  rcases h4 with h4 | ⟨g',cur,rfl,q1,q2⟩
  ·exact .inl (hg.own h4 (.inl hz))
  ·by_cases e:g'=g
   ·subst e
    have q3:cur.toList.take ((x.way i k).map Value.string).length=(x.way i k).map Value.string:=by rw[List.length_map];exact q2
    obtain⟨cur',c1,-,c3⟩:=hg.take q1 q3 (.inl hz)
    rw[List.length_map] at c3
    exact .inr ⟨g',cur',rfl,c1,c3⟩
   ·exact .inr ⟨g',cur,rfl,hf.at q1 (by simpa using e),q2⟩
theorem RO.grI {g:Nat} {i0:Int} {xs:List Value} (h:RO W s ba bb bw bi x) (hg:Gr (.int .i64 0) 3 g (.int .i64 i0 :: xs) W V) (h0:i0 < 0) (hs:0 < s.roles.length) (hx:PSok s x):RO V s ba bb bw bi x:=by
 have hf:=hg.fr
 obtain⟨cur,cur',k,o1,o2,o3,o4,o5⟩:=hg.out
 have hty:Ty W g 3:=⟨_,o1⟩
 have hne:∀ {k:Nat} {t:TypeId},Ty W k t→t≠3→k∉[g]:=fun {k t} h1 h2 hk=>by
  rw[List.mem_singleton] at hk
  exact h1.ne hty h2 hk
 have n1:ba∉[g]:=fun hk=>by
  rw[List.mem_singleton] at hk
  subst hk
  have h1:=h.a 0 hs
  rw[cell_of o1,← Array.getElem?_toList,o4] at h1
  injection h1 with h1
  injection h1 with h1 h2
  omega
 have n2:=hne h.tb (by decide)
 have n3:=hne h.tw (by decide)
 refine⟨h.ta.frm hf n1,h.tb.frm hf n2,h.tw.frm hf n3,fun i hi=>(h.ti i hi).frm hf (hne (h.ti i hi) (by decide)),h.inj,fun i hi=>hf.cellAt (h.a i hi) n1,fun i hi=>?_,fun i hi=>?_,fun i k hi hk=>?_⟩
 ·obtain⟨dv,vv,h1,h2,h3,h4⟩:=h.b i hi
  refine⟨dv,vv,hf.cellAt h1 n2,hf.cellAt h2 n2,h3.frm hf (fun k hk e=>hne e (by decide) hk),hg.own h4.1 (.inr ⟨_,rfl,fun hm=>?_⟩),h4.2⟩
  obtain⟨u,hu,e⟩:=List.mem_map.1 hm
  injection e with e1 e2
  obtain⟨j,hj⟩:=List.getElem?_of_mem hu
  have hvb:=hx.vb i hi
  have hjl:j < (s.rol i).ctrs.length:=by rw[← hvb.1];exact lt_of_some hj
  have:=(hvb.2 j _ (List.getElem?_eq_getElem hjl)).1
  rw[getD_some hj] at this
  omega
 ·obtain⟨c,h1⟩:=h.w i hi
  exact⟨c,hf.cellAt h1 n3⟩
 ·obtain⟨lv,h1,h2,h3,h4⟩:=h.r i k hi hk
  have n4:=hne (h.ti i hi) (by decide)
  exact⟨lv,hf.cellAt h1 n4,hf.cellAt h2 n4,hf.cellAt h3 n4,h4.frm hf fun q hq=>hne (h4.ty hq) (by decide)⟩
end
end Go.Proofs.YtemjlpahohmajaaGreat
namespace Go.Proofs.YtemjlpahohmajaaGreat
open Go.RowKit
def updD (D:Nat→Bool) (i:Nat):Nat→Bool:=fun j=>if j=i then true else D j
def updV (f:Nat→Value) (i:Nat) (v:Value):Nat→Value:=fun j=>if j=i then v else f j
section
variable {P:Program} {ops:Array Oper} {Q:Exit→Act→World→Prop}
def ClosedD (ops:Array Oper) (D:Nat→Bool):Prop:=∀ (k:Nat) o,ops[k]?=some o→D k=true→∀ e∈o.after,Region.binds .any e=true→D e.on=true
def downB (ops:Array Oper):Bool:=(List.range ops.size).all fun i=>((ops[i]?).map fun o=>o.after.all fun e=>!Region.binds .any e || decide (e.on < i)).getD true
theorem down_of (h:downB ops=true) {i:Nat} {o:Oper} (ho:ops[i]?=some o):∀ e∈o.after,Region.binds .any e=true→e.on < i:=fun e he hb=>by
 have:=(List.all_eq_true.1 h) i (List.mem_range.2 (Array.getElem?_eq_some_iff.1 ho).1)
 rw[ho] at this
 simp only[Option.map_some,Option.getD_some] at this
 have:=(Array.all_eq_true_iff_forall_mem.1 this) e he
 simpa[hb] using this
theorem countP_less {p q:Nat→Bool} (hpq:∀ x,q x=true→p x=true) {i:Nat} (h1:p i=true) (h2:q i=false):∀ {l:List Nat},i∈l→l.countP q < l.countP p
 | [],h=>by cases h
 | a :: l,h=>by
   have hle:l.countP q≤l.countP p:=List.countP_mono_left fun x _ hx=>hpq x hx
   rw[List.countP_cons,List.countP_cons]
   rcases List.mem_cons.1 h with rfl | h
   ·rw[h1,h2]
    simp
    omega
   ·have ih:=countP_less hpq h1 h2 h
    have:(if q a=true then 1 else 0)≤(if p a=true then 1 else 0):=by
     split
     ·rename_i hq
      rw[if_pos (hpq a hq)]
      omega
     ·omega
    omega
def DL (listed:Array Bool):Nat→Bool:=fun i=>listed.getD i false
theorem DL_set {listed:Array Bool} {i:Nat} (hi:i < listed.size):DL (listed.setIfInBounds i true)=updD (DL listed) i:=by
 funext j
 unfold DL updD
 split
 ·rename_i e;subst e;simp[hi]
 ·rename_i e
  exact getD_set_ne false (fun h=>e h.symm)
variable (FR:(Nat→Value)→Act) (I:(Nat→Bool)→(Nat→Value)→World→Prop)
theorem wpAny_inv (hdn:downB ops=true)
  (hs:∀ i o,ops[i]?=some o→∀ D f w,I D f w→D i=false→(∀ e∈o.after,Region.binds .any e=true→D e.on=true)→ClosedD ops D →
   Region.wanted o (yielded ops (FR f).tmps)=true∧o.wp P (FR f) w (fun a' w'=>∃ v,a'=FR (updV f i v)∧I (updD D i) (updV f i v) w') Q)
  (hd:∀ D f w,(∀ i,i < ops.size→D i=true)→I D f w→Q .normal (FR f) w) :
  ∀ (fuel:Nat) (listed:Array Bool) (f:Nat→Value) (w:World),listed.size=ops.size→(List.range ops.size).countP (fun i=>!DL listed i)≤fuel→ClosedD ops (DL listed)→I (DL listed) f w→wpAny P .any ops Q fuel listed (FR f) w:=by
 have hall:∀ listed:Array Bool,listed.size=ops.size→Region.ready .any ops listed=[]→∀ i,i < ops.size→DL listed i=true:=fun listed hsz h0 i=>by
  induction i using Nat.strongRecOn with
  | _ i ih =>
  intro hi
  obtain⟨o,ho⟩:∃ o,ops[i]?=some o:=⟨_,Array.getElem?_eq_getElem hi⟩
  cases hD:DL listed i with
  | true=>rfl
  | false =>
    exfalso
    have hm:i∈Region.ready .any ops listed:=mem_ready.2 ⟨by
     unfold DL at hD
     simpa[hsz,hi] using hD,o,ho,fun e he hb=>ih e.on (down_of hdn ho e he hb) (by have:=down_of hdn ho e he hb;omega)⟩
    rw[h0] at hm
    cases hm
 intro fuel
 induction fuel with
 | zero =>
   intro listed f w hsz hc hcl hI
   have hz:∀ i,i < ops.size→DL listed i=true:=fun i hi=>by
    have h0:=List.countP_eq_zero.1 (Nat.le_zero.1 hc) i (List.mem_range.2 hi)
    simpa using h0
   refine⟨?_,hd _ f w hz hI⟩
   rw[List.eq_nil_iff_forall_not_mem]
   intro i hi
   obtain⟨h1,o,ho,-⟩:=mem_ready.1 hi
   have h2:=hz i (Array.getElem?_eq_some_iff.1 ho).1
   have h3:i < listed.size:=by rw[hsz];exact(Array.getElem?_eq_some_iff.1 ho).1
   unfold DL at h2
   simp[h3] at h1 h2
   rw[h1] at h2
   cases h2
 | succ fuel ih =>
   intro listed f w hsz hc hcl hI
   refine⟨fun h0=>hd _ f w (hall listed hsz h0) hI,fun i hi=>?_⟩
   obtain⟨h1,o,ho,h2⟩:=mem_ready.1 hi
   have hio:i < ops.size:=(Array.getElem?_eq_some_iff.1 ho).1
   have h3:i < listed.size:=by rw[hsz];exact hio
   have hDi:DL listed i=false:=by unfold DL;simpa[h3] using h1
   obtain⟨hw,hwp⟩:=hs i o ho (DL listed) f w hI hDi h2 hcl
   unfold wpOp
   simp only[ho,hw,if_true]
   refine .inl (Oper.wp_mono (fun a' w' h=>?_) hwp)
   obtain⟨v,rfl,hI'⟩:=h
   have hset:=DL_set (listed:=listed) h3
   refine ih (listed.setIfInBounds i true) (updV f i v) w' (by simpa using hsz) ?_ ?_ (by rw[hset];exact hI')
   ·have hlt:=countP_less (p:=fun j=>!DL listed j) (q:=fun j=>!DL (listed.setIfInBounds i true) j) (fun x hx=>by
     rw[hset] at hx
     unfold updD at hx
     split at hx
     ·cases hx
     ·exact hx) (i:=i) (by simp[hDi]) (by rw[hset];simp[updD]) (List.mem_range.2 hio)
    omega
   ·rw[hset]
    intro k ok hk hDk e he hb
    unfold updD at hDk ⊢
    split
    ·rfl
    ·split at hDk
     ·rename_i e1
      subst e1
      rw[ho] at hk
      cases hk
      exact h2 e he hb
     ·exact hcl k ok hk hDk e he hb
theorem wp_region_inv {id:Nat} {a:Act} {w:World} (hm:P.follows .mixedOrders=true) (hdn:downB ops=true) (f0:Nat→Value) (ha:a=FR f0) (h0:I (fun _=>false) f0 w.drew)
  (hs:∀ i o,ops[i]?=some o→∀ D f w,I D f w→D i=false→(∀ e∈o.after,Region.binds .any e=true→D e.on=true)→ClosedD ops D →
   Region.wanted o (yielded ops (FR f).tmps)=true∧o.wp P (FR f) w (fun a' w'=>∃ v,a'=FR (updV f i v)∧I (updD D i) (updV f i v) w') Q)
  (hd:∀ D f w,(∀ i,i < ops.size→D i=true)→I D f w→Q .normal (FR f) w):(Code.region id ops true).wp P Q a w:=by
 refine wp_region_any hm ?_
 have e:DL (Array.replicate ops.size false)=fun _=>false:=by
  funext j
  unfold DL
  by_cases h:j < ops.size <;> simp[h]
 subst ha
 refine wpAny_inv FR I hdn hs hd ops.size (Array.replicate ops.size false) f0 _ (by simp) ?_ (by rw[e];intro k o _ h;cases h) (by rw[e];exact h0)
 exact Nat.le_trans List.countP_le_length (by simp)
def stepsFrom (p:Nat→Oper→Prop):Nat→List Oper→Prop
 | _,[]=>True
 | k,o :: l=>p k o∧stepsFrom p (k + 1) l
theorem stepsFrom_at {p:Nat→Oper→Prop}:∀ {l:List Oper} {k i:Nat} {o:Oper},stepsFrom p k l→l[i]?=some o→p (k + i) o
 | [],_,_,_,_,h=>by simp at h
 | a :: l,k,0,o,hp,h=>by
   simp at h
   subst h
   exact hp.1
 | a :: l,k,i + 1,o,hp,h=>by
   have:=stepsFrom_at (l:=l) (k:=k + 1) (i:=i) hp.2 (by simpa using h)
   rwa [show k + (i + 1)=k + 1 + i by omega]
def OpInv (P:Program) (ops:Array Oper) (Q:Exit→Act→World→Prop) (FR:(Nat→Value)→Act) (I:(Nat→Bool)→(Nat→Value)→World→Prop) (i:Nat) (o:Oper):Prop:=
 ∀ D f w,I D f w→D i=false→(∀ e∈o.after,Region.binds .any e=true→D e.on=true)→ClosedD ops D →
   Region.wanted o (yielded ops (FR f).tmps)=true∧(∀ v,(FR f).put o.dst v=FR (updV f i v)) ∧
   ∀ K':Act→World→Prop,Shut (∀ a' w' v,a'=(FR f).put o.dst v→I (updD D i) (updV f i v) w'→K' a' w')→o.wp P (FR f) w K' Q
theorem wp_region_inv' {id:Nat} {a:Act} {w:World} {l:List Oper} (f0:Nat→Value) (hm:P.follows .mixedOrders=true) (hdn:downB l.toArray=true) (ha:a=FR f0) (h0:I (fun _=>false) f0 w.drew)
  (hs:stepsFrom (OpInv P l.toArray Q FR I) 0 l) (hd:∀ D f w,(∀ i,i < l.length→D i=true)→I D f w→Q .normal (FR f) w):(Code.region id l.toArray true).wp P Q a w:=
 wp_region_inv FR I hm hdn f0 ha h0 (fun i o ho D f w hI hD hdep hcl=>by
  have h1:=stepsFrom_at hs (i:=i) (o:=o) (by simpa using ho)
  rw[Nat.zero_add] at h1
  obtain⟨g1,g2,g3⟩:=h1 D f w hI hD hdep hcl
  refine⟨g1,g3 _ (fun a' w' v e hv=>⟨v,?_,hv⟩)⟩
  rw[e,g2]) (fun D f w h hI=>hd D f w (fun i hi=>h i (by simpa using hi)) hI)
end
end Go.Proofs.YtemjlpahohmajaaGreat
