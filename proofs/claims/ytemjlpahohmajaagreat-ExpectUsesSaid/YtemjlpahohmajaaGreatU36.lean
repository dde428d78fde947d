/- Part of the proof. -/
import Derived.WalkKit
import Derived.WalkSpells
import Derived.Deep.QuietTactic
import Derived.Deep.MidRow
import Derived.Deep.WholeRow
import Derived.Lib.SlicesS
import Derived.Shelf.SlGeneric
import Derived.Shelf.SlLaysN
import Derived.Shelf.SlLaysM
import Derived.Ground.SlgnProg
import Derived.Ground.SlgmProg
import Derived.Test.YtemjlpahohmajaaGreatProg
import Derived.BigQuiet
import Derived.StillTail
import Derived.Laws.IdiomStrings
import Derived.Shelf.Bytes.SlSmallAll
import Derived.Deep.Upon
import Derived.ArgAppend
import Derived.Deep.AppendLies
import Derived.Maps.AppendAt
import Derived.Lib.Hide
import Derived.Deep.DeepMust
import Derived.WalkLawsBesides
import Derived.BigRegion
import Derived.Deep.RegionHeld3
import Derived.Deep.RegionLaw
import Derived.Deep.DeepCutAuto
import Derived.Shelf.SlicesG.Clone
import Derived.Shelf.SlicesG.Turned
import Derived.Shelf.SlicesG.Delete
import Derived.Sort.OwnSorted
import Derived.OrdersHeld
import Derived.Lib.SliceRun
import Derived.LoopTactic
import Derived.RangeFuncNested
import Derived.RangeFuncLeaves
import Derived.RangeFuncCalls
import Derived.RangeFuncBound
import Derived.OwnWalkIn
import Derived.TacticsInMore
import Derived.LoopNIn
import Derived.LoopIn
import Derived.Sort.CutIn
import Derived.OrdersIn
import Derived.Test.YtemjlpahohmajaaGreatU29
import Derived.Test.YtemjlpahohmajaaGreatU11
import Derived.Shelf.SortM.Plain
import Derived.Shelf.SortM.SortNone
import Derived.Test.YtemjlpahohmajaaGreatU28
import Derived.Test.YtemjlpahohmajaaGreatU10
import Derived.Test.YtemjlpahohmajaaGreatU01
import Derived.Test.YtemjlpahohmajaaGreatU21
import Derived.Laws.StructEq
import Derived.Laws.EntriesVeiled
import Derived.Laws.Concat
set_option linter.all false
namespace Go.Proofs.YtemjlpahohmajaaGreat
open Go.RowKit Go.BigFrame
def RowG (G:Value→Prop) (e:TypeId) (v:Value) (w:World):Prop:=∀ g cur,v.ownBlock=some g→w.heap[g]?=some (.cells cur e (0,0))→∀ u∈cur,G u
theorem zeroCells_all {zero:Array Value} {n:Nat} {G:Value→Prop} (h0:0 < zero.size) (h:∀ u∈zero,G u):∀ u∈Builtin.zeroCells zero n,G u:=by
 intro u hu
 unfold Builtin.zeroCells at hu
 simp only[Array.mem_map,Array.mem_range] at hu
 obtain⟨i,-,rfl⟩:=hu
 have hi:i % zero.size < zero.size:=Nat.mod_lt _ h0
 rw[getElem!_pos zero _ hi]
 exact h _ (Array.getElem_mem hi)
theorem append_all {P:Program} (w:World) (G:Value→Prop) (base:Nat) (t ty e:TypeId) (i:TypeInfo) (z:Value) (size bytes:Nat) (ht:P.underlying t=some (.slice e)) (hi:P.info? e=some i) (hz:i.zero=some z)
  (hsize:i.size=size) (hby:i.bytes=bytes) (hzs:z.cells.size=size) (hsz:0 < size) (v:Value) (n:Nat) (xs:List Value) (hown:w.ownsRow base e size v n xs)
  (a:Addr) (m c:Nat) (news:List Value) (hl:news.length=m * size) (hnews:∀ j u,news[j]?=some u→w.cell? (a.add j)=some u) (h1:∀ u∈news,u.oneCell'=true)
  (h63:n + m≤maxLen) (hbytes:(n + m) * bytes≤140737488355328) (hbase:base≤w.heap.size) (hm:0 < m) (hG:RowG G e v w) (hGz:∀ u∈z.cells,G u) (hGn:∀ u∈news,G u) :
  ∃ v' w',(Builtin.append_ #[t,t] ty #[v,.slice (some a) m c]).run P w=.ok v' w'∧w'.ownsRow base e size v' (n + m) (xs ++ news)∧w.grownBy w' v.ownBlock∧RowG G e v' w'∧(v'.ownBlock=v.ownBlock∨v'.ownBlock=some w.heap.size):=by
 obtain⟨v',w',hr,h2,h3,-,h5⟩:=run_append_own_at (P:=P) w base t ty e i z size bytes ht hi hz hsize hby hzs hsz v n xs hown a m c news hl hnews h1 h63 hbytes hbase
 refine⟨v',w',hr,h2,h3,?_,h5⟩
 clear h5
 subst hsize
 subst hby
 have hsmall:n + m≤9223372036854775807:=by simp only[maxLen] at h63;omega
 have hold:∀ g cap,v=.slice (some ⟨g,0,none⟩) n cap→∀ u∈xs,G u:=by
  rintro g cap rfl u hu
  obtain⟨-,⟨e1,-⟩ | ⟨g',cap',cur,e1,-,hg,-,-,-,htake⟩⟩:=hown
  ·cases e1
  ·cases e1
   rw[← htake] at hu
   exact hG g cur rfl hg u (by simpa using List.mem_of_mem_take hu)
 rcases hown.2 with ⟨rfl,rfl⟩ | ⟨g,cap,cur,rfl,hbg,hg,hnc,hcm,hcs,htake⟩
 ·have hx:xs=[]:=List.eq_nil_of_length_eq_zero (by simpa using hown.1)
  subst hx
  have hr2:=run_append_nil (P:=P) w t ty e i z ht hi hz a m c news hl hnews hm (by omega) (by have hb:=hbytes;simp only[Nat.zero_add] at hb;omega)
  rw[hr2] at hr
  injection hr with e1 e2
  subst e1
  subst e2
  intro g' cur' hg' hc' u hu
  simp only[Value.ownBlock,Option.some.injEq] at hg'
  subst hg'
  have hh:=heap_alloc_new w.drew (.cells (news.toArray ++ Builtin.zeroCells z.cells (grownCap w m 0 e - m)) e)
  rw[show w.drew.heap.size=w.heap.size from rfl] at hh
  rw[hh] at hc'
  cases hc'
  rcases Array.mem_append.1 hu with hu | hu
  ·exact hGn u (by simpa using hu)
  ·exact zeroCells_all (by omega) hGz u hu
 ·by_cases hroom:n + m≤cap
  ·have hfit:n * i.size + news.length≤cur.size:=by rw[hl,hcs,← Nat.add_mul];exact Nat.mul_le_mul_right _ hroom
   have hr2:=run_append_room (P:=P) w t ty e i ht hi g n cap cur hg a m c news hl hnews h1 hroom hfit
   rw[hr2] at hr
   injection hr with e1 e2
   subst e1
   subst e2
   intro g' cur' hg' hc' u hu
   simp only[Value.ownBlock,Option.some.injEq] at hg'
   subst hg'
   rw[setRow_heap w g cur _ e _ hg] at hc'
   cases hc'
   simp only[List.mem_toArray,List.mem_append] at hu
   rcases hu with (hu | hu) | hu
   ·exact hG g cur rfl hg u (by simpa using List.mem_of_mem_take hu)
   ·exact hGn u hu
   ·exact hG g cur rfl hg u (by simpa using List.mem_of_mem_drop hu)
  ·have holds:∀ j u,xs[j]?=some u→w.cell? ((⟨g,0,none⟩:Addr).add j)=some u:=hown.cells (g:=g) rfl
   have hr2:=run_append_grow (P:=P) w t ty e i z ht hi hz ⟨g,0,none⟩ n cap xs hown.1 holds a m c news hl hnews (by omega) (by omega) (growslice_fits (by omega) hbytes)
   rw[hr2] at hr
   injection hr with e1 e2
   subst e1
   subst e2
   intro g' cur' hg' hc' u hu
   simp only[Value.ownBlock,Option.some.injEq] at hg'
   subst hg'
   have hh:=heap_alloc_new w.drew (.cells (xs.toArray ++ news.toArray ++ Builtin.zeroCells z.cells (grownCap w (n + m) cap e - (n + m))) e)
   rw[show w.drew.heap.size=w.heap.size from rfl] at hh
   rw[hh] at hc'
   cases hc'
   simp only[Array.mem_append,List.mem_toArray] at hu
   rcases hu with (hu | hu) | hu
   ·exact hold g cap rfl u hu
   ·exact hGn u hu
   ·exact zeroCells_all (by omega) hGz u hu
theorem wp_append_all {P:Program} {o:Oper} {a:Act} {w:World} {K:Act→World→Prop} {Q:Exit→Act→World→Prop} (G:Value→Prop) (s x:Operand) (t:TypeId)
  (ho:o.op=.call { callee:=.builtin .append,args:=#[s,x],argTypes:=#[t,t] })
  (base:Nat) (e:TypeId) (i:TypeInfo) (z:Value) (size bytes:Nat) (ht:P.underlying t=some (.slice e)) (hi:P.info? e=some i) (hz:i.zero=some z)
  (hsize:i.size=size) (hby:i.bytes=bytes) (hzs:z.cells.size=size) (hsz:0 < size)
  (v:Value) (n:Nat) (xs:List Value) (hs:a.eval s=v) (hown:w.ownsRow base e size v n xs)
  (ad:Addr) (m c:Nat) (news:List Value) (hx:a.eval x=.slice (some ad) m c) (hl:news.length=m * size) (hnews:∀ j u,news[j]?=some u→w.cell? (ad.add j)=some u) (h1:∀ u∈news,u.oneCell'=true)
  (h63:n + m≤maxLen) (hbytes:(n + m) * bytes≤140737488355328) (hbase:base≤w.heap.size) (hm:0 < m) (hG:RowG G e v w) (hGz:∀ u∈z.cells,G u) (hGn:∀ u∈news,G u)
  (h:∀ v' w',w'.ownsRow base e size v' (n + m) (xs ++ news)→w.grownBy w' v.ownBlock→RowG G e v' w'→(v'.ownBlock=v.ownBlock∨v'.ownBlock=some w.heap.size)→K (a.put o.dst v') w') :
  Oper.wp P o a w K Q:=by
 obtain⟨v',w',hr,h2,h3,h4,h5⟩:=append_all (P:=P) w G base t o.type e i z size bytes ht hi hz hsize hby hzs hsz v n xs hown ad m c news hl hnews h1 h63 hbytes hbase hm hG hGz hGn
 unfold Oper.wp execOp
 simp only[ho,resolve,invoke,builtin,Sem.run_bind,Sem.run_pure,Result.andThen_ok,List.map_toArray,List.map_cons,List.map_nil,hs,hx,hr]
 exact h v' w' h2 h3 h4 h5
end Go.Proofs.YtemjlpahohmajaaGreat
namespace Go.Proofs.YtemjlpahohmajaaGreat
open Go.RowKit Go.BigFrame
theorem step_append_own_at {P:Program} {ops:Array Oper} {o:Oper} {a:Act} {w:World} {K:Act→World→Prop} {Q:Exit→Act→World→Prop} {E:Prop} (hgd:o.guard=none) (s x:Operand) (t:TypeId)
  (ho:o.op=.call { callee:=.builtin .append,args:=#[s,x],argTypes:=#[t,t] })
  (base:Nat) (e:TypeId) (i:TypeInfo) (z:Value) (size bytes:Nat) (ht:P.underlying t=some (.slice e)) (hi:P.info? e=some i) (hz:i.zero=some z)
  (hsize:i.size=size) (hby:i.bytes=bytes) (hzs:z.cells.size=size) (hsz:0 < size)
  (v:Value) (n:Nat) (xs:List Value) (hs:a.eval s=v) (hown:w.ownsRow base e size v n xs)
  (ad:Addr) (m c:Nat) (news:List Value) (hx:a.eval x=.slice (some ad) m c) (hl:news.length=m * size) (hnews:∀ j u,news[j]?=some u→w.cell? (ad.add j)=some u) (h1:∀ u∈news,u.oneCell'=true)
  (h63:n + m≤maxLen) (hbytes:(n + m) * bytes≤140737488355328) (hbase:base≤w.heap.size)
  (h:∀ v' w',w'.ownsRow base e size v' (n + m) (xs ++ news)→w.grownBy w' v.ownBlock→K (a.put o.dst v') w') :
  if Region.wanted o (yielded ops a.tmps)=true then Oper.wp P o a w K Q else E:=by
 have hw:Region.wanted o (yielded ops a.tmps)=true:=by simp[Region.wanted,hgd]
 rw[if_pos hw]
 obtain⟨v',w',hr,h2,h3,h4,h5⟩:=run_append_own_at (P:=P) w base t o.type e i z size bytes ht hi hz hsize hby hzs hsz v n xs hown ad m c news hl hnews h1 h63 hbytes hbase
 unfold Oper.wp execOp
 simp only[ho,resolve,invoke,builtin,Sem.run_bind,Sem.run_pure,Result.andThen_ok,List.map_toArray,List.map_cons,List.map_nil,hs,hx,hr]
 exact h v' w' h2 h3
end Go.Proofs.YtemjlpahohmajaaGreat
namespace Go.Proofs.YtemjlpahohmajaaGreat
open Go.RowKit Go.BigFrame
structure GO (ty e k:Nat) (w:World) (ob o:Nat) (A:Array Value) (n:Nat) (xs:List Value) (W:World):Prop where
 fr:Frm [] w W
 new:w.heap.size≤ob
 bx:∃ ao cap,W.heap[ob]?=some (.cells (A.setIfInBounds o (.slice ao n cap)) ty (0,0))∧W.ownsRow w.heap.size e k (.slice ao n cap) n xs
section
variable {ty e k:Nat} {w V W W' w0 w1:World} {ob o n m:Nat} {A:Array Value} {xs news:List Value}
theorem GO.frm (h:GO ty e k w ob o A n xs W) (hf:Frm [] W W'):GO ty e k w ob o A n xs W':=by
 obtain⟨ao,cap,h1,h2⟩:=h.bx
 exact⟨h.fr.trans hf,h.new,ao,cap,hf.at h1 (by simp),hf.owns h2 (by simp)⟩
theorem GO.facts {ao:Option Addr} {cap:Nat} {B:Array Value} (h1:W.heap[ob]?=some (.cells B ty (0,0))) (h2:W.ownsRow w.heap.size e k (.slice ao n cap) n xs) (hne:ty≠e) (hf:Frm [] W w0) (hg:w0.grownBy w1 (Value.slice ao n cap).ownBlock) :
  w1.heap[ob]?=some (.cells B ty (0,0)):=
 grown_at hg (hf.at h1 (by simp)) (fun e'=>by
  obtain⟨c,hc⟩:=ownBlock_type h2 e'
  rw[h1] at hc;cases hc;exact hne rfl)
theorem GO.step {ao:Option Addr} {cap:Nat} {v':Value} (h:GO ty e k w ob o A n xs W) (h1:W.heap[ob]?=some (.cells (A.setIfInBounds o (.slice ao n cap)) ty (0,0))) (h2:W.ownsRow w.heap.size e k (.slice ao n cap) n xs) (hne:ty≠e)
  (hf:Frm [] W w0) (hg:w0.grownBy w1 (Value.slice ao n cap).ownBlock) (ho:w1.ownsRow w.heap.size e k v' (n + m) (xs ++ news)) :
  GO ty e k w ob o A (n + m) (xs ++ news) (w1.setCell ⟨ob,o,none⟩ v')∧Kt [ty,e] W (w1.setCell ⟨ob,o,none⟩ v'):=by
 have hb:=GO.facts h1 h2 hne hf hg
 have hge:∀ q,(Value.slice ao n cap).ownBlock=some q→w.heap.size≤q:=fun q hq=>ownBlock_ge h2 hq
 have k1:Kt [ty,e] W w1:=(Kt.frm hf).grown hg (fun q hq=>by
  obtain⟨c,hc⟩:=ownBlock_type h2 hq
  exact⟨c,e,(0,0),hf.at hc (by simp),by simp⟩)
 have f1:Frm [] w w1:=(h.fr.trans hf).grown hg (fun q hq=>.inr (hge q hq))
 obtain⟨ao',cp',rfl⟩:=own_shape ho
 refine⟨⟨f1.setCell _ (.inr h.new) _,h.new,ao',cp',(block_setCell hb o _).trans (by rw[Array.setIfInBounds_setIfInBounds]),?_⟩,k1.set hb (by simp) _⟩
 refine ownsRow_setCell_other ho (fun e'=>?_) _
 obtain⟨c,hc⟩:=ownBlock_type ho e'
 rw[hb] at hc;cases hc;exact hne rfl
theorem GO.made {B:Array Value} (hf:Frm [] w W) (hn:w.heap.size≤ob) (h:W.heap[ob]?=some (.cells B ty (0,0))) (hB:B=A.setIfInBounds o (.slice none 0 0)):GO ty e k w ob o A 0 [] W:=
 ⟨hf,hn,none,0,by rw[h,hB],World.ownsRow_nil _ _ _ _⟩
def cnC (l:List (CtrD × Int)):List Value:=l.flatMap fun c=>[.string c.1.name,.int .i64 c.1.lim,.int .i64 c.2]
theorem cnC_append (A B:List (CtrD × Int)):cnC (A ++ B)=cnC A ++ cnC B:=by unfold cnC;rw[List.flatMap_append]
theorem cnC_at:∀ {L:List (CtrD × Int)} {i:Nat} {c:CtrD × Int},L[i]?=some c→(cnC L)[i * 3]?=some (.string c.1.name)∧(cnC L)[i * 3 + 1]?=some (.int .i64 c.1.lim)∧(cnC L)[i * 3 + 2]?=some (.int .i64 c.2)
 | [],i,c,h=>by simp at h
 | a :: L,0,c,h=>by
   simp at h;subst h
   exact⟨rfl,rfl,rfl⟩
 | a :: L,i + 1,c,h=>by
   have h':L[i]?=some c:=by simpa using h
   obtain⟨h1,h2,h3⟩:=cnC_at h'
   have e:cnC (a :: L)=[.string a.1.name,.int .i64 a.1.lim,.int .i64 a.2] ++ cnC L:=rfl
   rw[e]
   refine⟨?_,?_,?_⟩
   ·rw[List.getElem?_append_right (by simp;omega),show (i + 1) * 3 - [Value.string a.1.name,.int .i64 a.1.lim,.int .i64 a.2].length=i * 3 by simp;omega];exact h1
   ·rw[List.getElem?_append_right (by simp;omega),show (i + 1) * 3 + 1 - [Value.string a.1.name,.int .i64 a.1.lim,.int .i64 a.2].length=i * 3 + 1 by simp;omega];exact h2
   ·rw[List.getElem?_append_right (by simp;omega),show (i + 1) * 3 + 2 - [Value.string a.1.name,.int .i64 a.1.lim,.int .i64 a.2].length=i * 3 + 2 by simp;omega];exact h3
theorem cn_arr {base:Nat} {v:Value} {L:List (CtrD × Int)} (h:W.ownsRow base 207 3 v L.length (cnC L)):Arr 3 CnAt W v L:=by
 rcases h.2 with ⟨rfl,hn⟩ | ⟨g,c,cur,rfl,-,hh,-,-,-,ht⟩
 ·obtain rfl:L=[]:=List.length_eq_zero_iff.1 hn
  exact Arr.nil _ _ _
 ·refine⟨_,_,rfl,fun i x hx=>⟨g,0,rfl,?_⟩⟩
  obtain⟨a0,a1,a2⟩:=cnC_at hx
  have hl:=lt_of_some hx
  have hc:∀ j,j < L.length * 3→W.cell? ⟨g,j,none⟩=(cnC L)[j]?:=fun j hj=>by
   rw[cell_of hh,← ht,List.getElem?_take_of_lt hj,Array.getElem?_toList]
  rw[Nat.zero_add]
  exact⟨(hc _ (by omega)).trans a0,(hc _ (by omega)).trans a1,(hc _ (by omega)).trans a2⟩
end
end Go.Proofs.YtemjlpahohmajaaGreat
namespace Go.Proofs.YtemjlpahohmajaaGreat
open Go.RowKit Go.BigFrame
structure ChS (w:World) (s:SesD) (x:PS) (yb xb ab gb rb cb f t:Nat) (F:List Nat) (L:List ByteArray) (W:World):Prop where
 fr:Frm [] w W
 new:w.heap.size≤xb∧w.heap.size≤ab∧w.heap.size≤gb∧w.heap.size≤rb∧∀ k∈F,w.heap.size≤k
 hx:∃ ca cg,W.heap[xb]?=some (.cells #[.pointer (some ⟨yb,0,none⟩),.slice (some ⟨ab,0,none⟩) s.roles.length ca,.slice (some ⟨gb,0,none⟩) s.roles.length cg] 140 (0,0))
 ha:∃ cur,W.heap[ab]?=some (.cells cur 143 (0,0))
 act:∀ i,i < s.roles.length→∃ bb,W.cell? ⟨ab,i * 2,none⟩=some (.int .i64 ((x.at i:Nat):Int))∧W.cell? ⟨ab,i * 2 + 1,none⟩=some (.pointer (some ⟨bb,0,none⟩))∧Bnk w bb (x.ctr s i)
 row:∀ i,i < s.roles.length→i≠f→∃ rv,W.cell? ⟨gb,i,none⟩=some rv∧RowV s.cls s.cap w rv (x.ways.getD i [])
 rowf:∃ cr,W.cell? ⟨gb,f,none⟩=some (.slice (some ⟨rb,0,none⟩) s.roles.length cr)
 chs:∀ k,k < s.roles.length→k≠t→∃ c G,W.cell? ⟨rb,k,none⟩=some (.pointer (some ⟨c,0,none⟩))∧Chn w c s.cls s.cap (x.way f k) G
 cht:W.cell? ⟨rb,t,none⟩=some (.pointer (some ⟨cb,0,none⟩))
 chn:Chn W cb s.cls s.cap L F
 types:(∃ c fr,W.heap[gb]?=some (.cells c 148 fr))∧∃ c fr,W.heap[rb]?=some (.cells c 149 fr)
structure Ch2 (w:World) (s:SesD) (x:PS) (yb xb ab gb rb f:Nat) (W:World):Prop where
 fr:Frm [] w W
 new:w.heap.size≤xb∧w.heap.size≤ab∧w.heap.size≤gb∧w.heap.size≤rb
 hx:∃ ca cg,W.heap[xb]?=some (.cells #[.pointer (some ⟨yb,0,none⟩),.slice (some ⟨ab,0,none⟩) s.roles.length ca,.slice (some ⟨gb,0,none⟩) s.roles.length cg] 140 (0,0))
 ha:∃ cur,W.heap[ab]?=some (.cells cur 143 (0,0))
 act:∀ i,i < s.roles.length→∃ bb,W.cell? ⟨ab,i * 2,none⟩=some (.int .i64 ((x.at i:Nat):Int))∧W.cell? ⟨ab,i * 2 + 1,none⟩=some (.pointer (some ⟨bb,0,none⟩))∧Bnk w bb (x.ctr s i)
 row:∀ i,i < s.roles.length→i≠f→∃ rv,W.cell? ⟨gb,i,none⟩=some rv∧RowV s.cls s.cap w rv (x.ways.getD i [])
 rowf:∃ cr,W.cell? ⟨gb,f,none⟩=some (.slice (some ⟨rb,0,none⟩) s.roles.length cr)
 chs:∀ k,k < s.roles.length→∃ c G,W.cell? ⟨rb,k,none⟩=some (.pointer (some ⟨c,0,none⟩))∧Chn w c s.cls s.cap (x.way f k) G
 tg:∃ c,W.heap[gb]?=some (.cells c 148 (0,0))
 tr:∃ c,W.heap[rb]?=some (.cells c 149 (0,0))
section
variable {w W W':World} {s:SesD} {x:PS} {yb xb ab gb rb cb f t:Nat} {F F':List Nat} {L L':List ByteArray}
theorem Chn.types (h:Chn W cb s.cls s.cap L F) {k:Nat} (hk:k∈F):∃ c e,W.heap[k]?=some (.cells c e (0,0))∧(e=213∨e=9):=by
 obtain⟨sv,h1,h2,-,rfl⟩:=h
 simp only[List.mem_cons,Option.mem_toList] at hk
 rcases hk with rfl | hk
 ·exact⟨_,_,h1,.inl rfl⟩
 ·obtain⟨c,hc⟩:=ownBlock_type h2 hk
  exact⟨c,9,hc,.inr rfl⟩
theorem Ch2.frm (h:Ch2 w s x yb xb ab gb rb f W) (hf:Frm [] W W'):Ch2 w s x yb xb ab gb rb f W':=by
 obtain⟨ca,cg,hx⟩:=h.hx
 obtain⟨cur,ha⟩:=h.ha
 obtain⟨c1,t1⟩:=h.tg
 obtain⟨c2,t2⟩:=h.tr
 obtain⟨cr,hr⟩:=h.rowf
 refine⟨h.fr.trans hf,h.new,⟨ca,cg,hf.at hx (by simp)⟩,⟨cur,hf.at ha (by simp)⟩,fun i hi=>?_,fun i hi hn=>?_,⟨cr,hf.keep hr⟩,fun k hk=>?_,⟨c1,hf.at t1 (by simp)⟩,c2,hf.at t2 (by simp)⟩
 ·obtain⟨bb,a1,a2,a3⟩:=h.act i hi
  exact⟨bb,hf.keep a1,hf.keep a2,a3⟩
 ·obtain⟨rv,a1,a2⟩:=h.row i hi hn
  exact⟨rv,hf.keep a1,a2⟩
 ·obtain⟨c,G,a1,a2⟩:=h.chs k hk
  exact⟨c,G,hf.keep a1,a2⟩
theorem ch2_mk {w3 w5:World} {cab cgb crb n:Nat} {curg curr:Array Value} (hn:s.roles.length=n) (hok:PSok s x) (hfl:f < s.roles.length) (fr:Frm [] w w5) (f35:Frm [] w3 w5) (n1:w.heap.size≤xb) (n2:w.heap.size≤ab) (n3:w.heap.size≤gb) (n4:w3.heap.size≤rb)
  (hx:w3.heap[xb]?=some (.cells #[.pointer (some ⟨yb,0,none⟩),.slice (some ⟨ab,0,none⟩) n cab,.slice (some ⟨gb,0,none⟩) n cgb] 140 (0,0))) {cura:Array Value} (ha:w3.heap[ab]?=some (.cells cura 143 (0,0))) (hae:∀ (i:Nat) a,(actsP s x)[i]?=some a→AoAt w w3 ab (i * 2) a)
  (hg:w5.heap[gb]?=some (.cells curg 148 (0,0))) (hg3:w3.heap[gb]?=some (.cells curg 148 (0,0))) (hge:∀ (i:Nat) R,x.ways[i]?=some R→WoAt s.cls s.cap w w3 gb (i * 1) R) (hr:w5.heap[rb]?=some (.cells curr 149 (0,0))) (hre:∀ (k:Nat) M,(x.ways.getD f [])[k]?=some M→CoAt s.cls s.cap w w5 rb (k * 1) M) :
  Ch2 w s x yb xb ab gb rb f (w5.setCell ⟨gb,f,none⟩ (.slice (some ⟨rb,0,none⟩) n crb)):=by
 have hF:Frm [gb] w5 (w5.setCell ⟨gb,f,none⟩ (.slice (some ⟨rb,0,none⟩) n crb)):=(Frm.refl _ _).setCell _ (.inl (by simp)) _
 have hb:=block_setCell hg f (.slice (some ⟨rb,0,none⟩) n crb)
 have x5:=f35.at hx (by simp)
 have a5:=f35.at ha (by simp)
 have nx:xb∉[gb]:=fun e=>by simp at e;subst e;rw[x5] at hg;cases hg
 have na:ab∉[gb]:=fun e=>by simp at e;subst e;rw[a5] at hg;cases hg
 have nr:rb∉[gb]:=fun e=>by simp at e;subst e;rw[hr] at hg;cases hg
 have hgf:f < curg.size:=by
  obtain⟨v,h1,-⟩:=hge f _ (some_getD (d:=[]) (by rw[hok.wl];exact hfl))
  rw[Nat.mul_one,cell_of hg3] at h1
  exact(Array.getElem?_eq_some_iff.1 h1).1
 have hs5:=f35.size
 have hs0:=lt_of_block hg3
 refine⟨fr.then hF (by intro y hy;simp at hy;subst hy;exact .inr n3),⟨n1,n2,n3,by omega⟩,⟨cab,cgb,by rw[hn];exact hF.at x5 nx⟩,⟨cura,hF.at a5 na⟩,fun i hi=>?_,fun i hi hne=>?_,⟨crb,?_⟩,fun k hk=>?_,⟨_,hb⟩,curr,hF.at hr nr⟩
 ·obtain⟨bb,b1,b2,b3⟩:=hae i _ (actsP_at hi)
  exact⟨bb,hF.cellAt (f35.keep b1) na,hF.cellAt (f35.keep b2) na,b3⟩
 ·obtain⟨v,b1,b2⟩:=hge i _ (some_getD (d:=[]) (by rw[hok.wl];exact hi))
  rw[Nat.mul_one] at b1
  refine⟨v,?_,b2⟩
  rw[cell_of hb,Array.getElem?_setIfInBounds_ne (by omega),← cell_of hg3]
  exact b1
 ·rw[cell_of hb,Array.getElem?_setIfInBounds_self_of_lt hgf,hn]
 ·obtain⟨c,G,b1,b2⟩:=hre k _ (some_getD (d:=[]) (by rw[hok.wr f hfl];exact hk))
  rw[Nat.mul_one] at b1
  exact⟨c,G,hF.cellAt b1 nr,b2⟩
theorem Ch2.fin {w7:World} (h:Ch2 w s x yb xb ab gb rb f W) (hf:Frm [] W w7) (hc:Chn w7 cb s.cls s.cap L F) (hF:∀ k∈F,W.heap.size≤k) (ht:t < s.roles.length):ChS w s x yb xb ab gb rb cb f t F L (w7.setCell ⟨rb,t,none⟩ (.pointer (some ⟨cb,0,none⟩))):=by
 have h7:=h.frm hf
 obtain⟨ca,cg,hx⟩:=h7.hx
 obtain⟨cur,ha⟩:=h7.ha
 obtain⟨c1,t1⟩:=h7.tg
 obtain⟨c2,t2⟩:=h7.tr
 obtain⟨cr,hr⟩:=h7.rowf
 have hS:Frm [rb] w7 (w7.setCell ⟨rb,t,none⟩ (.pointer (some ⟨cb,0,none⟩))):=(Frm.refl _ _).setCell _ (.inl (by simp)) _
 have hb:=block_setCell t2 t (.pointer (some ⟨cb,0,none⟩))
 have nx:xb∉[rb]:=fun e=>by simp at e;subst e;rw[hx] at t2;cases t2
 have na:ab∉[rb]:=fun e=>by simp at e;subst e;rw[ha] at t2;cases t2
 have ng:gb∉[rb]:=fun e=>by simp at e;subst e;rw[t1] at t2;cases t2
 have nF:∀ k∈F,k∉[rb]:=fun k hk e=>by
  obtain⟨c,e',a1,a2⟩:=hc.types hk
  simp at e;subst e
  rw[t2] at a1;cases a1
  revert a2;decide
 have hsz:t < c2.size:=by
  obtain⟨c,G,a1,-⟩:=h7.chs t ht
  rw[cell_of t2] at a1
  exact(Array.getElem?_eq_some_iff.1 a1).1
 have hs:=h.fr.size
 refine⟨h7.fr.then hS (by intro y hy;simp at hy;subst hy;exact .inr h.new.2.2.2),⟨h.new.1,h.new.2.1,h.new.2.2.1,h.new.2.2.2,fun k hk=>by have:=hF k hk;omega⟩,⟨ca,cg,hS.at hx nx⟩,⟨cur,hS.at ha na⟩,fun i hi=>?_,fun i hi hn=>?_,⟨cr,hS.cellAt hr ng⟩,fun k hk hn=>?_,?_,hc.frm hS nF,⟨c1,(0,0),hS.at t1 ng⟩,_,(0,0),hb⟩
 ·obtain⟨bb,a1,a2,a3⟩:=h7.act i hi
  exact⟨bb,hS.cellAt a1 na,hS.cellAt a2 na,a3⟩
 ·obtain⟨rv,a1,a2⟩:=h7.row i hi hn
  exact⟨rv,hS.cellAt a1 ng,a2⟩
 ·obtain⟨c,G,a1,a2⟩:=h7.chs k hk
  refine⟨c,G,?_,a2⟩
  rw[cell_of hb,Array.getElem?_setIfInBounds_ne (by omega),← cell_of t2]
  exact a1
 ·rw[cell_of hb,Array.getElem?_setIfInBounds_self_of_lt hsz]
theorem ChS.frm (h:ChS w s x yb xb ab gb rb cb f t F L W) (hf:Frm [] W W'):ChS w s x yb xb ab gb rb cb f t F L W':=by
 obtain⟨ca,cg,hx⟩:=h.hx
 obtain⟨cur,ha⟩:=h.ha
 obtain⟨⟨c1,f1,t1⟩,c2,f2,t2⟩:=h.types
 obtain⟨cr,hr⟩:=h.rowf
 refine⟨h.fr.trans hf,h.new,⟨ca,cg,hf.at hx (by simp)⟩,⟨cur,hf.at ha (by simp)⟩,fun i hi=>?_,fun i hi hn=>?_,⟨cr,hf.keep hr⟩,fun k hk hn=>?_,hf.keep h.cht,h.chn.frm hf (by simp),⟨c1,f1,hf.at t1 (by simp)⟩,c2,f2,hf.at t2 (by simp)⟩
 ·obtain⟨bb,a1,a2,a3⟩:=h.act i hi
  exact⟨bb,hf.keep a1,hf.keep a2,a3⟩
 ·obtain⟨rv,a1,a2⟩:=h.row i hi hn
  exact⟨rv,hf.keep a1,a2⟩
 ·obtain⟨c,G,a1,a2⟩:=h.chs k hk hn
  exact⟨c,G,hf.keep a1,a2⟩
theorem ChS.chan (h:ChS w s x yb xb ab gb rb cb f t F L W) (hc:ChnTo W cb s.cls s.cap L' F W'):∃ F',ChS w s x yb xb ab gb rb cb f t F' L' W':=by
 obtain⟨F',k1,k2,k3⟩:=hc
 obtain⟨ca,cg,hx⟩:=h.hx
 obtain⟨cur,ha⟩:=h.ha
 obtain⟨⟨c1,f1,t1⟩,c2,f2,t2⟩:=h.types
 obtain⟨cr,hr⟩:=h.rowf
 have nx:xb∉F:=fun hk=>by obtain⟨c,e,a1,a2⟩:=h.chn.types hk;rw[hx] at a1;cases a1;revert a2;decide
 have na:ab∉F:=fun hk=>by obtain⟨c,e,a1,a2⟩:=h.chn.types hk;rw[ha] at a1;cases a1;revert a2;decide
 have ng:gb∉F:=fun hk=>by obtain⟨c,e,a1,a2⟩:=h.chn.types hk;rw[t1] at a1;cases a1;revert a2;decide
 have nr:rb∉F:=fun hk=>by obtain⟨c,e,a1,a2⟩:=h.chn.types hk;rw[t2] at a1;cases a1;revert a2;decide
 have hs:=h.fr.size
 refine⟨F',h.fr.then k2 (fun k hk=>.inr (h.new.2.2.2.2 k hk)),⟨h.new.1,h.new.2.1,h.new.2.2.1,h.new.2.2.2.1,fun k hk=>?_⟩,⟨ca,cg,k2.at hx nx⟩,⟨cur,k2.at ha na⟩,fun i hi=>?_,fun i hi hn=>?_,⟨cr,k2.cellAt hr ng⟩,fun k hk hn=>?_,k2.cellAt h.cht nr,k1,⟨c1,f1,k2.at t1 ng⟩,c2,f2,k2.at t2 nr⟩
 ·rcases k3 k hk with a | a
  ·exact h.new.2.2.2.2 k a
  ·omega
 ·obtain⟨bb,a1,a2,a3⟩:=h.act i hi
  exact⟨bb,k2.cellAt a1 na,k2.cellAt a2 na,a3⟩
 ·obtain⟨rv,a1,a2⟩:=h.row i hi hn
  exact⟨rv,k2.cellAt a1 ng,a2⟩
 ·obtain⟨c,G,a1,a2⟩:=h.chs k hk hn
  exact⟨c,G,k2.cellAt a1 nr,a2⟩
theorem ChS.ways (h:ChS w s x yb xb ab gb rb cb f t F L W) (hx:PSok s x) (hf:f < s.roles.length) (ht:t < s.roles.length):∃ cg ca,W.heap[xb]?=some (.cells #[.pointer (some ⟨yb,0,none⟩),.slice (some ⟨ab,0,none⟩) s.roles.length ca,.slice (some ⟨gb,0,none⟩) s.roles.length cg] 140 (0,0)) ∧
  Arr 1 (RwAt s.cls s.cap) W (.slice (some ⟨gb,0,none⟩) s.roles.length cg) (setWay x.ways f t L):=by
 obtain⟨ca,cg,hxb⟩:=h.hx
 obtain⟨cr,hr⟩:=h.rowf
 refine⟨cg,ca,hxb,some ⟨gb,0,none⟩,cg,by rw[setWay_length,hx.wl],fun i R hR=>⟨gb,0,rfl,?_⟩⟩
 have hi:=lt_of_some hR
 rw[setWay_length,hx.wl] at hi
 rw[Nat.zero_add,Nat.mul_one]
 unfold setWay at hR
 rw[List.getElem?_set] at hR
 by_cases e:f=i
 ·subst e
  rw[if_pos rfl,if_pos (by rw[hx.wl];exact hi)] at hR
  cases hR
  refine⟨_,hr,some ⟨rb,0,none⟩,cr,by rw[List.length_set,hx.wr f hf],fun k M hM=>⟨rb,0,rfl,?_⟩⟩
  have hk:=lt_of_some hM
  rw[List.length_set,hx.wr f hf] at hk
  rw[Nat.zero_add,Nat.mul_one]
  rw[List.getElem?_set] at hM
  by_cases e2:t=k
  ·subst e2
   rw[if_pos rfl,if_pos (by rw[hx.wr f hf];exact hk)] at hM
   cases hM
   exact⟨cb,F,h.cht,h.chn⟩
  ·rw[if_neg e2] at hM
   obtain⟨c,G,a1,a2⟩:=h.chs k hk (fun e=>e2 e.symm)
   have:x.way f k=M:=by unfold PS.way wayOf;exact getD_some hM
   rw[this] at a2
   exact⟨c,G,a1,a2.frm h.fr (by simp)⟩
 ·rw[if_neg e] at hR
  obtain⟨rv,a1,a2⟩:=h.row i hi (fun e'=>e e'.symm)
  rw[getD_some hR] at a2
  exact⟨rv,a1,a2.frm h.fr⟩
theorem ChS.str (h:ChS w s x yb xb ab gb rb cb f t F L W) (hx:PSok s x) (hf:f < s.roles.length) (ht:t < s.roles.length) (ho:PSok s { x with ways:=setWay x.ways f t L }):StR W s yb xb { x with ways:=setWay x.ways f t L }:=by
 obtain⟨cg,ca,h1,h2⟩:=h.ways hx hf ht
 refine⟨⟨_,_,h1,⟨some ⟨ab,0,none⟩,ca,by rw[actsP_len],fun i a ha=>⟨ab,0,rfl,?_⟩⟩,h2⟩,ho⟩
 have hi:i < s.roles.length:=by have:=lt_of_some ha;rwa [actsP_len] at this
 rw[actsP_at hi] at ha
 cases ha
 obtain⟨bb,a1,a2,a3⟩:=h.act i hi
 rw[Nat.zero_add]
 exact⟨bb,a1,a2,a3.frm h.fr⟩
end
end Go.Proofs.YtemjlpahohmajaaGreat
namespace Go.Proofs.YtemjlpahohmajaaGreat
open Go.RowKit Go.BigFrame
theorem Arr.imp {α:Type} {k:Nat} {At At':World→Nat→Nat→α→Prop} {w w':World} {v:Value} {xs:List α} (hA:∀ b o x,At w b o x→At' w' b o x) (h:Arr k At w v xs):Arr k At' w' v xs:=by
 obtain⟨ao,cap,h1,h2⟩:=h
 refine⟨ao,cap,h1,fun i x hx=>?_⟩
 obtain⟨b,o,e,h3⟩:=h2 i x hx
 exact⟨b,o,e,hA _ _ _ h3⟩
theorem Fr.row {α:Type} {k:Nat} {e:TypeId} {At:World→Nat→Nat→α→Prop} {w w':World} {xs:List α} {v:Value} (h:Fr k e At w xs v w') (hn:xs.length≠0) :
  ∃ g cap cur,v=.slice (some ⟨g,0,none⟩) xs.length cap∧w.heap.size≤g∧w'.heap[g]?=some (.cells cur e (0,0))∧∀ (i:Nat) x,xs[i]?=some x→At w' g (i * k) x:=by
 rcases h.own with e | ⟨news,ho⟩
 ·rw[e] at hn;simp at hn
 ·obtain⟨g,cap,cur,rfl,hg,hc⟩:=own_block ho hn
  refine⟨g,cap,cur,rfl,hg,hc,fun i x hx=>?_⟩
  obtain⟨b,o,e,ha⟩:=h.arr.get hx
  cases e
  rw[Nat.zero_add] at ha
  exact ha
set_option maxHeartbeats 4000000 in
set_option maxRecDepth 100000 in
theorem pChange_any (s:SesD) (yb sb f t:Nat) (x:PS) (w:World) (hx:StR w s yb sb x) (hf:f < s.roles.length) (ht:t < s.roles.length) (h4:s.roles.length≤4) :
  Calls Tryz.prog 64 #[.pointer (some ⟨sb,0,none⟩),.int .i64 f,.int .i64 t] w (RetV fun v w'=>∃ xb ab gb rb cb F,v=.tuple #[.pointer (some ⟨xb,0,none⟩),.pointer (some ⟨cb,0,none⟩)]∧ChS w s x yb xb ab gb rb cb f t F (x.way f t) w'):=by
 have HST:=Lib.hid hx
 obtain⟨av,wv,h1,h2,h3⟩:=hx.out
 have hok:=hx.ok
 obtain⟨aa,ca,rfl⟩:=h2.shape
 obtain⟨aw,cw,rfl⟩:=h3.shape
 obtain⟨n,hn⟩:∃ n,s.roles.length=n:=⟨_,rfl⟩
 have CA:Hid (∀ V,Frm [] w V→Calls Tryz.prog 107 #[.slice aa n ca] V (RetV (Fr 2 143 (AoAt w) V (actsP s x)))):=Lib.hid fun V hV=>by
  have:=clActorAt_any w (.slice aa (actsP s x).length ca) (actsP s x) V (h2.imp fun _ _ _ h=>AoAt.frm h hV) (by rw[actsP_len];omega)
  rwa [actsP_len,hn] at this
 have CW:Hid (∀ V,Frm [] w V→Calls Tryz.prog 108 #[.slice aw n cw] V (RetV (Fr 1 148 (WoAt s.cls s.cap w) V x.ways))):=Lib.hid fun V hV=>by
  have:=clWaysAt_any s.cls s.cap w (.slice aw x.ways.length cw) x.ways V (h3.imp fun _ _ _ h=>WoAt.frm h hV) (by rw[hok.wl];omega)
  rwa [hok.wl,hn] at this
 rw[actsP_len,hok.wl,hn] at h1
 have HS:Hid (∀ V,Frm [] w V→V.cell? ⟨sb,0,none⟩=some (.pointer (some ⟨yb,0,none⟩))∧V.cell? ⟨sb,1,none⟩=some (.slice aa n ca)∧V.cell? ⟨sb,2,none⟩=some (.slice aw n cw)):=Lib.hid fun V hV=>⟨hV.keep (cell_of h1 0),hV.keep (cell_of h1 1),hV.keep (cell_of h1 2)⟩
 have HN:=Lib.hid hn;have HOK:=Lib.hid hok;have HFL:=Lib.hid hf;have HTL:=Lib.hid ht
 have hfn:(f:Int) < (n:Int):=by omega
 have htn:(t:Int) < (n:Int):=by omega
 clear h1 h2 h3 hx hok hn hf ht
 go_enter Tryz.func64,Tryz.ntmps64
 go_upto_region 1 with fail
 go_region_held3 (fun V=>V.cell? ⟨sb,0,none⟩=some (.pointer (some ⟨yb,0,none⟩))∧V.cell? ⟨sb,1,none⟩=some (.slice aa n ca)∧V.cell? ⟨sb,2,none⟩=some (.slice aw n cw))
  (first
   | exact HS.out _ ((Frm.refl [] w).drew)
   | exact HS.out _ F1.out
   | exact HS.out _ F2.out
   | exact HS.out _ (F2.out.alloc _))
  (first
   | (go_at_call 107;go_must (refine(CA.out _ ((Frm.refl [] w).drew)).mono ?_;rintro e w1 ⟨u,rfl,hr⟩;have F1:Hid (Frm [] w w1):=Lib.hid ((Frm.refl [] w).drew.trans hr.frm);have hrr:=hr.row (by rw[actsP_len,HN.out];omega);rw[actsP_len,HN.out] at hrr;obtain⟨ab,cab,cura,rfl,hab,hba,hae⟩:=hrr;have HAB:=Lib.hid hab;have HBA:=Lib.hid hba;have HAE:=Lib.hid hae;clear hab hba hae hr))
   | (go_at_call 108;go_must (refine(CW.out _ F1.out).mono ?_;rintro e w2 ⟨u,rfl,hr⟩;have F2:Hid (Frm [] w w2):=Lib.hid (F1.out.trans hr.frm);have F12:=Lib.hid hr.frm;have hrr:=hr.row (by rw[HOK.out.wl,HN.out];omega);rw[HOK.out.wl,HN.out] at hrr;obtain⟨gb,cgb,curg,rfl,hgb,hbg,hge⟩:=hrr;have HGB:=Lib.hid hgb;have HBG:=Lib.hid hbg;have HGE:=Lib.hid hge;clear hgb hbg hge hr)))
 obtain⟨w3,hw3⟩:∃ w3,w2.alloc (.cells #[.pointer (some ⟨yb,0,none⟩),.slice (some ⟨ab,0,none⟩) n cab,.slice (some ⟨gb,0,none⟩) n cgb] 140)=w3:=⟨_,rfl⟩
 have F3:Hid (Frm [] w w3):=Lib.hid (by rw[← hw3];exact F2.out.alloc _)
 have F13:Hid (Frm [] w1 w3):=Lib.hid (by rw[← hw3];exact F12.out.alloc _)
 have F23:Hid (Frm [] w2 w3):=Lib.hid (by rw[← hw3];exact(Frm.refl _ _).alloc _)
 have X3:Hid (w3.heap[w2.heap.size]?=some (.cells #[.pointer (some ⟨yb,0,none⟩),.slice (some ⟨ab,0,none⟩) n cab,.slice (some ⟨gb,0,none⟩) n cgb] 140 (0,0))):=Lib.hid (by rw[← hw3];exact heap_alloc_new _ _)
 have HE3:=Lib.hid hw3
 have hfl:(x.ways)[f]?=some (x.ways.getD f []):=some_getD (by rw[HOK.out.wl];exact HFL.out)
 obtain⟨rvf,q0,q1⟩:=HGE.out f _ hfl
 obtain⟨ar,cr,rfl⟩:=q1.shape
 rw[HOK.out.wr f HFL.out,HN.out,Nat.mul_one] at q0
 have CR:Hid (∀ V,Frm [] w V→Calls Tryz.prog 109 #[.slice ar n cr] V (RetV (Fr 1 149 (CoAt s.cls s.cap w) V (x.ways.getD f [])))):=Lib.hid fun V hV=>by
  have:=clRowAt_any s.cls s.cap w (.slice ar (x.ways.getD f []).length cr) (x.ways.getD f []) V (q1.imp fun _ _ _ h=>CoAt.frm h hV) (by rw[HOK.out.wr f HFL.out];omega)
  rwa [HOK.out.wr f HFL.out,HN.out] at this
 have HQ0:=Lib.hid q0
 have HS3:Hid (∀ V,Frm [] w3 V→V.cell? ⟨w2.heap.size,2,none⟩=some (.slice (some ⟨gb,0,none⟩) n cgb)∧V.cell? ⟨gb,f,none⟩=some (.slice ar n cr)):=Lib.hid fun V hV=>⟨hV.keep (cell_of X3.out 2),(F23.out.trans hV).keep HQ0.out⟩
 clear hw3 hfl q0 q1 CA CW HS
 go_upto_region 2 with fail
 rw[HE3.out]
 have HAE3:Hid (∀ (i:Nat) a,(actsP s x)[i]?=some a→AoAt w w3 ab (i * 2) a):=Lib.hid fun i a ha=>(HAE.out i a ha).frm F13.out
 have HGE3:Hid (∀ (i:Nat) R,x.ways[i]?=some R→WoAt s.cls s.cap w w3 gb (i * 1) R):=Lib.hid fun i R hR=>(HGE.out i R hR).frm F23.out
 have BA3:=Lib.hid (F13.out.at HBA.out (by simp))
 have BG3:=Lib.hid (F23.out.at HBG.out (by simp))
 have HL:Hid (w.heap.size≤w2.heap.size∧w.heap.size≤ab∧w.heap.size≤gb):=Lib.hid ⟨F2.out.size,HAB.out,Nat.le_trans F1.out.size HGB.out⟩
 obtain⟨xb,hxb⟩:∃ xb,w2.heap.size=xb:=⟨_,rfl⟩
 rw[hxb] at HS3 X3 HL ⊢
 clear hxb F12 HAE HGE HBA HBG HAB HGB HE3 F13 F23 HQ0 F1 F2
 obtain⟨y1,y2⟩:=HS3.out w3 (Frm.refl _ _)
 have hgl:=cell_lt y2
 go_cut [] (fun wc=>∃ rb,Ch2 w s x yb xb ab gb rb f wc)
 case first =>
  go_region_law (first
   | (go_simp;go_at_call 109;go_must (refine(CR.out _ F3.out.drew).mono ?_;rintro e w5 ⟨u,rfl,hr⟩;have F35:Hid (Frm [] w3 w5):=Lib.hid ((Frm.refl [] w3).drew.trans hr.frm);have hrr:=hr.row (by rw[HOK.out.wr f HFL.out,HN.out];omega);rw[HOK.out.wr f HFL.out,HN.out] at hrr;obtain⟨rb,crb,curr,rfl,hrb,hbr,hre⟩:=hrr;have HRB:=Lib.hid hrb;have HBR:=Lib.hid hbr;have HRE:=Lib.hid hre;have bg5:=F35.out.at BG3.out (by simp);obtain⟨cx5,cg5⟩:=HS3.out _ F35.out;have fg5:=free_of bg5 f;have BG5:=Lib.hid bg5;clear hrb hbr hre hr bg5)))
  all_goals
   go_wp2
   go_meet
   exact⟨rb,ch2_mk HN.out HOK.out HFL.out (F3.out.trans F35.out) F35.out HL.out.1 HL.out.2.1 HL.out.2.2 HRB.out X3.out BA3.out HAE3.out BG5.out BG3.out HGE3.out HBR.out HRE.out⟩
 case rest =>
  obtain⟨rb,h2⟩:=hcut
  have H2:=Lib.hid h2
  clear h2 y1 y2 hgl HS3 X3 HAE3 HGE3 BA3 BG3 HL CR
  have h3:=H2.out
  obtain⟨cax,cgx,hx3⟩:=h3.hx
  obtain⟨cr3,hr3⟩:=h3.rowf
  obtain⟨c0,G0,hc3,hch⟩:=h3.chs t HTL.out
  obtain⟨cg3,tg3⟩:=h3.tg
  obtain⟨ct3,tr3⟩:=h3.tr
  rw[HN.out] at hx3 hr3
  have FW:=Lib.hid h3.fr
  have HCH:=Lib.hid hch
  have HS4:Hid (∀ V,Frm [] wc V→V.cell? ⟨xb,2,none⟩=some (.slice (some ⟨gb,0,none⟩) n cgx)∧V.cell? ⟨gb,f,none⟩=some (.slice (some ⟨rb,0,none⟩) n cr3)∧V.cell? ⟨rb,t,none⟩=some (.pointer (some ⟨c0,0,none⟩))∧V.frozen? ⟨rb,t,none⟩=false):=
   Lib.hid fun V hV=>⟨hV.keep (cell_of hx3 2),hV.keep hr3,hV.keep hc3,free_of (hV.at tr3 (by simp)) t⟩
  have CC:=Lib.hid (copy_any (hch.frm h3.fr.drew (by simp)))
  have y1:=cell_of hx3 2
  have hl1:=cell_lt y1
  have hl2:=cell_lt hr3
  have hl3:=cell_lt hc3
  clear h3 hx3 tg3 tr3 hch
  go_upto_region 3 with fail
  go_cut [] (fun wd=>∃ cb F,ChS w s x yb xb ab gb rb cb f t F (x.way f t) wd)
  case first =>
   go_region_law (first
    | (go_simp;go_at_call 110;go_must (refine CC.out.mono ?_;rintro e w7 ⟨u,rfl,cb,F,rfl,hcn,hfr,hF⟩;have F7:Hid (Frm [] wc w7):=Lib.hid ((Frm.refl [] wc).drew.trans hfr);have HCN:=Lib.hid hcn;have HFF:=Lib.hid hF;obtain⟨a1,a2,a3,a4⟩:=HS4.out _ F7.out;clear hcn hfr hF)))
   all_goals
    go_wp2
    go_meet
    exact⟨cb,F,H2.out.fin F7.out HCN.out HFF.out HTL.out⟩
  case rest =>
   obtain⟨cb,F,hcs⟩:=hcut
   have HCS:=Lib.hid hcs
   obtain⟨cax',cgx',hx4⟩:=hcs.hx
   obtain⟨cr4,hr4⟩:=hcs.rowf
   rw[HN.out] at hx4 hr4
   have HS5:Hid (∀ V,Frm [] wc V→V.cell? ⟨xb,2,none⟩=some (.slice (some ⟨gb,0,none⟩) n cgx')∧V.cell? ⟨gb,f,none⟩=some (.slice (some ⟨rb,0,none⟩) n cr4)∧V.cell? ⟨rb,t,none⟩=some (.pointer (some ⟨cb,0,none⟩))):=
    Lib.hid fun V hV=>⟨hV.keep (cell_of hx4 2),hV.keep hr4,hV.keep hcs.cht⟩
   clear hcs hx4 hr4 y1 hl1 hl2 hl3 hc3 hr3 HS4 CC H2
   go_upto_region 4 with fail
   refine wp_region_cq (by kernel_rfl) (by kernel_rfl) ?_
   repeat (first
    | go_big_quiet_skip
    | (refine wpQuiet_want (by rfl) (fun K hK=>?_)
       first
        | (refine quiet_move _ (by rfl) (hK _ ?_))
        | (refine quiet_assign _ (by rfl) (hK _ ?_))
        | (apply Exists.intro
           refine⟨fun w' hC=>?_,hK _ ?_⟩
           ·(unfold Oper.quietAt
             obtain⟨z1,z2,z3⟩:=HS5.out w' hC
             clear hC
             go_simp
             try exact⟨rfl,rfl⟩
             try rfl))
       clear hK K
       try simp only[nrm,Act.eval,nrq]))
   refine wpQuiet_nil ?_
   intro w9 hf9
   go_wp2
   go_ret2
   exact⟨_,rfl,xb,ab,gb,rb,cb,F,rfl,HCS.out.frm hf9⟩
end Go.Proofs.YtemjlpahohmajaaGreat
namespace Go.Proofs.YtemjlpahohmajaaGreat
open Go
def valsOf (b:List UInt8):Nat→List Int
 | 0=>[]
 | n + 1=>valsOf b n ++ [256 * ((b.getD (2 * n) 0).toNat:Int) + ((b.getD (2 * n + 1) 0).toNat:Int)]
def fitsV (cs:List CtrD) (vs:List Int):Bool:=(cs.zip vs).all fun e=>decide (e.2≤e.1.lim)
def parseRole (r:RolD):List UInt8→Option (Nat × List Int × List UInt8)
 | []=>none
 | a :: b =>
   if r.sts.length≤a.toNat then none
   else if b.length < 2 * r.ctrs.length then none
   else if fitsV r.ctrs (valsOf b r.ctrs.length) then some (a.toNat,valsOf b r.ctrs.length,b.drop (2 * r.ctrs.length))
   else none
def parseRoles (s:SesD) (b:List UInt8):Nat→Option (List Nat × List (List Int) × List UInt8)
 | 0=>some ([],[],b)
 | n + 1=>match parseRoles s b n with
   | none=>none
   | some (ps,vs,b')=>match parseRole (s.rol n) b' with
     | none=>none
     | some (p,v,b'')=>some (ps ++ [p],vs ++ [v],b'')
def parseMsg (cap:Int) (L:List ByteArray):List UInt8→Option (List ByteArray × List UInt8)
 | []=>none
 | n :: b =>
   if b.length < n.toNat then none
   else if putE cap L ⟨(b.take n.toNat).toArray⟩=0 then some (L ++ [⟨(b.take n.toNat).toArray⟩],b.drop n.toNat)
   else none
def parseMsgs (cap:Int) (b:List UInt8):Nat→Option (List ByteArray × List UInt8)
 | 0=>some ([],b)
 | n + 1=>match parseMsgs cap b n with
   | none=>none
   | some (L,b')=>parseMsg cap L b'
def parseWay (cap:Int) (i k:Nat) (b:List UInt8):Option (List ByteArray × List UInt8):=
 if i=k then some ([],b)
 else match b with
  | []=>none
  | n :: b=>parseMsgs cap b n.toNat
def parseRow (cap:Int) (i:Nat) (b:List UInt8):Nat→Option (List (List ByteArray) × List UInt8)
 | 0=>some ([],b)
 | k + 1=>match parseRow cap i b k with
   | none=>none
   | some (R,b')=>match parseWay cap i k b' with
     | none=>none
     | some (L,b'')=>some (R ++ [L],b'')
def parseWays (s:SesD) (b:List UInt8):Nat→Option (List (List (List ByteArray)) × List UInt8)
 | 0=>some ([],b)
 | n + 1=>match parseWays s b n with
   | none=>none
   | some (W,b')=>match parseRow s.cap n b' s.roles.length with
     | none=>none
     | some (R,b'')=>some (W ++ [R],b'')
def parseP (s:SesD) (b:List UInt8):Option PS:=
 match parseRoles s b s.roles.length with
 | none=>none
 | some (ps,vs,b')=>match parseWays s b' s.roles.length with
   | none=>none
   | some (W,_)=>some ⟨ps,vs,W⟩
def decP (s:SesD) (b:List UInt8):Option PS:=
 match parseP s b with
 | none=>none
 | some x=>if keyP s x=b then some x else none
def canon (s:SesD) (x:PS):PS:={ x with ways:=x.ways.map fun R=>R.map (keyL s.cls) }
section
variable {s:SesD} {x:PS}
theorem keyL_nil (cls:Int):keyL cls []=[]:=by
 have:=keyL_length cls []
 exact List.length_eq_zero_iff.1 (by simpa using this)
theorem canon_way (s:SesD) (x:PS) (i k:Nat):(canon s x).way i k=keyL s.cls (x.way i k):=by
 show ((x.ways.map fun R=>R.map (keyL s.cls)).getD i []).getD k []=keyL s.cls ((x.ways.getD i []).getD k [])
 simp only[List.getD_eq_getElem?_getD,List.getElem?_map]
 cases x.ways[i]? with
 | none=>simp[keyL_nil]
 | some R =>
   simp only[Option.map_some,Option.getD_some,List.getElem?_map]
   cases R[k]? with
   | none=>simp[keyL_nil]
   | some L=>rfl
theorem keyL_idem (cls:Int) (L:List ByteArray):keyL cls (keyL cls L)=keyL cls L:=by
 by_cases h:cls=2
 ·subst h;exact rl_keys (cls:=2) (by unfold Rl;rw[if_pos rfl];exact keyL_perm L)
 ·unfold keyL;rw[if_neg h,if_neg h]
theorem canon_key (s:SesD) (x:PS):keyP s (canon s x)=keyP s x:=by
 unfold keyP
 have e1:keyRole (canon s x)=keyRole x:=rfl
 have e2:keyWay s (canon s x)=keyWay s x:=by
  funext i k
  unfold keyWay
  rw[canon_way,keyL_length,keyL_idem]
 rw[e1,e2]
theorem parseMsgs_key {cap:Int}:∀ (L:List ByteArray) (rest:List UInt8),(∀ m∈L,1≤m.size∧m.size≤32)→(L.length:Int)≤cap→∀ n,n≤L.length →
  parseMsgs cap (byt (keyB L) ++ rest) n=some (L.take n,byt (keyB (L.drop n)) ++ rest):=by
 intro L rest hs hc n hn
 induction n with
 | zero=>simp[parseMsgs]
 | succ n ih =>
   rw[parseMsgs,ih (by omega)]
   simp only
   have hlt:n < L.length:=by omega
   obtain⟨h1,h2⟩:=hs L[n] (List.getElem_mem hlt)
   rw[List.drop_eq_getElem_cons hlt]
   have e1:byt (keyB (L[n] :: L.drop (n + 1))) ++ rest=UInt8.ofNat L[n].size :: (byt L[n] ++ (byt (keyB (L.drop (n + 1))) ++ rest)):=by
    rw[keyB_bytes,List.flatMap_cons,← keyB_bytes];simp
   rw[e1]
   have hn8:(UInt8.ofNat L[n].size).toNat=L[n].size:=by simp;omega
   have hl:(byt L[n]).length=L[n].size:=byt_length _
   unfold parseMsg
   simp only[hn8]
   have e2:(byt L[n] ++ (byt (keyB (L.drop (n + 1))) ++ rest)).take L[n].size=byt L[n]:=by rw[← hl];exact List.take_left
   have e3:(byt L[n] ++ (byt (keyB (L.drop (n + 1))) ++ rest)).drop L[n].size=byt (keyB (L.drop (n + 1))) ++ rest:=by rw[← hl];exact List.drop_left
   have e4:(⟨(byt L[n]).toArray⟩:ByteArray)=L[n]:=byt_inj (by simp[byt])
   rw[if_neg (by rw[List.length_append];omega),e2,e3,e4,if_pos]
   ·rw[List.take_succ_eq_append_getElem hlt]
   ·unfold putE
    rw[if_neg (by omega),if_neg (by rw[List.length_take];omega)]
theorem parseWay_key (hx:PSok s x) (h:SesOk s) {i k:Nat} (hi:i < s.roles.length) (hk:k < s.roles.length) (rest:List UInt8) :
  parseWay s.cap i k (keyWay s x i k ++ rest)=some (keyL s.cls (x.way i k),rest):=by
 unfold parseWay keyWay
 by_cases e:i=k
 ·subst e
  rw[if_pos rfl,if_pos rfl,hx.wd,keyL_nil];rfl
 ·rw[if_neg e,if_neg e]
  obtain⟨h1,h2⟩:=hx.wb i k hi hk
  have h4:=h.k4
  have hn8:(UInt8.ofNat (x.way i k).length).toNat=(keyL s.cls (x.way i k)).length:=by rw[keyL_length];simp;omega
  show parseMsgs s.cap (byt (keyB (keyL s.cls (x.way i k))) ++ rest) (UInt8.ofNat (x.way i k).length).toNat=_
  rw[hn8,parseMsgs_key _ _ (fun m hm=>h2 m (keyL_mem hm)) (by rw[keyL_length];exact h1) _ (Nat.le_refl _)]
  simp[keyB,byt]
theorem parseRow_key (hx:PSok s x) (h:SesOk s) {i:Nat} (hi:i < s.roles.length) (rest:List UInt8):∀ (n d:Nat),n + d=s.roles.length →
  parseRow s.cap i (cat (keyWay s x i) s.roles.length ++ rest) n=some (((x.ways.getD i []).map (keyL s.cls)).take n,(List.range' n d).flatMap (keyWay s x i) ++ rest):=by
 have hl:(x.ways.getD i []).length=s.roles.length:=hx.wr i hi
 have hcat:∀ n,cat (keyWay s x i) n=(List.range' 0 n).flatMap (keyWay s x i):=by
  intro n
  induction n with
  | zero=>rfl
  | succ n ih=>rw[cat,ih,← List.range'_append_1 (s:=0) (m:=n) (n:=1)];simp
 intro n
 induction n with
 | zero =>
   intro d hd
   obtain rfl:d=s.roles.length:=by omega
   rw[hcat];simp[parseRow]
 | succ n ih =>
   intro d hd
   rw[parseRow,ih (d + 1) (by omega)]
   simp only
   rw[List.range'_succ,List.flatMap_cons,List.append_assoc,parseWay_key hx h hi (by omega)]
   simp only
   congr 2
   have hlt:n < ((x.ways.getD i []).map (keyL s.cls)).length:=by rw[List.length_map];omega
   rw[List.take_succ_eq_append_getElem hlt,List.getElem_map]
   congr 3
   unfold PS.way wayOf
   rw[List.getD_eq_getElem?_getD (l:=x.ways.getD i []),List.getElem?_eq_getElem (by omega)];rfl
theorem cat_flat {α:Type} (f:Nat→List α):∀ n,cat f n=(List.range' 0 n).flatMap f
 | 0=>rfl
 | n + 1=>by rw[cat,cat_flat f n,← List.range'_append_1 (s:=0) (m:=n) (n:=1)];simp
theorem parseWays_key (hx:PSok s x) (h:SesOk s) (rest:List UInt8):∀ (n d:Nat),n + d=s.roles.length →
  parseWays s (cat (fun i=>cat (keyWay s x i) s.roles.length) s.roles.length ++ rest) n=some ((x.ways.map fun R=>R.map (keyL s.cls)).take n,(List.range' n d).flatMap (fun i=>cat (keyWay s x i) s.roles.length) ++ rest):=by
 intro n
 induction n with
 | zero =>
   intro d hd
   obtain rfl:d=s.roles.length:=by omega
   rw[cat_flat];simp[parseWays]
 | succ n ih =>
   intro d hd
   rw[parseWays,ih (d + 1) (by omega)]
   simp only
   rw[List.range'_succ,List.flatMap_cons,List.append_assoc,parseRow_key hx h (by omega) _ s.roles.length 0 (by omega)]
   simp only[List.range'_zero,List.flatMap_nil,List.nil_append]
   congr 2
   have hl:x.ways.length=s.roles.length:=hx.wl
   have hlt:n < (x.ways.map fun R=>R.map (keyL s.cls)).length:=by rw[List.length_map];omega
   rw[List.take_succ_eq_append_getElem hlt,List.getElem_map]
   congr 2
   have e:x.ways.getD n []=x.ways[n]'(by omega):=by rw[List.getD_eq_getElem?_getD,List.getElem?_eq_getElem];rfl
   rw[e,List.take_of_length_le]
   rw[List.length_map,← e,hx.wr n (by omega)]
   exact Nat.le_refl _
theorem valsOf_two:∀ (vs:List Int) (rest:List UInt8),(∀ v∈vs,0≤v∧v≤65535)→∀ n,n≤vs.length→valsOf (vs.flatMap two ++ rest) n=vs.take n:=by
 intro vs rest hv n hn
 have hlen:∀ l:List Int,(l.flatMap two).length=2 * l.length:=by
  intro l
  induction l with
  | nil=>rfl
  | cons a l ih=>rw[List.flatMap_cons,List.length_append,ih];simp[two];omega
 induction n with
 | zero=>rfl
 | succ n ih =>
   have hlt:n < vs.length:=by omega
   obtain⟨h0,h1⟩:=hv vs[n] (List.getElem_mem hlt)
   rw[valsOf,ih (by omega),List.take_succ_eq_append_getElem hlt]
   congr 2
   have e:vs.flatMap two ++ rest=(vs.take n).flatMap two ++ (two vs[n] ++ ((vs.drop (n + 1)).flatMap two ++ rest)):=by
    have e1:vs.flatMap two=((vs.take n) ++ vs[n] :: vs.drop (n + 1)).flatMap two:=by
     rw[← List.drop_eq_getElem_cons hlt,List.take_append_drop]
    rw[e1,List.flatMap_append,List.flatMap_cons];simp
   have hl:((vs.take n).flatMap two).length=2 * n:=by rw[hlen,List.length_take];omega
   have g:∀ j (hj:j < 2),(vs.flatMap two ++ rest).getD (2 * n + j) 0=(two vs[n]).getD j 0:=by
    intro j hj
    rw[e,List.getD_eq_getElem?_getD,List.getD_eq_getElem?_getD,List.getElem?_append_right (by omega),hl,List.getElem?_append_left (by simp[two];omega)]
    congr 2;omega
   have g0:=g 0 (by omega)
   have g1:=g 1 (by omega)
   rw[Nat.add_zero] at g0
   rw[g0,g1]
   simp only[two,List.getD_cons_zero,List.getD_cons_succ]
   obtain⟨m,hm⟩:=Int.eq_ofNat_of_zero_le h0
   rw[hm]
   simp only[Int.toNat_natCast]
   have:(UInt8.ofNat (m / 256)).toNat=m / 256:=by simp;omega
   have:(UInt8.ofNat (m % 256)).toNat=m % 256:=by simp
   omega
theorem bank_bound (h:SesOk s) (hx:PSok s x) {i:Nat} (hi:i < s.roles.length):∀ v∈x.bank i,0≤v∧v≤1000:=by
 intro v hv
 obtain⟨k,hk⟩:=List.getElem?_of_mem hv
 obtain⟨hl,hb⟩:=hx.vb i hi
 have hlt:=lt_of_some hk
 have hc:=some_getD (l:=(s.rol i).ctrs) (i:=k) (d:=dC) (by omega)
 have:=hb k _ hc
 rw[getD_some hk] at this
 have h2:=(h.at hi).cN _ (List.mem_of_getElem? hc)
 omega
theorem parseRole_key (h:SesOk s) (hx:PSok s x) {i:Nat} (hi:i < s.roles.length) (rest:List UInt8) :
  parseRole (s.rol i) (keyRole x i ++ rest)=some (x.at i,x.bank i,rest):=by
 obtain⟨hl,hb⟩:=hx.vb i hi
 have hp:=hx.pb i hi
 have hs:=(h.at hi).s24
 have e:(UInt8.ofNat (x.at i)).toNat=x.at i:=by simp;omega
 have hbb:=bank_bound h hx hi
 have hlen:∀ l:List Int,(l.flatMap two).length=2 * l.length:=by
  intro l
  induction l with
  | nil=>rfl
  | cons a l ih=>rw[List.flatMap_cons,List.length_append,ih];simp[two];omega
 have ev:valsOf ((x.bank i).flatMap two ++ rest) (s.rol i).ctrs.length=x.bank i:=by
  rw[valsOf_two _ _ (fun v hv=>by have:=hbb v hv;omega) _ (by omega),← hl,List.take_length]
 unfold keyRole
 show parseRole _ (_ :: ((x.bank i).flatMap two ++ rest))=_
 unfold parseRole
 simp only
 rw[e,if_neg (by omega),if_neg (by rw[List.length_append,hlen];omega),ev,if_pos]
 ·congr 3
  rw[← hl,← hlen];exact List.drop_left
 ·unfold fitsV
  rw[List.all_eq_true]
  intro p hp
  obtain⟨k,hk⟩:=List.getElem?_of_mem hp
  rw[List.getElem?_zip_eq_some] at hk
  have:=hb k p.1 hk.1
  rw[getD_some hk.2] at this
  simp;omega
theorem parseRoles_key (h:SesOk s) (hx:PSok s x) (rest:List UInt8):∀ (n d:Nat),n + d=s.roles.length →
  parseRoles s (cat (keyRole x) s.roles.length ++ rest) n=some (x.pos.take n,x.vals.take n,(List.range' n d).flatMap (keyRole x) ++ rest):=by
 intro n
 induction n with
 | zero =>
   intro d hd
   obtain rfl:d=s.roles.length:=by omega
   rw[cat_flat];simp[parseRoles]
 | succ n ih =>
   intro d hd
   rw[parseRoles,ih (d + 1) (by omega)]
   simp only
   rw[List.range'_succ,List.flatMap_cons,List.append_assoc,parseRole_key h hx (by omega)]
   simp only
   have h1:n < x.pos.length:=by rw[hx.pl];omega
   have h2:n < x.vals.length:=by rw[hx.vl];omega
   rw[List.take_succ_eq_append_getElem h1,List.take_succ_eq_append_getElem h2]
   have e1:x.at n=x.pos[n]:=by unfold PS.at;rw[List.getD_eq_getElem?_getD,List.getElem?_eq_getElem h1];rfl
   have e2:x.bank n=x.vals[n]:=by unfold PS.bank;rw[List.getD_eq_getElem?_getD,List.getElem?_eq_getElem h2];rfl
   rw[e1,e2]
theorem parse_key (h:SesOk s) (hx:PSok s x):parseP s (keyP s x)=some (canon s x):=by
 unfold parseP keyP
 rw[parseRoles_key h hx _ s.roles.length 0 (by omega)]
 simp only[List.range'_zero,List.flatMap_nil,List.nil_append]
 have hw:=parseWays_key hx h [] s.roles.length 0 (by omega)
 rw[List.append_nil] at hw
 rw[hw]
 simp only
 have e1:x.pos.take s.roles.length=x.pos:=List.take_of_length_le (by rw[hx.pl];exact Nat.le_refl _)
 have e2:x.vals.take s.roles.length=x.vals:=List.take_of_length_le (by rw[hx.vl];exact Nat.le_refl _)
 have e3:(x.ways.map fun R=>R.map (keyL s.cls)).take s.roles.length=x.ways.map fun R=>R.map (keyL s.cls):=List.take_of_length_le (by rw[List.length_map,hx.wl];exact Nat.le_refl _)
 rw[e1,e2,e3];rfl
theorem dec_key (h:SesOk s) (hx:PSok s x):decP s (keyP s x)=some (canon s x):=by
 unfold decP
 rw[parse_key h hx]
 simp only
 rw[if_pos (canon_key s x)]
end
end Go.Proofs.YtemjlpahohmajaaGreat
namespace Go.Proofs.YtemjlpahohmajaaGreat
open Go
theorem Rl.symm {cls:Int} {A B:List ByteArray} (h:Rl cls A B):Rl cls B A:=by
 unfold Rl at h ⊢
 split at h
 ·rename_i e;rw[if_pos e];exact List.Perm.symm h
 ·rename_i e;rw[if_neg e];exact Eq.symm h
theorem Rl.trans {cls:Int} {A B C:List ByteArray} (h:Rl cls A B) (k:Rl cls B C):Rl cls A C:=by
 unfold Rl at h k ⊢
 split at h
 ·rename_i e;rw[if_pos e] at k ⊢;exact List.Perm.trans h k
 ·rename_i e;rw[if_neg e] at k ⊢;exact Eq.trans h k
theorem rl_canon (cls:Int) (A:List ByteArray):Rl cls (keyL cls A) A:=by
 unfold Rl
 split
 ·rename_i e;subst e;exact keyL_perm A
 ·rename_i e;unfold keyL;rw[if_neg e]
structure Eqv (s:SesD) (x z:PS):Prop where
 pos:x.pos=z.pos
 vals:x.vals=z.vals
 way:∀ i k,Rl s.cls (x.way i k) (z.way i k)
section
variable {s:SesD} {x z u:PS}
theorem Eqv.symm (h:Eqv s x z):Eqv s z x:=⟨h.pos.symm,h.vals.symm,fun i k=>(h.way i k).symm⟩
theorem Eqv.trans (h:Eqv s x z) (k:Eqv s z u):Eqv s x u:=⟨h.pos.trans k.pos,h.vals.trans k.vals,fun i j=>(h.way i j).trans (k.way i j)⟩
theorem eqv_canon (s:SesD) (x:PS):Eqv s (canon s x) x:=⟨rfl,rfl,fun i k=>by rw[canon_way];exact rl_canon _ _⟩
theorem eqv_of_key (h:SesOk s) (hx:PSok s x) (hz:PSok s z) (e:keyP s x=keyP s z):Eqv s x z:=by
 have h1:=dec_key h hx
 have h2:=dec_key h hz
 rw[e,h2] at h1
 have h3:canon s z=canon s x:=Option.some.inj h1
 exact(eqv_canon s x).symm.trans (h3 ▸ eqv_canon s z)
theorem next_step (s:SesD) (x:PS) (i k:Nat) (p:Int):nextP s x ⟨1,i,k,p⟩ =
  { pos:=x.pos.set i (stIx (s.rol i) ((s.rol i).stp k).to).toNat
    vals:=x.vals.set i (bankDo (s.rol i).ctrs (x.bank i) ((s.rol i).stp k))
    ways:=
     if ((s.rol i).stp k).kind=1 then setWay x.ways i (peerN s ((s.rol i).stp k)) (putL s.cap (x.way i (peerN s ((s.rol i).stp k))) ((s.rol i).stp k).msg)
     else if ((s.rol i).stp k).kind=2 then setWay x.ways (peerN s ((s.rol i).stp k)) i (takeL s.cls (x.way (peerN s ((s.rol i).stp k)) i) p)
     else x.ways }:=by
 unfold nextP
 rw[if_neg (show ¬ (1:Int)=2 by decide)]
 rfl
theorem next_lose (s:SesD) (x:PS) (i k:Nat) (p:Int):nextP s x ⟨2,i,k,p⟩={ x with ways:=setWay x.ways i k (loseL s.cls (x.way i k)) }:=by
 unfold nextP
 rw[if_pos rfl]
 rfl
end
end Go.Proofs.YtemjlpahohmajaaGreat
namespace Go.Proofs.YtemjlpahohmajaaGreat
open Go
structure Nd where
 st:PS
 par:Int
 mv:Mv
 lvl:Nat
 deriving DecidableEq
def mv0:Mv:=⟨0,0,0,0⟩
def hasK (s:SesD) (N:List Nd) (k:List UInt8):Bool:=N.any fun d=>decide (keyP s d.st=k)
def addMv (s:SesD) (lim:Nat) (x:PS) (n lvl:Nat):List Nd→List Mv→List Nd × Bool
 | N,[]=>(N,true)
 | N,m :: ms =>
   if hasK s N (keyP s (nextP s x m)) then addMv s lim x n lvl N ms
   else if N.length=lim then (N,false)
   else addMv s lim x n lvl (N ++ [⟨nextP s x m,n,m,lvl + 1⟩]) ms
def bfs (s:SesD) (lim:Nat):Nat→Nat→List Nd→List Nd × Bool
 | 0,_,N=>(N,true)
 | f + 1,n,N=>match N[n]? with
   | none=>(N,true)
   | some d=>match addMv s lim d.st n d.lvl N (movesP s d.st) with
     | (N',true)=>bfs s lim f (n + 1) N'
     | (N',false)=>(N',false)
def nd0 (s:SesD):Nd:=⟨firstP s,-1,mv0,0⟩
def searchP (s:SesD) (lim:Nat):List Nd × Bool:=bfs s lim (lim + 1) 0 [nd0 s]
structure SI (s:SesD) (lim:Nat) (n:Nat) (N:List Nd):Prop where
 ok:∀ d∈N,PSok s d.st
 one:N[0]?=some (nd0 s)
 top:N.length≤lim
 nn:n≤N.length
 dist:∀ (i j:Nat) (a b:Nd),N[i]?=some a→N[j]?=some b→keyP s a.st=keyP s b.st→i=j
 par:∀ (i:Nat) (a:Nd),N[i]?=some a→0 < i→∃ (p:Nat) (b:Nd),a.par=p∧p < i∧N[p]?=some b∧a.mv∈movesP s b.st∧a.st=nextP s b.st a.mv∧a.lvl=b.lvl + 1
 mono:∀ (i j:Nat) (a b:Nd),N[i]?=some a→N[j]?=some b→i≤j→a.lvl≤b.lvl
theorem hasK_iff {s:SesD} {N:List Nd} {k:List UInt8}:hasK s N k=true↔∃ (i:Nat) (d:Nd),N[i]?=some d∧keyP s d.st=k:=by
 unfold hasK
 rw[List.any_eq_true]
 constructor
 ·rintro⟨d,hd,h⟩
  obtain⟨i,hi⟩:=List.getElem?_of_mem hd
  exact⟨i,d,hi,of_decide_eq_true h⟩
 ·rintro⟨i,d,hi,h⟩
  exact⟨d,List.mem_of_getElem? hi,decide_eq_true h⟩
section
variable {s:SesD} {lim:Nat}
theorem SI.start (h:SesOk s) (hl:1≤lim):SI s lim 0 [nd0 s]:=by
 refine⟨fun d hd=>?_,rfl,by simpa using hl,Nat.zero_le _,fun i j a b hi hj _=>?_,fun i a hi h0=>?_,fun i j a b hi hj _=>?_⟩
 ·rw[List.mem_singleton] at hd;subst hd;exact first_ok h
 ·have h1:=lt_of_some hi;have h2:=lt_of_some hj;simp at h1 h2;omega
 ·have h1:=lt_of_some hi;simp at h1;omega
 ·have h1:=lt_of_some hi;have h2:=lt_of_some hj
  simp at h1 h2
  subst h1;subst h2
  rw[hi] at hj;cases hj;exact Nat.le_refl _
structure SJ (s:SesD) (lim:Nat) (n:Nat) (d:Nd) (N:List Nd):Prop extends SI s lim n N where
 at':N[n]?=some d
 deep:∀ a∈N,a.lvl≤d.lvl + 1
theorem SJ.add {n:Nat} {d:Nd} {N:List Nd} (hs:SesOk s) (h:SJ s lim n d N) {m:Mv} (hm:m∈movesP s d.st) (hk:hasK s N (keyP s (nextP s d.st m))=false) (hl:N.length≠lim) :
  SJ s lim n d (N ++ [⟨nextP s d.st m,n,m,d.lvl + 1⟩]):=by
 have hd:=h.ok d (List.mem_of_getElem? h.at')
 have hn:=lt_of_some h.at'
 have hlen:(N ++ [(⟨nextP s d.st m,n,m,d.lvl + 1⟩:Nd)]).length=N.length + 1:=by simp
 have hg:∀ (i:Nat) (a:Nd),(N ++ [⟨nextP s d.st m,n,m,d.lvl + 1⟩])[i]?=some a→N[i]?=some a∨i=N.length∧a=⟨nextP s d.st m,n,m,d.lvl + 1⟩:=by
  intro i a hi
  by_cases e:i < N.length
  ·rw[List.getElem?_append_left e] at hi;exact .inl hi
  ·rw[List.getElem?_append_right (by omega)] at hi
   have h1:=lt_of_some hi
   simp at h1
   obtain rfl:i=N.length:=by omega
   simp at hi
   exact .inr ⟨rfl,hi.symm⟩
 have hk':∀ (i:Nat) (a:Nd),N[i]?=some a→keyP s a.st≠keyP s (nextP s d.st m):=by
  intro i a hi e
  rw[hasK_iff.2 ⟨i,a,hi,e⟩] at hk;cases hk
 have hlim:=h.top
 refine⟨⟨fun a ha=>?_,?_,by omega,?_,?_,?_,?_⟩,?_,?_⟩
 ·rcases List.mem_append.1 ha with ha | ha
  ·exact h.ok a ha
  ·rw[List.mem_singleton] at ha;subst ha;exact next_ok hs hd hm
 ·rw[List.getElem?_append_left (by omega)];exact h.one
 ·have:=h.nn;omega
 ·intro i j a b hi hj e
  rcases hg i a hi with h1 | ⟨rfl,rfl⟩ <;> rcases hg j b hj with h2 | ⟨rfl,rfl⟩
  ·exact h.dist i j a b h1 h2 e
  ·exact absurd e (hk' i a h1)
  ·exact absurd e.symm (hk' j b h2)
  ·rfl
 ·intro i a hi h0
  rcases hg i a hi with h1 | ⟨rfl,rfl⟩
  ·obtain⟨p,b,e1,e2,e3,e4⟩:=h.par i a h1 h0
   exact⟨p,b,e1,e2,by rw[List.getElem?_append_left (lt_of_some e3)];exact e3,e4⟩
  ·exact⟨n,d,rfl,hn,by rw[List.getElem?_append_left hn];exact h.at',hm,rfl,rfl⟩
 ·intro i j a b hi hj hij
  rcases hg i a hi with h1 | ⟨rfl,rfl⟩ <;> rcases hg j b hj with h2 | ⟨rfl,rfl⟩
  ·exact h.mono i j a b h1 h2 hij
  ·exact h.deep a (List.mem_of_getElem? h1)
  ·have:=lt_of_some h2;omega
  ·exact Nat.le_refl _
 ·rw[List.getElem?_append_left hn];exact h.at'
 ·intro a ha
  rcases List.mem_append.1 ha with ha | ha
  ·exact h.deep a ha
  ·rw[List.mem_singleton] at ha;subst ha;exact Nat.le_refl _
theorem hasK_append {N M:List Nd} {k:List UInt8} (h:hasK s N k=true):hasK s (N ++ M) k=true:=by
 unfold hasK at h ⊢
 rw[List.any_append,h];rfl
theorem addMv_ok (hs:SesOk s) {n:Nat} {d:Nd}:∀ (ms:List Mv) (N:List Nd),SJ s lim n d N→(∀ m∈ms,m∈movesP s d.st) →
  SJ s lim n d (addMv s lim d.st n d.lvl N ms).1∧(∃ M,(addMv s lim d.st n d.lvl N ms).1=N ++ M) ∧
  ((addMv s lim d.st n d.lvl N ms).2=true→∀ m∈ms,hasK s (addMv s lim d.st n d.lvl N ms).1 (keyP s (nextP s d.st m))=true) ∧
  ((addMv s lim d.st n d.lvl N ms).2=false→(addMv s lim d.st n d.lvl N ms).1.length=lim∧∃ m∈ms,hasK s (addMv s lim d.st n d.lvl N ms).1 (keyP s (nextP s d.st m))=false)
 | [],N,h,_=>⟨h,⟨[],by simp[addMv]⟩,fun _ m hm=>by simp at hm,fun e=>by cases e⟩
 | m :: ms,N,h,hm=>by
   rw[addMv]
   cases hk:hasK s N (keyP s (nextP s d.st m)) with
   | true =>
     simp only[if_true]
     obtain⟨h1,⟨M,h2⟩,h3,h4⟩:=addMv_ok hs ms N h (fun x hx=>hm x (by simp[hx]))
     refine⟨h1,⟨M,h2⟩,fun e x hx=>?_,fun e=>?_⟩
     ·rcases List.mem_cons.1 hx with rfl | hx
      ·rw[h2];exact hasK_append hk
      ·exact h3 e x hx
     ·obtain⟨g1,x,g2,g3⟩:=h4 e
      exact⟨g1,x,by simp[g2],g3⟩
   | false =>
     simp only[Bool.false_eq_true,if_false]
     by_cases hl:N.length=lim
     ·rw[if_pos hl]
      exact⟨h,⟨[],by simp⟩,(fun e=>by cases e),fun _=>⟨hl,m,by simp,hk⟩⟩
     ·rw[if_neg hl]
      obtain⟨h1,⟨M,h2⟩,h3,h4⟩:=addMv_ok hs ms _ (h.add hs (hm m (by simp)) hk hl) (fun x hx=>hm x (by simp[hx]))
      refine⟨h1,⟨[⟨nextP s d.st m,n,m,d.lvl + 1⟩] ++ M,by rw[h2];simp⟩,fun e x hx=>?_,fun e=>?_⟩
      ·rcases List.mem_cons.1 hx with rfl | hx
       ·rw[h2]
        refine hasK_append (hasK_iff.2 ⟨N.length,⟨nextP s d.st x,n,x,d.lvl + 1⟩,by simp,rfl⟩)
       ·exact h3 e x hx
      ·obtain⟨g1,x,g2,g3⟩:=h4 e
       exact⟨g1,x,by simp[g2],g3⟩
def ClosedN (s:SesD) (n:Nat) (N:List Nd):Prop:=∀ (i:Nat) (a:Nd),i < n→N[i]?=some a→∀ m∈movesP s a.st,∃ (j:Nat) (b:Nd),N[j]?=some b∧keyP s b.st=keyP s (nextP s a.st m)∧b.lvl≤a.lvl + 1
structure Found (s:SesD) (lim:Nat) (R:List Nd × Bool) (n:Nat):Prop extends SI s lim n R.1 where
 closed:ClosedN s n R.1
 deep:∀ (i:Nat) (a:Nd),n≤i→R.1[i]?=some a→∀ b∈R.1,b.lvl≤a.lvl + 1
 whole:R.2=true→n=R.1.length
 cut:R.2=false→R.1.length=lim∧n < R.1.length
theorem SI.next {n:Nat} {d:Nd} {N:List Nd} (h:SI s lim n N) (hd:N[n]?=some d) (hb:∀ a∈N,a.lvl≤d.lvl + 1):SJ s lim n d N:=⟨h,hd,hb⟩
theorem SI.up {n:Nat} {N:List Nd} (h:SI s lim n N) (hn:n < N.length):SI s lim (n + 1) N:=⟨h.ok,h.one,h.top,hn,h.dist,h.par,h.mono⟩
theorem ClosedN.more {n k:Nat} {N M:List Nd} (h:ClosedN s n N) (hk:k≤n) (hn:n≤N.length):ClosedN s k (N ++ M):=by
 intro i a hi ha m hm
 rw[List.getElem?_append_left (by omega)] at ha
 obtain⟨j,b,h1,h2⟩:=h i a (by omega) ha m hm
 exact⟨j,b,by rw[List.getElem?_append_left (lt_of_some h1)];exact h1,h2⟩
theorem bfs_ok (hs:SesOk s):∀ (f n:Nat) (N:List Nd),SI s lim n N→ClosedN s n N→(∀ (d:Nd),N[n]?=some d→∀ a∈N,a.lvl≤d.lvl + 1)→lim + 1≤n + f→∃ k,Found s lim (bfs s lim f n N) k
 | 0,n,N,h,hc,hb,hf=>by
   have:=h.nn;have:=h.top;omega
 | f + 1,n,N,h,hc,hb,hf=>by
   rw[bfs]
   cases hd:N[n]? with
   | none =>
     have hn:N.length≤n:=List.getElem?_eq_none_iff.1 hd
     have hnn:=h.nn
     exact⟨n,h,hc,(fun i a hi ha=>by have:=lt_of_some ha;simp only at this;omega),(fun _=>by simp only;omega),fun e=>by cases e⟩
   | some d =>
     simp only
     have hj:=h.next hd (hb d hd)
     obtain⟨h1,⟨M,h2⟩,h3,h4⟩:=addMv_ok hs (movesP s d.st) N hj (fun m hm=>hm)
     generalize hR:addMv s lim d.st n d.lvl N (movesP s d.st)=R at h1 h2 h3 h4
     obtain⟨N',b⟩:=R
     simp only at h1 h2 h3 h4
     have hn:=lt_of_some h1.at'
     have hold:∀ (i:Nat) (a:Nd),i < N.length→N'[i]?=some a→N[i]?=some a:=fun i a hi ha=>by rw[h2,List.getElem?_append_left hi] at ha;exact ha
     have hdeep:∀ (i:Nat) (a:Nd),n≤i→N'[i]?=some a→∀ b∈N',b.lvl≤a.lvl + 1:=fun i a hi ha b hb=>by
      have h5:=h1.deep b hb
      have h6:=h1.mono n i d a h1.at' ha hi
      omega
     cases b with
     | true =>
       simp only
       refine bfs_ok hs f (n + 1) N' (h1.toSI.up hn) (fun i a hi ha m hm=>?_) (fun e he a ha=>hdeep (n + 1) e (by omega) he a ha) (by omega)
       by_cases e:i=n
       ·subst e
        rw[h1.at'] at ha
        cases ha
        obtain⟨j,b,g1,g2⟩:=hasK_iff.1 (h3 rfl m hm)
        exact⟨j,b,g1,g2,h1.deep b (List.mem_of_getElem? g1)⟩
       ·have h5:=hc.more (M:=M) (Nat.le_refl _) h.nn
        rw[← h2] at h5
        exact h5 i a (by omega) ha m hm
     | false =>
       simp only
       refine⟨n,h1.toSI,?_,hdeep,(fun e=>by cases e),fun _=>⟨(h4 rfl).1,hn⟩⟩
       simp only
       rw[h2]
       exact hc.more (Nat.le_refl _) h.nn
theorem search_ok (hs:SesOk s) (hl:1≤lim):∃ n,Found s lim (searchP s lim) n:=
 bfs_ok hs (lim + 1) 0 [nd0 s] (SI.start hs hl) (fun i a hi _=>by omega) (fun d hd a ha=>by
  rw[List.mem_singleton] at ha
  subst ha
  exact Nat.zero_le _) (by omega)
def trc (N:List Nd):Nat→Nat→List Mv
 | 0,_=>[]
 | f + 1,n=>match N[n]? with
   | none=>[]
   | some d=>if d.par < 0 then [] else trc N f d.par.toNat ++ [d.mv]
def traceP (N:List Nd) (n:Nat):List Mv:=trc N (n + 1) n
theorem trc_more {n:Nat} {N:List Nd} (h:SI s lim n N):∀ (f k:Nat),k < f→trc N f k=traceP N k:=by
 intro f
 induction f using Nat.strongRecOn with
 | _ f ih =>
   intro k hk
   match f,ih,hk with
   | 0,_,hk=>omega
   | f + 1,ih,hk =>
     unfold traceP
     rw[trc,trc]
     cases hd:N[k]? with
     | none=>rfl
     | some d =>
       simp only
       by_cases e:d.par < 0
       ·rw[if_pos e,if_pos e]
       ·rw[if_neg e,if_neg e]
        have hp:∃ p:Nat,d.par=p∧p < k:=by
         rcases Nat.eq_zero_or_pos k with h0 | h0
         ·subst h0
          rw[h.one] at hd;cases hd
          exact absurd (show (-1:Int) < 0 by decide) e
         ·obtain⟨p,b,e1,e2,-⟩:=h.par k d hd h0
          exact⟨p,e1,e2⟩
        obtain⟨p,e1,e2⟩:=hp
        rw[e1,Int.toNat_natCast]
        by_cases hkf:k=f
        ·subst hkf;rfl
        ·rw[ih f (by omega) p (by omega),ih k (by omega) p (by omega)]
theorem trace_zero {n:Nat} {N:List Nd} (h:SI s lim n N):traceP N 0=[]:=by
 unfold traceP
 rw[trc,h.one]
 rfl
theorem trace_step {n:Nat} {N:List Nd} (h:SI s lim n N) {i p:Nat} {d:Nd} (hd:N[i]?=some d) (hp:d.par=p) (hpi:p < i):traceP N i=traceP N p ++ [d.mv]:=by
 rw[← trc_more h (i + 1) i (by omega),trc,hd]
 simp only
 rw[hp,if_neg (by omega),Int.toNat_natCast,trc_more h _ _ hpi]
end
end Go.Proofs.YtemjlpahohmajaaGreat
namespace Go.Proofs.YtemjlpahohmajaaGreat
open Go
structure Sp where
 role:Nat
 peer:Nat
 msg:ByteArray
 deriving DecidableEq
def hereN (s:SesD) (x:PS) (i:Nat):ByteArray:=((s.rol i).sts.getD (x.at i) dS).name
def hearB (s:SesD) (x:PS) (i p:Nat) (m:ByteArray) (t:StpD):Bool:=
 decide (t.kind=2) && decide (t.msg=m) && decide (t.peer=(s.rol p).name) && decide (t.frm=hereN s x i) && bankOk (s.rol i).ctrs (x.bank i) t
def expB (s:SesD) (x:PS) (i p:Nat) (m:ByteArray):Bool:=(s.rol i).steps.any (hearB s x i p m)
def spOf (s:SesD) (x:PS) (i p:Nat) (l:List (Nat × ByteArray)):List Sp:=l.filterMap fun e=>if expB s x i p e.2 then none else some ⟨i,p,e.2⟩
def spAt (s:SesD) (x:PS) (i p:Nat):List Sp:=spOf s x i p (chlK s.cls (x.way p i) (x.way p i).length)
def ofP (s:SesD) (x:PS):List Sp:=cat (fun i=>cat (fun p=>spAt s x i p) s.roles.length) s.roles.length
def allSp (s:SesD) (N:List Nd):List (Nat × Sp):=cat (fun n=>(ofP s ((N.map Nd.st).getD n ⟨[],[],[]⟩)).map fun u=>(n,u)) N.length
def heardB (s:SesD) (i p:Nat) (m:ByteArray):Bool:=(s.rol i).steps.any fun t=>decide (t.kind=2) && decide (t.msg=m) && decide (t.peer=(s.rol p).name)
def nevT (s:SesD) (i p:Nat) (t:StpD):Bool:=decide (i≠p) && decide (t.kind=1) && decide (t.peer=(s.rol i).name) && !heardB s i p t.msg
def addNew (out:List Sp) (u:Sp):List Sp:=if u∈out then out else out ++ [u]
def nevStep (s:SesD) (i p k:Nat) (out:List Sp):List Sp:=if nevT s i p ((s.rol p).stp k) then addNew out ⟨i,p,((s.rol p).stp k).msg⟩ else out
def nevSteps (s:SesD) (i p:Nat) (out:List Sp):Nat→List Sp
 | 0=>out
 | k + 1=>nevStep s i p k (nevSteps s i p out k)
def nevPeers (s:SesD) (i:Nat) (out:List Sp):Nat→List Sp
 | 0=>out
 | p + 1=>nevSteps s i p (nevPeers s i out p) (s.rol p).steps.length
def nevRoles (s:SesD):Nat→List Sp
 | 0=>[]
 | i + 1=>nevPeers s i (nevRoles s i) s.roles.length
def neverP (s:SesD):List Sp:=nevRoles s s.roles.length
def usedP (s:SesD) (N:List Nd) (i k:Nat):Bool:=N.any fun d=>(movesP s d.st).any fun m=>decide (m.kind=1) && decide (m.role=i) && decide (m.step=k)
section
variable {s:SesD} {x z:PS}
theorem mem_spOf {i p:Nat} {l:List (Nat × ByteArray)} {u:Sp}:u∈spOf s x i p l↔∃ e∈l,expB s x i p e.2=false∧u=⟨i,p,e.2⟩:=by
 unfold spOf
 rw[List.mem_filterMap]
 constructor
 ·rintro⟨e,he,h⟩
  split at h
  ·cases h
  ·rename_i h2
   exact⟨e,he,by simpa using h2,by simpa using h.symm⟩
 ·rintro⟨e,he,h2,rfl⟩
  exact⟨e,he,by rw[if_neg (by rw[h2];decide)]⟩
theorem mem_ofP {u:Sp}:u∈ofP s x↔u.role < s.roles.length∧u.peer < s.roles.length∧u.msg∈chm s.cls (x.way u.peer u.role) (x.way u.peer u.role).length∧expB s x u.role u.peer u.msg=false:=by
 unfold ofP
 rw[mem_cat]
 simp only[mem_cat]
 constructor
 ·rintro⟨i,hi,p,hp,h⟩
  obtain⟨e,he,h2,rfl⟩:=mem_spOf.1 h
  exact⟨hi,hp,List.mem_map.2 ⟨e,he,rfl⟩,h2⟩
 ·rintro⟨hi,hp,hm,h2⟩
  obtain⟨e,he,h3⟩:=List.mem_map.1 hm
  refine⟨u.role,hi,u.peer,hp,mem_spOf.2 ⟨e,he,by rw[h3];exact h2,?_⟩⟩
  rw[h3]
theorem exp_rel (he:Eqv s x z) (i p:Nat) (m:ByteArray):expB s x i p m=expB s z i p m:=by
 unfold expB
 have e:hearB s x i p m=hearB s z i p m:=by
  funext t
  unfold hearB hereN PS.at PS.bank
  rw[he.pos,he.vals]
 rw[e]
theorem of_rel (he:Eqv s x z) {u:Sp} (h:u∈ofP s x):u∈ofP s z:=by
 obtain⟨h1,h2,h3,h4⟩:=mem_ofP.1 h
 exact mem_ofP.2 ⟨h1,h2,(rl_chm (he.way _ _)).1 _ h3,by rw[← exp_rel he];exact h4⟩
theorem bank_guard {r:RolD} {t:StpD} {vs:List Int} (h:StpOk s r t) (hv:vs.length=r.ctrs.length∧∀ (k:Nat) (c:CtrD),r.ctrs[k]?=some c→0≤vs.getD k 0∧vs.getD k 0≤c.lim) :
  bankOk r.ctrs vs t=(decide (t.ctr=emptyS) || (decide (t.low≤vs.getD (ctrIx r.ctrs t.ctr).toNat 0) && decide (vs.getD (ctrIx r.ctrs t.ctr).toNat 0≤t.high))):=by
 unfold bankOk
 by_cases e:t.ctr=emptyS
 ·rw[if_pos e,decide_eq_true e];rfl
 ·rw[if_neg e,decide_eq_false e,Bool.false_or]
  obtain⟨k,c,h1,h2,h3⟩:=h.ctr e
  rw[h1,decide_eq_true (by omega),Bool.true_and,Int.toNat_natCast,getD_some h2]
  unfold allowsV
  have:=hv.2 k c h2
  rw[Bool.eq_iff_iff]
  simp only[Bool.and_eq_true,decide_eq_true_eq]
  omega
theorem mem_addNew {out:List Sp} {u v:Sp}:v∈addNew out u↔v∈out∨v=u:=by
 unfold addNew
 split
 ·rename_i h
  exact⟨.inl,fun h2=>h2.elim id fun e=>by rw[e];exact h⟩
 ·simp
theorem mem_nevStep {i p k:Nat} {out:List Sp} {v:Sp}:v∈nevStep s i p k out↔v∈out∨nevT s i p ((s.rol p).stp k)=true∧v=⟨i,p,((s.rol p).stp k).msg⟩:=by
 unfold nevStep
 split
 ·rename_i h;rw[mem_addNew];simp[h]
 ·rename_i h;simp[h]
theorem mem_nevSteps {i p:Nat} {out:List Sp} {v:Sp}:∀ {n:Nat},v∈nevSteps s i p out n↔v∈out∨∃ k,k < n∧nevT s i p ((s.rol p).stp k)=true∧v=⟨i,p,((s.rol p).stp k).msg⟩
 | 0=>by simp[nevSteps]
 | n + 1=>by
   rw[nevSteps,mem_nevStep,mem_nevSteps]
   constructor
   ·rintro((h | ⟨k,h1,h2⟩) | h)
    ·exact .inl h
    ·exact .inr ⟨k,by omega,h2⟩
    ·exact .inr ⟨n,by omega,h⟩
   ·rintro(h | ⟨k,h1,h2⟩)
    ·exact .inl (.inl h)
    ·by_cases e:k=n
     ·subst e;exact .inr h2
     ·exact .inl (.inr ⟨k,by omega,h2⟩)
theorem mem_nevPeers {i:Nat} {out:List Sp} {v:Sp}:∀ {n:Nat},v∈nevPeers s i out n↔v∈out∨∃ p k,p < n∧k < (s.rol p).steps.length∧nevT s i p ((s.rol p).stp k)=true∧v=⟨i,p,((s.rol p).stp k).msg⟩
 | 0=>by simp[nevPeers]
 | n + 1=>by
   rw[nevPeers,mem_nevSteps,mem_nevPeers]
   constructor
   ·rintro((h | ⟨p,k,h1,h2⟩) | ⟨k,h1,h2⟩)
    ·exact .inl h
    ·exact .inr ⟨p,k,by omega,h2⟩
    ·exact .inr ⟨n,k,by omega,h1,h2⟩
   ·rintro(h | ⟨p,k,h1,h2⟩)
    ·exact .inl (.inl h)
    ·by_cases e:p=n
     ·subst e;exact .inr ⟨k,h2⟩
     ·exact .inl (.inr ⟨p,k,by omega,h2⟩)
theorem mem_neverP {v:Sp}:v∈neverP s↔∃ i p k,i < s.roles.length∧p < s.roles.length∧k < (s.rol p).steps.length∧nevT s i p ((s.rol p).stp k)=true∧v=⟨i,p,((s.rol p).stp k).msg⟩:=by
 have key:∀ n,v∈nevRoles s n↔∃ i p k,i < n∧p < s.roles.length∧k < (s.rol p).steps.length∧nevT s i p ((s.rol p).stp k)=true∧v=⟨i,p,((s.rol p).stp k).msg⟩:=by
  intro n
  induction n with
  | zero=>simp[nevRoles]
  | succ n ih =>
    rw[nevRoles,mem_nevPeers,ih]
    constructor
    ·rintro(⟨i,p,k,h1,h2⟩ | ⟨p,k,h1⟩)
     ·exact⟨i,p,k,by omega,h2⟩
     ·exact⟨n,p,k,by omega,h1⟩
    ·rintro⟨i,p,k,h1,h2⟩
     by_cases e:i=n
     ·subst e;exact .inr ⟨p,k,h2⟩
     ·exact .inl ⟨i,p,k,by omega,h2⟩
 exact key _
theorem used_iff {N:List Nd} {i k:Nat}:usedP s N i k=true↔∃ d∈N,∃ m∈movesP s d.st,m.kind=1∧m.role=i∧m.step=k:=by
 unfold usedP
 simp only[List.any_eq_true,Bool.and_eq_true,decide_eq_true_eq]
 constructor
 ·rintro⟨d,hd,m,hm,⟨h1,h2⟩,h3⟩;exact⟨d,hd,m,hm,h1,h2,h3⟩
 ·rintro⟨d,hd,m,hm,h1,h2,h3⟩;exact⟨d,hd,m,hm,⟨h1,h2⟩,h3⟩
theorem mem_allSp {N:List Nd} {n:Nat} {u:Sp}:(n,u)∈allSp s N↔∃ d,N[n]?=some d∧u∈ofP s d.st:=by
 unfold allSp
 rw[mem_cat]
 constructor
 ·rintro⟨k,hk,h⟩
  obtain⟨u',hu,e⟩:=List.mem_map.1 h
  cases e
  refine⟨N[n],List.getElem?_eq_getElem hk,?_⟩
  rw[List.getD_eq_getElem?_getD,List.getElem?_map,List.getElem?_eq_getElem hk] at hu
  exact hu
 ·rintro⟨d,hd,hu⟩
  refine⟨n,lt_of_some hd,List.mem_map.2 ⟨u,?_,rfl⟩⟩
  rw[List.getD_eq_getElem?_getD,List.getElem?_map,hd]
  exact hu
theorem uses_found (hs:SesOk s) {lim:Nat} {R:List Nd × Bool} {n:Nat} (h:Found s lim R n) (hw:R.2=true) (hc:s.cls=2∨s.cap=1) {u:Sp} (hu:u∈neverP s) {k:Nat} (hk:k < (s.rol u.peer).steps.length)
  (h1:((s.rol u.peer).stp k).kind=1) (h2:((s.rol u.peer).stp k).msg=u.msg) (h3:((s.rol u.peer).stp k).peer=(s.rol u.role).name) (hused:usedP s R.1 u.peer k=true):∃ j,(j,u)∈allSp s R.1:=by
 obtain⟨i,p,k',hi,hp,-,hn,rfl⟩:=mem_neverP.1 hu
 simp only at h1 h2 h3 hk hused
 obtain⟨d,hd,m,hm,m1,m2,m3⟩:=used_iff.1 hused
 obtain⟨q,hq⟩:=List.getElem?_of_mem hd
 have hok:=h.ok d hd
 have hpeer:peerN s ((s.rol p).stp k)=i:=by
  obtain⟨g1,g2,-⟩:=hs.peer hp hk (by omega)
  obtain⟨r,g3,g4,-⟩:=ixf_at g1
  rw[decide_eq_true_eq] at g4
  exact hs.uniq _ _ _ _ g3 (SesD.rol_some hi) (by rw[g4,h3])
 obtain⟨vk,vr,vs,vp⟩:=m
 simp only at m1 m2 m3
 subst m1;subst m2;subst m3
 obtain⟨a,b,hm2⟩:∃ a b,(⟨1,p,k,vp⟩:Mv)∈stepMv s d.st a b:=by
  rcases mem_movesP.1 hm with ⟨a,b,-,-,hm2⟩ | ⟨a,b,-,-,hm2⟩
  ·exact⟨a,b,hm2⟩
  ·have:=(mem_loseMv.1 hm2).1
   cases this
 obtain⟨-,e2,e3,e4,e5,e6,e7⟩:=mem_stepMv hm2
 obtain rfl:p=a:=Int.ofNat.inj e2
 obtain rfl:k=b:=Int.ofNat.inj e3
 have hroom:=e7 h1
 rw[hpeer] at hroom
 have hnx:=next_ok hs hok hm
 obtain⟨j,b,g1,g2,g3⟩:=h.closed q d (by rw[h.whole hw];exact lt_of_some hq) hq _ hm
 have heq:=eqv_of_key hs (h.ok b (List.mem_of_getElem? g1)) hnx g2
 refine⟨j,mem_allSp.2 ⟨b,g1,of_rel heq.symm (mem_ofP.2 ⟨hi,hp,?_,?_⟩)⟩⟩
 ·
  have hne:p≠i:=fun e=>by subst e;unfold nevT at hn;simp at hn
  have hpi:=put_iff hs hok hp hk h1
  rw[hpeer] at hpi
  have hway:(nextP s d.st ⟨1,p,k,vp⟩).way p i=d.st.way p i ++ [((s.rol p).stp k').msg]:=by
   rw[next_step]
   unfold PS.way
   simp only
   rw[if_pos h1,hpeer,wayOf_set (by rw[hok.wl];exact hp) (by rw[hok.wr p hp];exact hi),if_pos ⟨rfl,rfl⟩]
   unfold putL
   have hp0:putE s.cap (wayOf d.st.ways p i) ((s.rol p).stp k).msg=0:=hpi.2 hroom
   rw[if_pos hp0,h2]
  rw[hway]
  rcases hc with hc | hc
  ·rw[hc,mem_chm _ (Nat.le_refl _),List.take_length];simp
  ·have hz:d.st.way p i=[]:=List.length_eq_zero_iff.1 (by omega)
   rw[hz]
   unfold chm
   rw[List.nil_append]
   show _∈(chlK s.cls [_] 1).map _
   unfold chlK chlK
   have:chc s.cls [((s.rol p).stp k').msg] 0=true:=by
    by_cases e:s.cls=2
    ·rw[e,chc2 (by simp)];simp
    ·unfold chc;rw[if_neg e];rfl
   rw[if_pos this]
   simp
 ·unfold expB
  rw[List.any_eq_false]
  intro t ht
  unfold nevT at hn
  simp only[Bool.and_eq_true,Bool.not_eq_true'] at hn
  have:=hn.2
  unfold heardB at this
  rw[List.any_eq_false] at this
  have h9:=this t ht
  unfold hearB
  intro h10
  simp only[Bool.and_eq_true] at h9 h10
  exact h9 ⟨⟨h10.1.1.1.1,h10.1.1.1.2⟩,h10.1.1.2⟩
end
end Go.Proofs.YtemjlpahohmajaaGreat
namespace Go.Proofs.YtemjlpahohmajaaGreat
open Go.RowKit Go.BigFrame
def Ty (W:World) (g:Nat) (e:TypeId):Prop:=∃ cur,W.heap[g]?=some (.cells cur e (0,0))
theorem Ty.frm {F:List Nat} {W V:World} {g:Nat} {e:TypeId} (h:Ty W g e) (hf:Frm F W V) (hn:g∉F):Ty V g e:=by obtain⟨c,h⟩:=h;exact⟨c,hf.at h hn⟩
theorem own_ty {W:World} {base e size n:Nat} {v:Value} {xs:List Value} (h:W.ownsRow base e size v n xs) {k:Nat} (hk:v.ownBlock=some k):Ty W k e:=ownBlock_type h hk
end Go.Proofs.YtemjlpahohmajaaGreat
namespace Go.Proofs.YtemjlpahohmajaaGreat
open Go.RowKit Go.BigFrame
def sysT:List TypeId:=[140,209,213,9,98]
structure FgB (W:World) (b:Nat):Prop where
 ty:∀ C t,W.heap[b]?=some (.cells C t (0,0))→t∉sysT
 str:∀ (o:Nat) x,W.cell? ⟨b,o,none⟩≠some (.string x)
 ptr:∀ (o p:Nat),W.cell? ⟨b,o,none⟩=some (.pointer (some ⟨p,0,none⟩))→∀ C t,W.heap[p]?=some (.cells C t (0,0))→t≠209∧t≠213
 slc:∀ (o g o' p n c:Nat),W.cell? ⟨b,o,none⟩=some (.slice (some ⟨g,o',none⟩) n c)→W.cell? ⟨g,o',none⟩=some (.pointer (some ⟨p,0,none⟩))→∀ C t,W.heap[p]?=some (.cells C t (0,0))→t≠213
section
variable {W V:World} {F:List Nat}
theorem FgB.ne (h:∀ b∈F,FgB W b) {k:Nat} {C:Array Value} {t:TypeId} (hk:W.heap[k]?=some (.cells C t (0,0))) (ht:t∈sysT):k∉F:=fun hm=>(h k hm).ty _ _ hk ht
theorem FgB.str' (h:∀ b∈F,FgB W b) {k o:Nat} {x:ByteArray} (hu:W.cell? ⟨k,o,none⟩=some (.string x)):k∉F:=fun hm=>(h k hm).str _ _ hu
theorem FgB.bank (h:∀ b∈F,FgB W b) {k o p:Nat} {C:Array Value} (hu:W.cell? ⟨k,o,none⟩=some (.pointer (some ⟨p,0,none⟩))) (hp:W.heap[p]?=some (.cells C 209 (0,0))):k∉F:=fun hm=>((h k hm).ptr _ _ hu _ _ hp).1 rfl
theorem FgB.chan (h:∀ b∈F,FgB W b) {k o p:Nat} {C:Array Value} (hu:W.cell? ⟨k,o,none⟩=some (.pointer (some ⟨p,0,none⟩))) (hp:W.heap[p]?=some (.cells C 213 (0,0))):k∉F:=fun hm=>((h k hm).ptr _ _ hu _ _ hp).2 rfl
theorem Chn.fg {cb:Nat} {cls cap:Int} {L:List ByteArray} {G:List Nat} (h:Chn W cb cls cap L G) (hb:∀ b∈F,FgB W b) (hf:Frm F W V):Chn V cb cls cap L G:=h.frm hf fun x hx=>by
 obtain⟨sv,g1,g2,g3,rfl⟩:=h
 rcases List.mem_cons.1 hx with rfl | hx
 ·exact FgB.ne hb g1 (by simp[sysT])
 ·rw[Option.mem_toList] at hx
  obtain⟨D,hD⟩:=own_ty g2 hx
  exact FgB.ne hb hD (by simp[sysT])
theorem StR.fg {s:SesD} {yb sb:Nat} {x:PS} (h:StR W s yb sb x) (hs:0 < s.roles.length) (hb:∀ b∈F,FgB W b) (hf:Frm F W V):StR V s yb sb x:=by
 obtain⟨av,wv,h1,h2,h3⟩:=h.out
 refine⟨⟨av,wv,hf.at h1 (FgB.ne hb h1 (by simp[sysT])),h2.frm fun k o y hy=>?_,?_⟩,h.ok⟩
 ·obtain⟨bb,a1,a2,lv,a3,a4⟩:=hy
  have hk:=FgB.bank hb a2 a3
  exact⟨bb,hf.cellAt a1 hk,hf.cellAt a2 hk,lv,hf.at a3 (FgB.ne hb a3 (by simp[sysT])),a4.frm fun k o y hy=>by
   have hk:=FgB.str' hb hy.1
   exact⟨hf.cellAt hy.1 hk,hf.cellAt hy.2.1 hk,hf.cellAt hy.2.2 hk⟩⟩
 ·obtain⟨ao,cap,e,h4⟩:=h3
  refine⟨ao,cap,e,fun i R hR=>?_⟩
  obtain⟨g,o,e2,rv,c1,c2⟩:=h4 i R hR
  have hi:=lt_of_some hR
  have hl:R.length=s.roles.length:=by
   have:=h.ok.wr i (by rw[← h.ok.wl];exact hi)
   rwa [getD_some hR] at this
  have hg:g∉F:=fun hm=>by
   obtain⟨a',c',e4,h5⟩:=c2
   obtain⟨L,hL⟩:∃ L,R[0]?=some L:=⟨_,List.getElem?_eq_getElem (by omega)⟩
   obtain⟨k,o',e5,cb,G,q1,sv,q2,-⟩:=h5 0 L hL
   rw[Nat.zero_mul,Nat.add_zero] at q1
   subst e4
   subst e5
   exact(hb g hm).slc _ _ _ _ _ _ c1 q1 _ _ q2 rfl
  refine⟨g,o,e2,rv,hf.cellAt c1 hg,Arr.frm (fun k o' L hL=>?_) c2⟩
  obtain⟨cb,G,q1,q2⟩:=hL
  have hk:k∉F:=by
   obtain⟨sv,q3,-⟩:=id q2
   exact FgB.chan hb q1 q3
  exact⟨cb,G,hf.cellAt q1 hk,q2.fg hb hf⟩
theorem Rls.fg {v:Value} {l:List RolD} (h:Rls W v l) (hb:∀ b∈F,FgB W b) (hf:Frm F W V):Rls V v l:=Arr.frm (fun k o r hr=>by
 obtain⟨sv,cv,tv,c0,c1,c2,c3,c4⟩:=hr
 have hk:=FgB.str' hb c0
 refine⟨sv,cv,tv,hf.cellAt c0 hk,hf.cellAt c1 hk,hf.cellAt c2 hk,hf.cellAt c3 hk,⟨c4.sts.frm fun g o y hy=>?_,c4.ctrs.frm fun g o y hy=>?_,c4.steps.frm fun g o y hy=>?_,c4.cap⟩⟩
 ·have hk:=FgB.str' hb hy.1
  exact⟨hf.cellAt hy.1 hk,hf.cellAt hy.2.1 hk,hf.cellAt hy.2.2 hk⟩
 ·have hk:=FgB.str' hb hy.1
  exact⟨hf.cellAt hy.1 hk,hf.cellAt hy.2 hk⟩
 ·have hk:=FgB.str' hb hy.c0
  exact⟨hf.cellAt hy.c0 hk,hf.cellAt hy.c1 hk,hf.cellAt hy.c2 hk,hf.cellAt hy.c3 hk,hf.cellAt hy.c4 hk,hf.cellAt hy.c5 hk,hf.cellAt hy.c6 hk,hf.cellAt hy.c7 hk,hf.cellAt hy.c8 hk⟩) h
theorem SesV.fg {v:Value} {s:SesD} (h:SesV W v s) (hb:∀ b∈F,FgB W b) (hf:Frm F W V):SesV V v s:=by
 obtain⟨rv,e,h1⟩:=h
 exact⟨rv,e,h1.fg hb hf⟩
theorem SyR.fg {s:SesD} {yb fb:Nat} (h:SyR W s yb fb) (hb:∀ b∈F,FgB W b) (hf:Frm F W V):SyR V s yb fb:=by
 obtain⟨rv,h1,h2⟩:=h.out
 exact⟨⟨rv,hf.at h1 (FgB.ne hb h1 (by simp[sysT])),h2.fg hb hf⟩,h.ok,h.first.fg (by have:=h.ok.n2;omega) hb hf⟩
end
end Go.Proofs.YtemjlpahohmajaaGreat
namespace Go.Proofs.YtemjlpahohmajaaGreat
open Go.RowKit Go.BigFrame
section
variable {P:Program} {n m l l0:Nat}
theorem room_any (l n:Nat):(Fence.wide.inRound l).room n:=fun _ h=>by simp[Fence.wide] at h
theorem callsIn_any {f:FuncId} {args:Array Value} {w:World} {R:Ending→World→Prop} (h:CallsIn Fence.wide m P f args w R):CallsIn (Fence.wide.inRound l) n P f args w R:=
 ⟨h.1,fun cs _=>h.2 cs (room_wide _)⟩
theorem roundIn_any {f:FuncId} {tmps:Array Value} {assign body:Code} {w:World} {R:Ending→World→Prop} (h:RoundIn (Fence.wide.inRound l0) n P l f tmps assign body w R):RoundIn Fence.wide m P l f tmps assign body w R:=
 ⟨h.1,fun c cs _=>h.2 c cs (room_any _ _)⟩
theorem yieldAt_any {args:Array Value} {w:World} {R:Ending→World→Prop} (h:YieldAt (Fence.wide.inRound l0) n P l args w R):YieldAt Fence.wide m P l args w R:=by
 obtain⟨fn,tmps,assign,body,h1,h2⟩:=h
 exact⟨fn,tmps,assign,body,h1,roundIn_any h2⟩
theorem wpIn_any {c:Code} {Q:Exit→Act→World→Prop} {a:Act} {w:World} (h:c.wpIn (Fence.wide.inRound l) m P Q a w):c.wpIn (Fence.wide.inRound l) n P Q a w:=
 fun b k cs h1 h2 _=>h b k cs h1 h2 (room_any _ _)
theorem Iter.inRound {α:Type} {g:Nat} {lb:Array Value} {encs:α→Array Value} {R:World→Prop} {xs:List α} (l0:Nat) (h:Iter Fence.wide 2 P g lb encs R xs):Iter (Fence.wide.inRound l0) n P g lb encs R xs:=
 fun l J Jx sJ sJx hJR hY W h0=>callsIn_any (h l J Jx sJ sJx hJR (fun pre x rest W hxs hj=>yieldAt_any (hY pre x rest W hxs hj)) W h0)
end
variable {P:Program}
theorem wpIn_rangeListN {α:Type} {g:Operand} {ps:Array Tmp} {assign body:Code} {Q:Exit→Act→World→Prop} {a:Act} {w:World} {l0:Nat} (hl0:∃ r,w.heap[l0]?=some (.loop r))
  {gf:Nat} {lb:Array Value} (hg:a.eval g=.func (.func gf) #[] lb) (eg:∀ args w,(callFunc gf args).run P w=.ok (.enter gf args) w)
  {encs:α→Array Value} {R:World→Prop} {xs:List α} (hit:Iter Fence.wide 2 P gf lb encs R xs) (hps:∀ x,(encs x).size=ps.size)
  (I:List α→World→Prop) (Ix:Code→List α→World→Prop) (sI:∀ s W W',I s W→Bk w.heap.size W W'→I s W') (sIx:∀ c s W W',Ix c s W→Bk w.heap.size W W'→Ix c s W')
  (hR:∀ s W,I s W→R W) (h0:I [] w)
  (hround:∀ (l:Nat) (pre:List α) (x:α) (rest:List α) (W:World),xs=pre ++ x :: rest→I pre W→w.heap.size≤l→(∃ r,W.heap[l]?=some (.loop r)) →
   assign.wpIn (Fence.wide.inRound l) 1 P (Exit.then (fun a' W'=>KB W W'∧∀ W2,Bk w.heap.size W' W2→(∃ r,W2.heap[l]?=some (.loop r))→body.wpIn (Fence.wide.inRound l) 1 P (roundEnd I Ix (pre ++ [x]) W2) a' W2) (fun _ _ _=>False))
    { tmps:=(ps.zip (encs x)).foldl (fun t (p,v)=>t.setIfInBounds p v) a.tmps,defers:=[] } W)
  (hdone:∀ (W:World),I xs W→Q .normal a W)
  (hstop:∀ (c:Code) (pre:List α) (x:α) (rest:List α) (W:World),xs=pre ++ x :: rest→Ix c (pre ++ [x]) W→c.wpIn (Fence.wide.inRound l0) 1 P Q a W) :
  (Code.rangeFunc g ps assign body).wpIn (Fence.wide.inRound l0) 1 P Q a w:=by
 obtain⟨r0,hl0⟩:=hl0
 refine wpIn_rangeFunc ?_
 intro fn hfn
 rw[show (Fence.wide.inRound l0).round=some l0 from rfl]
 obtain⟨rec,hrec⟩:∃ rec:LoopState→Option Code→Loop,rec=fun st pe=>{ state:=st,pending:=pe,fn,tmps:=a.tmps,params:=ps,assign,body,defers:=r0.defers }:=⟨_,rfl⟩
 obtain⟨W1,hW1⟩:∃ W1,w.alloc (.loop (rec .ready none))=W1:=⟨_,rfl⟩
 have hL1:W1.heap[w.heap.size]?=some (.loop (rec .ready none)):=by rw[← hW1];exact World.alloc_heap_new w _
 have hF1:Frm [] w W1:=by rw[← hW1];exact(Frm.refl _ _).alloc _
 have hI1:I [] W1:=sI _ _ _ h0 (hF1.bk _)
 refine⟨w.heap.size,[],W1,{ target:=.fn (.func gf) lb,args:=#[.func (.yield w.heap.size) #[] #[]] },W1,gf,
  #[.func (.yield w.heap.size) #[] #[]] ++ lb,W1,?_,?_,?_,?_,fun h=>by simp[Fence.wide] at h,?_⟩
 ·rw[← hW1,hrec];exact run_enterLoop_inner hl0 _ _ _ _ _
 ·simp only[resolve,hg]
  simp[go_sem]
 ·intro f' hf';trivial
 ·simp[invoke,go_sem,eg]
 ·refine((Iter.inRound (n:=0) l0 hit) w.heap.size
   (fun pre W=>I pre W∧W.heap[w.heap.size]?=some (.loop (rec .ready none)))
   (fun pre W=>∃ c,Ix c pre W∧W.heap[w.heap.size]?=some (.loop (rec .done (some c))))
   (fun pre W W' hJ hf=>⟨sI _ _ _ hJ.1 (hf.bk _),hf.at hJ.2 (by simp)⟩)
   (fun pre W W' ⟨c,hJ⟩ hf=>⟨c,sIx _ _ _ _ hJ.1 (hf.bk _),hf.at hJ.2 (by simp)⟩)
   (fun pre W hJ=>hR _ _ hJ.1) ?_ W1 ⟨hI1,hL1⟩).mono ?_
  ·rintro pre x rest W hxs ⟨hi,hl⟩
   have hy:=run_yield (P:=P) (args:=encs x) hl (by rw[hrec];exact hps x)
   rw[hrec] at hy
   refine⟨fn,_,assign,body,hy,roundIn_of_wpIn hfn (wpIn_any (l:=w.heap.size) (m:=1) (wpIn_mono (hround w.heap.size pre x rest W hxs hi (Nat.le_refl _) ⟨_,hl⟩) ?_))⟩
   intro e a' W' hp
   cases e with
   | normal =>
     obtain⟨hkb,hb⟩:=hp
     have hl':=hkb _ _ hl rfl
     have hlt:w.heap.size < W'.heap.size:=lt_of_block hl'
     refine⟨_,run_beginRound hl' (by rw[hrec]),?_⟩
     have hl2:(W'.putObj w.heap.size (.loop { rec .ready none with state:=.busy })).heap[w.heap.size]?=some (.loop { rec .ready none with state:=.busy }):=World.putObj_heap_same hlt
     refine wpIn_any (l:=w.heap.size) (m:=1) (wpIn_mono (hb _ (Bk.putObj W' _ hl' rfl (Nat.le_refl _)) ⟨_,hl2⟩) ?_)
     have fin:∀ (jump:Option Code) (W3:World),KB (W'.putObj w.heap.size (.loop { rec .ready none with state:=.busy })) W3 →
       (Instr.endRound w.heap.size jump).run P W3=.ok (.bool jump.isNone) (W3.putObj w.heap.size (.loop (rec (if jump.isNone then .ready else .done) jump))) ∧
       Bk w.heap.size W3 (W3.putObj w.heap.size (.loop (rec (if jump.isNone then .ready else .done) jump))) ∧
       (W3.putObj w.heap.size (.loop (rec (if jump.isNone then .ready else .done) jump))).heap[w.heap.size]?=some (.loop (rec (if jump.isNone then .ready else .done) jump)):=fun jump W3 hk3=>by
      have hl3:=hk3 _ _ hl2 rfl
      have:=run_endRound (P:=P) jump hl3
      rw[hrec] at this ⊢
      exact⟨this,Bk.putObj W3 _ hl3 rfl (Nat.le_refl _),World.putObj_heap_same (lt_of_block hl3)⟩
     rintro e a3 W3 hp
     cases e with
     | normal =>
       obtain⟨hk3,hi3⟩:=hp
       obtain⟨hr,hb3,hl4⟩:=fin none W3 hk3
       exact⟨_,_,hr,.inl ⟨rfl,sI _ _ _ hi3 hb3,hl4⟩⟩
     | ret =>
       obtain⟨hk3,hi3⟩:=hp
       obtain⟨hr,hb3,hl4⟩:=fin (some .ret) W3 hk3
       exact⟨_,_,hr,.inr ⟨rfl,.ret,sIx _ _ _ _ hi3 hb3,hl4⟩⟩
     | exit id =>
       obtain⟨hk3,hi3⟩:=hp
       obtain⟨hr,hb3,hl4⟩:=fin (some (.exit id)) W3 hk3
       exact⟨_,_,hr,.inr ⟨rfl,.exit id,sIx _ _ _ _ hi3 hb3,hl4⟩⟩
     | goto t =>
       obtain⟨hk3,hi3⟩:=hp
       obtain⟨hr,hb3,hl4⟩:=fin (some (.goto t)) W3 hk3
       exact⟨_,_,hr,.inr ⟨rfl,.goto t,sIx _ _ _ _ hi3 hb3,hl4⟩⟩
     | panic ch=>exact hp.elim
     | outgrown=>exact hp.elim
   | ret=>exact hp.elim
   | exit id=>exact hp.elim
   | goto t=>exact hp.elim
   | panic ch=>exact hp.elim
   | outgrown=>exact hp.elim
  ·rintro e W2 ⟨⟨v,rfl⟩,(⟨hi,hl⟩ | ⟨pre,x,rest,hxs,c,hi,hl⟩)⟩
   ·exact⟨none,_,by have:=run_endLoop (P:=P) hl (by rw[hrec];simp);rw[hrec] at this;exact this,hdone _ (sI _ _ _ hi (by rw[hrec] at hl;exact Bk.putObj W2 _ hl rfl (Nat.le_refl _)))⟩
   ·exact⟨some c,_,by have:=run_endLoop (P:=P) hl (by rw[hrec];simp);rw[hrec] at this;exact this,hstop c pre x rest _ hxs (sIx _ _ _ _ hi (by rw[hrec] at hl;exact Bk.putObj W2 _ hl rfl (Nat.le_refl _)))⟩
end Go.Proofs.YtemjlpahohmajaaGreat
namespace Go.Proofs.YtemjlpahohmajaaGreat
open Go.RowKit Go.BigFrame
theorem Bk.weak {B B':Nat} {w w':World} (h:Bk B w w') (hB:B'≤B):Bk B' w w':=⟨h.os,h.tape,h.output,h.size,fun k o hk ho=>h.block k o hk (ho.elim (fun h=>.inl (by omega)) .inr)⟩
structure Kc (T:TypeId→Prop) (B:Nat) (W W':World):Prop where
 size:W.heap.size≤W'.heap.size
 cells:∀ (k:Nat) (c:Array Value) (t:TypeId) (fr:Nat × Nat),W.heap[k]?=some (.cells c t fr)→¬ T t→W'.heap[k]?=some (.cells c t fr)
 books:∀ (k:Nat) (o:Obj),B≤k→W.heap[k]?=some o→isBook o=true→W'.heap[k]?=some o
section
variable {T:TypeId→Prop} {B B':Nat} {W W' W2:World}
theorem Kc.refl (T:TypeId→Prop) (B:Nat) (W:World):Kc T B W W:=⟨Nat.le_refl _,fun _ _ _ _ h _=>h,fun _ _ _ h _=>h⟩
theorem Kc.trans (h:Kc T B W W') (k:Kc T B W' W2):Kc T B W W2:=⟨Nat.le_trans h.size k.size,fun i c t fr hi ht=>k.cells i c t fr (h.cells i c t fr hi ht) ht,fun i o hB hi ho=>k.books i o hB (h.books i o hB hi ho) ho⟩
theorem Kc.low (h:Kc T B W W') (hB:B≤B'):Kc T B' W W':=⟨h.size,h.cells,fun k o hk=>h.books k o (by omega)⟩
theorem Kc.sub {T':TypeId→Prop} (h:Kc T B W W') (hT:∀ t,T t→T' t):Kc T' B W W':=⟨h.size,fun k c t fr hk ht=>h.cells k c t fr hk fun h2=>ht (hT t h2),h.books⟩
theorem Kc.frm (h:Frm [] W W'):Kc T B W W':=⟨h.size,fun _ _ _ _ hk _=>h.at hk (by simp),fun _ _ _ hk _=>h.at hk (by simp)⟩
theorem Kc.put {l:Nat} {o o':Obj} (h:Kc T B W W') (hl:W'.heap[l]?=some o) (ho:isBook o=true) (hB:l < B):Kc T B W (W'.putObj l o'):=by
 refine h.trans ⟨by simp[World.putObj],fun k c t fr hk _=>?_,fun k x hk hx _=>?_⟩
 ·have hne:k≠l:=fun e=>by subst e;rw[hl] at hk;cases hk;cases ho
  exact(World.putObj_heap_other hne).trans hk
 ·exact(World.putObj_heap_other (by omega)).trans hx
theorem Kc.set {b:Nat} {c:Array Value} {t:TypeId} {fr:Nat × Nat} (h:Kc T B W W') (hb:W'.heap[b]?=some (.cells c t fr)) (ht:T t) (o:Nat) (u:Value):Kc T B W (W'.setCell ⟨b,o,none⟩ u):=by
 have ne:∀ {k:Nat} {x:Obj},W'.heap[k]?=some x→(∀ c' t' fr',x=.cells c' t' fr'→¬ T t')→k≠b:=fun hk hx e=>by
  subst e
  rw[hb] at hk
  cases hk
  exact hx _ _ _ rfl ht
 refine h.trans ⟨by simp[World.setCell],fun k c' t' fr' hk ht'=>?_,fun k x _ hx hb'=>?_⟩
 ·exact(Below.heap_setCell _ _ _ _ (ne hk fun _ _ _ e=>by cases e;exact ht')).trans hk
 ·exact(Below.heap_setCell _ _ _ _ (ne hx fun _ _ _ e=>by subst e;cases hb')).trans hx
end
abbrev anyT:TypeId→Prop:=fun _=>True
def roundEndT {α:Type} (T:TypeId→Prop) (B:Nat) (I:List α→World→Prop) (Ix:Code→List α→World→Prop) (s:List α) (W:World):Exit→Act→World→Prop
 | .normal,_,W'=>Kc T B W W'∧I s W'
 | .ret,_,W'=>Kc anyT B W W'∧Ix .ret s W'
 | .exit id,_,W'=>Kc anyT B W W'∧Ix (.exit id) s W'
 | .goto t,_,W'=>Kc anyT B W W'∧Ix (.goto t) s W'
 | .panic _,_,_=>False
 | .outgrown,_,_=>False
def IterT {α:Type} (T:TypeId→Prop) (F:Fence) (n:Nat) (P:Program) (g:Nat) (lb:Array Value) (encs:α→Array Value) (R:World→Prop) (xs:List α):Prop:=
 ∀ (B l:Nat) (J Jx:List α→World→Prop),
   (∀ pre W W',J pre W→Bk B W W'→J pre W')→(∀ pre W W',Jx pre W→Bk B W W'→Jx pre W')→(∀ pre W,J pre W→R W) →
   (∀ pre x rest W,B≤W.heap.size→xs=pre ++ x :: rest→J pre W→YieldAt F (n - 1) P l (encs x) W fun e W' =>
    (e=.returned (.bool true)∧Kc T B W W'∧J (pre ++ [x]) W')∨(e=.returned (.bool false)∧Kc anyT B W W'∧Jx (pre ++ [x]) W')) →
   ∀ W,B≤W.heap.size→J [] W→CallsIn F n P g (#[.func (.yield l) #[] #[]] ++ lb) W fun e W'=>(∃ v,e=.returned v)∧(J xs W'∨∃ pre x rest,xs=pre ++ x :: rest∧Jx (pre ++ [x]) W')
theorem Iter.toT {α:Type} {T:TypeId→Prop} {F:Fence} {n:Nat} {P:Program} {g:Nat} {lb:Array Value} {encs:α→Array Value} {R:World→Prop} {xs:List α} (h:Iter F n P g lb encs R xs):IterT T F n P g lb encs R xs:=
 fun B l J Jx sJ sJx hJR hY W hB h0=>(h l (fun pre W=>J pre W∧B≤W.heap.size) Jx (fun pre W W' hj hf=>⟨sJ pre W W' hj.1 (hf.bk _),Nat.le_trans hj.2 hf.size⟩) (fun pre W W' hj hf=>sJx pre W W' hj (hf.bk _)) (fun pre W hj=>hJR pre W hj.1)
  (fun pre x rest W hxs hj=>(hY pre x rest W hj.2 hxs hj.1).mono fun e W' h=>by
   rcases h with ⟨h1,hc,h2⟩ | ⟨h1,-,h2⟩
   ·exact .inl ⟨h1,h2,Nat.le_trans hj.2 hc.size⟩
   ·exact .inr ⟨h1,h2⟩) W ⟨h0,hB⟩).mono fun e W' h=>⟨h.1,h.2.imp (fun h=>h.1) id⟩
section
variable {P:Program} {n m l l0:Nat}
theorem roundIn_fwd {f:FuncId} {tmps:Array Value} {assign body:Code} {w:World} {R:Ending→World→Prop} (h:RoundIn Fence.wide m P l f tmps assign body w R):RoundIn (Fence.wide.inRound l0) n P l f tmps assign body w R:=
 ⟨h.1,fun c cs _=>h.2 c cs (room_wide _)⟩
theorem yieldAt_fwd {args:Array Value} {w:World} {R:Ending→World→Prop} (h:YieldAt Fence.wide m P l args w R):YieldAt (Fence.wide.inRound l0) n P l args w R:=by
 obtain⟨fn,tmps,assign,body,h1,h2⟩:=h
 exact⟨fn,tmps,assign,body,h1,roundIn_fwd h2⟩
end
variable {F:Fence} {n:Nat} {P:Program}
theorem wpIn_rangeListT {α:Type} {T:TypeId→Prop} {g:Operand} {ps:Array Tmp} {assign body:Code} {Q:Exit→Act→World→Prop} {a:Act} {w:World}
  (hro:F.round=none) (h1:1≤n) {gf:Nat} {lb:Array Value} (hg:a.eval g=.func (.func gf) #[] lb) (hFg:F.fn gf) (eg:∀ args w,(callFunc gf args).run P w=.ok (.enter gf args) w)
  {encs:α→Array Value} {R:World→Prop} {xs:List α} (hit:IterT T F (n - 1) P gf lb encs R xs) (hps:∀ x,(encs x).size=ps.size)
  (I:List α→World→Prop) (Ix:Code→List α→World→Prop) (sI:∀ s W W',I s W→Bk w.heap.size W W'→I s W') (sIx:∀ c s W W',Ix c s W→Bk w.heap.size W W'→Ix c s W')
  (hR:∀ s W,I s W→R W) (h0:I [] w)
  (hround:∀ (l:Nat) (pre:List α) (x:α) (rest:List α) (W:World),xs=pre ++ x :: rest→I pre W→w.heap.size≤l→(∃ r,W.heap[l]?=some (.loop r)) →
   assign.wpIn (F.inRound l) (n - 1 - 1) P (Exit.then (fun a' W'=>Kc T w.heap.size W W'∧∀ W2,Bk w.heap.size W' W2→(∃ r,W2.heap[l]?=some (.loop r))→body.wpIn (F.inRound l) (n - 1 - 1) P (roundEndT T w.heap.size I Ix (pre ++ [x]) W2) a' W2) (fun _ _ _=>False))
    { tmps:=(ps.zip (encs x)).foldl (fun t (p,v)=>t.setIfInBounds p v) a.tmps,defers:=[] } W)
  (hdone:∀ (D:Nat) (W:World),w.heap.size≤D→I xs W→W.heap[D]?=some (.deferred (some []))→Q .normal { a with defers:={ target:=.collected D,args:=#[] } :: a.defers } W)
  (hstop:∀ (D:Nat) (c:Code) (pre:List α) (x:α) (rest:List α) (W:World),xs=pre ++ x :: rest→w.heap.size≤D→Ix c (pre ++ [x]) W→W.heap[D]?=some (.deferred (some []))→c.wpIn F n P Q { a with defers:={ target:=.collected D,args:=#[] } :: a.defers } W) :
  (Code.rangeFunc g ps assign body).wpIn F n P Q a w:=by
 refine wpIn_rangeFunc ?_
 intro fn hfn
 rw[hro]
 obtain⟨rec,hrec⟩:∃ rec:LoopState→Option Code→Loop,rec=fun st pe=>{ state:=st,pending:=pe,fn,tmps:=a.tmps,params:=ps,assign,body,defers:=w.heap.size }:=⟨_,rfl⟩
 obtain⟨W1,hW1⟩:∃ W1,(w.alloc (.deferred (some []))).alloc (.loop (rec .ready none))=W1:=⟨_,rfl⟩
 have hL1:W1.heap[w.heap.size + 1]?=some (.loop (rec .ready none)):=by
  rw[← hW1];have:=World.alloc_heap_new (w.alloc (.deferred (some []))) (.loop (rec .ready none));rwa [World.size_alloc] at this
 have hK1:W1.heap[w.heap.size]?=some (.deferred (some [])):=by
  rw[← hW1];exact(Below.heap_alloc _ _ _ (by simp)).trans (World.alloc_heap_new w _)
 have hF1:Frm [] w W1:=by rw[← hW1];exact((Frm.refl _ _).alloc _).alloc _
 have hI1:I [] W1:=sI _ _ _ h0 (hF1.bk _)
 refine⟨w.heap.size + 1,[{ target:=.collected w.heap.size,args:=#[] }],W1,{ target:=.fn (.func gf) lb,args:=#[.func (.yield (w.heap.size + 1)) #[] #[]] },W1,gf,
  #[.func (.yield (w.heap.size + 1)) #[] #[]] ++ lb,W1,?_,?_,?_,?_,fun _=>h1,?_⟩
 ·rw[← hW1,hrec];exact run_enterLoop_outer _ _ _ _ _
 ·simp only[resolve,hg]
  simp[go_sem]
 ·intro f' hf';simp[Target.leads] at hf';subst hf';exact hFg
 ·simp[invoke,go_sem,eg]
 ·have hsz:W1.heap.size=w.heap.size + 2:=by rw[← hW1];simp
  refine(hit W1.heap.size (w.heap.size + 1)
   (fun pre W=>I pre W∧W.heap[w.heap.size + 1]?=some (.loop (rec .ready none))∧W.heap[w.heap.size]?=some (.deferred (some [])))
   (fun pre W=>∃ c,Ix c pre W∧W.heap[w.heap.size + 1]?=some (.loop (rec .done (some c)))∧W.heap[w.heap.size]?=some (.deferred (some [])))
   (fun pre W W' hJ hf=>⟨sI _ _ _ hJ.1 (hf.weak (by omega)),hf.block _ _ hJ.2.1 (.inl (by omega)),hf.block _ _ hJ.2.2 (.inl (by omega))⟩)
   (fun pre W W' ⟨c,hJ⟩ hf=>⟨c,sIx _ _ _ _ hJ.1 (hf.weak (by omega)),hf.block _ _ hJ.2.1 (.inl (by omega)),hf.block _ _ hJ.2.2 (.inl (by omega))⟩)
   (fun pre W hJ=>hR _ _ hJ.1) ?_ W1 (Nat.le_refl _) ⟨hI1,hL1,hK1⟩).mono ?_
  ·rintro pre x rest W hBW hxs ⟨hi,hl,hk⟩
   have hy:=run_yield (P:=P) (args:=encs x) hl (by rw[hrec];exact hps x)
   rw[hrec] at hy
   refine⟨fn,_,assign,body,hy,roundIn_of_wpIn hfn (wpIn_mono (hround (w.heap.size + 1) pre x rest W hxs hi (by omega) ⟨_,hl⟩) ?_)⟩
   intro e a' W' hp
   cases e with
   | normal =>
     obtain⟨hkb,hb⟩:=hp
     have hl':=hkb.books _ _ (by omega) hl rfl
     have hk':=hkb.books _ _ (by omega) hk rfl
     have hlt:w.heap.size + 1 < W'.heap.size:=lt_of_block hl'
     refine⟨_,run_beginRound hl' (by rw[hrec]),?_⟩
     have hl2:(W'.putObj (w.heap.size + 1) (.loop { rec .ready none with state:=.busy })).heap[w.heap.size + 1]?=some (.loop { rec .ready none with state:=.busy }):=World.putObj_heap_same hlt
     have hk2:(W'.putObj (w.heap.size + 1) (.loop { rec .ready none with state:=.busy })).heap[w.heap.size]?=some (.deferred (some [])):=(World.putObj_heap_other (by omega)).trans hk'
     refine wpIn_mono (hb _ (Bk.putObj W' _ hl' rfl (by omega)) ⟨_,hl2⟩) ?_
     have fin:∀ (T':TypeId→Prop) (_:∀ t,T t→T' t) (jump:Option Code) (W3:World),Kc T' w.heap.size (W'.putObj (w.heap.size + 1) (.loop { rec .ready none with state:=.busy })) W3 →
       (Instr.endRound (w.heap.size + 1) jump).run P W3=.ok (.bool jump.isNone) (W3.putObj (w.heap.size + 1) (.loop (rec (if jump.isNone then .ready else .done) jump))) ∧
       Bk w.heap.size W3 (W3.putObj (w.heap.size + 1) (.loop (rec (if jump.isNone then .ready else .done) jump))) ∧
       (W3.putObj (w.heap.size + 1) (.loop (rec (if jump.isNone then .ready else .done) jump))).heap[w.heap.size + 1]?=some (.loop (rec (if jump.isNone then .ready else .done) jump)) ∧
       (W3.putObj (w.heap.size + 1) (.loop (rec (if jump.isNone then .ready else .done) jump))).heap[w.heap.size]?=some (.deferred (some [])) ∧
       Kc T' W1.heap.size W (W3.putObj (w.heap.size + 1) (.loop (rec (if jump.isNone then .ready else .done) jump))):=fun T' hTT jump W3 hk3=>by
      have hl3:=hk3.books _ _ (by omega) hl2 rfl
      have:=run_endRound (P:=P) jump hl3
      rw[hrec] at this ⊢
      exact⟨this,Bk.putObj W3 _ hl3 rfl (by omega),World.putObj_heap_same (lt_of_block hl3),(World.putObj_heap_other (by omega)).trans (hk3.books _ _ (by omega) hk2 rfl),
       ((((hkb.sub hTT).low (by omega)).put hl' rfl (by omega)).trans (hk3.low (by omega))).put hl3 rfl (by omega)⟩
     rintro e a3 W3 hp
     cases e with
     | normal =>
       obtain⟨hk3,hi3⟩:=hp
       obtain⟨hr,hb3,hl4,hk4,hc4⟩:=fin T (fun _ h=>h) none W3 hk3
       exact⟨_,_,hr,.inl ⟨rfl,hc4,sI _ _ _ hi3 hb3,hl4,hk4⟩⟩
     | ret =>
       obtain⟨hk3,hi3⟩:=hp
       obtain⟨hr,hb3,hl4,hk4,hc4⟩:=fin anyT (fun _ _=>trivial) (some .ret) W3 hk3
       exact⟨_,_,hr,.inr ⟨rfl,hc4,.ret,sIx _ _ _ _ hi3 hb3,hl4,hk4⟩⟩
     | exit id =>
       obtain⟨hk3,hi3⟩:=hp
       obtain⟨hr,hb3,hl4,hk4,hc4⟩:=fin anyT (fun _ _=>trivial) (some (.exit id)) W3 hk3
       exact⟨_,_,hr,.inr ⟨rfl,hc4,.exit id,sIx _ _ _ _ hi3 hb3,hl4,hk4⟩⟩
     | goto t =>
       obtain⟨hk3,hi3⟩:=hp
       obtain⟨hr,hb3,hl4,hk4,hc4⟩:=fin anyT (fun _ _=>trivial) (some (.goto t)) W3 hk3
       exact⟨_,_,hr,.inr ⟨rfl,hc4,.goto t,sIx _ _ _ _ hi3 hb3,hl4,hk4⟩⟩
     | panic ch=>exact hp.elim
     | outgrown=>exact hp.elim
   | ret=>exact hp.elim
   | exit id=>exact hp.elim
   | goto t=>exact hp.elim
   | panic ch=>exact hp.elim
   | outgrown=>exact hp.elim
  ·rintro e W2 ⟨⟨v,rfl⟩,(⟨hi,hl,hk⟩ | ⟨pre,x,rest,hxs,c,hi,hl,hk⟩)⟩
   ·exact⟨none,_,by have:=run_endLoop (P:=P) hl (by rw[hrec];simp);rw[hrec] at this;exact this,hdone _ _ (Nat.le_refl _) (sI _ _ _ hi (by rw[hrec] at hl;exact Bk.putObj W2 _ hl rfl (by omega))) ((World.putObj_heap_other (by omega)).trans hk)⟩
   ·exact⟨some c,_,by have:=run_endLoop (P:=P) hl (by rw[hrec];simp);rw[hrec] at this;exact this,hstop _ c pre x rest _ hxs (Nat.le_refl _) (sIx _ _ _ _ hi (by rw[hrec] at hl;exact Bk.putObj W2 _ hl rfl (by omega))) ((World.putObj_heap_other (by omega)).trans hk)⟩
theorem wp_rangeListT {α:Type} {T:TypeId→Prop} {g:Operand} {ps:Array Tmp} {assign body:Code} {Q:Exit→Act→World→Prop} {a:Act} {w:World}
  {gf:Nat} {lb:Array Value} (hg:a.eval g=.func (.func gf) #[] lb) (eg:∀ args w,(callFunc gf args).run P w=.ok (.enter gf args) w)
  {encs:α→Array Value} {R:World→Prop} {xs:List α} (hit:IterT T Fence.wide 2 P gf lb encs R xs) (hps:∀ x,(encs x).size=ps.size)
  (I:List α→World→Prop) (Ix:Code→List α→World→Prop) (sI:∀ s W W',I s W→Bk w.heap.size W W'→I s W') (sIx:∀ c s W W',Ix c s W→Bk w.heap.size W W'→Ix c s W')
  (hR:∀ s W,I s W→R W) (h0:I [] w)
  (hround:∀ (l:Nat) (pre:List α) (x:α) (rest:List α) (W:World),xs=pre ++ x :: rest→I pre W→w.heap.size≤l→(∃ r,W.heap[l]?=some (.loop r)) →
   assign.wpIn (Fence.wide.inRound l) 1 P (Exit.then (fun a' W'=>Kc T w.heap.size W W'∧∀ W2,Bk w.heap.size W' W2→(∃ r,W2.heap[l]?=some (.loop r))→body.wpIn (Fence.wide.inRound l) 1 P (roundEndT T w.heap.size I Ix (pre ++ [x]) W2) a' W2) (fun _ _ _=>False))
    { tmps:=(ps.zip (encs x)).foldl (fun t (p,v)=>t.setIfInBounds p v) a.tmps,defers:=[] } W)
  (hdone:∀ (D:Nat) (W:World),w.heap.size≤D→I xs W→W.heap[D]?=some (.deferred (some []))→Q .normal { a with defers:={ target:=.collected D,args:=#[] } :: a.defers } W)
  (hstop:∀ (D:Nat) (c:Code) (pre:List α) (x:α) (rest:List α) (W:World),xs=pre ++ x :: rest→w.heap.size≤D→Ix c (pre ++ [x]) W→W.heap[D]?=some (.deferred (some []))→c.wp P Q { a with defers:={ target:=.collected D,args:=#[] } :: a.defers } W) :
  (Code.rangeFunc g ps assign body).wp P Q a w:=
 wpIn_wide.1 (wpIn_rangeListT (F:=Fence.wide) (n:=3) rfl (by omega) hg trivial eg hit hps I Ix sI sIx hR h0 hround hdone (fun D c pre x rest W h1 h2 h3 h4=>wpIn_wide.2 (hstop D c pre x rest W h1 h2 h3 h4)))
end Go.Proofs.YtemjlpahohmajaaGreat
namespace Go.Proofs.YtemjlpahohmajaaGreat
open Go.RowKit Go.BigFrame
def stepBig (t:StpD):Bool:=decide (60 < t.msg.size) || decide (60 < t.peer.size)
def WfS (s:SesD):Prop:=∀ r∈s.roles,∀ x∈r.steps,wf64 x.kind
end Go.Proofs.YtemjlpahohmajaaGreat
namespace Go.Proofs.YtemjlpahohmajaaGreat
open Go.RowKit
section
variable {F:List Nat} {P:Program} {ops:Array Oper} {Q:Exit→Act→World→Prop} {md:Region.Mode} {S S':World→Prop} {T:Nat→Bool}
def wpAnyL (P:Program) (md:Region.Mode) (ops:Array Oper) (Q:Exit→Act→World→Prop) (S:World→Prop) (T:Nat→Bool):Nat→Bool→Array Bool→Act→World→Prop
 | 0,_,listed,a,w=>Region.ready md ops listed=[]∧Q .normal a w
 | fuel + 1,b,listed,a,w =>
   (Region.ready md ops listed=[]→Q .normal a w) ∧
   ∀ i∈Region.ready md ops listed,wpOp P ops Q i (fun a' w'=>((b || T i)=false→S w')∧wpAnyL P md ops Q S T fuel (b || T i) (listed.setIfInBounds i true) a' w') a w
theorem wpAny_of_L:∀ (fuel:Nat) (b:Bool) (listed:Array Bool) (a:Act) (w:World),wpAnyL P md ops Q S T fuel b listed a w→wpAny P md ops Q fuel listed a w
 | 0,_,_,_,_,h=>h
 | fuel + 1,_,_,_,_,h=>⟨h.1,fun i hi=>wpOp_mono (fun a' w' h'=>wpAny_of_L fuel _ _ a' w' h'.2) (h.2 i hi)⟩
theorem wpAnyL_sub (hSS:∀ W,S' W→S W):∀ (fuel:Nat) (b:Bool) (listed:Array Bool) (a:Act) (w:World),wpAnyL P md ops Q S' T fuel b listed a w→wpAnyL P md ops Q S T fuel b listed a w
 | 0,_,_,_,_,h=>h
 | fuel + 1,_,_,_,_,h=>⟨h.1,fun i hi=>wpOp_mono (fun a' w' h'=>⟨fun hb=>hSS _ (h'.1 hb),wpAnyL_sub hSS fuel _ _ a' w' h'.2⟩) (h.2 i hi)⟩
def depB (md:Region.Mode) (ops:Array Oper):Nat→Nat→Nat→Bool
 | 0,_,_=>false
 | f + 1,j,i=>((ops[j]?).map fun o=>o.after.any fun e=>Region.binds md e && (e.on == i || depB md ops f e.on i)).getD false
def Closed (md:Region.Mode) (ops:Array Oper) (listed:Array Bool):Prop:=∀ (k:Nat) o,ops[k]?=some o→listed.getD k false=true→∀ e∈o.after,Region.binds md e=true→listed.getD e.on false=true
def closedB (md:Region.Mode) (ops:Array Oper) (listed:Array Bool):Bool:=(List.range ops.size).all fun k=>!listed.getD k false || ((ops[k]?).map fun o=>o.after.all fun e=>!Region.binds md e || listed.getD e.on false).getD true
theorem closed_of {listed:Array Bool} (h:closedB md ops listed=true):Closed md ops listed:=fun k o ho hk e he hb=>by
 have:=(List.all_eq_true.1 h) k (List.mem_range.2 (Array.getElem?_eq_some_iff.1 ho).1)
 rw[ho,hk] at this
 simp only[Bool.not_true,Option.map_some,Option.getD_some,Bool.false_or] at this
 have:=(Array.all_eq_true_iff_forall_mem.1 this) e he
 simpa[hb] using this
theorem dep_no {listed:Array Bool} {i:Nat} (hc:Closed md ops listed) (hi:listed.getD i false=false):∀ (f j:Nat),depB md ops f j i=true→(∀ o,ops[j]?=some o→∀ e∈o.after,Region.binds md e=true→listed.getD e.on false=true)→False
 | 0,_,h,_=>by cases h
 | f + 1,j,h,hj=>by
   unfold depB at h
   cases ho:ops[j]? with
   | none=>rw[ho] at h;cases h
   | some o =>
     rw[ho] at h
     simp only[Option.map_some,Option.getD_some] at h
     obtain⟨e,he,hb⟩:=Array.any_eq_true'.1 h
     simp only[Bool.and_eq_true,Bool.or_eq_true,beq_iff_eq] at hb
     have hl:=hj o ho e he hb.1
     rcases hb.2 with hb | hb
     ·rw[hb,hi] at hl;cases hl
     ·exact dep_no hc hi f e.on hb fun o' ho'=>hc e.on o' ho' hl
def waitsB (md:Region.Mode) (ops:Array Oper) (T:Nat→Bool) (i:Nat):Bool:=(List.range ops.size).all fun j=>!T j || depB md ops 4 j i
theorem wpAnyL_first {i:Nat} {oi:Oper} {v:Value} (hi:ops[i]?=some oi) (hT:T i=false) (hw:waitsB md ops T i=true) (hsel:∀ (j:Nat) (o:Oper) cs b,ops[j]?=some o→o.op≠.select cs b)
  (hQ:∀ c a w,Q (.panic c) (a.put oi.dst v) w→Q (.panic c) a w) :
  ∀ (fuel:Nat) (listed:Array Bool) (a:Act) (w:World),Closed md ops listed →
    (∀ j oj,ops[j]?=some oj→j≠i→listed.getD j true=false→(∀ e∈oj.after,Region.binds md e=true→e.on≠i)→oi.apart ops oj=true) →
    i∈Region.ready md ops listed→YieldsIf P ops S oi v a→S w →
    wpAnyL P md ops Q S T fuel false (listed.setIfInBounds i true) (a.put oi.dst v) w→wpAnyL P md ops Q S T (fuel + 1) false listed a w:=by
 intro fuel
 induction fuel with
 | zero =>
   intro listed a w _ _ hr hy hS H
   refine⟨fun h=>(by rw[h] at hr;cases hr),fun j hj=>?_⟩
   by_cases hji:j=i
   ·subst hji
    rw[Bool.false_or,hT]
    exact hy.wpOp hi hS ⟨fun _=>hS,H⟩
   ·have:=ready_mono hj hji
    rw[H.1] at this
    cases this
 | succ fuel ih =>
   intro listed a w hcl hfree hr hy hS H
   refine⟨fun h=>(by rw[h] at hr;cases hr),fun j hj=>?_⟩
   by_cases hji:j=i
   ·subst hji
    rw[Bool.false_or,hT]
    exact hy.wpOp hi hS ⟨fun _=>hS,H⟩
   ·have h1:=H.2 j (ready_mono hj hji)
    obtain⟨hjun,oj,hoj,hall⟩:=mem_ready.1 hj
    have hnot:∀ e∈oj.after,Region.binds md e=true→e.on≠i:=fun e he hb heq=>by
     have h1:=hall e he hb
     have h0:=(mem_ready.1 hr).1
     rw[heq] at h1
     rcases Nat.lt_or_ge i listed.size with h' | h'
     ·simp[h'] at h0 h1;rw[h0] at h1;cases h1
     ·simp[Array.getElem?_eq_none h'] at h1
    have hTj:T j=false:=by
     have hjs:j < ops.size:=(Array.getElem?_eq_some_iff.1 hoj).1
     have:=(List.all_eq_true.1 hw) j (List.mem_range.2 hjs)
     simp only[Bool.or_eq_true,Bool.not_eq_true'] at this
     rcases this with h | h
     ·exact h
     ·refine(dep_no hcl ?_ 4 j h fun o ho e he hb=>?_).elim
      ·have h0:=(mem_ready.1 hr).1
       rcases Nat.lt_or_ge i listed.size with h' | h'
       ·simp[h'] at h0 ⊢;exact h0
       ·simp[h'] at h0
      ·rw[hoj] at ho
       cases ho
       exact hall e he hb
    rw[Bool.false_or,hTj] at h1 ⊢
    have h2:=wpOp_putIf hoj (hfree j oj hoj hji hjun hnot) (fun cs b=>hsel i oi cs b hi) (fun cs b=>hsel j oj cs b hoj) hQ hy h1
    have hfree':∀ k ok,ops[k]?=some ok→k≠i→(listed.setIfInBounds j true).getD k true=false →
      (∀ e∈ok.after,Region.binds md e=true→e.on≠i)→oi.apart ops ok=true:=fun k ok hk hki hun hno=>by
     refine hfree k ok hk hki ?_ hno
     by_cases hjk:j=k
     ·subst hjk;exact hjun
     ·rw[getD_set_ne true hjk] at hun;exact hun
    have hcl':Closed md ops (listed.setIfInBounds j true):=fun k o ho hk e he hb=>by
     have up:∀ q,listed.getD q false=true→(listed.setIfInBounds j true).getD q false=true:=fun q hq=>by
      by_cases e:j=q
      ·subst e
       rcases Nat.lt_or_ge j listed.size with h' | h'
       ·simp[h']
       ·simp[Array.getElem?_eq_none h'] at hq
      ·rw[getD_set_ne false e];exact hq
     by_cases ek:j=k
     ·subst ek
      rw[hoj] at ho
      cases ho
      exact up _ (hall e he hb)
     ·rw[getD_set_ne false ek] at hk
      exact up _ (hcl k o ho hk e he hb)
    refine wpOp_mono (fun a' w' h3=>⟨fun _=>h3.2.1 rfl,ih (listed.setIfInBounds j true) a' w' hcl' hfree' (ready_mono hr (Ne.symm hji)) h3.1 (h3.2.1 rfl) ?_⟩) h2
    rw[Array.setIfInBounds_comm _ _ hji]
    exact h3.2.2
theorem wpAnyL_firstP {i:Nat} {oi:Oper} {v:Value} (hi:ops[i]?=some oi) (hT:T i=false) (hsel:∀ (j:Nat) (o:Oper) cs b,ops[j]?=some o→o.op≠.select cs b)
  (hQ:∀ c a w,Q (.panic c) (a.put oi.dst v) w→Q (.panic c) a w) :
  ∀ (fuel:Nat) (b:Bool) (listed:Array Bool) (a:Act) (w:World),
    (∀ j oj,ops[j]?=some oj→j≠i→listed.getD j true=false→(∀ e∈oj.after,Region.binds md e=true→e.on≠i)→oi.apart ops oj=true) →
    i∈Region.ready md ops listed→YieldsIf P ops (fun _=>True) oi v a→(b=false→S w) →
    wpAnyL P md ops Q S T fuel b (listed.setIfInBounds i true) (a.put oi.dst v) w→wpAnyL P md ops Q S T (fuel + 1) b listed a w:=by
 intro fuel
 induction fuel with
 | zero =>
   intro b listed a w _ hr hy hS H
   refine⟨fun h=>(by rw[h] at hr;cases hr),fun j hj=>?_⟩
   by_cases hji:j=i
   ·subst hji
    rw[hT,Bool.or_false]
    exact hy.wpOp hi trivial ⟨hS,H⟩
   ·have:=ready_mono hj hji
    rw[H.1] at this
    cases this
 | succ fuel ih =>
   intro b listed a w hfree hr hy hS H
   refine⟨fun h=>(by rw[h] at hr;cases hr),fun j hj=>?_⟩
   by_cases hji:j=i
   ·subst hji
    rw[hT,Bool.or_false]
    exact hy.wpOp hi trivial ⟨hS,H⟩
   ·have h1:=H.2 j (ready_mono hj hji)
    obtain⟨hjun,oj,hoj,hall⟩:=mem_ready.1 hj
    have hnot:∀ e∈oj.after,Region.binds md e=true→e.on≠i:=fun e he hb heq=>by
     have h1:=hall e he hb
     have h0:=(mem_ready.1 hr).1
     rw[heq] at h1
     rcases Nat.lt_or_ge i listed.size with h' | h'
     ·simp[h'] at h0 h1;rw[h0] at h1;cases h1
     ·simp[Array.getElem?_eq_none h'] at h1
    have h2:=wpOp_putIf hoj (hfree j oj hoj hji hjun hnot) (fun cs b=>hsel i oi cs b hi) (fun cs b=>hsel j oj cs b hoj) hQ hy h1
    have hfree':∀ k ok,ops[k]?=some ok→k≠i→(listed.setIfInBounds j true).getD k true=false →
      (∀ e∈ok.after,Region.binds md e=true→e.on≠i)→oi.apart ops ok=true:=fun k ok hk hki hun hno=>by
     refine hfree k ok hk hki ?_ hno
     by_cases hjk:j=k
     ·subst hjk;exact hjun
     ·rw[getD_set_ne true hjk] at hun;exact hun
    refine wpOp_mono (fun a' w' h3=>⟨h3.2.1,ih (b || T j) (listed.setIfInBounds j true) a' w' hfree' (ready_mono hr (Ne.symm hji)) h3.1 h3.2.1 ?_⟩) h2
    rw[Array.setIfInBounds_comm _ _ hji]
    exact h3.2.2
def wrFrom (n:Nat) (j:Nat):Bool:=decide (n≤j)
theorem heldL_start (F:List Nat) (T:Nat→Bool) {id:Nat} {a:Act} {w:World} (hm:P.follows .mixedOrders=true) (h:wpAnyL P .any ops Q (Frm F w.drew) T ops.size false (Array.replicate ops.size false) a w.drew):(Code.region id ops true).wp P Q a w:=
 wp_region_any hm (wpAny_of_L _ _ _ _ _ h)
theorem heldL_take {i:Nat} {oi:Oper} {fuel:Nat} {listed:Array Bool} {a:Act} {w:World} (v:Value) (hi:ops[i]?=some oi)
  (hs:Region.noSelect ops=true) (hf:Region.free md ops listed i=true) (hr:(Region.ready md ops listed).contains i=true) (hT:T i=false) (hwt:(waitsB md ops T i && closedB md ops listed)=true)
  (hQ:∀ c a w,Q (.panic c) (a.put oi.dst v) w→Q (.panic c) a w) (hw:Region.wanted oi (yielded ops a.tmps)=true) (hy:∀ w',Frm F w w'→(execOp a.eval oi).run P w'=.ok (.value v) w')
  (h:wpAnyL P md ops Q (Frm F w) T fuel false (listed.setIfInBounds i true) (a.put oi.dst v) w):wpAnyL P md ops Q (Frm F w) T (fuel + 1) false listed a w:=
 wpAnyL_first hi hT (Bool.and_eq_true_iff.1 hwt).1 (Region.noSelect_spec hs) hQ fuel listed a w (closed_of (Bool.and_eq_true_iff.1 hwt).2) (Region.free_spec hi hf) (List.contains_iff_mem.1 hr) (.inl ⟨hw,hy⟩) (Frm.refl F w) h
theorem heldL_takep {b:Bool} {i:Nat} {oi:Oper} {fuel:Nat} {listed:Array Bool} {a:Act} {w:World} (v:Value) (hi:ops[i]?=some oi)
  (hs:Region.noSelect ops=true) (hf:Region.free md ops listed i=true) (hr:(Region.ready md ops listed).contains i=true) (hT:T i=false)
  (hQ:∀ c a w,Q (.panic c) (a.put oi.dst v) w→Q (.panic c) a w) (hw:Region.wanted oi (yielded ops a.tmps)=true) (hy:∀ w',(execOp a.eval oi).run P w'=.ok (.value v) w')
  (h:wpAnyL P md ops Q (Frm F w) T fuel b (listed.setIfInBounds i true) (a.put oi.dst v) w):wpAnyL P md ops Q (Frm F w) T (fuel + 1) b listed a w:=
 wpAnyL_firstP hi hT (Region.noSelect_spec hs) hQ fuel b listed a w (Region.free_spec hi hf) (List.contains_iff_mem.1 hr) (.inl ⟨hw,fun w' _=>hy w'⟩) (fun _=>Frm.refl F w) h
theorem heldL_all {rs:List Nat} {fuel:Nat} {b:Bool} {listed:Array Bool} {a:Act} {w:World} (hr:Region.ready md ops listed=rs) (hne:rs≠[])
  (h:∀ i∈rs,wpOp P ops Q i (fun a' w'=>((b || T i)=false→S w')∧wpAnyL P md ops Q S T fuel (b || T i) (listed.setIfInBounds i true) a' w') a w):wpAnyL P md ops Q S T (fuel + 1) b listed a w:=
 ⟨fun h0=>absurd (hr.symm.trans h0) hne,fun i hi=>h i (hr ▸ hi)⟩
theorem allL_nil {p:Nat→Prop}:∀ i∈([]:List Nat),p i:=fun _ h=>by cases h
theorem allL_cons {p:Nat→Prop} {i:Nat} {rs:List Nat} (h:p i) (hs:∀ j∈rs,p j):∀ j∈i :: rs,p j:=fun j hj=>by
 rcases List.mem_cons.1 hj with rfl | hj
 ·exact h
 ·exact hs j hj
theorem heldL_step {i:Nat} {oi:Oper} {fuel:Nat} {listed:Array Bool} {a:Act} {w:World} (hi:ops[i]?=some oi) (hT:T i=false) (hw:Region.wanted oi (yielded ops a.tmps)=true)
  (h:∀ K':Act→World→Prop,Shut (∀ a' w',Frm F w w'→wpAnyL P md ops Q (Frm F w') T fuel false (listed.setIfInBounds i true) a' w'→K' a' w')→Oper.wp P oi a w K' Q) :
  wpOp P ops Q i (fun a' w'=>((false || T i)=false→Frm F w w')∧wpAnyL P md ops Q (Frm F w) T fuel (false || T i) (listed.setIfInBounds i true) a' w') a w:=by
 unfold wpOp
 simp only[hi,hw,if_true]
 refine .inl (h _ (fun a' w' hf hk=>⟨fun _=>hf,?_⟩))
 rw[Bool.false_or,hT]
 exact wpAnyL_sub (fun W hW=>hf.trans hW) _ _ _ _ _ hk
theorem heldL_write {b:Bool} {i:Nat} {oi:Oper} {fuel:Nat} {listed:Array Bool} {a:Act} {w:World} (hi:ops[i]?=some oi) (hT:(b || T i)=true) (hw:Region.wanted oi (yielded ops a.tmps)=true)
  (h:∀ K':Act→World→Prop,Shut (∀ a' w',wpAnyL P md ops Q S T fuel true (listed.setIfInBounds i true) a' w'→K' a' w')→Oper.wp P oi a w K' Q) :
  wpOp P ops Q i (fun a' w'=>((b || T i)=false→S w')∧wpAnyL P md ops Q S T fuel (b || T i) (listed.setIfInBounds i true) a' w') a w:=by
 unfold wpOp
 simp only[hi,hw,if_true]
 rw[hT]
 exact .inl (h _ (fun a' w' hk=>⟨(fun h0=>by cases h0),hk⟩))
theorem heldL_done {b:Bool} {listed:Array Bool} {a:Act} {w:World} (hr:Region.ready md ops listed=[]) (h:Q .normal a w):∀ fuel,wpAnyL P md ops Q S T fuel b listed a w
 | 0=>⟨hr,h⟩
 | _ + 1=>⟨fun _=>h,fun i hi=>by rw[hr] at hi;cases hi⟩
theorem htL (i:Nat) {oi:Oper} {fuel:Nat} {listed:Array Bool} {a:Act} {w:World} (v:Value) (hy:∀ w',Frm F w w'→(execOp a.eval oi).run P w'=.ok (.value v) w')
  (h:wpAnyL P md ops Q (Frm F w) T fuel false (listed.setIfInBounds i true) (a.put oi.dst v) w) (hi:ops[i]?=some oi:=by rfl) (hb:(Region.noSelect ops && Region.free md ops listed i && (Region.ready md ops listed).contains i && !T i && (waitsB md ops T i && closedB md ops listed))=true:=by kernel_rfl)
  (hQ:∀ c a w,Q (.panic c) (a.put oi.dst v) w→Q (.panic c) a w:=by exact fun _ _ _ h=>h) (hw:Region.wanted oi (yielded ops a.tmps)=true:=by rfl):wpAnyL P md ops Q (Frm F w) T (fuel + 1) false listed a w:=by
 obtain⟨h1,h2⟩:=Bool.and_eq_true_iff.1 hb
 simp only[Bool.and_eq_true,Bool.not_eq_true'] at h1
 exact heldL_take v hi h1.1.1.1 h1.1.1.2 h1.1.2 h1.2 h2 hQ hw hy h
theorem htP {b:Bool} (i:Nat) {oi:Oper} {fuel:Nat} {listed:Array Bool} {a:Act} {w:World} (v:Value) (hy:∀ w',(execOp a.eval oi).run P w'=.ok (.value v) w')
  (h:wpAnyL P md ops Q (Frm F w) T fuel b (listed.setIfInBounds i true) (a.put oi.dst v) w) (hi:ops[i]?=some oi:=by rfl) (hb:(Region.noSelect ops && Region.free md ops listed i && (Region.ready md ops listed).contains i && !T i)=true:=by kernel_rfl)
  (hQ:∀ c a w,Q (.panic c) (a.put oi.dst v) w→Q (.panic c) a w:=by exact fun _ _ _ h=>h) (hw:Region.wanted oi (yielded ops a.tmps)=true:=by rfl):wpAnyL P md ops Q (Frm F w) T (fuel + 1) b listed a w:=by
 simp only[Bool.and_eq_true,Bool.not_eq_true'] at hb
 exact heldL_takep v hi hb.1.1.1 hb.1.1.2 hb.1.2 hb.2 hQ hw hy h
theorem honL (i:Nat) {fuel:Nat} {b:Bool} {listed:Array Bool} {a:Act} {w:World}
  (h:wpOp P ops Q i (fun a' w'=>((b || T i)=false→S w')∧wpAnyL P md ops Q S T fuel (b || T i) (listed.setIfInBounds i true) a' w') a w) (hr:Region.ready md ops listed=[i]:=by kernel_rfl):wpAnyL P md ops Q S T (fuel + 1) b listed a w:=
 heldL_all hr (by simp) (allL_cons h allL_nil)
theorem hcL {i:Nat} {oi:Oper} {fuel:Nat} {listed:Array Bool} {a:Act} {w:World} (v:Value) (hy:∀ w',Frm F w w'→(execOp a.eval oi).run P w'=.ok (.value v) w')
  (h:Cnt (i + 1) (wpAnyL P md ops Q (Frm F w) T fuel false (listed.setIfInBounds i true) (a.put oi.dst v) w)) (hi:ops[i]?=some oi:=by rfl) (hb:(Region.noSelect ops && Region.free md ops listed i && (Region.ready md ops listed).contains i && !T i && (waitsB md ops T i && closedB md ops listed))=true:=by kernel_rfl)
  (hQ:∀ c a w,Q (.panic c) (a.put oi.dst v) w→Q (.panic c) a w:=by exact fun _ _ _ h=>h) (hw:Region.wanted oi (yielded ops a.tmps)=true:=by rfl):Cnt i (wpAnyL P md ops Q (Frm F w) T (fuel + 1) false listed a w):=
 htL i v hy h hi hb hQ hw
theorem hcP {b:Bool} {i:Nat} {oi:Oper} {fuel:Nat} {listed:Array Bool} {a:Act} {w:World} (v:Value) (hy:∀ w',(execOp a.eval oi).run P w'=.ok (.value v) w')
  (h:Cnt (i + 1) (wpAnyL P md ops Q (Frm F w) T fuel b (listed.setIfInBounds i true) (a.put oi.dst v) w)) (hi:ops[i]?=some oi:=by rfl) (hb:(Region.noSelect ops && Region.free md ops listed i && (Region.ready md ops listed).contains i && !T i)=true:=by kernel_rfl)
  (hQ:∀ c a w,Q (.panic c) (a.put oi.dst v) w→Q (.panic c) a w:=by exact fun _ _ _ h=>h) (hw:Region.wanted oi (yielded ops a.tmps)=true:=by rfl):Cnt i (wpAnyL P md ops Q (Frm F w) T (fuel + 1) b listed a w):=
 htP i v hy h hi hb hQ hw
end
end Go.Proofs.YtemjlpahohmajaaGreat
