/- Part of the proof. -/
import Derived.WalkKit
import Derived.WalkSpells
import Derived.Deep.QuietTactic
import Derived.Deep.MidRow
import Derived.Deep.WholeRow
import Derived.Lib.SlicesS
import Derived.Shelf.SlGeneric
import Derived.Shelf.SlLaysN
import Derived.Shelf.SlLaysM
import Derived.Ground.SlgnProg
import Derived.Ground.SlgmProg
import Derived.Test.YtohfkhjlnlahdaaGreatProg
import Derived.BigQuiet
import Derived.StillTail
import Derived.Laws.IdiomStrings
import Derived.Shelf.Bytes.SlSmallAll
import Derived.Deep.Upon
import Derived.ArgAppend
import Derived.Deep.AppendLies
import Derived.Maps.AppendAt
import Derived.Lib.Hide
import Derived.Deep.DeepMust
import Derived.WalkLawsBesides
import Derived.BigRegion
import Derived.Deep.RegionHeld3
import Derived.Deep.RegionLaw
import Derived.Deep.DeepCutAuto
import Derived.Shelf.SlicesG.Clone
import Derived.Shelf.SlicesG.Turned
import Derived.Shelf.SlicesG.Delete
import Derived.Sort.OwnSorted
import Derived.OrdersHeld
import Derived.Lib.SliceRun
import Derived.LoopTactic
import Derived.RangeFuncNested
import Derived.RangeFuncLeaves
import Derived.RangeFuncCalls
import Derived.RangeFuncBound
import Derived.OwnWalkIn
import Derived.TacticsInMore
import Derived.LoopNIn
import Derived.LoopIn
import Derived.Test.YtohfkhjlnlahdaaGreatW28
import Derived.Shelf.SortM.Plain
import Derived.Shelf.SortM.SortNone
import Derived.Laws.StructEq
import Derived.Test.YtohfkhjlnlahdaaGreatW13
import Derived.Test.YtohfkhjlnlahdaaGreatW27
import Derived.Test.YtohfkhjlnlahdaaGreatW24
import Derived.Test.YtohfkhjlnlahdaaGreatW23
import Derived.Test.YtohfkhjlnlahdaaGreatW09
import Derived.Test.YtohfkhjlnlahdaaGreatW19
import Derived.Laws.EntriesVeiled
import Derived.Laws.Concat
import Derived.Lib.Builder
import Derived.Sort.CutIn
import Derived.OrdersIn
import Derived.Lib.AppendStr
import Derived.Test.YtohfkhjlnlahdaaGreatW08
import Derived.Laws.OwnMore
import Derived.Maps.OwnSet
import Derived.Maps.OwnOps
import Derived.LaidEql
import Derived.Test.YtohfkhjlnlahdaaGreatW01
import Derived.ProofKit
import Derived.SizedLaws
import Derived.Deep.Slices
import Derived.Test.YtohfkhjlnlahdaaGreatW02
import Derived.Test.YtohfkhjlnlahdaaGreatW03
import Derived.Test.YtohfkhjlnlahdaaGreatRows
import Derived.Lib.SmallJoins
import Derived.Test.YtohfkhjlnlahdaaGreatW07
set_option linter.all false
namespace Go.Proofs.YtohfkhjlnlahdaaGreat
open Go.RowKit Go.BigFrame
def RowG (G:Value→Prop) (e:TypeId) (v:Value) (w:World):Prop:=∀ g cur,v.ownBlock=some g→w.heap[g]?=some (.cells cur e (0,0))→∀ u∈cur,G u
theorem zeroCells_all {zero:Array Value} {n:Nat} {G:Value→Prop} (h0:0 < zero.size) (h:∀ u∈zero,G u):∀ u∈Builtin.zeroCells zero n,G u:=by
 intro u hu
 unfold Builtin.zeroCells at hu
 simp only[Array.mem_map,Array.mem_range] at hu
 obtain⟨i,-,rfl⟩:=hu
 have hi:i % zero.size < zero.size:=Nat.mod_lt _ h0
 rw[getElem!_pos zero _ hi]
 exact h _ (Array.getElem_mem hi)
theorem append_all {P:Program} (w:World) (G:Value→Prop) (base:Nat) (t ty e:TypeId) (i:TypeInfo) (z:Value) (size bytes:Nat) (ht:P.underlying t=some (.slice e)) (hi:P.info? e=some i) (hz:i.zero=some z)
  (hsize:i.size=size) (hby:i.bytes=bytes) (hzs:z.cells.size=size) (hsz:0 < size) (v:Value) (n:Nat) (xs:List Value) (hown:w.ownsRow base e size v n xs)
  (a:Addr) (m c:Nat) (news:List Value) (hl:news.length=m * size) (hnews:∀ j u,news[j]?=some u→w.cell? (a.add j)=some u) (h1:∀ u∈news,u.oneCell'=true)
  (h63:n + m≤maxLen) (hbytes:(n + m) * bytes≤140737488355328) (hbase:base≤w.heap.size) (hm:0 < m) (hG:RowG G e v w) (hGz:∀ u∈z.cells,G u) (hGn:∀ u∈news,G u) :
  ∃ v' w',(Builtin.append_ #[t,t] ty #[v,.slice (some a) m c]).run P w=.ok v' w'∧w'.ownsRow base e size v' (n + m) (xs ++ news)∧w.grownBy w' v.ownBlock∧RowG G e v' w'∧(v'.ownBlock=v.ownBlock∨v'.ownBlock=some w.heap.size):=by
 obtain⟨v',w',hr,h2,h3,-,h5⟩:=run_append_own_at (P:=P) w base t ty e i z size bytes ht hi hz hsize hby hzs hsz v n xs hown a m c news hl hnews h1 h63 hbytes hbase
 refine⟨v',w',hr,h2,h3,?_,h5⟩
 clear h5
 subst hsize
 subst hby
 have hsmall:n + m≤9223372036854775807:=by simp only[maxLen] at h63;omega
 have hold:∀ g cap,v=.slice (some ⟨g,0,none⟩) n cap→∀ u∈xs,G u:=by
  rintro g cap rfl u hu
  obtain⟨-,⟨e1,-⟩ | ⟨g',cap',cur,e1,-,hg,-,-,-,htake⟩⟩:=hown
  ·cases e1
  ·cases e1
   rw[← htake] at hu
   exact hG g cur rfl hg u (by simpa using List.mem_of_mem_take hu)
 rcases hown.2 with ⟨rfl,rfl⟩ | ⟨g,cap,cur,rfl,hbg,hg,hnc,hcm,hcs,htake⟩
 ·have hx:xs=[]:=List.eq_nil_of_length_eq_zero (by simpa using hown.1)
  subst hx
  have hr2:=run_append_nil (P:=P) w t ty e i z ht hi hz a m c news hl hnews hm (by omega) (by have hb:=hbytes;simp only[Nat.zero_add] at hb;omega)
  rw[hr2] at hr
  injection hr with e1 e2
  subst e1
  subst e2
  intro g' cur' hg' hc' u hu
  simp only[Value.ownBlock,Option.some.injEq] at hg'
  subst hg'
  have hh:=heap_alloc_new w.drew (.cells (news.toArray ++ Builtin.zeroCells z.cells (grownCap w m 0 e - m)) e)
  rw[show w.drew.heap.size=w.heap.size from rfl] at hh
  rw[hh] at hc'
  cases hc'
  rcases Array.mem_append.1 hu with hu | hu
  ·exact hGn u (by simpa using hu)
  ·exact zeroCells_all (by omega) hGz u hu
 ·by_cases hroom:n + m≤cap
  ·have hfit:n * i.size + news.length≤cur.size:=by rw[hl,hcs,← Nat.add_mul];exact Nat.mul_le_mul_right _ hroom
   have hr2:=run_append_room (P:=P) w t ty e i ht hi g n cap cur hg a m c news hl hnews h1 hroom hfit
   rw[hr2] at hr
   injection hr with e1 e2
   subst e1
   subst e2
   intro g' cur' hg' hc' u hu
   simp only[Value.ownBlock,Option.some.injEq] at hg'
   subst hg'
   rw[setRow_heap w g cur _ e _ hg] at hc'
   cases hc'
   simp only[List.mem_toArray,List.mem_append] at hu
   rcases hu with (hu | hu) | hu
   ·exact hG g cur rfl hg u (by simpa using List.mem_of_mem_take hu)
   ·exact hGn u hu
   ·exact hG g cur rfl hg u (by simpa using List.mem_of_mem_drop hu)
  ·have holds:∀ j u,xs[j]?=some u→w.cell? ((⟨g,0,none⟩:Addr).add j)=some u:=hown.cells (g:=g) rfl
   have hr2:=run_append_grow (P:=P) w t ty e i z ht hi hz ⟨g,0,none⟩ n cap xs hown.1 holds a m c news hl hnews (by omega) (by omega) (growslice_fits (by omega) hbytes)
   rw[hr2] at hr
   injection hr with e1 e2
   subst e1
   subst e2
   intro g' cur' hg' hc' u hu
   simp only[Value.ownBlock,Option.some.injEq] at hg'
   subst hg'
   have hh:=heap_alloc_new w.drew (.cells (xs.toArray ++ news.toArray ++ Builtin.zeroCells z.cells (grownCap w (n + m) cap e - (n + m))) e)
   rw[show w.drew.heap.size=w.heap.size from rfl] at hh
   rw[hh] at hc'
   cases hc'
   simp only[Array.mem_append,List.mem_toArray] at hu
   rcases hu with (hu | hu) | hu
   ·exact hold g cap rfl u hu
   ·exact hGn u hu
   ·exact zeroCells_all (by omega) hGz u hu
theorem wp_append_all {P:Program} {o:Oper} {a:Act} {w:World} {K:Act→World→Prop} {Q:Exit→Act→World→Prop} (G:Value→Prop) (s x:Operand) (t:TypeId)
  (ho:o.op=.call { callee:=.builtin .append,args:=#[s,x],argTypes:=#[t,t] })
  (base:Nat) (e:TypeId) (i:TypeInfo) (z:Value) (size bytes:Nat) (ht:P.underlying t=some (.slice e)) (hi:P.info? e=some i) (hz:i.zero=some z)
  (hsize:i.size=size) (hby:i.bytes=bytes) (hzs:z.cells.size=size) (hsz:0 < size)
  (v:Value) (n:Nat) (xs:List Value) (hs:a.eval s=v) (hown:w.ownsRow base e size v n xs)
  (ad:Addr) (m c:Nat) (news:List Value) (hx:a.eval x=.slice (some ad) m c) (hl:news.length=m * size) (hnews:∀ j u,news[j]?=some u→w.cell? (ad.add j)=some u) (h1:∀ u∈news,u.oneCell'=true)
  (h63:n + m≤maxLen) (hbytes:(n + m) * bytes≤140737488355328) (hbase:base≤w.heap.size) (hm:0 < m) (hG:RowG G e v w) (hGz:∀ u∈z.cells,G u) (hGn:∀ u∈news,G u)
  (h:∀ v' w',w'.ownsRow base e size v' (n + m) (xs ++ news)→w.grownBy w' v.ownBlock→RowG G e v' w'→(v'.ownBlock=v.ownBlock∨v'.ownBlock=some w.heap.size)→K (a.put o.dst v') w') :
  Oper.wp P o a w K Q:=by
 obtain⟨v',w',hr,h2,h3,h4,h5⟩:=append_all (P:=P) w G base t o.type e i z size bytes ht hi hz hsize hby hzs hsz v n xs hown ad m c news hl hnews h1 h63 hbytes hbase hm hG hGz hGn
 unfold Oper.wp execOp
 simp only[ho,resolve,invoke,builtin,Sem.run_bind,Sem.run_pure,Result.andThen_ok,List.map_toArray,List.map_cons,List.map_nil,hs,hx,hr]
 exact h v' w' h2 h3 h4 h5
end Go.Proofs.YtohfkhjlnlahdaaGreat
namespace Go.Proofs.YtohfkhjlnlahdaaGreat
open Go.RowKit Go.BigFrame Go.Sort
theorem sort_any (v:Value) (L:List ByteArray) (w:World) (h:Strs w v L) (hL:L.length≤1000000) :
  Calls Tryz.prog 105 #[v] w (Ret (.tuple #[]) (fun w'=>Strs w' v (keyL 2 L)∧Frm v.ownBlock.toList w w')):=by
 obtain⟨ao,cap,rfl,hn,hc⟩:=h.shape
 have hlen:(keyL 2 L).length=L.length:=by simp[keyL]
 cases L with
 | nil =>
   refine(AnyM.slices_Sort_string_none Tryz.sortS ao cap w).mono ?_
   rintro e w' ⟨rfl,rfl⟩
   exact⟨rfl,by simpa[keyL] using h,Frm.refl _ _⟩
 | cons x xs =>
   obtain⟨g,rfl,-⟩:=hc 0 x rfl
   obtain⟨hH,q1,q2,cur,hh,q3⟩:=h.holds
   have hd:=AnyM.slices_Sort_string Tryz.sortS g 0 cap ((x :: xs).map byt) w hH (lt_of_block hh) (by rw[List.length_map];omega)
   rw[List.length_map] at hd
   refine(show Calls Tryz.prog 105 _ w _ from hd).mono ?_
   rintro e w' ⟨rfl,q,os,rfl⟩
   refine⟨rfl,?_,?_⟩
   ·have ho:=ownsRow_sorted (w:=w) (base:=0) (g:=g) (cap:=cap) (n:=q) (e:=9) (os:=os) (cur:=cur) (ss:=(x :: xs).map byt) (ts:=((x :: xs).map byt).mergeSort fun x y=>decide (x≤y)) (by simp) (Nat.zero_le _) hh (by simpa using q1) q2 q3
    rw[List.length_map] at ho
    have e1:(keyL 2 (x :: xs)).map Value.string=(((x :: xs).map byt).mergeSort fun x y=>decide (x≤y)).map encStr:=by rw[keyL,if_pos rfl,List.map_map];rfl
    unfold Strs
    rw[hlen,e1]
    exact ho
   ·exact(Frm.refl _ _).grown (grownBy_sorted _) (fun k hk=>by cases hk;exact .inl (by simp[Value.ownBlock]))
theorem wrap_small {x:Int} (h0:0≤x) (h1:x≤255):IntKind.u8.wrap x=x:=by simp[IntKind.wrap,show IntKind.u8.bits=8 from rfl,show IntKind.u8.signed=false from rfl];omega
theorem len_byte (w:World) (x:ByteArray) (h:x.size≤32):(convert 26 9 (.slice (some ⟨w.heap.size,0,none⟩) 1 1)).run Tryz.prog (w.alloc (.cells #[.int .u8 (x.size:Int)] 5))=.ok (.string ⟨#[UInt8.ofNat x.size]⟩) (w.alloc (.cells #[.int .u8 (x.size:Int)] 5)):=
 run_convert_bytes_back _ 26 9 5 ⟨w.heap.size,0,none⟩ 1 [UInt8.ofNat x.size] Tryz.underlying26 Tryz.underlying5 Tryz.underlying9 (fun j hj=>by
  have h0:j=0:=by simpa using hj
  subst h0
  have e:((UInt8.ofNat x.size).toNat:Int)=(x.size:Int):=by simp;omega
  show (w.alloc _).cell? ⟨w.heap.size,0 + 0,none⟩=some (.int .u8 ((UInt8.ofNat x.size).toNat:Int))
  rw[e]
  exact cell_of (heap_alloc_new w _) 0)
set_option maxHeartbeats 1000000 in
set_option maxRecDepth 100000 in
theorem key_any (cb:Nat) (cls cap:Int) (L:List ByteArray) (F:List Nat) (w:World) (h:Chn w cb cls cap L F) :
  Calls Tryz.prog 104 #[.pointer (some ⟨cb,0,none⟩)] w (Ret (.string (keyB (keyL cls L))) (Frm [] w)):=by
 have HG:=Lib.hid h.good
 have hg:=h.good.lenN
 have HC:=Lib.hid h
 have CA:=Lib.hid (all_any h)
 clear h
 have HSL:Hid ((keyL cls L).length=L.length):=Lib.hid (keyL_length cls L)
 have HSZ:Hid (∀ x∈keyL cls L,1≤x.size∧x.size≤32):=Lib.hid (fun x hx=>HG.out.sz x (keyL_mem hx))
 by_cases hz:cls=2
 ·subst hz
  obtain⟨S,hS⟩:∃ S,keyL 2 L=S:=⟨_,rfl⟩
  rw[hS] at HSL HSZ ⊢
  go_enter Tryz.func104,Tryz.ntmps104
  go_wp2_with (first
   | (go_at_call 154;go_must (refine CA.out.mono ?_;rintro e w1 ⟨v,rfl,hr⟩;obtain⟨ao,cp,rfl,-,-⟩:=hr.1.shape;have HR:=Lib.hid hr;clear hr))
   | (go_at_call 128;go_must (refine(none_any cb 2 cap L F w1 (HC.out.frm HR.out.2.1 (by simp))).mono ?_;rintro e w' ⟨rfl,rfl⟩;obtain⟨sv,e1,-,-,-⟩:=HC.out;have c0:=HR.out.2.1.keep (cell_of e1 0);clear e1))
   | (go_at_call 105;go_must (refine(sort_any _ L w1 HR.out.1 (by omega)).mono ?_;rintro e w2 ⟨rfl,hs⟩;have HS:=Lib.hid hs;clear hs)))
  rw[hS] at HS
  clear hS
  have HST:Hid (Strs w2 (.slice ao L.length cp) S):=Lib.hid HS.out.1
  have HWW:Hid (Frm [] w w2):=Lib.hid ((HR.out.2.1).then HS.out.2 (fun x hx=>.inr (HR.out.2.2 x (by simpa using hx))))
  go_loopw [2,22] (fun s2 s22 wr=>∃ i:Nat,s2=.string (keyB (S.take i))∧s22=.int .i64 i∧i≤L.length∧Frm [] w2 wr) (fun _ s22 _=>L.length - (intOf s22).toNat)
  case atStart=>exact⟨0,rfl,rfl,Nat.zero_le _,Frm.refl _ _⟩
  case round =>
   obtain⟨i,rfl,rfl,hi,hf⟩:=hrel
   have HF:=Lib.hid hf
   by_cases hlt:i < L.length
   ·obtain⟨x,hx⟩:∃ x,S[i]?=some x:=⟨_,List.getElem?_eq_getElem (by rw[HSL.out];exact hlt)⟩
    have hsz:=HSZ.out x (List.mem_of_getElem? hx)
    obtain⟨ao',cp',hv,-,hcs⟩:=HST.out.shape
    rw[HSL.out] at hv;cases hv
    obtain⟨g,rfl,cx0⟩:=hcs i x hx
    have cx:=hf.keep cx0
    have hlt':(i:Int) < (L.length:Int):=by omega
    have hwr:IntKind.u8.wrap (x.size:Int)=(x.size:Int):=wrap_small (by omega) (by omega)
    have HX:=Lib.hid hx
    have hconv:(convert 26 9 (.slice (some ⟨wr.heap.size,0,none⟩) 1 1)).run Tryz.prog (wr.alloc (.cells #[.int .u8 (x.size:Int)] 5))=.ok (.string ⟨#[UInt8.ofNat x.size]⟩) (wr.alloc (.cells #[.int .u8 (x.size:Int)] 5)):=len_byte wr x hsz.2
    have hks:(keyB (S.take i)).size≤3000:=by
     have h1:=keyB_size (S.take i) (fun y hy=>(HSZ.out y (List.mem_of_mem_take hy)).2)
     rw[List.length_take] at h1
     omega
    clear hcs cx0 hf hx
    go_wp2_with fail
    exact⟨⟨i + 1,by rw[keyB_snoc HX.out],by simp,hlt,HF.out.alloc _⟩,by simp[intOf];omega⟩
   ·have hge:¬ (i:Int) < (L.length:Int):=by omega
    clear hf
    go_wp2
    go_ret
    refine⟨?_,HWW.out.trans HF.out⟩
    rw[List.take_of_length_le (by rw[HSL.out];omega)]
    rfl
 ·have hne:(cls == 2)=false:=by simpa using hz
  obtain⟨S,hS⟩:∃ S,keyL cls L=S:=⟨_,rfl⟩
  have HSE:Hid (S=L):=Lib.hid (hS.symm.trans (if_neg hz))
  rw[hS] at HSL HSZ ⊢
  clear hS
  go_enter Tryz.func104,Tryz.ntmps104
  go_wp2_with (first
   | (go_at_call 154;go_must (refine CA.out.mono ?_;rintro e w1 ⟨v,rfl,hr⟩;obtain⟨ao,cp,rfl,-,-⟩:=hr.1.shape;have HR:=Lib.hid hr;clear hr))
   | (go_at_call 128;go_must (refine(none_any cb cls cap L F w1 (HC.out.frm HR.out.2.1 (by simp))).mono ?_;rintro e w' ⟨rfl,rfl⟩;obtain⟨sv,e1,-,-,-⟩:=HC.out;have c0:=HR.out.2.1.keep (cell_of e1 0);clear e1)))
  have HST:Hid (Strs w1 (.slice ao L.length cp) S):=Lib.hid (by rw[HSE.out];exact HR.out.1)
  have HWW:Hid (Frm [] w w1):=Lib.hid HR.out.2.1
  go_loopw [2,22] (fun s2 s22 wr=>∃ i:Nat,s2=.string (keyB (S.take i))∧s22=.int .i64 i∧i≤L.length∧Frm [] w1 wr) (fun _ s22 _=>L.length - (intOf s22).toNat)
  case atStart=>exact⟨0,rfl,rfl,Nat.zero_le _,Frm.refl _ _⟩
  case round =>
   obtain⟨i,rfl,rfl,hi,hf⟩:=hrel
   have HF:=Lib.hid hf
   by_cases hlt:i < L.length
   ·obtain⟨x,hx⟩:∃ x,S[i]?=some x:=⟨_,List.getElem?_eq_getElem (by rw[HSL.out];exact hlt)⟩
    have hsz:=HSZ.out x (List.mem_of_getElem? hx)
    obtain⟨ao',cp',hv,-,hcs⟩:=HST.out.shape
    rw[HSL.out] at hv;cases hv
    obtain⟨g,rfl,cx0⟩:=hcs i x hx
    have cx:=hf.keep cx0
    have hlt':(i:Int) < (L.length:Int):=by omega
    have hwr:IntKind.u8.wrap (x.size:Int)=(x.size:Int):=wrap_small (by omega) (by omega)
    have HX:=Lib.hid hx
    have hconv:(convert 26 9 (.slice (some ⟨wr.heap.size,0,none⟩) 1 1)).run Tryz.prog (wr.alloc (.cells #[.int .u8 (x.size:Int)] 5))=.ok (.string ⟨#[UInt8.ofNat x.size]⟩) (wr.alloc (.cells #[.int .u8 (x.size:Int)] 5)):=len_byte wr x hsz.2
    have hks:(keyB (S.take i)).size≤3000:=by
     have h1:=keyB_size (S.take i) (fun y hy=>(HSZ.out y (List.mem_of_mem_take hy)).2)
     rw[List.length_take] at h1
     omega
    clear hcs cx0 hf hx
    go_wp2_with fail
    exact⟨⟨i + 1,by rw[keyB_snoc HX.out],by simp,hlt,HF.out.alloc _⟩,by simp[intOf];omega⟩
   ·have hge:¬ (i:Int) < (L.length:Int):=by omega
    clear hf
    go_wp2
    go_ret
    refine⟨?_,HWW.out.trans HF.out⟩
    rw[List.take_of_length_le (by rw[HSL.out];omega)]
    rfl
end Go.Proofs.YtohfkhjlnlahdaaGreat
namespace Go.Proofs.YtohfkhjlnlahdaaGreat
open Go.RowKit Go.BigFrame
abbrev encM (m:Mv):Array Value:=#[.int .i64 m.kind,.int .i64 m.role,.int .i64 m.step,.int .i64 m.place]
theorem Tryz.undMv:Tryz.prog.underlying 44=some (.struct (Tryz.prog.fieldsOf 44)):=by kernel_rfl
set_option maxHeartbeats 1000000 in
set_option maxRecDepth 100000 in
theorem eql_move (a b:Mv) (w:World):(binOp .eql 44 (.agg (encM a)) (.agg (encM b))).run Tryz.prog w=.ok (.bool (decide (a=b))) w:=by
 have h:(Op.equalIn (9999 + 1) 44 (.agg (encM a)) (.agg (encM b))).run Tryz.prog w=.ok (decide (a=b)) w:=by
  rw[run_equalIn_struct w 9999 44 _ _ Tryz.undMv (by kernel_rfl)]
  simp[go_sem,encM,Tryz.underlying44]
  obtain⟨a1,a2,a3,a4⟩:=a
  obtain⟨b1,b2,b3,b4⟩:=b
  simp only[Mv.mk.injEq]
  repeat' split
  all_goals simp[*]
 simp only[binOp]
 simp[show Op.equal 44 (.agg (encM a)) (.agg (encM b))=Op.equalIn (9999 + 1) 44 (.agg (encM a)) (.agg (encM b)) from rfl,h]
set_option maxHeartbeats 1000000 in
theorem inMove_any (v:Value) (xs:List Mv) (y:Mv) (w:World) (h:Arr 4 MvAt w v xs) (hl:xs.length≤5000) :
  Calls Tryz.prog 121 #[v,.agg (encM y)] w (Ret (.int .i64 (ixf (fun x=>decide (y=x)) xs)) (Frm [] w)):=by
 obtain⟨ao,cap,rfl,hx⟩:=h
 have HX:=Lib.hid hx
 obtain⟨n,hn⟩:∃ n,xs.length=n:=⟨_,rfl⟩
 rw[hn] at hl ⊢
 have HN:=Lib.hid hn
 obtain⟨W0,hW0⟩:∃ W0,w.alloc (.cells (encM y) 44)=W0:=⟨_,rfl⟩
 have HW0:Hid (Frm [] w W0):=Lib.hid (by rw[← hW0];exact(Frm.refl _ _).alloc _)
 have HB:Hid (W0.heap[w.heap.size]?=some (.cells (encM y) 44 (0,0))):=Lib.hid (by rw[← hW0];exact heap_alloc_new w _)
 have HE:=Lib.hid hW0
 clear hx hn hW0
 go_enter Tryz.func121,Tryz.ntmps121
 go_wp2_with (refine wpList_box_row rfl 44 _ rfl (encM y) rfl ?_;rw[HE.out])
 clear HE
 go_loopw [8,5] (fun s8 s5 wr=>∃ i:Nat,s8=.int .i64 i∧i≤n∧Frm [] W0 wr∧∀ j x,j < i→xs[j]?=some x→decide (y=x)=false) (fun s8 _ _=>n - (intOf s8).toNat)
 case atStart=>exact⟨0,rfl,Nat.zero_le _,Frm.refl _ _,fun j x hj=>by omega⟩
 case round =>
  obtain⟨i,rfl,hi,hf,hno⟩:=hrel
  have HF:=Lib.hid hf;have HNO:=Lib.hid hno
  clear hf hno
  by_cases hlt:i < n
  ·have hlt':(i:Int) < (n:Int):=by omega
   obtain⟨x,hx⟩:∃ x,xs[i]?=some x:=⟨_,List.getElem?_eq_getElem (by rw[HN.out];exact hlt)⟩
   obtain⟨b,o,rfl,hat⟩:=HX.out i x hx
   obtain⟨c0,c1,c2,c3⟩:=hat.frm (HW0.out.trans HF.out)
   have hbb:=HF.out.at HB.out (by simp)
   have d0:wr.cell? ⟨w.heap.size,0,none⟩=some (.int .i64 y.kind):=cell_of hbb 0
   have d1:wr.cell? ⟨w.heap.size,1,none⟩=some (.int .i64 y.role):=cell_of hbb 1
   have d2:wr.cell? ⟨w.heap.size,2,none⟩=some (.int .i64 y.step):=cell_of hbb 2
   have d3:wr.cell? ⟨w.heap.size,3,none⟩=some (.int .i64 y.place):=cell_of hbb 3
   have hq:∀ V,(binOp .eql 44 (mvV y) (mvV x)).run Tryz.prog V=.ok (.bool (decide (y=x))) V:=fun V=>eql_move y x V
   have HXI:=Lib.hid hx
   clear hat hx hbb
   cases hpx:decide (y=x) with
   | true =>
     rw[hpx] at hq
     have HPX:=Lib.hid hpx
     clear hpx
     go_wp2
     go_quiet (fail)
     go_wp2
     go_ret
     exact⟨by rw[ixf_some HXI.out HPX.out HNO.out];rfl,HW0.out.trans (HF.out.drewN _)⟩
   | false =>
     rw[hpx] at hq
     have HPX:=Lib.hid hpx
     clear hpx
     go_wp2
     go_quiet (fail)
     go_wp2
     refine⟨⟨i + 1,by simp,hlt,HF.out.drewN _,fun j z hj hz=>?_⟩,by simp[intOf];omega⟩
     by_cases e:j=i
     ·subst e;rw[HXI.out] at hz;cases hz;exact HPX.out
     ·exact HNO.out j z (by omega) hz
  ·have hge:¬ (i:Int) < (n:Int):=by omega
   go_wp2
   go_ret
   refine⟨?_,HW0.out.trans HF.out⟩
   have e:=ixf_none (p:=fun x=>decide (y=x)) (l:=xs) fun x hx=>by
    obtain⟨j,hj⟩:=List.getElem?_of_mem hx
    exact HNO.out j x (by have:=lt_of_some hj;rw[HN.out] at this;omega) hj
   rw[e];rfl
theorem mem_ixm {xs:List Mv} {y:Mv}:decide (0≤ixf (fun x=>decide (y=x)) xs)=decide (y∈xs):=by
 by_cases h:y∈xs
 ·rw[decide_eq_true (ixf_ex (p:=fun x=>decide (y=x)) h (by simp)),decide_eq_true h]
 ·rw[decide_eq_false h,decide_eq_false]
  intro h2
  obtain⟨i,hi,-⟩:=ixf_nat h2
  obtain⟨x,h3,h4,-⟩:=ixf_at hi
  rw[decide_eq_true_eq] at h4
  subst h4
  exact h (List.mem_of_getElem? h3)
set_option maxHeartbeats 1000000 in
theorem coMove_any (v:Value) (xs:List Mv) (y:Mv) (w:World) (h:Arr 4 MvAt w v xs) (hl:xs.length≤5000) :
  Calls Tryz.prog 62 #[v,.agg (encM y)] w (Ret (.bool (decide (y∈xs))) (Frm [] w)):=by
 obtain⟨ao,cap,e,-⟩:=id h
 subst e
 have hf0:Frm [] w (w.alloc (.cells (encM y) 44)):=(Frm.refl _ _).alloc _
 have C1:=Lib.hid (inMove_any (.slice ao xs.length cap) xs y (w.alloc (.cells (encM y) 44)) (h.frm fun _ _ _ h=>h.frm hf0) hl)
 have HF0:=Lib.hid hf0
 rw[← mem_ixm]
 obtain⟨q,hq⟩:∃ q,ixf (fun x=>decide (y=x)) xs=q:=⟨_,rfl⟩
 rw[hq] at C1 ⊢
 have hb:(w.alloc (.cells (encM y) 44)).heap[w.heap.size]?=some (.cells (encM y) 44 (0,0)):=heap_alloc_new w _
 obtain⟨W0,hW0⟩:∃ W0,w.alloc (.cells (encM y) 44)=W0:=⟨_,rfl⟩
 rw[hW0] at C1 HF0 hb
 have HB:=Lib.hid hb
 have HW:=Lib.hid hW0
 clear h hf0 hq hW0 hb
 go_enter Tryz.func62,Tryz.ntmps62
 go_wp2_with (first
  | (refine wpList_box_row rfl 44 _ rfl (encM y) rfl ?_;rw[HW.out])
  | (refine wpList_load_whole rfl 44 _ rfl _ rfl _ 44 HB.out _ Tryz.underlying44 rfl (by kernel_rfl) ?_)
  | (go_at_call 121;go_must (refine C1.out.mono ?_;rintro e w1 ⟨rfl,hf1⟩;have HF1:=Lib.hid hf1;clear hf1)))
 go_ret
 exact⟨rfl,HF0.out.trans HF1.out⟩
end Go.Proofs.YtohfkhjlnlahdaaGreat
namespace Go.Proofs.YtohfkhjlnlahdaaGreat
open Go.RowKit Go.BigFrame
def StTo (w:World) (s:SesD) (yb:Nat) (y:PS) (v:Value) (w':World):Prop:=∃ xb,v=.tuple #[.pointer (some ⟨xb,0,none⟩),.int .i64 0]∧StR w' s yb xb y∧Frm [] w w'
section
variable {w W W':World} {s:SesD} {x:PS} {yb xb ab gb rb cb f t:Nat} {F F':List Nat} {L L':List ByteArray}
theorem ChS.step (h:ChS w s x yb xb ab gb rb cb f t F L W) (hx:PSok s x) (hf:f < s.roles.length) (ht:t < s.roles.length) {i b g p:Nat} {vs:List Int} (hi:i < s.roles.length) (ob:BnkO W b g ((s.rol i).ctrs.zip vs)) (hb:b≠ab) (hg:g≠ab) {y:PS}
  (hy:y={ pos:=x.pos.set i p,vals:=x.vals.set i vs,ways:=setWay x.ways f t L }) (ho:PSok s y) :
  StR ((W.setCell ⟨ab,i * 2,none⟩ (.int .i64 (p:Int))).setCell ⟨ab,i * 2 + 1,none⟩ (.pointer (some ⟨b,0,none⟩))) s yb xb y∧Frm [] w ((W.setCell ⟨ab,i * 2,none⟩ (.int .i64 (p:Int))).setCell ⟨ab,i * 2 + 1,none⟩ (.pointer (some ⟨b,0,none⟩))):=by
 obtain⟨cg,ca,h1,-⟩:=h.ways hx hf ht
 obtain⟨cur,ha⟩:=h.ha
 have hS:Frm [ab] W ((W.setCell ⟨ab,i * 2,none⟩ (.int .i64 (p:Int))).setCell ⟨ab,i * 2 + 1,none⟩ (.pointer (some ⟨b,0,none⟩))):=((Frm.refl [ab] W).setCell _ (.inl (by simp)) _).setCell _ (.inl (by simp)) _
 have hb2:=block_setCell (block_setCell ha (i * 2) (.int .i64 (p:Int))) (i * 2 + 1) (.pointer (some ⟨b,0,none⟩))
 obtain⟨W2,hW2⟩:∃ W2,(W.setCell ⟨ab,i * 2,none⟩ (.int .i64 (p:Int))).setCell ⟨ab,i * 2 + 1,none⟩ (.pointer (some ⟨b,0,none⟩))=W2:=⟨_,rfl⟩
 rw[hW2] at hS hb2 ⊢
 have nx:xb∉[ab]:=fun e=>by simp at e;subst e;rw[h1] at ha;cases ha
 obtain⟨⟨c1,f1,t1⟩,c2,f2,t2⟩:=h.types
 have ng:gb∉[ab]:=fun e=>by simp at e;subst e;rw[t1] at ha;cases ha
 have nr:rb∉[ab]:=fun e=>by simp at e;subst e;rw[t2] at ha;cases ha
 have nF:∀ k∈F,k∉[ab]:=fun k hk e=>by
  obtain⟨c,e',a1,a2⟩:=h.chn.types hk
  simp at e;subst e
  rw[ha] at a1;cases a1
  revert a2;decide
 have hfw:Frm [] w W2:=h.fr.then hS (by intro k hk;simp at hk;subst hk;exact .inr h.new.2.1)
 obtain⟨cr,hr⟩:=h.rowf
 have h':ChS w s x yb xb ab gb rb cb f t F L W→True:=fun _=>trivial
 have hsz:i * 2 + 1 < cur.size:=by
  obtain⟨bb,a1,a2,-⟩:=h.act i hi
  rw[cell_of ha] at a2
  exact(Array.getElem?_eq_some_iff.1 a2).1
 subst hy
 refine⟨⟨⟨_,_,hS.at h1 nx,⟨some ⟨ab,0,none⟩,ca,by rw[actsP_len],fun j a hj=>⟨ab,0,rfl,?_⟩⟩,some ⟨gb,0,none⟩,cg,by rw[setWay_length,hx.wl],fun j R hR=>⟨gb,0,rfl,?_⟩⟩,ho⟩,hfw⟩
 ·have hjl:j < s.roles.length:=by have:=lt_of_some hj;rwa [actsP_len] at this
  rw[actsP_at hjl] at hj
  cases hj
  rw[Nat.zero_add]
  by_cases e:j=i
  ·subst e
   refine⟨b,?_,?_,?_⟩
   ·rw[cell_of hb2,Array.getElem?_setIfInBounds_ne (by omega),Array.getElem?_setIfInBounds_self_of_lt (by omega)]
    simp only[PS.at]
    rw[List.getD_eq_getElem?_getD,List.getElem?_set_self (by rw[hx.pl];exact hi)]
    rfl
   ·rw[cell_of hb2,Array.getElem?_setIfInBounds_self_of_lt (by simp;omega)]
   ·have:=ob.frm hS (by simpa using hb) (by simpa using hg)
    simp only[PS.ctr,PS.bank]
    rw[List.getD_eq_getElem?_getD,List.getElem?_set_self (by rw[hx.vl];exact hi)]
    exact this.bnk
  ·obtain⟨bb,a1,a2,a3⟩:=h.act j hjl
   rw[cell_of ha] at a1 a2
   refine⟨bb,?_,?_,?_⟩
   ·rw[cell_of hb2,Array.getElem?_setIfInBounds_ne (by omega),Array.getElem?_setIfInBounds_ne (by omega),a1]
    simp only[PS.at]
    rw[List.getD_eq_getElem?_getD,List.getD_eq_getElem?_getD,List.getElem?_set_ne (fun h=>e h.symm)]
   ·rw[cell_of hb2,Array.getElem?_setIfInBounds_ne (by omega),Array.getElem?_setIfInBounds_ne (by omega),a2]
   ·have a3':=a3.frm hfw
    unfold PS.ctr PS.bank at a3' ⊢
    rw[List.getD_eq_getElem?_getD] at a3'
    simp only
    rw[List.getD_eq_getElem?_getD,List.getElem?_set_ne (fun h=>e h.symm)]
    exact a3'
 ·have hjl:=lt_of_some hR
  rw[setWay_length,hx.wl] at hjl
  rw[Nat.zero_add,Nat.mul_one]
  unfold setWay at hR
  rw[List.getElem?_set] at hR
  by_cases e:f=j
  ·subst e
   rw[if_pos rfl,if_pos (by rw[hx.wl];exact hjl)] at hR
   cases hR
   refine⟨_,hS.cellAt hr ng,some ⟨rb,0,none⟩,cr,by rw[List.length_set,hx.wr f hf],fun k M hM=>⟨rb,0,rfl,?_⟩⟩
   have hk:=lt_of_some hM
   rw[List.length_set,hx.wr f hf] at hk
   rw[Nat.zero_add,Nat.mul_one]
   rw[List.getElem?_set] at hM
   by_cases e2:t=k
   ·subst e2
    rw[if_pos rfl,if_pos (by rw[hx.wr f hf];exact hk)] at hM
    cases hM
    exact⟨cb,F,hS.cellAt h.cht nr,h.chn.frm hS nF⟩
   ·rw[if_neg e2] at hM
    obtain⟨c,G,a1,a2⟩:=h.chs k hk (fun e=>e2 e.symm)
    have:x.way f k=M:=by unfold PS.way wayOf;exact getD_some hM
    rw[this] at a2
    exact⟨c,G,hS.cellAt a1 nr,a2.frm hfw (by simp)⟩
  ·rw[if_neg e] at hR
   obtain⟨rv,a1,a2⟩:=h.row j hjl (fun e'=>e e'.symm)
   rw[getD_some hR] at a2
   exact⟨rv,hS.cellAt a1 ng,a2.frm hfw⟩
end
theorem setWay_self {ws:List (List (List ByteArray))} {i k:Nat} (hi:i < ws.length) (hk:k < (ws.getD i []).length):setWay ws i k (wayOf ws i k)=ws:=by
 unfold setWay wayOf
 have e1:(ws.getD i []).set k ((ws.getD i []).getD k [])=ws.getD i []:=by
  apply List.ext_getElem?
  intro j
  rw[List.getElem?_set]
  by_cases e:k=j
  ·subst e;rw[if_pos rfl,if_pos hk];exact(some_getD hk).symm
  ·rw[if_neg e]
 rw[e1]
 apply List.ext_getElem?
 intro j
 rw[List.getElem?_set]
 by_cases e:i=j
 ·subst e;rw[if_pos rfl,if_pos hi];exact(some_getD hi).symm
 ·rw[if_neg e]
end Go.Proofs.YtohfkhjlnlahdaaGreat
namespace Go.Proofs.YtohfkhjlnlahdaaGreat
open Go
structure Nd where
 st:PS
 par:Int
 mv:Mv
 lvl:Nat
 deriving DecidableEq
def mv0:Mv:=⟨0,0,0,0⟩
def hasK (s:SesD) (N:List Nd) (k:List UInt8):Bool:=N.any fun d=>decide (keyP s d.st=k)
def addMv (s:SesD) (lim:Nat) (x:PS) (n lvl:Nat):List Nd→List Mv→List Nd × Bool
 | N,[]=>(N,true)
 | N,m :: ms =>
   if hasK s N (keyP s (nextP s x m)) then addMv s lim x n lvl N ms
   else if N.length=lim then (N,false)
   else addMv s lim x n lvl (N ++ [⟨nextP s x m,n,m,lvl + 1⟩]) ms
def bfs (s:SesD) (lim:Nat):Nat→Nat→List Nd→List Nd × Bool
 | 0,_,N=>(N,true)
 | f + 1,n,N=>match N[n]? with
   | none=>(N,true)
   | some d=>match addMv s lim d.st n d.lvl N (movesP s d.st) with
     | (N',true)=>bfs s lim f (n + 1) N'
     | (N',false)=>(N',false)
def nd0 (s:SesD):Nd:=⟨firstP s,-1,mv0,0⟩
def searchP (s:SesD) (lim:Nat):List Nd × Bool:=bfs s lim (lim + 1) 0 [nd0 s]
structure SI (s:SesD) (lim:Nat) (n:Nat) (N:List Nd):Prop where
 ok:∀ d∈N,PSok s d.st
 one:N[0]?=some (nd0 s)
 top:N.length≤lim
 nn:n≤N.length
 dist:∀ (i j:Nat) (a b:Nd),N[i]?=some a→N[j]?=some b→keyP s a.st=keyP s b.st→i=j
 par:∀ (i:Nat) (a:Nd),N[i]?=some a→0 < i→∃ (p:Nat) (b:Nd),a.par=p∧p < i∧N[p]?=some b∧a.mv∈movesP s b.st∧a.st=nextP s b.st a.mv∧a.lvl=b.lvl + 1
 mono:∀ (i j:Nat) (a b:Nd),N[i]?=some a→N[j]?=some b→i≤j→a.lvl≤b.lvl
theorem hasK_iff {s:SesD} {N:List Nd} {k:List UInt8}:hasK s N k=true↔∃ (i:Nat) (d:Nd),N[i]?=some d∧keyP s d.st=k:=by
 unfold hasK
 rw[List.any_eq_true]
 constructor
 ·rintro⟨d,hd,h⟩
  obtain⟨i,hi⟩:=List.getElem?_of_mem hd
  exact⟨i,d,hi,of_decide_eq_true h⟩
 ·rintro⟨i,d,hi,h⟩
  exact⟨d,List.mem_of_getElem? hi,decide_eq_true h⟩
section
variable {s:SesD} {lim:Nat}
theorem SI.start (h:SesOk s) (hl:1≤lim):SI s lim 0 [nd0 s]:=by
 refine⟨fun d hd=>?_,rfl,by simpa using hl,Nat.zero_le _,fun i j a b hi hj _=>?_,fun i a hi h0=>?_,fun i j a b hi hj _=>?_⟩
 ·rw[List.mem_singleton] at hd;subst hd;exact first_ok h
 ·have h1:=lt_of_some hi;have h2:=lt_of_some hj;simp at h1 h2;omega
 ·have h1:=lt_of_some hi;simp at h1;omega
 ·have h1:=lt_of_some hi;have h2:=lt_of_some hj
  simp at h1 h2
  subst h1;subst h2
  rw[hi] at hj;cases hj;exact Nat.le_refl _
structure SJ (s:SesD) (lim:Nat) (n:Nat) (d:Nd) (N:List Nd):Prop extends SI s lim n N where
 at':N[n]?=some d
 deep:∀ a∈N,a.lvl≤d.lvl + 1
theorem SJ.add {n:Nat} {d:Nd} {N:List Nd} (hs:SesOk s) (h:SJ s lim n d N) {m:Mv} (hm:m∈movesP s d.st) (hk:hasK s N (keyP s (nextP s d.st m))=false) (hl:N.length≠lim) :
  SJ s lim n d (N ++ [⟨nextP s d.st m,n,m,d.lvl + 1⟩]):=by
 have hd:=h.ok d (List.mem_of_getElem? h.at')
 have hn:=lt_of_some h.at'
 have hlen:(N ++ [(⟨nextP s d.st m,n,m,d.lvl + 1⟩:Nd)]).length=N.length + 1:=by simp
 have hg:∀ (i:Nat) (a:Nd),(N ++ [⟨nextP s d.st m,n,m,d.lvl + 1⟩])[i]?=some a→N[i]?=some a∨i=N.length∧a=⟨nextP s d.st m,n,m,d.lvl + 1⟩:=by
  intro i a hi
  by_cases e:i < N.length
  ·rw[List.getElem?_append_left e] at hi;exact .inl hi
  ·rw[List.getElem?_append_right (by omega)] at hi
   have h1:=lt_of_some hi
   simp at h1
   obtain rfl:i=N.length:=by omega
   simp at hi
   exact .inr ⟨rfl,hi.symm⟩
 have hk':∀ (i:Nat) (a:Nd),N[i]?=some a→keyP s a.st≠keyP s (nextP s d.st m):=by
  intro i a hi e
  rw[hasK_iff.2 ⟨i,a,hi,e⟩] at hk;cases hk
 have hlim:=h.top
 refine⟨⟨fun a ha=>?_,?_,by omega,?_,?_,?_,?_⟩,?_,?_⟩
 ·rcases List.mem_append.1 ha with ha | ha
  ·exact h.ok a ha
  ·rw[List.mem_singleton] at ha;subst ha;exact next_ok hs hd hm
 ·rw[List.getElem?_append_left (by omega)];exact h.one
 ·have:=h.nn;omega
 ·intro i j a b hi hj e
  rcases hg i a hi with h1 | ⟨rfl,rfl⟩ <;> rcases hg j b hj with h2 | ⟨rfl,rfl⟩
  ·exact h.dist i j a b h1 h2 e
  ·exact absurd e (hk' i a h1)
  ·exact absurd e.symm (hk' j b h2)
  ·rfl
 ·intro i a hi h0
  rcases hg i a hi with h1 | ⟨rfl,rfl⟩
  ·obtain⟨p,b,e1,e2,e3,e4⟩:=h.par i a h1 h0
   exact⟨p,b,e1,e2,by rw[List.getElem?_append_left (lt_of_some e3)];exact e3,e4⟩
  ·exact⟨n,d,rfl,hn,by rw[List.getElem?_append_left hn];exact h.at',hm,rfl,rfl⟩
 ·intro i j a b hi hj hij
  rcases hg i a hi with h1 | ⟨rfl,rfl⟩ <;> rcases hg j b hj with h2 | ⟨rfl,rfl⟩
  ·exact h.mono i j a b h1 h2 hij
  ·exact h.deep a (List.mem_of_getElem? h1)
  ·have:=lt_of_some h2;omega
  ·exact Nat.le_refl _
 ·rw[List.getElem?_append_left hn];exact h.at'
 ·intro a ha
  rcases List.mem_append.1 ha with ha | ha
  ·exact h.deep a ha
  ·rw[List.mem_singleton] at ha;subst ha;exact Nat.le_refl _
theorem hasK_append {N M:List Nd} {k:List UInt8} (h:hasK s N k=true):hasK s (N ++ M) k=true:=by
 unfold hasK at h ⊢
 rw[List.any_append,h];rfl
theorem addMv_ok (hs:SesOk s) {n:Nat} {d:Nd}:∀ (ms:List Mv) (N:List Nd),SJ s lim n d N→(∀ m∈ms,m∈movesP s d.st) →
  SJ s lim n d (addMv s lim d.st n d.lvl N ms).1∧(∃ M,(addMv s lim d.st n d.lvl N ms).1=N ++ M) ∧
  ((addMv s lim d.st n d.lvl N ms).2=true→∀ m∈ms,hasK s (addMv s lim d.st n d.lvl N ms).1 (keyP s (nextP s d.st m))=true) ∧
  ((addMv s lim d.st n d.lvl N ms).2=false→(addMv s lim d.st n d.lvl N ms).1.length=lim∧∃ m∈ms,hasK s (addMv s lim d.st n d.lvl N ms).1 (keyP s (nextP s d.st m))=false)
 | [],N,h,_=>⟨h,⟨[],by simp[addMv]⟩,fun _ m hm=>by simp at hm,fun e=>by cases e⟩
 | m :: ms,N,h,hm=>by
   rw[addMv]
   cases hk:hasK s N (keyP s (nextP s d.st m)) with
   | true =>
     simp only[if_true]
     obtain⟨h1,⟨M,h2⟩,h3,h4⟩:=addMv_ok hs ms N h (fun x hx=>hm x (by simp[hx]))
     refine⟨h1,⟨M,h2⟩,fun e x hx=>?_,fun e=>?_⟩
     ·rcases List.mem_cons.1 hx with rfl | hx
      ·rw[h2];exact hasK_append hk
      ·exact h3 e x hx
     ·obtain⟨g1,x,g2,g3⟩:=h4 e
      exact⟨g1,x,by simp[g2],g3⟩
   | false =>
     simp only[Bool.false_eq_true,if_false]
     by_cases hl:N.length=lim
     ·rw[if_pos hl]
      exact⟨h,⟨[],by simp⟩,(fun e=>by cases e),fun _=>⟨hl,m,by simp,hk⟩⟩
     ·rw[if_neg hl]
      obtain⟨h1,⟨M,h2⟩,h3,h4⟩:=addMv_ok hs ms _ (h.add hs (hm m (by simp)) hk hl) (fun x hx=>hm x (by simp[hx]))
      refine⟨h1,⟨[⟨nextP s d.st m,n,m,d.lvl + 1⟩] ++ M,by rw[h2];simp⟩,fun e x hx=>?_,fun e=>?_⟩
      ·rcases List.mem_cons.1 hx with rfl | hx
       ·rw[h2]
        refine hasK_append (hasK_iff.2 ⟨N.length,⟨nextP s d.st x,n,x,d.lvl + 1⟩,by simp,rfl⟩)
       ·exact h3 e x hx
      ·obtain⟨g1,x,g2,g3⟩:=h4 e
       exact⟨g1,x,by simp[g2],g3⟩
def ClosedN (s:SesD) (n:Nat) (N:List Nd):Prop:=∀ (i:Nat) (a:Nd),i < n→N[i]?=some a→∀ m∈movesP s a.st,∃ (j:Nat) (b:Nd),N[j]?=some b∧keyP s b.st=keyP s (nextP s a.st m)∧b.lvl≤a.lvl + 1
structure Found (s:SesD) (lim:Nat) (R:List Nd × Bool) (n:Nat):Prop extends SI s lim n R.1 where
 closed:ClosedN s n R.1
 deep:∀ (i:Nat) (a:Nd),n≤i→R.1[i]?=some a→∀ b∈R.1,b.lvl≤a.lvl + 1
 whole:R.2=true→n=R.1.length
 cut:R.2=false→R.1.length=lim∧n < R.1.length
theorem SI.next {n:Nat} {d:Nd} {N:List Nd} (h:SI s lim n N) (hd:N[n]?=some d) (hb:∀ a∈N,a.lvl≤d.lvl + 1):SJ s lim n d N:=⟨h,hd,hb⟩
theorem SI.up {n:Nat} {N:List Nd} (h:SI s lim n N) (hn:n < N.length):SI s lim (n + 1) N:=⟨h.ok,h.one,h.top,hn,h.dist,h.par,h.mono⟩
theorem ClosedN.more {n k:Nat} {N M:List Nd} (h:ClosedN s n N) (hk:k≤n) (hn:n≤N.length):ClosedN s k (N ++ M):=by
 intro i a hi ha m hm
 rw[List.getElem?_append_left (by omega)] at ha
 obtain⟨j,b,h1,h2⟩:=h i a (by omega) ha m hm
 exact⟨j,b,by rw[List.getElem?_append_left (lt_of_some h1)];exact h1,h2⟩
theorem bfs_ok (hs:SesOk s):∀ (f n:Nat) (N:List Nd),SI s lim n N→ClosedN s n N→(∀ (d:Nd),N[n]?=some d→∀ a∈N,a.lvl≤d.lvl + 1)→lim + 1≤n + f→∃ k,Found s lim (bfs s lim f n N) k
 | 0,n,N,h,hc,hb,hf=>by
   have:=h.nn;have:=h.top;omega
 | f + 1,n,N,h,hc,hb,hf=>by
   rw[bfs]
   cases hd:N[n]? with
   | none =>
     have hn:N.length≤n:=List.getElem?_eq_none_iff.1 hd
     have hnn:=h.nn
     exact⟨n,h,hc,(fun i a hi ha=>by have:=lt_of_some ha;simp only at this;omega),(fun _=>by simp only;omega),fun e=>by cases e⟩
   | some d =>
     simp only
     have hj:=h.next hd (hb d hd)
     obtain⟨h1,⟨M,h2⟩,h3,h4⟩:=addMv_ok hs (movesP s d.st) N hj (fun m hm=>hm)
     generalize hR:addMv s lim d.st n d.lvl N (movesP s d.st)=R at h1 h2 h3 h4
     obtain⟨N',b⟩:=R
     simp only at h1 h2 h3 h4
     have hn:=lt_of_some h1.at'
     have hold:∀ (i:Nat) (a:Nd),i < N.length→N'[i]?=some a→N[i]?=some a:=fun i a hi ha=>by rw[h2,List.getElem?_append_left hi] at ha;exact ha
     have hdeep:∀ (i:Nat) (a:Nd),n≤i→N'[i]?=some a→∀ b∈N',b.lvl≤a.lvl + 1:=fun i a hi ha b hb=>by
      have h5:=h1.deep b hb
      have h6:=h1.mono n i d a h1.at' ha hi
      omega
     cases b with
     | true =>
       simp only
       refine bfs_ok hs f (n + 1) N' (h1.toSI.up hn) (fun i a hi ha m hm=>?_) (fun e he a ha=>hdeep (n + 1) e (by omega) he a ha) (by omega)
       by_cases e:i=n
       ·subst e
        rw[h1.at'] at ha
        cases ha
        obtain⟨j,b,g1,g2⟩:=hasK_iff.1 (h3 rfl m hm)
        exact⟨j,b,g1,g2,h1.deep b (List.mem_of_getElem? g1)⟩
       ·have h5:=hc.more (M:=M) (Nat.le_refl _) h.nn
        rw[← h2] at h5
        exact h5 i a (by omega) ha m hm
     | false =>
       simp only
       refine⟨n,h1.toSI,?_,hdeep,(fun e=>by cases e),fun _=>⟨(h4 rfl).1,hn⟩⟩
       simp only
       rw[h2]
       exact hc.more (Nat.le_refl _) h.nn
theorem search_ok (hs:SesOk s) (hl:1≤lim):∃ n,Found s lim (searchP s lim) n:=
 bfs_ok hs (lim + 1) 0 [nd0 s] (SI.start hs hl) (fun i a hi _=>by omega) (fun d hd a ha=>by
  rw[List.mem_singleton] at ha
  subst ha
  exact Nat.zero_le _) (by omega)
def trc (N:List Nd):Nat→Nat→List Mv
 | 0,_=>[]
 | f + 1,n=>match N[n]? with
   | none=>[]
   | some d=>if d.par < 0 then [] else trc N f d.par.toNat ++ [d.mv]
def traceP (N:List Nd) (n:Nat):List Mv:=trc N (n + 1) n
theorem trc_more {n:Nat} {N:List Nd} (h:SI s lim n N):∀ (f k:Nat),k < f→trc N f k=traceP N k:=by
 intro f
 induction f using Nat.strongRecOn with
 | _ f ih =>
   intro k hk
   match f,ih,hk with
   | 0,_,hk=>omega
   | f + 1,ih,hk =>
     unfold traceP
     rw[trc,trc]
     cases hd:N[k]? with
     | none=>rfl
     | some d =>
       simp only
       by_cases e:d.par < 0
       ·rw[if_pos e,if_pos e]
       ·rw[if_neg e,if_neg e]
        have hp:∃ p:Nat,d.par=p∧p < k:=by
         rcases Nat.eq_zero_or_pos k with h0 | h0
         ·subst h0
          rw[h.one] at hd;cases hd
          exact absurd (show (-1:Int) < 0 by decide) e
         ·obtain⟨p,b,e1,e2,-⟩:=h.par k d hd h0
          exact⟨p,e1,e2⟩
        obtain⟨p,e1,e2⟩:=hp
        rw[e1,Int.toNat_natCast]
        by_cases hkf:k=f
        ·subst hkf;rfl
        ·rw[ih f (by omega) p (by omega),ih k (by omega) p (by omega)]
theorem trace_zero {n:Nat} {N:List Nd} (h:SI s lim n N):traceP N 0=[]:=by
 unfold traceP
 rw[trc,h.one]
 rfl
theorem trace_step {n:Nat} {N:List Nd} (h:SI s lim n N) {i p:Nat} {d:Nd} (hd:N[i]?=some d) (hp:d.par=p) (hpi:p < i):traceP N i=traceP N p ++ [d.mv]:=by
 rw[← trc_more h (i + 1) i (by omega),trc,hd]
 simp only
 rw[hp,if_neg (by omega),Int.toNat_natCast,trc_more h _ _ hpi]
def follow (s:SesD):PS→List Mv→Option PS
 | x,[]=>some x
 | x,m :: l=>if m∈movesP s x then follow s (nextP s x m) l else none
theorem follow_append (s:SesD):∀ (l k:List Mv) (x:PS),follow s x (l ++ k)=(follow s x l).bind fun z=>follow s z k
 | [],k,x=>rfl
 | m :: l,k,x=>by
   rw[List.cons_append,follow,follow]
   split
   ·exact follow_append s l k _
   ·rfl
theorem follow_ok (hs:SesOk s):∀ (l:List Mv) {x z:PS},PSok s x→follow s x l=some z→PSok s z
 | [],x,z,hx,h=>by cases h;exact hx
 | m :: l,x,z,hx,h=>by
   rw[follow] at h
   split at h
   ·rename_i hm;exact follow_ok hs l (next_ok hs hx hm) h
   ·cases h
theorem trace_leads {n:Nat} {N:List Nd} (h:SI s lim n N):∀ (i:Nat) (d:Nd),N[i]?=some d→follow s (firstP s) (traceP N i)=some d.st∧(traceP N i).length=d.lvl:=by
 intro i
 induction i using Nat.strongRecOn with
 | _ i ih =>
   intro d hd
   rcases Nat.eq_zero_or_pos i with h0 | h0
   ·subst h0
    rw[h.one] at hd;cases hd
    rw[trace_zero h]
    exact⟨rfl,rfl⟩
   ·obtain⟨p,b,e1,e2,e3,e4,e5,e6⟩:=h.par i d hd h0
    obtain⟨g1,g2⟩:=ih p e2 b e3
    rw[trace_step h hd e1 e2,follow_append,g1]
    refine⟨?_,by rw[List.length_append,g2,e6];rfl⟩
    show follow s b.st [d.mv]=_
    rw[follow,if_pos e4,follow,e5]
theorem Found.reach (hs:SesOk s) {R:List Nd × Bool} {n:Nat} (h:Found s lim R n):∀ (l:List Mv) (z:PS),follow s (firstP s) l=some z →
  (∀ (i:Nat) (a:Nd),R.1[i]?=some a→a.lvl < l.length→i < n)→∃ (i:Nat) (a:Nd),R.1[i]?=some a∧Eqv s a.st z∧a.lvl≤l.length:=by
 have key:∀ (k:Nat) (l:List Mv) (z:PS),l.length=k→follow s (firstP s) l=some z →
  (∀ (i:Nat) (a:Nd),R.1[i]?=some a→a.lvl < l.length→i < n)→∃ (i:Nat) (a:Nd),R.1[i]?=some a∧Eqv s a.st z∧a.lvl≤l.length:=by
  intro k
  induction k with
  | zero =>
    intro l z hl hz _
    obtain rfl:l=[]:=List.length_eq_zero_iff.1 hl
    cases hz
    exact⟨0,_,h.one,Eqv.refl _ _,Nat.zero_le _⟩
  | succ k ih =>
    intro l z hl hz hn
    have hne:l≠[]:=fun e=>by subst e;simp at hl
    obtain⟨l0,m,rfl⟩:∃ l0 m,l=l0 ++ [m]:=⟨l.dropLast,l.getLast hne,(List.dropLast_concat_getLast hne).symm⟩
    rw[List.length_append,List.length_singleton] at hl hn
    rw[follow_append] at hz
    cases hz0:follow s (firstP s) l0 with
    | none=>rw[hz0] at hz;cases hz
    | some z0 =>
      rw[hz0] at hz
      obtain⟨i,a,g1,g2,g3⟩:=ih l0 z0 (by omega) hz0 (fun i a ha hl2=>hn i a ha (by omega))
      have hz':follow s z0 [m]=some z:=hz
      rw[follow] at hz'
      have hm:m∈movesP s z0:=by
       by_cases hm:m∈movesP s z0
       ·exact hm
       ·rw[if_neg hm] at hz';cases hz'
      rw[if_pos hm,follow] at hz'
      cases hz'
      have hza:=follow_ok hs l0 (first_ok hs) hz0
      have hoa:=h.ok a (List.mem_of_getElem? g1)
      obtain⟨m',hm',hr⟩:=(moves_rel hs hza hoa g2.symm).mem hm
      obtain⟨j,b,k1,k2,k3⟩:=h.closed i a (hn i a g1 (by omega)) g1 m' hm'
      refine⟨j,b,k1,?_,by rw[List.length_append,List.length_singleton];omega⟩
      exact(eqv_of_key hs (h.ok b (List.mem_of_getElem? k1)) (next_ok hs hoa hm') k2).trans hr.next.symm
 intro l z
 exact key l.length l z rfl
end
end Go.Proofs.YtohfkhjlnlahdaaGreat
namespace Go.Proofs.YtohfkhjlnlahdaaGreat
open Go
structure Sp where
 role:Nat
 peer:Nat
 msg:ByteArray
 deriving DecidableEq
def hereN (s:SesD) (x:PS) (i:Nat):ByteArray:=((s.rol i).sts.getD (x.at i) dS).name
def hearB (s:SesD) (x:PS) (i p:Nat) (m:ByteArray) (t:StpD):Bool:=
 decide (t.kind=2) && decide (t.msg=m) && decide (t.peer=(s.rol p).name) && decide (t.frm=hereN s x i) && bankOk (s.rol i).ctrs (x.bank i) t
def expB (s:SesD) (x:PS) (i p:Nat) (m:ByteArray):Bool:=(s.rol i).steps.any (hearB s x i p m)
def spOf (s:SesD) (x:PS) (i p:Nat) (l:List (Nat × ByteArray)):List Sp:=l.filterMap fun e=>if expB s x i p e.2 then none else some ⟨i,p,e.2⟩
def spAt (s:SesD) (x:PS) (i p:Nat):List Sp:=spOf s x i p (chlK s.cls (x.way p i) (x.way p i).length)
def ofP (s:SesD) (x:PS):List Sp:=cat (fun i=>cat (fun p=>spAt s x i p) s.roles.length) s.roles.length
def allSp (s:SesD) (N:List Nd):List (Nat × Sp):=cat (fun n=>(ofP s ((N.map Nd.st).getD n ⟨[],[],[]⟩)).map fun u=>(n,u)) N.length
def firstSp (s:SesD) (N:List Nd):Int:=ixf (fun d=>!(ofP s d.st).isEmpty) N
def heardB (s:SesD) (i p:Nat) (m:ByteArray):Bool:=(s.rol i).steps.any fun t=>decide (t.kind=2) && decide (t.msg=m) && decide (t.peer=(s.rol p).name)
def nevT (s:SesD) (i p:Nat) (t:StpD):Bool:=decide (i≠p) && decide (t.kind=1) && decide (t.peer=(s.rol i).name) && !heardB s i p t.msg
def addNew (out:List Sp) (u:Sp):List Sp:=if u∈out then out else out ++ [u]
def nevStep (s:SesD) (i p k:Nat) (out:List Sp):List Sp:=if nevT s i p ((s.rol p).stp k) then addNew out ⟨i,p,((s.rol p).stp k).msg⟩ else out
def nevSteps (s:SesD) (i p:Nat) (out:List Sp):Nat→List Sp
 | 0=>out
 | k + 1=>nevStep s i p k (nevSteps s i p out k)
def nevPeers (s:SesD) (i:Nat) (out:List Sp):Nat→List Sp
 | 0=>out
 | p + 1=>nevSteps s i p (nevPeers s i out p) (s.rol p).steps.length
def nevRoles (s:SesD):Nat→List Sp
 | 0=>[]
 | i + 1=>nevPeers s i (nevRoles s i) s.roles.length
def neverP (s:SesD):List Sp:=nevRoles s s.roles.length
def usedP (s:SesD) (N:List Nd) (i k:Nat):Bool:=N.any fun d=>(movesP s d.st).any fun m=>decide (m.kind=1) && decide (m.role=i) && decide (m.step=k)
section
variable {s:SesD} {x z:PS}
theorem mem_spOf {i p:Nat} {l:List (Nat × ByteArray)} {u:Sp}:u∈spOf s x i p l↔∃ e∈l,expB s x i p e.2=false∧u=⟨i,p,e.2⟩:=by
 unfold spOf
 rw[List.mem_filterMap]
 constructor
 ·rintro⟨e,he,h⟩
  split at h
  ·cases h
  ·rename_i h2
   exact⟨e,he,by simpa using h2,by simpa using h.symm⟩
 ·rintro⟨e,he,h2,rfl⟩
  exact⟨e,he,by rw[if_neg (by rw[h2];decide)]⟩
theorem mem_ofP {u:Sp}:u∈ofP s x↔u.role < s.roles.length∧u.peer < s.roles.length∧u.msg∈chm s.cls (x.way u.peer u.role) (x.way u.peer u.role).length∧expB s x u.role u.peer u.msg=false:=by
 unfold ofP
 rw[mem_cat]
 simp only[mem_cat]
 constructor
 ·rintro⟨i,hi,p,hp,h⟩
  obtain⟨e,he,h2,rfl⟩:=mem_spOf.1 h
  exact⟨hi,hp,List.mem_map.2 ⟨e,he,rfl⟩,h2⟩
 ·rintro⟨hi,hp,hm,h2⟩
  obtain⟨e,he,h3⟩:=List.mem_map.1 hm
  refine⟨u.role,hi,u.peer,hp,mem_spOf.2 ⟨e,he,by rw[h3];exact h2,?_⟩⟩
  rw[h3]
theorem exp_rel (he:Eqv s x z) (i p:Nat) (m:ByteArray):expB s x i p m=expB s z i p m:=by
 unfold expB
 have e:hearB s x i p m=hearB s z i p m:=by
  funext t
  unfold hearB hereN PS.at PS.bank
  rw[he.pos,he.vals]
 rw[e]
theorem of_rel (he:Eqv s x z) {u:Sp} (h:u∈ofP s x):u∈ofP s z:=by
 obtain⟨h1,h2,h3,h4⟩:=mem_ofP.1 h
 exact mem_ofP.2 ⟨h1,h2,(rl_chm (he.way _ _)).1 _ h3,by rw[← exp_rel he];exact h4⟩
theorem of_nil (he:Eqv s x z) (h:ofP s x=[]):ofP s z=[]:=by
 cases hz:ofP s z with
 | nil=>rfl
 | cons u l =>
   have:=of_rel he.symm (u:=u) (by rw[hz];simp)
   rw[h] at this
   simp at this
theorem firstSp_at {N:List Nd} {i:Nat} (h:firstSp s N=i):∃ d,N[i]?=some d∧ofP s d.st≠[]∧∀ (j:Nat) (a:Nd),j < i→N[j]?=some a→ofP s a.st=[]:=by
 obtain⟨d,h1,h2,h3⟩:=ixf_at h
 refine⟨d,h1,fun e=>?_,fun j a hj ha=>?_⟩
 ·rw[e] at h2;simp at h2
 ·have:=h3 j a hj ha
  simpa using this
theorem firstSp_none {N:List Nd} (h:firstSp s N < 0):∀ a∈N,ofP s a.st=[]:=fun a ha=>by
 have:=ixf_neg h a ha
 simpa using this
theorem covers_first (hs:SesOk s) {lim:Nat} {R:List Nd × Bool} {n i:Nat} {d:Nd} (h:Found s lim R n) (hi:firstSp s R.1=i) (hd:R.1[i]?=some d) {l:List Mv} (hz:follow s (firstP s) l=some z) (hl:l.length < d.lvl):ofP s z=[]:=by
 obtain⟨d',h1,-,h3⟩:=firstSp_at hi
 rw[hd] at h1;cases h1
 have hi0:0 < i:=by
  rcases Nat.eq_zero_or_pos i with e | e
  ·subst e;rw[h.one] at hd;cases hd;exact absurd hl (by simp[nd0])
  ·exact e
 obtain⟨p,b,e1,e2,e3,e4,e5,e6⟩:=h.par i d hd hi0
 have hexp:∀ (j:Nat) (a:Nd),R.1[j]?=some a→a.lvl < l.length→j < n:=by
  intro j a ha hja
  rcases Nat.lt_or_ge j n with h5 | h5
  ·exact h5
  ·have:=h.deep j a h5 ha d (List.mem_of_getElem? hd)
   omega
 obtain⟨j,a,g1,g2,g3⟩:=h.reach hs l z hz hexp
 refine of_nil g2 (h3 j a ?_ g1)
 rcases Nat.lt_or_ge j i with h5 | h5
 ·exact h5
 ·have:=h.mono i j d a hd g1 h5
  omega
theorem covers_all (hs:SesOk s) {lim:Nat} {R:List Nd × Bool} {n:Nat} (h:Found s lim R n) (hw:R.2=true) (hi:firstSp s R.1 < 0) {l:List Mv} (hz:follow s (firstP s) l=some z):ofP s z=[]:=by
 obtain⟨j,a,g1,g2,g3⟩:=h.reach hs l z hz (fun j a ha _=>by rw[h.whole hw];exact lt_of_some ha)
 exact of_nil g2 (firstSp_none hi a (List.mem_of_getElem? g1))
theorem bank_guard {r:RolD} {t:StpD} {vs:List Int} (h:StpOk s r t) (hv:vs.length=r.ctrs.length∧∀ (k:Nat) (c:CtrD),r.ctrs[k]?=some c→0≤vs.getD k 0∧vs.getD k 0≤c.lim) :
  bankOk r.ctrs vs t=(decide (t.ctr=emptyS) || (decide (t.low≤vs.getD (ctrIx r.ctrs t.ctr).toNat 0) && decide (vs.getD (ctrIx r.ctrs t.ctr).toNat 0≤t.high))):=by
 unfold bankOk
 by_cases e:t.ctr=emptyS
 ·rw[if_pos e,decide_eq_true e];rfl
 ·rw[if_neg e,decide_eq_false e,Bool.false_or]
  obtain⟨k,c,h1,h2,h3⟩:=h.ctr e
  rw[h1,decide_eq_true (by omega),Bool.true_and,Int.toNat_natCast,getD_some h2]
  unfold allowsV
  have:=hv.2 k c h2
  rw[Bool.eq_iff_iff]
  simp only[Bool.and_eq_true,decide_eq_true_eq]
  omega
theorem mem_allSp {N:List Nd} {n:Nat} {u:Sp}:(n,u)∈allSp s N↔∃ d,N[n]?=some d∧u∈ofP s d.st:=by
 unfold allSp
 rw[mem_cat]
 constructor
 ·rintro⟨k,hk,h⟩
  obtain⟨u',hu,e⟩:=List.mem_map.1 h
  cases e
  refine⟨N[n],List.getElem?_eq_getElem hk,?_⟩
  rw[List.getD_eq_getElem?_getD,List.getElem?_map,List.getElem?_eq_getElem hk] at hu
  exact hu
 ·rintro⟨d,hd,hu⟩
  refine⟨n,lt_of_some hd,List.mem_map.2 ⟨u,?_,rfl⟩⟩
  rw[List.getD_eq_getElem?_getD,List.getElem?_map,hd]
  exact hu
end
end Go.Proofs.YtohfkhjlnlahdaaGreat
namespace Go.Proofs.YtohfkhjlnlahdaaGreat
open Go.RowKit Go.BigFrame
def sysT:List TypeId:=[147,248,233,9,116]
structure FgB (W:World) (b:Nat):Prop where
 ty:∀ C t,W.heap[b]?=some (.cells C t (0,0))→t∉sysT
 str:∀ (o:Nat) x,W.cell? ⟨b,o,none⟩≠some (.string x)
 ptr:∀ (o p:Nat),W.cell? ⟨b,o,none⟩=some (.pointer (some ⟨p,0,none⟩))→∀ C t,W.heap[p]?=some (.cells C t (0,0))→t≠248∧t≠233
 slc:∀ (o g o' p n c:Nat),W.cell? ⟨b,o,none⟩=some (.slice (some ⟨g,o',none⟩) n c)→W.cell? ⟨g,o',none⟩=some (.pointer (some ⟨p,0,none⟩))→∀ C t,W.heap[p]?=some (.cells C t (0,0))→t≠233
section
variable {W V:World} {F:List Nat}
theorem FgB.ne (h:∀ b∈F,FgB W b) {k:Nat} {C:Array Value} {t:TypeId} (hk:W.heap[k]?=some (.cells C t (0,0))) (ht:t∈sysT):k∉F:=fun hm=>(h k hm).ty _ _ hk ht
theorem FgB.str' (h:∀ b∈F,FgB W b) {k o:Nat} {x:ByteArray} (hu:W.cell? ⟨k,o,none⟩=some (.string x)):k∉F:=fun hm=>(h k hm).str _ _ hu
theorem FgB.bank (h:∀ b∈F,FgB W b) {k o p:Nat} {C:Array Value} (hu:W.cell? ⟨k,o,none⟩=some (.pointer (some ⟨p,0,none⟩))) (hp:W.heap[p]?=some (.cells C 248 (0,0))):k∉F:=fun hm=>((h k hm).ptr _ _ hu _ _ hp).1 rfl
theorem FgB.chan (h:∀ b∈F,FgB W b) {k o p:Nat} {C:Array Value} (hu:W.cell? ⟨k,o,none⟩=some (.pointer (some ⟨p,0,none⟩))) (hp:W.heap[p]?=some (.cells C 233 (0,0))):k∉F:=fun hm=>((h k hm).ptr _ _ hu _ _ hp).2 rfl
theorem Chn.fg {cb:Nat} {cls cap:Int} {L:List ByteArray} {G:List Nat} (h:Chn W cb cls cap L G) (hb:∀ b∈F,FgB W b) (hf:Frm F W V):Chn V cb cls cap L G:=h.frm hf fun x hx=>by
 obtain⟨sv,g1,g2,g3,rfl⟩:=h
 rcases List.mem_cons.1 hx with rfl | hx
 ·exact FgB.ne hb g1 (by simp[sysT])
 ·rw[Option.mem_toList] at hx
  obtain⟨D,hD⟩:=own_ty g2 hx
  exact FgB.ne hb hD (by simp[sysT])
theorem StR.fg {s:SesD} {yb sb:Nat} {x:PS} (h:StR W s yb sb x) (hs:0 < s.roles.length) (hb:∀ b∈F,FgB W b) (hf:Frm F W V):StR V s yb sb x:=by
 obtain⟨av,wv,h1,h2,h3⟩:=h.out
 refine⟨⟨av,wv,hf.at h1 (FgB.ne hb h1 (by simp[sysT])),h2.frm fun k o y hy=>?_,?_⟩,h.ok⟩
 ·obtain⟨bb,a1,a2,lv,a3,a4⟩:=hy
  have hk:=FgB.bank hb a2 a3
  exact⟨bb,hf.cellAt a1 hk,hf.cellAt a2 hk,lv,hf.at a3 (FgB.ne hb a3 (by simp[sysT])),a4.frm fun k o y hy=>by
   have hk:=FgB.str' hb hy.1
   exact⟨hf.cellAt hy.1 hk,hf.cellAt hy.2.1 hk,hf.cellAt hy.2.2 hk⟩⟩
 ·obtain⟨ao,cap,e,h4⟩:=h3
  refine⟨ao,cap,e,fun i R hR=>?_⟩
  obtain⟨g,o,e2,rv,c1,c2⟩:=h4 i R hR
  have hi:=lt_of_some hR
  have hl:R.length=s.roles.length:=by
   have:=h.ok.wr i (by rw[← h.ok.wl];exact hi)
   rwa [getD_some hR] at this
  have hg:g∉F:=fun hm=>by
   obtain⟨a',c',e4,h5⟩:=c2
   obtain⟨L,hL⟩:∃ L,R[0]?=some L:=⟨_,List.getElem?_eq_getElem (by omega)⟩
   obtain⟨k,o',e5,cb,G,q1,sv,q2,-⟩:=h5 0 L hL
   rw[Nat.zero_mul,Nat.add_zero] at q1
   subst e4
   subst e5
   exact(hb g hm).slc _ _ _ _ _ _ c1 q1 _ _ q2 rfl
  refine⟨g,o,e2,rv,hf.cellAt c1 hg,Arr.frm (fun k o' L hL=>?_) c2⟩
  obtain⟨cb,G,q1,q2⟩:=hL
  have hk:k∉F:=by
   obtain⟨sv,q3,-⟩:=id q2
   exact FgB.chan hb q1 q3
  exact⟨cb,G,hf.cellAt q1 hk,q2.fg hb hf⟩
theorem Rls.fg {v:Value} {l:List RolD} (h:Rls W v l) (hb:∀ b∈F,FgB W b) (hf:Frm F W V):Rls V v l:=Arr.frm (fun k o r hr=>by
 obtain⟨sv,cv,tv,c0,c1,c2,c3,c4⟩:=hr
 have hk:=FgB.str' hb c0
 refine⟨sv,cv,tv,hf.cellAt c0 hk,hf.cellAt c1 hk,hf.cellAt c2 hk,hf.cellAt c3 hk,⟨c4.sts.frm fun g o y hy=>?_,c4.ctrs.frm fun g o y hy=>?_,c4.steps.frm fun g o y hy=>?_,c4.cap⟩⟩
 ·have hk:=FgB.str' hb hy.1
  exact⟨hf.cellAt hy.1 hk,hf.cellAt hy.2.1 hk,hf.cellAt hy.2.2 hk⟩
 ·have hk:=FgB.str' hb hy.1
  exact⟨hf.cellAt hy.1 hk,hf.cellAt hy.2 hk⟩
 ·have hk:=FgB.str' hb hy.c0
  exact⟨hf.cellAt hy.c0 hk,hf.cellAt hy.c1 hk,hf.cellAt hy.c2 hk,hf.cellAt hy.c3 hk,hf.cellAt hy.c4 hk,hf.cellAt hy.c5 hk,hf.cellAt hy.c6 hk,hf.cellAt hy.c7 hk,hf.cellAt hy.c8 hk⟩) h
theorem SesV.fg {v:Value} {s:SesD} (h:SesV W v s) (hb:∀ b∈F,FgB W b) (hf:Frm F W V):SesV V v s:=by
 obtain⟨rv,e,h1⟩:=h
 exact⟨rv,e,h1.fg hb hf⟩
theorem SyR.fg {s:SesD} {yb fb:Nat} (h:SyR W s yb fb) (hb:∀ b∈F,FgB W b) (hf:Frm F W V):SyR V s yb fb:=by
 obtain⟨rv,h1,h2⟩:=h.out
 exact⟨⟨rv,hf.at h1 (FgB.ne hb h1 (by simp[sysT])),h2.fg hb hf⟩,h.ok,h.first.fg (by have:=h.ok.n2;omega) hb hf⟩
end
end Go.Proofs.YtohfkhjlnlahdaaGreat
namespace Go.Proofs.YtohfkhjlnlahdaaGreat
open Go.RowKit Go.BigFrame
section
variable {P:Program} {n m l l0:Nat}
theorem room_any (l n:Nat):(Fence.wide.inRound l).room n:=fun _ h=>by simp[Fence.wide] at h
theorem callsIn_any {f:FuncId} {args:Array Value} {w:World} {R:Ending→World→Prop} (h:CallsIn Fence.wide m P f args w R):CallsIn (Fence.wide.inRound l) n P f args w R:=
 ⟨h.1,fun cs _=>h.2 cs (room_wide _)⟩
theorem roundIn_any {f:FuncId} {tmps:Array Value} {assign body:Code} {w:World} {R:Ending→World→Prop} (h:RoundIn (Fence.wide.inRound l0) n P l f tmps assign body w R):RoundIn Fence.wide m P l f tmps assign body w R:=
 ⟨h.1,fun c cs _=>h.2 c cs (room_any _ _)⟩
theorem yieldAt_any {args:Array Value} {w:World} {R:Ending→World→Prop} (h:YieldAt (Fence.wide.inRound l0) n P l args w R):YieldAt Fence.wide m P l args w R:=by
 obtain⟨fn,tmps,assign,body,h1,h2⟩:=h
 exact⟨fn,tmps,assign,body,h1,roundIn_any h2⟩
theorem wpIn_any {c:Code} {Q:Exit→Act→World→Prop} {a:Act} {w:World} (h:c.wpIn (Fence.wide.inRound l) m P Q a w):c.wpIn (Fence.wide.inRound l) n P Q a w:=
 fun b k cs h1 h2 _=>h b k cs h1 h2 (room_any _ _)
theorem Iter.inRound {α:Type} {g:Nat} {lb:Array Value} {encs:α→Array Value} {R:World→Prop} {xs:List α} (l0:Nat) (h:Iter Fence.wide 2 P g lb encs R xs):Iter (Fence.wide.inRound l0) n P g lb encs R xs:=
 fun l J Jx sJ sJx hJR hY W h0=>callsIn_any (h l J Jx sJ sJx hJR (fun pre x rest W hxs hj=>yieldAt_any (hY pre x rest W hxs hj)) W h0)
end
variable {P:Program}
theorem wpIn_rangeListN {α:Type} {g:Operand} {ps:Array Tmp} {assign body:Code} {Q:Exit→Act→World→Prop} {a:Act} {w:World} {l0:Nat} (hl0:∃ r,w.heap[l0]?=some (.loop r))
  {gf:Nat} {lb:Array Value} (hg:a.eval g=.func (.func gf) #[] lb) (eg:∀ args w,(callFunc gf args).run P w=.ok (.enter gf args) w)
  {encs:α→Array Value} {R:World→Prop} {xs:List α} (hit:Iter Fence.wide 2 P gf lb encs R xs) (hps:∀ x,(encs x).size=ps.size)
  (I:List α→World→Prop) (Ix:Code→List α→World→Prop) (sI:∀ s W W',I s W→Bk w.heap.size W W'→I s W') (sIx:∀ c s W W',Ix c s W→Bk w.heap.size W W'→Ix c s W')
  (hR:∀ s W,I s W→R W) (h0:I [] w)
  (hround:∀ (l:Nat) (pre:List α) (x:α) (rest:List α) (W:World),xs=pre ++ x :: rest→I pre W→w.heap.size≤l→(∃ r,W.heap[l]?=some (.loop r)) →
   assign.wpIn (Fence.wide.inRound l) 1 P (Exit.then (fun a' W'=>KB W W'∧∀ W2,Bk w.heap.size W' W2→(∃ r,W2.heap[l]?=some (.loop r))→body.wpIn (Fence.wide.inRound l) 1 P (roundEnd I Ix (pre ++ [x]) W2) a' W2) (fun _ _ _=>False))
    { tmps:=(ps.zip (encs x)).foldl (fun t (p,v)=>t.setIfInBounds p v) a.tmps,defers:=[] } W)
  (hdone:∀ (W:World),I xs W→Q .normal a W)
  (hstop:∀ (c:Code) (pre:List α) (x:α) (rest:List α) (W:World),xs=pre ++ x :: rest→Ix c (pre ++ [x]) W→c.wpIn (Fence.wide.inRound l0) 1 P Q a W) :
  (Code.rangeFunc g ps assign body).wpIn (Fence.wide.inRound l0) 1 P Q a w:=by
 obtain⟨r0,hl0⟩:=hl0
 refine wpIn_rangeFunc ?_
 intro fn hfn
 rw[show (Fence.wide.inRound l0).round=some l0 from rfl]
 obtain⟨rec,hrec⟩:∃ rec:LoopState→Option Code→Loop,rec=fun st pe=>{ state:=st,pending:=pe,fn,tmps:=a.tmps,params:=ps,assign,body,defers:=r0.defers }:=⟨_,rfl⟩
 obtain⟨W1,hW1⟩:∃ W1,w.alloc (.loop (rec .ready none))=W1:=⟨_,rfl⟩
 have hL1:W1.heap[w.heap.size]?=some (.loop (rec .ready none)):=by rw[← hW1];exact World.alloc_heap_new w _
 have hF1:Frm [] w W1:=by rw[← hW1];exact(Frm.refl _ _).alloc _
 have hI1:I [] W1:=sI _ _ _ h0 (hF1.bk _)
 refine⟨w.heap.size,[],W1,{ target:=.fn (.func gf) lb,args:=#[.func (.yield w.heap.size) #[] #[]] },W1,gf,
  #[.func (.yield w.heap.size) #[] #[]] ++ lb,W1,?_,?_,?_,?_,fun h=>by simp[Fence.wide] at h,?_⟩
 ·rw[← hW1,hrec];exact run_enterLoop_inner hl0 _ _ _ _ _
 ·simp only[resolve,hg]
  simp[go_sem]
 ·intro f' hf';trivial
 ·simp[invoke,go_sem,eg]
 ·refine((Iter.inRound (n:=0) l0 hit) w.heap.size
   (fun pre W=>I pre W∧W.heap[w.heap.size]?=some (.loop (rec .ready none)))
   (fun pre W=>∃ c,Ix c pre W∧W.heap[w.heap.size]?=some (.loop (rec .done (some c))))
   (fun pre W W' hJ hf=>⟨sI _ _ _ hJ.1 (hf.bk _),hf.at hJ.2 (by simp)⟩)
   (fun pre W W' ⟨c,hJ⟩ hf=>⟨c,sIx _ _ _ _ hJ.1 (hf.bk _),hf.at hJ.2 (by simp)⟩)
   (fun pre W hJ=>hR _ _ hJ.1) ?_ W1 ⟨hI1,hL1⟩).mono ?_
  ·rintro pre x rest W hxs ⟨hi,hl⟩
   have hy:=run_yield (P:=P) (args:=encs x) hl (by rw[hrec];exact hps x)
   rw[hrec] at hy
   refine⟨fn,_,assign,body,hy,roundIn_of_wpIn hfn (wpIn_any (l:=w.heap.size) (m:=1) (wpIn_mono (hround w.heap.size pre x rest W hxs hi (Nat.le_refl _) ⟨_,hl⟩) ?_))⟩
   intro e a' W' hp
   cases e with
   | normal =>
     obtain⟨hkb,hb⟩:=hp
     have hl':=hkb _ _ hl rfl
     have hlt:w.heap.size < W'.heap.size:=lt_of_block hl'
     refine⟨_,run_beginRound hl' (by rw[hrec]),?_⟩
     have hl2:(W'.putObj w.heap.size (.loop { rec .ready none with state:=.busy })).heap[w.heap.size]?=some (.loop { rec .ready none with state:=.busy }):=World.putObj_heap_same hlt
     refine wpIn_any (l:=w.heap.size) (m:=1) (wpIn_mono (hb _ (Bk.putObj W' _ hl' rfl (Nat.le_refl _)) ⟨_,hl2⟩) ?_)
     have fin:∀ (jump:Option Code) (W3:World),KB (W'.putObj w.heap.size (.loop { rec .ready none with state:=.busy })) W3 →
       (Instr.endRound w.heap.size jump).run P W3=.ok (.bool jump.isNone) (W3.putObj w.heap.size (.loop (rec (if jump.isNone then .ready else .done) jump))) ∧
       Bk w.heap.size W3 (W3.putObj w.heap.size (.loop (rec (if jump.isNone then .ready else .done) jump))) ∧
       (W3.putObj w.heap.size (.loop (rec (if jump.isNone then .ready else .done) jump))).heap[w.heap.size]?=some (.loop (rec (if jump.isNone then .ready else .done) jump)):=fun jump W3 hk3=>by
      have hl3:=hk3 _ _ hl2 rfl
      have:=run_endRound (P:=P) jump hl3
      rw[hrec] at this ⊢
      exact⟨this,Bk.putObj W3 _ hl3 rfl (Nat.le_refl _),World.putObj_heap_same (lt_of_block hl3)⟩
     rintro e a3 W3 hp
     cases e with
     | normal =>
       obtain⟨hk3,hi3⟩:=hp
       obtain⟨hr,hb3,hl4⟩:=fin none W3 hk3
       exact⟨_,_,hr,.inl ⟨rfl,sI _ _ _ hi3 hb3,hl4⟩⟩
     | ret =>
       obtain⟨hk3,hi3⟩:=hp
       obtain⟨hr,hb3,hl4⟩:=fin (some .ret) W3 hk3
       exact⟨_,_,hr,.inr ⟨rfl,.ret,sIx _ _ _ _ hi3 hb3,hl4⟩⟩
     | exit id =>
       obtain⟨hk3,hi3⟩:=hp
       obtain⟨hr,hb3,hl4⟩:=fin (some (.exit id)) W3 hk3
       exact⟨_,_,hr,.inr ⟨rfl,.exit id,sIx _ _ _ _ hi3 hb3,hl4⟩⟩
     | goto t =>
       obtain⟨hk3,hi3⟩:=hp
       obtain⟨hr,hb3,hl4⟩:=fin (some (.goto t)) W3 hk3
       exact⟨_,_,hr,.inr ⟨rfl,.goto t,sIx _ _ _ _ hi3 hb3,hl4⟩⟩
     | panic ch=>exact hp.elim
     | outgrown=>exact hp.elim
   | ret=>exact hp.elim
   | exit id=>exact hp.elim
   | goto t=>exact hp.elim
   | panic ch=>exact hp.elim
   | outgrown=>exact hp.elim
  ·rintro e W2 ⟨⟨v,rfl⟩,(⟨hi,hl⟩ | ⟨pre,x,rest,hxs,c,hi,hl⟩)⟩
   ·exact⟨none,_,by have:=run_endLoop (P:=P) hl (by rw[hrec];simp);rw[hrec] at this;exact this,hdone _ (sI _ _ _ hi (by rw[hrec] at hl;exact Bk.putObj W2 _ hl rfl (Nat.le_refl _)))⟩
   ·exact⟨some c,_,by have:=run_endLoop (P:=P) hl (by rw[hrec];simp);rw[hrec] at this;exact this,hstop c pre x rest _ hxs (sIx _ _ _ _ hi (by rw[hrec] at hl;exact Bk.putObj W2 _ hl rfl (Nat.le_refl _)))⟩
end Go.Proofs.YtohfkhjlnlahdaaGreat
namespace Go.Proofs.YtohfkhjlnlahdaaGreat
open Go.RowKit Go.BigFrame
theorem Bk.weak {B B':Nat} {w w':World} (h:Bk B w w') (hB:B'≤B):Bk B' w w':=⟨h.os,h.tape,h.output,h.size,fun k o hk ho=>h.block k o hk (ho.elim (fun h=>.inl (by omega)) .inr)⟩
structure Kc (T:TypeId→Prop) (B:Nat) (W W':World):Prop where
 size:W.heap.size≤W'.heap.size
 cells:∀ (k:Nat) (c:Array Value) (t:TypeId) (fr:Nat × Nat),W.heap[k]?=some (.cells c t fr)→¬ T t→W'.heap[k]?=some (.cells c t fr)
 books:∀ (k:Nat) (o:Obj),B≤k→W.heap[k]?=some o→isBook o=true→W'.heap[k]?=some o
section
variable {T:TypeId→Prop} {B B':Nat} {W W' W2:World}
theorem Kc.refl (T:TypeId→Prop) (B:Nat) (W:World):Kc T B W W:=⟨Nat.le_refl _,fun _ _ _ _ h _=>h,fun _ _ _ h _=>h⟩
theorem Kc.trans (h:Kc T B W W') (k:Kc T B W' W2):Kc T B W W2:=⟨Nat.le_trans h.size k.size,fun i c t fr hi ht=>k.cells i c t fr (h.cells i c t fr hi ht) ht,fun i o hB hi ho=>k.books i o hB (h.books i o hB hi ho) ho⟩
theorem Kc.low (h:Kc T B W W') (hB:B≤B'):Kc T B' W W':=⟨h.size,h.cells,fun k o hk=>h.books k o (by omega)⟩
theorem Kc.sub {T':TypeId→Prop} (h:Kc T B W W') (hT:∀ t,T t→T' t):Kc T' B W W':=⟨h.size,fun k c t fr hk ht=>h.cells k c t fr hk fun h2=>ht (hT t h2),h.books⟩
theorem Kc.frm (h:Frm [] W W'):Kc T B W W':=⟨h.size,fun _ _ _ _ hk _=>h.at hk (by simp),fun _ _ _ hk _=>h.at hk (by simp)⟩
theorem Kc.put {l:Nat} {o o':Obj} (h:Kc T B W W') (hl:W'.heap[l]?=some o) (ho:isBook o=true) (hB:l < B):Kc T B W (W'.putObj l o'):=by
 refine h.trans ⟨by simp[World.putObj],fun k c t fr hk _=>?_,fun k x hk hx _=>?_⟩
 ·have hne:k≠l:=fun e=>by subst e;rw[hl] at hk;cases hk;cases ho
  exact(World.putObj_heap_other hne).trans hk
 ·exact(World.putObj_heap_other (by omega)).trans hx
theorem Kc.set {b:Nat} {c:Array Value} {t:TypeId} {fr:Nat × Nat} (h:Kc T B W W') (hb:W'.heap[b]?=some (.cells c t fr)) (ht:T t) (o:Nat) (u:Value):Kc T B W (W'.setCell ⟨b,o,none⟩ u):=by
 have ne:∀ {k:Nat} {x:Obj},W'.heap[k]?=some x→(∀ c' t' fr',x=.cells c' t' fr'→¬ T t')→k≠b:=fun hk hx e=>by
  subst e
  rw[hb] at hk
  cases hk
  exact hx _ _ _ rfl ht
 refine h.trans ⟨by simp[World.setCell],fun k c' t' fr' hk ht'=>?_,fun k x _ hx hb'=>?_⟩
 ·exact(Below.heap_setCell _ _ _ _ (ne hk fun _ _ _ e=>by cases e;exact ht')).trans hk
 ·exact(Below.heap_setCell _ _ _ _ (ne hx fun _ _ _ e=>by subst e;cases hb')).trans hx
end
abbrev anyT:TypeId→Prop:=fun _=>True
def roundEndT {α:Type} (T:TypeId→Prop) (B:Nat) (I:List α→World→Prop) (Ix:Code→List α→World→Prop) (s:List α) (W:World):Exit→Act→World→Prop
 | .normal,_,W'=>Kc T B W W'∧I s W'
 | .ret,_,W'=>Kc anyT B W W'∧Ix .ret s W'
 | .exit id,_,W'=>Kc anyT B W W'∧Ix (.exit id) s W'
 | .goto t,_,W'=>Kc anyT B W W'∧Ix (.goto t) s W'
 | .panic _,_,_=>False
 | .outgrown,_,_=>False
def IterT {α:Type} (T:TypeId→Prop) (F:Fence) (n:Nat) (P:Program) (g:Nat) (lb:Array Value) (encs:α→Array Value) (R:World→Prop) (xs:List α):Prop:=
 ∀ (B l:Nat) (J Jx:List α→World→Prop),
   (∀ pre W W',J pre W→Bk B W W'→J pre W')→(∀ pre W W',Jx pre W→Bk B W W'→Jx pre W')→(∀ pre W,J pre W→R W) →
   (∀ pre x rest W,B≤W.heap.size→xs=pre ++ x :: rest→J pre W→YieldAt F (n - 1) P l (encs x) W fun e W' =>
    (e=.returned (.bool true)∧Kc T B W W'∧J (pre ++ [x]) W')∨(e=.returned (.bool false)∧Kc anyT B W W'∧Jx (pre ++ [x]) W')) →
   ∀ W,B≤W.heap.size→J [] W→CallsIn F n P g (#[.func (.yield l) #[] #[]] ++ lb) W fun e W'=>(∃ v,e=.returned v)∧(J xs W'∨∃ pre x rest,xs=pre ++ x :: rest∧Jx (pre ++ [x]) W')
theorem Iter.toT {α:Type} {T:TypeId→Prop} {F:Fence} {n:Nat} {P:Program} {g:Nat} {lb:Array Value} {encs:α→Array Value} {R:World→Prop} {xs:List α} (h:Iter F n P g lb encs R xs):IterT T F n P g lb encs R xs:=
 fun B l J Jx sJ sJx hJR hY W hB h0=>(h l (fun pre W=>J pre W∧B≤W.heap.size) Jx (fun pre W W' hj hf=>⟨sJ pre W W' hj.1 (hf.bk _),Nat.le_trans hj.2 hf.size⟩) (fun pre W W' hj hf=>sJx pre W W' hj (hf.bk _)) (fun pre W hj=>hJR pre W hj.1)
  (fun pre x rest W hxs hj=>(hY pre x rest W hj.2 hxs hj.1).mono fun e W' h=>by
   rcases h with ⟨h1,hc,h2⟩ | ⟨h1,-,h2⟩
   ·exact .inl ⟨h1,h2,Nat.le_trans hj.2 hc.size⟩
   ·exact .inr ⟨h1,h2⟩) W ⟨h0,hB⟩).mono fun e W' h=>⟨h.1,h.2.imp (fun h=>h.1) id⟩
section
variable {P:Program} {n m l l0:Nat}
theorem roundIn_fwd {f:FuncId} {tmps:Array Value} {assign body:Code} {w:World} {R:Ending→World→Prop} (h:RoundIn Fence.wide m P l f tmps assign body w R):RoundIn (Fence.wide.inRound l0) n P l f tmps assign body w R:=
 ⟨h.1,fun c cs _=>h.2 c cs (room_wide _)⟩
theorem yieldAt_fwd {args:Array Value} {w:World} {R:Ending→World→Prop} (h:YieldAt Fence.wide m P l args w R):YieldAt (Fence.wide.inRound l0) n P l args w R:=by
 obtain⟨fn,tmps,assign,body,h1,h2⟩:=h
 exact⟨fn,tmps,assign,body,h1,roundIn_fwd h2⟩
end
variable {F:Fence} {n:Nat} {P:Program}
theorem wpIn_rangeListT {α:Type} {T:TypeId→Prop} {g:Operand} {ps:Array Tmp} {assign body:Code} {Q:Exit→Act→World→Prop} {a:Act} {w:World}
  (hro:F.round=none) (h1:1≤n) {gf:Nat} {lb:Array Value} (hg:a.eval g=.func (.func gf) #[] lb) (hFg:F.fn gf) (eg:∀ args w,(callFunc gf args).run P w=.ok (.enter gf args) w)
  {encs:α→Array Value} {R:World→Prop} {xs:List α} (hit:IterT T F (n - 1) P gf lb encs R xs) (hps:∀ x,(encs x).size=ps.size)
  (I:List α→World→Prop) (Ix:Code→List α→World→Prop) (sI:∀ s W W',I s W→Bk w.heap.size W W'→I s W') (sIx:∀ c s W W',Ix c s W→Bk w.heap.size W W'→Ix c s W')
  (hR:∀ s W,I s W→R W) (h0:I [] w)
  (hround:∀ (l:Nat) (pre:List α) (x:α) (rest:List α) (W:World),xs=pre ++ x :: rest→I pre W→w.heap.size≤l→(∃ r,W.heap[l]?=some (.loop r)) →
   assign.wpIn (F.inRound l) (n - 1 - 1) P (Exit.then (fun a' W'=>Kc T w.heap.size W W'∧∀ W2,Bk w.heap.size W' W2→(∃ r,W2.heap[l]?=some (.loop r))→body.wpIn (F.inRound l) (n - 1 - 1) P (roundEndT T w.heap.size I Ix (pre ++ [x]) W2) a' W2) (fun _ _ _=>False))
    { tmps:=(ps.zip (encs x)).foldl (fun t (p,v)=>t.setIfInBounds p v) a.tmps,defers:=[] } W)
  (hdone:∀ (D:Nat) (W:World),w.heap.size≤D→I xs W→W.heap[D]?=some (.deferred (some []))→Q .normal { a with defers:={ target:=.collected D,args:=#[] } :: a.defers } W)
  (hstop:∀ (D:Nat) (c:Code) (pre:List α) (x:α) (rest:List α) (W:World),xs=pre ++ x :: rest→w.heap.size≤D→Ix c (pre ++ [x]) W→W.heap[D]?=some (.deferred (some []))→c.wpIn F n P Q { a with defers:={ target:=.collected D,args:=#[] } :: a.defers } W) :
  (Code.rangeFunc g ps assign body).wpIn F n P Q a w:=by
 refine wpIn_rangeFunc ?_
 intro fn hfn
 rw[hro]
 obtain⟨rec,hrec⟩:∃ rec:LoopState→Option Code→Loop,rec=fun st pe=>{ state:=st,pending:=pe,fn,tmps:=a.tmps,params:=ps,assign,body,defers:=w.heap.size }:=⟨_,rfl⟩
 obtain⟨W1,hW1⟩:∃ W1,(w.alloc (.deferred (some []))).alloc (.loop (rec .ready none))=W1:=⟨_,rfl⟩
 have hL1:W1.heap[w.heap.size + 1]?=some (.loop (rec .ready none)):=by
  rw[← hW1];have:=World.alloc_heap_new (w.alloc (.deferred (some []))) (.loop (rec .ready none));rwa [World.size_alloc] at this
 have hK1:W1.heap[w.heap.size]?=some (.deferred (some [])):=by
  rw[← hW1];exact(Below.heap_alloc _ _ _ (by simp)).trans (World.alloc_heap_new w _)
 have hF1:Frm [] w W1:=by rw[← hW1];exact((Frm.refl _ _).alloc _).alloc _
 have hI1:I [] W1:=sI _ _ _ h0 (hF1.bk _)
 refine⟨w.heap.size + 1,[{ target:=.collected w.heap.size,args:=#[] }],W1,{ target:=.fn (.func gf) lb,args:=#[.func (.yield (w.heap.size + 1)) #[] #[]] },W1,gf,
  #[.func (.yield (w.heap.size + 1)) #[] #[]] ++ lb,W1,?_,?_,?_,?_,fun _=>h1,?_⟩
 ·rw[← hW1,hrec];exact run_enterLoop_outer _ _ _ _ _
 ·simp only[resolve,hg]
  simp[go_sem]
 ·intro f' hf';simp[Target.leads] at hf';subst hf';exact hFg
 ·simp[invoke,go_sem,eg]
 ·have hsz:W1.heap.size=w.heap.size + 2:=by rw[← hW1];simp
  refine(hit W1.heap.size (w.heap.size + 1)
   (fun pre W=>I pre W∧W.heap[w.heap.size + 1]?=some (.loop (rec .ready none))∧W.heap[w.heap.size]?=some (.deferred (some [])))
   (fun pre W=>∃ c,Ix c pre W∧W.heap[w.heap.size + 1]?=some (.loop (rec .done (some c)))∧W.heap[w.heap.size]?=some (.deferred (some [])))
   (fun pre W W' hJ hf=>⟨sI _ _ _ hJ.1 (hf.weak (by omega)),hf.block _ _ hJ.2.1 (.inl (by omega)),hf.block _ _ hJ.2.2 (.inl (by omega))⟩)
   (fun pre W W' ⟨c,hJ⟩ hf=>⟨c,sIx _ _ _ _ hJ.1 (hf.weak (by omega)),hf.block _ _ hJ.2.1 (.inl (by omega)),hf.block _ _ hJ.2.2 (.inl (by omega))⟩)
   (fun pre W hJ=>hR _ _ hJ.1) ?_ W1 (Nat.le_refl _) ⟨hI1,hL1,hK1⟩).mono ?_
  ·rintro pre x rest W hBW hxs ⟨hi,hl,hk⟩
   have hy:=run_yield (P:=P) (args:=encs x) hl (by rw[hrec];exact hps x)
   rw[hrec] at hy
   refine⟨fn,_,assign,body,hy,roundIn_of_wpIn hfn (wpIn_mono (hround (w.heap.size + 1) pre x rest W hxs hi (by omega) ⟨_,hl⟩) ?_)⟩
   intro e a' W' hp
   cases e with
   | normal =>
     obtain⟨hkb,hb⟩:=hp
     have hl':=hkb.books _ _ (by omega) hl rfl
     have hk':=hkb.books _ _ (by omega) hk rfl
     have hlt:w.heap.size + 1 < W'.heap.size:=lt_of_block hl'
     refine⟨_,run_beginRound hl' (by rw[hrec]),?_⟩
     have hl2:(W'.putObj (w.heap.size + 1) (.loop { rec .ready none with state:=.busy })).heap[w.heap.size + 1]?=some (.loop { rec .ready none with state:=.busy }):=World.putObj_heap_same hlt
     have hk2:(W'.putObj (w.heap.size + 1) (.loop { rec .ready none with state:=.busy })).heap[w.heap.size]?=some (.deferred (some [])):=(World.putObj_heap_other (by omega)).trans hk'
     refine wpIn_mono (hb _ (Bk.putObj W' _ hl' rfl (by omega)) ⟨_,hl2⟩) ?_
     have fin:∀ (T':TypeId→Prop) (_:∀ t,T t→T' t) (jump:Option Code) (W3:World),Kc T' w.heap.size (W'.putObj (w.heap.size + 1) (.loop { rec .ready none with state:=.busy })) W3 →
       (Instr.endRound (w.heap.size + 1) jump).run P W3=.ok (.bool jump.isNone) (W3.putObj (w.heap.size + 1) (.loop (rec (if jump.isNone then .ready else .done) jump))) ∧
       Bk w.heap.size W3 (W3.putObj (w.heap.size + 1) (.loop (rec (if jump.isNone then .ready else .done) jump))) ∧
       (W3.putObj (w.heap.size + 1) (.loop (rec (if jump.isNone then .ready else .done) jump))).heap[w.heap.size + 1]?=some (.loop (rec (if jump.isNone then .ready else .done) jump)) ∧
       (W3.putObj (w.heap.size + 1) (.loop (rec (if jump.isNone then .ready else .done) jump))).heap[w.heap.size]?=some (.deferred (some [])) ∧
       Kc T' W1.heap.size W (W3.putObj (w.heap.size + 1) (.loop (rec (if jump.isNone then .ready else .done) jump))):=fun T' hTT jump W3 hk3=>by
      have hl3:=hk3.books _ _ (by omega) hl2 rfl
      have:=run_endRound (P:=P) jump hl3
      rw[hrec] at this ⊢
      exact⟨this,Bk.putObj W3 _ hl3 rfl (by omega),World.putObj_heap_same (lt_of_block hl3),(World.putObj_heap_other (by omega)).trans (hk3.books _ _ (by omega) hk2 rfl),
       ((((hkb.sub hTT).low (by omega)).put hl' rfl (by omega)).trans (hk3.low (by omega))).put hl3 rfl (by omega)⟩
     rintro e a3 W3 hp
     cases e with
     | normal =>
       obtain⟨hk3,hi3⟩:=hp
       obtain⟨hr,hb3,hl4,hk4,hc4⟩:=fin T (fun _ h=>h) none W3 hk3
       exact⟨_,_,hr,.inl ⟨rfl,hc4,sI _ _ _ hi3 hb3,hl4,hk4⟩⟩
     | ret =>
       obtain⟨hk3,hi3⟩:=hp
       obtain⟨hr,hb3,hl4,hk4,hc4⟩:=fin anyT (fun _ _=>trivial) (some .ret) W3 hk3
       exact⟨_,_,hr,.inr ⟨rfl,hc4,.ret,sIx _ _ _ _ hi3 hb3,hl4,hk4⟩⟩
     | exit id =>
       obtain⟨hk3,hi3⟩:=hp
       obtain⟨hr,hb3,hl4,hk4,hc4⟩:=fin anyT (fun _ _=>trivial) (some (.exit id)) W3 hk3
       exact⟨_,_,hr,.inr ⟨rfl,hc4,.exit id,sIx _ _ _ _ hi3 hb3,hl4,hk4⟩⟩
     | goto t =>
       obtain⟨hk3,hi3⟩:=hp
       obtain⟨hr,hb3,hl4,hk4,hc4⟩:=fin anyT (fun _ _=>trivial) (some (.goto t)) W3 hk3
       exact⟨_,_,hr,.inr ⟨rfl,hc4,.goto t,sIx _ _ _ _ hi3 hb3,hl4,hk4⟩⟩
     | panic ch=>exact hp.elim
     | outgrown=>exact hp.elim
   | ret=>exact hp.elim
   | exit id=>exact hp.elim
   | goto t=>exact hp.elim
   | panic ch=>exact hp.elim
   | outgrown=>exact hp.elim
  ·rintro e W2 ⟨⟨v,rfl⟩,(⟨hi,hl,hk⟩ | ⟨pre,x,rest,hxs,c,hi,hl,hk⟩)⟩
   ·exact⟨none,_,by have:=run_endLoop (P:=P) hl (by rw[hrec];simp);rw[hrec] at this;exact this,hdone _ _ (Nat.le_refl _) (sI _ _ _ hi (by rw[hrec] at hl;exact Bk.putObj W2 _ hl rfl (by omega))) ((World.putObj_heap_other (by omega)).trans hk)⟩
   ·exact⟨some c,_,by have:=run_endLoop (P:=P) hl (by rw[hrec];simp);rw[hrec] at this;exact this,hstop _ c pre x rest _ hxs (Nat.le_refl _) (sIx _ _ _ _ hi (by rw[hrec] at hl;exact Bk.putObj W2 _ hl rfl (by omega))) ((World.putObj_heap_other (by omega)).trans hk)⟩
theorem wp_rangeListT {α:Type} {T:TypeId→Prop} {g:Operand} {ps:Array Tmp} {assign body:Code} {Q:Exit→Act→World→Prop} {a:Act} {w:World}
  {gf:Nat} {lb:Array Value} (hg:a.eval g=.func (.func gf) #[] lb) (eg:∀ args w,(callFunc gf args).run P w=.ok (.enter gf args) w)
  {encs:α→Array Value} {R:World→Prop} {xs:List α} (hit:IterT T Fence.wide 2 P gf lb encs R xs) (hps:∀ x,(encs x).size=ps.size)
  (I:List α→World→Prop) (Ix:Code→List α→World→Prop) (sI:∀ s W W',I s W→Bk w.heap.size W W'→I s W') (sIx:∀ c s W W',Ix c s W→Bk w.heap.size W W'→Ix c s W')
  (hR:∀ s W,I s W→R W) (h0:I [] w)
  (hround:∀ (l:Nat) (pre:List α) (x:α) (rest:List α) (W:World),xs=pre ++ x :: rest→I pre W→w.heap.size≤l→(∃ r,W.heap[l]?=some (.loop r)) →
   assign.wpIn (Fence.wide.inRound l) 1 P (Exit.then (fun a' W'=>Kc T w.heap.size W W'∧∀ W2,Bk w.heap.size W' W2→(∃ r,W2.heap[l]?=some (.loop r))→body.wpIn (Fence.wide.inRound l) 1 P (roundEndT T w.heap.size I Ix (pre ++ [x]) W2) a' W2) (fun _ _ _=>False))
    { tmps:=(ps.zip (encs x)).foldl (fun t (p,v)=>t.setIfInBounds p v) a.tmps,defers:=[] } W)
  (hdone:∀ (D:Nat) (W:World),w.heap.size≤D→I xs W→W.heap[D]?=some (.deferred (some []))→Q .normal { a with defers:={ target:=.collected D,args:=#[] } :: a.defers } W)
  (hstop:∀ (D:Nat) (c:Code) (pre:List α) (x:α) (rest:List α) (W:World),xs=pre ++ x :: rest→w.heap.size≤D→Ix c (pre ++ [x]) W→W.heap[D]?=some (.deferred (some []))→c.wp P Q { a with defers:={ target:=.collected D,args:=#[] } :: a.defers } W) :
  (Code.rangeFunc g ps assign body).wp P Q a w:=
 wpIn_wide.1 (wpIn_rangeListT (F:=Fence.wide) (n:=3) rfl (by omega) hg trivial eg hit hps I Ix sI sIx hR h0 hround hdone (fun D c pre x rest W h1 h2 h3 h4=>wpIn_wide.2 (hstop D c pre x rest W h1 h2 h3 h4)))
end Go.Proofs.YtohfkhjlnlahdaaGreat
namespace Go.Proofs.YtohfkhjlnlahdaaGreat
open Go.RowKit Go.BigFrame
def stepBig (t:StpD):Bool:=decide (60 < t.msg.size) || decide (60 < t.peer.size)
def WfS (s:SesD):Prop:=∀ r∈s.roles,∀ x∈r.steps,wf64 x.kind
end Go.Proofs.YtohfkhjlnlahdaaGreat
namespace Go.Proofs.YtohfkhjlnlahdaaGreat
open Go.RowKit Go.BigFrame
abbrev YB (w:World) (ob:Nat) (L:List UInt8) (W:World):Prop:=BO 26 5 1 w ob L.length (L.map u8) W
abbrev byT:List TypeId:=[26,5]
theorem YB.add {w W w1:World} {ob m:Nat} {L M:List UInt8} {ao:Option Addr} {cap:Nat} {o:Obj} {v':Value} (h:YB w ob L W) (h1:W.heap[ob]?=some (.cells #[.slice ao L.length cap] 26 (0,0))) (h2:W.ownsRow w.heap.size 5 1 (.slice ao L.length cap) L.length (L.map u8))
  (hg:(W.alloc o).grownBy w1 (Value.slice ao L.length cap).ownBlock) (hm:M.length=m) (ho:w1.ownsRow w.heap.size 5 1 v' (L.length + m) (L.map u8 ++ M.map u8)) :
  YB w ob (L ++ M) (w1.setCell ⟨ob,0,none⟩ v')∧Kt byT W (w1.setCell ⟨ob,0,none⟩ v'):=by
 have:=h.step h1 h2 (by decide) hg ho
 unfold YB
 rw[List.map_append,List.length_append,hm]
 exact this
theorem CtR.kt {B:Nat} {lv:Value} {l:List (CtrD × Int)} {W W':World} (h:CtR B lv l W) (hk:Kt byT W W'):CtR B lv l W':=by
 refine⟨hk.cells h.b (by decide),?_,fun ao n c e hn=>?_⟩
 ·obtain⟨ao,c,rfl,hx⟩:=h.a
  refine⟨ao,c,rfl,fun i x hi=>?_⟩
  obtain⟨b,o,e,a0,a1,a2⟩:=hx i x hi
  obtain⟨g,cur,e2,hg⟩:=h.t _ _ _ rfl (by have:=lt_of_some hi;omega)
  have ebg:g=b∧0=o:=by rw[e2] at e;injection e with e;injection e with e1 e3;exact⟨e1,e3⟩
  obtain⟨rfl,rfl⟩:=ebg
  have hg':=hk.cells hg (by decide)
  rw[cell_of hg] at a0 a1 a2
  exact⟨g,0,e2,(cell_of hg' _).trans a0,(cell_of hg' _).trans a1,(cell_of hg' _).trans a2⟩
 ·obtain⟨g,cur,e1,e2⟩:=h.t _ _ _ e hn
  exact⟨g,cur,e1,hk.cells e2 (by decide)⟩
theorem two_wrap {v:Int} (h0:0≤v) (h1:v≤65535):u8 (UInt8.ofNat (v.toNat / 256))=.int .u8 (v / 256)∧u8 (UInt8.ofNat (v.toNat % 256))=.int .u8 (v % 256):=by
 obtain⟨n,rfl⟩:=Int.eq_ofNat_of_zero_le h0
 unfold u8
 simp only[Int.toNat_natCast,UInt8.toNat_ofNat']
 constructor
 ·congr 1
  have:n / 256 < 256:=by omega
  rw[Nat.mod_eq_of_lt this];rfl
 ·congr 1
  have:n % 256 < 256:=by omega
  rw[Nat.mod_eq_of_lt this];rfl
theorem at_wrap {p:Nat} (h:p < 256):u8 (UInt8.ofNat p)=.int .u8 (p:Int):=by
 unfold u8
 rw[UInt8.toNat_ofNat',Nat.mod_eq_of_lt h]
end Go.Proofs.YtohfkhjlnlahdaaGreat
namespace Go.Proofs.YtohfkhjlnlahdaaGreat
open Go.RowKit Go.BigFrame Go.Lib
theorem strCells_byt (s:ByteArray):strCells s=(byt s).map u8:=rfl
theorem app_str {ty:TypeId} {W:World} {base:Nat} {v:Value} {xs:List UInt8} (ho:W.ownsRow base 5 1 v xs.length (xs.map u8)) (s:ByteArray) (hn:xs.length + s.size≤4000000) (hb:base≤W.heap.size) :
  ∃ v' W',(Builtin.append_ #[26,9] ty #[v,.string s]).run Tryz.prog W=.ok v' W'∧W'.ownsRow base 5 1 v' (xs ++ byt s).length ((xs ++ byt s).map u8)∧W.grownBy W' v.ownBlock:=by
 obtain⟨i0,hi0,hz0,hz1,hz2⟩:=info_parts Tryz.info5
 obtain⟨v',W',h1,h2,h3,-⟩:=run_append_own_string (P:=Tryz.prog) W base 26 9 ty 5 i0 Tryz.underlying26 Tryz.underlying9 hi0 hz0 hz1 hz2 v xs.length (xs.map u8) ho s (by unfold maxLen;omega) (by omega) hb
 refine⟨v',W',h1,?_,h3⟩
 rw[List.length_append,List.map_append,← strCells_byt]
 have:(byt s).length=s.size:=by unfold byt;simp
 rw[this]
 exact h2
theorem step_app_str {ops:Array Oper} {o:Oper} {a:Act} {w:World} {K:Act→World→Prop} {Q:Exit→Act→World→Prop} {E:Prop} (hgd:o.guard=none) (s x:Operand) (ho:o.op=.call { callee:=.builtin .append,args:=#[s,x],argTypes:=#[26,9] })
  (base:Nat) (v:Value) (sv:ByteArray) (hs:a.eval s=v) (hx:a.eval x=.string sv) (xs:List UInt8) (hown:w.ownsRow base 5 1 v xs.length (xs.map u8)) (hn:xs.length + sv.size≤4000000) (hb:base≤w.heap.size)
  (h:∀ ao cp w',w'.ownsRow base 5 1 (.slice ao (xs ++ byt sv).length cp) (xs ++ byt sv).length ((xs ++ byt sv).map u8)→w.grownBy w' v.ownBlock→K (a.put o.dst (.slice ao (xs ++ byt sv).length cp)) w'):if Region.wanted o (yielded ops a.tmps)=true then Oper.wp Tryz.prog o a w K Q else E:=by
 have hw:Region.wanted o (yielded ops a.tmps)=true:=by simp[Region.wanted,hgd]
 rw[if_pos hw]
 obtain⟨v',w',hrun,r1,r2⟩:=app_str (ty:=o.type) hown sv hn hb
 obtain⟨ao,cp,rfl⟩:=own_shape r1
 unfold Oper.wp
 simp[execOp,ho,resolve,invoke,builtin,hs,hx,hrun,Result.andThen]
 have hk:=h ao cp w' r1 r2
 rw[List.length_append] at hk
 exact hk
structure YP (w wr:World) (ob:Nat) (v0 v:Value) (L:List UInt8) (W:World):Prop where
 f:Frm [] w W
 b:W.heap[ob]?=some (.cells #[v0] 26 (0,0))
 o:W.ownsRow w.heap.size 5 1 v L.length (L.map u8)
 k:Kt byT wr W
section
variable {w wr W W':World} {ob:Nat} {v0 v:Value} {L l:List UInt8}
theorem YP.frm (h:YP w wr ob v0 v L W) (hf:Frm [] W W'):YP w wr ob v0 v L W':=⟨h.f.trans hf,hf.at h.b (by simp),hf.owns h.o (by simp),h.k.trans (Kt.frm hf)⟩
theorem YP.grow {v':Value} (h:YP w wr ob v0 v L W) (hg:W.grownBy W' v.ownBlock) (ho:W'.ownsRow w.heap.size 5 1 v' (L ++ l).length ((L ++ l).map u8)):YP w wr ob v0 v' (L ++ l) W':=by
 refine⟨h.f.grown hg (fun q hq=>.inr (ownBlock_ge h.o hq)),grown_at hg h.b (fun e'=>?_),ho,h.k.grown hg (fun q hq=>?_)⟩
 ·obtain⟨c,hc⟩:=ownBlock_type h.o e'
  have hb:=h.b
  rw[hb] at hc;cases hc
 ·obtain⟨c,hc⟩:=ownBlock_type h.o hq
  exact⟨c,5,(0,0),hc,by simp⟩
theorem YP.fin (h:YP w wr ob v0 v L W) (hn:w.heap.size≤ob):YB w ob L (W.setCell ⟨ob,0,none⟩ v)∧Kt byT wr (W.setCell ⟨ob,0,none⟩ v):=by
 obtain⟨ao',cp',rfl⟩:=own_shape h.o
 refine⟨⟨h.f.setCell _ (.inr hn) _,hn,ao',cp',(block_setCell h.b 0 _).trans rfl,?_⟩,h.k.set h.b (by simp) _⟩
 refine ownsRow_setCell_other h.o (fun e'=>?_) _
 obtain⟨c,hc⟩:=ownBlock_type h.o e'
 have hb:=h.b
 rw[hb] at hc;cases hc
end
set_option maxRecDepth 100000 in
theorem conv_own {W:World} {base:Nat} {ao:Option Addr} {cp:Nat} {L:List UInt8} (h:W.ownsRow base 5 1 (.slice ao L.length cp) L.length (L.map u8)) (hp:L.length≠0):(convert 26 9 (.slice ao L.length cp)).run Tryz.prog W=.ok (.string ⟨L.toArray⟩) W:=by
 obtain⟨g,c,cur,e,-,-⟩:=own_block h hp
 cases e
 exact run_convert_bytes_back _ 26 9 5 ⟨g,0,none⟩ cp L Tryz.underlying26 Tryz.underlying5 Tryz.underlying9 (fun j hj=>by
  have h1:=World.ownsRow.cellAt h j (by simpa using hj)
  rw[WideShapes.add_plain]
  rw[Nat.zero_add,h1]
  simp[u8,hj])
end Go.Proofs.YtohfkhjlnlahdaaGreat
namespace Go.Proofs.YtohfkhjlnlahdaaGreat
open Go.RowKit Go.BigFrame
def km0:Mv:=⟨1,0,0,0⟩
end Go.Proofs.YtohfkhjlnlahdaaGreat
namespace Go.Proofs.YtohfkhjlnlahdaaGreat
open Go.RowKit Go.BigFrame
def bA:ByteArray:={ data:=#[97] }
def bB:ByteArray:={ data:=#[98] }
def bX:ByteArray:={ data:=#[120] }
def bM:ByteArray:={ data:=#[109] }
def bS:ByteArray:={ data:=#[115] }
end Go.Proofs.YtohfkhjlnlahdaaGreat
namespace Go.Proofs.YtohfkhjlnlahdaaGreat
open Go.RowKit
def updD (D:Nat→Bool) (i:Nat):Nat→Bool:=fun j=>if j=i then true else D j
def updV (f:Nat→Value) (i:Nat) (v:Value):Nat→Value:=fun j=>if j=i then v else f j
section
variable {P:Program} {ops:Array Oper} {Q:Exit→Act→World→Prop}
def ClosedD (ops:Array Oper) (D:Nat→Bool):Prop:=∀ (k:Nat) o,ops[k]?=some o→D k=true→∀ e∈o.after,Region.binds .any e=true→D e.on=true
def downB (ops:Array Oper):Bool:=(List.range ops.size).all fun i=>((ops[i]?).map fun o=>o.after.all fun e=>!Region.binds .any e || decide (e.on < i)).getD true
theorem down_of (h:downB ops=true) {i:Nat} {o:Oper} (ho:ops[i]?=some o):∀ e∈o.after,Region.binds .any e=true→e.on < i:=fun e he hb=>by
 have:=(List.all_eq_true.1 h) i (List.mem_range.2 (Array.getElem?_eq_some_iff.1 ho).1)
 rw[ho] at this
 simp only[Option.map_some,Option.getD_some] at this
 have:=(Array.all_eq_true_iff_forall_mem.1 this) e he
 simpa[hb] using this
theorem countP_less {p q:Nat→Bool} (hpq:∀ x,q x=true→p x=true) {i:Nat} (h1:p i=true) (h2:q i=false):∀ {l:List Nat},i∈l→l.countP q < l.countP p
 | [],h=>by cases h
 | a :: l,h=>by
   have hle:l.countP q≤l.countP p:=List.countP_mono_left fun x _ hx=>hpq x hx
   rw[List.countP_cons,List.countP_cons]
   rcases List.mem_cons.1 h with rfl | h
   ·rw[h1,h2]
    simp
    omega
   ·have ih:=countP_less hpq h1 h2 h
    have:(if q a=true then 1 else 0)≤(if p a=true then 1 else 0):=by
     split
     ·rename_i hq
      rw[if_pos (hpq a hq)]
      omega
     ·omega
    omega
def DL (listed:Array Bool):Nat→Bool:=fun i=>listed.getD i false
theorem DL_set {listed:Array Bool} {i:Nat} (hi:i < listed.size):DL (listed.setIfInBounds i true)=updD (DL listed) i:=by
 funext j
 unfold DL updD
 split
 ·rename_i e;subst e;simp[hi]
 ·rename_i e
  exact getD_set_ne false (fun h=>e h.symm)
variable (FR:(Nat→Value)→Act) (I:(Nat→Bool)→(Nat→Value)→World→Prop)
def stepsFrom (p:Nat→Oper→Prop):Nat→List Oper→Prop
 | _,[]=>True
 | k,o :: l=>p k o∧stepsFrom p (k + 1) l
theorem stepsFrom_at {p:Nat→Oper→Prop}:∀ {l:List Oper} {k i:Nat} {o:Oper},stepsFrom p k l→l[i]?=some o→p (k + i) o
 | [],_,_,_,_,h=>by simp at h
 | a :: l,k,0,o,hp,h=>by
   simp at h
   subst h
   exact hp.1
 | a :: l,k,i + 1,o,hp,h=>by
   have:=stepsFrom_at (l:=l) (k:=k + 1) (i:=i) hp.2 (by simpa using h)
   rwa [show k + (i + 1)=k + 1 + i by omega]
end
end Go.Proofs.YtohfkhjlnlahdaaGreat
namespace Go.Proofs.YtohfkhjlnlahdaaGreat
open Go.RowKit
section
variable {F:Fence} {n:Nat} {P:Program} {ops:Array Oper} {Q:Exit→Act→World→Prop}
variable (FR:(Nat→Value)→Act) (I:(Nat→Bool)→(Nat→Value)→World→Prop)
theorem wpAnyIn_inv (hdn:downB ops=true)
  (hs:∀ i o,ops[i]?=some o→∀ D f w,I D f w→D i=false→(∀ e∈o.after,Region.binds .any e=true→D e.on=true)→ClosedD ops D →
   Region.wanted o (yielded ops (FR f).tmps)=true∧o.wpIn F n P (FR f) w (fun a' w'=>∃ v,a'=FR (updV f i v)∧I (updD D i) (updV f i v) w') Q)
  (hd:∀ D f w,(∀ i,i < ops.size→D i=true)→I D f w→Q .normal (FR f) w) :
  ∀ (fuel:Nat) (listed:Array Bool) (f:Nat→Value) (w:World),listed.size=ops.size→(List.range ops.size).countP (fun i=>!DL listed i)≤fuel→ClosedD ops (DL listed)→I (DL listed) f w→wpAnyIn F n P .any ops Q fuel listed (FR f) w:=by
 have hall:∀ listed:Array Bool,listed.size=ops.size→Region.ready .any ops listed=[]→∀ i,i < ops.size→DL listed i=true:=fun listed hsz h0 i=>by
  induction i using Nat.strongRecOn with
  | _ i ih =>
  intro hi
  obtain⟨o,ho⟩:∃ o,ops[i]?=some o:=⟨_,Array.getElem?_eq_getElem hi⟩
  cases hD:DL listed i with
  | true=>rfl
  | false =>
    exfalso
    have hm:i∈Region.ready .any ops listed:=mem_ready.2 ⟨by
     unfold DL at hD
     simpa[hsz,hi] using hD,o,ho,fun e he hb=>ih e.on (down_of hdn ho e he hb) (by have:=down_of hdn ho e he hb;omega)⟩
    rw[h0] at hm
    cases hm
 intro fuel
 induction fuel with
 | zero =>
   intro listed f w hsz hc hcl hI
   have hz:∀ i,i < ops.size→DL listed i=true:=fun i hi=>by
    have h0:=List.countP_eq_zero.1 (Nat.le_zero.1 hc) i (List.mem_range.2 hi)
    simpa using h0
   refine⟨?_,hd _ f w hz hI⟩
   rw[List.eq_nil_iff_forall_not_mem]
   intro i hi
   obtain⟨h1,o,ho,-⟩:=mem_ready.1 hi
   have h2:=hz i (Array.getElem?_eq_some_iff.1 ho).1
   have h3:i < listed.size:=by rw[hsz];exact(Array.getElem?_eq_some_iff.1 ho).1
   unfold DL at h2
   simp[h3] at h1 h2
   rw[h1] at h2
   cases h2
 | succ fuel ih =>
   intro listed f w hsz hc hcl hI
   refine⟨fun h0=>hd _ f w (hall listed hsz h0) hI,fun i hi=>?_⟩
   obtain⟨h1,o,ho,h2⟩:=mem_ready.1 hi
   have hio:i < ops.size:=(Array.getElem?_eq_some_iff.1 ho).1
   have h3:i < listed.size:=by rw[hsz];exact hio
   have hDi:DL listed i=false:=by unfold DL;simpa[h3] using h1
   obtain⟨hw,hwp⟩:=hs i o ho (DL listed) f w hI hDi h2 hcl
   unfold wpOpIn
   simp only[ho,hw,if_true]
   refine Oper.wpIn_mono (fun a' w' h=>?_) hwp
   obtain⟨v,rfl,hI'⟩:=h
   have hset:=DL_set (listed:=listed) h3
   refine ih (listed.setIfInBounds i true) (updV f i v) w' (by simpa using hsz) ?_ ?_ (by rw[hset];exact hI')
   ·have hlt:=countP_less (p:=fun j=>!DL listed j) (q:=fun j=>!DL (listed.setIfInBounds i true) j) (fun x hx=>by
     rw[hset] at hx
     unfold updD at hx
     split at hx
     ·cases hx
     ·exact hx) (i:=i) (by simp[hDi]) (by rw[hset];simp[updD]) (List.mem_range.2 hio)
    omega
   ·rw[hset]
    intro k ok hk hDk e he hb
    unfold updD at hDk ⊢
    split
    ·rfl
    ·split at hDk
     ·rename_i e1
      subst e1
      rw[ho] at hk
      cases hk
      exact h2 e he hb
     ·exact hcl k ok hk hDk e he hb
theorem wpIn_region_inv {id:Nat} {a:Act} {w:World} (hm:P.follows .mixedOrders=true) (hdn:downB ops=true) (f0:Nat→Value) (ha:a=FR f0) (h0:I (fun _=>false) f0 w.drew)
  (hs:∀ i o,ops[i]?=some o→∀ D f w,I D f w→D i=false→(∀ e∈o.after,Region.binds .any e=true→D e.on=true)→ClosedD ops D →
   Region.wanted o (yielded ops (FR f).tmps)=true∧o.wpIn F n P (FR f) w (fun a' w'=>∃ v,a'=FR (updV f i v)∧I (updD D i) (updV f i v) w') Q)
  (hd:∀ D f w,(∀ i,i < ops.size→D i=true)→I D f w→Q .normal (FR f) w):(Code.region id ops true).wpIn F n P Q a w:=by
 refine wpIn_region_any hm ?_
 have e:DL (Array.replicate ops.size false)=fun _=>false:=by
  funext j
  unfold DL
  by_cases h:j < ops.size <;> simp[h]
 subst ha
 refine wpAnyIn_inv FR I hdn hs hd ops.size (Array.replicate ops.size false) f0 _ (by simp) ?_ (by rw[e];intro k o _ h;cases h) (by rw[e];exact h0)
 exact Nat.le_trans List.countP_le_length (by simp)
def OpInvIn (F:Fence) (n:Nat) (P:Program) (ops:Array Oper) (Q:Exit→Act→World→Prop) (FR:(Nat→Value)→Act) (I:(Nat→Bool)→(Nat→Value)→World→Prop) (i:Nat) (o:Oper):Prop:=
 ∀ D f w,I D f w→D i=false→(∀ e∈o.after,Region.binds .any e=true→D e.on=true)→ClosedD ops D →
   Region.wanted o (yielded ops (FR f).tmps)=true∧(∀ v,(FR f).put o.dst v=FR (updV f i v)) ∧
   ∀ K':Act→World→Prop,Shut (∀ a' w' v,a'=(FR f).put o.dst v→I (updD D i) (updV f i v) w'→K' a' w')→o.wpIn F n P (FR f) w K' Q
theorem wpIn_region_inv' {id:Nat} {a:Act} {w:World} {l:List Oper} (f0:Nat→Value) (hm:P.follows .mixedOrders=true) (hdn:downB l.toArray=true) (ha:a=FR f0) (h0:I (fun _=>false) f0 w.drew)
  (hs:stepsFrom (OpInvIn F n P l.toArray Q FR I) 0 l) (hd:∀ D f w,(∀ i,i < l.length→D i=true)→I D f w→Q .normal (FR f) w):(Code.region id l.toArray true).wpIn F n P Q a w:=
 wpIn_region_inv FR I hm hdn f0 ha h0 (fun i o ho D f w hI hD hdep hcl=>by
  have h1:=stepsFrom_at hs (i:=i) (o:=o) (by simpa using ho)
  rw[Nat.zero_add] at h1
  obtain⟨g1,g2,g3⟩:=h1 D f w hI hD hdep hcl
  refine⟨g1,g3 _ (fun a' w' v e hv=>⟨v,?_,hv⟩)⟩
  rw[e,g2]) (fun D f w h hI=>hd D f w (fun i hi=>h i (by simpa using hi)) hI)
end
end Go.Proofs.YtohfkhjlnlahdaaGreat
namespace Go.Proofs.YtohfkhjlnlahdaaGreat
open Go.ChangeShapes Go.WideShapes Go.ChangeAt Go.RowKit
theorem trodAll_below {H:Type} {enc:TypeId × Value→H} {P:Program} (hl:laidOutB P=true) {W W':World} (hb:Below W.heap.size W W'):∀ (ts:List TypeId) (vs:List Value) (ds:List (DataW H)) (ps:List MemPlace),
  (ts.all fun t=>P.readableRec t && decide (t < P.types.size))=true→DataW.TrodAll enc P W 0 (fun _=>true) true ts vs ds ps→(∀ x∈ps,x.block < W.heap.size) →
  DataW.TrodAll enc P W' 0 (fun b=>decide (b < W.heap.size)) true ts vs ds ps
 | [],vs,ds,ps,_,h,_=>by
   obtain⟨rfl,rfl,rfl⟩:=trodAll_nil h
   exact rfl
 | t :: ts,vs,ds,ps,ht,h,hlt=>by
   obtain⟨v,vs',d,ds',p,q,rfl,rfl,rfl,h1,h2⟩:=trodAll_cons h
   simp only[List.all_cons,Bool.and_eq_true,decide_eq_true_eq] at ht
   exact⟨p,q,Below.trod hl ht.1.1 ht.1.2 h1 hb (fun x hx=>hlt x (by simp[hx])),trodAll_below hl hb ts vs' ds' q ht.2 h2 (fun x hx=>hlt x (by simp[hx])),rfl⟩
theorem trodAll_length {H:Type} {enc:TypeId × Value→H} {P:Program} {W:World} {base:Nat} {sp:Nat→Bool} {held:Bool}:∀ (ts:List TypeId) (vs:List Value) (ds:List (DataW H)) (ps:List MemPlace),
  DataW.TrodAll enc P W base sp held ts vs ds ps→ds.length=ts.length
 | [],vs,ds,ps,h=>by
   obtain⟨rfl,rfl,rfl⟩:=trodAll_nil h
   rfl
 | t :: ts,vs,ds,ps,h=>by
   obtain⟨v,vs',d,ds',p,q,rfl,rfl,rfl,h1,h2⟩:=trodAll_cons h
   simp[trodAll_length ts vs' ds' q h2]
theorem law_lifted {C:Checked} (own:ownKnob C.prog.godebug=none) (laid:laidOutB C.prog=true) {os:Os} (started:os.Started) {H:Type} (enc:TypeId × Value→H) (f:FuncId) (fn:Func) (s:ChangeSpec) (tb:TypeId)
  (noInit:C.prog.inits.idxOf? f=none) (hfn:C.prog.funcs[f]?=some fn)
  (witness:∃ (w:World) (tape:Tape) (i:Input),w.os=os∧(w.forCall tape i).Shaped C.prog∧i.vars=[]∧Input.okWide C.prog (w.forCall tape i) .any w.heap.size f i ∧
   s.pre6 enc C.prog fn [] false (w.forCall tape i).memory i.args∧({}:Assume).holds C.prog (lone (Frame.enter C.prog f i.args .normal) [] (w.forCall tape i)))
  (hv:s.vars=[]) (hrt:fn.resultTypes=#[tb]) (htb:C.prog.underlying tb=some .bool)
  (hts:(fn.params.toList.all fun t=>C.prog.readableRec t && decide (t < C.prog.types.size))=true)
  (hspec:∀ ds:List (DataW H),ds.length=fn.params.toList.length→s.fn H ds={ results:=[.lit (.bool true)],args:=ds })
  (walk:∀ (W:World) (base:Nat) (args:Array Value) (ds:List (DataW H)) (p:List MemPlace),
   (∀ (j:Nat) t v,fn.params[j]?=some t→args[j]?=some v→Value.okWide C.prog W .any base t v) →
   DataW.TrodAll enc C.prog W 0 (fun _=>true) true fn.params.toList args.toList ds p →
   (∀ x∈p,x.block < W.heap.size) →
   (DataW.weightsEach C.prog fn.params.toList ds).all (·≤reachBytes)=true →
   Calls C.prog f args W (Ret (.bool true) (Frm [] W))) :
  ReturnsInHanded {} C os f .any (s.pre6 enc C.prog fn [] false) (s.post enc C.prog fn false true false false):=by
 refine returnsInHanded_of_change_sized (C:=C) own started noInit hfn witness ?_
 intro W base args ds gs before hval hW _ hsz _
 have hvt:s.plain.varTypes C.prog=[]:=by
  simp[DataSpec.varTypes,ChangeSpec.plain,hv]
 have hW':=hW
 obtain⟨p,q,hA,hV,rfl,_,_⟩:=hW
 rw[hv] at hV
 obtain⟨rfl,rfl⟩:=trodVars_none hV
 simp only[List.append_nil] at hW'
 rw[hvt,List.append_nil,List.append_nil] at hsz
 have hlt:∀ x∈p,x.block < W.heap.size:=fun x hx=>by simpa using hW'.lt x hx
 refine(walk W base args ds p hval hA hlt hsz).mono ?_
 rintro e W' ⟨rfl,hf⟩
 have hB:Below W.heap.size W W':=hf.below (Nat.le_refl _) (by simp)
 have hsp:=hspec ds (trodAll_length _ _ _ _ hA)
 refine⟨_,rfl,ds,[],p,[],p,[],hW',?_,?_,?_,hB.frame _,fun h=>by cases h⟩
 ·rw[List.append_nil,hsp,hrt]
  exact trodAll_mk1 (shut_bool htb _)
 ·rw[List.append_nil,hsp]
  exact trodAll_below laid hB _ _ _ _ hts hA hlt
 ·rw[List.append_nil,hsp,hv]
  rfl
end Go.Proofs.YtohfkhjlnlahdaaGreat
namespace Go.Proofs.YtohfkhjlnlahdaaGreat
open Go.ChangeShapes Go.WideShapes Go.ChangeAt Go.RowKit Go.Deep
theorem trodAll_two {H:Type} {enc:TypeId × Value→H} {P:Program} {w:World} {base:Nat} {spare:TypeId→Bool} {held:Bool} {t0 t1:TypeId} {args:Array Value} {ds:List (DataW H)} {ps:List MemPlace}
  (h:DataW.TrodAll enc P w base spare held [t0,t1] args.toList ds ps) :
  ∃ v0 v1 d0 d1 p0 p1,args=#[v0,v1]∧ds=[d0,d1]∧ps=p0 ++ p1∧DataW.Trod enc P w base spare held t0 v0 d0 p0∧DataW.Trod enc P w base spare held t1 v1 d1 p1:=by
 obtain⟨v0,_,d0,_,p0,_,hargs,rfl,rfl,h0,hrest⟩:=trodAll_cons h
 obtain⟨v1,_,d1,_,p1,_,rfl,rfl,rfl,h1,hrest⟩:=trodAll_cons hrest
 obtain⟨rfl,rfl,rfl⟩:=trodAll_nil hrest
 exact⟨v0,v1,d0,d1,p0,p1,by cases args;simp_all,rfl,by simp,h0,h1⟩
theorem trodAll_three {H:Type} {enc:TypeId × Value→H} {P:Program} {w:World} {base:Nat} {spare:TypeId→Bool} {held:Bool} {t0 t1 t2:TypeId} {args:Array Value} {ds:List (DataW H)} {ps:List MemPlace}
  (h:DataW.TrodAll enc P w base spare held [t0,t1,t2] args.toList ds ps) :
  ∃ v0 v1 v2 d0 d1 d2 p0 p1 p2,args=#[v0,v1,v2]∧ds=[d0,d1,d2]∧ps=p0 ++ p1 ++ p2∧DataW.Trod enc P w base spare held t0 v0 d0 p0∧DataW.Trod enc P w base spare held t1 v1 d1 p1∧DataW.Trod enc P w base spare held t2 v2 d2 p2:=by
 obtain⟨v0,_,d0,_,p0,_,hargs,rfl,rfl,h0,hrest⟩:=trodAll_cons h
 obtain⟨v1,_,d1,_,p1,_,rfl,rfl,rfl,h1,hrest⟩:=trodAll_cons hrest
 obtain⟨v2,_,d2,_,p2,_,rfl,rfl,rfl,h2,hrest⟩:=trodAll_cons hrest
 obtain⟨rfl,rfl,rfl⟩:=trodAll_nil hrest
 exact⟨v0,v1,v2,d0,d1,d2,p0,p1,p2,by cases args;simp_all,rfl,by simp,h0,h1,h2⟩
theorem Tryz.cells5':Tryz.prog.cellsOf 5=1:=by kernel_rfl
set_option maxRecDepth 10000 in
theorem bytes_cell {H:Type} {enc:TypeId × Value→H} {W:World} {fuel:Nat} {c:Value} {x:DataW H × List MemPlace} (hf:DataW.trod enc Tryz.prog W 0 (fun _=>true) true fuel 26 [c]=some x) :
  ∃ ao cap l,c=.slice ao (List.length l) cap∧Byts W c l:=by
 rcases open_ints Tryz.underlying26 Tryz.underlying5 Tryz.cells5' hf with ⟨hcs,hx⟩ | ⟨a,len,cap,zs,hcs,_,hl,hm,hz,hx,hcell,hwz⟩
 ·simp only[List.cons.injEq,and_true] at hcs
  subst hcs
  exact⟨none,0,[],rfl,Byts.nil W⟩
 ·simp only[List.cons.injEq,and_true] at hcs
  subst hcs
  simp only[if_true] at hz
  have hlen:((zs.take len).map fun n=>UInt8.ofNat n.toNat).length=len:=by simp;omega
  refine⟨some a,cap,(zs.take len).map fun n=>UInt8.ofNat n.toNat,by rw[hlen],some a,cap,by rw[hlen],by rw[hlen];omega,fun k x hk=>?_⟩
  have hkl:=lt_of_some hk
  rw[hlen] at hkl
  obtain⟨ab,ao,spot⟩:=a
  have hspot:spot=none:=by simpa[Addr.add] using World.cell?_spot (hcell 0 (by omega))
  subst hspot
  have hcj:=hcell k (by omega)
  rw[Addr.add_lit] at hcj
  refine⟨ab,ao,rfl,?_⟩
  rw[hcj]
  have hkz:k < zs.length:=by omega
  rw[List.getElem?_map,List.getElem?_take_of_lt hkl,List.getElem?_eq_getElem hkz] at hk
  simp only[Option.map_some,Option.some.injEq] at hk
  subst hk
  have hw:=hwz zs[k] (List.getElem_mem hkz)
  simp only[Lit.wf,show IntKind.u8.min=0 from rfl,show IntKind.u8.max=255 from rfl,Bool.and_eq_true,decide_eq_true_eq] at hw
  unfold u8
  rw[List.getD_eq_getElem?_getD,List.getElem?_eq_getElem hkz]
  simp
  omega
set_option maxRecDepth 10000 in
theorem open_byts {H:Type} {enc:TypeId × Value→H} {W:World} {base:Nat} {v:Value} {d:DataW H} {p:List MemPlace} (hv:Value.okWide Tryz.prog W .any base 26 v) (h:DataW.Trod enc Tryz.prog W 0 (fun _=>true) true 26 v d p) :
  ∃ ao cap l,v=.slice ao (List.length l) cap∧Byts W v l:=by
 obtain⟨a0,len,cap,rfl⟩:=okWide_slice Tryz.underlying26 hv
 obtain⟨fuel,hf⟩:=h
 exact bytes_cell hf
end Go.Proofs.YtohfkhjlnlahdaaGreat
namespace Go.Proofs.YtohfkhjlnlahdaaGreat
open Go.ChangeShapes Go.WideShapes Go.ChangeAt Go.RowKit Go.Deep
section
variable {H:Type} {enc:TypeId × Value→H} {W:World}
theorem open_arr {α:Type} [Inhabited α] {t e:TypeId} {k:Nat} {At:World→Nat→Nat→α→Prop} {Q:α→Prop} (ht:Tryz.prog.underlying t=some (.slice e)) (hc:Tryz.prog.cellsOf e=k) (hk:0 < k)
  (hel:∀ b o cs n y,(∀ i,i < k→W.cell? ⟨b,o + i,none⟩=cs[i]?)→cs.length=k→DataW.trod enc Tryz.prog W 0 (fun _=>true) true n e cs=some y→∃ x,At W b o x∧Q x)
  {fuel:Nat} {c:Value} {x:DataW H × List MemPlace} (hf:DataW.trod enc Tryz.prog W 0 (fun _=>true) true fuel t [c]=some x) :
  ∃ xs,Arr k At W c xs∧(∀ x∈xs,Q x)∧∀ ao n c',c=.slice ao n c'→n≤c':=by
 rcases open_slice ht hf with ⟨hcs,_⟩ | ⟨a,len,cap,m,n,D,Pl,hcs,_,hl,_,hm,_,hx⟩
 ·simp only[List.cons.injEq,and_true] at hcs
  subst hcs
  exact⟨[],Arr.nil _ _ _,by simp,fun ao n c' h=>by cases h;omega⟩
 ·simp only[List.cons.injEq,and_true] at hcs
  subst hcs
  simp only[if_true] at hm
  subst hm
  obtain⟨ab,ao,spot⟩:=a
  have hspot:0 < len→spot=none:=fun h=>by
   obtain⟨cs',h1,h2⟩:=hx 0 (by omega)
   obtain⟨_,hlen,hcell⟩:=World.cells?_some h1
   rw[hc] at hlen hcell
   have h0:=hcell 0 hk
   rw[List.getElem?_eq_getElem (by omega)] at h0
   simpa[Addr.add] using World.cell?_spot h0
  obtain⟨f,hf⟩:=choose_lt (α:=α) (p:=fun i x=>spot=none∧At W ab (ao + i * k) x∧Q x) (n:=len) (fun i hi=>by
   obtain⟨cs',h1,h2⟩:=hx i (by omega)
   obtain⟨_,hlen,hcell⟩:=World.cells?_some h1
   rw[hc] at hlen hcell
   have hs:=hspot (by omega)
   subst hs
   obtain⟨x,h3,h4⟩:=hel ab (ao + i * k) cs' n _ (fun j hj=>by
    have:=hcell j hj
    rw[add_plain,add_plain] at this
    exact this) hlen h2
   exact⟨x,rfl,h3,h4⟩)
  refine⟨(List.range len).map f,⟨some ⟨ab,ao,spot⟩,m,by simp,fun i x hi=>?_⟩,fun x hx'=>?_,fun ao n c' h=>by cases h;omega⟩
  ·have hil:i < len:=by have:=lt_of_some hi;simpa using this
   rw[List.getElem?_map,List.getElem?_range hil,Option.map_some,Option.some.injEq] at hi
   subst hi
   obtain⟨h1,h2,_⟩:=hf i hil
   subst h1
   exact⟨ab,ao,rfl,h2⟩
  ·rw[List.mem_map] at hx'
   obtain⟨i,hi,rfl⟩:=hx'
   rw[List.mem_range] at hi
   exact(hf i hi).2.2
instance:Inhabited StD:=⟨dS⟩
instance:Inhabited CtrD:=⟨dC⟩
instance:Inhabited StpD:=⟨dT⟩
instance:Inhabited RolD:=⟨dR⟩
theorem Tryz.cellsStr:Tryz.prog.cellsOf 9=1:=by kernel_rfl
theorem Tryz.cellsBool:Tryz.prog.cellsOf 4=1:=by kernel_rfl
theorem Tryz.cellsInt:Tryz.prog.cellsOf 3=1:=by kernel_rfl
theorem Tryz.cellsKnd:Tryz.prog.cellsOf 135=1:=by kernel_rfl
theorem Tryz.cellsCls:Tryz.prog.cellsOf 23=1:=by kernel_rfl
theorem Tryz.cellsSts:Tryz.prog.cellsOf 83=1:=by kernel_rfl
theorem Tryz.cellsCts:Tryz.prog.cellsOf 84=1:=by kernel_rfl
theorem Tryz.cellsStps:Tryz.prog.cellsOf 85=1:=by kernel_rfl
theorem Tryz.cellsRls:Tryz.prog.cellsOf 22=1:=by kernel_rfl
theorem Tryz.cellsSt:Tryz.prog.cellsOf 206=3:=by kernel_rfl
theorem Tryz.cellsCt:Tryz.prog.cellsOf 244=2:=by kernel_rfl
theorem Tryz.cellsStp:Tryz.prog.cellsOf 137=9:=by kernel_rfl
theorem Tryz.cellsRl:Tryz.prog.cellsOf 87=4:=by kernel_rfl
theorem Tryz.cellsSes:Tryz.prog.cellsOf 25=4:=by kernel_rfl
theorem list2 {α:Type} {cs:List α} (h:cs.length=2):∃ a b,cs=[a,b]:=by
 match cs,h with
 | [a,b],_=>exact⟨a,b,rfl⟩
theorem list3 {α:Type} {cs:List α} (h:cs.length=3):∃ a b c,cs=[a,b,c]:=by
 match cs,h with
 | [a,b,c],_=>exact⟨a,b,c,rfl⟩
theorem list4 {α:Type} {cs:List α} (h:cs.length=4):∃ a b c d,cs=[a,b,c,d]:=by
 match cs,h with
 | [a,b,c,d],_=>exact⟨a,b,c,d,rfl⟩
theorem list9 {α:Type} {cs:List α} (h:cs.length=9):∃ a b c d e f g i j,cs=[a,b,c,d,e,f,g,i,j]:=by
 match cs,h with
 | [a,b,c,d,e,f,g,i,j],_=>exact⟨a,b,c,d,e,f,g,i,j,rfl⟩
set_option maxRecDepth 10000 in
theorem open_st {b o n:Nat} {cs:List Value} {y:DataW H × List MemPlace} (hc:∀ i,i < 3→W.cell? ⟨b,o + i,none⟩=cs[i]?) (hl:cs.length=3) (hf:DataW.trod enc Tryz.prog W 0 (fun _=>true) true n 206 cs=some y):∃ x:StD,StAt W b o x∧True:=by
 obtain⟨c0,c1,c2,rfl⟩:=list3 hl
 obtain⟨y0,y1,y2,n',_,_,t0,t1,t2⟩:=trod_struct3 Tryz.underlying206 hf
 simp only[Tryz.cellsStr,Tryz.cellsBool,Tryz.cellsInt,List.drop,List.take] at t0 t1 t2
 obtain⟨s,e0,_⟩:=DataW.trod_string Tryz.underlying9 t0
 obtain⟨bb,e1,_⟩:=DataW.trod_bool Tryz.underlying4 t1
 obtain⟨i,e2,_⟩:=DataW.trod_int Tryz.underlying3 t2
 simp only[List.cons.injEq,and_true] at e0 e1 e2
 subst e0;subst e1;subst e2
 exact⟨⟨s,bb,i⟩,⟨hc 0 (by omega),hc 1 (by omega),hc 2 (by omega)⟩,trivial⟩
set_option maxRecDepth 10000 in
theorem open_ct {b o n:Nat} {cs:List Value} {y:DataW H × List MemPlace} (hc:∀ i,i < 2→W.cell? ⟨b,o + i,none⟩=cs[i]?) (hl:cs.length=2) (hf:DataW.trod enc Tryz.prog W 0 (fun _=>true) true n 244 cs=some y):∃ x:CtrD,CtAt W b o x∧True:=by
 obtain⟨c0,c1,rfl⟩:=list2 hl
 obtain⟨y0,y1,n',_,_,t0,t1⟩:=trod_struct2 Tryz.underlying244 hf
 simp only[Tryz.cellsStr,Tryz.cellsInt,List.drop,List.take] at t0 t1
 obtain⟨s,e0,_⟩:=DataW.trod_string Tryz.underlying9 t0
 obtain⟨i,e1,_⟩:=DataW.trod_int Tryz.underlying3 t1
 simp only[List.cons.injEq,and_true] at e0 e1
 subst e0;subst e1
 exact⟨⟨s,i⟩,⟨hc 0 (by omega),hc 1 (by omega)⟩,trivial⟩
set_option maxRecDepth 10000 in
theorem open_stp {b o n:Nat} {cs:List Value} {y:DataW H × List MemPlace} (hc:∀ i,i < 9→W.cell? ⟨b,o + i,none⟩=cs[i]?) (hl:cs.length=9) (hf:DataW.trod enc Tryz.prog W 0 (fun _=>true) true n 137 cs=some y):∃ x:StpD,SpAt W b o x∧wf64 x.kind:=by
 obtain⟨c0,c1,c2,c3,c4,c5,c6,c7,c8,rfl⟩:=list9 hl
 obtain⟨xs,n',_,_,_,hlen,hfs⟩:=DataW.trod_struct Tryz.underlying137 hf
 match xs,hlen with
 | [y0,y1,y2,y3,y4,y5,y6,y7,y8],_ =>
   have t0:=hfs 0 _ rfl
   have t1:=hfs 1 _ rfl
   have t2:=hfs 2 _ rfl
   have t3:=hfs 3 _ rfl
   have t4:=hfs 4 _ rfl
   have t5:=hfs 5 _ rfl
   have t6:=hfs 6 _ rfl
   have t7:=hfs 7 _ rfl
   have t8:=hfs 8 _ rfl
   simp only[List.getElem_toArray,List.getElem_cons_zero,List.getElem_cons_succ,Tryz.cellsStr,Tryz.cellsKnd,Tryz.cellsInt,List.drop,List.take,List.getElem?_cons_zero,List.getElem?_cons_succ] at t0 t1 t2 t3 t4 t5 t6 t7 t8
   obtain⟨s0,e0,_⟩:=DataW.trod_string Tryz.underlying9 t0
   obtain⟨s1,e1,_⟩:=DataW.trod_string Tryz.underlying9 t1
   obtain⟨i2,e2,_,hw⟩:=DataW.trod_int Tryz.underlying135 t2
   obtain⟨s3,e3,_⟩:=DataW.trod_string Tryz.underlying9 t3
   obtain⟨s4,e4,_⟩:=DataW.trod_string Tryz.underlying9 t4
   obtain⟨s5,e5,_⟩:=DataW.trod_string Tryz.underlying9 t5
   obtain⟨i6,e6,_⟩:=DataW.trod_int Tryz.underlying3 t6
   obtain⟨i7,e7,_⟩:=DataW.trod_int Tryz.underlying3 t7
   obtain⟨i8,e8,_⟩:=DataW.trod_int Tryz.underlying3 t8
   simp only[List.cons.injEq,and_true] at e0 e1 e2 e3 e4 e5 e6 e7 e8
   subst e0;subst e1;subst e2;subst e3;subst e4;subst e5;subst e6;subst e7;subst e8
   refine⟨⟨s0,s1,i2,s3,s4,s5,i6,i7,i8⟩,⟨hc 0 (by omega),hc 1 (by omega),hc 2 (by omega),hc 3 (by omega),hc 4 (by omega),hc 5 (by omega),hc 6 (by omega),hc 7 (by omega),hc 8 (by omega)⟩,?_⟩
   simp only[Lit.wf,show IntKind.i64.min=-9223372036854775808 from rfl,show IntKind.i64.max=9223372036854775807 from rfl,Bool.and_eq_true,decide_eq_true_eq] at hw
   exact hw
set_option maxRecDepth 10000 in
theorem open_rol {b o n:Nat} {cs:List Value} {y:DataW H × List MemPlace} (hc:∀ i,i < 4→W.cell? ⟨b,o + i,none⟩=cs[i]?) (hl:cs.length=4) (hf:DataW.trod enc Tryz.prog W 0 (fun _=>true) true n 87 cs=some y):∃ x:RolD,RlAt W b o x∧∀ t∈x.steps,wf64 t.kind:=by
 obtain⟨c0,c1,c2,c3,rfl⟩:=list4 hl
 obtain⟨y0,y1,y2,y3,n',_,_,t0,t1,t2,t3⟩:=Go.Joins.trod_struct4 Tryz.underlying87 hf
 simp only[Tryz.cellsStr,Tryz.cellsSts,Tryz.cellsCts,Tryz.cellsStps,List.drop,List.take] at t0 t1 t2 t3
 obtain⟨s,e0,_⟩:=DataW.trod_string Tryz.underlying9 t0
 simp only[List.cons.injEq,and_true] at e0
 subst e0
 obtain⟨l1,a1,-,-⟩:=open_arr (At:=StAt) (Q:=fun _=>True) Tryz.underlying83 Tryz.cellsSt (by omega) (fun b o cs n y h1 h2 h3=>open_st h1 h2 h3) t1
 obtain⟨l2,a2,-,-⟩:=open_arr (At:=CtAt) (Q:=fun _=>True) Tryz.underlying84 Tryz.cellsCt (by omega) (fun b o cs n y h1 h2 h3=>open_ct h1 h2 h3) t2
 obtain⟨l3,a3,q3,k3⟩:=open_arr (At:=SpAt) (Q:=fun t=>wf64 t.kind) Tryz.underlying85 Tryz.cellsStp (by omega) (fun b o cs n y h1 h2 h3=>open_stp h1 h2 h3) t3
 exact⟨⟨s,l1,l2,l3⟩,⟨_,_,_,hc 0 (by omega),hc 1 (by omega),hc 2 (by omega),hc 3 (by omega),a1,a2,a3,k3⟩,q3⟩
set_option maxRecDepth 10000 in
theorem open_ses {base:Nat} {v:Value} {d:DataW H} {p:List MemPlace} (hv:Value.okWide Tryz.prog W .any base 25 v) (h:DataW.Trod enc Tryz.prog W 0 (fun _=>true) true 25 v d p):∃ s,SesV W v s∧WfS s:=by
 obtain⟨cs,rfl,hsz⟩:=okWide_struct Tryz.underlying25 hv
 obtain⟨fuel,hf⟩:=h
 obtain⟨y0,y1,y2,y3,n,_,_,t0,t1,t2,t3⟩:=Go.Joins.trod_struct4 Tryz.underlying25 hf
 rw[Tryz.cellsSes] at hsz
 obtain⟨c0,c1,c2,c3,rfl⟩:=Go.Joins.array4 hsz
 simp only[Value.cells,Tryz.cellsStr,Tryz.cellsRls,Tryz.cellsCls,Tryz.cellsInt,List.drop,List.take] at t0 t1 t2 t3
 obtain⟨s,e0,_⟩:=DataW.trod_string Tryz.underlying9 t0
 obtain⟨i2,e2,_⟩:=DataW.trod_int Tryz.underlying23 t2
 obtain⟨i3,e3,_⟩:=DataW.trod_int Tryz.underlying3 t3
 simp only[List.cons.injEq,and_true] at e0 e2 e3
 subst e0;subst e2;subst e3
 obtain⟨l,a1,q1,-⟩:=open_arr (At:=RlAt) (Q:=fun r:RolD=>∀ t∈r.steps,wf64 t.kind) Tryz.underlying22 Tryz.cellsRl (by omega) (fun b o cs n y h1 h2 h3=>open_rol h1 h2 h3) t1
 exact⟨⟨s,l,i2,i3⟩,⟨c1,rfl,a1⟩,q1⟩
end
end Go.Proofs.YtohfkhjlnlahdaaGreat
namespace Go.Proofs.YtohfkhjlnlahdaaGreat
open Go.ChangeShapes Go.WideShapes Go.ChangeAt Go.RowKit
theorem Tryz.own:ownKnob Tryz.prog.godebug=none:=by kernel_rfl
theorem Tryz.laidOut:laidOutB Tryz.prog=true:=by kernel_rfl
end Go.Proofs.YtohfkhjlnlahdaaGreat
