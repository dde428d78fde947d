/- Part of the proof. -/
import Derived.Test.YtohfkhjlnlahdaaGreatW06
import Derived.Lib.SlicesS
import Derived.Test.YtohfkhjlnlahdaaGreatW29
import Derived.Test.YtohfkhjlnlahdaaGreatW40
import Derived.Test.YtohfkhjlnlahdaaGreatW39
import Derived.Deep.OwnRows
import Derived.Test.YtohfkhjlnlahdaaGreatW34
import Derived.WalkKit
import Derived.WalkSpells
import Derived.Deep.QuietTactic
import Derived.Deep.MidRow
import Derived.Deep.WholeRow
import Derived.Test.YtohfkhjlnlahdaaGreatW08
import Derived.Shelf.SlGeneric
import Derived.Shelf.SlLaysN
import Derived.Shelf.SlLaysM
import Derived.Ground.SlgnProg
import Derived.Ground.SlgmProg
import Derived.Test.YtohfkhjlnlahdaaGreatProg
import Derived.BigQuiet
import Derived.StillTail
import Derived.Laws.IdiomStrings
import Derived.Shelf.Bytes.SlSmallAll
import Derived.Deep.Upon
import Derived.ArgAppend
import Derived.Deep.AppendLies
import Derived.Maps.AppendAt
import Derived.Lib.Hide
import Derived.Deep.DeepMust
import Derived.WalkLawsBesides
import Derived.BigRegion
import Derived.Deep.RegionHeld3
import Derived.Deep.RegionLaw
import Derived.Deep.DeepCutAuto
import Derived.Shelf.SlicesG.Clone
import Derived.Shelf.SlicesG.Turned
import Derived.Shelf.SlicesG.Delete
import Derived.Sort.OwnSorted
import Derived.OrdersHeld
import Derived.Lib.SliceRun
import Derived.LoopTactic
import Derived.RangeFuncNested
import Derived.RangeFuncLeaves
import Derived.RangeFuncCalls
import Derived.RangeFuncBound
import Derived.OwnWalkIn
import Derived.TacticsInMore
import Derived.LoopNIn
import Derived.LoopIn
import Derived.Lib.Builder
import Derived.Shelf.SortM.Plain
import Derived.Shelf.SortM.SortNone
import Derived.Sort.CutIn
import Derived.OrdersIn
import Derived.Laws.StructEq
import Derived.Laws.OwnMore
import Derived.Maps.OwnSet
import Derived.Maps.OwnOps
import Derived.Laws.EntriesVeiled
import Derived.Laws.Concat
import Derived.Lib.AppendStr
import Derived.LaidEql
set_option linter.all false
namespace Go.Proofs.YtohfkhjlnlahdaaGreat
open Go
def tkV (b:List UInt8) (n:Nat):List UInt8:=if b.length < n then List.replicate n 0 else b.take n
section
variable {s:SesD} {key:List UInt8} {i:Nat} {ps:List Nat} {vs:List (List Int)} {b b':List UInt8} {bad bad':Bool} {vals:List Int}
abbrev hd1 (b:List UInt8):UInt8:=(tkV b 1).getD 0 0
end
end Go.Proofs.YtohfkhjlnlahdaaGreat
namespace Go.Proofs.YtohfkhjlnlahdaaGreat
open Go
theorem cat_none {α:Type} {f:Nat→List α}:∀ {L:Nat},cat f L=[]→∀ j,j < L→f j=[]
 | 0,_,j,hj=>by omega
 | L + 1,h,j,hj=>by
   rw[cat] at h
   obtain⟨h1,h2⟩:=List.append_eq_nil_iff.1 h
   rcases Nat.lt_or_ge j L with h3 | h3
   ·exact cat_none h1 j h3
   ·obtain rfl:j=L:=by omega
    exact h2
theorem cat_head {α:Type} {f:Nat→List α} {y:α}:∀ {L:Nat} {rest:List α},cat f L=y :: rest→∃ k r,k < L∧(∀ j,j < k→f j=[])∧f k=y :: r
 | 0,_,h=>by cases h
 | L + 1,rest,h=>by
   rw[cat] at h
   cases hc:cat f L with
   | nil =>
     rw[hc,List.nil_append] at h
     exact⟨L,rest,Nat.lt_succ_self _,cat_none hc,h⟩
   | cons z t =>
     rw[hc] at h
     obtain⟨k,r,h1,h2,h3⟩:=cat_head hc
     have e:z=y:=(List.cons.inj h).1
     exact⟨k,r,by omega,h2,by rw[h3,e]⟩
theorem allSp_head {s:SesD} {N:List Nd} {n:Nat} {u:Sp} {rest:List (Nat × Sp)} (h:allSp s N=(n,u) :: rest):∃ d r,N[n]?=some d∧ofP s d.st=u :: r∧firstSp s N=n:=by
 obtain⟨k,r,h1,h2,h3⟩:=cat_head (show cat (fun n=>(ofP s ((N.map Nd.st).getD n ⟨[],[],[]⟩)).map fun u=>(n,u)) N.length=(n,u) :: rest from h)
 have hat:∀ j (hj:j < N.length),(N.map Nd.st).getD j ⟨[],[],[]⟩=N[j].st:=fun j hj=>by
  rw[List.getD_eq_getElem?_getD,List.getElem?_map,List.getElem?_eq_getElem hj]
  rfl
 rw[hat k h1] at h3
 cases ho:ofP s N[k].st with
 | nil=>rw[ho] at h3;cases h3
 | cons x t =>
   rw[ho,List.map_cons] at h3
   have e:=(List.cons.inj h3).1
   obtain⟨rfl,rfl⟩:k=n∧x=u:=by
    have:=Prod.mk.inj e
    exact this
   refine⟨N[k],t,List.getElem?_eq_getElem h1,ho,?_⟩
   rcases Int.lt_or_le (firstSp s N) 0 with hneg | hpos
   ·have:=firstSp_none hneg N[k] (List.getElem_mem h1)
    rw[ho] at this
    cases this
   ·obtain⟨i,hi⟩:∃ i:Nat,firstSp s N=i:=⟨(firstSp s N).toNat,by omega⟩
    obtain⟨d,g1,g2,g3⟩:=firstSp_at hi
    rw[hi]
    rcases Nat.lt_trichotomy i k with hlt | rfl | hgt
    ·have hil:i < N.length:=by omega
     have h9:=h2 i hlt
     rw[hat i hil,List.map_eq_nil_iff] at h9
     rw[List.getElem?_eq_getElem hil] at g1
     cases g1
     exact absurd h9 g2
    ·rfl
    ·have:=g3 k N[k] hgt (List.getElem?_eq_getElem h1)
     rw[ho] at this
     cases this
theorem allSp_nil {s:SesD} {N:List Nd} (h:allSp s N=[]):firstSp s N < 0:=by
 rcases Int.lt_or_le (firstSp s N) 0 with hneg | hpos
 ·exact hneg
 ·obtain⟨i,hi⟩:∃ i:Nat,firstSp s N=i:=⟨(firstSp s N).toNat,by omega⟩
  obtain⟨d,g1,g2,-⟩:=firstSp_at hi
  cases ho:ofP s d.st with
  | nil=>exact absurd ho g2
  | cons u t =>
    have:(i,u)∈allSp s N:=mem_allSp.2 ⟨d,g1,by rw[ho];simp⟩
    rw[h] at this
    cases this
end Go.Proofs.YtohfkhjlnlahdaaGreat
namespace Go.Proofs.YtohfkhjlnlahdaaGreat
open Go.RowKit Go.BigFrame
theorem follow_mem {s:SesD} {T:List Mv} {z x:PS} {k:Nat} {mv:Mv} (h:follow s (firstP s) T=some z) (hx:follow s (firstP s) (T.take k)=some x) (hm:T[k]?=some mv):mv∈movesP s x:=by
 have hk:=lt_of_some hm
 rw[List.getElem?_eq_getElem hk] at hm
 have h1:=List.take_append_drop k T
 rw[List.drop_eq_getElem_cons hk,Option.some.inj hm] at h1
 rw[← h1,follow_append,hx] at h
 have h2:follow s x (mv :: T.drop (k + 1))=some z:=h
 rw[follow] at h2
 split at h2
 ·assumption
 ·cases h2
theorem follow_add {s:SesD} {l:List Mv} {x:PS} {m:Mv} (h:follow s (firstP s) l=some x) (hx:m∈movesP s x):follow s (firstP s) (l ++ [m])=some (nextP s x m):=by
 rw[follow_append,h]
 show follow s x [m]=_
 rw[follow,if_pos hx,follow]
theorem num36_f (e:Int) (W:World):Calls Tryz.prog 17 #[.int .i64 e] W (Ret (.int .i64 e) (Frm [] W)):=
 (num36_any e W).mono (by rintro e w' ⟨rfl,rfl⟩;exact⟨rfl,Frm.refl _ _⟩)
theorem covers_most {s:SesD} {m nn n:Nat} {u:Sp} {rest:List (Nat × Sp)} (hs:SesOk s) (hf:Found s m (searchP s m) nn) (h:allSp s (searchP s m).1=(n,u) :: rest) :
  ∃ d r,follow s (firstP s) (traceP (searchP s m).1 n)=some d∧ofP s d=u :: r∧(traceP (searchP s m).1 n).length≤m + 1∧∀ l z,follow s (firstP s) l=some z→l.length < (traceP (searchP s m).1 n).length→ofP s z=[]:=by
 obtain⟨d,r,h1,h2,h3⟩:=allSp_head h
 obtain⟨t1,t2⟩:=trace_leads hf.toSI n d h1
 refine⟨d.st,r,t1,h2,?_,fun l z hz hl=>covers_first hs hf h3 h1 hz (by omega)⟩
 have a1:=trc_len (N:=(searchP s m).1) (n + 1) n
 have a2:traceP (searchP s m).1 n=trc (searchP s m).1 (n + 1) n:=rfl
 have a3:=lt_of_some h1
 have a4:=hf.top
 rw[a2]
 omega
theorem neq_spc (a:Sp) (w:World):(binOp .neq 33 (suV a) (suV a)).run Tryz.prog w=.ok (.bool false) w:=by
 have h2:(Op.equalIn (9999 + 1) 33 (suV a) (suV a)).run Tryz.prog w=.ok true w:=by
  rw[run_equalIn_struct w 9999 33 _ _ Tryz.undSp (by kernel_rfl)]
  simp[go_sem,Tryz.underlying33]
 simp only[binOp]
 simp[show Op.equal 33 (suV a) (suV a)=Op.equalIn (9999 + 1) 33 (suV a) (suV a) from rfl,h2]
abbrev nxT:List TypeId:=[31,44]
structure NxB (w:World) (ob:Nat) (L:List Mv) (W:World):Prop where
 fr:Frm [ob] w W
 kt:Kt nxT w W
 bx:∃ ao cap,W.heap[ob]?=some (.cells #[.slice ao L.length cap] 31 (0,0))∧W.ownsRow w.heap.size 44 4 (.slice ao L.length cap) L.length (mvC L)
section
variable {w W V w1:World} {ob:Nat} {L:List Mv}
theorem NxB.start (h:w.heap[ob]?=some (.cells #[.slice none 0 0] 31 (0,0))):NxB w ob [] w:=⟨Frm.refl _ _,Kt.refl _ _,none,0,h,World.ownsRow_nil _ _ _ _⟩
theorem NxB.frm (h:NxB w ob L W) (hf:Frm [] W V):NxB w ob L V:=by
 obtain⟨ao,cap,h1,h2⟩:=h.bx
 exact⟨h.fr.then hf (by simp),h.kt.trans (Kt.frm hf),ao,cap,hf.at h1 (by simp),hf.owns h2 (by simp)⟩
theorem NxB.bk (h:NxB w ob L W) (hb:Bk w.heap.size W V):NxB w ob L V:=by
 obtain⟨ao,cap,h1,h2⟩:=h.bx
 refine⟨hb.oldG h.fr (Nat.le_refl _),h.kt.bk hb,ao,cap,hb.at h1 rfl,h2.1,?_⟩
 rcases h2.2 with h3 | ⟨g,cp,cur,hv,hg,hh,r⟩
 ·exact .inl h3
 ·exact .inr ⟨g,cp,cur,hv,hg,hb.at hh rfl,r⟩
theorem NxB.step {ao:Option Addr} {cap:Nat} {o:Obj} {v':Value} (m:Mv) (h:NxB w ob L W) (h1:W.heap[ob]?=some (.cells #[.slice ao L.length cap] 31 (0,0))) (h2:W.ownsRow w.heap.size 44 4 (.slice ao L.length cap) L.length (mvC L))
  (hg:(W.alloc o).grownBy w1 (Value.slice ao L.length cap).ownBlock) (ho:w1.ownsRow w.heap.size 44 4 v' (L.length + 1) (mvC L ++ mvC1 m)) :
  NxB w ob (L ++ [m]) (w1.setCell ⟨ob,0,none⟩ v')∧KB W (w1.setCell ⟨ob,0,none⟩ v'):=by
 have hb:=BO.facts h1 h2 (by decide) hg
 have k0:Kt nxT W w1:=((Kt.refl _ W).alloc o).grown hg (fun q hq=>by
  obtain⟨c,hc⟩:=ownBlock_type h2 hq
  exact⟨c,_,(0,0),alloc_at hc,by simp⟩)
 have f1:Frm [ob] w w1:=(h.fr.alloc o).grown hg (fun q hq=>.inr (ownBlock_ge h2 hq))
 obtain⟨ao',cp',rfl⟩:=own_shape ho
 have k1:=k0.set hb (by simp) (.slice ao' (L.length + 1) cp') (o:=0)
 refine⟨⟨f1.setCell _ (.inl (by simp)) _,h.kt.trans k1,ao',cp',?_,?_⟩,k1.kb⟩
 ·rw[List.length_append]
  exact(block_setCell hb 0 _).trans rfl
 ·rw[List.length_append,mvC_append]
  have h3:mvC [m]=mvC1 m:=by simp[mvC]
  rw[h3]
  refine ownsRow_setCell_other ho (fun e'=>?_) _
  obtain⟨c,hc⟩:=ownBlock_type ho e'
  rw[hb] at hc;cases hc
theorem MvI.nx {B:Nat} {u:Value} {M:List Mv} {ao:Option Addr} {n c:Nat} (h:MvI B u M W) (hb:W.heap[ob]?=some (.cells #[.slice ao n c] 31 (0,0))) (hne:B≠ob) (hf:Frm [ob] W V):MvI B u M V:=
 ⟨hf.at h.b (by rw[List.mem_singleton];exact hne),h.a.frm fun g o m hm=>by
  have hg:g∉[ob]:=fun hx=>by
   rw[List.mem_singleton] at hx
   subst hx
   have:=hm.1
   rw[cell_of hb] at this
   cases o with
   | zero=>simp at this
   | succ o=>simp at this
  exact⟨hf.cellAt hm.1 hg,hf.cellAt hm.2 hg,hf.cellAt hm.3 hg,hf.cellAt hm.4 hg⟩⟩
end
end Go.Proofs.YtohfkhjlnlahdaaGreat
namespace Go.Proofs.YtohfkhjlnlahdaaGreat
open Go.RowKit Go.BigFrame
theorem leaves_none {P:Program} {fn:Func} {tmps:Array Value} {R:Ending→World→Prop} {w:World}
 (h:∃ v,(results fn tmps).run P w=.ok v w∧R (.returned v) w):LeavesInM Fence.wide 3 P fn tmps R [] .returning w:=h
end Go.Proofs.YtohfkhjlnlahdaaGreat
namespace Go.Proofs.YtohfkhjlnlahdaaGreat
open Go.RowKit Go.BigFrame
theorem follow_snoc {s:SesD} {L:List Mv} {i:Nat} {x:PS} {m:Mv} (h:follow s (firstP s) (L.take i)=some x) (hm:L[i]?=some m) (hx:m∈movesP s x):follow s (firstP s) (L.take (i + 1))=some (nextP s x m):=by
 rw[List.take_add_one,hm,Option.toList_some,follow_append,h]
 show follow s x [m]=_
 rw[follow,if_pos hx,follow]
end Go.Proofs.YtohfkhjlnlahdaaGreat
namespace Go.Proofs.YtohfkhjlnlahdaaGreat
open Go.RowKit Go.BigFrame
theorem res_tmp6 {fn:Func} {tmps:Array Value} {V:World} {u:Value} (hf:fn.results=#[.tmp 6]) (h:tmps.getD 6 undef=u):(results fn tmps).run Tryz.prog V=.ok u V:=by
 have h':tmps[6]?.getD undef=u:=by simpa using h
 simp[results,hf,h',go_sem]
theorem fst_c7 {s:SesD} {m:Nat} {yb:Nat} {lim:Value} {w:World} (h:Calls Tryz.prog 16 #[.pointer (some ⟨yb,0,none⟩),lim] w (RetV (FstTo w s m))) (h1:allSp s (searchP s m).1=[]) (h2:(searchP s m).2=false) :
  Calls Tryz.prog 16 #[.pointer (some ⟨yb,0,none⟩),lim] w (Ret (.tuple #[.slice none 0 0,suZ,.bool false,.int .i64 7]) (Frm [] w)):=
 h.mono fun e w' h=>by
  obtain⟨v,rfl,hf,⟨-,rfl⟩ | ⟨n,u,rest,tv,h3,-⟩⟩:=h
  ·exact⟨by rw[h2];rfl,hf⟩
  ·rw[h1] at h3;cases h3
theorem fst_c0 {s:SesD} {m:Nat} {yb:Nat} {lim:Value} {w:World} (h:Calls Tryz.prog 16 #[.pointer (some ⟨yb,0,none⟩),lim] w (RetV (FstTo w s m))) (h1:¬ (allSp s (searchP s m).1=[]∧(searchP s m).2=false)) :
  Calls Tryz.prog 16 #[.pointer (some ⟨yb,0,none⟩),lim] w (RetV fun v w'=>∃ (ta:Option Addr) (tc:Nat) (T:List Mv) (u:Sp) (fd:Bool),v=.tuple #[.slice ta T.length tc,suV u,.bool fd,.int .i64 0]∧Arr 4 MvAt w' (.slice ta T.length tc) T∧Frm [] w w' ∧
   (fd=false→allSp s (searchP s m).1=[]∧(searchP s m).2=true)∧(fd=true→∃ n rest,allSp s (searchP s m).1=(n,u) :: rest∧T=traceP (searchP s m).1 n)):=
 h.mono fun e w' h=>by
  obtain⟨v,rfl,hf,⟨h2,rfl⟩ | ⟨n,u,rest,tv,h3,rfl,h4⟩⟩:=h
  ·cases hw:(searchP s m).2 with
   | false=>exact absurd ⟨h2,hw⟩ h1
   | true=>exact⟨_,rfl,none,0,[],⟨0,0,{ data:=#[] }⟩,false,rfl,⟨none,0,rfl,fun i y hy=>by simp at hy⟩,hf,fun _=>⟨h2,rfl⟩,fun h=>by cases h⟩
  ·obtain⟨ta,tc,rfl⟩:=h4.shape
   exact⟨_,rfl,ta,tc,_,u,true,rfl,h4,hf,(fun h=>by cases h),fun _=>⟨n,rest,h3,rfl⟩⟩
attribute [local go_sem] Oper.semAt_some
set_option maxHeartbeats 0 in
set_option maxRecDepth 100000 in
theorem ecovers_any (v cv:Value) (s:SesD) (lim:Int) (w:World) (bs:List UInt8) (h:SesV w v s) (hw:WfS s) (hc:Byts w cv bs):Calls Tryz.prog 3 #[v,.int .i64 lim,cv] w (Ret (.bool true) (Frm [] w)):=by
 have HSV:=Lib.hid h
 obtain⟨rv,rfl,hr⟩:=h
 obtain⟨ao,cap,rfl⟩:=hr.shape
 obtain⟨n,hn⟩:∃ n,s.roles.length=n:=⟨_,rfl⟩
 have HNn:=Lib.hid hn
 rw[hn] at HSV ⊢
 obtain⟨W0,hW0⟩:∃ W0,w.alloc (.cells #[.string s.name,.slice ao n cap,.int .i64 s.cls,.int .i64 s.cap] 25)=W0:=⟨_,rfl⟩
 have hf0:Frm [] w W0:=by rw[← hW0];exact(Frm.refl _ _).alloc _
 have HF0:=Lib.hid hf0
 have hb0:W0.heap[w.heap.size]?=some (.cells #[.string s.name,.slice ao n cap,.int .i64 s.cls,.int .i64 s.cap] 25 (0,0)):=by rw[← hW0];exact heap_alloc_new _ _
 have HB0:=Lib.hid (fun V (hV:Frm [] W0 V)=>hV.at hb0 (by simp))
 have CK:Hid (∀ V,Calls Tryz.prog 15 #[] V (Ret (.bool true) (Frm [] V))):=Lib.hid known36_any
 have HE:=Lib.hid hW0
 have HG:=Lib.hid (fun h1=>given36_no (HSV.out.frm hf0) hw h1)
 have HY:=Lib.hid (fun h1=>given36_yes (HSV.out.frm hf0) hw h1)
 have HBY:=Lib.hid hc
 obtain⟨ca0,cc0,rfl,-⟩:=hc.len
 obtain⟨cl,hcl⟩:∃ n,bs.length=n:=⟨_,rfl⟩
 have HCL:=Lib.hid hcl
 rw[hcl] at HBY ⊢
 clear hr hw hf0 hb0 hW0 hn hcl hc
 refine calls_of_marks Tryz.func3 rfl ?_
 simp only[Tryz.ntmps3,List.size_toArray,List.length_cons,List.length_nil,Nat.reduceAdd,Nat.reduceSub,Array.replicate_succ,Array.replicate_zero,List.push_toArray,List.append_toArray,List.nil_append,List.cons_append]
 go_upto_region 1 with (first | (refine wpList_box_row rfl 25 _ rfl _ rfl ?_;rw[HE.out]))
 clear HE
 cases hg:gvB s with
 | false =>
   have CG:=Lib.hid (HG.out hg)
   clear hg HG HY
   go_upto_region 2 with (first
    | (refine wpList_load_whole rfl 25 _ rfl _ rfl _ 25 (HB0.out _ (Frm.refl _ _)) _ Tryz.underlying25 rfl (by kernel_rfl) ?_)
    | (go_at_call 14;go_must (refine CG.out.mono ?_;rintro e w1 ⟨u,rfl,rfl,hf1⟩;have HF1:=Lib.hid hf1;clear hf1 CG)))
   go_upto_region 3 with fail
   go_wp2_with (go_at_call 15;go_must (refine(CK.out _).mono ?_;rintro e wk ⟨rfl,hf'⟩;have HFK:Hid (Frm [] W0 wk):=Lib.hid (HF1.out.trans hf');clear hf'))
   exact leaves_none ⟨_,res_tmp6 rfl rfl,rfl,HF0.out.trans HFK.out⟩
 | true =>
   have CG:=Lib.hid (HY.out hg)
   have HOK:=Lib.hid (gv_ok hg)
   have HSM:=Lib.hid (gv_12 (gv_small hg))
   clear hg HG HY
   go_upto_region 2 with (first
    | (refine wpList_load_whole rfl 25 _ rfl _ rfl _ 25 (HB0.out _ (Frm.refl _ _)) _ Tryz.underlying25 rfl (by kernel_rfl) ?_)
    | (go_at_call 14;go_must (refine CG.out.mono ?_;rintro e w1 ⟨u,rfl,yb,fb,rfl,hsy,hf1⟩;have HF1:=Lib.hid hf1;have HSY1:=Lib.hid hsy;clear hf1 hsy CG)))
   by_cases hl:(lim < 1∨50 < lim)∨60 < cl
   ·rcases Int.lt_or_le lim 1 with hl1 | hl1
    ·have hd1:decide (lim < 1)=true:=decide_eq_true hl1
     clear hl
     go_upto_region 3 with fail
     go_wp2_with (go_at_call 15;go_must (refine(CK.out _).mono ?_;rintro e wk ⟨rfl,hf'⟩;have HFK:Hid (Frm [] W0 wk):=Lib.hid (HF1.out.trans hf');clear hf'))
     exact leaves_none ⟨_,res_tmp6 rfl rfl,rfl,HF0.out.trans HFK.out⟩
    ·have hd1:decide (lim < 1)=false:=decide_eq_false (by omega)
     rcases Int.lt_or_le 50 lim with hl2 | hl2
     ·have hd2:decide (50 < lim)=true:=decide_eq_true hl2
      clear hl
      go_upto_region 3 with fail
      go_wp2_with (go_at_call 15;go_must (refine(CK.out _).mono ?_;rintro e wk ⟨rfl,hf'⟩;have HFK:Hid (Frm [] W0 wk):=Lib.hid (HF1.out.trans hf');clear hf'))
      exact leaves_none ⟨_,res_tmp6 rfl rfl,rfl,HF0.out.trans HFK.out⟩
     ·have hd2:decide (50 < lim)=false:=decide_eq_false (by omega)
      have hl3:60 < cl:=hl.resolve_left (by omega)
      have hl4:(60:Int) < (cl:Int):=by omega
      have hd3:decide ((60:Int) < (cl:Int))=true:=decide_eq_true hl4
      clear hl
      go_upto_region 3 with fail
      go_wp2_with (go_at_call 15;go_must (refine(CK.out _).mono ?_;rintro e wk ⟨rfl,hf'⟩;have HFK:Hid (Frm [] W0 wk):=Lib.hid (HF1.out.trans hf');clear hf'))
      exact leaves_none ⟨_,res_tmp6 rfl rfl,rfl,HF0.out.trans HFK.out⟩
   ·obtain⟨m,rfl⟩:∃ m:Nat,lim=(m:Int):=⟨lim.toNat,by omega⟩
    have hd1:decide ((m:Int) < 1)=false:=decide_eq_false (by omega)
    have hd2:decide (50 < (m:Int))=false:=decide_eq_false (by omega)
    have hd3:decide ((60:Int) < (cl:Int))=false:=decide_eq_false (by omega)
    have hd4:¬ (60:Int) < (cl:Int):=by omega
    have HM:Hid (1≤m∧m≤50):=Lib.hid (by omega)
    have HC60:Hid (cl≤60):=Lib.hid (by omega)
    clear hl
    obtain⟨nn,hfo⟩:=search_ok (lim:=m) HOK.out HM.out.1
    have HFO:=Lib.hid hfo
    clear hfo
    go_upto_region 4 with fail
    clear hd1 hd2 hd3 hd4
    by_cases h7:allSp s (searchP s m).1=[]∧(searchP s m).2=false
    ·have CF:=Lib.hid (fst_c7 (xpFirst_any s yb fb m w1 HSY1.out HM.out.1 (by have:=HM.out;omega)) h7.1 h7.2)
     clear h7
     go_upto_region 5 with (first
      | (go_at_call 16;go_must (refine CF.out.mono ?_;rintro e w2 ⟨rfl,hf2⟩;have HF2:=Lib.hid (HF1.out.trans hf2);clear hf2 CF)))
     obtain⟨V2,hV2⟩:∃ V,w2.alloc (.cells #[.int .i64 0,.int .i64 0,.string { data:=#[] }] 33)=V:=⟨_,rfl⟩
     have HFV:Hid (Frm [] W0 V2):=Lib.hid (by rw[← hV2];exact HF2.out.alloc _)
     try rw[hV2]
     clear hV2
     go_wp2_with (first
      | (go_at_call 17;go_must (refine(num36_any _ _).mono ?_;rintro e w' ⟨rfl,rfl⟩))
      | (go_at_call 15;go_must (refine(CK.out _).mono ?_;rintro e wk ⟨rfl,hf'⟩;have HFK:Hid (Frm [] W0 wk):=Lib.hid (HFV.out.trans hf');clear hf')))
     exact leaves_none ⟨_,res_tmp6 rfl rfl,rfl,HF0.out.trans HFK.out⟩
    ·have CF:=Lib.hid (fst_c0 (xpFirst_any s yb fb m w1 HSY1.out HM.out.1 (by have:=HM.out;omega)) h7)
     clear h7
     go_upto_region 5 with (first
      | (go_at_call 16;go_must (refine CF.out.mono ?_;rintro e w2 ⟨v,rfl,ta,tc,T,u,fd,rfl,hat,hf2,hc0,hc1⟩;have HAT:=Lib.hid hat;have HF12:=Lib.hid hf2;have HC0:=Lib.hid hc0;have HC1:=Lib.hid hc1;clear hat hf2 hc0 hc1 CF)))
     obtain⟨V2,hV2⟩:∃ V,w2.alloc (.cells #[.int .i64 u.role,.int .i64 u.peer,.string u.msg] 33)=V:=⟨_,rfl⟩
     obtain⟨r10,h10⟩:∃ b,w2.heap.size=b:=⟨_,rfl⟩
     have HFV:Hid (Frm [] w2 V2):=Lib.hid (by rw[← hV2];exact(Frm.refl _ _).alloc _)
     have Q10:Hid (V2.heap[r10]?=some (.cells #[.int .i64 u.role,.int .i64 u.peer,.string u.msg] 33 (0,0))):=Lib.hid (by rw[← hV2,← h10];exact heap_alloc_new _ _)
     have HSY2:=Lib.hid (HSY1.out.frm (HF12.out.trans HFV.out))
     have HAT2:=Lib.hid (HAT.out.frm fun _ _ _ h=>h.frm HFV.out)
     have HF2:Hid (Frm [] W0 V2):=Lib.hid (HF1.out.trans (HF12.out.trans HFV.out))
     rw[hV2,h10]
     clear hV2 h10 HAT HFV HF12 HSY1 HF1
     go_upto_if 71 with (first
      | (go_at_call 17;go_must (refine(num36_any _ _).mono ?_;rintro e w' ⟨rfl,rfl⟩)))
     obtain⟨L,hL⟩:∃ L,T.length=L:=⟨_,rfl⟩
     have HL:=Lib.hid hL
     rw[hL] at HAT2 ⊢
     clear hL
     go_cut [13,14,15,16,17,18,19] from 72 to 118 (fun s13 s14 s15 s16 s17 s18 s19 wc=>∃ M:Nat,s13=.int .i64 (M:Int)∧M≤cl∧Frm [] V2 wc∧∀ l z,follow s (firstP s) l=some z→l.length < M→ofP s z=[])
     case first =>
      cases fd with
      | false =>
        obtain⟨ha,hb⟩:=HC0.out rfl
        have HCA:=Lib.hid (fun l z hz (_:l.length < cl)=>covers_all HOK.out HFO.out hb (allSp_nil ha) (l:=l) (z:=z) hz)
        clear ha hb
        go_wp2
        go_meet
        exact⟨cl,rfl,Nat.le_refl _,Frm.refl _ _,HCA.out⟩
      | true =>
        obtain⟨fn,rest,ha,hT⟩:=HC1.out rfl
        obtain⟨zT,r,ht,ho,htl,hcv⟩:=covers_most HOK.out HFO.out ha
        rw[← hT] at ht htl hcv
        rw[HL.out] at htl hcv
        have HTL:Hid (L≤51):=Lib.hid (by have:=HM.out;omega)
        have HT:=Lib.hid ht;have HO:=Lib.hid ho;have HCV:=Lib.hid hcv
        clear hT ht htl hcv ho ha HC0 HC1
        go_upto_region 10 with fail
        have CFs:=Lib.hid (pFirst_any s yb fb V2 HSY2.out)
        go_upto_region 12 with (first | (go_at_call 18;go_must (refine CFs.out.mono ?_;rintro e w' ⟨rfl,rfl⟩;clear CFs)))
        go_loopw [14,15] (fun s14 s15 wr=>∃ (k zb:Nat) (z:PS),s14=.pointer (some ⟨zb,0,none⟩)∧s15=.int .i64 k∧k≤L∧StR wr s yb zb z∧follow s (firstP s) (T.take k)=some z∧Frm [] V2 wr) (fun _ s15 _=>L - (intOf s15).toNat)
        case atStart=>exact⟨0,fb,_,rfl,rfl,Nat.zero_le _,HSY2.out.first,rfl,Frm.refl _ _⟩
        case round =>
         obtain⟨k,zb,z,rfl,rfl,hk,hst,hz,hf⟩:=hrel
         have HST:=Lib.hid hst;have HZ:=Lib.hid hz;have HFR:=Lib.hid hf
         clear hst hz hf
         obtain⟨wa,hwa⟩:∃ wa,wa=wr:=⟨_,rfl⟩
         subst hwa
         by_cases hlt:k < L
         ·have hlt':(k:Int) < (L:Int):=by omega
          obtain⟨mv,hm⟩:∃ mv,T[k]?=some mv:=⟨_,List.getElem?_eq_getElem (by rw[HL.out];exact hlt)⟩
          obtain⟨ab,ao1,e1,m0,m1,m2,m3⟩:=HAT2.out.get hm
          subst e1
          have hmem:=follow_mem HT.out HZ.out hm
          have HNX:=Lib.hid (follow_snoc HZ.out hm hmem)
          have CA:=Lib.hid (pDo_yes s yb fb zb z mv wa (HSY2.out.frm HFR.out) HST.out hmem)
          replace m0:=HFR.out.keep m0;replace m1:=HFR.out.keep m1;replace m2:=HFR.out.keep m2;replace m3:=HFR.out.keep m3
          have hw:wrap64 ((k:Int) + 1)=((k + 1:Nat):Int):=by have:=HTL.out;unfold wrap64;omega
          clear hm hmem
          go_wp2_with (first
           | (go_at_call 19;go_must (refine CA.out.mono ?_;rintro e w3 ⟨v,rfl,zb',rfl,hst,hf⟩;have HS3:=Lib.hid hst;have HF3:=Lib.hid hf;clear hst hf CA))
           | (go_at_call 17;go_must (refine(num36_any _ _).mono ?_;rintro e w' ⟨rfl,rfl⟩)))
          exact⟨⟨k + 1,zb',_,rfl,congrArg (Value.int .i64) hw,hlt,HS3.out,HNX.out,HFR.out.trans HF3.out⟩,meas_up hlt hw⟩
         ·obtain rfl:L=k:=by omega
          have hge:¬ (L:Int) < (L:Int):=by omega
          have hzz:z=zT:=by
           have h1:=HZ.out
           rw[← HL.out,List.take_length,HT.out] at h1
           exact(Option.some.inj h1).symm
          have CO:=Lib.hid (xpOf_any s yb fb zb z wa (HSY2.out.frm HFR.out) HST.out)
          rw[hzz,HO.out] at CO
          go_upto_region 19 with (first
           | (go_at_call 20;go_must (refine CO.out.mono ?_;rintro e w5 ⟨v,rfl,u5,rfl,ho,hf5⟩;obtain⟨oa,oc,hsh⟩:=own_shape ho;subst hsh;have HA5:=Lib.hid (su_arr ho);have HF5:=Lib.hid hf5;clear ho hf5 CO)))
          obtain⟨g5,o5,e5,s0,s1,s2⟩:=HA5.out.get (show (u :: r)[0]?=some u from rfl)
          subst e5
          have HC5:Hid (∀ V,Frm [] w5 V→(V.cell? ⟨g5,o5,none⟩=some (.int .i64 u.role)∧V.cell? ⟨g5,o5 + 1,none⟩=some (.int .i64 u.peer)∧V.cell? ⟨g5,o5 + 2,none⟩=some (.string u.msg))∧V.cell? ⟨r10,0,none⟩=some (.int .i64 u.role)∧V.cell? ⟨r10,1,none⟩=some (.int .i64 u.peer)∧V.cell? ⟨r10,2,none⟩=some (.string u.msg)):=Lib.hid fun V hV=>by
           have hq:=(HFR.out.trans (HF5.out.trans hV)).at Q10.out (by simp)
           exact⟨⟨hV.keep s0,hV.keep s1,hV.keep s2⟩,cell_of hq 0,cell_of hq 1,cell_of hq 2⟩
          have hnq:=fun V=>neq_spc u V
          have hl5:¬ ((r.length:Int) + 1=0):=by omega
          clear s0 s1 s2
          refine wp_region_cq (by kernel_rfl) (by kernel_rfl) ?_
          repeat (first
           | go_big_quiet_skip
           | (refine wpQuiet_want (by rfl) (fun K hK=>?_)
              first
               | (refine quiet_move _ (by rfl) (hK _ ?_))
               | (refine quiet_assign _ (by rfl) (hK _ ?_))
               | (refine cq_call (.int .i64 0) 17 #[.int .i64 0] (fun w' hC=>?_) (fun w' hC=>Ret.cq (num36_f 0 w') (fun w'' h=>hC.trans h)) (hK _ ?_)
                  ·go_simp)
               | (apply Exists.intro
                  refine⟨fun w' hC=>?_,hK _ ?_⟩
                  ·(unfold Oper.quietAt
                    obtain⟨⟨s0,s1,s2⟩,y0,y1,y2⟩:=HC5.out w' hC
                    clear hC
                    go_simp
                    try exact⟨rfl,rfl⟩
                    try rfl))
              clear hK K
              try simp only[nrm,Act.eval,nrq]))
          refine wpQuiet_nil ?_
          intro w6 hf6
          go_wp2
          go_meet
          exact⟨min cl L,congrArg (Value.int .i64) (by omega),Nat.min_le_left _ _,HFR.out.trans (HF5.out.trans hf6),fun l z hz hl=>HCV.out l z hz (by omega)⟩
     case rest =>
      obtain⟨M,rfl,hM,hfc,hcv⟩:=hcut
      have HFC:=Lib.hid hfc;have HMC:=Lib.hid hM;have HCV:=Lib.hid hcv
      have HSYc:=Lib.hid (HSY2.out.frm hfc)
      clear hM hfc hcv HC0 HC1 HAT2 Q10
      have CFs:=Lib.hid (pFirst_any s yb fb wc HSYc.out)
      go_upto_region 23 with (first | (go_at_call 18;go_must (refine CFs.out.mono ?_;rintro e w' ⟨rfl,rfl⟩)))
      clear CFs
      have hb9:Hid (SyR wc s yb fb):=HSYc
      refine wp_loop (fun a' w'=>∃ ds,∃ u6 u20 u21 u22 u23 u24 u25 u27 u121 u122 u123 u124 u125 u126 u127 u128 u129 u130 u131 u132 u133 u134 u135 u136 u137 u138 u139 u140 u141 u142 u143 u144 u145 u146 u147 u148 u149 u150 u151 u152 u153 u154 u155 u156 u157 u158 u159 u160 u161 u162 u163 u164 u165 u166 u167 u168 u169 u170 u171 u172 u173 u174:Value,(fun ds u21 w'=>∃ (i zb:Nat) (z:PS) (l:List Mv),u21=.int .i64 (i:Int)∧u20=.pointer (some ⟨zb,0,none⟩)∧i≤M∧l.length=i∧follow s (firstP s) l=some z∧StR w' s yb zb z∧Frm [] wc w'∧Ms w ds w') ds u21 w'∧a'={ tmps:=#[.agg #[.string s.name,.slice ao n cap,.int .i64 s.cls,.int .i64 s.cap],.int .i64 (m:Int),.slice ca0 cl cc0,.pointer (some ⟨w.heap.size,0,none⟩),undef,undef,u6,.pointer (some ⟨yb,0,none⟩),.bool true,.slice ta L tc,.pointer (some ⟨r10,0,none⟩),.bool fd,.int .i64 0,.int .i64 (M:Int),u14,u15,u16,u17,u18,u19,u20,u21,u22,u23,u24,u25,undef,u27,.tuple #[.pointer (some ⟨yb,0,none⟩),.bool true],.agg #[.string s.name,.slice ao n cap,.int .i64 s.cls,.int .i64 s.cap],.tuple #[.pointer (some ⟨yb,0,none⟩),.bool true],.pointer (some ⟨yb,0,none⟩),.bool true,.bool true,.bool false,.bool false,.int .i64 (m:Int),.bool false,.bool false,.bool false,.int .i64 (m:Int),.bool false,.bool false,.bool false,.slice ca0 cl cc0,.int .i64 (cl:Int),.bool false,.bool false,undef,.tuple #[.slice ta L tc,suV u,.bool fd,.int .i64 0],.pointer (some ⟨yb,0,none⟩),.int .i64 (m:Int),.tuple #[.slice ta L tc,suV u,.bool fd,.int .i64 0],.slice ta L tc,suV u,.bool fd,.int .i64 0,.int .i64 0,.int .i64 0,.bool false,undef,undef,undef,undef,undef,undef,undef,undef,undef,.slice ca0 cl cc0,.int .i64 (cl:Int),.bool fd,u72,u73,u74,u75,u76,u77,u78,u79,u80,u81,u82,u83,u84,u85,u86,u87,u88,u89,u90,u91,u92,u93,u94,u95,u96,u97,u98,u99,u100,u101,u102,u103,u104,u105,u106,u107,u108,u109,u110,u111,u112,u113,u114,u115,u116,u117,u118,.pointer (some ⟨yb,0,none⟩),.pointer (some ⟨fb,0,none⟩),u121,u122,u123,u124,u125,u126,u127,u128,u129,u130,u131,u132,u133,u134,u135,u136,u137,u138,u139,u140,u141,u142,u143,u144,u145,u146,u147,u148,u149,u150,u151,u152,u153,u154,u155,u156,u157,u158,u159,u160,u161,u162,u163,u164,u165,u166,u167,u168,u169,u170,u171,u172,u173,u174,undef],defers:=marks ds }) (fun a' _=>M - (intOf (a'.tmps.getD 21 undef)).toNat) ?_ ?_
      ·refine⟨[],?_⟩
       (repeat apply Exists.intro)
       exact⟨⟨0,fb,_,[],rfl,rfl,Nat.zero_le _,rfl,rfl,HSYc.out.first,Frm.refl _ _,Ms.nil _ _⟩,rfl⟩
      intro a' wr hinv
      obtain⟨ds,hinv⟩:=hinv
      obtain⟨u6,hinv⟩:=hinv
      obtain⟨u20,hinv⟩:=hinv
      obtain⟨u21,hinv⟩:=hinv
      obtain⟨u22,hinv⟩:=hinv
      obtain⟨u23,hinv⟩:=hinv
      obtain⟨u24,hinv⟩:=hinv
      obtain⟨u25,hinv⟩:=hinv
      obtain⟨u27,hinv⟩:=hinv
      obtain⟨u121,hinv⟩:=hinv
      obtain⟨u122,hinv⟩:=hinv
      obtain⟨u123,hinv⟩:=hinv
      obtain⟨u124,hinv⟩:=hinv
      obtain⟨u125,hinv⟩:=hinv
      obtain⟨u126,hinv⟩:=hinv
      obtain⟨u127,hinv⟩:=hinv
      obtain⟨u128,hinv⟩:=hinv
      obtain⟨u129,hinv⟩:=hinv
      obtain⟨u130,hinv⟩:=hinv
      obtain⟨u131,hinv⟩:=hinv
      obtain⟨u132,hinv⟩:=hinv
      obtain⟨u133,hinv⟩:=hinv
      obtain⟨u134,hinv⟩:=hinv
      obtain⟨u135,hinv⟩:=hinv
      obtain⟨u136,hinv⟩:=hinv
      obtain⟨u137,hinv⟩:=hinv
      obtain⟨u138,hinv⟩:=hinv
      obtain⟨u139,hinv⟩:=hinv
      obtain⟨u140,hinv⟩:=hinv
      obtain⟨u141,hinv⟩:=hinv
      obtain⟨u142,hinv⟩:=hinv
      obtain⟨u143,hinv⟩:=hinv
      obtain⟨u144,hinv⟩:=hinv
      obtain⟨u145,hinv⟩:=hinv
      obtain⟨u146,hinv⟩:=hinv
      obtain⟨u147,hinv⟩:=hinv
      obtain⟨u148,hinv⟩:=hinv
      obtain⟨u149,hinv⟩:=hinv
      obtain⟨u150,hinv⟩:=hinv
      obtain⟨u151,hinv⟩:=hinv
      obtain⟨u152,hinv⟩:=hinv
      obtain⟨u153,hinv⟩:=hinv
      obtain⟨u154,hinv⟩:=hinv
      obtain⟨u155,hinv⟩:=hinv
      obtain⟨u156,hinv⟩:=hinv
      obtain⟨u157,hinv⟩:=hinv
      obtain⟨u158,hinv⟩:=hinv
      obtain⟨u159,hinv⟩:=hinv
      obtain⟨u160,hinv⟩:=hinv
      obtain⟨u161,hinv⟩:=hinv
      obtain⟨u162,hinv⟩:=hinv
      obtain⟨u163,hinv⟩:=hinv
      obtain⟨u164,hinv⟩:=hinv
      obtain⟨u165,hinv⟩:=hinv
      obtain⟨u166,hinv⟩:=hinv
      obtain⟨u167,hinv⟩:=hinv
      obtain⟨u168,hinv⟩:=hinv
      obtain⟨u169,hinv⟩:=hinv
      obtain⟨u170,hinv⟩:=hinv
      obtain⟨u171,hinv⟩:=hinv
      obtain⟨u172,hinv⟩:=hinv
      obtain⟨u173,hinv⟩:=hinv
      obtain⟨u174,hinv⟩:=hinv
      obtain⟨hrel,ha⟩:=hinv
      subst ha
      try dsimp only
      clear hb9
      obtain⟨i,zb,z,l,rfl,rfl,hi,hll,hz,hst,hf,hms⟩:=hrel
      have HLL:=Lib.hid hll;have HZ:=Lib.hid hz;have HST:=Lib.hid hst;have HF:=Lib.hid hf;have HMS:=Lib.hid hms
      clear hll hz hst hf hms
      obtain⟨wq,hwq⟩:∃ wq,wq=wr:=⟨_,rfl⟩
      subst hwq
      by_cases hlt:i < M
      ·have hlt':(i:Int) < (M:Int):=by omega
       have hw1:wrap64 ((i:Int) + 1)=((i + 1:Nat):Int):=by have:=HMC.out;have:=HC60.out;unfold wrap64;omega
       have HW1:=Lib.hid hw1
       have h0:=HCV.out l z HZ.out (by rw[HLL.out];exact hlt)
       have e0:(ofP s z).length=0:=by rw[h0];rfl
       have CO:=Lib.hid (xpOf_any s yb fb zb z wq (HSYc.out.frm HF.out) HST.out)
       rw[e0] at CO
       clear h0 e0 hw1
       go_upto_region 29 with (first
        | (go_at_call 20;go_must (refine CO.out.mono ?_;rintro e w5 ⟨v,rfl,u5,rfl,ho,hf5⟩;obtain⟨oa,oc,hsh⟩:=own_shape ho;subst hsh;have HF5:=Lib.hid hf5;clear ho hf5 CO))
        | (go_at_call 17;go_must (refine(num36_any _ _).mono ?_;rintro e w' ⟨rfl,rfl⟩)))
       obtain⟨V5,hV5⟩:∃ V,w5.alloc (.cells #[.slice none 0 0] 31)=V:=⟨_,rfl⟩
       obtain⟨ob,hob⟩:∃ b,w5.heap.size=b:=⟨_,rfl⟩
       have Q24:Hid (V5.heap[ob]?=some (.cells #[.slice none 0 0] 31 (0,0))):=Lib.hid (by rw[← hV5,← hob];exact heap_alloc_new _ _)
       have HFV5:Hid (Frm [] wq V5):=Lib.hid (by rw[← hV5];exact HF5.out.alloc _)
       have HOB:Hid (wq.heap.size≤ob):=Lib.hid (by have:=HF5.out.size;omega)
       rw[hV5,hob]
       clear hV5 hob
       have CM:=Lib.hid (pMoves_any s yb fb zb z V5 (HSYc.out.frm (HF.out.trans HFV5.out)) (HST.out.frm HFV5.out))
       have hnf:=fun W f lb=>run_eql_func (P:=Tryz.prog) W 49 #[259] #[] false f lb Tryz.underlying49
       go_wp2_with (first
        | (go_at_call 21;go_must (refine CM.out.mono ?_;rintro e wg ⟨v,rfl,B,um,rfl,hi9,hf,hB⟩;have HI:=Lib.hid hi9;have HFg:=Lib.hid hf;have HBl:=Lib.hid hB;clear hi9 hf hB CM)))
       clear hnf
       have Q24g:=Lib.hid (HFg.out.at Q24.out (by simp))
       have HNE:Hid (B≠ob):=Lib.hid (by have:=lt_of_block Q24.out;have:=HBl.out;omega)
       have HPK:=Lib.hid HST.out.ok
       have hlen:(movesP s z).length≤1000000:=by have:=moves_len HOK.out HPK.out;omega
       have HMG:Hid (Ms w ds wg):=Lib.hid (HMS.out.frm (HFV5.out.trans HFg.out))
       have HWW:Hid (Frm [] w wg):=Lib.hid (HF0.out.trans (HF2.out.trans (HFC.out.trans (HF.out.trans (HFV5.out.trans HFg.out)))))
       refine wp_rangeList rfl (enters_of Tryz.func146 (by kernel_rfl) rfl) (mv_iter B um (movesP s z) hlen) (fun _=>rfl) (fun pre W=>NxB wg ob (pre.map Prod.snd) W) (fun _ _ _=>False)
        (fun _ _ _ h hb=>h.bk hb) (fun _ _ _ _ h _=>h) (fun _ _ h=>HI.out.nx Q24g.out HNE.out h.fr) (NxB.start Q24g.out) ?_ ?_ (fun _ _ _ _ _ _ _ _ h _=>h.elim)
       ·intro l0 pre y rest W hxs hI hlW hlr
        obtain⟨-,hpl⟩:=numL_pre hxs
        obtain⟨yi,ym⟩:=y
        have HPL:Hid ((pre.map Prod.snd).length≤5000):=Lib.hid (by rw[List.length_map];have:=moves_len HOK.out HPK.out;omega)
        have HI2:=Lib.hid hI
        clear hI hlW hlr hxs hlen hpl
        gi_wp2
        refine⟨KB.frm0 ((Frm.refl [] W).alloc _),fun Wq hbk _=>?_⟩
        have hcv:Wq.heap[W.heap.size]?=some (.cells #[.int .i64 ym.kind,.int .i64 ym.role,.int .i64 ym.step,.int .i64 ym.place] 44 (0,0)):=hbk.at (heap_alloc_new W _) rfl
        have HNQ:=Lib.hid ((HI2.out.frm ((Frm.refl [] W).alloc (.cells #[.int .i64 ym.kind,.int .i64 ym.role,.int .i64 ym.step,.int .i64 ym.place] 44))).bk hbk)
        have HSN:Hid ((pre ++ [(yi,ym)]).map Prod.snd=pre.map Prod.snd ++ [ym]):=Lib.hid (by rw[List.map_append];rfl)
        obtain⟨PL,hPL⟩:∃ l,pre.map Prod.snd=l:=⟨_,rfl⟩
        rw[hPL] at HNQ HPL HSN
        have m0:=cell_of hcv 0
        have m1:=cell_of hcv 1
        have m2:=cell_of hcv 2
        have m3:=cell_of hcv 3
        obtain⟨ao',cp,hb1,hb2⟩:=HNQ.out.bx
        have cx:=cell_of hb1 0
        have HB1':=Lib.hid hb1;have HB2':=Lib.hid hb2
        obtain⟨i0,hi0,hz0,hz1,hz2⟩:=info_parts Tryz.infoMv
        have hsz:wg.heap.size≤(Wq.alloc (.cells #[.int .i64 ym.kind,.int .i64 ym.role,.int .i64 ym.step,.int .i64 ym.place] 44)).heap.size:=by have:=HNQ.out.fr.size;simp;omega
        have hPL5:=HPL.out
        clear hbk hcv hb1 hb2 hPL HI2
        gi_wp2_with (gi_at_builtin;refine wpListIn_append_own _ rfl _ _ 31 rfl wg.heap.size 44 i0 (.agg #[.int .i64 0,.int .i64 0,.int .i64 0,.int .i64 0]) 4 32 Tryz.underlying31 hi0 hz0 hz1 hz2 rfl (by decide) (.slice ao' PL.length cp) PL.length (mvC PL) rfl (HB2'.out.alloc _) ⟨Wq.heap.size,0,none⟩ 1 1 (mvC1 ym) rfl rfl (new_row _ _ _) (by simp[mvC1,Value.oneCell']) (by unfold maxLen;omega) (by omega) hsz ?_;intro v' w9 hown' hgrow _;obtain⟨ao9,cp9,rfl⟩:=own_shape hown';have hbx:=BO.facts HB1'.out HB2'.out (by decide) hgrow;have cx6:=cell_of hbx 0;have fx6:=free_of hbx 0;have HG:=Lib.hid hgrow;have HO:=Lib.hid hown';clear hgrow hown' hbx cx)
        have h9:=NxB.step ym HNQ.out HB1'.out HB2'.out HG.out HO.out
        exact⟨h9.2,by show NxB wg ob ((pre ++ [(yi,ym)]).map Prod.snd) _;rw[HSN.out];exact h9.1⟩
       ·intro D V hD hI hK
        rw[numL_snd] at hI
        have HNV:=Lib.hid hI
        have HFW:Hid (Frm [] wq V):=Lib.hid ((HFV5.out.trans HFg.out).then hI.fr (fun q hq=>.inr (by rw[List.mem_singleton] at hq;subst hq;exact HOB.out)))
        have HMV:Hid (Ms w (D :: ds) V):=Lib.hid (HMG.out.more HWW.out.size hI.kt hD hK)
        have HWV:Hid (Frm [] w V):=Lib.hid (HF0.out.trans (HF2.out.trans (HFC.out.trans (HF.out.trans HFW.out))))
        obtain⟨na,nc,hb1,hb2⟩:=hI.bx
        have HNB:=Lib.hid hb1
        have HAM:=Lib.hid (mv_arr hb2)
        obtain⟨K,hK9⟩:∃ K,(movesP s z).length=K:=⟨_,rfl⟩
        have HKL:=Lib.hid hK9
        rw[hK9] at HNB HAM
        clear hI hD hK hb1 hb2 hK9 HNV
        have c24:=cell_of HNB.out 0
        rcases Nat.eq_zero_or_pos K with hK0 | hK0
        ·subst hK0
         go_wp2_with (go_at_call 15;go_must (refine(CK.out _).mono ?_;rintro e wk ⟨rfl,hf'⟩;have HFK:=Lib.hid hf';clear hf'))
         have HMK:Hid (Ms w (D :: ds) wk):=Lib.hid (HMV.out.frm HFK.out)
         refine leaves_many (D :: ds) _ HMK.out.nd (fun D hD=>(HMK.out.dl D hD).2) ⟨.bool true,res_tmp6 rfl rfl,rfl,(HWV.out.trans HFK.out).then (unmark_frm _ _) (fun D hD=>.inr (HMK.out.dl D hD).1)⟩
        ·have hKn:¬ (K:Int)=0:=by omega
         have hKb:((K:Int) == 0)=false:=by rw[beq_eq_false_iff_ne];exact hKn
         have HK0:=Lib.hid hK0
         have hKz:¬ K=0:=by omega
         go_upto_region 36 with fail
         clear c24
         have hiC:i < cl:=by have:=HMC.out;omega
         have hiC':(i:Int) < (cl:Int):=by omega
         obtain⟨c,hc⟩:∃ c,bs[i]?=some c:=⟨_,List.getElem?_eq_getElem (by rw[HCL.out];exact hiC)⟩
         have hbx:∃ b o,ca0=some ⟨b,o,none⟩∧V.cell? ⟨b,o + i,none⟩=some (.int .u8 (c.toNat:Int)):=by
          obtain⟨_,_,e3,-,hbx⟩:=HBY.out.frm0 HWV.out
          obtain⟨b,o,e,h⟩:=hbx i c hc
          injection e3 with e4
          exact⟨b,o,e4.trans e,h⟩
         obtain⟨cb',co,e7,y0⟩:=hbx
         subst e7
         have hwc:wrap64 (c.toNat:Int)=(c.toNat:Int):=by have:=c.toNat_lt;unfold wrap64;omega
         have hwc2:IntKind.i64.wrap (c.toNat:Int)=(c.toNat:Int):=by
          have:=c.toNat_lt
          simp only[IntKind.wrap,IntKind.signed,IntKind.bits]
          simp
          omega
         obtain⟨r,hr⟩:∃ r,c.toNat % K=r:=⟨_,rfl⟩
         have hrM:r < K:=hr ▸ Nat.mod_lt _ hK0
         have hrM':(r:Int) < (K:Int):=by omega
         have hrt:Int.tmod (c.toNat:Int) (K:Int)=(r:Int):=by rw[← hr];rfl
         have hrt2:(((c.toNat % K:Nat):Int))=(r:Int):=by rw[hr]
         obtain⟨mv,hm⟩:∃ mv,(movesP s z)[r]?=some mv:=⟨_,List.getElem?_eq_getElem (by rw[HKL.out];exact hrM)⟩
         obtain⟨ab,ao1,e1,hm1⟩:=HAM.out.get hm
         subst e1
         have hmem:=List.mem_of_getElem? hm
         have HNX:=Lib.hid (follow_add HZ.out hmem)
         have CD:=Lib.hid (pDo_yes s yb fb zb z mv V.drew (HSYc.out.frm (HF.out.trans (HFW.out.trans (Frm.refl [] V).drew))) (HST.out.frm (HFW.out.trans (Frm.refl [] V).drew)) hmem)
         have HQ36:Hid (∀ X,Frm [] V X→V.cell? ⟨cb',co + i,none⟩=some (.int .u8 (c.toNat:Int))→X.cell? ⟨ob,0,none⟩=some (.slice (some ⟨ab,ao1,none⟩) K nc)∧X.cell? ⟨cb',co + i,none⟩=some (.int .u8 (c.toNat:Int))∧MvAt X ab (ao1 + r * 4) mv):=Lib.hid fun X hX hy =>
          ⟨cell_of (hX.at HNB.out (by simp)) 0,hX.keep hy,hm1.frm hX⟩
         have HY0:=Lib.hid y0
         clear hc hm hr hmem hm1 y0
         generalize hQQ:Exit.then _ _=QQ
         refine wp_mono (Q:=fun e a' w'=>match e with | .normal=>QQ .normal a' w' | _=>False) ?_ (fun e a' w' h=>by cases e <;> first | exact h | exact h.elim)
         refine heldG_start (by kernel_rfl) ?_
         refine cnt 0 ?_
         iterate 13
          refine tcG ?_ ?_ ?_
          rotate_left
          ·intro w' hC
           have hz:=HQ36.out _ ((Frm.refl [] V).drew.trans hC) HY0.out
           obtain⟨z0,y0,m0,m1,m2,m3⟩:=hz
           clear hC
           go_simp
           try rfl
          try simp only[nrm,Nat.reduceAdd]
         refine tcn ?_
         refine stG 13 (fun K' hK'=>?_)
         go_simp
         (refine CD.out.mono ?_;rintro e wn ⟨v,rfl,zb',rfl,hst,hfn⟩;have HSTn:=Lib.hid hst;have HFn:Hid (Frm [] V wn):=Lib.hid ((Frm.refl [] V).drew.trans hfn);have hfn':=hfn;clear hst hfn CD)
         refine hK'.out _ _ (hfn') ?_
         clear hK' K'
         try simp only[nrm]
         clear hfn'
         refine cnt 14 ?_
         iterate 5
          refine tcG ?_ ?_ ?_
          rotate_left
          ·intro w' hC
           clear hC
           go_simp
           try rfl
          try simp only[nrm,Nat.reduceAdd]
         refine tcn ?_
         refine wpAnyH_done (by kernel_rfl) ?_ _
         subst hQQ
         have HMn:Hid (Ms w (D :: ds) wn):=Lib.hid (HMV.out.frm HFn.out)
         have HWn:Hid (Frm [] wc wn):=Lib.hid (HF.out.trans (HFW.out.trans HFn.out))
         have hw1:=HW1.out
         clear hwc hrM hrM' hrt hrt2 hKn hKb
         go_wp2_with (go_at_call 17;go_must (refine(num36_any _ _).mono ?_;rintro e w' ⟨rfl,rfl⟩))
         refine⟨⟨D :: ds,?_⟩,meas_up hlt hw1⟩
         (repeat apply Exists.intro)
         exact⟨⟨i + 1,zb',_,l ++ [mv],congrArg (Value.int .i64) hw1,rfl,hlt,by rw[List.length_append,HLL.out];rfl,HNX.out,HSTn.out,HWn.out,HMn.out⟩,rfl⟩
      ·obtain rfl:M=i:=by omega
       have hge:¬ (M:Int) < (M:Int):=by omega
       go_wp2_with (go_at_call 15;go_must (refine(CK.out _).mono ?_;rintro e wk ⟨rfl,hf'⟩;have HFK:Hid (Frm [] wq wk):=Lib.hid hf';clear hf'))
       have HMK:Hid (Ms w ds wk):=Lib.hid (HMS.out.frm HFK.out)
       refine leaves_many ds _ HMK.out.nd (fun D hD=>(HMK.out.dl D hD).2) ⟨.bool true,res_tmp6 rfl rfl,rfl,(HF0.out.trans (HF2.out.trans (HFC.out.trans (HF.out.trans HFK.out)))).then (unmark_frm _ _) (fun D hD=>.inr (HMK.out.dl D hD).1)⟩
end Go.Proofs.YtohfkhjlnlahdaaGreat
