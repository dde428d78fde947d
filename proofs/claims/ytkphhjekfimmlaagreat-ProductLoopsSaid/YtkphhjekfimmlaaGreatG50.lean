/- Part of the proof. -/
import Derived.Test.YtkphhjekfimmlaaGreatG33
import Derived.LaidEql
import Derived.Sort.BigQuietIn
import Derived.TacticsInMore
import Derived.WalkKit
import Derived.WalkSpells
import Derived.Deep.QuietTactic
import Derived.Deep.MidRow
import Derived.Deep.WholeRow
import Derived.Lib.SlicesS
import Derived.Shelf.SlGeneric
import Derived.Shelf.SlLaysN
import Derived.Shelf.SlLaysM
import Derived.Ground.SlgnProg
import Derived.Ground.SlgmProg
import Derived.Test.YtkphhjekfimmlaaGreatProg
import Derived.BigQuiet
import Derived.StillTail
import Derived.Laws.IdiomStrings
import Derived.Shelf.Bytes.SlSmallAll
import Derived.Deep.Upon
import Derived.ArgAppend
import Derived.Deep.AppendLies
import Derived.Maps.AppendAt
import Derived.Lib.Hide
import Derived.Deep.DeepMust
import Derived.WalkLawsBesides
import Derived.BigRegion
import Derived.Deep.RegionHeld3
import Derived.Deep.RegionLaw
import Derived.Deep.DeepCutAuto
import Derived.Shelf.SlicesG.Clone
import Derived.Shelf.SlicesG.Turned
import Derived.Shelf.SlicesG.Delete
import Derived.Sort.OwnSorted
import Derived.OrdersHeld
import Derived.Lib.SliceRun
import Derived.LoopTactic
import Derived.RangeFuncNested
import Derived.RangeFuncLeaves
import Derived.RangeFuncCalls
import Derived.RangeFuncBound
import Derived.OwnWalkIn
import Derived.LoopNIn
import Derived.LoopIn
import Derived.Lib.Builder
import Derived.Shelf.SortM.Plain
import Derived.Shelf.SortM.SortNone
import Derived.Sort.CutIn
import Derived.OrdersIn
import Derived.Laws.StructEq
import Derived.Laws.OwnMore
import Derived.Maps.OwnSet
import Derived.Maps.OwnOps
import Derived.Laws.EntriesVeiled
import Derived.Laws.Concat
import Derived.Lib.AppendStr
set_option linter.all false
namespace Go.Proofs.YtkphhjekfimmlaaGreat
open Go.RowKit Go.BigFrame
theorem Bk.oldF {F:List Nat} {B:Nat} {w0 w w':World} (h:Bk B w w') (h0:Frm F w0 w) (hB:w0.heap.size≤B):Frm F w0 w':=
 ⟨h.os.trans h0.os,h.tape.trans h0.tape,h.output.trans h0.output,Nat.le_trans h0.size h.size,fun k hk hn=>by
  have e:=h0.block k hk hn
  have hk':w0.heap[k]?=some (w0.heap[k]):=Array.getElem?_eq_getElem hk
  rw[hk'] at e ⊢
  exact h.block k _ e (.inl (by omega))⟩
structure TF (w:World) (L:List Mv) (B:Nat) (u:Value) (bw:Nat) (aw:Option Addr) (cw:Nat) (many:Int) (bt:Nat) (T:Int) (W:World):Prop where
 old:Frm [] w W
 it:MvI B u L W
 wt:W.heap[bw]?=some (.cells #[.slice aw L.length cw] 41 (0,0))
 ws:Arr 4 MvAt W (.slice aw L.length cw) L
 mb:W.heap[w.heap.size + 1]?=some (.cells #[.int .i64 many] 3 (0,0))
 rs:W.heap[w.heap.size + 2]?=some (.cells #[.bool false] 4 (0,0))
 tb:W.heap[bt]?=some (.cells #[.int .i64 T] 3 (0,0))
section
variable {w W W' W2:World} {L:List Mv} {B0 bw cw bt:Nat} {u:Value} {aw:Option Addr} {many T:Int}
theorem TF.frm {F:List Nat} (h:TF w L B0 u bw aw cw many bt T W) (hf:Frm F W W') (hF:∀ x∈F,W.heap.size≤x):TF w L B0 u bw aw cw many bt T W':=by
 have no:∀ {k:Nat} {o:Obj},W.heap[k]?=some o→k∉F:=fun hk hx=>by have:=lt_of_block hk;have:=hF _ hx;omega
 have hm:∀ (g o:Nat) (m:Mv),MvAt W g o m→MvAt W' g o m:=fun g o m hm=>by
  have hg:g∉F:=fun hx=>by have:=cell_lt hm.1;have:=hF _ hx;omega
  exact⟨hf.cellAt hm.1 hg,hf.cellAt hm.2 hg,hf.cellAt hm.3 hg,hf.cellAt hm.4 hg⟩
 exact⟨h.old.then hf (fun x hx=>.inr (by have:=hF x hx;have:=h.old.size;omega)),⟨hf.at h.it.b (no h.it.b),h.it.a.frm hm⟩,hf.at h.wt (no h.wt),h.ws.frm hm,hf.at h.mb (no h.mb),hf.at h.rs (no h.rs),hf.at h.tb (no h.tb)⟩
structure TurnI (W:World) (T many:Int) (pre:List (Nat × Mv)) (W':World):Prop where
 fr:Frm [W.heap.size] W W'
 kb:W'.heap[W.heap.size]?=some (.cells #[.int .i64 pre.length] 3 (0,0))
 go:T=0→pre=[]∨(pre.length:Int) < many
structure TurnX (X:Code) (W:World) (T many:Int) (c:Code) (pre:List (Nat × Mv)) (W':World):Prop where
 co:c=X
 fr:Frm [W.heap.size] W W'
 kb:W'.heap[W.heap.size]?=some (.cells #[.int .i64 pre.length] 3 (0,0))
 tz:T=0
 mx:(pre.length:Int)=max 1 many
variable {pre:List (Nat × Mv)} {B:Nat} {c X:Code}
theorem TurnI.bk (h:TurnI W T many pre W') (hb:Bk B W' W2) (hB:W.heap.size≤B):TurnI W T many pre W2:=⟨hb.oldF h.fr hB,hb.at h.kb rfl,h.go⟩
theorem TurnX.bk (h:TurnX X W T many c pre W') (hb:Bk B W' W2) (hB:W.heap.size≤B):TurnX X W T many c pre W2:=⟨h.co,hb.oldF h.fr hB,hb.at h.kb rfl,h.tz,h.mx⟩
theorem TurnI.tf (h:TurnI W T many pre W') (ht:TF w L B0 u bw aw cw many bt T W):TF w L B0 u bw aw cw many bt T W':=ht.frm h.fr (by simp)
theorem TurnX.tf (h:TurnX X W T many c pre W') (ht:TF w L B0 u bw aw cw many bt T W):TF w L B0 u bw aw cw many bt T W':=ht.frm h.fr (by simp)
theorem TurnI.start (W:World) (T many:Int):TurnI W T many [] (W.alloc (.cells #[.int .i64 0] 3)):=
 ⟨(Frm.refl _ _).alloc _,alloc_top rfl,fun _=>.inl rfl⟩
def stepW (W W2:World) (k:Int):World:=W2.setCell ⟨W.heap.size,0,none⟩ (.int .i64 k)
theorem step_frm (h:TurnI W T many pre W2) (x:Nat × Mv) {k:Int} (hk:k=pre.length + 1) :
  KB W2 (stepW W W2 k)∧Frm [W.heap.size] W (stepW W W2 k)∧(stepW W W2 k).heap[W.heap.size]?=some (.cells #[.int .i64 (pre ++ [x]).length] 3 (0,0)):=by
 subst hk
 have h0:Frm [W.heap.size] W2 (stepW W W2 (pre.length + 1)):=(Frm.refl _ _).setCell _ (.inl (by simp)) _
 refine⟨KB.frm h0 ?_,h.fr.trans h0,?_⟩
 ·intro y hy
  simp at hy
  subst hy
  exact not_books h.kb rfl
 ·refine(block_setCell h.kb 0 _).trans ?_
  simp
end
theorem leaves_none {P:Program} {fn:Func} {tmps:Array Value} {R:Ending→World→Prop} {w:World}
 (h:∃ v,(results fn tmps).run P w=.ok v w∧R (.returned v) w):LeavesInM Fence.wide 3 P fn tmps R [] .returning w:=h
theorem leaves_two {P:Program} {fn:Func} {tmps:Array Value} {R:Ending→World→Prop} {D D':Nat} {w:World} (hK:w.heap[D]?=some (.deferred (some []))) (hK':w.heap[D']?=some (.deferred (some []))) (hne:D≠D')
  (h:∃ v,(results fn tmps).run P ((w.putObj D (.deferred none)).putObj D' (.deferred none))=.ok v ((w.putObj D (.deferred none)).putObj D' (.deferred none))∧R (.returned v) ((w.putObj D (.deferred none)).putObj D' (.deferred none))) :
  LeavesInM Fence.wide 3 P fn tmps R [{ target:=.collected D,args:=#[] },{ target:=.collected D',args:=#[] }] .returning w:=
 ⟨by simp,.inl ⟨_,_,rfl,run_takeDeferred hK,by simp,.inl ⟨_,_,rfl,run_takeDeferred ((World.putObj_heap_other (Ne.symm hne)).trans hK'),h⟩⟩⟩
theorem loops_end {w V w9 Wb:World} {L:List Mv} {B0 bw cw:Nat} {u:Value} {aw:Option Addr} {bt D1 D2:Nat} {many T:Int} {o:Obj} {fn:Func} {tmps:Array Value} (hf:fn.results=#[.cell 6 4]) (ht:tmps.getD 6 undef=.pointer (some ⟨w.heap.size + 2,0,none⟩))
  (hx:TF w L B0 u bw aw cw many bt T V) (h9:Frm [] (V.alloc o) w9) (h1:V.heap[D1]?=some (.deferred (some []))) (h2:V.heap[D2]?=some (.deferred (some []))) (l1:w.heap.size + 3≤D1) (l2:D1 < Wb.heap.size) (l3:Wb.heap.size + 1≤D2) :
  LeavesInM Fence.wide 3 Tryz.prog fn tmps (Ret (.bool true) (Frm [] w)) [{ target:=.collected D2,args:=#[] },{ target:=.collected D1,args:=#[] }] .returning (w9.setCell ⟨w.heap.size + 2,0,none⟩ (.bool true)):=by
 have hV:Frm [] V w9:=((Frm.refl [] V).alloc o).trans h9
 have hs:=hV.at hx.rs (by simp)
 have k1:(w9.setCell ⟨w.heap.size + 2,0,none⟩ (.bool true)).heap[D1]?=some (.deferred (some [])):=setCell_at (hV.at h1 (by simp)) (by simp;omega) _
 have k2:(w9.setCell ⟨w.heap.size + 2,0,none⟩ (.bool true)).heap[D2]?=some (.deferred (some [])):=setCell_at (hV.at h2 (by simp)) (by simp;omega) _
 have ks:=block_setCell hs 0 (.bool true)
 have hf8:Frm [] w (w9.setCell ⟨w.heap.size + 2,0,none⟩ (.bool true)):=(hx.old.trans hV).setCell _ (.inr (by simp)) _
 refine leaves_two k2 k1 (by omega) ⟨.bool true,?_,rfl,(hf8.then (Frm.putObj _ D2 _) (by intro x hx;simp at hx;right;omega)).then (Frm.putObj _ D1 _) (by intro x hx;simp at hx;right;omega)⟩
 have hc:(((w9.setCell ⟨w.heap.size + 2,0,none⟩ (.bool true)).putObj D2 (.deferred none)).putObj D1 (.deferred none)).cell? ⟨w.heap.size + 2,0,none⟩=some (.bool true):=
  (cell_of ((Frm.putObj _ D1 _).at ((Frm.putObj _ D2 _).at ks (by simp;omega)) (by simp;omega)) 0).trans rfl
 generalize ((w9.setCell ⟨w.heap.size + 2,0,none⟩ (.bool true)).putObj D2 (.deferred none)).putObj D1 (.deferred none)=Wf at hc
 have ht':tmps[6]?.getD undef=.pointer (some ⟨w.heap.size + 2,0,none⟩):=by simpa using ht
 simp[results,hf,go_sem,hc,ht']
end Go.Proofs.YtkphhjekfimmlaaGreat
namespace Go.Proofs.YtkphhjekfimmlaaGreat
open Go.RowKit
section
variable {F:Fence} {n:Nat} {P:Program} {ops:Array Oper} {md:Region.Mode} {C:World→Prop}
theorem wpIn_of_quiet_r {o:Oper} {a:Act} {K:Act→Prop} {K':Act→World→Prop} {Q':Exit→Act→World→Prop} {w:World} (hro:∀ c,o.op≠.defer c) (hw:C w) (h:∀ a w',C w'→K a→K' a w')
  (ha:o.askedIn F P a C) (hh:o.quietIn F n P a C K):o.wpIn F n P a w K' Q':=by
 obtain⟨v,h1,h2⟩:=hh
 have h3:=h1 w hw
 unfold Oper.quietAtIn at h3
 unfold Oper.wpIn
 refine⟨ha w hw,?_⟩
 rw[Oper.semAt_eq _ _ _ hro]
 generalize (execOp a.eval o).run P w=r at *
 cases r with
 | ok x w' =>
   cases x <;> simp only[Oper.quietUponIn] at h3 <;> simp only[Oper.uponIn]
   case value u =>
    obtain⟨e1,e2⟩:=h3
    rw[e1,e2]
    exact h _ _ hw h2
   case skip =>
    obtain⟨e1,e2⟩:=h3
    rw[e1,← e2]
    exact h _ _ hw h2
   case enter f args =>
    obtain⟨e1,hd,hc⟩:=h3
    rw[e1]
    exact⟨hd,hc.mono fun e w'' ⟨he,hw''⟩=>by subst he;exact h _ _ hw'' h2⟩
 | halt x w'=>simp only[Oper.quietUponIn] at h3
def noDefer (ops:List Oper):Bool:=ops.all fun o=>match o.op with | .defer _=>false | _=>true
theorem noDefer_at {l:List Oper} (h:noDefer l=true) {o:Oper} (ho:o∈l):∀ c,o.op≠.defer c:=fun c e=>by
 have:=List.all_eq_true.1 h o ho
 rw[e] at this
 cases this
theorem wpOpIn_of_qOpIn_r {i:Nat} {a:Act} {K:Act→Prop} {K':Act→World→Prop} {Q':Exit→Act→World→Prop} {w:World} (hro:noDefer ops.toList=true) (hC:C w) (h:∀ a w',C w'→K a→K' a w')
  (hh:qOpIn F n P ops C i K a):wpOpIn F n P ops Q' i K' a w:=by
 unfold qOpIn at hh
 unfold wpOpIn
 split
 ·rename_i ho;simp only[ho] at hh;exact h _ _ hC hh
 ·rename_i o ho
  simp only[ho] at hh
  obtain⟨ha,hh⟩:=hh
  have hmem:o∈ops.toList:=by
   rw[← Array.getElem?_toList] at ho
   exact List.mem_of_getElem? ho
  split
  ·rename_i hw;simp only[hw,if_true] at hh;exact wpIn_of_quiet_r (noDefer_at hro hmem) hC h ha hh
  ·rename_i hw;simp only[hw] at hh;exact⟨ha w hC,h _ _ hC hh⟩
theorem wpAnyIn_of_quiet_r {Q:Act→Prop} {Q':Exit→Act→World→Prop} (hro:noDefer ops.toList=true) (hQ:∀ a w,C w→Q a→Q' .normal a w):∀ (fuel:Nat) (listed:Array Bool) (a:Act) (w:World),C w →
  wpAnyQIn F n P md ops C Q fuel listed a→wpAnyIn F n P md ops Q' fuel listed a w
 | 0,_,_,_,hw,h=>⟨h.1,hQ _ _ hw h.2⟩
 | fuel + 1,_,_,_,hw,h=>⟨fun h0=>hQ _ _ hw (h.1 h0),fun i hi=>wpOpIn_of_qOpIn_r hro hw (fun a' w' hw'=>wpAnyIn_of_quiet_r hro hQ fuel _ a' w' hw') (h.2 i hi)⟩
theorem wpIn_region_quiet_r {id:Nat} {Q:Exit→Act→World→Prop} {a:Act} {w:World} {l:List Oper} (hro:noDefer l=true) (hm:P.follows .mixedOrders=true) (hB:Region.lexB .any l.toArray=true)
  (h:wpQuietIn F n P l.toArray (fun w'=>∃ n,w'=w.drewN n) (fun a'=>∀ w',(∃ n,w'=w.drewN n)→Q .normal a' w') l a):(Code.region id l.toArray true).wpIn F n P Q a w:=by
 simp only[Region.lexB,Bool.and_eq_true] at hB
 refine wpIn_region_any hm (wpAnyIn_of_quiet_r (C:=fun w'=>∃ n,w'=w.drewN n) (Q:=fun a'=>∀ w',(∃ n,w'=w.drewN n)→Q .normal a' w') (by simpa using hro) (fun _ w' hw' h=>h w' hw') _ _ _ _ ⟨1,rfl⟩ ?_)
 have:=wpAnyQIn_lex (F:=F) (n:=n) (C:=fun w'=>∃ n,w'=w.drewN n) (md:=.any) hB.1 l 0 (Array.replicate l.toArray.size false) a (by simp) (by simpa using hB.2) (by simpa using h)
 simpa using this
end
end Go.Proofs.YtkphhjekfimmlaaGreat
