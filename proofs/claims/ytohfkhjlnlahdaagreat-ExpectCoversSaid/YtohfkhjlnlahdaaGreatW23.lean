/- Part of the proof. -/
import Derived.Test.YtohfkhjlnlahdaaGreatW01
import Derived.RangeFuncNested
import Derived.RangeFuncLeaves
import Derived.RangeFuncCalls
import Derived.Shelf.SlGeneric
import Derived.Shelf.SlLaysN
import Derived.Shelf.SlLaysM
import Derived.Ground.SlgnProg
import Derived.Ground.SlgmProg
import Derived.Test.YtohfkhjlnlahdaaGreatW02
import Derived.Shelf.SlicesG.Clone
import Derived.Shelf.SlicesG.Turned
import Derived.Shelf.SlicesG.Delete
import Derived.Sort.OwnSorted
import Derived.OrdersHeld
import Derived.OwnWalkIn
import Derived.Test.YtohfkhjlnlahdaaGreatW09
import Derived.LoopTactic
import Derived.Lib.SliceRun
import Derived.RangeFuncBound
import Derived.TacticsInMore
import Derived.LoopNIn
import Derived.LoopIn
import Derived.Sort.CutIn
import Derived.OrdersIn
import Derived.WalkKit
import Derived.WalkSpells
import Derived.Deep.QuietTactic
import Derived.Deep.MidRow
import Derived.Deep.WholeRow
import Derived.Lib.SlicesS
import Derived.Test.YtohfkhjlnlahdaaGreatProg
import Derived.BigQuiet
import Derived.StillTail
import Derived.Laws.IdiomStrings
import Derived.Shelf.Bytes.SlSmallAll
import Derived.Deep.Upon
import Derived.ArgAppend
import Derived.Deep.AppendLies
import Derived.Maps.AppendAt
import Derived.Lib.Hide
import Derived.Deep.DeepMust
import Derived.WalkLawsBesides
import Derived.BigRegion
import Derived.Deep.RegionHeld3
import Derived.Deep.RegionLaw
import Derived.Deep.DeepCutAuto
import Derived.Test.YtohfkhjlnlahdaaGreatW08
import Derived.Test.YtohfkhjlnlahdaaGreatW22
set_option linter.all false
namespace Go.Proofs.YtohfkhjlnlahdaaGreat
open Go.RowKit
def isBook:Obj→Bool | .loop _=>true | .deferred _=>true | _=>false
structure Bk (B:Nat) (w w':World):Prop where
 os:w'.os=w.os
 tape:w'.tape=w.tape
 output:w'.output=w.output
 size:w.heap.size≤w'.heap.size
 block:∀ k o,w.heap[k]?=some o→k < B∨isBook o=false→w'.heap[k]?=some o
def books (w:World):List Nat:=(List.range w.heap.size).filter fun k=>(w.heap[k]?).any isBook
theorem mem_books {w:World} {k:Nat}:k∈books w↔∃ o,w.heap[k]?=some o∧isBook o=true:=by
 unfold books
 rw[List.mem_filter,List.mem_range]
 constructor
 ·rintro⟨hk,h⟩
  rw[Array.getElem?_eq_getElem hk] at h ⊢
  exact⟨_,rfl,by simpa using h⟩
 ·rintro⟨o,ho,hb⟩
  exact⟨lt_of_block ho,by simp[ho,hb]⟩
theorem not_books {w:World} {k:Nat} {o:Obj} (h:w.heap[k]?=some o) (hb:isBook o=false):k∉books w:=fun hk=>by
 obtain⟨o',ho,h1⟩:=mem_books.1 hk
 rw[h] at ho;cases ho;rw[hb] at h1;cases h1
section
variable {B:Nat} {w w' w2:World}
theorem Bk.frm (h:Bk B w w'):Frm (books w) w w':=⟨h.os,h.tape,h.output,h.size,fun k hk hn=>by
 have ho:w.heap[k]?=some (w.heap[k]):=Array.getElem?_eq_getElem hk
 rw[ho]
 refine h.block k _ ho (.inr ?_)
 cases hb:isBook w.heap[k] with
 | false=>rfl
 | true=>exact absurd (mem_books.2 ⟨_,ho,hb⟩) hn⟩
theorem Bk.old {w0:World} (h:Bk B w w') (h0:Frm [] w0 w) (hB:w0.heap.size≤B):Frm [] w0 w':=
 ⟨h.os.trans h0.os,h.tape.trans h0.tape,h.output.trans h0.output,Nat.le_trans h0.size h.size,fun k hk _=>by
  have e:=h0.block k hk (by simp)
  have hk':w0.heap[k]?=some (w0.heap[k]):=Array.getElem?_eq_getElem hk
  rw[hk'] at e ⊢
  exact h.block k _ e (.inl (by omega))⟩
theorem Bk.at {k:Nat} {o:Obj} (h:Bk B w w') (hk:w.heap[k]?=some o) (hb:isBook o=false):w'.heap[k]?=some o:=h.block k o hk (.inr hb)
theorem Frm.bk (h:Frm [] w w') (B:Nat):Bk B w w':=⟨h.os,h.tape,h.output,h.size,fun _ _ hk _=>h.at hk (by simp)⟩
theorem Bk.putObj (w:World) {l:Nat} {o:Obj} (o':Obj) (hl:w.heap[l]?=some o) (ho:isBook o=true) (hB:B≤l):Bk B w (w.putObj l o'):=
 ⟨rfl,rfl,rfl,by simp[World.putObj],fun k o1 hk h1=>by
  have hne:k≠l:=by
   rintro rfl
   rw[hl] at hk;cases hk
   rcases h1 with h1 | h1
   ·omega
   ·rw[ho] at h1;cases h1
  rw[World.putObj_heap_other hne];exact hk⟩
def KB (w w':World):Prop:=∀ (k:Nat) (o:Obj),w.heap[k]?=some o→isBook o=true→w'.heap[k]?=some o
theorem KB.refl (w:World):KB w w:=fun _ _ h _=>h
theorem KB.trans (h:KB w w') (k:KB w' w2):KB w w2:=fun i o hi ho=>k i o (h i o hi ho) ho
theorem KB.frm {F:List Nat} (h:Frm F w w') (hF:∀ x∈F,x∉books w):KB w w':=fun k o hk ho=>h.at hk (fun hx=>hF k hx (mem_books.2 ⟨o,hk,ho⟩))
theorem KB.frm0 (h:Frm [] w w'):KB w w':=KB.frm h (by simp)
end
def Iter {α:Type} (F:Fence) (n:Nat) (P:Program) (g:Nat) (lb:Array Value) (encs:α→Array Value) (R:World→Prop) (xs:List α):Prop:=
 ∀ (l:Nat) (J Jx:List α→World→Prop),
   (∀ pre W W',J pre W→Frm [] W W'→J pre W')→(∀ pre W W',Jx pre W→Frm [] W W'→Jx pre W')→(∀ pre W,J pre W→R W) →
   (∀ pre x rest W,xs=pre ++ x :: rest→J pre W→YieldAt F (n - 1) P l (encs x) W fun e W' =>
    (e=.returned (.bool true)∧J (pre ++ [x]) W')∨(e=.returned (.bool false)∧Jx (pre ++ [x]) W')) →
   ∀ W,J [] W→CallsIn F n P g (#[.func (.yield l) #[] #[]] ++ lb) W fun e W'=>(∃ v,e=.returned v)∧(J xs W'∨∃ pre x rest,xs=pre ++ x :: rest∧Jx (pre ++ [x]) W')
def roundEnd {α:Type} (I:List α→World→Prop) (Ix:Code→List α→World→Prop) (s:List α) (W:World):Exit→Act→World→Prop
 | .normal,_,W'=>KB W W'∧I s W'
 | .ret,_,W'=>KB W W'∧Ix .ret s W'
 | .exit id,_,W'=>KB W W'∧Ix (.exit id) s W'
 | .goto t,_,W'=>KB W W'∧Ix (.goto t) s W'
 | .panic _,_,_=>False
 | .outgrown,_,_=>False
variable {F:Fence} {n:Nat} {P:Program}
theorem wpIn_rangeList {α:Type} {g:Operand} {ps:Array Tmp} {assign body:Code} {Q:Exit→Act→World→Prop} {a:Act} {w:World}
  (hro:F.round=none) (h1:1≤n) {gf:Nat} {lb:Array Value} (hg:a.eval g=.func (.func gf) #[] lb) (hFg:F.fn gf) (eg:∀ args w,(callFunc gf args).run P w=.ok (.enter gf args) w)
  {encs:α→Array Value} {R:World→Prop} {xs:List α} (hit:Iter F (n - 1) P gf lb encs R xs) (hps:∀ x,(encs x).size=ps.size)
  (I:List α→World→Prop) (Ix:Code→List α→World→Prop) (sI:∀ s W W',I s W→Bk w.heap.size W W'→I s W') (sIx:∀ c s W W',Ix c s W→Bk w.heap.size W W'→Ix c s W')
  (hR:∀ s W,I s W→R W) (h0:I [] w)
  (hround:∀ (l:Nat) (pre:List α) (x:α) (rest:List α) (W:World),xs=pre ++ x :: rest→I pre W→w.heap.size≤l→(∃ r,W.heap[l]?=some (.loop r)) →
   assign.wpIn (F.inRound l) (n - 1 - 1) P (Exit.then (fun a' W'=>KB W W'∧∀ W2,Bk w.heap.size W' W2→(∃ r,W2.heap[l]?=some (.loop r))→body.wpIn (F.inRound l) (n - 1 - 1) P (roundEnd I Ix (pre ++ [x]) W2) a' W2) (fun _ _ _=>False))
    { tmps:=(ps.zip (encs x)).foldl (fun t (p,v)=>t.setIfInBounds p v) a.tmps,defers:=[] } W)
  (hdone:∀ (D:Nat) (W:World),w.heap.size≤D→I xs W→W.heap[D]?=some (.deferred (some []))→Q .normal { a with defers:={ target:=.collected D,args:=#[] } :: a.defers } W)
  (hstop:∀ (D:Nat) (c:Code) (pre:List α) (x:α) (rest:List α) (W:World),xs=pre ++ x :: rest→w.heap.size≤D→Ix c (pre ++ [x]) W→W.heap[D]?=some (.deferred (some []))→c.wpIn F n P Q { a with defers:={ target:=.collected D,args:=#[] } :: a.defers } W) :
  (Code.rangeFunc g ps assign body).wpIn F n P Q a w:=by
 refine wpIn_rangeFunc ?_
 intro fn hfn
 rw[hro]
 obtain⟨rec,hrec⟩:∃ rec:LoopState→Option Code→Loop,rec=fun st pe=>{ state:=st,pending:=pe,fn,tmps:=a.tmps,params:=ps,assign,body,defers:=w.heap.size }:=⟨_,rfl⟩
 obtain⟨W1,hW1⟩:∃ W1,(w.alloc (.deferred (some []))).alloc (.loop (rec .ready none))=W1:=⟨_,rfl⟩
 have hL1:W1.heap[w.heap.size + 1]?=some (.loop (rec .ready none)):=by
  rw[← hW1];have:=World.alloc_heap_new (w.alloc (.deferred (some []))) (.loop (rec .ready none));rwa [World.size_alloc] at this
 have hK1:W1.heap[w.heap.size]?=some (.deferred (some [])):=by
  rw[← hW1];exact(Below.heap_alloc _ _ _ (by simp)).trans (World.alloc_heap_new w _)
 have hF1:Frm [] w W1:=by rw[← hW1];exact((Frm.refl _ _).alloc _).alloc _
 have hI1:I [] W1:=sI _ _ _ h0 (hF1.bk _)
 refine⟨w.heap.size + 1,[{ target:=.collected w.heap.size,args:=#[] }],W1,{ target:=.fn (.func gf) lb,args:=#[.func (.yield (w.heap.size + 1)) #[] #[]] },W1,gf,
  #[.func (.yield (w.heap.size + 1)) #[] #[]] ++ lb,W1,?_,?_,?_,?_,fun _=>h1,?_⟩
 ·rw[← hW1,hrec];exact run_enterLoop_outer _ _ _ _ _
 ·simp only[resolve,hg]
  simp[go_sem]
 ·intro f' hf';simp[Target.leads] at hf';subst hf';exact hFg
 ·simp[invoke,go_sem,eg]
 ·refine(hit (w.heap.size + 1)
   (fun pre W=>I pre W∧W.heap[w.heap.size + 1]?=some (.loop (rec .ready none))∧W.heap[w.heap.size]?=some (.deferred (some [])))
   (fun pre W=>∃ c,Ix c pre W∧W.heap[w.heap.size + 1]?=some (.loop (rec .done (some c)))∧W.heap[w.heap.size]?=some (.deferred (some [])))
   (fun pre W W' hJ hf=>⟨sI _ _ _ hJ.1 (hf.bk _),hf.at hJ.2.1 (by simp),hf.at hJ.2.2 (by simp)⟩)
   (fun pre W W' ⟨c,hJ⟩ hf=>⟨c,sIx _ _ _ _ hJ.1 (hf.bk _),hf.at hJ.2.1 (by simp),hf.at hJ.2.2 (by simp)⟩)
   (fun pre W hJ=>hR _ _ hJ.1) ?_ W1 ⟨hI1,hL1,hK1⟩).mono ?_
  ·rintro pre x rest W hxs ⟨hi,hl,hk⟩
   have hy:=run_yield (P:=P) (args:=encs x) hl (by rw[hrec];exact hps x)
   rw[hrec] at hy
   refine⟨fn,_,assign,body,hy,roundIn_of_wpIn hfn (wpIn_mono (hround (w.heap.size + 1) pre x rest W hxs hi (by omega) ⟨_,hl⟩) ?_)⟩
   intro e a' W' hp
   cases e with
   | normal =>
     obtain⟨hkb,hb⟩:=hp
     have hl':=hkb _ _ hl rfl
     have hk':=hkb _ _ hk rfl
     have hlt:w.heap.size + 1 < W'.heap.size:=lt_of_block hl'
     refine⟨_,run_beginRound hl' (by rw[hrec]),?_⟩
     have hl2:(W'.putObj (w.heap.size + 1) (.loop { rec .ready none with state:=.busy })).heap[w.heap.size + 1]?=some (.loop { rec .ready none with state:=.busy }):=World.putObj_heap_same hlt
     have hk2:(W'.putObj (w.heap.size + 1) (.loop { rec .ready none with state:=.busy })).heap[w.heap.size]?=some (.deferred (some [])):=(World.putObj_heap_other (by omega)).trans hk'
     refine wpIn_mono (hb _ (Bk.putObj W' _ hl' rfl (by omega)) ⟨_,hl2⟩) ?_
     have fin:∀ (jump:Option Code) (W3:World),KB (W'.putObj (w.heap.size + 1) (.loop { rec .ready none with state:=.busy })) W3 →
       (Instr.endRound (w.heap.size + 1) jump).run P W3=.ok (.bool jump.isNone) (W3.putObj (w.heap.size + 1) (.loop (rec (if jump.isNone then .ready else .done) jump))) ∧
       Bk w.heap.size W3 (W3.putObj (w.heap.size + 1) (.loop (rec (if jump.isNone then .ready else .done) jump))) ∧
       (W3.putObj (w.heap.size + 1) (.loop (rec (if jump.isNone then .ready else .done) jump))).heap[w.heap.size + 1]?=some (.loop (rec (if jump.isNone then .ready else .done) jump)) ∧
       (W3.putObj (w.heap.size + 1) (.loop (rec (if jump.isNone then .ready else .done) jump))).heap[w.heap.size]?=some (.deferred (some [])):=fun jump W3 hk3=>by
      have hl3:=hk3 _ _ hl2 rfl
      have:=run_endRound (P:=P) jump hl3
      rw[hrec] at this ⊢
      exact⟨this,Bk.putObj W3 _ hl3 rfl (by omega),World.putObj_heap_same (lt_of_block hl3),(World.putObj_heap_other (by omega)).trans (hk3 _ _ hk2 rfl)⟩
     rintro e a3 W3 hp
     cases e with
     | normal =>
       obtain⟨hk3,hi3⟩:=hp
       obtain⟨hr,hb3,hl4,hk4⟩:=fin none W3 hk3
       exact⟨_,_,hr,.inl ⟨rfl,sI _ _ _ hi3 hb3,hl4,hk4⟩⟩
     | ret =>
       obtain⟨hk3,hi3⟩:=hp
       obtain⟨hr,hb3,hl4,hk4⟩:=fin (some .ret) W3 hk3
       exact⟨_,_,hr,.inr ⟨rfl,.ret,sIx _ _ _ _ hi3 hb3,hl4,hk4⟩⟩
     | exit id =>
       obtain⟨hk3,hi3⟩:=hp
       obtain⟨hr,hb3,hl4,hk4⟩:=fin (some (.exit id)) W3 hk3
       exact⟨_,_,hr,.inr ⟨rfl,.exit id,sIx _ _ _ _ hi3 hb3,hl4,hk4⟩⟩
     | goto t =>
       obtain⟨hk3,hi3⟩:=hp
       obtain⟨hr,hb3,hl4,hk4⟩:=fin (some (.goto t)) W3 hk3
       exact⟨_,_,hr,.inr ⟨rfl,.goto t,sIx _ _ _ _ hi3 hb3,hl4,hk4⟩⟩
     | panic ch=>exact hp.elim
     | outgrown=>exact hp.elim
   | ret=>exact hp.elim
   | exit id=>exact hp.elim
   | goto t=>exact hp.elim
   | panic ch=>exact hp.elim
   | outgrown=>exact hp.elim
  ·rintro e W2 ⟨⟨v,rfl⟩,(⟨hi,hl,hk⟩ | ⟨pre,x,rest,hxs,c,hi,hl,hk⟩)⟩
   ·exact⟨none,_,by have:=run_endLoop (P:=P) hl (by rw[hrec];simp);rw[hrec] at this;exact this,hdone _ _ (Nat.le_refl _) (sI _ _ _ hi (by rw[hrec] at hl;exact Bk.putObj W2 _ hl rfl (by omega))) ((World.putObj_heap_other (by omega)).trans hk)⟩
   ·exact⟨some c,_,by have:=run_endLoop (P:=P) hl (by rw[hrec];simp);rw[hrec] at this;exact this,hstop _ c pre x rest _ hxs (Nat.le_refl _) (sIx _ _ _ _ hi (by rw[hrec] at hl;exact Bk.putObj W2 _ hl rfl (by omega))) ((World.putObj_heap_other (by omega)).trans hk)⟩
theorem wp_rangeList {α:Type} {g:Operand} {ps:Array Tmp} {assign body:Code} {Q:Exit→Act→World→Prop} {a:Act} {w:World}
  {gf:Nat} {lb:Array Value} (hg:a.eval g=.func (.func gf) #[] lb) (eg:∀ args w,(callFunc gf args).run P w=.ok (.enter gf args) w)
  {encs:α→Array Value} {R:World→Prop} {xs:List α} (hit:Iter Fence.wide 2 P gf lb encs R xs) (hps:∀ x,(encs x).size=ps.size)
  (I:List α→World→Prop) (Ix:Code→List α→World→Prop) (sI:∀ s W W',I s W→Bk w.heap.size W W'→I s W') (sIx:∀ c s W W',Ix c s W→Bk w.heap.size W W'→Ix c s W')
  (hR:∀ s W,I s W→R W) (h0:I [] w)
  (hround:∀ (l:Nat) (pre:List α) (x:α) (rest:List α) (W:World),xs=pre ++ x :: rest→I pre W→w.heap.size≤l→(∃ r,W.heap[l]?=some (.loop r)) →
   assign.wpIn (Fence.wide.inRound l) 1 P (Exit.then (fun a' W'=>KB W W'∧∀ W2,Bk w.heap.size W' W2→(∃ r,W2.heap[l]?=some (.loop r))→body.wpIn (Fence.wide.inRound l) 1 P (roundEnd I Ix (pre ++ [x]) W2) a' W2) (fun _ _ _=>False))
    { tmps:=(ps.zip (encs x)).foldl (fun t (p,v)=>t.setIfInBounds p v) a.tmps,defers:=[] } W)
  (hdone:∀ (D:Nat) (W:World),w.heap.size≤D→I xs W→W.heap[D]?=some (.deferred (some []))→Q .normal { a with defers:={ target:=.collected D,args:=#[] } :: a.defers } W)
  (hstop:∀ (D:Nat) (c:Code) (pre:List α) (x:α) (rest:List α) (W:World),xs=pre ++ x :: rest→w.heap.size≤D→Ix c (pre ++ [x]) W→W.heap[D]?=some (.deferred (some []))→c.wp P Q { a with defers:={ target:=.collected D,args:=#[] } :: a.defers } W) :
  (Code.rangeFunc g ps assign body).wp P Q a w:=
 wpIn_wide.1 (wpIn_rangeList (F:=Fence.wide) (n:=3) rfl (by omega) hg trivial eg hit hps I Ix sI sIx hR h0 hround hdone (fun D c pre x rest W h1 h2 h3 h4=>wpIn_wide.2 (hstop D c pre x rest W h1 h2 h3 h4)))
theorem calls_of_marks {f:FuncId} {fn:Func} {c:Code} {args:Array Value} {w:World} {R:Ending→World→Prop} (hf:P.funcs[f]?=some fn) (hb:fn.body=some c)
  (h:c.wp P (bodyPostM Fence.wide 3 P fn R) { tmps:=args ++ Array.replicate (fn.ntmps - args.size) undef,defers:=[] } w):Calls P f args w R:=
 callsIn_wide.1 (callsIn_of_wp_marks hf hb trivial (wpIn_wide.2 h) rfl)
theorem Frm.putObj (w:World) (l:Nat) (o:Obj):Frm [l] w (w.putObj l o):=
 ⟨rfl,rfl,rfl,by simp[World.putObj],fun k _ hn=>World.putObj_heap_other (by simpa using hn)⟩
theorem leaves_mark {fn:Func} {tmps:Array Value} {R:Ending→World→Prop} {D:Nat} {w:World} (hK:w.heap[D]?=some (.deferred (some [])))
  (h:∃ v,(results fn tmps).run P (w.putObj D (.deferred none))=.ok v (w.putObj D (.deferred none))∧R (.returned v) (w.putObj D (.deferred none))) :
  LeavesInM Fence.wide 3 P fn tmps R [{ target:=.collected D,args:=#[] }] .returning w:=
 ⟨by simp,.inl ⟨_,_,rfl,run_takeDeferred hK,h⟩⟩
theorem run_equalIn_func (w:World) (d:Nat) (t:TypeId) (ps rs:Array TypeId) (v:Bool) (f:Nat) (lb:Array Value) (hu:P.underlying t=some (.func ps rs v)) :
  (Op.equalIn (d + 1) t (.func (.func f) #[] lb) .nilFunc).run P w=.ok false w:=by
 simp[Op.equalIn,run_underlying hu]
theorem run_eql_func (w:World) (t:TypeId) (ps rs:Array TypeId) (v:Bool) (f:Nat) (lb:Array Value) (hu:P.underlying t=some (.func ps rs v)) :
  (binOp .eql t (.func (.func f) #[] lb) .nilFunc).run P w=.ok (.bool false) w:=by
 simp only[binOp]
 simp[show Op.equal t (.func (.func f) #[] lb) .nilFunc=Op.equalIn (9999 + 1) t (.func (.func f) #[] lb) .nilFunc from rfl,run_equalIn_func w 9999 t ps rs v f lb hu]
end Go.Proofs.YtohfkhjlnlahdaaGreat
namespace Go.Proofs.YtohfkhjlnlahdaaGreat
open Go.RowKit Go.BigFrame
def marks (ds:List Nat):List Deferred:=ds.map fun D=>{ target:=.collected D,args:=#[] }
def unmark (ds:List Nat) (w:World):World:=ds.foldl (fun w D=>w.putObj D (.deferred none)) w
theorem unmark_frm:∀ (ds:List Nat) (w:World),Frm ds w (unmark ds w)
 | [],w=>Frm.refl _ _
 | D :: ds,w=>((Frm.putObj w D _).mono (by intro x hx;simp at hx;subst hx;exact .inl (by simp))).then (unmark_frm ds _) (fun x hx=>.inl (by simp[hx]))
theorem leaves_many {fn:Func} {tmps:Array Value} {R:Ending→World→Prop}:∀ (ds:List Nat) (w:World),ds.Nodup→(∀ D∈ds,w.heap[D]?=some (.deferred (some []))) →
  (∃ v,(results fn tmps).run Tryz.prog (unmark ds w)=.ok v (unmark ds w)∧R (.returned v) (unmark ds w))→LeavesInM Fence.wide 3 Tryz.prog fn tmps R (marks ds) .returning w
 | [],w,_,_,h=>h
 | D :: ds,w,hn,hd,h=>by
   rw[List.nodup_cons] at hn
   refine⟨by simp,.inl ⟨D,_,rfl,run_takeDeferred (hd D (by simp)),leaves_many ds _ hn.2 (fun E hE=>?_) h⟩⟩
   have hne:E≠D:=fun e=>hn.1 (e ▸ hE)
   exact(World.putObj_heap_other hne).trans (hd E (by simp[hE]))
structure Ms (w:World) (ds:List Nat) (W:World):Prop where
 nd:ds.Nodup
 dl:∀ D∈ds,w.heap.size≤D∧W.heap[D]?=some (.deferred (some []))
theorem Ms.nil (w W:World):Ms w [] W:=⟨List.nodup_nil,fun D h=>by simp at h⟩
structure Kt (T:List TypeId) (W W':World):Prop where
 os:W'.os=W.os
 tape:W'.tape=W.tape
 output:W'.output=W.output
 size:W.heap.size≤W'.heap.size
 at':∀ (k:Nat) (o:Obj),W.heap[k]?=some o→(∀ c t fr,o=.cells c t fr→t∉T)→W'.heap[k]?=some o
section
variable {T:List TypeId} {w V W W' W2:World} {ds:List Nat}
theorem Kt.refl (T:List TypeId) (W:World):Kt T W W:=⟨rfl,rfl,rfl,Nat.le_refl _,fun _ _ h _=>h⟩
theorem Kt.trans (h:Kt T W W') (k:Kt T W' W2):Kt T W W2:=
 ⟨k.os.trans h.os,k.tape.trans h.tape,k.output.trans h.output,Nat.le_trans h.size k.size,fun i o hi ho=>k.at' i o (h.at' i o hi ho) ho⟩
theorem Kt.frm (h:Frm [] W W'):Kt T W W':=⟨h.os,h.tape,h.output,h.size,fun _ _ hk _=>h.at hk (by simp)⟩
theorem Kt.cells (h:Kt T W W') {k:Nat} {c:Array Value} {t:TypeId} {fr:Nat × Nat} (hk:W.heap[k]?=some (.cells c t fr)) (ht:t∉T):W'.heap[k]?=some (.cells c t fr):=
 h.at' k _ hk (fun c' t' fr' e=>by cases e;exact ht)
theorem Kt.mark (h:Kt T W W') {D:Nat} {x:Option (List Deferred)} (hk:W.heap[D]?=some (.deferred x)):W'.heap[D]?=some (.deferred x):=h.at' D _ hk (fun _ _ _ e=>by cases e)
theorem Kt.kb (h:Kt T W W'):KB W W':=fun k o hk ho=>h.at' k o hk (fun c t fr e=>by subst e;cases ho)
theorem Kt.bk (h:Kt T V W) (hb:Bk V.heap.size W W'):Kt T V W':=
 ⟨hb.os.trans h.os,hb.tape.trans h.tape,hb.output.trans h.output,Nat.le_trans h.size hb.size,fun k o hk ho=>hb.block k o (h.at' k o hk ho) (.inl (lt_of_block hk))⟩
theorem Kt.row (h:Kt T W W') {base e size n:Nat} {v:Value} {xs:List Value} (ho:W.ownsRow base e size v n xs) (he:e∉T):W'.ownsRow base e size v n xs:=by
 obtain⟨h1,h2⟩:=ho
 refine⟨h1,?_⟩
 rcases h2 with h2 | ⟨g,cap,cur,hv,hg,hh,r⟩
 ·exact .inl h2
 ·exact .inr ⟨g,cap,cur,hv,hg,h.cells hh he,r⟩
theorem Kt.grown {row:Option Nat} (h:Kt T V W) (hg:W.grownBy W' row) (hr:∀ k,row=some k→∃ c t fr,W.heap[k]?=some (.cells c t fr)∧t∈T):Kt T V W':=
 h.trans ⟨hg.os,hg.tape,hg.output,hg.size,fun k o hk ho=>(hg.block k (lt_of_block hk) (fun e=>by
  obtain⟨c,t,fr,h1,h2⟩:=hr k e.symm
  rw[hk] at h1;cases h1
  exact ho _ _ _ rfl h2)).trans hk⟩
theorem Kt.set (h:Kt T V W) {b o:Nat} {c:Array Value} {t:TypeId} {fr:Nat × Nat} (hb:W.heap[b]?=some (.cells c t fr)) (ht:t∈T) (u:Value):Kt T V (W.setCell ⟨b,o,none⟩ u):=
 h.trans ⟨rfl,rfl,rfl,by simp[World.setCell],fun k x hk hx=>by
  have hne:k≠b:=fun e=>by subst e;rw[hb] at hk;cases hk;exact hx _ _ _ rfl ht
  exact(Below.heap_setCell _ _ _ _ hne).trans hk⟩
theorem Kt.alloc (h:Kt T V W) (o:Obj):Kt T V (W.alloc o):=h.trans (Kt.frm ((Frm.refl [] W).alloc o))
theorem Ms.kt (h:Ms w ds W) (hk:Kt T W W'):Ms w ds W':=⟨h.nd,fun D hD=>⟨(h.dl D hD).1,hk.mark (h.dl D hD).2⟩⟩
theorem Ms.frm (h:Ms w ds W) (hf:Frm [] W W'):Ms w ds W':=h.kt (T:=[]) (Kt.frm hf)
theorem Ms.more {D:Nat} (h:Ms w ds V) (hf:w.heap.size≤V.heap.size) (hk:Kt T V W) (hD:V.heap.size≤D) (hm:W.heap[D]?=some (.deferred (some []))):Ms w (D :: ds) W:=by
 have h1:=h.kt hk
 refine⟨List.nodup_cons.2 ⟨fun hx=>?_,h.nd⟩,fun E hE=>?_⟩
 ·have:=lt_of_block (h.dl D hx).2;omega
 ·rcases List.mem_cons.1 hE with rfl | hE
  ·exact⟨by omega,hm⟩
  ·exact h1.dl E hE
end
theorem new_row (W:World) (A:Array Value) (t:TypeId):∀ (j:Nat) u,A.toList[j]?=some u→(W.alloc (.cells A t)).cell? ((⟨W.heap.size,0,none⟩:Addr).add j)=some u:=fun j u hu=>by
 have e:(⟨W.heap.size,0,none⟩:Addr).add j=⟨W.heap.size,j,none⟩:=by simp[Addr.add];exact fun h=>h.symm
 rw[e,cell_of (heap_alloc_new W (.cells A t)),← Array.getElem?_toList]
 exact hu
structure BO (ty e k:Nat) (w:World) (ob n:Nat) (xs:List Value) (W:World):Prop where
 fr:Frm [] w W
 new:w.heap.size≤ob
 bx:∃ ao cap,W.heap[ob]?=some (.cells #[.slice ao n cap] ty (0,0))∧W.ownsRow w.heap.size e k (.slice ao n cap) n xs
section
variable {ty e k:Nat} {w V W W' w1:World} {ob n m:Nat} {xs news:List Value}
theorem BO.frm (h:BO ty e k w ob n xs W) (hf:Frm [] W W'):BO ty e k w ob n xs W':=by
 obtain⟨ao,cap,h1,h2⟩:=h.bx
 exact⟨h.fr.trans hf,h.new,ao,cap,hf.at h1 (by simp),hf.owns h2 (by simp)⟩
theorem BO.bk {B:Nat} (h:BO ty e k w ob n xs W) (hb:Bk B W W') (hB:w.heap.size≤B):BO ty e k w ob n xs W':=by
 obtain⟨ao,cap,h1,h2⟩:=h.bx
 refine⟨hb.old h.fr hB,h.new,ao,cap,hb.at h1 rfl,h2.1,?_⟩
 rcases h2.2 with h3 | ⟨g,cp,cur,hv,hg,hh,r⟩
 ·exact .inl h3
 ·exact .inr ⟨g,cp,cur,hv,hg,hb.at hh rfl,r⟩
theorem BO.facts {ao:Option Addr} {cap:Nat} {o:Obj} (h1:W.heap[ob]?=some (.cells #[.slice ao n cap] ty (0,0))) (h2:W.ownsRow w.heap.size e k (.slice ao n cap) n xs) (hne:ty≠e) (hg:(W.alloc o).grownBy w1 (Value.slice ao n cap).ownBlock) :
  w1.heap[ob]?=some (.cells #[.slice ao n cap] ty (0,0)):=
 grown_at hg (alloc_at h1) (fun e'=>by
  obtain⟨c,hc⟩:=ownBlock_type h2 e'
  rw[h1] at hc;cases hc;exact hne rfl)
theorem BO.step {ao:Option Addr} {cap:Nat} {o:Obj} {v':Value} (h:BO ty e k w ob n xs W) (h1:W.heap[ob]?=some (.cells #[.slice ao n cap] ty (0,0))) (h2:W.ownsRow w.heap.size e k (.slice ao n cap) n xs) (hne:ty≠e)
  (hg:(W.alloc o).grownBy w1 (Value.slice ao n cap).ownBlock) (ho:w1.ownsRow w.heap.size e k v' (n + m) (xs ++ news)) :
  BO ty e k w ob (n + m) (xs ++ news) (w1.setCell ⟨ob,0,none⟩ v')∧Kt [ty,e] W (w1.setCell ⟨ob,0,none⟩ v'):=by
 have hb:=BO.facts h1 h2 hne hg
 have hge:∀ q,(Value.slice ao n cap).ownBlock=some q→w.heap.size≤q:=fun q hq=>ownBlock_ge h2 hq
 have k1:Kt [ty,e] W w1:=((Kt.refl _ W).alloc o).grown hg (fun q hq=>by
  obtain⟨c,hc⟩:=ownBlock_type h2 hq
  exact⟨c,e,(0,0),alloc_at hc,by simp⟩)
 have f1:Frm [] w w1:=(h.fr.alloc o).grown hg (fun q hq=>.inr (hge q hq))
 obtain⟨ao',cp',rfl⟩:=own_shape ho
 refine⟨⟨f1.setCell _ (.inr h.new) _,h.new,ao',cp',(block_setCell hb 0 _).trans rfl,?_⟩,k1.set hb (by simp) _⟩
 refine ownsRow_setCell_other ho (fun e'=>?_) _
 obtain⟨c,hc⟩:=ownBlock_type ho e'
 rw[hb] at hc;cases hc;exact hne rfl
theorem BO.made (w:World) (ty e k:Nat) {W:World} {ob:Nat} (hf:Frm [] w W) (hn:w.heap.size≤ob) (h:W.heap[ob]?=some (.cells #[.slice none 0 0] ty (0,0))):BO ty e k w ob 0 [] W:=
 ⟨hf,hn,none,0,h,World.ownsRow_nil _ _ _ _⟩
end
end Go.Proofs.YtohfkhjlnlahdaaGreat
namespace Go.Proofs.YtohfkhjlnlahdaaGreat
open Go.RowKit Go.BigFrame
structure GO (ty e k:Nat) (w:World) (ob o:Nat) (A:Array Value) (n:Nat) (xs:List Value) (W:World):Prop where
 fr:Frm [] w W
 new:w.heap.size≤ob
 bx:∃ ao cap,W.heap[ob]?=some (.cells (A.setIfInBounds o (.slice ao n cap)) ty (0,0))∧W.ownsRow w.heap.size e k (.slice ao n cap) n xs
section
variable {ty e k:Nat} {w V W W' w0 w1:World} {ob o n m:Nat} {A:Array Value} {xs news:List Value}
theorem GO.frm (h:GO ty e k w ob o A n xs W) (hf:Frm [] W W'):GO ty e k w ob o A n xs W':=by
 obtain⟨ao,cap,h1,h2⟩:=h.bx
 exact⟨h.fr.trans hf,h.new,ao,cap,hf.at h1 (by simp),hf.owns h2 (by simp)⟩
theorem GO.facts {ao:Option Addr} {cap:Nat} {B:Array Value} (h1:W.heap[ob]?=some (.cells B ty (0,0))) (h2:W.ownsRow w.heap.size e k (.slice ao n cap) n xs) (hne:ty≠e) (hf:Frm [] W w0) (hg:w0.grownBy w1 (Value.slice ao n cap).ownBlock) :
  w1.heap[ob]?=some (.cells B ty (0,0)):=
 grown_at hg (hf.at h1 (by simp)) (fun e'=>by
  obtain⟨c,hc⟩:=ownBlock_type h2 e'
  rw[h1] at hc;cases hc;exact hne rfl)
theorem GO.step {ao:Option Addr} {cap:Nat} {v':Value} (h:GO ty e k w ob o A n xs W) (h1:W.heap[ob]?=some (.cells (A.setIfInBounds o (.slice ao n cap)) ty (0,0))) (h2:W.ownsRow w.heap.size e k (.slice ao n cap) n xs) (hne:ty≠e)
  (hf:Frm [] W w0) (hg:w0.grownBy w1 (Value.slice ao n cap).ownBlock) (ho:w1.ownsRow w.heap.size e k v' (n + m) (xs ++ news)) :
  GO ty e k w ob o A (n + m) (xs ++ news) (w1.setCell ⟨ob,o,none⟩ v')∧Kt [ty,e] W (w1.setCell ⟨ob,o,none⟩ v'):=by
 have hb:=GO.facts h1 h2 hne hf hg
 have hge:∀ q,(Value.slice ao n cap).ownBlock=some q→w.heap.size≤q:=fun q hq=>ownBlock_ge h2 hq
 have k1:Kt [ty,e] W w1:=(Kt.frm hf).grown hg (fun q hq=>by
  obtain⟨c,hc⟩:=ownBlock_type h2 hq
  exact⟨c,e,(0,0),hf.at hc (by simp),by simp⟩)
 have f1:Frm [] w w1:=(h.fr.trans hf).grown hg (fun q hq=>.inr (hge q hq))
 obtain⟨ao',cp',rfl⟩:=own_shape ho
 refine⟨⟨f1.setCell _ (.inr h.new) _,h.new,ao',cp',(block_setCell hb o _).trans (by rw[Array.setIfInBounds_setIfInBounds]),?_⟩,k1.set hb (by simp) _⟩
 refine ownsRow_setCell_other ho (fun e'=>?_) _
 obtain⟨c,hc⟩:=ownBlock_type ho e'
 rw[hb] at hc;cases hc;exact hne rfl
theorem GO.made {B:Array Value} (hf:Frm [] w W) (hn:w.heap.size≤ob) (h:W.heap[ob]?=some (.cells B ty (0,0))) (hB:B=A.setIfInBounds o (.slice none 0 0)):GO ty e k w ob o A 0 [] W:=
 ⟨hf,hn,none,0,by rw[h,hB],World.ownsRow_nil _ _ _ _⟩
theorem Kt.mono {T T':List TypeId} (h:Kt T W W') (hT:∀ t∈T,t∈T'):Kt T' W W':=⟨h.os,h.tape,h.output,h.size,fun k x hk ho=>h.at' k x hk fun c t fr e hm=>ho c t fr e (hT t hm)⟩
def cnC (l:List (CtrD × Int)):List Value:=l.flatMap fun c=>[.string c.1.name,.int .i64 c.1.lim,.int .i64 c.2]
theorem cnC_append (A B:List (CtrD × Int)):cnC (A ++ B)=cnC A ++ cnC B:=by unfold cnC;rw[List.flatMap_append]
theorem cnC_at:∀ {L:List (CtrD × Int)} {i:Nat} {c:CtrD × Int},L[i]?=some c→(cnC L)[i * 3]?=some (.string c.1.name)∧(cnC L)[i * 3 + 1]?=some (.int .i64 c.1.lim)∧(cnC L)[i * 3 + 2]?=some (.int .i64 c.2)
 | [],i,c,h=>by simp at h
 | a :: L,0,c,h=>by
   simp at h;subst h
   exact⟨rfl,rfl,rfl⟩
 | a :: L,i + 1,c,h=>by
   have h':L[i]?=some c:=by simpa using h
   obtain⟨h1,h2,h3⟩:=cnC_at h'
   have e:cnC (a :: L)=[.string a.1.name,.int .i64 a.1.lim,.int .i64 a.2] ++ cnC L:=rfl
   rw[e]
   refine⟨?_,?_,?_⟩
   ·rw[List.getElem?_append_right (by simp;omega),show (i + 1) * 3 - [Value.string a.1.name,.int .i64 a.1.lim,.int .i64 a.2].length=i * 3 by simp;omega];exact h1
   ·rw[List.getElem?_append_right (by simp;omega),show (i + 1) * 3 + 1 - [Value.string a.1.name,.int .i64 a.1.lim,.int .i64 a.2].length=i * 3 + 1 by simp;omega];exact h2
   ·rw[List.getElem?_append_right (by simp;omega),show (i + 1) * 3 + 2 - [Value.string a.1.name,.int .i64 a.1.lim,.int .i64 a.2].length=i * 3 + 2 by simp;omega];exact h3
theorem cn_arr {base:Nat} {v:Value} {L:List (CtrD × Int)} (h:W.ownsRow base 246 3 v L.length (cnC L)):Arr 3 CnAt W v L:=by
 rcases h.2 with ⟨rfl,hn⟩ | ⟨g,c,cur,rfl,-,hh,-,-,-,ht⟩
 ·obtain rfl:L=[]:=List.length_eq_zero_iff.1 hn
  exact Arr.nil _ _ _
 ·refine⟨_,_,rfl,fun i x hx=>⟨g,0,rfl,?_⟩⟩
  obtain⟨a0,a1,a2⟩:=cnC_at hx
  have hl:=lt_of_some hx
  have hc:∀ j,j < L.length * 3→W.cell? ⟨g,j,none⟩=(cnC L)[j]?:=fun j hj=>by
   rw[cell_of hh,← ht,List.getElem?_take_of_lt hj,Array.getElem?_toList]
  rw[Nat.zero_add]
  exact⟨(hc _ (by omega)).trans a0,(hc _ (by omega)).trans a1,(hc _ (by omega)).trans a2⟩
end
end Go.Proofs.YtohfkhjlnlahdaaGreat
namespace Go.Proofs.YtohfkhjlnlahdaaGreat
open Go.RowKit Go.BigFrame
def IAt (w:World) (b o:Nat) (x:Int):Prop:=w.cell? ⟨b,o,none⟩=some (.int .i64 x)
end Go.Proofs.YtohfkhjlnlahdaaGreat
namespace Go.Proofs.YtohfkhjlnlahdaaGreat
open Go.RowKit Go.BigFrame
def Ty (W:World) (g:Nat) (e:TypeId):Prop:=∃ cur,W.heap[g]?=some (.cells cur e (0,0))
theorem Ty.lt {W:World} {g:Nat} {e:TypeId} (h:Ty W g e):g < W.heap.size:=by obtain⟨_,h⟩:=h;exact lt_of_block h
theorem Ty.frm {F:List Nat} {W V:World} {g:Nat} {e:TypeId} (h:Ty W g e) (hf:Frm F W V) (hn:g∉F):Ty V g e:=by obtain⟨c,h⟩:=h;exact⟨c,hf.at h hn⟩
theorem Ty.set {W:World} {g b o:Nat} {e:TypeId} (h:Ty W g e) (u:Value):Ty (W.setCell ⟨b,o,none⟩ u) g e:=by
 obtain⟨c,h⟩:=h
 by_cases hp:b=g
 ·subst hp
  exact⟨_,block_setCell h o u⟩
 ·exact⟨c,setCell_at h (Ne.symm hp) u⟩
theorem Ty.ne {W:World} {g k:Nat} {e f:TypeId} (h:Ty W g e) (h':Ty W k f) (hn:e≠f):g≠k:=by
 rintro rfl
 obtain⟨c,h⟩:=h
 obtain⟨d,h'⟩:=h'
 rw[h] at h'
 cases h'
 exact hn rfl
theorem own_ty {W:World} {base e size n:Nat} {v:Value} {xs:List Value} (h:W.ownsRow base e size v n xs) {k:Nat} (hk:v.ownBlock=some k):Ty W k e:=ownBlock_type h hk
theorem cell_set_ne {W:World} {b o c d:Nat} {u:Value} (h:¬ (b=c∧o=d)):(W.setCell ⟨c,d,none⟩ u).cell? ⟨b,o,none⟩=W.cell? ⟨b,o,none⟩:=by
 by_cases hb:b=c
 ·subst hb
  have ho:o≠d:=fun e=>h ⟨rfl,e⟩
  simp only[World.cell?,World.setCell]
  by_cases hl:b < W.heap.size
  ·rw[Array.getElem?_eq_getElem (by simpa using hl),Array.getElem_modify_self,Array.getElem?_eq_getElem hl]
   cases W.heap[b] <;> simp[Array.getElem?_setIfInBounds,Ne.symm ho]
  ·rw[Array.getElem?_eq_none (by simpa using hl),Array.getElem?_eq_none (by omega)]
 ·exact World.cell?_of_block (w:=W) (Below.heap_setCell _ _ _ _ hb)
theorem cell_set_eq {W:World} {c d:Nat} {u v:Value} (h:W.cell? ⟨c,d,none⟩=some v):(W.setCell ⟨c,d,none⟩ u).cell? ⟨c,d,none⟩=some u:=by
 have hl:=cell_lt h
 simp only[World.cell?,Array.getElem?_eq_getElem hl] at h
 cases hh:W.heap[c] with
 | cells cur t fr =>
   rw[hh] at h
   have h2:W.heap[c]?=some (.cells cur t fr):=by rw[Array.getElem?_eq_getElem hl,hh]
   have hd:=(Array.getElem?_eq_some_iff.1 h).1
   rw[cell_of (block_setCell h2 d u) d,Array.getElem?_setIfInBounds,if_pos rfl,if_pos hd]
 | _=>rw[hh] at h;simp at h
def ctC1 (c:CtrD):List Value:=[.string c.name,.int .i64 c.lim]
def iv (x:Int):Value:=.int .i64 x
def DfV (W:World) (v:Value) (l:List CtrD):Prop:=W.ownsRow 0 244 2 v l.length (l.flatMap ctC1)
def VlV (W:World) (ba:Nat) (v:Value) (l:List Int):Prop:=W.ownsRow 0 3 1 v l.length (l.map iv)∧v.ownBlock≠some ba
theorem DfV.frm {F:List Nat} {W V:World} {v:Value} {l:List CtrD} (h:DfV W v l) (hf:Frm F W V) (hn:∀ k∈F,¬ Ty W k 244):DfV V v l:=hf.owns h fun _ hk hF=>hn _ hF (own_ty h hk)
theorem VlV.frm {F:List Nat} {W V:World} {ba:Nat} {v:Value} {l:List Int} (h:VlV W ba v l) (hf:Frm F W V) (hn:∀ k∈F,k=ba∨¬ Ty W k 3):VlV V ba v l:=
 ⟨hf.owns h.1 fun k hk hF=>(hn k hF).elim (fun e=>h.2 (by rw[hk,e])) (fun e=>e (own_ty h.1 hk)),h.2⟩
theorem Lf.ty {W:World} {lv:Value} {L:List ByteArray} (h:Lf W lv L) {k:Nat} (hk:lv.ownBlock=some k):Ty W k 9:=by
 rcases h with h | ⟨g,cur,rfl,hb,-⟩
 ·exact own_ty h hk
 ·cases hk;exact⟨_,hb⟩
structure RO (W:World) (s:SesD) (ba bb bw:Nat) (bi:Nat→Nat) (x:PS):Prop where
 ta:Ty W ba 3
 tb:Ty W bb 159
 tw:Ty W bw 162
 ti:∀ i,i < s.roles.length→Ty W (bi i) 164
 inj:∀ i j,i < s.roles.length→j < s.roles.length→bi i=bi j→i=j
 a:∀ i,i < s.roles.length→W.cell? ⟨ba,i,none⟩=some (.int .i64 (x.at i))
 b:∀ i,i < s.roles.length→∃ dv vv,W.cell? ⟨bb,i * 2,none⟩=some dv∧W.cell? ⟨bb,i * 2 + 1,none⟩=some vv∧DfV W dv (s.rol i).ctrs∧VlV W ba vv (x.bank i)
 w:∀ i,i < s.roles.length→∃ c,W.cell? ⟨bw,i,none⟩=some (.slice (some ⟨bi i,0,none⟩) s.roles.length c)
 r:∀ i k,i < s.roles.length→k < s.roles.length→∃ lv,W.cell? ⟨bi i,k * 3,none⟩=some (.int .i64 s.cls)∧W.cell? ⟨bi i,k * 3 + 1,none⟩=some (.int .i64 s.cap)∧W.cell? ⟨bi i,k * 3 + 2,none⟩=some lv∧Lf W lv (x.way i k)
section
variable {W V:World} {s:SesD} {ba bb bw:Nat} {bi:Nat→Nat} {x:PS}
theorem RO.frm (h:RO W s ba bb bw bi x) (hf:Frm [] W V):RO V s ba bb bw bi x:=by
 refine⟨h.ta.frm hf (by simp),h.tb.frm hf (by simp),h.tw.frm hf (by simp),fun i hi=>(h.ti i hi).frm hf (by simp),h.inj,fun i hi=>hf.keep (h.a i hi),fun i hi=>?_,fun i hi=>?_,fun i k hi hk=>?_⟩
 ·obtain⟨dv,vv,h1,h2,h3,h4⟩:=h.b i hi
  exact⟨dv,vv,hf.keep h1,hf.keep h2,h3.frm hf (by simp),h4.frm hf (by simp)⟩
 ·obtain⟨c,h1⟩:=h.w i hi
  exact⟨c,hf.keep h1⟩
 ·obtain⟨lv,h1,h2,h3,h4⟩:=h.r i k hi hk
  exact⟨lv,hf.keep h1,hf.keep h2,hf.keep h3,h4.frm hf (by simp)⟩
theorem setFrm (W:World) (b o:Nat) (u:Value):Frm [b] W (W.setCell ⟨b,o,none⟩ u):=(Frm.refl [b] W).setCell _ (.inl (by simp)) _
theorem RO.setAt (h:RO W s ba bb bw bi x) {i:Nat} (hi:i < s.roles.length) (p:Nat) (hl:x.pos.length=s.roles.length):RO (W.setCell ⟨ba,i,none⟩ (.int .i64 p)) s ba bb bw bi { x with pos:=x.pos.set i p }:=by
 have hf:=setFrm W ba i (.int .i64 p)
 have n1:=h.ta.ne h.tb (by decide)
 have n2:=h.ta.ne h.tw (by decide)
 have n3:∀ j,j < s.roles.length→ba≠bi j:=fun j hj=>h.ta.ne (h.ti j hj) (by decide)
 refine⟨h.ta.set _,h.tb.set _,h.tw.set _,fun i hi=>(h.ti i hi).set _,h.inj,fun j hj=>?_,fun j hj=>?_,fun j hj=>?_,fun j k hj hk=>?_⟩
 ·show _=some (Value.int .i64 (((x.pos.set i p).getD j 0:Nat):Int))
  rw[List.getD_eq_getElem?_getD,List.getElem?_set]
  by_cases e:i=j
  ·subst e
   rw[if_pos rfl,if_pos (by omega)]
   exact cell_set_eq (h.a i hj)
  ·rw[if_neg e,cell_set_ne (by rintro⟨-,rfl⟩;exact e rfl),h.a j hj]
   rfl
 ·obtain⟨dv,vv,h1,h2,h3,h4⟩:=h.b j hj
  exact⟨dv,vv,hf.cellAt h1 (by simp;exact n1.symm),hf.cellAt h2 (by simp;exact n1.symm),h3.frm hf (by intro k hk;simp at hk;subst hk;exact fun e=>absurd rfl (h.ta.ne e (by decide))),h4.frm hf (by intro k hk;simp at hk;exact .inl hk)⟩
 ·obtain⟨c,h1⟩:=h.w j hj
  exact⟨c,hf.cellAt h1 (by simp;exact n2.symm)⟩
 ·obtain⟨lv,h1,h2,h3,h4⟩:=h.r j k hj hk
  have n:=(n3 j hj).symm
  exact⟨lv,hf.cellAt h1 (by simpa using n),hf.cellAt h2 (by simpa using n),hf.cellAt h3 (by simpa using n),h4.frm hf (fun q hq hm=>by simp at hm;subst hm;exact absurd rfl (h.ta.ne (h4.ty hq) (by decide)))⟩
theorem RO.setBank (h:RO W s ba bb bw bi x) {i:Nat} (hi:i < s.roles.length) {dv vv:Value} {vs:List Int} (hd:DfV W dv (s.rol i).ctrs) (hv:VlV W ba vv vs) (hl:x.vals.length=s.roles.length) :
  RO ((W.setCell ⟨bb,i * 2,none⟩ dv).setCell ⟨bb,i * 2 + 1,none⟩ vv) s ba bb bw bi { x with vals:=x.vals.set i vs }:=by
 have hf:Frm [bb] W ((W.setCell ⟨bb,i * 2,none⟩ dv).setCell ⟨bb,i * 2 + 1,none⟩ vv):=(setFrm W bb (i * 2) dv).trans (setFrm _ bb (i * 2 + 1) vv)
 have n1:=h.ta.ne h.tb (by decide)
 have n2:=h.tb.ne h.tw (by decide)
 have n3:∀ j,j < s.roles.length→bb≠bi j:=fun j hj=>h.tb.ne (h.ti j hj) (by decide)
 have q1:∀ k∈[bb],¬ Ty W k 244:=by intro k hk;simp at hk;subst hk;exact fun e=>absurd rfl (h.tb.ne e (by decide))
 have q2:∀ k∈[bb],k=ba∨¬ Ty W k 3:=by intro k hk;simp at hk;subst hk;exact .inr fun e=>absurd rfl (h.tb.ne e (by decide))
 refine⟨(h.ta.set _).set _,(h.tb.set _).set _,(h.tw.set _).set _,fun i hi=>((h.ti i hi).set _).set _,h.inj,fun j hj=>hf.cellAt (h.a j hj) (by simpa using n1),fun j hj=>?_,fun j hj=>?_,fun j k hj hk=>?_⟩
 ·obtain⟨dv',vv',h1,h2,h3,h4⟩:=h.b j hj
  show ∃ dv'' vv'',_∧_∧_∧VlV _ ba vv'' ((x.vals.set i vs).getD j [])
  rw[List.getD_eq_getElem?_getD,List.getElem?_set]
  by_cases e:i=j
  ·subst e
   rw[if_pos rfl,if_pos (by omega)]
   refine⟨dv,vv,?_,?_,hd.frm hf q1,hv.frm hf q2⟩
   ·rw[cell_set_ne (by omega)];exact cell_set_eq h1
   ·exact cell_set_eq (v:=vv') (by rw[cell_set_ne (by omega)];exact h2)
  ·rw[if_neg e]
   refine⟨dv',vv',?_,?_,h3.frm hf q1,h4.frm hf q2⟩
   ·rw[cell_set_ne (by omega),cell_set_ne (by omega)];exact h1
   ·rw[cell_set_ne (by omega),cell_set_ne (by omega)];exact h2
 ·obtain⟨c,h1⟩:=h.w j hj
  exact⟨c,hf.cellAt h1 (by simpa using n2.symm)⟩
 ·obtain⟨lv,h1,h2,h3,h4⟩:=h.r j k hj hk
  have n:=(n3 j hj).symm
  exact⟨lv,hf.cellAt h1 (by simpa using n),hf.cellAt h2 (by simpa using n),hf.cellAt h3 (by simpa using n),h4.frm hf (fun q hq hm=>by simp at hm;subst hm;exact absurd rfl (h.tb.ne (h4.ty hq) (by decide)))⟩
theorem RO.setWay (h:RO W s ba bb bw bi x) {i m:Nat} (hi:i < s.roles.length) (hm:m < s.roles.length) {lv:Value} {L:List ByteArray} (hL:Lf W lv L) (hl:x.ways.length=s.roles.length) (hr:(x.ways.getD i []).length=s.roles.length) :
  RO (((W.setCell ⟨bi i,m * 3,none⟩ (.int .i64 s.cls)).setCell ⟨bi i,m * 3 + 1,none⟩ (.int .i64 s.cap)).setCell ⟨bi i,m * 3 + 2,none⟩ lv) s ba bb bw bi { x with ways:=setWay x.ways i m L }:=by
 have hf:Frm [bi i] W (((W.setCell ⟨bi i,m * 3,none⟩ (.int .i64 s.cls)).setCell ⟨bi i,m * 3 + 1,none⟩ (.int .i64 s.cap)).setCell ⟨bi i,m * 3 + 2,none⟩ lv):=((setFrm W _ _ _).trans (setFrm _ _ _ _)).trans (setFrm _ _ _ _)
 have ht:=h.ti i hi
 have n1:=h.ta.ne ht (by decide)
 have n2:=h.tb.ne ht (by decide)
 have n3:=h.tw.ne ht (by decide)
 have q1:∀ k∈[bi i],¬ Ty W k 244:=by intro k hk;simp at hk;subst hk;exact fun e=>absurd rfl (ht.ne e (by decide))
 have q2:∀ k∈[bi i],k=ba∨¬ Ty W k 3:=by intro k hk;simp at hk;subst hk;exact .inr fun e=>absurd rfl (ht.ne e (by decide))
 have q3:∀ {lv:Value} {L:List ByteArray},Lf W lv L→∀ q,lv.ownBlock=some q→q∉[bi i]:=fun h4 q hq hm=>by simp at hm;subst hm;exact absurd rfl (ht.ne (h4.ty hq) (by decide))
 refine⟨((h.ta.set _).set _).set _,((h.tb.set _).set _).set _,((h.tw.set _).set _).set _,fun i hi=>(((h.ti i hi).set _).set _).set _,h.inj,fun j hj=>hf.cellAt (h.a j hj) (by simpa using n1),fun j hj=>?_,fun j hj=>?_,fun j k hj hk=>?_⟩
 ·obtain⟨dv',vv',h1,h2,h3,h4⟩:=h.b j hj
  exact⟨dv',vv',hf.cellAt h1 (by simpa using n2),hf.cellAt h2 (by simpa using n2),h3.frm hf q1,h4.frm hf q2⟩
 ·obtain⟨c,h1⟩:=h.w j hj
  exact⟨c,hf.cellAt h1 (by simpa using n3)⟩
 ·obtain⟨lv',h1,h2,h3,h4⟩:=h.r j k hj hk
  show ∃ lv'',_∧_∧_∧Lf _ lv'' (wayOf (Go.Proofs.YtohfkhjlnlahdaaGreat.setWay x.ways i m L) j k)
  rw[wayOf_set (by omega) (by omega)]
  by_cases e:j=i∧k=m
  ·obtain⟨rfl,rfl⟩:=e
   rw[if_pos ⟨rfl,rfl⟩]
   refine⟨lv,?_,?_,?_,hL.frm hf (q3 hL)⟩
   ·rw[cell_set_ne (by omega),cell_set_ne (by omega)];exact cell_set_eq h1
   ·rw[cell_set_ne (by omega)];exact cell_set_eq (v:=.int .i64 s.cap) (by rw[cell_set_ne (by omega)];exact h2)
   ·exact cell_set_eq (v:=lv') (by rw[cell_set_ne (by omega),cell_set_ne (by omega)];exact h3)
  ·rw[if_neg e]
   have hne:∀ {o d:Nat},o / 3=k→d / 3=m→¬ (bi j=bi i∧o=d):=fun ho hd he=>e ⟨h.inj j i hj hi he.1,by rw[← ho,← hd,he.2]⟩
   refine⟨lv',?_,?_,?_,h4.frm hf (q3 h4)⟩
   ·rw[cell_set_ne (hne (by omega) (by omega)),cell_set_ne (hne (by omega) (by omega)),cell_set_ne (hne (by omega) (by omega))];exact h1
   ·rw[cell_set_ne (hne (by omega) (by omega)),cell_set_ne (hne (by omega) (by omega)),cell_set_ne (hne (by omega) (by omega))];exact h2
   ·rw[cell_set_ne (hne (by omega) (by omega)),cell_set_ne (hne (by omega) (by omega)),cell_set_ne (hne (by omega) (by omega))];exact h3
end
structure RSt (B:Nat) (W:World) (s:SesD) (v:Value) (x:PS):Prop where
 out:∃ ba bb bw bi ca cb cw,v=.agg #[.slice (some ⟨ba,0,none⟩) s.roles.length ca,.slice (some ⟨bb,0,none⟩) s.roles.length cb,.slice (some ⟨bw,0,none⟩) s.roles.length cw]∧RO W s ba bb bw bi x ∧
  B≤ba∧B≤bb∧B≤bw∧∀ i,i < s.roles.length→B≤bi i
 ok:PSok s x
theorem RSt.frm {B:Nat} {W V:World} {s:SesD} {v:Value} {x:PS} (h:RSt B W s v x) (hf:Frm [] W V):RSt B V s v x:=by
 obtain⟨ba,bb,bw,bi,ca,cb,cw,h1,h2,h3⟩:=h.out
 exact⟨⟨ba,bb,bw,bi,ca,cb,cw,h1,h2.frm hf,h3⟩,h.ok⟩
theorem RSt.low {B B':Nat} {W:World} {s:SesD} {v:Value} {x:PS} (h:RSt B W s v x) (hb:B'≤B):RSt B' W s v x:=by
 obtain⟨ba,bb,bw,bi,ca,cb,cw,h1,h2,h3,h4,h5,h6⟩:=h.out
 exact⟨⟨ba,bb,bw,bi,ca,cb,cw,h1,h2,by omega,by omega,by omega,fun i hi=>by have:=h6 i hi;omega⟩,h.ok⟩
end Go.Proofs.YtohfkhjlnlahdaaGreat
