/- Part of the proof. -/
import Derived.Test.YtohfkhjlnlahdaaGreatQ01
import Derived.RangeFuncNested
import Derived.RangeFuncLeaves
import Derived.RangeFuncCalls
import Derived.Shelf.SlGeneric
import Derived.Shelf.SlLaysN
import Derived.Shelf.SlLaysM
import Derived.Ground.SlgnProg
import Derived.Ground.SlgmProg
import Derived.Test.YtohfkhjlnlahdaaGreatQ08
import Derived.Shelf.SlicesG.Clone
import Derived.Shelf.SlicesG.Turned
import Derived.Shelf.SlicesG.Delete
import Derived.Sort.OwnSorted
import Derived.OrdersHeld
import Derived.OwnWalkIn
import Derived.Test.YtohfkhjlnlahdaaGreatQ12
import Derived.LoopTactic
import Derived.Lib.SliceRun
import Derived.RangeFuncBound
import Derived.TacticsInMore
import Derived.LoopNIn
import Derived.LoopIn
import Derived.Sort.CutIn
import Derived.OrdersIn
import Derived.WalkKit
import Derived.WalkSpells
import Derived.Deep.QuietTactic
import Derived.Deep.MidRow
import Derived.Deep.WholeRow
import Derived.Lib.SlicesS
import Derived.Test.YtohfkhjlnlahdaaGreatProg
import Derived.BigQuiet
import Derived.StillTail
import Derived.Laws.IdiomStrings
import Derived.Shelf.Bytes.SlSmallAll
import Derived.Deep.Upon
import Derived.ArgAppend
import Derived.Deep.AppendLies
import Derived.Maps.AppendAt
import Derived.Lib.Hide
import Derived.Deep.DeepMust
import Derived.WalkLawsBesides
import Derived.BigRegion
import Derived.Deep.RegionHeld3
import Derived.Deep.RegionLaw
import Derived.Deep.DeepCutAuto
import Derived.Test.YtohfkhjlnlahdaaGreatQ11
import Derived.Test.YtohfkhjlnlahdaaGreatQ23
set_option linter.all false
namespace Go.Proofs.YtohfkhjlnlahdaaGreat
open Go.RowKit
def eG:Obj→Bool | .loop _=>true | .deferred _=>true | _=>false
structure Bk (B:Nat) (w w':World):Prop where
 os:w'.os=w.os
 tape:w'.tape=w.tape
 output:w'.output=w.output
 size:w.heap.size≤w'.heap.size
 block:∀ k o,w.heap[k]?=some o→k<B∨eG o=false→w'.heap[k]?=some o
def books (w:World):List Nat:=(List.range w.heap.size).filter fun k=>(w.heap[k]?).any eG
theorem mem_books {w:World} {k:Nat}:k∈books w↔∃ o,w.heap[k]?=some o∧eG o=true:=by
 unfold books
 rw[List.mem_filter,List.mem_range]
 constructor
 ·rintro⟨A,a⟩
  rw[Array.getElem?_eq_getElem A] at a ⊢
  exact⟨_,rfl,by simpa using a⟩
 ·rintro⟨o,h,hb⟩
  exact⟨lt_of_block h,by simp[h,hb]⟩
theorem dQ {w:World} {k:Nat} {o:Obj} (A:w.heap[k]?=some o) (hb:eG o=false):k∉books w:=fun E=>by
 obtain⟨G,h,a⟩:=mem_books.1 E
 rw[A] at h;cases h;rw[hb] at a;cases a
section
variable {B:Nat} {w w' w2:World}
theorem Bk.frm (a:Bk B w w'):Frm (books w) w w':=⟨a.os,a.tape,a.output,a.size,fun k A E=>by
 have h:w.heap[k]?=some (w.heap[k]):=Array.getElem?_eq_getElem A
 rw[h]
 refine a.block k _ h (.inr ?_)
 cases hb:eG w.heap[k] with
 | false=>rfl
 | true=>exact absurd (mem_books.2 ⟨_,h,hb⟩) E⟩
theorem Bk.old {w0:World} (a:Bk B w w') (h:Frm [] w0 w) (G:w0.heap.size≤B):Frm [] w0 w':=
 ⟨a.os.trans h.os,a.tape.trans h.tape,a.output.trans h.output,Nat.le_trans h.size a.size,fun k A _=>by
  have e:=h.block k A (by simp)
  have E:w0.heap[k]?=some (w0.heap[k]):=Array.getElem?_eq_getElem A
  rw[E] at e ⊢
  exact a.block k _ e (.inl (by omega))⟩
theorem Bk.at {k:Nat} {o:Obj} (a:Bk B w w') (h:w.heap[k]?=some o) (hb:eG o=false):w'.heap[k]?=some o:=a.block k o h (.inr hb)
theorem Frm.bk (a:Frm [] w w') (B:Nat):Bk B w w':=⟨a.os,a.tape,a.output,a.size,fun _ _ h _=>a.at h (by simp)⟩
theorem Bk.putObj (w:World) {l:Nat} {o:Obj} (H:Obj) (A:w.heap[l]?=some o) (G:eG o=true) (I:B≤l):Bk B w (w.putObj l H):=
 ⟨rfl,rfl,rfl,by simp[World.putObj],fun k J h a=>by
  have E:k≠l:=by
   rintro rfl
   rw[A] at h;cases h
   rcases a with a | a
   ·omega
   ·rw[G] at a;cases a
  rw[World.putObj_heap_other E];exact h⟩
def KB (w w':World):Prop:=∀ (k:Nat) (o:Obj),w.heap[k]?=some o→eG o=true→w'.heap[k]?=some o
theorem KB.refl (w:World):KB w w:=fun _ _ a _=>a
theorem KB.trans (h:KB w w') (k:KB w' w2):KB w w2:=fun i o A a=>k i o (h i o A a) a
theorem KB.frm {F:List Nat} (h:Frm F w w') (A:∀ x∈F,x∉books w):KB w w':=fun k o a E=>h.at a (fun G=>A k G (mem_books.2 ⟨o,a,E⟩))
theorem KB.frm0 (a:Frm [] w w'):KB w w':=KB.frm a (by simp)
end
def Iter {α:Type} (F:Fence) (n:Nat) (P:Program) (g:Nat) (I:Array Value) (H:α→Array Value) (G:World→Prop) (E:List α):Prop:=
 ∀ (l:Nat) (J Jx:List α→World→Prop),
   (∀ a h A,J a h→Frm [] h A→J a A)→(∀ a h A,Jx a h→Frm [] h A→Jx a A)→(∀ a h,J a h→G h) →
   (∀ a x rest h,E=a++x :: rest→J a h→YieldAt F (n - 1) P l (H x) h fun e A =>
    (e=.returned (.bool true)∧J (a++[x]) A)∨(e=.returned (.bool false)∧Jx (a++[x]) A)) →
   ∀ h,J [] h→CallsIn F n P g (#[.func (.yield l) #[] #[]]++I) h fun e A=>(∃ v,e=.returned v)∧(J E A∨∃ a x rest,E=a++x :: rest∧Jx (a++[x]) A)
def jr {α:Type} (A:List α→World→Prop) (h:Code→List α→World→Prop) (s:List α) (a:World):Exit→Act→World→Prop
 | .normal,_,W'=>KB a W'∧A s W'
 | .ret,_,W'=>KB a W'∧h .ret s W'
 | .exit id,_,W'=>KB a W'∧h (.exit id) s W'
 | .goto t,_,W'=>KB a W'∧h (.goto t) s W'
 | .panic _,_,_=>False
 | .outgrown,_,_=>False
variable {F:Fence} {n:Nat} {P:Program}
theorem jK {α:Type} {g:Operand} {ps:Array Tmp} {assign body:Code} {Q:Exit→Act→World→Prop} {S:Act} {w:World}
  (aS:F.round=none) (aD:1≤n) {V:Nat} {al:Array Value} (aM:S.eval g=.func (.func V) #[] al) (aF:F.fn V) (aB:∀ args w,(callFunc V args).run P w=.ok (.enter V args) w)
  {ai:α→Array Value} {av:World→Prop} {an:List α} (aN:Iter F (n - 1) P V al ai av an) (aR:∀ x,(ai x).size=ps.size)
  (O:List α→World→Prop) (ae:Code→List α→World→Prop) (am:∀ s a A,O s a→Bk w.heap.size a A→O s A) (ah:∀ c s a A,ae c s a→Bk w.heap.size a A→ae c s A)
  (aJ:∀ s a,O s a→av a) (aC:O [] w)
  (aT:∀ (l:Nat) (h:List α) (x:α) (rest:List α) (a:World),an=h++x :: rest→O h a→w.heap.size≤l→(∃ r,a.heap[l]?=some (.loop r)) →
   assign.wpIn (F.inRound l) (n - 1 - 1) P (Exit.then (fun a' A=>KB a A∧∀ U,Bk w.heap.size A U→(∃ r,U.heap[l]?=some (.loop r))→body.wpIn (F.inRound l) (n - 1 - 1) P (jr O ae (h++[x]) U) a' U) (fun _ _ _=>False))
    { tmps:=(ps.zip (ai x)).foldl (fun t (p,v)=>t.setIfInBounds p v) S.tmps,defers:=[] } a)
  (aK:∀ (D:Nat) (a:World),w.heap.size≤D→O an a→a.heap[D]?=some (.deferred (some []))→Q .normal { S with defers:={ target:=.collected D,args:=#[] } :: S.defers } a)
  (aU:∀ (D:Nat) (c:Code) (h:List α) (x:α) (rest:List α) (a:World),an=h++x :: rest→w.heap.size≤D→ae c (h++[x]) a→a.heap[D]?=some (.deferred (some []))→c.wpIn F n P Q { S with defers:={ target:=.collected D,args:=#[] } :: S.defers } a) :
  (Code.rangeFunc g ps assign body).wpIn F n P Q S w:=by
 refine wpIn_rangeFunc ?_
 intro fn aL
 rw[aS]
 obtain⟨rec,J⟩:∃ rec:LoopState→Option Code→Loop,rec=fun aW aV=>{ state:=aW,pending:=aV,fn,tmps:=S.tmps,params:=ps,assign,body,defers:=w.heap.size }:=⟨_,rfl⟩
 obtain⟨K,ak⟩:∃ K,(w.alloc (.deferred (some []))).alloc (.loop (rec .ready none))=K:=⟨_,rfl⟩
 have aI:K.heap[w.heap.size+1]?=some (.loop (rec .ready none)):=by
  rw[← ak];have:=World.alloc_heap_new (w.alloc (.deferred (some []))) (.loop (rec .ready none));rwa [World.size_alloc] at this
 have aH:K.heap[w.heap.size]?=some (.deferred (some [])):=by
  rw[← ak];exact(Below.heap_alloc _ _ _ (by simp)).trans (World.alloc_heap_new w _)
 have aE:Frm [] w K:=by rw[← ak];exact((Frm.refl _ _).alloc _).alloc _
 have aG:O [] K:=am _ _ _ aC (aE.bk _)
 refine⟨w.heap.size+1,[{ target:=.collected w.heap.size,args:=#[] }],K,{ target:=.fn (.func V) al,args:=#[.func (.yield (w.heap.size+1)) #[] #[]] },K,V,
  #[.func (.yield (w.heap.size+1)) #[] #[]]++al,K,?_,?_,?_,?_,fun _=>aD,?_⟩
 ·rw[← ak,J];exact run_enterLoop_outer _ _ _ _ _
 ·simp only[resolve,aM]
  simp[go_sem]
 ·intro aY aw;simp[Target.leads] at aw;subst aw;exact aF
 ·simp[invoke,go_sem,aB]
 ·refine(aN (w.heap.size+1)
   (fun h a=>O h a∧a.heap[w.heap.size+1]?=some (.loop (rec .ready none))∧a.heap[w.heap.size]?=some (.deferred (some [])))
   (fun h a=>∃ c,ae c h a∧a.heap[w.heap.size+1]?=some (.loop (rec .done (some c)))∧a.heap[w.heap.size]?=some (.deferred (some [])))
   (fun h a A R X=>⟨am _ _ _ R.1 (X.bk _),X.at R.2.1 (by simp),X.at R.2.2 (by simp)⟩)
   (fun h a A ⟨c,R⟩ X=>⟨c,ah _ _ _ _ R.1 (X.bk _),X.at R.2.1 (by simp),X.at R.2.2 (by simp)⟩)
   (fun h a R=>aJ _ _ R.1) ?_ K ⟨aG,aI,aH⟩).mono ?_
  ·rintro h x rest a ar ⟨af,I,ag⟩
   have az:=run_yield (P:=P) (args:=ai x) I (by rw[J];exact aR x)
   rw[J] at az
   refine⟨fn,_,assign,body,az,roundIn_of_wpIn aL (wpIn_mono (aT (w.heap.size+1) h x rest a ar af (by omega) ⟨_,I⟩) ?_)⟩
   intro e a' A H
   cases e with
   | normal =>
     obtain⟨ax,hb⟩:=H
     have ap:=ax _ _ I rfl
     have aO:=ax _ _ ag rfl
     have aQ:w.heap.size+1<A.heap.size:=lt_of_block ap
     refine⟨_,run_beginRound ap (by rw[J]),?_⟩
     have ay:(A.putObj (w.heap.size+1) (.loop { rec .ready none with state:=.busy })).heap[w.heap.size+1]?=some (.loop { rec .ready none with state:=.busy }):=World.putObj_heap_same aQ
     have aP:(A.putObj (w.heap.size+1) (.loop { rec .ready none with state:=.busy })).heap[w.heap.size]?=some (.deferred (some [])):=(World.putObj_heap_other (by omega)).trans aO
     refine wpIn_mono (hb _ (Bk.putObj A _ ap rfl (by omega)) ⟨_,ay⟩) ?_
     have aj:∀ (G:Option Code) (E:World),KB (A.putObj (w.heap.size+1) (.loop { rec .ready none with state:=.busy })) E →
       (Instr.endRound (w.heap.size+1) G).run P E=.ok (.bool G.isNone) (E.putObj (w.heap.size+1) (.loop (rec (if G.isNone then .ready else .done) G))) ∧
       Bk w.heap.size E (E.putObj (w.heap.size+1) (.loop (rec (if G.isNone then .ready else .done) G))) ∧
       (E.putObj (w.heap.size+1) (.loop (rec (if G.isNone then .ready else .done) G))).heap[w.heap.size+1]?=some (.loop (rec (if G.isNone then .ready else .done) G)) ∧
       (E.putObj (w.heap.size+1) (.loop (rec (if G.isNone then .ready else .done) G))).heap[w.heap.size]?=some (.deferred (some [])):=fun G E N=>by
      have aq:=N _ _ ay rfl
      have:=run_endRound (P:=P) G aq
      rw[J] at this ⊢
      exact⟨this,Bk.putObj E _ aq rfl (by omega),World.putObj_heap_same (lt_of_block aq),(World.putObj_heap_other (by omega)).trans (N _ _ aP rfl)⟩
     rintro e aX E H
     cases e with
     | normal =>
       obtain⟨N,Y⟩:=H
       obtain⟨ad,W,ab,aa⟩:=aj none E N
       exact⟨_,_,ad,.inl ⟨rfl,am _ _ _ Y W,ab,aa⟩⟩
     | ret =>
       obtain⟨N,Y⟩:=H
       obtain⟨ad,W,ab,aa⟩:=aj (some .ret) E N
       exact⟨_,_,ad,.inr ⟨rfl,.ret,ah _ _ _ _ Y W,ab,aa⟩⟩
     | exit au =>
       obtain⟨N,Y⟩:=H
       obtain⟨ad,W,ab,aa⟩:=aj (some (.exit au)) E N
       exact⟨_,_,ad,.inr ⟨rfl,.exit au,ah _ _ _ _ Y W,ab,aa⟩⟩
     | goto t =>
       obtain⟨N,Y⟩:=H
       obtain⟨ad,W,ab,aa⟩:=aj (some (.goto t)) E N
       exact⟨_,_,ad,.inr ⟨rfl,.goto t,ah _ _ _ _ Y W,ab,aa⟩⟩
     | panic aA=>exact H.elim
     | outgrown=>exact H.elim
   | ret=>exact H.elim
   | exit au=>exact H.elim
   | goto t=>exact H.elim
   | panic aA=>exact H.elim
   | outgrown=>exact H.elim
  ·rintro e U ⟨⟨v,rfl⟩,(⟨af,I,ag⟩ | ⟨h,x,rest,ar,c,af,I,ag⟩)⟩
   ·exact⟨none,_,by have:=run_endLoop (P:=P) I (by rw[J];simp);rw[J] at this;exact this,aK _ _ (Nat.le_refl _) (am _ _ _ af (by rw[J] at I;exact Bk.putObj U _ I rfl (by omega))) ((World.putObj_heap_other (by omega)).trans ag)⟩
   ·exact⟨some c,_,by have:=run_endLoop (P:=P) I (by rw[J];simp);rw[J] at this;exact this,aU _ c h x rest _ ar (Nat.le_refl _) (ah _ _ _ _ af (by rw[J] at I;exact Bk.putObj U _ I rfl (by omega))) ((World.putObj_heap_other (by omega)).trans ag)⟩
theorem dE {α:Type} {g:Operand} {ps:Array Tmp} {assign body:Code} {Q:Exit→Act→World→Prop} {G:Act} {w:World}
  {J:Nat} {R:Array Value} (ab:G.eval g=.func (.func J) #[] R) (S:∀ args w,(callFunc J args).run P w=.ok (.enter J args) w)
  {N:α→Array Value} {O:World→Prop} {K:List α} (ad:Iter Fence.wide 2 P J R N O K) (ae:∀ x,(N x).size=ps.size)
  (h:List α→World→Prop) (H:Code→List α→World→Prop) (ag:∀ s a A,h s a→Bk w.heap.size a A→h s A) (ah:∀ c s a A,H c s a→Bk w.heap.size a A→H c s A)
  (aa:∀ s a,h s a→O a) (U:h [] w)
  (af:∀ (l:Nat) (E:List α) (x:α) (rest:List α) (a:World),K=E++x :: rest→h E a→w.heap.size≤l→(∃ r,a.heap[l]?=some (.loop r)) →
   assign.wpIn (Fence.wide.inRound l) 1 P (Exit.then (fun a' A=>KB a A∧∀ I,Bk w.heap.size A I→(∃ r,I.heap[l]?=some (.loop r))→body.wpIn (Fence.wide.inRound l) 1 P (jr h H (E++[x]) I) a' I) (fun _ _ _=>False))
    { tmps:=(ps.zip (N x)).foldl (fun t (p,v)=>t.setIfInBounds p v) G.tmps,defers:=[] } a)
  (hdone:∀ (D:Nat) (a:World),w.heap.size≤D→h K a→a.heap[D]?=some (.deferred (some []))→Q .normal { G with defers:={ target:=.collected D,args:=#[] } :: G.defers } a)
  (hstop:∀ (D:Nat) (c:Code) (E:List α) (x:α) (rest:List α) (a:World),K=E++x :: rest→w.heap.size≤D→H c (E++[x]) a→a.heap[D]?=some (.deferred (some []))→c.wp P Q { G with defers:={ target:=.collected D,args:=#[] } :: G.defers } a) :
  (Code.rangeFunc g ps assign body).wp P Q G w:=
 wpIn_wide.1 (jK (F:=Fence.wide) (n:=3) rfl (by omega) ab trivial S ad ae h H ag ah aa U af hdone (fun D c E x rest a V W X Y=>wpIn_wide.2 (hstop D c E x rest a V W X Y)))
theorem cf {f:FuncId} {fn:Func} {c:Code} {args:Array Value} {w:World} {a:Ending→World→Prop} (A:P.funcs[f]?=some fn) (hb:fn.body=some c)
  (h:c.wp P (bodyPostM Fence.wide 3 P fn a) { tmps:=args++Array.replicate (fn.ntmps - args.size) undef,defers:=[] } w):Calls P f args w a:=
 callsIn_wide.1 (callsIn_of_wp_marks A hb trivial (wpIn_wide.2 h) rfl)
theorem Frm.putObj (w:World) (l:Nat) (o:Obj):Frm [l] w (w.putObj l o):=
 ⟨rfl,rfl,rfl,by simp[World.putObj],fun k _ a=>World.putObj_heap_other (by simpa using a)⟩
theorem ee {fn:Func} {tmps:Array Value} {a:Ending→World→Prop} {D:Nat} {w:World} (A:w.heap[D]?=some (.deferred (some [])))
  (h:∃ v,(results fn tmps).run P (w.putObj D (.deferred none))=.ok v (w.putObj D (.deferred none))∧a (.returned v) (w.putObj D (.deferred none))) :
  LeavesInM Fence.wide 3 P fn tmps a [{ target:=.collected D,args:=#[] }] .returning w:=
 ⟨by simp,.inl ⟨_,_,rfl,run_takeDeferred A,h⟩⟩
theorem ip (w:World) (d:Nat) (t:TypeId) (ps rs:Array TypeId) (v:Bool) (f:Nat) (h:Array Value) (a:P.underlying t=some (.func ps rs v)) :
  (Op.equalIn (d+1) t (.func (.func f) #[] h) .nilFunc).run P w=.ok false w:=by
 simp[Op.equalIn,run_underlying a]
theorem lB (w:World) (t:TypeId) (ps rs:Array TypeId) (v:Bool) (f:Nat) (a:Array Value) (h:P.underlying t=some (.func ps rs v)) :
  (binOp .eql t (.func (.func f) #[] a) .nilFunc).run P w=.ok (.bool false) w:=by
 simp only[binOp]
 simp[show Op.equal t (.func (.func f) #[] a) .nilFunc=Op.equalIn (9999+1) t (.func (.func f) #[] a) .nilFunc from rfl,ip w 9999 t ps rs v f a h]
end Go.Proofs.YtohfkhjlnlahdaaGreat
namespace Go.Proofs.YtohfkhjlnlahdaaGreat
open Go.RowKit Go.BigFrame
def fK (ds:List Nat):List Deferred:=ds.map fun D=>{ target:=.collected D,args:=#[] }
def iY (ds:List Nat) (w:World):World:=ds.foldl (fun w D=>w.putObj D (.deferred none)) w
theorem eA:∀ (ds:List Nat) (w:World),Frm ds w (iY ds w)
 | [],w=>Frm.refl _ _
 | D :: ds,w=>((Frm.putObj w D _).mono (by intro x a;simp at a;subst a;exact .inl (by simp))).then (eA ds _) (fun x a=>.inl (by simp[a]))
theorem dY {fn:Func} {tmps:Array Value} {A:Ending→World→Prop}:∀ (ds:List Nat) (w:World),ds.Nodup→(∀ D∈ds,w.heap[D]?=some (.deferred (some []))) →
  (∃ v,(results fn tmps).run Tryz.prog (iY ds w)=.ok v (iY ds w)∧A (.returned v) (iY ds w))→LeavesInM Fence.wide 3 Tryz.prog fn tmps A (fK ds) .returning w
 | [],w,_,_,h=>h
 | D :: ds,w,hn,hd,h=>by
   rw[List.nodup_cons] at hn
   refine⟨by simp,.inl ⟨D,_,rfl,run_takeDeferred (hd D (by simp)),dY ds _ hn.2 (fun a E=>?_) h⟩⟩
   have G:a≠D:=fun e=>hn.1 (e ▸ E)
   exact(World.putObj_heap_other G).trans (hd a (by simp[E]))
structure Ms (w:World) (ds:List Nat) (W:World):Prop where
 nd:ds.Nodup
 dl:∀ D∈ds,w.heap.size≤D∧W.heap[D]?=some (.deferred (some []))
theorem Ms.nil (w W:World):Ms w [] W:=⟨List.nodup_nil,fun D a=>by simp at a⟩
structure Kt (T:List TypeId) (W W':World):Prop where
 os:W'.os=W.os
 tape:W'.tape=W.tape
 output:W'.output=W.output
 size:W.heap.size≤W'.heap.size
 at':∀ (k:Nat) (o:Obj),W.heap[k]?=some o→(∀ c t fr,o=.cells c t fr→t∉T)→W'.heap[k]?=some o
section
variable {T:List TypeId} {w V W W' W2:World} {ds:List Nat}
theorem Kt.refl (T:List TypeId) (W:World):Kt T W W:=⟨rfl,rfl,rfl,Nat.le_refl _,fun _ _ a _=>a⟩
theorem Kt.trans (a:Kt T W W') (k:Kt T W' W2):Kt T W W2:=
 ⟨k.os.trans a.os,k.tape.trans a.tape,k.output.trans a.output,Nat.le_trans a.size k.size,fun i o A h=>k.at' i o (a.at' i o A h) h⟩
theorem Kt.frm (a:Frm [] W W'):Kt T W W':=⟨a.os,a.tape,a.output,a.size,fun _ _ h _=>a.at h (by simp)⟩
theorem Kt.cells (h:Kt T W W') {k:Nat} {c:Array Value} {t:TypeId} {a:Nat × Nat} (A:W.heap[k]?=some (.cells c t a)) (E:t∉T):W'.heap[k]?=some (.cells c t a):=
 h.at' k _ A (fun G I H e=>by cases e;exact E)
theorem Kt.mark (a:Kt T W W') {D:Nat} {x:Option (List Deferred)} (h:W.heap[D]?=some (.deferred x)):W'.heap[D]?=some (.deferred x):=a.at' D _ h (fun _ _ _ e=>by cases e)
theorem Kt.kb (a:Kt T W W'):KB W W':=fun k o h A=>a.at' k o h (fun c t E e=>by subst e;cases A)
theorem Kt.bk (a:Kt T V W) (hb:Bk V.heap.size W W'):Kt T V W':=
 ⟨hb.os.trans a.os,hb.tape.trans a.tape,hb.output.trans a.output,Nat.le_trans a.size hb.size,fun k o h A=>hb.block k o (a.at' k o h A) (.inl (lt_of_block h))⟩
theorem Kt.row (A:Kt T W W') {base e h n:Nat} {v:Value} {xs:List Value} (J:W.ownsRow base e h v n xs) (G:e∉T):W'.ownsRow base e h v n xs:=by
 obtain⟨E,a⟩:=J
 refine⟨E,?_⟩
 rcases a with a | ⟨g,cap,cur,K,H,I,r⟩
 ·exact .inl a
 ·exact .inr ⟨g,cap,cur,K,H,A.cells I G,r⟩
theorem Kt.grown {G:Option Nat} (H:Kt T V W) (a:W.grownBy W' G) (K:∀ k,G=some k→∃ c t A,W.heap[k]?=some (.cells c t A)∧t∈T):Kt T V W':=
 H.trans ⟨a.os,a.tape,a.output,a.size,fun k o h J=>(a.block k (lt_of_block h) (fun e=>by
  obtain⟨c,t,A,E,I⟩:=K k e.symm
  rw[h] at E;cases E
  exact J _ _ _ rfl I)).trans h⟩
theorem Kt.set (A:Kt T V W) {b o:Nat} {c:Array Value} {t:TypeId} {h:Nat × Nat} (hb:W.heap[b]?=some (.cells c t h)) (G:t∈T) (u:Value):Kt T V (W.setCell ⟨b,o,none⟩ u):=
 A.trans ⟨rfl,rfl,rfl,by simp[World.setCell],fun k x a H=>by
  have E:k≠b:=fun e=>by subst e;rw[hb] at a;cases a;exact H _ _ _ rfl G
  exact(Below.heap_setCell _ _ _ _ E).trans a⟩
theorem Kt.alloc (a:Kt T V W) (o:Obj):Kt T V (W.alloc o):=a.trans (Kt.frm ((Frm.refl [] W).alloc o))
theorem Ms.kt (a:Ms w ds W) (A:Kt T W W'):Ms w ds W':=⟨a.nd,fun D h=>⟨(a.dl D h).1,A.mark (a.dl D h).2⟩⟩
theorem Ms.frm (a:Ms w ds W) (h:Frm [] W W'):Ms w ds W':=a.kt (T:=[]) (Kt.frm h)
theorem Ms.more {D:Nat} (a:Ms w ds V) (K:w.heap.size≤V.heap.size) (G:Kt T V W) (J:V.heap.size≤D) (H:W.heap[D]?=some (.deferred (some []))):Ms w (D :: ds) W:=by
 have E:=a.kt G
 refine⟨List.nodup_cons.2 ⟨fun I=>?_,a.nd⟩,fun A h=>?_⟩
 ·have:=lt_of_block (a.dl D I).2;omega
 ·rcases List.mem_cons.1 h with rfl | h
  ·exact⟨by omega,H⟩
  ·exact E.dl A h
end
theorem cA (W:World) (a:Array Value) (t:TypeId):∀ (j:Nat) u,a.toList[j]?=some u→(W.alloc (.cells a t)).cell? ((⟨W.heap.size,0,none⟩:Addr).add j)=some u:=fun j u A=>by
 have e:(⟨W.heap.size,0,none⟩:Addr).add j=⟨W.heap.size,j,none⟩:=by simp[Addr.add];exact fun h=>h.symm
 rw[e,ae (heap_alloc_new W (.cells a t)),← Array.getElem?_toList]
 exact A
structure BO (ty e k:Nat) (w:World) (ob n:Nat) (xs:List Value) (W:World):Prop where
 fr:Frm [] w W
 new:w.heap.size≤ob
 bx:∃ ao cap,W.heap[ob]?=some (.cells #[.slice ao n cap] ty (0,0))∧W.ownsRow w.heap.size e k (.slice ao n cap) n xs
section
variable {ty e k:Nat} {w V W W' w1:World} {ob n m:Nat} {xs news:List Value}
theorem BO.frm (a:BO ty e k w ob n xs W) (h:Frm [] W W'):BO ty e k w ob n xs W':=by
 obtain⟨ao,cap,A,E⟩:=a.bx
 exact⟨a.fr.trans h,a.new,ao,cap,h.at A (by simp),h.owns E (by simp)⟩
theorem BO.bk {B:Nat} (a:BO ty e k w ob n xs W) (hb:Bk B W W') (H:w.heap.size≤B):BO ty e k w ob n xs W':=by
 obtain⟨ao,cap,E,h⟩:=a.bx
 refine⟨hb.old a.fr H,a.new,ao,cap,hb.at E rfl,h.1,?_⟩
 rcases h.2 with G | ⟨g,A,cur,K,I,J,r⟩
 ·exact .inl G
 ·exact .inr ⟨g,A,cur,K,I,hb.at J rfl,r⟩
theorem BO.facts {ao:Option Addr} {cap:Nat} {o:Obj} (a:W.heap[ob]?=some (.cells #[.slice ao n cap] ty (0,0))) (E:W.ownsRow w.heap.size e k (.slice ao n cap) n xs) (H:ty≠e) (G:(W.alloc o).grownBy w1 (Value.slice ao n cap).ownBlock) :
  w1.heap[ob]?=some (.cells #[.slice ao n cap] ty (0,0)):=
 bJ G (ah a) (fun A=>by
  obtain⟨c,h⟩:=ak E A
  rw[a] at h;cases h;exact H rfl)
theorem BO.step {ao:Option Addr} {cap:Nat} {o:Obj} {v':Value} (A:BO ty e k w ob n xs W) (R:W.heap[ob]?=some (.cells #[.slice ao n cap] ty (0,0))) (E:W.ownsRow w.heap.size e k (.slice ao n cap) n xs) (I:ty≠e)
  (G:(W.alloc o).grownBy w1 (Value.slice ao n cap).ownBlock) (H:w1.ownsRow w.heap.size e k v' (n+m) (xs++news)) :
  BO ty e k w ob (n+m) (xs++news) (w1.setCell ⟨ob,0,none⟩ v')∧Kt [ty,e] W (w1.setCell ⟨ob,0,none⟩ v'):=by
 have hb:=BO.facts R E I G
 have S:∀ q,(Value.slice ao n cap).ownBlock=some q→w.heap.size≤q:=fun q a=>aF E a
 have U:Kt [ty,e] W w1:=((Kt.refl _ W).alloc o).grown G (fun q a=>by
  obtain⟨c,h⟩:=ak E a
  exact⟨c,e,(0,0),ah h,by simp⟩)
 have O:Frm [] w w1:=(A.fr.alloc o).grown G (fun q a=>.inr (S q a))
 obtain⟨J,K,rfl⟩:=an H
 refine⟨⟨O.setCell _ (.inr A.new) _,A.new,J,K,(ap hb 0 _).trans rfl,?_⟩,U.set hb (by simp) _⟩
 refine ownsRow_setCell_other H (fun N=>?_) _
 obtain⟨c,h⟩:=ak H N
 rw[hb] at h;cases h;exact I rfl
theorem BO.made (w:World) (ty e k:Nat) {W:World} {ob:Nat} (h:Frm [] w W) (A:w.heap.size≤ob) (a:W.heap[ob]?=some (.cells #[.slice none 0 0] ty (0,0))):BO ty e k w ob 0 [] W:=
 ⟨h,A,none,0,a,World.ownsRow_nil _ _ _ _⟩
end
end Go.Proofs.YtohfkhjlnlahdaaGreat
namespace Go.Proofs.YtohfkhjlnlahdaaGreat
open Go.RowKit Go.BigFrame
structure GO (ty e k:Nat) (w:World) (ob o:Nat) (A:Array Value) (n:Nat) (xs:List Value) (W:World):Prop where
 fr:Frm [] w W
 new:w.heap.size≤ob
 bx:∃ ao cap,W.heap[ob]?=some (.cells (A.setIfInBounds o (.slice ao n cap)) ty (0,0))∧W.ownsRow w.heap.size e k (.slice ao n cap) n xs
section
variable {ty e k:Nat} {w V W W' w0 w1:World} {ob o n m:Nat} {A:Array Value} {xs news:List Value}
theorem GO.frm (a:GO ty e k w ob o A n xs W) (h:Frm [] W W'):GO ty e k w ob o A n xs W':=by
 obtain⟨ao,cap,E,G⟩:=a.bx
 exact⟨a.fr.trans h,a.new,ao,cap,h.at E (by simp),h.owns G (by simp)⟩
theorem GO.facts {ao:Option Addr} {cap:Nat} {B:Array Value} (a:W.heap[ob]?=some (.cells B ty (0,0))) (G:W.ownsRow w.heap.size e k (.slice ao n cap) n xs) (J:ty≠e) (H:Frm [] W w0) (I:w0.grownBy w1 (Value.slice ao n cap).ownBlock) :
  w1.heap[ob]?=some (.cells B ty (0,0)):=
 bJ I (H.at a (by simp)) (fun E=>by
  obtain⟨c,h⟩:=ak G E
  rw[a] at h;cases h;exact J rfl)
theorem GO.step {ao:Option Addr} {cap:Nat} {v':Value} (G:GO ty e k w ob o A n xs W) (U:W.heap[ob]?=some (.cells (A.setIfInBounds o (.slice ao n cap)) ty (0,0))) (H:W.ownsRow w.heap.size e k (.slice ao n cap) n xs) (K:ty≠e)
  (E:Frm [] W w0) (I:w0.grownBy w1 (Value.slice ao n cap).ownBlock) (J:w1.ownsRow w.heap.size e k v' (n+m) (xs++news)) :
  GO ty e k w ob o A (n+m) (xs++news) (w1.setCell ⟨ob,o,none⟩ v')∧Kt [ty,e] W (w1.setCell ⟨ob,o,none⟩ v'):=by
 have hb:=GO.facts U H K E I
 have X:∀ q,(Value.slice ao n cap).ownBlock=some q→w.heap.size≤q:=fun q a=>aF H a
 have Y:Kt [ty,e] W w1:=(Kt.frm E).grown I (fun q a=>by
  obtain⟨c,h⟩:=ak H a
  exact⟨c,e,(0,0),E.at h (by simp),by simp⟩)
 have S:Frm [] w w1:=(G.fr.trans E).grown I (fun q a=>.inr (X q a))
 obtain⟨N,O,rfl⟩:=an J
 refine⟨⟨S.setCell _ (.inr G.new) _,G.new,N,O,(ap hb o _).trans (by rw[Array.setIfInBounds_setIfInBounds]),?_⟩,Y.set hb (by simp) _⟩
 refine ownsRow_setCell_other J (fun R=>?_) _
 obtain⟨c,h⟩:=ak J R
 rw[hb] at h;cases h;exact K rfl
theorem GO.made {B:Array Value} (E:Frm [] w W) (G:w.heap.size≤ob) (a:W.heap[ob]?=some (.cells B ty (0,0))) (h:B=A.setIfInBounds o (.slice none 0 0)):GO ty e k w ob o A 0 [] W:=
 ⟨E,G,none,0,by rw[a,h],World.ownsRow_nil _ _ _ _⟩
theorem Kt.mono {T h:List TypeId} (a:Kt T W W') (G:∀ t∈T,t∈h):Kt h W W':=⟨a.os,a.tape,a.output,a.size,fun k x H J=>a.at' k x H fun c t E e I=>J c t E e (G t I)⟩
def cnC (l:List (CtrD × Int)):List Value:=l.flatMap fun c=>[.string c.1.name,.int .i64 c.1.lim,.int .i64 c.2]
theorem oy (A B:List (CtrD × Int)):cnC (A++B)=cnC A++cnC B:=by unfold cnC;rw[List.flatMap_append]
theorem rV:∀ {L:List (CtrD × Int)} {i:Nat} {c:CtrD × Int},L[i]?=some c→(cnC L)[i*3]?=some (.string c.1.name)∧(cnC L)[i*3+1]?=some (.int .i64 c.1.lim)∧(cnC L)[i*3+2]?=some (.int .i64 c.2)
 | [],i,c,h=>by simp at h
 | a :: L,0,c,h=>by
   simp at h;subst h
   exact⟨rfl,rfl,rfl⟩
 | a :: L,i+1,c,h=>by
   have E:L[i]?=some c:=by simpa using h
   obtain⟨G,H,I⟩:=rV E
   have e:cnC (a :: L)=[.string a.1.name,.int .i64 a.1.lim,.int .i64 a.2]++cnC L:=rfl
   rw[e]
   refine⟨?_,?_,?_⟩
   ·rw[List.getElem?_append_right (by simp;omega),show (i+1)*3 - [Value.string a.1.name,.int .i64 a.1.lim,.int .i64 a.2].length=i*3 by simp;omega];exact G
   ·rw[List.getElem?_append_right (by simp;omega),show (i+1)*3+1 - [Value.string a.1.name,.int .i64 a.1.lim,.int .i64 a.2].length=i*3+1 by simp;omega];exact H
   ·rw[List.getElem?_append_right (by simp;omega),show (i+1)*3+2 - [Value.string a.1.name,.int .i64 a.1.lim,.int .i64 a.2].length=i*3+2 by simp;omega];exact I
theorem uo {base:Nat} {v:Value} {L:List (CtrD × Int)} (I:W.ownsRow base 246 3 v L.length (cnC L)):Arr 3 CnAt W v L:=by
 rcases I.2 with ⟨rfl,N⟩ | ⟨g,c,cur,rfl,-,J,-,-,-,O⟩
 ·obtain rfl:L=[]:=List.length_eq_zero_iff.1 N
  exact Arr.nil _ _ _
 ·refine⟨_,_,rfl,fun i x h=>⟨g,0,rfl,?_⟩⟩
  obtain⟨E,G,H⟩:=rV h
  have R:=ag h
  have a:∀ j,j<L.length*3→W.cell? ⟨g,j,none⟩=(cnC L)[j]?:=fun j K=>by
   rw[ae J,← O,List.getElem?_take_of_lt K,Array.getElem?_toList]
  rw[Nat.zero_add]
  exact⟨(a _ (by omega)).trans E,(a _ (by omega)).trans G,(a _ (by omega)).trans H⟩
end
end Go.Proofs.YtohfkhjlnlahdaaGreat
namespace Go.Proofs.YtohfkhjlnlahdaaGreat
open Go.RowKit Go.BigFrame
def IAt (w:World) (b o:Nat) (x:Int):Prop:=w.cell? ⟨b,o,none⟩=some (.int .i64 x)
end Go.Proofs.YtohfkhjlnlahdaaGreat
namespace Go.Proofs.YtohfkhjlnlahdaaGreat
open Go.RowKit Go.BigFrame
def Ty (W:World) (g:Nat) (e:TypeId):Prop:=∃ cur,W.heap[g]?=some (.cells cur e (0,0))
theorem Ty.lt {W:World} {g:Nat} {e:TypeId} (a:Ty W g e):g<W.heap.size:=by obtain⟨_,a⟩:=a;exact lt_of_block a
theorem Ty.frm {F:List Nat} {W V:World} {g:Nat} {e:TypeId} (a:Ty W g e) (h:Frm F W V) (A:g∉F):Ty V g e:=by obtain⟨c,a⟩:=a;exact⟨c,h.at a A⟩
theorem Ty.set {W:World} {g b o:Nat} {e:TypeId} (a:Ty W g e) (u:Value):Ty (W.setCell ⟨b,o,none⟩ u) g e:=by
 obtain⟨c,a⟩:=a
 by_cases hp:b=g
 ·subst hp
  exact⟨_,ap a o u⟩
 ·exact⟨c,bC a (Ne.symm hp) u⟩
theorem Ty.ne {W:World} {g k:Nat} {e f:TypeId} (h:Ty W g e) (a:Ty W k f) (A:e≠f):g≠k:=by
 rintro rfl
 obtain⟨c,h⟩:=h
 obtain⟨d,a⟩:=a
 rw[h] at a
 cases a
 exact A rfl
theorem je {W:World} {base e A n:Nat} {v:Value} {E:List Value} (a:W.ownsRow base e A v n E) {k:Nat} (h:v.ownBlock=some k):Ty W k e:=ak a h
theorem aO {W:World} {b o c d:Nat} {u:Value} (a:¬ (b=c∧o=d)):(W.setCell ⟨c,d,none⟩ u).cell? ⟨b,o,none⟩=W.cell? ⟨b,o,none⟩:=by
 by_cases hb:b=c
 ·subst hb
  have h:o≠d:=fun e=>a ⟨rfl,e⟩
  simp only[World.cell?,World.setCell]
  by_cases hl:b<W.heap.size
  ·rw[Array.getElem?_eq_getElem (by simpa using hl),Array.getElem_modify_self,Array.getElem?_eq_getElem hl]
   cases W.heap[b] <;> simp[Array.getElem?_setIfInBounds,Ne.symm h]
  ·rw[Array.getElem?_eq_none (by simpa using hl),Array.getElem?_eq_none (by omega)]
 ·exact World.cell?_of_block (w:=W) (Below.heap_setCell _ _ _ _ hb)
theorem dA {W:World} {c d:Nat} {u v:Value} (a:W.cell? ⟨c,d,none⟩=some v):(W.setCell ⟨c,d,none⟩ u).cell? ⟨c,d,none⟩=some u:=by
 have h:=aI a
 simp only[World.cell?,Array.getElem?_eq_getElem h] at a
 cases hh:W.heap[c] with
 | cells cur t A =>
   rw[hh] at a
   have E:W.heap[c]?=some (.cells cur t A):=by rw[Array.getElem?_eq_getElem h,hh]
   have G:=(Array.getElem?_eq_some_iff.1 a).1
   rw[ae (ap E d u) d,Array.getElem?_setIfInBounds,if_pos rfl,if_pos G]
 | _=>rw[hh] at a;simp at a
def kJ (c:CtrD):List Value:=[.string c.name,.int .i64 c.lim]
def iv (x:Int):Value:=.int .i64 x
def DfV (W:World) (v:Value) (l:List CtrD):Prop:=W.ownsRow 0 244 2 v l.length (l.flatMap kJ)
def VlV (W:World) (ba:Nat) (v:Value) (l:List Int):Prop:=W.ownsRow 0 3 1 v l.length (l.map iv)∧v.ownBlock≠some ba
theorem DfV.frm {F:List Nat} {W V:World} {v:Value} {l:List CtrD} (a:DfV W v l) (A:Frm F W V) (G:∀ k∈F,¬ Ty W k 244):DfV V v l:=A.owns a fun _ E h=>G _ h (je a E)
theorem VlV.frm {F:List Nat} {W V:World} {ba:Nat} {v:Value} {l:List Int} (a:VlV W ba v l) (E:Frm F W V) (G:∀ k∈F,k=ba∨¬ Ty W k 3):VlV V ba v l:=
 ⟨E.owns a.1 fun k h A=>(G k A).elim (fun e=>a.2 (by rw[h,e])) (fun e=>e (je a.1 h)),a.2⟩
theorem Lf.ty {W:World} {A:Value} {L:List ByteArray} (a:Lf W A L) {k:Nat} (h:A.ownBlock=some k):Ty W k 9:=by
 rcases a with a | ⟨g,cur,rfl,hb,-⟩
 ·exact je a h
 ·cases h;exact⟨_,hb⟩
structure RO (W:World) (s:SesD) (ba bb bw:Nat) (bi:Nat→Nat) (x:PS):Prop where
 ta:Ty W ba 3
 tb:Ty W bb 159
 tw:Ty W bw 162
 ti:∀ i,i<s.roles.length→Ty W (bi i) 164
 inj:∀ i j,i<s.roles.length→j<s.roles.length→bi i=bi j→i=j
 a:∀ i,i<s.roles.length→W.cell? ⟨ba,i,none⟩=some (.int .i64 (x.at i))
 b:∀ i,i<s.roles.length→∃ dv vv,W.cell? ⟨bb,i*2,none⟩=some dv∧W.cell? ⟨bb,i*2+1,none⟩=some vv∧DfV W dv (s.rol i).ctrs∧VlV W ba vv (x.bank i)
 w:∀ i,i<s.roles.length→∃ c,W.cell? ⟨bw,i,none⟩=some (.slice (some ⟨bi i,0,none⟩) s.roles.length c)
 r:∀ i k,i<s.roles.length→k<s.roles.length→∃ lv,W.cell? ⟨bi i,k*3,none⟩=some (.int .i64 s.cls)∧W.cell? ⟨bi i,k*3+1,none⟩=some (.int .i64 s.cap)∧W.cell? ⟨bi i,k*3+2,none⟩=some lv∧Lf W lv (x.way i k)
section
variable {W V:World} {s:SesD} {ba bb bw:Nat} {bi:Nat→Nat} {x:PS}
theorem RO.frm (h:RO W s ba bb bw bi x) (a:Frm [] W V):RO V s ba bb bw bi x:=by
 refine⟨h.ta.frm a (by simp),h.tb.frm a (by simp),h.tw.frm a (by simp),fun i A=>(h.ti i A).frm a (by simp),h.inj,fun i A=>a.keep (h.a i A),fun i A=>?_,fun i A=>?_,fun i k A K=>?_⟩
 ·obtain⟨J,O,E,G,H,I⟩:=h.b i A
  exact⟨J,O,a.keep E,a.keep G,H.frm a (by simp),I.frm a (by simp)⟩
 ·obtain⟨c,E⟩:=h.w i A
  exact⟨c,a.keep E⟩
 ·obtain⟨N,E,G,H,I⟩:=h.r i k A K
  exact⟨N,a.keep E,a.keep G,a.keep H,I.frm a (by simp)⟩
theorem bG (W:World) (b o:Nat) (u:Value):Frm [b] W (W.setCell ⟨b,o,none⟩ u):=(Frm.refl [b] W).setCell _ (.inl (by simp)) _
theorem RO.setAt (a:RO W s ba bb bw bi x) {i:Nat} (K:i<s.roles.length) (p:Nat) (ab:x.pos.length=s.roles.length):RO (W.setCell ⟨ba,i,none⟩ (.int .i64 p)) s ba bb bw bi { x with pos:=x.pos.set i p }:=by
 have A:=bG W ba i (.int .i64 p)
 have O:=a.ta.ne a.tb (by decide)
 have X:=a.ta.ne a.tw (by decide)
 have Y:∀ j,j<s.roles.length→ba≠bi j:=fun j h=>a.ta.ne (a.ti j h) (by decide)
 refine⟨a.ta.set _,a.tb.set _,a.tw.set _,fun i K=>(a.ti i K).set _,a.inj,fun j h=>?_,fun j h=>?_,fun j h=>?_,fun j k h E=>?_⟩
 ·show _=some (Value.int .i64 (((x.pos.set i p).getD j 0:Nat):Int))
  rw[List.getD_eq_getElem?_getD,List.getElem?_set]
  by_cases e:i=j
  ·subst e
   rw[if_pos rfl,if_pos (by omega)]
   exact dA (a.a i h)
  ·rw[if_neg e,aO (by rintro⟨-,rfl⟩;exact e rfl),a.a j h]
   rfl
 ·obtain⟨R,aa,G,I,J,H⟩:=a.b j h
  exact⟨R,aa,A.cellAt G (by simp;exact O.symm),A.cellAt I (by simp;exact O.symm),J.frm A (by intro k E;simp at E;subst E;exact fun e=>absurd rfl (a.ta.ne e (by decide))),H.frm A (by intro k E;simp at E;exact .inl E)⟩
 ·obtain⟨c,G⟩:=a.w j h
  exact⟨c,A.cellAt G (by simp;exact X.symm)⟩
 ·obtain⟨U,G,I,J,H⟩:=a.r j k h E
  have n:=(Y j h).symm
  exact⟨U,A.cellAt G (by simpa using n),A.cellAt I (by simpa using n),A.cellAt J (by simpa using n),H.frm A (fun q S N=>by simp at N;subst N;exact absurd rfl (a.ta.ne (H.ty S) (by decide)))⟩
theorem RO.setBank (a:RO W s ba bb bw bi x) {i:Nat} (R:i<s.roles.length) {H I:Value} {O:List Int} (ab:DfV W H (s.rol i).ctrs) (ae:VlV W ba I O) (al:x.vals.length=s.roles.length) :
  RO ((W.setCell ⟨bb,i*2,none⟩ H).setCell ⟨bb,i*2+1,none⟩ I) s ba bb bw bi { x with vals:=x.vals.set i O }:=by
 have h:Frm [bb] W ((W.setCell ⟨bb,i*2,none⟩ H).setCell ⟨bb,i*2+1,none⟩ I):=(bG W bb (i*2) H).trans (bG _ bb (i*2+1) I)
 have ag:=a.ta.ne a.tb (by decide)
 have ah:=a.tb.ne a.tw (by decide)
 have ai:∀ j,j<s.roles.length→bb≠bi j:=fun j A=>a.tb.ne (a.ti j A) (by decide)
 have U:∀ k∈[bb],¬ Ty W k 244:=by intro k E;simp at E;subst E;exact fun e=>absurd rfl (a.tb.ne e (by decide))
 have X:∀ k∈[bb],k=ba∨¬ Ty W k 3:=by intro k E;simp at E;subst E;exact .inr fun e=>absurd rfl (a.tb.ne e (by decide))
 refine⟨(a.ta.set _).set _,(a.tb.set _).set _,(a.tw.set _).set _,fun i R=>((a.ti i R).set _).set _,a.inj,fun j A=>h.cellAt (a.a j A) (by simpa using ag),fun j A=>?_,fun j A=>?_,fun j k A E=>?_⟩
 ·obtain⟨aa,Y,G,J,N,K⟩:=a.b j A
  show ∃ ak aj,_∧_∧_∧VlV _ ba aj ((x.vals.set i O).getD j [])
  rw[List.getD_eq_getElem?_getD,List.getElem?_set]
  by_cases e:i=j
  ·subst e
   rw[if_pos rfl,if_pos (by omega)]
   refine⟨H,I,?_,?_,ab.frm h U,ae.frm h X⟩
   ·rw[aO (by omega)];exact dA G
   ·exact dA (v:=Y) (by rw[aO (by omega)];exact J)
  ·rw[if_neg e]
   refine⟨aa,Y,?_,?_,N.frm h U,K.frm h X⟩
   ·rw[aO (by omega),aO (by omega)];exact G
   ·rw[aO (by omega),aO (by omega)];exact J
 ·obtain⟨c,G⟩:=a.w j A
  exact⟨c,h.cellAt G (by simpa using ah.symm)⟩
 ·obtain⟨af,G,J,N,K⟩:=a.r j k A E
  have n:=(ai j A).symm
  exact⟨af,h.cellAt G (by simpa using n),h.cellAt J (by simpa using n),h.cellAt N (by simpa using n),K.frm h (fun q ad S=>by simp at S;subst S;exact absurd rfl (a.tb.ne (K.ty ad) (by decide)))⟩
theorem RO.setWay (a:RO W s ba bb bw bi x) {i m:Nat} (R:i<s.roles.length) (S:m<s.roles.length) {H:Value} {L:List ByteArray} (U:Lf W H L) (an:x.ways.length=s.roles.length) (ap:(x.ways.getD i []).length=s.roles.length) :
  RO (((W.setCell ⟨bi i,m*3,none⟩ (.int .i64 s.cls)).setCell ⟨bi i,m*3+1,none⟩ (.int .i64 s.cap)).setCell ⟨bi i,m*3+2,none⟩ H) s ba bb bw bi { x with ways:=setWay x.ways i m L }:=by
 have A:Frm [bi i] W (((W.setCell ⟨bi i,m*3,none⟩ (.int .i64 s.cls)).setCell ⟨bi i,m*3+1,none⟩ (.int .i64 s.cap)).setCell ⟨bi i,m*3+2,none⟩ H):=((bG W _ _ _).trans (bG _ _ _ _)).trans (bG _ _ _ _)
 have K:=a.ti i R
 have ai:=a.ta.ne K (by decide)
 have aa:=a.tb.ne K (by decide)
 have aj:=a.tw.ne K (by decide)
 have ak:∀ k∈[bi i],¬ Ty W k 244:=by intro k G;simp at G;subst G;exact fun e=>absurd rfl (K.ne e (by decide))
 have al:∀ k∈[bi i],k=ba∨¬ Ty W k 3:=by intro k G;simp at G;subst G;exact .inr fun e=>absurd rfl (K.ne e (by decide))
 have ab:∀ {H:Value} {L:List ByteArray},Lf W H L→∀ q,H.ownBlock=some q→q∉[bi i]:=fun J q ag S=>by simp at S;subst S;exact absurd rfl (K.ne (J.ty ag) (by decide))
 refine⟨((a.ta.set _).set _).set _,((a.tb.set _).set _).set _,((a.tw.set _).set _).set _,fun i R=>(((a.ti i R).set _).set _).set _,a.inj,fun j E=>A.cellAt (a.a j E) (by simpa using ai),fun j E=>?_,fun j E=>?_,fun j k E G=>?_⟩
 ·obtain⟨ad,am,I,N,O,J⟩:=a.b j E
  exact⟨ad,am,A.cellAt I (by simpa using aa),A.cellAt N (by simpa using aa),O.frm A ak,J.frm A al⟩
 ·obtain⟨c,I⟩:=a.w j E
  exact⟨c,A.cellAt I (by simpa using aj)⟩
 ·obtain⟨Y,I,N,O,J⟩:=a.r j k E G
  show ∃ ah,_∧_∧_∧Lf _ ah (fE (Go.Proofs.YtohfkhjlnlahdaaGreat.setWay x.ways i m L) j k)
  rw[ie (by omega) (by omega)]
  by_cases e:j=i∧k=m
  ·obtain⟨rfl,rfl⟩:=e
   rw[if_pos ⟨rfl,rfl⟩]
   refine⟨H,?_,?_,?_,U.frm A (ab U)⟩
   ·rw[aO (by omega),aO (by omega)];exact dA I
   ·rw[aO (by omega)];exact dA (v:=.int .i64 s.cap) (by rw[aO (by omega)];exact N)
   ·exact dA (v:=Y) (by rw[aO (by omega),aO (by omega)];exact O)
  ·rw[if_neg e]
   have h:∀ {o d:Nat},o / 3=k→d / 3=m→¬ (bi j=bi i∧o=d):=fun af ae X=>e ⟨a.inj j i E R X.1,by rw[← af,← ae,X.2]⟩
   refine⟨Y,?_,?_,?_,J.frm A (ab J)⟩
   ·rw[aO (h (by omega) (by omega)),aO (h (by omega) (by omega)),aO (h (by omega) (by omega))];exact I
   ·rw[aO (h (by omega) (by omega)),aO (h (by omega) (by omega)),aO (h (by omega) (by omega))];exact N
   ·rw[aO (h (by omega) (by omega)),aO (h (by omega) (by omega)),aO (h (by omega) (by omega))];exact O
end
structure RSt (B:Nat) (W:World) (s:SesD) (v:Value) (x:PS):Prop where
 out:∃ ba bb bw bi ca cb cw,v=.agg #[.slice (some ⟨ba,0,none⟩) s.roles.length ca,.slice (some ⟨bb,0,none⟩) s.roles.length cb,.slice (some ⟨bw,0,none⟩) s.roles.length cw]∧RO W s ba bb bw bi x ∧
  B≤ba∧B≤bb∧B≤bw∧∀ i,i<s.roles.length→B≤bi i
 ok:PSok s x
theorem RSt.frm {B:Nat} {W V:World} {s:SesD} {v:Value} {x:PS} (a:RSt B W s v x) (I:Frm [] W V):RSt B V s v x:=by
 obtain⟨ba,bb,bw,bi,h,cb,A,E,G,H⟩:=a.out
 exact⟨⟨ba,bb,bw,bi,h,cb,A,E,G.frm I,H⟩,a.ok⟩
theorem RSt.low {B B':Nat} {W:World} {s:SesD} {v:Value} {x:PS} (a:RSt B W s v x) (hb:B'≤B):RSt B' W s v x:=by
 obtain⟨ba,bb,bw,bi,h,cb,A,E,G,J,K,N,H⟩:=a.out
 exact⟨⟨ba,bb,bw,bi,h,cb,A,E,G,by omega,by omega,by omega,fun i I=>by have:=H i I;omega⟩,a.ok⟩
end Go.Proofs.YtohfkhjlnlahdaaGreat
