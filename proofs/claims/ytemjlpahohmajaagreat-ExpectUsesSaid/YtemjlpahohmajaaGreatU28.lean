/- Part of the proof. -/
import Derived.Test.YtemjlpahohmajaaGreatU01
import Derived.Deep.RegionHeld3
import Derived.RangeFuncNested
import Derived.RangeFuncLeaves
import Derived.RangeFuncCalls
import Derived.Test.YtemjlpahohmajaaGreatU09
import Derived.Shelf.SlicesG.Turned
set_option linter.all false
namespace Go.Proofs.YtemjlpahohmajaaGreat
open Go.RowKit
section
variable {P:Program} {ops:Array Oper} {Q:Exit→Act→World→Prop} {md:Region.Mode} {S S':World→Prop}
theorem wpAnyH_sub (hSS:∀ W,S' W→S W):∀ (fuel:Nat) (listed:Array Bool) (a:Act) (w:World),wpAnyH P md ops Q S' fuel listed a w→wpAnyH P md ops Q S fuel listed a w
 | 0,_,_,_,h=>h
 | fuel + 1,_,_,_,h=>⟨h.1,fun i hi=>wpOp_mono (fun a' w' h'=>⟨hSS _ h'.1,wpAnyH_sub hSS fuel _ a' w' h'.2⟩) (h.2 i hi)⟩
theorem heldG_start {id:Nat} {a:Act} {w:World} (hm:P.follows .mixedOrders=true) (h:wpAnyH P .any ops Q (Frm [] w.drew) ops.size (Array.replicate ops.size false) a w.drew):(Code.region id ops true).wp P Q a w:=
 wp_region_held hm h
theorem heldG_take {i:Nat} {oi:Oper} {fuel:Nat} {listed:Array Bool} {a:Act} {w:World} (v:Value) (hi:ops[i]?=some oi)
  (hs:Region.noSelect ops=true) (hf:Region.free md ops listed i=true) (hr:(Region.ready md ops listed).contains i=true)
  (hQ:∀ c a w,Q (.panic c) (a.put oi.dst v) w→Q (.panic c) a w) (hw:Region.wanted oi (yielded ops a.tmps)=true) (hy:∀ w',Frm [] w w'→(execOp a.eval oi).run P w'=.ok (.value v) w')
  (h:wpAnyH P md ops Q (Frm [] w) fuel (listed.setIfInBounds i true) (a.put oi.dst v) w):wpAnyH P md ops Q (Frm [] w) (fuel + 1) listed a w:=
 wpAnyH_take hi hs hf hr hQ (.inl ⟨hw,hy⟩) (Frm.refl _ _) h
theorem heldG_skip {i:Nat} {oi:Oper} {fuel:Nat} {listed:Array Bool} {a:Act} {w:World} (hi:ops[i]?=some oi)
  (hs:Region.noSelect ops=true) (hf:Region.free md ops listed i=true) (hr:(Region.ready md ops listed).contains i=true)
  (hQ:∀ c a w,Q (.panic c) (a.put oi.dst undef) w→Q (.panic c) a w) (hw:Region.wanted oi (yielded ops a.tmps)=false)
  (h:wpAnyH P md ops Q (Frm [] w) fuel (listed.setIfInBounds i true) (a.put oi.dst undef) w):wpAnyH P md ops Q (Frm [] w) (fuel + 1) listed a w:=
 wpAnyH_take hi hs hf hr hQ (.inr ⟨hw,rfl⟩) (Frm.refl _ _) h
theorem heldG_step {i:Nat} {oi:Oper} {fuel:Nat} {listed:Array Bool} {a:Act} {w:World} (hi:ops[i]?=some oi) (hr:Region.ready md ops listed=[i]) (hw:Region.wanted oi (yielded ops a.tmps)=true)
  (h:∀ K':Act→World→Prop,Shut (∀ a' w',Frm [] w w'→wpAnyH P md ops Q (Frm [] w') fuel (listed.setIfInBounds i true) a' w'→K' a' w')→Oper.wp P oi a w K' Q):wpAnyH P md ops Q (Frm [] w) (fuel + 1) listed a w:=by
 refine wpAnyH_all hr (by simp) (fun j hj=>?_)
 simp only[List.mem_singleton] at hj
 subst hj
 unfold wpOp
 simp only[hi,hw,if_true]
 exact .inl (h _ (fun a' w' hf hk=>⟨hf,wpAnyH_sub (fun W hW=>hf.trans hW) _ _ _ _ hk⟩))
theorem tkG (i:Nat) {oi:Oper} {fuel:Nat} {listed:Array Bool} {a:Act} {w:World} (v:Value) (hy:∀ w',Frm [] w w'→(execOp a.eval oi).run P w'=.ok (.value v) w')
  (h:wpAnyH P md ops Q (Frm [] w) fuel (listed.setIfInBounds i true) (a.put oi.dst v) w) (hi:ops[i]?=some oi:=by rfl) (hb:(Region.noSelect ops && Region.free md ops listed i && (Region.ready md ops listed).contains i)=true:=by kernel_rfl)
  (hQ:∀ c a w,Q (.panic c) (a.put oi.dst v) w→Q (.panic c) a w:=by exact fun _ _ _ h=>h) (hw:Region.wanted oi (yielded ops a.tmps)=true:=by rfl):wpAnyH P md ops Q (Frm [] w) (fuel + 1) listed a w:=by
 simp only[Bool.and_eq_true] at hb
 exact heldG_take v hi hb.1.1 hb.1.2 hb.2 hQ hw hy h
theorem skG (i:Nat) {oi:Oper} {fuel:Nat} {listed:Array Bool} {a:Act} {w:World}
  (h:wpAnyH P md ops Q (Frm [] w) fuel (listed.setIfInBounds i true) (a.put oi.dst undef) w) (hi:ops[i]?=some oi:=by rfl) (hb:(Region.noSelect ops && Region.free md ops listed i && (Region.ready md ops listed).contains i)=true:=by kernel_rfl)
  (hQ:∀ c a w,Q (.panic c) (a.put oi.dst undef) w→Q (.panic c) a w:=by exact fun _ _ _ h=>h) (hw:Region.wanted oi (yielded ops a.tmps)=false:=by rfl):wpAnyH P md ops Q (Frm [] w) (fuel + 1) listed a w:=by
 simp only[Bool.and_eq_true] at hb
 exact heldG_skip hi hb.1.1 hb.1.2 hb.2 hQ hw h
theorem stG (i:Nat) {oi:Oper} {fuel:Nat} {listed:Array Bool} {a:Act} {w:World}
 (h:∀ K':Act→World→Prop,Shut (∀ a' w',Frm [] w w'→wpAnyH P md ops Q (Frm [] w') fuel (listed.setIfInBounds i true) a' w'→K' a' w')→Oper.wp P oi a w K' Q) (hi:ops[i]?=some oi:=by rfl)
 (hr:Region.ready md ops listed=[i]:=by kernel_rfl) (hw:Region.wanted oi (yielded ops a.tmps)=true:=by rfl):wpAnyH P md ops Q (Frm [] w) (fuel + 1) listed a w:=heldG_step hi hr hw h
theorem tcG {i:Nat} {oi:Oper} {fuel:Nat} {listed:Array Bool} {a:Act} {w:World} (v:Value) (hy:∀ w',Frm [] w w'→(execOp a.eval oi).run P w'=.ok (.value v) w')
  (h:Cnt (i + 1) (wpAnyH P md ops Q (Frm [] w) fuel (listed.setIfInBounds i true) (a.put oi.dst v) w)) (hi:ops[i]?=some oi:=by rfl) (hb:(Region.noSelect ops && Region.free md ops listed i && (Region.ready md ops listed).contains i)=true:=by kernel_rfl)
  (hQ:∀ c a w,Q (.panic c) (a.put oi.dst v) w→Q (.panic c) a w:=by exact fun _ _ _ h=>h) (hw:Region.wanted oi (yielded ops a.tmps)=true:=by rfl):Cnt i (wpAnyH P md ops Q (Frm [] w) (fuel + 1) listed a w):=
 tkG i v hy h hi hb hQ hw
theorem scG {i:Nat} {oi:Oper} {fuel:Nat} {listed:Array Bool} {a:Act} {w:World}
  (h:Cnt (i + 1) (wpAnyH P md ops Q (Frm [] w) fuel (listed.setIfInBounds i true) (a.put oi.dst undef) w)) (hi:ops[i]?=some oi:=by rfl) (hb:(Region.noSelect ops && Region.free md ops listed i && (Region.ready md ops listed).contains i)=true:=by kernel_rfl)
  (hQ:∀ c a w,Q (.panic c) (a.put oi.dst undef) w→Q (.panic c) a w:=by exact fun _ _ _ h=>h) (hw:Region.wanted oi (yielded ops a.tmps)=false:=by rfl):Cnt i (wpAnyH P md ops Q (Frm [] w) (fuel + 1) listed a w):=
 skG i h hi hb hQ hw
end
end Go.Proofs.YtemjlpahohmajaaGreat
namespace Go.Proofs.YtemjlpahohmajaaGreat
open Go.RowKit
def isBook:Obj→Bool | .loop _=>true | .deferred _=>true | _=>false
structure Bk (B:Nat) (w w':World):Prop where
 os:w'.os=w.os
 tape:w'.tape=w.tape
 output:w'.output=w.output
 size:w.heap.size≤w'.heap.size
 block:∀ k o,w.heap[k]?=some o→k < B∨isBook o=false→w'.heap[k]?=some o
def books (w:World):List Nat:=(List.range w.heap.size).filter fun k=>(w.heap[k]?).any isBook
theorem mem_books {w:World} {k:Nat}:k∈books w↔∃ o,w.heap[k]?=some o∧isBook o=true:=by
 unfold books
 rw[List.mem_filter,List.mem_range]
 constructor
 ·rintro⟨hk,h⟩
  rw[Array.getElem?_eq_getElem hk] at h ⊢
  exact⟨_,rfl,by simpa using h⟩
 ·rintro⟨o,ho,hb⟩
  exact⟨lt_of_block ho,by simp[ho,hb]⟩
theorem not_books {w:World} {k:Nat} {o:Obj} (h:w.heap[k]?=some o) (hb:isBook o=false):k∉books w:=fun hk=>by
 obtain⟨o',ho,h1⟩:=mem_books.1 hk
 rw[h] at ho;cases ho;rw[hb] at h1;cases h1
section
variable {B:Nat} {w w' w2:World}
theorem Bk.frm (h:Bk B w w'):Frm (books w) w w':=⟨h.os,h.tape,h.output,h.size,fun k hk hn=>by
 have ho:w.heap[k]?=some (w.heap[k]):=Array.getElem?_eq_getElem hk
 rw[ho]
 refine h.block k _ ho (.inr ?_)
 cases hb:isBook w.heap[k] with
 | false=>rfl
 | true=>exact absurd (mem_books.2 ⟨_,ho,hb⟩) hn⟩
theorem Bk.old {w0:World} (h:Bk B w w') (h0:Frm [] w0 w) (hB:w0.heap.size≤B):Frm [] w0 w':=
 ⟨h.os.trans h0.os,h.tape.trans h0.tape,h.output.trans h0.output,Nat.le_trans h0.size h.size,fun k hk _=>by
  have e:=h0.block k hk (by simp)
  have hk':w0.heap[k]?=some (w0.heap[k]):=Array.getElem?_eq_getElem hk
  rw[hk'] at e ⊢
  exact h.block k _ e (.inl (by omega))⟩
theorem Bk.at {k:Nat} {o:Obj} (h:Bk B w w') (hk:w.heap[k]?=some o) (hb:isBook o=false):w'.heap[k]?=some o:=h.block k o hk (.inr hb)
theorem Frm.bk (h:Frm [] w w') (B:Nat):Bk B w w':=⟨h.os,h.tape,h.output,h.size,fun _ _ hk _=>h.at hk (by simp)⟩
theorem Bk.putObj (w:World) {l:Nat} {o:Obj} (o':Obj) (hl:w.heap[l]?=some o) (ho:isBook o=true) (hB:B≤l):Bk B w (w.putObj l o'):=
 ⟨rfl,rfl,rfl,by simp[World.putObj],fun k o1 hk h1=>by
  have hne:k≠l:=by
   rintro rfl
   rw[hl] at hk;cases hk
   rcases h1 with h1 | h1
   ·omega
   ·rw[ho] at h1;cases h1
  rw[World.putObj_heap_other hne];exact hk⟩
def KB (w w':World):Prop:=∀ (k:Nat) (o:Obj),w.heap[k]?=some o→isBook o=true→w'.heap[k]?=some o
theorem KB.refl (w:World):KB w w:=fun _ _ h _=>h
theorem KB.trans (h:KB w w') (k:KB w' w2):KB w w2:=fun i o hi ho=>k i o (h i o hi ho) ho
theorem KB.frm {F:List Nat} (h:Frm F w w') (hF:∀ x∈F,x∉books w):KB w w':=fun k o hk ho=>h.at hk (fun hx=>hF k hx (mem_books.2 ⟨o,hk,ho⟩))
theorem KB.frm0 (h:Frm [] w w'):KB w w':=KB.frm h (by simp)
end
def Iter {α:Type} (F:Fence) (n:Nat) (P:Program) (g:Nat) (lb:Array Value) (encs:α→Array Value) (R:World→Prop) (xs:List α):Prop:=
 ∀ (l:Nat) (J Jx:List α→World→Prop),
   (∀ pre W W',J pre W→Frm [] W W'→J pre W')→(∀ pre W W',Jx pre W→Frm [] W W'→Jx pre W')→(∀ pre W,J pre W→R W) →
   (∀ pre x rest W,xs=pre ++ x :: rest→J pre W→YieldAt F (n - 1) P l (encs x) W fun e W' =>
    (e=.returned (.bool true)∧J (pre ++ [x]) W')∨(e=.returned (.bool false)∧Jx (pre ++ [x]) W')) →
   ∀ W,J [] W→CallsIn F n P g (#[.func (.yield l) #[] #[]] ++ lb) W fun e W'=>(∃ v,e=.returned v)∧(J xs W'∨∃ pre x rest,xs=pre ++ x :: rest∧Jx (pre ++ [x]) W')
def roundEnd {α:Type} (I:List α→World→Prop) (Ix:Code→List α→World→Prop) (s:List α) (W:World):Exit→Act→World→Prop
 | .normal,_,W'=>KB W W'∧I s W'
 | .ret,_,W'=>KB W W'∧Ix .ret s W'
 | .exit id,_,W'=>KB W W'∧Ix (.exit id) s W'
 | .goto t,_,W'=>KB W W'∧Ix (.goto t) s W'
 | .panic _,_,_=>False
 | .outgrown,_,_=>False
variable {F:Fence} {n:Nat} {P:Program}
theorem wpIn_rangeList {α:Type} {g:Operand} {ps:Array Tmp} {assign body:Code} {Q:Exit→Act→World→Prop} {a:Act} {w:World}
  (hro:F.round=none) (h1:1≤n) {gf:Nat} {lb:Array Value} (hg:a.eval g=.func (.func gf) #[] lb) (hFg:F.fn gf) (eg:∀ args w,(callFunc gf args).run P w=.ok (.enter gf args) w)
  {encs:α→Array Value} {R:World→Prop} {xs:List α} (hit:Iter F (n - 1) P gf lb encs R xs) (hps:∀ x,(encs x).size=ps.size)
  (I:List α→World→Prop) (Ix:Code→List α→World→Prop) (sI:∀ s W W',I s W→Bk w.heap.size W W'→I s W') (sIx:∀ c s W W',Ix c s W→Bk w.heap.size W W'→Ix c s W')
  (hR:∀ s W,I s W→R W) (h0:I [] w)
  (hround:∀ (l:Nat) (pre:List α) (x:α) (rest:List α) (W:World),xs=pre ++ x :: rest→I pre W→w.heap.size≤l→(∃ r,W.heap[l]?=some (.loop r)) →
   assign.wpIn (F.inRound l) (n - 1 - 1) P (Exit.then (fun a' W'=>KB W W'∧∀ W2,Bk w.heap.size W' W2→(∃ r,W2.heap[l]?=some (.loop r))→body.wpIn (F.inRound l) (n - 1 - 1) P (roundEnd I Ix (pre ++ [x]) W2) a' W2) (fun _ _ _=>False))
    { tmps:=(ps.zip (encs x)).foldl (fun t (p,v)=>t.setIfInBounds p v) a.tmps,defers:=[] } W)
  (hdone:∀ (D:Nat) (W:World),w.heap.size≤D→I xs W→W.heap[D]?=some (.deferred (some []))→Q .normal { a with defers:={ target:=.collected D,args:=#[] } :: a.defers } W)
  (hstop:∀ (D:Nat) (c:Code) (pre:List α) (x:α) (rest:List α) (W:World),xs=pre ++ x :: rest→w.heap.size≤D→Ix c (pre ++ [x]) W→W.heap[D]?=some (.deferred (some []))→c.wpIn F n P Q { a with defers:={ target:=.collected D,args:=#[] } :: a.defers } W) :
  (Code.rangeFunc g ps assign body).wpIn F n P Q a w:=by
 refine wpIn_rangeFunc ?_
 intro fn hfn
 rw[hro]
 obtain⟨rec,hrec⟩:∃ rec:LoopState→Option Code→Loop,rec=fun st pe=>{ state:=st,pending:=pe,fn,tmps:=a.tmps,params:=ps,assign,body,defers:=w.heap.size }:=⟨_,rfl⟩
 obtain⟨W1,hW1⟩:∃ W1,(w.alloc (.deferred (some []))).alloc (.loop (rec .ready none))=W1:=⟨_,rfl⟩
 have hL1:W1.heap[w.heap.size + 1]?=some (.loop (rec .ready none)):=by
  rw[← hW1];have:=World.alloc_heap_new (w.alloc (.deferred (some []))) (.loop (rec .ready none));rwa [World.size_alloc] at this
 have hK1:W1.heap[w.heap.size]?=some (.deferred (some [])):=by
  rw[← hW1];exact(Below.heap_alloc _ _ _ (by simp)).trans (World.alloc_heap_new w _)
 have hF1:Frm [] w W1:=by rw[← hW1];exact((Frm.refl _ _).alloc _).alloc _
 have hI1:I [] W1:=sI _ _ _ h0 (hF1.bk _)
 refine⟨w.heap.size + 1,[{ target:=.collected w.heap.size,args:=#[] }],W1,{ target:=.fn (.func gf) lb,args:=#[.func (.yield (w.heap.size + 1)) #[] #[]] },W1,gf,
  #[.func (.yield (w.heap.size + 1)) #[] #[]] ++ lb,W1,?_,?_,?_,?_,fun _=>h1,?_⟩
 ·rw[← hW1,hrec];exact run_enterLoop_outer _ _ _ _ _
 ·simp only[resolve,hg]
  simp[go_sem]
 ·intro f' hf';simp[Target.leads] at hf';subst hf';exact hFg
 ·simp[invoke,go_sem,eg]
 ·refine(hit (w.heap.size + 1)
   (fun pre W=>I pre W∧W.heap[w.heap.size + 1]?=some (.loop (rec .ready none))∧W.heap[w.heap.size]?=some (.deferred (some [])))
   (fun pre W=>∃ c,Ix c pre W∧W.heap[w.heap.size + 1]?=some (.loop (rec .done (some c)))∧W.heap[w.heap.size]?=some (.deferred (some [])))
   (fun pre W W' hJ hf=>⟨sI _ _ _ hJ.1 (hf.bk _),hf.at hJ.2.1 (by simp),hf.at hJ.2.2 (by simp)⟩)
   (fun pre W W' ⟨c,hJ⟩ hf=>⟨c,sIx _ _ _ _ hJ.1 (hf.bk _),hf.at hJ.2.1 (by simp),hf.at hJ.2.2 (by simp)⟩)
   (fun pre W hJ=>hR _ _ hJ.1) ?_ W1 ⟨hI1,hL1,hK1⟩).mono ?_
  ·rintro pre x rest W hxs ⟨hi,hl,hk⟩
   have hy:=run_yield (P:=P) (args:=encs x) hl (by rw[hrec];exact hps x)
   rw[hrec] at hy
   refine⟨fn,_,assign,body,hy,roundIn_of_wpIn hfn (wpIn_mono (hround (w.heap.size + 1) pre x rest W hxs hi (by omega) ⟨_,hl⟩) ?_)⟩
   intro e a' W' hp
   cases e with
   | normal =>
     obtain⟨hkb,hb⟩:=hp
     have hl':=hkb _ _ hl rfl
     have hk':=hkb _ _ hk rfl
     have hlt:w.heap.size + 1 < W'.heap.size:=lt_of_block hl'
     refine⟨_,run_beginRound hl' (by rw[hrec]),?_⟩
     have hl2:(W'.putObj (w.heap.size + 1) (.loop { rec .ready none with state:=.busy })).heap[w.heap.size + 1]?=some (.loop { rec .ready none with state:=.busy }):=World.putObj_heap_same hlt
     have hk2:(W'.putObj (w.heap.size + 1) (.loop { rec .ready none with state:=.busy })).heap[w.heap.size]?=some (.deferred (some [])):=(World.putObj_heap_other (by omega)).trans hk'
     refine wpIn_mono (hb _ (Bk.putObj W' _ hl' rfl (by omega)) ⟨_,hl2⟩) ?_
     have fin:∀ (jump:Option Code) (W3:World),KB (W'.putObj (w.heap.size + 1) (.loop { rec .ready none with state:=.busy })) W3 →
       (Instr.endRound (w.heap.size + 1) jump).run P W3=.ok (.bool jump.isNone) (W3.putObj (w.heap.size + 1) (.loop (rec (if jump.isNone then .ready else .done) jump))) ∧
       Bk w.heap.size W3 (W3.putObj (w.heap.size + 1) (.loop (rec (if jump.isNone then .ready else .done) jump))) ∧
       (W3.putObj (w.heap.size + 1) (.loop (rec (if jump.isNone then .ready else .done) jump))).heap[w.heap.size + 1]?=some (.loop (rec (if jump.isNone then .ready else .done) jump)) ∧
       (W3.putObj (w.heap.size + 1) (.loop (rec (if jump.isNone then .ready else .done) jump))).heap[w.heap.size]?=some (.deferred (some [])):=fun jump W3 hk3=>by
      have hl3:=hk3 _ _ hl2 rfl
      have:=run_endRound (P:=P) jump hl3
      rw[hrec] at this ⊢
      exact⟨this,Bk.putObj W3 _ hl3 rfl (by omega),World.putObj_heap_same (lt_of_block hl3),(World.putObj_heap_other (by omega)).trans (hk3 _ _ hk2 rfl)⟩
     rintro e a3 W3 hp
     cases e with
     | normal =>
       obtain⟨hk3,hi3⟩:=hp
       obtain⟨hr,hb3,hl4,hk4⟩:=fin none W3 hk3
       exact⟨_,_,hr,.inl ⟨rfl,sI _ _ _ hi3 hb3,hl4,hk4⟩⟩
     | ret =>
       obtain⟨hk3,hi3⟩:=hp
       obtain⟨hr,hb3,hl4,hk4⟩:=fin (some .ret) W3 hk3
       exact⟨_,_,hr,.inr ⟨rfl,.ret,sIx _ _ _ _ hi3 hb3,hl4,hk4⟩⟩
     | exit id =>
       obtain⟨hk3,hi3⟩:=hp
       obtain⟨hr,hb3,hl4,hk4⟩:=fin (some (.exit id)) W3 hk3
       exact⟨_,_,hr,.inr ⟨rfl,.exit id,sIx _ _ _ _ hi3 hb3,hl4,hk4⟩⟩
     | goto t =>
       obtain⟨hk3,hi3⟩:=hp
       obtain⟨hr,hb3,hl4,hk4⟩:=fin (some (.goto t)) W3 hk3
       exact⟨_,_,hr,.inr ⟨rfl,.goto t,sIx _ _ _ _ hi3 hb3,hl4,hk4⟩⟩
     | panic ch=>exact hp.elim
     | outgrown=>exact hp.elim
   | ret=>exact hp.elim
   | exit id=>exact hp.elim
   | goto t=>exact hp.elim
   | panic ch=>exact hp.elim
   | outgrown=>exact hp.elim
  ·rintro e W2 ⟨⟨v,rfl⟩,(⟨hi,hl,hk⟩ | ⟨pre,x,rest,hxs,c,hi,hl,hk⟩)⟩
   ·exact⟨none,_,by have:=run_endLoop (P:=P) hl (by rw[hrec];simp);rw[hrec] at this;exact this,hdone _ _ (Nat.le_refl _) (sI _ _ _ hi (by rw[hrec] at hl;exact Bk.putObj W2 _ hl rfl (by omega))) ((World.putObj_heap_other (by omega)).trans hk)⟩
   ·exact⟨some c,_,by have:=run_endLoop (P:=P) hl (by rw[hrec];simp);rw[hrec] at this;exact this,hstop _ c pre x rest _ hxs (Nat.le_refl _) (sIx _ _ _ _ hi (by rw[hrec] at hl;exact Bk.putObj W2 _ hl rfl (by omega))) ((World.putObj_heap_other (by omega)).trans hk)⟩
theorem wp_rangeList {α:Type} {g:Operand} {ps:Array Tmp} {assign body:Code} {Q:Exit→Act→World→Prop} {a:Act} {w:World}
  {gf:Nat} {lb:Array Value} (hg:a.eval g=.func (.func gf) #[] lb) (eg:∀ args w,(callFunc gf args).run P w=.ok (.enter gf args) w)
  {encs:α→Array Value} {R:World→Prop} {xs:List α} (hit:Iter Fence.wide 2 P gf lb encs R xs) (hps:∀ x,(encs x).size=ps.size)
  (I:List α→World→Prop) (Ix:Code→List α→World→Prop) (sI:∀ s W W',I s W→Bk w.heap.size W W'→I s W') (sIx:∀ c s W W',Ix c s W→Bk w.heap.size W W'→Ix c s W')
  (hR:∀ s W,I s W→R W) (h0:I [] w)
  (hround:∀ (l:Nat) (pre:List α) (x:α) (rest:List α) (W:World),xs=pre ++ x :: rest→I pre W→w.heap.size≤l→(∃ r,W.heap[l]?=some (.loop r)) →
   assign.wpIn (Fence.wide.inRound l) 1 P (Exit.then (fun a' W'=>KB W W'∧∀ W2,Bk w.heap.size W' W2→(∃ r,W2.heap[l]?=some (.loop r))→body.wpIn (Fence.wide.inRound l) 1 P (roundEnd I Ix (pre ++ [x]) W2) a' W2) (fun _ _ _=>False))
    { tmps:=(ps.zip (encs x)).foldl (fun t (p,v)=>t.setIfInBounds p v) a.tmps,defers:=[] } W)
  (hdone:∀ (D:Nat) (W:World),w.heap.size≤D→I xs W→W.heap[D]?=some (.deferred (some []))→Q .normal { a with defers:={ target:=.collected D,args:=#[] } :: a.defers } W)
  (hstop:∀ (D:Nat) (c:Code) (pre:List α) (x:α) (rest:List α) (W:World),xs=pre ++ x :: rest→w.heap.size≤D→Ix c (pre ++ [x]) W→W.heap[D]?=some (.deferred (some []))→c.wp P Q { a with defers:={ target:=.collected D,args:=#[] } :: a.defers } W) :
  (Code.rangeFunc g ps assign body).wp P Q a w:=
 wpIn_wide.1 (wpIn_rangeList (F:=Fence.wide) (n:=3) rfl (by omega) hg trivial eg hit hps I Ix sI sIx hR h0 hround hdone (fun D c pre x rest W h1 h2 h3 h4=>wpIn_wide.2 (hstop D c pre x rest W h1 h2 h3 h4)))
theorem calls_of_marks {f:FuncId} {fn:Func} {c:Code} {args:Array Value} {w:World} {R:Ending→World→Prop} (hf:P.funcs[f]?=some fn) (hb:fn.body=some c)
  (h:c.wp P (bodyPostM Fence.wide 3 P fn R) { tmps:=args ++ Array.replicate (fn.ntmps - args.size) undef,defers:=[] } w):Calls P f args w R:=
 callsIn_wide.1 (callsIn_of_wp_marks hf hb trivial (wpIn_wide.2 h) rfl)
theorem Frm.putObj (w:World) (l:Nat) (o:Obj):Frm [l] w (w.putObj l o):=
 ⟨rfl,rfl,rfl,by simp[World.putObj],fun k _ hn=>World.putObj_heap_other (by simpa using hn)⟩
theorem leaves_mark {fn:Func} {tmps:Array Value} {R:Ending→World→Prop} {D:Nat} {w:World} (hK:w.heap[D]?=some (.deferred (some [])))
  (h:∃ v,(results fn tmps).run P (w.putObj D (.deferred none))=.ok v (w.putObj D (.deferred none))∧R (.returned v) (w.putObj D (.deferred none))) :
  LeavesInM Fence.wide 3 P fn tmps R [{ target:=.collected D,args:=#[] }] .returning w:=
 ⟨by simp,.inl ⟨_,_,rfl,run_takeDeferred hK,h⟩⟩
theorem run_equalIn_func (w:World) (d:Nat) (t:TypeId) (ps rs:Array TypeId) (v:Bool) (f:Nat) (lb:Array Value) (hu:P.underlying t=some (.func ps rs v)) :
  (Op.equalIn (d + 1) t (.func (.func f) #[] lb) .nilFunc).run P w=.ok false w:=by
 simp[Op.equalIn,run_underlying hu]
theorem run_eql_func (w:World) (t:TypeId) (ps rs:Array TypeId) (v:Bool) (f:Nat) (lb:Array Value) (hu:P.underlying t=some (.func ps rs v)) :
  (binOp .eql t (.func (.func f) #[] lb) .nilFunc).run P w=.ok (.bool false) w:=by
 simp only[binOp]
 simp[show Op.equal t (.func (.func f) #[] lb) .nilFunc=Op.equalIn (9999 + 1) t (.func (.func f) #[] lb) .nilFunc from rfl,run_equalIn_func w 9999 t ps rs v f lb hu]
end Go.Proofs.YtemjlpahohmajaaGreat
namespace Go.Proofs.YtemjlpahohmajaaGreat
open Go.RowKit Go.BigFrame
def okC (cls cap:Int):Bool:=decide (1≤cls∧cls≤3∧1≤cap∧cap≤64)
theorem new_bad (cls cap:Int) (w:World) (h:okC cls cap=false):Calls Tryz.prog 82 #[.int .i64 cls,.int .i64 cap] w (Ret (.tuple #[.pointer none,.int .i64 2]) (w=·)):=by
 simp only[okC,decide_eq_false_iff_not] at h
 by_cases h1:cls < 1
 ·go_enter Tryz.func82,Tryz.ntmps82
  go_wp2
  go_ret2
  exact⟨rfl,rfl⟩
 ·by_cases h2:3 < cls
  ·go_enter Tryz.func82,Tryz.ntmps82
   go_wp2
   go_ret2
   exact⟨rfl,rfl⟩
  ·by_cases h3:cap < 1
   ·go_enter Tryz.func82,Tryz.ntmps82
    go_wp2
    go_ret2
    exact⟨rfl,rfl⟩
   ·have h4:64 < cap:=by omega
    go_enter Tryz.func82,Tryz.ntmps82
    go_wp2
    go_ret2
    exact⟨rfl,rfl⟩
theorem new_ok (cls cap:Int) (w:World) (h:okC cls cap=true):Calls Tryz.prog 82 #[.int .i64 cls,.int .i64 cap] w
  (Ret (.tuple #[.pointer (some ⟨w.heap.size,0,none⟩),.int .i64 0]) (fun w'=>Frm [] w w'∧Chn w' w.heap.size cls cap [] [w.heap.size])):=by
 simp only[okC,decide_eq_true_iff] at h
 obtain⟨g1,g2,g3,g4⟩:=h
 have h1:¬ cls < 1:=by omega
 have h2:¬ 3 < cls:=by omega
 have h3:¬ cap < 1:=by omega
 have h4:¬ 64 < cap:=by omega
 go_enter Tryz.func82,Tryz.ntmps82
 go_wp2
 go_ret2
 exact⟨rfl,(Frm.refl _ _).alloc _,.slice none 0 0,heap_alloc_new _ _,World.ownsRow_nil _ _ _ _,⟨g1,g2,g3,g4,by simpa using (by omega:(0:Int)≤cap),by simp⟩,rfl⟩
section
variable {w:World} {cb:Nat} {cls cap:Int} {L:List ByteArray} {F:List Nat}
theorem Good.lenN (h:Good cls cap L):L.length≤64:=by have:=h.len;have:=h.k64;omega
theorem all_any (h:Chn w cb cls cap L F):Calls Tryz.prog 101 #[.pointer (some ⟨cb,0,none⟩)] w (RetV (Fresh w L)):=by
 have CN:=Lib.hid (none_any cb cls cap L F w h)
 have hg:=h.good.lenN
 obtain⟨sv,h1,h2,-,-⟩:=h
 have CC:=Lib.hid (clone_any sv L w h2 (by omega))
 have c2:=cell_of h1 2
 clear h1 h2
 go_enter Tryz.func101,Tryz.ntmps101
 go_wp2_with (first
  | (go_at_call 102;go_must (refine CN.out.mono ?_;rintro e w' ⟨rfl,rfl⟩))
  | (go_at_call 115;go_must (refine CC.out.mono ?_;rintro e w' ⟨v,rfl,hr⟩;have HR:=Lib.hid hr;clear hr)))
 go_ret
 exact⟨_,rfl,HR.out⟩
theorem len_any (h:Chn w cb cls cap L F):Calls Tryz.prog 56 #[.pointer (some ⟨cb,0,none⟩)] w (Ret (.int .i64 L.length) (Frm [] w)):=by
 have CA:=Lib.hid (all_any h)
 clear h
 go_enter Tryz.func56,Tryz.ntmps56
 go_wp2_with (go_at_call 101;go_must (refine CA.out.mono ?_;rintro e w' ⟨v,rfl,hr⟩;obtain⟨ao,c,rfl,-,-⟩:=hr.1.shape;have HR:=Lib.hid hr;clear hr))
 go_ret
 exact⟨rfl,HR.out.2.1⟩
set_option maxHeartbeats 1000000 in
set_option maxRecDepth 100000 in
theorem copy_any (h:Chn w cb cls cap L F):Calls Tryz.prog 110 #[.pointer (some ⟨cb,0,none⟩)] w (RetV fun v w'=>∃ db F',v=.pointer (some ⟨db,0,none⟩)∧Chn w' db cls cap L F'∧Frm [] w w'∧∀ x∈F',w.heap.size≤x):=by
 have CN:=Lib.hid (none_any cb cls cap L F w h)
 have HG:=Lib.hid h.good
 have hg:=h.good.lenN
 obtain⟨sv,h1,h2,-,-⟩:=h
 have HS:=Lib.hid h2
 have c0:=cell_of h1 0
 have c1:=cell_of h1 1
 have c2:=cell_of h1 2
 clear h1 h2
 go_enter Tryz.func110,Tryz.ntmps110
 go_wp2_with (first
  | (go_at_call 102;go_must (refine CN.out.mono ?_;rintro e w' ⟨rfl,rfl⟩)))
 go_region_held3 (fun w'=>w'.cell? ⟨cb,0,none⟩=some (.int .i64 cls)∧w'.cell? ⟨cb,1,none⟩=some (.int .i64 cap)∧w'.cell? ⟨cb,2,none⟩=some sv)
  (first
   | (exact⟨HFA.out.keep c0,HFA.out.keep c1,HFA.out.keep c2⟩)
   | go_keep)
  (first | (go_at_call 115;go_must (refine(clone_any sv L _ ((Frm.refl [] w).drew.owns HS.out (by simp)) (by omega)).mono ?_;rintro e w1 ⟨v',rfl,hr⟩;obtain⟨ao',c',rfl,-,-⟩:=hr.1.shape;have HR:=Lib.hid hr;have HFA:Hid (Frm [] w w1):=Lib.hid ((Frm.refl [] w).drew.trans hr.2.1);clear hr)))
 all_goals
  go_wp2
  go_ret
  exact⟨_,rfl,_,_,rfl,⟨_,heap_alloc_new _ _,(HR.out.1.frm ((Frm.refl [] _).alloc _) (by simp)),HG.out,rfl⟩,HFA.out.alloc _,fun x hx=>by
   have h3:=HR.out.2.2
   have h4:=HFA.out.size
   simp only[List.mem_cons,Option.mem_toList] at hx
   rcases hx with rfl | hx
   ·exact h4
   ·exact h3 x hx⟩
end
theorem first_any (v:Value) (i:Int) (w:World):Calls Tryz.prog 150 #[v,.int .i64 i] w (Ret (.bool (i == 0)) (w=·)):=by
 go_enter Tryz.func150,Tryz.ntmps150
 go_wp2
 go_ret
 exact⟨rfl,rfl⟩
abbrev tabO:Obj:=.cells #[.nilFunc,.func (.func 150) #[] #[],.func (.func 151) #[] #[],.func (.func 150) #[] #[]] 226
theorem choices_any (w:World):Calls Tryz.prog 113 #[] w (Ret (.slice (some ⟨w.heap.size,0,none⟩) 4 4) (w.alloc tabO=·)):=by
 go_enter Tryz.func113,Tryz.ntmps113
 go_wp2
 go_ret
 exact⟨rfl,rfl⟩
theorem second_any (v:Value) (L:List ByteArray) (i:Nat) (x:ByteArray) (w:World) (h:Strs w v L) (hL:L.length≤1000000) (hx:L[i]?=some x) :
  Calls Tryz.prog 151 #[v,.int .i64 i] w (Ret (.bool (Lib.idxOfS L x == (i:Int))) (w=·)):=by
 obtain⟨ao,cap,rfl,hn,hc⟩:=h.shape
 obtain⟨g,rfl,cx⟩:=hc i x hx
 have hil:=lt_of_some hx
 have hil':(i:Int) < (L.length:Int):=by omega
 have CI:=AnyG.slices_Index_string Tryz.indexS g 0 L.length cap L x w (Nat.le_refl _) (by omega) (fun j hj=>by
  have hx:L[j]?=some (L.getD j ByteArray.empty):=by rw[List.getD_eq_getElem?_getD,List.getElem?_eq_getElem hj];rfl
  obtain⟨g',hg',e⟩:=hc j _ hx
  cases hg'
  rw[Nat.zero_add];exact e)
 rw[List.take_length] at CI
 have HI:=Lib.hid CI
 clear CI h hn hc hx hil
 go_enter Tryz.func151,Tryz.ntmps151
 go_wp2_with (go_at_call 152;go_must (refine HI.out.mono ?_;rintro e w' ⟨rfl,rfl⟩))
 go_ret
 exact⟨rfl,rfl⟩
theorem Good.add {cls cap:Int} {L:List ByteArray} {m:ByteArray} (h:Good cls cap L) (h1:1≤m.size) (h2:m.size≤32) (h3:(L.length:Int) < cap):Good cls cap (L ++ [m]):=
 ⟨h.c1,h.c3,h.k1,h.k64,by simp;omega,fun x hx=>by
  rcases List.mem_append.1 hx with hx | hx
  ·exact h.sz x hx
  ·simp at hx;subst hx;exact⟨h1,h2⟩⟩
theorem put_end {w wq wa:World} {cb:Nat} {cls cap:Int} {L L':List ByteArray} {sv v':Value} {X:Obj} (h0:w.heap[cb]?=some (.cells #[.int .i64 cls,.int .i64 cap,sv] 213 (0,0))) (_:Strs w sv L) (_:Good cls cap L) (hg':Good cls cap L')
  (hq:Frm [] w wq) (hgr:(wq.alloc X).grownBy wa sv.ownBlock) (hst:Strs wa v' L') (hlo:v'.ownBlock=sv.ownBlock∨v'.ownBlock=some (wq.alloc X).heap.size) (hca:wa.heap[cb]?=some (.cells #[.int .i64 cls,.int .i64 cap,sv] 213 (0,0))) :
  ChnTo w cb cls cap L' (cb :: sv.ownBlock.toList) (wa.setCell ⟨cb,2,none⟩ v'):=by
 have hne:v'.ownBlock≠some cb:=fun e=>by
  obtain⟨x,hx⟩:=ownBlock_type hst e
  rw[hca] at hx;cases hx
 refine⟨cb :: v'.ownBlock.toList,⟨v',(block_setCell hca 2 v').trans rfl,ownsRow_setCell_other hst hne v',hg',rfl⟩,?_,fun x hx=>?_⟩
 ·exact(((hq.alloc X).mono (F':=cb :: sv.ownBlock.toList) (by simp)).grown hgr (fun k hk=>.inl (by simp[hk]))).setCell _ (.inl (by simp)) _
 ·simp only[List.mem_cons,Option.mem_toList] at hx ⊢
  rcases hx with rfl | hx
  ·exact .inl (.inl rfl)
  ·rcases hlo with h | h
   ·rw[h] at hx;exact .inl (.inr hx)
   ·rw[h] at hx;simp at hx;have:=hq.size;right;omega
theorem Tryz.info9:(Tryz.prog.info? 9).map (fun i=>(i.zero,i.size,i.bytes))=some (some (.string { data:=#[] }),1,16):=by kernel_rfl
set_option maxHeartbeats 1000000 in
set_option maxRecDepth 100000 in
theorem put_any (cb:Nat) (cls cap:Int) (L:List ByteArray) (F:List Nat) (m:ByteArray) (w:World) (h:Chn w cb cls cap L F) (h1:1≤m.size) (h2:m.size≤32) (h3:(L.length:Int) < cap) :
  Calls Tryz.prog 67 #[.pointer (some ⟨cb,0,none⟩),.string m] w (Ret (.int .i64 0) (ChnTo w cb cls cap (L ++ [m]) F)):=by
 have CN:=Lib.hid (none_any cb cls cap L F w h)
 have HG:=Lib.hid h.good
 have hg:=h.good.lenN
 obtain⟨sv,e1,e2,-,rfl⟩:=h
 have c1:=cell_of e1 1
 have c2:=cell_of e1 2
 obtain⟨ao,c,rfl,-,-⟩:=e2.shape
 have HE1:=Lib.hid e1;have HE2:=Lib.hid e2;have HE0:=Lib.hid e1
 clear e1 e2
 obtain⟨i0,hi,hz0,hz1,hz2⟩:=info_parts Tryz.info9
 have q1:¬ (m.size:Int) < 1:=by omega
 have q2:¬ (32:Int) < (m.size:Int):=by omega
 have q3:((L.length:Int) == cap)=false:=by simp;omega
 go_enter Tryz.func67,Tryz.ntmps67
 go_wp2_with (first
  | (go_at_call 102;go_must (refine CN.out.mono ?_;rintro e w' ⟨rfl,rfl⟩)))
 go_quiet (fail)
 obtain⟨wq,hq1⟩:∃ wq,w.drewN nq=wq:=⟨_,rfl⟩
 have hq2:Frm [] w wq:=by rw[← hq1];exact(Frm.refl [] w).drewN _
 have hqs:w.heap.size=wq.heap.size:=by rw[← hq1];rfl
 rw[hq1]
 have HQ:=Lib.hid hq2
 have c2:=hq2.keep c2
 have HOQ:=Lib.hid (HE2.out.frm hq2 (by simp))
 have HE1:=Lib.hid (hq2.at HE1.out (by simp))
 have fb:=free_of HE1.out 2
 have HQS:=Lib.hid hqs
 have hne:Hid ((Value.slice ao L.length c).ownBlock≠some cb):=Lib.hid (fun e=>by
  obtain⟨x,hx⟩:=ownBlock_type HE2.out e
  rw[HE0.out] at hx;cases hx)
 clear c1 hq1 hq2 hqs
 go_wp2_with (at_builtin;refine wpList_append_own_at _ rfl _ _ 35 rfl 0 9 i0 (.string { data:=#[] }) 1 16 Tryz.underlying35 hi hz0 hz1 hz2 rfl (by decide) _ _ _ rfl (HOQ.out.alloc _) ⟨wq.heap.size,0,none⟩ 1 1 [.string m] rfl rfl (cell_one_new _ _ _) (by simp[Value.oneCell']) (by unfold maxLen;omega) (by omega) (Nat.zero_le _) ?_;intro v' wa hown' hgrow hnil hloc;have hst:Strs wa v' (L ++ [m]):=(by simpa[Strs] using hown');obtain⟨ao',c',hv,-,-⟩:=hst.shape;rw[List.length_append,List.length_cons,List.length_nil,Nat.zero_add] at hv;subst hv;have HST:=Lib.hid hst;have hca:=grown_at hgrow (alloc_at HE1.out) hne.out;have HCA:=Lib.hid hca;have HGR:=Lib.hid hgrow;have HLO:=Lib.hid hloc;have ca2:=cell_of hca 2;have fa2:=free_of hca 2;clear hst hca hown' hgrow hloc hnil)
 go_ret
 exact⟨rfl,put_end HE0.out HE2.out HG.out (HG.out.add h1 h2 h3) HQ.out HGR.out HST.out HLO.out HCA.out⟩
set_option maxHeartbeats 1000000 in
theorem put_all (cb:Nat) (cls cap:Int) (L:List ByteArray) (F:List Nat) (m:ByteArray) (w:World) (h:Chn w cb cls cap L F) :
  Calls Tryz.prog 67 #[.pointer (some ⟨cb,0,none⟩),.string m] w (Ret (.int .i64 (putE cap L m)) (ChnTo w cb cls cap (putL cap L m) F)):=by
 have hlen:=h.good.len
 by_cases h1:m.size < 1
 ·have he:putE cap L m=2:=by simp[putE,h1]
  have q1:(m.size:Int) < 1:=by omega
  rw[putL,he,if_neg (by decide)]
  have CN:=Lib.hid (none_any cb cls cap L F w h)
  have HT:=Lib.hid h.to
  clear h hlen
  go_enter Tryz.func67,Tryz.ntmps67
  go_wp2_with (go_at_call 102;go_must (refine CN.out.mono ?_;rintro e w' ⟨rfl,rfl⟩))
  go_ret
  exact⟨rfl,HT.out⟩
 ·by_cases h2:32 < m.size
  ·have he:putE cap L m=2:=by simp[putE,h2]
   have q1:¬ (m.size:Int) < 1:=by omega
   have q2:(32:Int) < (m.size:Int):=by omega
   rw[putL,he,if_neg (by decide)]
   have CN:=Lib.hid (none_any cb cls cap L F w h)
   have HT:=Lib.hid h.to
   clear h hlen
   go_enter Tryz.func67,Tryz.ntmps67
   go_wp2_with (go_at_call 102;go_must (refine CN.out.mono ?_;rintro e w' ⟨rfl,rfl⟩))
   go_ret
   exact⟨rfl,HT.out⟩
  ·by_cases h3:(L.length:Int)=cap
   ·have he:putE cap L m=7:=by rw[putE,if_neg (by omega),if_pos h3]
    have q1:¬ (m.size:Int) < 1:=by omega
    have q2:¬ (32:Int) < (m.size:Int):=by omega
    have q3:((L.length:Int) == cap)=true:=by simpa using h3
    rw[putL,he,if_neg (by decide)]
    have CN:=Lib.hid (none_any cb cls cap L F w h)
    have HT:=Lib.hid h.to
    obtain⟨sv,e1,e2,-,rfl⟩:=h
    have c1:=cell_of e1 1
    have c2:=cell_of e1 2
    obtain⟨ao,c,rfl,-,-⟩:=e2.shape
    clear e1 e2 hlen
    go_enter Tryz.func67,Tryz.ntmps67
    go_wp2_with (go_at_call 102;go_must (refine CN.out.mono ?_;rintro e w' ⟨rfl,rfl⟩))
    go_quiet (fail)
    go_wp2
    go_ret
    exact⟨rfl,HT.out.frm ((Frm.refl [] _).drewN _)⟩
   ·have he:putE cap L m=0:=by rw[putE,if_neg (by omega),if_neg h3]
    rw[putL,he,if_pos rfl]
    exact put_any cb cls cap L F m w h (by omega) (by omega) (by omega)
end Go.Proofs.YtemjlpahohmajaaGreat
