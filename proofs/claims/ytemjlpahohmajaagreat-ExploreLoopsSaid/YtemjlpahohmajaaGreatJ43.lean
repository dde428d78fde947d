/- Part of the proof. -/
import Derived.Sort.BigQuietIn
import Derived.TacticsInMore
import Derived.WalkKit
import Derived.WalkSpells
import Derived.Deep.QuietTactic
import Derived.Deep.MidRow
import Derived.Deep.WholeRow
import Derived.Lib.SlicesS
import Derived.Shelf.SlGeneric
import Derived.Shelf.SlLaysN
import Derived.Shelf.SlLaysM
import Derived.Ground.SlgnProg
import Derived.Ground.SlgmProg
import Derived.Test.YtemjlpahohmajaaGreatProg
import Derived.BigQuiet
import Derived.StillTail
import Derived.Laws.IdiomStrings
import Derived.Shelf.Bytes.SlSmallAll
import Derived.Deep.Upon
import Derived.ArgAppend
import Derived.Deep.AppendLies
import Derived.Maps.AppendAt
import Derived.Lib.Hide
import Derived.Deep.DeepMust
import Derived.WalkLawsBesides
import Derived.BigRegion
import Derived.Deep.RegionHeld3
import Derived.Deep.RegionLaw
import Derived.Deep.DeepCutAuto
import Derived.Shelf.SlicesG.Clone
import Derived.Shelf.SlicesG.Turned
import Derived.Shelf.SlicesG.Delete
import Derived.Sort.OwnSorted
import Derived.OrdersHeld
import Derived.Lib.SliceRun
import Derived.LoopTactic
import Derived.RangeFuncNested
import Derived.RangeFuncLeaves
import Derived.RangeFuncCalls
import Derived.RangeFuncBound
import Derived.OwnWalkIn
import Derived.LoopNIn
import Derived.LoopIn
import Derived.Lib.Builder
import Derived.Shelf.SortM.Plain
import Derived.Shelf.SortM.SortNone
import Derived.Sort.CutIn
import Derived.OrdersIn
import Derived.Laws.StructEq
import Derived.Laws.OwnMore
import Derived.Maps.OwnSet
import Derived.Maps.OwnOps
import Derived.Laws.EntriesVeiled
import Derived.Laws.Concat
import Derived.Lib.AppendStr
import Derived.LaidEql
import Derived.Test.YtemjlpahohmajaaGreatJ03
import Derived.Test.YtemjlpahohmajaaGreatJ01
import Derived.Test.YtemjlpahohmajaaGreatJ16
import Derived.Test.YtemjlpahohmajaaGreatJ31
import Derived.WalkMore
set_option linter.all false
namespace Go.Proofs.YtemjlpahohmajaaGreat
open Go.RowKit
section
variable {F:Fence} {n:Nat} {P:Program} {ops:Array Oper} {md:Region.Mode} {C:World→Prop}
theorem wpIn_of_quiet_r {o:Oper} {a:Act} {K:Act→Prop} {K':Act→World→Prop} {Q':Exit→Act→World→Prop} {w:World} (hro:∀ c,o.op≠.defer c) (hw:C w) (h:∀ a w',C w'→K a→K' a w')
  (ha:o.askedIn F P a C) (hh:o.quietIn F n P a C K):o.wpIn F n P a w K' Q':=by
 obtain⟨v,h1,h2⟩:=hh
 have h3:=h1 w hw
 unfold Oper.quietAtIn at h3
 unfold Oper.wpIn
 refine⟨ha w hw,?_⟩
 rw[Oper.semAt_eq _ _ _ hro]
 generalize (execOp a.eval o).run P w=r at *
 cases r with
 | ok x w' =>
   cases x <;> simp only[Oper.quietUponIn] at h3 <;> simp only[Oper.uponIn]
   case value u =>
    obtain⟨e1,e2⟩:=h3
    rw[e1,e2]
    exact h _ _ hw h2
   case skip =>
    obtain⟨e1,e2⟩:=h3
    rw[e1,← e2]
    exact h _ _ hw h2
   case enter f args =>
    obtain⟨e1,hd,hc⟩:=h3
    rw[e1]
    exact⟨hd,hc.mono fun e w'' ⟨he,hw''⟩=>by subst he;exact h _ _ hw'' h2⟩
 | halt x w'=>simp only[Oper.quietUponIn] at h3
def noDefer (ops:List Oper):Bool:=ops.all fun o=>match o.op with | .defer _=>false | _=>true
theorem noDefer_at {l:List Oper} (h:noDefer l=true) {o:Oper} (ho:o∈l):∀ c,o.op≠.defer c:=fun c e=>by
 have:=List.all_eq_true.1 h o ho
 rw[e] at this
 cases this
theorem wpOpIn_of_qOpIn_r {i:Nat} {a:Act} {K:Act→Prop} {K':Act→World→Prop} {Q':Exit→Act→World→Prop} {w:World} (hro:noDefer ops.toList=true) (hC:C w) (h:∀ a w',C w'→K a→K' a w')
  (hh:qOpIn F n P ops C i K a):wpOpIn F n P ops Q' i K' a w:=by
 unfold qOpIn at hh
 unfold wpOpIn
 split
 ·rename_i ho;simp only[ho] at hh;exact h _ _ hC hh
 ·rename_i o ho
  simp only[ho] at hh
  obtain⟨ha,hh⟩:=hh
  have hmem:o∈ops.toList:=by
   rw[← Array.getElem?_toList] at ho
   exact List.mem_of_getElem? ho
  split
  ·rename_i hw;simp only[hw,if_true] at hh;exact wpIn_of_quiet_r (noDefer_at hro hmem) hC h ha hh
  ·rename_i hw;simp only[hw] at hh;exact⟨ha w hC,h _ _ hC hh⟩
theorem wpAnyIn_of_quiet_r {Q:Act→Prop} {Q':Exit→Act→World→Prop} (hro:noDefer ops.toList=true) (hQ:∀ a w,C w→Q a→Q' .normal a w):∀ (fuel:Nat) (listed:Array Bool) (a:Act) (w:World),C w →
  wpAnyQIn F n P md ops C Q fuel listed a→wpAnyIn F n P md ops Q' fuel listed a w
 | 0,_,_,_,hw,h=>⟨h.1,hQ _ _ hw h.2⟩
 | fuel + 1,_,_,_,hw,h=>⟨fun h0=>hQ _ _ hw (h.1 h0),fun i hi=>wpOpIn_of_qOpIn_r hro hw (fun a' w' hw'=>wpAnyIn_of_quiet_r hro hQ fuel _ a' w' hw') (h.2 i hi)⟩
end
end Go.Proofs.YtemjlpahohmajaaGreat
namespace Go.Proofs.YtemjlpahohmajaaGreat
open Go.RowKit Go.BigFrame
section
variable {F:Fence} {n:Nat} {P:Program}
theorem wpIn_region_cq {id:Nat} {Q:Exit→Act→World→Prop} {a:Act} {w:World} {l:List Oper} (hro:noDefer l=true) (hm:P.follows .mixedOrders=true) (hB:Region.lexB .any l.toArray=true)
  (h:wpQuietIn F n P l.toArray (Frm [] w) (fun a'=>∀ w',Frm [] w w'→Q .normal a' w') l a):(Code.region id l.toArray true).wpIn F n P Q a w:=by
 simp only[Region.lexB,Bool.and_eq_true] at hB
 refine wpIn_region_any hm (wpAnyIn_of_quiet_r (C:=Frm [] w) (Q:=fun a'=>∀ w',Frm [] w w'→Q .normal a' w') (by simpa using hro) (fun _ w' hw' h=>h w' hw') _ _ _ _ ⟨rfl,rfl,rfl,Nat.le_refl _,fun _ _ _=>rfl⟩ ?_)
 have:=wpAnyQIn_lex (F:=F) (n:=n) (C:=Frm [] w) (md:=.any) hB.1 l 0 (Array.replicate l.toArray.size false) a (by simp) (by simpa using hB.2) (by simpa using h)
 simpa using this
theorem cqi_call {o:Oper} {a:Act} {C:World→Prop} {K:Act→Prop} (v:Value) (f:FuncId) (args:Array Value) (h:∀ w,C w→(execOp a.eval o).run P w=.ok (.enter f args) w) (hd:F.depth.isSome=true→1≤n)
  (hc:∀ w,C w→CallsIn F (n - 1) P f args w fun e w'=>e=.returned v∧C w') (hk:K (a.put o.dst v)):o.quietIn F n P a C K:=
 ⟨v,fun w hC=>by unfold Oper.quietAtIn;rw[h w hC];exact⟨rfl,hd,hc w hC⟩,hk⟩
end
end Go.Proofs.YtemjlpahohmajaaGreat
namespace Go.Proofs.YtemjlpahohmajaaGreat
open Go.RowKit Go.BigFrame
def boxN (v:Value) (W:World):Nat:=match v with
 | .pointer (some p)=>(intOf ((W.cell? p).getD undef)).toNat
 | _=>0
theorem boxN_of {b T:Nat} {W:World} (h:W.cell? ⟨b,0,none⟩=some (.int .i64 (T:Int))):boxN (.pointer (some ⟨b,0,none⟩)) W=T:=by
 unfold boxN
 simp only[h,Option.getD_some,intOf,Int.toNat_natCast]
theorem turn_meas {b b' T m:Nat} {W W':World} (h:W.cell? ⟨b,0,none⟩=some (.int .i64 (T:Int))) (h':W'.cell? ⟨b',0,none⟩=some (.int .i64 ((T + 1:Nat):Int))) (hT:T < m) :
  m - boxN (.pointer (some ⟨b',0,none⟩)) W' < m - boxN (.pointer (some ⟨b,0,none⟩)) W:=by
 rw[boxN_of h,boxN_of h']
 omega
section
variable {α:Type} {W W' W2:World} {T many:Int} {pre:List α} {B:Nat} {c X:Code}
structure TnI (W:World) (T many:Int) (pre:List α) (W':World):Prop where
 fr:Frm [] W W'
 kb:W'.heap[W.heap.size]?=some (.cells #[.int .i64 pre.length] 3 (0,0))
 go:T=0→pre=[]∨(pre.length:Int) < many
structure TnX (X:Code) (W:World) (T many:Int) (c:Code) (pre:List α) (W':World):Prop where
 co:c=X
 fr:Frm [] W W'
 kb:W'.heap[W.heap.size]?=some (.cells #[.int .i64 pre.length] 3 (0,0))
 tz:T=0
 mx:(pre.length:Int)=max 1 many
theorem TnI.bk (h:TnI W T many pre W') (hb:Bk B W' W2) (hB:W.heap.size≤B):TnI W T many pre W2:=⟨hb.old h.fr hB,hb.at h.kb rfl,h.go⟩
theorem TnX.bk (h:TnX X W T many c pre W') (hb:Bk B W' W2) (hB:W.heap.size≤B):TnX X W T many c pre W2:=⟨h.co,hb.old h.fr hB,hb.at h.kb rfl,h.tz,h.mx⟩
theorem TnI.frm (h:TnI W T many pre W') (hf:Frm [] W' W2):TnI W T many pre W2:=⟨h.fr.trans hf,hf.at h.kb (by simp),h.go⟩
theorem TnI.start (W:World) (T many:Int):TnI (α:=α) W T many [] (W.alloc (.cells #[.int .i64 0] 3)):=
 ⟨(Frm.refl _ _).alloc _,alloc_top rfl,fun _=>.inl rfl⟩
theorem TnI.count (h:TnI W T many pre W2) (x:α) {k:Int} (hk:k=pre.length + 1) :
  KB W2 (W2.setCell ⟨W.heap.size,0,none⟩ (.int .i64 k))∧Frm [] W (W2.setCell ⟨W.heap.size,0,none⟩ (.int .i64 k)) ∧
  (W2.setCell ⟨W.heap.size,0,none⟩ (.int .i64 k)).heap[W.heap.size]?=some (.cells #[.int .i64 (pre ++ [x]).length] 3 (0,0)):=by
 subst hk
 have h0:Frm [W.heap.size] W2 (W2.setCell ⟨W.heap.size,0,none⟩ (.int .i64 ((pre.length:Int) + 1))):=(Frm.refl _ _).setCell _ (.inl (by simp)) _
 refine⟨KB.frm h0 ?_,h.fr.then h0 (fun x hx=>.inr (by simp at hx;omega)),?_⟩
 ·intro y hy
  simp at hy
  subst hy
  exact not_books h.kb rfl
 ·refine(block_setCell h.kb 0 _).trans ?_
  simp
theorem TnI.more {k:Int} (h:TnI W T many pre W2) (x:α) (hk:k=pre.length + 1) (hgo:T=0→k < many):KB W2 (W2.setCell ⟨W.heap.size,0,none⟩ (.int .i64 k))∧TnI W T many (pre ++ [x]) (W2.setCell ⟨W.heap.size,0,none⟩ (.int .i64 k)):=by
 obtain⟨h1,h2,h3⟩:=h.count x hk
 exact⟨h1,h2,h3,fun h0=>.inr (by have:=hgo h0;simp;omega)⟩
theorem TnI.last {k:Int} (h:TnI W T many pre W2) (x:α) (hk:k=pre.length + 1) (h0:T=0) (hm:many≤k):KB W2 (W2.setCell ⟨W.heap.size,0,none⟩ (.int .i64 k))∧TnX X W T many X (pre ++ [x]) (W2.setCell ⟨W.heap.size,0,none⟩ (.int .i64 k)):=by
 obtain⟨h1,h2,h3⟩:=h.count x hk
 refine⟨h1,rfl,h2,h3,h0,?_⟩
 have:=h.go h0
 simp
 rcases this with h | h
 ·subst h;simp at hk ⊢;omega
 ·omega
theorem TnI.all {xs:List α} (h:TnI W T many xs W') (h0:T=0):min (xs.length:Int) (max 1 many)=xs.length:=by
 rcases h.go h0 with h | h
 ·subst h;simp;omega
 ·omega
theorem TnX.some {xs rest:List α} {x:α} (h:TnX X W T many c (pre ++ [x]) W') (e:xs=pre ++ x :: rest):min (xs.length:Int) (max 1 many)=((pre ++ [x]).length:Int)∧(pre ++ [x]).length≤xs.length:=by
 have:=h.mx
 subst e
 simp at this ⊢
 omega
end
end Go.Proofs.YtemjlpahohmajaaGreat
namespace Go.Proofs.YtemjlpahohmajaaGreat
open Go.RowKit Go.BigFrame
theorem law_end {w W:World} {ds:List Nat} {r rb:Nat} {fn:Func} {tmps:Array Value} (hF:Frm [] w W) (hb:W.heap[rb]?=some (.cells #[.bool false] 4 (0,0))) (hrb:w.heap.size≤rb) (hm:Ms w ds W)
  (hf:fn.results=#[.cell r 4]:=by rfl) (ht:tmps.getD r undef=.pointer (some ⟨rb,0,none⟩):=by rfl) :
  LeavesInM Fence.wide 3 Tryz.prog fn tmps (Ret (.bool true) (Frm [] w)) (marks ds) .returning (W.setCell ⟨rb,0,none⟩ (.bool true)):=by
 have hs:=block_setCell hb 0 (.bool true)
 have hne:∀ D∈ds,D≠rb:=fun D hD e=>by
  have:=(hm.dl D hD).2
  rw[e,hb] at this;cases this
 refine leaves_many ds _ hm.nd (fun D hD=>setCell_at (hm.dl D hD).2 (hne D hD) _) ⟨.bool true,?_,rfl,(hF.setCell _ (.inr hrb) _).then (unmark_frm ds _) (fun D hD=>.inr (hm.dl D hD).1)⟩
 have hc:(unmark ds (W.setCell ⟨rb,0,none⟩ (.bool true))).cell? ⟨rb,0,none⟩=some (.bool true):=(cell_of ((unmark_frm ds _).at hs (fun h=>hne rb h rfl)) 0).trans rfl
 generalize unmark ds (W.setCell ⟨rb,0,none⟩ (.bool true))=Wf at hc
 have ht':tmps[r]?.getD undef=.pointer (some ⟨rb,0,none⟩):=by simpa using ht
 simp[results,hf,go_sem,hc,ht']
end Go.Proofs.YtemjlpahohmajaaGreat
namespace Go.Proofs.YtemjlpahohmajaaGreat
open Go.RowKit Go.BigFrame Go.Maps
section
variable {F:Fence} {n:Nat} {P:Program} {b:Frame} {a:Act} {k:List Item} {cs:List Frame} {w:World} {Q:Exit→Act→World→Prop}
theorem stepR_scope {c:Code}:step P (lone (b.atR a (.code (.scope c) :: k)) cs w)=.next (lone (b.atR a (.code c :: .inScope c :: k)) cs w):=
 step_lone_go (by simp[stepG,stepG.exec,Frame.atR])
theorem stepR_inScope {c:Code}:step P (lone (b.atR a (.inScope c :: k)) cs w)=.next (lone (b.atR a k) cs w):=
 step_lone_go (by simp[stepG,stepG.exec,Frame.atR])
theorem wpIn_scope_straight {c:Code} (h:c.wpIn F n P (Exit.noGoto Q) a w):(Code.scope c).wpIn F n P Q a w:=by
 intro b k cs hro hb hr
 have h0:(lone (b.atR a (.code (.scope c) :: k)) cs w).fenced P F:=fenced_calm hb hr rfl
 obtain⟨e,a₁,w₁,hq,harr⟩:=h b (.inScope c :: k) cs hro hb hr
 cases e with
 | normal=>exact⟨.normal,a₁,w₁,hq,.head h0 stepR_scope (StepsIn.trans harr (.one (fenced_calm hb hr rfl) stepR_inScope))⟩
 | exit id =>
   have hx:exitTo id (.inScope c :: k)=exitTo id k:=by simp[exitTo]
   exact⟨_,a₁,w₁,hq,fun k' hk=>.head h0 stepR_scope (harr.1 k' (by rw[hx];exact hk)),
    fun hr' hk=>let ⟨k₁,h1,h2⟩:=harr.2 hr' (by rw[hx];exact hk);⟨k₁,h1,.head h0 stepR_scope h2⟩⟩
 | goto l=>exact hq.elim
 | ret=>exact⟨_,a₁,w₁,hq,.of_steps (.one h0 stepR_scope) harr⟩
 | panic ch=>exact⟨_,a₁,w₁,hq,.of_steps (.one h0 stepR_scope) harr⟩
 | outgrown=>exact⟨_,a₁,w₁,hq,.of_steps (.one h0 stepR_scope) harr⟩
end
def StsTo (w:World) (po:Option Addr) (v:Value) (w':World):Prop:=∃ bx,v=.func (.func 58) #[] #[.pointer (some ⟨bx,0,none⟩)]∧w'.heap[bx]?=some (.cells #[.pointer po] 30 (0,0))∧Frm [] w w'
theorem xStates_any (po:Option Addr) (w:World):Calls Tryz.prog 25 #[.pointer po] w (RetV (StsTo w po)):=by
 go_enter Tryz.func25,Tryz.ntmps25
 go_wp2
 go_ret
 exact⟨_,rfl,_,rfl,heap_alloc_new _ _,(Frm.refl _ _).alloc _⟩
structure StI (B:Nat) (s:SesD) (yb pb:Nat) (whole:Bool) (N:List (Nd × Nat)) (W:World):Prop where
 b:W.heap[B]?=some (.cells #[.pointer (some ⟨pb,0,none⟩)] 30 (0,0))
 sp:SpO W s yb whole pb N
set_option maxHeartbeats 2000000 in
set_option maxRecDepth 100000 in
theorem st_iter (B yb pb:Nat) (s:SesD) (whole:Bool) (N:List (Nd × Nat)) (hL:N.length≤1000000) :
  Iter Fence.wide 2 Tryz.prog 58 #[.pointer (some ⟨B,0,none⟩)] (fun e:Nat × Nat=>#[.int .i64 e.1,.pointer (some ⟨e.2,0,none⟩)]) (StI B s yb pb whole N) (numL (N.map Prod.snd)):=by
 intro l J Jx sJ sJx hJR hY W h0
 have HJ:=Lib.hid sJ;have HJR:=Lib.hid hJR;have HY:=Lib.hid hY
 clear sJ sJx hJR hY
 have hr:=HJR.out _ _ h0
 have c0:=cell_of hr.b 0
 have CL:=Lib.hid (xLen_any hr.sp)
 have H0:=Lib.hid h0
 have HNL:Hid ((numL (N.map Prod.snd)).length=N.length):=Lib.hid (by rw[numL_length,List.length_map])
 clear hr h0
 refine callsIn_of_wp Tryz.func58 rfl trivial ?_ rfl
 simp only[Tryz.ntmps58,List.size_toArray,List.length_cons,List.length_nil,Nat.reduceAdd,Nat.reduceSub,Array.replicate_succ,Array.replicate_zero,List.push_toArray,List.append_toArray,List.nil_append,List.cons_append]
 refine wpIn_scope_straight (wpIn_seq (wpIn_label ?_))
 gi_wp2_with (refine⟨trivial,?_⟩;gi_at_call 14;go_must (refine(callsIn_wide.2 CL.out).mono ?_;rintro e w1 ⟨rfl,hf⟩;have HF1:=Lib.hid hf;clear hf CL))
 gi_loopw [6] (fun s wr=>∃ k:Nat,s=.int .i64 k∧k≤N.length∧J ((numL (N.map Prod.snd)).take k) wr) (fun s _=>N.length - (intOf s).toNat)
 case atStart=>exact⟨0,rfl,Nat.zero_le _,HJ.out _ _ _ H0.out HF1.out⟩
 case round =>
  obtain⟨k,rfl,hk,hj⟩:=hrel
  have HJ1:=Lib.hid hj
  clear hj H0 c0
  by_cases hlt:k < N.length
  ·obtain⟨x,hx⟩:∃ x,N[k]?=some x:=⟨_,List.getElem?_eq_getElem hlt⟩
   have hr:=HJR.out _ _ HJ1.out
   have c0:=cell_of hr.b 0
   obtain⟨qb,mb,lim,ao,cap,q1,q2,q3,-⟩:=hr.sp.out
   have p0:=cell_of q1 0
   have p2:=cell_of q2 2
   obtain⟨b,o,rfl,hn⟩:=q3.get hx
   have n0:=hn.c0
   have hnx:(numL (N.map Prod.snd))[k]?=some (k,x.2):=by rw[numL_at,List.getElem?_map,hx];rfl
   have HX:=Lib.hid hnx
   have hJ':=HJ1.out
   clear hr hx hnx q1 q2 q3 hn
   obtain⟨fn,tmps,assign,body,hy,hR⟩:=HY.out ((numL (N.map Prod.snd)).take k) (k,x.2) ((numL (N.map Prod.snd)).drop (k + 1)) _ (take_snoc' HX.out).2 hJ'
   have HRR:=Lib.hid hR
   clear hJ' hR
   have hlt':(k:Int) < N.length:=by omega
   gi_wp2
   refine HRR.out.mono ?_
   rintro e W3 (⟨rfl,hJ3⟩ | ⟨rfl,hJx3⟩)
   ·have HJ3:=Lib.hid hJ3
    clear hJ3
    gi_wp2
    go_roundw
    case rel=>exact⟨k + 1,by go_num,hlt,by rw[(take_snoc' HX.out).1];exact HJ3.out⟩
    case measure=>simp[intOf];omega
   ·have HJ3:=Lib.hid hJx3
    clear hJx3
    gi_wp2
    rw[Exit.noGoto_normal]
    change bodyPost Tryz.prog Tryz.f58 (fun e W'=>(∃ v,e=Ending.returned v)∧(J (numL (N.map Prod.snd)) W'∨∃ pre x rest,numL (N.map Prod.snd)=pre ++ x :: rest∧Jx (pre ++ [x]) W')) Exit.normal _ _
    go_end0
    exact⟨⟨_,rfl⟩,.inr ⟨_,_,_,(take_snoc' HX.out).2,HJ3.out⟩⟩
  ·have hge:¬ (k:Int) < N.length:=by omega
   gi_wp2
   try rw[Exit.noGoto_normal]
   go_end0
   refine⟨⟨_,rfl⟩,.inl ?_⟩
   have:=HJ1.out
   rwa [List.take_of_length_le (by rw[HNL.out];omega)] at this
end Go.Proofs.YtemjlpahohmajaaGreat
