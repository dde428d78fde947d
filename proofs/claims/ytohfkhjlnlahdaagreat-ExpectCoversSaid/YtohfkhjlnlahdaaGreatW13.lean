/- Part of the proof. -/
import Derived.Test.YtohfkhjlnlahdaaGreatW01
import Derived.Deep.MidRow
import Derived.Deep.WholeRow
import Derived.BigQuiet
import Derived.StillTail
import Derived.Maps.OwnSet
import Derived.Maps.OwnOps
set_option linter.all false
namespace Go.Proofs.YtohfkhjlnlahdaaGreat
open Go.RowKit Go.BigFrame
section
variable {P:Program} {ops:Array Oper} {md:Region.Mode} {C:World→Prop}
def wpAnyT (P:Program) (md:Region.Mode) (ops:Array Oper) (C:World→Prop) (n:Nat) (L:Array Bool→Act→Prop):Nat→Array Bool→Act→Prop
 | 0,listed,a=>L listed a
 | f + 1,listed,a=>Region.ready md ops listed≠[]∧∀ i∈Region.ready md ops listed,i < n∧qOp P ops C i (wpAnyT P md ops C n L f (listed.setIfInBounds i true)) a
theorem wpAny_of_headT {n g:Nat} {L:Array Bool→Act→Prop} {Q':Exit→Act→World→Prop} (hL:∀ listed a w,C w→L listed a→wpAny P md ops Q' g listed a w) :
  ∀ (f:Nat) (listed:Array Bool) (a:Act) (w:World),C w→wpAnyT P md ops C n L f listed a→wpAny P md ops Q' (f + g) listed a w
 | 0,listed,a,w,hw,h=>by rw[Nat.zero_add];exact hL _ _ _ hw h
 | f + 1,listed,a,w,hw,h=>by
   rw[show f + 1 + g=(f + g) + 1 by omega]
   exact⟨fun h0=>absurd h0 h.1,fun i hi=>wpOp_of_qOp hw (fun a' w' hw' h'=>wpAny_of_headT hL f _ a' w' hw' h') (h.2 i hi).2⟩
theorem wpAnyT_first {n i:Nat} {oi:Oper} {v:Value} {L:Array Bool→Act→Prop} (hi:ops[i]?=some oi) (hsel:∀ (j:Nat) (o:Oper) cs b,ops[j]?=some o→o.op≠.select cs b)
  (hs:Region.sinkB md ops n=true) (hc:Region.chainB md ops n=true) (hn:n < ops.size) (hin:i < n)
  (hdone:∀ listed a,L listed a→∀ j∈Region.ready md ops listed,n≤j) :
  ∀ (f:Nat) (listed:Array Bool) (a:Act),HeadInv md ops n listed →
    (∀ j oj,ops[j]?=some oj→j≠i→listed.getD j true=false→(∀ e∈oj.after,Region.binds md e=true→e.on≠i)→oi.apart ops oj=true) →
    i∈Region.ready md ops listed→YieldsIn P ops C oi v a →
    wpAnyT P md ops C n L f (listed.setIfInBounds i true) (a.put oi.dst v)→wpAnyT P md ops C n L (f + 1) listed a:=by
 intro f
 induction f with
 | zero =>
   intro listed a inv _ hr hy H
   have hun:=(mem_ready.1 hr).1
   refine⟨fun h=>(by rw[h] at hr;cases hr),fun j hj=>?_⟩
   have hjn:j < n:=by
    rcases Nat.lt_or_ge j n with h | h
    ·exact h
    ·exact absurd hj (tail_waits hs hc hn inv _ i rfl hin hun j h)
   refine⟨hjn,?_⟩
   by_cases hji:j=i
   ·subst hji;exact hy.qOp hi H
   ·have:=hdone _ _ H j (ready_mono hj hji)
    omega
 | succ f ih =>
   intro listed a inv hfree hr hy H
   have hun:=(mem_ready.1 hr).1
   refine⟨fun h=>(by rw[h] at hr;cases hr),fun j hj=>?_⟩
   have hjn:j < n:=by
    rcases Nat.lt_or_ge j n with h | h
    ·exact h
    ·exact absurd hj (tail_waits hs hc hn inv _ i rfl hin hun j h)
   refine⟨hjn,?_⟩
   by_cases hji:j=i
   ·subst hji;exact hy.qOp hi H
   ·have h1:=(H.2 j (ready_mono hj hji)).2
    obtain⟨hjun,oj,hoj,hall⟩:=mem_ready.1 hj
    have hnot:∀ e∈oj.after,Region.binds md e=true→e.on≠i:=fun e he hb heq=>by
     have h1:=hall e he hb
     rw[heq,getD_both hun] at h1
     cases h1
    have h2:=qOp_put hoj (hfree j oj hoj hji hjun hnot) (fun cs b=>hsel i oi cs b hi) (fun cs b=>hsel j oj cs b hoj) hy h1
    have hfree':∀ k ok,ops[k]?=some ok→k≠i→(listed.setIfInBounds j true).getD k true=false →
      (∀ e∈ok.after,Region.binds md e=true→e.on≠i)→oi.apart ops ok=true:=fun k ok hk hki hun hno=>by
     refine hfree k ok hk hki ?_ hno
     by_cases hjk:j=k
     ·subst hjk;exact hjun
     ·rw[getD_set_ne true hjk] at hun;exact hun
    refine qOp_mono (fun a' h3=>ih (listed.setIfInBounds j true) a' (inv.set hj hjn) hfree' (ready_mono hr (Ne.symm hji)) h3.1 ?_) h2
    rw[Array.setIfInBounds_comm _ _ hji]
    exact h3.2
theorem wpAnyT_lex {n g:Nat} {Lq:Act→Prop} (hsel:Region.noSelect ops=true) (hs:Region.sinkB md ops n=true) (hc:Region.chainB md ops n=true) (hn:n < ops.size) :
  ∀ (l:List Oper) (k:Nat) (listed:Array Bool) (a:Act),(∀ j,j < l.length→l[j]?=ops[k + j]?)→k + l.length=n→HeadInv md ops n listed →
  Region.lexHead md ops g l.length k listed=true→wpQuiet P ops C Lq l a →
  wpAnyT P md ops C n (fun listed' a'=>Region.seqB md ops g n listed'=true∧Lq a') l.length listed a
 | [],k,listed,a,_,hk,_,hB,h=>by
   have:k=n:=by simpa using hk
   subst this
   exact⟨by simpa[Region.lexHead] using hB,h⟩
 | o :: l,k,listed,a,hl,hk,inv,hB,h=>by
   have h0:ops[k]?=some o:=by simpa using (hl 0 (by simp)).symm
   simp only[List.length_cons,Region.lexHead,Bool.and_eq_true] at hB
   obtain⟨⟨hr,hf⟩,hB'⟩:=hB
   have hkn:k < n:=by simp only[List.length_cons] at hk;omega
   have hr':k∈Region.ready md ops listed:=by simpa using hr
   have hst:qOp P ops C k (wpQuiet P ops C Lq l) a:=by unfold qOp;simp only[h0];exact h
   obtain⟨v,hy,hK⟩:=yieldsIn_of_qOp h0 hst
   exact wpAnyT_first h0 (Region.noSelect_spec hsel) hs hc hn hkn (fun listed' a' hL=>seqB_ready hL.1) l.length listed a inv (Region.free_spec h0 hf) hr' hy
    (wpAnyT_lex hsel hs hc hn l (k + 1) _ _ (fun j hj=>by have:=hl (j + 1) (by simp;omega);simpa[Nat.add_assoc,Nat.add_comm 1 j] using this) (by simp only[List.length_cons] at hk;omega) (inv.set hr' hkn) hB' hK)
theorem wp_region_cq_tail (C:World→Prop) {id:Nat} {Q:Exit→Act→World→Prop} {a:Act} {w:World} {l:List Oper} (n:Nat) (hm:P.follows .mixedOrders=true) (hB:Region.lexTailB .any l.toArray n=true)
  (hC:C { w with drawn:=w.drawn + 1 }) (h:wpQuiet P l.toArray C (fun a'=>∀ w',C w'→wpList P l.toArray Q (l.drop n) a' w') (l.take n) a):(Code.region id l.toArray true).wp P Q a w:=by
 simp only[Region.lexTailB,Bool.and_eq_true,decide_eq_true_eq] at hB
 obtain⟨⟨⟨⟨hsel,hn⟩,hs⟩,hc⟩,hlex⟩:=hB
 have hn':n < l.length:=by simpa using hn
 have htl:(l.take n).length=n:=by simp;omega
 have hdl:(l.drop n).length=l.toArray.size - n:=by simp
 have inv0:HeadInv .any l.toArray n (Array.replicate l.toArray.size false):=
  ⟨by simp,fun j oj _ hl=>(by rw[getD_replicate_false] at hl;cases hl),fun t _ ht=>getD_in (by simpa using ht) (getD_replicate_false _ _)⟩
 have H:=wpAnyT_lex (md:=.any) (g:=l.toArray.size - n) hsel hs hc hn (l.take n) 0 _ a (fun j hj=>by
  have hj':j < n:=by rw[htl] at hj;exact hj
  simp[hj']) (by simpa using htl) inv0 (by rw[htl];exact hlex) h
 refine wp_region_any hm ?_
 have:=wpAny_of_headT (Q':=Q) (g:=l.toArray.size - n) (fun listed a' w' hw' hL=>by
  have:=wpAny_of_seq (md:=.any) (Q':=Q) (l.drop n) n listed a' w' (fun j=>by simp[List.getElem?_drop]) (by rw[hdl];exact hL.1) (hL.2 w' hw')
  rwa [hdl] at this) _ _ _ _ hC H
 rw[htl,show n + (l.toArray.size - n)=l.toArray.size by omega] at this
 exact this
end
theorem wp_region_cq {P:Program} {id:Nat} {Q:Exit→Act→World→Prop} {a:Act} {w:World} {l:List Oper} (hm:P.follows .mixedOrders=true) (hB:Region.lexB .any l.toArray=true)
  (h:wpQuiet P l.toArray (Frm [] w) (fun a'=>∀ w',Frm [] w w'→Q .normal a' w') l a):(Code.region id l.toArray true).wp P Q a w:=
 wp_region_quiet (C:=Frm [] w) hm hB ⟨rfl,rfl,rfl,Nat.le_refl _,fun _ _ _=>rfl⟩ (by simpa using h)
theorem wp_region_cqt {P:Program} {id:Nat} {Q:Exit→Act→World→Prop} {a:Act} {w:World} {l:List Oper} (n:Nat) (hm:P.follows .mixedOrders=true) (hB:Region.lexTailB .any l.toArray n=true)
  (h:wpQuiet P l.toArray (Frm [] w) (fun a'=>∀ w',Frm [] w w'→wpList P l.toArray Q (l.drop n) a' w') (l.take n) a):(Code.region id l.toArray true).wp P Q a w:=
 wp_region_cq_tail (Frm [] w) n hm hB ⟨rfl,rfl,rfl,Nat.le_refl _,fun _ _ _=>rfl⟩ h
section
variable {P:Program} {o:Oper} {a:Act} {C:World→Prop} {K:Act→Prop}
theorem cq_val (v:Value) (h:∀ w,C w→(execOp a.eval o).run P w=.ok (.value v) w) (hk:K (a.put o.dst v)):o.quiet P a C K:=
 ⟨v,fun w hC=>by unfold Oper.quietAt;rw[h w hC];exact⟨rfl,rfl⟩,hk⟩
theorem cq_call (v:Value) (f:FuncId) (args:Array Value) (h:∀ w,C w→(execOp a.eval o).run P w=.ok (.enter f args) w) (hc:∀ w,C w→Calls P f args w fun e w'=>e=.returned v∧C w') (hk:K (a.put o.dst v)):o.quiet P a C K:=
 ⟨v,fun w hC=>by unfold Oper.quietAt;rw[h w hC];exact⟨rfl,hc w hC⟩,hk⟩
theorem cq_rowC (ty:TypeId) (x:Operand) (ho:o.op=.load ty x) (b:Nat) (hx:a.eval x=.pointer (some ⟨b,0,none⟩)) (A:Array Value) (t:TypeId) (hb:∀ w,C w→w.heap[b]?=some (.cells A t (0,0)))
  (d:TypeDesc) (hu:P.underlying ty=some d) (hd:(match d with | .struct _ | .array _ _=>true | _=>false)=true) (hi:(P.info? ty).map (·.size)=some A.size) (hk:K (a.put o.dst (.agg A))):o.quiet P a C K:=
 cq_val (.agg A) (fun w hC=>by
  unfold execOp
  simp only[ho,hx,Instr.loadAt,Instr.sureAddr,Sem.run_bind,Sem.run_pure,Result.andThen_ok,run_loadVar_row w b t ty A (0,0) d (hb w hC) hu hd hi]) hk
theorem cq_row {w0:World} (ty:TypeId) (x:Operand) (ho:o.op=.load ty x) (b:Nat) (hx:a.eval x=.pointer (some ⟨b,0,none⟩)) (A:Array Value) (t:TypeId) (hb:w0.heap[b]?=some (.cells A t (0,0)))
  (d:TypeDesc) (hu:P.underlying ty=some d) (hd:(match d with | .struct _ | .array _ _=>true | _=>false)=true) (hi:(P.info? ty).map (·.size)=some A.size) (hk:K (a.put o.dst (.agg A))):o.quiet P a (Frm [] w0) K:=
 cq_val (.agg A) (fun w hC=>by
  unfold execOp
  simp only[ho,hx,Instr.loadAt,Instr.sureAddr,Sem.run_bind,Sem.run_pure,Result.andThen_ok,run_loadVar_row w b t ty A (0,0) d (hC.at hb (by simp)) hu hd hi]) hk
end
theorem Ret.cq {v:Value} {R:World→Prop} {C:World→Prop} {P:Program} {f:FuncId} {args:Array Value} {w:World} (h:Calls P f args w (Ret v R)) (hR:∀ w',R w'→C w'):Calls P f args w fun e w'=>e=.returned v∧C w':=
 h.mono fun _ w' ⟨he,hr⟩=>⟨he,hR w' hr⟩
end Go.Proofs.YtohfkhjlnlahdaaGreat
namespace Go.Proofs.YtohfkhjlnlahdaaGreat
open Go.RowKit Go.Maps
def rawR (v:Value):Option (DataW Value × List MemPlace):=some (.held v,[])
def MapAt (P:Program) (K:TypeId) (w:World) (mb:Option Nat) (n:Nat) (f:Lit→Option Value) (c:Nat):Prop:=
 (mb=none∧(∀ k,f k=none)∧c=0) ∨
 ∃ b D,mb=some b∧w.ownsMap P K rawR b n D∧(∀ k,Maps.has D k=(f k).isSome)∧(∀ k v,f k=some v→∀ z,D.atKey k z=.held v)∧Maps.size D=c
noncomputable def updL (f:Lit→Option Value) (k:Lit) (o:Option Value):Lit→Option Value:=fun x=>@ite _ (x=k) (Classical.propDecidable _) o (f x)
theorem updL_same (f:Lit→Option Value) (k:Lit) (o:Option Value):updL f k o k=o:=by simp[updL]
theorem updL_other (f:Lit→Option Value) {k x:Lit} (o:Option Value) (h:x≠k):updL f k o x=f x:=by simp[updL,h]
theorem atKey_no {D:DataW Value} (hM:Maps.IsMap D) {k:Lit} (h:Maps.has D k=false) (z:DataW Value):D.atKey k z=z:=by
 obtain⟨es,rfl⟩:=hM
 unfold DataW.atKey
 simp only[Maps.has] at h
 have:es.find? (fun p=>p.1.sameKey k)=none:=by
  rw[List.find?_eq_none]
  intro x hx hk
  have:=List.any_eq_false.1 h x hx
  exact this hk
 simp[this]
section
variable {P:Program} {K T E:TypeId} {w:World} {mb:Option Nat} {n c:Nat} {f:Lit→Option Value}
theorem MapAt.made (P:Program) (K:TypeId) (w:World):MapAt P K (w.alloc (.map #[] 0)) (some w.heap.size) 0 (fun _=>Option.none) 0:=
 .inr ⟨_,_,rfl,World.ownsMap_made w P K rawR,fun _=>rfl,fun _ _ h=>(by cases h),rfl⟩
theorem MapAt.frm {F:List Nat} {w':World} (h:MapAt P K w mb n f c) (hf:Frm F w w') (hn:∀ b,mb=some b→b∉F):MapAt P K w' mb n f c:=by
 rcases h with h | ⟨b,D,rfl,ho,r⟩
 ·exact .inl h
 ·obtain⟨es,clock,hb,q⟩:=ho
  exact .inr ⟨b,D,rfl,⟨es,clock,hf.at hb (hn b rfl),q⟩,r⟩
theorem MapAt.block (h:MapAt P K w mb n f c) {b:Nat} (hb:mb=some b):∃ es clock,w.heap[b]?=some (.map es clock):=by
 rcases h with ⟨h,_⟩ | ⟨b',D,h,⟨es,clock,hh,_⟩,_⟩
 ·rw[h] at hb;cases hb
 ·rw[h] at hb;cases hb;exact⟨es,clock,hh⟩
theorem MapAt.look_ok (h:MapAt P K w mb n f c) (hK:Keyed P K) (hT:P.underlying T=some (.map K E)) {z:Value} (hz:(zeroValue E).run P w=.ok z w) {key:Value} {kl:Lit} (hk:keyOf P K key=some kl) :
  (Instr.lookup T (.map mb) key true).run P w=.ok (.tuple #[(f kl).getD z,.bool (f kl).isSome]) w:=by
 rcases h with ⟨rfl,h,_⟩ | ⟨b,D,rfl,ho,h1,h2,_⟩
 ·rw[look_nil true hK hT hz hk];simp[h kl]
 ·obtain⟨v,ps,hrun,hv⟩:=ho.look_ok hK hT hz (zd:=.held z) (zp:=[]) rfl hk
  rw[hrun,h1 kl]
  congr 3
  simp only[rawR,Option.some.injEq,Prod.mk.injEq] at hv
  cases hf:f kl with
  | some x=>rw[h2 kl x hf] at hv;simpa using hv.1
  | none =>
    rw[atKey_no ho.isMap (by rw[h1,hf];rfl)] at hv
    simpa using hv.1
theorem MapAt.look (h:MapAt P K w mb n f c) (hK:Keyed P K) (hT:P.underlying T=some (.map K E)) {z:Value} (hz:(zeroValue E).run P w=.ok z w) {key:Value} {kl:Lit} (hk:keyOf P K key=some kl) :
  (Instr.lookup T (.map mb) key false).run P w=.ok ((f kl).getD z) w:=by
 rcases h with ⟨rfl,h,_⟩ | ⟨b,D,rfl,ho,h1,h2,_⟩
 ·rw[look_nil false hK hT hz hk];simp[h kl]
 ·obtain⟨v,ps,hrun,hv⟩:=ho.lookup hK hT hz (zd:=.held z) (zp:=[]) rfl hk
  rw[hrun]
  congr 1
  simp only[rawR,Option.some.injEq,Prod.mk.injEq] at hv
  cases hf:f kl with
  | some x=>rw[h2 kl x hf] at hv;simpa using hv.1
  | none =>
    rw[atKey_no ho.isMap (by rw[h1,hf];rfl)] at hv
    simpa using hv.1
theorem MapAt.store {b:Nat} (h:MapAt P K w (some b) n f c) (hK:Keyed P K) (hT:P.underlying T=some (.map K E)) (hn:n < maxLen) {key:Value} {kl:Lit} (hk:keyOf P K key=some kl) (hkl:WideAt.IsKeyLit kl) (v:Value) :
  ∃ w',(Instr.mapUpdate T (.map (some b)) key v).run P w=.ok () w'∧MapAt P K w' (some b) (n + 1) (updL f kl (some v)) (if (f kl).isSome then c else c + 1)∧Frm [b] w w':=by
 rcases h with ⟨h,_⟩ | ⟨b',D,h,ho,h1,h2,rfl⟩
 ·cases h
 ·cases h
  obtain⟨w',hrun,ho',hg⟩:=ho.update hK hT hn (d:=.held v) (ps:=[]) hk rfl
  refine⟨w',hrun,.inr ⟨b,_,rfl,ho',fun k=>?_,fun k u hu z=>?_,?_⟩,(Frm.refl _ _).grown hg (by simp)⟩
  ·by_cases e:k=kl
   ·subst e;rw[has_put_same ho.isMap hkl,updL_same];rfl
   ·rw[has_put_other e,h1,updL_other _ _ e]
  ·by_cases e:k=kl
   ·subst e
    rw[updL_same] at hu;cases hu
    exact atKey_put_same ho.isMap hkl _ _
   ·rw[atKey_put_other e]
    rw[updL_other _ _ e] at hu
    exact h2 k u hu z
  ·rw[size_put (ho.tidy hK),h1 kl]
end
end Go.Proofs.YtohfkhjlnlahdaaGreat
namespace Go.Proofs.YtohfkhjlnlahdaaGreat
open Go.RowKit
theorem setCells_block:∀ (vs:List Value) (o:Nat) (w:World) (b:Nat) (c:Array Value) (t:TypeId),w.heap[b]?=some (.cells c t (0,0))→o + vs.length≤c.size →
  ∃ c',(w.setCells b o vs).heap[b]?=some (.cells c' t (0,0))∧c'.size=c.size∧(∀ j,j < o→c'[j]?=c[j]?)∧(∀ j v,vs[j]?=some v→c'[o + j]?=some v)∧Frm [b] w (w.setCells b o vs)
 | [],o,w,b,c,t,h,_=>⟨c,h,rfl,fun _ _=>rfl,fun j v h=>by simp at h,Frm.refl _ _⟩
 | v :: vs,o,w,b,c,t,h,hl=>by
   have hb:=block_setCell h o v
   simp only[List.length_cons] at hl
   obtain⟨c',h1,h2,h3,h4,h5⟩:=setCells_block vs (o + 1) (w.setCell ⟨b,o,none⟩ v) b _ t hb (by simp;omega)
   refine⟨c',h1,by simpa using h2,fun j hj=>?_,fun j u hu=>?_,((Frm.refl _ _).setCell _ (.inl (by simp)) _).trans h5⟩
   ·rw[h3 j (by omega),Array.getElem?_setIfInBounds_ne (by omega)]
   ·cases j with
    | zero =>
      simp at hu;subst hu
      rw[Nat.add_zero,h3 o (by omega),Array.getElem?_setIfInBounds_self_of_lt (by omega)]
    | succ j =>
      rw[show o + (j + 1)=o + 1 + j by omega]
      exact h4 j u (by simpa using hu)
theorem setCells_whole {w:World} {b:Nat} {c:Array Value} {t:TypeId} (h:w.heap[b]?=some (.cells c t (0,0))) (A:Array Value) (hs:A.size=c.size) :
  (w.setCells b 0 A.toList).heap[b]?=some (.cells A t (0,0))∧Frm [b] w (w.setCells b 0 A.toList):=by
 obtain⟨c',h1,h2,_,h4,h5⟩:=setCells_block A.toList 0 w b c t h (by simp[hs])
 refine⟨?_,h5⟩
 rw[h1]
 congr 2
 apply Array.ext_getElem?
 intro i
 by_cases hi:i < A.size
 ·have:=h4 i A[i] (by simp[hi])
  rw[Nat.zero_add] at this
  rw[this];simp[hi]
 ·rw[Array.getElem?_eq_none (by omega),Array.getElem?_eq_none (by omega)]
section
variable {P:Program} {ops:Array Oper} {rest:List Oper} {o:Oper} {a:Act} {Q:Exit→Act→World→Prop} {w:World}
theorem run_box_row (w:World) (ty:TypeId) (A:Array Value):(Instr.box ty (.agg A)).run P w=.ok (.pointer (some ⟨w.heap.size,0,none⟩)) (w.alloc (.cells A ty)):=by
 simp[Instr.box,newVar,newRow,Value.cells,go_sem]
theorem wpList_box_row (hgd:o.guard=none) (ty:TypeId) (x:Operand) (ho:o.op=.box ty x) (A:Array Value) (he:a.eval x=.agg A)
  (h:wpList P ops Q rest (a.put o.dst (.pointer (some ⟨w.heap.size,0,none⟩))) (w.alloc (.cells A ty))):wpList P ops Q (o :: rest) a w:=
 wpList_plain hgd fun _ hK=>by
  unfold Oper.wp execOp
  simp only[ho,he,Sem.run_bind,Sem.run_pure,Result.andThen_ok,run_box_row w ty A]
  exact hK _ _ h
theorem wpList_store_row (hgd:o.guard=none) (ty:TypeId) (x y:Operand) (ho:o.op=.store ty x y) (b:Nat) (A C:Array Value) (t:TypeId) (hx:a.eval x=.pointer (some ⟨b,0,none⟩)) (hy:a.eval y=.agg A)
  (hb:w.heap[b]?=some (.cells C t (0,0))) (hs:A.size=C.size) (hi:(P.info? ty).map (·.size)=some A.size) (h1:A.all (·.oneCell')=true)
  (h:∀ w',w'.heap[b]?=some (.cells A t (0,0))→Frm [b] w w'→wpList P ops Q rest (a.put o.dst undef) w'):wpList P ops Q (o :: rest) a w:=by
 have hw:=setCells_whole hb A hs
 refine wpList_store_mid hgd ty x y ho b 0 A hx hy (fun j hj=>⟨?_,?_⟩) hi h1 (h _ hw.1 hw.2)
 ·rw[Nat.zero_add,cell_of hb];simp[show j < C.size by omega]
 ·rw[Nat.zero_add];exact free_of hb j
theorem wpList_load_whole (hgd:o.guard=none) (ty:TypeId) (x:Operand) (ho:o.op=.load ty x) (b:Nat) (hx:a.eval x=.pointer (some ⟨b,0,none⟩)) (A:Array Value) (t:TypeId) (hb:w.heap[b]?=some (.cells A t (0,0)))
 (d:TypeDesc) (hu:P.underlying ty=some d) (hd:(match d with | .struct _ | .array _ _=>true | _=>false)=true) (hi:(P.info? ty).map (·.size)=some A.size)
 (h:wpList P ops Q rest (a.put o.dst (.agg A)) w):wpList P ops Q (o :: rest) a w:=wpList_load_row hgd ty x ho b hx t A (0,0) d hb hu hd hi h
end
end Go.Proofs.YtohfkhjlnlahdaaGreat
