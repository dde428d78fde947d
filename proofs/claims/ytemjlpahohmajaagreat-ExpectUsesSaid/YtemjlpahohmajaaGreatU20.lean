/- Part of the proof. -/
import Derived.Test.YtemjlpahohmajaaGreatU01
import Derived.Maps.OwnSet
import Derived.Maps.OwnOps
set_option linter.all false
namespace Go.Proofs.YtemjlpahohmajaaGreat
open Go.RowKit Go.Maps
def rawR (v:Value):Option (DataW Value × List MemPlace):=some (.held v,[])
def MapAt (P:Program) (K:TypeId) (w:World) (mb:Option Nat) (n:Nat) (f:Lit→Option Value) (c:Nat):Prop:=
 (mb=none∧(∀ k,f k=none)∧c=0) ∨
 ∃ b D,mb=some b∧w.ownsMap P K rawR b n D∧(∀ k,Maps.has D k=(f k).isSome)∧(∀ k v,f k=some v→∀ z,D.atKey k z=.held v)∧Maps.size D=c
noncomputable def updL (f:Lit→Option Value) (k:Lit) (o:Option Value):Lit→Option Value:=fun x=>@ite _ (x=k) (Classical.propDecidable _) o (f x)
theorem updL_same (f:Lit→Option Value) (k:Lit) (o:Option Value):updL f k o k=o:=by simp[updL]
theorem updL_other (f:Lit→Option Value) {k x:Lit} (o:Option Value) (h:x≠k):updL f k o x=f x:=by simp[updL,h]
theorem atKey_no {D:DataW Value} (hM:Maps.IsMap D) {k:Lit} (h:Maps.has D k=false) (z:DataW Value):D.atKey k z=z:=by
 obtain⟨es,rfl⟩:=hM
 unfold DataW.atKey
 simp only[Maps.has] at h
 have:es.find? (fun p=>p.1.sameKey k)=none:=by
  rw[List.find?_eq_none]
  intro x hx hk
  have:=List.any_eq_false.1 h x hx
  exact this hk
 simp[this]
section
variable {P:Program} {K T E:TypeId} {w:World} {mb:Option Nat} {n c:Nat} {f:Lit→Option Value}
theorem MapAt.made (P:Program) (K:TypeId) (w:World):MapAt P K (w.alloc (.map #[] 0)) (some w.heap.size) 0 (fun _=>Option.none) 0:=
 .inr ⟨_,_,rfl,World.ownsMap_made w P K rawR,fun _=>rfl,fun _ _ h=>(by cases h),rfl⟩
theorem MapAt.frm {F:List Nat} {w':World} (h:MapAt P K w mb n f c) (hf:Frm F w w') (hn:∀ b,mb=some b→b∉F):MapAt P K w' mb n f c:=by
 rcases h with h | ⟨b,D,rfl,ho,r⟩
 ·exact .inl h
 ·obtain⟨es,clock,hb,q⟩:=ho
  exact .inr ⟨b,D,rfl,⟨es,clock,hf.at hb (hn b rfl),q⟩,r⟩
theorem MapAt.block (h:MapAt P K w mb n f c) {b:Nat} (hb:mb=some b):∃ es clock,w.heap[b]?=some (.map es clock):=by
 rcases h with ⟨h,_⟩ | ⟨b',D,h,⟨es,clock,hh,_⟩,_⟩
 ·rw[h] at hb;cases hb
 ·rw[h] at hb;cases hb;exact⟨es,clock,hh⟩
theorem MapAt.look_ok (h:MapAt P K w mb n f c) (hK:Keyed P K) (hT:P.underlying T=some (.map K E)) {z:Value} (hz:(zeroValue E).run P w=.ok z w) {key:Value} {kl:Lit} (hk:keyOf P K key=some kl) :
  (Instr.lookup T (.map mb) key true).run P w=.ok (.tuple #[(f kl).getD z,.bool (f kl).isSome]) w:=by
 rcases h with ⟨rfl,h,_⟩ | ⟨b,D,rfl,ho,h1,h2,_⟩
 ·rw[look_nil true hK hT hz hk];simp[h kl]
 ·obtain⟨v,ps,hrun,hv⟩:=ho.look_ok hK hT hz (zd:=.held z) (zp:=[]) rfl hk
  rw[hrun,h1 kl]
  congr 3
  simp only[rawR,Option.some.injEq,Prod.mk.injEq] at hv
  cases hf:f kl with
  | some x=>rw[h2 kl x hf] at hv;simpa using hv.1
  | none =>
    rw[atKey_no ho.isMap (by rw[h1,hf];rfl)] at hv
    simpa using hv.1
theorem MapAt.look (h:MapAt P K w mb n f c) (hK:Keyed P K) (hT:P.underlying T=some (.map K E)) {z:Value} (hz:(zeroValue E).run P w=.ok z w) {key:Value} {kl:Lit} (hk:keyOf P K key=some kl) :
  (Instr.lookup T (.map mb) key false).run P w=.ok ((f kl).getD z) w:=by
 rcases h with ⟨rfl,h,_⟩ | ⟨b,D,rfl,ho,h1,h2,_⟩
 ·rw[look_nil false hK hT hz hk];simp[h kl]
 ·obtain⟨v,ps,hrun,hv⟩:=ho.lookup hK hT hz (zd:=.held z) (zp:=[]) rfl hk
  rw[hrun]
  congr 1
  simp only[rawR,Option.some.injEq,Prod.mk.injEq] at hv
  cases hf:f kl with
  | some x=>rw[h2 kl x hf] at hv;simpa using hv.1
  | none =>
    rw[atKey_no ho.isMap (by rw[h1,hf];rfl)] at hv
    simpa using hv.1
theorem MapAt.store {b:Nat} (h:MapAt P K w (some b) n f c) (hK:Keyed P K) (hT:P.underlying T=some (.map K E)) (hn:n < maxLen) {key:Value} {kl:Lit} (hk:keyOf P K key=some kl) (hkl:WideAt.IsKeyLit kl) (v:Value) :
  ∃ w',(Instr.mapUpdate T (.map (some b)) key v).run P w=.ok () w'∧MapAt P K w' (some b) (n + 1) (updL f kl (some v)) (if (f kl).isSome then c else c + 1)∧Frm [b] w w':=by
 rcases h with ⟨h,_⟩ | ⟨b',D,h,ho,h1,h2,rfl⟩
 ·cases h
 ·cases h
  obtain⟨w',hrun,ho',hg⟩:=ho.update hK hT hn (d:=.held v) (ps:=[]) hk rfl
  refine⟨w',hrun,.inr ⟨b,_,rfl,ho',fun k=>?_,fun k u hu z=>?_,?_⟩,(Frm.refl _ _).grown hg (by simp)⟩
  ·by_cases e:k=kl
   ·subst e;rw[has_put_same ho.isMap hkl,updL_same];rfl
   ·rw[has_put_other e,h1,updL_other _ _ e]
  ·by_cases e:k=kl
   ·subst e
    rw[updL_same] at hu;cases hu
    exact atKey_put_same ho.isMap hkl _ _
   ·rw[atKey_put_other e]
    rw[updL_other _ _ e] at hu
    exact h2 k u hu z
  ·rw[size_put (ho.tidy hK),h1 kl]
end
end Go.Proofs.YtemjlpahohmajaaGreat
