/- Part of the proof. -/
import Derived.Lib.SlicesS
set_option linter.all false
namespace Go.Proofs.YtohfkhjlnlahdaaGreat
open Go
theorem ag {α:Type} {l:List α} {k:Nat} {x:α} (a:l[k]?=some x):k<l.length:=(List.getElem?_eq_some_iff.1 a).1
def byt (b:ByteArray):List UInt8:=b.data.toList
def chc (cls:Int) (L:List ByteArray) (i:Nat):Bool:=if cls=2 then Lib.idxOfS L (L.getD i ByteArray.empty) == (i:Int) else ((i:Int) == 0)
def cK (cls:Int) (L:List ByteArray) (p:Int):Bool:=decide (0≤p∧p<(L.length:Int)) && chc cls L p.toNat
def dm (cls:Int) (L:List ByteArray) (p:Int):ByteArray:=if cK cls L p then L.getD p.toNat ByteArray.empty else { data:=#[] }
def cZ (cls:Int) (L:List ByteArray) (p:Int):Int:=if cK cls L p then 0 else 9
def dG (cls:Int) (L:List ByteArray) (p:Int):List ByteArray:=if cK cls L p then L.eraseIdx p.toNat else L
def iX (cls:Int) (L:List ByteArray):ByteArray:=if cls=3 then dm cls L 0 else { data:=#[] }
def fJ (cls:Int) (L:List ByteArray):Int:=if cls=3 then cZ cls L 0 else 8
def eZ (cls:Int) (L:List ByteArray):List ByteArray:=if cls=3 then dG cls L 0 else L
def eq (cap:Int) (L:List ByteArray) (m:ByteArray):Int:=if m.size<1∨32<m.size then 2 else if (L.length:Int)=cap then 7 else 0
def gv (cap:Int) (L:List ByteArray) (m:ByteArray):List ByteArray:=if eq cap L m=0 then L++[m] else L
def cX (cls:Int) (L:List ByteArray):Nat→List (Nat × ByteArray)
 | 0=>[]
 | k+1=>cX cls L k++if chc cls L k then [(k,L.getD k ByteArray.empty)] else []
theorem ky {cls:Int} {L:List ByteArray} {k:Nat} (h:k<L.length) (E:chc cls L k=true):∃ rest,cX cls L L.length=cX cls L k++(k,L.getD k ByteArray.empty) :: rest:=by
 obtain⟨d,a⟩:=Nat.exists_eq_add_of_lt h
 rw[a]
 clear a h
 induction d with
 | zero=>exact⟨[],by simp[cX,E]⟩
 | succ d ih =>
   obtain⟨rest,A⟩:=ih
   refine⟨rest++if chc cls L (k+d+1) then [(k+d+1,L.getD (k+d+1) ByteArray.empty)] else [],?_⟩
   rw[show k+(d+1)+1=(k+d+1)+1 by omega,cX,A]
   simp
def nf (L:List ByteArray) (k:Nat):Nat→Bool
 | 0=>true
 | j+1=>nf L k j && !decide (L.getD j ByteArray.empty=L.getD k ByteArray.empty)
theorem rZ {L:List ByteArray} {k:Nat}:∀ j,nf L k j=true↔∀ i,i<j→L.getD i ByteArray.empty≠L.getD k ByteArray.empty
 | 0=>by simp[nf]
 | j+1=>by
   rw[nf,Bool.and_eq_true,rZ j]
   constructor
   ·rintro⟨h,A⟩ i E
    by_cases e:i=j
    ·subst e;simpa using A
    ·exact h i (by omega)
   ·intro a
    exact⟨fun i E=>a i (by omega),by simpa using a j (by omega)⟩
theorem oA {L:List ByteArray} {m:ByteArray} {p:Nat} (a:Lib.idxOfS L m=(p:Int)):∀ k,k<p→k<L.length→L.getD k ByteArray.empty≠m:=by
 intro k
 induction k using Nat.strongRecOn with
 | _ k ih =>
   intro I G H
   have h:=Lib.idxOfS_hit L L.length k m G (Nat.le_refl _) H (fun j E A=>ih j E (by omega) (by omega) A)
   rw[List.take_length,a] at h
   omega
theorem tC {L:List ByteArray} {k:Nat} (H:k<L.length):chc 2 L k=nf L k k:=by
 rw[Bool.eq_iff_iff,rZ]
 unfold chc
 rw[if_pos rfl,beq_iff_eq]
 constructor
 ·intro a i E
  exact oA a i E (by omega)
 ·intro a
  have h:=Lib.idxOfS_hit L L.length k _ H (Nat.le_refl _) rfl (fun j G A=>a j G A)
  rw[List.take_length] at h
  exact h
def chp (cls:Int) (L:List ByteArray) (k:Nat):List Nat:=(cX cls L k).map (·.1)
theorem fg (cls:Int) (L:List ByteArray) (k:Nat):chp cls L (k+1)=if chc cls L k then chp cls L k++[k] else chp cls L k:=by
 unfold chp
 rw[cX]
 split <;> simp
theorem gq (cls:Int) (L:List ByteArray):∀ k,(chp cls L k).length≤k
 | 0=>by simp[chp,cX]
 | k+1=>by
   have:=gq cls L k
   rw[fg]
   split
   ·simp;omega
   ·omega
theorem gI {cls:Int} {L:List ByteArray} {p:Nat}:∀ n,p∈chp cls L n↔p<n∧chc cls L p=true
 | 0=>by simp[chp,cX]
 | n+1=>by
   rw[fg]
   split
   ·rename_i A
    rw[List.mem_append,gI n,List.mem_singleton]
    constructor
    ·rintro(h | rfl)
     ·exact⟨by omega,h.2⟩
     ·exact⟨by omega,A⟩
    ·rintro⟨h,a⟩
     by_cases e:p=n
     ·exact .inr e
     ·exact .inl ⟨by omega,a⟩
   ·rename_i A
    rw[gI n]
    constructor
    ·rintro⟨h,a⟩;exact⟨by omega,a⟩
    ·rintro⟨h,a⟩
     by_cases e:p=n
     ·subst e;exact absurd a A
     ·exact⟨by omega,a⟩
theorem kS {cls:Int} {L:List ByteArray} {x:Nat × ByteArray}:∀ n,x∈cX cls L n→x.1<n∧x.2=L.getD x.1 ByteArray.empty
 | 0,a=>by simp[cX] at a
 | n+1,a=>by
   rw[cX,List.mem_append] at a
   rcases a with a | a
   ·have:=kS n a;exact⟨by omega,this.2⟩
   ·split at a
    ·simp at a;subst a;exact⟨by simp,rfl⟩
    ·simp at a
def dj (cls:Int) (L:List ByteArray):List ByteArray:=if cls=2 then ((L.map byt).mergeSort fun x y=>decide (x≤y)).map fun l=>⟨l.toArray⟩ else L
theorem eR (cls:Int) (L:List ByteArray):(dj cls L).length=L.length:=by unfold dj;split <;> simp
theorem kC (L:List ByteArray):(dj 2 L).Perm L:=by
 rw[dj,if_pos rfl]
 have a:=(List.mergeSort_perm (L.map byt) fun x y=>decide (x≤y)).map fun l:List UInt8=>(⟨l.toArray⟩:ByteArray)
 rw[List.map_map] at a
 have e:(fun l:List UInt8=>(⟨l.toArray⟩:ByteArray)) ∘ byt=id:=by funext b;rfl
 rw[e,List.map_id] at a
 exact a
theorem gO {cls:Int} {L:List ByteArray} {x:ByteArray} (h:x∈dj cls L):x∈L:=by
 rcases Decidable.em (cls=2) with a | a
 ·subst a;exact(kC L).mem_iff.1 h
 ·rwa [dj,if_neg a] at h
def dV:List ByteArray→ByteArray
 | []=>{ data:=#[] }
 | m :: L=>(({ data:=#[UInt8.ofNat m.size] }:ByteArray)++m)++dV L
theorem iE:∀ h B:List ByteArray,dV (h++B)=dV h++dV B
 | [],B=>by
   show dV B=(⟨#[]⟩:ByteArray)++dV B
   exact(ByteArray.empty_append).symm
 | a :: h,B=>by
   show (_++a)++dV (h++B)=((_++a)++dV h)++dV B
   rw[iE h B,ByteArray.append_assoc,ByteArray.append_assoc,ByteArray.append_assoc]
theorem kn {a:List ByteArray} {i:Nat} {x:ByteArray} (h:a[i]?=some x):dV (a.take (i+1))=dV (a.take i)++(({ data:=#[UInt8.ofNat x.size] }:ByteArray)++x):=by
 have A:=ag h
 have e:a[i]=x:=by rw[List.getElem?_eq_getElem A] at h;exact Option.some.inj h
 rw[List.take_succ_eq_append_getElem A,iE,e]
 congr 1
 exact ByteArray.append_empty
theorem ey:∀ A:List ByteArray,(∀ x∈A,x.size≤32)→(dV A).size≤33*A.length
 | [],_=>Nat.le_refl _
 | a :: A,h=>by
   have G:=ey A (fun x E=>h x (by simp[E]))
   have H:=h a (by simp)
   show ((_++a)++dV A).size≤_
   rw[ByteArray.size_append,ByteArray.size_append,List.length_cons]
   have I:({ data:=#[UInt8.ofNat a.size] }:ByteArray).size=1:=rfl
   omega
theorem rP (x y:List UInt8):x≤y∨y≤x:=List.le_total x y
theorem tT {x y z:List UInt8} (a:x≤y) (h:y≤z):x≤z:=List.le_trans a h
theorem tD {a b:ByteArray} (h:byt a=byt b):a=b:=ByteArray.ext (Array.toList_inj.1 h)
theorem mI (L:List ByteArray):(dj 2 L).Pairwise fun a b=>byt a≤byt b:=by
 rw[dj,if_pos rfl,List.pairwise_map]
 have h:=List.pairwise_mergeSort (le:=fun x y:List UInt8=>decide (x≤y)) (fun a b c A E=>by simp only[decide_eq_true_eq] at *;exact tT A E) (fun a b=>by rcases rP a b with h | h <;> simp[h]) (L.map byt)
 exact h.imp fun {a b} hab=>by simpa[byt] using hab
theorem ox {M L:List ByteArray} (E:M.Perm L) (G:M.Pairwise fun a b=>byt a≤byt b):M=dj 2 L:=
 List.Perm.eq_of_pairwise (le:=fun a b=>byt a≤byt b) (fun _ _ _ _ h A=>tD (List.le_antisymm h A)) G (mI L) (E.trans (kC L).symm)
theorem oB (m:ByteArray):(byt m).length=m.size:=rfl
end Go.Proofs.YtohfkhjlnlahdaaGreat
