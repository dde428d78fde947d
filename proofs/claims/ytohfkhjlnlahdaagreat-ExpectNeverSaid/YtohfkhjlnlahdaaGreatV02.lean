/- Part of the proof. -/
import Derived.Lib.SlicesS
set_option linter.all false
namespace Go.Proofs.YtohfkhjlnlahdaaGreat
open Go
theorem lt_of_some {α:Type} {l:List α} {k:Nat} {x:α} (h:l[k]?=some x):k < l.length:=(List.getElem?_eq_some_iff.1 h).1
def byt (b:ByteArray):List UInt8:=b.data.toList
def chc (cls:Int) (L:List ByteArray) (i:Nat):Bool:=if cls=2 then Lib.idxOfS L (L.getD i ByteArray.empty) == (i:Int) else ((i:Int) == 0)
def takeOk (cls:Int) (L:List ByteArray) (p:Int):Bool:=decide (0≤p∧p < (L.length:Int)) && chc cls L p.toNat
def takeM (cls:Int) (L:List ByteArray) (p:Int):ByteArray:=if takeOk cls L p then L.getD p.toNat ByteArray.empty else { data:=#[] }
def takeE (cls:Int) (L:List ByteArray) (p:Int):Int:=if takeOk cls L p then 0 else 9
def takeL (cls:Int) (L:List ByteArray) (p:Int):List ByteArray:=if takeOk cls L p then L.eraseIdx p.toNat else L
def loseM (cls:Int) (L:List ByteArray):ByteArray:=if cls=3 then takeM cls L 0 else { data:=#[] }
def loseE (cls:Int) (L:List ByteArray):Int:=if cls=3 then takeE cls L 0 else 8
def loseL (cls:Int) (L:List ByteArray):List ByteArray:=if cls=3 then takeL cls L 0 else L
def putE (cap:Int) (L:List ByteArray) (m:ByteArray):Int:=if m.size < 1∨32 < m.size then 2 else if (L.length:Int)=cap then 7 else 0
def putL (cap:Int) (L:List ByteArray) (m:ByteArray):List ByteArray:=if putE cap L m=0 then L ++ [m] else L
def chlK (cls:Int) (L:List ByteArray):Nat→List (Nat × ByteArray)
 | 0=>[]
 | k + 1=>chlK cls L k ++ if chc cls L k then [(k,L.getD k ByteArray.empty)] else []
theorem chl_split {cls:Int} {L:List ByteArray} {k:Nat} (hk:k < L.length) (hc:chc cls L k=true):∃ rest,chlK cls L L.length=chlK cls L k ++ (k,L.getD k ByteArray.empty) :: rest:=by
 obtain⟨d,hd⟩:=Nat.exists_eq_add_of_lt hk
 rw[hd]
 clear hd hk
 induction d with
 | zero=>exact⟨[],by simp[chlK,hc]⟩
 | succ d ih =>
   obtain⟨rest,h⟩:=ih
   refine⟨rest ++ if chc cls L (k + d + 1) then [(k + d + 1,L.getD (k + d + 1) ByteArray.empty)] else [],?_⟩
   rw[show k + (d + 1) + 1=(k + d + 1) + 1 by omega,chlK,h]
   simp
def keyL (cls:Int) (L:List ByteArray):List ByteArray:=if cls=2 then ((L.map byt).mergeSort fun x y=>decide (x≤y)).map fun l=>⟨l.toArray⟩ else L
theorem keyL_length (cls:Int) (L:List ByteArray):(keyL cls L).length=L.length:=by unfold keyL;split <;> simp
theorem keyL_perm (L:List ByteArray):(keyL 2 L).Perm L:=by
 rw[keyL,if_pos rfl]
 have h:=(List.mergeSort_perm (L.map byt) fun x y=>decide (x≤y)).map fun l:List UInt8=>(⟨l.toArray⟩:ByteArray)
 rw[List.map_map] at h
 have e:(fun l:List UInt8=>(⟨l.toArray⟩:ByteArray)) ∘ byt=id:=by funext b;rfl
 rw[e,List.map_id] at h
 exact h
theorem keyL_mem {cls:Int} {L:List ByteArray} {x:ByteArray} (h:x∈keyL cls L):x∈L:=by
 rcases Decidable.em (cls=2) with hz | hz
 ·subst hz;exact(keyL_perm L).mem_iff.1 h
 ·rwa [keyL,if_neg hz] at h
def keyB:List ByteArray→ByteArray
 | []=>{ data:=#[] }
 | m :: L=>(({ data:=#[UInt8.ofNat m.size] }:ByteArray) ++ m) ++ keyB L
theorem keyB_append:∀ A B:List ByteArray,keyB (A ++ B)=keyB A ++ keyB B
 | [],B=>by
   show keyB B=(⟨#[]⟩:ByteArray) ++ keyB B
   exact(ByteArray.empty_append).symm
 | a :: A,B=>by
   show (_ ++ a) ++ keyB (A ++ B)=((_ ++ a) ++ keyB A) ++ keyB B
   rw[keyB_append A B,ByteArray.append_assoc,ByteArray.append_assoc,ByteArray.append_assoc]
theorem keyB_snoc {S:List ByteArray} {i:Nat} {x:ByteArray} (h:S[i]?=some x):keyB (S.take (i + 1))=keyB (S.take i) ++ (({ data:=#[UInt8.ofNat x.size] }:ByteArray) ++ x):=by
 have hi:=lt_of_some h
 have e:S[i]=x:=by rw[List.getElem?_eq_getElem hi] at h;exact Option.some.inj h
 rw[List.take_succ_eq_append_getElem hi,keyB_append,e]
 congr 1
 exact ByteArray.append_empty
theorem keyB_size:∀ A:List ByteArray,(∀ x∈A,x.size≤32)→(keyB A).size≤33 * A.length
 | [],_=>Nat.le_refl _
 | a :: A,h=>by
   have h1:=keyB_size A (fun x hx=>h x (by simp[hx]))
   have h2:=h a (by simp)
   show ((_ ++ a) ++ keyB A).size≤_
   rw[ByteArray.size_append,ByteArray.size_append,List.length_cons]
   have h3:({ data:=#[UInt8.ofNat a.size] }:ByteArray).size=1:=rfl
   omega
theorem le_tot (x y:List UInt8):x≤y∨y≤x:=List.le_total x y
theorem le_tr {x y z:List UInt8} (h1:x≤y) (h2:y≤z):x≤z:=List.le_trans h1 h2
theorem byt_inj {a b:ByteArray} (h:byt a=byt b):a=b:=ByteArray.ext (Array.toList_inj.1 h)
theorem keyL_sorted (L:List ByteArray):(keyL 2 L).Pairwise fun a b=>byt a≤byt b:=by
 rw[keyL,if_pos rfl,List.pairwise_map]
 have h:=List.pairwise_mergeSort (le:=fun x y:List UInt8=>decide (x≤y)) (fun a b c h1 h2=>by simp only[decide_eq_true_eq] at *;exact le_tr h1 h2) (fun a b=>by rcases le_tot a b with h | h <;> simp[h]) (L.map byt)
 exact h.imp fun {a b} hab=>by simpa[byt] using hab
theorem key_unique {M L:List ByteArray} (hp:M.Perm L) (hs:M.Pairwise fun a b=>byt a≤byt b):M=keyL 2 L:=
 List.Perm.eq_of_pairwise (le:=fun a b=>byt a≤byt b) (fun _ _ _ _ h1 h2=>byt_inj (List.le_antisymm h1 h2)) hs (keyL_sorted L) (hp.trans (keyL_perm L).symm)
theorem byt_length (m:ByteArray):(byt m).length=m.size:=rfl
end Go.Proofs.YtohfkhjlnlahdaaGreat
