/- Part of the proof. -/
import Derived.Lib.SlicesS
set_option linter.all false
namespace Go.Proofs.YtohfkhjlnlahdaaGreat
open Go
theorem lt_of_some {α:Type} {l:List α} {k:Nat} {x:α} (h:l[k]?=some x):k < l.length:=(List.getElem?_eq_some_iff.1 h).1
def byt (b:ByteArray):List UInt8:=b.data.toList
def chc (cls:Int) (L:List ByteArray) (i:Nat):Bool:=if cls=2 then Lib.idxOfS L (L.getD i ByteArray.empty) == (i:Int) else ((i:Int) == 0)
def takeOk (cls:Int) (L:List ByteArray) (p:Int):Bool:=decide (0≤p∧p < (L.length:Int)) && chc cls L p.toNat
def takeM (cls:Int) (L:List ByteArray) (p:Int):ByteArray:=if takeOk cls L p then L.getD p.toNat ByteArray.empty else { data:=#[] }
def takeE (cls:Int) (L:List ByteArray) (p:Int):Int:=if takeOk cls L p then 0 else 9
def takeL (cls:Int) (L:List ByteArray) (p:Int):List ByteArray:=if takeOk cls L p then L.eraseIdx p.toNat else L
def loseM (cls:Int) (L:List ByteArray):ByteArray:=if cls=3 then takeM cls L 0 else { data:=#[] }
def loseE (cls:Int) (L:List ByteArray):Int:=if cls=3 then takeE cls L 0 else 8
def loseL (cls:Int) (L:List ByteArray):List ByteArray:=if cls=3 then takeL cls L 0 else L
def putE (cap:Int) (L:List ByteArray) (m:ByteArray):Int:=if m.size < 1∨32 < m.size then 2 else if (L.length:Int)=cap then 7 else 0
def putL (cap:Int) (L:List ByteArray) (m:ByteArray):List ByteArray:=if putE cap L m=0 then L ++ [m] else L
def chlK (cls:Int) (L:List ByteArray):Nat→List (Nat × ByteArray)
 | 0=>[]
 | k + 1=>chlK cls L k ++ if chc cls L k then [(k,L.getD k ByteArray.empty)] else []
theorem chl_split {cls:Int} {L:List ByteArray} {k:Nat} (hk:k < L.length) (hc:chc cls L k=true):∃ rest,chlK cls L L.length=chlK cls L k ++ (k,L.getD k ByteArray.empty) :: rest:=by
 obtain⟨d,hd⟩:=Nat.exists_eq_add_of_lt hk
 rw[hd]
 clear hd hk
 induction d with
 | zero=>exact⟨[],by simp[chlK,hc]⟩
 | succ d ih =>
   obtain⟨rest,h⟩:=ih
   refine⟨rest ++ if chc cls L (k + d + 1) then [(k + d + 1,L.getD (k + d + 1) ByteArray.empty)] else [],?_⟩
   rw[show k + (d + 1) + 1=(k + d + 1) + 1 by omega,chlK,h]
   simp
def nf (L:List ByteArray) (k:Nat):Nat→Bool
 | 0=>true
 | j + 1=>nf L k j && !decide (L.getD j ByteArray.empty=L.getD k ByteArray.empty)
theorem nf_iff {L:List ByteArray} {k:Nat}:∀ j,nf L k j=true↔∀ i,i < j→L.getD i ByteArray.empty≠L.getD k ByteArray.empty
 | 0=>by simp[nf]
 | j + 1=>by
   rw[nf,Bool.and_eq_true,nf_iff j]
   constructor
   ·rintro⟨h1,h2⟩ i hi
    by_cases e:i=j
    ·subst e;simpa using h2
    ·exact h1 i (by omega)
   ·intro h
    exact⟨fun i hi=>h i (by omega),by simpa using h j (by omega)⟩
theorem idx_first' {L:List ByteArray} {m:ByteArray} {p:Nat} (h:Lib.idxOfS L m=(p:Int)):∀ k,k < p→k < L.length→L.getD k ByteArray.empty≠m:=by
 intro k
 induction k using Nat.strongRecOn with
 | _ k ih =>
   intro hk hl hym
   have h1:=Lib.idxOfS_hit L L.length k m hl (Nat.le_refl _) hym (fun j hj he=>ih j hj (by omega) (by omega) he)
   rw[List.take_length,h] at h1
   omega
theorem chc_two {L:List ByteArray} {k:Nat} (hk:k < L.length):chc 2 L k=nf L k k:=by
 rw[Bool.eq_iff_iff,nf_iff]
 unfold chc
 rw[if_pos rfl,beq_iff_eq]
 constructor
 ·intro h i hi
  exact idx_first' h i hi (by omega)
 ·intro h
  have h1:=Lib.idxOfS_hit L L.length k _ hk (Nat.le_refl _) rfl (fun j hj he=>h j hj he)
  rw[List.take_length] at h1
  exact h1
def chp (cls:Int) (L:List ByteArray) (k:Nat):List Nat:=(chlK cls L k).map (·.1)
theorem chp_succ (cls:Int) (L:List ByteArray) (k:Nat):chp cls L (k + 1)=if chc cls L k then chp cls L k ++ [k] else chp cls L k:=by
 unfold chp
 rw[chlK]
 split <;> simp
theorem chp_length (cls:Int) (L:List ByteArray):∀ k,(chp cls L k).length≤k
 | 0=>by simp[chp,chlK]
 | k + 1=>by
   have:=chp_length cls L k
   rw[chp_succ]
   split
   ·simp;omega
   ·omega
theorem mem_chp {cls:Int} {L:List ByteArray} {p:Nat}:∀ n,p∈chp cls L n↔p < n∧chc cls L p=true
 | 0=>by simp[chp,chlK]
 | n + 1=>by
   rw[chp_succ]
   split
   ·rename_i h
    rw[List.mem_append,mem_chp n,List.mem_singleton]
    constructor
    ·rintro(h1 | rfl)
     ·exact⟨by omega,h1.2⟩
     ·exact⟨by omega,h⟩
    ·rintro⟨h1,h2⟩
     by_cases e:p=n
     ·exact .inr e
     ·exact .inl ⟨by omega,h2⟩
   ·rename_i h
    rw[mem_chp n]
    constructor
    ·rintro⟨h1,h2⟩;exact⟨by omega,h2⟩
    ·rintro⟨h1,h2⟩
     by_cases e:p=n
     ·subst e;exact absurd h2 h
     ·exact⟨by omega,h2⟩
theorem mem_chl {cls:Int} {L:List ByteArray} {x:Nat × ByteArray}:∀ n,x∈chlK cls L n→x.1 < n∧x.2=L.getD x.1 ByteArray.empty
 | 0,h=>by simp[chlK] at h
 | n + 1,h=>by
   rw[chlK,List.mem_append] at h
   rcases h with h | h
   ·have:=mem_chl n h;exact⟨by omega,this.2⟩
   ·split at h
    ·simp at h;subst h;exact⟨by simp,rfl⟩
    ·simp at h
def keyL (cls:Int) (L:List ByteArray):List ByteArray:=if cls=2 then ((L.map byt).mergeSort fun x y=>decide (x≤y)).map fun l=>⟨l.toArray⟩ else L
theorem keyL_length (cls:Int) (L:List ByteArray):(keyL cls L).length=L.length:=by unfold keyL;split <;> simp
theorem keyL_perm (L:List ByteArray):(keyL 2 L).Perm L:=by
 rw[keyL,if_pos rfl]
 have h:=(List.mergeSort_perm (L.map byt) fun x y=>decide (x≤y)).map fun l:List UInt8=>(⟨l.toArray⟩:ByteArray)
 rw[List.map_map] at h
 have e:(fun l:List UInt8=>(⟨l.toArray⟩:ByteArray)) ∘ byt=id:=by funext b;rfl
 rw[e,List.map_id] at h
 exact h
theorem keyL_mem {cls:Int} {L:List ByteArray} {x:ByteArray} (h:x∈keyL cls L):x∈L:=by
 rcases Decidable.em (cls=2) with hz | hz
 ·subst hz;exact(keyL_perm L).mem_iff.1 h
 ·rwa [keyL,if_neg hz] at h
def keyB:List ByteArray→ByteArray
 | []=>{ data:=#[] }
 | m :: L=>(({ data:=#[UInt8.ofNat m.size] }:ByteArray) ++ m) ++ keyB L
theorem keyB_append:∀ A B:List ByteArray,keyB (A ++ B)=keyB A ++ keyB B
 | [],B=>by
   show keyB B=(⟨#[]⟩:ByteArray) ++ keyB B
   exact(ByteArray.empty_append).symm
 | a :: A,B=>by
   show (_ ++ a) ++ keyB (A ++ B)=((_ ++ a) ++ keyB A) ++ keyB B
   rw[keyB_append A B,ByteArray.append_assoc,ByteArray.append_assoc,ByteArray.append_assoc]
theorem keyB_snoc {S:List ByteArray} {i:Nat} {x:ByteArray} (h:S[i]?=some x):keyB (S.take (i + 1))=keyB (S.take i) ++ (({ data:=#[UInt8.ofNat x.size] }:ByteArray) ++ x):=by
 have hi:=lt_of_some h
 have e:S[i]=x:=by rw[List.getElem?_eq_getElem hi] at h;exact Option.some.inj h
 rw[List.take_succ_eq_append_getElem hi,keyB_append,e]
 congr 1
 exact ByteArray.append_empty
theorem keyB_size:∀ A:List ByteArray,(∀ x∈A,x.size≤32)→(keyB A).size≤33 * A.length
 | [],_=>Nat.le_refl _
 | a :: A,h=>by
   have h1:=keyB_size A (fun x hx=>h x (by simp[hx]))
   have h2:=h a (by simp)
   show ((_ ++ a) ++ keyB A).size≤_
   rw[ByteArray.size_append,ByteArray.size_append,List.length_cons]
   have h3:({ data:=#[UInt8.ofNat a.size] }:ByteArray).size=1:=rfl
   omega
theorem le_tot (x y:List UInt8):x≤y∨y≤x:=List.le_total x y
theorem le_tr {x y z:List UInt8} (h1:x≤y) (h2:y≤z):x≤z:=List.le_trans h1 h2
theorem byt_inj {a b:ByteArray} (h:byt a=byt b):a=b:=ByteArray.ext (Array.toList_inj.1 h)
theorem keyL_sorted (L:List ByteArray):(keyL 2 L).Pairwise fun a b=>byt a≤byt b:=by
 rw[keyL,if_pos rfl,List.pairwise_map]
 have h:=List.pairwise_mergeSort (le:=fun x y:List UInt8=>decide (x≤y)) (fun a b c h1 h2=>by simp only[decide_eq_true_eq] at *;exact le_tr h1 h2) (fun a b=>by rcases le_tot a b with h | h <;> simp[h]) (L.map byt)
 exact h.imp fun {a b} hab=>by simpa[byt] using hab
theorem key_unique {M L:List ByteArray} (hp:M.Perm L) (hs:M.Pairwise fun a b=>byt a≤byt b):M=keyL 2 L:=
 List.Perm.eq_of_pairwise (le:=fun a b=>byt a≤byt b) (fun _ _ _ _ h1 h2=>byt_inj (List.le_antisymm h1 h2)) hs (keyL_sorted L) (hp.trans (keyL_perm L).symm)
theorem keyB_bytes:∀ A:List ByteArray,byt (keyB A)=A.flatMap fun m=>UInt8.ofNat m.size :: byt m
 | []=>rfl
 | a :: A=>by
   have h:=keyB_bytes A
   show byt ((_ ++ a) ++ keyB A)=_
   rw[List.flatMap_cons,← h]
   simp[byt,ByteArray.data_append]
theorem byt_length (m:ByteArray):(byt m).length=m.size:=rfl
def Rl (cls:Int) (A B:List ByteArray):Prop:=if cls=2 then A.Perm B else A=B
theorem Rl.perm {cls:Int} {A B:List ByteArray} (h:Rl cls A B):A.Perm B:=by
 unfold Rl at h
 split at h
 ·exact h
 ·rw[h]
theorem rl_keys {cls:Int} {A B:List ByteArray} (h:Rl cls A B):keyL cls A=keyL cls B:=by
 unfold Rl at h
 split at h
 ·rename_i h2
  subst h2
  exact key_unique ((keyL_perm A).trans h) (keyL_sorted A)
 ·rw[h]
theorem rl_put {cls cap:Int} {A B:List ByteArray} (h:Rl cls A B) (m:ByteArray):putE cap A m=putE cap B m∧Rl cls (putL cap A m) (putL cap B m):=by
 have hl:=h.perm.length_eq
 have he:putE cap A m=putE cap B m:=by unfold putE;rw[hl]
 refine⟨he,?_⟩
 unfold putL
 rw[he]
 split
 ·unfold Rl at h ⊢
  split at h
  ·rename_i h2;rw[if_pos h2];exact h.append (List.Perm.refl _)
  ·rename_i h2;rw[if_neg h2,h]
 ·exact h
def chm (cls:Int) (L:List ByteArray) (n:Nat):List ByteArray:=(chlK cls L n).map (·.2)
theorem chm_succ (cls:Int) (L:List ByteArray) (k:Nat):chm cls L (k + 1)=if chc cls L k then chm cls L k ++ [L.getD k ByteArray.empty] else chm cls L k:=by
 unfold chm
 rw[chlK]
 split <;> simp
theorem getD_at {L:List ByteArray} {k:Nat} (hk:k < L.length):L.getD k ByteArray.empty=L[k]:=by rw[List.getD_eq_getElem?_getD,List.getElem?_eq_getElem hk];rfl
theorem mem_take_iff {L:List ByteArray} {x:ByteArray} {n:Nat} (hn:n≤L.length):x∈L.take n↔∃ k,k < n∧L.getD k ByteArray.empty=x:=by
 rw[List.mem_iff_getElem]
 constructor
 ·rintro⟨k,hk,e⟩
  rw[List.length_take] at hk
  exact⟨k,by omega,by rw[getD_at (by omega),← e,List.getElem_take]⟩
 ·rintro⟨k,hk,e⟩
  exact⟨k,by rw[List.length_take];omega,by rw[List.getElem_take,← getD_at (by omega)];exact e⟩
theorem chc2 {L:List ByteArray} {k:Nat} (hk:k < L.length):chc 2 L k=true↔L.getD k ByteArray.empty∉L.take k:=by
 rw[chc_two hk,nf_iff,mem_take_iff (by omega)]
 constructor
 ·rintro h ⟨i,hi,e⟩;exact h i hi e
 ·intro h i hi e;exact h ⟨i,hi,e⟩
theorem take_snoc {L:List ByteArray} {k:Nat} (hk:k < L.length):L.take (k + 1)=L.take k ++ [L.getD k ByteArray.empty]:=by rw[List.take_succ_eq_append_getElem hk,getD_at hk]
theorem mem_chm {L:List ByteArray} {x:ByteArray}:∀ n,n≤L.length→(x∈chm 2 L n↔x∈L.take n)
 | 0,_=>by simp[chm,chlK]
 | n + 1,h=>by
   have ih:=mem_chm (L:=L) (x:=x) n (by omega)
   rw[chm_succ,take_snoc (by omega)]
   by_cases hc:chc 2 L n=true
   ·rw[if_pos hc,List.mem_append,List.mem_append,ih]
   ·rw[if_neg hc,List.mem_append,ih]
    have:=(not_congr (chc2 (L:=L) (k:=n) (by omega))).1 hc
    rw[Classical.not_not] at this
    constructor
    ·exact .inl
    ·rintro(h | h)
     ·exact h
     ·rw[List.mem_singleton] at h;rw[h];exact this
theorem nodup_chm {L:List ByteArray}:∀ n,n≤L.length→(chm 2 L n).Nodup
 | 0,_=>by simp[chm,chlK]
 | n + 1,h=>by
   have ih:=nodup_chm (L:=L) n (by omega)
   rw[chm_succ]
   by_cases hc:chc 2 L n=true
   ·rw[if_pos hc,List.nodup_append]
    refine⟨ih,by simp,fun a ha b hb e=>?_⟩
    rw[List.mem_singleton] at hb
    subst hb
    subst e
    exact(chc2 (L:=L) (k:=n) (by omega)).1 hc ((mem_chm (L:=L) n (by omega)).1 ha)
   ·rw[if_neg hc];exact ih
theorem rl_chm {cls:Int} {A B:List ByteArray} (h:Rl cls A B):(∀ x∈chm cls A A.length,x∈chm cls B B.length)∧(chm cls A A.length).length=(chm cls B B.length).length:=by
 unfold Rl at h
 split at h
 ·rename_i h2
  subst h2
  have hm:∀ x,x∈chm 2 A A.length↔x∈chm 2 B B.length:=fun x=>by
   rw[mem_chm _ (Nat.le_refl _),mem_chm _ (Nat.le_refl _),List.take_length,List.take_length]
   exact h.mem_iff
  exact⟨fun x hx=>(hm x).1 hx,((List.perm_ext_iff_of_nodup (nodup_chm _ (Nat.le_refl _)) (nodup_chm _ (Nat.le_refl _))).2 hm).length_eq⟩
 ·subst h;exact⟨fun x hx=>hx,rfl⟩
theorem erase_perm {l:List ByteArray} {p:Nat} (hp:p < l.length):(l[p] :: l.eraseIdx p).Perm l:=by
 rw[List.eraseIdx_eq_take_drop_succ]
 have h:=(List.perm_middle (a:=l[p]) (l₁:=l.take p) (l₂:=l.drop (p + 1))).symm
 have e:l.take p ++ l[p] :: l.drop (p + 1)=l:=by rw[← List.drop_eq_getElem_cons hp,List.take_append_drop]
 rwa [e] at h
end Go.Proofs.YtohfkhjlnlahdaaGreat
