/- Part of the proof. -/
import Derived.Test.YtohfkhjlnlahdaaGreatQ04
import Derived.Test.YtohfkhjlnlahdaaGreatQ01
import Derived.Deep.MidRow
import Derived.Deep.WholeRow
import Derived.Test.YtohfkhjlnlahdaaGreatQ02
import Derived.Test.YtohfkhjlnlahdaaGreatQ05
import Derived.BigQuiet
import Derived.StillTail
import Derived.Test.YtohfkhjlnlahdaaGreatProg
import Derived.Lib.Hide
import Derived.WalkLawsBesides
import Derived.Deep.DeepMust
import Derived.LoopTactic
import Derived.Laws.IdiomStrings
import Derived.Shelf.Bytes.SlSmallAll
import Derived.Deep.Upon
import Derived.ArgAppend
import Derived.Deep.AppendLies
import Derived.Maps.AppendAt
import Derived.BigRegion
import Derived.Deep.RegionHeld3
import Derived.Deep.RegionLaw
import Derived.Deep.DeepCutAuto
set_option linter.all false
namespace Go.Proofs.YtohfkhjlnlahdaaGreat
open Go.RowKit Go.BigFrame
def dW (i:Nat) (c:UInt8):Bool:=iU c.toNat || (decide (i≠0) && (decide (c.toNat=95) || (decide (48≤c.toNat) && decide (c.toNat≤57))))
theorem nameL_iff {l:List UInt8}:mB l=true↔∀ i c,l[i]?=some c→dW i c=true:=by
 cases l with
 | nil=>simp[mB]
 | cons A l =>
   unfold mB
   rw[Bool.and_eq_true,List.all_eq_true]
   constructor
   ·rintro⟨E,G⟩ i c a
    cases i with
    | zero=>simp at a;subst a;unfold dW;rw[E];rfl
    | succ i =>
      have:=G c (List.mem_of_getElem? (by simpa using a))
      unfold rt at this
      unfold dW
      simpa[Bool.or_assoc] using this
   ·intro h
    refine⟨?_,fun c a=>?_⟩
    ·have:=h 0 A (by simp)
     unfold dW at this
     simpa using this
    ·obtain⟨i,H⟩:=List.getElem?_of_mem a
     have:=h (i+1) c (by simpa using H)
     unfold dW at this
     unfold rt
     simpa[Bool.or_assoc] using this
theorem kZ {s:ByteArray} {i:Nat} {c:UInt8} (A:s.data.toList[i]?=some c) (a:dW i c=false):aL s=false:=by
 unfold aL
 have:mB s.data.toList=false:=by
  rw[← Bool.not_eq_true,nameL_iff]
  intro h
  rw[h i c A] at a;cases a
 rw[this,Bool.and_false]
theorem mA {s:ByteArray} (h:1≤s.size) (A:s.size≤32) (a:∀ i c,s.data.toList[i]?=some c→dW i c=true):aL s=true:=by
 unfold aL
 rw[nameL_iff.2 a,decide_eq_true h,decide_eq_true A];rfl
theorem charOk_iff {i:Nat} {c:UInt8}:dW i c=true↔(97≤c.toNat∧c.toNat≤122)∨(65≤c.toNat∧c.toNat≤90)∨(i≠0∧(c.toNat=95∨(48≤c.toNat∧c.toNat≤57))):=by
 unfold dW iU
 simp only[Bool.or_eq_true,Bool.and_eq_true,decide_eq_true_eq]
 omega
theorem fA {i:Nat} {c:UInt8} (a:¬ ((97≤c.toNat∧c.toNat≤122)∨(65≤c.toNat∧c.toNat≤90)∨(i≠0∧(c.toNat=95∨(48≤c.toNat∧c.toNat≤57))))):dW i c=false:=by
 rw[← Bool.not_eq_true,charOk_iff];exact a
theorem tN (c:Int):((c != 95)=true∧c<48)∨((c != 95)=true∧48≤c∧c≤57)∨((c != 95)=true∧57<c∧c<65)∨((c != 95)=true∧65≤c∧c≤90)∨((c != 95)=true∧90<c∧c<95)∨((c != 95)=false∧95≤c∧c≤95)∨((c != 95)=true∧96≤c∧c≤96)∨((c != 95)=true∧97≤c∧c≤122)∨((c != 95)=true∧122<c):=by
 simp only[bne_iff_ne,bne_eq_false_iff_eq]
 omega
theorem uB (i:Nat):(((i:Int) == 0)=true∧(i:Int)≤0)∨(((i:Int) == 0)=false∧1≤(i:Int)):=by
 simp only[beq_iff_eq,beq_eq_false_iff_ne]
 omega
set_option maxHeartbeats 4000000 in
set_option maxRecDepth 100000 in
theorem dy (s:ByteArray) (w:World):Calls Tryz.prog 165 #[.string s] w (Ret (.bool (aL s)) (Frm [] w)):=by
 by_cases h1:s.size<1
 ·have a:aL s=false:=by unfold aL;rw[decide_eq_false (by omega)];rfl
  rw[a]
  have J:(s.size:Int)<1:=by omega
  clear a
  go_enter Tryz.func165,Tryz.ntmps165
  go_wp2
  go_ret
  exact⟨rfl,Frm.refl _ _⟩
 ·by_cases h2:32<s.size
  ·have a:aL s=false:=by unfold aL;rw[decide_eq_false (p:=s.size≤32) (by omega),Bool.and_false];rfl
   rw[a]
   have J:¬ (s.size:Int)<1:=by omega
   have N:(32:Int)<(s.size:Int):=by omega
   clear a
   go_enter Tryz.func165,Tryz.ntmps165
   go_wp2
   go_ret
   exact⟨rfl,Frm.refl _ _⟩
  ·have J:¬ (s.size:Int)<1:=by omega
   have N:¬ (32:Int)<(s.size:Int):=by omega
   obtain⟨n,a⟩:∃ n,s.size=n:=⟨_,rfl⟩
   obtain⟨Y,I,ai,ab,O⟩:∃ Y I,(convert 9 26 (.string s)).run Tryz.prog w=.ok (.slice (some ⟨w.heap.size,0,none⟩) n Y) I∧Frm [] w I∧∀ i c,s.data.toList[i]?=some c→I.cell? ⟨w.heap.size,i,none⟩=some (.int .u8 (c.toNat:Int)):=by
    refine⟨_,_,by rw[← a];exact run_bytes_of_string w 9 26 5 s Tryz.underlying9 Tryz.underlying26 Tryz.underlying5,((Frm.refl [] w).drew).alloc _,fun i c E=>?_⟩
    have ad:i<s.data.size:=by have:=ag E;simpa using this
    refine(ae (heap_alloc_new w.drew _) i).trans ?_
    rw[bytesRow_at s _ i ad]
    simp only[Array.getElem?_toList,Array.getElem?_eq_getElem ad,Option.some.injEq] at E
    subst E;rfl
   have ah:=vi O;have V:=vi ab
   rw[a] at h1 h2 J N
   have W:Hid (s.data.toList.length=n):=vi (by rw[← a,Array.length_toList];rfl)
   have R:Hid (s.size=n):=vi a
   go_enter Tryz.func165,Tryz.ntmps165
   rw[← R.out] at J N
   go_wp2
   clear O ab ai J N
   go_loopw [17,3,4,5] (fun s17 s3 s4 s5 wr=>∃ i:Nat,s17=.int .i64 i∧i≤n∧Frm [] I wr∧∀ j c,j<i→s.data.toList[j]?=some c→dW j c=true) (fun s17 _ _ _ _=>n - (intOf s17).toNat)
   case atStart=>exact⟨0,rfl,Nat.zero_le _,Frm.refl _ _,fun j x aj=>by omega⟩
   case round =>
    obtain⟨i,rfl,ap,aa,af⟩:=hrel
    have K:=vi aa;have X:=vi af
    clear aa af
    by_cases hlt:i<n
    ·have aq:(i:Int)<(n:Int):=by omega
     obtain⟨c,E⟩:∃ c,s.data.toList[i]?=some c:=⟨_,List.getElem?_eq_getElem (by rw[W.out];exact hlt)⟩
     have al:=K.out.keep (ah.out i c E)
     have U:=vi E
     have hb:(c.toNat:Int)<256:=by have:=c.toNat_lt;omega
     have am:(0:Int)≤(c.toNat:Int):=by omega
     clear E a
     have O:=tN (c.toNat:Int)
     have S:=uB i
     rcases S with ⟨ak,S⟩ | ⟨ak,S⟩ <;> rcases O with ⟨A,h⟩ | ⟨A,h,G⟩ | ⟨A,h,G⟩ | ⟨A,h,G⟩ | ⟨A,h,G⟩ | ⟨A,h,G⟩ | ⟨A,h,G⟩ | ⟨A,h,G⟩ | ⟨A,h⟩
     all_goals
      go_wp2
      all_goals first
       | (exfalso;simp at *;omega)
       | (go_ret
          refine⟨?_,V.out.trans K.out⟩
          rw[kZ U.out (fA (by omega))]
          rfl)
       | (refine⟨⟨i+1,congrArg (Value.int .i64) (by omega),hlt,K.out,fun j d aj H=>?_⟩,by simp[intOf];omega⟩
          by_cases e:j=i
          ·subst e
           rw[U.out] at H;cases H
           exact charOk_iff.2 (by omega)
          ·exact X.out j d (by omega) H)
    ·have an:¬ (i:Int)<(n:Int):=by omega
     clear a
     go_wp2
     go_ret
     refine⟨?_,V.out.trans K.out⟩
     rw[mA (by rw[R.out];omega) (by rw[R.out];omega) fun j d H=>X.out j d (by have:=ag H;rw[W.out] at this;omega) H]
     rfl
end Go.Proofs.YtohfkhjlnlahdaaGreat
