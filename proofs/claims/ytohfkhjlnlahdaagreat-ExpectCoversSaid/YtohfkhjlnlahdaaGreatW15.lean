/- Part of the proof. -/
import Derived.Test.YtohfkhjlnlahdaaGreatW01
import Derived.Deep.MidRow
import Derived.Deep.WholeRow
import Derived.Test.YtohfkhjlnlahdaaGreatW06
import Derived.Test.YtohfkhjlnlahdaaGreatW03
import Derived.BigQuiet
import Derived.StillTail
import Derived.Test.YtohfkhjlnlahdaaGreatProg
import Derived.Lib.Hide
import Derived.WalkLawsBesides
import Derived.Deep.DeepMust
import Derived.LoopTactic
import Derived.Laws.IdiomStrings
import Derived.Shelf.Bytes.SlSmallAll
import Derived.Deep.Upon
import Derived.ArgAppend
import Derived.Deep.AppendLies
import Derived.Maps.AppendAt
import Derived.BigRegion
import Derived.Deep.RegionHeld3
import Derived.Deep.RegionLaw
import Derived.Deep.DeepCutAuto
set_option linter.all false
namespace Go.Proofs.YtohfkhjlnlahdaaGreat
open Go.RowKit Go.BigFrame
def charOk (i:Nat) (c:UInt8):Bool:=letterB c.toNat || (decide (i≠0) && (decide (c.toNat=95) || (decide (48≤c.toNat) && decide (c.toNat≤57))))
theorem nameL_iff {l:List UInt8}:nameL l=true↔∀ i c,l[i]?=some c→charOk i c=true:=by
 cases l with
 | nil=>simp[nameL]
 | cons a l =>
   unfold nameL
   rw[Bool.and_eq_true,List.all_eq_true]
   constructor
   ·rintro⟨h1,h2⟩ i c hc
    cases i with
    | zero=>simp at hc;subst hc;unfold charOk;rw[h1];rfl
    | succ i =>
      have:=h2 c (List.mem_of_getElem? (by simpa using hc))
      unfold restB at this
      unfold charOk
      simpa[Bool.or_assoc] using this
   ·intro h
    refine⟨?_,fun c hc=>?_⟩
    ·have:=h 0 a (by simp)
     unfold charOk at this
     simpa using this
    ·obtain⟨i,hi⟩:=List.getElem?_of_mem hc
     have:=h (i + 1) c (by simpa using hi)
     unfold charOk at this
     unfold restB
     simpa[Bool.or_assoc] using this
theorem name_no {s:ByteArray} {i:Nat} {c:UInt8} (hc:s.data.toList[i]?=some c) (h:charOk i c=false):nameB s=false:=by
 unfold nameB
 have:nameL s.data.toList=false:=by
  rw[← Bool.not_eq_true,nameL_iff]
  intro h2
  rw[h2 i c hc] at h;cases h
 rw[this,Bool.and_false]
theorem name_yes {s:ByteArray} (h1:1≤s.size) (h2:s.size≤32) (h:∀ i c,s.data.toList[i]?=some c→charOk i c=true):nameB s=true:=by
 unfold nameB
 rw[nameL_iff.2 h,decide_eq_true h1,decide_eq_true h2];rfl
theorem charOk_iff {i:Nat} {c:UInt8}:charOk i c=true↔(97≤c.toNat∧c.toNat≤122)∨(65≤c.toNat∧c.toNat≤90)∨(i≠0∧(c.toNat=95∨(48≤c.toNat∧c.toNat≤57))):=by
 unfold charOk letterB
 simp only[Bool.or_eq_true,Bool.and_eq_true,decide_eq_true_eq]
 omega
theorem charOk_no' {i:Nat} {c:UInt8} (h:¬ ((97≤c.toNat∧c.toNat≤122)∨(65≤c.toNat∧c.toNat≤90)∨(i≠0∧(c.toNat=95∨(48≤c.toNat∧c.toNat≤57))))):charOk i c=false:=by
 rw[← Bool.not_eq_true,charOk_iff];exact h
theorem cases95 (c:Int):((c != 95)=true∧c < 48)∨((c != 95)=true∧48≤c∧c≤57)∨((c != 95)=true∧57 < c∧c < 65)∨((c != 95)=true∧65≤c∧c≤90)∨((c != 95)=true∧90 < c∧c < 95)∨((c != 95)=false∧95≤c∧c≤95)∨((c != 95)=true∧96≤c∧c≤96)∨((c != 95)=true∧97≤c∧c≤122)∨((c != 95)=true∧122 < c):=by
 simp only[bne_iff_ne,bne_eq_false_iff_eq]
 omega
theorem casesZ (i:Nat):(((i:Int) == 0)=true∧(i:Int)≤0)∨(((i:Int) == 0)=false∧1≤(i:Int)):=by
 simp only[beq_iff_eq,beq_eq_false_iff_ne]
 omega
set_option maxHeartbeats 4000000 in
set_option maxRecDepth 100000 in
theorem rName_any (s:ByteArray) (w:World):Calls Tryz.prog 165 #[.string s] w (Ret (.bool (nameB s)) (Frm [] w)):=by
 by_cases h1:s.size < 1
 ·have hn:nameB s=false:=by unfold nameB;rw[decide_eq_false (by omega)];rfl
  rw[hn]
  have h1':(s.size:Int) < 1:=by omega
  clear hn
  go_enter Tryz.func165,Tryz.ntmps165
  go_wp2
  go_ret
  exact⟨rfl,Frm.refl _ _⟩
 ·by_cases h2:32 < s.size
  ·have hn:nameB s=false:=by unfold nameB;rw[decide_eq_false (p:=s.size≤32) (by omega),Bool.and_false];rfl
   rw[hn]
   have h1':¬ (s.size:Int) < 1:=by omega
   have h2':(32:Int) < (s.size:Int):=by omega
   clear hn
   go_enter Tryz.func165,Tryz.ntmps165
   go_wp2
   go_ret
   exact⟨rfl,Frm.refl _ _⟩
  ·have h1':¬ (s.size:Int) < 1:=by omega
   have h2':¬ (32:Int) < (s.size:Int):=by omega
   obtain⟨n,hn⟩:∃ n,s.size=n:=⟨_,rfl⟩
   obtain⟨cp,W1,hcv,hf1,hcs⟩:∃ cp W1,(convert 9 26 (.string s)).run Tryz.prog w=.ok (.slice (some ⟨w.heap.size,0,none⟩) n cp) W1∧Frm [] w W1∧∀ i c,s.data.toList[i]?=some c→W1.cell? ⟨w.heap.size,i,none⟩=some (.int .u8 (c.toNat:Int)):=by
    refine⟨_,_,by rw[← hn];exact run_bytes_of_string w 9 26 5 s Tryz.underlying9 Tryz.underlying26 Tryz.underlying5,((Frm.refl [] w).drew).alloc _,fun i c hc=>?_⟩
    have hl:i < s.data.size:=by have:=lt_of_some hc;simpa using this
    refine(cell_of (heap_alloc_new w.drew _) i).trans ?_
    rw[bytesRow_at s _ i hl]
    simp only[Array.getElem?_toList,Array.getElem?_eq_getElem hl,Option.some.injEq] at hc
    subst hc;rfl
   have HCS:=Lib.hid hcs;have HF1:=Lib.hid hf1
   rw[hn] at h1 h2 h1' h2'
   have HN:Hid (s.data.toList.length=n):=Lib.hid (by rw[← hn,Array.length_toList];rfl)
   have HS:Hid (s.size=n):=Lib.hid hn
   go_enter Tryz.func165,Tryz.ntmps165
   rw[← HS.out] at h1' h2'
   go_wp2
   clear hcs hf1 hcv h1' h2'
   go_loopw [17,3,4,5] (fun s17 s3 s4 s5 wr=>∃ i:Nat,s17=.int .i64 i∧i≤n∧Frm [] W1 wr∧∀ j c,j < i→s.data.toList[j]?=some c→charOk j c=true) (fun s17 _ _ _ _=>n - (intOf s17).toNat)
   case atStart=>exact⟨0,rfl,Nat.zero_le _,Frm.refl _ _,fun j x hj=>by omega⟩
   case round =>
    obtain⟨i,rfl,hi,hf,hno⟩:=hrel
    have HF:=Lib.hid hf;have HNO:=Lib.hid hno
    clear hf hno
    by_cases hlt:i < n
    ·have hlt':(i:Int) < (n:Int):=by omega
     obtain⟨c,hc⟩:∃ c,s.data.toList[i]?=some c:=⟨_,List.getElem?_eq_getElem (by rw[HN.out];exact hlt)⟩
     have cc:=HF.out.keep (HCS.out i c hc)
     have HC:=Lib.hid hc
     have hb:(c.toNat:Int) < 256:=by have:=c.toNat_lt;omega
     have hb0:(0:Int)≤(c.toNat:Int):=by omega
     clear hc hn
     have hcs:=cases95 (c.toNat:Int)
     have hiz:=casesZ i
     rcases hiz with ⟨q2,hiz⟩ | ⟨q2,hiz⟩ <;> rcases hcs with ⟨q1,h⟩ | ⟨q1,h,h'⟩ | ⟨q1,h,h'⟩ | ⟨q1,h,h'⟩ | ⟨q1,h,h'⟩ | ⟨q1,h,h'⟩ | ⟨q1,h,h'⟩ | ⟨q1,h,h'⟩ | ⟨q1,h⟩
     all_goals
      go_wp2
      all_goals first
       | (exfalso;simp at *;omega)
       | (go_ret
          refine⟨?_,HF1.out.trans HF.out⟩
          rw[name_no HC.out (charOk_no' (by omega))]
          rfl)
       | (refine⟨⟨i + 1,congrArg (Value.int .i64) (by omega),hlt,HF.out,fun j d hj hd=>?_⟩,by simp[intOf];omega⟩
          by_cases e:j=i
          ·subst e
           rw[HC.out] at hd;cases hd
           exact charOk_iff.2 (by omega)
          ·exact HNO.out j d (by omega) hd)
    ·have hge:¬ (i:Int) < (n:Int):=by omega
     clear hn
     go_wp2
     go_ret
     refine⟨?_,HF1.out.trans HF.out⟩
     rw[name_yes (by rw[HS.out];omega) (by rw[HS.out];omega) fun j d hd=>HNO.out j d (by have:=lt_of_some hd;rw[HN.out] at this;omega) hd]
     rfl
end Go.Proofs.YtohfkhjlnlahdaaGreat
