/- Part of the proof. -/
import Derived.Test.YtohfkhjlnlahdaaGreatV13
import Derived.Deep.MidRow
import Derived.Deep.WholeRow
import Derived.Test.YtohfkhjlnlahdaaGreatV06
import Derived.Lib.SlicesS
import Derived.BigQuiet
import Derived.StillTail
import Derived.Test.YtohfkhjlnlahdaaGreatProg
import Derived.Lib.Hide
import Derived.WalkLawsBesides
import Derived.Deep.DeepMust
import Derived.LoopTactic
import Derived.Laws.IdiomStrings
import Derived.Shelf.Bytes.SlSmallAll
import Derived.Deep.Upon
import Derived.ArgAppend
import Derived.Deep.AppendLies
import Derived.Maps.AppendAt
import Derived.BigRegion
import Derived.Deep.RegionHeld3
import Derived.Deep.RegionLaw
import Derived.Deep.DeepCutAuto
import Derived.Test.YtohfkhjlnlahdaaGreatV08
import Derived.Test.YtohfkhjlnlahdaaGreatV03
import Derived.RangeFuncNested
import Derived.RangeFuncLeaves
import Derived.RangeFuncCalls
set_option linter.all false
namespace Go.Proofs.YtohfkhjlnlahdaaGreat
open Go.RowKit Go.Maps Go.BigFrame
def wf64 (x:Int):Prop:=-9223372036854775808≤x∧x≤9223372036854775807
theorem Tryz.keySK:Keyed Tryz.prog 135:=int_keyed Tryz.underlying135
theorem key_kind {t:Int} (h:wf64 t):keyOf Tryz.prog 135 (.int .i64 t)=some (.int .i64 t):=
 keyOf_int_mk Tryz.underlying135 (by simp only[Lit.wf,show IntKind.i64.min=-9223372036854775808 from rfl,show IntKind.i64.max=9223372036854775807 from rfl,Bool.and_eq_true,decide_eq_true_eq];exact h)
def wSend:ByteArray:={ data:=#[115,101,110,100] }
def wRecv:ByteArray:={ data:=#[114,101,99,101,105,118,101] }
def wTime:ByteArray:={ data:=#[116,105,109,101,111,117,116] }
def wSil:ByteArray:={ data:=#[115,105,108,101,110,116] }
def kWord (k:Int):ByteArray:=if k=1 then wSend else if k=2 then wRecv else if k=3 then wTime else if k=4 then wSil else emptyS
def kSpeaks (k:Int):Bool:=decide (k=1) || decide (k=2)
def kFn (k:Int):Value:=if k=1 then .func (.func 210) #[] #[] else if k=2 then .func (.func 210) #[] #[] else if k=3 then .func (.func 211) #[] #[] else if k=4 then .func (.func 210) #[] #[] else .nilFunc
def kOk (k:Int):Bool:=decide (1≤k) && decide (k≤4)
theorem Tryz.zeroKind (w:World):(zeroValue 279).run Tryz.prog w=.ok (.agg #[.string { data:=#[] },.bool false,.nilFunc]) w:=
 (zero_of_info (show (Tryz.prog.info? 279).map (fun i=>(i.zero,i.size))=some (some (.agg #[.string { data:=#[] },.bool false,.nilFunc]),3) by kernel_rfl)).1 w
def KindsAt (mb:Nat) (w:World):Prop:=∀ W,Frm [] w W→∀ k,wf64 k →
 (Instr.lookup 280 (.map (some mb)) (.int .i64 k) true).run Tryz.prog W=.ok (.tuple #[.agg #[.string (kWord k),.bool (kSpeaks k),kFn k],.bool (kOk k)]) W ∧
 (Instr.lookup 280 (.map (some mb)) (.int .i64 k) false).run Tryz.prog W=.ok (.agg #[.string (kWord k),.bool (kSpeaks k),kFn k]) W
theorem lit_ne {a b:Int} (h:a≠b):(Lit.int .i64 a)≠(Lit.int .i64 b):=fun e=>h (by cases e;rfl)
theorem kinds_at {mb:Nat} {w:World} (f:Lit→Option Value) (n c:Nat) (h:MapAt Tryz.prog 135 w (some mb) n f c)
  (hf:∀ k,f (.int .i64 k)=if kOk k then some (.agg #[.string (kWord k),.bool (kSpeaks k),kFn k]) else none):KindsAt mb w:=by
 intro W hW k hk
 have hm:=h.frm hW (by simp)
 have e1:(f (.int .i64 k)).getD (.agg #[.string { data:=#[] },.bool false,.nilFunc])=.agg #[.string (kWord k),.bool (kSpeaks k),kFn k]:=by
  rw[hf]
  cases ho:kOk k with
  | true=>rfl
  | false =>
    have hne:¬ (1≤k∧k≤4):=by
     intro h2
     unfold kOk at ho
     rw[decide_eq_true h2.1,decide_eq_true h2.2] at ho
     cases ho
    simp only[Bool.false_eq_true,if_false,Option.getD_none]
    unfold kWord kSpeaks kFn
    rw[if_neg (by omega),if_neg (by omega),if_neg (by omega),if_neg (by omega),decide_eq_false (by omega),decide_eq_false (by omega),if_neg (by omega),if_neg (by omega),if_neg (by omega),if_neg (by omega)]
    rfl
 have e2:(f (.int .i64 k)).isSome=kOk k:=by rw[hf];cases kOk k <;> rfl
 have h1:=hm.look_ok Tryz.keySK Tryz.underlying280 (Tryz.zeroKind W) (key_kind hk)
 have h2:=hm.look Tryz.keySK Tryz.underlying280 (Tryz.zeroKind W) (key_kind hk)
 rw[e1,e2] at h1
 rw[e1] at h2
 exact⟨h1,h2⟩
set_option maxHeartbeats 2000000 in
set_option maxRecDepth 100000 in
theorem rKinds_any (w:World):Calls Tryz.prog 169 #[] w (RetV fun v w'=>∃ mb,v=.map (some mb)∧KindsAt mb w'∧Frm [] w w'):=by
 have hmm:=@run_makeMap Tryz.prog
 have hw:∀ k:Int,1≤k→k≤4→wf64 k:=fun k h1 h2=>by unfold wf64;omega
 have M0:=MapAt.made Tryz.prog 135 w
 obtain⟨w1,r1,M1,F1⟩:=M0.store Tryz.keySK Tryz.underlying280 (by unfold maxLen;omega) (key_kind (hw 1 (by omega) (by omega))) (by trivial) (.agg #[.string wSend,.bool true,.func (.func 210) #[] #[]])
 obtain⟨w2,r2,M2,F2⟩:=M1.store Tryz.keySK Tryz.underlying280 (by unfold maxLen;omega) (key_kind (hw 2 (by omega) (by omega))) (by trivial) (.agg #[.string wRecv,.bool true,.func (.func 210) #[] #[]])
 obtain⟨w3,r3,M3,F3⟩:=M2.store Tryz.keySK Tryz.underlying280 (by unfold maxLen;omega) (key_kind (hw 3 (by omega) (by omega))) (by trivial) (.agg #[.string wTime,.bool false,.func (.func 211) #[] #[]])
 obtain⟨w4,r4,M4,F4⟩:=M3.store Tryz.keySK Tryz.underlying280 (by unfold maxLen;omega) (key_kind (hw 4 (by omega) (by omega))) (by trivial) (.agg #[.string wSil,.bool false,.func (.func 210) #[] #[]])
 have HK:Hid (KindsAt w.heap.size w4):=Lib.hid (by
  refine kinds_at _ _ _ M4 fun k=>?_
  by_cases h4:k=4
  ·subst h4;rw[updL_same];rfl
  rw[updL_other _ _ (lit_ne h4)]
  by_cases h3:k=3
  ·subst h3;rw[updL_same];rfl
  rw[updL_other _ _ (lit_ne h3)]
  by_cases h2:k=2
  ·subst h2;rw[updL_same];rfl
  rw[updL_other _ _ (lit_ne h2)]
  by_cases h1:k=1
  ·subst h1;rw[updL_same];rfl
  rw[updL_other _ _ (lit_ne h1)]
  have:kOk k=false:=by
   unfold kOk
   rw[Bool.and_eq_false_iff,decide_eq_false_iff_not,decide_eq_false_iff_not]
   omega
  rw[this];rfl)
 have HF:Hid (Frm [] w w4):=Lib.hid ((((((Frm.refl [] w).alloc _).then F1 (by simp)).then F2 (by simp)).then F3 (by simp)).then F4 (by simp))
 clear M0 M1 M2 M3 M4 F1 F2 F3 F4 hw
 unfold wSend at r1
 unfold wRecv at r2
 unfold wTime at r3
 unfold wSil at r4
 go_enter Tryz.func169,Tryz.ntmps169
 go_wp2
 go_ret
 exact⟨_,rfl,_,rfl,HK.out,HF.out⟩
end Go.Proofs.YtohfkhjlnlahdaaGreat
namespace Go.Proofs.YtohfkhjlnlahdaaGreat
open Go
theorem nameB_size {b:ByteArray} (h:nameB b=true):1≤b.size∧b.size≤32:=by
 unfold nameB at h
 simp only[Bool.and_eq_true,decide_eq_true_eq] at h
 exact h.1
theorem find_ixf {α:Type} {p:α→Bool}:∀ {l:List α},match l.find? p with
  | none=>ixf p l=-1
  | some x=>∃ k:Nat,ixf p l=k∧l[k]?=some x∧p x=true
 | []=>rfl
 | a :: l=>by
   have ih:=find_ixf (p:=p) (l:=l)
   rw[List.find?_cons]
   cases hp:p a with
   | true=>exact⟨0,by unfold ixf;rw[hp];rfl,rfl,hp⟩
   | false =>
     unfold ixf
     rw[hp]
     simp only[Bool.false_eq_true,if_false]
     cases hf:l.find? p with
     | none=>rw[hf] at ih;simp only at ih ⊢;rw[ih];rfl
     | some x =>
       rw[hf] at ih
       obtain⟨k,h1,h2,h3⟩:=ih
       exact⟨k + 1,by rw[h1,if_neg (by omega)];omega,by simpa using h2,h3⟩
section
variable {s:SesD} {r:RolD}
theorem first_zero:∀ {l:List RolD} {i:Nat},firstE s i l=0→∀ k a,l[k]?=some a→rolE s (i + k) a=0
 | [],i,_,k,a,hk=>by simp at hk
 | b :: l,i,h,k,a,hk=>by
   unfold firstE at h
   by_cases e:rolE s i b=0
   ·rw[if_pos e] at h
    cases k with
    | zero=>simp at hk;subst hk;exact e
    | succ k=>have:=first_zero h k a (by simpa using hk);rwa [show i + (k + 1)=i + 1 + k by omega]
   ·rw[if_neg e] at h;exact absurd h e
theorem rolE_zero {i:Nat} (h:rolE s i r=0):ckRole r=0∧(i:Int)≤rolIx s r.name:=by
 unfold rolE at h
 by_cases e:ckRole r=0
 ·rw[if_pos e] at h
  refine⟨e,?_⟩
  rcases Int.lt_or_le (rolIx s r.name) i with h1 | h1
  ·rw[if_pos h1] at h;cases h
  ·exact h1
 ·rw[if_neg e] at h;exact absurd h e
theorem uniq_of {α:Type} {f:α→ByteArray} {l:List α} (h:∀ (i:Nat) (a:α),l[i]?=some a→(i:Int)≤ixf (fun x=>decide (f x=f a)) l):∀ (i j:Nat) (a b:α),l[i]?=some a→l[j]?=some b→f a=f b→i=j:=by
 have key:∀ (i j:Nat) (a b:α),l[i]?=some a→l[j]?=some b→f a=f b→¬ i < j:=by
  intro i j a b hi hj e hlt
  have h1:=h j b hj
  obtain⟨k,hk,hkl⟩:=ixf_nat (show 0≤ixf (fun x=>decide (f x=f b)) l by omega)
  obtain⟨x,-,-,h4⟩:=ixf_at hk
  have:=h4 i a (by omega) hi
  rw[decide_eq_false_iff_not] at this
  exact this e
 intro i j a b hi hj e
 have h1:=key i j a b hi hj e
 have h2:=key j i b a hj hi e.symm
 omega
theorem ckRole_ok (h:ckRole r=0):nameB r.name=true∧r.ctrs.length≤4∧(∀ i c,r.ctrs[i]?=some c→ctrBad r i c=false)∧1≤r.sts.length∧r.sts.length≤24∧(∀ i c,r.sts[i]?=some c→stBad r i c=false) ∧
  r.steps.length≤80∧∀ i t,r.steps[i]?=some t→stepB r i t=true:=by
 unfold ckRole at h
 by_cases h1:nameB r.name=false
 ·rw[if_pos h1] at h;cases h
 rw[if_neg h1] at h
 by_cases h2:4 < r.ctrs.length∨anyIx (ctrBad r) 0 r.ctrs=true
 ·rw[if_pos h2] at h;cases h
 rw[if_neg h2] at h
 by_cases h3:r.sts.length < 1∨24 < r.sts.length∨anyIx (stBad r) 0 r.sts=true
 ·rw[if_pos h3] at h;cases h
 rw[if_neg h3] at h
 by_cases h4:80 < r.steps.length∨anyIx (fun i s=>!stepB r i s) 0 r.steps=true
 ·rw[if_pos h4] at h;cases h
 simp only[not_or,Nat.not_lt,Bool.not_eq_true,Bool.not_eq_false] at h1 h2 h3 h4
 refine⟨h1,h2.1,fun i c hc=>?_,h3.1,h3.2.1,fun i c hc=>?_,h4.1,fun i t ht=>?_⟩
 ·have:=anyIx_false.1 h2.2 i c hc;rwa [Nat.zero_add] at this
 ·have:=anyIx_false.1 h3.2.2 i c hc;rwa [Nat.zero_add] at this
 ·have:=anyIx_false.1 h4.2 i t ht;rw[Nat.zero_add] at this;simpa using this
theorem stp_ok {i:Nat} {t:StpD} (hc:∀ c∈r.ctrs,1≤c.lim∧c.lim≤1000) (hl:lostB s r=false) (ht:r.steps[i]?=some t) (h:stepB r i t=true):StpOk s r t:=by
 have hs:=find_ixf (p:=fun x:StD=>decide (x.name=t.frm)) (l:=r.sts)
 unfold stepB at h
 cases hf:r.sts.find? (fun x=>decide (x.name=t.frm)) with
 | none=>rw[hf] at h;cases h
 | some f =>
   rw[hf] at h hs
   obtain⟨k,g1,-,-⟩:=hs
   simp only[Bool.and_eq_true,decide_eq_true_eq] at h
   obtain⟨⟨⟨h1,h2⟩,h3⟩,-⟩:=h
   have hk:(t.kind=1∨t.kind=2)∧nameB t.msg=true∧t.peer≠r.name∨t.kind=3∨t.kind=4:=by
    unfold kindB at h3
    by_cases e:t.kind=1∨t.kind=2
    ·rw[if_pos e] at h3
     simp only[Bool.and_eq_true,Bool.not_eq_true',decide_eq_false_iff_not] at h3
     exact .inl ⟨e,h3.1.1,h3.2⟩
    ·rw[if_neg e] at h3
     by_cases e3:t.kind=3
     ·exact .inr (.inl e3)
     ·rw[if_neg e3] at h3
      by_cases e4:t.kind=4
      ·exact .inr (.inr e4)
      ·rw[if_neg e4] at h3;cases h3
   refine⟨by omega,by omega,by show 0≤ixf _ _;omega,h1,fun h2=>?_,fun h2=>?_,fun hne=>?_⟩
   ·rcases hk with ⟨-,h4,-⟩ | h4 | h4
    ·exact nameB_size h4
    ·omega
    ·omega
   ·rcases hk with ⟨h5,-,h4⟩ | h4 | h4
    ·refine⟨?_,h4⟩
     unfold lostB at hl
     rw[List.any_eq_false] at hl
     have:=hl t (List.mem_of_getElem? ht)
     simp only[Bool.and_eq_true,decide_eq_true_eq,not_and,Int.not_lt] at this
     exact this (by unfold speaks;rcases h5 with h5 | h5 <;> simp[h5])
    ·omega
    ·omega
   ·unfold guardB at h2
    rw[if_neg hne] at h2
    have hs:=find_ixf (p:=fun x:CtrD=>decide (x.name=t.ctr)) (l:=r.ctrs)
    cases hg:r.ctrs.find? (fun x=>decide (x.name=t.ctr)) with
    | none=>rw[hg] at h2;cases h2
    | some c =>
      rw[hg] at h2 hs
      obtain⟨k,g1,g2,-⟩:=hs
      simp only[Bool.and_eq_true,decide_eq_true_eq] at h2
      exact⟨k,c,g1,g2,by omega,by omega,by omega,by omega,by omega,by omega,by omega⟩
theorem ses_ok (h:ckSes s=0):SesOk s:=by
 unfold ckSes at h
 by_cases h1:nameB s.name=false
 ·rw[if_pos h1] at h;cases h
 rw[if_neg h1] at h
 by_cases h2:sesBad s=true
 ·rw[if_pos h2] at h;cases h
 rw[if_neg h2] at h
 have h3:firstE s 0 s.roles=0:=by
  by_cases h3:firstE s 0 s.roles=0
  ·exact h3
  ·rw[if_neg h3] at h;exact h
 rw[if_pos h3] at h
 by_cases h4:s.roles.any (lostB s)=true
 ·rw[if_pos h4] at h;cases h
 simp only[Bool.not_eq_true,Bool.not_eq_false] at h1 h2 h4
 unfold sesBad at h2
 simp only[Bool.or_eq_false_iff,decide_eq_false_iff_not] at h2
 have hr:∀ (i:Nat) (r:RolD),s.roles[i]?=some r→ckRole r=0∧(i:Int)≤rolIx s r.name:=fun i r hi=>by
  have:=first_zero h3 i r hi
  rw[Nat.zero_add] at this
  exact rolE_zero this
 refine⟨by omega,by omega,by omega,by omega,by omega,by omega,h1,fun r hm=>?_,uniq_of (f:=RolD.name) fun i a hi=>(hr i a hi).2⟩
 obtain⟨i,hi⟩:=List.getElem?_of_mem hm
 obtain⟨k1,k2,k3,k4,k5,k6,k7,k8⟩:=ckRole_ok (hr i r hi).1
 have hc:∀ c∈r.ctrs,nameB c.name=true∧1≤c.lim∧c.lim≤1000:=fun c hm=>by
  obtain⟨j,hj⟩:=List.getElem?_of_mem hm
  have:=k3 j c hj
  unfold ctrBad at this
  simp only[Bool.or_eq_false_iff,decide_eq_false_iff_not,Bool.not_eq_false'] at this
  exact⟨this.1.1.1,by omega,by omega⟩
 have hl:lostB s r=false:=by
  rw[List.any_eq_false] at h4
  simpa using h4 r hm
 refine⟨k1,k2,hc,uniq_of (f:=CtrD.name) fun j c hj=>?_,k4,k5,uniq_of (f:=StD.name) fun j c hj=>?_,k7,fun t ht=>?_⟩
 ·have:=k3 j c hj
  unfold ctrBad at this
  simp only[Bool.or_eq_false_iff,decide_eq_false_iff_not,Bool.not_eq_false'] at this
  have h5:=this.1.1.2
  unfold ctrIx at h5
  omega
 ·have:=k6 j c hj
  unfold stBad at this
  simp only[Bool.or_eq_false_iff,decide_eq_false_iff_not,Bool.not_eq_false'] at this
  have h5:=this.1.1.2
  unfold stIx at h5
  omega
 ·obtain⟨j,hj⟩:=List.getElem?_of_mem ht
  exact stp_ok (fun c hm=>(hc c hm).2) hl hj (k8 j t hj)
end
end Go.Proofs.YtohfkhjlnlahdaaGreat
namespace Go.Proofs.YtohfkhjlnlahdaaGreat
open Go.RowKit
def isBook:Obj→Bool | .loop _=>true | .deferred _=>true | _=>false
structure Bk (B:Nat) (w w':World):Prop where
 os:w'.os=w.os
 tape:w'.tape=w.tape
 output:w'.output=w.output
 size:w.heap.size≤w'.heap.size
 block:∀ k o,w.heap[k]?=some o→k < B∨isBook o=false→w'.heap[k]?=some o
def books (w:World):List Nat:=(List.range w.heap.size).filter fun k=>(w.heap[k]?).any isBook
theorem mem_books {w:World} {k:Nat}:k∈books w↔∃ o,w.heap[k]?=some o∧isBook o=true:=by
 unfold books
 rw[List.mem_filter,List.mem_range]
 constructor
 ·rintro⟨hk,h⟩
  rw[Array.getElem?_eq_getElem hk] at h ⊢
  exact⟨_,rfl,by simpa using h⟩
 ·rintro⟨o,ho,hb⟩
  exact⟨lt_of_block ho,by simp[ho,hb]⟩
theorem not_books {w:World} {k:Nat} {o:Obj} (h:w.heap[k]?=some o) (hb:isBook o=false):k∉books w:=fun hk=>by
 obtain⟨o',ho,h1⟩:=mem_books.1 hk
 rw[h] at ho;cases ho;rw[hb] at h1;cases h1
section
variable {B:Nat} {w w' w2:World}
theorem Bk.frm (h:Bk B w w'):Frm (books w) w w':=⟨h.os,h.tape,h.output,h.size,fun k hk hn=>by
 have ho:w.heap[k]?=some (w.heap[k]):=Array.getElem?_eq_getElem hk
 rw[ho]
 refine h.block k _ ho (.inr ?_)
 cases hb:isBook w.heap[k] with
 | false=>rfl
 | true=>exact absurd (mem_books.2 ⟨_,ho,hb⟩) hn⟩
theorem Bk.old {w0:World} (h:Bk B w w') (h0:Frm [] w0 w) (hB:w0.heap.size≤B):Frm [] w0 w':=
 ⟨h.os.trans h0.os,h.tape.trans h0.tape,h.output.trans h0.output,Nat.le_trans h0.size h.size,fun k hk _=>by
  have e:=h0.block k hk (by simp)
  have hk':w0.heap[k]?=some (w0.heap[k]):=Array.getElem?_eq_getElem hk
  rw[hk'] at e ⊢
  exact h.block k _ e (.inl (by omega))⟩
theorem Bk.at {k:Nat} {o:Obj} (h:Bk B w w') (hk:w.heap[k]?=some o) (hb:isBook o=false):w'.heap[k]?=some o:=h.block k o hk (.inr hb)
theorem Frm.bk (h:Frm [] w w') (B:Nat):Bk B w w':=⟨h.os,h.tape,h.output,h.size,fun _ _ hk _=>h.at hk (by simp)⟩
theorem Bk.putObj (w:World) {l:Nat} {o:Obj} (o':Obj) (hl:w.heap[l]?=some o) (ho:isBook o=true) (hB:B≤l):Bk B w (w.putObj l o'):=
 ⟨rfl,rfl,rfl,by simp[World.putObj],fun k o1 hk h1=>by
  have hne:k≠l:=by
   rintro rfl
   rw[hl] at hk;cases hk
   rcases h1 with h1 | h1
   ·omega
   ·rw[ho] at h1;cases h1
  rw[World.putObj_heap_other hne];exact hk⟩
def KB (w w':World):Prop:=∀ (k:Nat) (o:Obj),w.heap[k]?=some o→isBook o=true→w'.heap[k]?=some o
theorem KB.refl (w:World):KB w w:=fun _ _ h _=>h
theorem KB.trans (h:KB w w') (k:KB w' w2):KB w w2:=fun i o hi ho=>k i o (h i o hi ho) ho
theorem KB.frm {F:List Nat} (h:Frm F w w') (hF:∀ x∈F,x∉books w):KB w w':=fun k o hk ho=>h.at hk (fun hx=>hF k hx (mem_books.2 ⟨o,hk,ho⟩))
theorem KB.frm0 (h:Frm [] w w'):KB w w':=KB.frm h (by simp)
end
def Iter {α:Type} (F:Fence) (n:Nat) (P:Program) (g:Nat) (lb:Array Value) (encs:α→Array Value) (R:World→Prop) (xs:List α):Prop:=
 ∀ (l:Nat) (J Jx:List α→World→Prop),
   (∀ pre W W',J pre W→Frm [] W W'→J pre W')→(∀ pre W W',Jx pre W→Frm [] W W'→Jx pre W')→(∀ pre W,J pre W→R W) →
   (∀ pre x rest W,xs=pre ++ x :: rest→J pre W→YieldAt F (n - 1) P l (encs x) W fun e W' =>
    (e=.returned (.bool true)∧J (pre ++ [x]) W')∨(e=.returned (.bool false)∧Jx (pre ++ [x]) W')) →
   ∀ W,J [] W→CallsIn F n P g (#[.func (.yield l) #[] #[]] ++ lb) W fun e W'=>(∃ v,e=.returned v)∧(J xs W'∨∃ pre x rest,xs=pre ++ x :: rest∧Jx (pre ++ [x]) W')
def roundEnd {α:Type} (I:List α→World→Prop) (Ix:Code→List α→World→Prop) (s:List α) (W:World):Exit→Act→World→Prop
 | .normal,_,W'=>KB W W'∧I s W'
 | .ret,_,W'=>KB W W'∧Ix .ret s W'
 | .exit id,_,W'=>KB W W'∧Ix (.exit id) s W'
 | .goto t,_,W'=>KB W W'∧Ix (.goto t) s W'
 | .panic _,_,_=>False
 | .outgrown,_,_=>False
variable {F:Fence} {n:Nat} {P:Program}
theorem wpIn_rangeList {α:Type} {g:Operand} {ps:Array Tmp} {assign body:Code} {Q:Exit→Act→World→Prop} {a:Act} {w:World}
  (hro:F.round=none) (h1:1≤n) {gf:Nat} {lb:Array Value} (hg:a.eval g=.func (.func gf) #[] lb) (hFg:F.fn gf) (eg:∀ args w,(callFunc gf args).run P w=.ok (.enter gf args) w)
  {encs:α→Array Value} {R:World→Prop} {xs:List α} (hit:Iter F (n - 1) P gf lb encs R xs) (hps:∀ x,(encs x).size=ps.size)
  (I:List α→World→Prop) (Ix:Code→List α→World→Prop) (sI:∀ s W W',I s W→Bk w.heap.size W W'→I s W') (sIx:∀ c s W W',Ix c s W→Bk w.heap.size W W'→Ix c s W')
  (hR:∀ s W,I s W→R W) (h0:I [] w)
  (hround:∀ (l:Nat) (pre:List α) (x:α) (rest:List α) (W:World),xs=pre ++ x :: rest→I pre W→w.heap.size≤l→(∃ r,W.heap[l]?=some (.loop r)) →
   assign.wpIn (F.inRound l) (n - 1 - 1) P (Exit.then (fun a' W'=>KB W W'∧∀ W2,Bk w.heap.size W' W2→(∃ r,W2.heap[l]?=some (.loop r))→body.wpIn (F.inRound l) (n - 1 - 1) P (roundEnd I Ix (pre ++ [x]) W2) a' W2) (fun _ _ _=>False))
    { tmps:=(ps.zip (encs x)).foldl (fun t (p,v)=>t.setIfInBounds p v) a.tmps,defers:=[] } W)
  (hdone:∀ (D:Nat) (W:World),w.heap.size≤D→I xs W→W.heap[D]?=some (.deferred (some []))→Q .normal { a with defers:={ target:=.collected D,args:=#[] } :: a.defers } W)
  (hstop:∀ (D:Nat) (c:Code) (pre:List α) (x:α) (rest:List α) (W:World),xs=pre ++ x :: rest→w.heap.size≤D→Ix c (pre ++ [x]) W→W.heap[D]?=some (.deferred (some []))→c.wpIn F n P Q { a with defers:={ target:=.collected D,args:=#[] } :: a.defers } W) :
  (Code.rangeFunc g ps assign body).wpIn F n P Q a w:=by
 refine wpIn_rangeFunc ?_
 intro fn hfn
 rw[hro]
 obtain⟨rec,hrec⟩:∃ rec:LoopState→Option Code→Loop,rec=fun st pe=>{ state:=st,pending:=pe,fn,tmps:=a.tmps,params:=ps,assign,body,defers:=w.heap.size }:=⟨_,rfl⟩
 obtain⟨W1,hW1⟩:∃ W1,(w.alloc (.deferred (some []))).alloc (.loop (rec .ready none))=W1:=⟨_,rfl⟩
 have hL1:W1.heap[w.heap.size + 1]?=some (.loop (rec .ready none)):=by
  rw[← hW1];have:=World.alloc_heap_new (w.alloc (.deferred (some []))) (.loop (rec .ready none));rwa [World.size_alloc] at this
 have hK1:W1.heap[w.heap.size]?=some (.deferred (some [])):=by
  rw[← hW1];exact(Below.heap_alloc _ _ _ (by simp)).trans (World.alloc_heap_new w _)
 have hF1:Frm [] w W1:=by rw[← hW1];exact((Frm.refl _ _).alloc _).alloc _
 have hI1:I [] W1:=sI _ _ _ h0 (hF1.bk _)
 refine⟨w.heap.size + 1,[{ target:=.collected w.heap.size,args:=#[] }],W1,{ target:=.fn (.func gf) lb,args:=#[.func (.yield (w.heap.size + 1)) #[] #[]] },W1,gf,
  #[.func (.yield (w.heap.size + 1)) #[] #[]] ++ lb,W1,?_,?_,?_,?_,fun _=>h1,?_⟩
 ·rw[← hW1,hrec];exact run_enterLoop_outer _ _ _ _ _
 ·simp only[resolve,hg]
  simp[go_sem]
 ·intro f' hf';simp[Target.leads] at hf';subst hf';exact hFg
 ·simp[invoke,go_sem,eg]
 ·refine(hit (w.heap.size + 1)
   (fun pre W=>I pre W∧W.heap[w.heap.size + 1]?=some (.loop (rec .ready none))∧W.heap[w.heap.size]?=some (.deferred (some [])))
   (fun pre W=>∃ c,Ix c pre W∧W.heap[w.heap.size + 1]?=some (.loop (rec .done (some c)))∧W.heap[w.heap.size]?=some (.deferred (some [])))
   (fun pre W W' hJ hf=>⟨sI _ _ _ hJ.1 (hf.bk _),hf.at hJ.2.1 (by simp),hf.at hJ.2.2 (by simp)⟩)
   (fun pre W W' ⟨c,hJ⟩ hf=>⟨c,sIx _ _ _ _ hJ.1 (hf.bk _),hf.at hJ.2.1 (by simp),hf.at hJ.2.2 (by simp)⟩)
   (fun pre W hJ=>hR _ _ hJ.1) ?_ W1 ⟨hI1,hL1,hK1⟩).mono ?_
  ·rintro pre x rest W hxs ⟨hi,hl,hk⟩
   have hy:=run_yield (P:=P) (args:=encs x) hl (by rw[hrec];exact hps x)
   rw[hrec] at hy
   refine⟨fn,_,assign,body,hy,roundIn_of_wpIn hfn (wpIn_mono (hround (w.heap.size + 1) pre x rest W hxs hi (by omega) ⟨_,hl⟩) ?_)⟩
   intro e a' W' hp
   cases e with
   | normal =>
     obtain⟨hkb,hb⟩:=hp
     have hl':=hkb _ _ hl rfl
     have hk':=hkb _ _ hk rfl
     have hlt:w.heap.size + 1 < W'.heap.size:=lt_of_block hl'
     refine⟨_,run_beginRound hl' (by rw[hrec]),?_⟩
     have hl2:(W'.putObj (w.heap.size + 1) (.loop { rec .ready none with state:=.busy })).heap[w.heap.size + 1]?=some (.loop { rec .ready none with state:=.busy }):=World.putObj_heap_same hlt
     have hk2:(W'.putObj (w.heap.size + 1) (.loop { rec .ready none with state:=.busy })).heap[w.heap.size]?=some (.deferred (some [])):=(World.putObj_heap_other (by omega)).trans hk'
     refine wpIn_mono (hb _ (Bk.putObj W' _ hl' rfl (by omega)) ⟨_,hl2⟩) ?_
     have fin:∀ (jump:Option Code) (W3:World),KB (W'.putObj (w.heap.size + 1) (.loop { rec .ready none with state:=.busy })) W3 →
       (Instr.endRound (w.heap.size + 1) jump).run P W3=.ok (.bool jump.isNone) (W3.putObj (w.heap.size + 1) (.loop (rec (if jump.isNone then .ready else .done) jump))) ∧
       Bk w.heap.size W3 (W3.putObj (w.heap.size + 1) (.loop (rec (if jump.isNone then .ready else .done) jump))) ∧
       (W3.putObj (w.heap.size + 1) (.loop (rec (if jump.isNone then .ready else .done) jump))).heap[w.heap.size + 1]?=some (.loop (rec (if jump.isNone then .ready else .done) jump)) ∧
       (W3.putObj (w.heap.size + 1) (.loop (rec (if jump.isNone then .ready else .done) jump))).heap[w.heap.size]?=some (.deferred (some [])):=fun jump W3 hk3=>by
      have hl3:=hk3 _ _ hl2 rfl
      have:=run_endRound (P:=P) jump hl3
      rw[hrec] at this ⊢
      exact⟨this,Bk.putObj W3 _ hl3 rfl (by omega),World.putObj_heap_same (lt_of_block hl3),(World.putObj_heap_other (by omega)).trans (hk3 _ _ hk2 rfl)⟩
     rintro e a3 W3 hp
     cases e with
     | normal =>
       obtain⟨hk3,hi3⟩:=hp
       obtain⟨hr,hb3,hl4,hk4⟩:=fin none W3 hk3
       exact⟨_,_,hr,.inl ⟨rfl,sI _ _ _ hi3 hb3,hl4,hk4⟩⟩
     | ret =>
       obtain⟨hk3,hi3⟩:=hp
       obtain⟨hr,hb3,hl4,hk4⟩:=fin (some .ret) W3 hk3
       exact⟨_,_,hr,.inr ⟨rfl,.ret,sIx _ _ _ _ hi3 hb3,hl4,hk4⟩⟩
     | exit id =>
       obtain⟨hk3,hi3⟩:=hp
       obtain⟨hr,hb3,hl4,hk4⟩:=fin (some (.exit id)) W3 hk3
       exact⟨_,_,hr,.inr ⟨rfl,.exit id,sIx _ _ _ _ hi3 hb3,hl4,hk4⟩⟩
     | goto t =>
       obtain⟨hk3,hi3⟩:=hp
       obtain⟨hr,hb3,hl4,hk4⟩:=fin (some (.goto t)) W3 hk3
       exact⟨_,_,hr,.inr ⟨rfl,.goto t,sIx _ _ _ _ hi3 hb3,hl4,hk4⟩⟩
     | panic ch=>exact hp.elim
     | outgrown=>exact hp.elim
   | ret=>exact hp.elim
   | exit id=>exact hp.elim
   | goto t=>exact hp.elim
   | panic ch=>exact hp.elim
   | outgrown=>exact hp.elim
  ·rintro e W2 ⟨⟨v,rfl⟩,(⟨hi,hl,hk⟩ | ⟨pre,x,rest,hxs,c,hi,hl,hk⟩)⟩
   ·exact⟨none,_,by have:=run_endLoop (P:=P) hl (by rw[hrec];simp);rw[hrec] at this;exact this,hdone _ _ (Nat.le_refl _) (sI _ _ _ hi (by rw[hrec] at hl;exact Bk.putObj W2 _ hl rfl (by omega))) ((World.putObj_heap_other (by omega)).trans hk)⟩
   ·exact⟨some c,_,by have:=run_endLoop (P:=P) hl (by rw[hrec];simp);rw[hrec] at this;exact this,hstop _ c pre x rest _ hxs (Nat.le_refl _) (sIx _ _ _ _ hi (by rw[hrec] at hl;exact Bk.putObj W2 _ hl rfl (by omega))) ((World.putObj_heap_other (by omega)).trans hk)⟩
theorem wp_rangeList {α:Type} {g:Operand} {ps:Array Tmp} {assign body:Code} {Q:Exit→Act→World→Prop} {a:Act} {w:World}
  {gf:Nat} {lb:Array Value} (hg:a.eval g=.func (.func gf) #[] lb) (eg:∀ args w,(callFunc gf args).run P w=.ok (.enter gf args) w)
  {encs:α→Array Value} {R:World→Prop} {xs:List α} (hit:Iter Fence.wide 2 P gf lb encs R xs) (hps:∀ x,(encs x).size=ps.size)
  (I:List α→World→Prop) (Ix:Code→List α→World→Prop) (sI:∀ s W W',I s W→Bk w.heap.size W W'→I s W') (sIx:∀ c s W W',Ix c s W→Bk w.heap.size W W'→Ix c s W')
  (hR:∀ s W,I s W→R W) (h0:I [] w)
  (hround:∀ (l:Nat) (pre:List α) (x:α) (rest:List α) (W:World),xs=pre ++ x :: rest→I pre W→w.heap.size≤l→(∃ r,W.heap[l]?=some (.loop r)) →
   assign.wpIn (Fence.wide.inRound l) 1 P (Exit.then (fun a' W'=>KB W W'∧∀ W2,Bk w.heap.size W' W2→(∃ r,W2.heap[l]?=some (.loop r))→body.wpIn (Fence.wide.inRound l) 1 P (roundEnd I Ix (pre ++ [x]) W2) a' W2) (fun _ _ _=>False))
    { tmps:=(ps.zip (encs x)).foldl (fun t (p,v)=>t.setIfInBounds p v) a.tmps,defers:=[] } W)
  (hdone:∀ (D:Nat) (W:World),w.heap.size≤D→I xs W→W.heap[D]?=some (.deferred (some []))→Q .normal { a with defers:={ target:=.collected D,args:=#[] } :: a.defers } W)
  (hstop:∀ (D:Nat) (c:Code) (pre:List α) (x:α) (rest:List α) (W:World),xs=pre ++ x :: rest→w.heap.size≤D→Ix c (pre ++ [x]) W→W.heap[D]?=some (.deferred (some []))→c.wp P Q { a with defers:={ target:=.collected D,args:=#[] } :: a.defers } W) :
  (Code.rangeFunc g ps assign body).wp P Q a w:=
 wpIn_wide.1 (wpIn_rangeList (F:=Fence.wide) (n:=3) rfl (by omega) hg trivial eg hit hps I Ix sI sIx hR h0 hround hdone (fun D c pre x rest W h1 h2 h3 h4=>wpIn_wide.2 (hstop D c pre x rest W h1 h2 h3 h4)))
theorem calls_of_marks {f:FuncId} {fn:Func} {c:Code} {args:Array Value} {w:World} {R:Ending→World→Prop} (hf:P.funcs[f]?=some fn) (hb:fn.body=some c)
  (h:c.wp P (bodyPostM Fence.wide 3 P fn R) { tmps:=args ++ Array.replicate (fn.ntmps - args.size) undef,defers:=[] } w):Calls P f args w R:=
 callsIn_wide.1 (callsIn_of_wp_marks hf hb trivial (wpIn_wide.2 h) rfl)
theorem Frm.putObj (w:World) (l:Nat) (o:Obj):Frm [l] w (w.putObj l o):=
 ⟨rfl,rfl,rfl,by simp[World.putObj],fun k _ hn=>World.putObj_heap_other (by simpa using hn)⟩
theorem leaves_mark {fn:Func} {tmps:Array Value} {R:Ending→World→Prop} {D:Nat} {w:World} (hK:w.heap[D]?=some (.deferred (some [])))
  (h:∃ v,(results fn tmps).run P (w.putObj D (.deferred none))=.ok v (w.putObj D (.deferred none))∧R (.returned v) (w.putObj D (.deferred none))) :
  LeavesInM Fence.wide 3 P fn tmps R [{ target:=.collected D,args:=#[] }] .returning w:=
 ⟨by simp,.inl ⟨_,_,rfl,run_takeDeferred hK,h⟩⟩
theorem run_equalIn_func (w:World) (d:Nat) (t:TypeId) (ps rs:Array TypeId) (v:Bool) (f:Nat) (lb:Array Value) (hu:P.underlying t=some (.func ps rs v)) :
  (Op.equalIn (d + 1) t (.func (.func f) #[] lb) .nilFunc).run P w=.ok false w:=by
 simp[Op.equalIn,run_underlying hu]
theorem run_eql_func (w:World) (t:TypeId) (ps rs:Array TypeId) (v:Bool) (f:Nat) (lb:Array Value) (hu:P.underlying t=some (.func ps rs v)) :
  (binOp .eql t (.func (.func f) #[] lb) .nilFunc).run P w=.ok (.bool false) w:=by
 simp only[binOp]
 simp[show Op.equal t (.func (.func f) #[] lb) .nilFunc=Op.equalIn (9999 + 1) t (.func (.func f) #[] lb) .nilFunc from rfl,run_equalIn_func w 9999 t ps rs v f lb hu]
end Go.Proofs.YtohfkhjlnlahdaaGreat
