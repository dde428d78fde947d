/- Part of the proof. -/
import Derived.Test.YtohfkhjlnlahdaaGreatW13
import Derived.Deep.MidRow
import Derived.Deep.WholeRow
import Derived.Test.YtohfkhjlnlahdaaGreatW06
import Derived.Lib.SlicesS
import Derived.BigQuiet
import Derived.StillTail
import Derived.Test.YtohfkhjlnlahdaaGreatProg
import Derived.Lib.Hide
import Derived.WalkLawsBesides
import Derived.Deep.DeepMust
import Derived.LoopTactic
import Derived.Laws.IdiomStrings
import Derived.Shelf.Bytes.SlSmallAll
import Derived.Deep.Upon
import Derived.ArgAppend
import Derived.Deep.AppendLies
import Derived.Maps.AppendAt
import Derived.BigRegion
import Derived.Deep.RegionHeld3
import Derived.Deep.RegionLaw
import Derived.Deep.DeepCutAuto
import Derived.Test.YtohfkhjlnlahdaaGreatW08
import Derived.Maps.OwnSet
import Derived.Maps.OwnOps
import Derived.Test.YtohfkhjlnlahdaaGreatW07
import Derived.Test.YtohfkhjlnlahdaaGreatW03
import Derived.Laws.StructEq
set_option linter.all false
namespace Go.Proofs.YtohfkhjlnlahdaaGreat
open Go.RowKit Go.Maps Go.BigFrame
def wf64 (x:Int):Prop:=-9223372036854775808≤x∧x≤9223372036854775807
theorem Tryz.keySK:Keyed Tryz.prog 135:=int_keyed Tryz.underlying135
theorem key_kind {t:Int} (h:wf64 t):keyOf Tryz.prog 135 (.int .i64 t)=some (.int .i64 t):=
 keyOf_int_mk Tryz.underlying135 (by simp only[Lit.wf,show IntKind.i64.min=-9223372036854775808 from rfl,show IntKind.i64.max=9223372036854775807 from rfl,Bool.and_eq_true,decide_eq_true_eq];exact h)
def wSend:ByteArray:={ data:=#[115,101,110,100] }
def wRecv:ByteArray:={ data:=#[114,101,99,101,105,118,101] }
def wTime:ByteArray:={ data:=#[116,105,109,101,111,117,116] }
def wSil:ByteArray:={ data:=#[115,105,108,101,110,116] }
def kWord (k:Int):ByteArray:=if k=1 then wSend else if k=2 then wRecv else if k=3 then wTime else if k=4 then wSil else emptyS
def kSpeaks (k:Int):Bool:=decide (k=1) || decide (k=2)
def kFn (k:Int):Value:=if k=1 then .func (.func 210) #[] #[] else if k=2 then .func (.func 210) #[] #[] else if k=3 then .func (.func 211) #[] #[] else if k=4 then .func (.func 210) #[] #[] else .nilFunc
def kOk (k:Int):Bool:=decide (1≤k) && decide (k≤4)
theorem Tryz.zeroKind (w:World):(zeroValue 279).run Tryz.prog w=.ok (.agg #[.string { data:=#[] },.bool false,.nilFunc]) w:=
 (zero_of_info (show (Tryz.prog.info? 279).map (fun i=>(i.zero,i.size))=some (some (.agg #[.string { data:=#[] },.bool false,.nilFunc]),3) by kernel_rfl)).1 w
def KindsAt (mb:Nat) (w:World):Prop:=∀ W,Frm [] w W→∀ k,wf64 k →
 (Instr.lookup 280 (.map (some mb)) (.int .i64 k) true).run Tryz.prog W=.ok (.tuple #[.agg #[.string (kWord k),.bool (kSpeaks k),kFn k],.bool (kOk k)]) W ∧
 (Instr.lookup 280 (.map (some mb)) (.int .i64 k) false).run Tryz.prog W=.ok (.agg #[.string (kWord k),.bool (kSpeaks k),kFn k]) W
theorem lit_ne {a b:Int} (h:a≠b):(Lit.int .i64 a)≠(Lit.int .i64 b):=fun e=>h (by cases e;rfl)
theorem kinds_at {mb:Nat} {w:World} (f:Lit→Option Value) (n c:Nat) (h:MapAt Tryz.prog 135 w (some mb) n f c)
  (hf:∀ k,f (.int .i64 k)=if kOk k then some (.agg #[.string (kWord k),.bool (kSpeaks k),kFn k]) else none):KindsAt mb w:=by
 intro W hW k hk
 have hm:=h.frm hW (by simp)
 have e1:(f (.int .i64 k)).getD (.agg #[.string { data:=#[] },.bool false,.nilFunc])=.agg #[.string (kWord k),.bool (kSpeaks k),kFn k]:=by
  rw[hf]
  cases ho:kOk k with
  | true=>rfl
  | false =>
    have hne:¬ (1≤k∧k≤4):=by
     intro h2
     unfold kOk at ho
     rw[decide_eq_true h2.1,decide_eq_true h2.2] at ho
     cases ho
    simp only[Bool.false_eq_true,if_false,Option.getD_none]
    unfold kWord kSpeaks kFn
    rw[if_neg (by omega),if_neg (by omega),if_neg (by omega),if_neg (by omega),decide_eq_false (by omega),decide_eq_false (by omega),if_neg (by omega),if_neg (by omega),if_neg (by omega),if_neg (by omega)]
    rfl
 have e2:(f (.int .i64 k)).isSome=kOk k:=by rw[hf];cases kOk k <;> rfl
 have h1:=hm.look_ok Tryz.keySK Tryz.underlying280 (Tryz.zeroKind W) (key_kind hk)
 have h2:=hm.look Tryz.keySK Tryz.underlying280 (Tryz.zeroKind W) (key_kind hk)
 rw[e1,e2] at h1
 rw[e1] at h2
 exact⟨h1,h2⟩
set_option maxHeartbeats 2000000 in
set_option maxRecDepth 100000 in
theorem rKinds_any (w:World):Calls Tryz.prog 169 #[] w (RetV fun v w'=>∃ mb,v=.map (some mb)∧KindsAt mb w'∧Frm [] w w'):=by
 have hmm:=@run_makeMap Tryz.prog
 have hw:∀ k:Int,1≤k→k≤4→wf64 k:=fun k h1 h2=>by unfold wf64;omega
 have M0:=MapAt.made Tryz.prog 135 w
 obtain⟨w1,r1,M1,F1⟩:=M0.store Tryz.keySK Tryz.underlying280 (by unfold maxLen;omega) (key_kind (hw 1 (by omega) (by omega))) (by trivial) (.agg #[.string wSend,.bool true,.func (.func 210) #[] #[]])
 obtain⟨w2,r2,M2,F2⟩:=M1.store Tryz.keySK Tryz.underlying280 (by unfold maxLen;omega) (key_kind (hw 2 (by omega) (by omega))) (by trivial) (.agg #[.string wRecv,.bool true,.func (.func 210) #[] #[]])
 obtain⟨w3,r3,M3,F3⟩:=M2.store Tryz.keySK Tryz.underlying280 (by unfold maxLen;omega) (key_kind (hw 3 (by omega) (by omega))) (by trivial) (.agg #[.string wTime,.bool false,.func (.func 211) #[] #[]])
 obtain⟨w4,r4,M4,F4⟩:=M3.store Tryz.keySK Tryz.underlying280 (by unfold maxLen;omega) (key_kind (hw 4 (by omega) (by omega))) (by trivial) (.agg #[.string wSil,.bool false,.func (.func 210) #[] #[]])
 have HK:Hid (KindsAt w.heap.size w4):=Lib.hid (by
  refine kinds_at _ _ _ M4 fun k=>?_
  by_cases h4:k=4
  ·subst h4;rw[updL_same];rfl
  rw[updL_other _ _ (lit_ne h4)]
  by_cases h3:k=3
  ·subst h3;rw[updL_same];rfl
  rw[updL_other _ _ (lit_ne h3)]
  by_cases h2:k=2
  ·subst h2;rw[updL_same];rfl
  rw[updL_other _ _ (lit_ne h2)]
  by_cases h1:k=1
  ·subst h1;rw[updL_same];rfl
  rw[updL_other _ _ (lit_ne h1)]
  have:kOk k=false:=by
   unfold kOk
   rw[Bool.and_eq_false_iff,decide_eq_false_iff_not,decide_eq_false_iff_not]
   omega
  rw[this];rfl)
 have HF:Hid (Frm [] w w4):=Lib.hid ((((((Frm.refl [] w).alloc _).then F1 (by simp)).then F2 (by simp)).then F3 (by simp)).then F4 (by simp))
 clear M0 M1 M2 M3 M4 F1 F2 F3 F4 hw
 unfold wSend at r1
 unfold wRecv at r2
 unfold wTime at r3
 unfold wSil at r4
 go_enter Tryz.func169,Tryz.ntmps169
 go_wp2
 go_ret
 exact⟨_,rfl,_,rfl,HK.out,HF.out⟩
end Go.Proofs.YtohfkhjlnlahdaaGreat
namespace Go.Proofs.YtohfkhjlnlahdaaGreat
open Go
theorem nameB_size {b:ByteArray} (h:nameB b=true):1≤b.size∧b.size≤32:=by
 unfold nameB at h
 simp only[Bool.and_eq_true,decide_eq_true_eq] at h
 exact h.1
theorem find_ixf {α:Type} {p:α→Bool}:∀ {l:List α},match l.find? p with
  | none=>ixf p l=-1
  | some x=>∃ k:Nat,ixf p l=k∧l[k]?=some x∧p x=true
 | []=>rfl
 | a :: l=>by
   have ih:=find_ixf (p:=p) (l:=l)
   rw[List.find?_cons]
   cases hp:p a with
   | true=>exact⟨0,by unfold ixf;rw[hp];rfl,rfl,hp⟩
   | false =>
     unfold ixf
     rw[hp]
     simp only[Bool.false_eq_true,if_false]
     cases hf:l.find? p with
     | none=>rw[hf] at ih;simp only at ih ⊢;rw[ih];rfl
     | some x =>
       rw[hf] at ih
       obtain⟨k,h1,h2,h3⟩:=ih
       exact⟨k + 1,by rw[h1,if_neg (by omega)];omega,by simpa using h2,h3⟩
section
variable {s:SesD} {r:RolD}
theorem first_zero:∀ {l:List RolD} {i:Nat},firstE s i l=0→∀ k a,l[k]?=some a→rolE s (i + k) a=0
 | [],i,_,k,a,hk=>by simp at hk
 | b :: l,i,h,k,a,hk=>by
   unfold firstE at h
   by_cases e:rolE s i b=0
   ·rw[if_pos e] at h
    cases k with
    | zero=>simp at hk;subst hk;exact e
    | succ k=>have:=first_zero h k a (by simpa using hk);rwa [show i + (k + 1)=i + 1 + k by omega]
   ·rw[if_neg e] at h;exact absurd h e
theorem rolE_zero {i:Nat} (h:rolE s i r=0):ckRole r=0∧(i:Int)≤rolIx s r.name:=by
 unfold rolE at h
 by_cases e:ckRole r=0
 ·rw[if_pos e] at h
  refine⟨e,?_⟩
  rcases Int.lt_or_le (rolIx s r.name) i with h1 | h1
  ·rw[if_pos h1] at h;cases h
  ·exact h1
 ·rw[if_neg e] at h;exact absurd h e
theorem uniq_of {α:Type} {f:α→ByteArray} {l:List α} (h:∀ (i:Nat) (a:α),l[i]?=some a→(i:Int)≤ixf (fun x=>decide (f x=f a)) l):∀ (i j:Nat) (a b:α),l[i]?=some a→l[j]?=some b→f a=f b→i=j:=by
 have key:∀ (i j:Nat) (a b:α),l[i]?=some a→l[j]?=some b→f a=f b→¬ i < j:=by
  intro i j a b hi hj e hlt
  have h1:=h j b hj
  obtain⟨k,hk,hkl⟩:=ixf_nat (show 0≤ixf (fun x=>decide (f x=f b)) l by omega)
  obtain⟨x,-,-,h4⟩:=ixf_at hk
  have:=h4 i a (by omega) hi
  rw[decide_eq_false_iff_not] at this
  exact this e
 intro i j a b hi hj e
 have h1:=key i j a b hi hj e
 have h2:=key j i b a hj hi e.symm
 omega
theorem ckRole_ok (h:ckRole r=0):nameB r.name=true∧r.ctrs.length≤4∧(∀ i c,r.ctrs[i]?=some c→ctrBad r i c=false)∧1≤r.sts.length∧r.sts.length≤24∧(∀ i c,r.sts[i]?=some c→stBad r i c=false) ∧
  r.steps.length≤80∧∀ i t,r.steps[i]?=some t→stepB r i t=true:=by
 unfold ckRole at h
 by_cases h1:nameB r.name=false
 ·rw[if_pos h1] at h;cases h
 rw[if_neg h1] at h
 by_cases h2:4 < r.ctrs.length∨anyIx (ctrBad r) 0 r.ctrs=true
 ·rw[if_pos h2] at h;cases h
 rw[if_neg h2] at h
 by_cases h3:r.sts.length < 1∨24 < r.sts.length∨anyIx (stBad r) 0 r.sts=true
 ·rw[if_pos h3] at h;cases h
 rw[if_neg h3] at h
 by_cases h4:80 < r.steps.length∨anyIx (fun i s=>!stepB r i s) 0 r.steps=true
 ·rw[if_pos h4] at h;cases h
 simp only[not_or,Nat.not_lt,Bool.not_eq_true,Bool.not_eq_false] at h1 h2 h3 h4
 refine⟨h1,h2.1,fun i c hc=>?_,h3.1,h3.2.1,fun i c hc=>?_,h4.1,fun i t ht=>?_⟩
 ·have:=anyIx_false.1 h2.2 i c hc;rwa [Nat.zero_add] at this
 ·have:=anyIx_false.1 h3.2.2 i c hc;rwa [Nat.zero_add] at this
 ·have:=anyIx_false.1 h4.2 i t ht;rw[Nat.zero_add] at this;simpa using this
theorem stp_ok {i:Nat} {t:StpD} (hc:∀ c∈r.ctrs,1≤c.lim∧c.lim≤1000) (hl:lostB s r=false) (ht:r.steps[i]?=some t) (h:stepB r i t=true):StpOk s r t:=by
 have hs:=find_ixf (p:=fun x:StD=>decide (x.name=t.frm)) (l:=r.sts)
 unfold stepB at h
 cases hf:r.sts.find? (fun x=>decide (x.name=t.frm)) with
 | none=>rw[hf] at h;cases h
 | some f =>
   rw[hf] at h hs
   obtain⟨k,g1,-,-⟩:=hs
   simp only[Bool.and_eq_true,decide_eq_true_eq] at h
   obtain⟨⟨⟨h1,h2⟩,h3⟩,-⟩:=h
   have hk:(t.kind=1∨t.kind=2)∧nameB t.msg=true∧t.peer≠r.name∨t.kind=3∨t.kind=4:=by
    unfold kindB at h3
    by_cases e:t.kind=1∨t.kind=2
    ·rw[if_pos e] at h3
     simp only[Bool.and_eq_true,Bool.not_eq_true',decide_eq_false_iff_not] at h3
     exact .inl ⟨e,h3.1.1,h3.2⟩
    ·rw[if_neg e] at h3
     by_cases e3:t.kind=3
     ·exact .inr (.inl e3)
     ·rw[if_neg e3] at h3
      by_cases e4:t.kind=4
      ·exact .inr (.inr e4)
      ·rw[if_neg e4] at h3;cases h3
   refine⟨by omega,by omega,by show 0≤ixf _ _;omega,h1,fun h2=>?_,fun h2=>?_,fun hne=>?_⟩
   ·rcases hk with ⟨-,h4,-⟩ | h4 | h4
    ·exact nameB_size h4
    ·omega
    ·omega
   ·rcases hk with ⟨h5,-,h4⟩ | h4 | h4
    ·refine⟨?_,h4⟩
     unfold lostB at hl
     rw[List.any_eq_false] at hl
     have:=hl t (List.mem_of_getElem? ht)
     simp only[Bool.and_eq_true,decide_eq_true_eq,not_and,Int.not_lt] at this
     exact this (by unfold speaks;rcases h5 with h5 | h5 <;> simp[h5])
    ·omega
    ·omega
   ·unfold guardB at h2
    rw[if_neg hne] at h2
    have hs:=find_ixf (p:=fun x:CtrD=>decide (x.name=t.ctr)) (l:=r.ctrs)
    cases hg:r.ctrs.find? (fun x=>decide (x.name=t.ctr)) with
    | none=>rw[hg] at h2;cases h2
    | some c =>
      rw[hg] at h2 hs
      obtain⟨k,g1,g2,-⟩:=hs
      simp only[Bool.and_eq_true,decide_eq_true_eq] at h2
      exact⟨k,c,g1,g2,by omega,by omega,by omega,by omega,by omega,by omega,by omega⟩
theorem ses_ok (h:ckSes s=0):SesOk s:=by
 unfold ckSes at h
 by_cases h1:nameB s.name=false
 ·rw[if_pos h1] at h;cases h
 rw[if_neg h1] at h
 by_cases h2:sesBad s=true
 ·rw[if_pos h2] at h;cases h
 rw[if_neg h2] at h
 have h3:firstE s 0 s.roles=0:=by
  by_cases h3:firstE s 0 s.roles=0
  ·exact h3
  ·rw[if_neg h3] at h;exact h
 rw[if_pos h3] at h
 by_cases h4:s.roles.any (lostB s)=true
 ·rw[if_pos h4] at h;cases h
 simp only[Bool.not_eq_true,Bool.not_eq_false] at h1 h2 h4
 unfold sesBad at h2
 simp only[Bool.or_eq_false_iff,decide_eq_false_iff_not] at h2
 have hr:∀ (i:Nat) (r:RolD),s.roles[i]?=some r→ckRole r=0∧(i:Int)≤rolIx s r.name:=fun i r hi=>by
  have:=first_zero h3 i r hi
  rw[Nat.zero_add] at this
  exact rolE_zero this
 refine⟨by omega,by omega,by omega,by omega,by omega,by omega,h1,fun r hm=>?_,uniq_of (f:=RolD.name) fun i a hi=>(hr i a hi).2⟩
 obtain⟨i,hi⟩:=List.getElem?_of_mem hm
 obtain⟨k1,k2,k3,k4,k5,k6,k7,k8⟩:=ckRole_ok (hr i r hi).1
 have hc:∀ c∈r.ctrs,nameB c.name=true∧1≤c.lim∧c.lim≤1000:=fun c hm=>by
  obtain⟨j,hj⟩:=List.getElem?_of_mem hm
  have:=k3 j c hj
  unfold ctrBad at this
  simp only[Bool.or_eq_false_iff,decide_eq_false_iff_not,Bool.not_eq_false'] at this
  exact⟨this.1.1.1,by omega,by omega⟩
 have hl:lostB s r=false:=by
  rw[List.any_eq_false] at h4
  simpa using h4 r hm
 refine⟨k1,k2,hc,uniq_of (f:=CtrD.name) fun j c hj=>?_,k4,k5,uniq_of (f:=StD.name) fun j c hj=>?_,k7,fun t ht=>?_⟩
 ·have:=k3 j c hj
  unfold ctrBad at this
  simp only[Bool.or_eq_false_iff,decide_eq_false_iff_not,Bool.not_eq_false'] at this
  have h5:=this.1.1.2
  unfold ctrIx at h5
  omega
 ·have:=k6 j c hj
  unfold stBad at this
  simp only[Bool.or_eq_false_iff,decide_eq_false_iff_not,Bool.not_eq_false'] at this
  have h5:=this.1.1.2
  unfold stIx at h5
  omega
 ·obtain⟨j,hj⟩:=List.getElem?_of_mem ht
  exact stp_ok (fun c hm=>(hc c hm).2) hl hj (k8 j t hj)
end
end Go.Proofs.YtohfkhjlnlahdaaGreat
namespace Go.Proofs.YtohfkhjlnlahdaaGreat
open Go.RowKit Go.BigFrame
def encT (t:StpD):Array Value:=#[.string t.frm,.string t.to,.int .i64 t.kind,.string t.msg,.string t.peer,.string t.ctr,.int .i64 t.low,.int .i64 t.high,.int .i64 t.add]
theorem Tryz.und60:Tryz.prog.underlying 137=some (.struct (Tryz.prog.fieldsOf 137)):=by kernel_rfl
theorem toList_iff {a b:ByteArray}:a.toList=b.toList↔a=b:=by
 rw[ByteArray.toList_eq,ByteArray.toList_eq]
 exact⟨fun h=>ByteArray.ext (Array.toList_inj.mp h),fun h=>by rw[h]⟩
set_option maxHeartbeats 1000000 in
set_option maxRecDepth 100000 in
theorem eql_step (a b:StpD) (w:World):(binOp .eql 137 (.agg (encT a)) (.agg (encT b))).run Tryz.prog w=.ok (.bool (decide (a=b))) w:=by
 have h:(Op.equalIn (9999 + 1) 137 (.agg (encT a)) (.agg (encT b))).run Tryz.prog w=.ok (decide (a=b)) w:=by
  rw[run_equalIn_struct w 9999 137 _ _ Tryz.und60 (by kernel_rfl)]
  simp[go_sem,encT,Tryz.underlying137]
  obtain⟨a1,a2,a3,a4,a5,a6,a7,a8,a9⟩:=a
  obtain⟨b1,b2,b3,b4,b5,b6,b7,b8,b9⟩:=b
  simp only[toList_iff,StpD.mk.injEq]
  repeat' split
  all_goals simp[*]
 simp only[binOp]
 simp[show Op.equal 137 (.agg (encT a)) (.agg (encT b))=Op.equalIn (9999 + 1) 137 (.agg (encT a)) (.agg (encT b)) from rfl,h]
set_option maxHeartbeats 1000000 in
theorem inStep_any (v:Value) (xs:List StpD) (y:StpD) (w:World) (h:Arr 9 SpAt w v xs) (hl:xs.length≤1000) :
  Calls Tryz.prog 225 #[v,.agg (encT y)] w (Ret (.int .i64 (ixf (fun x=>decide (y=x)) xs)) (Frm [] w)):=by
 obtain⟨ao,cap,rfl,hx⟩:=h
 have HX:=Lib.hid hx
 obtain⟨n,hn⟩:∃ n,xs.length=n:=⟨_,rfl⟩
 rw[hn] at hl ⊢
 have HN:=Lib.hid hn
 obtain⟨W0,hW0⟩:∃ W0,w.alloc (.cells (encT y) 137)=W0:=⟨_,rfl⟩
 have HW0:Hid (Frm [] w W0):=Lib.hid (by rw[← hW0];exact(Frm.refl _ _).alloc _)
 have HB:Hid (W0.heap[w.heap.size]?=some (.cells (encT y) 137 (0,0))):=Lib.hid (by rw[← hW0];exact heap_alloc_new w _)
 have HE:=Lib.hid hW0
 clear hx hn hW0
 go_enter Tryz.func225,Tryz.ntmps225
 go_wp2_with (refine wpList_box_row rfl 137 _ rfl (encT y) rfl ?_;rw[HE.out])
 clear HE
 go_loopw [8,5] (fun s8 s5 wr=>∃ i:Nat,s8=.int .i64 i∧i≤n∧Frm [] W0 wr∧∀ j x,j < i→xs[j]?=some x→decide (y=x)=false) (fun s8 _ _=>n - (intOf s8).toNat)
 case atStart=>exact⟨0,rfl,Nat.zero_le _,Frm.refl _ _,fun j x hj=>by omega⟩
 case round =>
  obtain⟨i,rfl,hi,hf,hno⟩:=hrel
  have HF:=Lib.hid hf;have HNO:=Lib.hid hno
  clear hf hno
  by_cases hlt:i < n
  ·have hlt':(i:Int) < (n:Int):=by omega
   obtain⟨x,hx⟩:∃ x,xs[i]?=some x:=⟨_,List.getElem?_eq_getElem (by rw[HN.out];exact hlt)⟩
   obtain⟨b,o,rfl,hat⟩:=HX.out i x hx
   obtain⟨c0,c1,c2,c3,c4,c5,c6,c7,c8⟩:=hat.frm (HW0.out.trans HF.out)
   have hbb:=HF.out.at HB.out (by simp)
   have d0:wr.cell? ⟨w.heap.size,0,none⟩=some (.string y.frm):=cell_of hbb 0
   have d1:wr.cell? ⟨w.heap.size,1,none⟩=some (.string y.to):=cell_of hbb 1
   have d2:wr.cell? ⟨w.heap.size,2,none⟩=some (.int .i64 y.kind):=cell_of hbb 2
   have d3:wr.cell? ⟨w.heap.size,3,none⟩=some (.string y.msg):=cell_of hbb 3
   have d4:wr.cell? ⟨w.heap.size,4,none⟩=some (.string y.peer):=cell_of hbb 4
   have d5:wr.cell? ⟨w.heap.size,5,none⟩=some (.string y.ctr):=cell_of hbb 5
   have d6:wr.cell? ⟨w.heap.size,6,none⟩=some (.int .i64 y.low):=cell_of hbb 6
   have d7:wr.cell? ⟨w.heap.size,7,none⟩=some (.int .i64 y.high):=cell_of hbb 7
   have d8:wr.cell? ⟨w.heap.size,8,none⟩=some (.int .i64 y.add):=cell_of hbb 8
   have hq:∀ V,(binOp .eql 137 (.agg #[.string y.frm,.string y.to,.int .i64 y.kind,.string y.msg,.string y.peer,.string y.ctr,.int .i64 y.low,.int .i64 y.high,.int .i64 y.add]) (.agg #[.string x.frm,.string x.to,.int .i64 x.kind,.string x.msg,.string x.peer,.string x.ctr,.int .i64 x.low,.int .i64 x.high,.int .i64 x.add])).run Tryz.prog V=.ok (.bool (decide (y=x))) V:=fun V=>eql_step y x V
   have HXI:=Lib.hid hx
   clear hat hx hbb
   cases hpx:decide (y=x) with
   | true =>
     rw[hpx] at hq
     have HPX:=Lib.hid hpx
     clear hpx
     go_wp2
     go_quiet (fail)
     go_wp2
     go_ret
     exact⟨by rw[ixf_some HXI.out HPX.out HNO.out];rfl,HW0.out.trans (HF.out.drewN _)⟩
   | false =>
     rw[hpx] at hq
     have HPX:=Lib.hid hpx
     clear hpx
     go_wp2
     go_quiet (fail)
     go_wp2
     refine⟨⟨i + 1,by simp,hlt,HF.out.drewN _,fun j z hj hz=>?_⟩,by simp[intOf];omega⟩
     by_cases e:j=i
     ·subst e;rw[HXI.out] at hz;cases hz;exact HPX.out
     ·exact HNO.out j z (by omega) hz
  ·have hge:¬ (i:Int) < (n:Int):=by omega
   go_wp2
   go_ret
   refine⟨?_,HW0.out.trans HF.out⟩
   have e:=ixf_none (p:=fun x=>decide (y=x)) (l:=xs) fun x hx=>by
    obtain⟨j,hj⟩:=List.getElem?_of_mem hx
    exact HNO.out j x (by have:=lt_of_some hj;rw[HN.out] at this;omega) hj
   rw[e];rfl
theorem mem_ixf {xs:List StpD} {y:StpD}:decide (0≤ixf (fun x=>decide (y=x)) xs)=decide (y∈xs):=by
 by_cases h:y∈xs
 ·rw[decide_eq_true (ixf_ex (p:=fun x=>decide (y=x)) h (by simp)),decide_eq_true h]
 ·rw[decide_eq_false h,decide_eq_false]
  intro h2
  obtain⟨i,hi,-⟩:=ixf_nat h2
  obtain⟨x,h3,h4,-⟩:=ixf_at hi
  rw[decide_eq_true_eq] at h4
  subst h4
  exact h (List.mem_of_getElem? h3)
set_option maxHeartbeats 1000000 in
theorem coStep_any (v:Value) (xs:List StpD) (y:StpD) (w:World) (h:Arr 9 SpAt w v xs) (hl:xs.length≤1000) :
  Calls Tryz.prog 222 #[v,.agg (encT y)] w (Ret (.bool (decide (y∈xs))) (Frm [] w)):=by
 obtain⟨ao,cap,e,-⟩:=id h
 subst e
 have hf0:Frm [] w (w.alloc (.cells (encT y) 137)):=(Frm.refl _ _).alloc _
 have C1:=Lib.hid (inStep_any (.slice ao xs.length cap) xs y (w.alloc (.cells (encT y) 137)) (h.frm fun _ _ _ h=>h.frm hf0) hl)
 have HF0:=Lib.hid hf0
 rw[← mem_ixf]
 obtain⟨q,hq⟩:∃ q,ixf (fun x=>decide (y=x)) xs=q:=⟨_,rfl⟩
 rw[hq] at C1 ⊢
 have hb:(w.alloc (.cells (encT y) 137)).heap[w.heap.size]?=some (.cells (encT y) 137 (0,0)):=heap_alloc_new w _
 have d0:(w.alloc (.cells (encT y) 137)).cell? ⟨w.heap.size,0,none⟩=some (.string y.frm):=cell_of hb 0
 obtain⟨W0,hW0⟩:∃ W0,w.alloc (.cells (encT y) 137)=W0:=⟨_,rfl⟩
 rw[hW0] at C1 HF0 hb
 have HB:=Lib.hid hb
 have HW:=Lib.hid hW0
 clear h hf0 hq hW0 hb d0
 go_enter Tryz.func222,Tryz.ntmps222
 go_wp2_with (first
  | (refine wpList_box_row rfl 137 _ rfl (encT y) rfl ?_;rw[HW.out])
  | (refine wpList_load_whole rfl 137 _ rfl _ rfl _ 137 HB.out _ Tryz.underlying137 rfl (by kernel_rfl) ?_)
  | (go_at_call 225;go_must (refine C1.out.mono ?_;rintro e w1 ⟨rfl,hf1⟩;have HF1:=Lib.hid hf1;clear hf1)))
 go_ret
 exact⟨rfl,HF0.out.trans HF1.out⟩
def fewI (n:Nat) (least most:Int) (q:Nat→Bool):Int:=if (n:Int) < least then 0 else if most < (n:Int) then most else ixf q (List.range n)
theorem fewI_iff {n:Nat} {least most:Int} {q:Nat→Bool} (hm:0≤most):0≤fewI n least most q↔(n:Int) < least∨most < (n:Int)∨∃ i,i < n∧q i=true:=by
 unfold fewI
 by_cases h1:(n:Int) < least
 ·rw[if_pos h1];simp[h1]
 ·rw[if_neg h1]
  by_cases h2:most < (n:Int)
  ·rw[if_pos h2];simp[h1,h2,hm]
  ·rw[if_neg h2]
   constructor
   ·intro h
    obtain⟨i,hi,-⟩:=ixf_nat h
    obtain⟨x,h3,h4,-⟩:=ixf_at hi
    have:=List.mem_of_getElem? h3
    rw[List.mem_range] at this
    exact .inr (.inr ⟨x,this,h4⟩)
   ·rintro(h | h | ⟨i,h3,h4⟩)
    ·exact absurd h h1
    ·exact absurd h h2
    ·exact ixf_ex (List.mem_range.2 h3) h4
theorem range_at {n i x:Nat} (h:(List.range n)[i]?=some x):x=i∧i < n:=by
 have:=lt_of_some h
 rw[List.length_range] at this
 rw[List.getElem?_range this] at h
 cases h
 exact⟨rfl,this⟩
set_option maxHeartbeats 1000000 in
theorem rFew_any (K:FuncId) (caps:Array Value) (n:Nat) (least most:Int) (q:Nat→Bool) (w:World) (hn:n≤100000) (hK:∀ args w,(callFunc K args).run Tryz.prog w=.ok (.enter K args) w)
  (hp:∀ W (i:Nat),i < n→(n:Int)≤most→Frm [] w W→Calls Tryz.prog K (#[.int .i64 i] ++ caps) W (Ret (.bool (q i)) (Frm [] W))) :
  Calls Tryz.prog 203 #[.int .i64 n,.int .i64 least,.int .i64 most,.func (.func K) #[] caps] w (Ret (.int .i64 (fewI n least most q)) (Frm [] w)):=by
 by_cases h1:(n:Int) < least
 ·have e:fewI n least most q=0:=by unfold fewI;rw[if_pos h1]
  rw[e]
  clear e hp
  go_enter Tryz.func203,Tryz.ntmps203
  go_wp2
  go_ret
  exact⟨rfl,Frm.refl _ _⟩
 by_cases h2:most < (n:Int)
 ·have e:fewI n least most q=most:=by unfold fewI;rw[if_neg h1,if_pos h2]
  rw[e]
  clear e hp
  go_enter Tryz.func203,Tryz.ntmps203
  go_wp2
  go_ret
  exact⟨rfl,Frm.refl _ _⟩
 have e:fewI n least most q=ixf q (List.range n):=by unfold fewI;rw[if_neg h1,if_neg h2]
 rw[e]
 have HP:=Lib.hid hp
 have HM:Hid ((n:Int)≤most):=Lib.hid (by omega)
 clear e hp
 go_enter Tryz.func203,Tryz.ntmps203
 go_wp2
 clear h1 h2
 go_loopw [20,9] (fun s20 s9 wr=>∃ i:Nat,s20=.int .i64 i∧i≤n∧Frm [] w wr∧∀ j,j < i→q j=false) (fun s20 _ _=>n - (intOf s20).toNat)
 case atStart=>exact⟨0,rfl,Nat.zero_le _,Frm.refl _ _,fun j hj=>by omega⟩
 case round =>
  obtain⟨i,rfl,hi,hf,hno⟩:=hrel
  have HF:=Lib.hid hf;have HNO:=Lib.hid hno
  clear hf hno
  by_cases hlt:i < n
  ·have hlt':(i:Int) < (n:Int):=by omega
   have C1:=Lib.hid (HP.out wr i hlt HM.out HF.out)
   cases hpx:q i with
   | true =>
     rw[hpx] at C1
     have HPX:=Lib.hid hpx
     clear hpx
     go_wp2_with fail
     refine C1.out.mono ?_
     rintro e w1 ⟨rfl,hf1⟩
     have HF1:=Lib.hid hf1
     clear hf1
     go_wp2
     go_ret
     refine⟨?_,HF.out.trans HF1.out⟩
     have e:ixf q (List.range n)=(i:Int):=ixf_some (List.getElem?_range hlt) HPX.out (fun j y hj hy=>by
      obtain⟨rfl,-⟩:=range_at hy
      exact HNO.out _ hj)
     rw[e];rfl
   | false =>
     rw[hpx] at C1
     have HPX:=Lib.hid hpx
     clear hpx
     go_wp2_with fail
     refine C1.out.mono ?_
     rintro e w1 ⟨rfl,hf1⟩
     have HF1:=Lib.hid hf1
     clear hf1
     go_wp2
     refine⟨⟨i + 1,by simp,hlt,HF.out.trans HF1.out,fun j hj=>?_⟩,by simp[intOf];omega⟩
     by_cases e:j=i
     ·subst e;exact HPX.out
     ·exact HNO.out j (by omega)
  ·have hge:¬ (i:Int) < (n:Int):=by omega
   go_wp2
   go_ret
   refine⟨?_,HF.out⟩
   have e:=ixf_none (p:=q) (l:=List.range n) fun x hx=>by
    rw[List.mem_range] at hx
    exact HNO.out x (by omega)
   rw[e];rfl
end Go.Proofs.YtohfkhjlnlahdaaGreat
