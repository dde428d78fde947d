/- Part of the proof. -/
import Derived.Test.YtemjlpahohmajaaGreatU20
import Derived.Deep.MidRow
import Derived.Deep.WholeRow
import Derived.Test.YtemjlpahohmajaaGreatU02
import Derived.Lib.SlicesS
import Derived.BigQuiet
import Derived.StillTail
import Derived.Test.YtemjlpahohmajaaGreatProg
import Derived.Lib.Hide
import Derived.WalkLawsBesides
import Derived.Deep.DeepMust
import Derived.LoopTactic
import Derived.Laws.IdiomStrings
import Derived.Shelf.Bytes.SlSmallAll
import Derived.Deep.Upon
import Derived.ArgAppend
import Derived.Deep.AppendLies
import Derived.Maps.AppendAt
import Derived.BigRegion
import Derived.Deep.RegionHeld3
import Derived.Deep.RegionLaw
import Derived.Deep.DeepCutAuto
set_option linter.all false
namespace Go.Proofs.YtemjlpahohmajaaGreat
open Go.RowKit Go.Maps Go.BigFrame
def wf64 (x:Int):Prop:=-9223372036854775808≤x∧x≤9223372036854775807
theorem Tryz.keySK:Keyed Tryz.prog 88:=int_keyed Tryz.underlying88
theorem key_kind {t:Int} (h:wf64 t):keyOf Tryz.prog 88 (.int .i64 t)=some (.int .i64 t):=
 keyOf_int_mk Tryz.underlying88 (by simp only[Lit.wf,show IntKind.i64.min=-9223372036854775808 from rfl,show IntKind.i64.max=9223372036854775807 from rfl,Bool.and_eq_true,decide_eq_true_eq];exact h)
def wSend:ByteArray:={ data:=#[115,101,110,100] }
def wRecv:ByteArray:={ data:=#[114,101,99,101,105,118,101] }
def wTime:ByteArray:={ data:=#[116,105,109,101,111,117,116] }
def wSil:ByteArray:={ data:=#[115,105,108,101,110,116] }
def kWord (k:Int):ByteArray:=if k=1 then wSend else if k=2 then wRecv else if k=3 then wTime else if k=4 then wSil else emptyS
def kSpeaks (k:Int):Bool:=decide (k=1) || decide (k=2)
def kFn (k:Int):Value:=if k=1 then .func (.func 169) #[] #[] else if k=2 then .func (.func 169) #[] #[] else if k=3 then .func (.func 170) #[] #[] else if k=4 then .func (.func 169) #[] #[] else .nilFunc
def kOk (k:Int):Bool:=decide (1≤k) && decide (k≤4)
theorem Tryz.zeroKind (w:World):(zeroValue 246).run Tryz.prog w=.ok (.agg #[.string { data:=#[] },.bool false,.nilFunc]) w:=
 (zero_of_info (show (Tryz.prog.info? 246).map (fun i=>(i.zero,i.size))=some (some (.agg #[.string { data:=#[] },.bool false,.nilFunc]),3) by kernel_rfl)).1 w
def KindsAt (mb:Nat) (w:World):Prop:=∀ W,Frm [] w W→∀ k,wf64 k →
 (Instr.lookup 247 (.map (some mb)) (.int .i64 k) true).run Tryz.prog W=.ok (.tuple #[.agg #[.string (kWord k),.bool (kSpeaks k),kFn k],.bool (kOk k)]) W ∧
 (Instr.lookup 247 (.map (some mb)) (.int .i64 k) false).run Tryz.prog W=.ok (.agg #[.string (kWord k),.bool (kSpeaks k),kFn k]) W
theorem lit_ne {a b:Int} (h:a≠b):(Lit.int .i64 a)≠(Lit.int .i64 b):=fun e=>h (by cases e;rfl)
theorem kinds_at {mb:Nat} {w:World} (f:Lit→Option Value) (n c:Nat) (h:MapAt Tryz.prog 88 w (some mb) n f c)
  (hf:∀ k,f (.int .i64 k)=if kOk k then some (.agg #[.string (kWord k),.bool (kSpeaks k),kFn k]) else none):KindsAt mb w:=by
 intro W hW k hk
 have hm:=h.frm hW (by simp)
 have e1:(f (.int .i64 k)).getD (.agg #[.string { data:=#[] },.bool false,.nilFunc])=.agg #[.string (kWord k),.bool (kSpeaks k),kFn k]:=by
  rw[hf]
  cases ho:kOk k with
  | true=>rfl
  | false =>
    have hne:¬ (1≤k∧k≤4):=by
     intro h2
     unfold kOk at ho
     rw[decide_eq_true h2.1,decide_eq_true h2.2] at ho
     cases ho
    simp only[Bool.false_eq_true,if_false,Option.getD_none]
    unfold kWord kSpeaks kFn
    rw[if_neg (by omega),if_neg (by omega),if_neg (by omega),if_neg (by omega),decide_eq_false (by omega),decide_eq_false (by omega),if_neg (by omega),if_neg (by omega),if_neg (by omega),if_neg (by omega)]
    rfl
 have e2:(f (.int .i64 k)).isSome=kOk k:=by rw[hf];cases kOk k <;> rfl
 have h1:=hm.look_ok Tryz.keySK Tryz.underlying247 (Tryz.zeroKind W) (key_kind hk)
 have h2:=hm.look Tryz.keySK Tryz.underlying247 (Tryz.zeroKind W) (key_kind hk)
 rw[e1,e2] at h1
 rw[e1] at h2
 exact⟨h1,h2⟩
set_option maxHeartbeats 2000000 in
set_option maxRecDepth 100000 in
theorem rKinds_any (w:World):Calls Tryz.prog 136 #[] w (RetV fun v w'=>∃ mb,v=.map (some mb)∧KindsAt mb w'∧Frm [] w w'):=by
 have hmm:=@run_makeMap Tryz.prog
 have hw:∀ k:Int,1≤k→k≤4→wf64 k:=fun k h1 h2=>by unfold wf64;omega
 have M0:=MapAt.made Tryz.prog 88 w
 obtain⟨w1,r1,M1,F1⟩:=M0.store Tryz.keySK Tryz.underlying247 (by unfold maxLen;omega) (key_kind (hw 1 (by omega) (by omega))) (by trivial) (.agg #[.string wSend,.bool true,.func (.func 169) #[] #[]])
 obtain⟨w2,r2,M2,F2⟩:=M1.store Tryz.keySK Tryz.underlying247 (by unfold maxLen;omega) (key_kind (hw 2 (by omega) (by omega))) (by trivial) (.agg #[.string wRecv,.bool true,.func (.func 169) #[] #[]])
 obtain⟨w3,r3,M3,F3⟩:=M2.store Tryz.keySK Tryz.underlying247 (by unfold maxLen;omega) (key_kind (hw 3 (by omega) (by omega))) (by trivial) (.agg #[.string wTime,.bool false,.func (.func 170) #[] #[]])
 obtain⟨w4,r4,M4,F4⟩:=M3.store Tryz.keySK Tryz.underlying247 (by unfold maxLen;omega) (key_kind (hw 4 (by omega) (by omega))) (by trivial) (.agg #[.string wSil,.bool false,.func (.func 169) #[] #[]])
 have HK:Hid (KindsAt w.heap.size w4):=Lib.hid (by
  refine kinds_at _ _ _ M4 fun k=>?_
  by_cases h4:k=4
  ·subst h4;rw[updL_same];rfl
  rw[updL_other _ _ (lit_ne h4)]
  by_cases h3:k=3
  ·subst h3;rw[updL_same];rfl
  rw[updL_other _ _ (lit_ne h3)]
  by_cases h2:k=2
  ·subst h2;rw[updL_same];rfl
  rw[updL_other _ _ (lit_ne h2)]
  by_cases h1:k=1
  ·subst h1;rw[updL_same];rfl
  rw[updL_other _ _ (lit_ne h1)]
  have:kOk k=false:=by
   unfold kOk
   rw[Bool.and_eq_false_iff,decide_eq_false_iff_not,decide_eq_false_iff_not]
   omega
  rw[this];rfl)
 have HF:Hid (Frm [] w w4):=Lib.hid ((((((Frm.refl [] w).alloc _).then F1 (by simp)).then F2 (by simp)).then F3 (by simp)).then F4 (by simp))
 clear M0 M1 M2 M3 M4 F1 F2 F3 F4 hw
 unfold wSend at r1
 unfold wRecv at r2
 unfold wTime at r3
 unfold wSil at r4
 go_enter Tryz.func136,Tryz.ntmps136
 go_wp2
 go_ret
 exact⟨_,rfl,_,rfl,HK.out,HF.out⟩
end Go.Proofs.YtemjlpahohmajaaGreat
