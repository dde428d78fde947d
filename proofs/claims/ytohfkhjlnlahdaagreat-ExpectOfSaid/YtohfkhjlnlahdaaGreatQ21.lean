/- Part of the proof. -/
import Derived.Test.YtohfkhjlnlahdaaGreatQ04
import Derived.Test.YtohfkhjlnlahdaaGreatQ16
import Derived.Deep.MidRow
import Derived.Deep.WholeRow
import Derived.Test.YtohfkhjlnlahdaaGreatQ02
import Derived.Lib.SlicesS
import Derived.BigQuiet
import Derived.StillTail
import Derived.Test.YtohfkhjlnlahdaaGreatProg
import Derived.Lib.Hide
import Derived.WalkLawsBesides
import Derived.Deep.DeepMust
import Derived.LoopTactic
import Derived.Laws.IdiomStrings
import Derived.Shelf.Bytes.SlSmallAll
import Derived.Deep.Upon
import Derived.ArgAppend
import Derived.Deep.AppendLies
import Derived.Maps.AppendAt
import Derived.BigRegion
import Derived.Deep.RegionHeld3
import Derived.Deep.RegionLaw
import Derived.Deep.DeepCutAuto
import Derived.Test.YtohfkhjlnlahdaaGreatQ11
import Derived.Maps.OwnSet
import Derived.Maps.OwnOps
import Derived.Test.YtohfkhjlnlahdaaGreatQ03
import Derived.Test.YtohfkhjlnlahdaaGreatQ05
import Derived.Laws.StructEq
set_option linter.all false
namespace Go.Proofs.YtohfkhjlnlahdaaGreat
open Go.RowKit Go.Maps Go.BigFrame
def gL (x:Int):Prop:=-9223372036854775808≤x∧x≤9223372036854775807
theorem Tryz.keySK:Keyed Tryz.prog 135:=int_keyed Tryz.underlying135
theorem ff {t:Int} (a:gL t):keyOf Tryz.prog 135 (.int .i64 t)=some (.int .i64 t):=
 keyOf_int_mk Tryz.underlying135 (by simp only[Lit.wf,show IntKind.i64.min=-9223372036854775808 from rfl,show IntKind.i64.max=9223372036854775807 from rfl,Bool.and_eq_true,decide_eq_true_eq];exact a)
def rJ:ByteArray:={ data:=#[115,101,110,100] }
def rK:ByteArray:={ data:=#[114,101,99,101,105,118,101] }
def rL:ByteArray:={ data:=#[116,105,109,101,111,117,116] }
def ui:ByteArray:={ data:=#[115,105,108,101,110,116] }
def jl (k:Int):ByteArray:=if k=1 then rJ else if k=2 then rK else if k=3 then rL else if k=4 then ui else aG
def cM (k:Int):Bool:=decide (k=1) || decide (k=2)
def kFn (k:Int):Value:=if k=1 then .func (.func 210) #[] #[] else if k=2 then .func (.func 210) #[] #[] else if k=3 then .func (.func 211) #[] #[] else if k=4 then .func (.func 210) #[] #[] else .nilFunc
def kOk (k:Int):Bool:=decide (1≤k) && decide (k≤4)
theorem Tryz.zeroKind (w:World):(zeroValue 279).run Tryz.prog w=.ok (.agg #[.string { data:=#[] },.bool false,.nilFunc]) w:=
 (zero_of_info (show (Tryz.prog.info? 279).map (fun i=>(i.zero,i.size))=some (some (.agg #[.string { data:=#[] },.bool false,.nilFunc]),3) by kernel_rfl)).1 w
def lj (h:Nat) (w:World):Prop:=∀ a,Frm [] w a→∀ k,gL k →
 (Instr.lookup 280 (.map (some h)) (.int .i64 k) true).run Tryz.prog a=.ok (.tuple #[.agg #[.string (jl k),.bool (cM k),kFn k],.bool (kOk k)]) a ∧
 (Instr.lookup 280 (.map (some h)) (.int .i64 k) false).run Tryz.prog a=.ok (.agg #[.string (jl k),.bool (cM k),kFn k]) a
theorem lk {a b:Int} (h:a≠b):(Lit.int .i64 a)≠(Lit.int .i64 b):=fun e=>h (by cases e;rfl)
theorem rM {J:Nat} {w:World} (f:Lit→Option Value) (n c:Nat) (N:MapAt Tryz.prog 135 w (some J) n f c)
  (G:∀ k,f (.int .i64 k)=if kOk k then some (.agg #[.string (jl k),.bool (cM k),kFn k]) else none):lj J w:=by
 intro h O k H
 have I:=N.frm O (by simp)
 have A:(f (.int .i64 k)).getD (.agg #[.string { data:=#[] },.bool false,.nilFunc])=.agg #[.string (jl k),.bool (cM k),kFn k]:=by
  rw[G]
  cases ho:kOk k with
  | true=>rfl
  | false =>
    have R:¬ (1≤k∧k≤4):=by
     intro a
     unfold kOk at ho
     rw[decide_eq_true a.1,decide_eq_true a.2] at ho
     cases ho
    simp only[Bool.false_eq_true,if_false,Option.getD_none]
    unfold jl cM kFn
    rw[if_neg (by omega),if_neg (by omega),if_neg (by omega),if_neg (by omega),decide_eq_false (by omega),decide_eq_false (by omega),if_neg (by omega),if_neg (by omega),if_neg (by omega),if_neg (by omega)]
    rfl
 have K:(f (.int .i64 k)).isSome=kOk k:=by rw[G];cases kOk k <;> rfl
 have E:=I.look_ok Tryz.keySK Tryz.underlying280 (Tryz.zeroKind h) (ff H)
 have a:=I.look Tryz.keySK Tryz.underlying280 (Tryz.zeroKind h) (ff H)
 rw[A,K] at E
 rw[A] at a
 exact⟨E,a⟩
set_option maxHeartbeats 2000000 in
set_option maxRecDepth 100000 in
theorem gu (w:World):Calls Tryz.prog 169 #[] w (aU fun v w'=>∃ R,v=.map (some R)∧lj R w'∧Frm [] w w'):=by
 have ab:=@run_makeMap Tryz.prog
 have a:∀ k:Int,1≤k→k≤4→gL k:=fun k h A=>by unfold gL;omega
 have I:=MapAt.made Tryz.prog 135 w
 obtain⟨ad,W,J,F1⟩:=I.store Tryz.keySK Tryz.underlying280 (by unfold maxLen;omega) (ff (a 1 (by omega) (by omega))) (by trivial) (.agg #[.string rJ,.bool true,.func (.func 210) #[] #[]])
 obtain⟨ae,X,K,E⟩:=J.store Tryz.keySK Tryz.underlying280 (by unfold maxLen;omega) (ff (a 2 (by omega) (by omega))) (by trivial) (.agg #[.string rK,.bool true,.func (.func 210) #[] #[]])
 obtain⟨af,Y,N,G⟩:=K.store Tryz.keySK Tryz.underlying280 (by unfold maxLen;omega) (ff (a 3 (by omega) (by omega))) (by trivial) (.agg #[.string rL,.bool false,.func (.func 211) #[] #[]])
 obtain⟨S,aa,O,H⟩:=N.store Tryz.keySK Tryz.underlying280 (by unfold maxLen;omega) (ff (a 4 (by omega) (by omega))) (by trivial) (.agg #[.string ui,.bool false,.func (.func 210) #[] #[]])
 have V:Hid (lj w.heap.size S):=vi (by
  refine rM _ _ _ O fun k=>?_
  by_cases h4:k=4
  ·subst h4;rw[dU];rfl
  rw[dr _ _ (lk h4)]
  by_cases h3:k=3
  ·subst h3;rw[dU];rfl
  rw[dr _ _ (lk h3)]
  by_cases A:k=2
  ·subst A;rw[dU];rfl
  rw[dr _ _ (lk A)]
  by_cases h:k=1
  ·subst h;rw[dU];rfl
  rw[dr _ _ (lk h)]
  have:kOk k=false:=by
   unfold kOk
   rw[Bool.and_eq_false_iff,decide_eq_false_iff_not,decide_eq_false_iff_not]
   omega
  rw[this];rfl)
 have U:Hid (Frm [] w S):=vi ((((((Frm.refl [] w).alloc _).then F1 (by simp)).then E (by simp)).then G (by simp)).then H (by simp))
 clear I J K N O F1 E G H a
 unfold rJ at W
 unfold rK at X
 unfold rL at Y
 unfold ui at aa
 go_enter Tryz.func169,Tryz.ntmps169
 go_wp2
 go_ret
 exact⟨_,rfl,_,rfl,V.out,U.out⟩
end Go.Proofs.YtohfkhjlnlahdaaGreat
namespace Go.Proofs.YtohfkhjlnlahdaaGreat
open Go
theorem oP {b:ByteArray} (a:aL b=true):1≤b.size∧b.size≤32:=by
 unfold aL at a
 simp only[Bool.and_eq_true,decide_eq_true_eq] at a
 exact a.1
theorem eF {α:Type} {p:α→Bool}:∀ {l:List α},match l.find? p with
  | none=>ixf p l=-1
  | some x=>∃ k:Nat,ixf p l=k∧l[k]?=some x∧p x=true
 | []=>rfl
 | a :: l=>by
   have ih:=eF (p:=p) (l:=l)
   rw[List.find?_cons]
   cases hp:p a with
   | true=>exact⟨0,by unfold ixf;rw[hp];rfl,rfl,hp⟩
   | false =>
     unfold ixf
     rw[hp]
     simp only[Bool.false_eq_true,if_false]
     cases hf:l.find? p with
     | none=>rw[hf] at ih;simp only at ih ⊢;rw[ih];rfl
     | some x =>
       rw[hf] at ih
       obtain⟨k,h,A,E⟩:=ih
       exact⟨k+1,by rw[h,if_neg (by omega)];omega,by simpa using A,E⟩
section
variable {s:SesD} {r:RolD}
theorem jL:∀ {l:List RolD} {i:Nat},cQ s i l=0→∀ k a,l[k]?=some a→eh s (i+k) a=0
 | [],i,_,k,a,hk=>by simp at hk
 | b :: l,i,h,k,a,hk=>by
   unfold cQ at h
   by_cases e:eh s i b=0
   ·rw[if_pos e] at h
    cases k with
    | zero=>simp at hk;subst hk;exact e
    | succ k=>have:=jL h k a (by simpa using hk);rwa [show i+(k+1)=i+1+k by omega]
   ·rw[if_neg e] at h;exact absurd h e
theorem qt {i:Nat} (a:eh s i r=0):cF r=0∧(i:Int)≤bT s r.name:=by
 unfold eh at a
 by_cases e:cF r=0
 ·rw[if_pos e] at a
  refine⟨e,?_⟩
  rcases Int.lt_or_le (bT s r.name) i with h | h
  ·rw[if_pos h] at a;cases a
  ·exact h
 ·rw[if_neg e] at a;exact absurd a e
theorem lC {α:Type} {f:α→ByteArray} {l:List α} (G:∀ (i:Nat) (a:α),l[i]?=some a→(i:Int)≤ixf (fun x=>decide (f x=f a)) l):∀ (i j:Nat) (a b:α),l[i]?=some a→l[j]?=some b→f a=f b→i=j:=by
 have E:∀ (i j:Nat) (a b:α),l[i]?=some a→l[j]?=some b→f a=f b→¬ i<j:=by
  intro i j a b h A e O
  have H:=G j b A
  obtain⟨k,J,N⟩:=cO (show 0≤ixf (fun x=>decide (f x=f b)) l by omega)
  obtain⟨x,-,-,I⟩:=ef J
  have:=I i a (by omega) h
  rw[decide_eq_false_iff_not] at this
  exact this e
 intro i j a b h A e
 have H:=E i j a b h A e
 have K:=E j i b a A h e.symm
 omega
theorem qu (a:cF r=0):aL r.name=true∧r.ctrs.length≤4∧(∀ i c,r.ctrs[i]?=some c→bZ r i c=false)∧1≤r.sts.length∧r.sts.length≤24∧(∀ i c,r.sts[i]?=some c→dn r i c=false) ∧
  r.steps.length≤80∧∀ i t,r.steps[i]?=some t→aY r i t=true:=by
 unfold cF at a
 by_cases h1:aL r.name=false
 ·rw[if_pos h1] at a;cases a
 rw[if_neg h1] at a
 by_cases h2:4<r.ctrs.length∨de (bZ r) 0 r.ctrs=true
 ·rw[if_pos h2] at a;cases a
 rw[if_neg h2] at a
 by_cases h3:r.sts.length<1∨24<r.sts.length∨de (dn r) 0 r.sts=true
 ·rw[if_pos h3] at a;cases a
 rw[if_neg h3] at a
 by_cases h4:80<r.steps.length∨de (fun i s=>!aY r i s) 0 r.steps=true
 ·rw[if_pos h4] at a;cases a
 simp only[not_or,Nat.not_lt,Bool.not_eq_true,Bool.not_eq_false] at h1 h2 h3 h4
 refine⟨h1,h2.1,fun i c h=>?_,h3.1,h3.2.1,fun i c h=>?_,h4.1,fun i t A=>?_⟩
 ·have:=anyIx_false.1 h2.2 i c h;rwa [Nat.zero_add] at this
 ·have:=anyIx_false.1 h3.2.2 i c h;rwa [Nat.zero_add] at this
 ·have:=anyIx_false.1 h4.2 i t A;rw[Nat.zero_add] at this;simpa using this
theorem uE {i:Nat} {t:StpD} (U:∀ c∈r.ctrs,1≤c.lim∧c.lim≤1000) (I:dM s r=false) (S:r.steps[i]?=some t) (E:aY r i t=true):StpOk s r t:=by
 have G:=eF (p:=fun x:StD=>decide (x.name=t.frm)) (l:=r.sts)
 unfold aY at E
 cases hf:r.sts.find? (fun x=>decide (x.name=t.frm)) with
 | none=>rw[hf] at E;cases E
 | some f =>
   rw[hf] at E G
   obtain⟨k,J,-,-⟩:=G
   simp only[Bool.and_eq_true,decide_eq_true_eq] at E
   obtain⟨⟨⟨O,h⟩,a⟩,-⟩:=E
   have K:(t.kind=1∨t.kind=2)∧aL t.msg=true∧t.peer≠r.name∨t.kind=3∨t.kind=4:=by
    unfold dp at a
    by_cases e:t.kind=1∨t.kind=2
    ·rw[if_pos e] at a
     simp only[Bool.and_eq_true,Bool.not_eq_true',decide_eq_false_iff_not] at a
     exact .inl ⟨e,a.1.1,a.2⟩
    ·rw[if_neg e] at a
     by_cases e3:t.kind=3
     ·exact .inr (.inl e3)
     ·rw[if_neg e3] at a
      by_cases e4:t.kind=4
      ·exact .inr (.inr e4)
      ·rw[if_neg e4] at a;cases a
   refine⟨by omega,by omega,by show 0≤ixf _ _;omega,O,fun h=>?_,fun h=>?_,fun R=>?_⟩
   ·rcases K with ⟨-,A,-⟩ | A | A
    ·exact oP A
    ·omega
    ·omega
   ·rcases K with ⟨H,-,A⟩ | A | A
    ·refine⟨?_,A⟩
     unfold dM at I
     rw[List.any_eq_false] at I
     have:=I t (List.mem_of_getElem? S)
     simp only[Bool.and_eq_true,decide_eq_true_eq,not_and,Int.not_lt] at this
     exact this (by unfold ei;rcases H with H | H <;> simp[H])
    ·omega
    ·omega
   ·unfold bp at h
    rw[if_neg R] at h
    have G:=eF (p:=fun x:CtrD=>decide (x.name=t.ctr)) (l:=r.ctrs)
    cases hg:r.ctrs.find? (fun x=>decide (x.name=t.ctr)) with
    | none=>rw[hg] at h;cases h
    | some c =>
      rw[hg] at h G
      obtain⟨k,J,N,-⟩:=G
      simp only[Bool.and_eq_true,decide_eq_true_eq] at h
      exact⟨k,c,J,N,by omega,by omega,by omega,by omega,by omega,by omega,by omega⟩
theorem rH (a:eo s=0):SesOk s:=by
 unfold eo at a
 by_cases h1:aL s.name=false
 ·rw[if_pos h1] at a;cases a
 rw[if_neg h1] at a
 by_cases h2:eE s=true
 ·rw[if_pos h2] at a;cases a
 rw[if_neg h2] at a
 have E:cQ s 0 s.roles=0:=by
  by_cases E:cQ s 0 s.roles=0
  ·exact E
  ·rw[if_neg E] at a;exact a
 rw[if_pos E] at a
 by_cases h4:s.roles.any (dM s)=true
 ·rw[if_pos h4] at a;cases a
 simp only[Bool.not_eq_true,Bool.not_eq_false] at h1 h2 h4
 unfold eE at h2
 simp only[Bool.or_eq_false_iff,decide_eq_false_iff_not] at h2
 have J:∀ (i:Nat) (r:RolD),s.roles[i]?=some r→cF r=0∧(i:Int)≤bT s r.name:=fun i r G=>by
  have:=jL E i r G
  rw[Nat.zero_add] at this
  exact qt this
 refine⟨by omega,by omega,by omega,by omega,by omega,by omega,h1,fun r A=>?_,lC (f:=RolD.name) fun i N G=>(J i N G).2⟩
 obtain⟨i,G⟩:=List.getElem?_of_mem A
 obtain⟨S,U,K,V,W,X,Y,aa⟩:=qu (J i r G).1
 have I:∀ c∈r.ctrs,aL c.name=true∧1≤c.lim∧c.lim≤1000:=fun c A=>by
  obtain⟨j,h⟩:=List.getElem?_of_mem A
  have:=K j c h
  unfold bZ at this
  simp only[Bool.or_eq_false_iff,decide_eq_false_iff_not,Bool.not_eq_false'] at this
  exact⟨this.1.1.1,by omega,by omega⟩
 have O:dM s r=false:=by
  rw[List.any_eq_false] at h4
  simpa using h4 r A
 refine⟨S,U,I,lC (f:=CtrD.name) fun j c h=>?_,V,W,lC (f:=StD.name) fun j c h=>?_,Y,fun t R=>?_⟩
 ·have:=K j c h
  unfold bZ at this
  simp only[Bool.or_eq_false_iff,decide_eq_false_iff_not,Bool.not_eq_false'] at this
  have H:=this.1.1.2
  unfold bL at H
  omega
 ·have:=X j c h
  unfold dn at this
  simp only[Bool.or_eq_false_iff,decide_eq_false_iff_not,Bool.not_eq_false'] at this
  have H:=this.1.1.2
  unfold bK at H
  omega
 ·obtain⟨j,h⟩:=List.getElem?_of_mem R
  exact uE (fun c A=>(I c A).2) O h (aa j t h)
end
end Go.Proofs.YtohfkhjlnlahdaaGreat
namespace Go.Proofs.YtohfkhjlnlahdaaGreat
open Go.RowKit Go.BigFrame
def ed (t:StpD):Array Value:=#[.string t.frm,.string t.to,.int .i64 t.kind,.string t.msg,.string t.peer,.string t.ctr,.int .i64 t.low,.int .i64 t.high,.int .i64 t.add]
theorem Tryz.und60:Tryz.prog.underlying 137=some (.struct (Tryz.prog.fieldsOf 137)):=by kernel_rfl
theorem nw {h b:ByteArray}:h.toList=b.toList↔h=b:=by
 rw[ByteArray.toList_eq,ByteArray.toList_eq]
 exact⟨fun a=>ByteArray.ext (Array.toList_inj.mp a),fun a=>by rw[a]⟩
set_option maxHeartbeats 1000000 in
set_option maxRecDepth 100000 in
theorem jf (a b:StpD) (w:World):(binOp .eql 137 (.agg (ed a)) (.agg (ed b))).run Tryz.prog w=.ok (.bool (decide (a=b))) w:=by
 have h:(Op.equalIn (9999+1) 137 (.agg (ed a)) (.agg (ed b))).run Tryz.prog w=.ok (decide (a=b)) w:=by
  rw[run_equalIn_struct w 9999 137 _ _ Tryz.und60 (by kernel_rfl)]
  simp[go_sem,ed,Tryz.underlying137]
  obtain⟨A,E,G,H,I,J,K,N,O⟩:=a
  obtain⟨b1,b2,R,S,U,b6,V,W,X⟩:=b
  simp only[nw,StpD.mk.injEq]
  repeat' split
  all_goals simp[*]
 simp only[binOp]
 simp[show Op.equal 137 (.agg (ed a)) (.agg (ed b))=Op.equalIn (9999+1) 137 (.agg (ed a)) (.agg (ed b)) from rfl,h]
set_option maxHeartbeats 1000000 in
theorem ny (v:Value) (A:List StpD) (y:StpD) (w:World) (ah:Arr 9 SpAt w v A) (ai:A.length≤1000) :
  Calls Tryz.prog 225 #[v,.agg (ed y)] w (Ret (.int .i64 (ixf (fun x=>decide (y=x)) A)) (Frm [] w)):=by
 obtain⟨ao,cap,rfl,h⟩:=ah
 have af:=vi h
 obtain⟨n,R⟩:∃ n,A.length=n:=⟨_,rfl⟩
 rw[R] at ai ⊢
 have V:=vi R
 obtain⟨G,I⟩:∃ G,w.alloc (.cells (ed y) 137)=G:=⟨_,rfl⟩
 have O:Hid (Frm [] w G):=vi (by rw[← I];exact(Frm.refl _ _).alloc _)
 have ad:Hid (G.heap[w.heap.size]?=some (.cells (ed y) 137 (0,0))):=vi (by rw[← I];exact heap_alloc_new w _)
 have U:=vi I
 clear h R I
 go_enter Tryz.func225,Tryz.ntmps225
 go_wp2_with (refine aH rfl 137 _ rfl (ed y) rfl ?_;rw[U.out])
 clear U
 go_loopw [8,5] (fun s8 s5 wr=>∃ i:Nat,s8=.int .i64 i∧i≤n∧Frm [] G wr∧∀ j x,j<i→A[j]?=some x→decide (y=x)=false) (fun s8 _ _=>n - (intOf s8).toNat)
 case atStart=>exact⟨0,rfl,Nat.zero_le _,Frm.refl _ _,fun j x J=>by omega⟩
 case round =>
  obtain⟨i,rfl,aE,Y,aa⟩:=hrel
  have E:=vi Y;have K:=vi aa
  clear Y aa
  by_cases hlt:i<n
  ·have aF:(i:Int)<(n:Int):=by omega
   obtain⟨x,h⟩:∃ x,A[i]?=some x:=⟨_,List.getElem?_eq_getElem (by rw[V.out];exact hlt)⟩
   obtain⟨b,o,rfl,X⟩:=af.out i x h
   obtain⟨c0,aj,ak,al,am,an,ap,aq,ar⟩:=X.frm (O.out.trans E.out)
   have a:=E.out.at ad.out (by simp)
   have au:wr.cell? ⟨w.heap.size,0,none⟩=some (.string y.frm):=ae a 0
   have av:wr.cell? ⟨w.heap.size,1,none⟩=some (.string y.to):=ae a 1
   have aw:wr.cell? ⟨w.heap.size,2,none⟩=some (.int .i64 y.kind):=ae a 2
   have ax:wr.cell? ⟨w.heap.size,3,none⟩=some (.string y.msg):=ae a 3
   have ay:wr.cell? ⟨w.heap.size,4,none⟩=some (.string y.peer):=ae a 4
   have az:wr.cell? ⟨w.heap.size,5,none⟩=some (.string y.ctr):=ae a 5
   have aA:wr.cell? ⟨w.heap.size,6,none⟩=some (.int .i64 y.low):=ae a 6
   have aB:wr.cell? ⟨w.heap.size,7,none⟩=some (.int .i64 y.high):=ae a 7
   have aC:wr.cell? ⟨w.heap.size,8,none⟩=some (.int .i64 y.add):=ae a 8
   have ab:∀ H,(binOp .eql 137 (.agg #[.string y.frm,.string y.to,.int .i64 y.kind,.string y.msg,.string y.peer,.string y.ctr,.int .i64 y.low,.int .i64 y.high,.int .i64 y.add]) (.agg #[.string x.frm,.string x.to,.int .i64 x.kind,.string x.msg,.string x.peer,.string x.ctr,.int .i64 x.low,.int .i64 x.high,.int .i64 x.add])).run Tryz.prog H=.ok (.bool (decide (y=x))) H:=fun H=>jf y x H
   have W:=vi h
   clear X h a
   cases hpx:decide (y=x) with
   | true =>
     rw[hpx] at ab
     have N:=vi hpx
     clear hpx
     go_wp2
     go_quiet (fail)
     go_wp2
     go_ret
     exact⟨by rw[cj W.out N.out K.out];rfl,O.out.trans (E.out.drewN _)⟩
   | false =>
     rw[hpx] at ab
     have N:=vi hpx
     clear hpx
     go_wp2
     go_quiet (fail)
     go_wp2
     refine⟨⟨i+1,by simp,hlt,E.out.drewN _,fun j z J S=>?_⟩,by simp[intOf];omega⟩
     by_cases e:j=i
     ·subst e;rw[W.out] at S;cases S;exact N.out
     ·exact K.out j z (by omega) S
  ·have aD:¬ (i:Int)<(n:Int):=by omega
   go_wp2
   go_ret
   refine⟨?_,O.out.trans E.out⟩
   have e:=cn (p:=fun x=>decide (y=x)) (l:=A) fun x h=>by
    obtain⟨j,J⟩:=List.getElem?_of_mem h
    exact K.out j x (by have:=ag J;rw[V.out] at this;omega) J
   rw[e];rfl
theorem sG {a:List StpD} {y:StpD}:decide (0≤ixf (fun x=>decide (y=x)) a)=decide (y∈a):=by
 by_cases h:y∈a
 ·rw[decide_eq_true (fQ (p:=fun x=>decide (y=x)) h (by simp)),decide_eq_true h]
 ·rw[decide_eq_false h,decide_eq_false]
  intro E
  obtain⟨i,H,-⟩:=cO E
  obtain⟨x,G,A,-⟩:=ef H
  rw[decide_eq_true_eq] at A
  subst A
  exact h (List.mem_of_getElem? G)
set_option maxHeartbeats 1000000 in
theorem nz (v:Value) (a:List StpD) (y:StpD) (w:World) (h:Arr 9 SpAt w v a) (U:a.length≤1000) :
  Calls Tryz.prog 222 #[v,.agg (ed y)] w (Ret (.bool (decide (y∈a))) (Frm [] w)):=by
 obtain⟨ao,cap,e,-⟩:=id h
 subst e
 have G:Frm [] w (w.alloc (.cells (ed y) 137)):=(Frm.refl _ _).alloc _
 have A:=vi (ny (.slice ao a.length cap) a y (w.alloc (.cells (ed y) 137)) (h.frm fun _ _ _ h=>h.frm G) U)
 have H:=vi G
 rw[← sG]
 obtain⟨q,K⟩:∃ q,ixf (fun x=>decide (y=x)) a=q:=⟨_,rfl⟩
 rw[K] at A ⊢
 have hb:(w.alloc (.cells (ed y) 137)).heap[w.heap.size]?=some (.cells (ed y) 137 (0,0)):=heap_alloc_new w _
 have S:(w.alloc (.cells (ed y) 137)).cell? ⟨w.heap.size,0,none⟩=some (.string y.frm):=ae hb 0
 obtain⟨I,E⟩:∃ I,w.alloc (.cells (ed y) 137)=I:=⟨_,rfl⟩
 rw[E] at A H hb
 have N:=vi hb
 have R:=vi E
 clear h G K E hb S
 go_enter Tryz.func222,Tryz.ntmps222
 go_wp2_with (first
  | (refine aH rfl 137 _ rfl (ed y) rfl ?_;rw[R.out])
  | (refine af rfl 137 _ rfl _ rfl _ 137 N.out _ Tryz.underlying137 rfl (by kernel_rfl) ?_)
  | (go_at_call 225;go_must (refine A.out.mono ?_;rintro e V ⟨rfl,J⟩;have O:=vi J;clear J)))
 go_ret
 exact⟨rfl,H.out.trans O.out⟩
def hO (n:Nat) (h a:Int) (q:Nat→Bool):Int:=if (n:Int)<h then 0 else if a<(n:Int) then a else ixf q (List.range n)
theorem qK {n:Nat} {G h:Int} {q:Nat→Bool} (I:0≤h):0≤hO n G h q↔(n:Int)<G∨h<(n:Int)∨∃ i,i<n∧q i=true:=by
 unfold hO
 by_cases h1:(n:Int)<G
 ·rw[if_pos h1];simp[h1]
 ·rw[if_neg h1]
  by_cases h2:h<(n:Int)
  ·rw[if_pos h2];simp[h1,h2,I]
  ·rw[if_neg h2]
   constructor
   ·intro a
    obtain⟨i,H,-⟩:=cO a
    obtain⟨x,A,E,-⟩:=ef H
    have:=List.mem_of_getElem? A
    rw[List.mem_range] at this
    exact .inr (.inr ⟨x,this,E⟩)
   ·rintro(a | a | ⟨i,A,E⟩)
    ·exact absurd a h1
    ·exact absurd a h2
    ·exact fQ (List.mem_range.2 A) E
theorem qL {n i x:Nat} (a:(List.range n)[i]?=some x):x=i∧i<n:=by
 have:=ag a
 rw[List.length_range] at this
 rw[List.getElem?_range this] at a
 cases a
 exact⟨rfl,this⟩
set_option maxHeartbeats 1000000 in
theorem jg (H:FuncId) (R:Array Value) (n:Nat) (h a:Int) (q:Nat→Bool) (w:World) (ah:n≤100000) (ad:∀ args w,(callFunc H args).run Tryz.prog w=.ok (.enter H args) w)
  (I:∀ W (i:Nat),i<n→(n:Int)≤a→Frm [] w W→Calls Tryz.prog H (#[.int .i64 i]++R) W (Ret (.bool (q i)) (Frm [] W))) :
  Calls Tryz.prog 203 #[.int .i64 n,.int .i64 h,.int .i64 a,.func (.func H) #[] R] w (Ret (.int .i64 (hO n h a q)) (Frm [] w)):=by
 by_cases h1:(n:Int)<h
 ·have e:hO n h a q=0:=by unfold hO;rw[if_pos h1]
  rw[e]
  clear e I
  go_enter Tryz.func203,Tryz.ntmps203
  go_wp2
  go_ret
  exact⟨rfl,Frm.refl _ _⟩
 by_cases h2:a<(n:Int)
 ·have e:hO n h a q=a:=by unfold hO;rw[if_neg h1,if_pos h2]
  rw[e]
  clear e I
  go_enter Tryz.func203,Tryz.ntmps203
  go_wp2
  go_ret
  exact⟨rfl,Frm.refl _ _⟩
 have e:hO n h a q=ixf q (List.range n):=by unfold hO;rw[if_neg h1,if_neg h2]
 rw[e]
 have X:=vi I
 have V:Hid ((n:Int)≤a):=vi (by omega)
 clear e I
 go_enter Tryz.func203,Tryz.ntmps203
 go_wp2
 clear h1 h2
 go_loopw [20,9] (fun s20 s9 wr=>∃ i:Nat,s20=.int .i64 i∧i≤n∧Frm [] w wr∧∀ j,j<i→q j=false) (fun s20 _ _=>n - (intOf s20).toNat)
 case atStart=>exact⟨0,rfl,Nat.zero_le _,Frm.refl _ _,fun j O=>by omega⟩
 case round =>
  obtain⟨i,rfl,af,S,U⟩:=hrel
  have G:=vi S;have K:=vi U
  clear S U
  by_cases hlt:i<n
  ·have ag:(i:Int)<(n:Int):=by omega
   have E:=vi (X.out wr i hlt V.out G.out)
   cases hpx:q i with
   | true =>
     rw[hpx] at E
     have N:=vi hpx
     clear hpx
     go_wp2_with fail
     refine E.out.mono ?_
     rintro e ab ⟨rfl,A⟩
     have J:=vi A
     clear A
     go_wp2
     go_ret
     refine⟨?_,G.out.trans J.out⟩
     have e:ixf q (List.range n)=(i:Int):=cj (List.getElem?_range hlt) N.out (fun j y O aa=>by
      obtain⟨rfl,-⟩:=qL aa
      exact K.out _ O)
     rw[e];rfl
   | false =>
     rw[hpx] at E
     have N:=vi hpx
     clear hpx
     go_wp2_with fail
     refine E.out.mono ?_
     rintro e ab ⟨rfl,A⟩
     have J:=vi A
     clear A
     go_wp2
     refine⟨⟨i+1,by simp,hlt,G.out.trans J.out,fun j O=>?_⟩,by simp[intOf];omega⟩
     by_cases e:j=i
     ·subst e;exact N.out
     ·exact K.out j (by omega)
  ·have ae:¬ (i:Int)<(n:Int):=by omega
   go_wp2
   go_ret
   refine⟨?_,G.out⟩
   have e:=cn (p:=q) (l:=List.range n) fun x Y=>by
    rw[List.mem_range] at Y
    exact K.out x (by omega)
   rw[e];rfl
end Go.Proofs.YtohfkhjlnlahdaaGreat
