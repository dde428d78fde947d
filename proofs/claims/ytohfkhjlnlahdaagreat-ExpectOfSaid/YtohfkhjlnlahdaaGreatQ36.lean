/- Part of the proof. -/
import Derived.Test.YtohfkhjlnlahdaaGreatQ04
import Derived.Test.YtohfkhjlnlahdaaGreatQ07
import Derived.Test.YtohfkhjlnlahdaaGreatQ22
import Derived.Test.YtohfkhjlnlahdaaGreatQ32
import Derived.Test.YtohfkhjlnlahdaaGreatQ26
import Derived.Test.YtohfkhjlnlahdaaGreatQ35
set_option linter.all false
namespace Go.Proofs.YtohfkhjlnlahdaaGreat
open Go.RowKit Go.BigFrame
theorem mZ {r:RolD} {x:StpD} (h:x.ctr≠aG):(bL r.ctrs x.ctr<0∧bp r x=false)∨∃ (p:Nat) (c:CtrD),bL r.ctrs x.ctr=p∧r.ctrs[p]?=some c ∧
  ((x.low<0∧bp r x=false)∨(¬ x.low<0∧x.high<x.low∧bp r x=false)∨(¬ x.low<0∧¬ x.high<x.low∧c.lim<x.high∧bp r x=false)∨(¬ x.low<0∧¬ x.high<x.low∧¬ c.lim<x.high∧x.add < -1000∧bp r x=false) ∨
   (¬ x.low<0∧¬ x.high<x.low∧¬ c.lim<x.high∧¬ x.add < -1000∧1000<x.add∧bp r x=false) ∨
   (¬ x.low<0∧¬ x.high<x.low∧¬ c.lim<x.high∧¬ x.add < -1000∧¬ 1000<x.add∧((¬ 0≤x.low+x.add∧bp r x=false)∨(0≤x.low+x.add∧bp r x=decide (x.high+x.add≤c.lim))))):=by
 have a:=eF (p:=fun c:CtrD=>decide (c.name=x.ctr)) (l:=r.ctrs)
 unfold bp
 rw[if_neg h]
 cases hf:r.ctrs.find? (fun c=>decide (c.name=x.ctr)) with
 | none =>
   rw[hf] at a
   left
   simp only at a
   refine⟨?_,rfl⟩
   show ixf _ _<0
   omega
 | some c =>
   rw[hf] at a
   obtain⟨p,A,E,-⟩:=a
   right
   refine⟨p,c,A,E,?_⟩
   by_cases a1:x.low<0
   ·left;exact⟨a1,by simp;omega⟩
   by_cases a2:x.high<x.low
   ·right;left;exact⟨a1,a2,by simp;omega⟩
   by_cases a3:c.lim<x.high
   ·right;right;left;exact⟨a1,a2,a3,by simp;omega⟩
   by_cases a4:x.add < -1000
   ·right;right;right;left;exact⟨a1,a2,a3,a4,by simp;omega⟩
   by_cases a5:1000<x.add
   ·right;right;right;right;left;exact⟨a1,a2,a3,a4,a5,by simp;omega⟩
   right;right;right;right;right
   refine⟨a1,a2,a3,a4,a5,?_⟩
   by_cases a6:0≤x.low+x.add
   ·right
    refine⟨a6,?_⟩
    simp only
    rw[decide_eq_true (p:=0≤x.low) (by omega),decide_eq_true (p:=x.low≤x.high) (by omega),decide_eq_true (p:=-1000≤x.add) (by omega),decide_eq_true (p:=x.add≤1000) (by omega),decide_eq_true (p:=x.high≤c.lim) (by omega),decide_eq_true a6]
    simp
   ·left;exact⟨a6,by simp;omega⟩
set_option maxHeartbeats 4000000 in
set_option maxRecDepth 100000 in
theorem gP (v:Value) (r:RolD) (x:StpD) (w:World) (az:RlV w v r) (aV:r.ctrs.length≤100) (aM:∀ c∈r.ctrs,1≤c.lim∧c.lim≤1000) :
  Calls Tryz.prog 212 #[v,dN x] w (Ret (.bool (bp r x)) (Frm [] w)):=by
 obtain⟨aD,a5,aE,rfl,V⟩:=az
 obtain⟨ac,ap,aS,aK⟩:=V.ctrs
 subst aS
 have aP:=vi aK;have aQ:=vi aM
 obtain⟨R,au⟩:∃ R,r.ctrs.length=R:=⟨_,rfl⟩
 have aR:=vi au
 rw[au] at V
 rw[au]
 obtain⟨N,aj⟩:∃ N,(w.alloc (.cells #[.string r.name,aD,.slice ac R ap,aE] 87)).alloc (.cells #[.string x.frm,.string x.to,.int .i64 x.kind,.string x.msg,.string x.peer,.string x.ctr,.int .i64 x.low,.int .i64 x.high,.int .i64 x.add] 137)=N:=⟨_,rfl⟩
 have G:Hid (Frm [] w N):=vi (by rw[← aj];exact((Frm.refl _ _).alloc _).alloc _)
 have aF:Hid (N.heap[w.heap.size]?=some (.cells #[.string r.name,aD,.slice ac R ap,aE] 87 (0,0))):=vi (by rw[← aj];exact ah (heap_alloc_new _ _))
 have al:Hid (N.heap[w.heap.size+1]?=some (.cells #[.string x.frm,.string x.to,.int .i64 x.kind,.string x.msg,.string x.peer,.string x.ctr,.int .i64 x.low,.int .i64 x.high,.int .i64 x.add] 137 (0,0))):=vi (by rw[← aj];exact aq (by simp))
 have U:Hid (∀ A,Frm [] N A→A.cell? ⟨w.heap.size,2,none⟩=some (.slice ac R ap)∧A.cell? ⟨w.heap.size+1,5,none⟩=some (.string x.ctr)∧A.cell? ⟨w.heap.size+1,6,none⟩=some (.int .i64 x.low)∧A.cell? ⟨w.heap.size+1,7,none⟩=some (.int .i64 x.high)∧A.cell? ⟨w.heap.size+1,8,none⟩=some (.int .i64 x.add)):=vi fun A O =>
  ⟨O.keep (ae aF.out 2),O.keep (ae al.out 5),O.keep (ae al.out 6),O.keep (ae al.out 7),O.keep (ae al.out 8)⟩
 have av:Hid (∀ A,Frm [] w A→Calls Tryz.prog 174 #[.agg #[.string r.name,aD,.slice ac R ap,aE],.string x.ctr] A (Ret (.int .i64 (bL r.ctrs x.ctr)) (Frm [] A))):=vi fun A O=>gN _ r x.ctr A ⟨_,_,_,rfl,V.frm O⟩ (by omega)
 have am:=vi aj
 clear V aK aM au aV aj
 obtain⟨X,Y,aa,ab,ad⟩:=U.out N (Frm.refl _ _)
 by_cases he:x.ctr=aG
 ·have aU:x.ctr.toList.isEmpty=true:=dg he
  have H:Hid (bp r x=(decide (x.low=0) && decide (x.high=0) && decide (x.add=0))):=vi (js he)
  clear he av
  by_cases l0:x.low=0
  ·have a1:(x.low == 0)=true:=by simpa using l0
   by_cases l1:x.high=0
   ·have a2:(x.high == 0)=true:=by simpa using l1
    have H:Hid (bp r x=(x.add == 0)):=vi (by rw[H.out,decide_eq_true l0,decide_eq_true l1,Bool.true_and,Bool.true_and];by_cases az:x.add=0 <;> simp[az])
    clear l0 l1
    go_enter Tryz.func212,Tryz.ntmps212
    go_wp2_with (first | (rw[am.out]))
    go_ret
    exact⟨by rw[H.out];rfl,G.out⟩
   ·have a2:(x.high == 0)=false:=by simpa using l1
    have H:Hid (bp r x=false):=vi (by rw[H.out,decide_eq_false l1];simp)
    clear l0 l1
    go_enter Tryz.func212,Tryz.ntmps212
    go_wp2_with (first | (rw[am.out]))
    go_ret
    exact⟨by rw[H.out];rfl,G.out⟩
  ·have a1:(x.low == 0)=false:=by simpa using l0
   have H:Hid (bp r x=false):=vi (by rw[H.out,decide_eq_false l0];simp)
   clear l0
   go_enter Tryz.func212,Tryz.ntmps212
   go_wp2_with (first | (rw[am.out]))
   go_ret
   exact⟨by rw[H.out];rfl,G.out⟩
 ·have aU:x.ctr.toList.isEmpty=false:=dF he
  have an:=vi (mZ (r:=r) he)
  obtain⟨bf,aN⟩:∃ q,bL r.ctrs x.ctr=q:=⟨_,rfl⟩
  rw[aN] at av an
  clear he aN
  go_enter Tryz.func212,Tryz.ntmps212
  go_upto_region 1 with fail
  rw[am.out]
  go_upto_region 4 with (first
   | (refine af rfl 87 _ rfl _ rfl _ 87 aF.out _ Tryz.underlying87 rfl (by kernel_rfl) ?_)
   | (go_at_call 174;go_must (refine(av.out _ G.out).mono ?_;rintro e bg ⟨rfl,aL⟩;have J:=vi aL;clear aL)))
  clear X Y aa ab ad
  rcases an.out with ⟨aI,K⟩ | ⟨p,c,aI,K,V⟩
  ·replace K:=vi K
   clear an
   refine ay (by kernel_rfl) (by kernel_rfl) ?_
   repeat (first
    | go_big_quiet_skip
    | (refine wpQuiet_want (by rfl) (fun I a=>?_)
       first
        | (refine quiet_move _ (by rfl) (a _ ?_))
        | (refine quiet_assign _ (by rfl) (a _ ?_))
        | (apply Exists.intro
           refine⟨fun w' h=>?_,a _ ?_⟩
           ·(unfold Oper.quietAt
             obtain⟨X,Y,aa,ab,ad⟩:=U.out w' (J.out.trans h)
             clear h
             go_simp
             try exact⟨rfl,rfl⟩
             try rfl))
       clear a I
       try simp only[nrm,Act.eval,nrq]))
   refine wpQuiet_nil ?_
   intro aO W
   go_wp2
   go_ret
   exact⟨by rw[K.out];rfl,G.out.trans (J.out.trans W)⟩
  ·subst aI
   have a8:¬ (p:Int)<0:=by omega
   have a7:(p:Int)<(R:Int):=by have:=ag K;have:=aR.out;omega
   have a6:=aQ.out c (List.mem_of_getElem? K)
   obtain⟨a4,be,rfl,aJ⟩:=aP.out p c K
   have ak:=vi aJ
   clear aJ K an
   rcases V with ⟨ai,E⟩ | ⟨ai,ar,E⟩ | ⟨ai,ar,aw,E⟩ | ⟨ai,ar,aw,aH,E⟩ | ⟨ai,ar,aw,aH,aT,E⟩ | ⟨ai,ar,aw,aH,aT,ax⟩
   iterate 5
    focus
     replace E:=vi E
     try have aW:decide (x.low<0)=false:=decide_eq_false (by omega)
     try have aX:decide (x.high<x.low)=false:=decide_eq_false (by omega)
     try have aY:decide (c.lim<x.high)=false:=decide_eq_false (by omega)
     try have aZ:decide (x.add < -1000)=false:=decide_eq_false (by omega)
     refine ay (by kernel_rfl) (by kernel_rfl) ?_
     repeat (first
      | go_big_quiet_skip
      | (refine wpQuiet_want (by rfl) (fun I a=>?_)
         first
          | (refine quiet_move _ (by rfl) (a _ ?_))
          | (refine quiet_assign _ (by rfl) (a _ ?_))
          | (apply Exists.intro
             refine⟨fun w' h=>?_,a _ ?_⟩
             ·(unfold Oper.quietAt
               obtain⟨X,Y,aa,ab,ad⟩:=U.out w' (J.out.trans h);obtain⟨aB,aC⟩:=ak.out.frm (G.out.trans (J.out.trans h))
               clear h
               go_simp
               try exact⟨rfl,rfl⟩
               try rfl))
         clear a I
         try simp only[nrm,Act.eval,nrq]))
     refine wpQuiet_nil ?_
     intro aO W
     go_wp2
     go_ret
     exact⟨by rw[E.out];rfl,G.out.trans (J.out.trans W)⟩
   ·have aW:decide (x.low<0)=false:=decide_eq_false (by omega)
    have aX:decide (x.high<x.low)=false:=decide_eq_false (by omega)
    have aY:decide (c.lim<x.high)=false:=decide_eq_false (by omega)
    have aZ:decide (x.add < -1000)=false:=decide_eq_false (by omega)
    have bd:decide (1000<x.add)=false:=decide_eq_false (by omega)
    have a9:wrap64 (x.low+x.add)=x.low+x.add:=by unfold wrap64;omega
    have ba:wrap64 (x.high+x.add)=x.high+x.add:=by unfold wrap64;omega
    have bb:IntKind.i64.wrap (x.low+x.add)=x.low+x.add:=by simp[IntKind.wrap,show IntKind.i64.bits=64 from rfl,show IntKind.i64.signed=true from rfl];omega
    have bc:IntKind.i64.wrap (x.high+x.add)=x.high+x.add:=by simp[IntKind.wrap,show IntKind.i64.bits=64 from rfl,show IntKind.i64.signed=true from rfl];omega
    refine ay (by kernel_rfl) (by kernel_rfl) ?_
    repeat (first
     | go_big_quiet_skip
     | (refine wpQuiet_want (by rfl) (fun I a=>?_)
        first
         | (refine quiet_move _ (by rfl) (a _ ?_))
         | (refine quiet_assign _ (by rfl) (a _ ?_))
         | (apply Exists.intro
            refine⟨fun w' h=>?_,a _ ?_⟩
            ·(unfold Oper.quietAt
              obtain⟨X,Y,aa,ab,ad⟩:=U.out w' (J.out.trans h);obtain⟨aB,aC⟩:=ak.out.frm (G.out.trans (J.out.trans h))
              clear h
              go_simp
              try exact⟨rfl,rfl⟩
              try rfl))
        clear a I
        try simp only[nrm,Act.eval,nrq]))
    refine wpQuiet_nil ?_
    intro aO W
    have S:=vi (J.out.trans W)
    clear W
    rcases ax with ⟨ax,E⟩ | ⟨ax,E⟩
    all_goals replace E:=vi E
    ·try have a0:decide (0≤x.low+x.add)=false:=decide_eq_false (by omega)
     go_upto_region 6 with fail
     refine ay (by kernel_rfl) (by kernel_rfl) ?_
     repeat (first
      | go_big_quiet_skip
      | (refine wpQuiet_want (by rfl) (fun I a=>?_)
         first
          | (refine quiet_move _ (by rfl) (a _ ?_))
          | (refine quiet_assign _ (by rfl) (a _ ?_))
          | (apply Exists.intro
             refine⟨fun w' h=>?_,a _ ?_⟩
             ·(unfold Oper.quietAt
               obtain⟨X,Y,aa,ab,ad⟩:=U.out w' (S.out.trans h);obtain⟨aB,aC⟩:=ak.out.frm (G.out.trans (S.out.trans h))
               clear h
               go_simp
               try exact⟨rfl,rfl⟩
               try rfl))
         clear a I
         try simp only[nrm,Act.eval,nrq]))
     refine wpQuiet_nil ?_
     intro a3 aA
     go_wp2
     go_ret
     exact⟨by rw[E.out];rfl,G.out.trans (S.out.trans aA)⟩
    ·try have a0:decide (0≤x.low+x.add)=false:=decide_eq_false (by omega)
     go_upto_region 6 with fail
     refine ay (by kernel_rfl) (by kernel_rfl) ?_
     repeat (first
      | go_big_quiet_skip
      | (refine wpQuiet_want (by rfl) (fun I a=>?_)
         first
          | (refine quiet_move _ (by rfl) (a _ ?_))
          | (refine quiet_assign _ (by rfl) (a _ ?_))
          | (apply Exists.intro
             refine⟨fun w' h=>?_,a _ ?_⟩
             ·(unfold Oper.quietAt
               obtain⟨X,Y,aa,ab,ad⟩:=U.out w' (S.out.trans h);obtain⟨aB,aC⟩:=ak.out.frm (G.out.trans (S.out.trans h))
               clear h
               go_simp
               try exact⟨rfl,rfl⟩
               try rfl))
         clear a I
         try simp only[nrm,Act.eval,nrq]))
     refine wpQuiet_nil ?_
     intro a3 aA
     go_wp2
     go_ret
     exact⟨by rw[E.out];rfl,G.out.trans (S.out.trans aA)⟩
end Go.Proofs.YtohfkhjlnlahdaaGreat
namespace Go.Proofs.YtohfkhjlnlahdaaGreat
open Go.RowKit Go.BigFrame
theorem ju (r:RolD) (n:Nat) (x:StpD):(bK r x.frm<0∧aY r n x=false) ∨
  ∃ (p:Nat) (f:StD),bK r x.frm=p∧r.sts[p]?=some f ∧
    ((bK r x.to<0∧aY r n x=false)∨(¬ bK r x.to<0∧bp r x=false∧aY r n x=false) ∨
     (¬ bK r x.to<0∧bp r x=true∧(x∈r.steps.take n→aY r n x=false)∧(¬ x∈r.steps.take n→aY r n x=dp r x f))):=by
 have a:=eF (p:=fun s:StD=>decide (s.name=x.frm)) (l:=r.sts)
 unfold aY
 cases hf:r.sts.find? (fun s=>decide (s.name=x.frm)) with
 | none =>
   rw[hf] at a
   left
   refine⟨?_,rfl⟩
   show ixf _ _<0
   simp only at a
   omega
 | some f =>
   rw[hf] at a
   obtain⟨p,A,E,-⟩:=a
   right
   refine⟨p,f,A,E,?_⟩
   simp only
   have G:(r.steps.take n).contains x=decide (x∈r.steps.take n):=by
    rw[Bool.eq_iff_iff,List.contains_iff_mem,decide_eq_true_eq]
   rw[G]
   by_cases ht:bK r x.to<0
   ·left;exact⟨ht,by rw[decide_eq_false (p:=0≤bK r x.to) (by omega)];simp⟩
   ·right
    rw[decide_eq_true (p:=0≤bK r x.to) (by omega)]
    cases hg:bp r x with
    | false=>left;exact⟨ht,rfl,by simp⟩
    | true =>
      right
      refine⟨ht,rfl,fun h=>?_,fun h=>?_⟩
      ·rw[decide_eq_true h];simp
      ·rw[decide_eq_false h];simp
theorem ko (r:RolD) (x:StpD) (f:StD) :
  ((x.kind=1∨x.kind≠1∧x.kind=2)∧((aL x.msg=false∧dp r x f=false)∨(aL x.msg=true∧aL x.peer=false∧dp r x f=false)∨(aL x.msg=true∧aL x.peer=true∧dp r x f=!decide (x.peer=r.name)))) ∨
  (x.kind≠1∧x.kind≠2∧x.kind=3∧((x.msg≠aG∧dp r x f=false)∨(x.msg=aG∧x.peer≠aG∧dp r x f=false)∨(x.msg=aG∧x.peer=aG∧dp r x f=decide (0<f.wait)))) ∨
  (x.kind≠1∧x.kind≠2∧x.kind≠3∧x.kind=4∧((x.msg≠aG∧dp r x f=false)∨(x.msg=aG∧dp r x f=decide (x.peer=aG)))) ∨
  (x.kind≠1∧x.kind≠2∧x.kind≠3∧x.kind≠4∧dp r x f=false):=by
 unfold dp
 by_cases h12:x.kind=1∨x.kind=2
 ·left
  refine⟨by omega,?_⟩
  rw[if_pos h12]
  cases aL x.msg <;> cases aL x.peer <;> simp
 ·right
  rw[if_neg h12]
  by_cases h3:x.kind=3
  ·left
   refine⟨by omega,by omega,h3,?_⟩
   rw[if_pos h3]
   by_cases m:x.msg=aG
   ·right
    rw[decide_eq_true m]
    by_cases p:x.peer=aG
    ·right;rw[decide_eq_true p];exact⟨m,p,by simp⟩
    ·left;rw[decide_eq_false p];exact⟨m,p,by simp⟩
   ·left;rw[decide_eq_false m];exact⟨m,by simp⟩
  ·right
   rw[if_neg h3]
   by_cases h4:x.kind=4
   ·left
    refine⟨by omega,by omega,h3,h4,?_⟩
    rw[if_pos h4]
    by_cases m:x.msg=aG
    ·right;rw[decide_eq_true m];exact⟨m,by simp⟩
    ·left;rw[decide_eq_false m];exact⟨m,by simp⟩
   ·right
    rw[if_neg h4]
    exact⟨by omega,by omega,h3,h4,rfl⟩
structure AaV (w:World) (rb tb:Nat) (sv cv tv:Value) (r:RolD) (x:StpD) (W:World):Prop where
 r:RBox W rb sv cv tv r
 t:W.heap[tb]?=some (.cells (ed x) 137 (0,0))
 fr:Frm [] w W
set_option maxHeartbeats 4000000 in
set_option maxRecDepth 100000 in
theorem mt (v:Value) (r:RolD) (n:Nat) (x:StpD) (w:World) (bY:RlV w v r) (aR:r.steps[n]?=some x) (b5:r.steps.length≤100∧r.sts.length≤100∧r.ctrs.length≤100) (bz:∀ c∈r.ctrs,1≤c.lim∧c.lim≤1000) (bx:x.kind=1∨x.kind=2) :
  Calls Tryz.prog 176 #[v,.int .i64 n] w (Ret (.bool (aY r n x)) (Frm [] w)):=by
 obtain⟨ct,ck,cu,rfl,ai⟩:=bY
 obtain⟨ao,cap,e,bd⟩:=ai.steps
 subst e
 obtain⟨b,o,rfl,aX⟩:=bd n x aR
 obtain⟨c0,bm,bn,bo,bq,br,bs,bt,bu⟩:=aX
 have bR:=vi bd
 have bZ:=aI c0
 have cq:n<100:=by have:=ag aR;omega
 have b7:(n:Int)<(r.steps.length:Int):=by have:=ag aR;omega
 obtain⟨m,aQ⟩:∃ m,r.steps.length=m:=⟨_,rfl⟩
 rw[aQ] at b7
 have bO:=vi aQ
 obtain⟨aE,aG,bV,bE⟩:=ai.sts
 obtain⟨ac,aF,bU,b0⟩:=ai.ctrs
 subst bV
 subst bU
 have ch:=vi bE
 obtain⟨ar,a1⟩:∃ ar,r.sts.length=ar:=⟨_,rfl⟩
 obtain⟨az,a0⟩:∃ az,r.ctrs.length=az:=⟨_,rfl⟩
 have bP:=vi a1;have cg:=vi a0
 rw[aQ,a1,a0] at ai
 rw[aQ,a1,a0]
 clear bE b0 a1 a0 bd
 obtain⟨ad,aO⟩:∃ ad,(w.alloc (.cells #[.string r.name,.slice aE ar aG,.slice ac az aF,.slice (some ⟨b,o,none⟩) m cap] 87)).alloc (.cells #[.string x.frm,.string x.to,.int .i64 x.kind,.string x.msg,.string x.peer,.string x.ctr,.int .i64 x.low,.int .i64 x.high,.int .i64 x.add] 137)=ad:=⟨_,rfl⟩
 have G:Hid (AaV w w.heap.size (w.heap.size+1) (.slice aE ar aG) (.slice ac az aF) (.slice (some ⟨b,o,none⟩) m cap) r x ad):=vi (by
  have an:Frm [] w ad:=by rw[← aO];exact((Frm.refl _ _).alloc _).alloc _
  exact⟨⟨by rw[← aO];exact ah (heap_alloc_new w _),ai.frm an⟩,by rw[← aO];exact aq (by simp),an⟩)
 have bh:=vi aO
 have al:Hid (∀ a,Frm [] ad a→(a.cell? ⟨w.heap.size,0,none⟩=some (.string r.name)∧a.cell? ⟨w.heap.size,1,none⟩=some (.slice aE ar aG)∧a.cell? ⟨w.heap.size,2,none⟩=some (.slice ac az aF)∧a.cell? ⟨w.heap.size,3,none⟩=some (.slice (some ⟨b,o,none⟩) m cap)) ∧
   (a.cell? ⟨w.heap.size+1,0,none⟩=some (.string x.frm)∧a.cell? ⟨w.heap.size+1,1,none⟩=some (.string x.to)∧a.cell? ⟨w.heap.size+1,2,none⟩=some (.int .i64 x.kind)∧a.cell? ⟨w.heap.size+1,3,none⟩=some (.string x.msg)∧a.cell? ⟨w.heap.size+1,4,none⟩=some (.string x.peer) ∧
    a.cell? ⟨w.heap.size+1,5,none⟩=some (.string x.ctr)∧a.cell? ⟨w.heap.size+1,6,none⟩=some (.int .i64 x.low)∧a.cell? ⟨w.heap.size+1,7,none⟩=some (.int .i64 x.high)∧a.cell? ⟨w.heap.size+1,8,none⟩=some (.int .i64 x.add))):=vi fun a aj=>by
  have ap:=aj.at G.out.t (by simp)
  exact⟨(G.out.r.frm aj).cells,ae ap 0,ae ap 1,ae ap 2,ae ap 3,ae ap 4,ae ap 5,ae ap 6,ae ap 7,ae ap 8⟩
 have a6:Hid (∀ a a2,Frm [] ad a→Calls Tryz.prog 175 #[.agg #[.string r.name,.slice aE ar aG,.slice ac az aF,.slice (some ⟨b,o,none⟩) m cap],.string a2] a (Ret (.int .i64 (bK r a2)) (Frm [] a))):=vi fun a a2 aj=>gz _ r a2 a (G.out.r.frm aj).val (by omega)
 have aU:Hid (∀ a,Frm [] ad a→Calls Tryz.prog 212 #[.agg #[.string r.name,.slice aE ar aG,.slice ac az aF,.slice (some ⟨b,o,none⟩) m cap],dN x] a (Ret (.bool (bp r x)) (Frm [] a))):=vi fun a aj=>gP _ r x a (G.out.r.frm aj).val (by omega) bz
 have a4:=vi (a6.out · x.frm)
 have aM:=vi (a6.out · x.to)
 obtain⟨bJ,ba⟩:∃ bJ,bK r x.frm=bJ:=⟨_,rfl⟩
 obtain⟨a3,bb⟩:∃ a3,bK r x.to=a3:=⟨_,rfl⟩
 obtain⟨bL,bc⟩:∃ bL,bp r x=bL:=⟨_,rfl⟩
 have aN:=vi (ju r n x)
 rw[ba,bb,bc] at aN
 rw[ba] at a4;rw[bb] at aM;rw[bc] at aU
 obtain⟨bg,bD⟩:∃ b,aY r n x=b:=⟨_,rfl⟩
 rw[bD] at aN ⊢
 have ci:=vi aR
 have a7:=vi bx
 have bN:=vi (G.out.r.frm (Frm.refl _ _)).cells
 clear bx ai aQ aO aR b5 bz ba bb bc a6 bD bN
 have aC:Hid (∀ a,Frm [] ad a→a.heap[w.heap.size]?=some (.cells #[.string r.name,.slice aE ar aG,.slice ac az aF,.slice (some ⟨b,o,none⟩) m cap] 87 (0,0))):=vi fun a aj=>aj.at G.out.r.hb (by simp)
 have bk:Hid (∀ a,Frm [] ad a→a.heap[w.heap.size+1]?=some (.cells #[.string x.frm,.string x.to,.int .i64 x.kind,.string x.msg,.string x.peer,.string x.ctr,.int .i64 x.low,.int .i64 x.high,.int .i64 x.add] 137 (0,0))):=vi fun a aj=>aj.at G.out.t (by simp)
 go_enter Tryz.func176,Tryz.ntmps176
 go_upto_region 2 with fail
 rw[bh.out]
 clear bh c0 bm bn bo bq br bs bt bu bZ
 obtain⟨⟨H,I,J,K⟩,N,O,R,S,U,V,W,X,Y⟩:=al.out ad (Frm.refl _ _)
 go_upto_region 3 with (first
  | (refine af rfl 87 _ rfl _ rfl _ 87 (aC.out _ (Frm.refl _ _)) _ Tryz.underlying87 rfl (by kernel_rfl) ?_)
  | (go_at_call 175;go_must (refine(a4.out _ (Frm.refl _ _)).mono ?_;rintro e aJ ⟨rfl,ak⟩;have h:=vi ak;clear ak H I J K N O R S U V W X Y a4;obtain⟨⟨H,I,J,K⟩,N,O,R,S,U,V,W,X,Y⟩:=al.out aJ h.out)))
 rcases aN.out with ⟨a9,am⟩ | ⟨p,f,b8,an,cc⟩
 ·have aa:=vi am
  clear am aN
  go_wp2
  go_ret
  exact⟨by rw[aa.out];rfl,G.out.fr.trans h.out⟩
 subst b8
 have b9:¬ (p:Int)<0:=by omega
 have cr:(p:Int)<(ar:Int):=by have:=ag an;have:=bP.out;omega
 obtain⟨bS,ce,rfl,bW,bX,bv⟩:=G.out.r.h3.sts.get an
 have bM:Hid (∀ a,Frm [] ad a→a.cell? ⟨bS,ce+p*3+2,none⟩=some (.int .i64 f.wait)):=vi fun a aj=>aj.keep bv
 clear an aN bW bX bv
 have cl:decide ((p:Int)<0)=false:=decide_eq_false b9
 rcases cc with ⟨a9,am⟩ | ⟨a9,am,ai⟩ | ⟨a9,am,ai,bw⟩
 ·have aa:=vi am
  clear am
  go_wp2_with (first
   | (refine af rfl 87 _ rfl _ rfl _ 87 (aC.out _ h.out) _ Tryz.underlying87 rfl (by kernel_rfl) ?_)
   | (go_at_call 175;go_must (refine(aM.out _ h.out).mono ?_;rintro e aA ⟨rfl,ab⟩;have A:=vi (h.out.trans ab);clear ab)))
  go_ret
  exact⟨by rw[aa.out];rfl,G.out.fr.trans A.out⟩
 ·have aa:=vi ai
  have b3:decide (a3<0)=false:=decide_eq_false (by omega)
  subst am
  clear ai
  go_wp2_with (first
   | (refine af rfl 87 _ rfl _ rfl _ 87 (aC.out _ h.out) _ Tryz.underlying87 rfl (by kernel_rfl) ?_)
   | (refine af rfl 87 _ rfl _ rfl _ 87 (aC.out _ A.out) _ Tryz.underlying87 rfl (by kernel_rfl) ?_)
   | (refine af rfl 137 _ rfl _ rfl _ 137 (bk.out _ A.out) _ Tryz.underlying137 rfl (by kernel_rfl) ?_)
   | (go_at_call 175;go_must (refine(aM.out _ h.out).mono ?_;rintro e aA ⟨rfl,ab⟩;have A:=vi (h.out.trans ab);clear ab H I J K N O R S U V W X Y;obtain⟨⟨H,I,J,K⟩,N,O,R,S,U,V,W,X,Y⟩:=al.out aA A.out))
   | (go_at_call 212;go_must (refine(aU.out _ A.out).mono ?_;rintro e cf ⟨rfl,aP⟩;have aV:=vi (A.out.trans aP);clear aP)))
  go_ret
  exact⟨by rw[aa.out];rfl,G.out.fr.trans aV.out⟩
 ·have b3:decide (a3<0)=false:=decide_eq_false (by omega)
  have bi:=vi ai;have bj:=vi bw
  subst am
  clear ai bw
  go_wp2_with (first
   | (refine af rfl 87 _ rfl _ rfl _ 87 (aC.out _ h.out) _ Tryz.underlying87 rfl (by kernel_rfl) ?_)
   | (refine af rfl 87 _ rfl _ rfl _ 87 (aC.out _ A.out) _ Tryz.underlying87 rfl (by kernel_rfl) ?_)
   | (refine af rfl 137 _ rfl _ rfl _ 137 (bk.out _ A.out) _ Tryz.underlying137 rfl (by kernel_rfl) ?_)
   | (go_at_call 175;go_must (refine(aM.out _ h.out).mono ?_;rintro e aA ⟨rfl,ab⟩;have A:=vi (h.out.trans ab);clear ab H I J K N O R S U V W X Y;obtain⟨⟨H,I,J,K⟩,N,O,R,S,U,V,W,X,Y⟩:=al.out aA A.out))
   | (go_at_call 212;go_must (refine(aU.out _ A.out).mono ?_;rintro e cf ⟨rfl,aP⟩;have aV:=vi (A.out.trans aP);clear aP)))
  clear aM aU H I J K N O R S U V W X Y
  go_loopw [7] (fun s7 wr=>∃ i:Nat,s7=.int .i64 i∧i≤n∧Frm [] ad wr∧∀ j y,j<i→r.steps[j]?=some y→decide (y=x)=false) (fun s7 _=>n - (intOf s7).toNat)
  case atStart=>exact⟨0,rfl,Nat.zero_le _,aV.out,fun j y aH=>by omega⟩
  case round =>
   clear h A aV
   obtain⟨i,rfl,b4,an,bA⟩:=hrel
   have av:=vi an;have a8:=vi bA
   clear an bA
   obtain⟨⟨H,I,J,K⟩,N,O,R,S,U,V,W,X,Y⟩:=al.out wr av.out
   by_cases hlt:i<n
   ·have cp:(i:Int)<(n:Int):=by omega
    have co:(i:Int)<(m:Int):=by omega
    obtain⟨y,be⟩:∃ y,r.steps[i]?=some y:=⟨_,List.getElem?_eq_getElem (by rw[bO.out];omega)⟩
    obtain⟨cj,cs,bT,aX⟩:=bR.out i y be
    cases bT
    obtain⟨c0,bm,bn,bo,bq,br,bs,bt,bu⟩:=aX.frm (G.out.fr.trans av.out)
    have bC:∀ a,(binOp .eql 137 (.agg #[.string y.frm,.string y.to,.int .i64 y.kind,.string y.msg,.string y.peer,.string y.ctr,.int .i64 y.low,.int .i64 y.high,.int .i64 y.add]) (.agg #[.string x.frm,.string x.to,.int .i64 x.kind,.string x.msg,.string x.peer,.string x.ctr,.int .i64 x.low,.int .i64 x.high,.int .i64 x.add])).run Tryz.prog a=.ok (.bool (decide (y=x))) a:=fun a=>jf y x a
    have bl:=vi be
    clear aX be
    cases hpx:decide (y=x) with
    | true =>
      rw[hpx] at bC
      have aa:=vi (bi.out (by
       rw[decide_eq_true_eq] at hpx
       rw[← hpx]
       refine List.mem_of_getElem? (i:=i) ?_
       rw[List.getElem?_take,if_pos hlt];exact bl.out))
      clear hpx
      go_wp2
      go_quiet (fail)
      go_wp2
      go_ret
      exact⟨by rw[aa.out];rfl,G.out.fr.trans (av.out.drewN _)⟩
    | false =>
      rw[hpx] at bC
      have bQ:=vi hpx
      clear hpx
      go_wp2
      go_quiet (fail)
      go_wp2
      refine⟨⟨i+1,congrArg (Value.int .i64) (by omega),hlt,av.out.drewN _,fun j z aH bf=>?_⟩,by simp[intOf];omega⟩
      by_cases e:j=i
      ·subst e;rw[bl.out] at bf;cases bf;exact bQ.out
      ·exact a8.out j z (by omega) bf
   ·have cn:¬ (i:Int)<(n:Int):=by omega
    have aD:=vi (bj.out fun b6=>by
     obtain⟨j,aH⟩:=List.getElem?_of_mem b6
     rw[List.getElem?_take] at aH
     split at aH
     ·have:=a8.out j x (by omega) aH
      simp at this
     ·cases aH)
    have cm:=bM.out wr av.out
    have a5:Hid (∀ a s,Calls Tryz.prog 115 #[.string s] a (Ret (.bool (aL s)) (Frm [] a))):=vi fun a s=>fZ s a
    have au:=vi (a5.out · x.msg)
    have aB:=vi (a5.out · x.peer)
    have aW:=vi (ko r x f)
    clear bi bj a8 a5 b4
    rcases aW.out with ⟨E,aZ⟩ | ⟨aw,bF,bG,aZ⟩ | ⟨aw,bF,bG,cd,aZ⟩ | ⟨aw,bF,bG,cd,aZ⟩
    ·rcases aZ with ⟨ax,ay⟩ | ⟨ax,ay,aT⟩ | ⟨ax,ay,aT⟩
     ·rw[ax] at au
      have aa:Hid (bg=false):=vi (by rw[aD.out,ay])
      clear ax ay aW aD
      rcases E with E | ⟨aw,E⟩
      all_goals
       try have aS:(x.kind == 1)=true:=by simpa using E
       try have aS:(x.kind == 1)=false:=by simpa using aw
       try have bH:(x.kind == 2)=true:=by simpa using E
       clear E
       go_wp2_with (first
        | (go_at_call 115;go_must (refine(au.out _).mono ?_;rintro e aJ ⟨rfl,ak⟩;have h:=vi (av.out.trans ak);clear ak)))
       go_ret
       exact⟨by rw[aa.out];rfl,G.out.fr.trans h.out⟩
     ·rw[ax] at au
      rw[ay] at aB
      have aa:Hid (bg=false):=vi (by rw[aD.out,aT])
      clear ax ay aT aW aD
      rcases E with E | ⟨aw,E⟩
      all_goals
       try have aS:(x.kind == 1)=true:=by simpa using E
       try have aS:(x.kind == 1)=false:=by simpa using aw
       try have bH:(x.kind == 2)=true:=by simpa using E
       clear E
       go_wp2_with (go_at_call 115;go_must (first
        | (refine(au.out _).mono ?_;clear au;rintro e aJ ⟨rfl,ak⟩;have h:=vi (av.out.trans ak);clear ak H I J K N O R S U V W X Y;obtain⟨⟨H,I,J,K⟩,N,O,R,S,U,V,W,X,Y⟩:=al.out aJ h.out)
        | (refine(aB.out _).mono ?_;clear aB;rintro e aA ⟨rfl,ab⟩;have A:=vi (h.out.trans ab);clear ab H I J K N O R S U V W X Y;obtain⟨⟨H,I,J,K⟩,N,O,R,S,U,V,W,X,Y⟩:=al.out aA A.out)))
       go_ret
       exact⟨by rw[aa.out];rfl,G.out.fr.trans A.out⟩
     ·rw[ax] at au
      rw[ay] at aB
      have aa:Hid (bg=!decide (x.peer=r.name)):=vi (by rw[aD.out,aT])
      clear ax ay aT aW aD
      have ca:(x.peer.toList == r.name.toList)=decide (x.peer=r.name):=aK _ _
      obtain⟨bI,bB⟩:∃ bI,decide (x.peer=r.name)=bI:=⟨_,rfl⟩
      rw[bB] at ca aa
      clear bB
      rcases E with E | ⟨aw,E⟩
      all_goals
       try have aS:(x.kind == 1)=true:=by simpa using E
       try have aS:(x.kind == 1)=false:=by simpa using aw
       try have bH:(x.kind == 2)=true:=by simpa using E
       clear E
       go_wp2_with (go_at_call 115;go_must (first
        | (refine(au.out _).mono ?_;clear au;rintro e aJ ⟨rfl,ak⟩;have h:=vi (av.out.trans ak);clear ak H I J K N O R S U V W X Y;obtain⟨⟨H,I,J,K⟩,N,O,R,S,U,V,W,X,Y⟩:=al.out aJ h.out)
        | (refine(aB.out _).mono ?_;clear aB;rintro e aA ⟨rfl,ab⟩;have A:=vi (h.out.trans ab);clear ab H I J K N O R S U V W X Y;obtain⟨⟨H,I,J,K⟩,N,O,R,S,U,V,W,X,Y⟩:=al.out aA A.out)))
       go_ret
       exact⟨by rw[aa.out];rfl,G.out.fr.trans A.out⟩
    ·exfalso;have:=a7.out;omega
    ·exfalso;have:=a7.out;omega
    ·exfalso;have:=a7.out;omega
set_option maxHeartbeats 4000000 in
set_option maxRecDepth 100000 in
theorem nW (v:Value) (r:RolD) (n:Nat) (x:StpD) (w:World) (aD:RlV w v r) (aP:r.steps[n]?=some x) (b4:r.steps.length≤100∧r.sts.length≤100∧r.ctrs.length≤100) (bx:∀ c∈r.ctrs,1≤c.lim∧c.lim≤1000) (bw:x.kind≠1∧x.kind≠2) :
  Calls Tryz.prog 176 #[v,.int .i64 n] w (Ret (.bool (aY r n x)) (Frm [] w)):=by
 obtain⟨cu,ck,cv,rfl,N⟩:=aD
 obtain⟨ao,cap,e,bb⟩:=N.steps
 subst e
 obtain⟨b,o,rfl,aW⟩:=bb n x aP
 obtain⟨c0,bk,bl,bm,bn,bo,bq,br,bs⟩:=aW
 have bR:=vi bb
 have bY:=aI c0
 have cr:n<100:=by have:=ag aP;omega
 have b6:(n:Int)<(r.steps.length:Int):=by have:=ag aP;omega
 obtain⟨m,S⟩:∃ m,r.steps.length=m:=⟨_,rfl⟩
 rw[S] at b6
 have bO:=vi S
 obtain⟨aA,aC,bV,bD⟩:=N.sts
 obtain⟨ac,aB,bU,bZ⟩:=N.ctrs
 subst bV
 subst bU
 have ch:=vi bD
 obtain⟨X,aZ⟩:∃ X,r.sts.length=X:=⟨_,rfl⟩
 obtain⟨aj,aX⟩:∃ aj,r.ctrs.length=aj:=⟨_,rfl⟩
 have bP:=vi aZ;have cg:=vi aX
 rw[S,aZ,aX] at N
 rw[S,aZ,aX]
 clear bD bZ aZ aX bb
 obtain⟨K,aM⟩:∃ K,(w.alloc (.cells #[.string r.name,.slice aA X aC,.slice ac aj aB,.slice (some ⟨b,o,none⟩) m cap] 87)).alloc (.cells #[.string x.frm,.string x.to,.int .i64 x.kind,.string x.msg,.string x.peer,.string x.ctr,.int .i64 x.low,.int .i64 x.high,.int .i64 x.add] 137)=K:=⟨_,rfl⟩
 have A:Hid (AaV w w.heap.size (w.heap.size+1) (.slice aA X aC) (.slice ac aj aB) (.slice (some ⟨b,o,none⟩) m cap) r x K):=vi (by
  have V:Frm [] w K:=by rw[← aM];exact((Frm.refl _ _).alloc _).alloc _
  exact⟨⟨by rw[← aM];exact ah (heap_alloc_new w _),N.frm V⟩,by rw[← aM];exact aq (by simp),V⟩)
 have bf:=vi aM
 have aK:Hid (∀ a,Frm [] K a→(a.cell? ⟨w.heap.size,0,none⟩=some (.string r.name)∧a.cell? ⟨w.heap.size,1,none⟩=some (.slice aA X aC)∧a.cell? ⟨w.heap.size,2,none⟩=some (.slice ac aj aB)∧a.cell? ⟨w.heap.size,3,none⟩=some (.slice (some ⟨b,o,none⟩) m cap)) ∧
   (a.cell? ⟨w.heap.size+1,0,none⟩=some (.string x.frm)∧a.cell? ⟨w.heap.size+1,1,none⟩=some (.string x.to)∧a.cell? ⟨w.heap.size+1,2,none⟩=some (.int .i64 x.kind)∧a.cell? ⟨w.heap.size+1,3,none⟩=some (.string x.msg)∧a.cell? ⟨w.heap.size+1,4,none⟩=some (.string x.peer) ∧
    a.cell? ⟨w.heap.size+1,5,none⟩=some (.string x.ctr)∧a.cell? ⟨w.heap.size+1,6,none⟩=some (.int .i64 x.low)∧a.cell? ⟨w.heap.size+1,7,none⟩=some (.int .i64 x.high)∧a.cell? ⟨w.heap.size+1,8,none⟩=some (.int .i64 x.add))):=vi fun a O=>by
  have W:=O.at A.out.t (by simp)
  exact⟨(A.out.r.frm O).cells,ae W 0,ae W 1,ae W 2,ae W 3,ae W 4,ae W 5,ae W 6,ae W 7,ae W 8⟩
 have a5:Hid (∀ a a0,Frm [] K a→Calls Tryz.prog 175 #[.agg #[.string r.name,.slice aA X aC,.slice ac aj aB,.slice (some ⟨b,o,none⟩) m cap],.string a0] a (Ret (.int .i64 (bK r a0)) (Frm [] a))):=vi fun a a0 O=>gz _ r a0 a (A.out.r.frm O).val (by omega)
 have aU:Hid (∀ a,Frm [] K a→Calls Tryz.prog 212 #[.agg #[.string r.name,.slice aA X aC,.slice ac aj aB,.slice (some ⟨b,o,none⟩) m cap],dN x] a (Ret (.bool (bp r x)) (Frm [] a))):=vi fun a O=>gP _ r x a (A.out.r.frm O).val (by omega) bx
 have a3:=vi (a5.out · x.frm)
 have aH:=vi (a5.out · x.to)
 obtain⟨bI,a8⟩:∃ bI,bK r x.frm=bI:=⟨_,rfl⟩
 obtain⟨a1,a9⟩:∃ a1,bK r x.to=a1:=⟨_,rfl⟩
 obtain⟨bJ,ba⟩:∃ bJ,bp r x=bJ:=⟨_,rfl⟩
 have aJ:=vi (ju r n x)
 rw[a8,a9,ba] at aJ
 rw[a8] at a3;rw[a9] at aH;rw[ba] at aU
 obtain⟨aF,bC⟩:∃ b,aY r n x=b:=⟨_,rfl⟩
 rw[bC] at aJ ⊢
 have ci:=vi aP
 have bM:=vi bw
 have bN:=vi (A.out.r.frm (Frm.refl _ _)).cells
 clear bw N S aM aP b4 bx a8 a9 ba a5 bC bN
 have az:Hid (∀ a,Frm [] K a→a.heap[w.heap.size]?=some (.cells #[.string r.name,.slice aA X aC,.slice ac aj aB,.slice (some ⟨b,o,none⟩) m cap] 87 (0,0))):=vi fun a O=>O.at A.out.r.hb (by simp)
 have bi:Hid (∀ a,Frm [] K a→a.heap[w.heap.size+1]?=some (.cells #[.string x.frm,.string x.to,.int .i64 x.kind,.string x.msg,.string x.peer,.string x.ctr,.int .i64 x.low,.int .i64 x.high,.int .i64 x.add] 137 (0,0))):=vi fun a O=>O.at A.out.t (by simp)
 go_enter Tryz.func176,Tryz.ntmps176
 go_upto_region 2 with fail
 rw[bf.out]
 clear bf c0 bk bl bm bn bo bq br bs bY
 obtain⟨⟨Y,aa,ab,ad⟩,ak,al,am,an,ap,ar,au,av,aw⟩:=aK.out K (Frm.refl _ _)
 go_upto_region 3 with (first
  | (refine af rfl 87 _ rfl _ rfl _ 87 (az.out _ (Frm.refl _ _)) _ Tryz.underlying87 rfl (by kernel_rfl) ?_)
  | (go_at_call 175;go_must (refine(a3.out _ (Frm.refl _ _)).mono ?_;rintro e cc ⟨rfl,bv⟩;have I:=vi bv;clear bv Y aa ab ad ak al am an ap ar au av aw a3;obtain⟨⟨Y,aa,ab,ad⟩,ak,al,am,an,ap,ar,au,av,aw⟩:=aK.out cc I.out)))
 rcases aJ.out with ⟨a7,U⟩ | ⟨p,f,aO,V,b8⟩
 ·have h:=vi U
  clear U aJ
  go_wp2
  go_ret
  exact⟨by rw[h.out];rfl,A.out.fr.trans I.out⟩
 subst aO
 have b7:¬ (p:Int)<0:=by omega
 have cs:(p:Int)<(X:Int):=by have:=ag V;have:=bP.out;omega
 obtain⟨bS,ca,rfl,bW,bX,bt⟩:=A.out.r.h3.sts.get V
 have bL:Hid (∀ a,Frm [] K a→a.cell? ⟨bS,ca+p*3+2,none⟩=some (.int .i64 f.wait)):=vi fun a O=>O.keep bt
 clear V aJ bW bX bt
 have cl:decide ((p:Int)<0)=false:=decide_eq_false b7
 rcases b8 with ⟨a7,U⟩ | ⟨a7,U,N⟩ | ⟨a7,U,N,bu⟩
 ·have h:=vi U
  clear U
  go_wp2_with (first
   | (refine af rfl 87 _ rfl _ rfl _ 87 (az.out _ I.out) _ Tryz.underlying87 rfl (by kernel_rfl) ?_)
   | (go_at_call 175;go_must (refine(aH.out _ I.out).mono ?_;rintro e a2 ⟨rfl,ai⟩;have E:=vi (I.out.trans ai);clear ai)))
  go_ret
  exact⟨by rw[h.out];rfl,A.out.fr.trans E.out⟩
 ·have h:=vi N
  have b0:decide (a1<0)=false:=decide_eq_false (by omega)
  subst U
  clear N
  go_wp2_with (first
   | (refine af rfl 87 _ rfl _ rfl _ 87 (az.out _ I.out) _ Tryz.underlying87 rfl (by kernel_rfl) ?_)
   | (refine af rfl 87 _ rfl _ rfl _ 87 (az.out _ E.out) _ Tryz.underlying87 rfl (by kernel_rfl) ?_)
   | (refine af rfl 137 _ rfl _ rfl _ 137 (bi.out _ E.out) _ Tryz.underlying137 rfl (by kernel_rfl) ?_)
   | (go_at_call 175;go_must (refine(aH.out _ I.out).mono ?_;rintro e a2 ⟨rfl,ai⟩;have E:=vi (I.out.trans ai);clear ai Y aa ab ad ak al am an ap ar au av aw;obtain⟨⟨Y,aa,ab,ad⟩,ak,al,am,an,ap,ar,au,av,aw⟩:=aK.out a2 E.out))
   | (go_at_call 212;go_must (refine(aU.out _ E.out).mono ?_;rintro e cd ⟨rfl,aN⟩;have aV:=vi (E.out.trans aN);clear aN)))
  go_ret
  exact⟨by rw[h.out];rfl,A.out.fr.trans aV.out⟩
 ·have b0:decide (a1<0)=false:=decide_eq_false (by omega)
  have bg:=vi N;have bh:=vi bu
  subst U
  clear N bu
  go_wp2_with (first
   | (refine af rfl 87 _ rfl _ rfl _ 87 (az.out _ I.out) _ Tryz.underlying87 rfl (by kernel_rfl) ?_)
   | (refine af rfl 87 _ rfl _ rfl _ 87 (az.out _ E.out) _ Tryz.underlying87 rfl (by kernel_rfl) ?_)
   | (refine af rfl 137 _ rfl _ rfl _ 137 (bi.out _ E.out) _ Tryz.underlying137 rfl (by kernel_rfl) ?_)
   | (go_at_call 175;go_must (refine(aH.out _ I.out).mono ?_;rintro e a2 ⟨rfl,ai⟩;have E:=vi (I.out.trans ai);clear ai Y aa ab ad ak al am an ap ar au av aw;obtain⟨⟨Y,aa,ab,ad⟩,ak,al,am,an,ap,ar,au,av,aw⟩:=aK.out a2 E.out))
   | (go_at_call 212;go_must (refine(aU.out _ E.out).mono ?_;rintro e cd ⟨rfl,aN⟩;have aV:=vi (E.out.trans aN);clear aN)))
  clear aH aU Y aa ab ad ak al am an ap ar au av aw
  go_loopw [7] (fun s7 wr=>∃ i:Nat,s7=.int .i64 i∧i≤n∧Frm [] K wr∧∀ j y,j<i→r.steps[j]?=some y→decide (y=x)=false) (fun s7 _=>n - (intOf s7).toNat)
  case atStart=>exact⟨0,rfl,Nat.zero_le _,aV.out,fun j y aE=>by omega⟩
  case round =>
   clear I E aV
   obtain⟨i,rfl,b3,V,bz⟩:=hrel
   have R:=vi V;have a6:=vi bz
   clear V bz
   obtain⟨⟨Y,aa,ab,ad⟩,ak,al,am,an,ap,ar,au,av,aw⟩:=aK.out wr R.out
   by_cases hlt:i<n
   ·have cq:(i:Int)<(n:Int):=by omega
    have cp:(i:Int)<(m:Int):=by omega
    obtain⟨y,bc⟩:∃ y,r.steps[i]?=some y:=⟨_,List.getElem?_eq_getElem (by rw[bO.out];omega)⟩
    obtain⟨cj,ct,bT,aW⟩:=bR.out i y bc
    cases bT
    obtain⟨c0,bk,bl,bm,bn,bo,bq,br,bs⟩:=aW.frm (A.out.fr.trans R.out)
    have bB:∀ a,(binOp .eql 137 (.agg #[.string y.frm,.string y.to,.int .i64 y.kind,.string y.msg,.string y.peer,.string y.ctr,.int .i64 y.low,.int .i64 y.high,.int .i64 y.add]) (.agg #[.string x.frm,.string x.to,.int .i64 x.kind,.string x.msg,.string x.peer,.string x.ctr,.int .i64 x.low,.int .i64 x.high,.int .i64 x.add])).run Tryz.prog a=.ok (.bool (decide (y=x))) a:=fun a=>jf y x a
    have bj:=vi bc
    clear aW bc
    cases hpx:decide (y=x) with
    | true =>
      rw[hpx] at bB
      have h:=vi (bg.out (by
       rw[decide_eq_true_eq] at hpx
       rw[← hpx]
       refine List.mem_of_getElem? (i:=i) ?_
       rw[List.getElem?_take,if_pos hlt];exact bj.out))
      clear hpx
      go_wp2
      go_quiet (fail)
      go_wp2
      go_ret
      exact⟨by rw[h.out];rfl,A.out.fr.trans (R.out.drewN _)⟩
    | false =>
      rw[hpx] at bB
      have bQ:=vi hpx
      clear hpx
      go_wp2
      go_quiet (fail)
      go_wp2
      refine⟨⟨i+1,congrArg (Value.int .i64) (by omega),hlt,R.out.drewN _,fun j z aE bd=>?_⟩,by simp[intOf];omega⟩
      by_cases e:j=i
      ·subst e;rw[bj.out] at bd;cases bd;exact bQ.out
      ·exact a6.out j z (by omega) bd
   ·have cn:¬ (i:Int)<(n:Int):=by omega
    have J:=vi (bh.out fun b5=>by
     obtain⟨j,aE⟩:=List.getElem?_of_mem b5
     rw[List.getElem?_take] at aE
     split at aE
     ·have:=a6.out j x (by omega) aE
      simp at this
     ·cases aE)
    have cm:=bL.out wr R.out
    have a4:Hid (∀ a s,Calls Tryz.prog 115 #[.string s] a (Ret (.bool (aL s)) (Frm [] a))):=vi fun a s=>fZ s a
    have ce:=vi (a4.out · x.msg)
    have cf:=vi (a4.out · x.peer)
    have ax:=vi (ko r x f)
    clear bg bh a6 a4 b3
    rcases ax.out with ⟨co,ay⟩ | ⟨aQ,aR,aS,ay⟩ | ⟨aQ,aR,aS,be,ay⟩ | ⟨aQ,aR,aS,be,ay⟩
    ·exfalso;have:=bM.out;omega
    ·have bF:(x.kind == 1)=false:=by simpa using aQ
     have bE:(x.kind == 2)=false:=by simpa using aR
     have bG:(x.kind == 3)=true:=by simpa using aS
     rcases ay with ⟨G,H⟩ | ⟨G,H,aT⟩ | ⟨G,H,aT⟩
     ·have S:=dF G
      have h:Hid (aF=false):=vi (by rw[J.out,H])
      clear G H ax J
      go_wp2
      go_ret
      exact⟨by rw[h.out];rfl,A.out.fr.trans R.out⟩
     ·have S:=dg G
      have aO:=dF H
      have h:Hid (aF=false):=vi (by rw[J.out,aT])
      clear G H aT ax J
      go_wp2
      go_ret
      exact⟨by rw[h.out];rfl,A.out.fr.trans R.out⟩
     ·have S:=dg G
      have aO:=dg H
      have h:Hid (aF=decide (0<f.wait)):=vi (by rw[J.out,aT])
      clear G H aT ax J
      go_wp2
      go_ret
      exact⟨by rw[h.out];rfl,A.out.fr.trans R.out⟩
    ·have bF:(x.kind == 1)=false:=by simpa using aQ
     have bE:(x.kind == 2)=false:=by simpa using aR
     have bG:(x.kind == 3)=false:=by simpa using aS
     have b9:(x.kind == 4)=true:=by simpa using be
     rcases ay with ⟨G,H⟩ | ⟨G,H⟩
     ·have S:=dF G
      have h:Hid (aF=false):=vi (by rw[J.out,H])
      clear G H ax J
      go_wp2
      go_ret
      exact⟨by rw[h.out];rfl,A.out.fr.trans R.out⟩
     ·have S:=dg G
      have aO:x.peer.toList.isEmpty=decide (x.peer=aG):=by
       by_cases aD:x.peer=aG
       ·rw[decide_eq_true aD];exact dg aD
       ·rw[decide_eq_false aD];exact dF aD
      have h:Hid (aF=decide (x.peer=aG)):=vi (by rw[J.out,H])
      obtain⟨bH,bA⟩:∃ bH,decide (x.peer=aG)=bH:=⟨_,rfl⟩
      rw[bA] at aO h
      clear G H ax J bA
      go_wp2
      go_ret
      exact⟨by rw[h.out];rfl,A.out.fr.trans R.out⟩
    ·have bF:(x.kind == 1)=false:=by simpa using aQ
     have bE:(x.kind == 2)=false:=by simpa using aR
     have bG:(x.kind == 3)=false:=by simpa using aS
     have b9:(x.kind == 4)=false:=by simpa using be
     have h:Hid (aF=false):=vi (by rw[J.out,ay])
     clear ay ax J
     go_wp2
     go_ret
     exact⟨by rw[h.out];rfl,A.out.fr.trans R.out⟩
theorem kP (v:Value) (r:RolD) (n:Nat) (x:StpD) (w:World) (a:RlV w v r) (E:r.steps[n]?=some x) (h:r.steps.length≤100∧r.sts.length≤100∧r.ctrs.length≤100) (A:∀ c∈r.ctrs,1≤c.lim∧c.lim≤1000) :
  Calls Tryz.prog 176 #[v,.int .i64 n] w (Ret (.bool (aY r n x)) (Frm [] w)):=by
 by_cases hk:x.kind=1∨x.kind=2
 ·exact mt v r n x w a E h A hk
 ·exact nW v r n x w a E h A (by omega)
end Go.Proofs.YtohfkhjlnlahdaaGreat
namespace Go.Proofs.YtohfkhjlnlahdaaGreat
open Go.RowKit Go.BigFrame
set_option maxHeartbeats 16000000 in
set_option maxRecDepth 100000 in
theorem sB (s:SesD) (am an:Value) (x:PS) (B:Nat) (w:World) (aG:SesV w am s) (N:RSt B w s an x) (K:SesOk s) (I a E pl:Int) (hb:a<0∨(s.roles.length:Int)≤a∨E<0):Calls Tryz.prog 29 #[am,an,.agg #[.int .i64 I,.int .i64 a,.int .i64 E,.int .i64 pl]] w (aU (DoTo w s x ⟨I,a,E,pl⟩)):=by
 have ad:doB s x ⟨I,a,E,pl⟩=false:=by unfold doB;rw[if_pos hb]
 obtain⟨aT,rfl,S⟩:=aG
 obtain⟨ao,cap,rfl⟩:=S.shape
 have aj:=N.ok
 have al:=N
 obtain⟨V,W,X,aK,Y,cb,aa,rfl,ak,-⟩:=N.out
 obtain⟨n,A⟩:∃ n,s.roles.length=n:=⟨_,rfl⟩
 have R:2≤n:=A ▸ K.n2
 have aB:n≤4:=A ▸ K.n4
 obtain⟨G,J⟩:∃ G,(((w.alloc (.cells #[.string s.name,.slice ao s.roles.length cap,.int .i64 s.cls,.int .i64 s.cap] 25)).alloc (.cells #[.slice (some ⟨V,0,none⟩) s.roles.length Y,.slice (some ⟨W,0,none⟩) s.roles.length cb,.slice (some ⟨X,0,none⟩) s.roles.length aa] 61)).alloc (.cells #[.int .i64 I,.int .i64 a,.int .i64 E,.int .i64 pl] 67)).alloc (.cells #[.slice none 0 0,.slice none 0 0,.slice none 0 0] 61)=G:=⟨_,rfl⟩
 have ag:Frm [] w G:=by rw[← J];exact((((Frm.refl _ _).alloc _).alloc _).alloc _).alloc _
 have h:DoX w s ao s.roles.length cap V W X Y cb aa ⟨I,a,E,pl⟩ G:=by
  rw[← J]
  exact⟨ah (ah (ah (heap_alloc_new _ _))),ah (ah (aq (by simp))),ah (aq (by simp)),aq (by simp)⟩
 have ay:Hid (Frm [] w G):=vi ag
 have aw:=vi A;have aH:=vi K;have aI:=vi aj;have aJ:=vi ak;have ax:=vi S
 rw[A] at h ax
 have U:=vi h
 have O:=vi J
 have ap:=vi (fun az aC=>dX s _ x B az (al.frm aC) (by rw[A];omega) (by rw[A];exact aB))
 have aN:w.heap.size+3<G.heap.size:=lt_of_block h.b3
 rw[A] at O ap
 rw[A]
 have aO:=ae h.b2 0
 have aQ:=ae h.b2 1
 have aR:=ae h.b2 2
 have aS:=ae h.b2 3
 have aL:=ae h.b0 1
 clear S A K aj ak al J ag h N
 rw[aw.out] at hb
 have aD:(decide (a<0)=true)∨(decide (a<0)=false∧decide ((n:Int)≤a)=true)∨(decide (a<0)=false∧decide ((n:Int)≤a)=false∧decide (E<0)=true):=by
  by_cases H:a<0
  ·exact .inl (decide_eq_true H)
  ·by_cases R:(n:Int)≤a
   ·exact .inr (.inl ⟨decide_eq_false H,decide_eq_true R⟩)
   ·exact .inr (.inr ⟨decide_eq_false H,decide_eq_false R,decide_eq_true (by omega)⟩)
 have au:=vi ad
 clear hb ad
 go_enter Tryz.func29,Tryz.ntmps29
 go_upto_region 1 with fail
 rw[O.out]
 clear O
 rcases aD with H | ⟨H,aA⟩ | ⟨H,aA,aM⟩
 all_goals
  go_wp2_with (first
  | (refine af rfl 61 _ rfl _ rfl _ 61 U.out.b1 _ Tryz.underlying61 rfl (by kernel_rfl) ?_)
  | (refine aP rfl 61 _ _ rfl _ _ _ _ rfl rfl U.out.b3 rfl (by kernel_rfl) (cI ..) ?_;intro aV ab ai aF;have ar:=vi ab;have av:=vi ai;clear ab ai aF))
  refine bodyPost_ret (bs rfl rfl rfl ar.out rfl) rfl ⟨_,rfl,ay.out.then av.out (by intro k aE;simp at aE;omega),.inr ⟨?_,_,rfl,rfl,cI ..⟩⟩
  exact au.out
set_option maxHeartbeats 16000000 in
set_option maxRecDepth 100000 in
theorem qw (s:SesD) (aX a0:Value) (x:PS) (B:Nat) (w:World) (ba:SesV w aX s) (aa:RSt B w s a0 x) (Y:SesOk s) (i k:Nat) (pl:Int) (X:i<s.roles.length) (hb:s.roles.length≤k∨k=i∨pl≠0):Calls Tryz.prog 29 #[aX,a0,.agg #[.int .i64 2,.int .i64 (i:Nat),.int .i64 (k:Nat),.int .i64 pl]] w (aU (DoTo w s x ⟨2,(i:Nat),(k:Nat),pl⟩)):=by
 have aJ:doB s x ⟨2,(i:Nat),(k:Nat),pl⟩=false:=by
  unfold doB
  rw[if_neg (by simp only;omega),if_pos rfl,if_pos (by simp only;omega)]
 obtain⟨bA,rfl,am⟩:=ba
 obtain⟨ao,cap,rfl⟩:=am.shape
 have aM:=aa.ok
 have aO:=aa
 obtain⟨ay,az,aA,bm,aB,cb,aC,rfl,aN,-⟩:=aa.out
 obtain⟨n,A⟩:∃ n,s.roles.length=n:=⟨_,rfl⟩
 have bn:2≤n:=A ▸ Y.n2
 have a7:n≤4:=A ▸ Y.n4
 obtain⟨H,W⟩:∃ H,(((w.alloc (.cells #[.string s.name,.slice ao s.roles.length cap,.int .i64 s.cls,.int .i64 s.cap] 25)).alloc (.cells #[.slice (some ⟨ay,0,none⟩) s.roles.length aB,.slice (some ⟨az,0,none⟩) s.roles.length cb,.slice (some ⟨aA,0,none⟩) s.roles.length aC] 61)).alloc (.cells #[.int .i64 2,.int .i64 (i:Nat),.int .i64 (k:Nat),.int .i64 pl] 67)).alloc (.cells #[.slice none 0 0,.slice none 0 0,.slice none 0 0] 61)=H:=⟨_,rfl⟩
 have aK:Frm [] w H:=by rw[← W];exact((((Frm.refl _ _).alloc _).alloc _).alloc _).alloc _
 have h:DoX w s ao s.roles.length cap ay az aA aB cb aC ⟨2,(i:Nat),(k:Nat),pl⟩ H:=by
  rw[← W]
  exact⟨ah (ah (ah (heap_alloc_new _ _))),ah (ah (aq (by simp))),ah (aq (by simp)),aq (by simp)⟩
 have au:Hid (Frm [] w H):=vi aK
 have V:=vi A;have bi:=vi Y;have bj:=vi aM;have bk:=vi aN;have a5:=vi am
 rw[A] at h a5
 have ag:=vi h
 have ai:=vi W
 have ab:=vi (fun a6 a8=>dX s _ x B a6 (aO.frm a8) (by rw[A];omega) (by rw[A];exact a7))
 have bu:w.heap.size+3<H.heap.size:=lt_of_block h.b3
 rw[A] at ai ab
 rw[A]
 have aS:=ae h.b2 0
 have aT:=ae h.b2 1
 have aV:=ae h.b2 2
 have aW:=ae h.b2 3
 have aE:=ae h.b0 1
 clear am A Y aM aN aO W aK h aa
 have bw:decide ((i:Int)<0)=false:=decide_eq_false (by omega)
 have bx:decide ((n:Int)≤(i:Int))=false:=decide_eq_false (by rw[V.out] at X;omega)
 have bz:decide ((k:Int)<0)=false:=decide_eq_false (by omega)
 rw[V.out] at hb X
 have a9:n≤k∨(¬ n≤k∧k=i)∨(¬ n≤k∧k≠i∧pl≠0):=by omega
 have ad:=vi aJ
 clear hb aJ
 go_enter Tryz.func29,Tryz.ntmps29
 go_upto_region 1 with fail
 rw[ai.out]
 clear ai
 go_upto_region 4 with (first
  | (refine af rfl 61 _ rfl _ rfl _ 61 ag.out.b1 _ Tryz.underlying61 rfl (by kernel_rfl) ?_)
  | (go_at_call 84;go_must (refine(ab.out _ au.out).mono ?_;clear ab;rintro e aY ⟨bB,rfl,aQ,aL⟩;obtain⟨bb,bc,be,bd,bf,bg,bh,rfl,aR,a1,a2,a3,a4⟩:=aQ.out;have aw:=vi aR;have K:=vi (And.intro a1 (And.intro a2 (And.intro a3 a4)));have U:=vi aL;clear aQ aR aL a1 a2 a3 a4;rw[V.out]))
  | (refine aD rfl 61 _ _ rfl _ _ _ _ rfl rfl (heap_alloc_new _ _) rfl (by kernel_rfl) (cI ..) ?_;intro an aI al;have ap:=vi aI;have ar:=vi ((U.out.alloc _).then al (by intro q S;simp at S;subst S;exact .inr U.out.size));have av:=vi (aw.out.frm (((Frm.refl [] aY).alloc _).then al (by intro q S;simp at S;subst S;exact .inr (Nat.le_refl _))));clear aI al))
 obtain⟨ax,ak⟩:∃ b,aY.heap.size=b:=⟨_,rfl⟩
 have bt:H.heap.size≤ax:=ak ▸ U.out.size
 rw[ak] at ap ⊢
 have bl:Hid (YSt w s ax x an):=vi ⟨by omega,bb,bc,be,bd,bf,bg,bh,by rw[V.out];exact ap.out,av.out,by have:=K.out.1;omega,by have:=K.out.2.1;omega,by have:=K.out.2.2.1;omega,fun i X=>by have:=K.out.2.2.2 i X;omega⟩
 have a:=vi (ag.out.frm ar.out (by simp))
 have aj:Hid (Frm [] w an):=vi (au.out.trans ar.out)
 have bv:w.heap.size+3<an.heap.size:=lt_of_block a.out.b3
 clear aw K U av ak aS aT aV aW aE ag
 have aS:=ae a.out.b2 0
 have aT:=ae a.out.b2 1
 have aV:=ae a.out.b2 2
 have aW:=ae a.out.b2 3
 have aE:=ae a.out.b0 1
 rcases a9 with aF | ⟨aF,rfl⟩ | ⟨aF,bo,aH⟩
 ·have N:(n:Int)≤(k:Int):=by omega
  have aG:decide ((n:Int)≤(k:Int))=true:=decide_eq_true N
  go_wp2_with (first
  | (refine af rfl 61 _ rfl _ rfl _ 61 a.out.b1 _ Tryz.underlying61 rfl (by kernel_rfl) ?_)
  | (refine aP rfl 61 _ _ rfl _ _ _ _ rfl rfl a.out.b3 rfl (by kernel_rfl) (cI ..) ?_;intro aZ E G R;have I:=vi E;have J:=vi G;clear E G R))
  refine bodyPost_ret (bs rfl rfl rfl I.out rfl) rfl ⟨_,rfl,aj.out.then J.out (by intro k O;simp at O;omega),.inr ⟨?_,_,rfl,rfl,cI ..⟩⟩
  exact ad.out
 ·have N:¬ (n:Int)≤(k:Int):=by omega
  have aG:decide ((n:Int)≤(k:Int))=false:=decide_eq_false N
  go_wp2_with (first
  | (refine af rfl 61 _ rfl _ rfl _ 61 a.out.b1 _ Tryz.underlying61 rfl (by kernel_rfl) ?_)
  | (refine aP rfl 61 _ _ rfl _ _ _ _ rfl rfl a.out.b3 rfl (by kernel_rfl) (cI ..) ?_;intro aZ E G R;have I:=vi E;have J:=vi G;clear E G R))
  refine bodyPost_ret (bs rfl rfl rfl I.out rfl) rfl ⟨_,rfl,aj.out.then J.out (by intro k O;simp at O;omega),.inr ⟨?_,_,rfl,rfl,cI ..⟩⟩
  exact ad.out
 ·have N:¬ (n:Int)≤(k:Int):=by omega
  have aG:decide ((n:Int)≤(k:Int))=false:=decide_eq_false N
  have bp:((k:Int) == (i:Int))=false:=by rw[beq_eq_false_iff_ne];omega
  have bq:(pl == 0)=false:=by rw[beq_eq_false_iff_ne];exact aH
  have br:(pl != 0)=true:=by rw[bne_iff_ne];exact aH
  go_wp2_with (first
  | (refine af rfl 61 _ rfl _ rfl _ 61 a.out.b1 _ Tryz.underlying61 rfl (by kernel_rfl) ?_)
  | (refine aP rfl 61 _ _ rfl _ _ _ _ rfl rfl a.out.b3 rfl (by kernel_rfl) (cI ..) ?_;intro aZ E G R;have I:=vi E;have J:=vi G;clear E G R))
  refine bodyPost_ret (bs rfl rfl rfl I.out rfl) rfl ⟨_,rfl,aj.out.then J.out (by intro k O;simp at O;omega),.inr ⟨?_,_,rfl,rfl,cI ..⟩⟩
  exact ad.out
theorem Lf.kt {T:List TypeId} {h a:World} {A:Value} {L:List ByteArray} (H:Lf h A L) (E:Kt T h a) (G:9∉T:=by decide):Lf a A L:=E.strs H G
set_option maxHeartbeats 16000000 in
set_option maxRecDepth 100000 in
theorem qx (s:SesD) (cw cz:Value) (x:PS) (B:Nat) (w:World) (cS:SesV w cw s) (a5:RSt B w s cz x) (a3:SesOk s) (i k:Nat) (H:i<s.roles.length) (R:k<s.roles.length) (ck:k≠i):Calls Tryz.prog 29 #[cw,cz,.agg #[.int .i64 2,.int .i64 (i:Nat),.int .i64 (k:Nat),.int .i64 0]] w (aU (DoTo w s x ⟨2,(i:Nat),(k:Nat),0⟩)):=by
 have br:doB s x ⟨2,(i:Nat),(k:Nat),0⟩=decide (fJ s.cls (x.way i k)=0):=by
  unfold doB
  rw[if_neg (by simp only;omega),if_pos rfl,if_neg (by simp only;omega)]
  rfl
 have bv:bh s x ⟨2,(i:Nat),(k:Nat),0⟩={ x with ways:=setWay x.ways i k (eZ s.cls (x.way i k)) }:=j1 s x i k 0
 obtain⟨dI,rfl,bw⟩:=cS
 obtain⟨ao,cap,rfl⟩:=bw.shape
 have cl:=a5.ok
 have cp:=a5
 obtain⟨bY,bZ,aI,ak,b0,cb,bk,rfl,cm,-⟩:=a5.out
 obtain⟨n,ai⟩:∃ n,s.roles.length=n:=⟨_,rfl⟩
 have b8:2≤n:=ai ▸ a3.n2
 have bn:n≤4:=ai ▸ a3.n4
 obtain⟨ap,a2⟩:∃ ap,(((w.alloc (.cells #[.string s.name,.slice ao s.roles.length cap,.int .i64 s.cls,.int .i64 s.cap] 25)).alloc (.cells #[.slice (some ⟨bY,0,none⟩) s.roles.length b0,.slice (some ⟨bZ,0,none⟩) s.roles.length cb,.slice (some ⟨aI,0,none⟩) s.roles.length bk] 61)).alloc (.cells #[.int .i64 2,.int .i64 (i:Nat),.int .i64 (k:Nat),.int .i64 0] 67)).alloc (.cells #[.slice none 0 0,.slice none 0 0,.slice none 0 0] 61)=ap:=⟨_,rfl⟩
 have cd:Frm [] w ap:=by rw[← a2];exact((((Frm.refl _ _).alloc _).alloc _).alloc _).alloc _
 have ab:DoX w s ao s.roles.length cap bY bZ aI b0 cb bk ⟨2,(i:Nat),(k:Nat),0⟩ ap:=by
  rw[← a2]
  exact⟨ah (ah (ah (heap_alloc_new _ _))),ah (ah (aq (by simp))),ah (aq (by simp)),aq (by simp)⟩
 have bT:Hid (Frm [] w ap):=vi cd
 have S:=vi ai;have bf:=vi a3;have aC:=vi cl;have bS:=vi cm;have cL:=vi bw
 rw[ai] at ab cL
 have ba:=vi ab
 have bb:=vi a2
 have a7:=vi (fun a G=>dX s _ x B a (cp.frm G) (by rw[ai];omega) (by rw[ai];exact bn))
 have dz:w.heap.size+3<ap.heap.size:=lt_of_block ab.b3
 rw[ai] at bb a7
 rw[ai]
 have bA:=ae ab.b2 0
 have bB:=ae ab.b2 1
 have bC:=ae ab.b2 2
 have bD:=ae ab.b2 3
 have bl:=ae ab.b0 1
 clear bw ai a3 cl cm cp a2 cd ab a5
 have dF:decide ((i:Int)<0)=false:=decide_eq_false (by omega)
 have dG:decide ((n:Int)≤(i:Int))=false:=decide_eq_false (by rw[S.out] at H;omega)
 have dH:decide ((k:Int)<0)=false:=decide_eq_false (by omega)
 have dD:decide ((n:Int)≤(k:Int))=false:=decide_eq_false (by rw[S.out] at R;omega)
 have dE:((k:Int) == (i:Int))=false:=by rw[beq_eq_false_iff_ne];omega
 have du:(i:Int)<(n:Int):=by rw[S.out] at H;omega
 have dv:(k:Int)<(n:Int):=by rw[S.out] at R;omega
 have ch:(x.way i k).length≤64:=by have:=(aC.out.wb i k H R).1;have:=bf.out.k4;omega
 obtain⟨b3,bp⟩:=bS.out.w i H
 obtain⟨cX,b7,a0,aK,aL⟩:=bS.out.r i k H R
 have aw:=vi (fun a (G:Frm [] w a)=>lE s.cls s.cap cX (x.way i k) a (aL.frm G (by simp)) ch)
 obtain⟨ct,cu,rfl,-⟩:=aL.shape
 obtain⟨cN,b9⟩:∃ M,iX s.cls (x.way i k)=M:=⟨_,rfl⟩
 obtain⟨aZ,bo⟩:∃ M,fJ s.cls (x.way i k)=M:=⟨_,rfl⟩
 obtain⟨bX,a1⟩:∃ M,eZ s.cls (x.way i k)=M:=⟨_,rfl⟩
 obtain⟨av,ci⟩:∃ M,bX.length=M:=⟨_,rfl⟩
 rw[b9,bo,a1] at aw
 rw[bo] at br
 rw[a1] at bv
 have dr:=vi a1
 have bP:=vi ci
 have a9:=vi br;have bQ:=vi bv
 have cH:=vi (And.intro H (And.intro R ck))
 rw[S.out] at bp
 have bN:Hid (∀ a,Frm [] w a→(a.cell? ⟨aI,i,none⟩=some (.slice (some ⟨ak i,0,none⟩) n b3)∧a.cell? ⟨ak i,k*3,none⟩=some (.int .i64 s.cls))∧a.cell? ⟨ak i,k*3+1,none⟩=some (.int .i64 s.cap)∧a.cell? ⟨ak i,k*3+2,none⟩=some (.slice ct (x.way i k).length cu)):=vi fun a G=>⟨⟨G.keep bp,G.keep b7⟩,G.keep a0,G.keep aK⟩
 clear br bv b9 bo a1 ci bp b7 a0 aK aL ch H R
 go_enter Tryz.func29,Tryz.ntmps29
 go_upto_region 1 with fail
 rw[bb.out]
 clear bb
 go_upto_region 4 with (first
  | (refine af rfl 61 _ rfl _ rfl _ 61 ba.out.b1 _ Tryz.underlying61 rfl (by kernel_rfl) ?_)
  | (go_at_call 84;go_must (refine(a7.out _ bT.out).mono ?_;clear a7;rintro e cx ⟨dJ,rfl,cq,ce⟩;obtain⟨df,dh,dk,dj,dl,dn,dq,rfl,al,cA,cB,cC,cD⟩:=cq.out;have aY:=vi al;have aF:=vi (And.intro cA (And.intro cB (And.intro cC cD)));have aW:=vi ce;clear cq al ce cA cB cC cD;rw[S.out]))
  | (refine aD rfl 61 _ _ rfl _ _ _ _ rfl rfl (heap_alloc_new _ _) rfl (by kernel_rfl) (cI ..) ?_;intro K ca bt;have bJ:=vi ca;have bM:=vi ((aW.out.alloc _).then bt (by intro q J;simp at J;subst J;exact .inr aW.out.size));have bV:=vi (aY.out.frm (((Frm.refl [] cx).alloc _).then bt (by intro q J;simp at J;subst J;exact .inr (Nat.le_refl _))));clear ca bt))
 obtain⟨aH,aa⟩:∃ b,cx.heap.size=b:=⟨_,rfl⟩
 have dx:ap.heap.size≤aH:=aa ▸ aW.out.size
 rw[aa] at bJ ⊢
 have bW:Hid (YSt w s aH x K):=vi ⟨by omega,df,dh,dk,dj,dl,dn,dq,by rw[S.out];exact bJ.out,bV.out,by have:=aF.out.1;omega,by have:=aF.out.2.1;omega,by have:=aF.out.2.2.1;omega,fun i H=>by have:=aF.out.2.2.2 i H;omega⟩
 have X:=vi (ba.out.frm bM.out (by simp))
 have bi:Hid (Frm [] w K):=vi (bT.out.trans bM.out)
 have dA:w.heap.size+3<K.heap.size:=lt_of_block X.out.b3
 clear aY aF aW bV aa bA bB bC bD bl ba
 have bA:=ae X.out.b2 0
 have bB:=ae X.out.b2 1
 have bC:=ae X.out.b2 2
 have bD:=ae X.out.b2 3
 have bl:=ae X.out.b0 1
 have bK:Hid (∀ a,Frm [] K a→((a.cell? ⟨w.heap.size+1,2,none⟩=some (.slice (some ⟨aI,0,none⟩) n bk)∧a.cell? ⟨w.heap.size+2,1,none⟩=some (.int .i64 (i:Nat)))∧a.cell? ⟨w.heap.size+2,2,none⟩=some (.int .i64 (k:Nat))∧a.cell? ⟨aI,i,none⟩=some (.slice (some ⟨ak i,0,none⟩) n b3))∧a.cell? ⟨ak i,k*3,none⟩=some (.int .i64 s.cls)∧a.cell? ⟨ak i,k*3+1,none⟩=some (.int .i64 s.cap)∧a.cell? ⟨ak i,k*3+2,none⟩=some (.slice ct (x.way i k).length cu)):=vi (fun a G=>by
  obtain⟨⟨cP,b8⟩,cQ,bn⟩:=bN.out a (bi.out.trans G)
  exact⟨⟨⟨ae (G.at X.out.b1 (by simp)) 2,ae (G.at X.out.b2 (by simp)) 1⟩,ae (G.at X.out.b2 (by simp)) 2,cP⟩,b8,cQ,bn⟩)
 replace aw:=vi (fun a (G:Frm [] K a)=>aw.out a (bi.out.trans G))
 go_upto_region 7 with fail
 clear bA bB bC bD bl
 go_upto_region 7 with fail
 try simp only[Act.put]
 go_cut [9,10,11] (fun s9 s10 s11 wc=>∃ (I:Nat) (U:Option Addr) (V:Nat),s9=.pointer (some ⟨I,0,none⟩)∧s10=.string cN∧s11=.int .i64 aZ∧wc.heap[I]?=some (.cells #[.int .i64 s.cls,.int .i64 s.cap,.slice U av V] 164 (0,0))∧Lf wc (.slice U av V) bX∧Frm [] K wc∧K.heap.size≤I)
 case first =>
  refine bH [] (oW [16,17,18]) (by kernel_rfl) ?_
  refine cnt 0 ?_
  iterate 10
   refine hcL ?_ ?_ ?_
   rotate_left
   ·intro w' ar
    obtain⟨⟨⟨c5,c6⟩,c7,c8⟩,c9,da,db⟩:=bK.out w' ((Frm.refl [] K).drew.trans ar)
    clear ar
    go_simp
    try rfl
   try simp only[nrm,Nat.reduceAdd]
  refine tcn ?_
  obtain⟨W,au⟩:∃ W,K.drew=W:=⟨_,rfl⟩
  have O:Frm [] K W:=by rw[← au];exact(Frm.refl _ _).drew
  rw[au]
  clear au
  refine aJ (rs:=[10,15]) (by kernel_rfl) (by simp) (aE ?_ (aE ?_ aM))
  ·skip
   refine ax (i:=10) rfl rfl (by rfl) (fun E h=>?_)
   go_simp
   (refine(aw.out _ O).mono ?_;rintro e aT ⟨u,rfl,cY,rfl,ag,ad,cR⟩;obtain⟨U,V,rfl,-⟩:=ag.shape;rw[bP.out] at ag ⊢)
   refine h.out _ _ (ad) ?_
   clear h E
   try simp only[nrm]
   refine cnt 11 ?_
   iterate 4
    refine hcP ?_ ?_ ?_
    rotate_left
    ·intro w'
     go_simp
     try rfl
    try simp only[nrm,Nat.reduceAdd]
   refine tcn ?_
   refine bE 15 ?_
   refine ax (i:=15) rfl rfl (by rfl) (fun E h=>?_)
   go_simp
   (skip)
   refine h.out _ _ ((Frm.refl _ _).alloc _) ?_
   clear h E
   try simp only[nrm]
   obtain⟨I,Y⟩:∃ b,aT.heap.size=b:=⟨_,rfl⟩
   have A:=heap_alloc_new aT (.cells #[.int .i64 0,.int .i64 0,.slice none 0 0] 164)
   have ay:Frm [] K (aT.alloc (.cells #[.int .i64 0,.int .i64 0,.slice none 0 0] 164)):=(O.trans ad).alloc _
   have aA:=ag.frm ((Frm.refl [] aT).alloc (.cells #[.int .i64 0,.int .i64 0,.slice none 0 0] 164)) (by simp)
   obtain⟨c3,bz⟩:∃ aG,aT.alloc (.cells #[.int .i64 0,.int .i64 0,.slice none 0 0] 164)=aG:=⟨_,rfl⟩
   rw[bz,Y] at A ⊢
   rw[bz] at ay aA
   have aO:K.heap.size≤I:=Y ▸ (O.trans ad).size
   clear bz Y
   have dc:=ae A 0
   have dd:=ae A 1
   have de:=ae A 2
   have b4:=aj A 0
   have b5:=aj A 1
   have b6:=aj A 2
   have an:=vi (fI (u:=.int .i64 s.cls) (v:=.int .i64 s.cap) (z:=.slice U av V) A rfl)
   have be:=vi aA
   have bc:=vi ay
   have aB:=vi aO
   clear A aA ay ag ad O aO
   refine bE 16 ?_
   refine az (i:=16) rfl (by rfl) (by rfl) (fun E h=>?_)
   go_simp
   (skip)
   refine h.out _ _ ?_
   clear h E
   try simp only[nrm]
   refine bE 17 ?_
   refine az (i:=17) rfl (by rfl) (by rfl) (fun E h=>?_)
   go_simp
   (skip)
   refine h.out _ _ ?_
   clear h E
   try simp only[nrm]
   refine bE 18 ?_
   refine az (i:=18) rfl (by rfl) (by rfl) (fun E h=>?_)
   go_simp
   (skip)
   refine h.out _ _ ?_
   clear h E
   try simp only[nrm]
   refine aR (by kernel_rfl) ?_ _
   go_wp2
   go_meet
   exact⟨I,U,V,rfl,rfl,rfl,an.out.1,be.out.kt an.out.2.2,bc.out.then an.out.2.1 (by intro q J;simp at J;subst J;exact .inr aB.out),aB.out⟩
  ·skip
   refine ax (i:=15) rfl rfl (by rfl) (fun E h=>?_)
   go_simp
   (skip)
   refine h.out _ _ ((Frm.refl _ _).alloc _) ?_
   clear h E
   try simp only[nrm]
   obtain⟨I,Y⟩:∃ b,W.heap.size=b:=⟨_,rfl⟩
   have cr:=heap_alloc_new W (.cells #[.int .i64 0,.int .i64 0,.slice none 0 0] 164)
   obtain⟨c2,bx⟩:∃ aG,W.alloc (.cells #[.int .i64 0,.int .i64 0,.slice none 0 0] 164)=aG:=⟨_,rfl⟩
   have cf:Frm [] K c2:=by rw[← bx];exact O.alloc _
   rw[bx,Y] at cr ⊢
   have aO:K.heap.size≤I:=Y ▸ O.size
   clear bx Y
   refine bE 10 ?_
   refine ax (i:=10) rfl rfl (by rfl) (fun E h=>?_)
   go_simp
   (refine(aw.out _ cf).mono ?_;rintro e c3 ⟨u,rfl,cY,rfl,ag,ad,cR⟩;obtain⟨U,V,rfl,-⟩:=ag.shape;rw[bP.out] at ag ⊢)
   refine h.out _ _ (ad) ?_
   clear h E
   try simp only[nrm]
   refine cnt 11 ?_
   iterate 4
    refine hcP ?_ ?_ ?_
    rotate_left
    ·intro w'
     go_simp
     try rfl
    try simp only[nrm,Nat.reduceAdd]
   refine tcn ?_
   have A:=ad.at cr (by simp)
   have ay:=cf.trans ad
   have aA:=ag
   have dc:=ae A 0
   have dd:=ae A 1
   have de:=ae A 2
   have b4:=aj A 0
   have b5:=aj A 1
   have b6:=aj A 2
   have an:=vi (fI (u:=.int .i64 s.cls) (v:=.int .i64 s.cap) (z:=.slice U av V) A rfl)
   have be:=vi aA
   have bc:=vi ay
   have aB:=vi aO
   clear A aA ay ag ad O aO
   refine bE 16 ?_
   refine az (i:=16) rfl (by rfl) (by rfl) (fun E h=>?_)
   go_simp
   (skip)
   refine h.out _ _ ?_
   clear h E
   try simp only[nrm]
   refine bE 17 ?_
   refine az (i:=17) rfl (by rfl) (by rfl) (fun E h=>?_)
   go_simp
   (skip)
   refine h.out _ _ ?_
   clear h E
   try simp only[nrm]
   refine bE 18 ?_
   refine az (i:=18) rfl (by rfl) (by rfl) (fun E h=>?_)
   go_simp
   (skip)
   refine h.out _ _ ?_
   clear h E
   try simp only[nrm]
   refine aR (by kernel_rfl) ?_ _
   go_wp2
   go_meet
   exact⟨I,U,V,rfl,rfl,rfl,an.out.1,be.out.kt an.out.2.2,bc.out.then an.out.2.1 (by intro q J;simp at J;subst J;exact .inr aB.out),aB.out⟩
 case rest =>
  obtain⟨I,U,V,rfl,rfl,rfl,Y,cj,cg,dy⟩:=hcut
  have cG:=vi Y;have cJ:=vi cj;have am:=vi cg
  clear Y cj cg aw bK bN
  obtain⟨H,R,ck⟩:=cH.out
  obtain⟨dg,di,bF,N,dm,dp,cE,aa,al,cU,cV,cW,cs⟩:=bW.out.out
  rw[S.out] at aa
  obtain⟨cO,bq⟩:=al.w i H
  rw[S.out] at bq
  have dB:=(al.ti i H).lt
  have cn:=al.ti i H
  have dw:=cs i H
  have cv:aH≠N i:=fun e=>by
   obtain⟨c,cc⟩:=cn
   rw[← e,aa] at cc
   cases cc
  have cZ:=(al.tw.ne cn (by decide))
  have c1:I≠N i:=by omega
  have aY:=vi al
  have bL:Hid (∀ a,Frm [N i] wc a→(((a.cell? ⟨aH,2,none⟩=some (.slice (some ⟨bF,0,none⟩) n cE)∧a.cell? ⟨w.heap.size+2,1,none⟩=some (.int .i64 (i:Nat)))∧a.cell? ⟨w.heap.size+2,2,none⟩=some (.int .i64 (k:Nat))∧a.cell? ⟨bF,i,none⟩=some (.slice (some ⟨N i,0,none⟩) n cO))∧a.cell? ⟨I,0,none⟩=some (.int .i64 s.cls)∧a.cell? ⟨I,1,none⟩=some (.int .i64 s.cap)∧a.cell? ⟨I,2,none⟩=some (.slice U av V))):=vi fun a G=>by
   have a0:=G.at (am.out.at aa (by simp)) (by simpa using cv)
   have aK:=G.at (am.out.at X.out.b2 (by simp)) (by simp;omega)
   have aL:=G.cellAt (am.out.keep bq) (by simpa using cZ)
   have bm:=G.at cG.out (by simpa using c1)
   exact⟨⟨⟨ae a0 2,ae aK 1⟩,ae aK 2,aL⟩,ae bm 0,ae bm 1,ae bm 2⟩
  have cF:=vi aa
  clear aa bq
  go_upto_region 8 with fail
  refine bI (F:=[N i]) (by kernel_rfl) ?_
  obtain⟨W,au⟩:∃ W,wc.drew=W:=⟨_,rfl⟩
  have O:Frm [] wc W:=by rw[← au];exact(Frm.refl _ _).drew
  rw[au]
  clear au
  refine cnt 0 ?_
  iterate 9
   refine hcF ?_ ?_ ?_
   rotate_left
   ·intro w' ar
    obtain⟨⟨⟨c5,c6⟩,c7,c8⟩,c9,da,db⟩:=bL.out w' ((O.mono (by simp)).trans ar)
    clear ar
    go_simp
    try rfl
   try simp only[nrm,Nat.reduceAdd]
  refine tcn ?_
  refine htF 9 ?_ ?_ ?_
  rotate_left
  ·intro w' ar
   clear ar
   go_simp
   try rfl
  try simp only[nrm]
  have a6:=aY.out.frm (am.out.trans O)
  obtain⟨dC,s0,s1,s2,-⟩:=a6.r i k H R
  obtain⟨dt,a4⟩:=a6.ti i H
  have b4:=aj a4 (k*3)
  have b5:=aj a4 (k*3+1)
  have b6:=aj a4 (k*3+2)
  have bg:=vi (a6.setWay H R (cJ.out.frm O (by simp)) aC.out.wl (aC.out.wr i H))
  have aX:Hid (Frm [N i] wc _):=vi ((O.mono (by simp)).trans (((bG W (N i) (k*3) (.int .i64 s.cls)).trans (bG _ (N i) (k*3+1) (.int .i64 s.cap))).trans (bG _ (N i) (k*3+2) (.slice U av V))))
  clear a6 a4
  refine gd 10 (fun E h=>?_)
  go_simp
  (skip)
  refine h.out _ _ ((((Frm.refl [N i] _).setCell _ (.inl (by simp)) _).setCell _ (.inl (by simp)) _).setCell _ (.inl (by simp)) _) ?_
  clear h E
  try simp only[nrm]
  refine wpAnyH_done (by kernel_rfl) ?_ _
  obtain⟨cy,co⟩:∃ aG,((W.setCell ⟨N i,k*3,none⟩ (.int .i64 s.cls)).setCell ⟨N i,k*3+1,none⟩ (.int .i64 s.cap)).setCell ⟨N i,k*3+2,none⟩ (.slice U av V)=aG:=⟨_,rfl⟩
  rw[co] at bg aX ⊢
  have aV:=vi (aX.out.at (am.out.at cF.out (by simp)) (by simpa using cv))
  have bR:=vi (aX.out.at (am.out.at X.out.b3 (by simp)) (by simp;omega))
  have bU:Hid (Frm [] w cy):=vi ((bi.out.trans am.out).then aX.out (by intro q J;simp at J;subst J;exact .inr (by omega)))
  have cM:Hid (YSt w s aH _ cy):=vi ⟨bW.out.lo,dg,di,bF,N,dm,dp,cE,by rw[S.out];exact aV.out,bg.out,cU,cV,cW,cs⟩
  clear co bg bL O
  by_cases A:aZ=0
  ·have bu:=fj bf.out aC.out ((gk bf.out aC.out _).1 (a9.out.trans (decide_eq_true A)))
   rw[bQ.out] at bu
   have cK:=vi bu
   clear bu
   have cT:(aZ == 0)=true:=by rw[beq_iff_eq];exact A
   have bj:=vi A
   clear A
   go_wp2_with (first
    | (refine af rfl 61 _ rfl _ rfl _ 61 aV.out _ Tryz.underlying61 rfl (by kernel_rfl) ?_)
    | (refine aP rfl 61 _ _ rfl _ _ _ _ rfl rfl bR.out rfl (by kernel_rfl) (cI ..) ?_;intro c4 aN aQ aS;have a8:=vi aN;have bd:=vi aQ;have bO:=vi aS;clear aN aQ aS))
   refine bodyPost_ret (bs rfl rfl rfl a8.out rfl) rfl ⟨_,rfl,bU.out.then bd.out (by intro k R;simp at R;omega),.inl ⟨by rw[a9.out];exact decide_eq_true bj.out,_,rfl,?_⟩⟩
   rw[bQ.out]
   have:=cM.out.end cK.out (by rw[S.out];exact aV.out) bO.out
   rw[S.out] at this
   exact this
  ·have cT:(aZ == 0)=false:=by rw[beq_eq_false_iff_ne];exact A
   have bj:=vi A
   clear A
   go_wp2_with (first
    | (refine af rfl 61 _ rfl _ rfl _ 61 aV.out _ Tryz.underlying61 rfl (by kernel_rfl) ?_)
    | (refine aP rfl 61 _ _ rfl _ _ _ _ rfl rfl bR.out rfl (by kernel_rfl) (cI ..) ?_;intro c4 aN aQ aS;have a8:=vi aN;have bd:=vi aQ;have bO:=vi aS;clear aN aQ aS))
   refine bodyPost_ret (bs rfl rfl rfl a8.out rfl) rfl ⟨_,rfl,bU.out.then bd.out (by intro k R;simp at R;omega),.inr ⟨by rw[a9.out];exact decide_eq_false bj.out,_,rfl,rfl,cI ..⟩⟩
end Go.Proofs.YtohfkhjlnlahdaaGreat
