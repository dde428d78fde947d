/- Part of the proof. -/
import Derived.Test.YtohfkhjlnlahdaaGreatQ04
import Derived.Test.YtohfkhjlnlahdaaGreatQ37
import Derived.Test.YtohfkhjlnlahdaaGreatQ25
set_option linter.all false
namespace Go.Proofs.YtohfkhjlnlahdaaGreat
open Go.RowKit Go.BigFrame
theorem hZ (s:SesD):∀ (l:List RolD) (i:Nat),(∀ j,j<l.length→eh s (i+j) (l.getD j dR)=0)→cQ s i l=0
 | [],_,_=>rfl
 | r :: l,i,h=>by
   have a:=h 0 (by simp)
   have A:=hZ s l (i+1) (fun j E=>by have:=h (j+1) (by simp;omega);rw[show i+1+j=i+(j+1) by omega];exact this)
   unfold cQ
   rw[if_pos (show eh s i r=0 from a),A]
theorem gt (s:SesD):∀ (l:List RolD) (i k:Nat),k<l.length→(∀ j,j<k→eh s (i+j) (l.getD j dR)=0)→eh s (i+k) (l.getD k dR)≠0→cQ s i l=eh s (i+k) (l.getD k dR)
 | [],_,k,hk,_,_=>by simp at hk
 | r :: l,i,0,_,_,hne=>by
   unfold cQ
   rw[if_neg (show ¬ eh s i r=0 from hne)];rfl
 | r :: l,i,k+1,hk,h,hne=>by
   have a:=h 0 (by omega)
   unfold cQ
   rw[if_pos (show eh s i r=0 from a),gt s l (i+1) k (by simpa using hk) (fun j A=>by have:=h (j+1) (by omega);rw[show i+1+j=i+(j+1) by omega];exact this) (by rw[show i+1+k=i+(k+1) by omega];exact hne)]
   rw[show i+1+k=i+(k+1) by omega];rfl
structure SmS (s:SesD):Prop where
 n:s.roles.length≤100
 r:∀ r∈s.roles,SmR r
theorem nJ (x:StpD):cM x.kind=ei x:=rfl
structure SBox (w:World) (sb nb:Nat) (s:SesD) (rv:Value):Prop where
 b:w.heap[sb]?=some (.cells #[.string s.name,rv,.int .i64 s.cls,.int .i64 s.cap] 25 (0,0))
 f:w.cell? ⟨nb,0,none⟩=some (.func (.func 162) #[] #[.pointer (some ⟨sb,0,none⟩)])
 l:Rls w rv s.roles
theorem SBox.frm {w w':World} {sb A:Nat} {s:SesD} {E:Value} (a:SBox w sb A s E) (h:Frm [] w w'):SBox w' sb A s E:=⟨h.at a.b (by simp),h.keep a.f,a.l.frm h⟩
theorem Tryz.call_rSes1 (args:Array Value) (w:World):(callFunc 162 args).run Tryz.prog w=.ok (.enter 162 args) w:=by kernel_rfl
theorem Tryz.call_rSes2 (args:Array Value) (w:World):(callFunc 168 args).run Tryz.prog w=.ok (.enter 168 args) w:=by kernel_rfl
theorem kK (A:ByteArray) (b:Bool) (f:Value) (E:f=.nilFunc∨∃ a,f=.func (.func a) #[] #[]) (h:World):(Instr.field 279 (.agg #[.string A,.bool b,f]) 1).run Tryz.prog h=.ok (.bool b) h:=by
 rcases E with rfl | ⟨a,rfl⟩
 all_goals simp[Instr.field,go_sem,Tryz.underlying279,asAgg,part]
set_option maxHeartbeats 2000000 in
set_option maxRecDepth 100000 in
theorem pS (sb ab:Nat) (s:SesD) (ak:Value) (x:StpD) (w:World) (X:SBox w sb ab s ak) (aw:s.roles.length≤100) (aj:gL x.kind) :
  Calls Tryz.prog 168 #[dN x,.pointer (some ⟨ab,0,none⟩)] w (Ret (.bool (ei x && decide (bT s x.peer<0))) (Frm [] w)):=by
 obtain⟨h,S⟩:∃ h,w.alloc (.cells (ed x) 137)=h:=⟨_,rfl⟩
 have U:Frm [] w h:=by rw[← S];exact(Frm.refl _ _).alloc _
 have O:Hid (∀ A,Frm [] h A→A.cell? ⟨w.heap.size,2,none⟩=some (.int .i64 x.kind)∧A.cell? ⟨w.heap.size,4,none⟩=some (.string x.peer)∧A.cell? ⟨ab,0,none⟩=some (.func (.func 162) #[] #[.pointer (some ⟨sb,0,none⟩)])):=vi fun A I=>by
  have hb:h.heap[w.heap.size]?=some (.cells (ed x) 137 (0,0)):=by rw[← S];exact heap_alloc_new _ _
  exact⟨I.keep (ae hb 2),I.keep (ae hb 4),I.keep (U.keep X.f)⟩
 have af:Hid (∀ A,Frm [] h A→Calls Tryz.prog 162 #[.string x.peer,.pointer (some ⟨sb,0,none⟩)] A (Ret (.int .i64 (bT s x.peer)) (Frm [] A))):=vi fun A I=>by
  have ah:=X.frm (U.trans I)
  exact j6 sb s ak x.peer A (ae ah.b 1) ah.l (by omega)
 have ag:=vi U
 have ap:=vi S
 have V:=vi aj
 have aA:=vi Tryz.call_rSes1
 rw[← nJ]
 obtain⟨ay,aa⟩:∃ b,cM x.kind=b:=⟨_,rfl⟩
 have W:=vi aa
 obtain⟨q,Y⟩:∃ q,bT s x.peer=q:=⟨_,rfl⟩
 rw[aa,Y]
 rw[Y] at af
 clear X aw aj U S aa Y
 go_enter Tryz.func168,Tryz.ntmps168
 go_upto_region 1 with (first | (refine aH rfl 137 _ rfl (ed x) rfl ?_;rw[ap.out]))
 obtain⟨au,aB,av⟩:=O.out h (Frm.refl _ _)
 have l0:=aI au
 have aD:=aI av
 have aC:=fun b ar=>kK (jl x.kind) b (kFn x.kind) (j7 x.kind) ar
 cases ay with
 | false =>
   refine fS (by kernel_rfl) ?_
   refine cnt 1 ?_
   iterate 2
    refine tcG ?_ ?_ ?_
    rotate_left
    ·intro w' a
     obtain⟨al,am,an⟩:=O.out w' ((Frm.refl [] h).drew.trans a)
     clear a
     go_simp
     try rfl
    try simp only[nrm,Nat.reduceAdd]
   refine tcn ?_
   refine stG 0 (fun H E=>?_)
   go_simp
   (refine(gu _).mono ?_;rintro e ad ⟨v,rfl,ax,rfl,K,J⟩;have G:Hid (Frm [] h ad):=vi ((Frm.refl [] h).drew.trans J);have R:=vi K;clear K)
   refine E.out _ _ (J) ?_
   clear E H
   try simp only[nrm]
   refine cnt 3 ?_
   iterate 3
    refine tcG ?_ ?_ ?_
    rotate_left
    ·intro w' a
     have N:=(R.out w' a _ V.out).2
     rw[W.out] at N
     clear a
     go_simp
     try rfl
    try simp only[nrm,Nat.reduceAdd]
   refine tcn ?_
   refine cnt 6 ?_
   iterate 5
    refine scG ?_
    try simp only[nrm,Nat.reduceAdd]
   refine tcn ?_
   refine cnt 11 ?_
   iterate 2
    refine tcG ?_ ?_ ?_
    rotate_left
    ·intro w' a
     have N:=(R.out w' a _ V.out).2
     rw[W.out] at N
     clear a
     go_simp
     try rfl
    try simp only[nrm,Nat.reduceAdd]
   refine tcn ?_
   refine wpAnyH_done (by kernel_rfl) ?_ _
   go_wp2
   go_ret
   exact⟨rfl,ag.out.trans G.out⟩
 | true =>
   refine fS (by kernel_rfl) ?_
   refine cnt 1 ?_
   iterate 2
    refine tcG ?_ ?_ ?_
    rotate_left
    ·intro w' a
     obtain⟨al,am,an⟩:=O.out w' ((Frm.refl [] h).drew.trans a)
     clear a
     go_simp
     try rfl
    try simp only[nrm,Nat.reduceAdd]
   refine tcn ?_
   refine stG 0 (fun H E=>?_)
   go_simp
   (refine(gu _).mono ?_;rintro e ad ⟨v,rfl,ax,rfl,K,J⟩;have G:Hid (Frm [] h ad):=vi ((Frm.refl [] h).drew.trans J);have R:=vi K;clear K)
   refine E.out _ _ (J) ?_
   clear E H
   try simp only[nrm]
   refine cnt 3 ?_
   iterate 6
    refine tcG ?_ ?_ ?_
    rotate_left
    ·intro w' a
     have N:=(R.out w' a _ V.out).2
     rw[W.out] at N
     obtain⟨al,am,an⟩:=O.out w' (G.out.trans a)
     clear a
     go_simp
     try rfl
    try simp only[nrm,Nat.reduceAdd]
   refine tcn ?_
   refine stG 9 (fun H E=>?_)
   go_simp
   (refine(af.out _ G.out).mono ?_;rintro e az ⟨rfl,ai⟩;have aq:Hid (Frm [] h az):=vi (G.out.trans ai))
   refine E.out _ _ (ai) ?_
   clear E H
   try simp only[nrm]
   refine cnt 10 ?_
   iterate 3
    refine tcG ?_ ?_ ?_
    rotate_left
    ·intro w' a
     clear a
     go_simp
     try rfl
    try simp only[nrm,Nat.reduceAdd]
   refine tcn ?_
   refine wpAnyH_done (by kernel_rfl) ?_ _
   go_wp2
   go_ret
   exact⟨by simp,ag.out.trans aq.out⟩
theorem lS {α:Type} (p:α→Bool) (l:List α):decide (0≤ixf p l)=l.any p:=by
 rw[Bool.eq_iff_iff,decide_eq_true_eq,List.any_eq_true]
 constructor
 ·intro A
  obtain⟨i,E,-⟩:=cO A
  obtain⟨x,a,h,-⟩:=ef E
  exact⟨x,List.mem_of_getElem? a,h⟩
 ·rintro⟨x,a,h⟩
  exact fQ a h
set_option maxHeartbeats 1000000 in
theorem nK (a:FuncId) (E:Array Value) (p:StpD→Bool) (v:Value) (h:List StpD) (w:World) (G:Arr 9 SpAt w v h) (J:h.length≤1000) (H:∀ args w,(callFunc a args).run Tryz.prog w=.ok (.enter a args) w)
  (K:∀ A x,Frm [] w A→x∈h→Calls Tryz.prog a (#[dN x]++E) A (Ret (.bool (p x)) (Frm [] A))) :
  Calls Tryz.prog 167 #[v,.func (.func a) #[] E] w (Ret (.int .i64 (ixf p h)) (Frm [] w)):=by
 have N:=vi (ja a E p v h w G J H K)
 clear G J H K
 go_enter Tryz.func167,Tryz.ntmps167
 go_wp2_with (go_at_call 147;go_must (refine N.out.mono ?_;rintro e R ⟨rfl,I⟩;have O:=vi I;clear I))
 go_ret
 exact⟨rfl,O.out⟩
theorem lT (s:SesD):eE s=false∨(eE s=true∧((s.roles.length:Int)<2∨(¬ (s.roles.length:Int)<2∧4<(s.roles.length:Int))∨(¬ (s.roles.length:Int)<2∧¬ 4<(s.roles.length:Int)∧s.cls<1) ∨
  (¬ (s.roles.length:Int)<2∧¬ 4<(s.roles.length:Int)∧¬ s.cls<1∧3<s.cls)∨(¬ (s.roles.length:Int)<2∧¬ 4<(s.roles.length:Int)∧¬ s.cls<1∧¬ 3<s.cls∧s.cap<1) ∨
  (¬ (s.roles.length:Int)<2∧¬ 4<(s.roles.length:Int)∧¬ s.cls<1∧¬ 3<s.cls∧¬ s.cap<1∧4<s.cap))):=by
 cases h:eE s with
 | false=>exact .inl rfl
 | true =>
   right
   refine⟨rfl,?_⟩
   unfold eE at h
   simp only[Bool.or_eq_true,decide_eq_true_eq] at h
   omega
theorem lU {s:SesD} (a:eE s=false):2≤s.roles.length∧s.roles.length≤4∧1≤s.cls∧s.cls≤3∧1≤s.cap∧s.cap≤4:=by
 unfold eE at a
 simp only[Bool.or_eq_false_iff,decide_eq_false_iff_not] at a
 omega
theorem Rls.at {w:World} {ao:Option Addr} {n cap:Nat} {s:SesD} (E:Rls w (.slice ao n cap) s.roles) {i:Nat} (N:i<s.roles.length):∃ b o h a A,ao=some ⟨b,o,none⟩ ∧
  (w.cell? ⟨b,o+i*4,none⟩=some (.string (s.rol i).name)∧w.cell? ⟨b,o+i*4+1,none⟩=some h∧w.cell? ⟨b,o+i*4+2,none⟩=some a∧w.cell? ⟨b,o+i*4+3,none⟩=some A)∧Rl3 w h a A (s.rol i):=by
 obtain⟨b,o,rfl,h,a,A,G,H,I,J,K⟩:=E.get (SesD.rol_some N)
 exact⟨b,o,h,a,A,rfl,⟨G,H,I,J⟩,K⟩
set_option maxHeartbeats 4000000 in
set_option maxRecDepth 100000 in
theorem qT (v:Value) (s:SesD) (w:World) (bb:SesV w v s) (bu:SmS s):Calls Tryz.prog 111 #[v] w (aU fun u w'=>∃ i,u=.tuple #[.int .i64 i,.int .i64 (eo s)]∧Frm [] w w'):=by
 obtain⟨b4,rfl,am⟩:=bb
 obtain⟨ao,cap,e,-⟩:=id am
 subst e
 have aA:=vi bu
 have bn:=vi am
 have ax:Hid (∀ a,Calls Tryz.prog 165 #[.string s.name] a (Ret (.bool (aL s.name)) (Frm [] a))):=vi fun a=>dy s.name a
 have h:Hid (eo s=if aL s.name=false then 290 else if eE s=true then 2 else if cQ s 0 s.roles=0 then (if s.roles.any (dM s)=true then 294 else 0) else cQ s 0 s.roles):=vi rfl
 obtain⟨aw,bq⟩:∃ c,eo s=c:=⟨_,rfl⟩
 rw[bq] at h ⊢
 have aS:=vi (lT s)
 obtain⟨n,be⟩:∃ n,s.roles.length=n:=⟨_,rfl⟩
 rw[be] at aS bn ⊢
 have ak:=vi be
 obtain⟨E,aD⟩:∃ E,(w.alloc (.cells #[.string s.name,.slice ao n cap,.int .i64 s.cls,.int .i64 s.cap] 25)).alloc (.cells #[.func (.func 162) #[] #[.pointer (some ⟨w.heap.size,0,none⟩)]] 138)=E:=⟨_,rfl⟩
 have bc:Frm [] w E:=by rw[← aD];exact((Frm.refl [] w).alloc _).alloc _
 have an:Hid (SBox E w.heap.size (w.heap.size+1) s (.slice ao n cap)):=vi ⟨by rw[← aD];exact ah (heap_alloc_new _ _),by rw[← aD];exact ae (aq (by simp)) 0,bn.out.frm bc⟩
 have ar:=vi bc
 have ap:Hid (∀ a,Frm [] E a→a.cell? ⟨w.heap.size,0,none⟩=some (.string s.name)∧a.cell? ⟨w.heap.size,1,none⟩=some (.slice ao n cap)∧a.cell? ⟨w.heap.size,2,none⟩=some (.int .i64 s.cls)∧a.cell? ⟨w.heap.size,3,none⟩=some (.int .i64 s.cap) ∧
   a.cell? ⟨w.heap.size+1,0,none⟩=some (.func (.func 162) #[] #[.pointer (some ⟨w.heap.size,0,none⟩)])):=vi fun a R=>by
  have hb:=(an.out.frm R).b
  exact⟨ae hb 0,ae hb 1,ae hb 2,ae hb 3,(an.out.frm R).f⟩
 have bw:Hid (∀ a aj,Frm [] E a→Calls Tryz.prog 162 #[.string aj,.pointer (some ⟨w.heap.size,0,none⟩)] a (Ret (.int .i64 (bT s aj)) (Frm [] a))):=vi fun a aj R=>by
  have bo:=an.out.frm R
  exact j6 w.heap.size s _ aj a (ae bo.b 1) bo.l (by have:=aA.out.n;omega)
 have bk:=vi aD
 have bY:=Tryz.call_rSes1
 obtain⟨bO,aO⟩:∃ q,aL s.name=q:=⟨_,rfl⟩
 rw[aO] at ax h
 clear am bu bq be bc aD aO
 go_enter Tryz.func111,Tryz.ntmps111
 go_upto_region 2 with fail
 rw[bk.out]
 clear bk
 obtain⟨V,W,X,Y,aa⟩:=ap.out E (Frm.refl _ _)
 cases bO with
 | false =>
   have h:Hid (aw=290):=vi (by rw[h.out,if_pos rfl])
   go_wp2_with (first
    | (go_at_call 165;go_must (refine(ax.out _).mono ?_;rintro e a0 ⟨rfl,U⟩;have az:=vi (ar.out.trans U);clear U)))
   go_ret2
   exact⟨_,rfl,_,by rw[h.out];rfl,az.out⟩
 | true =>
   rw[if_neg (by decide)] at h
   rcases aS.out with hb | ⟨hb,bL⟩
   ·have bI:=lU hb
    rw[hb,if_neg (by decide)] at h
    have bC:¬ (n:Int)<2:=by rw[← ak.out];omega
    have bD:¬ 4<(n:Int):=by rw[← ak.out];omega
    have bE:¬ s.cls<1:=by omega
    have bF:¬ 3<s.cls:=by omega
    have bG:¬ s.cap<1:=by omega
    have bH:¬ 4<s.cap:=by omega
    clear bI hb aS
    go_wp2_with (first
     | (go_at_call 165;go_must (refine(ax.out _).mono ?_;rintro e a0 ⟨rfl,U⟩;have az:=vi U;clear V W X Y aa;obtain⟨V,W,X,Y,aa⟩:=ap.out a0 U;clear U)))
    clear ax bC bD bE bF bG bH V W X Y aa
    go_loopw [51] (fun s51 wr=>∃ i:Nat,s51=.int .i64 i∧i≤n∧Frm [] E wr∧∀ j,j<i→eh s j (s.rol j)=0) (fun s51 _=>n - (intOf s51).toNat)
    case atStart=>exact⟨0,rfl,Nat.zero_le _,az.out,fun j J=>by omega⟩
    case round =>
     obtain⟨i,rfl,bZ,aE,aM⟩:=hrel
     have K:=vi aE;have ad:=vi aM
     clear aE aM
     by_cases hlt:i<n
     ·have bJ:(i:Int)<(n:Int):=by omega
      have ai:i<s.roles.length:=by rw[ak.out];exact hlt
      obtain⟨b,o,bR,bz,bS,rfl,⟨a4,a5,a6,a7⟩,H⟩:=Rls.at (an.out.frm K.out).l ai
      obtain⟨aT,aX,a9,-⟩:=id H.sts
      obtain⟨ac,aV,a8,-⟩:=id H.ctrs
      obtain⟨aB,aC,ba,-⟩:=id H.steps
      subst a9;subst a8;subst ba
      have al:s.rol i∈s.roles:=List.mem_of_getElem? (SesD.rol_some ai)
      have ab:Hid (∀ a,Frm [] wr a→Calls Tryz.prog 166 #[.agg #[.string (s.rol i).name,.slice aT (s.rol i).sts.length aX,.slice ac (s.rol i).ctrs.length aV,.slice aB (s.rol i).steps.length aC]] a (aU fun u w'=>∃ aZ,u=.tuple #[.int .i64 aZ,.int .i64 (cF (s.rol i))]∧Frm [] a w')):=vi fun a R =>
       nL _ (s.rol i) a ⟨_,_,_,rfl,H.frm R⟩ (aA.out.r _ al)
      have I:Hid (eh s i (s.rol i)=if cF (s.rol i)=0 then (if bT s (s.rol i).name<i then 290 else 0) else cF (s.rol i)):=vi rfl
      have au:Hid (eh s i (s.rol i)≠0→cQ s 0 s.roles=eh s i (s.rol i)):=vi fun bK=>by
       have:=gt s s.roles 0 i ai (fun j J=>by rw[Nat.zero_add];exact ad.out j J) (by rw[Nat.zero_add];exact bK)
       rw[Nat.zero_add] at this
       exact this
      have aQ:=vi (fun a R=>bw.out a (s.rol i).name R)
      obtain⟨c,O⟩:∃ c,cF (s.rol i)=c:=⟨_,rfl⟩
      obtain⟨q,aN⟩:∃ q,bT s (s.rol i).name=q:=⟨_,rfl⟩
      obtain⟨b3,bf⟩:∃ q,eh s i (s.rol i)=q:=⟨_,rfl⟩
      obtain⟨aj,aK⟩:∃ q,(s.rol i).name=q:=⟨_,rfl⟩
      obtain⟨bg,aH⟩:∃ q,(s.rol i).sts.length=q:=⟨_,rfl⟩
      obtain⟨bh,aI⟩:∃ q,(s.rol i).ctrs.length=q:=⟨_,rfl⟩
      obtain⟨bi,aJ⟩:∃ q,(s.rol i).steps.length=q:=⟨_,rfl⟩
      rw[O] at ab I;rw[aN] at aQ I;rw[bf] at I au;rw[aK] at ab aQ a4;rw[aH] at ab a5;rw[aI] at ab a6;rw[aJ] at ab a7
      have a3:=vi bf
      clear H al ai O aN bf aK aH aI aJ
      have ay:Hid ((wr.alloc (.cells #[.string aj,.slice aT bg aX,.slice ac bh aV,.slice aB bi aC] 87)).heap[wr.heap.size]?=some (.cells #[.string aj,.slice aT bg aX,.slice ac bh aV,.slice aB bi aC] 87 (0,0))):=vi (heap_alloc_new _ _)
      by_cases O:c=0
      ·have bP:(c == 0)=true:=by simpa using O
       have bQ:(c != 0)=false:=by simpa using O
       rw[if_pos O] at I
       clear O
       by_cases hqi:q<(i:Int)
       ·rw[if_pos hqi] at I
        have h:Hid (aw=290):=vi (by
         have A:=au.out (by rw[I.out];decide)
         rw[h.out,A,I.out];rfl)
        clear au I a3
        go_wp2_with (first
         | (refine af rfl 87 _ rfl _ rfl _ 87 ay.out _ Tryz.underlying87 rfl (by kernel_rfl) ?_)
         | (go_at_call 166;go_must (refine(ab.out _ ((Frm.refl [] wr).alloc _)).mono ?_;rintro e S ⟨u,rfl,aZ,rfl,G⟩;have N:Hid (Frm [] E S):=vi ((K.out.alloc _).trans G);obtain⟨V,W,X,Y,aa⟩:=ap.out S N.out;have bV:=ae (G.at ay.out (by simp)) 0;clear G))
         | (go_at_call 162;go_must (refine(aQ.out _ N.out).mono ?_;rintro e bj ⟨rfl,aF⟩;have a1:Hid (Frm [] E bj):=vi (N.out.trans aF);clear aF)))
        go_ret2
        exact⟨_,rfl,_,by rw[h.out];rfl,ar.out.trans a1.out⟩
       ·rw[if_neg hqi] at I
        clear au
        go_wp2_with (first
         | (refine af rfl 87 _ rfl _ rfl _ 87 ay.out _ Tryz.underlying87 rfl (by kernel_rfl) ?_)
         | (go_at_call 166;go_must (refine(ab.out _ ((Frm.refl [] wr).alloc _)).mono ?_;rintro e S ⟨u,rfl,aZ,rfl,G⟩;have N:Hid (Frm [] E S):=vi ((K.out.alloc _).trans G);obtain⟨V,W,X,Y,aa⟩:=ap.out S N.out;have bV:=ae (G.at ay.out (by simp)) 0;clear G))
         | (go_at_call 162;go_must (refine(aQ.out _ N.out).mono ?_;rintro e bj ⟨rfl,aF⟩;have a1:Hid (Frm [] E bj):=vi (N.out.trans aF);clear aF)))
        refine⟨⟨i+1,congrArg (Value.int .i64) (by omega),hlt,a1.out,fun j J=>?_⟩,by simp[intOf];omega⟩
        by_cases e:j=i
        ·subst e;rw[a3.out,I.out]
        ·exact ad.out j (by omega)
      ·have bP:(c == 0)=false:=by simpa using O
       have bQ:(c != 0)=true:=by simpa using O
       rw[if_neg O] at I
       have h:Hid (aw=c):=vi (by
        have A:=au.out (by rw[I.out];exact O)
        rw[h.out,A,I.out,if_neg O])
       clear O au I a3
       go_wp2_with (first
        | (refine af rfl 87 _ rfl _ rfl _ 87 ay.out _ Tryz.underlying87 rfl (by kernel_rfl) ?_)
        | (go_at_call 166;go_must (refine(ab.out _ ((Frm.refl [] wr).alloc _)).mono ?_;rintro e S ⟨u,rfl,aZ,rfl,G⟩;have N:Hid (Frm [] E S):=vi ((K.out.alloc _).trans G);clear G)))
       go_ret2
       exact⟨_,rfl,_,by rw[h.out];rfl,ar.out.trans N.out⟩
     ·obtain rfl:i=n:=by omega
      have bs:¬ (i:Int)<(i:Int):=by omega
      have br:cQ s 0 s.roles=0:=hZ s s.roles 0 (fun j J=>by rw[Nat.zero_add];exact ad.out j (by rw[ak.out] at J;exact J))
      rw[br,if_pos rfl] at h
      have bW:Hid (∀ r∈s.roles,cF r=0):=vi fun r am=>by
       obtain⟨j,J⟩:=List.getElem?_of_mem am
       have aG:=ag J
       have A:=ad.out j (by rw[ak.out] at aG;exact aG)
       have e:s.rol j=r:=aW J
       unfold eh at A
       rw[e] at A
       by_cases hz:cF r=0
       ·exact hz
       ·rw[if_neg hz] at A;exact A
      obtain⟨V,W,X,Y,aa⟩:=ap.out wr K.out
      obtain⟨bv,bd⟩:∃ b,s.roles.any (dM s)=b:=⟨_,rfl⟩
      rw[bd] at h
      have bm:=vi bd
      have bl:=K
      clear br bd ad bs
      go_wp2
      clear V W X Y aa
      go_loopw [76] (fun s76 bU=>∃ k:Nat,s76=.int .i64 k∧k≤i∧Frm [] E bU∧∀ j,j<k→dM s (s.rol j)=false) (fun s76 _=>i - (intOf s76).toNat)
      case atStart=>exact⟨0,rfl,Nat.zero_le _,bl.out,fun j J=>by omega⟩
      case round =>
       clear bl K
       obtain⟨k,rfl,b0,aE,aM⟩:=hrel
       have K:=vi aE;have ad:=vi aM
       clear aE aM
       obtain⟨aP,bM⟩:∃ aP,aP=wr:=⟨_,rfl⟩
       subst bM
       by_cases hlt:k<i
       ·have bJ:(k:Int)<(i:Int):=by omega
        have ai:k<s.roles.length:=by rw[ak.out];exact hlt
        obtain⟨b,o,bR,bz,bS,rfl,⟨a4,a5,a6,a7⟩,H⟩:=Rls.at (an.out.frm K.out).l ai
        obtain⟨aT,aX,a9,-⟩:=id H.sts
        obtain⟨ac,aV,a8,-⟩:=id H.ctrs
        obtain⟨aB,aC,ba,-⟩:=id H.steps
        subst a9;subst a8;subst ba
        have al:s.rol k∈s.roles:=List.mem_of_getElem? (SesD.rol_some ai)
        have aR:Hid (∀ a,Frm [] aP a→Calls Tryz.prog 167 #[.slice aB (s.rol k).steps.length aC,.func (.func 168) #[] #[.pointer (some ⟨w.heap.size+1,0,none⟩)]] a (Ret (.int .i64 (ixf (fun t=>ei t && decide (bT s t.peer<0)) (s.rol k).steps)) (Frm [] a))):=vi fun a R =>
         nK 168 #[.pointer (some ⟨w.heap.size+1,0,none⟩)] _ _ (s.rol k).steps a (H.frm R).steps (by have:=(aA.out.r _ al).t;omega) Tryz.call_rSes2 fun bx x bB bN =>
          pS w.heap.size (w.heap.size+1) s _ x bx (an.out.frm (K.out.trans (R.trans bB))) (by have:=aA.out.n;omega) ((aA.out.r _ al).k x bN)
        have av:Hid (dM s (s.rol k)=decide (0≤ixf (fun t=>ei t && decide (bT s t.peer<0)) (s.rol k).steps)):=vi (lS _ _).symm
        obtain⟨q,aN⟩:∃ q,ixf (fun t=>ei t && decide (bT s t.peer<0)) (s.rol k).steps=q:=⟨_,rfl⟩
        rw[aN] at aR av
        have a2:Hid (dM s (s.rol k)=true→bv=true):=vi fun bb=>by rw[← bm.out,List.any_eq_true];exact⟨_,al,bb⟩
        obtain⟨aj,aK⟩:∃ q,(s.rol k).name=q:=⟨_,rfl⟩
        obtain⟨bg,aH⟩:∃ q,(s.rol k).sts.length=q:=⟨_,rfl⟩
        obtain⟨bh,aI⟩:∃ q,(s.rol k).ctrs.length=q:=⟨_,rfl⟩
        obtain⟨bi,aJ⟩:∃ q,(s.rol k).steps.length=q:=⟨_,rfl⟩
        rw[aK] at a4;rw[aH] at a5;rw[aI] at a6;rw[aJ] at aR a7
        clear H al ai aN aK aH aI aJ
        by_cases aO:0≤q
        ·have h:Hid (aw=294):=vi (by
          have A:=a2.out (by rw[av.out,decide_eq_true aO])
          rw[h.out,A,if_pos rfl])
         clear a2 av
         go_wp2_with (first
          | (go_at_call 167;go_must (refine(aR.out _ ((Frm.refl [] aP).alloc _)).mono ?_;rintro e S ⟨rfl,G⟩;have N:Hid (Frm [] E S):=vi ((K.out.alloc _).trans G);clear G)))
         go_ret2
         exact⟨_,rfl,_,by rw[h.out];rfl,ar.out.trans N.out⟩
        ·have av:Hid (dM s (s.rol k)=false):=vi (by rw[av.out,decide_eq_false aO])
         clear a2
         go_wp2_with (first
          | (go_at_call 167;go_must (refine(aR.out _ ((Frm.refl [] aP).alloc _)).mono ?_;rintro e S ⟨rfl,G⟩;have N:Hid (Frm [] E S):=vi ((K.out.alloc _).trans G);clear G)))
         refine⟨⟨k+1,congrArg (Value.int .i64) (by omega),hlt,N.out,fun j J=>?_⟩,by simp[intOf];omega⟩
         by_cases e:j=k
         ·subst e;exact av.out
         ·exact ad.out j (by omega)
       ·obtain rfl:k=i:=by omega
        have bs:¬ (k:Int)<(k:Int):=by omega
        have bt:bv=false:=by
         rw[← bm.out,List.any_eq_false]
         intro r am
         obtain⟨j,J⟩:=List.getElem?_of_mem am
         have aG:=ag J
         have A:=ad.out j (by rw[ak.out] at aG;exact aG)
         rw[show s.rol j=r from aW J] at A
         rw[A];decide
        have h:Hid (aw=0):=vi (by rw[h.out,bt];rfl)
        clear bt
        go_wp2
        go_ret2
        exact⟨_,rfl,⟨_,by rw[h.out];rfl⟩,ar.out.trans K.out⟩
   ·have h:Hid (aw=2):=vi (by rw[h.out,hb,if_pos rfl])
    clear hb aS
    rcases bL with A | ⟨A,aY⟩ | ⟨A,aY,H⟩ | ⟨A,aY,H,bp⟩ | ⟨A,aY,H,bp,bA⟩ | ⟨A,aY,H,bp,bA,bX⟩
    all_goals
     go_wp2_with (first
      | (go_at_call 165;go_must (refine(ax.out _).mono ?_;rintro e a0 ⟨rfl,U⟩;have az:=vi (ar.out.trans U);clear V W X Y aa;obtain⟨V,W,X,Y,aa⟩:=ap.out a0 U;clear U)))
     go_ret2
     exact⟨_,rfl,_,by rw[h.out];rfl,az.out⟩
end Go.Proofs.YtohfkhjlnlahdaaGreat
