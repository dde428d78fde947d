/- Part of the proof. -/
import Derived.Test.YtohfkhjlnlahdaaGreatQ04
import Derived.Test.YtohfkhjlnlahdaaGreatQ17
import Derived.Lib.Builder
import Derived.Shelf.SortM.Plain
import Derived.Shelf.SortM.SortNone
import Derived.Sort.CutIn
import Derived.OrdersIn
import Derived.Test.YtohfkhjlnlahdaaGreatQ23
set_option linter.all false
namespace Go.Proofs.YtohfkhjlnlahdaaGreat
open Go.RowKit Go.BigFrame
section
variable {w w':World} {s:SesD} {yb fb sb:Nat} {x:PS}
theorem fM {i:Nat} (a:i<s.roles.length):(fD s x)[i]?=some (((x.at i:Nat):Int),x.ctr s i):=by
 unfold fD
 rw[List.getElem?_map,List.getElem?_range a];rfl
theorem cB:(fD s x).length=s.roles.length:=by unfold fD;simp
structure RlF (rb ro:Nat) (sv cv tv:Value) (r:RolD) (W:World):Prop where
 c0:W.cell? ⟨rb,ro,none⟩=some (.string r.name)
 c1:W.cell? ⟨rb,ro+1,none⟩=some sv
 c2:W.cell? ⟨rb,ro+2,none⟩=some cv
 c3:W.cell? ⟨rb,ro+3,none⟩=some tv
 r3:Rl3 W sv cv tv r
theorem SyR.rol (J:SyR w s yb fb) {i:Nat} (R:i<s.roles.length):∃ rb a cap A h E,w.cell? ⟨yb,1,none⟩=some (.slice (some ⟨rb,a,none⟩) s.roles.length cap)∧RlF rb (a+i*4) A h E (s.rol i) w:=by
 obtain⟨S,K,N⟩:=J.out
 obtain⟨rb,a,cap,rfl,A,h,E,c0,G,H,I,O⟩:=N.at (SesD.rol_some R)
 exact⟨rb,a,cap,A,h,E,ae K 1,c0,G,H,I,O⟩
structure AcF (ab ao bb:Nat) (p:Nat) (l:List (CtrD × Int)) (W:World):Prop where
 c0:W.cell? ⟨ab,ao,none⟩=some (.int .i64 (p:Int))
 c1:W.cell? ⟨ab,ao+1,none⟩=some (.pointer (some ⟨bb,0,none⟩))
 bnk:Bnk W bb l
theorem AcF.frm {G ao H p:Nat} {l:List (CtrD × Int)} {A E:World} (a:AcF G ao H p l A) (h:Frm [] A E):AcF G ao H p l E:=⟨h.keep a.c0,h.keep a.c1,a.bnk.frm h⟩
theorem StR.act (G:StR w s yb sb x) {i:Nat} (J:i<s.roles.length):∃ a ao cap h,w.cell? ⟨sb,1,none⟩=some (.slice (some ⟨a,ao,none⟩) s.roles.length cap)∧AcF a (ao+i*2) h (x.at i) (x.ctr s i) w:=by
 obtain⟨K,N,A,H,-⟩:=G.out
 obtain⟨a,ao,cap,rfl,h,c0,E,I⟩:=H.at (fM J)
 rw[cB] at A
 exact⟨a,ao,cap,h,ae A 1,c0,E,I⟩
end
set_option maxRecDepth 100000 in
theorem ij (s:SesD) (yb fb:Nat) (w:World) (a:SyR w s yb fb):Calls Tryz.prog 60 #[.pointer (some ⟨yb,0,none⟩)] w (Ret (.bool false) (w=·)):=by
 obtain⟨E,h,-⟩:=a.out
 have A:=ae h 4
 clear h a
 go_enter Tryz.func60,Tryz.ntmps60
 go_wp2
 go_ret
 exact⟨rfl,rfl⟩
set_option maxRecDepth 100000 in
theorem fl (s:SesD) (yb sb:Nat) (x:PS) (w:World) (a:StR w s yb sb x):Calls Tryz.prog 101 #[.pointer (some ⟨sb,0,none⟩)] w (Ret (.bool false) (w=·)):=by
 obtain⟨A,E,h,-⟩:=a.out
 have c0:=ae h 0
 clear h a
 go_enter Tryz.func101,Tryz.ntmps101
 go_wp2
 go_ret
 exact⟨rfl,rfl⟩
theorem rC (yb:Nat) (a:World):(binOp .neq 27 (.pointer (some ⟨yb,0,none⟩)) (.pointer (some ⟨yb,0,none⟩))).run Tryz.prog a=.ok (.bool false) a:=by
 have h:(Tryz.prog.info? 116).isSome=true:=by kernel_rfl
 obtain⟨j,A⟩:=Option.isSome_iff_exists.1 h
 exact Lib.run_neq_ptr_same a _ Tryz.underlying27 A
set_option maxRecDepth 100000 in
theorem eJ (s:SesD) (yb fb sb:Nat) (x:PS) (w:World) (h:SyR w s yb fb) (a:StR w s yb sb x):Calls Tryz.prog 61 #[.pointer (some ⟨yb,0,none⟩),.pointer (some ⟨sb,0,none⟩)] w (Ret (.int .i64 0) (w=·)):=by
 have E:=vi (ij s yb fb w h)
 have G:=vi (fl s yb sb x w a)
 have I:=rC yb
 obtain⟨H,J,A,-⟩:=a.out
 have c0:=ae A 0
 clear A h a
 go_enter Tryz.func61,Tryz.ntmps61
 go_wp2_with (first
  | (go_at_call 60;go_must (refine E.out.mono ?_;rintro e w' ⟨rfl,rfl⟩))
  | (go_at_call 101;go_must (refine G.out.mono ?_;rintro e w' ⟨rfl,rfl⟩)))
 go_ret
 exact⟨rfl,rfl⟩
set_option maxRecDepth 100000 in
theorem gm (s:SesD) (yb fb:Nat) (w:World) (a:SyR w s yb fb):Calls Tryz.prog 18 #[.pointer (some ⟨yb,0,none⟩)] w (Ret (.pointer (some ⟨fb,0,none⟩)) (w=·)):=by
 have A:=vi (ij s yb fb w a)
 obtain⟨G,h,-⟩:=a.out
 have E:=ae h 4
 clear h a
 go_enter Tryz.func18,Tryz.ntmps18
 go_wp2_with (first
  | (go_at_call 60;go_must (refine A.out.mono ?_;rintro e w' ⟨rfl,rfl⟩)))
 go_ret
 exact⟨rfl,rfl⟩
set_option maxHeartbeats 4000000 in
set_option maxRecDepth 100000 in
theorem jX (s:SesD) (yb fb sb i k:Nat) (x:PS) (w:World) (V:SyR w s yb fb) (ar:StR w s yb sb x) (H:i<s.roles.length) (Y:k<(s.rol i).steps.length) :
  Calls Tryz.prog 122 #[.pointer (some ⟨yb,0,none⟩),.pointer (some ⟨sb,0,none⟩),.int .i64 i,.int .i64 k] w (Ret (.bool (dL s x i k)) (Frm [] w)):=by
 have aa:=V.ok
 have N:=ar.ok
 have K:∀ G,Hid (∀ a,Bnk a G (x.ctr s i)→Calls Tryz.prog 136 #[.pointer (some ⟨G,0,none⟩),dN ((s.rol i).stp k)] a (Ret (.tuple #[.bool (bY (s.rol i).ctrs (x.bank i) ((s.rol i).stp k)),.int .i64 0]) (Frm [] a))):=fun G=>vi fun a A=>by
  rw[← mE aa N H Y]
  exact lh G _ _ a A (gp aa N H) (pk aa N H Y)
 obtain⟨rb,bs,br,bt,bp,bu,ax,I⟩:=V.rol H
 obtain⟨bn,ao,ac,G,aw,al⟩:=ar.act H
 have W:(s.rol i).sts[x.at i]?=some ((s.rol i).sts.getD (x.at i) dS):=bf (N.pb i H)
 have ab:=RolD.stp_some Y
 have K:=K G
 have az:Hid (dL s x i k=(bY (s.rol i).ctrs (x.bank i) ((s.rol i).stp k) && decide (((s.rol i).sts.getD (x.at i) dS).name=((s.rol i).stp k).frm))):=vi rfl
 rw[az.out]
 have bi:(i:Int)<(s.roles.length:Int):=by omega
 have ap:((x.at i:Nat):Int)<((s.rol i).sts.length:Int):=by have:=N.pb i H;omega
 have aS:(k:Int)<((s.rol i).steps.length:Int):=by omega
 obtain⟨b,hb⟩:∃ b,bY (s.rol i).ctrs (x.bank i) ((s.rol i).stp k)=b:=⟨_,rfl⟩
 rw[hb] at K ⊢
 obtain⟨p,aW⟩:∃ p,x.at i=p:=⟨_,rfl⟩
 obtain⟨X,a0⟩:∃ X,(s.rol i).sts.getD (x.at i) dS=X:=⟨_,rfl⟩
 obtain⟨t,a1⟩:∃ t,(s.rol i).stp k=t:=⟨_,rfl⟩
 rw[a0] at W ⊢
 rw[a1] at ab K ⊢
 rw[aW] at al W ap
 obtain⟨r,aZ⟩:∃ r,s.rol i=r:=⟨_,rfl⟩
 obtain⟨l,aP⟩:∃ l,x.ctr s i=l:=⟨_,rfl⟩
 rw[aZ] at I W ab ap aS
 rw[aP] at al K
 obtain⟨n,aQ⟩:∃ n,s.roles.length=n:=⟨_,rfl⟩
 rw[aQ] at ax aw bi
 obtain⟨bm,aD,rfl⟩:=I.r3.sts.shape
 obtain⟨aB,aC,rfl⟩:=I.r3.ctrs.shape
 obtain⟨bo,aE,rfl⟩:=I.r3.steps.shape
 obtain⟨b1,au,rfl,aN,-,-⟩:=I.r3.sts.get W
 obtain⟨b2,av,rfl,a2,a3,a4,a5,a6,a7,a8,a9,ba⟩:=I.r3.steps.get ab
 obtain⟨af,aT⟩:∃ af,r.sts.length=af:=⟨_,rfl⟩
 obtain⟨ad,aR⟩:∃ ad,r.ctrs.length=ad:=⟨_,rfl⟩
 obtain⟨ag,aU⟩:∃ ag,r.steps.length=ag:=⟨_,rfl⟩
 obtain⟨aF,aG,aH,aJ,-⟩:=I
 obtain⟨aL,bc,aM⟩:=al
 rw[aT] at aG ap
 rw[aR] at aH
 rw[aU] at aJ aS
 have bd:=aI aF
 have be:=aI aL
 have bg:=aI ax
 have bh:=aI aw
 have bb:=vi aM
 have aA:Hid (∀ a,Frm [] w a→a.cell? ⟨b1,au+p*3,none⟩=some (.string X.name)∧SpAt a b2 (av+k*9) t):=vi fun a A=>⟨A.keep aN,A.keep a2,A.keep a3,A.keep a4,A.keep a5,A.keep a6,A.keep a7,A.keep a8,A.keep a9,A.keep ba⟩
 clear az aW a0 a1 aZ aP aQ aT aR aU W ab aN a2 a3 a4 a5 a6 a7 a8 a9 ba V ar aa N H Y hb aM
 go_enter Tryz.func122,Tryz.ntmps122
 go_upto_region 1 with fail
 go_cut [9,10] (fun s9 s10 wc=>∃ ai aj,s9=.pointer (some ⟨ai,0,none⟩)∧s10=.pointer (some ⟨aj,0,none⟩)∧wc.heap[ai]?=some (.cells #[.string r.name,.slice (some ⟨b1,au,none⟩) af aD,.slice aB ad aC,.slice (some ⟨b2,av,none⟩) ag aE] 87 (0,0))∧wc.heap[aj]?=some (.cells #[.int .i64 p,.pointer (some ⟨G,0,none⟩)] 143 (0,0))∧Frm [] w wc)
 case first =>
  go_region
  all_goals
   go_wp2
   go_meet
   refine⟨_,_,rfl,rfl,?_,?_,?_⟩
   ·first
     | exact heap_alloc_new _ _
     | exact ah (heap_alloc_new _ _)
     | exact aq (by simp)
   ·first
     | exact heap_alloc_new _ _
     | exact ah (heap_alloc_new _ _)
     | exact aq (by simp)
   ·first
     | exact(((Frm.refl [] w).alloc _).alloc _).drew
     | exact(((Frm.refl [] w).drew).alloc _).alloc _
     | exact((Frm.refl [] w).alloc _).drew.alloc _
     | exact((Frm.refl [] w).alloc _).alloc _
 case rest =>
  obtain⟨ai,aj,rfl,rfl,aX,aY,aO⟩:=hcut
  have R:=vi aO
  have ak:Hid (∀ a,Frm [] wc a→a.heap[ai]?=some (.cells #[.string r.name,.slice (some ⟨b1,au,none⟩) af aD,.slice aB ad aC,.slice (some ⟨b2,av,none⟩) ag aE] 87 (0,0))∧a.heap[aj]?=some (.cells #[.int .i64 p,.pointer (some ⟨G,0,none⟩)] 143 (0,0))):=vi fun a A=>⟨A.at aX (by simp),A.at aY (by simp)⟩
  clear aF aG aH aJ aL bc bd be bg bh aw ax aX aY aO
  go_upto_region 2 with fail
  refine ay (by kernel_rfl) (by kernel_rfl) ?_
  repeat (first
   | go_big_quiet_skip
   | (refine wpQuiet_want (by rfl) (fun U h=>?_)
      first
       | (refine quiet_move _ (by rfl) (h _ ?_))
       | (refine quiet_assign _ (by rfl) (h _ ?_))
       | (refine aV (.tuple #[.bool b,.int .i64 0]) 136 #[.pointer (some ⟨G,0,none⟩),dN t] (fun w' E=>?_) (fun w' E=>Ret.cq (K.out w' (bb.out.frm (R.out.trans E))) (fun bx V=>E.trans V)) (h _ ?_)
          ·go_simp)
       | (apply Exists.intro
          refine⟨fun w' E=>?_,h _ ?_⟩
          ·(unfold Oper.quietAt
            obtain⟨J,O⟩:=ak.out w' E;obtain⟨-,u0,u1,u2,u3,u4,u5,u6,u7,u8⟩:=aA.out w' (R.out.trans E);have bk:=ae J 3;have bj:=ae O 1;clear J O
            clear E
            go_simp
            try exact⟨rfl,rfl⟩
            try rfl))
      clear h U
      try simp only[nrm,Act.eval,nrq]))
  refine wpQuiet_nil ?_
  intro bz am
  have S:=vi am
  cases b with
  | false =>
    clear am
    go_upto_region 3 with fail
    refine ay (by kernel_rfl) (by kernel_rfl) ?_
    repeat (first
     | go_big_quiet_skip
     | (refine wpQuiet_want (by rfl) (fun U h=>?_)
        first
         | (refine quiet_move _ (by rfl) (h _ ?_))
         | (refine quiet_assign _ (by rfl) (h _ ?_))
         | (apply Exists.intro
            refine⟨fun w' E=>?_,h _ ?_⟩
            ·(unfold Oper.quietAt
              obtain⟨J,O⟩:=ak.out w' (S.out.trans E)
              clear E
              go_simp
              try exact⟨rfl,rfl⟩
              try rfl))
        clear h U
        try simp only[nrm,Act.eval,nrq]))
    refine wpQuiet_nil ?_
    intro bl an
    go_wp2
    go_ret
    exact⟨rfl,(R.out.trans S.out).trans an⟩
  | true =>
    clear am
    have bq:(X.name.toList == t.frm.toList)=decide (X.name=t.frm):=aK _ _
    go_upto_region 3 with fail
    refine ay (by kernel_rfl) (by kernel_rfl) ?_
    repeat (first
     | go_big_quiet_skip
     | (refine wpQuiet_want (by rfl) (fun U h=>?_)
        first
         | (refine quiet_move _ (by rfl) (h _ ?_))
         | (refine quiet_assign _ (by rfl) (h _ ?_))
         | (apply Exists.intro
            refine⟨fun w' E=>?_,h _ ?_⟩
            ·(unfold Oper.quietAt
              obtain⟨J,O⟩:=ak.out w' (S.out.trans E);obtain⟨bv,u0,-⟩:=aA.out w' ((R.out.trans S.out).trans E);have bk:=ae J 3;have bj:=ae J 1;have bw:=ae O 0;clear J O
              clear E
              go_simp
              try exact⟨rfl,rfl⟩
              try rfl))
        clear h U
        try simp only[nrm,Act.eval,nrq]))
    refine wpQuiet_nil ?_
    intro bl an
    go_wp2
    go_ret
    exact⟨by simp,(R.out.trans S.out).trans an⟩
end Go.Proofs.YtohfkhjlnlahdaaGreat
namespace Go.Proofs.YtohfkhjlnlahdaaGreat
open Go.RowKit Go.BigFrame
structure ChS (w:World) (s:SesD) (x:PS) (yb xb ab gb rb cb f t:Nat) (F:List Nat) (L:List ByteArray) (W:World):Prop where
 fr:Frm [] w W
 new:w.heap.size≤xb∧w.heap.size≤ab∧w.heap.size≤gb∧w.heap.size≤rb∧∀ k∈F,w.heap.size≤k
 hx:∃ ca cg,W.heap[xb]?=some (.cells #[.pointer (some ⟨yb,0,none⟩),.slice (some ⟨ab,0,none⟩) s.roles.length ca,.slice (some ⟨gb,0,none⟩) s.roles.length cg] 147 (0,0))
 ha:∃ cur,W.heap[ab]?=some (.cells cur 143 (0,0))
 act:∀ i,i<s.roles.length→∃ bb,W.cell? ⟨ab,i*2,none⟩=some (.int .i64 ((x.at i:Nat):Int))∧W.cell? ⟨ab,i*2+1,none⟩=some (.pointer (some ⟨bb,0,none⟩))∧Bnk w bb (x.ctr s i)
 row:∀ i,i<s.roles.length→i≠f→∃ rv,W.cell? ⟨gb,i,none⟩=some rv∧RowV s.cls s.cap w rv (x.ways.getD i [])
 rowf:∃ cr,W.cell? ⟨gb,f,none⟩=some (.slice (some ⟨rb,0,none⟩) s.roles.length cr)
 chs:∀ k,k<s.roles.length→k≠t→∃ c G,W.cell? ⟨rb,k,none⟩=some (.pointer (some ⟨c,0,none⟩))∧Chn w c s.cls s.cap (x.way f k) G
 cht:W.cell? ⟨rb,t,none⟩=some (.pointer (some ⟨cb,0,none⟩))
 chn:Chn W cb s.cls s.cap L F
 types:(∃ c fr,W.heap[gb]?=some (.cells c 191 fr))∧∃ c fr,W.heap[rb]?=some (.cells c 130 fr)
structure Ch2 (w:World) (s:SesD) (x:PS) (yb xb ab gb rb f:Nat) (W:World):Prop where
 fr:Frm [] w W
 new:w.heap.size≤xb∧w.heap.size≤ab∧w.heap.size≤gb∧w.heap.size≤rb
 hx:∃ ca cg,W.heap[xb]?=some (.cells #[.pointer (some ⟨yb,0,none⟩),.slice (some ⟨ab,0,none⟩) s.roles.length ca,.slice (some ⟨gb,0,none⟩) s.roles.length cg] 147 (0,0))
 ha:∃ cur,W.heap[ab]?=some (.cells cur 143 (0,0))
 act:∀ i,i<s.roles.length→∃ bb,W.cell? ⟨ab,i*2,none⟩=some (.int .i64 ((x.at i:Nat):Int))∧W.cell? ⟨ab,i*2+1,none⟩=some (.pointer (some ⟨bb,0,none⟩))∧Bnk w bb (x.ctr s i)
 row:∀ i,i<s.roles.length→i≠f→∃ rv,W.cell? ⟨gb,i,none⟩=some rv∧RowV s.cls s.cap w rv (x.ways.getD i [])
 rowf:∃ cr,W.cell? ⟨gb,f,none⟩=some (.slice (some ⟨rb,0,none⟩) s.roles.length cr)
 chs:∀ k,k<s.roles.length→∃ c G,W.cell? ⟨rb,k,none⟩=some (.pointer (some ⟨c,0,none⟩))∧Chn w c s.cls s.cap (x.way f k) G
 tg:∃ c,W.heap[gb]?=some (.cells c 191 (0,0))
 tr:∃ c,W.heap[rb]?=some (.cells c 130 (0,0))
section
variable {w W W':World} {s:SesD} {x:PS} {yb xb ab gb rb cb f t:Nat} {F F':List Nat} {L L':List ByteArray}
theorem Chn.types (h:Chn W cb s.cls s.cap L F) {k:Nat} (a:k∈F):∃ c e,W.heap[k]?=some (.cells c e (0,0))∧(e=233∨e=9):=by
 obtain⟨H,A,E,-,rfl⟩:=h
 simp only[List.mem_cons,Option.mem_toList] at a
 rcases a with rfl | a
 ·exact⟨_,_,A,.inl rfl⟩
 ·obtain⟨c,G⟩:=ak E a
  exact⟨c,9,G,.inr rfl⟩
theorem Ch2.frm (a:Ch2 w s x yb xb ab gb rb f W) (h:Frm [] W W'):Ch2 w s x yb xb ab gb rb f W':=by
 obtain⟨O,R,aa⟩:=a.hx
 obtain⟨cur,U⟩:=a.ha
 obtain⟨K,ae⟩:=a.tg
 obtain⟨N,af⟩:=a.tr
 obtain⟨S,Y⟩:=a.rowf
 refine⟨a.fr.trans h,a.new,⟨O,R,h.at aa (by simp)⟩,⟨cur,h.at U (by simp)⟩,fun i G=>?_,fun i G X=>?_,⟨S,h.keep Y⟩,fun k V=>?_,⟨K,h.at ae (by simp)⟩,N,h.at af (by simp)⟩
 ·obtain⟨J,A,E,I⟩:=a.act i G
  exact⟨J,h.keep A,h.keep E,I⟩
 ·obtain⟨ad,A,E⟩:=a.row i G X
  exact⟨ad,h.keep A,E⟩
 ·obtain⟨c,H,A,E⟩:=a.chs k V
  exact⟨c,H,h.keep A,E⟩
theorem tW {G h:World} {V X I n:Nat} {J aa:Array Value} (ah:s.roles.length=n) (O:PSok s x) (af:f<s.roles.length) (au:Frm [] w h) (H:Frm [] G h) (aB:w.heap.size≤xb) (aC:w.heap.size≤ab) (ak:w.heap.size≤gb) (aH:G.heap.size≤rb)
  (aA:G.heap[xb]?=some (.cells #[.pointer (some ⟨yb,0,none⟩),.slice (some ⟨ab,0,none⟩) n V,.slice (some ⟨gb,0,none⟩) n X] 147 (0,0))) {Y:Array Value} (av:G.heap[ab]?=some (.cells Y 143 (0,0))) (aw:∀ (i:Nat) a,(fD s x)[i]?=some a→AoAt w G ab (i*2) a)
  (E:h.heap[gb]?=some (.cells J 191 (0,0))) (K:G.heap[gb]?=some (.cells J 191 (0,0))) (ag:∀ (i:Nat) R,x.ways[i]?=some R→WoAt s.cls s.cap w G gb (i*1) R) (ai:h.heap[rb]?=some (.cells aa 130 (0,0))) (az:∀ (k:Nat) M,(x.ways.getD f [])[k]?=some M→CoAt s.cls s.cap w h rb (k*1) M) :
  Ch2 w s x yb xb ab gb rb f (h.setCell ⟨gb,f,none⟩ (.slice (some ⟨rb,0,none⟩) n I)):=by
 have A:Frm [gb] h (h.setCell ⟨gb,f,none⟩ (.slice (some ⟨rb,0,none⟩) n I)):=(Frm.refl _ _).setCell _ (.inl (by simp)) _
 have hb:=ap E f (.slice (some ⟨rb,0,none⟩) n I)
 have am:=H.at aA (by simp)
 have U:=H.at av (by simp)
 have aD:xb∉[gb]:=fun e=>by simp at e;subst e;rw[am] at E;cases E
 have S:ab∉[gb]:=fun e=>by simp at e;subst e;rw[U] at E;cases E
 have al:rb∉[gb]:=fun e=>by simp at e;subst e;rw[ai] at E;cases E
 have ax:f<J.size:=by
  obtain⟨v,ad,-⟩:=ag f _ (bf (d:=[]) (by rw[O.wl];exact af))
  rw[Nat.mul_one,ae K] at ad
  exact(Array.getElem?_eq_some_iff.1 ad).1
 have aG:=H.size
 have aF:=lt_of_block K
 refine⟨au.then A (by intro y aj;simp at aj;subst aj;exact .inr ak),⟨aB,aC,ak,by omega⟩,⟨V,X,by rw[ah];exact A.at am aD⟩,⟨Y,A.at U S⟩,fun i N=>?_,fun i N aE=>?_,⟨I,?_⟩,fun k ay=>?_,⟨_,hb⟩,aa,A.at ai al⟩
 ·obtain⟨ar,b1,b2,aq⟩:=aw i _ (fM N)
  exact⟨ar,A.cellAt (H.keep b1) S,A.cellAt (H.keep b2) S,aq⟩
 ·obtain⟨v,b1,b2⟩:=ag i _ (bf (d:=[]) (by rw[O.wl];exact N))
  rw[Nat.mul_one] at b1
  refine⟨v,?_,b2⟩
  rw[ae hb,Array.getElem?_setIfInBounds_ne (by omega),← ae K]
  exact b1
 ·rw[ae hb,Array.getElem?_setIfInBounds_self_of_lt ax,ah]
 ·obtain⟨c,an,b1,b2⟩:=az k _ (bf (d:=[]) (by rw[O.wr f af];exact ay))
  rw[Nat.mul_one] at b1
  exact⟨c,an,A.cellAt b1 al,b2⟩
theorem Ch2.fin {J:World} (H:Ch2 w s x yb xb ab gb rb f W) (am:Frm [] W J) (U:Chn J cb s.cls s.cap L F) (al:∀ k∈F,W.heap.size≤k) (ar:t<s.roles.length):ChS w s x yb xb ab gb rb cb f t F L (J.setCell ⟨rb,t,none⟩ (.pointer (some ⟨cb,0,none⟩))):=by
 have h:=H.frm am
 obtain⟨ai,aj,X⟩:=h.hx
 obtain⟨cur,S⟩:=h.ha
 obtain⟨ag,aa⟩:=h.tg
 obtain⟨ah,A⟩:=h.tr
 obtain⟨ak,an⟩:=h.rowf
 have E:Frm [rb] J (J.setCell ⟨rb,t,none⟩ (.pointer (some ⟨cb,0,none⟩))):=(Frm.refl _ _).setCell _ (.inl (by simp)) _
 have hb:=ap A t (.pointer (some ⟨cb,0,none⟩))
 have av:xb∉[rb]:=fun e=>by simp at e;subst e;rw[X] at A;cases A
 have N:ab∉[rb]:=fun e=>by simp at e;subst e;rw[S] at A;cases A
 have O:gb∉[rb]:=fun e=>by simp at e;subst e;rw[aa] at A;cases A
 have au:∀ k∈F,k∉[rb]:=fun k I e=>by
  obtain⟨c,ax,a,G⟩:=U.types I
  simp at e;subst e
  rw[A] at a;cases a
  revert G;decide
 have aq:t<ah.size:=by
  obtain⟨c,R,a,-⟩:=h.chs t ar
  rw[ae A] at a
  exact(Array.getElem?_eq_some_iff.1 a).1
 have ay:=H.fr.size
 refine⟨h.fr.then E (by intro y Y;simp at Y;subst Y;exact .inr H.new.2.2.2),⟨H.new.1,H.new.2.1,H.new.2.2.1,H.new.2.2.2,fun k I=>by have:=al k I;omega⟩,⟨ai,aj,E.at X av⟩,⟨cur,E.at S N⟩,fun i K=>?_,fun i K V=>?_,⟨ak,E.cellAt an O⟩,fun k I V=>?_,?_,U.frm E au,⟨ag,(0,0),E.at aa O⟩,_,(0,0),hb⟩
 ·obtain⟨af,a,G,ad⟩:=h.act i K
  exact⟨af,E.cellAt a N,E.cellAt G N,ad⟩
 ·obtain⟨aw,a,G⟩:=h.row i K V
  exact⟨aw,E.cellAt a O,G⟩
 ·obtain⟨c,R,a,G⟩:=h.chs k I
  refine⟨c,R,?_,G⟩
  rw[ae hb,Array.getElem?_setIfInBounds_ne (by omega),← ae A]
  exact a
 ·rw[ae hb,Array.getElem?_setIfInBounds_self_of_lt aq]
theorem ChS.frm (h:ChS w s x yb xb ab gb rb cb f t F L W) (a:Frm [] W W'):ChS w s x yb xb ab gb rb cb f t F L W':=by
 obtain⟨R,S,ae⟩:=h.hx
 obtain⟨cur,Y⟩:=h.ha
 obtain⟨⟨N,V,ag⟩,O,X,ah⟩:=h.types
 obtain⟨U,ad⟩:=h.rowf
 refine⟨h.fr.trans a,h.new,⟨R,S,a.at ae (by simp)⟩,⟨cur,a.at Y (by simp)⟩,fun i G=>?_,fun i G H=>?_,⟨U,a.keep ad⟩,fun k aa H=>?_,a.keep h.cht,h.chn.frm a (by simp),⟨N,V,a.at ag (by simp)⟩,O,X,a.at ah (by simp)⟩
 ·obtain⟨K,A,E,J⟩:=h.act i G
  exact⟨K,a.keep A,a.keep E,J⟩
 ·obtain⟨af,A,E⟩:=h.row i G H
  exact⟨af,a.keep A,E⟩
 ·obtain⟨c,I,A,E⟩:=h.chs k aa H
  exact⟨c,I,a.keep A,E⟩
theorem ChS.chan (a:ChS w s x yb xb ab gb rb cb f t F L W) (ak:ChnTo W cb s.cls s.cap L' F W'):∃ F',ChS w s x yb xb ab gb rb cb f t F' L' W':=by
 obtain⟨F',am,G,an⟩:=ak
 obtain⟨af,ag,S⟩:=a.hx
 obtain⟨cur,R⟩:=a.ha
 obtain⟨⟨ad,ai,U⟩,ae,aj,V⟩:=a.types
 obtain⟨ah,al⟩:=a.rowf
 have ap:xb∉F:=fun E=>by obtain⟨c,e,h,A⟩:=a.chn.types E;rw[S] at h;cases h;revert A;decide
 have J:ab∉F:=fun E=>by obtain⟨c,e,h,A⟩:=a.chn.types E;rw[R] at h;cases h;revert A;decide
 have K:gb∉F:=fun E=>by obtain⟨c,e,h,A⟩:=a.chn.types E;rw[U] at h;cases h;revert A;decide
 have N:rb∉F:=fun E=>by obtain⟨c,e,h,A⟩:=a.chn.types E;rw[V] at h;cases h;revert A;decide
 have ar:=a.fr.size
 refine⟨F',a.fr.then G (fun k E=>.inr (a.new.2.2.2.2 k E)),⟨a.new.1,a.new.2.1,a.new.2.2.1,a.new.2.2.2.1,fun k E=>?_⟩,⟨af,ag,G.at S ap⟩,⟨cur,G.at R J⟩,fun i H=>?_,fun i H I=>?_,⟨ah,G.cellAt al K⟩,fun k E I=>?_,G.cellAt a.cht N,am,⟨ad,ai,G.at U K⟩,ae,aj,G.at V N⟩
 ·rcases an k E with O | O
  ·exact a.new.2.2.2.2 k O
  ·omega
 ·obtain⟨aa,h,A,Y⟩:=a.act i H
  exact⟨aa,G.cellAt h J,G.cellAt A J,Y⟩
 ·obtain⟨aq,h,A⟩:=a.row i H I
  exact⟨aq,G.cellAt h K,A⟩
 ·obtain⟨c,X,h,A⟩:=a.chs k E I
  exact⟨c,X,G.cellAt h N,A⟩
theorem ChS.ways (a:ChS w s x yb xb ab gb rb cb f t F L W) (E:PSok s x) (K:f<s.roles.length) (ad:t<s.roles.length):∃ H J,W.heap[xb]?=some (.cells #[.pointer (some ⟨yb,0,none⟩),.slice (some ⟨ab,0,none⟩) s.roles.length J,.slice (some ⟨gb,0,none⟩) s.roles.length H] 147 (0,0)) ∧
  Arr 1 (RwAt s.cls s.cap) W (.slice (some ⟨gb,0,none⟩) s.roles.length H) (setWay x.ways f t L):=by
 obtain⟨J,H,X⟩:=a.hx
 obtain⟨S,V⟩:=a.rowf
 refine⟨H,J,X,some ⟨gb,0,none⟩,H,by rw[dk,E.wl],fun i aa h=>⟨gb,0,rfl,?_⟩⟩
 have N:=ag h
 rw[dk,E.wl] at N
 rw[Nat.zero_add,Nat.mul_one]
 unfold setWay at h
 rw[List.getElem?_set] at h
 by_cases e:f=i
 ·subst e
  rw[if_pos rfl,if_pos (by rw[E.wl];exact N)] at h
  cases h
  refine⟨_,V,some ⟨rb,0,none⟩,S,by rw[List.length_set,E.wr f K],fun k M A=>⟨rb,0,rfl,?_⟩⟩
  have O:=ag A
  rw[List.length_set,E.wr f K] at O
  rw[Nat.zero_add,Nat.mul_one]
  rw[List.getElem?_set] at A
  by_cases e2:t=k
  ·subst e2
   rw[if_pos rfl,if_pos (by rw[E.wr f K];exact O)] at A
   cases A
   exact⟨cb,F,a.cht,a.chn⟩
  ·rw[if_neg e2] at A
   obtain⟨c,R,I,G⟩:=a.chs k O (fun e=>e2 e.symm)
   have:x.way f k=M:=by unfold PS.way fE;exact aW A
   rw[this] at G
   exact⟨c,R,I,G.frm a.fr (by simp)⟩
 ·rw[if_neg e] at h
  obtain⟨Y,I,G⟩:=a.row i N (fun U=>e U.symm)
  rw[aW h] at G
  exact⟨Y,I,G.frm a.fr⟩
theorem ChS.str (a:ChS w s x yb xb ab gb rb cb f t F L W) (U:PSok s x) (O:f<s.roles.length) (S:t<s.roles.length) (R:PSok s { x with ways:=setWay x.ways f t L }):StR W s yb xb { x with ways:=setWay x.ways f t L }:=by
 obtain⟨X,J,K,N⟩:=a.ways U O S
 refine⟨⟨_,_,K,⟨some ⟨ab,0,none⟩,J,by rw[cB],fun i V h=>⟨ab,0,rfl,?_⟩⟩,N⟩,R⟩
 have A:i<s.roles.length:=by have:=ag h;rwa [cB] at this
 rw[fM A] at h
 cases h
 obtain⟨I,E,G,H⟩:=a.act i A
 rw[Nat.zero_add]
 exact⟨I,E,G,H.frm a.fr⟩
end
end Go.Proofs.YtohfkhjlnlahdaaGreat
namespace Go.Proofs.YtohfkhjlnlahdaaGreat
open Go.RowKit Go.BigFrame
theorem Arr.imp {α:Type} {k:Nat} {At a:World→Nat→Nat→α→Prop} {w w':World} {v:Value} {h:List α} (I:∀ b o x,At w b o x→a w' b o x) (A:Arr k At w v h):Arr k a w' v h:=by
 obtain⟨ao,cap,E,G⟩:=A
 refine⟨ao,cap,E,fun i x J=>?_⟩
 obtain⟨b,o,e,H⟩:=G i x J
 exact⟨b,o,e,I _ _ _ H⟩
theorem Fr.row {α:Type} {k:Nat} {e:TypeId} {At:World→Nat→Nat→α→Prop} {w w':World} {a:List α} {v:Value} (A:Fr k e At w a v w') (h:a.length≠0) :
  ∃ g cap cur,v=.slice (some ⟨g,0,none⟩) a.length cap∧w.heap.size≤g∧w'.heap[g]?=some (.cells cur e (0,0))∧∀ (i:Nat) x,a[i]?=some x→At w' g (i*k) x:=by
 rcases A.own with e | ⟨K,I⟩
 ·rw[e] at h;simp at h
 ·obtain⟨g,cap,cur,rfl,H,G⟩:=aZ I h
  refine⟨g,cap,cur,rfl,H,G,fun i x J=>?_⟩
  obtain⟨b,o,e,E⟩:=A.arr.get J
  cases e
  rw[Nat.zero_add] at E
  exact E
set_option maxHeartbeats 4000000 in
set_option maxRecDepth 100000 in
theorem eV (s:SesD) (R sb f t:Nat) (x:PS) (w:World) (az:StR w s R sb x) (bl:f<s.roles.length) (bs:t<s.roles.length) (cj:s.roles.length≤4) :
  Calls Tryz.prog 64 #[.pointer (some ⟨sb,0,none⟩),.int .i64 f,.int .i64 t] w (aU fun v w'=>∃ J N A rb cb F,v=.tuple #[.pointer (some ⟨J,0,none⟩),.pointer (some ⟨cb,0,none⟩)]∧ChS w s x R J N A rb cb f t F (x.way f t) w'):=by
 have bZ:=vi az
 obtain⟨b6,co,ad,V,E⟩:=az.out
 have ah:=az.ok
 obtain⟨aq,au,rfl⟩:=V.shape
 obtain⟨ar,av,rfl⟩:=E.shape
 obtain⟨n,ag⟩:∃ n,s.roles.length=n:=⟨_,rfl⟩
 have aS:Hid (∀ a,Frm [] w a→Calls Tryz.prog 124 #[.slice aq n au] a (aU (Fr 2 143 (AoAt w) a (fD s x)))):=vi fun a h=>by
  have:=jT w (.slice aq (fD s x).length au) (fD s x) a (V.imp fun _ _ _ ab=>AoAt.frm ab h) (by rw[cB];omega)
  rwa [cB,ag] at this
 have aW:Hid (∀ a,Frm [] w a→Calls Tryz.prog 125 #[.slice ar n av] a (aU (Fr 1 191 (WoAt s.cls s.cap w) a x.ways))):=vi fun a h=>by
  have:=kM s.cls s.cap w (.slice ar x.ways.length av) x.ways a (E.imp fun _ _ _ ab=>WoAt.frm ab h) (by rw[ah.wl];omega)
  rwa [ah.wl,ag] at this
 rw[cB,ah.wl,ag] at ad
 have aa:Hid (∀ a,Frm [] w a→a.cell? ⟨sb,0,none⟩=some (.pointer (some ⟨R,0,none⟩))∧a.cell? ⟨sb,1,none⟩=some (.slice aq n au)∧a.cell? ⟨sb,2,none⟩=some (.slice ar n av)):=vi fun a h=>⟨h.keep (ae ad 0),h.keep (ae ad 1),h.keep (ae ad 2)⟩
 have I:=vi ag;have K:=vi ah;have S:=vi bl;have ba:=vi bs
 have ck:(f:Int)<(n:Int):=by omega
 have cl:(t:Int)<(n:Int):=by omega
 clear ad V E az ah ag bl bs
 go_enter Tryz.func64,Tryz.ntmps64
 go_upto_region 1 with fail
 go_region_held3 (fun a=>a.cell? ⟨sb,0,none⟩=some (.pointer (some ⟨R,0,none⟩))∧a.cell? ⟨sb,1,none⟩=some (.slice aq n au)∧a.cell? ⟨sb,2,none⟩=some (.slice ar n av))
  (first
   | exact aa.out _ ((Frm.refl [] w).drew)
   | exact aa.out _ F1.out
   | exact aa.out _ X.out
   | exact aa.out _ (X.out.alloc _))
  (first
   | (go_at_call 124;go_must (refine(aS.out _ ((Frm.refl [] w).drew)).mono ?_;rintro e bv ⟨u,rfl,G⟩;have F1:Hid (Frm [] w bv):=vi ((Frm.refl [] w).drew.trans G.frm);have O:=G.row (by rw[cB,I.out];omega);rw[cB,I.out] at O;obtain⟨N,bb,ce,rfl,be,bh,bg⟩:=O;have a0:=vi be;have a3:=vi bh;have a1:=vi bg;clear be bh bg G))
   | (go_at_call 125;go_must (refine(aW.out _ F1.out).mono ?_;rintro e U ⟨u,rfl,G⟩;have X:Hid (Frm [] w U):=vi (F1.out.trans G.frm);have aX:=vi G.frm;have O:=G.row (by rw[K.out.wl,I.out];omega);rw[K.out.wl,I.out] at O;obtain⟨A,aJ,cf,rfl,bo,bi,bp⟩:=O;have a6:=vi bo;have a4:=vi bi;have aF:=vi bp;clear bo bi bp G)))
 obtain⟨H,W⟩:∃ H,U.alloc (.cells #[.pointer (some ⟨R,0,none⟩),.slice (some ⟨N,0,none⟩) n bb,.slice (some ⟨A,0,none⟩) n aJ] 147)=H:=⟨_,rfl⟩
 have aY:Hid (Frm [] w H):=vi (by rw[← W];exact X.out.alloc _)
 have aD:Hid (Frm [] bv H):=vi (by rw[← W];exact aX.out.alloc _)
 have ai:Hid (Frm [] U H):=vi (by rw[← W];exact(Frm.refl _ _).alloc _)
 have an:Hid (H.heap[U.heap.size]?=some (.cells #[.pointer (some ⟨R,0,none⟩),.slice (some ⟨N,0,none⟩) n bb,.slice (some ⟨A,0,none⟩) n aJ] 147 (0,0))):=vi (by rw[← W];exact heap_alloc_new _ _)
 have a5:=vi W
 have bm:(x.ways)[f]?=some (x.ways.getD f []):=bf (by rw[K.out.wl];exact S.out)
 obtain⟨cm,aP,aQ⟩:=aF.out f _ bm
 obtain⟨aG,aK,rfl⟩:=aQ.shape
 rw[K.out.wr f S.out,I.out,Nat.mul_one] at aP
 have aV:Hid (∀ a,Frm [] w a→Calls Tryz.prog 126 #[.slice aG n aK] a (aU (Fr 1 130 (CoAt s.cls s.cap w) a (x.ways.getD f [])))):=vi fun a h=>by
  have:=lY s.cls s.cap w (.slice aG (x.ways.getD f []).length aK) (x.ways.getD f []) a (aQ.imp fun _ _ _ ab=>CoAt.frm ab h) (by rw[K.out.wr f S.out];omega)
  rwa [K.out.wr f S.out,I.out] at this
 have a8:=vi aP
 have al:Hid (∀ a,Frm [] H a→a.cell? ⟨U.heap.size,2,none⟩=some (.slice (some ⟨A,0,none⟩) n aJ)∧a.cell? ⟨A,f,none⟩=some (.slice aG n aK)):=vi fun a h=>⟨h.keep (ae an.out 2),(ai.out.trans h).keep a8.out⟩
 clear W bm aP aQ aS aW aa
 go_upto_region 2 with fail
 rw[a5.out]
 have a2:Hid (∀ (i:Nat) ap,(fD s x)[i]?=some ap→AoAt w H N (i*2) ap):=vi fun i ap bM=>(a1.out i ap bM).frm aD.out
 have a7:Hid (∀ (i:Nat) am,x.ways[i]?=some am→WoAt s.cls s.cap w H A (i*1) am):=vi fun i am bL=>(aF.out i am bL).frm ai.out
 have aR:=vi (aD.out.at a3.out (by simp))
 have aC:=vi (ai.out.at a4.out (by simp))
 have Y:Hid (w.heap.size≤U.heap.size∧w.heap.size≤N∧w.heap.size≤A):=vi ⟨X.out.size,a0.out,Nat.le_trans F1.out.size a6.out⟩
 obtain⟨J,bt⟩:∃ J,U.heap.size=J:=⟨_,rfl⟩
 rw[bt] at al an Y ⊢
 clear bt aX a1 aF a3 a4 a0 a6 a5 aD ai a8 F1 X
 obtain⟨aB,bw⟩:=al.out H (Frm.refl _ _)
 have bO:=aI bw
 go_cut [] (fun wc=>∃ rb,Ch2 w s x R J N A rb f wc)
 case first =>
  go_region_law (first
   | (go_simp;go_at_call 126;go_must (refine(aV.out _ aY.out.drew).mono ?_;rintro e bT ⟨u,rfl,G⟩;have ak:Hid (Frm [] H bT):=vi ((Frm.refl [] H).drew.trans G.frm);have O:=G.row (by rw[K.out.wr f S.out,I.out];omega);rw[K.out.wr f S.out,I.out] at O;obtain⟨rb,cc,cg,rfl,bq,bj,br⟩:=O;have bD:=vi bq;have bz:=vi bj;have bE:=vi br;have aH:=ak.out.at aC.out (by simp);obtain⟨ch,ca⟩:=al.out _ ak.out;have ci:=aj aH f;have bx:=vi aH;clear bq bj br G aH)))
  all_goals
   go_wp2
   go_meet
   exact⟨rb,tW I.out K.out S.out (aY.out.trans ak.out) ak.out Y.out.1 Y.out.2.1 Y.out.2.2 bD.out an.out aR.out a2.out bx.out aC.out a7.out bz.out bE.out⟩
 case rest =>
  obtain⟨rb,V⟩:=hcut
  have aE:=vi V
  clear V aB bw bO al an a2 a7 aR aC Y aV
  have E:=aE.out
  obtain⟨b7,bH,aA⟩:=E.hx
  obtain⟨bJ,ax⟩:=E.rowf
  obtain⟨c0,bX,aL,aM⟩:=E.chs t ba.out
  obtain⟨b9,bS⟩:=E.tg
  obtain⟨cd,bu⟩:=E.tr
  rw[I.out] at aA ax
  have bW:=vi E.fr
  have bY:=vi aM
  have a9:Hid (∀ a,Frm [] wc a→a.cell? ⟨J,2,none⟩=some (.slice (some ⟨A,0,none⟩) n bH)∧a.cell? ⟨A,f,none⟩=some (.slice (some ⟨rb,0,none⟩) n bJ)∧a.cell? ⟨rb,t,none⟩=some (.pointer (some ⟨c0,0,none⟩))∧a.frozen? ⟨rb,t,none⟩=false):=
   vi fun a h=>⟨h.keep (ae aA 2),h.keep ax,h.keep aL,aj (h.at bu (by simp)) t⟩
  have aT:=vi (qU (aM.frm E.fr.drew (by simp)))
  have aB:=ae aA 2
  have bP:=aI aB
  have bQ:=aI ax
  have bR:=aI aL
  clear E aA bS bu aM
  go_upto_region 3 with fail
  go_cut [] (fun bV=>∃ cb F,ChS w s x R J N A rb cb f t F (x.way f t) bV)
  case first =>
   go_region_law (first
    | (go_simp;go_at_call 127;go_must (refine aT.out.mono ?_;rintro e bU ⟨u,rfl,cb,F,rfl,bk,bn,bd⟩;have aZ:Hid (Frm [] wc bU):=vi ((Frm.refl [] wc).drew.trans bn);have bA:=vi bk;have bC:=vi bd;obtain⟨b0,b3,b4,b5⟩:=a9.out _ aZ.out;clear bk bn bd)))
   all_goals
    go_wp2
    go_meet
    exact⟨cb,F,aE.out.fin aZ.out bA.out bC.out ba.out⟩
  case rest =>
   obtain⟨cb,F,af⟩:=hcut
   have bB:=vi af
   obtain⟨b8,bI,aO⟩:=af.hx
   obtain⟨bK,aN⟩:=af.rowf
   rw[I.out] at aO aN
   have bF:Hid (∀ a,Frm [] wc a→a.cell? ⟨J,2,none⟩=some (.slice (some ⟨A,0,none⟩) n bI)∧a.cell? ⟨A,f,none⟩=some (.slice (some ⟨rb,0,none⟩) n bK)∧a.cell? ⟨rb,t,none⟩=some (.pointer (some ⟨cb,0,none⟩))):=
    vi fun a h=>⟨h.keep (ae aO 2),h.keep aN,h.keep af.cht⟩
   clear af aO aN aB bP bQ bR aL ax a9 aT aE
   go_upto_region 4 with fail
   refine ay (by kernel_rfl) (by kernel_rfl) ?_
   repeat (first
    | go_big_quiet_skip
    | (refine wpQuiet_want (by rfl) (fun bG aw=>?_)
       first
        | (refine quiet_move _ (by rfl) (aw _ ?_))
        | (refine quiet_assign _ (by rfl) (aw _ ?_))
        | (apply Exists.intro
           refine⟨fun w' bc=>?_,aw _ ?_⟩
           ·(unfold Oper.quietAt
             obtain⟨cp,cq,cr⟩:=bF.out w' bc
             clear bc
             go_simp
             try exact⟨rfl,rfl⟩
             try rfl))
       clear aw bG
       try simp only[nrm,Act.eval,nrq]))
   refine wpQuiet_nil ?_
   intro cn bN
   go_wp2
   go_ret2
   exact⟨_,rfl,J,N,A,rb,cb,F,rfl,bB.out.frm bN⟩
end Go.Proofs.YtohfkhjlnlahdaaGreat
