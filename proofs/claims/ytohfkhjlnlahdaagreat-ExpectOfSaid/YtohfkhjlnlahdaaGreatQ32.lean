/- Part of the proof. -/
import Derived.Test.YtohfkhjlnlahdaaGreatQ04
import Derived.Test.YtohfkhjlnlahdaaGreatQ25
import Derived.Test.YtohfkhjlnlahdaaGreatQ31
set_option linter.all false
namespace Go.Proofs.YtohfkhjlnlahdaaGreat
open Go.RowKit Go.BigFrame
def IvR (a:World) (v:Value) (l:List Int):Prop:=a.ownsRow 0 3 1 v l.length (l.map iv)
theorem IAt.mov:cL 1 IAt:=fun w b o x h=>⟨[.int .i64 x],rfl,by simp[Value.oneCell'],fun j u a=>by
 cases j with
 | zero=>simp at a;subst a;exact h
 | succ j=>simp at a,fun w' E G _ A=>A 0 _ rfl⟩
theorem ua {h:World} {base:Nat} {v:Value} {a:List Int} {R:List Value} (N:h.ownsRow base 3 1 v a.length R) (I:Arr 1 IAt h v a):h.ownsRow base 3 1 v a.length (a.map iv):=by
 obtain⟨S,A⟩:=N
 refine⟨by simp,?_⟩
 rcases A with A | ⟨g,cap,cur,rfl,hb,G,K,J,O,U⟩
 ·exact .inl A
 ·refine .inr ⟨g,cap,cur,rfl,hb,G,K,J,O,?_⟩
  apply List.ext_getElem?
  intro j
  rw[List.getElem?_take,List.getElem?_map]
  by_cases hj:j<a.length
  ·obtain⟨x,H⟩:∃ x,a[j]?=some x:=⟨_,List.getElem?_eq_getElem hj⟩
   obtain⟨b,o,e,E⟩:=I.get H
   cases e
   unfold IAt at E
   rw[ae G,Nat.zero_add,Nat.mul_one] at E
   rw[if_pos (by omega),H]
   simpa[iv] using E
  ·rw[if_neg (by omega),List.getElem?_eq_none (by omega)];rfl
theorem sL {h:World} {base e n g cap k:Nat} {A:List Value} (K:h.ownsRow base e 1 (.slice (some ⟨g,0,none⟩) n cap) n A) (u:Value):(h.setCell ⟨g,k,none⟩ u).ownsRow base e 1 (.slice (some ⟨g,0,none⟩) n cap) n (A.set k u):=by
 obtain⟨G,a⟩:=K
 refine⟨by simpa using G,.inr ?_⟩
 rcases a with ⟨a,-⟩ | ⟨S,R,cur,E,hb,H,J,I,N,O⟩
 ·cases a
 ·cases E
  refine⟨g,cap,_,rfl,hb,ap H k u,J,I,by simpa using N,?_⟩
  rw[← O,Array.toList_setIfInBounds,List.take_set]
theorem IvR.arr {a:World} {v:Value} {l:List Int} (h:IvR a v l):Arr 1 IAt a v l:=iS h rfl
theorem IvR.frm {F:List Nat} {h a:World} {v:Value} {l:List Int} (A:IvR h v l) (E:Frm F h a) (G:∀ k,v.ownBlock=some k→k∉F):IvR a v l:=E.owns A G
theorem Tryz.info159s:(Tryz.prog.info? 159).map (·.size)=some 2:=by kernel_rfl
theorem ft {fn:Func} {p q:Tmp} (h:fn.results=#[.cell p 159,.tmp q]) {tmps:Array Value} {w:World} {g:Nat} {a:Array Value} {t:TypeId} {v:Value} (E:tmps.getD p undef=.pointer (some ⟨g,0,none⟩)) (H:tmps.getD q undef=v) (A:w.heap[g]?=some (.cells a t (0,0))) (J:a.size=2) :
  (results fn tmps).run Tryz.prog w=.ok (.tuple #[.agg a,v]) w:=by
 have G:tmps[p]?.getD undef=.pointer (some ⟨g,0,none⟩):=by simpa using E
 have I:tmps[q]?.getD undef=v:=by simpa using H
 simp[results,h,G,I,asAddr,run_loadVar_row w g t 159 a (0,0) _ A Tryz.underlying159 rfl (by rw[Tryz.info159s,J])]
def ApV (w:World) (h E:Value) (A:List Int) (e:Int) (u:Value) (w':World):Prop:=
 ∃ a,u=.tuple #[.agg #[h,a],.int .i64 e]∧IvR w' a A∧Frm [] w w'∧∀ k,a.ownBlock=some k→E.ownBlock=some k∨w.heap.size≤k
theorem qS (a b:Option Addr) (n c m d:Nat):(#[.slice a n c,.slice b m d]:Array Value).all (·.oneCell')=true:=by
 rw[← Array.all_toList];rfl
set_option maxHeartbeats 4000000 in
set_option maxRecDepth 100000 in
theorem nI (a5 aC:Value) (h:List CtrD) (a:List Int) (t:StpD) (w:World) (aO:Arr 2 CtAt w a5 h) (aS:IvR w aC a) (aA:BkOk h a t) :
  Calls Tryz.prog 86 #[.agg #[a5,aC],dN t] w (aU (ApV w a5 aC (if bY h a t=true then cJ h a t else a) (if bY h a t=true then 0 else 8))):=by
 obtain⟨aw,ax,rfl⟩:=aO.shape
 obtain⟨W,X,rfl⟩:=aS.arr.shape
 have a0:=vi (fun H (S:Frm [] w H)=>gJ (.agg #[.slice aw h.length ax,.slice W a.length X]) h a t H ⟨_,_,rfl,aO.frm fun _ _ _ E=>E.frm S,aS.arr.frm fun _ _ _ E=>S.keep E⟩ aA)
 have a1:=vi (fun H (S:Frm [] w H) (aC:Value)=>j5 (.slice aw h.length ax) aC h t.ctr H (aO.frm fun _ _ _ E=>E.frm S) aA.n)
 obtain⟨n,ar⟩:∃ n,h.length=n:=⟨_,rfl⟩
 have an:=aA.l
 rw[ar] at an
 have a4:Hid (w.ownsRow 0 3 1 (.slice W n X) n (a.map iv)):=vi (by have:=aS;unfold IvR at this;rw[an] at this;exact this)
 obtain⟨b,hb⟩:∃ b,bY h a t=b:=⟨_,rfl⟩
 rw[hb,ar,an] at a0
 rw[ar] at a1
 obtain⟨R,al⟩:∃ R,((w.alloc (.cells #[.slice aw n ax,.slice W n X] 159)).alloc (.cells #[.string t.frm,.string t.to,.int .i64 t.kind,.string t.msg,.string t.peer,.string t.ctr,.int .i64 t.low,.int .i64 t.high,.int .i64 t.add] 137)).alloc (.cells #[.slice none 0 0,.slice none 0 0] 159)=R:=⟨_,rfl⟩
 have aa:Hid (Frm [] w R):=vi (by rw[← al];exact(((Frm.refl _ _).alloc _).alloc _).alloc _)
 have O:Hid (R.heap[w.heap.size]?=some (.cells #[.slice aw n ax,.slice W n X] 159 (0,0))):=vi (by rw[← al];exact ah (ah (heap_alloc_new _ _)))
 have ai:Hid (R.heap[w.heap.size+1]?=some (.cells #[.string t.frm,.string t.to,.int .i64 t.kind,.string t.msg,.string t.peer,.string t.ctr,.int .i64 t.low,.int .i64 t.high,.int .i64 t.add] 137 (0,0))):=vi (by rw[← al];exact ah (aq (by simp)))
 have a3:Hid (R.heap[w.heap.size+1+1]?=some (.cells #[.slice none 0 0,.slice none 0 0] 159 (0,0))):=vi (by rw[← al];exact aq (by simp))
 have ad:=vi (a0.out R aa.out)
 have ag:=vi al
 have b6:=vi hb
 have aF:=vi aA
 have bg:=vi ar
 have N:=vi an
 rw[hb,ar,an]
 clear aO aS aA ar an al hb a0
 cases b with
 | false =>
   simp only[Bool.false_eq_true,if_false]
   go_enter Tryz.func86,Tryz.ntmps86
   go_upto_region 1 with fail
   rw[ag.out]
   clear ag
   go_wp2_with (first
    | (refine af rfl 159 _ rfl _ rfl _ 159 O.out _ Tryz.underlying159 rfl (by kernel_rfl) ?_)
    | (refine af rfl 137 _ rfl _ rfl _ 137 ai.out _ Tryz.underlying137 rfl (by kernel_rfl) ?_)
    | (go_at_call 149;go_must (refine ad.out.mono ?_;clear ad;rintro e bw ⟨rfl,J⟩;have G:=vi J;clear J))
    | (refine af rfl 159 _ rfl _ rfl _ 159 (G.out.at O.out (by simp)) _ Tryz.underlying159 rfl (by kernel_rfl) ?_)
    | (refine aD rfl 159 _ _ rfl _ _ _ _ rfl rfl (G.out.at a3.out (by simp)) rfl (by kernel_rfl) (qS ..) ?_;intro av az U;have a2:=vi az;have I:=vi U;clear az U))
   have ab:Frm [] w av:=(aa.out.trans G.out).then I.out (by intro x K;simp at K;omega)
   refine bodyPost_ret (ft rfl rfl rfl a2.out rfl) rfl ⟨_,rfl,_,rfl,?_,ab,fun k A=>.inl A⟩
   have:=a4.out
   unfold IvR
   rw[N.out]
   exact ab.owns this (by simp)
 | true =>
   simp only[if_true]
   by_cases he:t.ctr=aG
   ·have ay:cJ h a t=a:=by unfold cJ;rw[if_pos he]
    rw[ay]
    have b0:t.ctr.toList.isEmpty=true:=dg he
    clear he ay
    go_enter Tryz.func86,Tryz.ntmps86
    go_upto_region 1 with fail
    rw[ag.out]
    clear ag
    go_wp2_with (first
     | (refine af rfl 159 _ rfl _ rfl _ 159 O.out _ Tryz.underlying159 rfl (by kernel_rfl) ?_)
     | (refine af rfl 137 _ rfl _ rfl _ 137 ai.out _ Tryz.underlying137 rfl (by kernel_rfl) ?_)
     | (go_at_call 149;go_must (refine ad.out.mono ?_;clear ad;rintro e bw ⟨rfl,J⟩;have G:=vi J;have bl:=ae (J.at ai.out (by simp)) 5;clear J))
     | (refine af rfl 159 _ rfl _ rfl _ 159 (G.out.at O.out (by simp)) _ Tryz.underlying159 rfl (by kernel_rfl) ?_)
     | (refine aD rfl 159 _ _ rfl _ _ _ _ rfl rfl (G.out.at a3.out (by simp)) rfl (by kernel_rfl) (qS ..) ?_;intro av az U;have a2:=vi az;have I:=vi U;clear az U))
    have ab:Frm [] w av:=(aa.out.trans G.out).then I.out (by intro x K;simp at K;omega)
    refine bodyPost_ret (ft rfl rfl rfl a2.out rfl) rfl ⟨_,rfl,_,rfl,?_,ab,fun k A=>.inl A⟩
    have:=a4.out
    unfold IvR
    rw[N.out]
    exact ab.owns this (by simp)
   ·obtain⟨bm,bU,bV⟩:=aF.out.c he
    have b0:t.ctr.toList.isEmpty=false:=dF he
    obtain⟨k,A,a8⟩:=cO bm
    have a7:bL h t.ctr=(k:Int):=A
    obtain⟨c,aN⟩:∃ c,h[k]?=some c:=⟨_,List.getElem?_eq_getElem a8⟩
    obtain⟨x,K⟩:∃ x,a[k]?=some x:=⟨_,List.getElem?_eq_getElem (by rw[aF.out.l];exact a8)⟩
    obtain⟨b3,b4,bu,bv⟩:=aF.out.v k c aN
    rw[aW K] at bu bv
    have ay:cJ h a t=a.set k (x+t.add):=by unfold cJ;rw[if_neg he,a7,Int.toNat_natCast,aW K]
    rw[ay]
    have cd:IntKind.i64.wrap (x+t.add)=x+t.add:=by simp[IntKind.wrap,show IntKind.i64.bits=64 from rfl,show IntKind.i64.signed=true from rfl];omega
    have bd:=vi (fun H S=>a7 ▸ a1.out H S (.slice W n X))
    have bM:=vi K
    rw[bg.out] at a8
    have b9:(k:Int)<(n:Int):=by omega
    have bn:Arr 1 IAt w (.slice W n X) a:=iS a4.out N.out
    have bA:Hid (∀ H,Frm [] w H→Arr 1 IAt H (.slice W n X) a):=vi fun H S=>bn.frm fun _ _ _ E=>S.keep E
    have bH:Hid (n≤100000):=vi (by have:=aF.out.n;rw[bg.out] at this;omega)
    have ca:w.heap.size<R.heap.size:=lt_of_block O.out
    clear he bm bU bV A a7 aN K b3 b4 bu bv ay bn a1
    go_enter Tryz.func86,Tryz.ntmps86
    go_upto_region 1 with fail
    rw[ag.out]
    clear ag
    go_upto_region 8 with (first
     | (refine af rfl 159 _ rfl _ rfl _ 159 O.out _ Tryz.underlying159 rfl (by kernel_rfl) ?_)
     | (refine af rfl 137 _ rfl _ rfl _ 137 ai.out _ Tryz.underlying137 rfl (by kernel_rfl) ?_)
     | (go_at_call 149;go_must (refine ad.out.mono ?_;clear ad;rintro e bw ⟨rfl,J⟩;have G:=vi J;have bl:=ae (J.at ai.out (by simp)) 5;clear J))
     | (refine af rfl 159 _ rfl _ rfl _ 159 (G.out.at O.out (by simp)) _ Tryz.underlying159 rfl (by kernel_rfl) ?_)
     | (go_at_call 150;go_must (refine(bd.out _ (aa.out.trans G.out)).mono ?_;clear bd;rintro e av ⟨rfl,U⟩;have I:=vi (G.out.trans U);clear U bl)))
    have aY:=vi (I.out.at O.out (by simp))
    have bb:av.cell? ⟨w.heap.size,1,none⟩=some (.slice W n X):=ae aY.out 1
    have cc:=aI bb
    go_upto_region 9 with (first
     | (at_builtin;refine cG (k:=1) (At:=IAt) (z:=.int .i64 0) (bytes:=8) rfl _ _ rfl rfl rfl Tryz.underlying57 (by kernel_rfl) rfl (by decide) (by decide) IAt.mov N.out (bA.out _ ((aa.out.trans I.out).alloc _)) bH.out ?_;intro bk ak aX ba;have bG:=vi ba;have aH:=ba.frm.at (ah aY.out) (by simp);have bR:=ae aH 1;have bS:=aj aH 1;have bz:=vi aH;clear ba aH bb))
    try clear bR bS
    have am:=bG.out
    obtain⟨g,aJ,cur,a6,bZ,bq,aP⟩:∃ g aJ cur,Value.slice bk n ak=.slice (some ⟨g,0,none⟩) n aJ∧av.heap.size<g+0+1∧aX.heap[g]?=some (.cells cur 3 (0,0))∧aX.ownsRow 0 3 1 (.slice bk n ak) n (a.map iv):=by
     rcases am.own with e | ⟨ce,aP⟩
     ·rw[e] at N;have:=N.out;simp at this;omega
     ·have aQ:=ua aP am.arr
      rw[N.out] at aQ
      obtain⟨g,aJ,cur,a6,bX,aN⟩:=aZ aQ (by omega)
      refine⟨g,aJ,cur,a6,by simp at bX;omega,aN,aQ.1,?_⟩
      rcases aQ.2 with E | ⟨bT,bO,bP,aK,b8,bW⟩
      ·exact .inl E
      ·exact .inr ⟨bT,bO,bP,aK,Nat.zero_le _,bW⟩
    cases a6
    have a9:g≠w.heap.size:=by have:=lt_of_block aY.out;omega
    obtain⟨Y,aT⟩:∃ Y,aX.setCell ⟨w.heap.size,1,none⟩ (.slice (some ⟨g,0,none⟩) n ak)=Y:=⟨_,rfl⟩
    have au:Frm [w.heap.size] aX Y:=by rw[← aT];exact(Frm.refl _ _).setCell _ (.inl (by simp)) _
    have bc:Hid (Y.heap[w.heap.size]?=some (.cells #[.slice aw n ax,.slice (some ⟨g,0,none⟩) n ak] 159 (0,0))):=vi (by rw[← aT];exact(ap bz.out 1 _).trans rfl)
    have bh:Hid (Y.ownsRow 0 3 1 (.slice (some ⟨g,0,none⟩) n ak) n (a.map iv)):=vi (au.owns aP (by intro k A;simp[Value.ownBlock] at A;subst A;simpa using a9))
    have bf:Hid (Y.heap[g]?=some (.cells cur 3 (0,0))):=vi (au.at bq (by simpa using a9))
    have bj:Hid (Y.cell? ⟨g,k,none⟩=some (.int .i64 x)):=vi (by
     obtain⟨b,o,e,E⟩:=(iS bh.out N.out).get bM.out
     cases e
     unfold IAt at E
     rwa [Nat.zero_add,Nat.mul_one] at E)
    have bK:=vi (au.at (am.frm.at (ah (I.out.at ai.out (by simp))) (by simp)) (by simp))
    have bi:=vi (au.at (am.frm.at (ah (I.out.at a3.out (by simp))) (by simp)) (by simp;omega))
    have bE:Hid (Frm [] w Y):=vi (((aa.out.trans I.out).alloc _).trans am.frm |>.then au (by intro y aB;simp at aB;subst aB;exact .inr (Nat.le_refl _)))
    have br:g≠w.heap.size+1+1:=fun e=>by
     have aK:=bf.out
     rw[e,bi.out] at aK
     cases aK
    have bs:w.heap.size≤g:=by have:=I.out.size;have:=aa.out.size;omega
    clear am aP bq au bZ
    rw[aT]
    clear aT
    refine bQ 12 (by kernel_rfl) (by kernel_rfl) ?_
    simp only[List.take_succ_cons,List.take_zero,List.drop_succ_cons,List.drop_zero]
    repeat (first
     | go_big_quiet_skip
     | (refine wpQuiet_want (by rfl) (fun bN aM=>?_)
        first
         | (refine quiet_move _ (by rfl) (aM _ ?_))
         | (refine quiet_assign _ (by rfl) (aM _ ?_))
         | (apply Exists.intro
            refine⟨fun w' aL=>?_,aM _ ?_⟩
            ·(unfold Oper.quietAt
              obtain bt:=aL.at bc.out (by simp);have bb:=ae bt 1;have cg:=aL.keep bj.out;have ch:=ae (aL.at bK.out (by simp)) 8;clear bt
              clear aL
              go_simp
              try exact⟨rfl,rfl⟩
              try rfl))
        clear aM bN
        try simp only[nrm,Act.eval,nrq]))
    refine wpQuiet_nil ?_
    intro bx V
    have ci:=V.keep bj.out
    have cf:=aj (V.at bf.out (by simp)) k
    have b7:=vi V
    obtain⟨aE,aV⟩:∃ aE,bx.setCell ⟨g,k,none⟩ (.int .i64 (x+t.add))=aE:=⟨_,rfl⟩
    have aR:Frm [g] bx aE:=by rw[← aV];exact(Frm.refl _ _).setCell _ (.inl (by simp)) _
    have bI:Hid (aE.ownsRow 0 3 1 (.slice (some ⟨g,0,none⟩) n ak) n ((a.map iv).set k (iv (x+t.add)))):=vi (by rw[← aV];exact sL (V.owns bh.out (by simp)) _)
    have bB:=vi (aR.at (V.at bc.out (by simp)) (by simpa using a9.symm))
    have bJ:=vi (aR.at (V.at bi.out (by simp)) (by simpa using br.symm))
    have bF:Hid (Frm [] w aE):=vi ((bE.out.trans V).then aR (by intro y aB;simp at aB;subst aB;exact .inr bs))
    have bD:=vi aV
    clear V aR aV
    go_upto_region 10 with fail
    rw[bD.out]
    go_wp2_with (first
     | (refine af rfl 159 _ rfl _ rfl _ 159 bB.out _ Tryz.underlying159 rfl (by kernel_rfl) ?_)
     | (refine aD rfl 159 _ _ rfl _ _ _ _ rfl rfl bJ.out rfl (by kernel_rfl) (qS ..) ?_;intro b5 bo bp;have bC:=vi bo;have be:=vi bp;clear bo bp))
    have ab:Frm [] w b5:=bF.out.then be.out (by intro x K;simp at K;omega)
    refine bodyPost_ret (ft rfl rfl rfl bC.out rfl) rfl ⟨_,rfl,_,rfl,?_,ab,fun k A=>.inr ?_⟩
    ·unfold IvR
     rw[List.length_set,N.out,List.map_set]
     exact be.out.owns bI.out (by intro k A;simp[Value.ownBlock] at A;subst A;simpa using br)
    ·simp[Value.ownBlock] at A;subst A;exact bs
end Go.Proofs.YtohfkhjlnlahdaaGreat
namespace Go.Proofs.YtohfkhjlnlahdaaGreat
open Go.RowKit Go.BigFrame
def RbAt (w0 w:World) (b o:Nat) (e:List CtrD × List Int):Prop:=∃ a h,w.cell? ⟨b,o,none⟩=some a∧w.cell? ⟨b,o+1,none⟩=some h∧DfV w0 a e.1∧IvR w0 h e.2
def RcAt (cls cap:Int) (w0 w:World) (b o:Nat) (L:List ByteArray):Prop:=∃ a,w.cell? ⟨b,o,none⟩=some (.int .i64 cls)∧w.cell? ⟨b,o+1,none⟩=some (.int .i64 cap)∧w.cell? ⟨b,o+2,none⟩=some a∧Lf w0 a L
theorem RbAt.mov (w0:World):cL 2 (RbAt w0):=fun w b o x I=>by
 obtain⟨h,H,J,K,A,E⟩:=I
 refine⟨[h,H],rfl,?_,fun j u a=>?_,fun w' R Y X G=>⟨h,H,G 0 _ rfl,G 1 _ rfl,A,E⟩⟩
 ·obtain⟨N,S,rfl⟩:=an A
  obtain⟨O,U,rfl⟩:=an E
  simp[Value.oneCell']
 ·match j,a with
  | 0,a=>cases a;exact J
  | 1,a=>cases a;exact K
  | j+2,a=>simp at a
theorem RcAt.mov (cls cap:Int) (w0:World):cL 3 (RcAt cls cap w0):=fun w b o x G=>by
 obtain⟨E,H,I,J,A⟩:=G
 refine⟨[.int .i64 cls,.int .i64 cap,E],rfl,?_,fun j u a=>?_,fun w' N S R h=>⟨E,h 0 _ rfl,h 1 _ rfl,h 2 _ rfl,A⟩⟩
 ·obtain⟨K,O,rfl,-⟩:=A.shape
  simp[Value.oneCell']
 ·match j,a with
  | 0,a=>cases a;exact H
  | 1,a=>cases a;exact I
  | 2,a=>cases a;exact J
  | j+3,a=>simp at a
theorem RbAt.frm {w0 w w':World} {b o:Nat} {e:List CtrD × List Int} (A:RbAt w0 w b o e) (a:Frm [] w w'):RbAt w0 w' b o e:=by
 obtain⟨h,I,E,G,H⟩:=A
 exact⟨h,I,a.keep E,a.keep G,H⟩
theorem RcAt.frm {cls cap:Int} {w0 w w':World} {b o:Nat} {L:List ByteArray} (h:RcAt cls cap w0 w b o L) (a:Frm [] w w'):RcAt cls cap w0 w' b o L:=by
 obtain⟨I,A,E,G,H⟩:=h
 exact⟨I,a.keep A,a.keep E,a.keep G,H⟩
def kY (s:SesD) (x:PS):List Int:=(List.range s.roles.length).map fun i=>((x.at i:Nat):Int)
def jx (s:SesD) (x:PS):List (List CtrD × List Int):=(List.range s.roles.length).map fun i=>((s.rol i).ctrs,x.bank i)
def jo (s:SesD) (x:PS) (i:Nat):List (List ByteArray):=(List.range s.roles.length).map fun k=>x.way i k
theorem jp (s:SesD) (x:PS):(kY s x).length=s.roles.length:=by simp[kY]
theorem jq (s:SesD) (x:PS):(jx s x).length=s.roles.length:=by simp[jx]
theorem jy (s:SesD) (x:PS) (i:Nat):(jo s x i).length=s.roles.length:=by simp[jo]
theorem dh {α:Type} {f:Nat→α} {n i:Nat} {y:α} (a:((List.range n).map f)[i]?=some y):i<n∧y=f i:=by
 have h:=ag a
 rw[List.length_map,List.length_range] at h
 rw[List.getElem?_map,List.getElem?_range h] at a
 cases a
 exact⟨h,rfl⟩
section
variable {W V:World} {s:SesD} {ba bb bw:Nat} {bi:Nat→Nat} {x:PS}
theorem RO.posA (a:RO W s ba bb bw bi x) (c:Nat):Arr 1 IAt W (.slice (some ⟨ba,0,none⟩) s.roles.length c) (kY s x):=
 ⟨_,c,by rw[jp],fun i y A=>⟨ba,0,rfl,by
  obtain⟨h,rfl⟩:=dh A
  unfold IAt
  rw[Nat.zero_add,Nat.mul_one]
  exact a.a i h⟩⟩
theorem RO.bnkA (h:RO W s ba bb bw bi x) (c:Nat):Arr 2 (RbAt W) W (.slice (some ⟨bb,0,none⟩) s.roles.length c) (jx s x):=
 ⟨_,c,by rw[jq],fun i y J=>⟨bb,0,rfl,by
  obtain⟨I,rfl⟩:=dh J
  obtain⟨a,K,A,E,G,H⟩:=h.b i I
  rw[Nat.zero_add]
  exact⟨a,K,A,E,G,H.1⟩⟩⟩
theorem RO.rowA (a:RO W s ba bb bw bi x) {i:Nat} (h:i<s.roles.length) (c:Nat):Arr 3 (RcAt s.cls s.cap W) W (.slice (some ⟨bi i,0,none⟩) s.roles.length c) (jo s x i):=
 ⟨_,c,by rw[jy],fun k y E=>⟨bi i,0,rfl,by
  obtain⟨A,rfl⟩:=dh E
  rw[Nat.zero_add]
  exact a.r i k h A⟩⟩
end
structure RW (B:Nat) (s:SesD) (x:PS) (i:Nat) (bi:Nat→Nat) (W:World):Prop where
 ti:∀ j,j<i→Ty W (bi j) 164∧B≤bi j
 inj:∀ j k,j<i→k<i→bi j=bi k→j=k
 r:∀ j k,j<i→k<s.roles.length→∃ lv,W.cell? ⟨bi j,k*3,none⟩=some (.int .i64 s.cls)∧W.cell? ⟨bi j,k*3+1,none⟩=some (.int .i64 s.cap)∧W.cell? ⟨bi j,k*3+2,none⟩=some lv∧Lf W lv (x.way j k)
theorem Kt.strs {T:List TypeId} {W V:World} (h:Kt T W V) {E:Value} {L:List ByteArray} (a:Lf W E L) (A:9∉T):Lf V E L:=by
 rcases a with a | ⟨g,cur,rfl,hb,G⟩
 ·exact .inl (h.row a A)
 ·exact .inr ⟨g,cur,rfl,h.cells hb A,G⟩
theorem Kt.cell {T:List TypeId} {W V:World} (h:Kt T W V) {g o:Nat} {e:TypeId} {v:Value} (E:Ty W g e) (A:e∉T) (a:W.cell? ⟨g,o,none⟩=some v):V.cell? ⟨g,o,none⟩=some v:=by
 obtain⟨c,hb⟩:=E
 rw[ae hb] at a
 rw[ae (h.cells hb A)]
 exact a
theorem Kt.ty {T:List TypeId} {W V:World} (a:Kt T W V) {g:Nat} {e:TypeId} (A:Ty W g e) (h:e∉T):Ty V g e:=by
 obtain⟨c,hb⟩:=A
 exact⟨c,a.cells hb h⟩
theorem RW.kt {T:List TypeId} {B:Nat} {s:SesD} {x:PS} {i:Nat} {bi:Nat→Nat} {W V:World} (a:RW B s x i bi W) (A:Kt T W V) (E:164∉T) (H:9∉T):RW B s x i bi V:=by
 refine⟨fun j h=>⟨A.ty (a.ti j h).1 E,(a.ti j h).2⟩,a.inj,fun j k h I=>?_⟩
 obtain⟨J,K,N,O,R⟩:=a.r j k h I
 have G:=(a.ti j h).1
 exact⟨J,A.cell G E K,A.cell G E N,A.cell G E O,A.strs R H⟩
theorem RW.zero (B:Nat) (s:SesD) (x:PS) (bi:Nat→Nat) (W:World):RW B s x 0 bi W:=⟨fun j a=>by omega,fun j k a=>by omega,fun j k a=>by omega⟩
theorem RW.add {B:Nat} {s:SesD} {x:PS} {i g n c:Nat} {bi:Nat→Nat} {W:World} (I:RW B s x i bi W) (S:Ty W g 164) (O:B≤g) (K:∀ j,j<i→bi j≠g) (R:Arr 3 (RcAt s.cls s.cap W) W (.slice (some ⟨g,0,none⟩) n c) (jo s x i)) :
  RW B s x (i+1) (fun j=>if j=i then g else bi j) W:=by
 have e:∀ j,j<i+1→(j=i∧(if j=i then g else bi j)=g)∨(j<i∧(if j=i then g else bi j)=bi j):=fun j E=>by
  by_cases e:j=i
  ·exact .inl ⟨e,if_pos e⟩
  ·exact .inr ⟨by omega,if_neg e⟩
 refine⟨fun j E=>?_,fun j k E H A=>?_,fun j k E H=>?_⟩
 ·show Ty W (if j=i then g else bi j) _∧_
  rcases e j E with ⟨-,a⟩ | ⟨h,a⟩
  ·rw[a];exact⟨S,O⟩
  ·rw[a];exact I.ti j h
 ·have A:(if j=i then g else bi j)=(if k=i then g else bi k):=A
  rcases e j E with ⟨h,a⟩ | ⟨h,a⟩ <;> rcases e k H with ⟨J,G⟩ | ⟨J,G⟩ <;> rw[a,G] at A
  ·omega
  ·exact absurd A.symm (K k J)
  ·exact absurd A (K j h)
  ·exact I.inj j k h J A
 ·show ∃ X,W.cell? ⟨if j=i then g else bi j,_,none⟩=_∧W.cell? ⟨if j=i then g else bi j,_,none⟩=_∧W.cell? ⟨if j=i then g else bi j,_,none⟩=_∧_
  rcases e j E with ⟨h,a⟩ | ⟨h,a⟩
  ·rw[a,h]
   have U:(jo s x i)[k]?=some (x.way i k):=by
    unfold jo
    rw[List.getElem?_map,List.getElem?_range H]
    rfl
   obtain⟨b,o,G,N⟩:=R.get U
   cases G
   rw[Nat.zero_add] at N
   exact N
  ·rw[a];exact I.r j k h H
def WyR (B:Nat) (i n:Nat) (bi:Nat→Nat) (v:Value) (W:World):Prop:=∃ a:List Value,W.ownsRow B 162 1 v i a∧∀ j,j<i→∃ c,a[j]?=some (.slice (some ⟨bi j,0,none⟩) n c)
theorem WyR.kt {T:List TypeId} {B i n:Nat} {bi:Nat→Nat} {v:Value} {W V:World} (a:WyR B i n bi v W) (G:Kt T W V) (h:162∉T):WyR B i n bi v V:=by
 obtain⟨H,A,E⟩:=a
 exact⟨H,G.row A h,E⟩
theorem WyR.add {B i n g c:Nat} {bi:Nat→Nat} {v v':Value} {W V:World} {a:List Value} (A:W.ownsRow B 162 1 v i a) (E:∀ j,j<i→∃ c,a[j]?=some (.slice (some ⟨bi j,0,none⟩) n c)) (H:V.ownsRow B 162 1 v' (i+1) (a++[.slice (some ⟨g,0,none⟩) n c])) :
  WyR B (i+1) n (fun j=>if j=i then g else bi j) v' V:=by
 have G:a.length=i:=by have:=A.1;omega
 refine⟨_,H,fun j I=>?_⟩
 show ∃ h,_=some (Value.slice (some ⟨if j=i then g else bi j,0,none⟩) n h)
 by_cases e:j=i
 ·rw[if_pos e,List.getElem?_append_right (by omega),G,e,Nat.sub_self]
  exact⟨c,rfl⟩
 ·rw[if_neg e,List.getElem?_append_left (by omega)]
  exact E j (by omega)
theorem eW {W:World} {base e J n g c:Nat} {A:List Value} (G:W.ownsRow base e J (.slice (some ⟨g,0,none⟩) n c) n A) {j:Nat} {u:Value} (h:A[j]?=some u):W.cell? ⟨g,j,none⟩=some u:=by
 obtain⟨O,a⟩:=G
 rcases a with ⟨a,-⟩ | ⟨N,K,cur,E,hb,H,U,S,X,I⟩
 ·cases a
 ·cases E
  have R:=ag h
  rw[← I,List.getElem?_take_of_lt (by omega)] at h
  rw[ae H,← Array.getElem?_toList]
  exact h
theorem RSt.mk' {B:Nat} {W:World} {s:SesD} {x:PS} {h A S:Value} {bi:Nat→Nat} (ax:0<s.roles.length) (ap:PSok s x) (ae:Arr 1 IAt W h (kY s x)) (ag:∀ k,h.ownBlock=some k→B≤k∧Ty W k 3) (af:∃ g c,h=.slice (some ⟨g,0,none⟩) s.roles.length c)
  (hb:Arr 2 (RbAt W) W A (jx s x)) (ai:∀ k,A.ownBlock=some k→B≤k∧Ty W k 159) (ah:∃ g c,A=.slice (some ⟨g,0,none⟩) s.roles.length c) (ar:WyR B s.roles.length s.roles.length bi S W) (G:RW B s x s.roles.length bi W)
  (aq:∀ i b o E,i<s.roles.length→A.ownBlock=some b→o=i*2+1→W.cell? ⟨b,o,none⟩=some E→∀ k,E.ownBlock=some k→h.ownBlock≠some k):RSt B W s (.agg #[h,A,S]) x:=by
 obtain⟨H,Y,rfl⟩:=af
 obtain⟨I,cb,rfl⟩:=ah
 obtain⟨ay,R,aw⟩:=ar
 obtain⟨ad,aa,cur,rfl,al,ak⟩:=aZ R (by omega)
 obtain⟨U,X⟩:=ag H rfl
 obtain⟨b1,b2⟩:=ai I rfl
 refine⟨⟨H,I,ad,bi,Y,cb,aa,rfl,⟨X,b2,⟨_,ak⟩,fun i a=>(G.ti i a).1,fun i j a am=>G.inj i j a am,fun i a=>?_,fun i a=>?_,fun i a=>?_,fun i k a an=>G.r i k a an⟩,U,b1,al,fun i a=>(G.ti i a).2⟩,ap⟩
 ·have J:(kY s x)[i]?=some ((x.at i:Nat):Int):=by unfold kY;rw[List.getElem?_map,List.getElem?_range a];rfl
  obtain⟨b,o,e,N⟩:=ae.get J
  cases e
  unfold IAt at N
  rwa [Nat.zero_add,Nat.mul_one] at N
 ·have J:(jx s x)[i]?=some ((s.rol i).ctrs,x.bank i):=by unfold jx;rw[List.getElem?_map,List.getElem?_range a];rfl
  obtain⟨b,o,e,ab,E,O,K,au,av⟩:=hb.get J
  cases e
  rw[Nat.zero_add] at O K
  exact⟨ab,E,O,K,au,av,fun e=>aq i I _ E a rfl rfl K H e rfl⟩
 ·obtain⟨c,aj⟩:=aw i a
  exact⟨c,eW R aj⟩
end Go.Proofs.YtohfkhjlnlahdaaGreat
namespace Go.Proofs.YtohfkhjlnlahdaaGreat
open Go.RowKit Go.BigFrame
def oW (l:List Nat) (j:Nat):Bool:=l.contains j
theorem RO.kt {T:List TypeId} {J I:World} {s:SesD} {N O S:Nat} {R:Nat→Nat} {x:PS} (a:RO J s N O S R x) (h:Kt T J I) (G:3∉T) (H:159∉T) (U:162∉T) (E:164∉T) (X:244∉T) (Y:9∉T):RO I s N O S R x:=by
 refine⟨h.ty a.ta G,h.ty a.tb H,h.ty a.tw U,fun i A=>h.ty (a.ti i A) E,a.inj,fun i A=>h.cell a.ta G (a.a i A),fun i A=>?_,fun i A=>?_,fun i k A ab=>?_⟩
 ·obtain⟨W,ai,b1,b2,V,K⟩:=a.b i A
  exact⟨W,ai,h.cell a.tb H b1,h.cell a.tb H b2,h.row V X,h.row K.1 G,K.2⟩
 ·obtain⟨c,aa⟩:=a.w i A
  exact⟨c,h.cell a.tw U aa⟩
 ·obtain⟨ad,ae,af,ag,ah⟩:=a.r i k A ab
  exact⟨ad,h.cell (a.ti i A) E ae,h.cell (a.ti i A) E af,h.cell (a.ti i A) E ag,h.strs ah Y⟩
def DoTo (w:World) (s:SesD) (x:PS) (m:Mv) (u:Value) (w':World):Prop:=
 Frm [] w w'∧((doB s x m=true∧∃ h,u=.tuple #[h,.bool true]∧RSt w.heap.size w' s h (bh s x m))∨(doB s x m=false∧∃ a:Array Value,u=.tuple #[.agg a,.bool false]∧a.size=3∧a.all (·.oneCell')=true))
theorem Tryz.info61s:(Tryz.prog.info? 61).map (·.size)=some 3:=by kernel_rfl
theorem bs {fn:Func} {p q:Tmp} (h:fn.results=#[.cell p 61,.tmp q]) {tmps:Array Value} {w:World} {g:Nat} {a:Array Value} {t:TypeId} {v:Value} (E:tmps.getD p undef=.pointer (some ⟨g,0,none⟩)) (H:tmps.getD q undef=v) (A:w.heap[g]?=some (.cells a t (0,0))) (J:a.size=3) :
  (results fn tmps).run Tryz.prog w=.ok (.tuple #[.agg a,v]) w:=by
 have G:tmps[p]?.getD undef=.pointer (some ⟨g,0,none⟩):=by simpa using E
 have I:tmps[q]?.getD undef=v:=by simpa using H
 simp[results,h,G,I,asAddr,run_loadVar_row w g t 61 a (0,0) _ A Tryz.underlying61 rfl (by rw[Tryz.info61s,J])]
structure DoX (w:World) (s:SesD) (ao:Option Addr) (n cap ba bb bw ca cb cw:Nat) (m:Mv) (W:World):Prop where
 b0:W.heap[w.heap.size]?=some (.cells #[.string s.name,.slice ao n cap,.int .i64 s.cls,.int .i64 s.cap] 25 (0,0))
 b1:W.heap[w.heap.size+1]?=some (.cells #[.slice (some ⟨ba,0,none⟩) n ca,.slice (some ⟨bb,0,none⟩) n cb,.slice (some ⟨bw,0,none⟩) n cw] 61 (0,0))
 b2:W.heap[w.heap.size+2]?=some (.cells #[.int .i64 m.kind,.int .i64 m.role,.int .i64 m.step,.int .i64 m.place] 67 (0,0))
 b3:W.heap[w.heap.size+3]?=some (.cells #[.slice none 0 0,.slice none 0 0,.slice none 0 0] 61 (0,0))
theorem DoX.frm {w H G:World} {s:SesD} {ao:Option Addr} {n cap I J K N cb O:Nat} {m:Mv} {F:List Nat} (h:DoX w s ao n cap I J K N cb O m H) (E:Frm F H G) (A:∀ k∈F,w.heap.size+3<k):DoX w s ao n cap I J K N cb O m G:=
 ⟨E.at h.b0 (fun a=>by have:=A _ a;omega),E.at h.b1 (fun a=>by have:=A _ a;omega),E.at h.b2 (fun a=>by have:=A _ a;omega),E.at h.b3 (fun a=>by have:=A _ a;omega)⟩
structure YSt (w:World) (s:SesD) (b8:Nat) (y:PS) (W:World):Prop where
 lo:w.heap.size+3<b8
 out:∃ ba bb bw bi ca cb cw,W.heap[b8]?=some (.cells #[.slice (some ⟨ba,0,none⟩) s.roles.length ca,.slice (some ⟨bb,0,none⟩) s.roles.length cb,.slice (some ⟨bw,0,none⟩) s.roles.length cw] 61 (0,0))∧RO W s ba bb bw bi y ∧
  w.heap.size+3<ba∧w.heap.size+3<bb∧w.heap.size+3<bw∧∀ i,i<s.roles.length→w.heap.size+3<bi i
theorem YSt.frm {w h a:World} {s:SesD} {A:Nat} {y:PS} (E:YSt w s A y h) (G:Frm [] h a):YSt w s A y a:=by
 obtain⟨H,I,K,J,N,cb,O,R,S,U⟩:=E.out
 exact⟨E.lo,H,I,K,J,N,cb,O,G.at R (by simp),S.frm G,U⟩
theorem YSt.end {w h Z:World} {s:SesD} {J A E G H cb I:Nat} {y:PS} (N:YSt w s J y h) (V:PSok s y) (hb:h.heap[J]?=some (.cells #[.slice (some ⟨A,0,none⟩) s.roles.length H,.slice (some ⟨E,0,none⟩) s.roles.length cb,.slice (some ⟨G,0,none⟩) s.roles.length I] 61 (0,0))) (U:Kt [61] h Z) :
  RSt w.heap.size Z s (.agg #[.slice (some ⟨A,0,none⟩) s.roles.length H,.slice (some ⟨E,0,none⟩) s.roles.length cb,.slice (some ⟨G,0,none⟩) s.roles.length I]) y:=by
 obtain⟨W,X,Y,K,aa,ab,ad,a,O,ae,af,ag,R⟩:=N.out
 rw[hb] at a
 injection a with a
 injection a with a
 have e:=congrArg Array.toList a
 injection e with e1 e
 injection e with e2 e
 injection e with e3 e
 cases e1
 cases e2
 cases e3
 exact⟨⟨A,E,G,K,H,cb,I,rfl,O.kt U (by decide) (by decide) (by decide) (by decide) (by decide) (by decide),by omega,by omega,by omega,fun i S=>by have:=R i S;omega⟩,V⟩
theorem fI {h:World} {b:Nat} {A:Array Value} {t:TypeId} {u v z:Value} (E:h.heap[b]?=some (.cells A t (0,0))) (H:A.size=3) :
  (((h.setCell ⟨b,0,none⟩ u).setCell ⟨b,1,none⟩ v).setCell ⟨b,2,none⟩ z).heap[b]?=some (.cells #[u,v,z] t (0,0))∧Frm [b] h (((h.setCell ⟨b,0,none⟩ u).setCell ⟨b,1,none⟩ v).setCell ⟨b,2,none⟩ z)∧Kt [t] h (((h.setCell ⟨b,0,none⟩ u).setCell ⟨b,1,none⟩ v).setCell ⟨b,2,none⟩ z):=by
 have b1:=ap E 0 u
 have b2:=ap b1 1 v
 have G:=ap b2 2 z
 refine⟨G.trans ?_,((bG h _ _ _).trans (bG _ _ _ _)).trans (bG _ _ _ _),(((Kt.refl _ h).set E (by simp) _).set b1 (by simp) _).set b2 (by simp) _⟩
 obtain⟨l⟩:=A
 match l,H with
 | [a,c,d],_=>rfl
end Go.Proofs.YtohfkhjlnlahdaaGreat
namespace Go.Proofs.YtohfkhjlnlahdaaGreat
open Go.RowKit Go.BigFrame
theorem qR:∀ {L:List CtrD} {i:Nat} {c:CtrD},L[i]?=some c→(L.flatMap kJ)[i*2]?=some (.string c.name)∧(L.flatMap kJ)[i*2+1]?=some (.int .i64 c.lim)
 | [],i,c,h=>by simp at h
 | a :: L,0,c,h=>by
   simp at h;subst h
   exact⟨rfl,rfl⟩
 | a :: L,i+1,c,h=>by
   have:=qR (L:=L) (i:=i) (c:=c) (by simpa using h)
   rw[List.flatMap_cons,List.getElem?_append_right (by simp[kJ];omega),List.getElem?_append_right (by simp[kJ];omega)]
   rw[show (kJ a).length=2 from rfl,show (i+1)*2 - 2=i*2 by omega,show (i+1)*2+1 - 2=i*2+1 by omega]
   exact this
theorem qJ {h:World} {E:Value} {A:List CtrD} (a:DfV h E A):Arr 2 CtAt h E A:=by
 obtain⟨ao,c,rfl⟩:=an a
 refine⟨ao,c,rfl,fun i y G=>?_⟩
 obtain⟨g,J,cur,e,-,-⟩:=aZ a (by have:=ag G;omega)
 cases e
 obtain⟨H,I⟩:=qR G
 exact⟨g,0,rfl,by rw[Nat.zero_add];exact⟨eW a H,eW a I⟩⟩
theorem o8 {s:SesD} {x:PS} (G:SesOk s) (R:PSok s x) {i k:Nat} (a:i<s.roles.length) (J:k<(s.rol i).steps.length):BkOk (s.rol i).ctrs (x.bank i) ((s.rol i).stp k):=by
 obtain⟨K,O⟩:=R.vb i a
 have E:=G.at a
 refine⟨K,by have:=E.c4;omega,fun j c A=>?_,fun N=>?_⟩
 ·obtain⟨h,H⟩:=O j c A
  have I:=(E.cN c (List.mem_of_getElem? A)).2
  omega
 ·obtain⟨j,c,h,H,I⟩:=(G.stp a J).ctr N
  rw[h]
  omega
theorem qG {s:SesD} {r:RolD} (E:RolOk s r) {p:Nat} (H:p<r.sts.length) (n:ByteArray):bK r n=(p:Int)↔(r.sts.getD p dS).name=n:=by
 have a:r.sts[p]?=some (r.sts.getD p dS):=bf H
 constructor
 ·intro e
  obtain⟨J,h,G,-⟩:=ef e
  rw[a] at h
  cases h
  simpa using G
 ·intro e
  refine cj a (decide_eq_true e) fun j y K I=>?_
  rw[decide_eq_false_iff_not]
  intro A
  have:=E.sU j p y _ I a (A.trans e.symm)
  omega
end Go.Proofs.YtohfkhjlnlahdaaGreat
