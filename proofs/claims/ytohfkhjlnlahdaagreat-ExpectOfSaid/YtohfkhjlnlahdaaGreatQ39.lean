/- Part of the proof. -/
import Derived.Test.YtohfkhjlnlahdaaGreatQ04
import Derived.Test.YtohfkhjlnlahdaaGreatQ36
import Derived.Test.YtohfkhjlnlahdaaGreatQ37
import Derived.Test.YtohfkhjlnlahdaaGreatQ38
set_option linter.all false
namespace Go.Proofs.YtohfkhjlnlahdaaGreat
open Go.RowKit Go.BigFrame
theorem kO {α:Type} {p:α→Bool}:∀ {l:List α} {i:Nat} {x:α},l[i]?=some x→p x=true→ixf p l≤i
 | [],i,x,h,_=>by simp at h
 | a :: l,0,x,h,hp=>by simp at h;subst h;unfold ixf;rw[hp];simp
 | a :: l,i+1,x,h,hp=>by
   have A:=kO (l:=l) (i:=i) (x:=x) (by simpa using h) hp
   unfold ixf
   split
   ·omega
   ·split <;> omega
theorem uJ {r:RolD} {i:Nat} {x:CtrD} (a:r.ctrs[i]?=some x) :
  (aL x.name=false∧bZ r i x=true)∨(aL x.name=true∧bL r.ctrs x.name≠i∧bZ r i x=true)∨(aL x.name=true∧bL r.ctrs x.name=i∧x.lim<1∧bZ r i x=true) ∨
  (aL x.name=true∧bL r.ctrs x.name=i∧¬ x.lim<1∧1000<x.lim∧bZ r i x=true)∨(aL x.name=true∧bL r.ctrs x.name=i∧¬ x.lim<1∧¬ 1000<x.lim∧bZ r i x=false):=by
 have h:bL r.ctrs x.name≤i:=kO a (by simp)
 unfold bZ
 cases aL x.name with
 | false=>left;simp
 | true =>
   right
   simp only[Bool.not_true,Bool.false_or,Bool.or_eq_true,Bool.or_eq_false_iff,decide_eq_true_eq,decide_eq_false_iff_not,true_and]
   omega
theorem uK {r:RolD} {i:Nat} {x:StD} (a:r.sts[i]?=some x) :
  (aL x.name=false∧dn r i x=true)∨(aL x.name=true∧bK r x.name≠i∧dn r i x=true)∨(aL x.name=true∧bK r x.name=i∧x.wait<0∧dn r i x=true) ∨
  (aL x.name=true∧bK r x.name=i∧¬ x.wait<0∧1048576<x.wait∧dn r i x=true)∨(aL x.name=true∧bK r x.name=i∧¬ x.wait<0∧¬ 1048576<x.wait∧dn r i x=false):=by
 have h:bK r x.name≤i:=kO a (by simp)
 unfold dn
 cases aL x.name with
 | false=>left;simp
 | true =>
   right
   simp only[Bool.not_true,Bool.false_or,Bool.or_eq_true,Bool.or_eq_false_iff,decide_eq_true_eq,decide_eq_false_iff_not,true_and]
   omega
set_option maxHeartbeats 4000000 in
set_option maxRecDepth 100000 in
theorem nU (v:Value) (r:RolD) (w:World) (E:RlV w v r) (aB:SmR r):Calls Tryz.prog 116 #[v] w (aU fun u w'=>∃ i,u=.tuple #[.int .i64 i,.int .i64 (cF r)]∧Frm [] w w'):=by
 obtain⟨b8,b6,b9,rfl,aX⟩:=E
 obtain⟨aA,an,bP,bH⟩:=id aX.sts
 obtain⟨ac,am,bO,bE⟩:=id aX.ctrs
 obtain⟨al,ap,bQ,bI⟩:=id aX.steps
 subst bP;subst bO;subst bQ
 have bB:=vi bH;have bq:=vi bE;have b0:=vi bI
 obtain⟨Y,aI⟩:∃ Y,w.alloc (.cells #[.string r.name,.slice aA r.sts.length an,.slice ac r.ctrs.length am,.slice al r.steps.length ap] 87)=Y:=⟨_,rfl⟩
 have bm:Frm [] w Y:=by rw[← aI];exact(Frm.refl _ _).alloc _
 have A:Hid (RBox Y w.heap.size (.slice aA r.sts.length an) (.slice ac r.ctrs.length am) (.slice al r.steps.length ap) r):=vi ⟨by rw[← aI];exact heap_alloc_new _ _,aX.frm bm⟩
 have I:=vi bm
 have be:Hid (∀ a s,Calls Tryz.prog 115 #[.string s] a (Ret (.bool (aL s)) (Frm [] a))):=vi fun a s=>fZ s a
 have aP:Hid (∀ a s,Frm [] Y a→Calls Tryz.prog 174 #[.agg #[.string r.name,.slice aA r.sts.length an,.slice ac r.ctrs.length am,.slice al r.steps.length ap],.string s] a (Ret (.int .i64 (bL r.ctrs s)) (Frm [] a))):=vi fun a s ab=>gN _ r s a (A.out.frm ab).val (by have:=aB.c;omega)
 have aQ:Hid (∀ a s,Frm [] Y a→Calls Tryz.prog 175 #[.agg #[.string r.name,.slice aA r.sts.length an,.slice ac r.ctrs.length am,.slice al r.steps.length ap],.string s] a (Ret (.int .i64 (bK r s)) (Frm [] a))):=vi fun a s ab=>gz _ r s a (A.out.frm ab).val (by have:=aB.s;omega)
 have aN:Hid ((∀ c∈r.ctrs,1≤c.lim∧c.lim≤1000)→∀ a (i:Nat) x,r.steps[i]?=some x→Frm [] Y a→Calls Tryz.prog 176 #[.agg #[.string r.name,.slice aA r.sts.length an,.slice ac r.ctrs.length am,.slice al r.steps.length ap],.int .i64 i] a (Ret (.bool (aY r i x)) (Frm [] a))):=vi fun bV a i x H ab=>kP _ r i x a (A.out.frm ab).val H ⟨aB.t,aB.s,aB.c⟩ bV
 have ad:Hid (∀ a,Frm [] Y a→a.cell? ⟨w.heap.size,0,none⟩=some (.string r.name)∧a.cell? ⟨w.heap.size,1,none⟩=some (.slice aA r.sts.length an)∧a.cell? ⟨w.heap.size,2,none⟩=some (.slice ac r.ctrs.length am)∧a.cell? ⟨w.heap.size,3,none⟩=some (.slice al r.steps.length ap)):=vi fun a ab=>(A.out.frm ab).cells
 have aS:Hid (∀ a,Frm [] Y a→a.heap[w.heap.size]?=some (.cells #[.string r.name,.slice aA r.sts.length an,.slice ac r.ctrs.length am,.slice al r.steps.length ap] 87 (0,0))):=vi fun a ab=>(A.out.frm ab).hb
 obtain⟨aa,bl⟩:∃ c,cF r=c:=⟨_,rfl⟩
 obtain⟨bg,a8⟩:∃ b,de (bZ r) 0 r.ctrs=b:=⟨_,rfl⟩
 obtain⟨bh,a9⟩:∃ b,de (dn r) 0 r.sts=b:=⟨_,rfl⟩
 obtain⟨bi,ba⟩:∃ b,de (fun i s=>!aY r i s) 0 r.steps=b:=⟨_,rfl⟩
 have bC:Hid (∀ i x,r.ctrs[i]?=some x→bZ r i x=true→bg=true):=vi fun i x H hb=>by rw[← a8];exact anyIx_iff.2 ⟨i,x,H,by rw[Nat.zero_add];exact hb⟩
 have bD:Hid (∀ i x,r.sts[i]?=some x→dn r i x=true→bh=true):=vi fun i x H hb=>by rw[← a9];exact anyIx_iff.2 ⟨i,x,H,by rw[Nat.zero_add];exact hb⟩
 have bN:Hid (∀ i x,r.steps[i]?=some x→aY r i x=false→bi=true):=vi fun i x H hb=>by rw[← ba];exact anyIx_iff.2 ⟨i,x,H,by rw[Nat.zero_add,hb];rfl⟩
 have bt:Hid ((∀ i x,r.ctrs[i]?=some x→bZ r i x=false)→bg=false):=vi fun E=>by rw[← a8];exact anyIx_false.2 fun i x H=>by rw[Nat.zero_add];exact E i x H
 have bu:Hid ((∀ i x,r.sts[i]?=some x→dn r i x=false)→bh=false):=vi fun E=>by rw[← a9];exact anyIx_false.2 fun i x H=>by rw[Nat.zero_add];exact E i x H
 have bJ:Hid ((∀ i x,r.steps[i]?=some x→aY r i x=true)→bi=false):=vi fun E=>by rw[← ba];exact anyIx_false.2 fun i x H=>by rw[Nat.zero_add,E i x H];rfl
 have K:Hid (aa=if aL r.name=false then 290 else if 4<r.ctrs.length∨bg=true then 291 else if r.sts.length<1∨24<r.sts.length∨bh=true then 292 else if 80<r.steps.length∨bi=true then 293 else 0):=vi (by rw[← bl,← a8,← a9,← ba];rfl)
 rw[bl]
 obtain⟨bY,bG⟩:∃ q,aL r.name=q:=⟨_,rfl⟩
 have bf:=vi (fun a=>be.out a r.name)
 rw[bG] at bf K
 obtain⟨R,a1⟩:∃ n,r.sts.length=n:=⟨_,rfl⟩
 obtain⟨W,a0⟩:∃ n,r.ctrs.length=n:=⟨_,rfl⟩
 obtain⟨X,a2⟩:∃ n,r.steps.length=n:=⟨_,rfl⟩
 rw[a1] at K ad aS aP aQ aN aI;rw[a0] at K ad aS aP aQ aN aI;rw[a2] at K ad aS aP aQ aN aI
 rw[a1,a0,a2]
 have b4:R≤100:=by rw[← a1];exact aB.s
 have b3:W≤100:=by rw[← a0];exact aB.c
 have b5:X≤100:=by rw[← a2];exact aB.t
 have bw:=vi a1;have bv:=vi a0;have bx:=vi a2
 have br:=vi aI
 clear aX bH bE bI aB bm aI A bl a8 a9 ba bG a1 a0 a2
 go_enter Tryz.func116,Tryz.ntmps116
 go_upto_region 1 with (first | (refine aH rfl 87 _ rfl _ rfl ?_;rw[br.out]))
 clear br
 obtain⟨ae,ah,ai,aj⟩:=ad.out Y (Frm.refl _ _)
 cases bY with
 | false =>
   have A:Hid (aa=290):=vi (by rw[K.out,if_pos rfl])
   clear K
   go_wp2_with (first
    | (go_at_call 115;go_must (refine(bf.out _).mono ?_;rintro e bd ⟨rfl,aq⟩;have ax:=vi aq;clear aq)))
   go_ret2
   first | exact⟨_,rfl,_,by rw[A.out];rfl,I.out.trans ax.out⟩ | exact⟨_,rfl,⟨_,by rw[A.out];rfl⟩,I.out.trans ax.out⟩ | exact⟨_,rfl,by rw[A.out];rfl,I.out.trans ax.out⟩
 | true =>
   rw[if_neg (by decide)] at K
   go_upto_region 3 with (first
    | (go_at_call 115;go_must (refine(bf.out _).mono ?_;rintro e bd ⟨rfl,aq⟩;have N:=vi aq;clear aq ae ah ai aj;obtain⟨ae,ah,ai,aj⟩:=ad.out bd N.out)))
   by_cases hb1:4<W
   ·have A:Hid (aa=291):=vi (by rw[K.out,if_pos (.inl hb1)])
    have bR:(4:Int)<(W:Int):=by omega
    clear K
    go_wp2
    go_ret2
    first | exact⟨_,rfl,_,by rw[A.out];rfl,I.out.trans N.out⟩ | exact⟨_,rfl,⟨_,by rw[A.out];rfl⟩,I.out.trans N.out⟩ | exact⟨_,rfl,by rw[A.out];rfl,I.out.trans N.out⟩
   have bz:Hid (∀ i x,r.ctrs[i]?=some x→bZ r i x=true→aa=291):=vi fun i x H hb=>by rw[K.out,if_pos (.inr (bC.out i x H hb))]
   have bR:¬ (4:Int)<(W:Int):=by omega
   go_upto_region 6 with fail
   clear ae ah ai aj
   go_loopw [4] (fun s4 wr=>∃ i:Nat,s4=.int .i64 i∧i≤W∧Frm [] Y wr∧∀ j y,j<i→r.ctrs[j]?=some y→bZ r j y=false) (fun s4 _=>W - (intOf s4).toNat)
   case atStart=>exact⟨0,rfl,Nat.zero_le _,N.out,fun j y aJ=>by omega⟩
   case round =>
    clear N
    obtain⟨i,rfl,bc,aD,aE⟩:=hrel
    have G:=vi aD;have av:=vi aE
    clear aD aE
    obtain⟨ak,a4⟩:∃ ak,ak=wr:=⟨_,rfl⟩
    subst a4
    obtain⟨ae,ah,ai,aj⟩:=ad.out ak G.out
    by_cases hlt:i<W
    ·have bF:(i:Int)<(W:Int):=by omega
     obtain⟨x,H⟩:∃ x,r.ctrs[i]?=some x:=⟨_,List.getElem?_eq_getElem (by rw[bv.out];exact hlt)⟩
     obtain⟨aW,a6,rfl,aZ⟩:=bq.out i x H
     have aR:=vi aZ
     have az:=vi (uJ (r:=r) H)
     have aw:=vi (fun a=>be.out a x.name)
     have aF:=vi (fun a ab=>aP.out a x.name ab)
     obtain⟨q,a3⟩:∃ q,bL r.ctrs x.name=q:=⟨_,rfl⟩
     rw[a3] at aF az
     have aC:=vi H
     clear aZ H a3
     rcases az.out with ⟨S,U⟩ | ⟨S,V,U⟩ | ⟨S,V,au,U⟩ | ⟨S,V,au,aK,U⟩ | ⟨S,V,au,aK,U⟩
     iterate 4
      focus
       rw[S] at aw
       try have bW:(q == (i:Int))=false:=by simpa using V
       try have bX:(q != (i:Int))=true:=by simpa using V
       try (have bn:q=(i:Int):=V;subst bn)
       try have a5:decide (x.lim<1)=true:=decide_eq_true au
       try have a5:decide (x.lim<1)=false:=decide_eq_false au
       try have bo:decide (1000<x.lim)=true:=decide_eq_true aK
       have A:Hid (aa=291):=vi (bz.out i x aC.out U)
       clear S U az
       go_upto_region 8 with fail
       refine ay (by kernel_rfl) (by kernel_rfl) ?_
       repeat (first
        | go_big_quiet_skip
        | (refine wpQuiet_want (by rfl) (fun aG J=>?_)
           first
            | (refine quiet_move _ (by rfl) (J _ ?_))
            | (refine quiet_assign _ (by rfl) (J _ ?_))
            | (refine aV (.bool _) 115 #[.string x.name] (fun w' h=>?_) (fun w' h=>Ret.cq (aw.out w') (fun aM E=>h.trans E)) (J _ ?_)
               ·go_simp)
            | (refine aV (.int .i64 _) 174 #[.agg #[.string r.name,.slice aA R an,.slice (some ⟨aW,a6,none⟩) W am,.slice al X ap],.string x.name] (fun w' h=>?_) (fun w' h=>Ret.cq (aF.out w' (G.out.trans h)) (fun aM E=>h.trans E)) (J _ ?_)
               ·go_simp)
            | (apply Exists.intro
               refine⟨fun w' h=>?_,J _ ?_⟩
               ·(unfold Oper.quietAt
                 obtain⟨ae,ah,ai,aj⟩:=ad.out w' (G.out.trans h);obtain⟨bj,bk⟩:=aR.out.frm (I.out.trans (G.out.trans h))
                 clear h
                 go_simp
                 try exact⟨rfl,rfl⟩
                 try rfl))
           clear J aG
           try simp only[nrm,Act.eval,nrq]))
       refine wpQuiet_nil ?_
       intro bp ar
       go_wp2
       go_ret2
       first | exact⟨_,rfl,_,by rw[A.out];rfl,I.out.trans (G.out.trans ar)⟩ | exact⟨_,rfl,⟨_,by rw[A.out];rfl⟩,I.out.trans (G.out.trans ar)⟩ | exact⟨_,rfl,by rw[A.out];rfl,I.out.trans (G.out.trans ar)⟩
     ·rw[S] at aw
      subst V
      have a5:decide (x.lim<1)=false:=decide_eq_false au
      have bo:decide (1000<x.lim)=false:=decide_eq_false aK
      have aT:=vi U
      clear S U az
      go_upto_region 8 with fail
      refine ay (by kernel_rfl) (by kernel_rfl) ?_
      repeat (first
       | go_big_quiet_skip
       | (refine wpQuiet_want (by rfl) (fun aG J=>?_)
          first
           | (refine quiet_move _ (by rfl) (J _ ?_))
           | (refine quiet_assign _ (by rfl) (J _ ?_))
           | (refine aV (.bool _) 115 #[.string x.name] (fun w' h=>?_) (fun w' h=>Ret.cq (aw.out w') (fun aM E=>h.trans E)) (J _ ?_)
              ·go_simp)
           | (refine aV (.int .i64 _) 174 #[.agg #[.string r.name,.slice aA R an,.slice (some ⟨aW,a6,none⟩) W am,.slice al X ap],.string x.name] (fun w' h=>?_) (fun w' h=>Ret.cq (aF.out w' (G.out.trans h)) (fun aM E=>h.trans E)) (J _ ?_)
              ·go_simp)
           | (apply Exists.intro
              refine⟨fun w' h=>?_,J _ ?_⟩
              ·(unfold Oper.quietAt
                obtain⟨ae,ah,ai,aj⟩:=ad.out w' (G.out.trans h);obtain⟨bj,bk⟩:=aR.out.frm (I.out.trans (G.out.trans h))
                clear h
                go_simp
                try exact⟨rfl,rfl⟩
                try rfl))
          clear J aG
          try simp only[nrm,Act.eval,nrq]))
      refine wpQuiet_nil ?_
      intro bp ar
      go_wp2
      refine⟨⟨i+1,congrArg (Value.int .i64) (by omega),hlt,G.out.trans ar,fun j y aJ O=>?_⟩,by simp[intOf];omega⟩
      by_cases e:j=i
      ·subst e;rw[aC.out] at O;cases O;exact aT.out
      ·exact av.out j y (by omega) O
    ·obtain rfl:W=i:=by omega
     have bb:¬ (W:Int)<(W:Int):=by omega
     have aO:Hid (∀ j y,r.ctrs[j]?=some y→bZ r j y=false):=vi fun j y O=>av.out j y (by have:=ag O;rw[bv.out] at this;omega) O
     have bs:Hid (∀ c∈r.ctrs,1≤c.lim∧c.lim≤1000):=vi fun c bU=>by
      obtain⟨j,aJ⟩:=List.getElem?_of_mem bU
      have:=aO.out j c aJ
      unfold bZ at this
      simp only[Bool.or_eq_false_iff,decide_eq_false_iff_not] at this
      omega
     have aN:=vi (aN.out bs.out)
     have K:=vi K.out
     rw[if_neg (fun E=>E.elim hb1 (fun E=>by rw[bt.out aO.out] at E;cases E))] at K
     have N:=G
     clear aO av G bs bz aP bq bt bC
     go_upto_region 10 with fail
     by_cases hb2:R<1
     ·have A:Hid (aa=292):=vi (by rw[K.out,if_pos (.inl hb2)])
      obtain rfl:R=0:=by omega
      clear K
      go_wp2
      go_ret2
      first | exact⟨_,rfl,_,by rw[A.out];rfl,I.out.trans N.out⟩ | exact⟨_,rfl,⟨_,by rw[A.out];rfl⟩,I.out.trans N.out⟩ | exact⟨_,rfl,by rw[A.out];rfl,I.out.trans N.out⟩
     have b7:((R:Int) == 0)=false:=by simp;omega
     by_cases hb3:24<R
     ·have A:Hid (aa=292):=vi (by rw[K.out,if_pos (.inr (.inl hb3))])
      have bS:(24:Int)<(R:Int):=by omega
      clear K
      go_wp2
      go_ret2
      first | exact⟨_,rfl,_,by rw[A.out];rfl,I.out.trans N.out⟩ | exact⟨_,rfl,⟨_,by rw[A.out];rfl⟩,I.out.trans N.out⟩ | exact⟨_,rfl,by rw[A.out];rfl,I.out.trans N.out⟩
     have bS:¬ (24:Int)<(R:Int):=by omega
     have bA:Hid (∀ i x,r.sts[i]?=some x→dn r i x=true→aa=292):=vi fun i x H hb=>by rw[K.out,if_pos (.inr (.inr (bD.out i x H hb)))]
     go_upto_region 15 with fail
     clear ae ah ai aj bb hlt bc
     go_loopw [5] (fun s5 wr=>∃ i:Nat,s5=.int .i64 i∧i≤R∧Frm [] Y wr∧∀ j y,j<i→r.sts[j]?=some y→dn r j y=false) (fun s5 _=>R - (intOf s5).toNat)
     case atStart=>exact⟨0,rfl,Nat.zero_le _,N.out,fun j y aJ=>by omega⟩
     case round =>
      clear N
      obtain⟨i,rfl,bc,aD,aE⟩:=hrel
      have G:=vi aD;have av:=vi aE
      clear aD aE
      obtain⟨ak,a4⟩:∃ ak,ak=wr:=⟨_,rfl⟩
      subst a4
      obtain⟨ae,ah,ai,aj⟩:=ad.out ak G.out
      by_cases hlt:i<R
      ·have bF:(i:Int)<(R:Int):=by omega
       obtain⟨x,H⟩:∃ x,r.sts[i]?=some x:=⟨_,List.getElem?_eq_getElem (by rw[bw.out];exact hlt)⟩
       obtain⟨aW,a6,rfl,aZ⟩:=bB.out i x H
       have aR:=vi aZ
       have az:=vi (uK (r:=r) H)
       have aw:=vi (fun a=>be.out a x.name)
       have aF:=vi (fun a ab=>aQ.out a x.name ab)
       obtain⟨q,a3⟩:∃ q,bK r x.name=q:=⟨_,rfl⟩
       rw[a3] at aF az
       have aC:=vi H
       clear aZ H a3
       rcases az.out with ⟨S,U⟩ | ⟨S,V,U⟩ | ⟨S,V,au,U⟩ | ⟨S,V,au,aK,U⟩ | ⟨S,V,au,aK,U⟩
       iterate 4
        focus
         rw[S] at aw
         try have bW:(q == (i:Int))=false:=by simpa using V
         try have bX:(q != (i:Int))=true:=by simpa using V
         try (have bn:q=(i:Int):=V;subst bn)
         try have a5:decide (x.wait<0)=true:=decide_eq_true au
         try have a5:decide (x.wait<0)=false:=decide_eq_false au
         try have bo:decide (1048576<x.wait)=true:=decide_eq_true aK
         have A:Hid (aa=292):=vi (bA.out i x aC.out U)
         clear S U az
         go_upto_region 17 with fail
         refine ay (by kernel_rfl) (by kernel_rfl) ?_
         repeat (first
          | go_big_quiet_skip
          | (refine wpQuiet_want (by rfl) (fun aG J=>?_)
             first
              | (refine quiet_move _ (by rfl) (J _ ?_))
              | (refine quiet_assign _ (by rfl) (J _ ?_))
              | (refine aV (.bool _) 115 #[.string x.name] (fun w' h=>?_) (fun w' h=>Ret.cq (aw.out w') (fun aM E=>h.trans E)) (J _ ?_)
                 ·go_simp)
              | (refine aV (.int .i64 _) 175 #[.agg #[.string r.name,.slice (some ⟨aW,a6,none⟩) R an,.slice ac W am,.slice al X ap],.string x.name] (fun w' h=>?_) (fun w' h=>Ret.cq (aF.out w' (G.out.trans h)) (fun aM E=>h.trans E)) (J _ ?_)
                 ·go_simp)
              | (apply Exists.intro
                 refine⟨fun w' h=>?_,J _ ?_⟩
                 ·(unfold Oper.quietAt
                   obtain⟨ae,ah,ai,aj⟩:=ad.out w' (G.out.trans h);obtain⟨bj,-,bk⟩:=aR.out.frm (I.out.trans (G.out.trans h))
                   clear h
                   go_simp
                   try exact⟨rfl,rfl⟩
                   try rfl))
             clear J aG
             try simp only[nrm,Act.eval,nrq]))
         refine wpQuiet_nil ?_
         intro bp ar
         go_wp2
         go_ret2
         first | exact⟨_,rfl,_,by rw[A.out];rfl,I.out.trans (G.out.trans ar)⟩ | exact⟨_,rfl,⟨_,by rw[A.out];rfl⟩,I.out.trans (G.out.trans ar)⟩ | exact⟨_,rfl,by rw[A.out];rfl,I.out.trans (G.out.trans ar)⟩
       ·rw[S] at aw
        subst V
        have a5:decide (x.wait<0)=false:=decide_eq_false au
        have bo:decide (1048576<x.wait)=false:=decide_eq_false aK
        have aT:=vi U
        clear S U az
        go_upto_region 17 with fail
        refine ay (by kernel_rfl) (by kernel_rfl) ?_
        repeat (first
         | go_big_quiet_skip
         | (refine wpQuiet_want (by rfl) (fun aG J=>?_)
            first
             | (refine quiet_move _ (by rfl) (J _ ?_))
             | (refine quiet_assign _ (by rfl) (J _ ?_))
             | (refine aV (.bool _) 115 #[.string x.name] (fun w' h=>?_) (fun w' h=>Ret.cq (aw.out w') (fun aM E=>h.trans E)) (J _ ?_)
                ·go_simp)
             | (refine aV (.int .i64 _) 175 #[.agg #[.string r.name,.slice (some ⟨aW,a6,none⟩) R an,.slice ac W am,.slice al X ap],.string x.name] (fun w' h=>?_) (fun w' h=>Ret.cq (aF.out w' (G.out.trans h)) (fun aM E=>h.trans E)) (J _ ?_)
                ·go_simp)
             | (apply Exists.intro
                refine⟨fun w' h=>?_,J _ ?_⟩
                ·(unfold Oper.quietAt
                  obtain⟨ae,ah,ai,aj⟩:=ad.out w' (G.out.trans h);obtain⟨bj,-,bk⟩:=aR.out.frm (I.out.trans (G.out.trans h))
                  clear h
                  go_simp
                  try exact⟨rfl,rfl⟩
                  try rfl))
            clear J aG
            try simp only[nrm,Act.eval,nrq]))
        refine wpQuiet_nil ?_
        intro bp ar
        go_wp2
        refine⟨⟨i+1,congrArg (Value.int .i64) (by omega),hlt,G.out.trans ar,fun j y aJ O=>?_⟩,by simp[intOf];omega⟩
        by_cases e:j=i
        ·subst e;rw[aC.out] at O;cases O;exact aT.out
        ·exact av.out j y (by omega) O
      ·obtain rfl:R=i:=by omega
       have bb:¬ (R:Int)<(R:Int):=by omega
       have aO:Hid (∀ j y,r.sts[j]?=some y→dn r j y=false):=vi fun j y O=>av.out j y (by have:=ag O;rw[bw.out] at this;omega) O
       have K:=vi K.out
       rw[if_neg (fun E=>E.elim hb2 (fun E=>E.elim hb3 (fun E=>by rw[bu.out aO.out] at E;cases E)))] at K
       have N:=G
       clear aO av G bA aQ bB bu bD
       go_upto_region 19 with fail
       by_cases hb4:80<X
       ·have A:Hid (aa=293):=vi (by rw[K.out,if_pos (.inl hb4)])
        have bT:(80:Int)<(X:Int):=by omega
        clear K
        go_wp2
        go_ret2
        first | exact⟨_,rfl,_,by rw[A.out];rfl,I.out.trans N.out⟩ | exact⟨_,rfl,⟨_,by rw[A.out];rfl⟩,I.out.trans N.out⟩ | exact⟨_,rfl,by rw[A.out];rfl,I.out.trans N.out⟩
       have bT:¬ (80:Int)<(X:Int):=by omega
       have bM:Hid (∀ i x,r.steps[i]?=some x→aY r i x=false→aa=293):=vi fun i x H hb=>by rw[K.out,if_pos (.inr (bN.out i x H hb))]
       go_upto_region 22 with fail
       clear ae ah ai aj bb hlt bc
       go_loopw [6] (fun s6 wr=>∃ i:Nat,s6=.int .i64 i∧i≤X∧Frm [] Y wr∧∀ j y,j<i→r.steps[j]?=some y→aY r j y=true) (fun s6 _=>X - (intOf s6).toNat)
       case atStart=>exact⟨0,rfl,Nat.zero_le _,N.out,fun j y aJ=>by omega⟩
       case round =>
        clear N
        obtain⟨i,rfl,bc,aD,aE⟩:=hrel
        have G:=vi aD;have av:=vi aE
        clear aD aE
        obtain⟨ak,a4⟩:∃ ak,ak=wr:=⟨_,rfl⟩
        subst a4
        obtain⟨ae,ah,ai,aj⟩:=ad.out ak G.out
        by_cases hlt:i<X
        ·have bF:(i:Int)<(X:Int):=by omega
         obtain⟨x,H⟩:∃ x,r.steps[i]?=some x:=⟨_,List.getElem?_eq_getElem (by rw[bx.out];exact hlt)⟩
         have a7:=vi (aN.out ak i x H G.out)
         have aC:=vi H
         clear H
         cases hb:aY r i x with
         | false =>
           rw[hb] at a7
           have A:Hid (aa=293):=vi (bM.out i x aC.out hb)
           clear hb
           go_wp2_with (first
            | (refine af rfl 87 _ rfl _ rfl _ 87 (aS.out _ G.out) _ Tryz.underlying87 rfl (by kernel_rfl) ?_)
            | (go_at_call 176;go_must (refine a7.out.mono ?_;rintro e bd ⟨rfl,aq⟩;have ax:=vi (G.out.trans aq);clear aq)))
           go_ret2
           first | exact⟨_,rfl,_,by rw[A.out];rfl,I.out.trans ax.out⟩ | exact⟨_,rfl,⟨_,by rw[A.out];rfl⟩,I.out.trans ax.out⟩ | exact⟨_,rfl,by rw[A.out];rfl,I.out.trans ax.out⟩
         | true =>
           rw[hb] at a7
           have aT:=vi hb
           clear hb
           go_wp2_with (first
            | (refine af rfl 87 _ rfl _ rfl _ 87 (aS.out _ G.out) _ Tryz.underlying87 rfl (by kernel_rfl) ?_)
            | (go_at_call 176;go_must (refine a7.out.mono ?_;rintro e bd ⟨rfl,aq⟩;have ax:=vi (G.out.trans aq);clear aq)))
           refine⟨⟨i+1,congrArg (Value.int .i64) (by omega),hlt,ax.out,fun j y aJ O=>?_⟩,by simp[intOf];omega⟩
           by_cases e:j=i
           ·subst e;rw[aC.out] at O;cases O;exact aT.out
           ·exact av.out j y (by omega) O
        ·obtain rfl:X=i:=by omega
         have bb:¬ (X:Int)<(X:Int):=by omega
         have A:Hid (aa=0):=vi (by
          rw[K.out,if_neg]
          rintro(E | E)
          ·exact hb4 E
          ·rw[bJ.out fun j y O=>av.out j y (by have:=ag O;rw[bx.out] at this;omega) O] at E;cases E)
         go_wp2
         go_ret2
         first | exact⟨_,rfl,_,by rw[A.out];rfl,I.out.trans G.out⟩ | exact⟨_,rfl,⟨_,by rw[A.out];rfl⟩,I.out.trans G.out⟩ | exact⟨_,rfl,by rw[A.out];rfl,I.out.trans G.out⟩
end Go.Proofs.YtohfkhjlnlahdaaGreat
namespace Go.Proofs.YtohfkhjlnlahdaaGreat
open Go.RowKit Go.BigFrame
theorem oQ {s:SesD} {i:Nat} (I:i<s.roles.length):(bT s (s.rol i).name<i→∃ k,k<i∧(s.rol k).name=(s.rol i).name)∧((∃ k,k<i∧(s.rol k).name=(s.rol i).name)→bT s (s.rol i).name<i):=by
 have K:s.roles[i]?=some (s.rol i):=SesD.rol_some I
 constructor
 ·intro h
  have A:0≤bT s (s.rol i).name:=fQ (List.mem_of_getElem? K) (by simp)
  obtain⟨k,a,-⟩:=cO A
  obtain⟨x,E,G,-⟩:=ef a
  refine⟨k,by unfold bT at h;omega,?_⟩
  rw[show s.rol k=x from aW E]
  simpa using G
 ·rintro⟨k,a,H⟩
  have J:s.roles[k]?=some (s.rol k):=SesD.rol_some (by omega)
  have:=kO (p:=fun r:RolD=>decide (r.name=(s.rol i).name)) J (by simpa using H)
  unfold bT
  omega
def eY (s:SesD) (x:StpD) (n:Nat):Bool:=decide (2<x.kind) || (s.roles.take n).any fun r=>decide (r.name=x.peer)
theorem oR {s:SesD} {x:StpD} (A:1≤x.kind∧x.kind≤4):eY s x s.roles.length=!(ei x && decide (bT s x.peer<0)):=by
 unfold eY ei
 rw[List.take_length]
 have e:decide (bT s x.peer<0)=!s.roles.any fun r=>decide (r.name=x.peer):=by
  rw[← lS]
  unfold bT
  by_cases h:ixf (fun r:RolD=>decide (r.name=x.peer)) s.roles<0
  ·rw[decide_eq_true h,decide_eq_false (p:=0≤ixf (fun r:RolD=>decide (r.name=x.peer)) s.roles) (by omega)];rfl
  ·rw[decide_eq_false h,decide_eq_true (p:=0≤ixf (fun r:RolD=>decide (r.name=x.peer)) s.roles) (by omega)];rfl
 rw[e]
 have a:decide (2<x.kind)=!(decide (x.kind=1) || decide (x.kind=2)):=by
  rw[Bool.eq_iff_iff]
  simp
  omega
 rw[a]
 cases decide (x.kind=1) || decide (x.kind=2) <;> cases s.roles.any fun r=>decide (r.name=x.peer) <;> rfl
theorem nh {s:SesD} {x:StpD} {n:Nat} (a:n<s.roles.length):eY s x (n+1)=(eY s x n || decide ((s.rol n).name=x.peer)):=by
 unfold eY
 rw[List.take_add_one,SesD.rol_some a]
 simp[Bool.or_assoc]
theorem ni {r:RolD} (A:cF r=0):∀ x∈r.steps,1≤x.kind∧x.kind≤4:=by
 intro x I
 obtain⟨i,H⟩:=List.getElem?_of_mem I
 have a:aY r i x=true:=by
  unfold cF at A
  repeat' split at A
  all_goals first | omega | skip
  rename_i E
  have:=E
  have G:de (fun i s=>!aY r i s) 0 r.steps=false:=by
   cases hb:de (fun i s=>!aY r i s) 0 r.steps with
   | false=>rfl
   | true=>exact absurd (.inr hb) E
  have:=(anyIx_false.1 G) i x H
  rw[Nat.zero_add] at this
  simpa using this
 unfold aY at a
 split at a
 ·cases a
 ·simp only[Bool.and_eq_true] at a
  have h:=a.1.2
  unfold dp at h
  repeat' split at h
  all_goals first | omega | cases h
set_option maxHeartbeats 4000000 in
set_option maxRecDepth 100000 in
theorem sn (v:Value) (s:SesD) (w:World) (br:SesV w v s) (bx:SmS s):Calls Tryz.prog 55 #[v] w (aU fun u w'=>∃ i,u=.tuple #[.int .i64 i,.int .i64 (eo s)]∧Frm [] w w'):=by
 obtain⟨c9,rfl,a1⟩:=br
 obtain⟨ao,cap,e,-⟩:=id a1
 subst e
 have bH:=vi bx
 have bm:=vi a1
 have aM:Hid (∀ a,Calls Tryz.prog 115 #[.string s.name] a (Ret (.bool (aL s.name)) (Frm [] a))):=vi fun a=>fZ s.name a
 have h:Hid (eo s=if aL s.name=false then 290 else if eE s=true then 2 else if cQ s 0 s.roles=0 then (if s.roles.any (dM s)=true then 294 else 0) else cQ s 0 s.roles):=vi rfl
 obtain⟨aF,bW⟩:∃ c,eo s=c:=⟨_,rfl⟩
 rw[bW] at h ⊢
 have a9:=vi (lT s)
 obtain⟨n,be⟩:∃ n,s.roles.length=n:=⟨_,rfl⟩
 rw[be] at a9 bm ⊢
 have aa:=vi be
 have cX:n≤100:=by rw[← be];exact bx.n
 obtain⟨K,bc⟩:∃ K,w.alloc (.cells #[.string s.name,.slice ao n cap,.int .i64 s.cls,.int .i64 s.cap] 25)=K:=⟨_,rfl⟩
 have bs:Frm [] w K:=by rw[← bc];exact(Frm.refl [] w).alloc _
 have U:=vi bs
 have aj:Hid (∀ a,Frm [] K a→a.cell? ⟨w.heap.size,0,none⟩=some (.string s.name)∧a.cell? ⟨w.heap.size,1,none⟩=some (.slice ao n cap)∧a.cell? ⟨w.heap.size,2,none⟩=some (.int .i64 s.cls)∧a.cell? ⟨w.heap.size,3,none⟩=some (.int .i64 s.cap)):=vi fun a H=>by
  have hb:K.heap[w.heap.size]?=some (.cells #[.string s.name,.slice ao n cap,.int .i64 s.cls,.int .i64 s.cap] 25 (0,0)):=by rw[← bc];exact heap_alloc_new _ _
  exact⟨H.keep (ae hb 0),H.keep (ae hb 1),H.keep (ae hb 2),H.keep (ae hb 3)⟩
 have aQ:Hid (∀ a,Frm [] K a→Rls a (.slice ao n cap) s.roles):=vi fun a H=>bm.out.frm (bs.trans H)
 have aN:=vi bc
 obtain⟨cS,b8⟩:∃ q,aL s.name=q:=⟨_,rfl⟩
 rw[b8] at aM h
 clear a1 bx bW be bs bc b8 bm
 go_enter Tryz.func55,Tryz.ntmps55
 go_upto_region 1 with (first | (refine aH rfl 25 _ rfl _ rfl ?_;rw[aN.out]))
 clear aN
 obtain⟨N,E,O,R⟩:=aj.out K (Frm.refl _ _)
 cases cS with
 | false =>
   have h:Hid (aF=290):=vi (by rw[h.out,if_pos rfl])
   go_wp2_with (first
    | (go_at_call 115;go_must (refine(aM.out _).mono ?_;rintro e bi ⟨rfl,af⟩;have ad:=vi (U.out.trans af);clear af)))
   go_ret2
   first | exact⟨_,rfl,_,by rw[h.out];rfl,ad.out⟩ | exact⟨_,rfl,⟨_,by rw[h.out];rfl⟩,ad.out⟩ | exact⟨_,rfl,by rw[h.out];rfl,ad.out⟩
 | true =>
   rw[if_neg (by decide)] at h
   rcases a9.out with hb | ⟨hb,cK⟩
   ·have cD:=lU hb
    rw[hb,if_neg (by decide)] at h
    have bQ:decide ((n:Int)<2)=false:=decide_eq_false (by rw[← aa.out];omega)
    have bR:decide (4<(n:Int))=false:=decide_eq_false (by rw[← aa.out];omega)
    have bS:decide (s.cls<1)=false:=decide_eq_false (by omega)
    have bU:decide (3<s.cls)=false:=decide_eq_false (by omega)
    have bV:decide (s.cap<1)=false:=decide_eq_false (by omega)
    have cB:decide (4<s.cap)=false:=decide_eq_false (by omega)
    clear cD hb a9
    go_wp2_with (first
     | (go_at_call 115;go_must (refine(aM.out _).mono ?_;rintro e bi ⟨rfl,af⟩;have ad:=vi af;clear N E O R;obtain⟨N,E,O,R⟩:=aj.out bi af;clear af)))
    clear aM bQ bR bS bU bV cB N E O R
    go_loopw [4] (fun s4 wr=>∃ i:Nat,s4=.int .i64 i∧i≤n∧Frm [] K wr∧∀ j,j<i→eh s j (s.rol j)=0) (fun s4 _=>n - (intOf s4).toNat)
    case atStart=>exact⟨0,rfl,Nat.zero_le _,ad.out,fun j G=>by omega⟩
    case round =>
     clear ad
     obtain⟨i,rfl,cE,V,a0⟩:=hrel
     have I:=vi V;have ap:=vi a0
     clear V a0
     obtain⟨aB,cP⟩:∃ aB,aB=wr:=⟨_,rfl⟩
     subst cP
     obtain⟨N,E,O,R⟩:=aj.out aB I.out
     by_cases hlt:i<n
     ·have cI:(i:Int)<(n:Int):=by omega
      have ah:i<s.roles.length:=by rw[aa.out];exact hlt
      obtain⟨b,o,bg,ba,bh,rfl,⟨bL,bM,bN,aq⟩,Y⟩:=Rls.at (aQ.out aB I.out) ah
      obtain⟨cm,cw,cy,-⟩:=id Y.sts
      obtain⟨ac,cv,cx,-⟩:=id Y.ctrs
      obtain⟨bo,bp,bq,-⟩:=id Y.steps
      subst cy;subst cx;subst bq
      have b3:s.rol i∈s.roles:=List.mem_of_getElem? (SesD.rol_some ah)
      have am:Hid (Calls Tryz.prog 116 #[.agg #[.string (s.rol i).name,.slice cm (s.rol i).sts.length cw,.slice ac (s.rol i).ctrs.length cv,.slice bo (s.rol i).steps.length bp]] aB (aU fun u w'=>∃ bz,u=.tuple #[.int .i64 bz,.int .i64 (cF (s.rol i))]∧Frm [] aB w')):=vi
       (nU _ (s.rol i) aB ⟨_,_,_,rfl,Y⟩ (bH.out.r _ b3))
      have W:Hid (eh s i (s.rol i)=if cF (s.rol i)=0 then (if bT s (s.rol i).name<i then 290 else 0) else cF (s.rol i)):=vi rfl
      have aw:Hid (eh s i (s.rol i)≠0→cQ s 0 s.roles=eh s i (s.rol i)):=vi fun cJ=>by
       have:=gt s s.roles 0 i ah (fun j G=>by rw[Nat.zero_add];exact ap.out j G) (by rw[Nat.zero_add];exact cJ)
       rw[Nat.zero_add] at this
       exact this
      have a4:=vi (oQ ah)
      obtain⟨c,X⟩:∃ c,cF (s.rol i)=c:=⟨_,rfl⟩
      obtain⟨q,b7⟩:∃ q,bT s (s.rol i).name=q:=⟨_,rfl⟩
      obtain⟨cd,bw⟩:∃ q,eh s i (s.rol i)=q:=⟨_,rfl⟩
      obtain⟨a3,bv⟩:∃ q,(s.rol i).name=q:=⟨_,rfl⟩
      obtain⟨c6,b4⟩:∃ q,(s.rol i).sts.length=q:=⟨_,rfl⟩
      obtain⟨c7,b5⟩:∃ q,(s.rol i).ctrs.length=q:=⟨_,rfl⟩
      obtain⟨ai,aA⟩:∃ q,(s.rol i).steps.length=q:=⟨_,rfl⟩
      rw[X] at am W;rw[b7] at a4 W;rw[bw] at W aw;rw[bv] at am a4 bL;rw[b4] at am bM;rw[b5] at am bN;rw[aA] at am aq
      have a8:=vi bw
      have ci:=vi bv
      clear Y b3 ah X b7 bw bv b4 b5 aA
      by_cases X:c=0
      ·have cT:(c == 0)=true:=by simpa using X
       have cU:(c != 0)=false:=by simpa using X
       rw[if_pos X] at W
       clear X
       go_wp2_with (first
        | (go_at_call 116;go_must (refine am.out.mono ?_;rintro e bC ⟨u,rfl,bz,rfl,aT⟩;have aD:Hid (Frm [] K bC):=vi (I.out.trans aT);clear aT)))
       clear N E O R bL bM bN aq am
       go_loopw [7] (fun s7 aC=>∃ k:Nat,s7=.int .i64 k∧k≤i∧Frm [] K aC∧∀ j,j<k→decide ((s.rol j).name=a3)=false) (fun s7 _=>i - (intOf s7).toNat)
       case atStart=>exact⟨0,rfl,Nat.zero_le _,aD.out,fun j G=>by omega⟩
       case round =>
        clear aD
        obtain⟨k,rfl,cG,V,aZ⟩:=hrel
        have an:=vi V;have aP:=vi aZ
        clear V aZ
        obtain⟨aJ,cO⟩:∃ aJ,aJ=wr:=⟨_,rfl⟩
        subst cO
        obtain⟨N,E,O,R⟩:=aj.out aJ an.out
        by_cases hlk:k<i
        ·have cH:(k:Int)<(i:Int):=by omega
         have c3:(k:Int)<(n:Int):=by omega
         obtain⟨bK,ca,-,-,-,aR,⟨ak,-⟩,-⟩:=Rls.at (aQ.out aJ an.out) (i:=k) (by rw[aa.out];omega)
         cases aR
         obtain⟨bK,ca,-,-,-,aR,⟨aS,-⟩,-⟩:=Rls.at (aQ.out aJ an.out) (i:=i) (by rw[aa.out];omega)
         cases aR
         rw[ci.out] at aS
         have aO:Hid (∀ a,Frm [] aJ a→(a.cell? ⟨b,o+k*4,none⟩=some (.string (s.rol k).name)∧a.cell? ⟨b,o+i*4,none⟩=some (.string a3))∧a.cell? ⟨w.heap.size,1,none⟩=some (.slice (some ⟨b,o,none⟩) n cap)):=vi fun a H=>⟨⟨H.keep ak,H.keep aS⟩,H.keep E⟩
         have bf:((s.rol k).name.toList == a3.toList)=decide ((s.rol k).name=a3):=aK _ _
         clear ak aS
         cases hpx:decide ((s.rol k).name=a3) with
         | true =>
           rw[hpx] at bf
           have h:Hid (aF=290):=vi (by
            have ar:q<i:=a4.out.2 ⟨k,hlk,by simpa using hpx⟩
            have au:cd=290:=by rw[W.out,if_pos ar]
            rw[h.out,aw.out (by rw[au];decide),au];rfl)
           clear aw W a8 hpx
           go_upto_region 14 with fail
           refine ay (by kernel_rfl) (by kernel_rfl) ?_
           repeat (first
            | go_big_quiet_skip
            | (refine wpQuiet_want (by rfl) (fun ax J=>?_)
               first
                | (refine quiet_move _ (by rfl) (J _ ?_))
                | (refine quiet_assign _ (by rfl) (J _ ?_))
                | (apply Exists.intro
                   refine⟨fun w' ab=>?_,J _ ?_⟩
                   ·(unfold Oper.quietAt
                     obtain⟨⟨ak,aS⟩,E⟩:=aO.out w' ab
                     clear ab
                     go_simp
                     try exact⟨rfl,rfl⟩
                     try rfl))
               clear J ax
               try simp only[nrm,Act.eval,nrq]))
           refine wpQuiet_nil ?_
           intro av aV
           go_wp2
           go_ret2
           first | exact⟨_,rfl,_,by rw[h.out];rfl,U.out.trans (an.out.trans aV)⟩ | exact⟨_,rfl,⟨_,by rw[h.out];rfl⟩,U.out.trans (an.out.trans aV)⟩ | exact⟨_,rfl,by rw[h.out];rfl,U.out.trans (an.out.trans aV)⟩
         | false =>
           rw[hpx] at bf
           have cj:=vi hpx
           clear aw W a8 hpx
           go_upto_region 14 with fail
           refine ay (by kernel_rfl) (by kernel_rfl) ?_
           repeat (first
            | go_big_quiet_skip
            | (refine wpQuiet_want (by rfl) (fun ax J=>?_)
               first
                | (refine quiet_move _ (by rfl) (J _ ?_))
                | (refine quiet_assign _ (by rfl) (J _ ?_))
                | (apply Exists.intro
                   refine⟨fun w' ab=>?_,J _ ?_⟩
                   ·(unfold Oper.quietAt
                     obtain⟨⟨ak,aS⟩,E⟩:=aO.out w' ab
                     clear ab
                     go_simp
                     try exact⟨rfl,rfl⟩
                     try rfl))
               clear J ax
               try simp only[nrm,Act.eval,nrq]))
           refine wpQuiet_nil ?_
           intro av aV
           go_wp2
           refine⟨⟨k+1,congrArg (Value.int .i64) (by omega),hlk,an.out.trans aV,fun j G=>?_⟩,by simp[intOf];omega⟩
           by_cases e:j=k
           ·subst e;exact cj.out
           ·exact aP.out j (by omega)
        ·obtain rfl:i=k:=by omega
         have aX:¬ (i:Int)<(i:Int):=by omega
         have au:cd=0:=by
          rw[W.out,if_neg]
          intro ar
          obtain⟨j,G,cC⟩:=a4.out.1 ar
          have:=aP.out j G
          simp[cC] at this
         have cl:=vi au
         clear au aw W
         go_wp2
         refine⟨⟨i+1,congrArg (Value.int .i64) (by omega),hlt,an.out,fun j G=>?_⟩,by simp[intOf];omega⟩
         by_cases e:j=i
         ·subst e;rw[a8.out,cl.out]
         ·exact ap.out j (by omega)
      ·have cT:(c == 0)=false:=by simpa using X
       have cU:(c != 0)=true:=by simpa using X
       rw[if_neg X] at W
       have h:Hid (aF=c):=vi (by
        have S:=aw.out (by rw[W.out];exact X)
        rw[h.out,S,W.out,if_neg X])
       clear X aw W a8
       go_wp2_with (first
        | (go_at_call 116;go_must (refine am.out.mono ?_;rintro e bC ⟨u,rfl,bz,rfl,aT⟩;have aD:Hid (Frm [] K bC):=vi (I.out.trans aT);clear aT)))
       go_ret2
       first | exact⟨_,rfl,_,by rw[h.out];rfl,U.out.trans aD.out⟩ | exact⟨_,rfl,⟨_,by rw[h.out];rfl⟩,U.out.trans aD.out⟩ | exact⟨_,rfl,by rw[h.out];rfl,U.out.trans aD.out⟩
     ·obtain rfl:n=i:=by omega
      have aX:¬ (n:Int)<(n:Int):=by omega
      have bX:cQ s 0 s.roles=0:=hZ s s.roles 0 (fun j G=>by rw[Nat.zero_add];exact ap.out j (by rw[aa.out] at G;exact G))
      have h:=vi h.out
      rw[bX,if_pos rfl] at h
      have cg:Hid (∀ j,j<n→∀ x∈(s.rol j).steps,1≤x.kind∧x.kind≤4):=vi fun j G=>by
       have S:=ap.out j G
       refine ni ?_
       unfold eh at S
       by_cases au:cF (s.rol j)=0
       ·exact au
       ·rw[if_neg au] at S;exact S
      obtain⟨bB,bu⟩:∃ b,s.roles.any (dM s)=b:=⟨_,rfl⟩
      rw[bu] at h
      have bE:=vi bu
      have bD:=I
      clear bX bu ap I hlt cE
      go_wp2
      clear N E O R aX
      go_loopw [8] (fun s8 aC=>∃ A:Nat,s8=.int .i64 A∧A≤n∧Frm [] K aC∧∀ j,j<A→dM s (s.rol j)=false) (fun s8 _=>n - (intOf s8).toNat)
      case atStart=>exact⟨0,rfl,Nat.zero_le _,bD.out,fun j G=>by omega⟩
      case round =>
       clear bD
       obtain⟨A,rfl,c1,V,a0⟩:=hrel
       have I:=vi V;have ap:=vi a0
       clear V a0
       obtain⟨bj,cN⟩:∃ bj,bj=wr:=⟨_,rfl⟩
       subst cN
       obtain⟨N,E,O,R⟩:=aj.out bj I.out
       by_cases hlt:A<n
       ·have cI:(A:Int)<(n:Int):=by omega
        have ah:A<s.roles.length:=by rw[aa.out];exact hlt
        have bG:Hid (∀ a,Frm [] K a→∃ b o bg ba bh,ao=some ⟨b,o,none⟩ ∧
         (a.cell? ⟨b,o+A*4,none⟩=some (.string (s.rol A).name)∧a.cell? ⟨b,o+A*4+1,none⟩=some bg∧a.cell? ⟨b,o+A*4+2,none⟩=some ba∧a.cell? ⟨b,o+A*4+3,none⟩=some bh)∧Rl3 a bg ba bh (s.rol A)):=vi fun a H=>Rls.at (aQ.out a H) ah
        have bk:Hid (dM s (s.rol A)=true→bB=true):=vi fun br=>by rw[← bE.out,List.any_eq_true];exact⟨_,List.mem_of_getElem? (SesD.rol_some ah),br⟩
        obtain⟨b,o,bg,ba,bh,rfl,⟨-,-,-,aq⟩,Y⟩:=bG.out K (Frm.refl _ _)
        obtain⟨bo,bp,bq,b9⟩:=Y.steps
        subst bq
        obtain⟨ai,aA⟩:∃ q,(s.rol A).steps.length=q:=⟨_,rfl⟩
        have c2:ai≤100:=by rw[← aA];exact(bH.out.r _ (List.mem_of_getElem? (SesD.rol_some ah))).t
        have bF:=vi aA
        rw[aA] at aq
        have ce:Hid (∀ a,Frm [] K a→a.cell? ⟨b,o+A*4+3,none⟩=some (.slice bo ai bp)):=vi fun a H=>H.keep aq
        have ck:=vi b9
        clear aA aq Y b9 ah bG N E O R
        obtain⟨N,E,O,R⟩:=aj.out bj I.out
        go_upto_region 20 with fail
        clear N E O R
        go_loopw [9] (fun s9 aC=>∃ k:Nat,s9=.int .i64 k∧k≤ai∧Frm [] K aC∧∀ j t,j<k→(s.rol A).steps[j]?=some t→(ei t && decide (bT s t.peer<0))=false) (fun s9 _=>ai - (intOf s9).toNat)
        case atStart=>exact⟨0,rfl,Nat.zero_le _,I.out,fun j t G=>by omega⟩
        case round =>
         clear I
         obtain⟨k,rfl,cG,V,aZ⟩:=hrel
         have I:=vi V;have aP:=vi aZ
         clear V aZ
         obtain⟨al,cM⟩:∃ al,al=wr:=⟨_,rfl⟩
         subst cM
         obtain⟨N,E,O,R⟩:=aj.out al I.out
         have aq:=ce.out al I.out
         by_cases hlk:k<ai
         ·have cH:(k:Int)<(ai:Int):=by omega
          obtain⟨x,ar⟩:∃ x,(s.rol A).steps[k]?=some x:=⟨_,List.getElem?_eq_getElem (by rw[bF.out];exact hlk)⟩
          obtain⟨cY,c8,rfl,bP⟩:=ck.out k x ar
          obtain⟨c0,cn,co,cp,cq,cr,cs,ct,cu⟩:=bP.frm I.out
          have ch:=vi (cg.out A hlt x (List.mem_of_getElem? ar))
          have bJ:=vi ar
          have cA:=aI c0
          obtain⟨az,bd⟩:∃ az,al.alloc (.cells #[.string x.frm,.string x.to,.int .i64 x.kind,.string x.msg,.string x.peer,.string x.ctr,.int .i64 x.low,.int .i64 x.high,.int .i64 x.add] 137)=az:=⟨_,rfl⟩
          have bn:Hid (Frm [] K az):=vi (by rw[← bd];exact I.out.alloc _)
          have bI:Hid (∀ a,Frm [] az a→a.cell? ⟨al.heap.size,2,none⟩=some (.int .i64 x.kind)∧a.cell? ⟨al.heap.size,4,none⟩=some (.string x.peer)):=vi fun a H=>by
           have hb:az.heap[al.heap.size]?=some (.cells #[.string x.frm,.string x.to,.int .i64 x.kind,.string x.msg,.string x.peer,.string x.ctr,.int .i64 x.low,.int .i64 x.high,.int .i64 x.add] 137 (0,0)):=by rw[← bd];exact heap_alloc_new _ _
           exact⟨H.keep (ae hb 2),H.keep (ae hb 4)⟩
          have aN:=vi bd
          clear bP ar bd
          go_upto_region 23 with fail
          rw[aN.out]
          clear aN c0 cn co cp cq cr cs ct cu cA N E O R aq
          obtain⟨cV,aG⟩:=bI.out az (Frm.refl _ _)
          go_upto_region 25 with fail
          clear cV aG
          have cf:Hid (eY s x 0=decide (2<x.kind)):=vi (by simp[eY])
          go_loopw [12,11] (fun s12 s11 aC=>∃ m:Nat,(s12=.int .i64 m∧s11=.bool (eY s x m))∧m≤n∧Frm [] az aC) (fun s12 _ _=>n - (intOf s12).toNat)
          case atStart=>exact⟨0,⟨rfl,by rw[cf.out]⟩,Nat.zero_le _,Frm.refl _ _⟩
          case round =>
           obtain⟨m,⟨rfl,rfl⟩,c5,V⟩:=hrel
           have aE:=vi V
           clear V
           obtain⟨av,cL⟩:∃ av,av=wr:=⟨_,rfl⟩
           subst cL
           obtain⟨N,E,O,R⟩:=aj.out av (bn.out.trans aE.out)
           by_cases hlm:m<n
           ·have c4:(m:Int)<(n:Int):=by omega
            have a7:=vi (nh (s:=s) (x:=x) (n:=m) (by rw[aa.out];exact hlm))
            obtain⟨bK,ca,-,-,-,aR,⟨ak,-⟩,-⟩:=Rls.at (aQ.out av (bn.out.trans aE.out)) (i:=m) (by rw[aa.out];omega)
            cases aR
            obtain⟨bA,bZ⟩:∃ bA,eY s x m=bA:=⟨_,rfl⟩
            rw[bZ] at a7 ⊢
            obtain⟨-,aG⟩:=bI.out av aE.out
            have bf:((s.rol m).name.toList == x.peer.toList)=decide ((s.rol m).name=x.peer):=aK _ _
            obtain⟨cc,b6⟩:∃ cc,decide ((s.rol m).name=x.peer)=cc:=⟨_,rfl⟩
            rw[b6] at bf a7
            have aO:Hid (∀ a,Frm [] av a→(a.cell? ⟨b,o+m*4,none⟩=some (.string (s.rol m).name)∧a.cell? ⟨al.heap.size,4,none⟩=some (.string x.peer))∧a.cell? ⟨w.heap.size,1,none⟩=some (.slice (some ⟨b,o,none⟩) n cap)):=vi fun a H=>⟨⟨H.keep ak,H.keep aG⟩,H.keep E⟩
            clear bZ b6 ak aG
            cases bA with
            | true =>
              go_upto_region 27 with fail
              refine ay (by kernel_rfl) (by kernel_rfl) ?_
              repeat (first
               | go_big_quiet_skip
               | (refine wpQuiet_want (by rfl) (fun ax J=>?_)
                  first
                   | (refine quiet_move _ (by rfl) (J _ ?_))
                   | (refine quiet_assign _ (by rfl) (J _ ?_))
                   | (apply Exists.intro
                      refine⟨fun w' ab=>?_,J _ ?_⟩
                      ·(unfold Oper.quietAt
                        obtain⟨⟨ak,aG⟩,E⟩:=aO.out w' ab
                        clear ab
                        go_simp
                        try exact⟨rfl,rfl⟩
                        try rfl))
                  clear J ax
                  try simp only[nrm,Act.eval,nrq]))
              refine wpQuiet_nil ?_
              intro cW bt
              go_wp2
              exact⟨⟨m+1,⟨congrArg (Value.int .i64) (by omega),by rw[a7.out];rfl⟩,hlm,aE.out.trans bt⟩,by simp[intOf];omega⟩
            | false =>
              go_upto_region 27 with fail
              refine ay (by kernel_rfl) (by kernel_rfl) ?_
              repeat (first
               | go_big_quiet_skip
               | (refine wpQuiet_want (by rfl) (fun ax J=>?_)
                  first
                   | (refine quiet_move _ (by rfl) (J _ ?_))
                   | (refine quiet_assign _ (by rfl) (J _ ?_))
                   | (apply Exists.intro
                      refine⟨fun w' ab=>?_,J _ ?_⟩
                      ·(unfold Oper.quietAt
                        obtain⟨⟨ak,aG⟩,E⟩:=aO.out w' ab
                        clear ab
                        go_simp
                        try exact⟨rfl,rfl⟩
                        try rfl))
                  clear J ax
                  try simp only[nrm,Act.eval,nrq]))
              refine wpQuiet_nil ?_
              intro cW bt
              go_wp2
              exact⟨⟨m+1,⟨congrArg (Value.int .i64) (by omega),by rw[a7.out];rfl⟩,hlm,aE.out.trans bt⟩,by simp[intOf];omega⟩
           ·obtain rfl:n=m:=by omega
            have aX:¬ (n:Int)<(n:Int):=by omega
            have a6:Hid (eY s x n=!(ei x && decide (bT s x.peer<0))):=vi (by
             have:=oR (s:=s) ch.out
             rw[aa.out] at this
             exact this)
            have a5:=vi (bn.out.trans aE.out)
            obtain⟨cR,aY⟩:∃ l,(ei x && decide (bT s x.peer<0))=l:=⟨_,rfl⟩
            rw[aY] at a6
            rw[a6.out]
            cases cR with
            | true =>
              have h:Hid (aF=294):=vi (by
               have S:bB=true:=bk.out (by unfold dM;rw[List.any_eq_true];exact⟨x,List.mem_of_getElem? bJ.out,aY⟩)
               rw[h.out,S,if_pos rfl])
              clear aY a6 bk
              go_wp2
              go_ret2
              first | exact⟨_,rfl,_,by rw[h.out];rfl,U.out.trans a5.out⟩ | exact⟨_,rfl,⟨_,by rw[h.out];rfl⟩,U.out.trans a5.out⟩ | exact⟨_,rfl,by rw[h.out];rfl,U.out.trans a5.out⟩
            | false =>
              have bl:=vi aY
              clear aY a6
              go_wp2
              refine⟨⟨k+1,congrArg (Value.int .i64) (by omega),hlk,a5.out,fun j t G a2=>?_⟩,by simp[intOf];omega⟩
              by_cases e:j=k
              ·subst e;rw[bJ.out] at a2;cases a2;exact bl.out
              ·exact aP.out j t (by omega) a2
         ·obtain rfl:ai=k:=by omega
          have aX:¬ (ai:Int)<(ai:Int):=by omega
          have bl:Hid (dM s (s.rol A)=false):=vi (by
           unfold dM
           rw[List.any_eq_false]
           intro t a2
           obtain⟨j,G⟩:=List.getElem?_of_mem a2
           rw[aP.out j t (by have:=ag G;rw[bF.out] at this;exact this) G]
           decide)
          clear bk
          go_wp2
          refine⟨⟨A+1,congrArg (Value.int .i64) (by omega),hlt,I.out,fun j G=>?_⟩,by simp[intOf];omega⟩
          by_cases e:j=A
          ·subst e;exact bl.out
          ·exact ap.out j (by omega)
       ·obtain rfl:n=A:=by omega
        have aX:¬ (n:Int)<(n:Int):=by omega
        have b0:bB=false:=by
         rw[← bE.out,List.any_eq_false]
         intro r a1
         obtain⟨j,G⟩:=List.getElem?_of_mem a1
         have bY:=ag G
         have S:=ap.out j (by rw[aa.out] at bY;exact bY)
         rw[show s.rol j=r from aW G] at S
         rw[S];decide
        have h:Hid (aF=0):=vi (by rw[h.out,b0];rfl)
        clear b0
        go_wp2
        go_ret2
        first | exact⟨_,rfl,_,by rw[h.out];rfl,U.out.trans I.out⟩ | exact⟨_,rfl,⟨_,by rw[h.out];rfl⟩,U.out.trans I.out⟩ | exact⟨_,rfl,by rw[h.out];rfl,U.out.trans I.out⟩
   ·have h:Hid (aF=2):=vi (by rw[h.out,hb,if_pos rfl])
    clear hb a9
    rcases cK with S | ⟨S,bb⟩ | ⟨S,bb,Y⟩ | ⟨S,bb,Y,bO⟩ | ⟨S,bb,Y,bO,cz⟩ | ⟨S,bb,Y,bO,cz,cZ⟩
    all_goals
     try have bQ:decide ((n:Int)<2)=false:=decide_eq_false (by omega)
     try have bR:decide (4<(n:Int))=false:=decide_eq_false (by omega)
     try have bS:decide (s.cls<1)=false:=decide_eq_false (by omega)
     try have bU:decide (3<s.cls)=false:=decide_eq_false (by omega)
     try have bV:decide (s.cap<1)=false:=decide_eq_false (by omega)
     go_wp2_with (first
      | (go_at_call 115;go_must (refine(aM.out _).mono ?_;rintro e bi ⟨rfl,af⟩;have ad:=vi (U.out.trans af);clear N E O R;obtain⟨N,E,O,R⟩:=aj.out bi af;clear af)))
     go_ret2
     first | exact⟨_,rfl,_,by rw[h.out];rfl,ad.out⟩ | exact⟨_,rfl,⟨_,by rw[h.out];rfl⟩,ad.out⟩ | exact⟨_,rfl,by rw[h.out];rfl,ad.out⟩
end Go.Proofs.YtohfkhjlnlahdaaGreat
