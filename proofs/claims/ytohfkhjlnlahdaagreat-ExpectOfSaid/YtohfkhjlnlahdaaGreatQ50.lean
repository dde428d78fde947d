/- Part of the proof. -/
import Derived.Test.YtohfkhjlnlahdaaGreatQ04
import Derived.Test.YtohfkhjlnlahdaaGreatQ44
import Derived.Test.YtohfkhjlnlahdaaGreatQ43
import Derived.Test.YtohfkhjlnlahdaaGreatQ39
import Derived.Sort.BigQuietIn
import Derived.Deep.OwnRows
import Derived.Test.YtohfkhjlnlahdaaGreatQ49
set_option linter.all false
namespace Go.Proofs.YtohfkhjlnlahdaaGreat
open Go.RowKit Go.BigFrame
theorem ev (e:Int) (a:World):Calls Tryz.prog 17 #[.int .i64 e] a (Ret (.int .i64 e) (a=·)):=by
 go_enter Tryz.func17,Tryz.ntmps17
 go_wp2
 go_ret
 exact⟨rfl,rfl⟩
set_option maxHeartbeats 2000000 in
set_option maxRecDepth 100000 in
theorem mW (v v':Value) (L:List Mv) (w:World) (H:Arr 4 MvAt w v L) (I:Arr 4 MvAt w v' L) (ag:L.length≤1000000):Calls Tryz.prog 33 #[v,v'] w (Ret (.bool true) (Frm [] w)):=by
 obtain⟨ao,al,rfl⟩:=H.shape
 obtain⟨aj,ak,rfl⟩:=I.shape
 obtain⟨n,K⟩:∃ n,L.length=n:=⟨_,rfl⟩
 have X:=vi K;have E:=vi H;have G:=vi I
 rw[K] at E G ag ⊢
 clear H I K
 go_enter Tryz.func33,Tryz.ntmps33
 go_upto_region 4 with fail
 go_loopw [5] (fun s5 wr=>∃ i:Nat,s5=.int .i64 i∧i≤n∧Frm [] w wr) (fun s5 _=>n - (intOf s5).toNat)
 case atStart=>exact⟨0,rfl,Nat.zero_le _,Frm.refl _ _⟩
 case round =>
  obtain⟨i,rfl,an,U⟩:=hrel
  have a:=vi U
  clear U
  by_cases hlt:i<n
  ·have ap:(i:Int)<(n:Int):=by omega
   obtain⟨m,J⟩:∃ m,L[i]?=some m:=⟨_,List.getElem?_eq_getElem (by rw[X.out];exact hlt)⟩
   obtain⟨ae,ah,ab,N⟩:=E.out.get J
   obtain⟨af,ai,ad,O⟩:=G.out.get J
   subst ab ad
   have Y:Hid (∀ h,Frm [] wr h→MvAt h ae (ah+i*4) m∧MvAt h af (ai+i*4) m):=vi fun h S=>⟨N.frm (a.out.trans S),O.frm (a.out.trans S)⟩
   clear N O J E G
   go_upto_region 6 with fail
   refine ay (by kernel_rfl) (by kernel_rfl) ?_
   repeat (first
    | go_big_quiet_skip
    | (refine wpQuiet_want (by rfl) (fun aa A=>?_)
       first
        | (refine quiet_move _ (by rfl) (A _ ?_))
        | (refine quiet_assign _ (by rfl) (A _ ?_))
        | (apply Exists.intro
           refine⟨fun w' R=>?_,A _ ?_⟩
           ·(unfold Oper.quietAt
             obtain⟨⟨ar,au,av,aw⟩,⟨ax,az,aA,aB⟩⟩:=Y.out w' R
             clear R
             go_simp
             try exact⟨rfl,rfl⟩
             try rfl))
       clear A aa
       try simp only[nrm,Act.eval,nrq]))
   refine wpQuiet_nil ?_
   intro aq V
   have W:=vi (a.out.trans V)
   clear V
   go_wp2
   exact⟨⟨i+1,congrArg (Value.int .i64) (by omega),hlt,W.out⟩,by simp[intOf];omega⟩
  ·have am:¬ (i:Int)<(n:Int):=by omega
   go_wp2
   go_ret
   exact⟨rfl,a.out⟩
set_option maxHeartbeats 2000000 in
set_option maxRecDepth 100000 in
theorem fv (v v':Value) (L:List Sp) (w:World) (H:Arr 3 SuAt w v L) (I:Arr 3 SuAt w v' L) (ag:L.length≤1000000):Calls Tryz.prog 23 #[v,v'] w (Ret (.bool true) (Frm [] w)):=by
 obtain⟨ao,al,rfl⟩:=H.shape
 obtain⟨aj,ak,rfl⟩:=I.shape
 obtain⟨n,K⟩:∃ n,L.length=n:=⟨_,rfl⟩
 have X:=vi K;have E:=vi H;have G:=vi I
 rw[K] at E G ag ⊢
 clear H I K
 go_enter Tryz.func23,Tryz.ntmps23
 go_upto_region 4 with fail
 go_loopw [5] (fun s5 wr=>∃ i:Nat,s5=.int .i64 i∧i≤n∧Frm [] w wr) (fun s5 _=>n - (intOf s5).toNat)
 case atStart=>exact⟨0,rfl,Nat.zero_le _,Frm.refl _ _⟩
 case round =>
  obtain⟨i,rfl,an,U⟩:=hrel
  have a:=vi U
  clear U
  by_cases hlt:i<n
  ·have ap:(i:Int)<(n:Int):=by omega
   obtain⟨m,J⟩:∃ m,L[i]?=some m:=⟨_,List.getElem?_eq_getElem (by rw[X.out];exact hlt)⟩
   obtain⟨ae,ah,ab,N⟩:=E.out.get J
   obtain⟨af,ai,ad,O⟩:=G.out.get J
   subst ab ad
   have Y:Hid (∀ h,Frm [] wr h→SuAt h ae (ah+i*3) m∧SuAt h af (ai+i*3) m):=vi fun h S=>⟨N.frm (a.out.trans S),O.frm (a.out.trans S)⟩
   clear N O J E G
   go_upto_region 6 with fail
   refine ay (by kernel_rfl) (by kernel_rfl) ?_
   repeat (first
    | go_big_quiet_skip
    | (refine wpQuiet_want (by rfl) (fun aa A=>?_)
       first
        | (refine quiet_move _ (by rfl) (A _ ?_))
        | (refine quiet_assign _ (by rfl) (A _ ?_))
        | (apply Exists.intro
           refine⟨fun w' R=>?_,A _ ?_⟩
           ·(unfold Oper.quietAt
             obtain⟨⟨ar,au,av⟩,⟨aw,ax,az⟩⟩:=Y.out w' R
             clear R
             go_simp
             try exact⟨rfl,rfl⟩
             try rfl))
       clear A aa
       try simp only[nrm,Act.eval,nrq]))
   refine wpQuiet_nil ?_
   intro aq V
   have W:=vi (a.out.trans V)
   clear V
   go_wp2
   exact⟨⟨i+1,congrArg (Value.int .i64) (by omega),hlt,W.out⟩,by simp[intOf];omega⟩
  ·have am:¬ (i:Int)<(n:Int):=by omega
   go_wp2
   go_ret
   exact⟨rfl,a.out⟩
set_option maxHeartbeats 4000000 in
set_option maxRecDepth 100000 in
theorem mX (v:Value) (s:SesD) (w:World) (ai:SesV w v s):Calls Tryz.prog 22 #[v] w (Ret (.bool (!eu s)) (Frm [] w)):=by
 obtain⟨bF,rfl,am⟩:=ai
 obtain⟨ao,cap,e,-⟩:=id am
 subst e
 have ax:=vi am
 have K:Hid (eu s=((decide (4<s.roles.length) || decide (60<s.name.size)) || s.roles.any di)):=vi rfl
 obtain⟨J,a9⟩:∃ b,eu s=b:=⟨_,rfl⟩
 rw[a9] at K ⊢
 obtain⟨n,aK⟩:∃ n,s.roles.length=n:=⟨_,rfl⟩
 rw[aK] at K ax ⊢
 have aV:=vi aK
 obtain⟨G,ak⟩:∃ G,w.alloc (.cells #[.string s.name,.slice ao n cap,.int .i64 s.cls,.int .i64 s.cap] 25)=G:=⟨_,rfl⟩
 have aG:Frm [] w G:=by rw[← ak];exact(Frm.refl [] w).alloc _
 have V:=vi aG
 have aT:Hid (∀ a,Frm [] G a→a.cell? ⟨w.heap.size,0,none⟩=some (.string s.name)∧a.cell? ⟨w.heap.size,1,none⟩=some (.slice ao n cap)):=vi fun a H=>by
  have hb:G.heap[w.heap.size]?=some (.cells #[.string s.name,.slice ao n cap,.int .i64 s.cls,.int .i64 s.cap] 25 (0,0)):=by rw[← ak];exact heap_alloc_new _ _
  exact⟨H.keep (ae hb 0),H.keep (ae hb 1)⟩
 have bi:Hid (∀ a,Frm [] G a→Rls a (.slice ao n cap) s.roles):=vi fun a H=>ax.out.frm (aG.trans H)
 have bu:Hid (G.heap[w.heap.size]?=some (.cells #[.string s.name,.slice ao n cap,.int .i64 s.cls,.int .i64 s.cap] 25 (0,0))):=vi (by rw[← ak];exact heap_alloc_new _ _)
 have af:=vi ak
 clear am a9 aK aG ak ax
 go_enter Tryz.func22,Tryz.ntmps22
 go_upto_region 1 with (first | (refine aH rfl 25 _ rfl _ rfl ?_;rw[af.out]))
 clear af
 obtain⟨aD,aE⟩:=aT.out G (Frm.refl _ _)
 by_cases aj:4<n
 ·have A:Hid (J=true):=vi (by rw[K.out,decide_eq_true aj];rfl)
  have aF:decide (4<(n:Int))=true:=decide_eq_true (by omega)
  clear K
  go_wp2
  go_ret
  exact⟨by rw[A.out];rfl,V.out⟩
 by_cases h2:60<s.name.size
 ·have A:Hid (J=true):=vi (by rw[K.out,decide_eq_true h2];simp)
  have aF:decide (4<(n:Int))=false:=decide_eq_false (by omega)
  have a6:decide (60<(s.name.size:Int))=true:=decide_eq_true (by omega)
  clear K
  go_wp2
  go_ret
  exact⟨by rw[A.out];rfl,V.out⟩
 have aU:Hid (J=s.roles.any di):=vi (by rw[K.out,decide_eq_false aj,decide_eq_false h2];rfl)
 have aF:decide (4<(n:Int))=false:=decide_eq_false (by omega)
 have a6:decide (60<(s.name.size:Int))=false:=decide_eq_false (by omega)
 clear K
 go_upto_region 4 with fail
 clear aD aE aF a6 h2
 go_loopw [3] (fun s4 wr=>∃ i:Nat,s4=.int .i64 i∧i≤n∧Frm [] G wr∧∀ j,j<i→di (s.rol j)=false) (fun s4 _=>n - (intOf s4).toNat)
 case atStart=>exact⟨0,rfl,Nat.zero_le _,Frm.refl _ _,fun j I=>by omega⟩
 case round =>
  obtain⟨i,rfl,bA,al,bb⟩:=hrel
  have O:=vi al;have aZ:=vi bb
  clear al bb
  obtain⟨E,bs⟩:∃ E,E=wr:=⟨_,rfl⟩
  subst bs
  obtain⟨aD,aE⟩:=aT.out E O.out
  by_cases hlt:i<n
  ·have bD:(i:Int)<(n:Int):=by omega
   have aJ:i<s.roles.length:=by rw[aV.out];exact hlt
   obtain⟨b,o,bG,bz,bH,rfl,⟨a2,a3,a4,a5⟩,ar⟩:=Rls.at (bi.out E O.out) aJ
   obtain⟨ay,aB,bn,-⟩:=id ar.sts
   obtain⟨ac,aA,bm,-⟩:=id ar.ctrs
   obtain⟨az,aC,bo,bc⟩:=id ar.steps
   subst bn;subst bm;subst bo
   have bj:=vi bc
   have aq:=vi (lf (s.rol i))
   have R:Hid (di (s.rol i)=true→J=true):=vi fun ai=>by rw[aU.out,List.any_eq_true];exact⟨_,List.mem_of_getElem? (SesD.rol_some aJ),ai⟩
   obtain⟨aa,aL⟩:∃ q,(s.rol i).sts.length=q:=⟨_,rfl⟩
   obtain⟨ab,aM⟩:∃ q,(s.rol i).ctrs.length=q:=⟨_,rfl⟩
   obtain⟨h,av⟩:∃ q,(s.rol i).steps.length=q:=⟨_,rfl⟩
   have aX:=vi av
   rw[aL,aM,av] at aq;rw[aL] at a3;rw[aM] at a4;rw[av] at a5
   have bp:=aI a2
   obtain⟨S,au⟩:∃ S,E.alloc (.cells #[.string (s.rol i).name,.slice ay aa aB,.slice ac ab aA,.slice az h aC] 87)=S:=⟨_,rfl⟩
   have ah:Hid (Frm [] E S):=vi (by rw[← au];exact(Frm.refl _ _).alloc _)
   have a0:Hid (∀ a,Frm [] S a→a.cell? ⟨E.heap.size,0,none⟩=some (.string (s.rol i).name)∧a.cell? ⟨E.heap.size,1,none⟩=some (.slice ay aa aB)∧a.cell? ⟨E.heap.size,2,none⟩=some (.slice ac ab aA)∧a.cell? ⟨E.heap.size,3,none⟩=some (.slice az h aC)):=vi fun a H=>by
    have hb:S.heap[E.heap.size]?=some (.cells #[.string (s.rol i).name,.slice ay aa aB,.slice ac ab aA,.slice az h aC] 87 (0,0)):=by rw[← au];exact heap_alloc_new _ _
    exact⟨H.keep (ae hb 0),H.keep (ae hb 1),H.keep (ae hb 2),H.keep (ae hb 3)⟩
   have af:=vi au
   clear ar bc aJ aL aM av au
   go_upto_region 7 with fail
   rw[af.out]
   clear af a2 a3 a4 a5 bp aD aE
   obtain⟨be,bf,bg,bh⟩:=a0.out S (Frm.refl _ _)
   rcases aq.out with ⟨U,N⟩ | ⟨U,Y,N⟩ | ⟨U,Y,ap,N⟩ | ⟨U,Y,ap,aO,N⟩ | ⟨U,Y,ap,aO,N⟩
   iterate 4
    focus
     have A:Hid (J=true):=vi (R.out N)
     try have aP:decide (4<(ab:Int))=true:=decide_eq_true U
     try have aP:decide (4<(ab:Int))=false:=decide_eq_false U
     try have aQ:decide (6<(aa:Int))=true:=decide_eq_true Y
     try have aQ:decide (6<(aa:Int))=false:=decide_eq_false Y
     try have aR:decide (12<(h:Int))=true:=decide_eq_true ap
     try have aR:decide (12<(h:Int))=false:=decide_eq_false ap
     try have bd:decide (60<((s.rol i).name.size:Int))=true:=decide_eq_true aO
     clear N R aq
     go_wp2
     go_ret
     exact⟨by rw[A.out];rfl,V.out.trans (O.out.trans ah.out)⟩
   have aP:decide (4<(ab:Int))=false:=decide_eq_false U
   have aQ:decide (6<(aa:Int))=false:=decide_eq_false Y
   have aR:decide (12<(h:Int))=false:=decide_eq_false ap
   have bd:decide (60<((s.rol i).name.size:Int))=false:=decide_eq_false aO
   have X:=vi N
   clear N aq
   go_upto_region 10 with fail
   clear be bf bg bh aP aQ aR bd
   go_loopw [5] (fun s6 bt=>∃ k:Nat,s6=.int .i64 k∧k≤h∧Frm [] S bt∧∀ j t,j<k→(s.rol i).steps[j]?=some t→er t=false) (fun s6 _=>h - (intOf s6).toNat)
   case atStart=>exact⟨0,rfl,Nat.zero_le _,Frm.refl _ _,fun j t I=>by omega⟩
   case round =>
    obtain⟨k,rfl,bB,al,ba⟩:=hrel
    have W:=vi al;have aY:=vi ba
    clear al ba
    obtain⟨aS,br⟩:∃ aS,aS=wr:=⟨_,rfl⟩
    subst br
    obtain⟨be,bf,bg,bh⟩:=a0.out aS W.out
    by_cases hlk:k<h
    ·have bC:(k:Int)<(h:Int):=by omega
     obtain⟨x,aN⟩:∃ x,(s.rol i).steps[k]?=some x:=⟨_,List.getElem?_eq_getElem (by rw[aX.out];exact hlk)⟩
     obtain⟨bv,bE,rfl,a7⟩:=bj.out k x aN
     obtain⟨-,-,-,bw,bx,-⟩:=a7.frm (ah.out.trans W.out)
     have a1:=vi aN
     have ad:Hid (er x=true→J=true):=vi fun ai=>R.out (by rw[X.out,List.any_eq_true];exact⟨x,List.mem_of_getElem? a1.out,ai⟩)
     clear a7 aN
     by_cases b1:60<x.msg.size
     ·have A:Hid (J=true):=vi (ad.out (by simp[er,b1]))
      have bk:decide (60<(x.msg.size:Int))=true:=decide_eq_true (by omega)
      clear ad R X
      go_wp2
      go_ret
      exact⟨by rw[A.out];rfl,V.out.trans (O.out.trans (ah.out.trans W.out))⟩
     have bk:decide (60<(x.msg.size:Int))=false:=decide_eq_false (by omega)
     by_cases b2:60<x.peer.size
     ·have A:Hid (J=true):=vi (ad.out (by simp[er,b2]))
      have bl:decide (60<(x.peer.size:Int))=true:=decide_eq_true (by omega)
      clear ad R X
      go_wp2
      go_ret
      exact⟨by rw[A.out];rfl,V.out.trans (O.out.trans (ah.out.trans W.out))⟩
     have bl:decide (60<(x.peer.size:Int))=false:=decide_eq_false (by omega)
     have aw:Hid (er x=false):=vi (by simp[er];omega)
     clear ad R X
     go_wp2
     refine⟨⟨k+1,congrArg (Value.int .i64) (by omega),hlk,W.out,fun j t I an=>?_⟩,by simp[intOf];omega⟩
     by_cases e:j=k
     ·subst e;rw[a1.out] at an;cases an;exact aw.out
     ·exact aY.out j t (by omega) an
    ·obtain rfl:h=k:=by omega
     have bq:¬ (h:Int)<(h:Int):=by omega
     have aw:Hid (di (s.rol i)=false):=vi (by
      rw[X.out,List.any_eq_false]
      intro t an
      obtain⟨j,I⟩:=List.getElem?_of_mem an
      rw[aY.out j t (by have:=ag I;rw[aX.out] at this;exact this) I]
      decide)
     clear R X
     go_wp2
     refine⟨⟨i+1,congrArg (Value.int .i64) (by omega),hlt,O.out.trans (ah.out.trans W.out),fun j I=>?_⟩,by simp[intOf];omega⟩
     by_cases e:j=i
     ·subst e;exact aw.out
     ·exact aZ.out j (by omega)
  ·obtain rfl:n=i:=by omega
   have bq:¬ (n:Int)<(n:Int):=by omega
   have A:Hid (J=false):=vi (by
    rw[aU.out,List.any_eq_false]
    intro r am
    obtain⟨j,I⟩:=List.getElem?_of_mem am
    have a8:=ag I
    have aj:=aZ.out j (by rw[aV.out] at a8;exact a8)
    rw[show s.rol j=r from aW I] at aj
    rw[aj];decide)
   go_wp2
   go_ret
   exact⟨by rw[A.out];rfl,V.out.trans O.out⟩
set_option maxHeartbeats 4000000 in
set_option maxRecDepth 100000 in
theorem ir (v:Value) (s:SesD) (w:World) (au:SesV w v s) (am:WfS s):Calls Tryz.prog 14 #[v] w (aU (ve w s)):=by
 have ab:Hid (eu s=false→SmS s):=vi (uh am)
 have N:Hid (gvB s=(!eu s && decide (eo s=0))):=vi rfl
 clear am
 obtain⟨aB,rfl,ag⟩:=au
 obtain⟨ao,cap,e,-⟩:=id ag
 subst e
 have Y:=vi ag
 obtain⟨aw,ae⟩:∃ b,eu s=b:=⟨_,rfl⟩
 rw[ae] at ab N
 obtain⟨n,S⟩:∃ n,s.roles.length=n:=⟨_,rfl⟩
 rw[S] at Y ⊢
 obtain⟨h,R⟩:∃ h,w.alloc (.cells #[.string s.name,.slice ao n cap,.int .i64 s.cls,.int .i64 s.cap] 25)=h:=⟨_,rfl⟩
 have ad:Frm [] w h:=by rw[← R];exact(Frm.refl [] w).alloc _
 have W:=vi ad
 have aa:Hid (∀ a,Frm [] h a→Rls a (.slice ao n cap) s.roles):=vi fun a G=>Y.out.frm (ad.trans G)
 have V:Hid (h.heap[w.heap.size]?=some (.cells #[.string s.name,.slice ao n cap,.int .i64 s.cls,.int .i64 s.cap] 25 (0,0))):=vi (by rw[← R];exact heap_alloc_new _ _)
 have H:=vi (mX (.agg #[.string s.name,.slice ao n cap,.int .i64 s.cls,.int .i64 s.cap]) s h ⟨_,rfl,aa.out h (Frm.refl _ _)⟩)
 rw[ae] at H
 have ai:=vi R
 clear ag ae S ad R Y
 go_enter Tryz.func14,Tryz.ntmps14
 go_upto_region 1 with (first | (refine aH rfl 25 _ rfl _ rfl ?_;rw[ai.out]))
 clear ai
 cases aw with
 | true =>
   go_wp2_with (first
    | (refine af rfl 25 _ rfl _ rfl _ 25 V.out _ Tryz.underlying25 rfl (by kernel_rfl) ?_)
    | (go_at_call 22;go_must (refine H.out.mono ?_;rintro e ax ⟨rfl,E⟩;have A:=vi E;clear E H)))
   go_ret2
   exact⟨_,rfl,W.out.trans A.out,.inl ⟨by rw[N.out];rfl,rfl⟩⟩
 | false =>
   go_upto_region 3 with (first
    | (refine af rfl 25 _ rfl _ rfl _ 25 V.out _ Tryz.underlying25 rfl (by kernel_rfl) ?_)
    | (go_at_call 22;go_must (refine H.out.mono ?_;rintro e ax ⟨rfl,E⟩;have A:=vi E;clear E H)))
   have aj:=vi (ab.out trivial)
   have O:Hid (gvB s=decide (eo s=0)):=vi (by rw[N.out];rfl)
   have U:Hid (∀ a,Frm [] h a→a.heap[w.heap.size]?=some (.cells #[.string s.name,.slice ao n cap,.int .i64 s.cls,.int .i64 s.cap] 25 (0,0))):=vi fun a G=>G.at V.out (by simp)
   have K:Hid (∀ a,Frm [] h a→Calls Tryz.prog 55 #[.agg #[.string s.name,.slice ao n cap,.int .i64 s.cls,.int .i64 s.cap]] a (aU fun u w'=>∃ i,u=.tuple #[.int .i64 i,.int .i64 (eo s)]∧Frm [] a w')):=vi fun a G=>sn _ s a ⟨_,rfl,aa.out a G⟩ aj.out
   clear N ab
   by_cases hck:eo s=0
   ·have ah:Hid (∀ a,Frm [] h a→Calls Tryz.prog 53 #[.agg #[.string s.name,.slice ao n cap,.int .i64 s.cls,.int .i64 s.cap]] a (aU (NewTo a s))):=vi fun a G=>pm _ s a ⟨_,rfl,aa.out a G⟩ aj.out hck
    have X:Hid (gvB s=true):=vi (by rw[O.out];exact decide_eq_true hck)
    rw[hck] at K
    clear O hck
    go_wp2_with (first
     | (refine af rfl 25 _ rfl _ rfl _ 25 (U.out _ A.out) _ Tryz.underlying25 rfl (by kernel_rfl) ?_)
     | (refine af rfl 25 _ rfl _ rfl _ 25 (U.out _ I.out) _ Tryz.underlying25 rfl (by kernel_rfl) ?_)
     | (go_at_call 55;go_must (refine(K.out _ A.out).mono ?_;rintro e ay ⟨u,rfl,av,rfl,J⟩;have I:=vi (A.out.trans J);clear J))
     | (go_at_call 53;go_must (refine(ah.out _ I.out).mono ?_;rintro e az ⟨v,rfl,S⟩;obtain⟨⟨aA,ar,rfl,-,an⟩,E⟩:=S;have aq:=vi (an az (Agree.refl _ _));have ap:=vi (I.out.trans E);clear an E ah))
     | (go_at_call 17;go_must (refine(ev _ _).mono ?_;rintro e w' ⟨rfl,rfl⟩)))
    go_ret2
    exact⟨_,rfl,W.out.trans ap.out,.inr ⟨X.out,aA,ar,rfl,aq.out⟩⟩
   ·have X:Hid (gvB s=false):=vi (by rw[O.out];exact decide_eq_false hck)
    obtain⟨ak,al⟩:∃ ak,eo s=ak:=⟨_,rfl⟩
    rw[al] at K hck
    clear O al
    go_wp2_with (first
     | (refine af rfl 25 _ rfl _ rfl _ 25 (U.out _ A.out) _ Tryz.underlying25 rfl (by kernel_rfl) ?_)
     | (go_at_call 55;go_must (refine(K.out _ A.out).mono ?_;rintro e ay ⟨u,rfl,av,rfl,J⟩;have I:=vi (A.out.trans J);clear J)))
    go_ret2
    exact⟨_,rfl,W.out.trans I.out,.inl ⟨X.out,rfl⟩⟩
end Go.Proofs.YtohfkhjlnlahdaaGreat
namespace Go.Proofs.YtohfkhjlnlahdaaGreat
open Go.RowKit Go.BigFrame
theorem tQ (h:World) (t:TypeId) (m:Mv):Arr 4 MvAt (h.alloc (.cells #[.int .i64 m.kind,.int .i64 m.role,.int .i64 m.step,.int .i64 m.place] t)) (.slice (some ⟨h.heap.size,0,none⟩) 1 1) [m]:=by
 have A:=ae (heap_alloc_new h (.cells #[.int .i64 m.kind,.int .i64 m.role,.int .i64 m.step,.int .i64 m.place] t))
 refine⟨_,1,rfl,fun i x a=>⟨h.heap.size,0,rfl,?_⟩⟩
 match i,a with
 | 0,a=>cases a;exact⟨A 0,A 1,A 2,A 3⟩
 | i+1,a=>simp at a
theorem pG (h:World) (t:TypeId) (x:Sp):Arr 3 SuAt (h.alloc (.cells #[.int .i64 x.role,.int .i64 x.peer,.string x.msg] t)) (.slice (some ⟨h.heap.size,0,none⟩) 1 1) [x]:=by
 have A:=ae (heap_alloc_new h (.cells #[.int .i64 x.role,.int .i64 x.peer,.string x.msg] t))
 refine⟨_,1,rfl,fun i y a=>⟨h.heap.size,0,rfl,?_⟩⟩
 match i,a with
 | 0,a=>cases a;exact⟨A 0,A 1,A 2⟩
 | i+1,a=>simp at a
theorem uV {w w':World} {v:Value} (E:mP w smE 100 v w'):∃ ao c,v=.tuple #[.slice ao 1 c,suV spE,.bool true,.int .i64 0]∧Arr 4 MvAt w' (.slice ao 1 c) [km1]∧Frm [] w w':=by
 obtain⟨H,⟨a,-⟩ | ⟨n,u,rest,I,a,rfl,h⟩⟩:=E
 ·have:=rU
  rw[a] at this
  cases this
 ·have A:=rU
  have hb:=tA
  rw[a] at A hb
  obtain rfl:u=spE:=(List.cons.inj A).1
  have G:dq (aQ smE 100).1 n=[km1]:=Option.some.inj hb
  rw[G] at h
  obtain⟨ao,c,rfl⟩:=h.shape
  exact⟨ao,c,rfl,h,H⟩
theorem uW {w w':World} {v:Value} (K:tV w smE 100 v w'):∃ g o c a b1,v=.tuple #[.slice (some ⟨g,o,none⟩) 2 c,.int .i64 0] ∧
  (w'.cell? ⟨g,o,none⟩=some (.slice (some ⟨a,0,none⟩) 2 2)∧w'.cell? ⟨g,o+1,none⟩=some (.slice (some ⟨b1,0,none⟩) 1 1))∧(w'.cell? ⟨a,0,none⟩=some (.bool true)∧w'.cell? ⟨a,1,none⟩=some (.bool true))∧w'.cell? ⟨b1,0,none⟩=some (.bool true)∧Frm [] w w':=by
 obtain⟨N,u,rfl,H⟩:=K
 have e:eM smE (d9 smE (aQ smE 100).1)=[[d9 smE (aQ smE 100).1 0 0,d9 smE (aQ smE 100).1 0 1],[d9 smE (aQ smE 100).1 1 0]]:=rfl
 have h:=ul
 simp only[Bool.and_eq_true] at h
 rw[e,h.1.1,h.1.2,h.2] at H
 obtain⟨ao,cap,rfl,G⟩:=H
 obtain⟨g,o,A,a,c0,E⟩:=G 0 _ rfl
 subst A
 obtain⟨O,R,A,b1,I,J⟩:=G 1 _ rfl
 cases A
 exact⟨g,o,cap,a,b1,rfl,⟨c0,I⟩,⟨ae E 0,ae E 1⟩,ae J 0,N⟩
theorem uX:(aQ smE 100).1.length=6:=by rw[fU];decide +kernel
theorem sw {a:World} {b:Nat} {c:Value} {t:TypeId} (E:a.heap[b]?=some (.cells #[c] t (0,0))) (h:(∃ v,c=.int .i64 v)∨∃ v,c=.bool v) (H:t=3∨t=4):∀ x∈[b],FgB a x:=by
 intro x G
 rw[List.mem_singleton] at G
 subst G
 have k:=fun o=>ae E o
 have A:∀ (o:Nat) (u:Value),a.cell? ⟨x,o,none⟩=some u→u=c:=fun o u e=>by
  rw[k] at e
  cases o with
  | zero=>exact(Option.some.inj e).symm
  | succ o=>simp at e
 refine⟨fun C N e=>?_,fun o y e=>?_,fun o p e=>?_,fun o g K p n I e J=>?_⟩
 ·rw[E] at e
  cases e
  rcases H with rfl | rfl <;> decide
 ·rcases h with ⟨v,rfl⟩ | ⟨v,rfl⟩ <;> cases A _ _ e
 ·rcases h with ⟨v,rfl⟩ | ⟨v,rfl⟩ <;> cases A _ _ e
 ·rcases h with ⟨v,rfl⟩ | ⟨v,rfl⟩ <;> cases A _ _ e
theorem SpO.sc {G J:World} {s:SesD} {Y W b:Nat} {X:Bool} {I:List (Nd × Nat)} {c:Value} {t:TypeId} (K:SpO G s Y X W I) (ad:0<s.roles.length) (hb:G.heap[b]?=some (.cells #[c] t (0,0))) (U:(∃ v,c=.int .i64 v)∨∃ v,c=.bool v) (H:t=3∨t=4) (a:Frm [b] G J):SpO J s Y X W I:=by
 obtain⟨ag,af,lim,ao,cap,N,O,aa,R⟩:=K.out
 have ab:=sw hb U H
 refine⟨⟨ag,af,lim,ao,cap,a.at N ?_,a.at O ?_,aa.frm fun g o d h=>?_,R.frm a fun ah e E=>?_⟩,fun d h=>(K.st d h).fg ad ab a⟩
 ·rw[List.mem_singleton];exact ce N hb (by rcases H with rfl | rfl <;> decide)
 ·rw[List.mem_singleton];exact ce O hb (by rcases H with rfl | rfl <;> decide)
 ·have A:g∉[b]:=fun E=>by
   rw[List.mem_singleton] at E
   subst E
   have:=h.c0
   rw[ae hb] at this
   cases o with
   | zero =>
     have e:c=_:=Option.some.inj this
     subst e
     rcases U with ⟨v,V⟩ | ⟨v,V⟩ <;> cases V
   | succ o=>simp at this
  exact⟨a.cellAt h.c0 A,a.cellAt h.c1 A,a.cellAt h.c2 A,a.cellAt h.c3 A,a.cellAt h.c4 A,a.cellAt h.c5 A,a.cellAt h.c6 A⟩
 ·obtain⟨aj,ai,S⟩:=R.block e
  rw[List.mem_singleton] at E
  subst E
  rw[hb] at S
  cases S
theorem AlI.sc {H I R V O N b:Nat} {S:Option Addr} {s:SesD} {U:Bool} {J:List (Nd × Nat)} {E K:World} {c:Value} {t:TypeId} (a:AlI H I R S N s V O U J E) (hb:E.heap[b]?=some (.cells #[c] t (0,0))) (G:(∃ v,c=.int .i64 v)∨∃ v,c=.bool v) (A:t=3∨t=4) (h:Frm [b] E K) :
  AlI H I R S N s V O U J K:=
 ⟨h.at a.b1 (by rw[List.mem_singleton];exact ce a.b1 hb (by rcases A with rfl | rfl <;> decide)),h.at a.b2 (by rw[List.mem_singleton];exact ce a.b2 hb (by rcases A with rfl | rfl <;> decide)),a.ses.fg (sw hb G A) h,a.sp.sc (by have:=a.sy.ok.n2;omega) hb G A h,a.sy.fg (sw hb G A) h⟩
theorem sx {fn:Func} {tmps:Array Value} {a:World} {u:Value} (E:fn.results=#[.tmp 0]) (h:tmps.getD 0 undef=u):(results fn tmps).run Tryz.prog a=.ok u a:=by
 have A:tmps[0]?.getD undef=u:=by simpa using h
 simp[results,E,A,go_sem]
attribute [local go_sem] Oper.semAt_some
set_option maxHeartbeats 8000000 in
set_option maxRecDepth 100000 in
theorem l8 (w:World):Calls Tryz.prog 15 #[] w (Ret (.bool true) (Frm [] w)):=by
 have a0:=vi (gT w)
 refine cf Tryz.func15 rfl ?_
 simp only[Tryz.ntmps15,List.size_toArray,List.length_cons,List.length_nil,Nat.reduceAdd,Nat.reduceSub,Array.replicate_succ,Array.replicate_zero,List.push_toArray,List.append_toArray,List.nil_append,List.cons_append]
 go_upto_region 5 with (first
  | (go_at_call 56;go_must (refine a0.out.mono ?_;rintro e b3 ⟨v,rfl,V,a⟩;have bA:=vi a;have aY:=vi (pm v smE b3 V um vg);clear V a a0))
  | (go_at_call 53;go_must (refine aY.out.mono ?_;rintro e aa ⟨v,rfl,bT⟩;obtain⟨⟨I,H,rfl,-,bo⟩,a⟩:=bT;have be:=vi (bo aa (Agree.refl _ _));have a9:=vi (bA.out.trans a);clear bo a aY))
  | (go_at_call 17;go_must (refine(ev _ _).mono ?_;rintro e w' ⟨rfl,rfl⟩)))
 obtain⟨aE,al⟩:∃ J,aa.alloc (.cells #[.int .i64 1,.int .i64 0,.string { data:=#[110] }] 90)=J:=⟨_,rfl⟩
 obtain⟨bh,aI⟩:∃ b,aa.heap.size=b:=⟨_,rfl⟩
 have ag:Hid (Frm [] aa aE):=vi (by rw[← al];exact(Frm.refl _ _).alloc _)
 have bM:Hid (Arr 3 SuAt aE (.slice (some ⟨bh,0,none⟩) 1 1) [spE]):=vi (by rw[← al,← aI];exact pG aa _ spE)
 rw[al,aI]
 clear al aI
 have aW:=vi (mQ smE I H 100 aE (be.out.frm ag.out) (by omega) (by omega))
 go_upto_region 6 with (first
  | (go_at_call 16;go_must (refine aW.out.mono ?_;rintro e aR ⟨v,rfl,A⟩;obtain⟨cj,cm,rfl,bn,a⟩:=uV A;have bw:=vi bn;have ah:=vi a;clear A bn a aW)))
 obtain⟨aF,am⟩:∃ J,aR.alloc (.cells #[.int .i64 spE.role,.int .i64 spE.peer,.string spE.msg] 33)=J:=⟨_,rfl⟩
 obtain⟨bQ,aH⟩:∃ b,aR.heap.size=b:=⟨_,rfl⟩
 have S:Hid (Frm [] aR aF):=vi (by rw[← am];exact(Frm.refl _ _).alloc _)
 have bO:Hid (aF.heap[bQ]?=some (.cells #[.int .i64 spE.role,.int .i64 spE.peer,.string spE.msg] 33 (0,0))):=vi (by rw[← am,← aH];exact heap_alloc_new _ _)
 rw[am,aH]
 clear am aH
 have bf:=vi (be.out.frm (ag.out.trans (ah.out.trans S.out)))
 have a2:=vi (oD smE I H 100 aF bf.out (by omega) (by omega) tz)
 go_upto_region 7 with (first
  | (go_at_call 30;go_must (refine a2.out.mono ?_;rintro e ab ⟨v,rfl,A⟩;obtain⟨g,o,cn,ck,b1,rfl,aJ⟩:=uW A;have bG:=vi aJ;have N:=vi aJ.2.2.2;clear A aJ a2)))
 have bx:=vi (bw.out.frm fun _ _ _ h=>h.frm (S.out.trans N.out))
 have aB:=vi (bM.out.frm fun _ _ _ h=>h.frm (ah.out.trans (S.out.trans N.out)))
 have bP:=vi (N.out.at bO.out (by simp))
 have a3:Hid (Frm [] ab (ab.alloc (.cells #[.int .i64 1,.int .i64 0,.int .i64 1,.int .i64 0] 67))):=vi ((Frm.refl _ _).alloc _)
 have aX:=vi (mW _ _ [km1] _ (bx.out.frm fun _ _ _ h=>h.frm a3.out) (tQ ab 67 km1) (by simp))
 have a1:=fun G=>vi (gT G)
 go_upto_region 9 with (first
  | (go_at_call 17;go_must (refine(ev _ _).mono ?_;rintro e w' ⟨rfl,rfl⟩))
  | (go_at_call 33;go_must (refine aX.out.mono ?_;rintro e ar ⟨rfl,a⟩;have aA:Hid (Frm [] ab ar):=vi (a3.out.trans a);clear a aX;have ai:=aA.out.at bP.out (by simp);have cc:=ae ai 0;have cd:=ae ai 1;have ce:=ae ai 2;clear ai;have a4:Hid (Frm [] ar (ar.alloc (.cells #[.int .i64 spE.role,.int .i64 spE.peer,.string spE.msg] 33))):=vi ((Frm.refl _ _).alloc _);have R:=vi (fv _ _ [spE] _ (pG ar 33 spE) (aB.out.frm fun _ _ _ h=>h.frm (aA.out.trans a4.out)) (by simp))))
  | (go_at_call 23;(refine R.out.mono ?_;rintro e b6 ⟨rfl,a⟩;have bD:Hid (Frm [] ab b6):=vi (aA.out.trans (a4.out.trans a));clear a R cc cd ce))
  | (go_at_call 56;go_must (refine(a1 _).out.mono ?_;rintro e b7 ⟨b0,rfl,V,a⟩;have ba:=vi (bD.out.trans a);have au:=vi (lR smE b0 b7 V (by decide) (by decide));rw[tx] at au;clear V a))
  | (go_at_call 24;go_must (refine au.out.mono ?_;rintro e cr ⟨u,rfl,A,a⟩;obtain⟨ao,bi,aL⟩:=an A;subst aL;have bB:=vi (ba.out.trans a);have aV:=vi (fv _ _ [spE] _ (jk A) (aB.out.frm fun _ _ _ h=>h.frm (ba.out.trans a)) (by simp));clear A a au))
  | (go_at_call 23;go_must (refine aV.out.mono ?_;rintro e bq ⟨rfl,a⟩;have E:=vi (bB.out.trans a);clear a aV;obtain⟨⟨aM,aN⟩,⟨aO,aP⟩,aQ,-⟩:=bG.out;replace aM:=E.out.keep aM;replace aN:=E.out.keep aN;replace aO:=E.out.keep aO;replace aP:=E.out.keep aP;replace aQ:=E.out.keep aQ)))
 clear aM aN aO aP aQ a1
 have O:=vi (bf.out.frm (N.out.trans E.out))
 have aT:=vi (iP smE I H H (bg smE) km0 bq O.out O.out.first e_m0.1)
 have aZ:=vi (gm smE I H bq O.out)
 go_upto_region 12 with (first
  | (go_at_call 18;go_must (refine aZ.out.mono ?_;rintro e w' ⟨rfl,rfl⟩;clear aZ))
  | (go_at_call 19;(refine aT.out.mono ?_;rintro e b4 ⟨u,rfl,b9,rfl,W,a⟩;have a8:=vi a;have aU:=vi (iP smE I H b9 _ km1 b4 (O.out.frm a) W e_m0.2.1);clear W a aT))
  | (go_at_call 19;go_must (refine aU.out.mono ?_;rintro e b5 ⟨u,rfl,ca,rfl,W,a⟩;have bC:=vi (a8.out.trans a);have av:=vi (lZ smE I H ca _ b5 (O.out.frm (a8.out.trans a)) W);rw[e_m0.2.2] at av;clear W a aU))
  | (go_at_call 20;go_must (refine av.out.mono ?_;rintro e Y ⟨v,rfl,u,rfl,A,a⟩;obtain⟨ci,cl,aL⟩:=an A;subst aL;have af:=vi (bC.out.trans a);have bL:=vi (jk A);clear A a av)))
 go_upto_region 13 with fail
 obtain⟨aD,ak⟩:∃ J,Y.alloc (.cells #[.int .i64 0] 3)=J:=⟨_,rfl⟩
 obtain⟨aq,aK⟩:∃ b,Y.heap.size=b:=⟨_,rfl⟩
 have ax:Hid (Frm [] Y aD):=vi (by rw[← ak];exact(Frm.refl _ _).alloc _)
 have bI:Hid (aD.heap[aq]?=some (.cells #[.int .i64 0] 3 (0,0))):=vi (by rw[← ak,← aK];exact heap_alloc_new _ _)
 have bJ:Hid (Y.heap.size≤aq):=vi (by omega)
 rw[ak,aK]
 clear ak aK
 have aS:=vi (ke smE I H 100 aD (O.out.frm (af.out.trans ax.out)) (by omega) (by omega))
 have bU:=fun J f bX=>lB (P:=Tryz.prog) J 92 #[179] #[] false f bX Tryz.underlying92
 go_upto_region 17 with (first
  | (go_at_call 36;go_must (refine aS.out.mono ?_;rintro e br ⟨v,rfl,bt,bu,bY,bZ,bi,aC,rfl,bm,bl,a⟩;have bv:=vi bm;have bc:=vi bl;have ay:=vi a;clear bm bl a aS)))
 clear bU
 have bK:Hid (aC.length=6):=vi (by have:=uX;rw[← bc.out,List.length_map] at this;exact this)
 have a5:Hid ((dZ smE (aC.map Prod.fst)).length=3):=vi (by rw[bc.out,← List.length_map (f:=Prod.snd),rU];rfl)
 have bd:=vi (ay.out.at bI.out (by simp))
 refine eX (T:=fun t=>t=3) rfl (enters_of Tryz.func94 (by kernel_rfl) rfl) (pg (fun t=>t=3) (by decide) (by decide) (by decide) bt bu bY I H bi bZ smE _ aC (by have:=bK.out;omega)) (fun _=>rfl)
  (fun X G=>Frm [aq] br G∧G.heap[aq]?=some (.cells #[.int .i64 (X.length:Int)] 3 (0,0)))
  (fun _ _ _=>False)
  (fun _ _ _ h hb=>⟨hb.oldG h.1 (Nat.le_refl _),hb.at h.2 rfl⟩)
  (fun _ _ _ _ h _=>h)
  (fun _ G h=>bv.out.sc bd.out (.inl ⟨_,rfl⟩) (.inl rfl) h.1) ⟨Frm.refl _ _,bd.out⟩ ?_ ?_ (fun _ _ _ _ _ _ _ _ h _=>h.elim)
 ·intro l X y rest ch bp K bR bS
  have bb:=vi K.1;have a6:=vi K.2
  have cp:X.length<3:=by
   have:=a5.out
   rw[bp,List.length_append,List.length_cons] at this
   omega
  clear K bR bS bp
  gi_wp2
  refine⟨Kc.refl _ _ _,fun cg aG _=>?_⟩
  have ad:=vi (aG.at a6.out rfl)
  have bE:=vi (aG.oldG bb.out (Nat.le_refl _))
  clear aG a6 bb
  have b8:=ae ad.out 0
  have co:=aj ad.out 0
  have cq:wrap64 ((X.length:Int)+1)=(X.length:Int)+1:=by unfold wrap64;omega
  gi_wp2
  refine⟨Kc.set (T:=fun t=>t=3) (Kc.refl _ _ _) ad.out rfl 0 _,bE.out.setCell _ (.inl (by simp)) _,(ap ad.out 0 _).trans ?_⟩
  simp
 ·intro D G bj K bk
  have bF:=vi K.1;have a7:=vi K.2;have bH:=vi bk;have bz:=vi bj
  clear K bk bj
  have aw:Hid (Frm [] Y G):=vi ((ax.out.trans ay.out).then bF.out fun q U=>.inr (by rw[List.mem_singleton] at U;subst U;exact bJ.out))
  have bN:Hid (Arr 3 SuAt G (.slice (some ⟨bh,0,none⟩) 1 1) [spE]):=vi (aB.out.frm fun _ _ _ h=>h.frm (E.out.trans (af.out.trans aw.out)))
  have R:=vi (fv _ _ [spE] G (bL.out.frm fun _ _ _ h=>h.frm aw.out) bN.out (by simp))
  rw[a5.out] at a7
  go_wp2_with (first
   | (go_at_call 17;go_must (refine(ev _ _).mono ?_;rintro e w' ⟨rfl,rfl⟩))
   | (go_at_call 23;go_must (refine R.out.mono ?_;rintro e bs ⟨rfl,a⟩;have az:=vi a;clear a R;have b8:=ae (az.out.at a7.out (by simp)) 0)))
  have bW:Frm [] w bs:=a9.out.trans (ag.out.trans (ah.out.trans (S.out.trans (N.out.trans (E.out.trans (af.out.trans (aw.out.trans az.out)))))))
  have bV:Frm [] w br:=a9.out.trans (ag.out.trans (ah.out.trans (S.out.trans (N.out.trans (E.out.trans (af.out.trans (ax.out.trans ay.out)))))))
  exact ee (az.out.at bH.out (by simp)) ⟨_,sx rfl rfl,rfl,bW.then (Frm.putObj bs D _) fun q U=>.inr (by rw[List.mem_singleton] at U;subst U;exact Nat.le_trans bV.size bz.out)⟩
end Go.Proofs.YtohfkhjlnlahdaaGreat
namespace Go.Proofs.YtohfkhjlnlahdaaGreat
open Go.RowKit Go.BigFrame
theorem np {v:Value} {s:SesD} {w:World} (h:SesV w v s) (G:WfS s) (E:gvB s=false):Calls Tryz.prog 14 #[v] w (aU fun u w'=>u=.tuple #[.pointer none,.bool false]∧Frm [] w w'):=
 (ir v s w h G).mono (by
  rintro e w' ⟨u,rfl,A,⟨-,rfl⟩ | ⟨a,-⟩⟩
  ·exact⟨_,rfl,rfl,A⟩
  ·rw[E] at a;cases a)
theorem lL {v:Value} {s:SesD} {w:World} (E:SesV w v s) (I:WfS s) (H:gvB s=true):Calls Tryz.prog 14 #[v] w (aU fun u w'=>∃ a h,u=.tuple #[.pointer (some ⟨a,0,none⟩),.bool true]∧SyR w' s a h∧Frm [] w w'):=
 (ir v s w E I).mono (by
  rintro e w' ⟨u,rfl,G,⟨A,-⟩ | ⟨-,a,h,rfl,J⟩⟩
  ·rw[H] at A;cases A
  ·exact⟨_,rfl,a,h,rfl,J,G⟩)
attribute [local go_sem] Oper.semAt_some
end Go.Proofs.YtohfkhjlnlahdaaGreat
namespace Go.Proofs.YtohfkhjlnlahdaaGreat
open Go.RowKit Go.BigFrame
theorem sR (s:SesD) (A E:Value) (x:PS) (B:Nat) (w:World) (m:Mv) (R:SesV w A s) (I:RSt B w s E x) (H:SesOk s) (N:m∈aN s x) {n:Nat} (O:s.roles.length=n):Calls Tryz.prog 29 #[A,E,.agg #[.int .i64 m.kind,.int .i64 m.role,.int .i64 m.step,.int .i64 m.place]] w
  (aU fun u w'=>Frm [] w w'∧∃ p q r a b c,u=.tuple #[.agg #[.slice (some ⟨p,0,none⟩) n a,.slice (some ⟨q,0,none⟩) n b,.slice (some ⟨r,0,none⟩) n c],.bool true]∧RSt w.heap.size w' s (.agg #[.slice (some ⟨p,0,none⟩) n a,.slice (some ⟨q,0,none⟩) n b,.slice (some ⟨r,0,none⟩) n c]) (bh s x m)):=
 (pd s A E x B w m R I H).mono fun e w' J=>by
  obtain⟨u,rfl,K,⟨-,S,rfl,h⟩ | ⟨G,-⟩⟩:=J
  ·obtain⟨p,q,r,-,a,b,c,rfl,-⟩:=id h.out
   rw[O] at h ⊢
   exact⟨_,rfl,K,p,q,r,a,b,c,rfl,h⟩
  ·rw[(gk H I.ok m).2 N] at G;cases G
end Go.Proofs.YtohfkhjlnlahdaaGreat
