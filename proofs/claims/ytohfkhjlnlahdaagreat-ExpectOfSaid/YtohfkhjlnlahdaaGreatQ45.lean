/- Part of the proof. -/
import Derived.Test.YtohfkhjlnlahdaaGreatQ04
import Derived.Test.YtohfkhjlnlahdaaGreatQ32
import Derived.Test.YtohfkhjlnlahdaaGreatQ38
import Derived.Test.YtohfkhjlnlahdaaGreatQ35
set_option linter.all false
namespace Go.Proofs.YtohfkhjlnlahdaaGreat
open Go.RowKit Go.BigFrame
set_option maxHeartbeats 16000000 in
set_option maxRecDepth 100000 in
theorem qh (s:SesD) (aQ bi:Value) (x:PS) (B:Nat) (w:World) (bE:SesV w aQ s) (ad:RSt B w s bi x) (ab:SesOk s) (i:Nat) (a E pl:Int) (W:i<s.roles.length) (bF:0≤E) (aE:a≠2) (hb:a≠1∨((s.rol i).steps.length:Int)≤E):Calls Tryz.prog 29 #[aQ,bi,.agg #[.int .i64 a,.int .i64 (i:Nat),.int .i64 E,.int .i64 pl]] w (aU (DoTo w s x ⟨a,(i:Nat),E,pl⟩)):=by
 have a7:doB s x ⟨a,(i:Nat),E,pl⟩=false:=by
  unfold doB
  rw[if_neg (by simp only;omega),if_neg aE,if_pos (by simpa using hb)]
 obtain⟨ce,rfl,aN⟩:=bE
 obtain⟨ao,cap,rfl⟩:=aN.shape
 have bb:=ad.ok
 have bd:=ad
 obtain⟨a0,a1,a2,bX,a3,cb,a4,rfl,bc,-⟩:=ad.out
 obtain⟨n,A⟩:∃ n,s.roles.length=n:=⟨_,rfl⟩
 have b3:2≤n:=A ▸ ab.n2
 have bC:n≤4:=A ▸ ab.n4
 obtain⟨I,aa⟩:∃ I,(((w.alloc (.cells #[.string s.name,.slice ao s.roles.length cap,.int .i64 s.cls,.int .i64 s.cap] 25)).alloc (.cells #[.slice (some ⟨a0,0,none⟩) s.roles.length a3,.slice (some ⟨a1,0,none⟩) s.roles.length cb,.slice (some ⟨a2,0,none⟩) s.roles.length a4] 61)).alloc (.cells #[.int .i64 a,.int .i64 (i:Nat),.int .i64 E,.int .i64 pl] 67)).alloc (.cells #[.slice none 0 0,.slice none 0 0,.slice none 0 0] 61)=I:=⟨_,rfl⟩
 have a8:Frm [] w I:=by rw[← aa];exact((((Frm.refl _ _).alloc _).alloc _).alloc _).alloc _
 have h:DoX w s ao s.roles.length cap a0 a1 a2 a3 cb a4 ⟨a,(i:Nat),E,pl⟩ I:=by
  rw[← aa]
  exact⟨ah (ah (ah (heap_alloc_new _ _))),ah (ah (aq (by simp))),ah (aq (by simp)),aq (by simp)⟩
 have ax:Hid (Frm [] w I):=vi a8
 have Y:=vi A;have bT:=vi ab;have bU:=vi bb;have bV:=vi bc;have aV:=vi aN
 rw[A] at h aV
 have ap:=vi h
 have ar:=vi aa
 have am:=vi (fun H N=>dX s _ x B H (bd.frm N) (by rw[A];omega) (by rw[A];exact bC))
 have b8:w.heap.size+3<I.heap.size:=lt_of_block h.b3
 rw[A] at ar am
 rw[A]
 have ag:=ae h.b2 0
 have ai:=ae h.b2 1
 have aj:=ae h.b2 2
 have ak:=ae h.b2 3
 have aC:=ae h.b0 1
 clear aN A ab bb bc bd aa a8 h ad
 have ca:decide ((i:Int)<0)=false:=decide_eq_false (by omega)
 have cc:decide ((n:Int)≤(i:Int))=false:=decide_eq_false (by rw[Y.out] at W;omega)
 have b5:(i:Int)<(n:Int):=by rw[Y.out] at W;omega
 have cd:decide (E<0)=false:=decide_eq_false (by omega)
 have bI:(a == 2)=false:=by rw[beq_eq_false_iff_ne];exact aE
 obtain⟨rb,al,aQ,bY,cf,rfl,aO,S⟩:=Rls.at (aV.out.frm ax.out) W
 obtain⟨br,bw,bA⟩:=S.sts.shape
 obtain⟨bq,bv,bz⟩:=S.ctrs.shape
 obtain⟨bt,bx,bB⟩:=S.steps.shape
 subst bA bz bB
 obtain⟨bH,aL⟩:∃ q,(s.rol i).sts.length=q:=⟨_,rfl⟩
 obtain⟨bG,aK⟩:∃ q,(s.rol i).ctrs.length=q:=⟨_,rfl⟩
 obtain⟨bg,aM⟩:∃ q,(s.rol i).steps.length=q:=⟨_,rfl⟩
 have bo:=vi S
 rw[aL,aK,aM] at aO bo
 have bn:=vi aM;have bS:=vi aL;have bR:=vi aK
 have bp:Hid (∀ H,Frm [] I H→(H.cell? ⟨rb,al+i*4,none⟩=some (.string (s.rol i).name)∧H.cell? ⟨rb,al+i*4+1,none⟩=some (.slice br bH bw))∧H.cell? ⟨rb,al+i*4+2,none⟩=some (.slice bq bG bv)∧H.cell? ⟨rb,al+i*4+3,none⟩=some (.slice bt bg bx)):=vi fun H N=>by
  obtain⟨ay,az,aA,aB⟩:=aO
  exact⟨⟨N.keep ay,N.keep az⟩,N.keep aA,N.keep aB⟩
 clear S aO aL aK aM
 rw[bn.out] at hb
 have aT:=vi a7
 clear a7 bF aE
 go_enter Tryz.func29,Tryz.ntmps29
 go_upto_region 1 with fail
 rw[ar.out]
 clear ar
 go_upto_region 4 with (first
  | (refine af rfl 61 _ rfl _ rfl _ 61 ap.out.b1 _ Tryz.underlying61 rfl (by kernel_rfl) ?_)
  | (go_at_call 84;go_must (refine(am.out _ ax.out).mono ?_;clear am;rintro e bh ⟨ch,rfl,be,a9⟩;obtain⟨bK,bL,bN,bM,bO,bP,bQ,rfl,bf,bj,bk,bl,bm⟩:=be.out;have aY:=vi bf;have R:=vi (And.intro bj (And.intro bk (And.intro bl bm)));have X:=vi a9;clear be bf a9 bj bk bl bm;rw[Y.out]))
  | (refine aD rfl 61 _ _ rfl _ _ _ _ rfl rfl (heap_alloc_new _ _) rfl (by kernel_rfl) (cI ..) ?_;intro O a5 aH;have aS:=vi a5;have au:=vi ((X.out.alloc _).then aH (by intro q J;simp at J;subst J;exact .inr X.out.size));have aX:=vi (aY.out.frm (((Frm.refl [] bh).alloc _).then aH (by intro q J;simp at J;subst J;exact .inr (Nat.le_refl _))));clear a5 aH))
 obtain⟨aZ,aG⟩:∃ b,bh.heap.size=b:=⟨_,rfl⟩
 have b7:I.heap.size≤aZ:=aG ▸ X.out.size
 rw[aG] at aS ⊢
 have bW:Hid (YSt w s aZ x O):=vi ⟨by omega,bK,bL,bN,bM,bO,bP,bQ,by rw[Y.out];exact aS.out,aX.out,by have:=R.out.1;omega,by have:=R.out.2.1;omega,by have:=R.out.2.2.1;omega,fun i W=>by have:=R.out.2.2.2 i W;omega⟩
 have K:=vi (ap.out.frm au.out (by simp))
 have aW:Hid (Frm [] w O):=vi (ax.out.trans au.out)
 have bD:w.heap.size+3<O.heap.size:=lt_of_block K.out.b3
 clear aY R X aX aG ag ai aj ak aC ap
 have ag:=ae K.out.b2 0
 have ai:=ae K.out.b2 1
 have aj:=ae K.out.b2 2
 have ak:=ae K.out.b2 3
 have aC:=ae K.out.b0 1
 obtain⟨⟨ay,az⟩,aA,aB⟩:=bp.out O au.out
 go_upto_region 11 with (first
  | (refine aD rfl 87 _ _ rfl _ _ _ _ rfl rfl (heap_alloc_new _ _) rfl (by kernel_rfl) (by rw[← Array.all_toList];rfl) ?_;intro cg a6 ba;have aR:=vi a6;have av:=vi (((Frm.refl [] O).alloc _).then ba (by intro q J;simp at J;subst J;exact .inr (Nat.le_refl _)));clear a6 ba))
 clear ag ai aj ak aC ay az aA aB
 obtain⟨bu,aF⟩:∃ b,O.heap.size=b:=⟨_,rfl⟩
 rw[aF] at aR ⊢
 have G:=vi (K.out.frm av.out (by simp))
 have b6:w.heap.size+3<bu:=aF ▸ bD
 clear aF
 have ag:=ae G.out.b2 0
 have ai:=ae G.out.b2 1
 have aj:=ae G.out.b2 2
 have ak:=ae G.out.b2 3
 have b9:=ae aR.out 3
 by_cases h1:a=1
 ·have b4:decide ((bg:Int)≤E)=true:=decide_eq_true (by omega)
  clear hb bI
  subst h1
  go_wp2_with (first
  | (refine af rfl 61 _ rfl _ rfl _ 61 G.out.b1 _ Tryz.underlying61 rfl (by kernel_rfl) ?_)
  | (refine aP rfl 61 _ _ rfl _ _ _ _ rfl rfl G.out.b3 rfl (by kernel_rfl) (cI ..) ?_;intro bJ U V aJ;have an:=vi U;have aw:=vi V;clear U V aJ))
  refine bodyPost_ret (bs rfl rfl rfl an.out rfl) rfl ⟨_,rfl,(aW.out.trans av.out).then aw.out (by intro k aI;simp at aI;omega),.inr ⟨?_,_,rfl,rfl,cI ..⟩⟩
  exact aT.out
 ·have bZ:(a == 1)=false:=by rw[beq_eq_false_iff_ne];exact h1
  have b0:(a != 1)=true:=by rw[bne_iff_ne];exact h1
  clear hb
  go_wp2_with (first
  | (refine af rfl 61 _ rfl _ rfl _ 61 G.out.b1 _ Tryz.underlying61 rfl (by kernel_rfl) ?_)
  | (refine aP rfl 61 _ _ rfl _ _ _ _ rfl rfl G.out.b3 rfl (by kernel_rfl) (cI ..) ?_;intro bJ U V aJ;have an:=vi U;have aw:=vi V;clear U V aJ))
  refine bodyPost_ret (bs rfl rfl rfl an.out rfl) rfl ⟨_,rfl,(aW.out.trans av.out).then aw.out (by intro k aI;simp at aI;omega),.inr ⟨?_,_,rfl,rfl,cI ..⟩⟩
  exact aT.out
end Go.Proofs.YtohfkhjlnlahdaaGreat
