/- Part of the proof. -/
import Derived.Test.YtohfkhjlnlahdaaGreatQ04
import Derived.Test.YtohfkhjlnlahdaaGreatQ49
import Derived.Test.YtohfkhjlnlahdaaGreatQ42
set_option linter.all false
namespace Go.Proofs.YtohfkhjlnlahdaaGreat
open Go.RowKit Go.BigFrame
def mvF (s:SesD) (x:PS) (m:Mv):List Mv:=if doB s x m=true then [m] else []
abbrev mvP (s:SesD) (x:PS) (i k p:Nat):List Mv:=cat (fun p=>mvF s x ⟨1,i,k,p⟩) p
abbrev mvK (s:SesD) (x:PS) (i k:Nat):List Mv:=cat (fun k=>mvP s x i k s.cap.toNat) k
abbrev mvI (s:SesD) (x:PS) (i:Nat):List Mv:=cat (fun i=>mvK s x i (s.rol i).steps.length) i
abbrev mlK (s:SesD) (x:PS) (i k:Nat):List Mv:=cat (fun k=>mvF s x ⟨2,i,k,0⟩) k
abbrev mlI (s:SesD) (x:PS) (i:Nat):List Mv:=cat (fun i=>mlK s x i s.roles.length) i
theorem px (s:SesD) (x:PS) (m:Mv):(mvF s x m).length≤1:=by unfold mvF;split <;> simp
theorem py {s:SesD} {x:PS} (a:SesOk s) {i k p:Nat} (A:p≤s.cap.toNat):(mvP s x i k p).length≤4:=by
 have h:=cP (n:=p) (f:=fun p:Nat=>mvF s x ⟨1,i,k,p⟩) (c:=1) (fun _ _=>px _ _ _)
 have:=a.k4
 show (cat _ p).length≤4
 omega
theorem pz {s:SesD} {x:PS} (a:SesOk s) {i k:Nat} (h:i<s.roles.length) (E:k≤(s.rol i).steps.length):(mvK s x i k).length≤320:=by
 have A:=cP (n:=k) (f:=fun k=>mvP s x i k s.cap.toNat) (c:=4) (fun _ _=>py a (Nat.le_refl _))
 have:=(a.at h).t80
 show (cat _ k).length≤320
 omega
theorem pA {s:SesD} {x:PS} (a:SesOk s) {i:Nat} (A:i≤s.roles.length):(mvI s x i).length≤1280:=by
 have h:=cP (n:=i) (f:=fun i=>mvK s x i (s.rol i).steps.length) (c:=320) (fun j E=>pz a (by omega) (Nat.le_refl _))
 have:=a.n4
 show (cat _ i).length≤1280
 omega
theorem pB {s:SesD} {x:PS} (a:SesOk s) {i k:Nat} (A:k≤s.roles.length):(mlK s x i k).length≤4:=by
 have h:=cP (n:=k) (f:=fun k:Nat=>mvF s x ⟨2,i,k,0⟩) (c:=1) (fun _ _=>px _ _ _)
 have:=a.n4
 show (cat _ k).length≤4
 omega
theorem tM {s:SesD} {x:PS} (a:SesOk s) {i:Nat} (A:i≤s.roles.length):(mlI s x i).length≤16:=by
 have h:=cP (n:=i) (f:=fun i=>mlK s x i s.roles.length) (c:=4) (fun j E=>pB a (Nat.le_refl _))
 have:=a.n4
 show (cat _ i).length≤16
 omega
theorem DoTo.look {w w':World} {s:SesD} {x:PS} {m:Mv} {u:Value} (H:DoTo w s x m u w'):∃ a b c:Value,u=.tuple #[.agg #[a,b,c],.bool (doB s x m)]∧(#[a,b,c]:Array Value).all (·.oneCell')=true∧Frm [] w w':=by
 obtain⟨E,⟨A,V,rfl,J⟩ | ⟨A,G,rfl,I,h⟩⟩:=H
 ·obtain⟨K,N,R,O,S,cb,U,rfl,-⟩:=J.out
  exact⟨_,_,_,by rw[A],cI ..,E⟩
 ·obtain⟨l⟩:=G
  match l,I,h with
  | [a,b,c],_,h=>exact⟨a,b,c,by rw[A],h,E⟩
abbrev RmO (w:World) (v:Value) (L:List Mv) (W:World):Prop:=W.ownsRow w.heap.size 67 4 v L.length (mvC L)
theorem uA {A:World} {base:Nat} {v:Value} {L:List Mv} (h:A.ownsRow base 67 4 v L.length (mvC L)):Arr 4 MvAt A v L:=by
 obtain⟨ao,cap,rfl⟩:=an h
 refine⟨ao,cap,rfl,fun i m E=>?_⟩
 have N:=ag E
 obtain⟨g,c,cur,e,-,-⟩:=aZ h (by omega)
 cases e
 have a:=fun j K=>World.ownsRow.cellAt h j K
 obtain⟨G,H,I,J⟩:=nY E
 exact⟨g,0,rfl,by rw[Nat.zero_add,a _ (by omega)];exact G,by rw[Nat.zero_add,a _ (by omega)];exact H,by rw[Nat.zero_add,a _ (by omega)];exact I,by rw[Nat.zero_add,a _ (by omega)];exact J⟩
theorem RmO.add {w a:World} {v:Value} {L:List Mv} (m:Mv) (h:a.ownsRow w.heap.size 67 4 v (L.length+1) (mvC L++eQ m)):RmO w v (L++[m]) a:=by
 unfold RmO
 rw[gA,List.length_append]
 simpa[mvC] using h
structure RmW (w W0:World) (v:Value) (L:List Mv) (W:World):Prop where
 o:RmO w v L W
 f:Frm [] w W
 k:Kt [67] W0 W
theorem RmW.frm {w G E A:World} {v:Value} {L:List Mv} (a:RmW w G v L E) (h:Frm [] E A):RmW w G v L A:=⟨h.owns a.o (by simp),a.f.trans h,a.k.trans (Kt.frm h)⟩
theorem RmW.add {w G E h:World} {v v':Value} {L:List Mv} {o:Obj} (m:Mv) (a:RmW w G v L E) (H:(E.alloc o).grownBy h v.ownBlock) (J:h.ownsRow w.heap.size 67 4 v' (L.length+1) (mvC L++eQ m)):RmW w G v' (L++[m]) h:=
 ⟨RmO.add m J,(a.f.alloc o).grown H (fun q A=>.inr (aF a.o A)),(a.k.alloc o).grown H (fun q A=>by
  obtain⟨c,I⟩:=ak a.o A
  exact⟨c,_,(0,0),ah I,by simp⟩)⟩
theorem Tryz.infoRm:(Tryz.prog.info? 67).map (fun i=>(i.zero,i.size,i.bytes))=some (some (.agg #[.int .i64 0,.int .i64 0,.int .i64 0,.int .i64 0]),4,32):=by kernel_rfl
theorem qV (a b c d:Int):(#[.int .i64 a,.int .i64 b,.int .i64 c,.int .i64 d]:Array Value).all (·.oneCell')=true:=by
 rw[← Array.all_toList];rfl
theorem pC {s:SesD} {x:PS} {m:Mv} (a:doB s x m=true):mvF s x m=[m]:=if_pos a
theorem sm {s:SesD} {x:PS} {m:Mv} (a:doB s x m=false):mvF s x m=[]:=if_neg (by rw[a];decide)
set_option maxHeartbeats 8000000 in
set_option maxRecDepth 100000 in
noncomputable def qMvS:PSigma fun P:Prop=>P→∀ (s:SesD) (aw aT:Value) (x:PS) (B:Nat) (w:World),SesV w aw s→RSt B w s aT x→SesOk s→Calls Tryz.prog 28 #[aw,aT] w (aU fun v w'=>RmO w v (aN s x) w'∧Frm [] w w'):=by
 apply PSigma.mk
 case snd =>
  intro bb
  have bx:=vi bb
  clear bb
  intro s aw aT x B w bj av R
  have aI:=vi bj;have aJ:=vi av;have K:=vi R
  rw[← ql R av.ok]
  obtain⟨cg,rfl,aR⟩:=bj
  obtain⟨ao,cap,rfl⟩:=aR.shape
  obtain⟨ak,al,am,bE,ap,cb,ar,rfl,-⟩:=av.out
  obtain⟨n,X⟩:∃ n,s.roles.length=n:=⟨_,rfl⟩
  have bG:n≤4:=X ▸ R.n4
  obtain⟨G,V⟩:∃ G,(w.alloc (.cells #[.string s.name,.slice ao s.roles.length cap,.int .i64 s.cls,.int .i64 s.cap] 25)).alloc (.cells #[.slice (some ⟨ak,0,none⟩) s.roles.length ap,.slice (some ⟨al,0,none⟩) s.roles.length cb,.slice (some ⟨am,0,none⟩) s.roles.length ar] 61)=G:=⟨_,rfl⟩
  have aO:Frm [] w G:=by rw[← V];exact((Frm.refl _ _).alloc _).alloc _
  have J:G.heap[w.heap.size]?=some (.cells #[.string s.name,.slice ao s.roles.length cap,.int .i64 s.cls,.int .i64 s.cap] 25 (0,0)):=by rw[← V];exact ah (heap_alloc_new _ _)
  have aL:G.heap[w.heap.size+1]?=some (.cells #[.slice (some ⟨ak,0,none⟩) s.roles.length ap,.slice (some ⟨al,0,none⟩) s.roles.length cb,.slice (some ⟨am,0,none⟩) s.roles.length ar] 61 (0,0)):=by rw[← V];exact aq (by simp)
  obtain⟨H,aM⟩:∃ H:Nat,s.cap=H:=Int.eq_ofNat_of_zero_le (by have:=R.k1;omega)
  have bI:H≤4:=by have:=R.k4;omega
  have aB:=vi V
  have aH:=vi aR
  have a8:Hid (RmW w G (.slice none ([]:List Mv).length 0) [] G):=vi ⟨World.ownsRow_nil _ _ _ _,aO,Kt.refl _ _⟩
  rw[X] at J aL aB aH aI aJ ⊢
  have a0:=vi J;have a1:=vi aL;have bs:=vi aO;have a7:=vi X;have aA:=vi aM
  have bv:Hid (oE s x=mvI s x n++mlI s x n):=vi (by rw[← X];rfl)
  have S:Hid (∀ E,Frm [] w E→Kt [67] G E→E.cell? ⟨w.heap.size,1,none⟩=some (.slice ao n cap)∧E.cell? ⟨w.heap.size,3,none⟩=some (.int .i64 (H:Int))):=vi fun E _ O=>by
   have bk:=O.cells J (by decide)
   exact⟨ae bk 1,(ae bk 3).trans (by rw[← aM];rfl)⟩
  have aV:Hid (∀ (m:Mv) E,Frm [] w E→Calls Tryz.prog 29 #[.agg #[.string s.name,.slice ao n cap,.int .i64 s.cls,.int .i64 s.cap],.agg #[.slice (some ⟨ak,0,none⟩) n ap,.slice (some ⟨al,0,none⟩) n cb,.slice (some ⟨am,0,none⟩) n ar],.agg #[.int .i64 m.kind,.int .i64 m.role,.int .i64 m.step,.int .i64 m.place]] E
    (aU fun u w'=>∃ a9 b c:Value,u=.tuple #[.agg #[a9,b,c],.bool (doB s x m)]∧(#[a9,b,c]:Array Value).all (·.oneCell')=true∧Frm [] E w')):=vi fun m E O =>
   (pd s _ _ x B E m (aI.out.frm O) (aJ.out.frm O) K.out).mono fun e w' aK=>by
    obtain⟨u,rfl,aK⟩:=aK
    exact⟨u,rfl,aK.look⟩
  obtain⟨bo,bi,bl,bm,bn⟩:=info_parts Tryz.infoRm
  clear aR av R V aO J aL X aM
  go_enter Tryz.func28,Tryz.ntmps28
  go_upto_region 1 with fail
  rw[aB.out]
  go_upto_region 3 with fail
  go_loopw [5,6] (fun s5 s6 wr=>∃ (i:Nat) (L:List Mv) (h:Option Addr) (A:Nat),Hid (L=mvI s x i)∧s5=.slice h L.length A∧s6=.int .i64 i∧i≤n∧RmW w G (.slice h L.length A) L wr) (fun _ s6 _=>n - (intOf s6).toNat)
  case atStart=>exact⟨0,[],none,0,vi rfl,rfl,rfl,Nat.zero_le _,a8.out⟩
  case round =>
   obtain⟨i,L,h,A,aC,rfl,rfl,bJ,I⟩:=hrel
   have a:=vi I
   clear I
   obtain⟨aa,bL⟩:∃ aa,aa=wr:=⟨_,rfl⟩
   subst bL
   obtain⟨N,-⟩:=S.out aa a.out.f a.out.k
   by_cases hlt:i<n
   ·have cc:(i:Int)<(n:Int):=by omega
    have au:i<s.roles.length:=by rw[a7.out];exact hlt
    obtain⟨b,o,aw,b6,ch,rfl,⟨-,-,-,U⟩,ba⟩:=Rls.at aH.out au
    obtain⟨bD,bP,bF⟩:=ba.steps.shape
    subst bF
    obtain⟨m,W⟩:∃ m,(s.rol i).steps.length=m:=⟨_,rfl⟩
    have bB:Hid (m≤80):=vi (by rw[← W];exact(K.out.at au).t80)
    rw[W] at U
    have bu:=vi W;have a6:=vi au
    have bA:Hid (∀ E,Frm [] w E→E.cell? ⟨b,o+i*4+3,none⟩=some (.slice bD m bP)):=vi fun E O=>O.keep U
    have bq:Hid (mvI s x (i+1)=mvI s x i++mvK s x i m):=vi (by rw[← W];rfl)
    clear ba W au U
    go_upto_region 6 with fail
    clear N
    go_loopw [5,7] (fun s5 s7 wr=>∃ (k:Nat) (M:List Mv) (h:Option Addr) (A:Nat),Hid (M=L++mvK s x i k)∧s5=.slice h M.length A∧s7=.int .i64 k∧k≤m∧RmW w G (.slice h M.length A) M wr) (fun _ s7 _=>m - (intOf s7).toNat)
    case atStart=>exact⟨0,L,h,A,vi (List.append_nil L).symm,rfl,rfl,Nat.zero_le _,a.out⟩
    case round =>
     clear a
     obtain⟨k,M,h,A,aE,rfl,rfl,b8,I⟩:=hrel
     have a:=vi I
     clear I
     obtain⟨ax,bM⟩:∃ ax,ax=wr:=⟨_,rfl⟩
     subst bM
     have U:=bA.out ax a.out.f
     obtain⟨N,-⟩:=S.out ax a.out.f a.out.k
     by_cases hlk:k<m
     ·have b9:(k:Int)<(m:Int):=by omega
      have br:Hid (mvK s x i (k+1)=mvK s x i k++mvP s x i k H):=vi (by
       show mvK s x i k++mvP s x i k s.cap.toNat=_
       rw[aA.out];rfl)
      go_upto_region 9 with fail
      clear U N
      go_loopw [5,8] (fun s5 s8 wr=>∃ (p:Nat) (P:List Mv) (h:Option Addr) (A:Nat),Hid (P=M++mvP s x i k p)∧s5=.slice h P.length A∧s8=.int .i64 p∧p≤H∧RmW w G (.slice h P.length A) P wr) (fun _ s8 _=>H - (intOf s8).toNat)
      case atStart=>exact⟨0,M,h,A,vi (List.append_nil M).symm,rfl,rfl,Nat.zero_le _,a.out⟩
      case round =>
       clear a
       obtain⟨p,P,h,A,ai,rfl,rfl,cd,I⟩:=hrel
       have a:=vi I
       clear I
       obtain⟨ab,bN⟩:∃ ab,ab=wr:=⟨_,rfl⟩
       subst bN
       obtain⟨-,b7⟩:=S.out ab a.out.f a.out.k
       by_cases hlp:p<H
       ·have ca:(p:Int)<(H:Int):=by omega
        have bz:Hid (P.length≤1700):=vi (by
         have b3:=pA (x:=x) K.out (show i≤s.roles.length by have:=a6.out;omega)
         have b4:=pz (x:=x) K.out a6.out (show k≤(s.rol i).steps.length by rw[bu.out];omega)
         have b5:=py (x:=x) (i:=i) (k:=k) K.out (show p≤s.cap.toNat by rw[aA.out];simp;omega)
         rw[ai.out,aE.out,aC.out,List.length_append,List.length_append]
         omega)
        have a2:Hid (mvP s x i k (p+1)=mvP s x i k p++mvF s x ⟨1,i,k,p⟩):=vi rfl
        have ay:=vi (aV.out ⟨1,i,k,p⟩)
        have aj:=vi (pC (s:=s) (x:=x) (m:=⟨1,i,k,p⟩));have ad:=vi (sm (s:=s) (x:=x) (m:=⟨1,i,k,p⟩))
        obtain⟨d,bd⟩:∃ d,doB s x ⟨1,i,k,p⟩=d:=⟨_,rfl⟩
        rw[bd] at ay aj ad
        clear bd
        go_upto_region 12 with (refine aD rfl 67 _ _ rfl _ _ _ _ rfl rfl (heap_alloc_new _ _) rfl (by kernel_rfl) (qV ..) ?_;intro bQ J be;have az:=vi J;have a3:=vi (((Frm.refl [] ab).alloc _).then be (by intro q Y;simp at Y;subst Y;exact .inr (Nat.le_refl _)));clear J be)
        have aG:=vi (a.out.frm a3.out)
        have aX:=vi (aG.out.k.cells a0.out (by decide));have aY:=vi (aG.out.k.cells a1.out (by decide))
        have aW:=vi (ay.out bQ aG.out.f)
        clear ay
        go_upto_region 13 with (first
         | (refine af rfl 25 _ rfl _ rfl _ 25 aX.out _ Tryz.underlying25 rfl (by kernel_rfl) ?_)
         | (refine af rfl 61 _ rfl _ rfl _ 61 aY.out _ Tryz.underlying61 rfl (by kernel_rfl) ?_)
         | (refine af rfl 67 _ rfl _ rfl _ 67 az.out _ Tryz.underlying67 rfl (by kernel_rfl) ?_)
         | (go_at_call 29;go_must (refine aW.out.mono ?_;clear aW;rintro e bR ⟨v,rfl,cj,ck,cl,rfl,bc,bf⟩;have a4:=vi bf;have aZ:=vi bc;clear bf bc))
         | (refine aD rfl 61 _ _ rfl _ _ _ _ rfl rfl (heap_alloc_new _ _) rfl (by kernel_rfl) aZ.out ?_;intro aS bH bg;have a5:=vi (((Frm.refl [] bR).alloc _).then bg (by intro q Y;simp at Y;subst Y;exact .inr (Nat.le_refl _)));clear bH bg))
        have bt:Hid (Frm [] ab aS):=vi (a3.out.trans (a4.out.trans a5.out))
        have bp:=vi ((a4.out.trans a5.out).at az.out (by simp))
        have ag:=vi (a.out.frm bt.out)
        have bK:w.heap.size≤(aS.alloc (.cells #[.int .i64 1,.int .i64 i,.int .i64 k,.int .i64 p] 67)).heap.size:=by have:=ag.out.f.size;simp;omega
        clear az aZ aX aY a
        cases d with
        | false =>
          have aF:=vi (ad.out rfl)
          clear ad aj
          go_wp2
          exact⟨⟨p+1,P,h,A,vi (by rw[ai.out,a2.out,aF.out,List.append_nil]),rfl,congrArg (Value.int .i64) (by omega),hlp,ag.out⟩,by simp[intOf];omega⟩
        | true =>
          have aF:=vi (aj.out rfl)
          have ce:=bz.out
          clear ad aj
          go_wp2_with (first
           | (refine af rfl 67 _ rfl _ rfl _ 67 bp.out _ Tryz.underlying67 rfl (by kernel_rfl) ?_)
           | (at_builtin;refine wpList_append_own_at _ rfl _ _ 64 rfl w.heap.size 67 bo (.agg #[.int .i64 0,.int .i64 0,.int .i64 0,.int .i64 0]) 4 32 Tryz.underlying64 bi bl bm bn rfl (by decide) (.slice h P.length A) P.length (mvC P) rfl (ag.out.o.alloc _) ⟨aS.heap.size,0,none⟩ 1 1 [.int .i64 1,.int .i64 i,.int .i64 k,.int .i64 p] rfl rfl (cA _ _ _) (by simp[Value.oneCell']) (by unfold maxLen;omega) (by omega) bK ?_;intro v' ci aQ bh _ _;obtain⟨bC,bO,rfl⟩:=an aQ;have bw:=vi (ag.out.add ⟨1,i,k,p⟩ bh aQ);clear aQ bh))
          exact⟨⟨p+1,P++[_],bC,bO,vi (by rw[ai.out,a2.out,aF.out,List.append_assoc]),by rw[List.length_append];rfl,congrArg (Value.int .i64) (by omega),hlp,by rw[List.length_append];exact bw.out⟩,by simp[intOf];omega⟩
       ·obtain rfl:p=H:=by omega
        have aP:¬ (p:Int)<(p:Int):=by omega
        have cf:=bB.out
        go_wp2
        exact⟨⟨k+1,P,h,A,vi (by rw[ai.out,aE.out,br.out,List.append_assoc]),rfl,congrArg (Value.int .i64) (by omega),hlk,a.out⟩,by simp[intOf];omega⟩
     ·obtain rfl:k=m:=by omega
      have aP:¬ (k:Int)<(k:Int):=by omega
      go_wp2
      exact⟨⟨i+1,M,h,A,vi (by rw[aE.out,aC.out,bq.out]),rfl,congrArg (Value.int .i64) (by omega),hlt,a.out⟩,by simp[intOf];omega⟩
   ·obtain rfl:i=n:=by omega
    have aP:¬ (i:Int)<(i:Int):=by omega
    clear N hlt
    obtain⟨N,-⟩:=S.out aa a.out.f a.out.k
    go_upto_region 15 with fail
    clear N
    rename_i bS bT bU bV bW bX bY bZ b0
    revert s x B w K ao cap ak al am bE ap cb ar G H bI a8 bs aA bo bi bl bm bn bS bT u7 u8 u9 u10 u11 u17 u18 u19 u20 u21 u22 u23 u24 u25 u26 u27 u28 u29 u30 u31 u32 u33 u34 u35 u36 u37 u38 u39 u40 u41 u42 u43 u44 u45 u46 u47 u48 u49 u50 u51 u52 u53 u54 u55 u56 i L h A aC aa a aJ aI bG aB aH a0 a1 a7 bv S aV bJ aP bU bV bW bX bY bZ b0
    exact bx.out
set_option maxHeartbeats 8000000 in
set_option maxRecDepth 100000 in
theorem vh:qMvS.1:=by
 intro s x B w X ao cap ba bb bd bc be cb bg ar bf bi a4 a2 a0 aV aO aS aT aU _ _ u7 u8 u9 u10 u11 u17 u18 u19 u20 u21 u22 u23 u24 u25 u26 u27 u28 u29 u30 u31 u32 u33 u34 u35 u36 u37 u38 u39 u40 u41 u42 u43 u44 u45 u46 u47 u48 u49 u50 u51 u52 u53 u54 u55 u56 i L h A aq aZ a a6 a5 bh a1 a3 aE aF I aJ aa aC bj aA _ _ _ _ _ _ _
 obtain⟨R,-⟩:=aa.out aZ a.out.f a.out.k
 go_upto_region 16 with fail
 clear R
 go_loopw [5,12] (fun s5 s12 wr=>∃ (j:Nat) (M:List Mv) (h:Option Addr) (A:Nat),Hid (M=L++mlI s x j)∧s5=.slice h M.length A∧s12=.int .i64 j∧j≤i∧RmW w ar (.slice h M.length A) M wr) (fun _ s12 _=>i - (intOf s12).toNat)
 case atStart=>exact⟨0,L,h,A,vi (List.append_nil L).symm,rfl,rfl,Nat.zero_le _,a.out⟩
 case round =>
  clear a
  obtain⟨j,M,h,A,V,rfl,rfl,bk,E⟩:=hrel
  have a:=vi E
  clear E
  obtain⟨ae,aQ⟩:∃ ae,ae=wr:=⟨_,rfl⟩
  subst aQ
  obtain⟨R,-⟩:=aa.out ae a.out.f a.out.k
  by_cases hlj:j<i
  ·have bl:(j:Int)<(i:Int):=by omega
   have aH:Hid (mlI s x (j+1)=mlI s x j++mlK s x j i):=vi (by rw[← I.out];rfl)
   go_upto_region 19 with fail
   clear R
   go_loopw [5,13] (fun s5 s13 wr=>∃ (p:Nat) (P:List Mv) (h:Option Addr) (A:Nat),Hid (P=M++mlK s x j p)∧s5=.slice h P.length A∧s13=.int .i64 p∧p≤i∧RmW w ar (.slice h P.length A) P wr) (fun _ s13 _=>i - (intOf s13).toNat)
   case atStart=>exact⟨0,M,h,A,vi (List.append_nil M).symm,rfl,rfl,Nat.zero_le _,a.out⟩
   case round =>
    clear a
    obtain⟨p,P,h,A,N,rfl,rfl,bn,E⟩:=hrel
    have a:=vi E
    clear E
    obtain⟨H,aR⟩:∃ H,H=wr:=⟨_,rfl⟩
    subst aR
    obtain⟨R,-⟩:=aa.out H a.out.f a.out.k
    by_cases hlp:p<i
    ·have bm:(p:Int)<(i:Int):=by omega
     have aL:Hid (P.length≤1700):=vi (by
      have a7:=pA (x:=x) X.out (show i≤s.roles.length by have:=I.out;omega)
      have a8:=tM (x:=x) X.out (show j≤s.roles.length by have:=I.out;omega)
      have a9:=pB (x:=x) (i:=j) X.out (show p≤s.roles.length by have:=I.out;omega)
      rw[N.out,V.out,aq.out,List.length_append,List.length_append]
      omega)
     have ak:Hid (mlK s x j (p+1)=mlK s x j p++mvF s x ⟨2,j,p,0⟩):=vi rfl
     have S:=vi (aC.out ⟨2,j,p,0⟩)
     have O:=vi (pC (s:=s) (x:=x) (m:=⟨2,j,p,0⟩));have J:=vi (sm (s:=s) (x:=x) (m:=⟨2,j,p,0⟩))
     obtain⟨d,aw⟩:∃ d,doB s x ⟨2,j,p,0⟩=d:=⟨_,rfl⟩
     rw[aw] at S O J
     clear aw
     go_upto_region 22 with (refine aD rfl 67 _ _ rfl _ _ _ _ rfl rfl (heap_alloc_new _ _) rfl (by kernel_rfl) (qV ..) ?_;intro aX av ax;have U:=vi av;have al:=vi (((Frm.refl [] H).alloc _).then ax (by intro q G;simp at G;subst G;exact .inr (Nat.le_refl _)));clear av ax)
     have Y:=vi (a.out.frm al.out)
     have ah:=vi (Y.out.k.cells aE.out (by decide));have ai:=vi (Y.out.k.cells aF.out (by decide))
     have ag:=vi (S.out aX Y.out.f)
     clear S
     go_upto_region 23 with (first
      | (refine af rfl 25 _ rfl _ rfl _ 25 ah.out _ Tryz.underlying25 rfl (by kernel_rfl) ?_)
      | (refine af rfl 61 _ rfl _ rfl _ 61 ai.out _ Tryz.underlying61 rfl (by kernel_rfl) ?_)
      | (refine af rfl 67 _ rfl _ rfl _ 67 U.out _ Tryz.underlying67 rfl (by kernel_rfl) ?_)
      | (go_at_call 29;go_must (refine ag.out.mono ?_;clear ag;rintro e aY ⟨v,rfl,bq,br,bs,rfl,au,ay⟩;have am:=vi ay;have aj:=vi au;clear ay au))
      | (refine aD rfl 61 _ _ rfl _ _ _ _ rfl rfl (heap_alloc_new _ _) rfl (by kernel_rfl) aj.out ?_;intro ad aN az;have ap:=vi (((Frm.refl [] aY).alloc _).then az (by intro q G;simp at G;subst G;exact .inr (Nat.le_refl _)));clear aN az))
     have aI:Hid (Frm [] H ad):=vi (al.out.trans (am.out.trans ap.out))
     have aG:=vi ((am.out.trans ap.out).at U.out (by simp))
     have K:=vi (a.out.frm aI.out)
     have aP:w.heap.size≤(ad.alloc (.cells #[.int .i64 2,.int .i64 j,.int .i64 p,.int .i64 0] 67)).heap.size:=by have:=K.out.f.size;simp;omega
     clear U aj ah ai a
     cases d with
     | false =>
       have W:=vi (J.out rfl)
       clear J O
       go_wp2
       exact⟨⟨p+1,P,h,A,vi (by rw[N.out,ak.out,W.out,List.append_nil]),rfl,congrArg (Value.int .i64) (by omega),hlp,K.out⟩,by simp[intOf];omega⟩
     | true =>
       have W:=vi (O.out rfl)
       have bo:=aL.out
       clear J O
       go_wp2_with (first
        | (refine af rfl 67 _ rfl _ rfl _ 67 aG.out _ Tryz.underlying67 rfl (by kernel_rfl) ?_)
        | (at_builtin;refine wpList_append_own_at _ rfl _ _ 64 rfl w.heap.size 67 aV (.agg #[.int .i64 0,.int .i64 0,.int .i64 0,.int .i64 0]) 4 32 Tryz.underlying64 aO aS aT aU rfl (by decide) (.slice h P.length A) P.length (mvC P) rfl (K.out.o.alloc _) ⟨ad.heap.size,0,none⟩ 1 1 [.int .i64 2,.int .i64 j,.int .i64 p,.int .i64 0] rfl rfl (cA _ _ _) (by simp[Value.oneCell']) (by unfold maxLen;omega) (by omega) aP ?_;intro v' bp ab aB _ _;obtain⟨aM,aW,rfl⟩:=an ab;have aK:=vi (K.out.add ⟨2,j,p,0⟩ aB ab);clear ab aB))
       exact⟨⟨p+1,P++[_],aM,aW,vi (by rw[N.out,ak.out,W.out,List.append_assoc]),by rw[List.length_append];rfl,congrArg (Value.int .i64) (by omega),hlp,by rw[List.length_append];exact aK.out⟩,by simp[intOf];omega⟩
    ·obtain rfl:p=i:=by omega
     have aA:¬ (p:Int)<(p:Int):=by omega
     go_wp2
     exact⟨⟨j+1,P,h,A,vi (by rw[N.out,V.out,aH.out,List.append_assoc]),rfl,congrArg (Value.int .i64) (by omega),hlj,a.out⟩,by simp[intOf];omega⟩
  ·obtain rfl:j=i:=by omega
   have aA:¬ (j:Int)<(j:Int):=by omega
   go_wp2
   go_ret
   exact⟨_,rfl,by rw[aJ.out,← aq.out,← V.out];exact a.out.o,a.out.f⟩
theorem oK (s:SesD) (a h:Value) (x:PS) (B:Nat) (w:World) (E:SesV w a s) (G:RSt B w s h x) (A:SesOk s):Calls Tryz.prog 28 #[a,h] w (aU fun v w'=>RmO w v (aN s x) w'∧Frm [] w w'):=qMvS.2 vh s a h x B w E G A
theorem nP (s:SesD) (a h:Value) (x:PS) (B:Nat) (w:World) (H:SesV w a s) (I:RSt B w s h x) (G:SesOk s):Calls Tryz.prog 28 #[a,h] w (aU fun v w'=>Arr 4 MvAt w' v (aN s x)∧Frm [] w w'):=
 (oK s a h x B w H I G).mono (by
  rintro e w' ⟨v,rfl,A,E⟩
  exact⟨v,rfl,uA A,E⟩)
end Go.Proofs.YtohfkhjlnlahdaaGreat
