/- Part of the proof. -/
import Derived.Test.YtemjlpahohmajaaGreatJ42
import Derived.Test.YtemjlpahohmajaaGreatJ35
set_option linter.all false
namespace Go.Proofs.YtemjlpahohmajaaGreat
open Go.RowKit Go.BigFrame
def mvF (s:SesD) (x:PS) (m:Mv):List Mv:=if doB s x m=true then [m] else []
abbrev mvP (s:SesD) (x:PS) (i k p:Nat):List Mv:=cat (fun p=>mvF s x ⟨1,i,k,p⟩) p
abbrev mvK (s:SesD) (x:PS) (i k:Nat):List Mv:=cat (fun k=>mvP s x i k s.cap.toNat) k
abbrev mvI (s:SesD) (x:PS) (i:Nat):List Mv:=cat (fun i=>mvK s x i (s.rol i).steps.length) i
abbrev mlK (s:SesD) (x:PS) (i k:Nat):List Mv:=cat (fun k=>mvF s x ⟨2,i,k,0⟩) k
abbrev mlI (s:SesD) (x:PS) (i:Nat):List Mv:=cat (fun i=>mlK s x i s.roles.length) i
theorem mvF_len (s:SesD) (x:PS) (m:Mv):(mvF s x m).length≤1:=by unfold mvF;split <;> simp
theorem mvP_len {s:SesD} {x:PS} (hs:SesOk s) {i k p:Nat} (hp:p≤s.cap.toNat):(mvP s x i k p).length≤4:=by
 have h:=cat_len (n:=p) (f:=fun p:Nat=>mvF s x ⟨1,i,k,p⟩) (c:=1) (fun _ _=>mvF_len _ _ _)
 have:=hs.k4
 show (cat _ p).length≤4
 omega
theorem mvK_len {s:SesD} {x:PS} (hs:SesOk s) {i k:Nat} (hi:i < s.roles.length) (hk:k≤(s.rol i).steps.length):(mvK s x i k).length≤320:=by
 have h:=cat_len (n:=k) (f:=fun k=>mvP s x i k s.cap.toNat) (c:=4) (fun _ _=>mvP_len hs (Nat.le_refl _))
 have:=(hs.at hi).t80
 show (cat _ k).length≤320
 omega
theorem mvI_len {s:SesD} {x:PS} (hs:SesOk s) {i:Nat} (hi:i≤s.roles.length):(mvI s x i).length≤1280:=by
 have h:=cat_len (n:=i) (f:=fun i=>mvK s x i (s.rol i).steps.length) (c:=320) (fun j hj=>mvK_len hs (by omega) (Nat.le_refl _))
 have:=hs.n4
 show (cat _ i).length≤1280
 omega
theorem mlK_len {s:SesD} {x:PS} (hs:SesOk s) {i k:Nat} (hk:k≤s.roles.length):(mlK s x i k).length≤4:=by
 have h:=cat_len (n:=k) (f:=fun k:Nat=>mvF s x ⟨2,i,k,0⟩) (c:=1) (fun _ _=>mvF_len _ _ _)
 have:=hs.n4
 show (cat _ k).length≤4
 omega
theorem mlI_len {s:SesD} {x:PS} (hs:SesOk s) {i:Nat} (hi:i≤s.roles.length):(mlI s x i).length≤16:=by
 have h:=cat_len (n:=i) (f:=fun i=>mlK s x i s.roles.length) (c:=4) (fun j hj=>mlK_len hs (Nat.le_refl _))
 have:=hs.n4
 show (cat _ i).length≤16
 omega
theorem DoTo.look {w w':World} {s:SesD} {x:PS} {m:Mv} {u:Value} (h:DoTo w s x m u w'):∃ a b c:Value,u=.tuple #[.agg #[a,b,c],.bool (doB s x m)]∧(#[a,b,c]:Array Value).all (·.oneCell')=true∧Frm [] w w':=by
 obtain⟨hf,⟨hd,yv,rfl,hy⟩ | ⟨hd,A,rfl,h3,ha⟩⟩:=h
 ·obtain⟨ba,bb,bw,bi,ca,cb,cw,rfl,-⟩:=hy.out
  exact⟨_,_,_,by rw[hd],one3v ..,hf⟩
 ·obtain⟨l⟩:=A
  match l,h3,ha with
  | [a,b,c],_,ha=>exact⟨a,b,c,by rw[hd],ha,hf⟩
abbrev RmO (w:World) (v:Value) (L:List Mv) (W:World):Prop:=W.ownsRow w.heap.size 129 4 v L.length (mvC L)
theorem rm_arr {W:World} {base:Nat} {v:Value} {L:List Mv} (h:W.ownsRow base 129 4 v L.length (mvC L)):Arr 4 MvAt W v L:=by
 obtain⟨ao,cap,rfl⟩:=own_shape h
 refine⟨ao,cap,rfl,fun i m hm=>?_⟩
 have hl:=lt_of_some hm
 obtain⟨g,c,cur,e,-,-⟩:=own_block h (by omega)
 cases e
 have hc:=fun j hj=>World.ownsRow.cellAt h j hj
 obtain⟨h0,h1,h2,h3⟩:=mvC_at hm
 exact⟨g,0,rfl,by rw[Nat.zero_add,hc _ (by omega)];exact h0,by rw[Nat.zero_add,hc _ (by omega)];exact h1,by rw[Nat.zero_add,hc _ (by omega)];exact h2,by rw[Nat.zero_add,hc _ (by omega)];exact h3⟩
theorem RmO.add {w W:World} {v:Value} {L:List Mv} (m:Mv) (h:W.ownsRow w.heap.size 129 4 v (L.length + 1) (mvC L ++ mvC1 m)):RmO w v (L ++ [m]) W:=by
 unfold RmO
 rw[mvC_append,List.length_append]
 simpa[mvC] using h
structure RmW (w W0:World) (v:Value) (L:List Mv) (W:World):Prop where
 o:RmO w v L W
 f:Frm [] w W
 k:Kt [129] W0 W
theorem RmW.frm {w W0 W V:World} {v:Value} {L:List Mv} (h:RmW w W0 v L W) (hf:Frm [] W V):RmW w W0 v L V:=⟨hf.owns h.o (by simp),h.f.trans hf,h.k.trans (Kt.frm hf)⟩
theorem RmW.add {w W0 W V:World} {v v':Value} {L:List Mv} {o:Obj} (m:Mv) (h:RmW w W0 v L W) (hg:(W.alloc o).grownBy V v.ownBlock) (ho:V.ownsRow w.heap.size 129 4 v' (L.length + 1) (mvC L ++ mvC1 m)):RmW w W0 v' (L ++ [m]) V:=
 ⟨RmO.add m ho,(h.f.alloc o).grown hg (fun q hq=>.inr (ownBlock_ge h.o hq)),(h.k.alloc o).grown hg (fun q hq=>by
  obtain⟨c,hc⟩:=ownBlock_type h.o hq
  exact⟨c,_,(0,0),alloc_at hc,by simp⟩)⟩
theorem Tryz.infoRm:(Tryz.prog.info? 129).map (fun i=>(i.zero,i.size,i.bytes))=some (some (.agg #[.int .i64 0,.int .i64 0,.int .i64 0,.int .i64 0]),4,32):=by kernel_rfl
theorem one4i (a b c d:Int):(#[.int .i64 a,.int .i64 b,.int .i64 c,.int .i64 d]:Array Value).all (·.oneCell')=true:=by
 rw[← Array.all_toList];rfl
theorem mvF_yes {s:SesD} {x:PS} {m:Mv} (h:doB s x m=true):mvF s x m=[m]:=if_pos h
theorem mvF_no {s:SesD} {x:PS} {m:Mv} (h:doB s x m=false):mvF s x m=[]:=if_neg (by rw[h];decide)
set_option maxHeartbeats 8000000 in
set_option maxRecDepth 100000 in
noncomputable def qMvS:PSigma fun P:Prop=>P→∀ (s:SesD) (sv xv:Value) (x:PS) (B:Nat) (w:World),SesV w sv s→RSt B w s xv x→SesOk s→Calls Tryz.prog 48 #[sv,xv] w (RetV fun v w'=>RmO w v (movesP s x) w'∧Frm [] w w'):=by
 apply PSigma.mk
 case snd =>
  intro hP
  have HP0:=Lib.hid hP
  clear hP
  intro s sv xv x B w hs hx hok
  have HSV:=Lib.hid hs;have HXV:=Lib.hid hx;have HOK:=Lib.hid hok
  rw[← movesR_eq hok hx.ok]
  obtain⟨rv,rfl,hr⟩:=hs
  obtain⟨ao,cap,rfl⟩:=hr.shape
  obtain⟨ba,bb,bw,bi,ca,cb,cw,rfl,-⟩:=hx.out
  obtain⟨n,hn⟩:∃ n,s.roles.length=n:=⟨_,rfl⟩
  have h4:n≤4:=hn ▸ hok.n4
  obtain⟨W0,hW0⟩:∃ W0,(w.alloc (.cells #[.string s.name,.slice ao s.roles.length cap,.int .i64 s.cls,.int .i64 s.cap] 25)).alloc (.cells #[.slice (some ⟨ba,0,none⟩) s.roles.length ca,.slice (some ⟨bb,0,none⟩) s.roles.length cb,.slice (some ⟨bw,0,none⟩) s.roles.length cw] 125)=W0:=⟨_,rfl⟩
  have hf0:Frm [] w W0:=by rw[← hW0];exact((Frm.refl _ _).alloc _).alloc _
  have hb1:W0.heap[w.heap.size]?=some (.cells #[.string s.name,.slice ao s.roles.length cap,.int .i64 s.cls,.int .i64 s.cap] 25 (0,0)):=by rw[← hW0];exact alloc_at (heap_alloc_new _ _)
  have hb2:W0.heap[w.heap.size + 1]?=some (.cells #[.slice (some ⟨ba,0,none⟩) s.roles.length ca,.slice (some ⟨bb,0,none⟩) s.roles.length cb,.slice (some ⟨bw,0,none⟩) s.roles.length cw] 125 (0,0)):=by rw[← hW0];exact alloc_top (by simp)
  obtain⟨cp,hcp⟩:∃ cp:Nat,s.cap=cp:=Int.eq_ofNat_of_zero_le (by have:=hok.k1;omega)
  have hcp4:cp≤4:=by have:=hok.k4;omega
  have HE:=Lib.hid hW0
  have HRL:=Lib.hid hr
  have HRW0:Hid (RmW w W0 (.slice none ([]:List Mv).length 0) [] W0):=Lib.hid ⟨World.ownsRow_nil _ _ _ _,hf0,Kt.refl _ _⟩
  rw[hn] at hb1 hb2 HE HRL HSV HXV ⊢
  have HB1:=Lib.hid hb1;have HB2:=Lib.hid hb2;have HF0:=Lib.hid hf0;have HN:=Lib.hid hn;have HCP:=Lib.hid hcp
  have HMR:Hid (movesR s x=mvI s x n ++ mlI s x n):=Lib.hid (by rw[← hn];rfl)
  have HS1:Hid (∀ V,Frm [] w V→Kt [129] W0 V→V.cell? ⟨w.heap.size,1,none⟩=some (.slice ao n cap)∧V.cell? ⟨w.heap.size,3,none⟩=some (.int .i64 (cp:Int))):=Lib.hid fun V _ hV=>by
   have hz:=hV.cells hb1 (by decide)
   exact⟨cell_of hz 1,(cell_of hz 3).trans (by rw[← hcp];rfl)⟩
  have CD:Hid (∀ (m:Mv) V,Frm [] w V→Calls Tryz.prog 49 #[.agg #[.string s.name,.slice ao n cap,.int .i64 s.cls,.int .i64 s.cap],.agg #[.slice (some ⟨ba,0,none⟩) n ca,.slice (some ⟨bb,0,none⟩) n cb,.slice (some ⟨bw,0,none⟩) n cw],.agg #[.int .i64 m.kind,.int .i64 m.role,.int .i64 m.step,.int .i64 m.place]] V
    (RetV fun u w'=>∃ a b c:Value,u=.tuple #[.agg #[a,b,c],.bool (doB s x m)]∧(#[a,b,c]:Array Value).all (·.oneCell')=true∧Frm [] V w')):=Lib.hid fun m V hV =>
   (qDo_any s _ _ x B V m (HSV.out.frm hV) (HXV.out.frm hV) HOK.out).mono fun e w' h=>by
    obtain⟨u,rfl,h⟩:=h
    exact⟨u,rfl,h.look⟩
  obtain⟨i0,hi0,hz0,hz1,hz2⟩:=info_parts Tryz.infoRm
  clear hr hx hok hW0 hf0 hb1 hb2 hn hcp
  go_enter Tryz.func48,Tryz.ntmps48
  go_upto_region 1 with fail
  rw[HE.out]
  go_upto_region 3 with fail
  go_loopw [5,6] (fun s5 s6 wr=>∃ (i:Nat) (L:List Mv) (ar:Option Addr) (kr:Nat),Hid (L=mvI s x i)∧s5=.slice ar L.length kr∧s6=.int .i64 i∧i≤n∧RmW w W0 (.slice ar L.length kr) L wr) (fun _ s6 _=>n - (intOf s6).toNat)
  case atStart=>exact⟨0,[],none,0,Lib.hid rfl,rfl,rfl,Nat.zero_le _,HRW0.out⟩
  case round =>
   obtain⟨i,L,ar,kr,HL,rfl,rfl,hi,ho⟩:=hrel
   have HO:=Lib.hid ho
   clear ho
   obtain⟨wl,hwl⟩:∃ wl,wl=wr:=⟨_,rfl⟩
   subst hwl
   obtain⟨e1,-⟩:=HS1.out wl HO.out.f HO.out.k
   by_cases hlt:i < n
   ·have hlt':(i:Int) < (n:Int):=by omega
    have hin:i < s.roles.length:=by rw[HN.out];exact hlt
    obtain⟨b,o,sv,cv,tv,rfl,⟨-,-,-,d3⟩,h3⟩:=Rls.at HRL.out hin
    obtain⟨aT,kT,eT⟩:=h3.steps.shape
    subst eT
    obtain⟨m,hm⟩:∃ m,(s.rol i).steps.length=m:=⟨_,rfl⟩
    have HT8:Hid (m≤80):=Lib.hid (by rw[← hm];exact(HOK.out.at hin).t80)
    rw[hm] at d3
    have HM:=Lib.hid hm;have HIN:=Lib.hid hin
    have HS2:Hid (∀ V,Frm [] w V→V.cell? ⟨b,o + i * 4 + 3,none⟩=some (.slice aT m kT)):=Lib.hid fun V hV=>hV.keep d3
    have HE1:Hid (mvI s x (i + 1)=mvI s x i ++ mvK s x i m):=Lib.hid (by rw[← hm];rfl)
    clear h3 hm hin d3
    go_upto_region 6 with fail
    clear e1
    go_loopw [5,7] (fun s5 s7 wr=>∃ (k:Nat) (M:List Mv) (ar:Option Addr) (kr:Nat),Hid (M=L ++ mvK s x i k)∧s5=.slice ar M.length kr∧s7=.int .i64 k∧k≤m∧RmW w W0 (.slice ar M.length kr) M wr) (fun _ s7 _=>m - (intOf s7).toNat)
    case atStart=>exact⟨0,L,ar,kr,Lib.hid (List.append_nil L).symm,rfl,rfl,Nat.zero_le _,HO.out⟩
    case round =>
     clear HO
     obtain⟨k,M,ar,kr,HMM,rfl,rfl,hk,ho⟩:=hrel
     have HO:=Lib.hid ho
     clear ho
     obtain⟨wm,hwm⟩:∃ wm,wm=wr:=⟨_,rfl⟩
     subst hwm
     have d3:=HS2.out wm HO.out.f
     obtain⟨e1,-⟩:=HS1.out wm HO.out.f HO.out.k
     by_cases hlk:k < m
     ·have hlk':(k:Int) < (m:Int):=by omega
      have HEK:Hid (mvK s x i (k + 1)=mvK s x i k ++ mvP s x i k cp):=Lib.hid (by
       show mvK s x i k ++ mvP s x i k s.cap.toNat=_
       rw[HCP.out];rfl)
      go_upto_region 9 with fail
      clear d3 e1
      go_loopw [5,8] (fun s5 s8 wr=>∃ (p:Nat) (P:List Mv) (ar:Option Addr) (kr:Nat),Hid (P=M ++ mvP s x i k p)∧s5=.slice ar P.length kr∧s8=.int .i64 p∧p≤cp∧RmW w W0 (.slice ar P.length kr) P wr) (fun _ s8 _=>cp - (intOf s8).toNat)
      case atStart=>exact⟨0,M,ar,kr,Lib.hid (List.append_nil M).symm,rfl,rfl,Nat.zero_le _,HO.out⟩
      case round =>
       clear HO
       obtain⟨p,P,ar,kr,HP,rfl,rfl,hp,ho⟩:=hrel
       have HO:=Lib.hid ho
       clear ho
       obtain⟨wp,hwp⟩:∃ wp,wp=wr:=⟨_,rfl⟩
       subst hwp
       obtain⟨-,e3⟩:=HS1.out wp HO.out.f HO.out.k
       by_cases hlp:p < cp
       ·have hlp':(p:Int) < (cp:Int):=by omega
        have HPL:Hid (P.length≤1700):=Lib.hid (by
         have a1:=mvI_len (x:=x) HOK.out (show i≤s.roles.length by have:=HIN.out;omega)
         have a2:=mvK_len (x:=x) HOK.out HIN.out (show k≤(s.rol i).steps.length by rw[HM.out];omega)
         have a3:=mvP_len (x:=x) (i:=i) (k:=k) HOK.out (show p≤s.cap.toNat by rw[HCP.out];simp;omega)
         rw[HP.out,HMM.out,HL.out,List.length_append,List.length_append]
         omega)
        have HEP:Hid (mvP s x i k (p + 1)=mvP s x i k p ++ mvF s x ⟨1,i,k,p⟩):=Lib.hid rfl
        have CM:=Lib.hid (CD.out ⟨1,i,k,p⟩)
        have HYS:=Lib.hid (mvF_yes (s:=s) (x:=x) (m:=⟨1,i,k,p⟩));have HNO:=Lib.hid (mvF_no (s:=s) (x:=x) (m:=⟨1,i,k,p⟩))
        obtain⟨d,hd⟩:∃ d,doB s x ⟨1,i,k,p⟩=d:=⟨_,rfl⟩
        rw[hd] at CM HYS HNO
        clear hd
        go_upto_region 12 with (refine wpList_store_row rfl 129 _ _ rfl _ _ _ _ rfl rfl (heap_alloc_new _ _) rfl (by kernel_rfl) (one4i ..) ?_;intro w1 hb1 hf1;have HBM:=Lib.hid hb1;have HF1:=Lib.hid (((Frm.refl [] wp).alloc _).then hf1 (by intro q hq;simp at hq;subst hq;exact .inr (Nat.le_refl _)));clear hb1 hf1)
        have HR1:=Lib.hid (HO.out.frm HF1.out)
        have HA1:=Lib.hid (HR1.out.k.cells HB1.out (by decide));have HA2:=Lib.hid (HR1.out.k.cells HB2.out (by decide))
        have CM1:=Lib.hid (CM.out w1 HR1.out.f)
        clear CM
        go_upto_region 13 with (first
         | (refine wpList_load_whole rfl 25 _ rfl _ rfl _ 25 HA1.out _ Tryz.underlying25 rfl (by kernel_rfl) ?_)
         | (refine wpList_load_whole rfl 125 _ rfl _ rfl _ 125 HA2.out _ Tryz.underlying125 rfl (by kernel_rfl) ?_)
         | (refine wpList_load_whole rfl 129 _ rfl _ rfl _ 129 HBM.out _ Tryz.underlying129 rfl (by kernel_rfl) ?_)
         | (go_at_call 49;go_must (refine CM1.out.mono ?_;clear CM1;rintro e w2 ⟨v,rfl,ya,yb,yc,rfl,hal,hf2⟩;have HF2:=Lib.hid hf2;have HAL:=Lib.hid hal;clear hf2 hal))
         | (refine wpList_store_row rfl 125 _ _ rfl _ _ _ _ rfl rfl (heap_alloc_new _ _) rfl (by kernel_rfl) HAL.out ?_;intro w3 hb3 hf3;have HF3:=Lib.hid (((Frm.refl [] w2).alloc _).then hf3 (by intro q hq;simp at hq;subst hq;exact .inr (Nat.le_refl _)));clear hb3 hf3))
        have HF13:Hid (Frm [] wp w3):=Lib.hid (HF1.out.trans (HF2.out.trans HF3.out))
        have HBM3:=Lib.hid ((HF2.out.trans HF3.out).at HBM.out (by simp))
        have HO3:=Lib.hid (HO.out.frm HF13.out)
        have hsz:w.heap.size≤(w3.alloc (.cells #[.int .i64 1,.int .i64 i,.int .i64 k,.int .i64 p] 129)).heap.size:=by have:=HO3.out.f.size;simp;omega
        clear HBM HAL HA1 HA2 HO
        cases d with
        | false =>
          have HNN:=Lib.hid (HNO.out rfl)
          clear HNO HYS
          go_wp2
          exact⟨⟨p + 1,P,ar,kr,Lib.hid (by rw[HP.out,HEP.out,HNN.out,List.append_nil]),rfl,congrArg (Value.int .i64) (by omega),hlp,HO3.out⟩,by simp[intOf];omega⟩
        | true =>
          have HNN:=Lib.hid (HYS.out rfl)
          have hpl:=HPL.out
          clear HNO HYS
          go_wp2_with (first
           | (refine wpList_load_whole rfl 129 _ rfl _ rfl _ 129 HBM3.out _ Tryz.underlying129 rfl (by kernel_rfl) ?_)
           | (at_builtin;refine wpList_append_own_at _ rfl _ _ 37 rfl w.heap.size 129 i0 (.agg #[.int .i64 0,.int .i64 0,.int .i64 0,.int .i64 0]) 4 32 Tryz.underlying37 hi0 hz0 hz1 hz2 rfl (by decide) (.slice ar P.length kr) P.length (mvC P) rfl (HO3.out.o.alloc _) ⟨w3.heap.size,0,none⟩ 1 1 [.int .i64 1,.int .i64 i,.int .i64 k,.int .i64 p] rfl rfl (new_row _ _ _) (by simp[Value.oneCell']) (by unfold maxLen;omega) (by omega) hsz ?_;intro v' w6 hown' hgrow _ _;obtain⟨a6,k6,rfl⟩:=own_shape hown';have HO6:=Lib.hid (HO3.out.add ⟨1,i,k,p⟩ hgrow hown');clear hown' hgrow))
          exact⟨⟨p + 1,P ++ [_],a6,k6,Lib.hid (by rw[HP.out,HEP.out,HNN.out,List.append_assoc]),by rw[List.length_append];rfl,congrArg (Value.int .i64) (by omega),hlp,by rw[List.length_append];exact HO6.out⟩,by simp[intOf];omega⟩
       ·obtain rfl:p=cp:=by omega
        have hge:¬ (p:Int) < (p:Int):=by omega
        have ht8:=HT8.out
        go_wp2
        exact⟨⟨k + 1,P,ar,kr,Lib.hid (by rw[HP.out,HMM.out,HEK.out,List.append_assoc]),rfl,congrArg (Value.int .i64) (by omega),hlk,HO.out⟩,by simp[intOf];omega⟩
     ·obtain rfl:k=m:=by omega
      have hge:¬ (k:Int) < (k:Int):=by omega
      go_wp2
      exact⟨⟨i + 1,M,ar,kr,Lib.hid (by rw[HMM.out,HL.out,HE1.out]),rfl,congrArg (Value.int .i64) (by omega),hlt,HO.out⟩,by simp[intOf];omega⟩
   ·obtain rfl:i=n:=by omega
    have hge:¬ (i:Int) < (i:Int):=by omega
    clear e1 hlt
    obtain⟨e1,-⟩:=HS1.out wl HO.out.f HO.out.k
    go_upto_region 15 with fail
    clear e1
    rename_i z0_ z1_ z2_ z3_ z4_ z5_ z6_ z7_ z8_
    revert s x B w HOK ao cap ba bb bw bi ca cb cw W0 cp hcp4 HRW0 HF0 HCP i0 hi0 hz0 hz1 hz2 z0_ z1_ u7 u8 u9 u10 u11 u17 u18 u19 u20 u21 u22 u23 u24 u25 u26 u27 u28 u29 u30 u31 u32 u33 u34 u35 u36 u37 u38 u39 u40 u41 u42 u43 u44 u45 u46 u47 u48 u49 u50 u51 u52 u53 u54 u55 u56 i L ar kr HL wl HO HXV HSV h4 HE HRL HB1 HB2 HN HMR HS1 CD hi hge z2_ z3_ z4_ z5_ z6_ z7_ z8_
    exact HP0.out
set_option maxHeartbeats 8000000 in
set_option maxRecDepth 100000 in
theorem qMvT:qMvS.1:=by
 intro s x B w HOK ao cap ba bb bw bi ca cb cw W0 cp hcp4 HRW0 HF0 HCP i0 hi0 hz0 hz1 hz2 _ _ u7 u8 u9 u10 u11 u17 u18 u19 u20 u21 u22 u23 u24 u25 u26 u27 u28 u29 u30 u31 u32 u33 u34 u35 u36 u37 u38 u39 u40 u41 u42 u43 u44 u45 u46 u47 u48 u49 u50 u51 u52 u53 u54 u55 u56 i L ar kr HL wl HO HXV HSV h4 HE HRL HB1 HB2 HN HMR HS1 CD hi hge _ _ _ _ _ _ _
 obtain⟨e1,-⟩:=HS1.out wl HO.out.f HO.out.k
 go_upto_region 16 with fail
 clear e1
 go_loopw [5,12] (fun s5 s12 wr=>∃ (j:Nat) (M:List Mv) (ar:Option Addr) (kr:Nat),Hid (M=L ++ mlI s x j)∧s5=.slice ar M.length kr∧s12=.int .i64 j∧j≤i∧RmW w W0 (.slice ar M.length kr) M wr) (fun _ s12 _=>i - (intOf s12).toNat)
 case atStart=>exact⟨0,L,ar,kr,Lib.hid (List.append_nil L).symm,rfl,rfl,Nat.zero_le _,HO.out⟩
 case round =>
  clear HO
  obtain⟨j,M,ar,kr,HMM,rfl,rfl,hj,ho⟩:=hrel
  have HO:=Lib.hid ho
  clear ho
  obtain⟨wm,hwm⟩:∃ wm,wm=wr:=⟨_,rfl⟩
  subst hwm
  obtain⟨e1,-⟩:=HS1.out wm HO.out.f HO.out.k
  by_cases hlj:j < i
  ·have hlj':(j:Int) < (i:Int):=by omega
   have HEK:Hid (mlI s x (j + 1)=mlI s x j ++ mlK s x j i):=Lib.hid (by rw[← HN.out];rfl)
   go_upto_region 19 with fail
   clear e1
   go_loopw [5,13] (fun s5 s13 wr=>∃ (p:Nat) (P:List Mv) (ar:Option Addr) (kr:Nat),Hid (P=M ++ mlK s x j p)∧s5=.slice ar P.length kr∧s13=.int .i64 p∧p≤i∧RmW w W0 (.slice ar P.length kr) P wr) (fun _ s13 _=>i - (intOf s13).toNat)
   case atStart=>exact⟨0,M,ar,kr,Lib.hid (List.append_nil M).symm,rfl,rfl,Nat.zero_le _,HO.out⟩
   case round =>
    clear HO
    obtain⟨p,P,ar,kr,HP,rfl,rfl,hp,ho⟩:=hrel
    have HO:=Lib.hid ho
    clear ho
    obtain⟨wp,hwp⟩:∃ wp,wp=wr:=⟨_,rfl⟩
    subst hwp
    obtain⟨e1,-⟩:=HS1.out wp HO.out.f HO.out.k
    by_cases hlp:p < i
    ·have hlp':(p:Int) < (i:Int):=by omega
     have HPL:Hid (P.length≤1700):=Lib.hid (by
      have a1:=mvI_len (x:=x) HOK.out (show i≤s.roles.length by have:=HN.out;omega)
      have a2:=mlI_len (x:=x) HOK.out (show j≤s.roles.length by have:=HN.out;omega)
      have a3:=mlK_len (x:=x) (i:=j) HOK.out (show p≤s.roles.length by have:=HN.out;omega)
      rw[HP.out,HMM.out,HL.out,List.length_append,List.length_append]
      omega)
     have HEP:Hid (mlK s x j (p + 1)=mlK s x j p ++ mvF s x ⟨2,j,p,0⟩):=Lib.hid rfl
     have CM:=Lib.hid (CD.out ⟨2,j,p,0⟩)
     have HYS:=Lib.hid (mvF_yes (s:=s) (x:=x) (m:=⟨2,j,p,0⟩));have HNO:=Lib.hid (mvF_no (s:=s) (x:=x) (m:=⟨2,j,p,0⟩))
     obtain⟨d,hd⟩:∃ d,doB s x ⟨2,j,p,0⟩=d:=⟨_,rfl⟩
     rw[hd] at CM HYS HNO
     clear hd
     go_upto_region 22 with (refine wpList_store_row rfl 129 _ _ rfl _ _ _ _ rfl rfl (heap_alloc_new _ _) rfl (by kernel_rfl) (one4i ..) ?_;intro w1 hb1 hf1;have HBM:=Lib.hid hb1;have HF1:=Lib.hid (((Frm.refl [] wp).alloc _).then hf1 (by intro q hq;simp at hq;subst hq;exact .inr (Nat.le_refl _)));clear hb1 hf1)
     have HR1:=Lib.hid (HO.out.frm HF1.out)
     have HA1:=Lib.hid (HR1.out.k.cells HB1.out (by decide));have HA2:=Lib.hid (HR1.out.k.cells HB2.out (by decide))
     have CM1:=Lib.hid (CM.out w1 HR1.out.f)
     clear CM
     go_upto_region 23 with (first
      | (refine wpList_load_whole rfl 25 _ rfl _ rfl _ 25 HA1.out _ Tryz.underlying25 rfl (by kernel_rfl) ?_)
      | (refine wpList_load_whole rfl 125 _ rfl _ rfl _ 125 HA2.out _ Tryz.underlying125 rfl (by kernel_rfl) ?_)
      | (refine wpList_load_whole rfl 129 _ rfl _ rfl _ 129 HBM.out _ Tryz.underlying129 rfl (by kernel_rfl) ?_)
      | (go_at_call 49;go_must (refine CM1.out.mono ?_;clear CM1;rintro e w2 ⟨v,rfl,ya,yb,yc,rfl,hal,hf2⟩;have HF2:=Lib.hid hf2;have HAL:=Lib.hid hal;clear hf2 hal))
      | (refine wpList_store_row rfl 125 _ _ rfl _ _ _ _ rfl rfl (heap_alloc_new _ _) rfl (by kernel_rfl) HAL.out ?_;intro w3 hb3 hf3;have HF3:=Lib.hid (((Frm.refl [] w2).alloc _).then hf3 (by intro q hq;simp at hq;subst hq;exact .inr (Nat.le_refl _)));clear hb3 hf3))
     have HF13:Hid (Frm [] wp w3):=Lib.hid (HF1.out.trans (HF2.out.trans HF3.out))
     have HBM3:=Lib.hid ((HF2.out.trans HF3.out).at HBM.out (by simp))
     have HO3:=Lib.hid (HO.out.frm HF13.out)
     have hsz:w.heap.size≤(w3.alloc (.cells #[.int .i64 2,.int .i64 j,.int .i64 p,.int .i64 0] 129)).heap.size:=by have:=HO3.out.f.size;simp;omega
     clear HBM HAL HA1 HA2 HO
     cases d with
     | false =>
       have HNN:=Lib.hid (HNO.out rfl)
       clear HNO HYS
       go_wp2
       exact⟨⟨p + 1,P,ar,kr,Lib.hid (by rw[HP.out,HEP.out,HNN.out,List.append_nil]),rfl,congrArg (Value.int .i64) (by omega),hlp,HO3.out⟩,by simp[intOf];omega⟩
     | true =>
       have HNN:=Lib.hid (HYS.out rfl)
       have hpl:=HPL.out
       clear HNO HYS
       go_wp2_with (first
        | (refine wpList_load_whole rfl 129 _ rfl _ rfl _ 129 HBM3.out _ Tryz.underlying129 rfl (by kernel_rfl) ?_)
        | (at_builtin;refine wpList_append_own_at _ rfl _ _ 37 rfl w.heap.size 129 i0 (.agg #[.int .i64 0,.int .i64 0,.int .i64 0,.int .i64 0]) 4 32 Tryz.underlying37 hi0 hz0 hz1 hz2 rfl (by decide) (.slice ar P.length kr) P.length (mvC P) rfl (HO3.out.o.alloc _) ⟨w3.heap.size,0,none⟩ 1 1 [.int .i64 2,.int .i64 j,.int .i64 p,.int .i64 0] rfl rfl (new_row _ _ _) (by simp[Value.oneCell']) (by unfold maxLen;omega) (by omega) hsz ?_;intro v' w6 hown' hgrow _ _;obtain⟨a6,k6,rfl⟩:=own_shape hown';have HO6:=Lib.hid (HO3.out.add ⟨2,j,p,0⟩ hgrow hown');clear hown' hgrow))
       exact⟨⟨p + 1,P ++ [_],a6,k6,Lib.hid (by rw[HP.out,HEP.out,HNN.out,List.append_assoc]),by rw[List.length_append];rfl,congrArg (Value.int .i64) (by omega),hlp,by rw[List.length_append];exact HO6.out⟩,by simp[intOf];omega⟩
    ·obtain rfl:p=i:=by omega
     have hge:¬ (p:Int) < (p:Int):=by omega
     go_wp2
     exact⟨⟨j + 1,P,ar,kr,Lib.hid (by rw[HP.out,HMM.out,HEK.out,List.append_assoc]),rfl,congrArg (Value.int .i64) (by omega),hlj,HO.out⟩,by simp[intOf];omega⟩
  ·obtain rfl:j=i:=by omega
   have hge:¬ (j:Int) < (j:Int):=by omega
   go_wp2
   go_ret
   exact⟨_,rfl,by rw[HMR.out,← HL.out,← HMM.out];exact HO.out.o,HO.out.f⟩
theorem qMoves_own (s:SesD) (sv xv:Value) (x:PS) (B:Nat) (w:World) (hs:SesV w sv s) (hx:RSt B w s xv x) (hok:SesOk s):Calls Tryz.prog 48 #[sv,xv] w (RetV fun v w'=>RmO w v (movesP s x) w'∧Frm [] w w'):=qMvS.2 qMvT s sv xv x B w hs hx hok
end Go.Proofs.YtemjlpahohmajaaGreat
