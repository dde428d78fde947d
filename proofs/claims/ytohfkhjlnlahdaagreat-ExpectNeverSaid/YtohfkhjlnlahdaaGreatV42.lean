/- Part of the proof. -/
import Derived.Test.YtohfkhjlnlahdaaGreatV38
import Derived.Test.YtohfkhjlnlahdaaGreatV23
import Derived.Test.YtohfkhjlnlahdaaGreatV41
import Derived.Test.YtohfkhjlnlahdaaGreatV37
set_option linter.all false
namespace Go.Proofs.YtohfkhjlnlahdaaGreat
open Go.RowKit Go.BigFrame
theorem cat_part {α:Type} {f:Nat→List α} {k j:Nat} {y:α} (hj:(f k)[j]?=some y):∀ {n:Nat},k < n→∃ rest,cat f n=(cat f k ++ (f k).take j) ++ y :: rest
 | 0,h=>by omega
 | n + 1,h=>by
   rcases Nat.lt_or_ge k n with h1 | h1
   ·obtain⟨rest,e⟩:=cat_part hj h1
    exact⟨rest ++ f n,by rw[cat,e];simp⟩
   ·obtain rfl:k=n:=by omega
    obtain⟨-,h2⟩:=take_snoc' hj
    refine⟨(f k).drop (j + 1),?_⟩
    rw[cat]
    conv=>lhs;rw[h2]
    simp
def spN (s:SesD) (M:List Nd) (n:Nat):List (Nat × Sp):=(ofP s ((M.map Nd.st).getD n ⟨[],[],[]⟩)).map fun u=>(n,u)
theorem allSp_cat (s:SesD) (M:List Nd):allSp s M=cat (spN s M) M.length:=rfl
theorem spN_at {s:SesD} {N:List (Nd × Nat)} {k:Nat} {d:Nd × Nat} (h:N[k]?=some d):spN s (N.map Prod.fst) k=(ofP s d.1.st).map fun u=>(k,u):=by
 unfold spN
 rw[List.getD_eq_getElem?_getD,List.map_map,List.getElem?_map,h]
 rfl
structure AlI (B1 B2 pb:Nat) (ra:Option Addr) (cp:Nat) (s:SesD) (yb fb:Nat) (wh:Bool) (N:List (Nd × Nat)) (W:World):Prop where
 b1:W.heap[B1]?=some (.cells #[.pointer (some ⟨pb,0,none⟩)] 122 (0,0))
 b2:W.heap[B2]?=some (.cells #[.string s.name,.slice ra s.roles.length cp,.int .i64 s.cls,.int .i64 s.cap] 25 (0,0))
 ses:SesV W (.agg #[.string s.name,.slice ra s.roles.length cp,.int .i64 s.cls,.int .i64 s.cap]) s
 sp:SpO W s yb wh pb N
 sy:SyR W s yb fb
theorem AlI.frm {B1 B2 pb yb fb cp:Nat} {ra:Option Addr} {s:SesD} {wh:Bool} {N:List (Nd × Nat)} {W W':World} (h:AlI B1 B2 pb ra cp s yb fb wh N W) (hf:Frm [] W W'):AlI B1 B2 pb ra cp s yb fb wh N W':=
 ⟨hf.at h.b1 (by simp),hf.at h.b2 (by simp),h.ses.frm hf,h.sp.frm hf,h.sy.frm hf⟩
theorem Kc.row {T:TypeId→Prop} {B base e size n:Nat} {W W':World} {v:Value} {xs:List Value} (h:Kc T B W W') (ho:W.ownsRow base e size v n xs) (he:¬ T e):W'.ownsRow base e size v n xs:=by
 obtain⟨h1,h2⟩:=ho
 refine⟨h1,?_⟩
 rcases h2 with h2 | ⟨g,cap,cur,hv,hg,hh,r⟩
 ·exact .inl h2
 ·exact .inr ⟨g,cap,cur,hv,hg,h.cells _ _ _ _ hh he,r⟩
attribute [local go_sem] Oper.semAt_some
set_option maxHeartbeats 8000000 in
set_option maxRecDepth 100000 in
theorem al_iter (T:TypeId→Prop) (hT1:¬ T 33) (hT2:¬ T 179) (hT3:¬ T 122) (B1 B2 pb yb fb cp:Nat) (ra:Option Addr) (s:SesD) (wh:Bool) (N:List (Nd × Nat)) (hN:N.length≤200000) :
  IterT T Fence.wide 2 Tryz.prog 94 #[.pointer (some ⟨B1,0,none⟩),.pointer (some ⟨B2,0,none⟩)] (fun e:Nat × Sp=>#[.int .i64 e.1,suV e.2]) (AlI B1 B2 pb ra cp s yb fb wh N) (allSp s (N.map Prod.fst)):=by
 intro B l J Jx sJ sJx hJR hY W hB h0
 have HJ:=Lib.hid sJ;have HJx:=Lib.hid sJx;have HJR:=Lib.hid hJR;have HY:=Lib.hid hY;have H0:=Lib.hid h0;have HBW:=Lib.hid hB
 have HNL:=Lib.hid hN
 clear sJ sJx hJR hY h0 hB hN
 refine callsIn_wide.2 ?_
 refine calls_of_marks Tryz.func94 rfl ?_
 simp only[Tryz.ntmps94,List.size_toArray,List.length_cons,List.length_nil,Nat.reduceAdd,Nat.reduceSub,Array.replicate_succ,Array.replicate_zero,List.push_toArray,List.append_toArray,List.nil_append,List.cons_append]
 go_upto_region 1 with fail
 obtain⟨W1,hW1⟩:∃ W1,W.alloc (.cells #[.func (.yield l) #[] #[]] 179)=W1:=⟨_,rfl⟩
 obtain⟨yq,hyq⟩:∃ b,W.heap.size=b:=⟨_,rfl⟩
 have HF1:Hid (Frm [] W W1):=Lib.hid (by rw[← hW1];exact(Frm.refl _ _).alloc _)
 have HQ1:Hid (W1.heap[yq]?=some (.cells #[.func (.yield l) #[] #[]] 179 (0,0))):=Lib.hid (by rw[← hW1,← hyq];exact heap_alloc_new _ _)
 rw[hW1,hyq]
 clear hW1 hyq
 have HJ1:Hid (J [] W1):=Lib.hid (HJ.out _ _ _ H0.out (HF1.out.bk _))
 have c1:=cell_of (HJR.out _ _ HJ1.out).b1 0
 go_wp2_with (first
  | (go_at_call 91;go_must (refine(xStates_any _ _).mono ?_;rintro e w2 ⟨u,rfl,bx,rfl,hbx,hf⟩;have HBX:=Lib.hid hbx;have HF2:=Lib.hid hf;clear hbx hf c1)))
 have HJ2:Hid (J [] w2):=Lib.hid (HJ.out _ _ _ HJ1.out (HF2.out.bk _))
 have HQ2:=Lib.hid (HF2.out.at HQ1.out (by simp))
 have HB2:Hid (B≤w2.heap.size):=Lib.hid (by have:=HBW.out;have:=HF1.out.size;have:=HF2.out.size;omega)
 refine wp_rangeListT (T:=fun _=>True) rfl (enters_of Tryz.func151 (by kernel_rfl) rfl) (Iter.toT (st_iter bx yb pb s wh N (by have:=HNL.out;omega))) (fun _=>rfl)
  (fun pre V=>J (cat (spN s (N.map Prod.fst)) pre.length) V∧V.heap[yq]?=some (.cells #[.func (.yield l) #[] #[]] 179 (0,0))∧V.heap[bx]?=some (.cells #[.pointer (some ⟨pb,0,none⟩)] 122 (0,0)))
  (fun c _ V=>c=.ret∧∃ p x rest,allSp s (N.map Prod.fst)=p ++ x :: rest∧Jx (p ++ [x]) V)
  (fun _ _ _ h hb=>⟨HJ.out _ _ _ h.1 (hb.weak HB2.out),hb.at h.2.1 rfl,hb.at h.2.2 rfl⟩)
  (fun _ _ _ _ h hb=>⟨h.1,by obtain⟨p,x,rest,h1,h2⟩:=h.2;exact⟨p,x,rest,h1,HJx.out _ _ _ h2 (hb.weak HB2.out)⟩⟩)
  (fun _ V h=>⟨h.2.2,(HJR.out _ _ h.1).sp⟩) ⟨HJ2.out,HQ2.out,HBX.out⟩ ?_ ?_ ?_
 ·intro l1 pre y rest Wr hxs hI hl hlr
  obtain⟨hy,hpl⟩:=numL_pre hxs
  have hLk:=numL_some hxs
  obtain⟨yi,ym⟩:=y
  simp only at hy hLk
  subst hy
  have HI:=Lib.hid hI
  have hlq:l1 < Wr.heap.size:=by obtain⟨r0,hr0⟩:=hlr;exact lt_of_block hr0
  have HLQ:=Lib.hid hlq;have HL1:=Lib.hid hl
  clear hI hl hlr hxs hlq
  gi_wp2
  refine⟨Kc.refl _ _ _,fun Wq hbk _=>?_⟩
  have hsq:w2.heap.size≤Wq.heap.size:=by have:=HLQ.out;have:=HL1.out;have:=hbk.size;omega
  have HI2:Hid (J (cat (spN s (N.map Prod.fst)) pre.length) Wq∧Wq.heap[yq]?=some (.cells #[.func (.yield l) #[] #[]] 179 (0,0))∧Wq.heap[bx]?=some (.cells #[.pointer (some ⟨pb,0,none⟩)] 122 (0,0))):=
   Lib.hid ⟨HJ.out _ _ _ HI.out.1 (hbk.weak HB2.out),hbk.at HI.out.2.1 rfl,hbk.at HI.out.2.2 rfl⟩
  have HSQ:Hid (w2.heap.size≤Wq.heap.size):=Lib.hid hsq
  clear hbk HI hsq
  obtain⟨d,hd,rfl⟩:=some_map hLk
  have HSP:=Lib.hid (spN_at (s:=s) hd)
  have HAI:=Lib.hid (HJR.out _ _ HI2.out.1)
  have HST:Hid (StR Wq s yb d.2 d.1.st):=Lib.hid (HAI.out.sp.st d (List.mem_of_getElem? hd))
  have CF:=Lib.hid (xpSps_any s yb fb d.2 d.1.st (.agg #[.string s.name,.slice ra s.roles.length cp,.int .i64 s.cls,.int .i64 s.cap]) Wq HAI.out.sy HST.out HAI.out.ses)
  have HLT:Hid (pre.length < N.length):=Lib.hid (lt_of_some hd)
  have z0:=cell_of HAI.out.b2 0
  have z1:=cell_of HAI.out.b2 1
  have z2:=cell_of HAI.out.b2 2
  have z3:=cell_of HAI.out.b2 3
  have hof:=of_len HAI.out.sy.ok HST.out.ok (Nat.le_refl s.roles.length)
  obtain⟨L,hL⟩:∃ L,ofP s d.1.st=L:=⟨_,rfl⟩
  have hL64:L.length≤64:=by rw[← hL];exact hof
  rw[hL] at CF HSP
  have HL64:=Lib.hid hL64
  obtain⟨n,hn⟩:∃ n,L.length=n:=⟨_,rfl⟩
  have HN:=Lib.hid hn
  rw[hn] at CF
  obtain⟨k,hk⟩:∃ k,pre.length=k:=⟨_,rfl⟩
  have HK:=Lib.hid hk
  rw[hk] at HI2 HSP HLT ⊢
  clear hd hof hL hL64 hn hLk hpl hk
  gi_upto_region 5 with (refine⟨trivial,?_⟩;gi_at_call 73;go_must (refine(CallsIn.inRound l1 (callsIn_wide.2 CF.out)).mono ?_;rintro e w3 ⟨u,rfl,ho,hf⟩;obtain⟨au,cu,rfl⟩:=own_shape ho;have HO:=Lib.hid ho;have HF3:=Lib.hid hf;clear ho hf CF z0 z1 z2 z3))
  have HJ3:Hid (J (cat (spN s (N.map Prod.fst)) k ++ (spN s (N.map Prod.fst) k).take 0) w3):=Lib.hid (by rw[List.take_zero,List.append_nil];exact HJ.out _ _ _ HI2.out.1 (HF3.out.bk _))
  have HKC3:Hid (Kc (fun _=>True) w2.heap.size Wq w3):=Lib.hid (Kc.frm HF3.out)
  gi_loopw [16] (fun s16 wr=>∃ j:Nat,s16=.int .i64 j∧j≤n∧J (cat (spN s (N.map Prod.fst)) k ++ (spN s (N.map Prod.fst) k).take j) wr∧Kc (fun _=>True) w2.heap.size Wq wr∧wr.ownsRow Wq.heap.size 33 3 (.slice au n cu) n (suC L)∧wr.heap[yq]?=some (.cells #[.func (.yield l) #[] #[]] 179 (0,0))∧wr.heap[bx]?=some (.cells #[.pointer (some ⟨pb,0,none⟩)] 122 (0,0))) (fun s16 _=>n - (intOf s16).toNat)
  case atStart=>exact⟨0,rfl,Nat.zero_le _,HJ3.out,HKC3.out,HO.out,HF3.out.at HI2.out.2.1 (by simp),HF3.out.at HI2.out.2.2 (by simp)⟩
  case round =>
   obtain⟨j,rfl,hj,hjj,hkc,how,hq,hbx⟩:=hrel
   have HJ4:=Lib.hid hjj;have HKC4:=Lib.hid hkc;have HOW:=Lib.hid how;have HQ4:=Lib.hid hq;have HBX4:=Lib.hid hbx
   clear hjj hkc how hq hbx
   by_cases hlt:j < n
   ·have hlt':(j:Int) < (n:Int):=by omega
    obtain⟨x,hx⟩:∃ x,L[j]?=some x:=⟨_,List.getElem?_eq_getElem (by rw[HN.out];exact hlt)⟩
    have hown:wr.ownsRow Wq.heap.size 33 3 (.slice au L.length cu) L.length (suC L):=by rw[HN.out];exact HOW.out
    obtain⟨g,o,cu',eg,hsu⟩:=(su_arr hown).at hx
    cases eg
    obtain⟨x0,x1,x2⟩:=hsu
    have hspj:(spN s (N.map Prod.fst) k)[j]?=some (k,x):=by rw[HSP.out,List.getElem?_map,hx];rfl
    obtain⟨rest9,hsplit⟩:=cat_part hspj (n:=N.length) HLT.out
    have hsplit':allSp s (N.map Prod.fst)=(cat (spN s (N.map Prod.fst)) k ++ (spN s (N.map Prod.fst) k).take j) ++ (k,x) :: rest9:=by
     rw[allSp_cat,List.length_map];exact hsplit
    have HSPL:=Lib.hid hsplit'
    have HSN:=Lib.hid (take_snoc' hspj).1
    have HFA:Hid (Frm [] wr (wr.alloc (.cells #[.int .i64 x.role,.int .i64 x.peer,.string x.msg] 33))):=Lib.hid ((Frm.refl _ _).alloc _)
    have hB4:B≤(wr.alloc (.cells #[.int .i64 x.role,.int .i64 x.peer,.string x.msg] 33)).heap.size:=by
     have:=HFA.out.size;have:=HKC4.out.size;have:=HSQ.out;have:=HB2.out;omega
    obtain⟨fn,tmps,assign,body,hy,hR⟩:=yieldAt_fwd (l0:=l1) (n:=1 - 1) (HY.out _ _ _ _ hB4 hsplit' (HJ.out _ _ _ HJ4.out (HFA.out.bk _)))
    have HRR:=Lib.hid hR
    have yc:=cell_of HQ4.out 0
    have yc2:=HFA.out.keep yc
    simp only[suV] at hy
    have hn64:n≤64:=by rw[← HN.out];exact HL64.out
    clear hx hown hspj hsplit hsplit' hR hB4
    gi_wp2
    refine HRR.out.mono ?_
    rintro e W3 (⟨rfl,hkc3,hJ3⟩ | ⟨rfl,hkc3,hJ3⟩)
    ·have HKW:Hid (Kc (fun _=>True) w2.heap.size Wq W3):=Lib.hid ((HKC4.out.trans (Kc.frm HFA.out)).trans ((hkc3.sub fun _ _=>trivial).low HB2.out))
     have HR3:=Lib.hid (hkc3.row (HFA.out.owns HOW.out (by simp)) hT1)
     have HQ3:=Lib.hid (hkc3.cells _ _ _ _ (HFA.out.at HQ4.out (by simp)) hT2)
     have HX3:=Lib.hid (hkc3.cells _ _ _ _ (HFA.out.at HBX4.out (by simp)) hT3)
     have HJ5:=Lib.hid hJ3
     clear hJ3 hkc3
     gi_wp2
     go_roundw
     case rel=>exact⟨j + 1,by go_num,hlt,by rw[HSN.out,← List.append_assoc];exact HJ5.out,HKW.out,HR3.out,HQ3.out,HX3.out⟩
     case measure=>simp[intOf];omega
    ·have HKW:Hid (Kc (fun _=>True) w2.heap.size Wq W3):=Lib.hid ((HKC4.out.trans (Kc.frm HFA.out)).trans (hkc3.low HB2.out))
     have HJ5:=Lib.hid hJ3
     clear hJ3 hkc3
     gi_wp2
     exact⟨HKW.out,rfl,_,_,_,HSPL.out,HJ5.out⟩
   ·obtain rfl:n=j:=by omega
    have hge:¬ (n:Int) < (n:Int):=by omega
    have HJ5:Hid (J (cat (spN s (N.map Prod.fst)) (pre ++ [(k,d.2)]).length) wr):=Lib.hid (by
     have h1:=HJ4.out
     rw[List.take_of_length_le (by rw[HSP.out,List.length_map,HN.out];exact Nat.le_refl _)] at h1
     rw[List.length_append,HK.out]
     exact h1)
    gi_wp2
    exact⟨HKC4.out,HJ5.out,HQ4.out,HBX4.out⟩
 ·intro D V hD hI hK
  have HJ5:Hid (J (allSp s (N.map Prod.fst)) V):=Lib.hid (by
   have h1:=hI.1
   rw[numL_length,List.length_map] at h1
   rw[allSp_cat,List.length_map]
   exact h1)
  have HKD:=Lib.hid hK
  have HDB:Hid (B≤D):=Lib.hid (by have:=HB2.out;omega)
  clear hI hK hD
  go_wp2
  exact leaves_mark HKD.out ⟨.tuple #[],results_none rfl _ _ _,⟨_,rfl⟩,.inl (HJ.out _ _ _ HJ5.out (Bk.putObj V _ HKD.out rfl HDB.out))⟩
 ·intro D c pre x rest V hxs hD hX hK
  obtain⟨rfl,p9,x9,rest9,h9,hj9⟩:=hX
  have HKD:=Lib.hid hK;have HJ9:=Lib.hid hj9;have HS9:=Lib.hid h9
  have HDB:Hid (B≤D):=Lib.hid (by have:=HB2.out;omega)
  clear hK hD hj9 h9 hxs
  go_wp2
  exact leaves_mark HKD.out ⟨.tuple #[],results_none rfl _ _ _,⟨_,rfl⟩,.inr ⟨p9,x9,rest9,HS9.out,HJx.out _ _ _ HJ9.out (Bk.putObj V _ HKD.out rfl HDB.out)⟩⟩
end Go.Proofs.YtohfkhjlnlahdaaGreat
