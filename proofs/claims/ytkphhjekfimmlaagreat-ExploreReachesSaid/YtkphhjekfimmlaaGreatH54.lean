/- Part of the proof. -/
import Derived.Test.YtkphhjekfimmlaaGreatH51
import Derived.Test.YtkphhjekfimmlaaGreatH50
import Derived.Test.YtkphhjekfimmlaaGreatH47
import Derived.Test.YtkphhjekfimmlaaGreatH37
set_option linter.all false
namespace Go.Proofs.YtkphhjekfimmlaaGreat
open Go.RowKit Go.BigFrame Go.Maps
theorem given_no {v:Value} {s:SesD} {w:World} (h:SesV w v s) (hs:WfS s) (hg:gvB s=false):Calls Tryz.prog 30 #[v] w (RetV fun u w'=>u=.tuple #[.pointer none,.bool false]∧Frm [] w w'):=
 (given_any v s w h hs).mono (by
  rintro e w' ⟨u,rfl,hf,⟨-,rfl⟩ | ⟨h1,-⟩⟩
  ·exact⟨_,rfl,rfl,hf⟩
  ·rw[hg] at h1;cases h1)
theorem given_yes {v:Value} {s:SesD} {w:World} (h:SesV w v s) (hs:WfS s) (hg:gvB s=true):Calls Tryz.prog 30 #[v] w (RetV fun u w'=>∃ yb fb,u=.tuple #[.pointer (some ⟨yb,0,none⟩),.bool true]∧SyR w' s yb fb∧Frm [] w w'):=
 (given_any v s w h hs).mono (by
  rintro e w' ⟨u,rfl,hf,⟨h1,-⟩ | ⟨-,yb,fb,rfl,hy⟩⟩
  ·rw[hg] at h1;cases h1
  ·exact⟨_,rfl,yb,fb,rfl,hy,hf⟩)
theorem gv_ok {s:SesD} (h:gvB s=true):SesOk s:=by
 unfold gvB at h
 rw[Bool.and_eq_true] at h
 exact ses_ok (of_decide_eq_true h.2)
section
variable {W:World} {s:SesD} {yb pb:Nat} {whole:Bool} {N:List (Nd × Nat)}
theorem xLen_eq (h:SpO W s yb whole pb N):Calls Tryz.prog 35 #[.pointer (some ⟨pb,0,none⟩)] W (Ret (.int .i64 (N.length:Nat)) (W=·)):=by
 have C1:=Lib.hid (xNone_any h)
 obtain⟨qb,mb,lim,ao,cap,h1,h2,-⟩:=h.out
 have c0:=cell_of h1 0
 have c2:=cell_of h2 2
 clear h1 h2 h
 go_enter Tryz.func35,Tryz.ntmps35
 go_wp2_with (first
  | (go_at_call 94;go_must (refine C1.out.mono ?_;rintro e w' ⟨rfl,rfl⟩)))
 go_ret
 exact⟨rfl,rfl⟩
theorem xWhole_eq (h:SpO W s yb whole pb N):Calls Tryz.prog 36 #[.pointer (some ⟨pb,0,none⟩)] W (Ret (.bool whole) (W=·)):=by
 have C1:=Lib.hid (xNone_any h)
 obtain⟨qb,mb,lim,ao,cap,h1,h2,-⟩:=h.out
 have c0:=cell_of h1 0
 have c1:=cell_of h2 1
 clear h1 h2 h
 go_enter Tryz.func36,Tryz.ntmps36
 go_wp2_with (first
  | (go_at_call 94;go_must (refine C1.out.mono ?_;rintro e w' ⟨rfl,rfl⟩)))
 go_ret
 exact⟨rfl,rfl⟩
end
theorem pKey_ret (s:SesD) (yb fb sb:Nat) (x:PS) (w:World) (h:SyR w s yb fb) (hx:StR w s yb sb x):Calls Tryz.prog 22 #[.pointer (some ⟨sb,0,none⟩)] w (Ret (.string (keyS s x)) (Frm [] w)):=
 (pKey_any s yb fb sb x w h hx).mono (by
  rintro e w' ⟨v,rfl,rfl,hf⟩
  exact⟨rfl,hf⟩)
theorem follow_bad {s:SesD}:∀ {L:List Mv} {x0 x z:PS} {i:Nat} {m:Mv},follow s x0 L=some z→follow s x0 (L.take i)=some x→L[i]?=some m→m∈movesP s x:=by
 intro L x0 x z i m h1 h2 h3
 have e:L=L.take i ++ (m :: L.drop (i + 1)):=by
  have hi:=lt_of_some h3
  have h4:L[i]=m:=by rw[List.getElem?_eq_getElem hi] at h3;exact Option.some.inj h3
  rw[← h4,← List.drop_eq_getElem_cons hi]
  exact(List.take_append_drop i L).symm
 rw[e,follow_append,h2] at h1
 have h1':follow s x (m :: L.drop (i + 1))=some z:=h1
 rw[follow] at h1'
 by_cases hm:m∈movesP s x
 ·exact hm
 ·rw[if_neg hm] at h1';cases h1'
theorem follow_yes {s:SesD} {yb fb:Nat} {v:Value} {L:List Mv} {w:World} {z:PS} (h:SyR w s yb fb) (ha:Arr 4 MvAt w v L) (hL:L.length≤1000000) (hz:follow s (firstP s) L=some z) :
  Calls Tryz.prog 46 #[.pointer (some ⟨yb,0,none⟩),v] w (RetV fun u w'=>∃ zb,u=.tuple #[.pointer (some ⟨zb,0,none⟩),.int .i64 (L.length:Nat),.int .i64 0]∧StR w' s yb zb z∧Frm [] w w'):=
 (xFollow_any s yb fb v L w h ha hL).mono (by
  rintro e w' ⟨u,rfl,hf,⟨z',zb,h1,rfl,h2⟩ | ⟨i,x,m,h1,h2,h3,-⟩⟩
  ·rw[hz] at h1;cases h1
   exact⟨_,rfl,zb,rfl,h2,hf⟩
  ·exact absurd (follow_bad hz h1 h2) h3)
theorem num34_f (e:Int) (W:World):Calls Tryz.prog 34 #[.int .i64 e] W (Ret (.int .i64 e) (Frm [] W)):=
 (num34_any e W).mono (by rintro e w' ⟨rfl,rfl⟩;exact⟨rfl,Frm.refl _ _⟩)
theorem find_hit {W:World} {s:SesD} {yb pb j:Nat} {whole:Bool} {N:List (Nd × Nat)} (h:SpO W s yb whole pb N) (x:PS) (hk:(keyS s x).size≤maxLen) (hj:findP s (N.map Prod.fst) (keyP s x)=some j) :
  Calls Tryz.prog 42 #[.pointer (some ⟨pb,0,none⟩),.string (keyS s x)] W (Ret (.tuple #[.int .i64 (j:Nat),.int .i64 0]) (Frm [] W)):=by
 have:=xFind_any h (keyS s x) hk
 unfold fndV at this
 rw[keyS_list,hj] at this
 exact this
theorem find_miss {W:World} {s:SesD} {yb pb:Nat} {whole:Bool} {N:List (Nd × Nat)} (h:SpO W s yb whole pb N) (x:PS) (hk:(keyS s x).size≤maxLen) (hj:findP s (N.map Prod.fst) (keyP s x)=none) :
  Calls Tryz.prog 42 #[.pointer (some ⟨pb,0,none⟩),.string (keyS s x)] W (Ret (.tuple #[.int .i64 0,.int .i64 9]) (Frm [] W)):=by
 have:=xFind_any h (keyS s x) hk
 unfold fndV at this
 rw[keyS_list,hj] at this
 exact this
theorem some_map {α β:Type} {f:α→β} {L:List α} {i:Nat} {y:β} (h:(L.map f)[i]?=some y):∃ x,L[i]?=some x∧f x=y:=by
 rw[List.getElem?_map] at h
 cases hz:L[i]? with
 | none=>rw[hz] at h;cases h
 | some z=>rw[hz] at h;exact⟨z,rfl,Option.some.inj h⟩
theorem trc_len {N:List Nd}:∀ (f n:Nat),(trc N f n).length≤f
 | 0,_=>Nat.le_refl _
 | f + 1,n=>by
   unfold trc
   split
   ·exact Nat.zero_le _
   ·split
    ·exact Nat.zero_le _
    ·rw[List.length_append,List.length_singleton]
     have:=trc_len (N:=N) f
     exact Nat.succ_le_succ (this _)
def lastL (N:List (Nd × Nat)):Nat→Nat
 | 0=>0
 | k + 1=>((N[k]?).map fun d=>d.1.lvl).getD 0
theorem lastL_up {N:List (Nd × Nat)} {k:Nat} {d:Nd × Nat} (h:N[k]?=some d):lastL N (k + 1)=d.1.lvl:=by
 show ((N[k]?).map fun d=>d.1.lvl).getD 0=_
 rw[h];rfl
theorem lastL_le {s:SesD} {lim n:Nat} {N:List (Nd × Nat)} (h:SI s lim n (N.map Prod.fst)) {k:Nat} {d:Nd × Nat} (hd:N[k]?=some d):lastL N k≤d.1.lvl:=by
 cases k with
 | zero=>exact Nat.zero_le _
 | succ k =>
   have hk:k < N.length:=by have:=lt_of_some hd;omega
   obtain⟨e,he⟩:∃ e,N[k]?=some e:=⟨_,List.getElem?_eq_getElem hk⟩
   rw[lastL_up he]
   exact h.mono k (k + 1) e.1 d.1 (by rw[List.getElem?_map,he];rfl) (by rw[List.getElem?_map,hd];rfl) (by omega)
attribute [local go_sem] Oper.semAt_some
set_option maxHeartbeats 0 in
set_option maxRecDepth 100000 in
theorem reaches_any (v:Value) (s:SesD) (lim:Int) (w:World) (h:SesV w v s) (hw:WfS s):Calls Tryz.prog 9 #[v,.int .i64 lim] w (Ret (.bool true) (Frm [] w)):=by
 have HSV:=Lib.hid h
 obtain⟨rv,rfl,hr⟩:=h
 obtain⟨ao,cap,rfl⟩:=hr.shape
 obtain⟨n,hn⟩:∃ n,s.roles.length=n:=⟨_,rfl⟩
 rw[hn] at HSV ⊢
 obtain⟨W0,hW0⟩:∃ W0,(w.alloc (.cells #[.string s.name,.slice ao n cap,.int .i64 s.cls,.int .i64 s.cap] 25)).alloc (.cells #[.bool false] 4)=W0:=⟨_,rfl⟩
 have hf0:Frm [] w W0:=by rw[← hW0];exact((Frm.refl _ _).alloc _).alloc _
 have HF0:=Lib.hid hf0
 have hb0:W0.heap[w.heap.size]?=some (.cells #[.string s.name,.slice ao n cap,.int .i64 s.cls,.int .i64 s.cap] 25 (0,0)):=by rw[← hW0];exact alloc_at (heap_alloc_new _ _)
 have hb2:W0.heap[w.heap.size + 1]?=some (.cells #[.bool false] 4 (0,0)):=by rw[← hW0];exact alloc_top (by simp)
 have HB0:=Lib.hid hb0
 have HB2:=Lib.hid (fun V (hV:Frm [] W0 V)=>hV.at hb2 (by simp))
 have CK:Hid (∀ V,Calls Tryz.prog 31 #[] V (Ret (.bool true) (Frm [] V))):=Lib.hid known34_any
 have HE:=Lib.hid hW0
 have HG:=Lib.hid (fun h1=>given_no (HSV.out.frm hf0) hw h1)
 have HY:=Lib.hid (fun h1=>given_yes (HSV.out.frm hf0) hw h1)
 clear hr hw hf0 hb0 hb2 hW0 hn
 refine calls_of_marks Tryz.func9 rfl ?_
 simp only[Tryz.ntmps9,List.size_toArray,List.length_cons,List.length_nil,Nat.reduceAdd,Nat.reduceSub,Array.replicate_succ,Array.replicate_zero,List.push_toArray,List.append_toArray,List.nil_append,List.cons_append]
 go_upto_region 1 with fail
 rw[HE.out]
 clear HE
 cases hg:gvB s with
 | false =>
   have CG:=Lib.hid (HG.out hg)
   clear hg HG HY
   go_wp2_with (first
    | (refine wpList_load_whole rfl 25 _ rfl _ rfl _ 25 HB0.out _ Tryz.underlying25 rfl (by kernel_rfl) ?_)
    | (go_at_call 30;go_must (refine CG.out.mono ?_;rintro e w1 ⟨u,rfl,rfl,hf1⟩;have HF1:=Lib.hid hf1;clear hf1))
    | (go_at_call 31;go_must (refine(CK.out _).mono ?_;rintro e wk ⟨rfl,hf'⟩;have HFK:Hid (Frm [] W0 wk):=Lib.hid ((HF1.out.alloc _).trans hf');have c4:=cell_of (HB2.out _ HFK.out) 0;have f4:=free_of (HB2.out _ HFK.out) 0;clear hf')))
   exact law_end (ds:=[]) (HF0.out.trans HFK.out) (HB2.out _ HFK.out) (by omega) (Ms.nil _ _)
 | true =>
   have CG:=Lib.hid (HY.out hg)
   have HOK:=Lib.hid (gv_ok hg)
   clear hg HG HY
   by_cases hl:lim < 1∨60 < lim
   ·by_cases hl1:lim < 1
    ·go_wp2_with (first
      | (refine wpList_load_whole rfl 25 _ rfl _ rfl _ 25 HB0.out _ Tryz.underlying25 rfl (by kernel_rfl) ?_)
      | (go_at_call 30;go_must (refine CG.out.mono ?_;rintro e w1 ⟨u,rfl,yb,fb,rfl,hsy,hf1⟩;have HF1:=Lib.hid hf1;clear hf1 hsy))
      | (go_at_call 31;go_must (refine(CK.out _).mono ?_;rintro e wk ⟨rfl,hf'⟩;have HFK:Hid (Frm [] W0 wk):=Lib.hid ((HF1.out.alloc _).trans hf');have c4:=cell_of (HB2.out _ HFK.out) 0;have f4:=free_of (HB2.out _ HFK.out) 0;clear hf')))
     exact law_end (ds:=[]) (HF0.out.trans HFK.out) (HB2.out _ HFK.out) (by omega) (Ms.nil _ _)
    ·have hl2:60 < lim:=hl.resolve_left hl1
     have hd1:decide (lim < 1)=false:=decide_eq_false hl1
     have hd2:decide (60 < lim)=true:=decide_eq_true hl2
     clear hl
     go_wp2_with (first
      | (refine wpList_load_whole rfl 25 _ rfl _ rfl _ 25 HB0.out _ Tryz.underlying25 rfl (by kernel_rfl) ?_)
      | (go_at_call 30;go_must (refine CG.out.mono ?_;rintro e w1 ⟨u,rfl,yb,fb,rfl,hsy,hf1⟩;have HF1:=Lib.hid hf1;clear hf1 hsy))
      | (go_at_call 31;go_must (refine(CK.out _).mono ?_;rintro e wk ⟨rfl,hf'⟩;have HFK:Hid (Frm [] W0 wk):=Lib.hid ((HF1.out.alloc _).trans hf');have c4:=cell_of (HB2.out _ HFK.out) 0;have f4:=free_of (HB2.out _ HFK.out) 0;clear hf')))
     exact law_end (ds:=[]) (HF0.out.trans HFK.out) (HB2.out _ HFK.out) (by omega) (Ms.nil _ _)
   ·obtain⟨m,rfl⟩:∃ m:Nat,lim=(m:Int):=⟨lim.toNat,by omega⟩
    have hm1:¬ ((m:Int) < 1):=by omega
    have hm2:¬ (60 < (m:Int)):=by omega
    have hd1:decide ((m:Int) < 1)=false:=decide_eq_false hm1
    have hd2:decide (60 < (m:Int))=false:=decide_eq_false hm2
    clear hl
    go_upto_region 4 with (first
     | (refine wpList_load_whole rfl 25 _ rfl _ rfl _ 25 HB0.out _ Tryz.underlying25 rfl (by kernel_rfl) ?_)
     | (go_at_call 30;go_must (refine CG.out.mono ?_;rintro e w1 ⟨u,rfl,yb,fb,rfl,hsy,hf1⟩;have HF1:=Lib.hid hf1;have HSY1:=Lib.hid hsy;clear hf1 hsy)))
    have HY1:Hid ((w1.alloc (.cells #[.pointer (some ⟨yb,0,none⟩)] 29)).heap[w1.heap.size]?=some (.cells #[.pointer (some ⟨yb,0,none⟩)] 29 (0,0))):=Lib.hid (heap_alloc_new _ _)
    have hf2:Frm [] W0 (w1.alloc (.cells #[.pointer (some ⟨yb,0,none⟩)] 29)):=HF1.out.alloc _
    have hsy2:SyR (w1.alloc (.cells #[.pointer (some ⟨yb,0,none⟩)] 29)) s yb fb:=HSY1.out.frm ((Frm.refl _ _).alloc _)
    obtain⟨w2,hw2⟩:∃ x,w1.alloc (.cells #[.pointer (some ⟨yb,0,none⟩)] 29)=x:=⟨_,rfl⟩
    obtain⟨yB,hyB⟩:∃ b,w1.heap.size=b:=⟨_,rfl⟩
    rw[hw2,hyB] at HY1
    rw[hw2] at hf2 hsy2
    rw[hw2,hyB]
    have HF2:=Lib.hid hf2;have HSY2:=Lib.hid hsy2
    have y0:=cell_of HY1.out 0
    have CS:=Lib.hid (xSearch_any s yb fb m w2 hsy2 (by omega) (by omega))
    have HM:Hid (1≤m∧m≤60):=Lib.hid (by omega)
    clear hf2 hsy2 hw2 hyB HF1 HSY1 CG hm1 hm2 hd1 hd2
    go_upto_region 5 with (first
     | (go_at_call 32;go_must (refine CS.out.mono ?_;rintro e w3 ⟨v,rfl,pb,N,rfl,hsp,hN,hf⟩;have HSP:=Lib.hid hsp;have HN:=Lib.hid hN;have HF3:=Lib.hid (HF2.out.trans hf);have HF23:=Lib.hid hf;clear hsp hN hf CS)))
    have hf4:Frm [] w3 (w3.alloc (.cells #[.pointer (some ⟨pb,0,none⟩)] 82)):=(Frm.refl _ _).alloc _
    have hp4:(w3.alloc (.cells #[.pointer (some ⟨pb,0,none⟩)] 82)).heap[w3.heap.size]?=some (.cells #[.pointer (some ⟨pb,0,none⟩)] 82 (0,0)):=heap_alloc_new _ _
    obtain⟨W4,hW4⟩:∃ x,w3.alloc (.cells #[.pointer (some ⟨pb,0,none⟩)] 82)=x:=⟨_,rfl⟩
    obtain⟨pB,hpB⟩:∃ b,w3.heap.size=b:=⟨_,rfl⟩
    rw[hW4] at hf4 hp4
    rw[hpB] at hp4
    rw[hW4,hpB]
    have HP4:Hid (∀ V,Frm [] W4 V→V.cell? ⟨pB,0,none⟩=some (.pointer (some ⟨pb,0,none⟩))):=Lib.hid fun V hV=>hV.keep (cell_of hp4 0)
    have HY4:Hid (∀ V,Frm [] W4 V→V.cell? ⟨yB,0,none⟩=some (.pointer (some ⟨yb,0,none⟩))):=Lib.hid fun V hV=>(HF23.out.trans (hf4.trans hV)).keep (cell_of HY1.out 0)
    have HSY4:Hid (SyR W4 s yb fb):=Lib.hid (HSY2.out.frm (HF23.out.trans hf4))
    have HSP4:Hid (SpO W4 s yb (searchP s m).2 pb N):=Lib.hid (HSP.out.frm hf4)
    have HF4:Hid (Frm [] W0 W4):=Lib.hid (HF3.out.trans hf4)
    obtain⟨nn,hfo⟩:=search_ok (lim:=m) HOK.out (by have:=HM.out;omega)
    have hN:=HN.out
    obtain⟨R,hR⟩:∃ R,searchP s m=R:=⟨_,rfl⟩
    rw[hR] at hfo hN HSP4
    obtain⟨R1,whole⟩:=R
    have hN':N.map Prod.fst=R1:=hN
    subst hN'
    have HFO:=Lib.hid hfo
    have hlen1:1≤N.length:=by
     have:=lt_of_some hfo.one
     rw[List.length_map] at this
     omega
    have hlen2:N.length≤m:=by
     have:=hfo.top
     rw[List.length_map] at this
     omega
    have HL:Hid (1≤N.length∧N.length≤m):=Lib.hid ⟨hlen1,hlen2⟩
    have hl1:¬ (N.length:Int) < 1:=by omega
    have hl2:¬ (m:Int) < (N.length:Int):=by omega
    have hl3:¬ (m:Int) < 1:=by omega
    have hd1:decide ((N.length:Int) < 1)=false:=decide_eq_false hl1
    have hd2:decide (m < N.length)=false:=decide_eq_false (by omega)
    have hd3:decide ((m:Int) < 1)=false:=decide_eq_false hl3
    have CL:=Lib.hid (xLen_eq HSP4.out)
    have CW:=Lib.hid (xWhole_eq HSP4.out)
    have p0:=HP4.out _ (Frm.refl _ _)
    have HCT:Hid (whole=false→(N.length:Int)=(m:Int)):=Lib.hid fun h=>by
     have:=(hfo.cut h).1
     rw[List.length_map] at this
     omega
    clear hf4 hp4 hW4 hpB HY1 HSY2 HF2 HF3 HF23 HSP hfo hN hR HN hlen1 hlen2 y0
    go_cut [79] from 51 to 79 (fun s79 wc=>s79=.bool false∧wc=W4)
    case first =>
     cases whole with
     | true =>
       go_wp2_with (first
        | (go_at_call 34;go_must (refine(num34_any _ _).mono ?_;rintro e w' ⟨rfl,rfl⟩))
        | (go_at_call 35;go_must (refine CL.out.mono ?_;rintro e w' ⟨rfl,rfl⟩))
        | (go_at_call 36;go_must (refine CW.out.mono ?_;rintro e w' ⟨rfl,rfl⟩)))
       go_meet
       exact⟨rfl,rfl⟩
     | false =>
       have hlm:=HCT.out rfl
       go_wp2_with (first
        | (go_at_call 34;go_must (refine(num34_any _ _).mono ?_;rintro e w' ⟨rfl,rfl⟩))
        | (go_at_call 35;go_must (refine CL.out.mono ?_;rintro e w' ⟨rfl,rfl⟩))
        | (go_at_call 36;go_must (refine CW.out.mono ?_;rintro e w' ⟨rfl,rfl⟩)))
       go_meet
       exact⟨rfl,rfl⟩
    case rest =>
    obtain⟨rfl,rfl⟩:=hcut
    go_upto_region 9 with fail
    clear CL CW p0 hl1 hl2 hl3 hd1 hd2 hd3 HCT
    refine wp_loop (fun a' w'=>∃ ds,∃ u9 u10 u11 u12 u13 u14 u15 u16 u17 u18 u19 u20 u22 u23 u24 u25 u26 u27 u28 u80 u81 u82 u83 u84 u85 u86 u87 u88 u89 u90 u91 u92 u93 u94 u95 u96 u97 u98 u99 u100 u101 u102 u103 u104 u105 u106 u107 u108 u109 u110 u111 u112 u113 u114 u115 u116 u117 u118 u119 u120 u121 u122 u123 u124 u125 u126 u127 u128 u129 u130 u131 u132 u133 u134 u135 u136 u137 u138 u139 u140 u141 u142 u143 u144 u145 u146 u147 u148 u149 u150 u151 u152 u153 u154 u155 u156 u157 u158 u159 u160 u161 u162 u163 u164 u165 u166 u167 u168 u169 u170 u171 u172 u173 u174 u175 u176 u177 u178 u179 u180 u181 u182 u183 u184 u185 u186 u187 u188 u189 u190 u191 u192 u193 u194 u195 u196 u197 u198 u199 u200 u201 u202 u203 u204 u205 u206 u207:Value,(fun ds u10 w'=>∃ k:Nat,u10=.int .i64 (k:Int)∧u9=.int .i64 (lastL N k:Nat)∧k≤N.length∧Frm [] wc w'∧Ms w ds w') ds u10 w'∧a'={ tmps:=#[.agg #[.string s.name,.slice ao n cap,.int .i64 s.cls,.int .i64 s.cap],.int .i64 (m:Int),.pointer (some ⟨w.heap.size,0,none⟩),undef,.pointer (some ⟨w.heap.size + 1,0,none⟩),.pointer (some ⟨yB,0,none⟩),.bool true,.pointer (some ⟨pB,0,none⟩),.int .i64 0,u9,u10,u11,u12,u13,u14,u15,u16,u17,u18,u19,u20,undef,u22,u23,u24,u25,u26,u27,u28,.tuple #[.pointer (some ⟨yb,0,none⟩),.bool true],.agg #[.string s.name,.slice ao n cap,.int .i64 s.cls,.int .i64 s.cap],.tuple #[.pointer (some ⟨yb,0,none⟩),.bool true],.pointer (some ⟨yb,0,none⟩),.bool true,.bool true,.bool false,.bool false,.int .i64 (m:Int),.bool false,.bool false,.bool false,.int .i64 (m:Int),.bool false,.bool false,undef,.tuple #[.pointer (some ⟨pb,0,none⟩),.int .i64 0],.pointer (some ⟨yb,0,none⟩),.int .i64 (m:Int),.tuple #[.pointer (some ⟨pb,0,none⟩),.int .i64 0],.pointer (some ⟨pb,0,none⟩),.int .i64 0,u51,u52,u53,u54,u55,u56,u57,u58,u59,u60,u61,u62,u63,u64,u65,u66,u67,u68,u69,u70,u71,u72,u73,u74,u75,u76,u77,u78,.bool false,u80,u81,u82,u83,u84,u85,u86,u87,u88,u89,u90,u91,u92,u93,u94,u95,u96,u97,u98,u99,u100,u101,u102,u103,u104,u105,u106,u107,u108,u109,u110,u111,u112,u113,u114,u115,u116,u117,u118,u119,u120,u121,u122,u123,u124,u125,u126,u127,u128,u129,u130,u131,u132,u133,u134,u135,u136,u137,u138,u139,u140,u141,u142,u143,u144,u145,u146,u147,u148,u149,u150,u151,u152,u153,u154,u155,u156,u157,u158,u159,u160,u161,u162,u163,u164,u165,u166,u167,u168,u169,u170,u171,u172,u173,u174,u175,u176,u177,u178,u179,u180,u181,u182,u183,u184,u185,u186,u187,u188,u189,u190,u191,u192,u193,u194,u195,u196,u197,u198,u199,u200,u201,u202,u203,u204,u205,u206,u207,undef,undef,undef,undef,undef,undef,undef],defers:=marks ds }) (fun a' _=>N.length - (intOf (a'.tmps.getD 10 undef)).toNat) ?_ ?_
    ·refine⟨[],?_⟩
     (repeat apply Exists.intro)
     exact⟨⟨0,rfl,rfl,Nat.zero_le _,Frm.refl _ _,Ms.nil _ _⟩,rfl⟩
    intro a' wr hinv
    obtain⟨ds,hinv⟩:=hinv
    obtain⟨u9,hinv⟩:=hinv
    obtain⟨u10,hinv⟩:=hinv
    obtain⟨u11,hinv⟩:=hinv
    obtain⟨u12,hinv⟩:=hinv
    obtain⟨u13,hinv⟩:=hinv
    obtain⟨u14,hinv⟩:=hinv
    obtain⟨u15,hinv⟩:=hinv
    obtain⟨u16,hinv⟩:=hinv
    obtain⟨u17,hinv⟩:=hinv
    obtain⟨u18,hinv⟩:=hinv
    obtain⟨u19,hinv⟩:=hinv
    obtain⟨u20,hinv⟩:=hinv
    obtain⟨u22,hinv⟩:=hinv
    obtain⟨u23,hinv⟩:=hinv
    obtain⟨u24,hinv⟩:=hinv
    obtain⟨u25,hinv⟩:=hinv
    obtain⟨u26,hinv⟩:=hinv
    obtain⟨u27,hinv⟩:=hinv
    obtain⟨u28,hinv⟩:=hinv
    obtain⟨u80,hinv⟩:=hinv
    obtain⟨u81,hinv⟩:=hinv
    obtain⟨u82,hinv⟩:=hinv
    obtain⟨u83,hinv⟩:=hinv
    obtain⟨u84,hinv⟩:=hinv
    obtain⟨u85,hinv⟩:=hinv
    obtain⟨u86,hinv⟩:=hinv
    obtain⟨u87,hinv⟩:=hinv
    obtain⟨u88,hinv⟩:=hinv
    obtain⟨u89,hinv⟩:=hinv
    obtain⟨u90,hinv⟩:=hinv
    obtain⟨u91,hinv⟩:=hinv
    obtain⟨u92,hinv⟩:=hinv
    obtain⟨u93,hinv⟩:=hinv
    obtain⟨u94,hinv⟩:=hinv
    obtain⟨u95,hinv⟩:=hinv
    obtain⟨u96,hinv⟩:=hinv
    obtain⟨u97,hinv⟩:=hinv
    obtain⟨u98,hinv⟩:=hinv
    obtain⟨u99,hinv⟩:=hinv
    obtain⟨u100,hinv⟩:=hinv
    obtain⟨u101,hinv⟩:=hinv
    obtain⟨u102,hinv⟩:=hinv
    obtain⟨u103,hinv⟩:=hinv
    obtain⟨u104,hinv⟩:=hinv
    obtain⟨u105,hinv⟩:=hinv
    obtain⟨u106,hinv⟩:=hinv
    obtain⟨u107,hinv⟩:=hinv
    obtain⟨u108,hinv⟩:=hinv
    obtain⟨u109,hinv⟩:=hinv
    obtain⟨u110,hinv⟩:=hinv
    obtain⟨u111,hinv⟩:=hinv
    obtain⟨u112,hinv⟩:=hinv
    obtain⟨u113,hinv⟩:=hinv
    obtain⟨u114,hinv⟩:=hinv
    obtain⟨u115,hinv⟩:=hinv
    obtain⟨u116,hinv⟩:=hinv
    obtain⟨u117,hinv⟩:=hinv
    obtain⟨u118,hinv⟩:=hinv
    obtain⟨u119,hinv⟩:=hinv
    obtain⟨u120,hinv⟩:=hinv
    obtain⟨u121,hinv⟩:=hinv
    obtain⟨u122,hinv⟩:=hinv
    obtain⟨u123,hinv⟩:=hinv
    obtain⟨u124,hinv⟩:=hinv
    obtain⟨u125,hinv⟩:=hinv
    obtain⟨u126,hinv⟩:=hinv
    obtain⟨u127,hinv⟩:=hinv
    obtain⟨u128,hinv⟩:=hinv
    obtain⟨u129,hinv⟩:=hinv
    obtain⟨u130,hinv⟩:=hinv
    obtain⟨u131,hinv⟩:=hinv
    obtain⟨u132,hinv⟩:=hinv
    obtain⟨u133,hinv⟩:=hinv
    obtain⟨u134,hinv⟩:=hinv
    obtain⟨u135,hinv⟩:=hinv
    obtain⟨u136,hinv⟩:=hinv
    obtain⟨u137,hinv⟩:=hinv
    obtain⟨u138,hinv⟩:=hinv
    obtain⟨u139,hinv⟩:=hinv
    obtain⟨u140,hinv⟩:=hinv
    obtain⟨u141,hinv⟩:=hinv
    obtain⟨u142,hinv⟩:=hinv
    obtain⟨u143,hinv⟩:=hinv
    obtain⟨u144,hinv⟩:=hinv
    obtain⟨u145,hinv⟩:=hinv
    obtain⟨u146,hinv⟩:=hinv
    obtain⟨u147,hinv⟩:=hinv
    obtain⟨u148,hinv⟩:=hinv
    obtain⟨u149,hinv⟩:=hinv
    obtain⟨u150,hinv⟩:=hinv
    obtain⟨u151,hinv⟩:=hinv
    obtain⟨u152,hinv⟩:=hinv
    obtain⟨u153,hinv⟩:=hinv
    obtain⟨u154,hinv⟩:=hinv
    obtain⟨u155,hinv⟩:=hinv
    obtain⟨u156,hinv⟩:=hinv
    obtain⟨u157,hinv⟩:=hinv
    obtain⟨u158,hinv⟩:=hinv
    obtain⟨u159,hinv⟩:=hinv
    obtain⟨u160,hinv⟩:=hinv
    obtain⟨u161,hinv⟩:=hinv
    obtain⟨u162,hinv⟩:=hinv
    obtain⟨u163,hinv⟩:=hinv
    obtain⟨u164,hinv⟩:=hinv
    obtain⟨u165,hinv⟩:=hinv
    obtain⟨u166,hinv⟩:=hinv
    obtain⟨u167,hinv⟩:=hinv
    obtain⟨u168,hinv⟩:=hinv
    obtain⟨u169,hinv⟩:=hinv
    obtain⟨u170,hinv⟩:=hinv
    obtain⟨u171,hinv⟩:=hinv
    obtain⟨u172,hinv⟩:=hinv
    obtain⟨u173,hinv⟩:=hinv
    obtain⟨u174,hinv⟩:=hinv
    obtain⟨u175,hinv⟩:=hinv
    obtain⟨u176,hinv⟩:=hinv
    obtain⟨u177,hinv⟩:=hinv
    obtain⟨u178,hinv⟩:=hinv
    obtain⟨u179,hinv⟩:=hinv
    obtain⟨u180,hinv⟩:=hinv
    obtain⟨u181,hinv⟩:=hinv
    obtain⟨u182,hinv⟩:=hinv
    obtain⟨u183,hinv⟩:=hinv
    obtain⟨u184,hinv⟩:=hinv
    obtain⟨u185,hinv⟩:=hinv
    obtain⟨u186,hinv⟩:=hinv
    obtain⟨u187,hinv⟩:=hinv
    obtain⟨u188,hinv⟩:=hinv
    obtain⟨u189,hinv⟩:=hinv
    obtain⟨u190,hinv⟩:=hinv
    obtain⟨u191,hinv⟩:=hinv
    obtain⟨u192,hinv⟩:=hinv
    obtain⟨u193,hinv⟩:=hinv
    obtain⟨u194,hinv⟩:=hinv
    obtain⟨u195,hinv⟩:=hinv
    obtain⟨u196,hinv⟩:=hinv
    obtain⟨u197,hinv⟩:=hinv
    obtain⟨u198,hinv⟩:=hinv
    obtain⟨u199,hinv⟩:=hinv
    obtain⟨u200,hinv⟩:=hinv
    obtain⟨u201,hinv⟩:=hinv
    obtain⟨u202,hinv⟩:=hinv
    obtain⟨u203,hinv⟩:=hinv
    obtain⟨u204,hinv⟩:=hinv
    obtain⟨u205,hinv⟩:=hinv
    obtain⟨u206,hinv⟩:=hinv
    obtain⟨u207,hinv⟩:=hinv
    obtain⟨hrel,ha⟩:=hinv
    subst ha
    try dsimp only
    obtain⟨k,rfl,rfl,hk,hf,hms⟩:=hrel
    have HF:=Lib.hid hf;have HMS:=Lib.hid hms
    clear hf hms
    obtain⟨wq,hwq⟩:∃ wq,wq=wr:=⟨_,rfl⟩
    subst hwq
    have p0:=HP4.out _ HF.out
    have HSPq:=Lib.hid (HSP4.out.frm HF.out)
    have CL:=Lib.hid (xLen_eq HSPq.out)
    have hw1:wrap64 ((k:Int) + 1)=((k + 1:Nat):Int):=by have:=HL.out;have:=HM.out;unfold wrap64;omega
    have HW1:=Lib.hid hw1
    clear hw1
    by_cases hlt:k < N.length
    ·have hlt':(k:Int) < (N.length:Int):=by omega
     obtain⟨d,hd⟩:∃ d,N[k]?=some d:=⟨_,List.getElem?_eq_getElem hlt⟩
     have HD:=Lib.hid hd
     have HDf:Hid ((N.map Prod.fst)[k]?=some d.1):=Lib.hid (by rw[List.getElem?_map,hd];rfl)
     have hN5:N.length≤1000000:=by have:=HL.out;have:=HM.out;omega
     have hN2:N.length≤200000:=by have:=HL.out;have:=HM.out;omega
     have CNd:=Lib.hid (fun V (hV:Frm [] wq V)=>xNode_in (HSPq.out.frm hV) hd hN5)
     obtain⟨T,hT⟩:∃ T,traceP (N.map Prod.fst) k=T:=⟨_,rfl⟩
     obtain⟨ht1,ht2⟩:=trace_leads HFO.out.toSI k d.1 HDf.out
     have CTr:=Lib.hid (fun V (hV:Frm [] wq V)=>xTrace_any (HSPq.out.frm hV) HFO.out.toSI hlt hN2)
     rw[hT] at ht1 ht2 CTr
     have HT1:=Lib.hid ht1;have HT2:=Lib.hid ht2
     have HLV:Hid (d.1.lvl≤61):=Lib.hid (by
      rw[← ht2,← hT]
      have h1:=trc_len (N:=N.map Prod.fst) (k + 1) k
      have h2:traceP (N.map Prod.fst) k=trc (N.map Prod.fst) (k + 1) k:=rfl
      rw[h2]
      have:=HL.out;have:=HM.out
      omega)
     clear hd hN5 hN2 hT ht1 ht2
     have hLa:=lastL_le HFO.out.toSI HD.out
     have HLa:=Lib.hid hLa
     clear hLa
     go_upto_region 13 with (first
      | (go_at_call 35;go_must (refine CL.out.mono ?_;rintro e w' ⟨rfl,rfl⟩))
      | (go_at_call 39;go_must (refine(xState_of (CNd.out _ (Frm.refl _ _))).mono ?_;rintro e wa ⟨rfl,hf⟩;have HFa:=Lib.hid (hf.alloc (.cells #[.pointer (some ⟨d.2,0,none⟩)] 30));have HXa:=Lib.hid (heap_alloc_new wa (.cells #[.pointer (some ⟨d.2,0,none⟩)] 30));clear hf p0;have p0:=HP4.out _ (HF.out.trans HFa.out)))
      | (go_at_call 40;go_must (refine(xLevel_of (CNd.out _ HFa.out)).mono ?_;rintro e wb ⟨rfl,hf⟩;have HFab:=Lib.hid (hf.alloc (.cells #[.int .i64 d.1.lvl] 3));have HFb:=Lib.hid (HFa.out.trans HFab.out);have HLb:=Lib.hid (heap_alloc_new wb (.cells #[.int .i64 d.1.lvl] 3));clear hf p0;have p0:=HP4.out _ (HF.out.trans HFb.out))))
     obtain⟨wB,hwB⟩:∃ x,wb.alloc (.cells #[.int .i64 d.1.lvl] 3)=x:=⟨_,rfl⟩
     obtain⟨lb,hlb⟩:∃ x,wb.heap.size=x:=⟨_,rfl⟩
     obtain⟨xb,hxb⟩:∃ x,wa.heap.size=x:=⟨_,rfl⟩
     rw[hwB] at HFab HFb HLb
     rw[hlb] at HLb
     rw[hxb] at HXa
     rw[hwB,hlb,hxb]
     have HC0:Hid (∀ V,Frm [] wB V→V.cell? ⟨xb,0,none⟩=some (.pointer (some ⟨d.2,0,none⟩))∧V.cell? ⟨lb,0,none⟩=some (.int .i64 d.1.lvl)):=Lib.hid fun V hV=>⟨(HFab.out.trans hV).keep (cell_of HXa.out 0),hV.keep (cell_of HLb.out 0)⟩
     clear p0 hwB hlb hxb HXa HLb HFab HFa
     have HFB:=Lib.hid (HF.out.trans HFb.out)
     have p0:=HP4.out _ HFB.out
     have CTr1:=Lib.hid (CTr.out wB HFb.out)
     clear CTr
     go_upto_region 15 with (first
      | (go_at_call 41;go_must (refine CTr1.out.mono ?_;rintro e wc' ⟨v,rfl,u,rfl,harr,hf⟩;obtain⟨ta,tc,rfl⟩:=harr.shape;have CFo:=Lib.hid (follow_yes (HSY4.out.frm (HFB.out.trans hf)) harr (by have:=HT2.out;have:=HLV.out;omega) HT1.out);have HFc:=Lib.hid hf;rw[HT2.out] at CFo ⊢;have y0:=HY4.out _ (HFB.out.trans hf);clear harr hf CTr1))
      | (go_at_call 46;go_must (refine CFo.out.mono ?_;rintro e wd ⟨v,rfl,zb,rfl,hst,hf⟩;have HSTz:=Lib.hid hst;have HFd:=Lib.hid (HFc.out.trans hf);clear hst hf CFo y0)))
     have HC1:Hid (∀ V,Frm [] wd V→V.cell? ⟨xb,0,none⟩=some (.pointer (some ⟨d.2,0,none⟩))∧V.cell? ⟨lb,0,none⟩=some (.int .i64 d.1.lvl)):=Lib.hid fun V hV=>HC0.out V (HFd.out.trans hV)
     have HFD:=Lib.hid (HFB.out.trans HFd.out)
     have HSYd:=Lib.hid (HSY4.out.frm HFD.out)
     have HSTd:Hid (StR wd s yb d.2 d.1.st):=Lib.hid ((HSP4.out.frm HFD.out).st d (List.mem_of_getElem? HD.out))
     have hla:decide ((d.1.lvl:Int) < (lastL N k:Int))=false:=decide_eq_false (by have:=HLa.out;omega)
     have hla2:decide (d.1.lvl < lastL N k)=false:=decide_eq_false (by have:=HLa.out;omega)
     have HQd:=Lib.hid (HFb.out.trans HFd.out)
     clear HC0 p0 HFd HFb HFc HT1 HT2
     refine wp_region_cq (by kernel_rfl) (by kernel_rfl) ?_
     repeat (first
      | go_big_quiet_skip
      | (refine wpQuiet_want (by rfl) (fun K hK=>?_)
         first
          | (refine quiet_move _ (by rfl) (hK _ ?_))
          | (refine quiet_assign _ (by rfl) (hK _ ?_))
          | (refine cq_call (.int .i64 0) 34 #[.int .i64 0] (fun w' hC=>?_) (fun w' hC=>Ret.cq (num34_f 0 w') (fun w'' h=>hC.trans h)) (hK _ ?_)
             ·go_simp)
          | (refine cq_call (.string (keyS s d.1.st)) 22 #[.pointer (some ⟨zb,0,none⟩)] (fun w' hC=>?_) (fun w' hC=>Ret.cq (pKey_ret s yb fb zb d.1.st w' (HSYd.out.frm hC) (HSTz.out.frm hC)) (fun w'' h=>hC.trans h)) (hK _ ?_)
             ·go_simp)
          | (refine cq_call (.string (keyS s d.1.st)) 22 #[.pointer (some ⟨d.2,0,none⟩)] (fun w' hC=>?_) (fun w' hC=>Ret.cq (pKey_ret s yb fb d.2 d.1.st w' (HSYd.out.frm hC) (HSTd.out.frm hC)) (fun w'' h=>hC.trans h)) (hK _ ?_)
             ·go_simp)
          | (apply Exists.intro
             refine⟨fun w' hC=>?_,hK _ ?_⟩
             ·(unfold Oper.quietAt
               obtain⟨x0,l0⟩:=HC1.out w' hC
               clear hC
               go_simp
               try exact⟨rfl,rfl⟩
               try rfl))
         clear hK K
         try simp only[nrm,Act.eval,nrq]))
     refine wpQuiet_nil ?_
     intro we HFe
     replace HFe:=Lib.hid HFe
     clear hla hla2 HLa CL CNd HSTz HSPq
     have HFE:=Lib.hid (HFD.out.trans HFe.out)
     have y0:=HY4.out _ HFE.out
     obtain⟨x0,l0⟩:=HC1.out we HFe.out
     have CM:=Lib.hid (pMoves_any s yb fb d.2 d.1.st we (HSYd.out.frm HFe.out) (HSTd.out.frm HFe.out))
     have hnf:=fun W f lb=>run_eql_func (P:=Tryz.prog) W 39 #[213] #[] false f lb Tryz.underlying39
     go_wp2_with (first
      | (go_at_call 16;go_must (refine CM.out.mono ?_;rintro e wg ⟨v,rfl,B,u,rfl,hi,hf,hB⟩;have HI:=Lib.hid hi;have HFg:=Lib.hid hf;clear hi hf hB CM)))
     clear hnf y0 x0 l0
     have HFG:=Lib.hid (HFE.out.trans HFg.out)
     have HQg:=Lib.hid (HQd.out.trans (HFe.out.trans HFg.out))
     have HSYg:=Lib.hid (HSY4.out.frm HFG.out)
     have HSPg:=Lib.hid (HSP4.out.frm HFG.out)
     have HSTg:Hid (StR wg s yb d.2 d.1.st):=Lib.hid (HSPg.out.st d (List.mem_of_getElem? HD.out))
     have HMG:Hid (Ms w ds wg):=Lib.hid (HMS.out.frm HQg.out)
     have HDS:Hid (∀ E∈ds,E < wg.heap.size):=Lib.hid fun E hE=>lt_of_block (HMG.out.dl E hE).2
     have HIN:Hid (w.heap.size≤wg.heap.size):=Lib.hid (HF0.out.trans (HF4.out.trans HFG.out)).size
     have HCg:Hid (∀ V,Frm [] wg V→V.cell? ⟨xb,0,none⟩=some (.pointer (some ⟨d.2,0,none⟩))∧V.cell? ⟨lb,0,none⟩=some (.int .i64 d.1.lvl)):=Lib.hid fun V hV=>HC1.out V (HFe.out.trans (HFg.out.trans hV))
     clear HC1 HFe HFg HFE HFD HSYd HSTd HQd
     have hlen:(movesP s d.1.st).length≤1000000:=by have:=moves_len HOK.out HSTg.out.ok;omega
     refine wp_rangeList rfl (enters_of Tryz.func110 (by kernel_rfl) rfl) (mv_iter B u (movesP s d.1.st) hlen) (fun _=>rfl) (fun _ W=>Frm [] wg W∧Ms w ds W) (fun _ _ _=>False)
      (fun _ W W' h hb=>⟨hb.old h.1 (Nat.le_refl _),h.2.bk hb HDS.out⟩) (fun _ _ _ _ h _=>h.elim) (fun _ W h=>HI.out.frm h.1) ⟨Frm.refl _ _,HMG.out⟩ ?_ ?_ ?_
     ·intro l pre y rest W hxs hI hl hlr
      obtain⟨hy,hpl⟩:=numL_pre hxs
      have hLk:=numL_some hxs
      obtain⟨yi,ym⟩:=y
      simp only at hy hLk
      subst hy
      have HMEM:=Lib.hid (List.mem_of_getElem? hLk)
      have HI2:=Lib.hid hI
      clear hI hl hlr hxs hpl hLk hlen
      gi_wp2
      refine⟨KB.frm0 ((Frm.refl [] W).alloc _),fun Wq hbk _=>?_⟩
      have hcv:Wq.heap[W.heap.size]?=some (.cells #[.int .i64 ym.kind,.int .i64 ym.role,.int .i64 ym.step,.int .i64 ym.place] 45 (0,0)):=hbk.at (heap_alloc_new W _) rfl
      have hfq:Frm [] wg Wq:=hbk.old (HI2.out.1.alloc _) (Nat.le_refl _)
      have HMq:Hid (Ms w ds Wq):=Lib.hid ((HI2.out.2.frm ((Frm.refl [] W).alloc (.cells #[.int .i64 ym.kind,.int .i64 ym.role,.int .i64 ym.step,.int .i64 ym.place] 45))).bk hbk HDS.out)
      have HFQ:=Lib.hid hfq
      have CD:=Lib.hid (pDo_yes s yb fb d.2 d.1.st ym Wq (HSYg.out.frm hfq) (HSTg.out.frm hfq) HMEM.out)
      have y0:=HY4.out _ (HFG.out.trans hfq)
      obtain⟨x0,l0⟩:=HCg.out Wq hfq
      have m0:Wq.cell? ⟨W.heap.size,0,none⟩=some (.int .i64 ym.kind):=cell_of hcv 0
      have m1:Wq.cell? ⟨W.heap.size,1,none⟩=some (.int .i64 ym.role):=cell_of hcv 1
      have m2:Wq.cell? ⟨W.heap.size,2,none⟩=some (.int .i64 ym.step):=cell_of hcv 2
      have m3:Wq.cell? ⟨W.heap.size,3,none⟩=some (.int .i64 ym.place):=cell_of hcv 3
      clear hbk hcv hfq HI2
      gi_upto_region 24 with (first
       | (refine⟨trivial,?_⟩;gi_at_call 24;go_must (refine(CallsIn.inRound l (callsIn_wide.2 CD.out)).mono ?_;rintro e wh ⟨v,rfl,sb,rfl,hst,hfh⟩;have HSTn:=Lib.hid hst;have HQh:=Lib.hid hfh;clear hst hfh m0 m1 m2 m3 x0 y0 l0 CD)))
      obtain⟨nx,hnx⟩:∃ x,nextP s d.1.st ym=x:=⟨_,rfl⟩
      have HNX:=Lib.hid hnx
      rw[hnx] at HSTn
      have HFh:=Lib.hid (HFQ.out.trans HQh.out)
      have HSYh:=Lib.hid (HSYg.out.frm HFh.out)
      have HSPh:=Lib.hid (HSPg.out.frm HFh.out)
      have HKz:Hid ((keyS s nx).size≤maxLen):=Lib.hid (by
       have:=keyS_size HOK.out HSTn.out.ok
       unfold maxLen
       exact Nat.le_trans this (by omega))
      have HMV:Hid (∀ (j:Nat) (b:Nd),(N.map Prod.fst)[j]?=some b→keyP s b.st=keyP s nx→b.lvl≤d.1.lvl + 1):=Lib.hid fun(j:Nat) (b:Nd) hb hk=>HFO.out.move HDf.out hb HMEM.out (by rw[hk,HNX.out])
      have HCL:Hid (whole=true→findP s (N.map Prod.fst) (keyP s nx)≠none):=Lib.hid fun hw h0=>by
       have h1:nn=(N.map Prod.fst).length:=HFO.out.whole hw
       obtain⟨j,b,hb,hk,-⟩:=HFO.out.closed k d.1 (by rw[h1];exact lt_of_some HDf.out) HDf.out ym HMEM.out
       have h2:hasK s (N.map Prod.fst) (keyP s nx)=true:=hasK_iff.2 ⟨j,b,hb,by rw[hk,HNX.out]⟩
       rw[← findP_none,h0] at h2
       cases h2
      clear hnx HFQ HMEM HNX
      have HFGh:=Lib.hid (HFG.out.trans HFh.out)
      cases hfi:findP s (N.map Prod.fst) (keyP s nx) with
      | some j =>
        obtain⟨b,hb,hk⟩:=findP_at hfi
        have hlv:=HMV.out j b hb hk
        obtain⟨bn,hbn,rfl⟩:=some_map hb
        have HFI:=Lib.hid hfi;have HBN:=Lib.hid hbn;have HLB:=Lib.hid hlv
        clear hfi hb hk hbn hlv HMV HCL
        refine wpIn_region_cq (by kernel_rfl) (by kernel_rfl) (by kernel_rfl) ?_
        repeat (first
         | gi_big_quiet_skip
         | (refine wpQuietIn_want (fun _ _ _ _=>trivial) (by rfl) (fun K hK=>?_)
            first
             | (refine quietIn_move _ (by rfl) (hK _ ?_))
             | (refine quietIn_assign _ (by rfl) (hK _ ?_))
             | (refine cqi_call (.string (keyS s nx)) 22 #[.pointer (some ⟨sb,0,none⟩)] (fun w' hC=>?_) (fun _=>by decide) (fun w' hC=>CallsIn.inRound _ (callsIn_wide.2 (Ret.cq (pKey_ret s yb fb sb nx w' (HSYh.out.frm hC) (HSTn.out.frm hC)) (fun w'' h=>hC.trans h)))) (hK _ ?_)
                ·go_simp)
             | (refine cqi_call (.tuple #[.int .i64 (j:Nat),.int .i64 0]) 42 #[.pointer (some ⟨pb,0,none⟩),.string (keyS s nx)] (fun w' hC=>?_) (fun _=>by decide) (fun w' hC=>CallsIn.inRound _ (callsIn_wide.2 (Ret.cq (find_hit (HSPh.out.frm hC) nx HKz.out HFI.out) (fun w'' h=>hC.trans h)))) (hK _ ?_)
                ·go_simp)
             | (apply Exists.intro
                refine⟨fun w' hC=>?_,hK _ ?_⟩
                ·(unfold Oper.quietAtIn
                  obtain p0:=HP4.out w' (HFGh.out.trans hC)
                  clear hC
                  go_simp
                  try exact⟨rfl,rfl⟩
                  try rfl))
            clear hK K
            try simp only[nrm,Act.eval,nrq]))
        refine wpQuietIn_nil ?_
        intro wi HFi
        replace HFi:=Lib.hid HFi
        have p0:=HP4.out _ (HFGh.out.trans HFi.out)
        obtain⟨x0,l0⟩:=HCg.out _ (HFh.out.trans HFi.out)
        have CLv:=Lib.hid (xLevel_of (xNode_in (HSPh.out.frm HFi.out) HBN.out (by have:=HL.out;have:=HM.out;omega)))
        have hw:wrap64 ((d.1.lvl:Int) + 1)=((d.1.lvl + 1:Nat):Int):=by have:=HLV.out;unfold wrap64;omega
        have hto1:¬ ((d.1.lvl:Int) + 1 < (bn.1.lvl:Int)):=by have:=HLB.out;omega
        have hto2:decide ((d.1.lvl:Int) + 1 < (bn.1.lvl:Int))=false:=decide_eq_false hto1
        have hto3:decide (((d.1.lvl + 1:Nat):Int) < (bn.1.lvl:Int))=false:=decide_eq_false (by have:=HLB.out;omega)
        gi_wp2_with (first
         | (refine⟨trivial,?_⟩;gi_at_call 34;go_must (refine(CallsIn.inRound l (callsIn_wide.2 (num34_any _ _))).mono ?_;rintro e w' ⟨rfl,rfl⟩))
         | (refine⟨trivial,?_⟩;gi_at_call 40;go_must (refine(CallsIn.inRound l (callsIn_wide.2 CLv.out)).mono ?_;rintro e wj ⟨rfl,hf⟩;have HFj:=Lib.hid (HFi.out.trans hf);have l0:=(HCg.out _ (HFh.out.trans HFj.out)).2;clear hf))
         | (refine⟨trivial,?_⟩))
        exact⟨KB.frm0 (HQh.out.trans HFj.out),HFh.out.trans HFj.out,HMq.out.frm (HQh.out.trans HFj.out)⟩
      | none =>
        obtain rfl:whole=false:=by
         cases whole
         ·rfl
         ·exact absurd hfi (HCL.out rfl)
        have HFI:=Lib.hid hfi
        clear hfi HMV HCL
        refine wpIn_region_cq (by kernel_rfl) (by kernel_rfl) (by kernel_rfl) ?_
        repeat (first
         | gi_big_quiet_skip
         | (refine wpQuietIn_want (fun _ _ _ _=>trivial) (by rfl) (fun K hK=>?_)
            first
             | (refine quietIn_move _ (by rfl) (hK _ ?_))
             | (refine quietIn_assign _ (by rfl) (hK _ ?_))
             | (refine cqi_call (.string (keyS s nx)) 22 #[.pointer (some ⟨sb,0,none⟩)] (fun w' hC=>?_) (fun _=>by decide) (fun w' hC=>CallsIn.inRound _ (callsIn_wide.2 (Ret.cq (pKey_ret s yb fb sb nx w' (HSYh.out.frm hC) (HSTn.out.frm hC)) (fun w'' h=>hC.trans h)))) (hK _ ?_)
                ·go_simp)
             | (refine cqi_call (.tuple #[.int .i64 0,.int .i64 9]) 42 #[.pointer (some ⟨pb,0,none⟩),.string (keyS s nx)] (fun w' hC=>?_) (fun _=>by decide) (fun w' hC=>CallsIn.inRound _ (callsIn_wide.2 (Ret.cq (find_miss (HSPh.out.frm hC) nx HKz.out HFI.out) (fun w'' h=>hC.trans h)))) (hK _ ?_)
                ·go_simp)
             | (apply Exists.intro
                refine⟨fun w' hC=>?_,hK _ ?_⟩
                ·(unfold Oper.quietAtIn
                  obtain p0:=HP4.out w' (HFGh.out.trans hC)
                  clear hC
                  go_simp
                  try exact⟨rfl,rfl⟩
                  try rfl))
            clear hK K
            try simp only[nrm,Act.eval,nrq]))
        refine wpQuietIn_nil ?_
        intro wi HFi
        replace HFi:=Lib.hid HFi
        have p0:=HP4.out _ (HFGh.out.trans HFi.out)
        have CWh:=Lib.hid (xWhole_eq (HSPh.out.frm HFi.out))
        gi_wp2_with (first
         | (refine⟨trivial,?_⟩;gi_at_call 34;go_must (refine(CallsIn.inRound l (callsIn_wide.2 (num34_any _ _))).mono ?_;rintro e w' ⟨rfl,rfl⟩))
         | (refine⟨trivial,?_⟩;gi_at_call 36;go_must (refine(CallsIn.inRound l (callsIn_wide.2 CWh.out)).mono ?_;rintro e w' ⟨rfl,rfl⟩)))
        exact⟨KB.frm0 (HQh.out.trans HFi.out),HFh.out.trans HFi.out,HMq.out.frm (HQh.out.trans HFi.out)⟩
     ·intro D W hD hI hK
      have hm9:=hI.2.cons (D:=D) (fun E hE=>by have:=HDS.out E hE;omega) (by have:=HIN.out;omega) hK
      have HM9:=Lib.hid hm9;have HFW:=Lib.hid hI.1
      clear hI hK hm9 hlen
      go_wp2
      refine⟨⟨D :: ds,?_⟩,?_⟩
      ·(repeat apply Exists.intro)
       exact⟨⟨k + 1,congrArg (Value.int .i64) HW1.out,by rw[lastL_up HD.out],hlt,HFG.out.trans HFW.out,HM9.out⟩,rfl⟩
      ·exact meas_up hlt HW1.out
     ·intro D c pre x rest W hxs hD hI
      exact hI.elim
    ·obtain rfl:k=N.length:=by omega
     have hge:¬ (N.length:Int) < (N.length:Int):=by omega
     have hd0:decide ((N.length:Int) < (N.length:Int))=false:=decide_eq_false hge
     obtain⟨d,hd⟩:∃ d,N[N.length - 1]?=some d:=⟨_,List.getElem?_eq_getElem (by have:=HL.out;omega)⟩
     have hll:lastL N N.length=d.1.lvl:=by
      have h:=lastL_up hd
      rwa [show N.length - 1 + 1=N.length by have:=HL.out;omega] at h
     have hidx:((N.length:Int) - 1)=((N.length - 1:Nat):Int):=by have:=HL.out;omega
     have hN5:N.length≤1000000:=by have:=HL.out;have:=HM.out;omega
     have CDp:Hid (Calls Tryz.prog 37 #[.pointer (some ⟨pb,0,none⟩)] wq (Ret (.int .i64 (lastL N N.length:Nat)) (Frm [] wq))):=Lib.hid (by
      rw[hll]
      exact xDepth_of (xLen_any HSPq.out) (fun V hV=>by rw[hidx];exact xLevel_of (xNode_in (HSPq.out.frm hV) hd hN5)) (by omega))
     clear hd hll hidx hN5
     go_wp2_with (first
      | (go_at_call 35;go_must (refine CL.out.mono ?_;rintro e w' ⟨rfl,rfl⟩))
      | (go_at_call 37;go_must (refine CDp.out.mono ?_;rintro e wd ⟨rfl,hf⟩;have HFd:=Lib.hid hf;clear hf p0))
      | (go_at_call 31;go_must (refine(CK.out _).mono ?_;rintro e wk ⟨rfl,hf'⟩;have HFK:Hid (Frm [] wq wk):=Lib.hid (HFd.out.trans hf');have HFL:Hid (Frm [] W0 wk):=Lib.hid (HF4.out.trans (HF.out.trans HFK.out));have c4:=cell_of (HB2.out _ HFL.out) 0;have f4:=free_of (HB2.out _ HFL.out) 0;clear hf')))
     exact law_end (HF0.out.trans HFL.out) (HB2.out _ HFL.out) (by omega) (HMS.out.frm HFK.out)
end Go.Proofs.YtkphhjekfimmlaaGreat
