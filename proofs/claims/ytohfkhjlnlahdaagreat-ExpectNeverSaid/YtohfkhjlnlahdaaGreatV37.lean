/- Part of the proof. -/
import Derived.Test.YtohfkhjlnlahdaaGreatV25
import Derived.Test.YtohfkhjlnlahdaaGreatV22
import Derived.Maps.OwnSet
import Derived.Maps.OwnOps
import Derived.WalkMore
import Derived.Test.YtohfkhjlnlahdaaGreatV29
import Derived.Test.YtohfkhjlnlahdaaGreatV13
import Derived.Test.YtohfkhjlnlahdaaGreatV23
import Derived.Shelf.SortM.Plain
import Derived.Shelf.SortM.SortNone
import Derived.Sort.CutIn
import Derived.OrdersIn
import Derived.Laws.StructEq
import Derived.Test.YtohfkhjlnlahdaaGreatV33
set_option linter.all false
namespace Go.Proofs.YtohfkhjlnlahdaaGreat
open Go.RowKit Go.BigFrame Go.Maps
theorem ctV_val (l:List (CtrD × Int)) (n:ByteArray):∃ a e,ctV l n=.tuple #[.int .i64 a,.int .i64 e]:=by
 unfold ctV
 split
 ·split
  ·exact⟨_,_,rfl⟩
  ·exact⟨_,_,rfl⟩
 ·exact⟨_,_,rfl⟩
theorem guard_val {s:SesD} {x:PS} (hs:SesOk s) (hx:PSok s x) {i:Nat} (hi:i < s.roles.length) {t:StpD} (ht:t∈(s.rol i).steps) {a e:Int} (hv:ctV (x.ctr s i) t.ctr=.tuple #[.int .i64 a,.int .i64 e]) :
  bankOk (s.rol i).ctrs (x.bank i) t=(decide (t.ctr=emptyS) || (decide (t.low≤a) && decide (a≤t.high))):=by
 have hst:=(hs.at hi).stp t ht
 have hvb:=hx.vb i hi
 rw[bank_guard hst hvb]
 by_cases he:t.ctr=emptyS
 ·rw[decide_eq_true he];rfl
 ·obtain⟨k,c,h1,h2,-⟩:=hst.ctr he
  have h3:ctV (x.ctr s i) t.ctr=.tuple #[.int .i64 ((x.bank i).getD k 0),.int .i64 0]:=by
   unfold ctV PS.ctr
   rw[cnIx_zip hvb.1,h1,Int.toNat_natCast,zip_at hvb.1 h2]
   simp only
   rw[if_pos (by omega)]
  rw[h3] at hv
  injection hv with hv
  have h4:(x.bank i).getD k 0=a:=by
   have:=congrArg (fun A:Array Value=>A.getD 0 undef) hv
   simp at this
   simpa using this
  rw[h1,Int.toNat_natCast,h4]
set_option maxHeartbeats 2000000 in
set_option maxRecDepth 100000 in
theorem xpGrd_any (s:SesD) (yb fb sb i:Nat) (x:PS) (t:StpD) (w:World) (h:SyR w s yb fb) (hx:StR w s yb sb x) (hi:i < s.roles.length) (ht:t∈(s.rol i).steps) :
  Calls Tryz.prog 145 #[.pointer (some ⟨sb,0,none⟩),.int .i64 i,stpV t] w (Ret (.bool (bankOk (s.rol i).ctrs (x.bank i) t)) (Frm [] w)):=by
 obtain⟨a,e,hv⟩:=ctV_val (x.ctr s i) t.ctr
 rw[guard_val h.ok hx.ok hi ht hv]
 obtain⟨W0,hW0⟩:∃ W0,w.alloc (.cells #[.string t.frm,.string t.to,.int .i64 t.kind,.string t.msg,.string t.peer,.string t.ctr,.int .i64 t.low,.int .i64 t.high,.int .i64 t.add] 137)=W0:=⟨_,rfl⟩
 have hf0:Frm [] w W0:=by rw[← hW0];exact(Frm.refl _ _).alloc _
 have CC:=Lib.hid (pCounter_ok s yb fb sb i x t.ctr W0 (h.frm hf0) (hx.frm hf0) hi)
 rw[hv] at CC
 have HB:Hid (∀ V,Frm [] W0 V→V.cell? ⟨w.heap.size,5,none⟩=some (.string t.ctr)∧V.cell? ⟨w.heap.size,6,none⟩=some (.int .i64 t.low)∧V.cell? ⟨w.heap.size,7,none⟩=some (.int .i64 t.high)):=Lib.hid fun V hV=>by
  have hb:=hV.at (show W0.heap[w.heap.size]?=_ by rw[← hW0];exact heap_alloc_new _ _) (by simp)
  exact⟨cell_of hb 5,cell_of hb 6,cell_of hb 7⟩
 have HF0:=Lib.hid hf0;have HE:=Lib.hid hW0
 clear hi ht hx h hf0 hW0 hv
 go_enter Tryz.func145,Tryz.ntmps145
 go_upto_region 1 with (first | (refine wpList_box_row rfl 137 _ rfl _ rfl ?_;rw[HE.out]))
 clear HE
 obtain⟨x5,x6,x7⟩:=HB.out _ (Frm.refl _ _)
 go_upto_region 2 with (first
  | (go_at_call 190;go_must (refine CC.out.mono ?_;rintro e w1 ⟨rfl,hf1⟩;have HF1:=Lib.hid hf1;clear hf1 x5 x6 x7 CC)))
 obtain⟨x5,x6,x7⟩:=HB.out _ HF1.out
 have HFE:=Lib.hid (HF0.out.trans HF1.out)
 clear HB HF0 HF1
 by_cases he:t.ctr=emptyS
 ·have hq:t.ctr.toList.isEmpty=true:=emp_yes he
  have HD:Hid (decide (t.ctr=emptyS)=true):=Lib.hid (decide_eq_true he)
  clear he
  go_wp2
  go_ret
  exact⟨by rw[HD.out];rfl,HFE.out⟩
 ·have hq:t.ctr.toList.isEmpty=false:=emp_no he
  have HD:Hid (decide (t.ctr=emptyS)=false):=Lib.hid (decide_eq_false he)
  clear he
  by_cases h1:t.low≤a
  ·have HL:Hid (decide (t.low≤a)=true):=Lib.hid (decide_eq_true h1)
   have h1':=HL.out
   go_wp2
   go_ret
   refine⟨?_,HFE.out⟩
   rw[HD.out,HL.out]
   simp
  ·have HL:Hid (decide (t.low≤a)=false):=Lib.hid (decide_eq_false h1)
   have h1':=HL.out
   go_wp2
   go_ret
   exact⟨by rw[HD.out];rfl,HFE.out⟩
def ArrTo (w:World) (cls:Int) (L:List ByteArray) (v:Value) (w':World):Prop:=∃ bl bc cb sv,v=.func (.func 178) #[] #[.pointer (some ⟨bl,0,none⟩),.pointer (some ⟨bc,0,none⟩)]∧ChR bl bc cb cls sv L w'∧(∃ F,Chn w' cb cls 64 L F)∧Frm [] w w'
set_option maxHeartbeats 2000000 in
set_option maxRecDepth 100000 in
theorem xpArr_any (s:SesD) (yb sb i p:Nat) (x:PS) (w:World) (hs:SesOk s) (hx:StR w s yb sb x) (hi:i < s.roles.length) (hp:p < s.roles.length) (hne:p≠i) :
  Calls Tryz.prog 143 #[.pointer (some ⟨sb,0,none⟩),.int .i64 s.cls,.int .i64 i,.int .i64 p] w (RetV (ArrTo w s.cls (x.way p i))):=by
 have CC:=Lib.hid (pChannel_ok s yb sb p i x w hx hp hi hne)
 have hwb:=hx.ok.wb p i hp hi
 have hk4:=hs.k4
 obtain⟨L,hL⟩:∃ L,x.way p i=L:=⟨_,rfl⟩
 rw[hL] at CC hwb ⊢
 obtain⟨m,hm⟩:∃ m,L.length=m:=⟨_,rfl⟩
 have HN:=Lib.hid hm
 have HM:Hid (m≤4∧∀ b∈L,1≤b.size∧b.size≤32):=Lib.hid ⟨by omega,hwb.2⟩
 have CN:Hid (∀ V,Calls Tryz.prog 113 #[.int .i64 s.cls,.int .i64 64] V (Ret (.tuple #[.pointer (some ⟨V.heap.size,0,none⟩),.int .i64 0]) (fun w'=>Frm [] V w'∧Chn w' V.heap.size s.cls 64 [] [V.heap.size]))):=Lib.hid fun V=>new_ok s.cls 64 V (by unfold okC;exact decide_eq_true ⟨hs.c1,hs.c3,by omega,by omega⟩)
 clear hx hi hp hne hs hL hwb hk4 hm
 go_enter Tryz.func143,Tryz.ntmps143
 go_upto_region 4 with (first
  | (go_at_call 188;go_must (refine CC.out.mono ?_;rintro e w1 ⟨v,rfl,u,rfl,hfr⟩;obtain⟨ao,cp,rfl,-,hcs⟩:=hfr.1.shape;have HFR:=Lib.hid hfr;have HCS:=Lib.hid hcs;rw[HN.out];clear hfr hcs CC))
  | (go_at_call 113;go_must (refine(CN.out _).mono ?_;rintro e w2 ⟨rfl,hf,hch⟩;have HF2:=Lib.hid hf;have HCH:=Lib.hid hch;clear hf hch CN)))
 have HF02:Hid (Frm [] w w2):=Lib.hid (HFR.out.2.1.trans HF2.out)
 obtain⟨cb,hcb⟩:∃ cb,w1.heap.size=cb:=⟨_,rfl⟩
 have HCB:Hid (w.heap.size≤cb):=Lib.hid (by rw[← hcb];exact HFR.out.2.1.size)
 rw[hcb] at HCH ⊢
 have HB1:=Lib.hid hcb
 clear hcb
 go_loopw [29] (fun s29 wr=>∃ (k:Nat) (F:List Nat),s29=.int .i64 k∧k≤m∧Chn wr cb s.cls 64 (L.take k) F∧Frm [] w1 wr∧∀ y∈F,cb≤y) (fun s29 _=>m - (intOf s29).toNat)
 case atStart=>exact⟨0,_,rfl,Nat.zero_le _,HCH.out,HF2.out,by simp⟩
 case round =>
  obtain⟨k,F,rfl,hk,hch,hf,hF⟩:=hrel
  have HC:=Lib.hid hch;have HF:=Lib.hid hf;have HFy:=Lib.hid hF
  clear hch hf hF
  by_cases hlt:k < m
  ·obtain⟨b,hb⟩:∃ b,L[k]?=some b:=⟨_,List.getElem?_eq_getElem (by rw[HN.out];exact hlt)⟩
   obtain⟨g,hg,cg⟩:=HCS.out k b hb
   subst hg
   have cg1:=HF.out.keep cg
   have hsz:=HM.out.2 b (List.mem_of_getElem? hb)
   have CP:=Lib.hid (put_any cb s.cls 64 (L.take k) F b wr HC.out hsz.1 hsz.2 (by rw[List.length_take];have:=HM.out.1;omega))
   rw[(take_snoc' hb).1.symm] at CP
   have hlt':(k:Int) < (m:Int):=by omega
   have hm4:=HM.out.1
   clear hb cg hsz
   go_wp2_with (first
    | (go_at_call 67;go_must (refine CP.out.mono ?_;rintro e w3 ⟨rfl,F',hc,hf,hF⟩;have HC3:=Lib.hid hc;have HF3:=Lib.hid hf;have HFy3:=Lib.hid hF;clear hc hf hF CP)))
   go_roundw
   case rel =>
    refine⟨k + 1,F',by go_num,hlt,HC3.out,HF.out.then HF3.out (fun y hy=>.inr ?_),fun y hy=>?_⟩
    ·have:=HFy.out y hy;have:=HB1.out;omega
    ·rcases HFy3.out y hy with h | h
     ·exact HFy.out y h
     ·have:=HF.out.size;have:=HB1.out;omega
   case measure=>simp[intOf];omega
  ·obtain rfl:k=m:=by omega
   have hge:¬ (k:Int) < (k:Int):=by omega
   have HC9:Hid (Chn wr cb s.cls 64 L F):=Lib.hid (by have:=HC.out;rwa [List.take_of_length_le (by rw[HN.out];exact Nat.le_refl _)] at this)
   have CH:=Lib.hid (choose_any cb s.cls 64 L F wr HC9.out)
   go_wp2_with (first
    | (go_at_call 123;go_must (refine CH.out.mono ?_;rintro e w4 ⟨v,rfl,bl,bc,sv,rfl,hcr,hf,-⟩;have HCR:=Lib.hid hcr;have HF4:=Lib.hid hf;clear hcr hf CH)))
   go_ret
   exact⟨_,rfl,bl,bc,cb,sv,rfl,HCR.out,⟨F,HC9.out.frm HF4.out (by simp)⟩,HFR.out.2.1.trans (HF.out.trans HF4.out)⟩
end Go.Proofs.YtohfkhjlnlahdaaGreat
namespace Go.Proofs.YtohfkhjlnlahdaaGreat
open Go.RowKit Go.BigFrame Go.Maps
section
variable {F:Fence} {n:Nat} {P:Program} {b:Frame} {a:Act} {k:List Item} {cs:List Frame} {w:World} {Q:Exit→Act→World→Prop}
theorem stepR_scope {c:Code}:step P (lone (b.atR a (.code (.scope c) :: k)) cs w)=.next (lone (b.atR a (.code c :: .inScope c :: k)) cs w):=
 step_lone_go (by simp[stepG,stepG.exec,Frame.atR])
theorem stepR_inScope {c:Code}:step P (lone (b.atR a (.inScope c :: k)) cs w)=.next (lone (b.atR a k) cs w):=
 step_lone_go (by simp[stepG,stepG.exec,Frame.atR])
theorem wpIn_scope_straight {c:Code} (h:c.wpIn F n P (Exit.noGoto Q) a w):(Code.scope c).wpIn F n P Q a w:=by
 intro b k cs hro hb hr
 have h0:(lone (b.atR a (.code (.scope c) :: k)) cs w).fenced P F:=fenced_calm hb hr rfl
 obtain⟨e,a₁,w₁,hq,harr⟩:=h b (.inScope c :: k) cs hro hb hr
 cases e with
 | normal=>exact⟨.normal,a₁,w₁,hq,.head h0 stepR_scope (StepsIn.trans harr (.one (fenced_calm hb hr rfl) stepR_inScope))⟩
 | exit id =>
   have hx:exitTo id (.inScope c :: k)=exitTo id k:=by simp[exitTo]
   exact⟨_,a₁,w₁,hq,fun k' hk=>.head h0 stepR_scope (harr.1 k' (by rw[hx];exact hk)),
    fun hr' hk=>let ⟨k₁,h1,h2⟩:=harr.2 hr' (by rw[hx];exact hk);⟨k₁,h1,.head h0 stepR_scope h2⟩⟩
 | goto l=>exact hq.elim
 | ret=>exact⟨_,a₁,w₁,hq,.of_steps (.one h0 stepR_scope) harr⟩
 | panic ch=>exact⟨_,a₁,w₁,hq,.of_steps (.one h0 stepR_scope) harr⟩
 | outgrown=>exact⟨_,a₁,w₁,hq,.of_steps (.one h0 stepR_scope) harr⟩
end
def StsTo (w:World) (po:Option Addr) (v:Value) (w':World):Prop:=∃ bx,v=.func (.func 151) #[] #[.pointer (some ⟨bx,0,none⟩)]∧w'.heap[bx]?=some (.cells #[.pointer po] 122 (0,0))∧Frm [] w w'
theorem xStates_any (po:Option Addr) (w:World):Calls Tryz.prog 91 #[.pointer po] w (RetV (StsTo w po)):=by
 go_enter Tryz.func91,Tryz.ntmps91
 go_wp2
 go_ret
 exact⟨_,rfl,_,rfl,heap_alloc_new _ _,(Frm.refl _ _).alloc _⟩
structure StI (B:Nat) (s:SesD) (yb pb:Nat) (whole:Bool) (N:List (Nd × Nat)) (W:World):Prop where
 b:W.heap[B]?=some (.cells #[.pointer (some ⟨pb,0,none⟩)] 122 (0,0))
 sp:SpO W s yb whole pb N
set_option maxHeartbeats 2000000 in
set_option maxRecDepth 100000 in
theorem st_iter (B yb pb:Nat) (s:SesD) (whole:Bool) (N:List (Nd × Nat)) (hL:N.length≤1000000) :
  Iter Fence.wide 2 Tryz.prog 151 #[.pointer (some ⟨B,0,none⟩)] (fun e:Nat × Nat=>#[.int .i64 e.1,.pointer (some ⟨e.2,0,none⟩)]) (StI B s yb pb whole N) (numL (N.map Prod.snd)):=by
 intro l J Jx sJ sJx hJR hY W h0
 have HJ:=Lib.hid sJ;have HJR:=Lib.hid hJR;have HY:=Lib.hid hY
 clear sJ sJx hJR hY
 have hr:=HJR.out _ _ h0
 have c0:=cell_of hr.b 0
 have CL:=Lib.hid (xLen_any hr.sp)
 have H0:=Lib.hid h0
 have HNL:Hid ((numL (N.map Prod.snd)).length=N.length):=Lib.hid (by rw[numL_length,List.length_map])
 clear hr h0
 refine callsIn_of_wp Tryz.func151 rfl trivial ?_ rfl
 simp only[Tryz.ntmps151,List.size_toArray,List.length_cons,List.length_nil,Nat.reduceAdd,Nat.reduceSub,Array.replicate_succ,Array.replicate_zero,List.push_toArray,List.append_toArray,List.nil_append,List.cons_append]
 refine wpIn_scope_straight (wpIn_seq (wpIn_label ?_))
 gi_wp2_with (refine⟨trivial,?_⟩;gi_at_call 95;go_must (refine(callsIn_wide.2 CL.out).mono ?_;rintro e w1 ⟨rfl,hf⟩;have HF1:=Lib.hid hf;clear hf CL))
 gi_loopw [6] (fun s wr=>∃ k:Nat,s=.int .i64 k∧k≤N.length∧J ((numL (N.map Prod.snd)).take k) wr) (fun s _=>N.length - (intOf s).toNat)
 case atStart=>exact⟨0,rfl,Nat.zero_le _,HJ.out _ _ _ H0.out HF1.out⟩
 case round =>
  obtain⟨k,rfl,hk,hj⟩:=hrel
  have HJ1:=Lib.hid hj
  clear hj H0 c0
  by_cases hlt:k < N.length
  ·obtain⟨x,hx⟩:∃ x,N[k]?=some x:=⟨_,List.getElem?_eq_getElem hlt⟩
   have hr:=HJR.out _ _ HJ1.out
   have c0:=cell_of hr.b 0
   obtain⟨qb,mb,lim,ao,cap,q1,q2,q3,-⟩:=hr.sp.out
   have p0:=cell_of q1 0
   have p2:=cell_of q2 2
   obtain⟨b,o,rfl,hn⟩:=q3.get hx
   have n0:=hn.c0
   have hnx:(numL (N.map Prod.snd))[k]?=some (k,x.2):=by rw[numL_at,List.getElem?_map,hx];rfl
   have HX:=Lib.hid hnx
   have hJ':=HJ1.out
   clear hr hx hnx q1 q2 q3 hn
   obtain⟨fn,tmps,assign,body,hy,hR⟩:=HY.out ((numL (N.map Prod.snd)).take k) (k,x.2) ((numL (N.map Prod.snd)).drop (k + 1)) _ (take_snoc' HX.out).2 hJ'
   have HRR:=Lib.hid hR
   clear hJ' hR
   have hlt':(k:Int) < N.length:=by omega
   gi_wp2
   refine HRR.out.mono ?_
   rintro e W3 (⟨rfl,hJ3⟩ | ⟨rfl,hJx3⟩)
   ·have HJ3:=Lib.hid hJ3
    clear hJ3
    gi_wp2
    go_roundw
    case rel=>exact⟨k + 1,by go_num,hlt,by rw[(take_snoc' HX.out).1];exact HJ3.out⟩
    case measure=>simp[intOf];omega
   ·have HJ3:=Lib.hid hJx3
    clear hJx3
    gi_wp2
    rw[Exit.noGoto_normal]
    change bodyPost Tryz.prog Tryz.f151 (fun e W'=>(∃ v,e=Ending.returned v)∧(J (numL (N.map Prod.snd)) W'∨∃ pre x rest,numL (N.map Prod.snd)=pre ++ x :: rest∧Jx (pre ++ [x]) W')) Exit.normal _ _
    go_end0
    exact⟨⟨_,rfl⟩,.inr ⟨_,_,_,(take_snoc' HX.out).2,HJ3.out⟩⟩
  ·have hge:¬ (k:Int) < N.length:=by omega
   gi_wp2
   try rw[Exit.noGoto_normal]
   go_end0
   refine⟨⟨_,rfl⟩,.inl ?_⟩
   have:=HJ1.out
   rwa [List.take_of_length_le (by rw[HNL.out];omega)] at this
end Go.Proofs.YtohfkhjlnlahdaaGreat
namespace Go.Proofs.YtohfkhjlnlahdaaGreat
open Go.RowKit Go.BigFrame Go.Maps
def fromL (L:List StpD) (st:ByteArray):List (Nat × StpD):=(numL L).filter fun e=>decide (e.2.frm=st)
def fromK (L:List StpD) (st:ByteArray) (k:Nat):List (Nat × StpD):=((numL L).take k).filter fun e=>decide (e.2.frm=st)
section
variable {L:List StpD} {st:ByteArray} {k:Nat} {x:StpD}
theorem fromK_yes (h:L[k]?=some x) (hx:x.frm=st):fromK L st (k + 1)=fromK L st k ++ [(k,x)]∧∃ rest,fromL L st=fromK L st k ++ (k,x) :: rest:=by
 have hn:(numL L)[k]?=some (k,x):=by rw[numL_at,h];rfl
 obtain⟨h1,h2⟩:=take_snoc' hn
 have hd:decide (x.frm=st)=true:=decide_eq_true hx
 refine⟨?_,((numL L).drop (k + 1)).filter fun e=>decide (e.2.frm=st),?_⟩
 ·unfold fromK;rw[h1,List.filter_append];simp[hd]
 ·unfold fromL fromK
  conv=>lhs;rw[h2]
  rw[List.filter_append];simp[hd]
theorem fromK_no (h:L[k]?=some x) (hx:x.frm≠st):fromK L st (k + 1)=fromK L st k:=by
 have hn:(numL L)[k]?=some (k,x):=by rw[numL_at,h];rfl
 obtain⟨h1,-⟩:=take_snoc' hn
 have hd:decide (x.frm=st)=false:=decide_eq_false hx
 unfold fromK;rw[h1,List.filter_append];simp[hd]
theorem fromK_all:fromK L st L.length=fromL L st:=by unfold fromK fromL;rw[List.take_of_length_le (by rw[numL_length];exact Nat.le_refl _)]
theorem mem_fromL {i:Nat}:(i,x)∈fromL L st↔L[i]?=some x∧x.frm=st:=by
 unfold fromL
 rw[List.mem_filter]
 constructor
 ·rintro⟨h1,h2⟩
  obtain⟨j,hj⟩:=List.getElem?_of_mem h1
  rw[numL_at] at hj
  cases hz:L[j]? with
  | none=>rw[hz] at hj;simp at hj
  | some z =>
    rw[hz] at hj
    simp at hj
    obtain⟨rfl,rfl⟩:=hj
    exact⟨hz,of_decide_eq_true h2⟩
 ·rintro⟨h1,h2⟩
  exact⟨List.mem_of_getElem? (i:=i) (by rw[numL_at,h1];rfl),decide_eq_true h2⟩
end
structure FrI (B1 B2:Nat) (v:Value) (L:List StpD) (st:ByteArray) (W:World):Prop where
 b1:W.heap[B1]?=some (.cells #[v] 85 (0,0))
 b2:W.heap[B2]?=some (.cells #[.string st] 9 (0,0))
 a:Arr 9 SpAt W v L
set_option maxHeartbeats 2000000 in
set_option maxRecDepth 100000 in
theorem from_iter (B1 B2:Nat) (v:Value) (L:List StpD) (st:ByteArray) (hL:L.length≤1000000) :
  Iter Fence.wide 2 Tryz.prog 189 #[.pointer (some ⟨B1,0,none⟩),.pointer (some ⟨B2,0,none⟩)] (fun e:Nat × StpD=>#[.int .i64 e.1,stpV e.2]) (FrI B1 B2 v L st) (fromL L st):=by
 intro l J Jx sJ sJx hJR hY W h0
 have HJ:=Lib.hid sJ;have HJR:=Lib.hid hJR;have HY:=Lib.hid hY
 clear sJ sJx hJR hY
 have hr:=HJR.out _ _ h0
 have c0:=cell_of hr.b1 0
 obtain⟨ao,cap,rfl⟩:=hr.a.shape
 have H0:=Lib.hid h0
 clear hr h0
 refine callsIn_of_wp Tryz.func189 rfl trivial ?_ rfl
 simp only[Tryz.ntmps189,List.size_toArray,List.length_cons,List.length_nil,Nat.reduceAdd,Nat.reduceSub,Array.replicate_succ,Array.replicate_zero,List.push_toArray,List.append_toArray,List.nil_append,List.cons_append]
 refine wpIn_scope_straight (wpIn_seq (wpIn_label ?_))
 gi_wp2
 gi_loopw [8] (fun s wr=>∃ k:Nat,s=.int .i64 k∧k≤L.length∧J (fromK L st k) wr) (fun s _=>L.length - (intOf s).toNat)
 case atStart=>exact⟨0,rfl,Nat.zero_le _,H0.out⟩
 case round =>
  obtain⟨k,rfl,hk,hj⟩:=hrel
  have HJ1:=Lib.hid hj
  clear hj H0 c0
  by_cases hlt:k < L.length
  ·obtain⟨x,hx⟩:∃ x,L[k]?=some x:=⟨_,List.getElem?_eq_getElem hlt⟩
   have hr:=HJR.out _ _ HJ1.out
   obtain⟨b,o,c',e,hsp⟩:=hr.a.at hx
   cases e
   obtain⟨g0,g1,g2,g3,g4,g5,g6,g7,g8⟩:=hsp
   have HX:=Lib.hid hx
   have hst:wr.cell? ⟨B2,0,none⟩=some (.string st):=cell_of hr.b2 0
   have hlt':(k:Int) < L.length:=by omega
   have HF1:Hid (Frm [] wr (wr.alloc (.cells #[.string x.frm,.string x.to,.int .i64 x.kind,.string x.msg,.string x.peer,.string x.ctr,.int .i64 x.low,.int .i64 x.high,.int .i64 x.add] 137))):=Lib.hid ((Frm.refl _ _).alloc _)
   have hst1:=HF1.out.keep hst
   clear hr hx
   by_cases hm:x.frm=st
   ·obtain⟨rest,hsp⟩:=(fromK_yes HX.out hm).2
    obtain⟨fn,tmps,assign,body,hy,hR⟩:=HY.out _ _ _ _ hsp (HJ.out _ _ _ HJ1.out HF1.out)
    have HRR:=Lib.hid hR;have HSP:=Lib.hid hsp;have HM:=Lib.hid hm
    have hbe:(x.frm.toList == st.toList)=true:=by rw[hm];simp
    clear hR hsp hm
    gi_wp2
    refine HRR.out.mono ?_
    rintro e W3 (⟨rfl,hJ3⟩ | ⟨rfl,hJx3⟩)
    ·have HJ3:=Lib.hid hJ3
     clear hJ3
     gi_wp2
     go_roundw
     case rel=>exact⟨k + 1,by go_num,hlt,by rw[(fromK_yes HX.out HM.out).1];exact HJ3.out⟩
     case measure=>simp[intOf];omega
    ·have HJ3:=Lib.hid hJx3
     clear hJx3
     gi_wp2
     rw[Exit.noGoto_normal]
     change bodyPost Tryz.prog Tryz.f189 (fun e W'=>(∃ v,e=Ending.returned v)∧(J (fromL L st) W'∨∃ pre x rest,fromL L st=pre ++ x :: rest∧Jx (pre ++ [x]) W')) Exit.normal _ _
     go_end0
     exact⟨⟨_,rfl⟩,.inr ⟨_,_,_,HSP.out,HJ3.out⟩⟩
   ·have hbe:(x.frm.toList == st.toList)=false:=str_ne hm
    have HJ2:Hid (J (fromK L st (k + 1)) (wr.alloc (.cells #[.string x.frm,.string x.to,.int .i64 x.kind,.string x.msg,.string x.peer,.string x.ctr,.int .i64 x.low,.int .i64 x.high,.int .i64 x.add] 137))):=Lib.hid (by
     rw[fromK_no HX.out hm]
     exact HJ.out _ _ _ HJ1.out HF1.out)
    clear hm
    gi_wp2
    refine⟨(fun f hf=>by cases hf),?_⟩
    gi_wp2
    go_roundw
    case rel=>exact⟨k + 1,by go_num,hlt,HJ2.out⟩
    case measure=>simp[intOf];omega
  ·obtain rfl:k=L.length:=by omega
   have hge:¬ (L.length:Int) < L.length:=by omega
   gi_wp2
   try rw[Exit.noGoto_normal]
   go_end0
   exact⟨⟨_,rfl⟩,.inl (by have:=HJ1.out;rwa [fromK_all] at this)⟩
theorem rFrom_any (r:RolD) (st:ByteArray) (a b c d:Value) (w:World) (h:Arr 9 SpAt w d r.steps) (hl:r.steps.length≤100000):Calls Tryz.prog 144 #[.agg #[a,b,c,d],.string st] w (RetV fun u w'=>∃ B1 B2 sv,u=.func (.func 189) #[] #[.pointer (some ⟨B1,0,none⟩),.pointer (some ⟨B2,0,none⟩)]∧FrI B1 B2 sv r.steps st w'∧Frm [] w w'):=by
 obtain⟨ao,cap,rfl⟩:=h.shape
 have HA:=Lib.hid h
 obtain⟨n,hn⟩:∃ n,r.steps.length=n:=⟨_,rfl⟩
 have HN:=Lib.hid hn
 rw[hn] at HA ⊢
 have hf0:Frm [] w ((w.alloc (.cells #[a,b,c,.slice ao n cap] 87)).alloc (.cells #[.string st] 9)):=((Frm.refl _ _).alloc _).alloc _
 obtain⟨W1,hW1⟩:∃ W,((w.alloc (.cells #[a,b,c,.slice ao n cap] 87)).alloc (.cells #[.string st] 9))=W:=⟨_,rfl⟩
 have hb1:W1.heap[w.heap.size]?=some (.cells #[a,b,c,.slice ao n cap] 87 (0,0)):=by rw[← hW1];exact alloc_at (heap_alloc_new _ _)
 have hb2:W1.heap[w.heap.size + 1]?=some (.cells #[.string st] 9 (0,0)):=by rw[← hW1];exact alloc_top (by simp)
 rw[hW1] at hf0
 have HF0:=Lib.hid hf0;have HB2:=Lib.hid hb2;have HE:=Lib.hid hW1
 have CC:=Lib.hid (clStep_any (.slice ao n cap) r.steps W1 (HA.out.frm fun _ _ _ h=>h.frm hf0) hl)
 have c3:=cell_of hb1 3
 clear h hn hb1 hb2 hf0 hW1
 go_enter Tryz.func144,Tryz.ntmps144
 go_upto_region 1 with (first | (refine wpList_box_row rfl 87 _ rfl _ rfl ?_))
 rw[HE.out]
 clear HE
 go_wp2_with (first
  | (go_at_call 173;go_must (refine CC.out.mono ?_;rintro e w2 ⟨v,rfl,hfr⟩;obtain⟨a5,c5,rfl⟩:=hfr.arr.shape;have HFR:=Lib.hid hfr;clear hfr CC)))
 go_ret
 have hf2:Frm [] W1 (w2.alloc (.cells #[.slice a5 r.steps.length c5] 85)):=HFR.out.frm.alloc _
 exact⟨_,rfl,_,_,_,rfl,⟨heap_alloc_new _ _,hf2.at HB2.out (by simp),HFR.out.arr.frm fun _ _ _ h=>h.frm ((Frm.refl [] w2).alloc _)⟩,HF0.out.trans hf2⟩
end Go.Proofs.YtohfkhjlnlahdaaGreat
namespace Go.Proofs.YtohfkhjlnlahdaaGreat
open Go.RowKit Go.BigFrame
theorem numL_snd {α:Type} (L:List α):(numL L).map Prod.snd=L:=by
 refine List.ext_getElem? fun i=>?_
 rw[List.getElem?_map,numL_at]
 cases L[i]? <;> rfl
theorem numL_pre {α:Type} {L:List α} {pre rest:List (Nat × α)} {y:Nat × α} (h:numL L=pre ++ y :: rest):y.1=pre.length∧pre.length < L.length:=by
 have h1:(numL L)[pre.length]?=some y:=by rw[h,List.getElem?_append_right (Nat.le_refl _),Nat.sub_self];rfl
 rw[numL_at,Option.map_eq_some_iff] at h1
 obtain⟨m,hm,rfl⟩:=h1
 exact⟨rfl,lt_of_some hm⟩
attribute [local go_sem] Oper.semAt_some
end Go.Proofs.YtohfkhjlnlahdaaGreat
namespace Go.Proofs.YtohfkhjlnlahdaaGreat
open Go.RowKit Go.BigFrame
theorem Tryz.call_pFinal1 (args:Array Value) (w:World):(callFunc 141 args).run Tryz.prog w=.ok (.enter 141 args) w:=by kernel_rfl
set_option maxRecDepth 100000 in
theorem pFinal1_any (cb:Nat) (cls cap:Int) (L:List ByteArray) (F:List Nat) (w:World) (h:Chn w cb cls cap L F):Calls Tryz.prog 141 #[.pointer (some ⟨cb,0,none⟩)] w (Ret (.bool (decide (0 < L.length))) (Frm [] w)):=by
 have CL:=Lib.hid (len_any h)
 have e:decide (0 < L.length)=decide ((0:Int) < (L.length:Int)):=by rw[decide_eq_decide];omega
 rw[e]
 clear h e
 go_enter Tryz.func141,Tryz.ntmps141
 go_wp2_with (go_at_call 103;go_must (refine CL.out.mono ?_;rintro e w1 ⟨rfl,hf⟩;have HF:=Lib.hid hf;clear hf))
 go_ret
 exact⟨by simp,HF.out⟩
def busyB (Ls:List (List ByteArray)):Bool:=Ls.any fun l=>decide (0 < l.length)
theorem busy_ixf (Ls:List (List ByteArray)):decide (0≤ixf (fun l=>decide (0 < l.length)) Ls)=busyB Ls:=by
 unfold busyB
 rw[Bool.eq_iff_iff,decide_eq_true_eq,List.any_eq_true]
 constructor
 ·intro h
  obtain⟨i,hi,-⟩:=ixf_nat h
  obtain⟨x,h1,h2,-⟩:=ixf_at hi
  exact⟨x,List.mem_of_getElem? h1,h2⟩
 ·rintro⟨x,h1,h2⟩
  exact ixf_ex h1 h2
set_option maxRecDepth 100000 in
theorem cfChan_any (cls cap:Int) (v:Value) (Ls:List (List ByteArray)) (w:World) (h:RowV cls cap w v Ls) (hl:Ls.length≤1000):Calls Tryz.prog 140 #[v,.func (.func 141) #[] #[]] w (Ret (.bool (busyB Ls)) (Frm [] w)):=by
 have CI:=Lib.hid (ifChan_any cls cap 141 #[] (fun l=>decide (0 < l.length)) v Ls w h hl Tryz.call_pFinal1 (fun W x cb F _ _ hc=>pFinal1_any cb cls cap x F W hc))
 obtain⟨ao,cq,rfl⟩:=Arr.shape h
 rw[← busy_ixf]
 obtain⟨q,hq⟩:∃ q,ixf (fun l:List ByteArray=>decide (0 < l.length)) Ls=q:=⟨_,rfl⟩
 rw[hq] at CI ⊢
 clear h hl hq
 go_enter Tryz.func140,Tryz.ntmps140
 go_wp2_with (go_at_call 186;go_must (refine CI.out.mono ?_;rintro e w1 ⟨rfl,hf⟩;have HF:=Lib.hid hf;clear hf))
 go_ret
 exact⟨rfl,HF.out⟩
def endB (s:SesD) (x:PS) (i:Nat):Bool:=(x.ways.getD i []).all (fun l=>l.isEmpty) && ((s.rol i).sts.getD (x.at i) dS).fin
theorem busy_all (Ls:List (List ByteArray)):(Ls.all fun l=>l.isEmpty)=!busyB Ls:=by
 unfold busyB
 rw[Bool.eq_iff_iff,List.all_eq_true,Bool.not_eq_true',List.any_eq_false]
 constructor
 ·intro h x hx
  have:=h x hx
  rw[List.isEmpty_iff] at this
  simp[this]
 ·intro h x hx
  have:=h x hx
  rw[decide_eq_true_eq] at this
  rw[List.isEmpty_iff,← List.length_eq_zero_iff];omega
set_option maxHeartbeats 2000000 in
set_option maxRecDepth 100000 in
theorem pFinal_any (s:SesD) (yb fb sb:Nat) (x:PS) (w:World) (h:SyR w s yb fb) (hx:StR w s yb sb x):Calls Tryz.prog 72 #[.pointer (some ⟨yb,0,none⟩),.pointer (some ⟨sb,0,none⟩)] w (Ret (.tuple #[.bool (finalB s x),.int .i64 0]) (Frm [] w)):=by
 have HSY:=Lib.hid h;have HST:=Lib.hid hx
 have C1:=Lib.hid (pCheck_any s yb fb sb x w h hx)
 obtain⟨av,wv,h1,h2,h3⟩:=hx.out
 obtain⟨aa,ca,rfl⟩:=h2.shape
 obtain⟨aw,cw,rfl⟩:=h3.shape
 rw[actsP_len,hx.ok.wl] at h1
 obtain⟨n,hn⟩:∃ n,s.roles.length=n:=⟨_,rfl⟩
 rw[hn] at h1
 have x1:=cell_of h1 1
 have HX1:=Lib.hid x1
 have HN:=Lib.hid hn
 have HFB:Hid (finalB s x=(List.range n).all fun i=>endB s x i):=Lib.hid (by rw[← hn];rfl)
 obtain⟨fb',hfb⟩:∃ b,finalB s x=b:=⟨_,rfl⟩
 rw[hfb] at HFB ⊢
 have hn4:n≤4:=by rw[← hn];exact h.ok.n4
 clear h hx h1 h2 h3 hn hfb
 go_enter Tryz.func72,Tryz.ntmps72
 go_wp2_with (first
  | (go_at_call 61;go_must (refine C1.out.mono ?_;rintro e w' ⟨rfl,rfl⟩)))
 clear x1 C1
 go_loopw [21] (fun s21 wr=>∃ i:Nat,s21=.int .i64 i∧i≤n∧Frm [] w wr∧∀ j,j < i→endB s x j=true) (fun s21 _=>n - (intOf s21).toNat)
 case atStart=>exact⟨0,rfl,Nat.zero_le _,Frm.refl _ _,fun j hj=>by omega⟩
 case round =>
  obtain⟨i,rfl,hi,hf,hno⟩:=hrel
  have HF:=Lib.hid hf;have HNO:=Lib.hid hno
  clear hf hno
  by_cases hlt:i < n
  ·have hlt':(i:Int) < (n:Int):=by omega
   have hin:i < s.roles.length:=by rw[HN.out];exact hlt
   obtain⟨gb,go',cw',rv,y1,y2,y3⟩:=HST.out.row hin
   obtain⟨ab,ao,ac,bb,y4,ha⟩:=HST.out.act hin
   obtain⟨rb,ro,rc,sv,cv,tv,y5,hr⟩:=HSY.out.rol hin
   have hst:(s.rol i).sts[x.at i]?=some ((s.rol i).sts.getD (x.at i) dS):=some_getD (HST.out.ok.pb i hin)
   have hpb:=HST.out.ok.pb i hin
   have hwr:=HST.out.ok.wr i hin
   obtain⟨aS,cS,rfl⟩:=hr.r3.sts.shape
   obtain⟨b1,o1,rfl,-,g1,-⟩:=hr.r3.sts.get hst
   obtain⟨-,d1,-,-,-⟩:=hr
   obtain⟨e0,e1,-⟩:=ha
   rw[HN.out] at y1 y4 y5
   have q:=Option.some.inj (HX1.out.symm.trans y4)
   cases q
   have HEB:Hid (endB s x i=(!busyB (x.ways.getD i []) && ((s.rol i).sts.getD (x.at i) dS).fin)):=Lib.hid (by unfold endB;rw[busy_all])
   obtain⟨Ls,hLs⟩:∃ Ls,x.ways.getD i []=Ls:=⟨_,rfl⟩
   obtain⟨p,hp⟩:∃ p,x.at i=p:=⟨_,rfl⟩
   obtain⟨m,hm⟩:∃ m,(s.rol i).sts.length=m:=⟨_,rfl⟩
   obtain⟨fin,hfi⟩:∃ f,((s.rol i).sts.getD (x.at i) dS).fin=f:=⟨_,rfl⟩
   rw[hfi] at g1 HEB
   rw[hLs] at y3 HEB hwr
   rw[hp] at e0 g1 hpb
   rw[hm] at d1 hpb
   have hpm:(p:Int) < (m:Int):=by omega
   have CF:Hid (∀ V,Frm [] w V→Calls Tryz.prog 140 #[rv,.func (.func 141) #[] #[]] V (Ret (.bool (busyB Ls)) (Frm [] V))):=Lib.hid fun V hV=>cfChan_any s.cls s.cap rv Ls V (y3.frm hV) (by rw[hwr,HN.out];omega)
   obtain⟨bz,hbz⟩:∃ b,busyB Ls=b:=⟨_,rfl⟩
   rw[hbz] at CF HEB
   have HU:Hid (∀ V,Frm [] w V→V.cell? ⟨yb,1,none⟩=some (.slice (some ⟨rb,ro,none⟩) n rc)∧V.cell? ⟨rb,ro + i * 4 + 1,none⟩=some (.slice (some ⟨b1,o1,none⟩) m cS)∧V.cell? ⟨b1,o1 + p * 3 + 1,none⟩=some (.bool fin)):=Lib.hid fun V hV=>⟨hV.keep y5,hV.keep d1,hV.keep g1⟩
   replace y1:=HF.out.keep y1;replace y2:=HF.out.keep y2;replace y4:=HF.out.keep y4;replace e0:=HF.out.keep e0;replace e1:=HF.out.keep e1
   have hl1:=cell_lt y1
   have hl2:=cell_lt y2
   clear hst hwr y3 y5 d1 g1 hLs hp hm hfi hbz hin hpb
   go_upto_region 8 with (first
    | (go_at_call 140;go_must (refine(CF.out _ (HF.out.alloc _)).mono ?_;rintro e w1 ⟨rfl,hf1⟩;have HQ:=Lib.hid (hf1.at (heap_alloc_new wr (.cells #[.int .i64 p,.pointer (some ⟨bb,0,none⟩)] 143)) (by simp));have HF1:Hid (Frm [] w w1):=Lib.hid ((HF.out.alloc _).trans hf1);clear hf1)))
   have HU1:Hid (∀ V,Frm [] w1 V→(V.cell? ⟨yb,1,none⟩=some (.slice (some ⟨rb,ro,none⟩) n rc)∧V.cell? ⟨rb,ro + i * 4 + 1,none⟩=some (.slice (some ⟨b1,o1,none⟩) m cS)∧V.cell? ⟨b1,o1 + p * 3 + 1,none⟩=some (.bool fin))∧V.cell? ⟨wr.heap.size,0,none⟩=some (.int .i64 p)):=Lib.hid fun V hV=>⟨HU.out V (HF1.out.trans hV),hV.keep (cell_of HQ.out 0)⟩
   clear y1 y2 y4 e0 e1 CF hl1 hl2
   have hfalse:endB s x i=false→fb'=false:=fun h=>by
    rw[HFB.out,List.all_eq_false]
    exact⟨i,by simpa using hlt,by rw[h];decide⟩
   have HFA:=Lib.hid hfalse
   clear hfalse
   cases bz with
   | true =>
     have HR:=Lib.hid (HFA.out (by rw[HEB.out];rfl))
     clear HFA
     refine wp_region_cq (by kernel_rfl) (by kernel_rfl) ?_
     repeat (first
      | go_big_quiet_skip
      | (refine wpQuiet_want (by rfl) (fun K hK=>?_)
         first
          | (refine quiet_move _ (by rfl) (hK _ ?_))
          | (refine quiet_assign _ (by rfl) (hK _ ?_))
          | (apply Exists.intro
             refine⟨fun w' hC=>?_,hK _ ?_⟩
             ·(unfold Oper.quietAt
               obtain⟨⟨z1,z2,z3⟩,z4⟩:=HU1.out w' hC
               clear hC
               go_simp
               try exact⟨rfl,rfl⟩
               try rfl))
         clear hK K
         try simp only[nrm,Act.eval,nrq]))
     refine wpQuiet_nil ?_
     intro w2 hf2
     go_wp2
     go_ret2
     exact⟨by rw[HR.out];rfl,HF1.out.trans hf2⟩
   | false =>
     cases fin with
     | false =>
       have HR:=Lib.hid (HFA.out (by rw[HEB.out];rfl))
       clear HFA
       refine wp_region_cq (by kernel_rfl) (by kernel_rfl) ?_
       repeat (first
        | go_big_quiet_skip
        | (refine wpQuiet_want (by rfl) (fun K hK=>?_)
           first
            | (refine quiet_move _ (by rfl) (hK _ ?_))
            | (refine quiet_assign _ (by rfl) (hK _ ?_))
            | (apply Exists.intro
               refine⟨fun w' hC=>?_,hK _ ?_⟩
               ·(unfold Oper.quietAt
                 obtain⟨⟨z1,z2,z3⟩,z4⟩:=HU1.out w' hC
                 clear hC
                 go_simp
                 try exact⟨rfl,rfl⟩
                 try rfl))
           clear hK K
           try simp only[nrm,Act.eval,nrq]))
       refine wpQuiet_nil ?_
       intro w2 hf2
       go_wp2
       go_ret2
       exact⟨by rw[HR.out];rfl,HF1.out.trans hf2⟩
     | true =>
       clear HFA
       refine wp_region_cq (by kernel_rfl) (by kernel_rfl) ?_
       repeat (first
        | go_big_quiet_skip
        | (refine wpQuiet_want (by rfl) (fun K hK=>?_)
           first
            | (refine quiet_move _ (by rfl) (hK _ ?_))
            | (refine quiet_assign _ (by rfl) (hK _ ?_))
            | (apply Exists.intro
               refine⟨fun w' hC=>?_,hK _ ?_⟩
               ·(unfold Oper.quietAt
                 obtain⟨⟨z1,z2,z3⟩,z4⟩:=HU1.out w' hC
                 clear hC
                 go_simp
                 try exact⟨rfl,rfl⟩
                 try rfl))
           clear hK K
           try simp only[nrm,Act.eval,nrq]))
       refine wpQuiet_nil ?_
       intro w2 hf2
       have HF2:=Lib.hid (HF1.out.trans hf2)
       clear hf2
       go_wp2
       refine⟨⟨i + 1,congrArg (Value.int .i64) (by omega),hlt,HF2.out,fun j hj=>?_⟩,by simp[intOf];omega⟩
       by_cases e:j=i
       ·subst e;rw[HEB.out];rfl
       ·exact HNO.out j (by omega)
  ·have hge:¬ (i:Int) < (n:Int):=by omega
   have HR:Hid (fb'=true):=Lib.hid (by
    rw[HFB.out,List.all_eq_true]
    intro j hj
    exact HNO.out j (by rw[List.mem_range] at hj;omega))
   go_wp2
   go_ret2
   exact⟨by rw[HR.out];rfl,HF.out⟩
end Go.Proofs.YtohfkhjlnlahdaaGreat
namespace Go.Proofs.YtohfkhjlnlahdaaGreat
open Go.RowKit Go.BigFrame
theorem setCells_at:∀ (vs:List Value) (o:Nat) (w:World) (b:Nat) (c:Array Value) (t:TypeId),w.heap[b]?=some (.cells c t (0,0))→o + vs.length≤c.size →
  ∃ c',(w.setCells b o vs).heap[b]?=some (.cells c' t (0,0))∧c'.size=c.size∧(∀ j,j < o∨o + vs.length≤j→c'[j]?=c[j]?)∧(∀ j v,vs[j]?=some v→c'[o + j]?=some v)∧Frm [b] w (w.setCells b o vs)
 | [],o,w,b,c,t,h,_=>⟨c,h,rfl,fun _ _=>rfl,fun j v h=>by simp at h,Frm.refl _ _⟩
 | v :: vs,o,w,b,c,t,h,hl=>by
   have hb:=block_setCell h o v
   simp only[List.length_cons] at hl
   obtain⟨c',h1,h2,h3,h4,h5⟩:=setCells_at vs (o + 1) (w.setCell ⟨b,o,none⟩ v) b _ t hb (by simp;omega)
   refine⟨c',h1,by simpa using h2,fun j hj=>?_,fun j u hu=>?_,((Frm.refl _ _).setCell _ (.inl (by simp)) _).trans h5⟩
   ·simp only[List.length_cons] at hj
    rw[h3 j (by omega),Array.getElem?_setIfInBounds_ne (by omega)]
   ·cases j with
    | zero =>
      simp at hu;subst hu
      rw[Nat.add_zero,h3 o (by omega),Array.getElem?_setIfInBounds_self_of_lt (by omega)]
    | succ j =>
      rw[show o + (j + 1)=o + 1 + j by omega]
      exact h4 j u (by simpa using hu)
def mv00:Mv:=⟨0,0,0,0⟩
def RvR (W:World) (g n:Nat) (M:Nat→Mv):Prop:=∃ cur,W.heap[g]?=some (.cells cur 44 (0,0))∧n * 4≤cur.size ∧
 ∀ k,k < n→cur[k * 4]?=some (.int .i64 (M k).kind)∧cur[k * 4 + 1]?=some (.int .i64 (M k).role)∧cur[k * 4 + 2]?=some (.int .i64 (M k).step)∧cur[k * 4 + 3]?=some (.int .i64 (M k).place)
theorem RvR.frm {W V:World} {g n:Nat} {M:Nat→Mv} (h:RvR W g n M) (hf:Frm [] W V):RvR V g n M:=by
 obtain⟨cur,h1,h2⟩:=h
 exact⟨cur,hf.at h1 (by simp),h2⟩
theorem RvR.at {W:World} {g n k:Nat} {M:Nat→Mv} (h:RvR W g n M) (hk:k < n):MvAt W g (k * 4) (M k):=by
 obtain⟨cur,h1,h2,h3⟩:=h
 obtain⟨a,b,c,d⟩:=h3 k hk
 exact⟨(cell_of h1 _).trans a,(cell_of h1 _).trans b,(cell_of h1 _).trans c,(cell_of h1 _).trans d⟩
theorem RvR.set {W:World} {g n i:Nat} {M:Nat→Mv} (h:RvR W g n M) (hi:i < n) (m:Mv):RvR (W.setCells g (i * 4) (mvC1 m)) g n (fun k=>if k=i then m else M k)∧Frm [g] W (W.setCells g (i * 4) (mvC1 m)):=by
 obtain⟨cur,h1,h2,h3⟩:=h
 obtain⟨c',g1,g2,g3,g4,g5⟩:=setCells_at (mvC1 m) (i * 4) W g cur _ h1 (by simp[mvC1];omega)
 refine⟨⟨c',g1,by omega,fun k hk=>?_⟩,g5⟩
 by_cases e:k=i
 ·subst e
  simp only[if_true]
  exact⟨g4 0 _ rfl,g4 1 _ rfl,g4 2 _ rfl,g4 3 _ rfl⟩
 ·simp only[if_neg e]
  have hl:(mvC1 m).length=4:=rfl
  obtain⟨a,b,c,d⟩:=h3 k hk
  refine⟨(g3 _ ?_).trans a,(g3 _ ?_).trans b,(g3 _ ?_).trans c,(g3 _ ?_).trans d⟩ <;> rw[hl] <;> omega
theorem RvR.there {W:World} {g n i:Nat} {M:Nat→Mv} (h:RvR W g n M) (hi:i < n):W.there g (i * 4) 4:=by
 obtain⟨cur,h1,h2,h3⟩:=h
 intro j hj
 refine⟨?_,free_of h1 _⟩
 rw[cell_of h1,Array.getElem?_eq_getElem (by omega)]
 rfl
theorem mv_rv {W:World} {base:Nat} {v:Value} {L:List Mv} (h:W.ownsRow base 44 4 v L.length (mvC L)) (hn:L.length≠0):∃ g cap,v=.slice (some ⟨g,0,none⟩) L.length cap∧RvR W g L.length (fun k=>L.getD k mv00):=by
 obtain⟨-,⟨-,h2⟩ | ⟨g,cap,cur,rfl,-,hh,hc,-,hs,ht⟩⟩:=h
 ·exact absurd h2 hn
 ·refine⟨g,cap,rfl,cur,hh,by rw[hs];exact Nat.mul_le_mul_right _ hc,fun k hk=>?_⟩
  obtain⟨a,b,c,d⟩:=mvC_at (some_getD (d:=mv00) hk)
  have e:∀ j,j < L.length * 4→cur[j]?=(mvC L)[j]?:=fun j hj=>by
   rw[← ht,List.getElem?_take_of_lt hj,Array.getElem?_toList]
  exact⟨(e _ (by omega)).trans a,(e _ (by omega)).trans b,(e _ (by omega)).trans c,(e _ (by omega)).trans d⟩
theorem rv_arr {W:World} {g n cap:Nat} {M:Nat→Mv} {L:List Mv} (h:RvR W g n M) (hn:L.length=n) (hM:∀ k m,L[k]?=some m→M k=m):Arr 4 MvAt W (.slice (some ⟨g,0,none⟩) n cap) L:=
 ⟨_,_,by rw[hn],fun i m hm=>⟨g,0,rfl,by
  have:=h.at (k:=i) (by rw[← hn];exact lt_of_some hm)
  rw[hM i m hm] at this
  rwa [Nat.zero_add]⟩⟩
def revM (L:List Mv) (i k:Nat):Mv:=if k < i∨L.length≤k + i then L.getD (L.length - 1 - k) mv00 else L.getD k mv00
theorem revM_step {L:List Mv} {i j:Nat} (hj:L.length=i + j + 1) (hij:i < j) (k:Nat):(if k=j then revM L i i else if k=i then revM L i j else revM L i k)=revM L (i + 1) k:=by
 unfold revM
 by_cases h1:k=j
 ·subst h1
  rw[if_pos rfl,if_neg (by omega),if_pos (by omega),show L.length - 1 - k=i by omega]
 rw[if_neg h1]
 by_cases h2:k=i
 ·subst h2
  rw[if_pos rfl,if_neg (by omega),if_pos (by omega),show L.length - 1 - k=j by omega]
 rw[if_neg h2]
 by_cases h3:k < i∨L.length≤k + i
 ·rw[if_pos h3,if_pos (by omega)]
 ·rw[if_neg h3,if_neg (by omega)]
theorem revM_end {L:List Mv} {i:Nat} (h:L.length≤i + i + 1) {k:Nat} {m:Mv} (hm:L.reverse[k]?=some m):revM L i k=m:=by
 have hk:k < L.length:=by have:=lt_of_some hm;simpa using this
 rw[List.getElem?_reverse hk] at hm
 have h2:=getD_some (d:=mv00) hm
 unfold revM
 by_cases h3:k < i∨L.length≤k + i
 ·rw[if_pos h3];exact h2
 ·rw[if_neg h3,show k=L.length - 1 - k by omega];exact h2
theorem Tryz.infoMvS:(Tryz.prog.info? 44).map (·.size)=some 4:=by kernel_rfl
theorem one_mv (a b c d:Int):(#[.int .i64 a,.int .i64 b,.int .i64 c,.int .i64 d]:Array Value).all (·.oneCell')=true:=by
 rw[← Array.all_toList];rfl
theorem wp_store_mv {op:Oper} {a:Act} {w:World} {K:Act→World→Prop} {Q:Exit→Act→World→Prop} {g n i:Nat} {M:Nat→Mv} (x y:Operand) (m:Mv) (ho:op.op=.store 44 x y) (hx:a.eval x=.pointer (some ⟨g,i * 4,none⟩)) (hy:a.eval y=mvV m)
  (hR:RvR w g n M) (hi:i < n) (h:∀ w',RvR w' g n (fun k=>if k=i then m else M k)→Frm [g] w w'→K (a.put op.dst undef) w'):op.wp Tryz.prog a w K Q:=
 wp_store_mid 44 x y ho g (i * 4) #[.int .i64 m.kind,.int .i64 m.role,.int .i64 m.step,.int .i64 m.place] hx hy (hR.there hi) Tryz.infoMvS (one_mv _ _ _ _) (h _ (hR.set hi m).1 (hR.set hi m).2)
set_option maxHeartbeats 4000000 in
set_option maxRecDepth 100000 in
theorem rvMove_any (g n cap:Nat) (L:List Mv) (w:World) (hn:L.length=n) (h1:1≤n) (h5:n≤1000000) (h:RvR w g n (fun k=>L.getD k mv00)) :
  Calls Tryz.prog 177 #[.slice (some ⟨g,0,none⟩) n cap] w (RetV fun _ w'=>Arr 4 MvAt w' (.slice (some ⟨g,0,none⟩) n cap) L.reverse∧Frm [g] w w'):=by
 have HN:=Lib.hid hn
 have h0:RvR w g n (revM L 0):=by
  obtain⟨cur,g1,g2,g3⟩:=h
  refine⟨cur,g1,g2,fun k hk=>?_⟩
  have e:revM L 0 k=L.getD k mv00:=by unfold revM;rw[if_neg (by omega)]
  rw[e]
  exact g3 k hk
 have H0:=Lib.hid h0
 have hw:wrap64 ((n:Int) - 1)=((n - 1:Nat):Int):=by unfold wrap64;omega
 clear h hn
 go_enter Tryz.func177,Tryz.ntmps177
 go_wp2
 go_loopw [2,3] (fun s2 s3 wr=>∃ i:Nat,(s2=.int .i64 i∧s3=.int .i64 ((n - 1 - i:Nat):Int))∧2 * i≤n∧i < n∧RvR wr g n (revM L i)∧Frm [g] w wr) (fun s2 _ _=>n - (intOf s2).toNat)
 case atStart=>exact⟨0,⟨rfl,by congr 1;omega⟩,by omega,by omega,H0.out,Frm.refl _ _⟩
 case round =>
  obtain⟨i,⟨rfl,rfl⟩,hi2,hi,hr,hf⟩:=hrel
  obtain⟨j,hj⟩:∃ j,n - 1 - i=j:=⟨_,rfl⟩
  rw[hj]
  have HJ:=Lib.hid hj;have HR:=Lib.hid hr;have HF:=Lib.hid hf
  obtain⟨wq,hwq⟩:∃ wq,wq=wr:=⟨_,rfl⟩
  subst hwq
  clear hr hf hw
  by_cases hlt:i < j
  ·have hlt':(i:Int) < (j:Int):=by omega
   have hjn:j < n:=by omega
   go_upto_region 3 with (fail)
   generalize hQQ:Exit.inBlock _ _=QQ
   refine wp_mono (Q:=fun e a' w'=>match e with | .normal=>QQ .normal a' w' | _=>False) ?_ (fun e a' w' h=>by cases e <;> first | exact h | exact h.elim)
   have HCT:Hid (∀ V,Frm [] wq V→MvAt V g (j * 4) (revM L i j)∧MvAt V g (i * 4) (revM L i i)):=Lib.hid fun V hV=>⟨(HR.out.frm hV).at hjn,(HR.out.frm hV).at hi⟩
   refine heldL_start [] (wrFrom 13) (by kernel_rfl) ?_
   refine cnt 2 ?_
   iterate 2
    refine hcP ?_ ?_ ?_
    rotate_left
    ·intro w'
     go_simp
     try rfl
    try simp only[nrm,Nat.reduceAdd]
   refine tcn ?_
   refine cnt 0 ?_
   iterate 2
    refine hcL ?_ ?_ ?_
    rotate_left
    ·intro w' hC
     obtain⟨⟨x0,x1,x2,x3⟩,⟨y0,y1,y2,y3⟩⟩:=HCT.out w' ((Frm.refl [] wq).drew.trans hC)
     clear hC
     go_simp
     try rfl
    try simp only[nrm,Nat.reduceAdd]
   refine tcn ?_
   refine cnt 4 ?_
   iterate 9
    refine hcL ?_ ?_ ?_
    rotate_left
    ·intro w' hC
     obtain⟨⟨x0,x1,x2,x3⟩,⟨y0,y1,y2,y3⟩⟩:=HCT.out w' ((Frm.refl [] wq).drew.trans hC)
     clear hC
     go_simp
     try rfl
    try simp only[nrm,Nat.reduceAdd]
   refine tcn ?_
   refine honL 13 ?_
   refine heldL_write (i:=13) rfl (by rfl) (by rfl) (fun K' hK'=>?_)
   refine wp_store_mv (g:=g) (n:=n) (i:=i) (M:=revM L i) _ _ (revM L i j) rfl rfl rfl (HR.out.frm ((Frm.refl _ _).drew)) hi ?_
   intro wa hra hfa
   have HRA:=Lib.hid hra
   have HFA:Hid (Frm [g] wq wa):=Lib.hid ((((Frm.refl [] wq).drew).mono (by simp)).trans hfa)
   clear hra hfa
   refine hK'.out _ _ ?_
   clear hK' K'
   try simp only[nrm]
   refine honL 14 ?_
   refine heldL_write (i:=14) rfl (by rfl) (by rfl) (fun K' hK'=>?_)
   go_simp
   (skip)
   refine hK'.out _ _ ?_
   clear hK' K'
   try simp only[nrm]
   refine honL 15 ?_
   refine heldL_write (i:=15) rfl (by rfl) (by rfl) (fun K' hK'=>?_)
   refine wp_store_mv (g:=g) (n:=n) (i:=j) (M:=fun k=>if k=i then revM L i j else revM L i k) _ _ (revM L i i) rfl rfl rfl HRA.out hjn ?_
   intro wb hrb hfb
   have HRB:=Lib.hid hrb
   have HFB:Hid (Frm [g] wq wb):=Lib.hid (HFA.out.trans hfb)
   clear hrb hfb
   refine hK'.out _ _ ?_
   clear hK' K'
   try simp only[nrm]
   refine heldL_done (by kernel_rfl) ?_ _
   subst hQQ
   have hn9:=HN.out
   have hr9:RvR wb g n (revM L (i + 1)):=by
    have:=HRB.out
    rwa [show (fun k=>if k=j then revM L i i else if k=i then revM L i j else revM L i k)=revM L (i + 1) from funext fun k=>revM_step (by omega) hlt k] at this
   have HR9:=Lib.hid hr9
   clear hr9
   go_wp2
   exact⟨⟨i + 1,⟨rfl,by congr 1;omega⟩,by omega,by omega,HR9.out,HF.out.trans HFB.out⟩,by simp[intOf];omega⟩
  ·have hlt':¬ (i:Int) < (j:Int):=by omega
   go_wp2
   refine bodyPost_ret (results_none rfl _ _ _) rfl ?_
   exact⟨_,rfl,rv_arr HR.out (by simpa using HN.out) (fun k m hm=>revM_end (by have:=HN.out;omega) hm),HF.out⟩
end Go.Proofs.YtohfkhjlnlahdaaGreat
namespace Go.Proofs.YtohfkhjlnlahdaaGreat
open Go.RowKit Go.BigFrame Go.Maps
set_option maxRecDepth 100000 in
theorem rvMove_nil (ao:Option Addr) (cap:Nat) (w:World):Calls Tryz.prog 177 #[.slice ao 0 cap] w (RetV fun _ w'=>w=w'):=by
 go_enter Tryz.func177,Tryz.ntmps177
 go_wp2
 go_loopw [2,3] (fun s2 s3 wr=>(s2=.int .i64 0∧s3=.int .i64 (-1))∧w=wr) (fun _ _ _=>0)
 case atStart=>exact⟨⟨rfl,rfl⟩,rfl⟩
 case round =>
  obtain⟨⟨rfl,rfl⟩,rfl⟩:=hrel
  go_wp2
  refine bodyPost_ret (results_none rfl _ _ _) rfl ?_
  exact⟨_,rfl,rfl⟩
set_option maxRecDepth 100000 in
theorem xTurned_any {L:List Mv} {base:Nat} {v:Value} {w:World} (h:w.ownsRow base 44 4 v L.length (mvC L)) (h5:L.length≤1000000) :
  Calls Tryz.prog 119 #[v] w (RetV fun u w'=>u=v∧Arr 4 MvAt w' v L.reverse∧Frm v.ownBlock.toList w w'):=by
 by_cases h0:L.length=0
 ·obtain⟨ao,cap,rfl⟩:=own_shape h
  have hL:L=[]:=List.length_eq_zero_iff.1 h0
  subst hL
  have C1:=Lib.hid (rvMove_nil ao cap w)
  have hA:Hid (Arr 4 MvAt w (.slice ao 0 cap) (List.reverse [])):=Lib.hid ⟨_,_,rfl,fun i m hm=>by simp at hm⟩
  clear h
  simp only[List.length_nil]
  go_enter Tryz.func119,Tryz.ntmps119
  go_wp2_with (first
   | (go_at_call 177;go_must (refine C1.out.mono ?_;rintro e w' ⟨v,rfl,rfl⟩)))
  go_ret
  exact⟨_,rfl,rfl,hA.out,Frm.refl _ _⟩
 ·obtain⟨g,cap,rfl,hr⟩:=mv_rv h h0
  have C1:=Lib.hid (rvMove_any g L.length cap L w rfl (by omega) h5 hr)
  clear h hr
  go_enter Tryz.func119,Tryz.ntmps119
  go_wp2_with (first
   | (go_at_call 177;go_must (refine C1.out.mono ?_;rintro e w' ⟨v,rfl,h1,h2⟩;have H1:=Lib.hid h1;have H2:=Lib.hid h2;clear h1 h2)))
  go_ret
  exact⟨_,rfl,rfl,H1.out,H2.out⟩
def parOf (nb:Nat) (w:World):Nat:=(intOf ((w.cell? ⟨nb,1,none⟩).getD undef) + 1).toNat
abbrev ndA (d:Nd × Nat):Array Value:=#[.pointer (some ⟨d.2,0,none⟩),.int .i64 d.1.par,.int .i64 d.1.mv.kind,.int .i64 d.1.mv.role,.int .i64 d.1.mv.step,.int .i64 d.1.mv.place,.int .i64 d.1.lvl]
theorem parOf_at {nb:Nat} {w:World} {d:Nd × Nat} {t:TypeId} (h:w.heap[nb]?=some (.cells (ndA d) t (0,0))):parOf nb w=(d.1.par + 1).toNat:=by
 have h2:w.cell? ⟨nb,1,none⟩=some (.int .i64 d.1.par):=cell_of h 1
 unfold parOf
 rw[h2]
 rfl
set_option maxHeartbeats 4000000 in
set_option maxRecDepth 100000 in
theorem xTrace_any {W:World} {s:SesD} {yb pb lim nn i:Nat} {whole:Bool} {N:List (Nd × Nat)} (h:SpO W s yb whole pb N) (hi:SI s lim nn (N.map Prod.fst)) (hlt:i < N.length) (h5:N.length≤200000) :
  Calls Tryz.prog 58 #[.pointer (some ⟨pb,0,none⟩),.int .i64 i] W (RetV fun v w'=>∃ u,v=.tuple #[u,.int .i64 0]∧Arr 4 MvAt w' u (traceP (N.map Prod.fst) i)∧Frm [] W w'):=by
 have HS:=Lib.hid h;have HI:=Lib.hid hi
 obtain⟨d,hd⟩:∃ d,N[i]?=some d:=⟨_,List.getElem?_eq_getElem hlt⟩
 have C1:=Lib.hid (xNode_in h hd (by omega))
 have HD:=Lib.hid hd
 clear h hi hd
 go_enter Tryz.func58,Tryz.ntmps58
 go_wp2_with (first
  | (go_at_call 118;go_must (refine C1.out.mono ?_;rintro e w1 ⟨rfl,hf⟩;have HF:=Lib.hid hf;clear hf)))
 have hnb0:=heap_alloc_new w1 (.cells (ndA d) 216)
 have hf0:Frm [] W (w1.alloc (.cells (ndA d) 216)):=HF.out.alloc _
 have hle:W.heap.size≤w1.heap.size:=HF.out.size
 obtain⟨nb,hnb⟩:∃ nb,w1.heap.size=nb:=⟨_,rfl⟩
 rw[hnb] at hnb0 hle ⊢
 have HN0:=Lib.hid hnb0;have HF0:=Lib.hid hf0;have HLE:=Lib.hid hle
 clear hnb0 hf0 hle HF C1
 go_loopw [4,5] (fun s4 s5 wr=>∃ (c:Nat) (e:Nd × Nat) (R:List Mv) (ao:Option Addr) (cp:Nat),(s4=.slice ao R.length cp∧s5=.int .i64 0)∧N[c]?=some e∧R.length + c≤i∧traceP (N.map Prod.fst) i=traceP (N.map Prod.fst) c ++ R.reverse∧wr.ownsRow W.heap.size 44 4 (.slice ao R.length cp) R.length (mvC R)∧wr.heap[nb]?=some (.cells (ndA e) 216 (0,0))∧Frm [] W wr) (fun _ _ w=>parOf nb w)
 case atStart=>exact⟨i,d,[],none,0,⟨rfl,rfl⟩,HD.out,by simp,by simp,World.ownsRow_nil _ _ _ _,HN0.out,HF0.out⟩
 case round =>
  obtain⟨c,e,R,ao,cp,⟨rfl,rfl⟩,he,hRc,htr,ho,hn,hf⟩:=hrel
  obtain⟨wq,hwq⟩:∃ wq,wq=wr:=⟨_,rfl⟩
  subst hwq
  have HTR:=Lib.hid htr;have HO:=Lib.hid ho;have HNB:=Lib.hid hn;have HFQ:=Lib.hid hf
  have hm:(N.map Prod.fst)[c]?=some e.1:=by rw[List.getElem?_map,he];rfl
  have n1:wq.cell? ⟨nb,1,none⟩=some (.int .i64 e.1.par):=cell_of hn 1
  by_cases hp:0≤e.1.par
  ·have hc0:0 < c:=by
    rcases Nat.eq_zero_or_pos c with h0 | h0
    ·subst h0
     rw[HI.out.one] at hm
     rw[← Option.some.inj hm] at hp
     exact absurd hp (show ¬ (0:Int)≤-1 by decide)
    ·exact h0
   obtain⟨p,b,hpar,hpc,hb,-⟩:=HI.out.par c e.1 hm hc0
   have hcl:=lt_of_some he
   obtain⟨e',he'⟩:∃ e',N[p]?=some e':=⟨_,List.getElem?_eq_getElem (by omega)⟩
   have hm':(N.map Prod.fst)[p]?=some e'.1:=by rw[List.getElem?_map,he'];rfl
   have hlow:e'.1.par < p:=by
    rcases Nat.eq_zero_or_pos p with h0 | h0
    ·subst h0
     rw[HI.out.one] at hm'
     rw[← Option.some.inj hm']
     exact(show (-1:Int) < 0 by decide)
    ·obtain⟨p2,b2,h1,h2,-⟩:=HI.out.par p e'.1 hm' h0
     rw[h1];omega
   have HST:=Lib.hid (trace_step HI.out hm hpar hpc)
   have n2:wq.cell? ⟨nb,2,none⟩=some (.int .i64 e.1.mv.kind):=cell_of hn 2
   have n3:wq.cell? ⟨nb,3,none⟩=some (.int .i64 e.1.mv.role):=cell_of hn 3
   have n4:wq.cell? ⟨nb,4,none⟩=some (.int .i64 e.1.mv.step):=cell_of hn 4
   have n5:wq.cell? ⟨nb,5,none⟩=some (.int .i64 e.1.mv.place):=cell_of hn 5
   rw[hpar] at n1
   have hpz:(0:Int)≤(p:Int):=by omega
   have HE':=Lib.hid he';have HPAR:=Lib.hid hpar;have HLOW:=Lib.hid hlow
   obtain⟨i0,hi0,hz0,hz1,hz2⟩:=info_parts Tryz.infoMv
   have hsz:W.heap.size≤(wq.alloc (.cells #[.int .i64 e.1.mv.kind,.int .i64 e.1.mv.role,.int .i64 e.1.mv.step,.int .i64 e.1.mv.place] 44)).heap.size:=by have:=hf.size;simp;omega
   have hne:(Value.slice ao R.length cp).ownBlock≠some nb:=fun h=>by
    obtain⟨cu,hcu⟩:=ownBlock_type ho h
    rw[hn] at hcu;cases hcu
   have HNE:=Lib.hid hne
   clear htr ho hn hf hm hm' hp hpar hb he he' hlow hne
   go_wp2_with (first
    | (at_builtin;refine wpList_append_own_at _ rfl _ _ 31 rfl W.heap.size 44 i0 (.agg #[.int .i64 0,.int .i64 0,.int .i64 0,.int .i64 0]) 4 32 Tryz.underlying31 hi0 hz0 hz1 hz2 rfl (by decide) (.slice ao R.length cp) R.length (mvC R) rfl (HO.out.alloc _) ⟨wq.heap.size,0,none⟩ 1 1 (mvC1 e.1.mv) rfl rfl (new_row _ _ _) (by simp[mvC1,Value.oneCell']) (by unfold maxLen;omega) (by omega) hsz ?_;intro v' w6 hown' hgrow _ _;obtain⟨ao',cp',rfl⟩:=own_shape hown';have hf6:Frm [] W w6:=(HFQ.out.alloc _).grown hgrow (fun k hk=>.inr (ownBlock_ge HO.out hk));have h6:=grown_at hgrow (alloc_at HNB.out) HNE.out;have HF6:=Lib.hid hf6;have HNB6:=Lib.hid h6;have HO6:=Lib.hid hown';have m1:w6.cell? ⟨nb,1,none⟩=some (.int .i64 (p:Int)):=by { rw[← HPAR.out];exact cell_of h6 1 };clear hgrow hown' h6 hf6 n1 n2 n3 n4 n5)
    | (go_at_call 118;go_must (refine(xNode_in (HS.out.frm HF6.out) HE'.out (by omega)).mono ?_;rintro en w7 ⟨rfl,hf7⟩;have HF7:=Lib.hid hf7;have HNB7:=Lib.hid (hf7.at HNB6.out (by simp));clear hf7 m1))
    | (refine wpList_store_row rfl 216 _ _ rfl _ _ _ 216 rfl rfl HNB7.out rfl Tryz.infoNode (one_nd _ _ _ _ _ _ _) ?_;intro w8 hb8 hf8;have HB8:=Lib.hid hb8;have HF8:=Lib.hid hf8;clear hb8 hf8))
   have hm1:parOf nb w8 < parOf nb wq:=by
    rw[parOf_at (d:=e') HB8.out,parOf_at HNB.out,HPAR.out]
    have:=HLOW.out
    omega
   have hlen:(R ++ [e.1.mv]).length=R.length + 1:=by simp
   have hO8:w8.ownsRow W.heap.size 44 4 (.slice ao' (R.length + 1) cp') (R.length + 1) (mvC (R ++ [e.1.mv])):=by
    have h0:(Value.slice ao' (R.length + 1) cp').ownBlock≠some nb:=fun h=>by
     obtain⟨cu,hcu⟩:=ownBlock_type HO6.out h
     rw[HNB6.out] at hcu;cases hcu
    have e9:mvC (R ++ [e.1.mv])=mvC R ++ mvC1 e.1.mv:=by rw[mvC_append];simp[mvC]
    rw[e9]
    exact HF8.out.owns (HF7.out.owns HO6.out (by simp)) (fun k hk hm=>by
     rw[List.mem_singleton] at hm
     rw[hm] at hk
     exact h0 hk)
   refine⟨⟨p,e',R ++ [e.1.mv],ao',cp',⟨by rw[hlen],rfl⟩,HE'.out,by rw[hlen];omega,?_,by rw[hlen];exact hO8,HB8.out,(HF6.out.trans HF7.out).then HF8.out (fun k hk=>?_)⟩,hm1⟩
   ·rw[HTR.out,HST.out,List.reverse_append,List.append_assoc];rfl
   ·rw[List.mem_singleton] at hk
    subst hk
    exact .inr HLE.out
  ·have hp':¬ (0:Int)≤e.1.par:=hp
   have hc0:c=0:=by
    rcases Nat.eq_zero_or_pos c with h0 | h0
    ·exact h0
    ·obtain⟨p,b,hpar,-⟩:=HI.out.par c e.1 hm h0
     omega
   subst hc0
   have hz:=trace_zero HI.out
   have CT:=Lib.hid (xTurned_any ho (by omega))
   have HZ:=Lib.hid hz
   clear htr ho hn hf hm hz
   go_wp2_with (first
    | (go_at_call 119;go_must (refine CT.out.mono ?_;rintro en w7 ⟨v,rfl,rfl,h1,h2⟩;have H1:=Lib.hid h1;have H2:=Lib.hid h2;clear h1 h2)))
   go_ret2
   refine⟨_,rfl,_,rfl,?_,HFQ.out.then H2.out (fun k hk=>?_)⟩
   ·rw[HTR.out,HZ.out,List.nil_append];exact H1.out
   ·rw[Option.mem_toList] at hk;exact .inr (ownBlock_ge HO.out hk)
end Go.Proofs.YtohfkhjlnlahdaaGreat
