/- Part of the proof. -/
import Derived.Test.YtemjlpahohmajaaGreatU29
import Derived.Test.YtemjlpahohmajaaGreatU36
import Derived.Maps.OwnSet
import Derived.Maps.OwnOps
import Derived.WalkMore
import Derived.Test.YtemjlpahohmajaaGreatU35
import Derived.Test.YtemjlpahohmajaaGreatU23
import Derived.Test.YtemjlpahohmajaaGreatU37
import Derived.Test.YtemjlpahohmajaaGreatU39
import Derived.Shelf.SortM.Plain
import Derived.Shelf.SortM.SortNone
import Derived.Sort.CutIn
import Derived.OrdersIn
import Derived.Laws.StructEq
set_option linter.all false
namespace Go.Proofs.YtemjlpahohmajaaGreat
open Go.RowKit Go.BigFrame Go.Maps
theorem ctV_val (l:List (CtrD × Int)) (n:ByteArray):∃ a e,ctV l n=.tuple #[.int .i64 a,.int .i64 e]:=by
 unfold ctV
 split
 ·split
  ·exact⟨_,_,rfl⟩
  ·exact⟨_,_,rfl⟩
 ·exact⟨_,_,rfl⟩
theorem guard_val {s:SesD} {x:PS} (hs:SesOk s) (hx:PSok s x) {i:Nat} (hi:i < s.roles.length) {t:StpD} (ht:t∈(s.rol i).steps) {a e:Int} (hv:ctV (x.ctr s i) t.ctr=.tuple #[.int .i64 a,.int .i64 e]) :
  bankOk (s.rol i).ctrs (x.bank i) t=(decide (t.ctr=emptyS) || (decide (t.low≤a) && decide (a≤t.high))):=by
 have hst:=(hs.at hi).stp t ht
 have hvb:=hx.vb i hi
 rw[bank_guard hst hvb]
 by_cases he:t.ctr=emptyS
 ·rw[decide_eq_true he];rfl
 ·obtain⟨k,c,h1,h2,-⟩:=hst.ctr he
  have h3:ctV (x.ctr s i) t.ctr=.tuple #[.int .i64 ((x.bank i).getD k 0),.int .i64 0]:=by
   unfold ctV PS.ctr
   rw[cnIx_zip hvb.1,h1,Int.toNat_natCast,zip_at hvb.1 h2]
   simp only
   rw[if_pos (by omega)]
  rw[h3] at hv
  injection hv with hv
  have h4:(x.bank i).getD k 0=a:=by
   have:=congrArg (fun A:Array Value=>A.getD 0 undef) hv
   simp at this
   simpa using this
  rw[h1,Int.toNat_natCast,h4]
set_option maxHeartbeats 2000000 in
set_option maxRecDepth 100000 in
theorem xpGrd_any (s:SesD) (yb fb sb i:Nat) (x:PS) (t:StpD) (w:World) (h:SyR w s yb fb) (hx:StR w s yb sb x) (hi:i < s.roles.length) (ht:t∈(s.rol i).steps) :
  Calls Tryz.prog 125 #[.pointer (some ⟨sb,0,none⟩),.int .i64 i,stpV t] w (Ret (.bool (bankOk (s.rol i).ctrs (x.bank i) t)) (Frm [] w)):=by
 obtain⟨a,e,hv⟩:=ctV_val (x.ctr s i) t.ctr
 rw[guard_val h.ok hx.ok hi ht hv]
 obtain⟨W0,hW0⟩:∃ W0,w.alloc (.cells #[.string t.frm,.string t.to,.int .i64 t.kind,.string t.msg,.string t.peer,.string t.ctr,.int .i64 t.low,.int .i64 t.high,.int .i64 t.add] 90)=W0:=⟨_,rfl⟩
 have hf0:Frm [] w W0:=by rw[← hW0];exact(Frm.refl _ _).alloc _
 have CC:=Lib.hid (pCounter_ok s yb fb sb i x t.ctr W0 (h.frm hf0) (hx.frm hf0) hi)
 rw[hv] at CC
 have HB:Hid (∀ V,Frm [] W0 V→V.cell? ⟨w.heap.size,5,none⟩=some (.string t.ctr)∧V.cell? ⟨w.heap.size,6,none⟩=some (.int .i64 t.low)∧V.cell? ⟨w.heap.size,7,none⟩=some (.int .i64 t.high)):=Lib.hid fun V hV=>by
  have hb:=hV.at (show W0.heap[w.heap.size]?=_ by rw[← hW0];exact heap_alloc_new _ _) (by simp)
  exact⟨cell_of hb 5,cell_of hb 6,cell_of hb 7⟩
 have HF0:=Lib.hid hf0;have HE:=Lib.hid hW0
 clear hi ht hx h hf0 hW0 hv
 go_enter Tryz.func125,Tryz.ntmps125
 go_upto_region 1 with (first | (refine wpList_box_row rfl 90 _ rfl _ rfl ?_;rw[HE.out]))
 clear HE
 obtain⟨x5,x6,x7⟩:=HB.out _ (Frm.refl _ _)
 go_upto_region 2 with (first
  | (go_at_call 161;go_must (refine CC.out.mono ?_;rintro e w1 ⟨rfl,hf1⟩;have HF1:=Lib.hid hf1;clear hf1 x5 x6 x7 CC)))
 obtain⟨x5,x6,x7⟩:=HB.out _ HF1.out
 have HFE:=Lib.hid (HF0.out.trans HF1.out)
 clear HB HF0 HF1
 by_cases he:t.ctr=emptyS
 ·have hq:t.ctr.toList.isEmpty=true:=emp_yes he
  have HD:Hid (decide (t.ctr=emptyS)=true):=Lib.hid (decide_eq_true he)
  clear he
  go_wp2
  go_ret
  exact⟨by rw[HD.out];rfl,HFE.out⟩
 ·have hq:t.ctr.toList.isEmpty=false:=emp_no he
  have HD:Hid (decide (t.ctr=emptyS)=false):=Lib.hid (decide_eq_false he)
  clear he
  by_cases h1:t.low≤a
  ·have HL:Hid (decide (t.low≤a)=true):=Lib.hid (decide_eq_true h1)
   have h1':=HL.out
   go_wp2
   go_ret
   refine⟨?_,HFE.out⟩
   rw[HD.out,HL.out]
   simp
  ·have HL:Hid (decide (t.low≤a)=false):=Lib.hid (decide_eq_false h1)
   have h1':=HL.out
   go_wp2
   go_ret
   exact⟨by rw[HD.out];rfl,HFE.out⟩
def ArrTo (w:World) (cls:Int) (L:List ByteArray) (v:Value) (w':World):Prop:=∃ bl bc cb sv,v=.func (.func 149) #[] #[.pointer (some ⟨bl,0,none⟩),.pointer (some ⟨bc,0,none⟩)]∧ChR bl bc cb cls sv L w'∧(∃ F,Chn w' cb cls 64 L F)∧Frm [] w w'
set_option maxHeartbeats 2000000 in
set_option maxRecDepth 100000 in
theorem xpArr_any (s:SesD) (yb sb i p:Nat) (x:PS) (w:World) (hs:SesOk s) (hx:StR w s yb sb x) (hi:i < s.roles.length) (hp:p < s.roles.length) (hne:p≠i) :
  Calls Tryz.prog 123 #[.pointer (some ⟨sb,0,none⟩),.int .i64 s.cls,.int .i64 i,.int .i64 p] w (RetV (ArrTo w s.cls (x.way p i))):=by
 have CC:=Lib.hid (pChannel_ok s yb sb p i x w hx hp hi hne)
 have hwb:=hx.ok.wb p i hp hi
 have hk4:=hs.k4
 obtain⟨L,hL⟩:∃ L,x.way p i=L:=⟨_,rfl⟩
 rw[hL] at CC hwb ⊢
 obtain⟨m,hm⟩:∃ m,L.length=m:=⟨_,rfl⟩
 have HN:=Lib.hid hm
 have HM:Hid (m≤4∧∀ b∈L,1≤b.size∧b.size≤32):=Lib.hid ⟨by omega,hwb.2⟩
 have CN:Hid (∀ V,Calls Tryz.prog 82 #[.int .i64 s.cls,.int .i64 64] V (Ret (.tuple #[.pointer (some ⟨V.heap.size,0,none⟩),.int .i64 0]) (fun w'=>Frm [] V w'∧Chn w' V.heap.size s.cls 64 [] [V.heap.size]))):=Lib.hid fun V=>new_ok s.cls 64 V (by unfold okC;exact decide_eq_true ⟨hs.c1,hs.c3,by omega,by omega⟩)
 clear hx hi hp hne hs hL hwb hk4 hm
 go_enter Tryz.func123,Tryz.ntmps123
 go_upto_region 4 with (first
  | (go_at_call 159;go_must (refine CC.out.mono ?_;rintro e w1 ⟨v,rfl,u,rfl,hfr⟩;obtain⟨ao,cp,rfl,-,hcs⟩:=hfr.1.shape;have HFR:=Lib.hid hfr;have HCS:=Lib.hid hcs;rw[HN.out];clear hfr hcs CC))
  | (go_at_call 82;go_must (refine(CN.out _).mono ?_;rintro e w2 ⟨rfl,hf,hch⟩;have HF2:=Lib.hid hf;have HCH:=Lib.hid hch;clear hf hch CN)))
 have HF02:Hid (Frm [] w w2):=Lib.hid (HFR.out.2.1.trans HF2.out)
 obtain⟨cb,hcb⟩:∃ cb,w1.heap.size=cb:=⟨_,rfl⟩
 have HCB:Hid (w.heap.size≤cb):=Lib.hid (by rw[← hcb];exact HFR.out.2.1.size)
 rw[hcb] at HCH ⊢
 have HB1:=Lib.hid hcb
 clear hcb
 go_loopw [29] (fun s29 wr=>∃ (k:Nat) (F:List Nat),s29=.int .i64 k∧k≤m∧Chn wr cb s.cls 64 (L.take k) F∧Frm [] w1 wr∧∀ y∈F,cb≤y) (fun s29 _=>m - (intOf s29).toNat)
 case atStart=>exact⟨0,_,rfl,Nat.zero_le _,HCH.out,HF2.out,by simp⟩
 case round =>
  obtain⟨k,F,rfl,hk,hch,hf,hF⟩:=hrel
  have HC:=Lib.hid hch;have HF:=Lib.hid hf;have HFy:=Lib.hid hF
  clear hch hf hF
  by_cases hlt:k < m
  ·obtain⟨b,hb⟩:∃ b,L[k]?=some b:=⟨_,List.getElem?_eq_getElem (by rw[HN.out];exact hlt)⟩
   obtain⟨g,hg,cg⟩:=HCS.out k b hb
   subst hg
   have cg1:=HF.out.keep cg
   have hsz:=HM.out.2 b (List.mem_of_getElem? hb)
   have CP:=Lib.hid (put_any cb s.cls 64 (L.take k) F b wr HC.out hsz.1 hsz.2 (by rw[List.length_take];have:=HM.out.1;omega))
   rw[(take_snoc' hb).1.symm] at CP
   have hlt':(k:Int) < (m:Int):=by omega
   have hm4:=HM.out.1
   clear hb cg hsz
   go_wp2_with (first
    | (go_at_call 67;go_must (refine CP.out.mono ?_;rintro e w3 ⟨rfl,F',hc,hf,hF⟩;have HC3:=Lib.hid hc;have HF3:=Lib.hid hf;have HFy3:=Lib.hid hF;clear hc hf hF CP)))
   go_roundw
   case rel =>
    refine⟨k + 1,F',by go_num,hlt,HC3.out,HF.out.then HF3.out (fun y hy=>.inr ?_),fun y hy=>?_⟩
    ·have:=HFy.out y hy;have:=HB1.out;omega
    ·rcases HFy3.out y hy with h | h
     ·exact HFy.out y h
     ·have:=HF.out.size;have:=HB1.out;omega
   case measure=>simp[intOf];omega
  ·obtain rfl:k=m:=by omega
   have hge:¬ (k:Int) < (k:Int):=by omega
   have HC9:Hid (Chn wr cb s.cls 64 L F):=Lib.hid (by have:=HC.out;rwa [List.take_of_length_le (by rw[HN.out];exact Nat.le_refl _)] at this)
   have CH:=Lib.hid (choose_any cb s.cls 64 L F wr HC9.out)
   go_wp2_with (first
    | (go_at_call 106;go_must (refine CH.out.mono ?_;rintro e w4 ⟨v,rfl,bl,bc,sv,rfl,hcr,hf,-⟩;have HCR:=Lib.hid hcr;have HF4:=Lib.hid hf;clear hcr hf CH)))
   go_ret
   exact⟨_,rfl,bl,bc,cb,sv,rfl,HCR.out,⟨F,HC9.out.frm HF4.out (by simp)⟩,HFR.out.2.1.trans (HF.out.trans HF4.out)⟩
end Go.Proofs.YtemjlpahohmajaaGreat
namespace Go.Proofs.YtemjlpahohmajaaGreat
open Go.RowKit Go.BigFrame Go.Maps
section
variable {F:Fence} {n:Nat} {P:Program} {b:Frame} {a:Act} {k:List Item} {cs:List Frame} {w:World} {Q:Exit→Act→World→Prop}
theorem stepR_scope {c:Code}:step P (lone (b.atR a (.code (.scope c) :: k)) cs w)=.next (lone (b.atR a (.code c :: .inScope c :: k)) cs w):=
 step_lone_go (by simp[stepG,stepG.exec,Frame.atR])
theorem stepR_inScope {c:Code}:step P (lone (b.atR a (.inScope c :: k)) cs w)=.next (lone (b.atR a k) cs w):=
 step_lone_go (by simp[stepG,stepG.exec,Frame.atR])
theorem wpIn_scope_straight {c:Code} (h:c.wpIn F n P (Exit.noGoto Q) a w):(Code.scope c).wpIn F n P Q a w:=by
 intro b k cs hro hb hr
 have h0:(lone (b.atR a (.code (.scope c) :: k)) cs w).fenced P F:=fenced_calm hb hr rfl
 obtain⟨e,a₁,w₁,hq,harr⟩:=h b (.inScope c :: k) cs hro hb hr
 cases e with
 | normal=>exact⟨.normal,a₁,w₁,hq,.head h0 stepR_scope (StepsIn.trans harr (.one (fenced_calm hb hr rfl) stepR_inScope))⟩
 | exit id =>
   have hx:exitTo id (.inScope c :: k)=exitTo id k:=by simp[exitTo]
   exact⟨_,a₁,w₁,hq,fun k' hk=>.head h0 stepR_scope (harr.1 k' (by rw[hx];exact hk)),
    fun hr' hk=>let ⟨k₁,h1,h2⟩:=harr.2 hr' (by rw[hx];exact hk);⟨k₁,h1,.head h0 stepR_scope h2⟩⟩
 | goto l=>exact hq.elim
 | ret=>exact⟨_,a₁,w₁,hq,.of_steps (.one h0 stepR_scope) harr⟩
 | panic ch=>exact⟨_,a₁,w₁,hq,.of_steps (.one h0 stepR_scope) harr⟩
 | outgrown=>exact⟨_,a₁,w₁,hq,.of_steps (.one h0 stepR_scope) harr⟩
end
def StsTo (w:World) (po:Option Addr) (v:Value) (w':World):Prop:=∃ bx,v=.func (.func 58) #[] #[.pointer (some ⟨bx,0,none⟩)]∧w'.heap[bx]?=some (.cells #[.pointer po] 30 (0,0))∧Frm [] w w'
theorem xStates_any (po:Option Addr) (w:World):Calls Tryz.prog 25 #[.pointer po] w (RetV (StsTo w po)):=by
 go_enter Tryz.func25,Tryz.ntmps25
 go_wp2
 go_ret
 exact⟨_,rfl,_,rfl,heap_alloc_new _ _,(Frm.refl _ _).alloc _⟩
structure StI (B:Nat) (s:SesD) (yb pb:Nat) (whole:Bool) (N:List (Nd × Nat)) (W:World):Prop where
 b:W.heap[B]?=some (.cells #[.pointer (some ⟨pb,0,none⟩)] 30 (0,0))
 sp:SpO W s yb whole pb N
set_option maxHeartbeats 2000000 in
set_option maxRecDepth 100000 in
theorem st_iter (B yb pb:Nat) (s:SesD) (whole:Bool) (N:List (Nd × Nat)) (hL:N.length≤1000000) :
  Iter Fence.wide 2 Tryz.prog 58 #[.pointer (some ⟨B,0,none⟩)] (fun e:Nat × Nat=>#[.int .i64 e.1,.pointer (some ⟨e.2,0,none⟩)]) (StI B s yb pb whole N) (numL (N.map Prod.snd)):=by
 intro l J Jx sJ sJx hJR hY W h0
 have HJ:=Lib.hid sJ;have HJR:=Lib.hid hJR;have HY:=Lib.hid hY
 clear sJ sJx hJR hY
 have hr:=HJR.out _ _ h0
 have c0:=cell_of hr.b 0
 have CL:=Lib.hid (xLen_any hr.sp)
 have H0:=Lib.hid h0
 have HNL:Hid ((numL (N.map Prod.snd)).length=N.length):=Lib.hid (by rw[numL_length,List.length_map])
 clear hr h0
 refine callsIn_of_wp Tryz.func58 rfl trivial ?_ rfl
 simp only[Tryz.ntmps58,List.size_toArray,List.length_cons,List.length_nil,Nat.reduceAdd,Nat.reduceSub,Array.replicate_succ,Array.replicate_zero,List.push_toArray,List.append_toArray,List.nil_append,List.cons_append]
 refine wpIn_scope_straight (wpIn_seq (wpIn_label ?_))
 gi_wp2_with (refine⟨trivial,?_⟩;gi_at_call 14;go_must (refine(callsIn_wide.2 CL.out).mono ?_;rintro e w1 ⟨rfl,hf⟩;have HF1:=Lib.hid hf;clear hf CL))
 gi_loopw [6] (fun s wr=>∃ k:Nat,s=.int .i64 k∧k≤N.length∧J ((numL (N.map Prod.snd)).take k) wr) (fun s _=>N.length - (intOf s).toNat)
 case atStart=>exact⟨0,rfl,Nat.zero_le _,HJ.out _ _ _ H0.out HF1.out⟩
 case round =>
  obtain⟨k,rfl,hk,hj⟩:=hrel
  have HJ1:=Lib.hid hj
  clear hj H0 c0
  by_cases hlt:k < N.length
  ·obtain⟨x,hx⟩:∃ x,N[k]?=some x:=⟨_,List.getElem?_eq_getElem hlt⟩
   have hr:=HJR.out _ _ HJ1.out
   have c0:=cell_of hr.b 0
   obtain⟨qb,mb,lim,ao,cap,q1,q2,q3,-⟩:=hr.sp.out
   have p0:=cell_of q1 0
   have p2:=cell_of q2 2
   obtain⟨b,o,rfl,hn⟩:=q3.get hx
   have n0:=hn.c0
   have hnx:(numL (N.map Prod.snd))[k]?=some (k,x.2):=by rw[numL_at,List.getElem?_map,hx];rfl
   have HX:=Lib.hid hnx
   have hJ':=HJ1.out
   clear hr hx hnx q1 q2 q3 hn
   obtain⟨fn,tmps,assign,body,hy,hR⟩:=HY.out ((numL (N.map Prod.snd)).take k) (k,x.2) ((numL (N.map Prod.snd)).drop (k + 1)) _ (take_snoc' HX.out).2 hJ'
   have HRR:=Lib.hid hR
   clear hJ' hR
   have hlt':(k:Int) < N.length:=by omega
   gi_wp2
   refine HRR.out.mono ?_
   rintro e W3 (⟨rfl,hJ3⟩ | ⟨rfl,hJx3⟩)
   ·have HJ3:=Lib.hid hJ3
    clear hJ3
    gi_wp2
    go_roundw
    case rel=>exact⟨k + 1,by go_num,hlt,by rw[(take_snoc' HX.out).1];exact HJ3.out⟩
    case measure=>simp[intOf];omega
   ·have HJ3:=Lib.hid hJx3
    clear hJx3
    gi_wp2
    rw[Exit.noGoto_normal]
    change bodyPost Tryz.prog Tryz.f58 (fun e W'=>(∃ v,e=Ending.returned v)∧(J (numL (N.map Prod.snd)) W'∨∃ pre x rest,numL (N.map Prod.snd)=pre ++ x :: rest∧Jx (pre ++ [x]) W')) Exit.normal _ _
    go_end0
    exact⟨⟨_,rfl⟩,.inr ⟨_,_,_,(take_snoc' HX.out).2,HJ3.out⟩⟩
  ·have hge:¬ (k:Int) < N.length:=by omega
   gi_wp2
   try rw[Exit.noGoto_normal]
   go_end0
   refine⟨⟨_,rfl⟩,.inl ?_⟩
   have:=HJ1.out
   rwa [List.take_of_length_le (by rw[HNL.out];omega)] at this
end Go.Proofs.YtemjlpahohmajaaGreat
namespace Go.Proofs.YtemjlpahohmajaaGreat
open Go.RowKit Go.BigFrame Go.Maps
def fromL (L:List StpD) (st:ByteArray):List (Nat × StpD):=(numL L).filter fun e=>decide (e.2.frm=st)
def fromK (L:List StpD) (st:ByteArray) (k:Nat):List (Nat × StpD):=((numL L).take k).filter fun e=>decide (e.2.frm=st)
section
variable {L:List StpD} {st:ByteArray} {k:Nat} {x:StpD}
theorem fromK_yes (h:L[k]?=some x) (hx:x.frm=st):fromK L st (k + 1)=fromK L st k ++ [(k,x)]∧∃ rest,fromL L st=fromK L st k ++ (k,x) :: rest:=by
 have hn:(numL L)[k]?=some (k,x):=by rw[numL_at,h];rfl
 obtain⟨h1,h2⟩:=take_snoc' hn
 have hd:decide (x.frm=st)=true:=decide_eq_true hx
 refine⟨?_,((numL L).drop (k + 1)).filter fun e=>decide (e.2.frm=st),?_⟩
 ·unfold fromK;rw[h1,List.filter_append];simp[hd]
 ·unfold fromL fromK
  conv=>lhs;rw[h2]
  rw[List.filter_append];simp[hd]
theorem fromK_no (h:L[k]?=some x) (hx:x.frm≠st):fromK L st (k + 1)=fromK L st k:=by
 have hn:(numL L)[k]?=some (k,x):=by rw[numL_at,h];rfl
 obtain⟨h1,-⟩:=take_snoc' hn
 have hd:decide (x.frm=st)=false:=decide_eq_false hx
 unfold fromK;rw[h1,List.filter_append];simp[hd]
theorem fromK_all:fromK L st L.length=fromL L st:=by unfold fromK fromL;rw[List.take_of_length_le (by rw[numL_length];exact Nat.le_refl _)]
theorem mem_fromL {i:Nat}:(i,x)∈fromL L st↔L[i]?=some x∧x.frm=st:=by
 unfold fromL
 rw[List.mem_filter]
 constructor
 ·rintro⟨h1,h2⟩
  obtain⟨j,hj⟩:=List.getElem?_of_mem h1
  rw[numL_at] at hj
  cases hz:L[j]? with
  | none=>rw[hz] at hj;simp at hj
  | some z =>
    rw[hz] at hj
    simp at hj
    obtain⟨rfl,rfl⟩:=hj
    exact⟨hz,of_decide_eq_true h2⟩
 ·rintro⟨h1,h2⟩
  exact⟨List.mem_of_getElem? (i:=i) (by rw[numL_at,h1];rfl),decide_eq_true h2⟩
end
structure FrI (B1 B2:Nat) (v:Value) (L:List StpD) (st:ByteArray) (W:World):Prop where
 b1:W.heap[B1]?=some (.cells #[v] 84 (0,0))
 b2:W.heap[B2]?=some (.cells #[.string st] 9 (0,0))
 a:Arr 9 SpAt W v L
set_option maxHeartbeats 2000000 in
set_option maxRecDepth 100000 in
theorem from_iter (B1 B2:Nat) (v:Value) (L:List StpD) (st:ByteArray) (hL:L.length≤1000000) :
  Iter Fence.wide 2 Tryz.prog 160 #[.pointer (some ⟨B1,0,none⟩),.pointer (some ⟨B2,0,none⟩)] (fun e:Nat × StpD=>#[.int .i64 e.1,stpV e.2]) (FrI B1 B2 v L st) (fromL L st):=by
 intro l J Jx sJ sJx hJR hY W h0
 have HJ:=Lib.hid sJ;have HJR:=Lib.hid hJR;have HY:=Lib.hid hY
 clear sJ sJx hJR hY
 have hr:=HJR.out _ _ h0
 have c0:=cell_of hr.b1 0
 obtain⟨ao,cap,rfl⟩:=hr.a.shape
 have H0:=Lib.hid h0
 clear hr h0
 refine callsIn_of_wp Tryz.func160 rfl trivial ?_ rfl
 simp only[Tryz.ntmps160,List.size_toArray,List.length_cons,List.length_nil,Nat.reduceAdd,Nat.reduceSub,Array.replicate_succ,Array.replicate_zero,List.push_toArray,List.append_toArray,List.nil_append,List.cons_append]
 refine wpIn_scope_straight (wpIn_seq (wpIn_label ?_))
 gi_wp2
 gi_loopw [8] (fun s wr=>∃ k:Nat,s=.int .i64 k∧k≤L.length∧J (fromK L st k) wr) (fun s _=>L.length - (intOf s).toNat)
 case atStart=>exact⟨0,rfl,Nat.zero_le _,H0.out⟩
 case round =>
  obtain⟨k,rfl,hk,hj⟩:=hrel
  have HJ1:=Lib.hid hj
  clear hj H0 c0
  by_cases hlt:k < L.length
  ·obtain⟨x,hx⟩:∃ x,L[k]?=some x:=⟨_,List.getElem?_eq_getElem hlt⟩
   have hr:=HJR.out _ _ HJ1.out
   obtain⟨b,o,c',e,hsp⟩:=hr.a.at hx
   cases e
   obtain⟨g0,g1,g2,g3,g4,g5,g6,g7,g8⟩:=hsp
   have HX:=Lib.hid hx
   have hst:wr.cell? ⟨B2,0,none⟩=some (.string st):=cell_of hr.b2 0
   have hlt':(k:Int) < L.length:=by omega
   have HF1:Hid (Frm [] wr (wr.alloc (.cells #[.string x.frm,.string x.to,.int .i64 x.kind,.string x.msg,.string x.peer,.string x.ctr,.int .i64 x.low,.int .i64 x.high,.int .i64 x.add] 90))):=Lib.hid ((Frm.refl _ _).alloc _)
   have hst1:=HF1.out.keep hst
   clear hr hx
   by_cases hm:x.frm=st
   ·obtain⟨rest,hsp⟩:=(fromK_yes HX.out hm).2
    obtain⟨fn,tmps,assign,body,hy,hR⟩:=HY.out _ _ _ _ hsp (HJ.out _ _ _ HJ1.out HF1.out)
    have HRR:=Lib.hid hR;have HSP:=Lib.hid hsp;have HM:=Lib.hid hm
    have hbe:(x.frm.toList == st.toList)=true:=by rw[hm];simp
    clear hR hsp hm
    gi_wp2
    refine HRR.out.mono ?_
    rintro e W3 (⟨rfl,hJ3⟩ | ⟨rfl,hJx3⟩)
    ·have HJ3:=Lib.hid hJ3
     clear hJ3
     gi_wp2
     go_roundw
     case rel=>exact⟨k + 1,by go_num,hlt,by rw[(fromK_yes HX.out HM.out).1];exact HJ3.out⟩
     case measure=>simp[intOf];omega
    ·have HJ3:=Lib.hid hJx3
     clear hJx3
     gi_wp2
     rw[Exit.noGoto_normal]
     change bodyPost Tryz.prog Tryz.f160 (fun e W'=>(∃ v,e=Ending.returned v)∧(J (fromL L st) W'∨∃ pre x rest,fromL L st=pre ++ x :: rest∧Jx (pre ++ [x]) W')) Exit.normal _ _
     go_end0
     exact⟨⟨_,rfl⟩,.inr ⟨_,_,_,HSP.out,HJ3.out⟩⟩
   ·have hbe:(x.frm.toList == st.toList)=false:=str_ne hm
    have HJ2:Hid (J (fromK L st (k + 1)) (wr.alloc (.cells #[.string x.frm,.string x.to,.int .i64 x.kind,.string x.msg,.string x.peer,.string x.ctr,.int .i64 x.low,.int .i64 x.high,.int .i64 x.add] 90))):=Lib.hid (by
     rw[fromK_no HX.out hm]
     exact HJ.out _ _ _ HJ1.out HF1.out)
    clear hm
    gi_wp2
    refine⟨(fun f hf=>by cases hf),?_⟩
    gi_wp2
    go_roundw
    case rel=>exact⟨k + 1,by go_num,hlt,HJ2.out⟩
    case measure=>simp[intOf];omega
  ·obtain rfl:k=L.length:=by omega
   have hge:¬ (L.length:Int) < L.length:=by omega
   gi_wp2
   try rw[Exit.noGoto_normal]
   go_end0
   exact⟨⟨_,rfl⟩,.inl (by have:=HJ1.out;rwa [fromK_all] at this)⟩
theorem rFrom_any (r:RolD) (st:ByteArray) (a b c d:Value) (w:World) (h:Arr 9 SpAt w d r.steps) (hl:r.steps.length≤100000):Calls Tryz.prog 124 #[.agg #[a,b,c,d],.string st] w (RetV fun u w'=>∃ B1 B2 sv,u=.func (.func 160) #[] #[.pointer (some ⟨B1,0,none⟩),.pointer (some ⟨B2,0,none⟩)]∧FrI B1 B2 sv r.steps st w'∧Frm [] w w'):=by
 obtain⟨ao,cap,rfl⟩:=h.shape
 have HA:=Lib.hid h
 obtain⟨n,hn⟩:∃ n,r.steps.length=n:=⟨_,rfl⟩
 have HN:=Lib.hid hn
 rw[hn] at HA ⊢
 have hf0:Frm [] w ((w.alloc (.cells #[a,b,c,.slice ao n cap] 86)).alloc (.cells #[.string st] 9)):=((Frm.refl _ _).alloc _).alloc _
 obtain⟨W1,hW1⟩:∃ W,((w.alloc (.cells #[a,b,c,.slice ao n cap] 86)).alloc (.cells #[.string st] 9))=W:=⟨_,rfl⟩
 have hb1:W1.heap[w.heap.size]?=some (.cells #[a,b,c,.slice ao n cap] 86 (0,0)):=by rw[← hW1];exact alloc_at (heap_alloc_new _ _)
 have hb2:W1.heap[w.heap.size + 1]?=some (.cells #[.string st] 9 (0,0)):=by rw[← hW1];exact alloc_top (by simp)
 rw[hW1] at hf0
 have HF0:=Lib.hid hf0;have HB2:=Lib.hid hb2;have HE:=Lib.hid hW1
 have CC:=Lib.hid (clStep_any (.slice ao n cap) r.steps W1 (HA.out.frm fun _ _ _ h=>h.frm hf0) hl)
 have c3:=cell_of hb1 3
 clear h hn hb1 hb2 hf0 hW1
 go_enter Tryz.func124,Tryz.ntmps124
 go_upto_region 1 with (first | (refine wpList_box_row rfl 86 _ rfl _ rfl ?_))
 rw[HE.out]
 clear HE
 go_wp2_with (first
  | (go_at_call 140;go_must (refine CC.out.mono ?_;rintro e w2 ⟨v,rfl,hfr⟩;obtain⟨a5,c5,rfl⟩:=hfr.arr.shape;have HFR:=Lib.hid hfr;clear hfr CC)))
 go_ret
 have hf2:Frm [] W1 (w2.alloc (.cells #[.slice a5 r.steps.length c5] 84)):=HFR.out.frm.alloc _
 exact⟨_,rfl,_,_,_,rfl,⟨heap_alloc_new _ _,hf2.at HB2.out (by simp),HFR.out.arr.frm fun _ _ _ h=>h.frm ((Frm.refl [] w2).alloc _)⟩,HF0.out.trans hf2⟩
end Go.Proofs.YtemjlpahohmajaaGreat
namespace Go.Proofs.YtemjlpahohmajaaGreat
open Go.RowKit Go.BigFrame
def suC1 (u:Sp):List Value:=[.int .i64 u.role,.int .i64 u.peer,.string u.msg]
def suC (L:List Sp):List Value:=L.flatMap suC1
structure SuAt (w:World) (b o:Nat) (u:Sp):Prop where
 c0:w.cell? ⟨b,o,none⟩=some (.int .i64 u.role)
 c1:w.cell? ⟨b,o + 1,none⟩=some (.int .i64 u.peer)
 c2:w.cell? ⟨b,o + 2,none⟩=some (.string u.msg)
theorem SuAt.frm {w w':World} {b o:Nat} {u:Sp} (h:SuAt w b o u) (hf:Frm [] w w'):SuAt w' b o u:=⟨hf.keep h.c0,hf.keep h.c1,hf.keep h.c2⟩
abbrev suV (u:Sp):Value:=.agg #[.int .i64 u.role,.int .i64 u.peer,.string u.msg]
theorem suC_append (A B:List Sp):suC (A ++ B)=suC A ++ suC B:=by unfold suC;rw[List.flatMap_append]
theorem suC_at {L:List Sp}:∀ {i:Nat} {m:Sp},L[i]?=some m→(suC L)[i * 3]?=some (.int .i64 m.role)∧(suC L)[i * 3 + 1]?=some (.int .i64 m.peer)∧(suC L)[i * 3 + 2]?=some (.string m.msg):=by
 induction L with
 | nil=>intro i m h;simp at h
 | cons a L ih =>
   intro i m h
   have e:suC (a :: L)=suC1 a ++ suC L:=rfl
   cases i with
   | zero=>simp at h;subst h;rw[e];exact⟨rfl,rfl,rfl⟩
   | succ i =>
     have:=ih (i:=i) (m:=m) (by simpa using h)
     have hl:(suC1 a).length=3:=rfl
     rw[e,List.getElem?_append_right (by omega),List.getElem?_append_right (by omega),List.getElem?_append_right (by omega),hl]
     rw[show (i + 1) * 3 - 3=i * 3 by omega,show (i + 1) * 3 + 1 - 3=i * 3 + 1 by omega,show (i + 1) * 3 + 2 - 3=i * 3 + 2 by omega]
     exact this
theorem su_arr {W:World} {base:Nat} {v:Value} {L:List Sp} (h:W.ownsRow base 63 3 v L.length (suC L)):Arr 3 SuAt W v L:=by
 obtain⟨ao,cap,rfl⟩:=own_shape h
 refine⟨ao,cap,rfl,fun i m hm=>?_⟩
 have hl:=lt_of_some hm
 obtain⟨g,c,cur,e,-,-⟩:=own_block h (by omega)
 cases e
 have hc:=fun j hj=>World.ownsRow.cellAt h j hj
 obtain⟨h0,h1,h2⟩:=suC_at hm
 exact⟨g,0,rfl,by rw[Nat.zero_add,hc _ (by omega)];exact h0,by rw[Nat.zero_add,hc _ (by omega)];exact h1,by rw[Nat.zero_add,hc _ (by omega)];exact h2⟩
abbrev SB (w:World) (ob:Nat) (L:List Sp) (W:World):Prop:=BO 71 63 3 w ob L.length (suC L) W
abbrev suT:List TypeId:=[71,63,4]
theorem Tryz.infoSu:(Tryz.prog.info? 63).map (fun i=>(i.zero,i.size,i.bytes))=some (some (.agg #[.int .i64 0,.int .i64 0,.string { data:=#[] }]),3,32):=by kernel_rfl
theorem Kt.sub {T T':List TypeId} {W W':World} (h:Kt T W W') (hs:∀ t∈T,t∈T'):Kt T' W W':=⟨h.os,h.tape,h.output,h.size,fun k o hk ho=>h.at' k o hk fun c t fr e ht=>ho c t fr e (hs t ht)⟩
theorem SB.add {w W w1:World} {ob:Nat} {L:List Sp} {ao:Option Addr} {cap:Nat} {o:Obj} {v':Value} (m:Sp) (h:SB w ob L W) (h1:W.heap[ob]?=some (.cells #[.slice ao L.length cap] 71 (0,0))) (h2:W.ownsRow w.heap.size 63 3 (.slice ao L.length cap) L.length (suC L))
  (hg:(W.alloc o).grownBy w1 (Value.slice ao L.length cap).ownBlock) (ho:w1.ownsRow w.heap.size 63 3 v' (L.length + 1) (suC L ++ suC1 m)) :
  SB w ob (L ++ [m]) (w1.setCell ⟨ob,0,none⟩ v')∧Kt suT W (w1.setCell ⟨ob,0,none⟩ v'):=by
 have:=h.step h1 h2 (by decide) hg ho
 unfold SB
 rw[suC_append,List.length_append]
 exact⟨by simpa[suC] using this.1,this.2.sub (by decide)⟩
theorem FrI.turn {B1 B2 eb:Nat} {v:Value} {L:List StpD} {st:ByteArray} {b:Bool} {W W':World} (h:FrI B1 B2 v L st W) (hb:W.heap[eb]?=some (.cells #[.bool b] 4 (0,0))) (hf:Frm [eb] W W'):FrI B1 B2 v L st W':=by
 have ne:∀ {k:Nat} {c:Array Value} {t:TypeId} {fr:Nat × Nat},W.heap[k]?=some (.cells c t fr)→t≠4→k∉[eb]:=fun hk ht hm=>by
  rw[List.mem_singleton] at hm
  subst hm
  rw[hb] at hk
  cases hk
  exact ht rfl
 refine⟨hf.at h.b1 (ne h.b1 (by decide)),hf.at h.b2 (ne h.b2 (by decide)),h.a.frm fun g o t ht=>?_⟩
 have hg:g∉[eb]:=fun hm=>by
  rw[List.mem_singleton] at hm
  subst hm
  have:=ht.c0
  rw[cell_of hb] at this
  cases o with
  | zero=>simp at this
  | succ o=>simp at this
 exact⟨hf.cellAt ht.c0 hg,hf.cellAt ht.c1 hg,hf.cellAt ht.c2 hg,hf.cellAt ht.c3 hg,hf.cellAt ht.c4 hg,hf.cellAt ht.c5 hg,hf.cellAt ht.c6 hg,hf.cellAt ht.c7 hg,hf.cellAt ht.c8 hg⟩
theorem Kt.turn {eb:Nat} {b:Bool} {W W':World} (hb:W.heap[eb]?=some (.cells #[.bool b] 4 (0,0))) (hf:Frm [eb] W W'):Kt suT W W':=
 ⟨hf.os,hf.tape,hf.output,hf.size,fun k o hk ho=>hf.at hk fun hm=>by
  rw[List.mem_singleton] at hm
  subst hm
  rw[hb] at hk
  cases hk
  exact ho _ _ _ rfl (by decide)⟩
theorem ChR.ktS {bl bc cb:Nat} {cls cap:Int} {sv:Value} {L L':List ByteArray} {F:List Nat} {W W':World} (h:ChR bl bc cb cls sv L W) (hk:Kt suT W W') (hc:Chn W cb cls cap L' F):ChR bl bc cb cls sv L W':=by
 obtain⟨sv',hc1,-⟩:=hc
 exact⟨hk.cells h.1 (by decide),hk.row h.2.1 (by decide),hk.cells h.2.2.1 (by decide),cell_of (hk.cells hc1 (by decide)) 0⟩
theorem Bk.oldG {F:List Nat} {B:Nat} {w0 w w':World} (h:Bk B w w') (h0:Frm F w0 w) (hB:w0.heap.size≤B):Frm F w0 w':=
 ⟨h.os.trans h0.os,h.tape.trans h0.tape,h.output.trans h0.output,Nat.le_trans h0.size h.size,fun k hk hn=>by
  have e:=h0.block k hk hn
  have hk':w0.heap[k]?=some (w0.heap[k]):=Array.getElem?_eq_getElem hk
  rw[hk'] at e ⊢
  exact h.block k _ e (.inl (by omega))⟩
theorem eb_set {w W:World} {eb:Nat} {b:Bool} (hf:Frm [eb] w W) (hb:W.heap[eb]?=some (.cells #[.bool b] 4 (0,0))) (b':Bool) :
  KB W (W.setCell ⟨eb,0,none⟩ (.bool b'))∧Frm [eb] w (W.setCell ⟨eb,0,none⟩ (.bool b'))∧(W.setCell ⟨eb,0,none⟩ (.bool b')).heap[eb]?=some (.cells #[.bool b'] 4 (0,0)):=by
 have h0:Frm [eb] W (W.setCell ⟨eb,0,none⟩ (.bool b')):=(Frm.refl _ _).setCell _ (.inl (by simp)) _
 refine⟨KB.frm h0 fun y hy=>?_,hf.trans h0,(block_setCell hb 0 _).trans rfl⟩
 rw[List.mem_singleton] at hy
 subst hy
 exact not_books hb rfl
theorem su_end {w W:World} {ob cp:Nat} {ds:List Nat} {L M:List Sp} {ao:Option Addr} {fn:Func} {tmps:Array Value} (hf:Frm [] w W) (hn:w.heap.size≤ob) (h1:W.heap[ob]?=some (.cells #[.slice ao L.length cp] 71 (0,0)))
  (h2:W.ownsRow w.heap.size 63 3 (.slice ao L.length cp) L.length (suC L)) (hm:Ms w ds W) (hr:∀ V:World,V.cell? ⟨ob,0,none⟩=some (.slice ao L.length cp)→(results fn tmps).run Tryz.prog V=.ok (.slice ao L.length cp) V) (hL:L=M) :
  LeavesInM Fence.wide 3 Tryz.prog fn tmps (RetV fun v w'=>w'.ownsRow w.heap.size 63 3 v M.length (suC M)∧Frm [] w w') (marks ds) .returning (W.setCell ⟨ob,0,none⟩ (.slice ao L.length cp)):=by
 subst hL
 have hk:Kt suT W (W.setCell ⟨ob,0,none⟩ (.slice ao L.length cp)):=(Kt.refl _ W).set h1 (by decide) _
 have hm2:=hm.kt hk
 have hb:=(block_setCell h1 0 (.slice ao L.length cp)).trans rfl
 obtain⟨W2,hW2⟩:∃ W2,W.setCell ⟨ob,0,none⟩ (.slice ao L.length cp)=W2:=⟨_,rfl⟩
 have ho:W2.ownsRow w.heap.size 63 3 (.slice ao L.length cp) L.length (suC L):=by
  rw[← hW2]
  refine ownsRow_setCell_other h2 (fun e'=>?_) _
  obtain⟨c,hc⟩:=ownBlock_type h2 e'
  rw[h1] at hc;cases hc
 have hfw:Frm [] w W2:=by rw[← hW2];exact hf.setCell _ (.inr hn) _
 rw[hW2] at hm2 hb ⊢
 have hu:=unmark_frm ds W2
 have hno:∀ (k:Nat) c t fr,W2.heap[k]?=some (.cells c t fr)→k∉ds:=fun k c t fr hk hd=>by
  rw[(hm2.dl k hd).2] at hk;cases hk
 have hbu:=hu.at hb (hno _ _ _ _ hb)
 refine leaves_many ds W2 hm2.nd (fun D hD=>(hm2.dl D hD).2) ⟨_,hr _ (cell_of hbu 0),_,rfl,hu.owns ho (fun k hk=>?_),hfw.then hu (fun D hD=>.inr (hm2.dl D hD).1)⟩
 obtain⟨c,hc⟩:=ownBlock_type ho hk
 exact hno _ _ _ _ hc
section
variable {s:SesD} {x:PS}
theorem spOf_snoc (i p:Nat) (pre:List (Nat × ByteArray)) (e:Nat × ByteArray):spOf s x i p (pre ++ [e])=if expB s x i p e.2 then spOf s x i p pre else spOf s x i p pre ++ [⟨i,p,e.2⟩]:=by
 unfold spOf
 rw[List.filterMap_append,List.filterMap_cons]
 split
 ·rename_i h
  split at h
  ·rename_i h2;rw[if_pos h2];simp
  ·cases h
 ·rename_i b h
  split at h
  ·cases h
  ·rename_i h2;cases h;rw[if_neg h2];simp
theorem spAt_self (hx:PSok s x) (i:Nat):spAt s x i i=[]:=by
 unfold spAt
 have:x.way i i=[]:=hx.wd i
 rw[this];rfl
theorem spOf_len (i p:Nat) (l:List (Nat × ByteArray)):(spOf s x i p l).length≤l.length:=by
 unfold spOf
 exact List.length_filterMap_le _ _
theorem spAt_len (hs:SesOk s) (hx:PSok s x) {i p:Nat} (hi:i < s.roles.length) (hp:p < s.roles.length):(spAt s x i p).length≤4:=by
 unfold spAt
 have h1:=spOf_len (s:=s) (x:=x) i p (chlK s.cls (x.way p i) (x.way p i).length)
 have h2:=chlK_length s.cls (x.way p i) (x.way p i).length
 have h3:=(hx.wb p i hp hi).1
 have:=hs.k4
 omega
theorem spRole_len (hs:SesOk s) (hx:PSok s x) {i n:Nat} (hi:i < s.roles.length) (hn:n≤s.roles.length):(cat (fun p=>spAt s x i p) n).length≤16:=by
 have h1:=cat_len (n:=n) (f:=fun p=>spAt s x i p) (c:=4) (fun p hp=>spAt_len hs hx hi (by omega))
 have:=hs.n4
 omega
theorem of_len (hs:SesOk s) (hx:PSok s x) {n:Nat} (hn:n≤s.roles.length):(cat (fun i=>cat (fun p=>spAt s x i p) s.roles.length) n).length≤64:=by
 have h1:=cat_len (n:=n) (f:=fun i=>cat (fun p=>spAt s x i p) s.roles.length) (c:=16) (fun i hi=>spRole_len hs hx (by omega) (Nat.le_refl _))
 have:=hs.n4
 omega
def expK (s:SesD) (x:PS) (i p:Nat) (m:ByteArray) (l:List (Nat × StpD)):Bool:=l.any fun e=>hearB s x i p m e.2
theorem expK_snoc (i p:Nat) (m:ByteArray) (pre:List (Nat × StpD)) (e:Nat × StpD):expK s x i p m (pre ++ [e])=(expK s x i p m pre || hearB s x i p m e.2):=by
 unfold expK
 rw[List.any_append]
 simp
theorem expK_all (i p:Nat) (m:ByteArray):expK s x i p m (fromL (s.rol i).steps (hereN s x i))=expB s x i p m:=by
 unfold expK expB
 rw[Bool.eq_iff_iff,List.any_eq_true,List.any_eq_true]
 constructor
 ·rintro⟨⟨k,t⟩,h1,h2⟩
  exact⟨t,List.mem_of_getElem? (mem_fromL.1 h1).1,h2⟩
 ·rintro⟨t,h1,h2⟩
  obtain⟨k,hk⟩:=List.getElem?_of_mem h1
  refine⟨(k,t),mem_fromL.2 ⟨hk,?_⟩,h2⟩
  unfold hearB at h2
  simp only[Bool.and_eq_true,decide_eq_true_eq] at h2
  exact h2.1.2
end
end Go.Proofs.YtemjlpahohmajaaGreat
namespace Go.Proofs.YtemjlpahohmajaaGreat
open Go.RowKit Go.BigFrame
attribute [local go_sem] Oper.semAt_some
set_option maxHeartbeats 8000000 in
set_option maxRecDepth 100000 in
theorem xpSps_any (s:SesD) (yb fb sb:Nat) (x:PS) (v:Value) (w:World) (h:SyR w s yb fb) (hx:StR w s yb sb x) (hv:SesV w v s) :
  Calls Tryz.prog 73 #[v,.pointer (some ⟨sb,0,none⟩)] w (RetV fun u w'=>w'.ownsRow w.heap.size 63 3 u (ofP s x).length (suC (ofP s x))∧Frm [] w w'):=by
 have HSY:=Lib.hid h;have HST:=Lib.hid hx
 obtain⟨rv,rfl,hr⟩:=hv
 obtain⟨ra,rc,rfl⟩:=hr.shape
 obtain⟨n,hn⟩:∃ n,s.roles.length=n:=⟨_,rfl⟩
 have HR:=Lib.hid hr;have HN:=Lib.hid hn
 have hn4:n≤4:=by rw[← hn];exact h.ok.n4
 have HWI:Hid (∀ i:Nat,i < n→wrap64 ((i:Int) + 1)=((i + 1:Nat):Int)):=Lib.hid fun i hi=>by unfold wrap64;omega
 rw[hn] at HR ⊢
 obtain⟨W0,hW0⟩:∃ W0,((w.alloc (.cells #[.string s.name,.slice ra n rc,.int .i64 s.cls,.int .i64 s.cap] 25)).alloc (.cells #[.pointer (some ⟨sb,0,none⟩)] 44)).alloc (.cells #[.slice none 0 0] 71)=W0:=⟨_,rfl⟩
 have HF0:Hid (Frm [] w W0):=Lib.hid (by rw[← hW0];exact(((Frm.refl _ _).alloc _).alloc _).alloc _)
 have HB0:Hid (W0.heap[w.heap.size]?=some (.cells #[.string s.name,.slice ra n rc,.int .i64 s.cls,.int .i64 s.cap] 25 (0,0))):=Lib.hid (by rw[← hW0];exact alloc_at (alloc_at (heap_alloc_new _ _)))
 have HB1:Hid (W0.heap[w.heap.size + 1]?=some (.cells #[.pointer (some ⟨sb,0,none⟩)] 44 (0,0))):=Lib.hid (by rw[← hW0];exact alloc_at (alloc_top (by simp)))
 obtain⟨ob,hob⟩:∃ ob,w.heap.size + 1 + 1=ob:=⟨_,rfl⟩
 have hb2:W0.heap[ob]?=some (.cells #[.slice none 0 0] 71 (0,0)):=by rw[← hW0,← hob];exact alloc_top (by simp)
 have HM0:Hid (SB w ob [] W0):=Lib.hid (BO.made w _ _ _ HF0.out (by omega) hb2)
 have HOB:=Lib.hid hob
 have HE:=Lib.hid hW0
 clear h hx hr hn hn4 hW0 hb2 hob
 refine calls_of_marks Tryz.func73 rfl ?_
 simp only[Tryz.ntmps73,List.size_toArray,List.length_cons,List.length_nil,Nat.reduceAdd,Nat.reduceSub,Array.replicate_succ,Array.replicate_zero,List.push_toArray,List.append_toArray,List.nil_append,List.cons_append]
 go_upto_region 1 with (first | (refine wpList_box_row rfl 25 _ rfl _ rfl ?_))
 rw[HE.out,HOB.out]
 clear HE HOB
 have z1:=cell_of HB0.out 1
 go_upto_region 2 with fail
 clear z1
 refine wp_loop (fun a' w'=>∃ ds,∃ u5 u6 u7 u8 u9 u10 u12 u13 u15 u19 u20 u21 u22 u23 u24 u25 u26 u27 u28 u29 u30 u31 u32 u33 u34 u35 u36 u37 u38 u39 u40 u41 u42 u43 u44 u45 u46 u47 u48 u49 u50 u51 u52 u53 u54 u55 u56 u57 u58 u59 u60 u61 u62 u63 u64 u65 u66 u67 u68 u69 u70 u71 u72 u73 u74 u75 u76 u77 u78 u79 u80 u81 u82 u83 u84 u85 u86 u87 u88 u89:Value,(fun ds u19 w'=>∃ i:Nat,u19=.int .i64 (i:Int)∧i≤n∧SB w ob (cat (fun i=>cat (fun p=>spAt s x i p) s.roles.length) i) w'∧Ms w ds w'∧Kt suT W0 w') ds u19 w'∧a'={ tmps:=#[.agg #[.string s.name,.slice ra n rc,.int .i64 s.cls,.int .i64 s.cap],.pointer (some ⟨sb,0,none⟩),.pointer (some ⟨w.heap.size,0,none⟩),.pointer (some ⟨w.heap.size + 1,0,none⟩),.pointer (some ⟨ob,0,none⟩),u5,u6,u7,u8,u9,u10,undef,u12,u13,undef,u15,.pointer (some ⟨w.heap.size,1,none⟩),.slice ra n rc,.int .i64 (n:Int),u19,u20,u21,u22,u23,u24,u25,u26,u27,u28,u29,u30,u31,u32,u33,u34,u35,u36,u37,u38,u39,u40,u41,u42,u43,u44,u45,u46,u47,u48,u49,u50,u51,u52,u53,u54,u55,u56,u57,u58,u59,u60,u61,u62,u63,u64,u65,u66,u67,u68,u69,u70,u71,u72,u73,u74,u75,u76,u77,u78,u79,u80,u81,u82,u83,u84,u85,u86,u87,u88,u89,undef],defers:=marks ds }) (fun a' _=>n - (intOf (a'.tmps.getD 19 undef)).toNat) ?_ ?_
 ·refine⟨[],?_⟩
  (repeat apply Exists.intro)
  exact⟨⟨0,rfl,Nat.zero_le _,HM0.out,Ms.nil _ _,Kt.refl _ _⟩,rfl⟩
 intro a' wr hinv
 obtain⟨ds,hinv⟩:=hinv
 obtain⟨u5,hinv⟩:=hinv
 obtain⟨u6,hinv⟩:=hinv
 obtain⟨u7,hinv⟩:=hinv
 obtain⟨u8,hinv⟩:=hinv
 obtain⟨u9,hinv⟩:=hinv
 obtain⟨u10,hinv⟩:=hinv
 obtain⟨u12,hinv⟩:=hinv
 obtain⟨u13,hinv⟩:=hinv
 obtain⟨u15,hinv⟩:=hinv
 obtain⟨u19,hinv⟩:=hinv
 obtain⟨u20,hinv⟩:=hinv
 obtain⟨u21,hinv⟩:=hinv
 obtain⟨u22,hinv⟩:=hinv
 obtain⟨u23,hinv⟩:=hinv
 obtain⟨u24,hinv⟩:=hinv
 obtain⟨u25,hinv⟩:=hinv
 obtain⟨u26,hinv⟩:=hinv
 obtain⟨u27,hinv⟩:=hinv
 obtain⟨u28,hinv⟩:=hinv
 obtain⟨u29,hinv⟩:=hinv
 obtain⟨u30,hinv⟩:=hinv
 obtain⟨u31,hinv⟩:=hinv
 obtain⟨u32,hinv⟩:=hinv
 obtain⟨u33,hinv⟩:=hinv
 obtain⟨u34,hinv⟩:=hinv
 obtain⟨u35,hinv⟩:=hinv
 obtain⟨u36,hinv⟩:=hinv
 obtain⟨u37,hinv⟩:=hinv
 obtain⟨u38,hinv⟩:=hinv
 obtain⟨u39,hinv⟩:=hinv
 obtain⟨u40,hinv⟩:=hinv
 obtain⟨u41,hinv⟩:=hinv
 obtain⟨u42,hinv⟩:=hinv
 obtain⟨u43,hinv⟩:=hinv
 obtain⟨u44,hinv⟩:=hinv
 obtain⟨u45,hinv⟩:=hinv
 obtain⟨u46,hinv⟩:=hinv
 obtain⟨u47,hinv⟩:=hinv
 obtain⟨u48,hinv⟩:=hinv
 obtain⟨u49,hinv⟩:=hinv
 obtain⟨u50,hinv⟩:=hinv
 obtain⟨u51,hinv⟩:=hinv
 obtain⟨u52,hinv⟩:=hinv
 obtain⟨u53,hinv⟩:=hinv
 obtain⟨u54,hinv⟩:=hinv
 obtain⟨u55,hinv⟩:=hinv
 obtain⟨u56,hinv⟩:=hinv
 obtain⟨u57,hinv⟩:=hinv
 obtain⟨u58,hinv⟩:=hinv
 obtain⟨u59,hinv⟩:=hinv
 obtain⟨u60,hinv⟩:=hinv
 obtain⟨u61,hinv⟩:=hinv
 obtain⟨u62,hinv⟩:=hinv
 obtain⟨u63,hinv⟩:=hinv
 obtain⟨u64,hinv⟩:=hinv
 obtain⟨u65,hinv⟩:=hinv
 obtain⟨u66,hinv⟩:=hinv
 obtain⟨u67,hinv⟩:=hinv
 obtain⟨u68,hinv⟩:=hinv
 obtain⟨u69,hinv⟩:=hinv
 obtain⟨u70,hinv⟩:=hinv
 obtain⟨u71,hinv⟩:=hinv
 obtain⟨u72,hinv⟩:=hinv
 obtain⟨u73,hinv⟩:=hinv
 obtain⟨u74,hinv⟩:=hinv
 obtain⟨u75,hinv⟩:=hinv
 obtain⟨u76,hinv⟩:=hinv
 obtain⟨u77,hinv⟩:=hinv
 obtain⟨u78,hinv⟩:=hinv
 obtain⟨u79,hinv⟩:=hinv
 obtain⟨u80,hinv⟩:=hinv
 obtain⟨u81,hinv⟩:=hinv
 obtain⟨u82,hinv⟩:=hinv
 obtain⟨u83,hinv⟩:=hinv
 obtain⟨u84,hinv⟩:=hinv
 obtain⟨u85,hinv⟩:=hinv
 obtain⟨u86,hinv⟩:=hinv
 obtain⟨u87,hinv⟩:=hinv
 obtain⟨u88,hinv⟩:=hinv
 obtain⟨u89,hinv⟩:=hinv
 obtain⟨hrel,ha⟩:=hinv
 subst ha
 try dsimp only
 clear HM0
 obtain⟨i,rfl,hi,hmb,hms,hkt⟩:=hrel
 have HM:=Lib.hid hmb;have HMS:=Lib.hid hms;have HKT:=Lib.hid hkt
 clear hmb hms hkt
 by_cases hlt:i < n
 ·have hlt':(i:Int) < (n:Int):=by omega
  have hin:i < s.roles.length:=by rw[HN.out];exact hlt
  obtain⟨rb,ro,e1,sv,cv,tv,d0,d1,d2,d3,hr3⟩:=HR.out.get (SesD.rol_some hin)
  subst e1
  obtain⟨r,hrr⟩:∃ r,s.rol i=r:=⟨_,rfl⟩
  rw[hrr] at d0 hr3
  obtain⟨aS,cS,rfl⟩:=hr3.sts.shape
  obtain⟨aC,cC,rfl⟩:=hr3.ctrs.shape
  obtain⟨aT,cT,rfl⟩:=hr3.steps.shape
  have HR3:=Lib.hid hr3;have HIN:=Lib.hid hin;have HRR:=Lib.hid hrr
  replace d0:=HM.out.fr.keep d0;replace d1:=HM.out.fr.keep d1;replace d2:=HM.out.fr.keep d2;replace d3:=HM.out.fr.keep d3
  have hrl:=cell_lt d0
  clear hr3 hin hrr
  go_upto_region 4 with fail
  clear d0 d1 d2 d3 hrl
  obtain⟨V0,hV0⟩:∃ V0,(wr.alloc (.cells #[.int .i64 i] 3)).alloc (.cells #[.string r.name,.slice aS r.sts.length cS,.slice aC r.ctrs.length cC,.slice aT r.steps.length cT] 86)=V0:=⟨_,rfl⟩
  have F0:Hid (Frm [] wr V0):=Lib.hid (by rw[← hV0];exact((Frm.refl [] wr).alloc _).alloc _)
  have Q5:Hid (V0.heap[wr.heap.size]?=some (.cells #[.int .i64 i] 3 (0,0))):=Lib.hid (by rw[← hV0];exact alloc_at (heap_alloc_new _ _))
  have Q6:Hid (V0.heap[wr.heap.size + 1]?=some (.cells #[.string r.name,.slice aS r.sts.length cS,.slice aC r.ctrs.length cC,.slice aT r.steps.length cT] 86 (0,0))):=Lib.hid (by rw[← hV0];exact alloc_top (by simp))
  rw[hV0]
  clear hV0
  have M0:=Lib.hid (HM.out.frm F0.out)
  have KT0:Hid (Kt suT W0 V0):=Lib.hid (HKT.out.trans (Kt.frm F0.out))
  have CA:=Lib.hid (pAt_ok s yb fb sb i x V0 (HSY.out.frm M0.out.fr) (HST.out.frm M0.out.fr) HIN.out)
  rw[show ((s.rol i).sts.getD (x.at i) dS).name=hereN s x i from rfl] at CA
  have z3:=cell_of (KT0.out.cells HB1.out (by decide)) 0
  have z5:=cell_of Q5.out 0
  go_upto_region 5 with (first
   | (go_at_call 122;go_must (refine CA.out.mono ?_;rintro e w1 ⟨rfl,hf1⟩;have HF1:=Lib.hid hf1;clear hf1 CA z3 z5)))
  obtain⟨V1,hV1⟩:∃ V1,w1.alloc (.cells #[.string (hereN s x i)] 9)=V1:=⟨_,rfl⟩
  have F1:Hid (Frm [] V0 V1):=Lib.hid (by rw[← hV1];exact HF1.out.alloc _)
  have Q7:Hid (V1.heap[w1.heap.size]?=some (.cells #[.string (hereN s x i)] 9 (0,0))):=Lib.hid (by rw[← hV1];exact heap_alloc_new _ _)
  obtain⟨hb7,h7⟩:∃ b,w1.heap.size=b:=⟨_,rfl⟩
  rw[h7] at Q7
  rw[hV1,h7]
  have Q5':=Lib.hid (F1.out.at Q5.out (by simp));have Q6':=Lib.hid (F1.out.at Q6.out (by simp))
  have KT1:Hid (Kt suT W0 V1):=Lib.hid (KT0.out.trans (Kt.frm F1.out))
  have HM1:Hid (SB w ob (cat (fun i=>cat (fun p=>spAt s x i p) s.roles.length) i ++ cat (fun p=>spAt s x i p) 0) V1):=Lib.hid (by rw[show cat (fun p=>spAt s x i p) 0=[] from rfl,List.append_nil];exact M0.out.frm F1.out)
  have HMS1:=Lib.hid (HMS.out.frm (F0.out.trans F1.out))
  have z1:=cell_of (KT1.out.cells HB0.out (by decide)) 1
  clear hV1 h7 Q5 Q6 KT0 M0 HF1 F1
  go_upto_region 6 with fail
  clear z1
  refine wp_loop (fun a' w'=>∃ ds,∃ u9 u10 u12 u13 u15 u33 u34 u35 u36 u37 u38 u39 u40 u41 u42 u43 u44 u45 u46 u47 u48 u49 u50 u51 u52 u53 u54 u55 u56 u57 u58 u59 u60 u61 u62 u63 u64 u65 u66 u67 u68 u69 u70 u71 u72 u73 u74 u75 u76 u77 u78 u79 u80 u81 u82 u83 u84 u85 u86 u87 u88:Value,(fun ds u33 w'=>∃ p:Nat,u33=.int .i64 (p:Int)∧p≤n∧SB w ob (cat (fun i=>cat (fun p=>spAt s x i p) s.roles.length) i ++ cat (fun p=>spAt s x i p) p) w'∧Ms w ds w'∧Kt suT V1 w') ds u33 w'∧a'={ tmps:=#[.agg #[.string s.name,.slice (some ⟨rb,ro,none⟩) n rc,.int .i64 s.cls,.int .i64 s.cap],.pointer (some ⟨sb,0,none⟩),.pointer (some ⟨w.heap.size,0,none⟩),.pointer (some ⟨w.heap.size + 1,0,none⟩),.pointer (some ⟨ob,0,none⟩),.pointer (some ⟨wr.heap.size,0,none⟩),.pointer (some ⟨wr.heap.size + 1,0,none⟩),.pointer (some ⟨hb7,0,none⟩),.int .i64 0,u9,u10,undef,u12,u13,undef,u15,.pointer (some ⟨w.heap.size,1,none⟩),.slice (some ⟨rb,ro,none⟩) n rc,.int .i64 (n:Int),.int .i64 (i:Int),.bool true,.int .i64 (i:Int),.pointer (some ⟨rb,ro + i * 4,none⟩),.agg #[.string r.name,.slice aS r.sts.length cS,.slice aC r.ctrs.length cC,.slice aT r.steps.length cT],.tuple #[.string (hereN s x i),.int .i64 0],.pointer (some ⟨sb,0,none⟩),.int .i64 (i:Int),.tuple #[.string (hereN s x i),.int .i64 0],.string (hereN s x i),.int .i64 0,.pointer (some ⟨w.heap.size,1,none⟩),.slice (some ⟨rb,ro,none⟩) n rc,.int .i64 (n:Int),u33,u34,u35,u36,u37,u38,u39,u40,u41,u42,u43,u44,u45,u46,u47,u48,u49,u50,u51,u52,u53,u54,u55,u56,u57,u58,u59,u60,u61,u62,u63,u64,u65,u66,u67,u68,u69,u70,u71,u72,u73,u74,u75,u76,u77,u78,u79,u80,u81,u82,u83,u84,u85,u86,u87,u88,u89,undef],defers:=marks ds }) (fun a' _=>n - (intOf (a'.tmps.getD 33 undef)).toNat) ?_ ?_
  ·refine⟨ds,?_⟩
   (repeat apply Exists.intro)
   exact⟨⟨0,rfl,Nat.zero_le _,HM1.out,HMS1.out,Kt.refl _ _⟩,rfl⟩
  intro a' wq hinv
  obtain⟨ds,hinv⟩:=hinv
  obtain⟨u9,hinv⟩:=hinv
  obtain⟨u10,hinv⟩:=hinv
  obtain⟨u12,hinv⟩:=hinv
  obtain⟨u13,hinv⟩:=hinv
  obtain⟨u15,hinv⟩:=hinv
  obtain⟨u33,hinv⟩:=hinv
  obtain⟨u34,hinv⟩:=hinv
  obtain⟨u35,hinv⟩:=hinv
  obtain⟨u36,hinv⟩:=hinv
  obtain⟨u37,hinv⟩:=hinv
  obtain⟨u38,hinv⟩:=hinv
  obtain⟨u39,hinv⟩:=hinv
  obtain⟨u40,hinv⟩:=hinv
  obtain⟨u41,hinv⟩:=hinv
  obtain⟨u42,hinv⟩:=hinv
  obtain⟨u43,hinv⟩:=hinv
  obtain⟨u44,hinv⟩:=hinv
  obtain⟨u45,hinv⟩:=hinv
  obtain⟨u46,hinv⟩:=hinv
  obtain⟨u47,hinv⟩:=hinv
  obtain⟨u48,hinv⟩:=hinv
  obtain⟨u49,hinv⟩:=hinv
  obtain⟨u50,hinv⟩:=hinv
  obtain⟨u51,hinv⟩:=hinv
  obtain⟨u52,hinv⟩:=hinv
  obtain⟨u53,hinv⟩:=hinv
  obtain⟨u54,hinv⟩:=hinv
  obtain⟨u55,hinv⟩:=hinv
  obtain⟨u56,hinv⟩:=hinv
  obtain⟨u57,hinv⟩:=hinv
  obtain⟨u58,hinv⟩:=hinv
  obtain⟨u59,hinv⟩:=hinv
  obtain⟨u60,hinv⟩:=hinv
  obtain⟨u61,hinv⟩:=hinv
  obtain⟨u62,hinv⟩:=hinv
  obtain⟨u63,hinv⟩:=hinv
  obtain⟨u64,hinv⟩:=hinv
  obtain⟨u65,hinv⟩:=hinv
  obtain⟨u66,hinv⟩:=hinv
  obtain⟨u67,hinv⟩:=hinv
  obtain⟨u68,hinv⟩:=hinv
  obtain⟨u69,hinv⟩:=hinv
  obtain⟨u70,hinv⟩:=hinv
  obtain⟨u71,hinv⟩:=hinv
  obtain⟨u72,hinv⟩:=hinv
  obtain⟨u73,hinv⟩:=hinv
  obtain⟨u74,hinv⟩:=hinv
  obtain⟨u75,hinv⟩:=hinv
  obtain⟨u76,hinv⟩:=hinv
  obtain⟨u77,hinv⟩:=hinv
  obtain⟨u78,hinv⟩:=hinv
  obtain⟨u79,hinv⟩:=hinv
  obtain⟨u80,hinv⟩:=hinv
  obtain⟨u81,hinv⟩:=hinv
  obtain⟨u82,hinv⟩:=hinv
  obtain⟨u83,hinv⟩:=hinv
  obtain⟨u84,hinv⟩:=hinv
  obtain⟨u85,hinv⟩:=hinv
  obtain⟨u86,hinv⟩:=hinv
  obtain⟨u87,hinv⟩:=hinv
  obtain⟨u88,hinv⟩:=hinv
  obtain⟨hrel,ha⟩:=hinv
  subst ha
  try dsimp only
  clear HM1 HMS1 HMS HM
  obtain⟨p,rfl,hp,hmb,hms,hkt⟩:=hrel
  have HMq:=Lib.hid hmb;have HMSq:=Lib.hid hms;have HKTq:=Lib.hid hkt
  clear hmb hms hkt
  by_cases hltp:p < n
  ·have hltp':(p:Int) < (n:Int):=by omega
   have hpn:p < s.roles.length:=by rw[HN.out];exact hltp
   obtain⟨rb',ro',e1',sv',cv',tv',d0,d1,d2,d3,hr3'⟩:=HR.out.get (SesD.rol_some hpn)
   cases e1'
   obtain⟨o,hoo⟩:∃ o,s.rol p=o:=⟨_,rfl⟩
   rw[hoo] at d0 hr3'
   obtain⟨aS',cS',rfl⟩:=hr3'.sts.shape
   obtain⟨aC',cC',rfl⟩:=hr3'.ctrs.shape
   obtain⟨aT',cT',rfl⟩:=hr3'.steps.shape
   have HPN:=Lib.hid hpn;have HOO:=Lib.hid hoo
   replace d0:=HMq.out.fr.keep d0;replace d1:=HMq.out.fr.keep d1;replace d2:=HMq.out.fr.keep d2;replace d3:=HMq.out.fr.keep d3
   have hrl:=cell_lt d0
   clear hr3' hpn hoo
   go_upto_region 8 with fail
   clear d0 d1 d2 d3 hrl
   obtain⟨V2,hV2⟩:∃ V2,(wq.alloc (.cells #[.int .i64 p] 3)).alloc (.cells #[.string o.name,.slice aS' o.sts.length cS',.slice aC' o.ctrs.length cC',.slice aT' o.steps.length cT'] 86)=V2:=⟨_,rfl⟩
   have F2:Hid (Frm [] wq V2):=Lib.hid (by rw[← hV2];exact((Frm.refl [] wq).alloc _).alloc _)
   have Q9:Hid (V2.heap[wq.heap.size]?=some (.cells #[.int .i64 p] 3 (0,0))):=Lib.hid (by rw[← hV2];exact alloc_at (heap_alloc_new _ _))
   have Q10:Hid (V2.heap[wq.heap.size + 1]?=some (.cells #[.string o.name,.slice aS' o.sts.length cS',.slice aC' o.ctrs.length cC',.slice aT' o.steps.length cT'] 86 (0,0))):=Lib.hid (by rw[← hV2];exact alloc_top (by simp))
   rw[hV2]
   clear hV2
   have HE:Hid (cat (fun i=>cat (fun p=>spAt s x i p) s.roles.length) i ++ cat (fun p=>spAt s x i p) (p + 1)=(cat (fun i=>cat (fun p=>spAt s x i p) s.roles.length) i ++ cat (fun p=>spAt s x i p) p) ++ spAt s x i p):=Lib.hid (by rw[List.append_assoc];rfl)
   have M2:=Lib.hid (HMq.out.frm F2.out)
   have MS2:=Lib.hid (HMSq.out.frm F2.out)
   have KT2:Hid (Kt suT V1 V2):=Lib.hid (HKTq.out.trans (Kt.frm F2.out))
   obtain⟨L0,hL0⟩:∃ L0,cat (fun i=>cat (fun p=>spAt s x i p) s.roles.length) i ++ cat (fun p=>spAt s x i p) p=L0:=⟨_,rfl⟩
   have hLen:L0.length≤80:=by
    rw[← hL0,List.length_append]
    have a1:=of_len HSY.out.ok HST.out.ok (show i≤s.roles.length by have:=HIN.out;omega)
    have a2:=spRole_len HSY.out.ok HST.out.ok HIN.out (show p≤s.roles.length by have:=HPN.out;omega)
    exact Nat.le_trans (Nat.add_le_add a1 a2) (by decide)
   rw[hL0] at M2 HE
   have HLen:=Lib.hid hLen
   clear hL0 hLen HMq HMSq HKTq
   have z5:=cell_of (KT2.out.cells Q5'.out (by decide)) 0
   have z9:=cell_of Q9.out 0
   by_cases hip:p=i
   ·have hq:((p:Int) == (i:Int))=true:=by rw[hip];simp
    have HSM:Hid (spAt s x i p=[]):=Lib.hid (by rw[hip];exact spAt_self HST.out.ok i)
    clear hip
    go_wp2
    refine⟨⟨ds,?_⟩,?_⟩
    ·(repeat apply Exists.intro)
     exact⟨⟨p + 1,congrArg (Value.int .i64) (HWI.out p hltp),hltp,by rw[HE.out,HSM.out,List.append_nil];exact M2.out,MS2.out,KT2.out⟩,rfl⟩
    ·exact meas_up hltp (HWI.out p hltp)
   ·have hq:((p:Int) == (i:Int))=false:=by rw[beq_eq_false_iff_ne];omega
    have CAr:=Lib.hid (xpArr_any s yb sb i p x V2 HSY.out.ok (HST.out.frm M2.out.fr) HIN.out HPN.out hip)
    have HLW:Hid ((x.way p i).length≤4):=Lib.hid (by have:=(HST.out.ok.wb p i HPN.out HIN.out).1;have:=HSY.out.ok.k4;omega)
    have HSM:Hid (spAt s x i p=spOf s x i p (chlK s.cls (x.way p i) (x.way p i).length)):=Lib.hid rfl
    obtain⟨LL,hLL⟩:∃ LL,x.way p i=LL:=⟨_,rfl⟩
    rw[hLL] at CAr HLW HSM
    have z3:=cell_of ((KT1.out.trans KT2.out).cells HB1.out (by decide)) 0
    have z2:=cell_of ((KT1.out.trans KT2.out).cells HB0.out (by decide)) 2
    clear hip hLL
    go_wp2_with (first
     | (go_at_call 123;go_must (refine CAr.out.mono ?_;rintro e w5 ⟨v,rfl,⟨bl,bc,cb,sv5,rfl,hcr,⟨F5,hch⟩,hf⟩⟩;have HCR:=Lib.hid hcr;have HCH:=Lib.hid hch;have HF5:=Lib.hid hf;clear hcr hch hf CAr z3 z2 z5 z9)))
    have hit:=chc_iter bl bc cb s.cls sv5 LL HSY.out.ok.c1 HSY.out.ok.c3 (by have:=HLW.out;omega)
    have M5:=Lib.hid (M2.out.frm HF5.out)
    have MS5:=Lib.hid (MS2.out.frm HF5.out)
    have KT5:Hid (Kt suT V1 w5):=Lib.hid (KT2.out.trans (Kt.frm HF5.out))
    have D9:=Lib.hid (HF5.out.at Q9.out (by simp))
    have D10:=Lib.hid (HF5.out.at Q10.out (by simp))
    clear M2 MS2 KT2 Q9 Q10 HF5
    refine wp_rangeList rfl (enters_of Tryz.func149 (by kernel_rfl) rfl) hit (fun _=>rfl) (fun pre W=>SB w ob (L0 ++ spOf s x i p pre) W∧Kt suT w5 W) (fun _ _ _=>False) (fun _ _ _ h hb=>⟨h.1.bk hb M5.out.fr.size,h.2.bk hb⟩) (fun _ _ _ _ h _=>h) (fun _ W h=>HCR.out.ktS h.2 HCH.out) ⟨by rw[show spOf s x i p []=[] from rfl,List.append_nil];exact M5.out,Kt.refl _ _⟩ ?_ ?_ (fun _ _ _ _ _ _ _ _ h=>h.elim)
    ·intro l0 pre y rest Wr hxs hI hl hlr
     have hpl:pre.length < 4:=by
      have h1:=chlK_length s.cls LL LL.length
      rw[hxs,List.length_append,List.length_cons] at h1
      have:=HLW.out;omega
     have HI:=Lib.hid hI
     clear hI hlr hl hxs
     obtain⟨yi,ym⟩:=y
     simp only[encC]
     gi_wp2
     refine⟨KB.frm0 ((Frm.refl [] Wr).alloc _),fun Wq hbk hlq=>?_⟩
     have HI2:=Lib.hid (⟨(HI.out.1.frm ((Frm.refl [] Wr).alloc (.cells #[.string ym] 9))).bk hbk M5.out.fr.size,(HI.out.2.alloc _).bk hbk⟩:SB w ob (L0 ++ spOf s x i p pre) Wq∧Kt suT w5 Wq)
     have C12:Hid (Wq.heap[Wr.heap.size]?=some (.cells #[.string ym] 9 (0,0))):=Lib.hid (hbk.at (heap_alloc_new _ _) rfl)
     obtain⟨b12,h12⟩:∃ b,Wr.heap.size=b:=⟨_,rfl⟩
     rw[h12] at C12
     rw[h12]
     have HLQ:=Lib.hid hlq
     clear hbk h12 hlq HI
     gi_upto_region 12 with fail
     obtain⟨Wb,hWb⟩:∃ W,Wq.alloc (.cells #[.bool false] 4)=W:=⟨_,rfl⟩
     obtain⟨eb,heb⟩:∃ b,Wq.heap.size=b:=⟨_,rfl⟩
     have FB:Hid (Frm [] Wq Wb):=Lib.hid (by rw[← hWb];exact(Frm.refl _ _).alloc _)
     have EB:Hid (Wb.heap[eb]?=some (.cells #[.bool false] 4 (0,0))):=Lib.hid (by rw[← hWb,← heb];exact heap_alloc_new _ _)
     have HEB:Hid (Wq.heap.size≤eb):=Lib.hid (by omega)
     rw[hWb,heb]
     clear hWb heb
     have KB5:Hid (Kt suT V1 Wb):=Lib.hid (KT5.out.trans (HI2.out.2.trans (Kt.frm FB.out)))
     have z6:=KB5.out.cells Q6'.out (by decide)
     have z60:=cell_of z6 0
     have z61:=cell_of z6 1
     have z62:=cell_of z6 2
     have z63:=cell_of z6 3
     have z7:=cell_of (KB5.out.cells Q7.out (by decide)) 0
     have HFw:Hid (Frm [] w Wb):=Lib.hid (HI2.out.1.fr.trans FB.out)
     have ht80:r.steps.length≤80:=by have:=(HSY.out.ok.at HIN.out).t80;rw[HRR.out] at this;exact this
     have CF:=Lib.hid (rFrom_any r (hereN s x i) (.string r.name) (.slice aS r.sts.length cS) (.slice aC r.ctrs.length cC) (.slice aT r.steps.length cT) Wb (HR3.out.steps.frm fun _ _ _ h=>h.frm HFw.out) (by omega))
     have HT80:=Lib.hid ht80
     clear z6 ht80
     gi_wp2_with (refine⟨trivial,?_⟩;gi_at_call 124;go_must (refine(CallsIn.inRound l0 (callsIn_wide.2 CF.out)).mono ?_;rintro e w6 ⟨v,rfl,B1,B2,sv6,rfl,hfi,hf6⟩;have HFI:=Lib.hid hfi;have HF6:=Lib.hid hf6;clear hfi hf6 CF z60 z61 z62 z63 z7))
     have EB6:=Lib.hid (HF6.out.at EB.out (by simp))
     have HFw6:Hid (Frm [] w w6):=Lib.hid (HFw.out.trans HF6.out)
     have HWe:Hid (w.heap.size≤eb):=Lib.hid (by have:=HI2.out.1.fr.size;have:=HEB.out;omega)
     have hl6:∃ r,w6.heap[l0]?=some (.loop r):=by
      obtain⟨r0,hr0⟩:=HLQ.out
      exact⟨r0,HF6.out.at (FB.out.at hr0 (by simp)) (by simp)⟩
     have KT6:Hid (Kt suT V1 w6):=Lib.hid (KB5.out.trans (Kt.frm HF6.out))
     have C126:Hid (w6.heap[b12]?=some (.cells #[.string ym] 9 (0,0))):=Lib.hid (HF6.out.at (FB.out.at C12.out (by simp)) (by simp))
     have D106:Hid (w6.heap[wq.heap.size + 1]?=some (.cells #[.string o.name,.slice aS' o.sts.length cS',.slice aC' o.ctrs.length cC',.slice aT' o.steps.length cT'] 86 (0,0))):=Lib.hid (HF6.out.at (FB.out.at (HI2.out.2.cells D10.out (by decide)) (by simp)) (by simp))
     refine wpIn_rangeListN hl6 rfl (enters_of Tryz.func160 (by kernel_rfl) rfl) (from_iter B1 B2 sv6 r.steps (hereN s x i) (by have:=HT80.out;omega)) (fun _=>rfl)
      (fun pre2 W=>Frm [eb] w6 W∧W.heap[eb]?=some (.cells #[.bool (expK s x i p ym pre2)] 4 (0,0))) (fun _ _ _=>False) (fun _ _ _ h hb=>⟨hb.oldG h.1 (Nat.le_refl _),hb.at h.2 rfl⟩) (fun _ _ _ _ h _=>h.elim) (fun _ W h=>HFI.out.turn EB6.out h.1)
      ⟨Frm.refl _ _,EB6.out⟩ ?_ ?_ (fun _ _ _ _ _ _ h=>h.elim)
     ·intro l1 pre2 y2 rest2 Wi hxs2 hI3 hl2 hlr2
      obtain⟨k,t⟩:=y2
      have hmem:(k,t)∈fromL r.steps (hereN s x i):=by rw[hxs2];simp
      obtain⟨hrk,hfrm⟩:=mem_fromL.1 hmem
      have HTM:Hid (t∈(s.rol i).steps):=Lib.hid (by rw[HRR.out];exact List.mem_of_getElem? hrk)
      have HFM:=Lib.hid hfrm
      have HI3:=Lib.hid hI3
      clear hI3 hl2 hlr2 hxs2 hmem hrk hfrm hl6
      simp only[stpV]
      gi_wp2
      refine⟨KB.frm0 ((Frm.refl [] Wi).alloc _),fun Wj hbk2 _=>?_⟩
      have HI4:=Lib.hid (⟨hbk2.oldG (HI3.out.1.alloc (.cells #[.string t.frm,.string t.to,.int .i64 t.kind,.string t.msg,.string t.peer,.string t.ctr,.int .i64 t.low,.int .i64 t.high,.int .i64 t.add] 90)) (Nat.le_refl _),hbk2.at (alloc_at HI3.out.2) rfl⟩:Frm [eb] w6 Wj∧Wj.heap[eb]?=some (.cells #[.bool (expK s x i p ym pre2)] 4 (0,0)))
      have C15:Hid (Wj.heap[Wi.heap.size]?=some (.cells #[.string t.frm,.string t.to,.int .i64 t.kind,.string t.msg,.string t.peer,.string t.ctr,.int .i64 t.low,.int .i64 t.high,.int .i64 t.add] 90 (0,0))):=Lib.hid (hbk2.at (heap_alloc_new _ _) rfl)
      obtain⟨b15,h15⟩:∃ b,Wi.heap.size=b:=⟨_,rfl⟩
      rw[h15] at C15
      rw[h15]
      have HKj:Hid (Kt suT w6 Wj):=Lib.hid (Kt.turn EB6.out HI4.out.1)
      have HFwj:Hid (Frm [] w Wj):=Lib.hid (HFw6.out.then HI4.out.1 (fun y hy=>.inr (by rw[List.mem_singleton] at hy;have:=HWe.out;omega)))
      have c13:=cell_of HI4.out.2 0
      have f13:=free_of HI4.out.2 0
      have CG:=Lib.hid (xpGrd_any s yb fb sb i x t Wj (HSY.out.frm HFwj.out) (HST.out.frm HFwj.out) HIN.out HTM.out)
      have HXS:=Lib.hid (expK_snoc (s:=s) (x:=x) i p ym pre2 (k,t))
      clear hbk2 h15 HI3
      obtain⟨b,hb⟩:∃ b,expK s x i p ym pre2=b:=⟨_,rfl⟩
      rw[hb] at c13 HXS HI4
      clear hb
      have q2:=cell_of C15.out 2
      have q3:=cell_of C15.out 3
      have q4:=cell_of C15.out 4
      have m0:=cell_of (HKj.out.cells C126.out (by decide)) 0
      have o0:=cell_of (HKj.out.cells D106.out (by decide)) 0
      cases b with
      | true =>
        have HV:Hid (expK s x i p ym (pre2 ++ [(k,t)])=true):=Lib.hid (by rw[HXS.out];rfl)
        gi_wp2_with (refine⟨trivial,?_⟩)
        obtain⟨g1,g2,g3⟩:=eb_set HI4.out.1 HI4.out.2 true
        exact⟨g1,g2,by rw[HV.out];exact g3⟩
      | false =>
        by_cases hk2:t.kind=2
        ·have b2:(t.kind == 2)=true:=by simpa using hk2
         by_cases hm:t.msg=ym
         ·have b3:(t.msg.toList == ym.toList)=true:=by rw[str_beq,decide_eq_true hm]
          by_cases hpe:t.peer=o.name
          ·have b4:(t.peer.toList == o.name.toList)=true:=by rw[str_beq,decide_eq_true hpe]
           have z3:=cell_of (((KT1.out.trans KT6.out).trans HKj.out).cells HB1.out (by decide)) 0
           have z5:=cell_of ((KT6.out.trans HKj.out).cells Q5'.out (by decide)) 0
           have q0:=cell_of C15.out 0
           have q1:=cell_of C15.out 1
           have q5:=cell_of C15.out 5
           have q6:=cell_of C15.out 6
           have q7:=cell_of C15.out 7
           have q8:=cell_of C15.out 8
           obtain⟨bk,hbk⟩:∃ bk,bankOk (s.rol i).ctrs (x.bank i) t=bk:=⟨_,rfl⟩
           have HV:Hid (expK s x i p ym (pre2 ++ [(k,t)])=bk):=Lib.hid (by
            rw[HXS.out]
            unfold hearB
            rw[decide_eq_true hk2,decide_eq_true hm,decide_eq_true (show t.peer=(s.rol p).name by rw[HOO.out];exact hpe),decide_eq_true HFM.out,hbk]
            simp)
           rw[hbk] at CG
           clear hk2 hm hpe hbk
           gi_wp2_with (refine⟨trivial,?_⟩;gi_at_call 125;go_must (refine(CallsIn.inRound l1 (callsIn_wide.2 CG.out)).mono ?_;rintro e w7 ⟨rfl,hf7⟩;have HF7:=Lib.hid hf7;have HE7:=Lib.hid (hf7.at HI4.out.2 (by simp));have c13':=cell_of HE7.out 0;have f13':=free_of HE7.out 0;clear hf7))
           obtain⟨g1,g2,g3⟩:=eb_set (HI4.out.1.then HF7.out (by simp)) HE7.out bk
           exact⟨(KB.frm0 HF7.out).trans g1,g2,by rw[HV.out];exact g3⟩
          ·have b4:(t.peer.toList == o.name.toList)=false:=by rw[str_beq,decide_eq_false hpe]
           have HV:Hid (expK s x i p ym (pre2 ++ [(k,t)])=false):=Lib.hid (by
            rw[HXS.out]
            unfold hearB
            rw[decide_eq_false (show ¬ t.peer=(s.rol p).name by rw[HOO.out];exact hpe)]
            simp)
           clear hk2 hm hpe
           gi_wp2_with (refine⟨trivial,?_⟩)
           obtain⟨g1,g2,g3⟩:=eb_set HI4.out.1 HI4.out.2 false
           exact⟨g1,g2,by rw[HV.out];exact g3⟩
         ·have b3:(t.msg.toList == ym.toList)=false:=by rw[str_beq,decide_eq_false hm]
          have HV:Hid (expK s x i p ym (pre2 ++ [(k,t)])=false):=Lib.hid (by
           rw[HXS.out]
           unfold hearB
           rw[decide_eq_false hm]
           simp)
          clear hk2 hm
          gi_wp2_with (refine⟨trivial,?_⟩)
          obtain⟨g1,g2,g3⟩:=eb_set HI4.out.1 HI4.out.2 false
          exact⟨g1,g2,by rw[HV.out];exact g3⟩
        ·have b2:(t.kind == 2)=false:=by simpa using hk2
         have HV:Hid (expK s x i p ym (pre2 ++ [(k,t)])=false):=Lib.hid (by
          rw[HXS.out]
          unfold hearB
          rw[decide_eq_false hk2]
          simp)
         clear hk2
         gi_wp2_with (refine⟨trivial,?_⟩)
         obtain⟨g1,g2,g3⟩:=eb_set HI4.out.1 HI4.out.2 false
         exact⟨g1,g2,by rw[HV.out];exact g3⟩
     ·intro W hI
      have hall:=expK_all (s:=s) (x:=x) i p ym
      rw[HRR.out] at hall
      have HFW:Hid (Frm [] Wq W):=Lib.hid ((FB.out.trans HF6.out).then hI.1 (fun y hy=>.inr (by rw[List.mem_singleton] at hy;have:=HEB.out;omega)))
      obtain⟨b,hb⟩:∃ b,expB s x i p ym=b:=⟨_,rfl⟩
      rw[hb] at hall
      have hEW:=hI.2
      rw[hall] at hEW
      have c13:=cell_of hEW 0
      have HSN:=Lib.hid (spOf_snoc (s:=s) (x:=x) i p pre (yi,ym))
      rw[hb] at HSN
      have HMw:=Lib.hid (HI2.out.1.frm HFW.out)
      have HKw:Hid (Kt suT w5 W):=Lib.hid (HI2.out.2.trans (Kt.frm HFW.out))
      have C12w:=Lib.hid (HFW.out.at C12.out (by simp))
      clear hI hall hb hEW hl6
      cases b with
      | true =>
        gi_wp2
        refine⟨KB.frm0 HFW.out,?_⟩
        show SB w ob (L0 ++ spOf s x i p (pre ++ [(yi,ym)])) _∧Kt suT w5 _
        rw[HSN.out,if_pos trivial]
        exact⟨HMw.out,HKw.out⟩
      | false =>
        have z5:=cell_of ((KT5.out.trans HKw.out).cells Q5'.out (by decide)) 0
        have z9:=cell_of (HKw.out.cells D9.out (by decide)) 0
        have z12:=cell_of C12w.out 0
        have hlen:(L0 ++ spOf s x i p pre).length≤90:=by
         have:=spOf_len (s:=s) (x:=x) i p pre
         have:=HLen.out
         rw[List.length_append];omega
        obtain⟨L1,hL1⟩:∃ L1,L0 ++ spOf s x i p pre=L1:=⟨_,rfl⟩
        rw[hL1] at HMw hlen
        have HL1:=Lib.hid hL1
        obtain⟨ao,cp,hb1,hb2⟩:=HMw.out.bx
        have cx:=cell_of hb1 0
        have HB1':=Lib.hid hb1;have HB2':=Lib.hid hb2
        obtain⟨i0,hi0,hz0,hz1,hz2⟩:=info_parts Tryz.infoSu
        have hsz:w.heap.size≤(W.alloc (.cells #[.int .i64 i,.int .i64 p,.string ym] 63)).heap.size:=by have:=HMw.out.fr.size;simp;omega
        clear hb1 hb2 hL1
        gi_wp2_with (gi_at_builtin;refine wpListIn_append_own _ rfl _ _ 71 rfl w.heap.size 63 i0 (.agg #[.int .i64 0,.int .i64 0,.string { data:=#[] }]) 3 32 Tryz.underlying71 hi0 hz0 hz1 hz2 rfl (by decide) (.slice ao L1.length cp) L1.length (suC L1) rfl (HB2'.out.alloc _) ⟨W.heap.size,0,none⟩ 1 1 (suC1 ⟨i,p,ym⟩) rfl rfl (new_row _ _ _) (by simp[suC1,Value.oneCell']) (by unfold maxLen;omega) (by omega) hsz ?_;intro v' w9 hown' hgrow _;obtain⟨ao',cp',rfl⟩:=own_shape hown';have hbx:=BO.facts HB1'.out HB2'.out (by decide) hgrow;have cx6:=cell_of hbx 0;have fx6:=free_of hbx 0;have HG:=Lib.hid hgrow;have HO:=Lib.hid hown';clear hgrow hown' hbx cx)
        have h9:=SB.add ⟨i,p,ym⟩ HMw.out HB1'.out HB2'.out HG.out HO.out
        refine⟨(KB.frm0 HFW.out).trans h9.2.kb,?_⟩
        show SB w ob (L0 ++ spOf s x i p (pre ++ [(yi,ym)])) _∧Kt suT w5 _
        rw[HSN.out,if_neg (by decide),← List.append_assoc,HL1.out]
        exact⟨h9.1,HKw.out.trans h9.2⟩
    ·intro D W hD hI hK
     have HID:=Lib.hid hI;have HKD:=Lib.hid hK;have HDD:=Lib.hid hD
     clear hI hK hD hit
     go_wp2
     refine⟨⟨D :: ds,?_⟩,?_⟩
     ·(repeat apply Exists.intro)
      exact⟨⟨p + 1,congrArg (Value.int .i64) (HWI.out p hltp),hltp,by rw[HE.out,HSM.out];exact HID.out.1,MS5.out.more M5.out.fr.size HID.out.2 HDD.out HKD.out,KT5.out.trans HID.out.2⟩,rfl⟩
     ·exact meas_up hltp (HWI.out p hltp)
  ·obtain rfl:n=p:=by omega
   have hge:¬ (n:Int) < (n:Int):=by omega
   go_wp2
   refine⟨⟨ds,?_⟩,?_⟩
   ·(repeat apply Exists.intro)
    exact⟨⟨i + 1,congrArg (Value.int .i64) (HWI.out i hlt),hlt,by have:=HMq.out;rw[← HN.out] at this;exact this,HMSq.out,KT1.out.trans HKTq.out⟩,rfl⟩
   ·exact meas_up hlt (HWI.out i hlt)
 ·obtain rfl:n=i:=by omega
  have hge:¬ (n:Int) < (n:Int):=by omega
  obtain⟨ao,cp,hb1,hb2⟩:=HM.out.bx
  have cx:=cell_of hb1 0
  have fx:=free_of hb1 0
  have HB1':=Lib.hid hb1;have HB2':=Lib.hid hb2
  clear hb1 hb2
  go_wp2
  exact su_end HM.out.fr HM.out.new HB1'.out HB2'.out HMS.out (fun V hc=>by simp[results,go_sem,hc]) (by rw[← HN.out];rfl)
end Go.Proofs.YtemjlpahohmajaaGreat
namespace Go.Proofs.YtemjlpahohmajaaGreat
open Go.RowKit Go.BigFrame
theorem numL_snd {α:Type} (L:List α):(numL L).map Prod.snd=L:=by
 refine List.ext_getElem? fun i=>?_
 rw[List.getElem?_map,numL_at]
 cases L[i]? <;> rfl
theorem numL_pre {α:Type} {L:List α} {pre rest:List (Nat × α)} {y:Nat × α} (h:numL L=pre ++ y :: rest):y.1=pre.length∧pre.length < L.length:=by
 have h1:(numL L)[pre.length]?=some y:=by rw[h,List.getElem?_append_right (Nat.le_refl _),Nat.sub_self];rfl
 rw[numL_at,Option.map_eq_some_iff] at h1
 obtain⟨m,hm,rfl⟩:=h1
 exact⟨rfl,lt_of_some hm⟩
attribute [local go_sem] Oper.semAt_some
end Go.Proofs.YtemjlpahohmajaaGreat
namespace Go.Proofs.YtemjlpahohmajaaGreat
open Go.RowKit Go.BigFrame
theorem Tryz.call_pFinal1 (args:Array Value) (w:World):(callFunc 121 args).run Tryz.prog w=.ok (.enter 121 args) w:=by kernel_rfl
set_option maxRecDepth 100000 in
theorem pFinal1_any (cb:Nat) (cls cap:Int) (L:List ByteArray) (F:List Nat) (w:World) (h:Chn w cb cls cap L F):Calls Tryz.prog 121 #[.pointer (some ⟨cb,0,none⟩)] w (Ret (.bool (decide (0 < L.length))) (Frm [] w)):=by
 have CL:=Lib.hid (len_any h)
 have e:decide (0 < L.length)=decide ((0:Int) < (L.length:Int)):=by rw[decide_eq_decide];omega
 rw[e]
 clear h e
 go_enter Tryz.func121,Tryz.ntmps121
 go_wp2_with (go_at_call 56;go_must (refine CL.out.mono ?_;rintro e w1 ⟨rfl,hf⟩;have HF:=Lib.hid hf;clear hf))
 go_ret
 exact⟨by simp,HF.out⟩
def busyB (Ls:List (List ByteArray)):Bool:=Ls.any fun l=>decide (0 < l.length)
theorem busy_ixf (Ls:List (List ByteArray)):decide (0≤ixf (fun l=>decide (0 < l.length)) Ls)=busyB Ls:=by
 unfold busyB
 rw[Bool.eq_iff_iff,decide_eq_true_eq,List.any_eq_true]
 constructor
 ·intro h
  obtain⟨i,hi,-⟩:=ixf_nat h
  obtain⟨x,h1,h2,-⟩:=ixf_at hi
  exact⟨x,List.mem_of_getElem? h1,h2⟩
 ·rintro⟨x,h1,h2⟩
  exact ixf_ex h1 h2
set_option maxRecDepth 100000 in
theorem cfChan_any (cls cap:Int) (v:Value) (Ls:List (List ByteArray)) (w:World) (h:RowV cls cap w v Ls) (hl:Ls.length≤1000):Calls Tryz.prog 120 #[v,.func (.func 121) #[] #[]] w (Ret (.bool (busyB Ls)) (Frm [] w)):=by
 have CI:=Lib.hid (ifChan_any cls cap 121 #[] (fun l=>decide (0 < l.length)) v Ls w h hl Tryz.call_pFinal1 (fun W x cb F _ _ hc=>pFinal1_any cb cls cap x F W hc))
 obtain⟨ao,cq,rfl⟩:=Arr.shape h
 rw[← busy_ixf]
 obtain⟨q,hq⟩:∃ q,ixf (fun l:List ByteArray=>decide (0 < l.length)) Ls=q:=⟨_,rfl⟩
 rw[hq] at CI ⊢
 clear h hl hq
 go_enter Tryz.func120,Tryz.ntmps120
 go_wp2_with (go_at_call 157;go_must (refine CI.out.mono ?_;rintro e w1 ⟨rfl,hf⟩;have HF:=Lib.hid hf;clear hf))
 go_ret
 exact⟨rfl,HF.out⟩
def endB (s:SesD) (x:PS) (i:Nat):Bool:=(x.ways.getD i []).all (fun l=>l.isEmpty) && ((s.rol i).sts.getD (x.at i) dS).fin
theorem busy_all (Ls:List (List ByteArray)):(Ls.all fun l=>l.isEmpty)=!busyB Ls:=by
 unfold busyB
 rw[Bool.eq_iff_iff,List.all_eq_true,Bool.not_eq_true',List.any_eq_false]
 constructor
 ·intro h x hx
  have:=h x hx
  rw[List.isEmpty_iff] at this
  simp[this]
 ·intro h x hx
  have:=h x hx
  rw[decide_eq_true_eq] at this
  rw[List.isEmpty_iff,← List.length_eq_zero_iff];omega
set_option maxHeartbeats 2000000 in
set_option maxRecDepth 100000 in
theorem pFinal_any (s:SesD) (yb fb sb:Nat) (x:PS) (w:World) (h:SyR w s yb fb) (hx:StR w s yb sb x):Calls Tryz.prog 72 #[.pointer (some ⟨yb,0,none⟩),.pointer (some ⟨sb,0,none⟩)] w (Ret (.tuple #[.bool (finalB s x),.int .i64 0]) (Frm [] w)):=by
 have HSY:=Lib.hid h;have HST:=Lib.hid hx
 have C1:=Lib.hid (pCheck_any s yb fb sb x w h hx)
 obtain⟨av,wv,h1,h2,h3⟩:=hx.out
 obtain⟨aa,ca,rfl⟩:=h2.shape
 obtain⟨aw,cw,rfl⟩:=h3.shape
 rw[actsP_len,hx.ok.wl] at h1
 obtain⟨n,hn⟩:∃ n,s.roles.length=n:=⟨_,rfl⟩
 rw[hn] at h1
 have x1:=cell_of h1 1
 have HX1:=Lib.hid x1
 have HN:=Lib.hid hn
 have HFB:Hid (finalB s x=(List.range n).all fun i=>endB s x i):=Lib.hid (by rw[← hn];rfl)
 obtain⟨fb',hfb⟩:∃ b,finalB s x=b:=⟨_,rfl⟩
 rw[hfb] at HFB ⊢
 have hn4:n≤4:=by rw[← hn];exact h.ok.n4
 clear h hx h1 h2 h3 hn hfb
 go_enter Tryz.func72,Tryz.ntmps72
 go_wp2_with (first
  | (go_at_call 61;go_must (refine C1.out.mono ?_;rintro e w' ⟨rfl,rfl⟩)))
 clear x1 C1
 go_loopw [21] (fun s21 wr=>∃ i:Nat,s21=.int .i64 i∧i≤n∧Frm [] w wr∧∀ j,j < i→endB s x j=true) (fun s21 _=>n - (intOf s21).toNat)
 case atStart=>exact⟨0,rfl,Nat.zero_le _,Frm.refl _ _,fun j hj=>by omega⟩
 case round =>
  obtain⟨i,rfl,hi,hf,hno⟩:=hrel
  have HF:=Lib.hid hf;have HNO:=Lib.hid hno
  clear hf hno
  by_cases hlt:i < n
  ·have hlt':(i:Int) < (n:Int):=by omega
   have hin:i < s.roles.length:=by rw[HN.out];exact hlt
   obtain⟨gb,go',cw',rv,y1,y2,y3⟩:=HST.out.row hin
   obtain⟨ab,ao,ac,bb,y4,ha⟩:=HST.out.act hin
   obtain⟨rb,ro,rc,sv,cv,tv,y5,hr⟩:=HSY.out.rol hin
   have hst:(s.rol i).sts[x.at i]?=some ((s.rol i).sts.getD (x.at i) dS):=some_getD (HST.out.ok.pb i hin)
   have hpb:=HST.out.ok.pb i hin
   have hwr:=HST.out.ok.wr i hin
   obtain⟨aS,cS,rfl⟩:=hr.r3.sts.shape
   obtain⟨b1,o1,rfl,-,g1,-⟩:=hr.r3.sts.get hst
   obtain⟨-,d1,-,-,-⟩:=hr
   obtain⟨e0,e1,-⟩:=ha
   rw[HN.out] at y1 y4 y5
   have q:=Option.some.inj (HX1.out.symm.trans y4)
   cases q
   have HEB:Hid (endB s x i=(!busyB (x.ways.getD i []) && ((s.rol i).sts.getD (x.at i) dS).fin)):=Lib.hid (by unfold endB;rw[busy_all])
   obtain⟨Ls,hLs⟩:∃ Ls,x.ways.getD i []=Ls:=⟨_,rfl⟩
   obtain⟨p,hp⟩:∃ p,x.at i=p:=⟨_,rfl⟩
   obtain⟨m,hm⟩:∃ m,(s.rol i).sts.length=m:=⟨_,rfl⟩
   obtain⟨fin,hfi⟩:∃ f,((s.rol i).sts.getD (x.at i) dS).fin=f:=⟨_,rfl⟩
   rw[hfi] at g1 HEB
   rw[hLs] at y3 HEB hwr
   rw[hp] at e0 g1 hpb
   rw[hm] at d1 hpb
   have hpm:(p:Int) < (m:Int):=by omega
   have CF:Hid (∀ V,Frm [] w V→Calls Tryz.prog 120 #[rv,.func (.func 121) #[] #[]] V (Ret (.bool (busyB Ls)) (Frm [] V))):=Lib.hid fun V hV=>cfChan_any s.cls s.cap rv Ls V (y3.frm hV) (by rw[hwr,HN.out];omega)
   obtain⟨bz,hbz⟩:∃ b,busyB Ls=b:=⟨_,rfl⟩
   rw[hbz] at CF HEB
   have HU:Hid (∀ V,Frm [] w V→V.cell? ⟨yb,1,none⟩=some (.slice (some ⟨rb,ro,none⟩) n rc)∧V.cell? ⟨rb,ro + i * 4 + 1,none⟩=some (.slice (some ⟨b1,o1,none⟩) m cS)∧V.cell? ⟨b1,o1 + p * 3 + 1,none⟩=some (.bool fin)):=Lib.hid fun V hV=>⟨hV.keep y5,hV.keep d1,hV.keep g1⟩
   replace y1:=HF.out.keep y1;replace y2:=HF.out.keep y2;replace y4:=HF.out.keep y4;replace e0:=HF.out.keep e0;replace e1:=HF.out.keep e1
   have hl1:=cell_lt y1
   have hl2:=cell_lt y2
   clear hst hwr y3 y5 d1 g1 hLs hp hm hfi hbz hin hpb
   go_upto_region 8 with (first
    | (go_at_call 120;go_must (refine(CF.out _ (HF.out.alloc _)).mono ?_;rintro e w1 ⟨rfl,hf1⟩;have HQ:=Lib.hid (hf1.at (heap_alloc_new wr (.cells #[.int .i64 p,.pointer (some ⟨bb,0,none⟩)] 143)) (by simp));have HF1:Hid (Frm [] w w1):=Lib.hid ((HF.out.alloc _).trans hf1);clear hf1)))
   have HU1:Hid (∀ V,Frm [] w1 V→(V.cell? ⟨yb,1,none⟩=some (.slice (some ⟨rb,ro,none⟩) n rc)∧V.cell? ⟨rb,ro + i * 4 + 1,none⟩=some (.slice (some ⟨b1,o1,none⟩) m cS)∧V.cell? ⟨b1,o1 + p * 3 + 1,none⟩=some (.bool fin))∧V.cell? ⟨wr.heap.size,0,none⟩=some (.int .i64 p)):=Lib.hid fun V hV=>⟨HU.out V (HF1.out.trans hV),hV.keep (cell_of HQ.out 0)⟩
   clear y1 y2 y4 e0 e1 CF hl1 hl2
   have hfalse:endB s x i=false→fb'=false:=fun h=>by
    rw[HFB.out,List.all_eq_false]
    exact⟨i,by simpa using hlt,by rw[h];decide⟩
   have HFA:=Lib.hid hfalse
   clear hfalse
   cases bz with
   | true =>
     have HR:=Lib.hid (HFA.out (by rw[HEB.out];rfl))
     clear HFA
     refine wp_region_cq (by kernel_rfl) (by kernel_rfl) ?_
     repeat (first
      | go_big_quiet_skip
      | (refine wpQuiet_want (by rfl) (fun K hK=>?_)
         first
          | (refine quiet_move _ (by rfl) (hK _ ?_))
          | (refine quiet_assign _ (by rfl) (hK _ ?_))
          | (apply Exists.intro
             refine⟨fun w' hC=>?_,hK _ ?_⟩
             ·(unfold Oper.quietAt
               obtain⟨⟨z1,z2,z3⟩,z4⟩:=HU1.out w' hC
               clear hC
               go_simp
               try exact⟨rfl,rfl⟩
               try rfl))
         clear hK K
         try simp only[nrm,Act.eval,nrq]))
     refine wpQuiet_nil ?_
     intro w2 hf2
     go_wp2
     go_ret2
     exact⟨by rw[HR.out];rfl,HF1.out.trans hf2⟩
   | false =>
     cases fin with
     | false =>
       have HR:=Lib.hid (HFA.out (by rw[HEB.out];rfl))
       clear HFA
       refine wp_region_cq (by kernel_rfl) (by kernel_rfl) ?_
       repeat (first
        | go_big_quiet_skip
        | (refine wpQuiet_want (by rfl) (fun K hK=>?_)
           first
            | (refine quiet_move _ (by rfl) (hK _ ?_))
            | (refine quiet_assign _ (by rfl) (hK _ ?_))
            | (apply Exists.intro
               refine⟨fun w' hC=>?_,hK _ ?_⟩
               ·(unfold Oper.quietAt
                 obtain⟨⟨z1,z2,z3⟩,z4⟩:=HU1.out w' hC
                 clear hC
                 go_simp
                 try exact⟨rfl,rfl⟩
                 try rfl))
           clear hK K
           try simp only[nrm,Act.eval,nrq]))
       refine wpQuiet_nil ?_
       intro w2 hf2
       go_wp2
       go_ret2
       exact⟨by rw[HR.out];rfl,HF1.out.trans hf2⟩
     | true =>
       clear HFA
       refine wp_region_cq (by kernel_rfl) (by kernel_rfl) ?_
       repeat (first
        | go_big_quiet_skip
        | (refine wpQuiet_want (by rfl) (fun K hK=>?_)
           first
            | (refine quiet_move _ (by rfl) (hK _ ?_))
            | (refine quiet_assign _ (by rfl) (hK _ ?_))
            | (apply Exists.intro
               refine⟨fun w' hC=>?_,hK _ ?_⟩
               ·(unfold Oper.quietAt
                 obtain⟨⟨z1,z2,z3⟩,z4⟩:=HU1.out w' hC
                 clear hC
                 go_simp
                 try exact⟨rfl,rfl⟩
                 try rfl))
           clear hK K
           try simp only[nrm,Act.eval,nrq]))
       refine wpQuiet_nil ?_
       intro w2 hf2
       have HF2:=Lib.hid (HF1.out.trans hf2)
       clear hf2
       go_wp2
       refine⟨⟨i + 1,congrArg (Value.int .i64) (by omega),hlt,HF2.out,fun j hj=>?_⟩,by simp[intOf];omega⟩
       by_cases e:j=i
       ·subst e;rw[HEB.out];rfl
       ·exact HNO.out j (by omega)
  ·have hge:¬ (i:Int) < (n:Int):=by omega
   have HR:Hid (fb'=true):=Lib.hid (by
    rw[HFB.out,List.all_eq_true]
    intro j hj
    exact HNO.out j (by rw[List.mem_range] at hj;omega))
   go_wp2
   go_ret2
   exact⟨by rw[HR.out];rfl,HF.out⟩
end Go.Proofs.YtemjlpahohmajaaGreat
namespace Go.Proofs.YtemjlpahohmajaaGreat
open Go.RowKit Go.BigFrame
abbrev encU (m:Sp):Array Value:=#[.int .i64 m.role,.int .i64 m.peer,.string m.msg]
theorem Tryz.undSp:Tryz.prog.underlying 63=some (.struct (Tryz.prog.fieldsOf 63)):=by kernel_rfl
theorem txt_iff {a b:ByteArray}:a.toList=b.toList↔a=b:=by
 constructor
 ·intro h
  by_cases hab:a=b
  ·exact hab
  ·have:=str_ne hab
   rw[h] at this
   simp at this
 ·rintro rfl;rfl
theorem sp_ext {a b:Sp}:a=b↔(a.role:Int)=(b.role:Int)∧(a.peer:Int)=(b.peer:Int)∧a.msg=b.msg:=by
 obtain⟨a1,a2,a3⟩:=a
 obtain⟨b1,b2,b3⟩:=b
 simp only[Sp.mk.injEq]
 constructor
 ·rintro⟨rfl,rfl,rfl⟩
  exact⟨rfl,rfl,rfl⟩
 ·rintro⟨h1,h2,h3⟩
  exact⟨Int.ofNat.inj h1,Int.ofNat.inj h2,h3⟩
set_option maxHeartbeats 1000000 in
set_option maxRecDepth 100000 in
theorem eql_sp (a b:Sp) (w:World):(binOp .eql 63 (.agg (encU a)) (.agg (encU b))).run Tryz.prog w=.ok (.bool (decide (a=b))) w:=by
 have h:(Op.equalIn (9999 + 1) 63 (.agg (encU a)) (.agg (encU b))).run Tryz.prog w=.ok (decide (a=b)) w:=by
  rw[run_equalIn_struct w 9999 63 _ _ Tryz.undSp (by kernel_rfl)]
  have hd:decide (a=b)=decide ((a.role:Int)=(b.role:Int)∧(a.peer:Int)=(b.peer:Int)∧a.msg=b.msg):=decide_eq_decide.2 sp_ext
  rw[hd]
  simp[go_sem,encU,Tryz.underlying63]
  obtain⟨a1,a2,a3⟩:=a
  obtain⟨b1,b2,b3⟩:=b
  simp only[txt_iff]
  clear hd
  repeat' split
  all_goals simp[*]
 simp only[binOp]
 simp[show Op.equal 63 (.agg (encU a)) (.agg (encU b))=Op.equalIn (9999 + 1) 63 (.agg (encU a)) (.agg (encU b)) from rfl,h]
set_option maxHeartbeats 1000000 in
theorem inSp_any (v:Value) (xs:List Sp) (y:Sp) (w:World) (h:Arr 3 SuAt w v xs) (hl:xs.length≤5000) :
  Calls Tryz.prog 128 #[v,.agg (encU y)] w (Ret (.int .i64 (ixf (fun x=>decide (y=x)) xs)) (Frm [] w)):=by
 obtain⟨ao,cap,rfl,hx⟩:=h
 have HX:=Lib.hid hx
 obtain⟨n,hn⟩:∃ n,xs.length=n:=⟨_,rfl⟩
 rw[hn] at hl ⊢
 have HN:=Lib.hid hn
 obtain⟨W0,hW0⟩:∃ W0,w.alloc (.cells (encU y) 63)=W0:=⟨_,rfl⟩
 have HW0:Hid (Frm [] w W0):=Lib.hid (by rw[← hW0];exact(Frm.refl _ _).alloc _)
 have HB:Hid (W0.heap[w.heap.size]?=some (.cells (encU y) 63 (0,0))):=Lib.hid (by rw[← hW0];exact heap_alloc_new w _)
 have HE:=Lib.hid hW0
 clear hx hn hW0
 go_enter Tryz.func128,Tryz.ntmps128
 go_wp2_with (refine wpList_box_row rfl 63 _ rfl (encU y) rfl ?_;rw[HE.out])
 clear HE
 go_loopw [8,5] (fun s8 s5 wr=>∃ i:Nat,s8=.int .i64 i∧i≤n∧Frm [] W0 wr∧∀ j x,j < i→xs[j]?=some x→decide (y=x)=false) (fun s8 _ _=>n - (intOf s8).toNat)
 case atStart=>exact⟨0,rfl,Nat.zero_le _,Frm.refl _ _,fun j x hj=>by omega⟩
 case round =>
  obtain⟨i,rfl,hi,hf,hno⟩:=hrel
  have HF:=Lib.hid hf;have HNO:=Lib.hid hno
  clear hf hno
  by_cases hlt:i < n
  ·have hlt':(i:Int) < (n:Int):=by omega
   obtain⟨x,hx⟩:∃ x,xs[i]?=some x:=⟨_,List.getElem?_eq_getElem (by rw[HN.out];exact hlt)⟩
   obtain⟨b,o,rfl,hat⟩:=HX.out i x hx
   obtain⟨c0,c1,c2⟩:=hat.frm (HW0.out.trans HF.out)
   have hbb:=HF.out.at HB.out (by simp)
   have d0:wr.cell? ⟨w.heap.size,0,none⟩=some (.int .i64 y.role):=cell_of hbb 0
   have d1:wr.cell? ⟨w.heap.size,1,none⟩=some (.int .i64 y.peer):=cell_of hbb 1
   have d2:wr.cell? ⟨w.heap.size,2,none⟩=some (.string y.msg):=cell_of hbb 2
   have hq:∀ V,(binOp .eql 63 (suV y) (suV x)).run Tryz.prog V=.ok (.bool (decide (y=x))) V:=fun V=>eql_sp y x V
   have HXI:=Lib.hid hx
   clear hat hx hbb
   cases hpx:decide (y=x) with
   | true =>
     rw[hpx] at hq
     have HPX:=Lib.hid hpx
     clear hpx
     go_wp2
     go_quiet (fail)
     go_wp2
     go_ret
     exact⟨by rw[ixf_some HXI.out HPX.out HNO.out];rfl,HW0.out.trans (HF.out.drewN _)⟩
   | false =>
     rw[hpx] at hq
     have HPX:=Lib.hid hpx
     clear hpx
     go_wp2
     go_quiet (fail)
     go_wp2
     refine⟨⟨i + 1,by simp,hlt,HF.out.drewN _,fun j z hj hz=>?_⟩,by simp[intOf];omega⟩
     by_cases e:j=i
     ·subst e;rw[HXI.out] at hz;cases hz;exact HPX.out
     ·exact HNO.out j z (by omega) hz
  ·have hge:¬ (i:Int) < (n:Int):=by omega
   go_wp2
   go_ret
   refine⟨?_,HW0.out.trans HF.out⟩
   have e:=ixf_none (p:=fun x=>decide (y=x)) (l:=xs) fun x hx=>by
    obtain⟨j,hj⟩:=List.getElem?_of_mem hx
    exact HNO.out j x (by have:=lt_of_some hj;rw[HN.out] at this;omega) hj
   rw[e];rfl
theorem mem_ixu {xs:List Sp} {y:Sp}:decide (0≤ixf (fun x=>decide (y=x)) xs)=decide (y∈xs):=by
 by_cases h:y∈xs
 ·rw[decide_eq_true (ixf_ex (p:=fun x=>decide (y=x)) h (by simp)),decide_eq_true h]
 ·rw[decide_eq_false h,decide_eq_false]
  intro h2
  obtain⟨i,hi,-⟩:=ixf_nat h2
  obtain⟨x,h3,h4,-⟩:=ixf_at hi
  rw[decide_eq_true_eq] at h4
  subst h4
  exact h (List.mem_of_getElem? h3)
set_option maxHeartbeats 1000000 in
theorem coSp_any (v:Value) (xs:List Sp) (y:Sp) (w:World) (h:Arr 3 SuAt w v xs) (hl:xs.length≤5000) :
  Calls Tryz.prog 78 #[v,.agg (encU y)] w (Ret (.bool (decide (y∈xs))) (Frm [] w)):=by
 obtain⟨ao,cap,e,-⟩:=id h
 subst e
 have hf0:Frm [] w (w.alloc (.cells (encU y) 63)):=(Frm.refl _ _).alloc _
 have C1:=Lib.hid (inSp_any (.slice ao xs.length cap) xs y (w.alloc (.cells (encU y) 63)) (h.frm fun _ _ _ h=>h.frm hf0) hl)
 have HF0:=Lib.hid hf0
 rw[← mem_ixu]
 obtain⟨q,hq⟩:∃ q,ixf (fun x=>decide (y=x)) xs=q:=⟨_,rfl⟩
 rw[hq] at C1 ⊢
 have hb:(w.alloc (.cells (encU y) 63)).heap[w.heap.size]?=some (.cells (encU y) 63 (0,0)):=heap_alloc_new w _
 obtain⟨W0,hW0⟩:∃ W0,w.alloc (.cells (encU y) 63)=W0:=⟨_,rfl⟩
 rw[hW0] at C1 HF0 hb
 have HB:=Lib.hid hb
 have HW:=Lib.hid hW0
 clear h hf0 hq hW0 hb
 go_enter Tryz.func78,Tryz.ntmps78
 go_wp2_with (first
  | (refine wpList_box_row rfl 63 _ rfl (encU y) rfl ?_;rw[HW.out])
  | (refine wpList_load_whole rfl 63 _ rfl _ rfl _ 63 HB.out _ Tryz.underlying63 rfl (by kernel_rfl) ?_)
  | (go_at_call 128;go_must (refine C1.out.mono ?_;rintro e w1 ⟨rfl,hf1⟩;have HF1:=Lib.hid hf1;clear hf1)))
 go_ret
 exact⟨rfl,HF0.out.trans HF1.out⟩
theorem ixf_anyS (p:StpD→Bool) (l:List StpD):decide (0≤ixf p l)=l.any p:=by
 rw[Bool.eq_iff_iff,decide_eq_true_eq,List.any_eq_true]
 constructor
 ·intro h
  obtain⟨i,hi,-⟩:=ixf_nat h
  obtain⟨x,h1,h2,-⟩:=ixf_at hi
  exact⟨x,List.mem_of_getElem? h1,h2⟩
 ·rintro⟨x,h1,h2⟩
  exact ixf_ex h1 h2
set_option maxRecDepth 100000 in
theorem cfStep_any (K:FuncId) (caps:Array Value) (p:StpD→Bool) (v:Value) (xs:List StpD) (w:World) (h:Arr 9 SpAt w v xs) (hl:xs.length≤1000) (hK:∀ args w,(callFunc K args).run Tryz.prog w=.ok (.enter K args) w)
  (hp:∀ W x,Frm [] w W→x∈xs→Calls Tryz.prog K (#[stpV x] ++ caps) W (Ret (.bool (p x)) (Frm [] W))) :
  Calls Tryz.prog 76 #[v,.func (.func K) #[] caps] w (Ret (.bool (xs.any p)) (Frm [] w)):=by
 have CI:=Lib.hid (ifStep_any K caps p v xs w h hl hK hp)
 obtain⟨ao,cq,rfl⟩:=Arr.shape h
 rw[← ixf_anyS]
 obtain⟨q,hq⟩:∃ q,ixf p xs=q:=⟨_,rfl⟩
 rw[hq] at CI ⊢
 clear h hl hq hp
 go_enter Tryz.func76,Tryz.ntmps76
 go_wp2_with (go_at_call 127;go_must (refine CI.out.mono ?_;rintro e w1 ⟨rfl,hf⟩;have HF:=Lib.hid hf;clear hf))
 go_ret
 exact⟨rfl,HF.out⟩
end Go.Proofs.YtemjlpahohmajaaGreat
namespace Go.Proofs.YtemjlpahohmajaaGreat
open Go.RowKit Go.BigFrame
theorem setCells_at:∀ (vs:List Value) (o:Nat) (w:World) (b:Nat) (c:Array Value) (t:TypeId),w.heap[b]?=some (.cells c t (0,0))→o + vs.length≤c.size →
  ∃ c',(w.setCells b o vs).heap[b]?=some (.cells c' t (0,0))∧c'.size=c.size∧(∀ j,j < o∨o + vs.length≤j→c'[j]?=c[j]?)∧(∀ j v,vs[j]?=some v→c'[o + j]?=some v)∧Frm [b] w (w.setCells b o vs)
 | [],o,w,b,c,t,h,_=>⟨c,h,rfl,fun _ _=>rfl,fun j v h=>by simp at h,Frm.refl _ _⟩
 | v :: vs,o,w,b,c,t,h,hl=>by
   have hb:=block_setCell h o v
   simp only[List.length_cons] at hl
   obtain⟨c',h1,h2,h3,h4,h5⟩:=setCells_at vs (o + 1) (w.setCell ⟨b,o,none⟩ v) b _ t hb (by simp;omega)
   refine⟨c',h1,by simpa using h2,fun j hj=>?_,fun j u hu=>?_,((Frm.refl _ _).setCell _ (.inl (by simp)) _).trans h5⟩
   ·simp only[List.length_cons] at hj
    rw[h3 j (by omega),Array.getElem?_setIfInBounds_ne (by omega)]
   ·cases j with
    | zero =>
      simp at hu;subst hu
      rw[Nat.add_zero,h3 o (by omega),Array.getElem?_setIfInBounds_self_of_lt (by omega)]
    | succ j =>
      rw[show o + (j + 1)=o + 1 + j by omega]
      exact h4 j u (by simpa using hu)
def mv00:Mv:=⟨0,0,0,0⟩
def RvR (W:World) (g n:Nat) (M:Nat→Mv):Prop:=∃ cur,W.heap[g]?=some (.cells cur 70 (0,0))∧n * 4≤cur.size ∧
 ∀ k,k < n→cur[k * 4]?=some (.int .i64 (M k).kind)∧cur[k * 4 + 1]?=some (.int .i64 (M k).role)∧cur[k * 4 + 2]?=some (.int .i64 (M k).step)∧cur[k * 4 + 3]?=some (.int .i64 (M k).place)
theorem RvR.frm {W V:World} {g n:Nat} {M:Nat→Mv} (h:RvR W g n M) (hf:Frm [] W V):RvR V g n M:=by
 obtain⟨cur,h1,h2⟩:=h
 exact⟨cur,hf.at h1 (by simp),h2⟩
theorem RvR.at {W:World} {g n k:Nat} {M:Nat→Mv} (h:RvR W g n M) (hk:k < n):MvAt W g (k * 4) (M k):=by
 obtain⟨cur,h1,h2,h3⟩:=h
 obtain⟨a,b,c,d⟩:=h3 k hk
 exact⟨(cell_of h1 _).trans a,(cell_of h1 _).trans b,(cell_of h1 _).trans c,(cell_of h1 _).trans d⟩
theorem RvR.set {W:World} {g n i:Nat} {M:Nat→Mv} (h:RvR W g n M) (hi:i < n) (m:Mv):RvR (W.setCells g (i * 4) (mvC1 m)) g n (fun k=>if k=i then m else M k)∧Frm [g] W (W.setCells g (i * 4) (mvC1 m)):=by
 obtain⟨cur,h1,h2,h3⟩:=h
 obtain⟨c',g1,g2,g3,g4,g5⟩:=setCells_at (mvC1 m) (i * 4) W g cur _ h1 (by simp[mvC1];omega)
 refine⟨⟨c',g1,by omega,fun k hk=>?_⟩,g5⟩
 by_cases e:k=i
 ·subst e
  simp only[if_true]
  exact⟨g4 0 _ rfl,g4 1 _ rfl,g4 2 _ rfl,g4 3 _ rfl⟩
 ·simp only[if_neg e]
  have hl:(mvC1 m).length=4:=rfl
  obtain⟨a,b,c,d⟩:=h3 k hk
  refine⟨(g3 _ ?_).trans a,(g3 _ ?_).trans b,(g3 _ ?_).trans c,(g3 _ ?_).trans d⟩ <;> rw[hl] <;> omega
theorem RvR.there {W:World} {g n i:Nat} {M:Nat→Mv} (h:RvR W g n M) (hi:i < n):W.there g (i * 4) 4:=by
 obtain⟨cur,h1,h2,h3⟩:=h
 intro j hj
 refine⟨?_,free_of h1 _⟩
 rw[cell_of h1,Array.getElem?_eq_getElem (by omega)]
 rfl
theorem mv_rv {W:World} {base:Nat} {v:Value} {L:List Mv} (h:W.ownsRow base 70 4 v L.length (mvC L)) (hn:L.length≠0):∃ g cap,v=.slice (some ⟨g,0,none⟩) L.length cap∧RvR W g L.length (fun k=>L.getD k mv00):=by
 obtain⟨-,⟨-,h2⟩ | ⟨g,cap,cur,rfl,-,hh,hc,-,hs,ht⟩⟩:=h
 ·exact absurd h2 hn
 ·refine⟨g,cap,rfl,cur,hh,by rw[hs];exact Nat.mul_le_mul_right _ hc,fun k hk=>?_⟩
  obtain⟨a,b,c,d⟩:=mvC_at (some_getD (d:=mv00) hk)
  have e:∀ j,j < L.length * 4→cur[j]?=(mvC L)[j]?:=fun j hj=>by
   rw[← ht,List.getElem?_take_of_lt hj,Array.getElem?_toList]
  exact⟨(e _ (by omega)).trans a,(e _ (by omega)).trans b,(e _ (by omega)).trans c,(e _ (by omega)).trans d⟩
theorem rv_arr {W:World} {g n cap:Nat} {M:Nat→Mv} {L:List Mv} (h:RvR W g n M) (hn:L.length=n) (hM:∀ k m,L[k]?=some m→M k=m):Arr 4 MvAt W (.slice (some ⟨g,0,none⟩) n cap) L:=
 ⟨_,_,by rw[hn],fun i m hm=>⟨g,0,rfl,by
  have:=h.at (k:=i) (by rw[← hn];exact lt_of_some hm)
  rw[hM i m hm] at this
  rwa [Nat.zero_add]⟩⟩
def revM (L:List Mv) (i k:Nat):Mv:=if k < i∨L.length≤k + i then L.getD (L.length - 1 - k) mv00 else L.getD k mv00
theorem revM_step {L:List Mv} {i j:Nat} (hj:L.length=i + j + 1) (hij:i < j) (k:Nat):(if k=j then revM L i i else if k=i then revM L i j else revM L i k)=revM L (i + 1) k:=by
 unfold revM
 by_cases h1:k=j
 ·subst h1
  rw[if_pos rfl,if_neg (by omega),if_pos (by omega),show L.length - 1 - k=i by omega]
 rw[if_neg h1]
 by_cases h2:k=i
 ·subst h2
  rw[if_pos rfl,if_neg (by omega),if_pos (by omega),show L.length - 1 - k=j by omega]
 rw[if_neg h2]
 by_cases h3:k < i∨L.length≤k + i
 ·rw[if_pos h3,if_pos (by omega)]
 ·rw[if_neg h3,if_neg (by omega)]
theorem revM_end {L:List Mv} {i:Nat} (h:L.length≤i + i + 1) {k:Nat} {m:Mv} (hm:L.reverse[k]?=some m):revM L i k=m:=by
 have hk:k < L.length:=by have:=lt_of_some hm;simpa using this
 rw[List.getElem?_reverse hk] at hm
 have h2:=getD_some (d:=mv00) hm
 unfold revM
 by_cases h3:k < i∨L.length≤k + i
 ·rw[if_pos h3];exact h2
 ·rw[if_neg h3,show k=L.length - 1 - k by omega];exact h2
theorem Tryz.infoMvS:(Tryz.prog.info? 70).map (·.size)=some 4:=by kernel_rfl
theorem one_mv (a b c d:Int):(#[.int .i64 a,.int .i64 b,.int .i64 c,.int .i64 d]:Array Value).all (·.oneCell')=true:=by
 rw[← Array.all_toList];rfl
theorem wp_store_mv {op:Oper} {a:Act} {w:World} {K:Act→World→Prop} {Q:Exit→Act→World→Prop} {g n i:Nat} {M:Nat→Mv} (x y:Operand) (m:Mv) (ho:op.op=.store 70 x y) (hx:a.eval x=.pointer (some ⟨g,i * 4,none⟩)) (hy:a.eval y=mvV m)
  (hR:RvR w g n M) (hi:i < n) (h:∀ w',RvR w' g n (fun k=>if k=i then m else M k)→Frm [g] w w'→K (a.put op.dst undef) w'):op.wp Tryz.prog a w K Q:=
 wp_store_mid 70 x y ho g (i * 4) #[.int .i64 m.kind,.int .i64 m.role,.int .i64 m.step,.int .i64 m.place] hx hy (hR.there hi) Tryz.infoMvS (one_mv _ _ _ _) (h _ (hR.set hi m).1 (hR.set hi m).2)
set_option maxHeartbeats 4000000 in
set_option maxRecDepth 100000 in
theorem rvMove_any (g n cap:Nat) (L:List Mv) (w:World) (hn:L.length=n) (h1:1≤n) (h5:n≤1000000) (h:RvR w g n (fun k=>L.getD k mv00)) :
  Calls Tryz.prog 97 #[.slice (some ⟨g,0,none⟩) n cap] w (RetV fun _ w'=>Arr 4 MvAt w' (.slice (some ⟨g,0,none⟩) n cap) L.reverse∧Frm [g] w w'):=by
 have HN:=Lib.hid hn
 have h0:RvR w g n (revM L 0):=by
  obtain⟨cur,g1,g2,g3⟩:=h
  refine⟨cur,g1,g2,fun k hk=>?_⟩
  have e:revM L 0 k=L.getD k mv00:=by unfold revM;rw[if_neg (by omega)]
  rw[e]
  exact g3 k hk
 have H0:=Lib.hid h0
 have hw:wrap64 ((n:Int) - 1)=((n - 1:Nat):Int):=by unfold wrap64;omega
 clear h hn
 go_enter Tryz.func97,Tryz.ntmps97
 go_wp2
 go_loopw [2,3] (fun s2 s3 wr=>∃ i:Nat,(s2=.int .i64 i∧s3=.int .i64 ((n - 1 - i:Nat):Int))∧2 * i≤n∧i < n∧RvR wr g n (revM L i)∧Frm [g] w wr) (fun s2 _ _=>n - (intOf s2).toNat)
 case atStart=>exact⟨0,⟨rfl,by congr 1;omega⟩,by omega,by omega,H0.out,Frm.refl _ _⟩
 case round =>
  obtain⟨i,⟨rfl,rfl⟩,hi2,hi,hr,hf⟩:=hrel
  obtain⟨j,hj⟩:∃ j,n - 1 - i=j:=⟨_,rfl⟩
  rw[hj]
  have HJ:=Lib.hid hj;have HR:=Lib.hid hr;have HF:=Lib.hid hf
  obtain⟨wq,hwq⟩:∃ wq,wq=wr:=⟨_,rfl⟩
  subst hwq
  clear hr hf hw
  by_cases hlt:i < j
  ·have hlt':(i:Int) < (j:Int):=by omega
   have hjn:j < n:=by omega
   go_upto_region 3 with (fail)
   generalize hQQ:Exit.inBlock _ _=QQ
   refine wp_mono (Q:=fun e a' w'=>match e with | .normal=>QQ .normal a' w' | _=>False) ?_ (fun e a' w' h=>by cases e <;> first | exact h | exact h.elim)
   have HCT:Hid (∀ V,Frm [] wq V→MvAt V g (j * 4) (revM L i j)∧MvAt V g (i * 4) (revM L i i)):=Lib.hid fun V hV=>⟨(HR.out.frm hV).at hjn,(HR.out.frm hV).at hi⟩
   refine heldL_start [] (wrFrom 13) (by kernel_rfl) ?_
   refine cnt 2 ?_
   iterate 2
    refine hcP ?_ ?_ ?_
    rotate_left
    ·intro w'
     go_simp
     try rfl
    try simp only[nrm,Nat.reduceAdd]
   refine tcn ?_
   refine cnt 0 ?_
   iterate 2
    refine hcL ?_ ?_ ?_
    rotate_left
    ·intro w' hC
     obtain⟨⟨x0,x1,x2,x3⟩,⟨y0,y1,y2,y3⟩⟩:=HCT.out w' ((Frm.refl [] wq).drew.trans hC)
     clear hC
     go_simp
     try rfl
    try simp only[nrm,Nat.reduceAdd]
   refine tcn ?_
   refine cnt 4 ?_
   iterate 9
    refine hcL ?_ ?_ ?_
    rotate_left
    ·intro w' hC
     obtain⟨⟨x0,x1,x2,x3⟩,⟨y0,y1,y2,y3⟩⟩:=HCT.out w' ((Frm.refl [] wq).drew.trans hC)
     clear hC
     go_simp
     try rfl
    try simp only[nrm,Nat.reduceAdd]
   refine tcn ?_
   refine honL 13 ?_
   refine heldL_write (i:=13) rfl (by rfl) (by rfl) (fun K' hK'=>?_)
   refine wp_store_mv (g:=g) (n:=n) (i:=i) (M:=revM L i) _ _ (revM L i j) rfl rfl rfl (HR.out.frm ((Frm.refl _ _).drew)) hi ?_
   intro wa hra hfa
   have HRA:=Lib.hid hra
   have HFA:Hid (Frm [g] wq wa):=Lib.hid ((((Frm.refl [] wq).drew).mono (by simp)).trans hfa)
   clear hra hfa
   refine hK'.out _ _ ?_
   clear hK' K'
   try simp only[nrm]
   refine honL 14 ?_
   refine heldL_write (i:=14) rfl (by rfl) (by rfl) (fun K' hK'=>?_)
   go_simp
   (skip)
   refine hK'.out _ _ ?_
   clear hK' K'
   try simp only[nrm]
   refine honL 15 ?_
   refine heldL_write (i:=15) rfl (by rfl) (by rfl) (fun K' hK'=>?_)
   refine wp_store_mv (g:=g) (n:=n) (i:=j) (M:=fun k=>if k=i then revM L i j else revM L i k) _ _ (revM L i i) rfl rfl rfl HRA.out hjn ?_
   intro wb hrb hfb
   have HRB:=Lib.hid hrb
   have HFB:Hid (Frm [g] wq wb):=Lib.hid (HFA.out.trans hfb)
   clear hrb hfb
   refine hK'.out _ _ ?_
   clear hK' K'
   try simp only[nrm]
   refine heldL_done (by kernel_rfl) ?_ _
   subst hQQ
   have hn9:=HN.out
   have hr9:RvR wb g n (revM L (i + 1)):=by
    have:=HRB.out
    rwa [show (fun k=>if k=j then revM L i i else if k=i then revM L i j else revM L i k)=revM L (i + 1) from funext fun k=>revM_step (by omega) hlt k] at this
   have HR9:=Lib.hid hr9
   clear hr9
   go_wp2
   exact⟨⟨i + 1,⟨rfl,by congr 1;omega⟩,by omega,by omega,HR9.out,HF.out.trans HFB.out⟩,by simp[intOf];omega⟩
  ·have hlt':¬ (i:Int) < (j:Int):=by omega
   go_wp2
   refine bodyPost_ret (results_none rfl _ _ _) rfl ?_
   exact⟨_,rfl,rv_arr HR.out (by simpa using HN.out) (fun k m hm=>revM_end (by have:=HN.out;omega) hm),HF.out⟩
end Go.Proofs.YtemjlpahohmajaaGreat
namespace Go.Proofs.YtemjlpahohmajaaGreat
open Go.RowKit Go.BigFrame Go.Maps
set_option maxRecDepth 100000 in
theorem rvMove_nil (ao:Option Addr) (cap:Nat) (w:World):Calls Tryz.prog 97 #[.slice ao 0 cap] w (RetV fun _ w'=>w=w'):=by
 go_enter Tryz.func97,Tryz.ntmps97
 go_wp2
 go_loopw [2,3] (fun s2 s3 wr=>(s2=.int .i64 0∧s3=.int .i64 (-1))∧w=wr) (fun _ _ _=>0)
 case atStart=>exact⟨⟨rfl,rfl⟩,rfl⟩
 case round =>
  obtain⟨⟨rfl,rfl⟩,rfl⟩:=hrel
  go_wp2
  refine bodyPost_ret (results_none rfl _ _ _) rfl ?_
  exact⟨_,rfl,rfl⟩
set_option maxRecDepth 100000 in
theorem xTurned_any {L:List Mv} {base:Nat} {v:Value} {w:World} (h:w.ownsRow base 70 4 v L.length (mvC L)) (h5:L.length≤1000000) :
  Calls Tryz.prog 53 #[v] w (RetV fun u w'=>u=v∧Arr 4 MvAt w' v L.reverse∧Frm v.ownBlock.toList w w'):=by
 by_cases h0:L.length=0
 ·obtain⟨ao,cap,rfl⟩:=own_shape h
  have hL:L=[]:=List.length_eq_zero_iff.1 h0
  subst hL
  have C1:=Lib.hid (rvMove_nil ao cap w)
  have hA:Hid (Arr 4 MvAt w (.slice ao 0 cap) (List.reverse [])):=Lib.hid ⟨_,_,rfl,fun i m hm=>by simp at hm⟩
  clear h
  simp only[List.length_nil]
  go_enter Tryz.func53,Tryz.ntmps53
  go_wp2_with (first
   | (go_at_call 97;go_must (refine C1.out.mono ?_;rintro e w' ⟨v,rfl,rfl⟩)))
  go_ret
  exact⟨_,rfl,rfl,hA.out,Frm.refl _ _⟩
 ·obtain⟨g,cap,rfl,hr⟩:=mv_rv h h0
  have C1:=Lib.hid (rvMove_any g L.length cap L w rfl (by omega) h5 hr)
  clear h hr
  go_enter Tryz.func53,Tryz.ntmps53
  go_wp2_with (first
   | (go_at_call 97;go_must (refine C1.out.mono ?_;rintro e w' ⟨v,rfl,h1,h2⟩;have H1:=Lib.hid h1;have H2:=Lib.hid h2;clear h1 h2)))
  go_ret
  exact⟨_,rfl,rfl,H1.out,H2.out⟩
def parOf (nb:Nat) (w:World):Nat:=(intOf ((w.cell? ⟨nb,1,none⟩).getD undef) + 1).toNat
abbrev ndA (d:Nd × Nat):Array Value:=#[.pointer (some ⟨d.2,0,none⟩),.int .i64 d.1.par,.int .i64 d.1.mv.kind,.int .i64 d.1.mv.role,.int .i64 d.1.mv.step,.int .i64 d.1.mv.place,.int .i64 d.1.lvl]
theorem parOf_at {nb:Nat} {w:World} {d:Nd × Nat} {t:TypeId} (h:w.heap[nb]?=some (.cells (ndA d) t (0,0))):parOf nb w=(d.1.par + 1).toNat:=by
 have h2:w.cell? ⟨nb,1,none⟩=some (.int .i64 d.1.par):=cell_of h 1
 unfold parOf
 rw[h2]
 rfl
set_option maxHeartbeats 4000000 in
set_option maxRecDepth 100000 in
theorem xTrace_any {W:World} {s:SesD} {yb pb lim nn i:Nat} {whole:Bool} {N:List (Nd × Nat)} (h:SpO W s yb whole pb N) (hi:SI s lim nn (N.map Prod.fst)) (hlt:i < N.length) (h5:N.length≤200000) :
  Calls Tryz.prog 20 #[.pointer (some ⟨pb,0,none⟩),.int .i64 i] W (RetV fun v w'=>∃ u,v=.tuple #[u,.int .i64 0]∧Arr 4 MvAt w' u (traceP (N.map Prod.fst) i)∧Frm [] W w'):=by
 have HS:=Lib.hid h;have HI:=Lib.hid hi
 obtain⟨d,hd⟩:∃ d,N[i]?=some d:=⟨_,List.getElem?_eq_getElem hlt⟩
 have C1:=Lib.hid (xNode_in h hd (by omega))
 have HD:=Lib.hid hd
 clear h hi hd
 go_enter Tryz.func20,Tryz.ntmps20
 go_wp2_with (first
  | (go_at_call 52;go_must (refine C1.out.mono ?_;rintro e w1 ⟨rfl,hf⟩;have HF:=Lib.hid hf;clear hf)))
 have hnb0:=heap_alloc_new w1 (.cells (ndA d) 117)
 have hf0:Frm [] W (w1.alloc (.cells (ndA d) 117)):=HF.out.alloc _
 have hle:W.heap.size≤w1.heap.size:=HF.out.size
 obtain⟨nb,hnb⟩:∃ nb,w1.heap.size=nb:=⟨_,rfl⟩
 rw[hnb] at hnb0 hle ⊢
 have HN0:=Lib.hid hnb0;have HF0:=Lib.hid hf0;have HLE:=Lib.hid hle
 clear hnb0 hf0 hle HF C1
 go_loopw [4,5] (fun s4 s5 wr=>∃ (c:Nat) (e:Nd × Nat) (R:List Mv) (ao:Option Addr) (cp:Nat),(s4=.slice ao R.length cp∧s5=.int .i64 0)∧N[c]?=some e∧R.length + c≤i∧traceP (N.map Prod.fst) i=traceP (N.map Prod.fst) c ++ R.reverse∧wr.ownsRow W.heap.size 70 4 (.slice ao R.length cp) R.length (mvC R)∧wr.heap[nb]?=some (.cells (ndA e) 117 (0,0))∧Frm [] W wr) (fun _ _ w=>parOf nb w)
 case atStart=>exact⟨i,d,[],none,0,⟨rfl,rfl⟩,HD.out,by simp,by simp,World.ownsRow_nil _ _ _ _,HN0.out,HF0.out⟩
 case round =>
  obtain⟨c,e,R,ao,cp,⟨rfl,rfl⟩,he,hRc,htr,ho,hn,hf⟩:=hrel
  obtain⟨wq,hwq⟩:∃ wq,wq=wr:=⟨_,rfl⟩
  subst hwq
  have HTR:=Lib.hid htr;have HO:=Lib.hid ho;have HNB:=Lib.hid hn;have HFQ:=Lib.hid hf
  have hm:(N.map Prod.fst)[c]?=some e.1:=by rw[List.getElem?_map,he];rfl
  have n1:wq.cell? ⟨nb,1,none⟩=some (.int .i64 e.1.par):=cell_of hn 1
  by_cases hp:0≤e.1.par
  ·have hc0:0 < c:=by
    rcases Nat.eq_zero_or_pos c with h0 | h0
    ·subst h0
     rw[HI.out.one] at hm
     rw[← Option.some.inj hm] at hp
     exact absurd hp (show ¬ (0:Int)≤-1 by decide)
    ·exact h0
   obtain⟨p,b,hpar,hpc,hb,-⟩:=HI.out.par c e.1 hm hc0
   have hcl:=lt_of_some he
   obtain⟨e',he'⟩:∃ e',N[p]?=some e':=⟨_,List.getElem?_eq_getElem (by omega)⟩
   have hm':(N.map Prod.fst)[p]?=some e'.1:=by rw[List.getElem?_map,he'];rfl
   have hlow:e'.1.par < p:=by
    rcases Nat.eq_zero_or_pos p with h0 | h0
    ·subst h0
     rw[HI.out.one] at hm'
     rw[← Option.some.inj hm']
     exact(show (-1:Int) < 0 by decide)
    ·obtain⟨p2,b2,h1,h2,-⟩:=HI.out.par p e'.1 hm' h0
     rw[h1];omega
   have HST:=Lib.hid (trace_step HI.out hm hpar hpc)
   have n2:wq.cell? ⟨nb,2,none⟩=some (.int .i64 e.1.mv.kind):=cell_of hn 2
   have n3:wq.cell? ⟨nb,3,none⟩=some (.int .i64 e.1.mv.role):=cell_of hn 3
   have n4:wq.cell? ⟨nb,4,none⟩=some (.int .i64 e.1.mv.step):=cell_of hn 4
   have n5:wq.cell? ⟨nb,5,none⟩=some (.int .i64 e.1.mv.place):=cell_of hn 5
   rw[hpar] at n1
   have hpz:(0:Int)≤(p:Int):=by omega
   have HE':=Lib.hid he';have HPAR:=Lib.hid hpar;have HLOW:=Lib.hid hlow
   obtain⟨i0,hi0,hz0,hz1,hz2⟩:=info_parts Tryz.infoMv
   have hsz:W.heap.size≤(wq.alloc (.cells #[.int .i64 e.1.mv.kind,.int .i64 e.1.mv.role,.int .i64 e.1.mv.step,.int .i64 e.1.mv.place] 70)).heap.size:=by have:=hf.size;simp;omega
   have hne:(Value.slice ao R.length cp).ownBlock≠some nb:=fun h=>by
    obtain⟨cu,hcu⟩:=ownBlock_type ho h
    rw[hn] at hcu;cases hcu
   have HNE:=Lib.hid hne
   clear htr ho hn hf hm hm' hp hpar hb he he' hlow hne
   go_wp2_with (first
    | (at_builtin;refine wpList_append_own_at _ rfl _ _ 49 rfl W.heap.size 70 i0 (.agg #[.int .i64 0,.int .i64 0,.int .i64 0,.int .i64 0]) 4 32 Tryz.underlying49 hi0 hz0 hz1 hz2 rfl (by decide) (.slice ao R.length cp) R.length (mvC R) rfl (HO.out.alloc _) ⟨wq.heap.size,0,none⟩ 1 1 (mvC1 e.1.mv) rfl rfl (new_row _ _ _) (by simp[mvC1,Value.oneCell']) (by unfold maxLen;omega) (by omega) hsz ?_;intro v' w6 hown' hgrow _ _;obtain⟨ao',cp',rfl⟩:=own_shape hown';have hf6:Frm [] W w6:=(HFQ.out.alloc _).grown hgrow (fun k hk=>.inr (ownBlock_ge HO.out hk));have h6:=grown_at hgrow (alloc_at HNB.out) HNE.out;have HF6:=Lib.hid hf6;have HNB6:=Lib.hid h6;have HO6:=Lib.hid hown';have m1:w6.cell? ⟨nb,1,none⟩=some (.int .i64 (p:Int)):=by { rw[← HPAR.out];exact cell_of h6 1 };clear hgrow hown' h6 hf6 n1 n2 n3 n4 n5)
    | (go_at_call 52;go_must (refine(xNode_in (HS.out.frm HF6.out) HE'.out (by omega)).mono ?_;rintro en w7 ⟨rfl,hf7⟩;have HF7:=Lib.hid hf7;have HNB7:=Lib.hid (hf7.at HNB6.out (by simp));clear hf7 m1))
    | (refine wpList_store_row rfl 117 _ _ rfl _ _ _ 117 rfl rfl HNB7.out rfl Tryz.infoNode (one_nd _ _ _ _ _ _ _) ?_;intro w8 hb8 hf8;have HB8:=Lib.hid hb8;have HF8:=Lib.hid hf8;clear hb8 hf8))
   have hm1:parOf nb w8 < parOf nb wq:=by
    rw[parOf_at (d:=e') HB8.out,parOf_at HNB.out,HPAR.out]
    have:=HLOW.out
    omega
   have hlen:(R ++ [e.1.mv]).length=R.length + 1:=by simp
   have hO8:w8.ownsRow W.heap.size 70 4 (.slice ao' (R.length + 1) cp') (R.length + 1) (mvC (R ++ [e.1.mv])):=by
    have h0:(Value.slice ao' (R.length + 1) cp').ownBlock≠some nb:=fun h=>by
     obtain⟨cu,hcu⟩:=ownBlock_type HO6.out h
     rw[HNB6.out] at hcu;cases hcu
    have e9:mvC (R ++ [e.1.mv])=mvC R ++ mvC1 e.1.mv:=by rw[mvC_append];simp[mvC]
    rw[e9]
    exact HF8.out.owns (HF7.out.owns HO6.out (by simp)) (fun k hk hm=>by
     rw[List.mem_singleton] at hm
     rw[hm] at hk
     exact h0 hk)
   refine⟨⟨p,e',R ++ [e.1.mv],ao',cp',⟨by rw[hlen],rfl⟩,HE'.out,by rw[hlen];omega,?_,by rw[hlen];exact hO8,HB8.out,(HF6.out.trans HF7.out).then HF8.out (fun k hk=>?_)⟩,hm1⟩
   ·rw[HTR.out,HST.out,List.reverse_append,List.append_assoc];rfl
   ·rw[List.mem_singleton] at hk
    subst hk
    exact .inr HLE.out
  ·have hp':¬ (0:Int)≤e.1.par:=hp
   have hc0:c=0:=by
    rcases Nat.eq_zero_or_pos c with h0 | h0
    ·exact h0
    ·obtain⟨p,b,hpar,-⟩:=HI.out.par c e.1 hm h0
     omega
   subst hc0
   have hz:=trace_zero HI.out
   have CT:=Lib.hid (xTurned_any ho (by omega))
   have HZ:=Lib.hid hz
   clear htr ho hn hf hm hz
   go_wp2_with (first
    | (go_at_call 53;go_must (refine CT.out.mono ?_;rintro en w7 ⟨v,rfl,rfl,h1,h2⟩;have H1:=Lib.hid h1;have H2:=Lib.hid h2;clear h1 h2)))
   go_ret2
   refine⟨_,rfl,_,rfl,?_,HFQ.out.then H2.out (fun k hk=>?_)⟩
   ·rw[HTR.out,HZ.out,List.nil_append];exact H1.out
   ·rw[Option.mem_toList] at hk;exact .inr (ownBlock_ge HO.out hk)
end Go.Proofs.YtemjlpahohmajaaGreat
