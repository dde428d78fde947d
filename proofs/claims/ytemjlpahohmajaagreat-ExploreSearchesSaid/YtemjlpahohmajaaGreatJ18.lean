/- Part of the proof. -/
import Derived.Test.YtemjlpahohmajaaGreatJ17
import Derived.Test.YtemjlpahohmajaaGreatJ07
import Derived.Test.YtemjlpahohmajaaGreatJ14
import Derived.Test.YtemjlpahohmajaaGreatJ13
import Derived.Test.YtemjlpahohmajaaGreatJ16
import Derived.Lib.Builder
import Derived.Laws.OwnMore
import Derived.Maps.OwnSet
import Derived.Maps.OwnOps
import Derived.Laws.StructEq
import Derived.Laws.EntriesVeiled
import Derived.Laws.Concat
import Derived.Sort.CutIn
import Derived.OrdersIn
import Derived.Shelf.SortM.Plain
import Derived.Shelf.SortM.SortNone
import Derived.Lib.AppendStr
set_option linter.all false
namespace Go.Proofs.YtemjlpahohmajaaGreat
open Go.RowKit Go.BigFrame
set_option maxHeartbeats 1000000 in
theorem aState_any (v:Value) (r:RolD) (n:ByteArray) (w:World) (h:RlV w v r) (hl:r.sts.length≤1000):Calls Tryz.prog 142 #[v,.string n] w (Ret (.int .i64 (stIx r n)) (Frm [] w)):=by
 obtain⟨sv,cv,tv,rfl,h3⟩:=h
 obtain⟨ao,cap,e,hx⟩:=h3.sts
 subst e
 have HX:=Lib.hid hx
 obtain⟨m,hm⟩:∃ m,r.sts.length=m:=⟨_,rfl⟩
 rw[hm] at hl
 have HN:=Lib.hid hm
 rw[hm]
 obtain⟨W0,hW0⟩:∃ W0,w.alloc (.cells #[.string r.name,.slice ao m cap,cv,tv] 86)=W0:=⟨_,rfl⟩
 have HW0:Hid (Frm [] w W0):=Lib.hid (by rw[← hW0];exact(Frm.refl _ _).alloc _)
 have HB:Hid (W0.cell? ⟨w.heap.size,1,none⟩=some (.slice ao m cap)):=Lib.hid (by rw[← hW0];exact cell_of (heap_alloc_new w _) 1)
 have HE:=Lib.hid hW0
 clear hx h3 hm hW0
 go_enter Tryz.func142,Tryz.ntmps142
 go_wp2
 rw[HE.out]
 clear HE
 go_loopw [5] (fun s5 wr=>∃ i:Nat,s5=.int .i64 i∧i≤m∧Frm [] W0 wr∧∀ j x,j < i→r.sts[j]?=some x→decide (x.name=n)=false) (fun s5 _=>m - (intOf s5).toNat)
 case atStart=>exact⟨0,rfl,Nat.zero_le _,Frm.refl _ _,fun j x hj=>by omega⟩
 case round =>
  obtain⟨i,rfl,hi,hf,hno⟩:=hrel
  have HF:=Lib.hid hf;have HNO:=Lib.hid hno
  clear hf hno
  have cb:=HF.out.keep HB.out
  by_cases hlt:i < m
  ·have hlt':(i:Int) < (m:Int):=by omega
   obtain⟨x,hx⟩:∃ x,r.sts[i]?=some x:=⟨_,List.getElem?_eq_getElem (by rw[HN.out];exact hlt)⟩
   obtain⟨b,o,rfl,hat⟩:=HX.out i x hx
   obtain⟨c0,-,-⟩:=hat.frm (HW0.out.trans HF.out)
   have HXI:=Lib.hid hx
   clear hat hx
   cases hpx:decide (x.name=n) with
   | true =>
     have hsb:(x.name.toList == n.toList)=true:=(str_beq _ _).trans hpx
     have HPX:=Lib.hid hpx
     clear hpx
     go_wp2
     go_ret
     refine⟨?_,HW0.out.trans HF.out⟩
     have e:stIx r n=(i:Int):=ixf_some HXI.out HPX.out HNO.out
     rw[e];rfl
   | false =>
     have hsb:(x.name.toList == n.toList)=false:=(str_beq _ _).trans hpx
     have HPX:=Lib.hid hpx
     clear hpx
     go_wp2
     refine⟨⟨i + 1,by simp,hlt,HF.out,fun j y hj hy=>?_⟩,by simp[intOf];omega⟩
     by_cases e:j=i
     ·subst e;rw[HXI.out] at hy;cases hy;exact HPX.out
     ·exact HNO.out j y (by omega) hy
  ·have hge:¬ (i:Int) < (m:Int):=by omega
   go_wp2
   go_ret
   refine⟨?_,HW0.out.trans HF.out⟩
   have e:stIx r n=-1:=ixf_none fun x hx=>by
    obtain⟨j,hj⟩:=List.getElem?_of_mem hx
    exact HNO.out j x (by have:=lt_of_some hj;rw[HN.out] at this;omega) hj
   rw[e];rfl
set_option maxHeartbeats 1000000 in
theorem aCounter_any (v:Value) (r:RolD) (n:ByteArray) (w:World) (h:RlV w v r) (hl:r.ctrs.length≤1000):Calls Tryz.prog 141 #[v,.string n] w (Ret (.int .i64 (ctrIx r.ctrs n)) (Frm [] w)):=by
 obtain⟨sv,cv,tv,rfl,h3⟩:=h
 obtain⟨ao,cap,e,hx⟩:=h3.ctrs
 subst e
 have HX:=Lib.hid hx
 obtain⟨m,hm⟩:∃ m,r.ctrs.length=m:=⟨_,rfl⟩
 rw[hm] at hl
 have HN:=Lib.hid hm
 rw[hm]
 obtain⟨W0,hW0⟩:∃ W0,w.alloc (.cells #[.string r.name,sv,.slice ao m cap,tv] 86)=W0:=⟨_,rfl⟩
 have HW0:Hid (Frm [] w W0):=Lib.hid (by rw[← hW0];exact(Frm.refl _ _).alloc _)
 have HB:Hid (W0.cell? ⟨w.heap.size,2,none⟩=some (.slice ao m cap)):=Lib.hid (by rw[← hW0];exact cell_of (heap_alloc_new w _) 2)
 have HE:=Lib.hid hW0
 clear hx h3 hm hW0
 go_enter Tryz.func141,Tryz.ntmps141
 go_wp2
 rw[HE.out]
 clear HE
 go_loopw [5] (fun s5 wr=>∃ i:Nat,s5=.int .i64 i∧i≤m∧Frm [] W0 wr∧∀ j x,j < i→r.ctrs[j]?=some x→decide (x.name=n)=false) (fun s5 _=>m - (intOf s5).toNat)
 case atStart=>exact⟨0,rfl,Nat.zero_le _,Frm.refl _ _,fun j x hj=>by omega⟩
 case round =>
  obtain⟨i,rfl,hi,hf,hno⟩:=hrel
  have HF:=Lib.hid hf;have HNO:=Lib.hid hno
  clear hf hno
  have cb:=HF.out.keep HB.out
  by_cases hlt:i < m
  ·have hlt':(i:Int) < (m:Int):=by omega
   obtain⟨x,hx⟩:∃ x,r.ctrs[i]?=some x:=⟨_,List.getElem?_eq_getElem (by rw[HN.out];exact hlt)⟩
   obtain⟨b,o,rfl,hat⟩:=HX.out i x hx
   obtain⟨c0,-⟩:=hat.frm (HW0.out.trans HF.out)
   have HXI:=Lib.hid hx
   clear hat hx
   cases hpx:decide (x.name=n) with
   | true =>
     have hsb:(x.name.toList == n.toList)=true:=(str_beq _ _).trans hpx
     have HPX:=Lib.hid hpx
     clear hpx
     go_wp2
     go_ret
     refine⟨?_,HW0.out.trans HF.out⟩
     have e:ctrIx r.ctrs n=(i:Int):=ixf_some HXI.out HPX.out HNO.out
     rw[e];rfl
   | false =>
     have hsb:(x.name.toList == n.toList)=false:=(str_beq _ _).trans hpx
     have HPX:=Lib.hid hpx
     clear hpx
     go_wp2
     refine⟨⟨i + 1,by simp,hlt,HF.out,fun j y hj hy=>?_⟩,by simp[intOf];omega⟩
     by_cases e:j=i
     ·subst e;rw[HXI.out] at hy;cases hy;exact HPX.out
     ·exact HNO.out j y (by omega) hy
  ·have hge:¬ (i:Int) < (m:Int):=by omega
   go_wp2
   go_ret
   refine⟨?_,HW0.out.trans HF.out⟩
   have e:ctrIx r.ctrs n=-1:=ixf_none fun x hx=>by
    obtain⟨j,hj⟩:=List.getElem?_of_mem hx
    exact HNO.out j x (by have:=lt_of_some hj;rw[HN.out] at this;omega) hj
   rw[e];rfl
theorem casesN (c:Int):((c == 95)=false∧c < 48)∨((c == 95)=false∧48≤c∧c≤57)∨((c == 95)=false∧57 < c∧c < 65)∨((c == 95)=false∧65≤c∧c≤90)∨((c == 95)=false∧90 < c∧c < 95)∨((c == 95)=true∧95≤c∧c≤95)∨((c == 95)=false∧96≤c∧c≤96)∨((c == 95)=false∧97≤c∧c≤122)∨((c == 95)=false∧122 < c):=by
 simp only[beq_iff_eq,beq_eq_false_iff_ne]
 omega
set_option maxHeartbeats 8000000 in
set_option maxRecDepth 100000 in
theorem aName_any (s:ByteArray) (w:World):Calls Tryz.prog 85 #[.string s] w (Ret (.bool (nameB s)) (Frm [] w)):=by
 obtain⟨n,hn⟩:∃ n,s.size=n:=⟨_,rfl⟩
 have HS:Hid (s.size=n):=Lib.hid hn
 have HN:Hid (s.data.toList.length=n):=Lib.hid (by rw[← hn,Array.length_toList];rfl)
 by_cases h1:n < 1
 ·have hnm:nameB s=false:=by unfold nameB;rw[hn,decide_eq_false (by omega)];rfl
  rw[hnm]
  have h1':(s.size:Int) < 1:=by omega
  clear hnm hn h1
  go_enter Tryz.func85,Tryz.ntmps85
  go_wp2
  go_ret
  exact⟨rfl,Frm.refl _ _⟩
 by_cases h2:32 < n
 ·have hnm:nameB s=false:=by unfold nameB;rw[hn,decide_eq_false (p:=n≤32) (by omega),Bool.and_false];rfl
  rw[hnm]
  have h1':¬ (s.size:Int) < 1:=by omega
  have h2':(32:Int) < (s.size:Int):=by omega
  clear hnm hn
  go_enter Tryz.func85,Tryz.ntmps85
  go_wp2
  go_ret
  exact⟨rfl,Frm.refl _ _⟩
 have h1':¬ (s.size:Int) < 1:=by omega
 have h2':¬ (32:Int) < (s.size:Int):=by omega
 have hz:(0:Int) < (s.size:Int):=by omega
 have hz':0 < s.size:=by omega
 obtain⟨c,hc⟩:∃ c,s.data.toList[0]?=some c:=⟨_,List.getElem?_eq_getElem (by rw[HN.out];omega)⟩
 have hs0:(s[0]'hz').toNat=c.toNat:=by
  have e:s.data.toList[0]?=some (s[0]'hz'):=by
   rw[Array.getElem?_toList,Array.getElem?_eq_getElem (show 0 < s.data.size from hz')];rfl
  rw[hc] at e;cases e;rfl
 have HC0:=Lib.hid hc
 have hb:(c.toNat:Int) < 256:=by have:=c.toNat_lt;omega
 clear hc hn
 have hd:(charOk 0 c=false∧(((c.toNat:Int) == 95)=true∨(((c.toNat:Int) == 95)=false∧48≤(c.toNat:Int)∧(c.toNat:Int)≤57)))∨(((c.toNat:Int) == 95)=false∧((c.toNat:Int) < 48∨57 < (c.toNat:Int))):=by
  have hq:(((c.toNat:Int) == 95)=true∧c.toNat=95)∨(((c.toNat:Int) == 95)=false∧c.toNat≠95):=by
   simp only[beq_iff_eq,beq_eq_false_iff_ne];omega
  rcases hq with ⟨q,e⟩ | ⟨q,e⟩
  ·exact .inl ⟨charOk_no' (by omega),.inl q⟩
  ·by_cases h:48≤(c.toNat:Int)∧(c.toNat:Int)≤57
   ·exact .inl ⟨charOk_no' (by omega),.inr ⟨q,h⟩⟩
   ·exact .inr ⟨q,by omega⟩
 rcases hd with ⟨hno,hd⟩ | ⟨q1,hd⟩
 ·rw[name_no HC0.out hno]
  clear hno
  rcases hd with q1 | ⟨q1,q2,q3⟩
  all_goals
   go_enter Tryz.func85,Tryz.ntmps85
   go_wp2
   go_ret
   exact⟨rfl,Frm.refl _ _⟩
 ·have H0:Hid (¬ (c.toNat=95∨(48≤c.toNat∧c.toNat≤57))):=Lib.hid (by
   have q2:=q1
   simp only[beq_eq_false_iff_ne] at q2
   omega)
  rcases hd with hd | hd
  all_goals
   go_enter Tryz.func85,Tryz.ntmps85
   go_wp2
   clear h1' h2' hs0 q1 hd hz
   go_loopw [3,4] (fun s3 s4 wr=>∃ i:Nat,s3=.int .i64 i∧i≤n∧Frm [] w wr∧(∀ j c,j < i→s.data.toList[j]?=some c→charOk j c=true)) (fun s3 _ _=>n - (intOf s3).toNat)
   case atStart=>exact⟨0,rfl,Nat.zero_le _,Frm.refl _ _,fun j x hj=>by omega⟩
   case round =>
    obtain⟨i,rfl,hi,hf,hno⟩:=hrel
    have HF:=Lib.hid hf;have HNO:=Lib.hid hno
    clear hf hno
    by_cases hlt:i < n
    ·have hlt':(i:Int) < (s.size:Int):=by have:=HS.out;omega
     have hlt2:i < s.size:=by have:=HS.out;omega
     obtain⟨d,hd⟩:∃ d,s.data.toList[i]?=some d:=⟨_,List.getElem?_eq_getElem (by rw[HN.out];exact hlt)⟩
     have hsd:(s[i]'hlt2).toNat=d.toNat:=by
      have e:s.data.toList[i]?=some (s[i]'hlt2):=by
       rw[Array.getElem?_toList,Array.getElem?_eq_getElem (show i < s.data.size from hlt2)];rfl
      rw[hd] at e;cases e;rfl
     have HD:=Lib.hid hd
     have HZ:Hid (i=0→¬ (d.toNat=95∨(48≤d.toNat∧d.toNat≤57))):=Lib.hid (fun e=>by
      subst e
      have:=HC0.out
      rw[hd] at this;cases this
      exact H0.out)
     have hb2:(d.toNat:Int) < 256:=by have:=d.toNat_lt;omega
     clear hd
     rcases casesN (d.toNat:Int) with ⟨q1,h⟩ | ⟨q1,h,h'⟩ | ⟨q1,h,h'⟩ | ⟨q1,h,h'⟩ | ⟨q1,h,h'⟩ | ⟨q1,h,h'⟩ | ⟨q1,h,h'⟩ | ⟨q1,h,h'⟩ | ⟨q1,h⟩
     all_goals
      go_wp2
      all_goals first
       | (exfalso;simp at *;omega)
       | (go_ret
          refine⟨?_,HF.out⟩
          rw[name_no HD.out (charOk_no' (by omega))]
          rfl)
       | (refine⟨⟨i + 1,congrArg (Value.int .i64) (by omega),hlt,HF.out,fun j e hj he=>?_⟩,by simp[intOf];omega⟩
          by_cases ej:j=i
          ·subst ej
           rw[HD.out] at he;cases he
           have hz9:=HZ.out
           exact charOk_iff.2 (by omega)
          ·exact HNO.out j e (by omega) he)
    ·have hge:¬ (i:Int) < (s.size:Int):=by have:=HS.out;omega
     go_wp2
     go_ret
     refine⟨?_,HF.out⟩
     rw[name_yes (by rw[HS.out];omega) (by rw[HS.out];omega) fun j d hd=>HNO.out j d (by have:=lt_of_some hd;rw[HN.out] at this;omega) hd]
     rfl
end Go.Proofs.YtemjlpahohmajaaGreat
namespace Go.Proofs.YtemjlpahohmajaaGreat
open Go.RowKit Go.BigFrame
def Agree (B:Nat) (W V:World):Prop:=∀ k,B≤k→k < W.heap.size→V.heap[k]?=W.heap[k]?
theorem Agree.refl (B:Nat) (W:World):Agree B W W:=fun _ _ _=>rfl
theorem Agree.low {B B':Nat} {W V:World} (h:Agree B W V) (hb:B≤B'):Agree B' W V:=fun k h1 h2=>h k (by omega) h2
theorem Agree.old {F:List Nat} {B:Nat} {W W' V:World} (h:Agree B W' V) (hf:Frm F W W') (hF:∀ x∈F,x < B):Agree B W V:=fun k h1 h2=>by
 have hs:=hf.size
 rw[h k h1 (by omega)]
 exact hf.block k h2 (fun hx=>by have:=hF k hx;omega)
theorem Fr.stb {α:Type} {k:Nat} {e:TypeId} {At:World→Nat→Nat→α→Prop} {w w':World} {xs:List α} {v:Value} (h:Fr k e At w xs v w') (hA:∀ (W V:World) b o x,At W b o x→V.heap[b]?=W.heap[b]?→At V b o x) :
  ∃ ao c,v=.slice ao xs.length c∧∀ (W V:World),Agree w.heap.size w' W→Agree w.heap.size w' V→Arr k At V v xs:=by
 obtain⟨ao,c,rfl⟩:=h.arr.shape
 refine⟨ao,c,rfl,fun _ V _ hV=>?_⟩
 rcases h.own with rfl | ⟨news,ho⟩
 ·exact Arr.nil _ _ _
 ·refine⟨ao,c,rfl,fun i x hx=>?_⟩
  have hn:xs.length≠0:=by have:=lt_of_some hx;omega
  obtain⟨g,cap,cur,e,hg,hc⟩:=own_block ho hn
  cases e
  obtain⟨b,o,e,ha⟩:=h.arr.get hx
  cases e
  exact⟨g,0,rfl,hA _ _ _ _ _ ha (hV g hg (lt_of_block hc))⟩
theorem cell_eq {W V:World} {b o:Nat} {v:Value} (h:W.cell? ⟨b,o,none⟩=some v) (e:V.heap[b]?=W.heap[b]?):V.cell? ⟨b,o,none⟩=some v:=(World.cell?_of_block (w:=W) e).trans h
theorem StAt.leaf (W V:World) (b o:Nat) (x:StD) (h:StAt W b o x) (e:V.heap[b]?=W.heap[b]?):StAt V b o x:=⟨cell_eq h.1 e,cell_eq h.2.1 e,cell_eq h.2.2 e⟩
theorem CtAt.leaf (W V:World) (b o:Nat) (x:CtrD) (h:CtAt W b o x) (e:V.heap[b]?=W.heap[b]?):CtAt V b o x:=⟨cell_eq h.1 e,cell_eq h.2 e⟩
theorem SpAt.leaf (W V:World) (b o:Nat) (x:StpD) (h:SpAt W b o x) (e:V.heap[b]?=W.heap[b]?):SpAt V b o x:=
 ⟨cell_eq h.c0 e,cell_eq h.c1 e,cell_eq h.c2 e,cell_eq h.c3 e,cell_eq h.c4 e,cell_eq h.c5 e,cell_eq h.c6 e,cell_eq h.c7 e,cell_eq h.c8 e⟩
def AgX (B g b:Nat) (W V:World):Prop:=∀ k,B≤k→k≠g→k≠b→k < W.heap.size→V.heap[k]?=W.heap[k]?
theorem AgX.old {B g b:Nat} {W W' V:World} {F:List Nat} (h:AgX B g b W' V) (hf:Frm F W W') (hF:∀ x∈F,x=g∨x=b):AgX B g b W V:=fun k h1 h2 h3 h4=>by
 have hs:=hf.size
 rw[h k h1 h2 h3 (by omega)]
 exact hf.block k h4 (fun hx=>by rcases hF k hx with e | e <;> omega)
def OwR (B g b o:Nat) (r:RolD) (W:World):Prop:=
 ∃ sv cv tv,W.cell? ⟨g,o,none⟩=some (.string r.name)∧W.cell? ⟨g,o + 1,none⟩=some sv∧W.cell? ⟨g,o + 2,none⟩=some cv∧W.cell? ⟨g,o + 3,none⟩=some tv∧∀ V,AgX B g b W V→Rl3 V sv cv tv r
theorem RoAt.of {w:World} {v:Value} {l:List RolD} (h:Rls w v l):Arr 4 (RoAt w) w v l:=by
 obtain⟨ao,cap,e,hx⟩:=h
 refine⟨ao,cap,e,fun i x hi=>?_⟩
 obtain⟨b,o,e2,sv,cv,tv,h1⟩:=hx i x hi
 exact⟨b,o,e2,sv,cv,tv,h1⟩
structure OwI (w:World) (s:SesD) (b1 b2 g cap i:Nat) (W:World):Prop where
 fr:Frm [] w W
 l1:w.heap.size≤b1
 l2:w.heap.size≤b2
 lg:w.heap.size≤g
 n12:b1≠b2
 h1:W.heap[b1]?=some (.cells #[.string s.name,.slice (some ⟨g,0,none⟩) s.roles.length cap,.int .i64 s.cls,.int .i64 s.cap] 25 (0,0))
 h2:W.heap[b2]?=some (.cells #[.string { data:=#[] },.slice none 0 0,.int .i64 0,.int .i64 0] 25 (0,0))
 hg:∃ cur,W.heap[g]?=some (.cells cur 86 (0,0))
 done:∀ (j:Nat) r,j < i→s.roles[j]?=some r→OwR w.heap.size g b2 (j * 4) r W
 rest:∀ (j:Nat) r,i≤j→s.roles[j]?=some r→RoAt w W g (j * 4) r
theorem OwI.ne {w W:World} {s:SesD} {b1 b2 g cap i:Nat} (h:OwI w s b1 b2 g cap i W):b1≠g∧b2≠g:=by
 obtain⟨cur,hg⟩:=h.hg
 refine⟨fun e=>?_,fun e=>?_⟩
 ·subst e;rw[h.h1] at hg;cases hg
 ·subst e;rw[h.h2] at hg;cases hg
structure Cl3 (w0:World) (sv cv tv:Value) (r:RolD) (W:World):Prop where
 frm:Frm [] w0 W
 sts:∀ V,Agree w0.heap.size W V→Arr 3 StAt V sv r.sts
 ctrs:∀ V,Agree w0.heap.size W V→Arr 2 CtAt V cv r.ctrs
 steps:∀ V,Agree w0.heap.size W V→Arr 9 SpAt V tv r.steps
 cap:∀ ao n c,tv=.slice ao n c→n≤c
theorem OwI.step {w W W':World} {s:SesD} {b1 b2 g cap i:Nat} (h:OwI w s b1 b2 g cap i W) {r:RolD} (hr:s.roles[i]?=some r) {sv cv tv:Value} (hc:Cl3 W sv cv tv r W') :
  OwI w s b1 b2 g cap (i + 1) (((W'.setCell ⟨g,i * 4 + 1,none⟩ sv).setCell ⟨g,i * 4 + 2,none⟩ cv).setCell ⟨g,i * 4 + 3,none⟩ tv):=by
 obtain⟨n1,n2⟩:=h.ne
 obtain⟨cur,hg⟩:=h.hg
 have hg':=hc.frm.at hg (by simp)
 have e1:=block_setCell hg' (i * 4 + 1) sv
 have e2:=block_setCell e1 (i * 4 + 2) cv
 have e3:=block_setCell e2 (i * 4 + 3) tv
 have hF:Frm [g] W' (((W'.setCell ⟨g,i * 4 + 1,none⟩ sv).setCell ⟨g,i * 4 + 2,none⟩ cv).setCell ⟨g,i * 4 + 3,none⟩ tv):=(((Frm.refl [g] W').setCell _ (.inl (by simp)) _).setCell _ (.inl (by simp)) _).setCell _ (.inl (by simp)) _
 obtain⟨W2,hW2⟩:∃ W2,(((W'.setCell ⟨g,i * 4 + 1,none⟩ sv).setCell ⟨g,i * 4 + 2,none⟩ cv).setCell ⟨g,i * 4 + 3,none⟩ tv)=W2:=⟨_,rfl⟩
 rw[hW2] at e3 hF ⊢
 have hFW:Frm [g] W W2:=(hc.frm.mono (by simp)).trans hF
 have hsz:w.heap.size≤W.heap.size:=h.fr.size
 have hrr:=h.rest i r (Nat.le_refl _) hr
 obtain⟨sv0,cv0,tv0,q0,q1,q2,q3,-⟩:=hrr
 rw[cell_of hg] at q0 q1 q2 q3
 have hlt:i * 4 + 3 < cur.size:=(Array.getElem?_eq_some_iff.1 q3).1
 have hcell:∀ o,(o≠i * 4 + 1→o≠i * 4 + 2→o≠i * 4 + 3→W2.cell? ⟨g,o,none⟩=W.cell? ⟨g,o,none⟩):=fun o h1 h2 h3=>by
  rw[cell_of e3,cell_of hg,Array.getElem?_setIfInBounds_ne (by omega),Array.getElem?_setIfInBounds_ne (by omega),Array.getElem?_setIfInBounds_ne (by omega)]
 refine⟨h.fr.then hFW (by intro x hx;simp at hx;subst hx;exact .inr h.lg),h.l1,h.l2,h.lg,h.n12,hFW.at h.h1 (by simpa using n1),hFW.at h.h2 (by simpa using n2),⟨_,e3⟩,fun j a hj ha=>?_,fun j a hj ha=>?_⟩
 ·by_cases e:j=i
  ·subst e
   rw[hr] at ha;cases ha
   refine⟨sv,cv,tv,?_,?_,?_,?_,fun V hV=>?_⟩
   ·rw[hcell _ (by omega) (by omega) (by omega),cell_of hg];exact q0
   ·rw[cell_of e3,Array.getElem?_setIfInBounds_ne (by omega),Array.getElem?_setIfInBounds_ne (by omega),Array.getElem?_setIfInBounds_self_of_lt (by omega)]
   ·rw[cell_of e3,Array.getElem?_setIfInBounds_ne (by omega),Array.getElem?_setIfInBounds_self_of_lt (by simp;omega)]
   ·rw[cell_of e3,Array.getElem?_setIfInBounds_self_of_lt (by simp;omega)]
   ·have hgl:=lt_of_block hg
    have hbl:=lt_of_block h.h2
    have hV':Agree W.heap.size W' V:=fun k h1 h2=>(hV.old hF (by simp)) k (by omega) (by omega) (by omega) h2
    exact⟨hc.sts V hV',hc.ctrs V hV',hc.steps V hV',hc.cap⟩
  ·obtain⟨sv1,cv1,tv1,p0,p1,p2,p3,p4⟩:=h.done j a (by omega) ha
   refine⟨sv1,cv1,tv1,?_,?_,?_,?_,fun V hV=>?_⟩
   ·rw[hcell _ (by omega) (by omega) (by omega)];exact p0
   ·rw[hcell _ (by omega) (by omega) (by omega)];exact p1
   ·rw[hcell _ (by omega) (by omega) (by omega)];exact p2
   ·rw[hcell _ (by omega) (by omega) (by omega)];exact p3
   ·exact p4 V (hV.old hFW (by simp))
 ·obtain⟨sv1,cv1,tv1,p0,p1,p2,p3,p4⟩:=h.rest j a (by omega) ha
  refine⟨sv1,cv1,tv1,?_,?_,?_,?_,p4⟩
  ·rw[hcell _ (by omega) (by omega) (by omega)];exact p0
  ·rw[hcell _ (by omega) (by omega) (by omega)];exact p1
  ·rw[hcell _ (by omega) (by omega) (by omega)];exact p2
  ·rw[hcell _ (by omega) (by omega) (by omega)];exact p3
theorem results_c1 {fn:Func} {p:Tmp} {ty:TypeId} (h:fn.results=#[.cell p ty]) {tmps:Array Value} {w:World} {g:Nat} {A:Array Value} {t:TypeId} {d:TypeDesc} (hp:tmps.getD p undef=.pointer (some ⟨g,0,none⟩)) (hg:w.heap[g]?=some (.cells A t (0,0)))
  (hd:(match d with | .struct _ | .array _ _=>true | _=>false)=true) (hu:Tryz.prog.underlying ty=some d) (hi:(Tryz.prog.info? ty).map (·.size)=some A.size):(results fn tmps).run Tryz.prog w=.ok (.agg A) w:=by
 have hp':tmps[p]?.getD undef=.pointer (some ⟨g,0,none⟩):=by simpa using hp
 have hr:=run_loadVar_row w g t ty A (0,0) d hg hu (by cases d <;> first | rfl | (exact hd) | (cases hd)) hi
 simp[results,h,hp',asAddr,hr]
structure OwTo (w:World) (s:SesD) (v:Value) (w':World):Prop where
 shape:∃ g cap,v=.agg #[.string s.name,.slice (some ⟨g,0,none⟩) s.roles.length cap,.int .i64 s.cls,.int .i64 s.cap]
 frm:Frm [] w w'
 ses:∀ V,Agree w.heap.size w' V→SesV V v s
theorem OwI.frm {w W W':World} {s:SesD} {b1 b2 g cap i:Nat} (h:OwI w s b1 b2 g cap i W) (hf:Frm [] W W'):OwI w s b1 b2 g cap i W':=by
 obtain⟨cur,hg⟩:=h.hg
 refine⟨h.fr.trans hf,h.l1,h.l2,h.lg,h.n12,hf.at h.h1 (by simp),hf.at h.h2 (by simp),⟨cur,hf.at hg (by simp)⟩,fun j r hj hr=>?_,fun j r hj hr=>?_⟩
 ·obtain⟨sv1,cv1,tv1,p0,p1,p2,p3,p4⟩:=h.done j r hj hr
  exact⟨sv1,cv1,tv1,hf.keep p0,hf.keep p1,hf.keep p2,hf.keep p3,fun V hV=>p4 V (hV.old hf (by simp))⟩
 ·obtain⟨sv1,cv1,tv1,p0,p1,p2,p3,p4⟩:=h.rest j r hj hr
  exact⟨sv1,cv1,tv1,hf.keep p0,hf.keep p1,hf.keep p2,hf.keep p3,p4⟩
theorem OwI.ses {w W w2 V:World} {s:SesD} {b1 b2 g cap:Nat} (h:OwI w s b1 b2 g cap s.roles.length W) (hf:Frm [b2] W w2) (hV:Agree w.heap.size w2 V):SesV V (.agg #[.string s.name,.slice (some ⟨g,0,none⟩) s.roles.length cap,.int .i64 s.cls,.int .i64 s.cap]) s:=by
 refine⟨_,rfl,_,cap,rfl,fun i r hr=>⟨g,0,rfl,?_⟩⟩
 obtain⟨cur,hg⟩:=h.hg
 have hs:=hf.size
 have hgl:=lt_of_block hg
 have e:V.heap[g]?=W.heap[g]?:=(hV g h.lg (by omega)).trans (hf.block g hgl (by simpa using h.ne.2.symm))
 obtain⟨sv1,cv1,tv1,p0,p1,p2,p3,p4⟩:=h.done i r (lt_of_some hr) hr
 rw[Nat.zero_add]
 exact⟨sv1,cv1,tv1,cell_eq p0 e,cell_eq p1 e,cell_eq p2 e,cell_eq p3 e,p4 V fun k h1 _ h3 h4=>(hV k h1 (by omega)).trans (hf.block k h4 (by simpa using h3))⟩
theorem Fr.cap {α:Type} {k:Nat} {e:TypeId} {At:World→Nat→Nat→α→Prop} {w w':World} {xs:List α} {v:Value} (h:Fr k e At w xs v w'):∀ ao n c,v=.slice ao n c→n≤c:=by
 rintro ao n c rfl
 rcases h.own with rfl | ⟨news,ho⟩
 ·obtain⟨a,c',e⟩:=h.arr.shape
  cases e;exact Nat.zero_le _
 ·rcases ho.2 with ⟨hv,hn⟩ | ⟨g,c',cur,hv,-,-,h1,-⟩
  ·cases hv;omega
  ·cases hv;exact h1
theorem OwI.start {w w0 w1:World} {s:SesD} {b1 b2 c0:Nat} {ao:Option Addr} {v:Value} (hf:Frm [] w w0) (h1:w0.heap[b1]?=some (.cells #[.string s.name,.slice ao s.roles.length c0,.int .i64 s.cls,.int .i64 s.cap] 25 (0,0)))
  (h2:w0.heap[b2]?=some (.cells #[.string { data:=#[] },.slice none 0 0,.int .i64 0,.int .i64 0] 25 (0,0))) (l1:w.heap.size≤b1) (l2:w.heap.size≤b2) (hne:b1≠b2) (hr:Fr 4 86 (RoAt w) w0 s.roles v w1) (hn:1≤s.roles.length) :
  ∃ g cap,v=.slice (some ⟨g,0,none⟩) s.roles.length cap∧OwI w s b1 b2 g cap 0 (w1.setCell ⟨b1,1,none⟩ v):=by
 rcases hr.own with e | ⟨news,ho⟩
 ·rw[e] at hn;simp at hn
 obtain⟨g,cap,cur,rfl,hg,hc⟩:=own_block ho (by omega)
 have g1:=hr.frm.at h1 (by simp)
 have g2:=hr.frm.at h2 (by simp)
 have hs:=hf.size
 have n1:g≠b1:=fun e=>by have:=lt_of_block h1;omega
 have hF:Frm [b1] w1 (w1.setCell ⟨b1,1,none⟩ (.slice (some ⟨g,0,none⟩) s.roles.length cap)):=(Frm.refl _ _).setCell _ (.inl (by simp)) _
 refine⟨g,cap,rfl,(hf.trans hr.frm).then hF (by intro x hx;simp at hx;subst hx;exact .inr l1),l1,l2,by omega,hne,(block_setCell g1 1 _).trans rfl,hF.at g2 (by simpa using hne.symm),⟨cur,hF.at hc (by simpa using n1)⟩,fun j r hj=>by omega,fun j r _ hj=>?_⟩
 obtain⟨b,o,e,a0⟩:=hr.arr.get hj
 cases e
 obtain⟨sv,cv,tv,p0,p1,p2,p3,p4⟩:=a0
 rw[Nat.zero_add] at p0 p1 p2 p3
 have hng:g∉[b1]:=by simpa using n1
 exact⟨sv,cv,tv,hF.cellAt p0 hng,hF.cellAt p1 hng,hF.cellAt p2 hng,hF.cellAt p3 hng,p4⟩
set_option maxHeartbeats 4000000 in
set_option maxRecDepth 100000 in
theorem pOwn_any (s:SesD) (v:Value) (w:World) (h:SesV w v s) (h1:1≤s.roles.length) (h4:s.roles.length≤4) (hb:∀ r∈s.roles,r.sts.length≤1000∧r.ctrs.length≤1000∧r.steps.length≤1000):Calls Tryz.prog 81 #[v] w (RetV (OwTo w s)):=by
 obtain⟨rv,rfl,hr⟩:=h
 obtain⟨ao,cap,rfl⟩:=hr.shape
 obtain⟨n,hn⟩:∃ n,s.roles.length=n:=⟨_,rfl⟩
 have HR:=Lib.hid hr
 have HF0:Hid (Frm [] w ((w.alloc (.cells #[.string s.name,.slice ao n cap,.int .i64 s.cls,.int .i64 s.cap] 25)).alloc (.cells #[.string { data:=#[] },.slice none 0 0,.int .i64 0,.int .i64 0] 25))):=Lib.hid (((Frm.refl [] w).alloc _).alloc _)
 have CR:=Lib.hid (clRoleAt_any w (.slice ao s.roles.length cap) s.roles _ ((RoAt.of hr).frm fun _ _ _ h=>h.frm HF0.out) (by omega))
 have HB:=Lib.hid hb
 rw[hn] at CR HR
 rw[hn] at h1 h4
 have HN:=Lib.hid hn
 have B1:Hid (((w.alloc (.cells #[.string s.name,.slice ao n cap,.int .i64 s.cls,.int .i64 s.cap] 25)).alloc (.cells #[.string { data:=#[] },.slice none 0 0,.int .i64 0,.int .i64 0] 25)).heap[w.heap.size]?=some (.cells #[.string s.name,.slice ao n cap,.int .i64 s.cls,.int .i64 s.cap] 25 (0,0))):=Lib.hid (alloc_at (heap_alloc_new _ _))
 have B2:Hid (((w.alloc (.cells #[.string s.name,.slice ao n cap,.int .i64 s.cls,.int .i64 s.cap] 25)).alloc (.cells #[.string { data:=#[] },.slice none 0 0,.int .i64 0,.int .i64 0] 25)).heap[w.heap.size + 1]?=some (.cells #[.string { data:=#[] },.slice none 0 0,.int .i64 0,.int .i64 0] 25 (0,0))):=Lib.hid (alloc_top (by simp))
 rw[hn]
 clear hr hn hb
 go_enter Tryz.func81,Tryz.ntmps81
 go_wp2_with (first
  | (go_at_call 137;go_must (refine CR.out.mono ?_;rintro e w1 ⟨u,rfl,hr⟩;have hi:=OwI.start (b1:=w.heap.size) (b2:=w.heap.size + 1) (c0:=cap) (ao:=ao) HF0.out (by rw[HN.out];exact B1.out) B2.out (Nat.le_refl _) (by omega) (by omega) hr (by rw[HN.out];exact h1);rw[HN.out] at hi;obtain⟨g,c1,rfl,hoi⟩:=hi;have HI:=Lib.hid hoi;have b1:=hr.frm.at B1.out (by simp);have d1:=cell_of b1 1;have f1:=free_of b1 1;have e1:=cell_of hoi.h1 1;rw[HN.out] at e1;clear hr b1 hoi)))
 go_loopw [12] (fun s12 wr=>∃ i:Nat,s12=.int .i64 i∧i≤n∧OwI w s w.heap.size (w.heap.size + 1) g c1 i wr) (fun s12 _=>n - (intOf s12).toNat)
 case atStart=>exact⟨0,rfl,Nat.zero_le _,HI.out⟩
 case round =>
  obtain⟨i,rfl,hi,ho⟩:=hrel
  have HO:=Lib.hid ho
  clear ho d1 f1 e1
  by_cases hlt:i < n
  ·have hlt':(i:Int) < (n:Int):=by omega
   obtain⟨r,hr⟩:∃ r,s.roles[i]?=some r:=⟨_,List.getElem?_eq_getElem (by rw[HN.out];exact hlt)⟩
   obtain⟨sv,cv,tv,p0,p1,p2,p3,p4⟩:=HO.out.rest i r (Nat.le_refl _) hr
   have HRR:=Lib.hid hr;have HP:=Lib.hid p4
   have c1':=cell_of HO.out.h1 1
   rw[HN.out] at c1'
   have hgl:=cell_lt p0
   have hbr:=HB.out r (List.mem_of_getElem? hr)
   obtain⟨aS,cS,rfl⟩:=p4.sts.shape
   obtain⟨aC,cC,rfl⟩:=p4.ctrs.shape
   obtain⟨aT,cT,rfl⟩:=p4.steps.shape
   have CS:Hid (∀ V,Frm [] w V→Calls Tryz.prog 138 #[.slice aS r.sts.length cS] V (RetV (Fr 3 180 StAt V r.sts))):=Lib.hid fun V hV=>clState_any _ r.sts V ((p4.frm hV).sts) (by omega)
   have CC:Hid (∀ V,Frm [] w V→Calls Tryz.prog 139 #[.slice aC r.ctrs.length cC] V (RetV (Fr 2 205 CtAt V r.ctrs))):=Lib.hid fun V hV=>clCtr_any _ r.ctrs V ((p4.frm hV).ctrs) (by omega)
   have CT:Hid (∀ V,Frm [] w V→Calls Tryz.prog 140 #[.slice aT r.steps.length cT] V (RetV (Fr 9 90 SpAt V r.steps))):=Lib.hid fun V hV=>clStep_any _ r.steps V ((p4.frm hV).steps) (by omega)
   clear hr p4 hbr
   obtain⟨nS,hnS⟩:∃ m,r.sts.length=m:=⟨_,rfl⟩
   obtain⟨nC,hnC⟩:∃ m,r.ctrs.length=m:=⟨_,rfl⟩
   obtain⟨nT,hnT⟩:∃ m,r.steps.length=m:=⟨_,rfl⟩
   have HLS:=Lib.hid hnS;have HLC:=Lib.hid hnC;have HLT:=Lib.hid hnT
   rw[hnS] at CS p1
   rw[hnC] at CC p2
   rw[hnT] at CT p3
   clear hnS hnC hnT
   go_upto_region 5 with fail
   obtain⟨W4,hW4⟩:∃ W4,wr.alloc (.cells #[.string r.name,.slice aS nS cS,.slice aC nC cC,.slice aT nT cT] 86)=W4:=⟨_,rfl⟩
   have hf4:Frm [] wr W4:=by rw[← hW4];exact(Frm.refl _ _).alloc _
   have hq4:W4.heap[wr.heap.size]?=some (.cells #[.string r.name,.slice aS nS cS,.slice aC nC cC,.slice aT nT cT] 86 (0,0)):=by rw[← hW4];exact heap_alloc_new _ _
   rw[hW4]
   have HF4:=Lib.hid hf4
   have HO4:=Lib.hid (HO.out.frm hf4)
   have HS:Hid (∀ V,Frm [g] W4 V→V.cell? ⟨w.heap.size,1,none⟩=some (.slice (some ⟨g,0,none⟩) n c1)∧V.cell? ⟨wr.heap.size,1,none⟩=some (.slice aS nS cS)∧V.cell? ⟨wr.heap.size,2,none⟩=some (.slice aC nC cC)∧V.cell? ⟨wr.heap.size,3,none⟩=some (.slice aT nT cT)):=Lib.hid fun V hV=>by
    have n1:=HO4.out.ne.1
    have h1:=hV.at HO4.out.h1 (by simpa using n1)
    rw[HN.out] at h1
    have h2:=hV.at hq4 (by simp;omega)
    exact⟨cell_of h1 1,cell_of h2 1,cell_of h2 2,cell_of h2 3⟩
   clear hf4 hq4 hW4 p0 p1 p2 p3 c1'
   go_region_held3 (fun V=>V.cell? ⟨w.heap.size,1,none⟩=some (.slice (some ⟨g,0,none⟩) n c1)∧V.cell? ⟨wr.heap.size,1,none⟩=some (.slice aS nS cS)∧V.cell? ⟨wr.heap.size,2,none⟩=some (.slice aC nC cC)∧V.cell? ⟨wr.heap.size,3,none⟩=some (.slice aT nT cT))
    (first
     | exact HS.out _ ((Frm.refl [g] W4).drew)
     | exact HS.out _ F5.out
     | exact HS.out _ F6.out
     | exact HS.out _ F7.out
     | exact HS.out _ (F7.out.setCell _ (.inl (by simp)) _)
     | exact HS.out _ ((F7.out.setCell _ (.inl (by simp)) _).setCell _ (.inl (by simp)) _)
     | exact HS.out _ (((F7.out.setCell _ (.inl (by simp)) _).setCell _ (.inl (by simp)) _).setCell _ (.inl (by simp)) _))
    (first
     | (go_at_call 138;go_must (refine(CS.out _ (HO4.out.fr.drew)).mono ?_;rintro e w5 ⟨u,rfl,hr⟩;have F5:Hid (Frm [g] W4 w5):=Lib.hid (((Frm.refl [g] W4).drew).trans (hr.frm.mono (by simp)));have G5:Hid (Frm [] w w5):=Lib.hid (HO4.out.fr.drew.trans hr.frm);have K5:Hid (Frm [] W4 w5):=Lib.hid ((Frm.refl [] W4).drew.trans hr.frm);have hst:=hr.stb StAt.leaf;rw[HLS.out] at hst;obtain⟨a5,k5,rfl,hst⟩:=hst;have HT5:=Lib.hid hst;clear hst hr))
     | (go_at_call 139;go_must (refine(CC.out _ G5.out).mono ?_;rintro e w6 ⟨u,rfl,hr⟩;have F6:Hid (Frm [g] W4 w6):=Lib.hid (F5.out.trans (hr.frm.mono (by simp)));have G6:Hid (Frm [] w w6):=Lib.hid (G5.out.trans hr.frm);have E6:=Lib.hid hr.frm;have K6:Hid (Frm [] W4 w6):=Lib.hid (K5.out.trans hr.frm);have hst:=hr.stb CtAt.leaf;rw[HLC.out] at hst;obtain⟨a6,k6,rfl,hst⟩:=hst;have HT6:=Lib.hid hst;clear hst hr))
     | (go_at_call 140;go_must (refine(CT.out _ G6.out).mono ?_;rintro e w7 ⟨u,rfl,hr⟩;have F7:Hid (Frm [g] W4 w7):=Lib.hid (F6.out.trans (hr.frm.mono (by simp)));have E7:=Lib.hid hr.frm;have K7:Hid (Frm [] W4 w7):=Lib.hid (K6.out.trans hr.frm);have h7:=HO4.out.frm K7.out;obtain⟨v1,v2,v3,-,z1,z2,z3,-⟩:=h7.rest i r (Nat.le_refl _) HRR.out;obtain⟨cur,hgc⟩:=h7.hg;have y1:=free_of hgc (i * 4 + 1);have y2:=free_of hgc (i * 4 + 2);have y3:=free_of hgc (i * 4 + 3);clear hgc h7;have hcp:=hr.cap;have HCP:=Lib.hid hcp;clear hcp;have hst:=hr.stb SpAt.leaf;rw[HLT.out] at hst;obtain⟨a7,k7,rfl,hst⟩:=hst;have HT7:=Lib.hid hst;clear hst hr)))
   have HC3:Hid (Cl3 W4 (.slice a5 nS k5) (.slice a6 nC k6) (.slice a7 nT k7) r w7):=Lib.hid (by
    have s5:=K5.out.size;have s6:=K6.out.size;have e6:=E6.out.size
    have e56:=E6.out.trans E7.out
    refine⟨K7.out,fun V hV=>?_,fun V hV=>?_,fun V hV=>?_,HCP.out⟩
    ·have:=HT5.out V V (hV.old e56 (by simp)) (hV.old e56 (by simp))
     rw[← HLS.out] at this ⊢;exact this
    ·have h8:=(hV.old E7.out (by simp)).low s5
     have:=HT6.out V V h8 h8
     rw[← HLC.out] at this ⊢;exact this
    ·have h8:=hV.low s6
     have:=HT7.out V V h8 h8
     rw[← HLT.out] at this ⊢;exact this)
   go_wp2
   exact⟨⟨i + 1,congrArg (Value.int .i64) (by omega),hlt,HO4.out.step HRR.out HC3.out⟩,by simp[intOf];omega⟩
  ·obtain rfl:i=n:=by omega
   have hge:¬ (i:Int) < (i:Int):=by omega
   have hc1:=HO.out.h1
   rw[HN.out] at hc1
   have HC2:=Lib.hid HO.out.h2
   have x0:=cell_of hc1 0
   have x1:=cell_of hc1 1
   have x2:=cell_of hc1 2
   have x3:=cell_of hc1 3
   clear hc1
   go_wp2_with (first
    | (refine wpList_store_row rfl 25 _ _ rfl _ _ _ 25 rfl rfl HC2.out rfl (by kernel_rfl) (by simp[Value.oneCell']) ?_;intro w2 hb2 hf2))
   refine bodyPost_ret (results_c1 (d:=_) (Tryz.results81) rfl hb2 rfl Tryz.underlying25 (by kernel_rfl)) rfl ⟨_,rfl,?_⟩
   have hoi:=HO.out
   rw[← HN.out] at hoi
   exact⟨⟨g,c1,by rw[HN.out]⟩,hoi.fr.then hf2 (by intro x hx;simp at hx;subst hx;right;omega),fun V hV=>by have:=hoi.ses hf2 hV;rwa [HN.out] at this⟩
end Go.Proofs.YtemjlpahohmajaaGreat
namespace Go.Proofs.YtemjlpahohmajaaGreat
open Go.RowKit Go.BigFrame
set_option maxHeartbeats 1000000 in
theorem qPlace_any (v:Value) (r:RolD) (n:ByteArray) (w:World) (h:RlV w v r) (hl:r.sts.length≤1000):Calls Tryz.prog 93 #[v,.string n] w (Ret (.int .i64 (stIx r n)) (Frm [] w)):=by
 obtain⟨sv,cv,tv,rfl,h3⟩:=h
 obtain⟨ao,cap,e,hx⟩:=h3.sts
 subst e
 have HX:=Lib.hid hx
 obtain⟨m,hm⟩:∃ m,r.sts.length=m:=⟨_,rfl⟩
 rw[hm] at hl
 have HN:=Lib.hid hm
 rw[hm]
 obtain⟨W0,hW0⟩:∃ W0,w.alloc (.cells #[.string r.name,.slice ao m cap,cv,tv] 86)=W0:=⟨_,rfl⟩
 have HW0:Hid (Frm [] w W0):=Lib.hid (by rw[← hW0];exact(Frm.refl _ _).alloc _)
 have HB:Hid (W0.cell? ⟨w.heap.size,1,none⟩=some (.slice ao m cap)):=Lib.hid (by rw[← hW0];exact cell_of (heap_alloc_new w _) 1)
 have HE:=Lib.hid hW0
 clear hx h3 hm hW0
 go_enter Tryz.func93,Tryz.ntmps93
 go_wp2
 rw[HE.out]
 clear HE
 go_loopw [5] (fun s5 wr=>∃ i:Nat,s5=.int .i64 i∧i≤m∧Frm [] W0 wr∧∀ j x,j < i→r.sts[j]?=some x→decide (x.name=n)=false) (fun s5 _=>m - (intOf s5).toNat)
 case atStart=>exact⟨0,rfl,Nat.zero_le _,Frm.refl _ _,fun j x hj=>by omega⟩
 case round =>
  obtain⟨i,rfl,hi,hf,hno⟩:=hrel
  have HF:=Lib.hid hf;have HNO:=Lib.hid hno
  clear hf hno
  have cb:=HF.out.keep HB.out
  by_cases hlt:i < m
  ·have hlt':(i:Int) < (m:Int):=by omega
   obtain⟨x,hx⟩:∃ x,r.sts[i]?=some x:=⟨_,List.getElem?_eq_getElem (by rw[HN.out];exact hlt)⟩
   obtain⟨b,o,rfl,hat⟩:=HX.out i x hx
   obtain⟨c0,-,-⟩:=hat.frm (HW0.out.trans HF.out)
   have HXI:=Lib.hid hx
   clear hat hx
   cases hpx:decide (x.name=n) with
   | true =>
     have hsb:(x.name.toList == n.toList)=true:=(str_beq _ _).trans hpx
     have HPX:=Lib.hid hpx
     clear hpx
     go_wp2
     go_ret
     refine⟨?_,HW0.out.trans HF.out⟩
     have e:stIx r n=(i:Int):=ixf_some HXI.out HPX.out HNO.out
     rw[e];rfl
   | false =>
     have hsb:(x.name.toList == n.toList)=false:=(str_beq _ _).trans hpx
     have HPX:=Lib.hid hpx
     clear hpx
     go_wp2
     refine⟨⟨i + 1,by simp,hlt,HF.out,fun j y hj hy=>?_⟩,by simp[intOf];omega⟩
     by_cases e:j=i
     ·subst e;rw[HXI.out] at hy;cases hy;exact HPX.out
     ·exact HNO.out j y (by omega) hy
  ·have hge:¬ (i:Int) < (m:Int):=by omega
   go_wp2
   go_ret
   refine⟨?_,HW0.out.trans HF.out⟩
   have e:stIx r n=-1:=ixf_none fun x hx=>by
    obtain⟨j,hj⟩:=List.getElem?_of_mem hx
    exact HNO.out j x (by have:=lt_of_some hj;rw[HN.out] at this;omega) hj
   rw[e];rfl
set_option maxHeartbeats 1000000 in
theorem qNumber_any (v:Value) (s:SesD) (n:ByteArray) (w:World) (h:SesV w v s) (hl:s.roles.length≤1000):Calls Tryz.prog 94 #[v,.string n] w (Ret (.int .i64 (rolIx s n)) (Frm [] w)):=by
 obtain⟨rv,rfl,h3⟩:=h
 obtain⟨ao,cap,e,hx⟩:=id h3
 subst e
 have HX:=Lib.hid hx
 obtain⟨m,hm⟩:∃ m,s.roles.length=m:=⟨_,rfl⟩
 rw[hm] at hl
 have HN:=Lib.hid hm
 rw[hm]
 obtain⟨W0,hW0⟩:∃ W0,w.alloc (.cells #[.string s.name,.slice ao m cap,.int .i64 s.cls,.int .i64 s.cap] 25)=W0:=⟨_,rfl⟩
 have HW0:Hid (Frm [] w W0):=Lib.hid (by rw[← hW0];exact(Frm.refl _ _).alloc _)
 have HB:Hid (W0.cell? ⟨w.heap.size,1,none⟩=some (.slice ao m cap)):=Lib.hid (by rw[← hW0];exact cell_of (heap_alloc_new w _) 1)
 have HE:=Lib.hid hW0
 clear hx h3 hm hW0
 go_enter Tryz.func94,Tryz.ntmps94
 go_wp2
 rw[HE.out]
 clear HE
 go_loopw [5] (fun s5 wr=>∃ i:Nat,s5=.int .i64 i∧i≤m∧Frm [] W0 wr∧∀ j x,j < i→s.roles[j]?=some x→decide (x.name=n)=false) (fun s5 _=>m - (intOf s5).toNat)
 case atStart=>exact⟨0,rfl,Nat.zero_le _,Frm.refl _ _,fun j x hj=>by omega⟩
 case round =>
  obtain⟨i,rfl,hi,hf,hno⟩:=hrel
  have HF:=Lib.hid hf;have HNO:=Lib.hid hno
  clear hf hno
  have cb:=HF.out.keep HB.out
  by_cases hlt:i < m
  ·have hlt':(i:Int) < (m:Int):=by omega
   obtain⟨x,hx⟩:∃ x,s.roles[i]?=some x:=⟨_,List.getElem?_eq_getElem (by rw[HN.out];exact hlt)⟩
   obtain⟨b,o,rfl,hat⟩:=HX.out i x hx
   obtain⟨_,_,_,c0,-⟩:=hat.frm (HW0.out.trans HF.out)
   have HXI:=Lib.hid hx
   clear hat hx
   cases hpx:decide (x.name=n) with
   | true =>
     have hsb:(x.name.toList == n.toList)=true:=(str_beq _ _).trans hpx
     have HPX:=Lib.hid hpx
     clear hpx
     go_wp2
     go_ret
     refine⟨?_,HW0.out.trans HF.out⟩
     have e:rolIx s n=(i:Int):=ixf_some HXI.out HPX.out HNO.out
     rw[e];rfl
   | false =>
     have hsb:(x.name.toList == n.toList)=false:=(str_beq _ _).trans hpx
     have HPX:=Lib.hid hpx
     clear hpx
     go_wp2
     refine⟨⟨i + 1,by simp,hlt,HF.out,fun j y hj hy=>?_⟩,by simp[intOf];omega⟩
     by_cases e:j=i
     ·subst e;rw[HXI.out] at hy;cases hy;exact HPX.out
     ·exact HNO.out j y (by omega) hy
  ·have hge:¬ (i:Int) < (m:Int):=by omega
   go_wp2
   go_ret
   refine⟨?_,HW0.out.trans HF.out⟩
   have e:rolIx s n=-1:=ixf_none fun x hx=>by
    obtain⟨j,hj⟩:=List.getElem?_of_mem hx
    exact HNO.out j x (by have:=lt_of_some hj;rw[HN.out] at this;omega) hj
   rw[e];rfl
set_option maxHeartbeats 1000000 in
theorem jFind_any (dv vv:Value) (cs:List CtrD) (n:ByteArray) (w:World) (h:Arr 2 CtAt w dv cs) (hl:cs.length≤1000):Calls Tryz.prog 145 #[.agg #[dv,vv],.string n] w (Ret (.int .i64 (ctrIx cs n)) (Frm [] w)):=by
 obtain⟨ao,cap,e,hx⟩:=id h
 subst e
 have HX:=Lib.hid hx
 obtain⟨m,hm⟩:∃ m,cs.length=m:=⟨_,rfl⟩
 rw[hm] at hl
 have HN:=Lib.hid hm
 rw[hm]
 obtain⟨W0,hW0⟩:∃ W0,w.alloc (.cells #[.slice ao m cap,vv] 185)=W0:=⟨_,rfl⟩
 have HW0:Hid (Frm [] w W0):=Lib.hid (by rw[← hW0];exact(Frm.refl _ _).alloc _)
 have HB:Hid (W0.cell? ⟨w.heap.size,0,none⟩=some (.slice ao m cap)):=Lib.hid (by rw[← hW0];exact cell_of (heap_alloc_new w _) 0)
 have HE:=Lib.hid hW0
 clear hx h hm hW0
 go_enter Tryz.func145,Tryz.ntmps145
 go_wp2
 rw[HE.out]
 clear HE
 go_loopw [5] (fun s5 wr=>∃ i:Nat,s5=.int .i64 i∧i≤m∧Frm [] W0 wr∧∀ j x,j < i→cs[j]?=some x→decide (x.name=n)=false) (fun s5 _=>m - (intOf s5).toNat)
 case atStart=>exact⟨0,rfl,Nat.zero_le _,Frm.refl _ _,fun j x hj=>by omega⟩
 case round =>
  obtain⟨i,rfl,hi,hf,hno⟩:=hrel
  have HF:=Lib.hid hf;have HNO:=Lib.hid hno
  clear hf hno
  have cb:=HF.out.keep HB.out
  by_cases hlt:i < m
  ·have hlt':(i:Int) < (m:Int):=by omega
   obtain⟨x,hx⟩:∃ x,cs[i]?=some x:=⟨_,List.getElem?_eq_getElem (by rw[HN.out];exact hlt)⟩
   obtain⟨b,o,rfl,hat⟩:=HX.out i x hx
   obtain⟨c0,-⟩:=hat.frm (HW0.out.trans HF.out)
   have HXI:=Lib.hid hx
   clear hat hx
   cases hpx:decide (x.name=n) with
   | true =>
     have hsb:(x.name.toList == n.toList)=true:=(str_beq _ _).trans hpx
     have HPX:=Lib.hid hpx
     clear hpx
     go_wp2
     go_ret
     refine⟨?_,HW0.out.trans HF.out⟩
     have e:ctrIx cs n=(i:Int):=ixf_some HXI.out HPX.out HNO.out
     rw[e];rfl
   | false =>
     have hsb:(x.name.toList == n.toList)=false:=(str_beq _ _).trans hpx
     have HPX:=Lib.hid hpx
     clear hpx
     go_wp2
     refine⟨⟨i + 1,by simp,hlt,HF.out,fun j y hj hy=>?_⟩,by simp[intOf];omega⟩
     by_cases e:j=i
     ·subst e;rw[HXI.out] at hy;cases hy;exact HPX.out
     ·exact HNO.out j y (by omega) hy
  ·have hge:¬ (i:Int) < (m:Int):=by omega
   go_wp2
   go_ret
   refine⟨?_,HW0.out.trans HF.out⟩
   have e:ctrIx cs n=-1:=ixf_none fun x hx=>by
    obtain⟨j,hj⟩:=List.getElem?_of_mem hx
    exact HNO.out j x (by have:=lt_of_some hj;rw[HN.out] at this;omega) hj
   rw[e];rfl
def aftV (lim:Int) (t:StpD) (v:Int):Int:=if allowsV lim t v then v + t.add else -1
set_option maxHeartbeats 2000000 in
set_option maxRecDepth 100000 in
theorem jAfter_any (lim v:Int) (t:StpD) (w:World) (hl:0≤lim∧lim≤1000) (hv:0≤v∧v≤1000) (ha:-1000≤t.add∧t.add≤1000):Calls Tryz.prog 172 #[.int .i64 lim,stpV t,.int .i64 v] w (Ret (.int .i64 (aftV lim t v)) (Frm [] w)):=by
 obtain⟨A,hA⟩:∃ A,aftV lim t v=A:=⟨_,rfl⟩
 have hw:IntKind.i64.wrap (v + t.add)=v + t.add:=by simp[IntKind.wrap,show IntKind.i64.bits=64 from rfl,show IntKind.i64.signed=true from rfl];omega
 have d3:decide (t.add < -1000)=false:=decide_eq_false (by omega)
 have d4:decide (1000 < t.add)=false:=decide_eq_false (by omega)
 obtain⟨W0,hW0⟩:∃ W0,w.alloc (.cells #[.string t.frm,.string t.to,.int .i64 t.kind,.string t.msg,.string t.peer,.string t.ctr,.int .i64 t.low,.int .i64 t.high,.int .i64 t.add] 90)=W0:=⟨_,rfl⟩
 have HF:Hid (Frm [] w W0):=Lib.hid (by rw[← hW0];exact(Frm.refl _ _).alloc _)
 have c6:W0.cell? ⟨w.heap.size,6,none⟩=some (.int .i64 t.low):=by rw[← hW0];exact cell_of (heap_alloc_new w _) 6
 have c7:W0.cell? ⟨w.heap.size,7,none⟩=some (.int .i64 t.high):=by rw[← hW0];exact cell_of (heap_alloc_new w _) 7
 have c8:W0.cell? ⟨w.heap.size,8,none⟩=some (.int .i64 t.add):=by rw[← hW0];exact cell_of (heap_alloc_new w _) 8
 have HE:=Lib.hid hW0
 have HA:=Lib.hid hA
 have HV:=Lib.hid hv;have HL:=Lib.hid hl
 rw[hA]
 clear hA hv hl ha hW0
 go_enter Tryz.func172,Tryz.ntmps172
 go_upto_region 1 with fail
 rw[HE.out]
 clear HE
 by_cases k0:v < t.low
 ·have e0:decide (v < t.low)=true:=decide_eq_true k0
  have HK:=Lib.hid k0
  clear k0
  go_wp2
  go_ret
  refine⟨?_,HF.out⟩
  rw[← HA.out]
  have:=HK.out
  unfold aftV allowsV
  have:=HV.out;have:=HL.out
  rw[if_neg (by simp;omega)]
  rfl
 have e0:decide (v < t.low)=false:=decide_eq_false k0
 have H0:=Lib.hid k0
 clear k0
 by_cases k1:t.high < v
 ·have e1:decide (t.high < v)=true:=decide_eq_true k1
  have HK:=Lib.hid k1
  clear k1
  go_wp2
  go_ret
  refine⟨?_,HF.out⟩
  rw[← HA.out]
  have:=HK.out
  unfold aftV allowsV
  have:=HV.out;have:=HL.out
  rw[if_neg (by simp;omega)]
  rfl
 have e1:decide (t.high < v)=false:=decide_eq_false k1
 have H1:=Lib.hid k1
 clear k1
 by_cases k4:v + t.add < 0
 ·have e4:decide (v + t.add < 0)=true:=decide_eq_true k4
  have HK:=Lib.hid k4
  clear k4
  go_wp2
  go_ret
  refine⟨?_,HF.out⟩
  rw[← HA.out]
  have:=HK.out
  unfold aftV allowsV
  have:=HV.out;have:=HL.out
  rw[if_neg (by simp;omega)]
  rfl
 have e4:decide (v + t.add < 0)=false:=decide_eq_false k4
 have H4:=Lib.hid k4
 clear k4
 by_cases k5:lim < v + t.add
 ·have e5:decide (lim < v + t.add)=true:=decide_eq_true k5
  have HK:=Lib.hid k5
  clear k5
  go_wp2
  go_ret
  refine⟨?_,HF.out⟩
  rw[← HA.out]
  have:=HK.out
  unfold aftV allowsV
  have:=HV.out;have:=HL.out
  rw[if_neg (by simp;omega)]
  rfl
 have e5:decide (lim < v + t.add)=false:=decide_eq_false k5
 have H5:=Lib.hid k5
 clear k5
 go_wp2
 go_ret
 refine⟨?_,HF.out⟩
 rw[← HA.out]
 have:=H0.out;have:=H1.out;have:=H4.out;have:=H5.out
 unfold aftV allowsV
 rw[if_pos (by simp;omega)]
 rfl
def BkV (W:World) (v:Value) (cs:List CtrD) (vs:List Int):Prop:=∃ dv vv,v=.agg #[dv,vv]∧Arr 2 CtAt W dv cs∧Arr 1 IAt W vv vs
structure BkOk (cs:List CtrD) (vs:List Int) (t:StpD):Prop where
 l:vs.length=cs.length
 n:cs.length≤1000
 v:∀ (k:Nat) (c:CtrD),cs[k]?=some c→0≤c.lim∧c.lim≤1000∧0≤vs.getD k 0∧vs.getD k 0≤1000
 c:t.ctr≠emptyS→0≤ctrIx cs t.ctr∧-1000≤t.add∧t.add≤1000
theorem aftV_iff (lim:Int) (t:StpD) (v:Int):decide (0≤aftV lim t v)=allowsV lim t v:=by
 unfold aftV
 cases h:allowsV lim t v with
 | true =>
   rw[if_pos rfl]
   unfold allowsV at h
   simp at h
   exact decide_eq_true (by omega)
 | false=>rfl
set_option maxHeartbeats 4000000 in
set_option maxRecDepth 100000 in
theorem jAllowed_any (v:Value) (cs:List CtrD) (vs:List Int) (t:StpD) (w:World) (h:BkV w v cs vs) (hok:BkOk cs vs t):Calls Tryz.prog 144 #[v,stpV t] w (Ret (.tuple #[.bool (bankOk cs vs t),.int .i64 0]) (Frm [] w)):=by
 obtain⟨dv,vv,rfl,h1,h2⟩:=h
 obtain⟨da,dc,rfl⟩:=h1.shape
 obtain⟨va,vc,rfl⟩:=h2.shape
 obtain⟨n,hn⟩:∃ n,cs.length=n:=⟨_,rfl⟩
 have hm:=hok.l
 rw[hn] at hm
 obtain⟨b,hb⟩:∃ b,bankOk cs vs t=b:=⟨_,rfl⟩
 have HA1:Hid (Arr 2 CtAt w (.slice da n dc) cs):=Lib.hid (hn ▸ h1)
 have HA2:Hid (Arr 1 IAt w (.slice va n vc) vs):=Lib.hid (hm ▸ h2)
 obtain⟨W0,hW0⟩:∃ W0,(w.alloc (.cells #[.slice da n dc,.slice va n vc] 185)).alloc (.cells #[.string t.frm,.string t.to,.int .i64 t.kind,.string t.msg,.string t.peer,.string t.ctr,.int .i64 t.low,.int .i64 t.high,.int .i64 t.add] 90)=W0:=⟨_,rfl⟩
 have HF:Hid (Frm [] w W0):=Lib.hid (by rw[← hW0];exact((Frm.refl _ _).alloc _).alloc _)
 have HB:Hid (W0.heap[w.heap.size]?=some (.cells #[.slice da n dc,.slice va n vc] 185 (0,0))):=Lib.hid (by rw[← hW0];exact alloc_at (heap_alloc_new _ _))
 have HT:Hid (W0.heap[w.heap.size + 1]?=some (.cells #[.string t.frm,.string t.to,.int .i64 t.kind,.string t.msg,.string t.peer,.string t.ctr,.int .i64 t.low,.int .i64 t.high,.int .i64 t.add] 90 (0,0))):=Lib.hid (by rw[← hW0];exact alloc_top (by simp))
 have c5:=cell_of HT.out 5
 have HE:=Lib.hid hW0
 have HBB:=Lib.hid hb
 have HOK:=Lib.hid hok
 have HN:=Lib.hid hn
 rw[hb,hn,hm]
 clear h1 h2 hok hn hm hW0 hb
 go_enter Tryz.func144,Tryz.ntmps144
 go_upto_region 1 with fail
 rw[HE.out]
 clear HE
 by_cases he:t.ctr=emptyS
 ·have hs:t.ctr.toList.isEmpty=true:=emp_yes he
  have HHE:=Lib.hid he
  clear he
  go_wp2
  go_ret2
  exact⟨by rw[← HBB.out];unfold bankOk;rw[if_pos HHE.out];rfl,HF.out⟩
 ·obtain⟨g1,g2,g3⟩:=HOK.out.c he
  have hs:t.ctr.toList.isEmpty=false:=emp_no he
  obtain⟨k,hk,hkl⟩:=ixf_nat g1
  have hck:ctrIx cs t.ctr=(k:Int):=hk
  obtain⟨c,hc⟩:∃ c,cs[k]?=some c:=⟨_,List.getElem?_eq_getElem hkl⟩
  obtain⟨x,hx⟩:∃ x,vs[k]?=some x:=⟨_,List.getElem?_eq_getElem (by rw[HOK.out.l];exact hkl)⟩
  obtain⟨v1,v2,v3,v4⟩:=HOK.out.v k c hc
  rw[getD_some hx] at v3 v4
  have hbe:allowsV c.lim t x=b:=by
   rw[← HBB.out]
   unfold bankOk
   rw[if_neg he,hck,Int.toNat_natCast,getD_some hc,getD_some hx]
   simp
  have CF:=Lib.hid (jFind_any (.slice da n dc) (.slice va n vc) cs t.ctr W0 (HA1.out.frm fun _ _ _ h=>h.frm HF.out) HOK.out.n)
  rw[hck] at CF
  obtain⟨db,do',e1,q1⟩:=HA1.out.get hc
  obtain⟨vb,vo,e2,q2⟩:=HA2.out.get hx
  subst e1 e2
  rw[HN.out] at hkl
  have hkn:(k:Int) < (n:Int):=by omega
  have hk0:¬ (k:Int) < 0:=by omega
  have CA:Hid (∀ V,Calls Tryz.prog 172 #[.int .i64 c.lim,stpV t,.int .i64 x] V (Ret (.int .i64 (aftV c.lim t x)) (Frm [] V))):=Lib.hid fun V=>jAfter_any c.lim x t V ⟨v1,v2⟩ ⟨v3,v4⟩ ⟨g2,g3⟩
  obtain⟨A,hA⟩:∃ A,aftV c.lim t x=A:=⟨_,rfl⟩
  have hAb:=aftV_iff c.lim t x
  rw[hA] at CA hAb
  rw[hbe] at hAb
  have HQ1:Hid (∀ V,Frm [] w V→V.cell? ⟨db,do' + k * 2 + 1,none⟩=some (.int .i64 c.lim)):=Lib.hid fun V hV=>(q1.frm hV).2
  have HQ2:Hid (∀ V,Frm [] w V→V.cell? ⟨vb,vo + k,none⟩=some (.int .i64 x)):=Lib.hid fun V hV=>by have:=hV.keep q2;rwa [Nat.mul_one] at this
  clear q1 q2 hA g1 g2 g3 hk hck hc hx v1 v2 v3 v4 hbe he
  go_upto_region 6 with (first
   | (refine wpList_load_whole rfl 185 _ rfl _ rfl _ 185 HB.out _ Tryz.underlying185 rfl (by kernel_rfl) ?_)
   | (go_at_call 145;go_must (refine CF.out.mono ?_;clear CF;rintro e w1 ⟨rfl,hf1⟩;have HF1:=Lib.hid hf1;clear hf1)))
  clear c5
  refine wp_region_cq (by kernel_rfl) (by kernel_rfl) ?_
  repeat (first
   | go_big_quiet_skip
   | (refine wpQuiet_want (by rfl) (fun K hK=>?_)
      first
       | (refine quiet_move _ (by rfl) (hK _ ?_))
       | (refine quiet_assign _ (by rfl) (hK _ ?_))
       | (refine cq_call (.int .i64 A) 172 #[.int .i64 c.lim,stpV t,.int .i64 x] (fun w' hC=>?_) (fun w' hC=>Ret.cq (CA.out w') (fun w'' h=>hC.trans h)) (hK _ ?_)
          ·go_simp)
       | (refine cq_row 90 _ rfl (w.heap.size + 1) rfl #[.string t.frm,.string t.to,.int .i64 t.kind,.string t.msg,.string t.peer,.string t.ctr,.int .i64 t.low,.int .i64 t.high,.int .i64 t.add] 90 (HF1.out.at HT.out (by simp)) _ Tryz.underlying90 rfl (by kernel_rfl) (hK _ ?_))
       | (apply Exists.intro
          refine⟨fun w' hC=>?_,hK _ ?_⟩
          ·(unfold Oper.quietAt
            obtain hz:=(HF1.out.trans hC).at HB.out (by simp);have z0:=cell_of hz 0;have z1:=cell_of hz 1;have y0:=HQ1.out w' ((HF.out.trans HF1.out).trans hC);have y1:=HQ2.out w' ((HF.out.trans HF1.out).trans hC);clear hz
            clear hC
            go_simp
            try exact⟨rfl,rfl⟩
            try rfl))
      clear hK K
      try simp only[nrm,Act.eval,nrq]))
  refine wpQuiet_nil ?_
  intro w2 hf2
  go_wp2
  go_ret2
  exact⟨rfl,(HF.out.trans HF1.out).trans hf2⟩
end Go.Proofs.YtemjlpahohmajaaGreat
