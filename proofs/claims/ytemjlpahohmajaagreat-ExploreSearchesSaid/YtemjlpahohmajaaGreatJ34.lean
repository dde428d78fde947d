/- Part of the proof. -/
import Derived.Test.YtemjlpahohmajaaGreatJ16
import Derived.Test.YtemjlpahohmajaaGreatJ31
import Derived.Test.YtemjlpahohmajaaGreatJ06
import Derived.Lib.SlicesS
import Derived.Shelf.SortM.Plain
import Derived.Shelf.SortM.SortNone
import Derived.Sort.CutIn
import Derived.OrdersIn
import Derived.Lib.AppendStr
import Derived.Laws.OwnMore
import Derived.Maps.OwnSet
import Derived.Maps.OwnOps
import Derived.Laws.EntriesVeiled
import Derived.Laws.Concat
import Derived.LaidEql
import Derived.Test.YtemjlpahohmajaaGreatJ03
import Derived.ProofKit
import Derived.SizedLaws
import Derived.Deep.Slices
import Derived.Laws.StructEq
import Derived.WalkKit
import Derived.WalkSpells
import Derived.Deep.QuietTactic
import Derived.Deep.MidRow
import Derived.Deep.WholeRow
import Derived.BigQuiet
import Derived.StillTail
import Derived.Test.YtemjlpahohmajaaGreatProg
import Derived.Laws.IdiomStrings
import Derived.Shelf.Bytes.SlSmallAll
import Derived.Deep.Upon
import Derived.ArgAppend
import Derived.Deep.AppendLies
import Derived.Maps.AppendAt
import Derived.Lib.Hide
import Derived.Deep.DeepMust
import Derived.WalkLawsBesides
import Derived.BigRegion
import Derived.Deep.RegionHeld3
import Derived.Deep.RegionLaw
import Derived.Deep.DeepCutAuto
import Derived.LoopTactic
import Derived.Shelf.SlGeneric
import Derived.Shelf.SlLaysN
import Derived.Shelf.SlLaysM
import Derived.Ground.SlgnProg
import Derived.Ground.SlgmProg
import Derived.Shelf.SlicesG.Clone
import Derived.Shelf.SlicesG.Turned
import Derived.Shelf.SlicesG.Delete
import Derived.Sort.OwnSorted
import Derived.OrdersHeld
import Derived.Lib.SliceRun
import Derived.RangeFuncNested
import Derived.RangeFuncLeaves
import Derived.RangeFuncCalls
import Derived.RangeFuncBound
import Derived.OwnWalkIn
import Derived.TacticsInMore
import Derived.LoopNIn
import Derived.LoopIn
import Derived.Test.YtemjlpahohmajaaGreatRows
import Derived.Lib.SmallJoins
import Derived.Test.YtemjlpahohmajaaGreatJ08
import Derived.Test.YtemjlpahohmajaaGreatJ07
import Derived.Test.YtemjlpahohmajaaGreatJ33
import Derived.Test.YtemjlpahohmajaaGreatJ29
set_option linter.all false
namespace Go.Proofs.YtemjlpahohmajaaGreat
open Go.RowKit Go.BigFrame
structure KS (w:World) (A:Array Value) (g:Nat) (M:List ByteArray) (W:World):Prop where
 b:W.heap[w.heap.size]?=some (.cells A 190 (0,0))
 c:∃ cur,W.heap[g]?=some (.cells cur 9 (0,0))∧cur.toList.take M.length=M.map Value.string
 f:Frm [] w W
 g:w.heap.size < g
section
variable {w W W':World} {A:Array Value} {g:Nat} {M:List ByteArray}
theorem KS.frm (h:KS w A g M W) (hf:Frm [] W W'):KS w A g M W':=by
 obtain⟨cur,h1,h2⟩:=h.c
 exact⟨hf.at h.b (by simp),⟨cur,hf.at h1 (by simp),h2⟩,h.f.trans hf,h.g⟩
theorem KS.cell (h:KS w A g M W) {k:Nat} {x:ByteArray} (hx:M[k]?=some x):W.cell? ⟨g,k,none⟩=some (.string x):=by
 obtain⟨cur,h1,h2⟩:=h.c
 have hk:=(List.getElem?_eq_some_iff.1 hx).1
 rw[cell_of h1]
 have h3:(cur.toList.take M.length)[k]?=some (.string x):=by rw[h2];simp[hx]
 rw[List.getElem?_take_of_lt hk] at h3
 simpa using h3
theorem KS.free (h:KS w A g M W) (k:Nat):W.frozen? ⟨g,k,none⟩=false:=by
 obtain⟨cur,h1,h2⟩:=h.c
 exact free_of h1 k
theorem KS.set (h:KS w A g M W) {k:Nat} (x:ByteArray):KS w A g (M.set k x) (W.setCell ⟨g,k,none⟩ (.string x)):=by
 obtain⟨cur,h1,h2⟩:=h.c
 have hg:=h.g
 refine⟨setCell_at h.b (by simp;omega) _,⟨_,block_setCell h1 k _,?_⟩,h.f.setCell _ (.inr (by simp;omega)) _,h.g⟩
 rw[List.length_set,Array.toList_setIfInBounds,List.take_set,h2,List.map_set]
theorem KS.swap (h:KS w A g M W) {k j:Nat} {x y:ByteArray}:KS w A g ((M.set k y).set j x) ((W.setCell ⟨g,k,none⟩ (.string y)).setCell ⟨g,j,none⟩ (.string x)):=(h.set y).set x
end
theorem bl_eq (x y:ByteArray):Op.bytesLess x.toList y.toList=decide (byt x < byt y):=by rw[bytesLess_eq,ByteArray.toList_eq,ByteArray.toList_eq];rfl
theorem len_byte' (b:Nat) (W:World) (x:ByteArray) (h:x.size≤32) (hc:W.cell? ⟨b,0,none⟩=some (.int .u8 (x.size:Int))):(convert 61 9 (.slice (some ⟨b,0,none⟩) 1 1)).run Tryz.prog W=.ok (.string ⟨#[UInt8.ofNat x.size]⟩) W:=
 run_convert_bytes_back _ 61 9 5 ⟨b,0,none⟩ 1 [UInt8.ofNat x.size] Tryz.underlying61 Tryz.underlying5 Tryz.underlying9 (fun j hj=>by
  have h0:j=0:=by simpa using hj
  subst h0
  have e:((UInt8.ofNat x.size).toNat:Int)=(x.size:Int):=by simp;omega
  show W.cell? ⟨b,0 + 0,none⟩=some (.int .u8 ((UInt8.ofNat x.size).toNat:Int))
  rw[e]
  exact hc)
set_option maxHeartbeats 4000000 in
set_option maxRecDepth 100000 in
theorem refKey_any (cls cap:Int) (lv:Value) (L:List ByteArray) (w:World) (h:Lf w lv L) (hL:L.length≤64) (hS:∀ x∈L,x.size≤32) (hne:0 < L.length) :
  Calls Tryz.prog 89 #[.agg #[.int .i64 cls,.int .i64 cap,lv]] w (RetV fun v w'=>v=.string (keyB (keyL cls L))∧Frm [] w w'):=by
 obtain⟨ao,cp,rfl,hcs⟩:=h.shape
 have HL:=Lib.hid h
 obtain⟨S,hSe⟩:∃ S,keyL cls L=S:=⟨_,rfl⟩
 have HSE:=Lib.hid hSe
 have HSL:Hid (S.length=L.length):=Lib.hid (by rw[← hSe];exact keyL_length cls L)
 have HSZ:Hid (∀ x∈S,x.size≤32):=Lib.hid (fun x hx=>hS x (keyL_mem (by rw[hSe];exact hx)))
 have HNE:=Lib.hid hne
 rw[hSe]
 clear h hcs hS hSe hne
 go_enter Tryz.func89,Tryz.ntmps89
 go_wp2_with (first
  | (at_builtin;refine wpList_append_src rfl _ _ rfl _ rfl (alloc_top (by simp)) _ rfl L.length _ (HL.out.frm (((Frm.refl [] w).alloc _).alloc _) (by simp)).src (HL.out.frm (((Frm.refl [] w).alloc _).alloc _) (by simp)).some_addr (by omega) ?_;intro ao1 cp1 w1 ho1 hg1;have HO1:=Lib.hid ho1;have HG1:=Lib.hid hg1;clear ho1 hg1))
 obtain⟨g,rfl,HK1⟩:∃ g,ao1=some ⟨g,0,none⟩∧Hid (KS w #[.int .i64 cls,.int .i64 cap,.slice ao L.length cp] g L w1):=by
  rcases HO1.out.2 with ⟨hv,hn⟩ | ⟨g,c,cur,hv,hge,hb,-,-,-,ht⟩
  ·have:=HNE.out;omega
  ·cases hv
   exact⟨g,rfl,Lib.hid ⟨grown_at HG1.out (alloc_at (alloc_top rfl)) (by simp),⟨cur,hb,by simpa using ht⟩,(((Frm.refl [] w).alloc _).alloc _).grown HG1.out (by simp),by omega⟩⟩
 clear HO1 HG1 HL
 go_loopw [4] (fun s4 wr=>∃ (i:Nat) (M:List ByteArray),s4=.int .i64 i∧i≤L.length∧M.Perm L∧(cls=2→∀ a b x y,a < b→b < i→M[a]?=some x→M[b]?=some y→byt x≤byt y)∧(cls≠2→M=L)∧KS w #[.int .i64 cls,.int .i64 cap,.slice ao L.length cp] g M wr) (fun s4 _=>L.length - (intOf s4).toNat)
 case atStart=>exact⟨0,L,rfl,Nat.zero_le _,List.Perm.refl _,fun _ a b x y h1 h2=>by omega,fun _=>rfl,HK1.out⟩
 case round =>
  clear HK1
  obtain⟨i,M,rfl,hi,hp,hs,hm,hk⟩:=hrel
  have HP:=Lib.hid hp;have HS:=Lib.hid hs;have HM:=Lib.hid hm;have HKS:=Lib.hid hk
  have c0:wr.cell? ⟨w.heap.size,0,none⟩=some (.int .i64 cls):=cell_of hk.b 0
  have hml:M.length=L.length:=hp.length_eq
  have HML:=Lib.hid hml
  clear hp hs hm hk hml
  by_cases hlt:i < L.length
  ·have hlt':(i:Int) < (L.length:Int):=by omega
   by_cases h2:cls=2
   ·have b2:(cls == 2)=true:=by simpa using h2
    have H2:=Lib.hid h2
    clear h2
    obtain⟨wo,rfl⟩:∃ wo,wo=wr:=⟨_,rfl⟩
    go_wp2
    go_loopw [5] (fun s5 wx=>∃ (k:Nat) (N:List ByteArray),s5=.int .i64 k∧k≤i∧N.Perm L∧But N i k∧KS w #[.int .i64 cls,.int .i64 cap,.slice ao L.length cp] g N wx) (fun s5 _=>(intOf s5).toNat)
    case atStart=>exact⟨i,M,rfl,Nat.le_refl _,HP.out,But.start (HS.out H2.out),HKS.out⟩
    case round =>
     clear HKS HP HS HM HML c0
     obtain⟨k,N,rfl,hk,hp,hbut,hks⟩:=hrel
     have HP:=Lib.hid hp;have HB:=Lib.hid hbut;have HK:=Lib.hid hks
     have hnl:=hp.length_eq
     cases k with
     | zero =>
       clear hp hbut hks
       have hz:¬ (0:Int) < ((0:Nat):Int):=by simp
       go_wp2
       go_quiet (fail)
       go_wp2
       exact⟨⟨i + 1,N,by simp,by omega,HP.out,fun _=>HB.out.done0,fun h=>absurd H2.out h,HK.out.frm ((Frm.refl [] wr).drewN _)⟩,by simp[intOf];omega⟩
     | succ j =>
       obtain⟨x,hx⟩:∃ x,N[j + 1]?=some x:=⟨_,List.getElem?_eq_getElem (by omega)⟩
       obtain⟨y,hy⟩:∃ y,N[j]?=some y:=⟨_,List.getElem?_eq_getElem (by omega)⟩
       have cx:=hks.cell hx
       have cy:=hks.cell hy
       have fx:=hks.free (j + 1)
       have fy:=hks.free j
       have HX:=Lib.hid hx;have HY:=Lib.hid hy
       have hz:(0:Int) < (((j + 1:Nat)):Int):=by omega
       have hwk:IntKind.i64.wrap ((j:Int) + 1 - 1)=(j:Int):=by simp[IntKind.wrap,show IntKind.i64.bits=64 from rfl,show IntKind.i64.signed=true from rfl];omega
       have hwk2:IntKind.i64.wrap (j:Int)=(j:Int):=by simpa using hwk
       have hj1:((j:Int) + 1) < (L.length:Int):=by omega
       have hj2:(j:Int) < (L.length:Int):=by omega
       have htn:((j:Int) + 1).toNat=j + 1:=by omega
       have hj3:(0:Int)≤(j:Int) + 1:=by omega
       clear hp hbut hks hx hy hnl
       by_cases hxy:byt x < byt y
       ·have hbl:Op.bytesLess x.toList y.toList=true:=by rw[bl_eq];simpa using hxy
        have HXY:=Lib.hid hxy
        clear hxy
        go_wp2
        go_quiet (fail)
        obtain⟨wq,hq1⟩:∃ wq,wr.drewN nq=wq:=⟨_,rfl⟩
        have HKQ:=Lib.hid (HK.out.frm (show Frm [] wr wq by rw[← hq1];exact(Frm.refl [] wr).drewN _))
        rw[hq1]
        clear hq1 cx cy fx fy
        have cx:=HKQ.out.cell HX.out
        have cy:=HKQ.out.cell HY.out
        have fx:=HKQ.out.free (j + 1)
        have fy:=HKQ.out.free j
        have cy2:=(HKQ.out.set (k:=j + 1) y).cell (k:=j) (x:=y) (by rw[List.getElem?_set_ne (by omega)];exact HY.out)
        have fy2:=(HKQ.out.set (k:=j + 1) y).free j
        go_wp2
        go_region_law (first | fail)
        all_goals
         go_wp2
         exact⟨⟨j,(N.set (j + 1) y).set j x,by simp,by omega,(swap_perm HX.out HY.out).trans HP.out,HB.out.step hk HX.out HY.out (le_lt HXY.out),HKQ.out.swap.frm (Frm.refl [] _).drew⟩,by simp[intOf]⟩
       ·have hbl:Op.bytesLess x.toList y.toList=false:=by rw[bl_eq];simpa using hxy
        have HXY:=Lib.hid (List.not_lt.1 hxy)
        clear hxy
        go_wp2
        go_quiet (fail)
        go_wp2
        exact⟨⟨i + 1,N,by simp,by omega,HP.out,fun _=>HB.out.doneK hk HX.out HY.out HXY.out,fun h=>absurd H2.out h,HK.out.frm ((Frm.refl [] wr).drewN _)⟩,by simp[intOf];omega⟩
   ·have b2:(cls == 2)=false:=by simpa using h2
    have H2:=Lib.hid h2
    obtain rfl:M=S:=by rw[HM.out h2,← HSE.out,keyL,if_neg h2]
    clear h2
    obtain⟨wo,rfl⟩:∃ wo,wo=wr:=⟨_,rfl⟩
    go_wp2
    go_loopw [6,7] (fun s6 s7 wx=>∃ i:Nat,s6=.string (keyB (M.take i))∧s7=.int .i64 i∧i≤L.length∧Frm [] wo wx) (fun _ s7 _=>L.length - (intOf s7).toNat)
    case atStart=>exact⟨0,rfl,rfl,Nat.zero_le _,Frm.refl _ _⟩
    case round =>
     obtain⟨i2,rfl,rfl,hi2,hf2⟩:=hrel
     have HF2:=Lib.hid hf2
     by_cases hlt2:i2 < L.length
     ·obtain⟨x,hx⟩:∃ x,M[i2]?=some x:=⟨_,List.getElem?_eq_getElem (by rw[HSL.out];exact hlt2)⟩
      have hsz:=HSZ.out x (List.mem_of_getElem? hx)
      have cx:=hf2.keep (HKS.out.cell hx)
      have hlt2':(i2:Int) < (L.length:Int):=by omega
      have hwr:IntKind.u8.wrap (x.size:Int)=(x.size:Int):=wrap_small (by omega) (by omega)
      have HX:=Lib.hid hx
      have hconv:(convert 61 9 (.slice (some ⟨wr.heap.size,0,none⟩) 1 1)).run Tryz.prog (wr.alloc (.cells #[.int .u8 (x.size:Int)] 5)).drew=.ok (.string ⟨#[UInt8.ofNat x.size]⟩) (wr.alloc (.cells #[.int .u8 (x.size:Int)] 5)).drew:=len_byte' _ _ x hsz (cell_of (heap_alloc_new wr _) 0)
      have hks1:¬ 9223372036854775807 < (keyB (M.take i2)).size + 1∧¬ 9223372036854775807 < (keyB (M.take i2)).size + 1 + x.size:=by
       have h1:=keyB_size (M.take i2) (fun y hy=>HSZ.out y (List.mem_of_mem_take hy))
       rw[List.length_take] at h1
       omega
      obtain⟨hks1,hks2⟩:=hks1
      have cx2:(wr.alloc (.cells #[.int .u8 (x.size:Int)] 5)).cell? ⟨g,i2,none⟩=some (.string x):=(((Frm.refl [] wr).alloc _)).keep cx
      clear hf2 hx
      go_wp2_with fail
      go_region_law (first | fail)
      all_goals
       go_wp2_with fail
       exact⟨⟨i2 + 1,by rw[keyB_snoc HX.out,ByteArray.append_assoc],by simp,hlt2,(HF2.out.alloc _).drew⟩,by simp[intOf];omega⟩
     ·have hge2:¬ (i2:Int) < (L.length:Int):=by omega
      clear hf2
      go_wp2
      go_ret
      refine⟨_,rfl,?_,HKS.out.f.trans HF2.out⟩
      rw[List.take_of_length_le (by rw[HSL.out];omega)]
      rfl
  ·obtain rfl:i=L.length:=by omega
   have hlt':¬ (L.length:Int) < (L.length:Int):=by omega
   obtain rfl:M=S:=by
    by_cases h2:cls=2
    ·rw[← HSE.out,h2]
     exact key_unique HP.out (pairwise_of (by rw[HML.out];exact HS.out h2))
    ·rw[HM.out h2,← HSE.out,keyL,if_neg h2]
   obtain⟨wo,rfl⟩:∃ wo,wo=wr:=⟨_,rfl⟩
   go_wp2
   go_loopw [6,7] (fun s6 s7 wx=>∃ i:Nat,s6=.string (keyB (M.take i))∧s7=.int .i64 i∧i≤L.length∧Frm [] wo wx) (fun _ s7 _=>L.length - (intOf s7).toNat)
   case atStart=>exact⟨0,rfl,rfl,Nat.zero_le _,Frm.refl _ _⟩
   case round =>
    obtain⟨i2,rfl,rfl,hi2,hf2⟩:=hrel
    have HF2:=Lib.hid hf2
    by_cases hlt2:i2 < L.length
    ·obtain⟨x,hx⟩:∃ x,M[i2]?=some x:=⟨_,List.getElem?_eq_getElem (by rw[HSL.out];exact hlt2)⟩
     have hsz:=HSZ.out x (List.mem_of_getElem? hx)
     have cx:=hf2.keep (HKS.out.cell hx)
     have hlt2':(i2:Int) < (L.length:Int):=by omega
     have hwr:IntKind.u8.wrap (x.size:Int)=(x.size:Int):=wrap_small (by omega) (by omega)
     have HX:=Lib.hid hx
     have hconv:(convert 61 9 (.slice (some ⟨wr.heap.size,0,none⟩) 1 1)).run Tryz.prog (wr.alloc (.cells #[.int .u8 (x.size:Int)] 5)).drew=.ok (.string ⟨#[UInt8.ofNat x.size]⟩) (wr.alloc (.cells #[.int .u8 (x.size:Int)] 5)).drew:=len_byte' _ _ x hsz (cell_of (heap_alloc_new wr _) 0)
     have hks1:¬ 9223372036854775807 < (keyB (M.take i2)).size + 1∧¬ 9223372036854775807 < (keyB (M.take i2)).size + 1 + x.size:=by
      have h1:=keyB_size (M.take i2) (fun y hy=>HSZ.out y (List.mem_of_mem_take hy))
      rw[List.length_take] at h1
      omega
     obtain⟨hks1,hks2⟩:=hks1
     have cx2:(wr.alloc (.cells #[.int .u8 (x.size:Int)] 5)).cell? ⟨g,i2,none⟩=some (.string x):=(((Frm.refl [] wr).alloc _)).keep cx
     clear hf2 hx
     go_wp2_with fail
     go_region_law (first | fail)
     all_goals
      go_wp2_with fail
      exact⟨⟨i2 + 1,by rw[keyB_snoc HX.out,ByteArray.append_assoc],by simp,hlt2,(HF2.out.alloc _).drew⟩,by simp[intOf];omega⟩
    ·have hge2:¬ (i2:Int) < (L.length:Int):=by omega
     clear hf2
     go_wp2
     go_ret
     refine⟨_,rfl,?_,HKS.out.f.trans HF2.out⟩
     rw[List.take_of_length_le (by rw[HSL.out];omega)]
     rfl
set_option maxHeartbeats 1000000 in
set_option maxRecDepth 100000 in
theorem refKey_nil (cls cap:Int) (lv:Value) (w:World) (h:Lf w lv []) :
  Calls Tryz.prog 89 #[.agg #[.int .i64 cls,.int .i64 cap,lv]] w (RetV fun v w'=>v=.string (keyB (keyL cls []))∧Frm [] w w'):=by
 obtain⟨ao,cp,rfl,hcs⟩:=h.shape
 have HL:=Lib.hid h
 have e:keyB (keyL cls [])={ data:=#[] }:=by
  have:keyL cls []=[]:=List.length_eq_zero_iff.1 (keyL_length cls [])
  rw[this];rfl
 rw[e]
 clear h hcs e
 simp only[List.length_nil] at HL ⊢
 go_enter Tryz.func89,Tryz.ntmps89
 go_wp2_with (first
  | (at_builtin;refine wpList_append_src rfl _ _ rfl _ rfl (alloc_top (by simp)) _ rfl 0 _ (Lf.src (L:=[]) (HL.out.frm (((Frm.refl [] w).alloc _).alloc _) (by simp))) (fun h=>absurd h (by decide)) (by omega) ?_;intro ao1 cp1 w1 ho1 hg1;have HG1:=Lib.hid hg1;clear ho1 hg1))
 have HF:Hid (Frm [] w w1):=Lib.hid ((((Frm.refl [] w).alloc _).alloc _).grown HG1.out (by simp))
 clear HG1 HL
 go_loopw [4] (fun s4 wr=>s4=.int .i64 0∧wr=w1) (fun _ _=>0)
 case atStart=>exact⟨rfl,rfl⟩
 case round =>
  obtain⟨rfl,rfl⟩:=hrel
  go_wp2
  go_loopw [6,7] (fun s6 s7 wx=>s6=.string { data:=#[] }∧s7=.int .i64 0∧wx=wr) (fun _ _ _=>0)
  case atStart=>exact⟨rfl,rfl,rfl⟩
  case round =>
   obtain⟨rfl,rfl,rfl⟩:=hrel
   go_wp2
   go_ret
   exact⟨_,rfl,rfl,HF.out⟩
theorem refKey_all (cls cap:Int) (lv:Value) (L:List ByteArray) (w:World) (h:Lf w lv L) (hL:L.length≤64) (hS:∀ x∈L,x.size≤32) :
  Calls Tryz.prog 89 #[.agg #[.int .i64 cls,.int .i64 cap,lv]] w (RetV fun v w'=>v=.string (keyB (keyL cls L))∧Frm [] w w'):=by
 cases L with
 | nil=>exact refKey_nil cls cap lv w h
 | cons x l=>exact refKey_any cls cap lv _ w h hL hS (by simp)
end Go.Proofs.YtemjlpahohmajaaGreat
namespace Go.Proofs.YtemjlpahohmajaaGreat
open Go
def tkV (b:List UInt8) (n:Nat):List UInt8:=if b.length < n then List.replicate n 0 else b.take n
section
variable {s:SesD} {key:List UInt8} {i:Nat} {ps:List Nat} {vs:List (List Int)} {b b':List UInt8} {bad bad':Bool} {vals:List Int}
abbrev hd1 (b:List UInt8):UInt8:=(tkV b 1).getD 0 0
end
end Go.Proofs.YtemjlpahohmajaaGreat
namespace Go.Proofs.YtemjlpahohmajaaGreat
open Go.RowKit Go.BigFrame
def km0:Mv:=⟨1,0,0,0⟩
theorem move_same (m:Mv) (w:World):(binOp .neq 70 (mvV m) (mvV m)).run Tryz.prog w=.ok (.bool false) w∧(binOp .eql 70 (mvV m) (mvV m)).run Tryz.prog w=.ok (.bool true) w:=by
 have h:=eql_move m m w
 rw[decide_eq_true rfl] at h
 refine⟨?_,h⟩
 have h2:(Op.equalIn (9999 + 1) 70 (mvV m) (mvV m)).run Tryz.prog w=.ok true w:=by
  rw[run_equalIn_struct w 9999 70 _ _ Tryz.undMv (by kernel_rfl)]
  simp[go_sem,Tryz.underlying70]
 simp only[binOp]
 simp[show Op.equal 70 (mvV m) (mvV m)=Op.equalIn (9999 + 1) 70 (mvV m) (mvV m) from rfl,h2]
end Go.Proofs.YtemjlpahohmajaaGreat
namespace Go.Proofs.YtemjlpahohmajaaGreat
open Go.ChangeShapes Go.WideShapes Go.ChangeAt Go.RowKit
theorem trodAll_below {H:Type} {enc:TypeId × Value→H} {P:Program} (hl:laidOutB P=true) {W W':World} (hb:Below W.heap.size W W'):∀ (ts:List TypeId) (vs:List Value) (ds:List (DataW H)) (ps:List MemPlace),
  (ts.all fun t=>P.readableRec t && decide (t < P.types.size))=true→DataW.TrodAll enc P W 0 (fun _=>true) true ts vs ds ps→(∀ x∈ps,x.block < W.heap.size) →
  DataW.TrodAll enc P W' 0 (fun b=>decide (b < W.heap.size)) true ts vs ds ps
 | [],vs,ds,ps,_,h,_=>by
   obtain⟨rfl,rfl,rfl⟩:=trodAll_nil h
   exact rfl
 | t :: ts,vs,ds,ps,ht,h,hlt=>by
   obtain⟨v,vs',d,ds',p,q,rfl,rfl,rfl,h1,h2⟩:=trodAll_cons h
   simp only[List.all_cons,Bool.and_eq_true,decide_eq_true_eq] at ht
   exact⟨p,q,Below.trod hl ht.1.1 ht.1.2 h1 hb (fun x hx=>hlt x (by simp[hx])),trodAll_below hl hb ts vs' ds' q ht.2 h2 (fun x hx=>hlt x (by simp[hx])),rfl⟩
theorem trodAll_length {H:Type} {enc:TypeId × Value→H} {P:Program} {W:World} {base:Nat} {sp:Nat→Bool} {held:Bool}:∀ (ts:List TypeId) (vs:List Value) (ds:List (DataW H)) (ps:List MemPlace),
  DataW.TrodAll enc P W base sp held ts vs ds ps→ds.length=ts.length
 | [],vs,ds,ps,h=>by
   obtain⟨rfl,rfl,rfl⟩:=trodAll_nil h
   rfl
 | t :: ts,vs,ds,ps,h=>by
   obtain⟨v,vs',d,ds',p,q,rfl,rfl,rfl,h1,h2⟩:=trodAll_cons h
   simp[trodAll_length ts vs' ds' q h2]
theorem law_lifted {C:Checked} (own:ownKnob C.prog.godebug=none) (laid:laidOutB C.prog=true) {os:Os} (started:os.Started) {H:Type} (enc:TypeId × Value→H) (f:FuncId) (fn:Func) (s:ChangeSpec) (tb:TypeId)
  (noInit:C.prog.inits.idxOf? f=none) (hfn:C.prog.funcs[f]?=some fn)
  (witness:∃ (w:World) (tape:Tape) (i:Input),w.os=os∧(w.forCall tape i).Shaped C.prog∧i.vars=[]∧Input.okWide C.prog (w.forCall tape i) .any w.heap.size f i ∧
   s.pre6 enc C.prog fn [] false (w.forCall tape i).memory i.args∧({}:Assume).holds C.prog (lone (Frame.enter C.prog f i.args .normal) [] (w.forCall tape i)))
  (hv:s.vars=[]) (hrt:fn.resultTypes=#[tb]) (htb:C.prog.underlying tb=some .bool)
  (hts:(fn.params.toList.all fun t=>C.prog.readableRec t && decide (t < C.prog.types.size))=true)
  (hspec:∀ ds:List (DataW H),ds.length=fn.params.toList.length→s.fn H ds={ results:=[.lit (.bool true)],args:=ds })
  (walk:∀ (W:World) (base:Nat) (args:Array Value) (ds:List (DataW H)) (p:List MemPlace),
   (∀ (j:Nat) t v,fn.params[j]?=some t→args[j]?=some v→Value.okWide C.prog W .any base t v) →
   DataW.TrodAll enc C.prog W 0 (fun _=>true) true fn.params.toList args.toList ds p →
   (∀ x∈p,x.block < W.heap.size) →
   (DataW.weightsEach C.prog fn.params.toList ds).all (·≤reachBytes)=true →
   Calls C.prog f args W (Ret (.bool true) (Frm [] W))) :
  ReturnsInHanded {} C os f .any (s.pre6 enc C.prog fn [] false) (s.post enc C.prog fn false true false false):=by
 refine returnsInHanded_of_change_sized (C:=C) own started noInit hfn witness ?_
 intro W base args ds gs before hval hW _ hsz _
 have hvt:s.plain.varTypes C.prog=[]:=by
  simp[DataSpec.varTypes,ChangeSpec.plain,hv]
 have hW':=hW
 obtain⟨p,q,hA,hV,rfl,_,_⟩:=hW
 rw[hv] at hV
 obtain⟨rfl,rfl⟩:=trodVars_none hV
 simp only[List.append_nil] at hW'
 rw[hvt,List.append_nil,List.append_nil] at hsz
 have hlt:∀ x∈p,x.block < W.heap.size:=fun x hx=>by simpa using hW'.lt x hx
 refine(walk W base args ds p hval hA hlt hsz).mono ?_
 rintro e W' ⟨rfl,hf⟩
 have hB:Below W.heap.size W W':=hf.below (Nat.le_refl _) (by simp)
 have hsp:=hspec ds (trodAll_length _ _ _ _ hA)
 refine⟨_,rfl,ds,[],p,[],p,[],hW',?_,?_,?_,hB.frame _,fun h=>by cases h⟩
 ·rw[List.append_nil,hsp,hrt]
  exact trodAll_mk1 (shut_bool htb _)
 ·rw[List.append_nil,hsp]
  exact trodAll_below laid hB _ _ _ _ hts hA hlt
 ·rw[List.append_nil,hsp,hv]
  rfl
end Go.Proofs.YtemjlpahohmajaaGreat
namespace Go.Proofs.YtemjlpahohmajaaGreat
open Go.RowKit Go.BigFrame
theorem numL_snd {α:Type} (L:List α):(numL L).map Prod.snd=L:=by
 refine List.ext_getElem? fun i=>?_
 rw[List.getElem?_map,numL_at]
 cases L[i]? <;> rfl
theorem numL_pre {α:Type} {L:List α} {pre rest:List (Nat × α)} {y:Nat × α} (h:numL L=pre ++ y :: rest):y.1=pre.length∧pre.length < L.length:=by
 have h1:(numL L)[pre.length]?=some y:=by rw[h,List.getElem?_append_right (Nat.le_refl _),Nat.sub_self];rfl
 rw[numL_at,Option.map_eq_some_iff] at h1
 obtain⟨m,hm,rfl⟩:=h1
 exact⟨rfl,lt_of_some hm⟩
attribute [local go_sem] Oper.semAt_some
end Go.Proofs.YtemjlpahohmajaaGreat
namespace Go.Proofs.YtemjlpahohmajaaGreat
open Go.ChangeShapes Go.WideShapes Go.ChangeAt Go.RowKit Go.Deep
theorem trodAll_two {H:Type} {enc:TypeId × Value→H} {P:Program} {w:World} {base:Nat} {spare:TypeId→Bool} {held:Bool} {t0 t1:TypeId} {args:Array Value} {ds:List (DataW H)} {ps:List MemPlace}
  (h:DataW.TrodAll enc P w base spare held [t0,t1] args.toList ds ps) :
  ∃ v0 v1 d0 d1 p0 p1,args=#[v0,v1]∧ds=[d0,d1]∧ps=p0 ++ p1∧DataW.Trod enc P w base spare held t0 v0 d0 p0∧DataW.Trod enc P w base spare held t1 v1 d1 p1:=by
 obtain⟨v0,_,d0,_,p0,_,hargs,rfl,rfl,h0,hrest⟩:=trodAll_cons h
 obtain⟨v1,_,d1,_,p1,_,rfl,rfl,rfl,h1,hrest⟩:=trodAll_cons hrest
 obtain⟨rfl,rfl,rfl⟩:=trodAll_nil hrest
 exact⟨v0,v1,d0,d1,p0,p1,by cases args;simp_all,rfl,by simp,h0,h1⟩
theorem trodAll_three {H:Type} {enc:TypeId × Value→H} {P:Program} {w:World} {base:Nat} {spare:TypeId→Bool} {held:Bool} {t0 t1 t2:TypeId} {args:Array Value} {ds:List (DataW H)} {ps:List MemPlace}
  (h:DataW.TrodAll enc P w base spare held [t0,t1,t2] args.toList ds ps) :
  ∃ v0 v1 v2 d0 d1 d2 p0 p1 p2,args=#[v0,v1,v2]∧ds=[d0,d1,d2]∧ps=p0 ++ p1 ++ p2∧DataW.Trod enc P w base spare held t0 v0 d0 p0∧DataW.Trod enc P w base spare held t1 v1 d1 p1∧DataW.Trod enc P w base spare held t2 v2 d2 p2:=by
 obtain⟨v0,_,d0,_,p0,_,hargs,rfl,rfl,h0,hrest⟩:=trodAll_cons h
 obtain⟨v1,_,d1,_,p1,_,rfl,rfl,rfl,h1,hrest⟩:=trodAll_cons hrest
 obtain⟨v2,_,d2,_,p2,_,rfl,rfl,rfl,h2,hrest⟩:=trodAll_cons hrest
 obtain⟨rfl,rfl,rfl⟩:=trodAll_nil hrest
 exact⟨v0,v1,v2,d0,d1,d2,p0,p1,p2,by cases args;simp_all,rfl,by simp,h0,h1,h2⟩
end Go.Proofs.YtemjlpahohmajaaGreat
namespace Go.Proofs.YtemjlpahohmajaaGreat
open Go.ChangeShapes Go.WideShapes Go.ChangeAt Go.RowKit Go.Deep
section
variable {H:Type} {enc:TypeId × Value→H} {W:World}
theorem open_arr {α:Type} [Inhabited α] {t e:TypeId} {k:Nat} {At:World→Nat→Nat→α→Prop} {Q:α→Prop} (ht:Tryz.prog.underlying t=some (.slice e)) (hc:Tryz.prog.cellsOf e=k) (hk:0 < k)
  (hel:∀ b o cs n y,(∀ i,i < k→W.cell? ⟨b,o + i,none⟩=cs[i]?)→cs.length=k→DataW.trod enc Tryz.prog W 0 (fun _=>true) true n e cs=some y→∃ x,At W b o x∧Q x)
  {fuel:Nat} {c:Value} {x:DataW H × List MemPlace} (hf:DataW.trod enc Tryz.prog W 0 (fun _=>true) true fuel t [c]=some x) :
  ∃ xs,Arr k At W c xs∧(∀ x∈xs,Q x)∧∀ ao n c',c=.slice ao n c'→n≤c':=by
 rcases open_slice ht hf with ⟨hcs,_⟩ | ⟨a,len,cap,m,n,D,Pl,hcs,_,hl,_,hm,_,hx⟩
 ·simp only[List.cons.injEq,and_true] at hcs
  subst hcs
  exact⟨[],Arr.nil _ _ _,by simp,fun ao n c' h=>by cases h;omega⟩
 ·simp only[List.cons.injEq,and_true] at hcs
  subst hcs
  simp only[if_true] at hm
  subst hm
  obtain⟨ab,ao,spot⟩:=a
  have hspot:0 < len→spot=none:=fun h=>by
   obtain⟨cs',h1,h2⟩:=hx 0 (by omega)
   obtain⟨_,hlen,hcell⟩:=World.cells?_some h1
   rw[hc] at hlen hcell
   have h0:=hcell 0 hk
   rw[List.getElem?_eq_getElem (by omega)] at h0
   simpa[Addr.add] using World.cell?_spot h0
  obtain⟨f,hf⟩:=choose_lt (α:=α) (p:=fun i x=>spot=none∧At W ab (ao + i * k) x∧Q x) (n:=len) (fun i hi=>by
   obtain⟨cs',h1,h2⟩:=hx i (by omega)
   obtain⟨_,hlen,hcell⟩:=World.cells?_some h1
   rw[hc] at hlen hcell
   have hs:=hspot (by omega)
   subst hs
   obtain⟨x,h3,h4⟩:=hel ab (ao + i * k) cs' n _ (fun j hj=>by
    have:=hcell j hj
    rw[add_plain,add_plain] at this
    exact this) hlen h2
   exact⟨x,rfl,h3,h4⟩)
  refine⟨(List.range len).map f,⟨some ⟨ab,ao,spot⟩,m,by simp,fun i x hi=>?_⟩,fun x hx'=>?_,fun ao n c' h=>by cases h;omega⟩
  ·have hil:i < len:=by have:=lt_of_some hi;simpa using this
   rw[List.getElem?_map,List.getElem?_range hil,Option.map_some,Option.some.injEq] at hi
   subst hi
   obtain⟨h1,h2,_⟩:=hf i hil
   subst h1
   exact⟨ab,ao,rfl,h2⟩
  ·rw[List.mem_map] at hx'
   obtain⟨i,hi,rfl⟩:=hx'
   rw[List.mem_range] at hi
   exact(hf i hi).2.2
instance:Inhabited StD:=⟨dS⟩
instance:Inhabited CtrD:=⟨dC⟩
instance:Inhabited StpD:=⟨dT⟩
instance:Inhabited RolD:=⟨dR⟩
theorem Tryz.cellsStr:Tryz.prog.cellsOf 9=1:=by kernel_rfl
theorem Tryz.cellsBool:Tryz.prog.cellsOf 4=1:=by kernel_rfl
theorem Tryz.cellsInt:Tryz.prog.cellsOf 3=1:=by kernel_rfl
theorem Tryz.cellsKnd:Tryz.prog.cellsOf 88=1:=by kernel_rfl
theorem Tryz.cellsCls:Tryz.prog.cellsOf 23=1:=by kernel_rfl
theorem Tryz.cellsSts:Tryz.prog.cellsOf 82=1:=by kernel_rfl
theorem Tryz.cellsCts:Tryz.prog.cellsOf 83=1:=by kernel_rfl
theorem Tryz.cellsStps:Tryz.prog.cellsOf 84=1:=by kernel_rfl
theorem Tryz.cellsRls:Tryz.prog.cellsOf 22=1:=by kernel_rfl
theorem Tryz.cellsSt:Tryz.prog.cellsOf 180=3:=by kernel_rfl
theorem Tryz.cellsCt:Tryz.prog.cellsOf 205=2:=by kernel_rfl
theorem Tryz.cellsStp:Tryz.prog.cellsOf 90=9:=by kernel_rfl
theorem Tryz.cellsRl:Tryz.prog.cellsOf 86=4:=by kernel_rfl
theorem Tryz.cellsSes:Tryz.prog.cellsOf 25=4:=by kernel_rfl
theorem list2 {α:Type} {cs:List α} (h:cs.length=2):∃ a b,cs=[a,b]:=by
 match cs,h with
 | [a,b],_=>exact⟨a,b,rfl⟩
theorem list3 {α:Type} {cs:List α} (h:cs.length=3):∃ a b c,cs=[a,b,c]:=by
 match cs,h with
 | [a,b,c],_=>exact⟨a,b,c,rfl⟩
theorem list4 {α:Type} {cs:List α} (h:cs.length=4):∃ a b c d,cs=[a,b,c,d]:=by
 match cs,h with
 | [a,b,c,d],_=>exact⟨a,b,c,d,rfl⟩
theorem list9 {α:Type} {cs:List α} (h:cs.length=9):∃ a b c d e f g i j,cs=[a,b,c,d,e,f,g,i,j]:=by
 match cs,h with
 | [a,b,c,d,e,f,g,i,j],_=>exact⟨a,b,c,d,e,f,g,i,j,rfl⟩
set_option maxRecDepth 10000 in
theorem open_st {b o n:Nat} {cs:List Value} {y:DataW H × List MemPlace} (hc:∀ i,i < 3→W.cell? ⟨b,o + i,none⟩=cs[i]?) (hl:cs.length=3) (hf:DataW.trod enc Tryz.prog W 0 (fun _=>true) true n 180 cs=some y):∃ x:StD,StAt W b o x∧True:=by
 obtain⟨c0,c1,c2,rfl⟩:=list3 hl
 obtain⟨y0,y1,y2,n',_,_,t0,t1,t2⟩:=trod_struct3 Tryz.underlying180 hf
 simp only[Tryz.cellsStr,Tryz.cellsBool,Tryz.cellsInt,List.drop,List.take] at t0 t1 t2
 obtain⟨s,e0,_⟩:=DataW.trod_string Tryz.underlying9 t0
 obtain⟨bb,e1,_⟩:=DataW.trod_bool Tryz.underlying4 t1
 obtain⟨i,e2,_⟩:=DataW.trod_int Tryz.underlying3 t2
 simp only[List.cons.injEq,and_true] at e0 e1 e2
 subst e0;subst e1;subst e2
 exact⟨⟨s,bb,i⟩,⟨hc 0 (by omega),hc 1 (by omega),hc 2 (by omega)⟩,trivial⟩
set_option maxRecDepth 10000 in
theorem open_ct {b o n:Nat} {cs:List Value} {y:DataW H × List MemPlace} (hc:∀ i,i < 2→W.cell? ⟨b,o + i,none⟩=cs[i]?) (hl:cs.length=2) (hf:DataW.trod enc Tryz.prog W 0 (fun _=>true) true n 205 cs=some y):∃ x:CtrD,CtAt W b o x∧True:=by
 obtain⟨c0,c1,rfl⟩:=list2 hl
 obtain⟨y0,y1,n',_,_,t0,t1⟩:=trod_struct2 Tryz.underlying205 hf
 simp only[Tryz.cellsStr,Tryz.cellsInt,List.drop,List.take] at t0 t1
 obtain⟨s,e0,_⟩:=DataW.trod_string Tryz.underlying9 t0
 obtain⟨i,e1,_⟩:=DataW.trod_int Tryz.underlying3 t1
 simp only[List.cons.injEq,and_true] at e0 e1
 subst e0;subst e1
 exact⟨⟨s,i⟩,⟨hc 0 (by omega),hc 1 (by omega)⟩,trivial⟩
set_option maxRecDepth 10000 in
theorem open_stp {b o n:Nat} {cs:List Value} {y:DataW H × List MemPlace} (hc:∀ i,i < 9→W.cell? ⟨b,o + i,none⟩=cs[i]?) (hl:cs.length=9) (hf:DataW.trod enc Tryz.prog W 0 (fun _=>true) true n 90 cs=some y):∃ x:StpD,SpAt W b o x∧wf64 x.kind:=by
 obtain⟨c0,c1,c2,c3,c4,c5,c6,c7,c8,rfl⟩:=list9 hl
 obtain⟨xs,n',_,_,_,hlen,hfs⟩:=DataW.trod_struct Tryz.underlying90 hf
 match xs,hlen with
 | [y0,y1,y2,y3,y4,y5,y6,y7,y8],_ =>
   have t0:=hfs 0 _ rfl
   have t1:=hfs 1 _ rfl
   have t2:=hfs 2 _ rfl
   have t3:=hfs 3 _ rfl
   have t4:=hfs 4 _ rfl
   have t5:=hfs 5 _ rfl
   have t6:=hfs 6 _ rfl
   have t7:=hfs 7 _ rfl
   have t8:=hfs 8 _ rfl
   simp only[List.getElem_toArray,List.getElem_cons_zero,List.getElem_cons_succ,Tryz.cellsStr,Tryz.cellsKnd,Tryz.cellsInt,List.drop,List.take,List.getElem?_cons_zero,List.getElem?_cons_succ] at t0 t1 t2 t3 t4 t5 t6 t7 t8
   obtain⟨s0,e0,_⟩:=DataW.trod_string Tryz.underlying9 t0
   obtain⟨s1,e1,_⟩:=DataW.trod_string Tryz.underlying9 t1
   obtain⟨i2,e2,_,hw⟩:=DataW.trod_int Tryz.underlying88 t2
   obtain⟨s3,e3,_⟩:=DataW.trod_string Tryz.underlying9 t3
   obtain⟨s4,e4,_⟩:=DataW.trod_string Tryz.underlying9 t4
   obtain⟨s5,e5,_⟩:=DataW.trod_string Tryz.underlying9 t5
   obtain⟨i6,e6,_⟩:=DataW.trod_int Tryz.underlying3 t6
   obtain⟨i7,e7,_⟩:=DataW.trod_int Tryz.underlying3 t7
   obtain⟨i8,e8,_⟩:=DataW.trod_int Tryz.underlying3 t8
   simp only[List.cons.injEq,and_true] at e0 e1 e2 e3 e4 e5 e6 e7 e8
   subst e0;subst e1;subst e2;subst e3;subst e4;subst e5;subst e6;subst e7;subst e8
   refine⟨⟨s0,s1,i2,s3,s4,s5,i6,i7,i8⟩,⟨hc 0 (by omega),hc 1 (by omega),hc 2 (by omega),hc 3 (by omega),hc 4 (by omega),hc 5 (by omega),hc 6 (by omega),hc 7 (by omega),hc 8 (by omega)⟩,?_⟩
   simp only[Lit.wf,show IntKind.i64.min=-9223372036854775808 from rfl,show IntKind.i64.max=9223372036854775807 from rfl,Bool.and_eq_true,decide_eq_true_eq] at hw
   exact hw
set_option maxRecDepth 10000 in
theorem open_rol {b o n:Nat} {cs:List Value} {y:DataW H × List MemPlace} (hc:∀ i,i < 4→W.cell? ⟨b,o + i,none⟩=cs[i]?) (hl:cs.length=4) (hf:DataW.trod enc Tryz.prog W 0 (fun _=>true) true n 86 cs=some y):∃ x:RolD,RlAt W b o x∧∀ t∈x.steps,wf64 t.kind:=by
 obtain⟨c0,c1,c2,c3,rfl⟩:=list4 hl
 obtain⟨y0,y1,y2,y3,n',_,_,t0,t1,t2,t3⟩:=Go.Joins.trod_struct4 Tryz.underlying86 hf
 simp only[Tryz.cellsStr,Tryz.cellsSts,Tryz.cellsCts,Tryz.cellsStps,List.drop,List.take] at t0 t1 t2 t3
 obtain⟨s,e0,_⟩:=DataW.trod_string Tryz.underlying9 t0
 simp only[List.cons.injEq,and_true] at e0
 subst e0
 obtain⟨l1,a1,-,-⟩:=open_arr (At:=StAt) (Q:=fun _=>True) Tryz.underlying82 Tryz.cellsSt (by omega) (fun b o cs n y h1 h2 h3=>open_st h1 h2 h3) t1
 obtain⟨l2,a2,-,-⟩:=open_arr (At:=CtAt) (Q:=fun _=>True) Tryz.underlying83 Tryz.cellsCt (by omega) (fun b o cs n y h1 h2 h3=>open_ct h1 h2 h3) t2
 obtain⟨l3,a3,q3,k3⟩:=open_arr (At:=SpAt) (Q:=fun t=>wf64 t.kind) Tryz.underlying84 Tryz.cellsStp (by omega) (fun b o cs n y h1 h2 h3=>open_stp h1 h2 h3) t3
 exact⟨⟨s,l1,l2,l3⟩,⟨_,_,_,hc 0 (by omega),hc 1 (by omega),hc 2 (by omega),hc 3 (by omega),a1,a2,a3,k3⟩,q3⟩
set_option maxRecDepth 10000 in
theorem open_ses {base:Nat} {v:Value} {d:DataW H} {p:List MemPlace} (hv:Value.okWide Tryz.prog W .any base 25 v) (h:DataW.Trod enc Tryz.prog W 0 (fun _=>true) true 25 v d p):∃ s,SesV W v s∧WfS s:=by
 obtain⟨cs,rfl,hsz⟩:=okWide_struct Tryz.underlying25 hv
 obtain⟨fuel,hf⟩:=h
 obtain⟨y0,y1,y2,y3,n,_,_,t0,t1,t2,t3⟩:=Go.Joins.trod_struct4 Tryz.underlying25 hf
 rw[Tryz.cellsSes] at hsz
 obtain⟨c0,c1,c2,c3,rfl⟩:=Go.Joins.array4 hsz
 simp only[Value.cells,Tryz.cellsStr,Tryz.cellsRls,Tryz.cellsCls,Tryz.cellsInt,List.drop,List.take] at t0 t1 t2 t3
 obtain⟨s,e0,_⟩:=DataW.trod_string Tryz.underlying9 t0
 obtain⟨i2,e2,_⟩:=DataW.trod_int Tryz.underlying23 t2
 obtain⟨i3,e3,_⟩:=DataW.trod_int Tryz.underlying3 t3
 simp only[List.cons.injEq,and_true] at e0 e2 e3
 subst e0;subst e2;subst e3
 obtain⟨l,a1,q1,-⟩:=open_arr (At:=RlAt) (Q:=fun r:RolD=>∀ t∈r.steps,wf64 t.kind) Tryz.underlying22 Tryz.cellsRl (by omega) (fun b o cs n y h1 h2 h3=>open_rol h1 h2 h3) t1
 exact⟨⟨s,l,i2,i3⟩,⟨c1,rfl,a1⟩,q1⟩
end
end Go.Proofs.YtemjlpahohmajaaGreat
namespace Go.Proofs.YtemjlpahohmajaaGreat
open Go.ChangeShapes Go.WideShapes Go.ChangeAt Go.RowKit
theorem Tryz.own:ownKnob Tryz.prog.godebug=none:=by kernel_rfl
theorem Tryz.laidOut:laidOutB Tryz.prog=true:=by kernel_rfl
end Go.Proofs.YtemjlpahohmajaaGreat
namespace Go.Proofs.YtemjlpahohmajaaGreat
open Go.RowKit Go.BigFrame
theorem wp_own_stepL {P:Program} {o:Oper} {a:Act} {w:World} {K:Act→World→Prop} {Q:Exit→Act→World→Prop} (s x:Operand) (t:TypeId)
  (ho:o.op=.call { callee:=.builtin .append,args:=#[s,x],argTypes:=#[t,t] })
  (base:Nat) (e:TypeId) {i:TypeInfo} {z:Value} {size bytes:Nat} (ht:P.underlying t=some (.slice e)) (hi:P.info? e=some i) (hz:i.zero=some z)
  (hsize:i.size=size) (hby:i.bytes=bytes) (hzs:z.cells.size=size) (hsz:0 < size)
  (v:Value) (n:Nat) (xs:List Value) (hs:a.eval s=v) (hown:w.ownsRow base e size v n xs)
  (ad:Addr) (m c:Nat) (news:List Value) (hx:a.eval x=.slice (some ad) m c) (hl:news.length=m * size) (hnews:∀ (j:Nat) u,news[j]?=some u→w.cell? (ad.add j)=some u) (h1:∀ u∈news,u.oneCell'=true)
  (h63:n + m≤maxLen) (hbytes:(n + m) * bytes≤140737488355328) (hbase:base≤w.heap.size)
  (h:∀ v' w',w'.ownsRow base e size v' (n + m) (xs ++ news)→w.grownBy w' v.ownBlock→(v'.ownBlock=v.ownBlock∨v'.ownBlock=some w.heap.size)→K (a.put o.dst v') w'):Oper.wp P o a w K Q:=by
 obtain⟨v',w',hr,h2,h3,h4,h5⟩:=run_append_own_at (P:=P) w base t o.type e i z size bytes ht hi hz hsize hby hzs hsz v n xs hown ad m c news hl hnews h1 h63 hbytes hbase
 unfold Oper.wp execOp
 simp only[ho,resolve,invoke,builtin,Sem.run_bind,Sem.run_pure,Result.andThen_ok,List.map_toArray,List.map_cons,List.map_nil,hs,hx,hr]
 exact h v' w' h2 h3 h5
theorem firstP_at (s:SesD) (i:Nat):(firstP s).at i=0:=by
 unfold firstP PS.at
 simp only[List.getD_eq_getElem?_getD,List.getElem?_map]
 cases s.roles[i]? <;> rfl
theorem first_bank (s:SesD) {i:Nat} (hi:i < s.roles.length):(firstP s).bank i=List.replicate (s.rol i).ctrs.length 0:=by
 unfold firstP PS.bank
 simp only[List.getD_eq_getElem?_getD,List.getElem?_map,SesD.rol_some hi,Option.map_some,Option.getD_some,List.map_const']
structure QF (w W0:World) (s:SesD) (m i:Nat) (W:World):Prop where
 fr:Frm [w.heap.size + 2] W0 W
 bx:∃ aa ka ab kb aw kw bi bk,W.heap[w.heap.size + 2]?=some (.cells #[.slice aa m ka,.slice ab m kb,.slice aw i kw] 125 (0,0))∧W.ownsRow W0.heap.size 3 1 (.slice aa m ka) m (List.replicate m (iv 0))∧W.ownsRow W0.heap.size 185 2 (.slice ab m kb) m bk ∧
  (∀ j,j < m→∃ dv vv,bk[j * 2]?=some dv∧bk[j * 2 + 1]?=some vv∧DfV W dv (s.rol j).ctrs∧IvR W vv ((firstP s).bank j)∧∀ q,vv.ownBlock=some q→(Value.slice aa m ka).ownBlock≠some q)∧WyR W0.heap.size i s.roles.length bi (.slice aw i kw) W∧RW W0.heap.size s (firstP s) i bi W
theorem QF.frm {w W0 W V:World} {s:SesD} {m i:Nat} (h:QF w W0 s m i W) (hf:Frm [] W V):QF w W0 s m i V:=by
 obtain⟨aa,ka,ab,kb,aw,kw,bi,bk,h1,h2,h3,h4,h5,h6⟩:=h.bx
 refine⟨h.fr.then hf (by simp),aa,ka,ab,kb,aw,kw,bi,bk,hf.at h1 (by simp),hf.owns h2 (by simp),hf.owns h3 (by simp),fun j hj=>?_,h5.kt (T:=[]) (Kt.frm hf) (by simp),h6.kt (T:=[]) (Kt.frm hf) (by simp) (by simp)⟩
 obtain⟨dv,vv,b1,b2,b3,b4,b5⟩:=h4 j hj
 exact⟨dv,vv,b1,b2,b3.frm hf (by simp),b4.frm hf (by simp),b5⟩
structure FB (B p:Nat) (wl:World) (F:List Nat) (D V Wv:Value) (d v:Value) (n1 n2:Nat) (L1 L2:List Value) (X:World):Prop where
 fr:Frm F wl X
 kt:Kt [3,185] wl X
 p:X.heap[p]?=some (.cells #[D,V,Wv] 125 (0,0))
 o1:X.ownsRow B 3 1 d n1 L1
 o2:X.ownsRow B 185 2 v n2 L2
 hd:∀ q,d.ownBlock=some q→D.ownBlock=some q∨wl.heap.size≤q
section
variable {B p:Nat} {wl X Y:World} {F:List Nat} {D V Wv d v d' v':Value} {n1 n2 m1 m2:Nat} {L1 L2 M1 M2:List Value}
theorem FB.alloc (h:FB B p wl F D V Wv d v n1 n2 L1 L2 X) (o:Obj):FB B p wl F D V Wv d v n1 n2 L1 L2 (X.alloc o):=⟨h.fr.alloc _,h.kt.alloc _,alloc_at h.p,h.o1.alloc _,h.o2.alloc _,h.hd⟩
theorem FB.app1 (h:FB B p wl F D V Wv D v n1 n2 L1 L2 X) (hF:∀ k,D.ownBlock=some k→k∈F) (hg:X.grownBy Y D.ownBlock) (ho:Y.ownsRow B 3 1 d' m1 M1) (hd:d'.ownBlock=D.ownBlock∨d'.ownBlock=some X.heap.size):FB B p wl F D V Wv d' v m1 n2 M1 L2 Y:=
 ⟨h.fr.grown hg (fun k hk=>.inl (hF k hk)),h.kt.trans ((Kt.own h.o1 hg).mono (by simp)),(Kt.own h.o1 hg).cells h.p (by decide),ho,(Kt.own h.o1 hg).row h.o2 (by decide),fun q hq=>by
  rcases hd with e | e
  ·exact .inl (e ▸ hq)
  ·rw[e] at hq
   cases hq
   exact .inr h.fr.size⟩
theorem FB.app2 (h:FB B p wl F D V Wv d V n1 n2 L1 L2 X) (hF:∀ k,V.ownBlock=some k→k∈F) (hg:X.grownBy Y V.ownBlock) (ho:Y.ownsRow B 185 2 v' m2 M2):FB B p wl F D V Wv d v' n1 m2 L1 M2 Y:=
 ⟨h.fr.grown hg (fun k hk=>.inl (hF k hk)),h.kt.trans ((Kt.own h.o2 hg).mono (by simp)),(Kt.own h.o2 hg).cells h.p (by decide),(Kt.own h.o2 hg).row h.o1 (by decide),ho,h.hd⟩
end
theorem QF.grow {w W0 W Y Z:World} {s:SesD} {i ka kb kw:Nat} {aa ab aw:Option Addr} {bi:Nat→Nat} {bk:List Value} {d v dv vv:Value} {F:List Nat} (hW:Frm [w.heap.size + 2] W0 W) (h2':w.heap.size + 2 < W0.heap.size)
  (h2:W.ownsRow W0.heap.size 3 1 (.slice aa i ka) i (List.replicate i (iv 0))) (h3:W.ownsRow W0.heap.size 185 2 (.slice ab i kb) i bk)
  (h4:∀ j,j < i→∃ dv vv,bk[j * 2]?=some dv∧bk[j * 2 + 1]?=some vv∧DfV W dv (s.rol j).ctrs∧IvR W vv ((firstP s).bank j)∧∀ q,vv.ownBlock=some q→(Value.slice aa i ka).ownBlock≠some q) (h5:WyR W0.heap.size i s.roles.length bi (.slice aw i kw) W) (h6:RW W0.heap.size s (firstP s) i bi W)
  (hdv:DfV W dv (s.rol i).ctrs) (hvv:IvR W vv ((firstP s).bank i)) (hvn:∀ q,vv.ownBlock=some q→(Value.slice aa i ka).ownBlock≠some q) (hFe:∀ k∈F,(Value.slice aa i ka).ownBlock=some k∨(Value.slice ab i kb).ownBlock=some k)
  (hb:FB W0.heap.size (w.heap.size + 2) W F (.slice aa i ka) (.slice ab i kb) (.slice aw i kw) d v (i + 1) (i + 1) (List.replicate (i + 1) (iv 0)) (bk ++ [dv,vv]) Y)
  (e:(Y.setCell ⟨w.heap.size + 2,0,none⟩ d).setCell ⟨w.heap.size + 2,1,none⟩ v=Z):QF w W0 s (i + 1) i Z:=by
 obtain⟨a1,c1,rfl⟩:=own_shape hb.o1
 obtain⟨a2,c2,rfl⟩:=own_shape hb.o2
 have b1:=block_setCell hb.p 0 (.slice a1 (i + 1) c1)
 have b2:=block_setCell b1 1 (.slice a2 (i + 1) c2)
 have hF:Frm [w.heap.size + 2] Y Z:=by rw[← e];exact(setFrm _ _ _ _).trans (setFrm _ _ _ _)
 have hk:Kt [125] Y Z:=by rw[← e];exact((Kt.refl _ Y).set hb.p (by simp) _).set b1 (by simp) _
 have hK:Kt [3,185,125] W Z:=(hb.kt.mono (by simp)).trans (hk.mono (by simp))
 rw[e] at b2
 have hFge:∀ k∈F,W0.heap.size≤k:=fun k hk=>by
  rcases hFe k hk with h | h
  ·exact ownBlock_ge h2 h
  ·exact ownBlock_ge h3 h
 have hWZ:∀ vv l,IvR W vv l→(∀ q,vv.ownBlock=some q→(Value.slice aa i ka).ownBlock≠some q)→IvR Z vv l:=fun vv l hv hn=>by
  refine(hv.frm hb.fr fun q hq hm=>?_).frm hF fun q hq hm=>?_
  ·rcases hFe q hm with h | h
   ·exact hn q hq h
   ·obtain⟨c,hc⟩:=ownBlock_type h3 h
    obtain⟨c',hc'⟩:=ownBlock_type hv hq
    rw[hc] at hc'
    cases hc'
  ·simp at hm
   obtain⟨c',hc'⟩:=ownBlock_type (hv.frm hb.fr fun q hq hm=>by
    rcases hFe q hm with h | h
    ·exact hn q hq h
    ·obtain⟨c,hc⟩:=ownBlock_type h3 h
     obtain⟨c',hc'⟩:=ownBlock_type hv hq
     rw[hc] at hc'
     cases hc') hq
   rw[hm,hb.p] at hc'
   cases hc'
 have hnew:∀ vv l,IvR W vv l→(∀ q,vv.ownBlock=some q→(Value.slice aa i ka).ownBlock≠some q)→∀ q,vv.ownBlock=some q→(Value.slice a1 (i + 1) c1).ownBlock≠some q:=fun vv l hv hn q hq he=>by
  rcases hb.hd q he with h | h
  ·exact hn q hq h
  ·have:=ownBlock_lt hv hq
   omega
 have hbl:bk.length=i * 2:=h3.1
 refine⟨(hW.then hb.fr fun x hx=>.inr (hFge x hx)).trans hF,a1,c1,a2,c2,aw,kw,bi,_,b2,hk.row hb.o1 (by decide),hk.row hb.o2 (by decide),fun j hj=>?_,h5.kt hK (by decide),h6.kt hK (by decide) (by decide)⟩
 by_cases ej:j=i
 ·subst ej
  refine⟨dv,vv,?_,?_,hK.row hdv (by decide),hWZ vv _ hvv hvn,hnew vv _ hvv hvn⟩
  ·rw[List.getElem?_append_right (by omega),hbl,Nat.sub_self];rfl
  ·rw[List.getElem?_append_right (by omega),hbl,show j * 2 + 1 - j * 2=1 by omega];rfl
 ·obtain⟨dv',vv',q1,q2,q3,q4,q5⟩:=h4 j (by omega)
  refine⟨dv',vv',?_,?_,hK.row q3 (by decide),hWZ vv' _ q4 q5,hnew vv' _ q4 q5⟩
  ·rw[List.getElem?_append_left (lt_of_some q1)];exact q1
  ·rw[List.getElem?_append_left (lt_of_some q2)];exact q2
theorem QF.row {w W0 W X Y Z:World} {s:SesD} {i g c:Nat} {aa ab aw:Option Addr} {ka kb kw:Nat} {bi:Nat→Nat} {bk ws:List Value} {v':Value} (hW:Frm [w.heap.size + 2] W0 W) (h1:W.heap[w.heap.size + 2]?=some (.cells #[.slice aa (i + 1) ka,.slice ab (i + 1) kb,.slice aw i kw] 125 (0,0)))
  (h2:W.ownsRow W0.heap.size 3 1 (.slice aa (i + 1) ka) (i + 1) (List.replicate (i + 1) (iv 0))) (h3:W.ownsRow W0.heap.size 185 2 (.slice ab (i + 1) kb) (i + 1) bk)
  (h4:∀ j,j < i + 1→∃ dv vv,bk[j * 2]?=some dv∧bk[j * 2 + 1]?=some vv∧DfV W dv (s.rol j).ctrs∧IvR W vv ((firstP s).bank j)∧∀ q,vv.ownBlock=some q→(Value.slice aa (i + 1) ka).ownBlock≠some q)
  (how:W.ownsRow W0.heap.size 188 1 (.slice aw i kw) i ws) (hws:∀ j,j < i→∃ c,ws[j]?=some (.slice (some ⟨bi j,0,none⟩) s.roles.length c)) (h6:RW W0.heap.size s (firstP s) i bi W)
  (hf:Frm [] W X) (hg:W.heap.size≤g) (hty:Ty X g 190) (hrow:Arr 3 (RcAt s.cls s.cap X) X (.slice (some ⟨g,0,none⟩) s.roles.length c) (rowL s (firstP s) i)) (hgr:X.grownBy Y (Value.slice aw i kw).ownBlock)
  (ho:Y.ownsRow W0.heap.size 188 1 v' (i + 1) (ws ++ [.slice (some ⟨g,0,none⟩) s.roles.length c])) (e:Y.setCell ⟨w.heap.size + 2,2,none⟩ v'=Z):QF w W0 s (i + 1) (i + 1) Z:=by
 obtain⟨a',c',rfl⟩:=own_shape ho
 have hX:=hf.at h1 (by simp)
 have hk1:Kt [188] X Y:=Kt.own (hf.owns how (by simp)) hgr
 have hY:=hk1.cells hX (by decide)
 have b1:=block_setCell hY 2 (.slice a' (i + 1) c')
 have hk2:Kt [125] Y Z:=by rw[← e];exact(Kt.refl _ Y).set hY (by simp) _
 have hXZ:Kt [125,188] X Z:=(hk1.mono (by simp)).trans (hk2.mono (by simp))
 have hK:Kt [125,188] W Z:=(Kt.frm hf).trans hXZ
 have hF:Frm [w.heap.size + 2] Y Z:=by rw[← e];exact setFrm _ _ _ _
 rw[e] at b1
 refine⟨((hW.then hf (by simp)).grown hgr (fun k hk=>.inr (ownBlock_ge how hk))).trans hF,aa,ka,ab,kb,a',c',_,bk,b1,hK.row h2 (by decide),hK.row h3 (by decide),fun j hj=>?_,(WyR.add how hws ho).kt hk2 (by decide),(h6.kt hK (by decide) (by decide)).add (n:=s.roles.length) (c:=c) (hXZ.ty hty (by decide)) (Nat.le_trans hW.size hg) (fun j hj e=>by have:=(h6.ti j hj).1.lt;omega) ?_⟩
 ·obtain⟨dv,vv,q1,q2,q3,q4,q5⟩:=h4 j hj
  exact⟨dv,vv,q1,q2,hK.row q3 (by decide),hK.row q4 (by decide),q5⟩
 ·obtain⟨ao,cc,e1,hx⟩:=hrow
  injection e1 with e2 e3 e4
  refine⟨_,_,congrArg (fun n=>Value.slice _ n _) e3,fun k y hy=>?_⟩
  obtain⟨b,o,e5,ha⟩:=hx k y hy
  rw[← e2] at e5
  cases e5
  obtain⟨cur,hc⟩:=hty
  obtain⟨lv,r0,r1,r2,r3⟩:=ha.eq ((hXZ.cells hc (by decide)).trans hc.symm)
  exact⟨g,0,rfl,lv,r0,r1,r2,hXZ.strs r3 (by decide)⟩
theorem QF.end {w W0 W Z:World} {s:SesD} {n:Nat} (hn:s.roles.length=n) (h:QF w W0 s n n W) (hw0:Frm [] w W0) (h2':w.heap.size + 2 < W0.heap.size) (hpos:0 < n) (hok:PSok s (firstP s)) {C:Array Value} (hrb:W.heap[w.heap.size + 1]?=some (.cells C 125 (0,0))) (hf:Frm [w.heap.size + 1] W Z) (hk:Kt [125] W Z) {aa ab aw:Option Addr} {ka kb kw:Nat}
  (hbx:W.heap[w.heap.size + 2]?=some (.cells #[.slice aa n ka,.slice ab n kb,.slice aw n kw] 125 (0,0))):RSt w.heap.size Z s (.agg #[.slice aa n ka,.slice ab n kb,.slice aw n kw]) (firstP s)∧Frm [] w Z:=by
 subst hn
 have hwZ:Frm [] w Z:=(hw0.then h.fr (by intro k hk;simp at hk;subst hk;exact .inr (by omega))).then hf (by intro k hk;simp at hk;subst hk;exact .inr (by omega))
 refine⟨?_,hwZ⟩
 obtain⟨aa',ka',ab',kb',aw',kw',bi,bk,b1,g2,g3,g4,g5,g6⟩:=h.bx
 rw[hbx] at b1
 injection b1 with b1
 injection b1 with b1
 have e:=congrArg Array.toList b1
 injection e with e1 e
 injection e with e2 e
 injection e with e3 e
 rw[← e1] at g2 g4
 rw[← e2] at g3
 rw[← e3] at g5
 have G2:=hk.row g2 (by decide);have G3:=hk.row g3 (by decide)
 obtain⟨ga,ca,cua,ea,ga1,ga2⟩:=own_block G2 (by omega)
 obtain⟨gb,cb,cub,eb,gb1,gb2⟩:=own_block G3 (by omega)
 cases ea
 cases eb
 refine(RSt.mk' (B:=W0.heap.size) hpos hok ?_ (fun k hk=>?_) ⟨_,_,rfl⟩ ?_ (fun k hk=>?_) ⟨_,_,rfl⟩ (g5.kt hk (by decide)) (g6.kt hk (by decide) (by decide)) ?_).low hw0.size
 ·refine⟨_,_,by rw[posL_len],fun i y hy=>⟨ga,0,rfl,?_⟩⟩
  obtain⟨hi,rfl⟩:=range_map_at hy
  unfold IAt
  rw[Nat.zero_add,Nat.mul_one,firstP_at]
  exact own_at G2 (by rw[List.getElem?_replicate,if_pos hi];rfl)
 ·simp[Value.ownBlock] at hk;subst hk;exact⟨ga1,_,ga2⟩
 ·refine⟨_,_,by rw[bnkL_len],fun i y hy=>⟨gb,0,rfl,?_⟩⟩
  obtain⟨hi,rfl⟩:=range_map_at hy
  obtain⟨dv,vv,q1,q2,q3,q4,q5⟩:=g4 i hi
  rw[Nat.zero_add]
  exact⟨dv,vv,own_at G3 q1,own_at G3 q2,hk.row q3 (by decide),hk.row q4 (by decide)⟩
 ·simp[Value.ownBlock] at hk;subst hk;exact⟨gb1,_,gb2⟩
 ·intro i b o vv hi hb ho hv k hk' hka
  simp[Value.ownBlock] at hb hka
  subst hb ho hka
  obtain⟨dv,vv',q1,q2,q3,q4,q5⟩:=g4 i hi
  rw[own_at G3 q2] at hv
  cases hv
  exact q5 _ hk' rfl
end Go.Proofs.YtemjlpahohmajaaGreat
namespace Go.Proofs.YtemjlpahohmajaaGreat
open Go.RowKit Go.BigFrame Go.Maps
set_option maxHeartbeats 4000000 in
set_option maxRecDepth 100000 in
theorem xSearch_bad (s:SesD) (yb fb:Nat) (lim:Int) (w:World) (h:SyR w s yb fb) (hl:lim < 1∨200000 < lim) :
  Calls Tryz.prog 11 #[.pointer (some ⟨yb,0,none⟩),.int .i64 lim] w (RetV fun v w'=>v=.tuple #[.pointer none,.int .i64 2]∧Frm [] w w'):=by
 obtain⟨w0,hw0⟩:∃ w0,w.alloc (.cells #[.pointer (some ⟨yb,0,none⟩)] 26)=w0:=⟨_,rfl⟩
 have hf0:Frm [] w w0:=by rw[← hw0];exact(Frm.refl _ _).alloc _
 have hb0:w0.heap[w.heap.size]?=some (.cells #[.pointer (some ⟨yb,0,none⟩)] 26 (0,0)):=by rw[← hw0];exact heap_alloc_new _ _
 have CF:=Lib.hid (pFirst_any s yb fb w0 (h.frm hf0))
 have y0:=cell_of hb0 0
 have HF0:=Lib.hid hf0;have HE:=Lib.hid hw0
 clear h hf0 hb0 hw0
 go_enter Tryz.func11,Tryz.ntmps11
 go_upto_region 1 with fail
 rw[HE.out]
 refine wp_scope_straight ?_
 by_cases h1:lim < 1
 ·go_wp2_with (first
   | (go_at_call 30;go_must (refine CF.out.mono ?_;rintro e w' ⟨rfl,rfl⟩)))
  try rw[Exit.noGoto_ret]
  go_ret2
  exact⟨_,rfl,rfl,HF0.out⟩
 ·have h2:200000 < lim:=hl.resolve_left h1
  clear hl
  go_wp2_with (first
   | (go_at_call 30;go_must (refine CF.out.mono ?_;rintro e w' ⟨rfl,rfl⟩)))
  try rw[Exit.noGoto_ret]
  go_ret2
  exact⟨_,rfl,rfl,HF0.out⟩
end Go.Proofs.YtemjlpahohmajaaGreat
namespace Go.Proofs.YtemjlpahohmajaaGreat
open Go.RowKit Go.BigFrame
theorem setCells_at:∀ (vs:List Value) (o:Nat) (w:World) (b:Nat) (c:Array Value) (t:TypeId),w.heap[b]?=some (.cells c t (0,0))→o + vs.length≤c.size →
  ∃ c',(w.setCells b o vs).heap[b]?=some (.cells c' t (0,0))∧c'.size=c.size∧(∀ j,j < o∨o + vs.length≤j→c'[j]?=c[j]?)∧(∀ j v,vs[j]?=some v→c'[o + j]?=some v)∧Frm [b] w (w.setCells b o vs)
 | [],o,w,b,c,t,h,_=>⟨c,h,rfl,fun _ _=>rfl,fun j v h=>by simp at h,Frm.refl _ _⟩
 | v :: vs,o,w,b,c,t,h,hl=>by
   have hb:=block_setCell h o v
   simp only[List.length_cons] at hl
   obtain⟨c',h1,h2,h3,h4,h5⟩:=setCells_at vs (o + 1) (w.setCell ⟨b,o,none⟩ v) b _ t hb (by simp;omega)
   refine⟨c',h1,by simpa using h2,fun j hj=>?_,fun j u hu=>?_,((Frm.refl _ _).setCell _ (.inl (by simp)) _).trans h5⟩
   ·simp only[List.length_cons] at hj
    rw[h3 j (by omega),Array.getElem?_setIfInBounds_ne (by omega)]
   ·cases j with
    | zero =>
      simp at hu;subst hu
      rw[Nat.add_zero,h3 o (by omega),Array.getElem?_setIfInBounds_self_of_lt (by omega)]
    | succ j =>
      rw[show o + (j + 1)=o + 1 + j by omega]
      exact h4 j u (by simpa using hu)
def mv00:Mv:=⟨0,0,0,0⟩
def RvR (W:World) (g n:Nat) (M:Nat→Mv):Prop:=∃ cur,W.heap[g]?=some (.cells cur 70 (0,0))∧n * 4≤cur.size ∧
 ∀ k,k < n→cur[k * 4]?=some (.int .i64 (M k).kind)∧cur[k * 4 + 1]?=some (.int .i64 (M k).role)∧cur[k * 4 + 2]?=some (.int .i64 (M k).step)∧cur[k * 4 + 3]?=some (.int .i64 (M k).place)
theorem RvR.frm {W V:World} {g n:Nat} {M:Nat→Mv} (h:RvR W g n M) (hf:Frm [] W V):RvR V g n M:=by
 obtain⟨cur,h1,h2⟩:=h
 exact⟨cur,hf.at h1 (by simp),h2⟩
theorem RvR.at {W:World} {g n k:Nat} {M:Nat→Mv} (h:RvR W g n M) (hk:k < n):MvAt W g (k * 4) (M k):=by
 obtain⟨cur,h1,h2,h3⟩:=h
 obtain⟨a,b,c,d⟩:=h3 k hk
 exact⟨(cell_of h1 _).trans a,(cell_of h1 _).trans b,(cell_of h1 _).trans c,(cell_of h1 _).trans d⟩
theorem RvR.set {W:World} {g n i:Nat} {M:Nat→Mv} (h:RvR W g n M) (hi:i < n) (m:Mv):RvR (W.setCells g (i * 4) (mvC1 m)) g n (fun k=>if k=i then m else M k)∧Frm [g] W (W.setCells g (i * 4) (mvC1 m)):=by
 obtain⟨cur,h1,h2,h3⟩:=h
 obtain⟨c',g1,g2,g3,g4,g5⟩:=setCells_at (mvC1 m) (i * 4) W g cur _ h1 (by simp[mvC1];omega)
 refine⟨⟨c',g1,by omega,fun k hk=>?_⟩,g5⟩
 by_cases e:k=i
 ·subst e
  simp only[if_true]
  exact⟨g4 0 _ rfl,g4 1 _ rfl,g4 2 _ rfl,g4 3 _ rfl⟩
 ·simp only[if_neg e]
  have hl:(mvC1 m).length=4:=rfl
  obtain⟨a,b,c,d⟩:=h3 k hk
  refine⟨(g3 _ ?_).trans a,(g3 _ ?_).trans b,(g3 _ ?_).trans c,(g3 _ ?_).trans d⟩ <;> rw[hl] <;> omega
theorem RvR.there {W:World} {g n i:Nat} {M:Nat→Mv} (h:RvR W g n M) (hi:i < n):W.there g (i * 4) 4:=by
 obtain⟨cur,h1,h2,h3⟩:=h
 intro j hj
 refine⟨?_,free_of h1 _⟩
 rw[cell_of h1,Array.getElem?_eq_getElem (by omega)]
 rfl
theorem mv_rv {W:World} {base:Nat} {v:Value} {L:List Mv} (h:W.ownsRow base 70 4 v L.length (mvC L)) (hn:L.length≠0):∃ g cap,v=.slice (some ⟨g,0,none⟩) L.length cap∧RvR W g L.length (fun k=>L.getD k mv00):=by
 obtain⟨-,⟨-,h2⟩ | ⟨g,cap,cur,rfl,-,hh,hc,-,hs,ht⟩⟩:=h
 ·exact absurd h2 hn
 ·refine⟨g,cap,rfl,cur,hh,by rw[hs];exact Nat.mul_le_mul_right _ hc,fun k hk=>?_⟩
  obtain⟨a,b,c,d⟩:=mvC_at (some_getD (d:=mv00) hk)
  have e:∀ j,j < L.length * 4→cur[j]?=(mvC L)[j]?:=fun j hj=>by
   rw[← ht,List.getElem?_take_of_lt hj,Array.getElem?_toList]
  exact⟨(e _ (by omega)).trans a,(e _ (by omega)).trans b,(e _ (by omega)).trans c,(e _ (by omega)).trans d⟩
theorem rv_arr {W:World} {g n cap:Nat} {M:Nat→Mv} {L:List Mv} (h:RvR W g n M) (hn:L.length=n) (hM:∀ k m,L[k]?=some m→M k=m):Arr 4 MvAt W (.slice (some ⟨g,0,none⟩) n cap) L:=
 ⟨_,_,by rw[hn],fun i m hm=>⟨g,0,rfl,by
  have:=h.at (k:=i) (by rw[← hn];exact lt_of_some hm)
  rw[hM i m hm] at this
  rwa [Nat.zero_add]⟩⟩
def revM (L:List Mv) (i k:Nat):Mv:=if k < i∨L.length≤k + i then L.getD (L.length - 1 - k) mv00 else L.getD k mv00
theorem revM_step {L:List Mv} {i j:Nat} (hj:L.length=i + j + 1) (hij:i < j) (k:Nat):(if k=j then revM L i i else if k=i then revM L i j else revM L i k)=revM L (i + 1) k:=by
 unfold revM
 by_cases h1:k=j
 ·subst h1
  rw[if_pos rfl,if_neg (by omega),if_pos (by omega),show L.length - 1 - k=i by omega]
 rw[if_neg h1]
 by_cases h2:k=i
 ·subst h2
  rw[if_pos rfl,if_neg (by omega),if_pos (by omega),show L.length - 1 - k=j by omega]
 rw[if_neg h2]
 by_cases h3:k < i∨L.length≤k + i
 ·rw[if_pos h3,if_pos (by omega)]
 ·rw[if_neg h3,if_neg (by omega)]
theorem revM_end {L:List Mv} {i:Nat} (h:L.length≤i + i + 1) {k:Nat} {m:Mv} (hm:L.reverse[k]?=some m):revM L i k=m:=by
 have hk:k < L.length:=by have:=lt_of_some hm;simpa using this
 rw[List.getElem?_reverse hk] at hm
 have h2:=getD_some (d:=mv00) hm
 unfold revM
 by_cases h3:k < i∨L.length≤k + i
 ·rw[if_pos h3];exact h2
 ·rw[if_neg h3,show k=L.length - 1 - k by omega];exact h2
theorem Tryz.infoMvS:(Tryz.prog.info? 70).map (·.size)=some 4:=by kernel_rfl
theorem one_mv (a b c d:Int):(#[.int .i64 a,.int .i64 b,.int .i64 c,.int .i64 d]:Array Value).all (·.oneCell')=true:=by
 rw[← Array.all_toList];rfl
theorem wp_store_mv {op:Oper} {a:Act} {w:World} {K:Act→World→Prop} {Q:Exit→Act→World→Prop} {g n i:Nat} {M:Nat→Mv} (x y:Operand) (m:Mv) (ho:op.op=.store 70 x y) (hx:a.eval x=.pointer (some ⟨g,i * 4,none⟩)) (hy:a.eval y=mvV m)
  (hR:RvR w g n M) (hi:i < n) (h:∀ w',RvR w' g n (fun k=>if k=i then m else M k)→Frm [g] w w'→K (a.put op.dst undef) w'):op.wp Tryz.prog a w K Q:=
 wp_store_mid 70 x y ho g (i * 4) #[.int .i64 m.kind,.int .i64 m.role,.int .i64 m.step,.int .i64 m.place] hx hy (hR.there hi) Tryz.infoMvS (one_mv _ _ _ _) (h _ (hR.set hi m).1 (hR.set hi m).2)
set_option maxHeartbeats 4000000 in
set_option maxRecDepth 100000 in
theorem rvMove_any (g n cap:Nat) (L:List Mv) (w:World) (hn:L.length=n) (h1:1≤n) (h5:n≤1000000) (h:RvR w g n (fun k=>L.getD k mv00)) :
  Calls Tryz.prog 97 #[.slice (some ⟨g,0,none⟩) n cap] w (RetV fun _ w'=>Arr 4 MvAt w' (.slice (some ⟨g,0,none⟩) n cap) L.reverse∧Frm [g] w w'):=by
 have HN:=Lib.hid hn
 have h0:RvR w g n (revM L 0):=by
  obtain⟨cur,g1,g2,g3⟩:=h
  refine⟨cur,g1,g2,fun k hk=>?_⟩
  have e:revM L 0 k=L.getD k mv00:=by unfold revM;rw[if_neg (by omega)]
  rw[e]
  exact g3 k hk
 have H0:=Lib.hid h0
 have hw:wrap64 ((n:Int) - 1)=((n - 1:Nat):Int):=by unfold wrap64;omega
 clear h hn
 go_enter Tryz.func97,Tryz.ntmps97
 go_wp2
 go_loopw [2,3] (fun s2 s3 wr=>∃ i:Nat,(s2=.int .i64 i∧s3=.int .i64 ((n - 1 - i:Nat):Int))∧2 * i≤n∧i < n∧RvR wr g n (revM L i)∧Frm [g] w wr) (fun s2 _ _=>n - (intOf s2).toNat)
 case atStart=>exact⟨0,⟨rfl,by congr 1;omega⟩,by omega,by omega,H0.out,Frm.refl _ _⟩
 case round =>
  obtain⟨i,⟨rfl,rfl⟩,hi2,hi,hr,hf⟩:=hrel
  obtain⟨j,hj⟩:∃ j,n - 1 - i=j:=⟨_,rfl⟩
  rw[hj]
  have HJ:=Lib.hid hj;have HR:=Lib.hid hr;have HF:=Lib.hid hf
  obtain⟨wq,hwq⟩:∃ wq,wq=wr:=⟨_,rfl⟩
  subst hwq
  clear hr hf hw
  by_cases hlt:i < j
  ·have hlt':(i:Int) < (j:Int):=by omega
   have hjn:j < n:=by omega
   go_upto_region 3 with (fail)
   generalize hQQ:Exit.inBlock _ _=QQ
   refine wp_mono (Q:=fun e a' w'=>match e with | .normal=>QQ .normal a' w' | _=>False) ?_ (fun e a' w' h=>by cases e <;> first | exact h | exact h.elim)
   have HCT:Hid (∀ V,Frm [] wq V→MvAt V g (j * 4) (revM L i j)∧MvAt V g (i * 4) (revM L i i)):=Lib.hid fun V hV=>⟨(HR.out.frm hV).at hjn,(HR.out.frm hV).at hi⟩
   refine heldL_start [] (wrFrom 13) (by kernel_rfl) ?_
   refine cnt 2 ?_
   iterate 2
    refine hcP ?_ ?_ ?_
    rotate_left
    ·intro w'
     go_simp
     try rfl
    try simp only[nrm,Nat.reduceAdd]
   refine tcn ?_
   refine cnt 0 ?_
   iterate 2
    refine hcL ?_ ?_ ?_
    rotate_left
    ·intro w' hC
     obtain⟨⟨x0,x1,x2,x3⟩,⟨y0,y1,y2,y3⟩⟩:=HCT.out w' ((Frm.refl [] wq).drew.trans hC)
     clear hC
     go_simp
     try rfl
    try simp only[nrm,Nat.reduceAdd]
   refine tcn ?_
   refine cnt 4 ?_
   iterate 9
    refine hcL ?_ ?_ ?_
    rotate_left
    ·intro w' hC
     obtain⟨⟨x0,x1,x2,x3⟩,⟨y0,y1,y2,y3⟩⟩:=HCT.out w' ((Frm.refl [] wq).drew.trans hC)
     clear hC
     go_simp
     try rfl
    try simp only[nrm,Nat.reduceAdd]
   refine tcn ?_
   refine honL 13 ?_
   refine heldL_write (i:=13) rfl (by rfl) (by rfl) (fun K' hK'=>?_)
   refine wp_store_mv (g:=g) (n:=n) (i:=i) (M:=revM L i) _ _ (revM L i j) rfl rfl rfl (HR.out.frm ((Frm.refl _ _).drew)) hi ?_
   intro wa hra hfa
   have HRA:=Lib.hid hra
   have HFA:Hid (Frm [g] wq wa):=Lib.hid ((((Frm.refl [] wq).drew).mono (by simp)).trans hfa)
   clear hra hfa
   refine hK'.out _ _ ?_
   clear hK' K'
   try simp only[nrm]
   refine honL 14 ?_
   refine heldL_write (i:=14) rfl (by rfl) (by rfl) (fun K' hK'=>?_)
   go_simp
   (skip)
   refine hK'.out _ _ ?_
   clear hK' K'
   try simp only[nrm]
   refine honL 15 ?_
   refine heldL_write (i:=15) rfl (by rfl) (by rfl) (fun K' hK'=>?_)
   refine wp_store_mv (g:=g) (n:=n) (i:=j) (M:=fun k=>if k=i then revM L i j else revM L i k) _ _ (revM L i i) rfl rfl rfl HRA.out hjn ?_
   intro wb hrb hfb
   have HRB:=Lib.hid hrb
   have HFB:Hid (Frm [g] wq wb):=Lib.hid (HFA.out.trans hfb)
   clear hrb hfb
   refine hK'.out _ _ ?_
   clear hK' K'
   try simp only[nrm]
   refine heldL_done (by kernel_rfl) ?_ _
   subst hQQ
   have hn9:=HN.out
   have hr9:RvR wb g n (revM L (i + 1)):=by
    have:=HRB.out
    rwa [show (fun k=>if k=j then revM L i i else if k=i then revM L i j else revM L i k)=revM L (i + 1) from funext fun k=>revM_step (by omega) hlt k] at this
   have HR9:=Lib.hid hr9
   clear hr9
   go_wp2
   exact⟨⟨i + 1,⟨rfl,by congr 1;omega⟩,by omega,by omega,HR9.out,HF.out.trans HFB.out⟩,by simp[intOf];omega⟩
  ·have hlt':¬ (i:Int) < (j:Int):=by omega
   go_wp2
   refine bodyPost_ret (results_none rfl _ _ _) rfl ?_
   exact⟨_,rfl,rv_arr HR.out (by simpa using HN.out) (fun k m hm=>revM_end (by have:=HN.out;omega) hm),HF.out⟩
end Go.Proofs.YtemjlpahohmajaaGreat
namespace Go.Proofs.YtemjlpahohmajaaGreat
open Go.RowKit Go.BigFrame Go.Maps
set_option maxRecDepth 100000 in
theorem rvMove_nil (ao:Option Addr) (cap:Nat) (w:World):Calls Tryz.prog 97 #[.slice ao 0 cap] w (RetV fun _ w'=>w=w'):=by
 go_enter Tryz.func97,Tryz.ntmps97
 go_wp2
 go_loopw [2,3] (fun s2 s3 wr=>(s2=.int .i64 0∧s3=.int .i64 (-1))∧w=wr) (fun _ _ _=>0)
 case atStart=>exact⟨⟨rfl,rfl⟩,rfl⟩
 case round =>
  obtain⟨⟨rfl,rfl⟩,rfl⟩:=hrel
  go_wp2
  refine bodyPost_ret (results_none rfl _ _ _) rfl ?_
  exact⟨_,rfl,rfl⟩
set_option maxRecDepth 100000 in
theorem xTurned_any {L:List Mv} {base:Nat} {v:Value} {w:World} (h:w.ownsRow base 70 4 v L.length (mvC L)) (h5:L.length≤1000000) :
  Calls Tryz.prog 53 #[v] w (RetV fun u w'=>u=v∧Arr 4 MvAt w' v L.reverse∧Frm v.ownBlock.toList w w'):=by
 by_cases h0:L.length=0
 ·obtain⟨ao,cap,rfl⟩:=own_shape h
  have hL:L=[]:=List.length_eq_zero_iff.1 h0
  subst hL
  have C1:=Lib.hid (rvMove_nil ao cap w)
  have hA:Hid (Arr 4 MvAt w (.slice ao 0 cap) (List.reverse [])):=Lib.hid ⟨_,_,rfl,fun i m hm=>by simp at hm⟩
  clear h
  simp only[List.length_nil]
  go_enter Tryz.func53,Tryz.ntmps53
  go_wp2_with (first
   | (go_at_call 97;go_must (refine C1.out.mono ?_;rintro e w' ⟨v,rfl,rfl⟩)))
  go_ret
  exact⟨_,rfl,rfl,hA.out,Frm.refl _ _⟩
 ·obtain⟨g,cap,rfl,hr⟩:=mv_rv h h0
  have C1:=Lib.hid (rvMove_any g L.length cap L w rfl (by omega) h5 hr)
  clear h hr
  go_enter Tryz.func53,Tryz.ntmps53
  go_wp2_with (first
   | (go_at_call 97;go_must (refine C1.out.mono ?_;rintro e w' ⟨v,rfl,h1,h2⟩;have H1:=Lib.hid h1;have H2:=Lib.hid h2;clear h1 h2)))
  go_ret
  exact⟨_,rfl,rfl,H1.out,H2.out⟩
def parOf (nb:Nat) (w:World):Nat:=(intOf ((w.cell? ⟨nb,1,none⟩).getD undef) + 1).toNat
abbrev ndA (d:Nd × Nat):Array Value:=#[.pointer (some ⟨d.2,0,none⟩),.int .i64 d.1.par,.int .i64 d.1.mv.kind,.int .i64 d.1.mv.role,.int .i64 d.1.mv.step,.int .i64 d.1.mv.place,.int .i64 d.1.lvl]
theorem parOf_at {nb:Nat} {w:World} {d:Nd × Nat} {t:TypeId} (h:w.heap[nb]?=some (.cells (ndA d) t (0,0))):parOf nb w=(d.1.par + 1).toNat:=by
 have h2:w.cell? ⟨nb,1,none⟩=some (.int .i64 d.1.par):=cell_of h 1
 unfold parOf
 rw[h2]
 rfl
set_option maxHeartbeats 4000000 in
set_option maxRecDepth 100000 in
theorem xTrace_any {W:World} {s:SesD} {yb pb lim nn i:Nat} {whole:Bool} {N:List (Nd × Nat)} (h:SpO W s yb whole pb N) (hi:SI s lim nn (N.map Prod.fst)) (hlt:i < N.length) (h5:N.length≤200000) :
  Calls Tryz.prog 20 #[.pointer (some ⟨pb,0,none⟩),.int .i64 i] W (RetV fun v w'=>∃ u,v=.tuple #[u,.int .i64 0]∧Arr 4 MvAt w' u (traceP (N.map Prod.fst) i)∧Frm [] W w'):=by
 have HS:=Lib.hid h;have HI:=Lib.hid hi
 obtain⟨d,hd⟩:∃ d,N[i]?=some d:=⟨_,List.getElem?_eq_getElem hlt⟩
 have C1:=Lib.hid (xNode_in h hd (by omega))
 have HD:=Lib.hid hd
 clear h hi hd
 go_enter Tryz.func20,Tryz.ntmps20
 go_wp2_with (first
  | (go_at_call 52;go_must (refine C1.out.mono ?_;rintro e w1 ⟨rfl,hf⟩;have HF:=Lib.hid hf;clear hf)))
 have hnb0:=heap_alloc_new w1 (.cells (ndA d) 117)
 have hf0:Frm [] W (w1.alloc (.cells (ndA d) 117)):=HF.out.alloc _
 have hle:W.heap.size≤w1.heap.size:=HF.out.size
 obtain⟨nb,hnb⟩:∃ nb,w1.heap.size=nb:=⟨_,rfl⟩
 rw[hnb] at hnb0 hle ⊢
 have HN0:=Lib.hid hnb0;have HF0:=Lib.hid hf0;have HLE:=Lib.hid hle
 clear hnb0 hf0 hle HF C1
 go_loopw [4,5] (fun s4 s5 wr=>∃ (c:Nat) (e:Nd × Nat) (R:List Mv) (ao:Option Addr) (cp:Nat),(s4=.slice ao R.length cp∧s5=.int .i64 0)∧N[c]?=some e∧R.length + c≤i∧traceP (N.map Prod.fst) i=traceP (N.map Prod.fst) c ++ R.reverse∧wr.ownsRow W.heap.size 70 4 (.slice ao R.length cp) R.length (mvC R)∧wr.heap[nb]?=some (.cells (ndA e) 117 (0,0))∧Frm [] W wr) (fun _ _ w=>parOf nb w)
 case atStart=>exact⟨i,d,[],none,0,⟨rfl,rfl⟩,HD.out,by simp,by simp,World.ownsRow_nil _ _ _ _,HN0.out,HF0.out⟩
 case round =>
  obtain⟨c,e,R,ao,cp,⟨rfl,rfl⟩,he,hRc,htr,ho,hn,hf⟩:=hrel
  obtain⟨wq,hwq⟩:∃ wq,wq=wr:=⟨_,rfl⟩
  subst hwq
  have HTR:=Lib.hid htr;have HO:=Lib.hid ho;have HNB:=Lib.hid hn;have HFQ:=Lib.hid hf
  have hm:(N.map Prod.fst)[c]?=some e.1:=by rw[List.getElem?_map,he];rfl
  have n1:wq.cell? ⟨nb,1,none⟩=some (.int .i64 e.1.par):=cell_of hn 1
  by_cases hp:0≤e.1.par
  ·have hc0:0 < c:=by
    rcases Nat.eq_zero_or_pos c with h0 | h0
    ·subst h0
     rw[HI.out.one] at hm
     rw[← Option.some.inj hm] at hp
     exact absurd hp (show ¬ (0:Int)≤-1 by decide)
    ·exact h0
   obtain⟨p,b,hpar,hpc,hb,-⟩:=HI.out.par c e.1 hm hc0
   have hcl:=lt_of_some he
   obtain⟨e',he'⟩:∃ e',N[p]?=some e':=⟨_,List.getElem?_eq_getElem (by omega)⟩
   have hm':(N.map Prod.fst)[p]?=some e'.1:=by rw[List.getElem?_map,he'];rfl
   have hlow:e'.1.par < p:=by
    rcases Nat.eq_zero_or_pos p with h0 | h0
    ·subst h0
     rw[HI.out.one] at hm'
     rw[← Option.some.inj hm']
     exact(show (-1:Int) < 0 by decide)
    ·obtain⟨p2,b2,h1,h2,-⟩:=HI.out.par p e'.1 hm' h0
     rw[h1];omega
   have HST:=Lib.hid (trace_step HI.out hm hpar hpc)
   have n2:wq.cell? ⟨nb,2,none⟩=some (.int .i64 e.1.mv.kind):=cell_of hn 2
   have n3:wq.cell? ⟨nb,3,none⟩=some (.int .i64 e.1.mv.role):=cell_of hn 3
   have n4:wq.cell? ⟨nb,4,none⟩=some (.int .i64 e.1.mv.step):=cell_of hn 4
   have n5:wq.cell? ⟨nb,5,none⟩=some (.int .i64 e.1.mv.place):=cell_of hn 5
   rw[hpar] at n1
   have hpz:(0:Int)≤(p:Int):=by omega
   have HE':=Lib.hid he';have HPAR:=Lib.hid hpar;have HLOW:=Lib.hid hlow
   obtain⟨i0,hi0,hz0,hz1,hz2⟩:=info_parts Tryz.infoMv
   have hsz:W.heap.size≤(wq.alloc (.cells #[.int .i64 e.1.mv.kind,.int .i64 e.1.mv.role,.int .i64 e.1.mv.step,.int .i64 e.1.mv.place] 70)).heap.size:=by have:=hf.size;simp;omega
   have hne:(Value.slice ao R.length cp).ownBlock≠some nb:=fun h=>by
    obtain⟨cu,hcu⟩:=ownBlock_type ho h
    rw[hn] at hcu;cases hcu
   have HNE:=Lib.hid hne
   clear htr ho hn hf hm hm' hp hpar hb he he' hlow hne
   go_wp2_with (first
    | (at_builtin;refine wpList_append_own_at _ rfl _ _ 49 rfl W.heap.size 70 i0 (.agg #[.int .i64 0,.int .i64 0,.int .i64 0,.int .i64 0]) 4 32 Tryz.underlying49 hi0 hz0 hz1 hz2 rfl (by decide) (.slice ao R.length cp) R.length (mvC R) rfl (HO.out.alloc _) ⟨wq.heap.size,0,none⟩ 1 1 (mvC1 e.1.mv) rfl rfl (new_row _ _ _) (by simp[mvC1,Value.oneCell']) (by unfold maxLen;omega) (by omega) hsz ?_;intro v' w6 hown' hgrow _ _;obtain⟨ao',cp',rfl⟩:=own_shape hown';have hf6:Frm [] W w6:=(HFQ.out.alloc _).grown hgrow (fun k hk=>.inr (ownBlock_ge HO.out hk));have h6:=grown_at hgrow (alloc_at HNB.out) HNE.out;have HF6:=Lib.hid hf6;have HNB6:=Lib.hid h6;have HO6:=Lib.hid hown';have m1:w6.cell? ⟨nb,1,none⟩=some (.int .i64 (p:Int)):=by { rw[← HPAR.out];exact cell_of h6 1 };clear hgrow hown' h6 hf6 n1 n2 n3 n4 n5)
    | (go_at_call 52;go_must (refine(xNode_in (HS.out.frm HF6.out) HE'.out (by omega)).mono ?_;rintro en w7 ⟨rfl,hf7⟩;have HF7:=Lib.hid hf7;have HNB7:=Lib.hid (hf7.at HNB6.out (by simp));clear hf7 m1))
    | (refine wpList_store_row rfl 117 _ _ rfl _ _ _ 117 rfl rfl HNB7.out rfl Tryz.infoNode (one_nd _ _ _ _ _ _ _) ?_;intro w8 hb8 hf8;have HB8:=Lib.hid hb8;have HF8:=Lib.hid hf8;clear hb8 hf8))
   have hm1:parOf nb w8 < parOf nb wq:=by
    rw[parOf_at (d:=e') HB8.out,parOf_at HNB.out,HPAR.out]
    have:=HLOW.out
    omega
   have hlen:(R ++ [e.1.mv]).length=R.length + 1:=by simp
   have hO8:w8.ownsRow W.heap.size 70 4 (.slice ao' (R.length + 1) cp') (R.length + 1) (mvC (R ++ [e.1.mv])):=by
    have h0:(Value.slice ao' (R.length + 1) cp').ownBlock≠some nb:=fun h=>by
     obtain⟨cu,hcu⟩:=ownBlock_type HO6.out h
     rw[HNB6.out] at hcu;cases hcu
    have e9:mvC (R ++ [e.1.mv])=mvC R ++ mvC1 e.1.mv:=by rw[mvC_append];simp[mvC]
    rw[e9]
    exact HF8.out.owns (HF7.out.owns HO6.out (by simp)) (fun k hk hm=>by
     rw[List.mem_singleton] at hm
     rw[hm] at hk
     exact h0 hk)
   refine⟨⟨p,e',R ++ [e.1.mv],ao',cp',⟨by rw[hlen],rfl⟩,HE'.out,by rw[hlen];omega,?_,by rw[hlen];exact hO8,HB8.out,(HF6.out.trans HF7.out).then HF8.out (fun k hk=>?_)⟩,hm1⟩
   ·rw[HTR.out,HST.out,List.reverse_append,List.append_assoc];rfl
   ·rw[List.mem_singleton] at hk
    subst hk
    exact .inr HLE.out
  ·have hp':¬ (0:Int)≤e.1.par:=hp
   have hc0:c=0:=by
    rcases Nat.eq_zero_or_pos c with h0 | h0
    ·exact h0
    ·obtain⟨p,b,hpar,-⟩:=HI.out.par c e.1 hm h0
     omega
   subst hc0
   have hz:=trace_zero HI.out
   have CT:=Lib.hid (xTurned_any ho (by omega))
   have HZ:=Lib.hid hz
   clear htr ho hn hf hm hz
   go_wp2_with (first
    | (go_at_call 53;go_must (refine CT.out.mono ?_;rintro en w7 ⟨v,rfl,rfl,h1,h2⟩;have H1:=Lib.hid h1;have H2:=Lib.hid h2;clear h1 h2)))
   go_ret2
   refine⟨_,rfl,_,rfl,?_,HFQ.out.then H2.out (fun k hk=>?_)⟩
   ·rw[HTR.out,HZ.out,List.nil_append];exact H1.out
   ·rw[Option.mem_toList] at hk;exact .inr (ownBlock_ge HO.out hk)
end Go.Proofs.YtemjlpahohmajaaGreat
