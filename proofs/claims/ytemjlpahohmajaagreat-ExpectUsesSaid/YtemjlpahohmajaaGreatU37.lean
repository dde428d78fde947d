/- Part of the proof. -/
import Derived.Test.YtemjlpahohmajaaGreatU34
import Derived.Shelf.SortM.Plain
import Derived.Shelf.SortM.SortNone
import Derived.Test.YtemjlpahohmajaaGreatU29
import Derived.Laws.StructEq
import Derived.Test.YtemjlpahohmajaaGreatU23
import Derived.Test.YtemjlpahohmajaaGreatU36
import Derived.Test.YtemjlpahohmajaaGreatU20
import Derived.Test.YtemjlpahohmajaaGreatU16
import Derived.Lib.Builder
import Derived.Sort.CutIn
import Derived.OrdersIn
import Derived.Lib.AppendStr
set_option linter.all false
namespace Go.Proofs.YtemjlpahohmajaaGreat
open Go.RowKit Go.BigFrame Go.Sort
theorem sort_any (v:Value) (L:List ByteArray) (w:World) (h:Strs w v L) (hL:L.length≤1000000) :
  Calls Tryz.prog 103 #[v] w (Ret (.tuple #[]) (fun w'=>Strs w' v (keyL 2 L)∧Frm v.ownBlock.toList w w')):=by
 obtain⟨ao,cap,rfl,hn,hc⟩:=h.shape
 have hlen:(keyL 2 L).length=L.length:=by simp[keyL]
 cases L with
 | nil =>
   refine(AnyM.slices_Sort_string_none Tryz.sortS ao cap w).mono ?_
   rintro e w' ⟨rfl,rfl⟩
   exact⟨rfl,by simpa[keyL] using h,Frm.refl _ _⟩
 | cons x xs =>
   obtain⟨g,rfl,-⟩:=hc 0 x rfl
   obtain⟨hH,q1,q2,cur,hh,q3⟩:=h.holds
   have hd:=AnyM.slices_Sort_string Tryz.sortS g 0 cap ((x :: xs).map byt) w hH (lt_of_block hh) (by rw[List.length_map];omega)
   rw[List.length_map] at hd
   refine(show Calls Tryz.prog 103 _ w _ from hd).mono ?_
   rintro e w' ⟨rfl,q,os,rfl⟩
   refine⟨rfl,?_,?_⟩
   ·have ho:=ownsRow_sorted (w:=w) (base:=0) (g:=g) (cap:=cap) (n:=q) (e:=9) (os:=os) (cur:=cur) (ss:=(x :: xs).map byt) (ts:=((x :: xs).map byt).mergeSort fun x y=>decide (x≤y)) (by simp) (Nat.zero_le _) hh (by simpa using q1) q2 q3
    rw[List.length_map] at ho
    have e1:(keyL 2 (x :: xs)).map Value.string=(((x :: xs).map byt).mergeSort fun x y=>decide (x≤y)).map encStr:=by rw[keyL,if_pos rfl,List.map_map];rfl
    unfold Strs
    rw[hlen,e1]
    exact ho
   ·exact(Frm.refl _ _).grown (grownBy_sorted _) (fun k hk=>by cases hk;exact .inl (by simp[Value.ownBlock]))
theorem wrap_small {x:Int} (h0:0≤x) (h1:x≤255):IntKind.u8.wrap x=x:=by simp[IntKind.wrap,show IntKind.u8.bits=8 from rfl,show IntKind.u8.signed=false from rfl];omega
theorem len_byte (w:World) (x:ByteArray) (h:x.size≤32):(convert 61 9 (.slice (some ⟨w.heap.size,0,none⟩) 1 1)).run Tryz.prog (w.alloc (.cells #[.int .u8 (x.size:Int)] 5))=.ok (.string ⟨#[UInt8.ofNat x.size]⟩) (w.alloc (.cells #[.int .u8 (x.size:Int)] 5)):=
 run_convert_bytes_back _ 61 9 5 ⟨w.heap.size,0,none⟩ 1 [UInt8.ofNat x.size] Tryz.underlying61 Tryz.underlying5 Tryz.underlying9 (fun j hj=>by
  have h0:j=0:=by simpa using hj
  subst h0
  have e:((UInt8.ofNat x.size).toNat:Int)=(x.size:Int):=by simp;omega
  show (w.alloc _).cell? ⟨w.heap.size,0 + 0,none⟩=some (.int .u8 ((UInt8.ofNat x.size).toNat:Int))
  rw[e]
  exact cell_of (heap_alloc_new w _) 0)
set_option maxHeartbeats 1000000 in
set_option maxRecDepth 100000 in
theorem key_any (cb:Nat) (cls cap:Int) (L:List ByteArray) (F:List Nat) (w:World) (h:Chn w cb cls cap L F) :
  Calls Tryz.prog 57 #[.pointer (some ⟨cb,0,none⟩)] w (Ret (.string (keyB (keyL cls L))) (Frm [] w)):=by
 have HG:=Lib.hid h.good
 have hg:=h.good.lenN
 have HC:=Lib.hid h
 have CA:=Lib.hid (all_any h)
 clear h
 have HSL:Hid ((keyL cls L).length=L.length):=Lib.hid (keyL_length cls L)
 have HSZ:Hid (∀ x∈keyL cls L,1≤x.size∧x.size≤32):=Lib.hid (fun x hx=>HG.out.sz x (keyL_mem hx))
 by_cases hz:cls=2
 ·subst hz
  obtain⟨S,hS⟩:∃ S,keyL 2 L=S:=⟨_,rfl⟩
  rw[hS] at HSL HSZ ⊢
  go_enter Tryz.func57,Tryz.ntmps57
  go_wp2_with (first
   | (go_at_call 101;go_must (refine CA.out.mono ?_;rintro e w1 ⟨v,rfl,hr⟩;obtain⟨ao,cp,rfl,-,-⟩:=hr.1.shape;have HR:=Lib.hid hr;clear hr))
   | (go_at_call 102;go_must (refine(none_any cb 2 cap L F w1 (HC.out.frm HR.out.2.1 (by simp))).mono ?_;rintro e w' ⟨rfl,rfl⟩;obtain⟨sv,e1,-,-,-⟩:=HC.out;have c0:=HR.out.2.1.keep (cell_of e1 0);clear e1))
   | (go_at_call 103;go_must (refine(sort_any _ L w1 HR.out.1 (by omega)).mono ?_;rintro e w2 ⟨rfl,hs⟩;have HS:=Lib.hid hs;clear hs)))
  rw[hS] at HS
  clear hS
  have HST:Hid (Strs w2 (.slice ao L.length cp) S):=Lib.hid HS.out.1
  have HWW:Hid (Frm [] w w2):=Lib.hid ((HR.out.2.1).then HS.out.2 (fun x hx=>.inr (HR.out.2.2 x (by simpa using hx))))
  go_loopw [2,22] (fun s2 s22 wr=>∃ i:Nat,s2=.string (keyB (S.take i))∧s22=.int .i64 i∧i≤L.length∧Frm [] w2 wr) (fun _ s22 _=>L.length - (intOf s22).toNat)
  case atStart=>exact⟨0,rfl,rfl,Nat.zero_le _,Frm.refl _ _⟩
  case round =>
   obtain⟨i,rfl,rfl,hi,hf⟩:=hrel
   have HF:=Lib.hid hf
   by_cases hlt:i < L.length
   ·obtain⟨x,hx⟩:∃ x,S[i]?=some x:=⟨_,List.getElem?_eq_getElem (by rw[HSL.out];exact hlt)⟩
    have hsz:=HSZ.out x (List.mem_of_getElem? hx)
    obtain⟨ao',cp',hv,-,hcs⟩:=HST.out.shape
    rw[HSL.out] at hv;cases hv
    obtain⟨g,rfl,cx0⟩:=hcs i x hx
    have cx:=hf.keep cx0
    have hlt':(i:Int) < (L.length:Int):=by omega
    have hwr:IntKind.u8.wrap (x.size:Int)=(x.size:Int):=wrap_small (by omega) (by omega)
    have HX:=Lib.hid hx
    have hconv:(convert 61 9 (.slice (some ⟨wr.heap.size,0,none⟩) 1 1)).run Tryz.prog (wr.alloc (.cells #[.int .u8 (x.size:Int)] 5))=.ok (.string ⟨#[UInt8.ofNat x.size]⟩) (wr.alloc (.cells #[.int .u8 (x.size:Int)] 5)):=len_byte wr x hsz.2
    have hks:(keyB (S.take i)).size≤3000:=by
     have h1:=keyB_size (S.take i) (fun y hy=>(HSZ.out y (List.mem_of_mem_take hy)).2)
     rw[List.length_take] at h1
     omega
    clear hcs cx0 hf hx
    go_wp2_with fail
    exact⟨⟨i + 1,by rw[keyB_snoc HX.out],by simp,hlt,HF.out.alloc _⟩,by simp[intOf];omega⟩
   ·have hge:¬ (i:Int) < (L.length:Int):=by omega
    clear hf
    go_wp2
    go_ret
    refine⟨?_,HWW.out.trans HF.out⟩
    rw[List.take_of_length_le (by rw[HSL.out];omega)]
    rfl
 ·have hne:(cls == 2)=false:=by simpa using hz
  obtain⟨S,hS⟩:∃ S,keyL cls L=S:=⟨_,rfl⟩
  have HSE:Hid (S=L):=Lib.hid (hS.symm.trans (if_neg hz))
  rw[hS] at HSL HSZ ⊢
  clear hS
  go_enter Tryz.func57,Tryz.ntmps57
  go_wp2_with (first
   | (go_at_call 101;go_must (refine CA.out.mono ?_;rintro e w1 ⟨v,rfl,hr⟩;obtain⟨ao,cp,rfl,-,-⟩:=hr.1.shape;have HR:=Lib.hid hr;clear hr))
   | (go_at_call 102;go_must (refine(none_any cb cls cap L F w1 (HC.out.frm HR.out.2.1 (by simp))).mono ?_;rintro e w' ⟨rfl,rfl⟩;obtain⟨sv,e1,-,-,-⟩:=HC.out;have c0:=HR.out.2.1.keep (cell_of e1 0);clear e1)))
  have HST:Hid (Strs w1 (.slice ao L.length cp) S):=Lib.hid (by rw[HSE.out];exact HR.out.1)
  have HWW:Hid (Frm [] w w1):=Lib.hid HR.out.2.1
  go_loopw [2,22] (fun s2 s22 wr=>∃ i:Nat,s2=.string (keyB (S.take i))∧s22=.int .i64 i∧i≤L.length∧Frm [] w1 wr) (fun _ s22 _=>L.length - (intOf s22).toNat)
  case atStart=>exact⟨0,rfl,rfl,Nat.zero_le _,Frm.refl _ _⟩
  case round =>
   obtain⟨i,rfl,rfl,hi,hf⟩:=hrel
   have HF:=Lib.hid hf
   by_cases hlt:i < L.length
   ·obtain⟨x,hx⟩:∃ x,S[i]?=some x:=⟨_,List.getElem?_eq_getElem (by rw[HSL.out];exact hlt)⟩
    have hsz:=HSZ.out x (List.mem_of_getElem? hx)
    obtain⟨ao',cp',hv,-,hcs⟩:=HST.out.shape
    rw[HSL.out] at hv;cases hv
    obtain⟨g,rfl,cx0⟩:=hcs i x hx
    have cx:=hf.keep cx0
    have hlt':(i:Int) < (L.length:Int):=by omega
    have hwr:IntKind.u8.wrap (x.size:Int)=(x.size:Int):=wrap_small (by omega) (by omega)
    have HX:=Lib.hid hx
    have hconv:(convert 61 9 (.slice (some ⟨wr.heap.size,0,none⟩) 1 1)).run Tryz.prog (wr.alloc (.cells #[.int .u8 (x.size:Int)] 5))=.ok (.string ⟨#[UInt8.ofNat x.size]⟩) (wr.alloc (.cells #[.int .u8 (x.size:Int)] 5)):=len_byte wr x hsz.2
    have hks:(keyB (S.take i)).size≤3000:=by
     have h1:=keyB_size (S.take i) (fun y hy=>(HSZ.out y (List.mem_of_mem_take hy)).2)
     rw[List.length_take] at h1
     omega
    clear hcs cx0 hf hx
    go_wp2_with fail
    exact⟨⟨i + 1,by rw[keyB_snoc HX.out],by simp,hlt,HF.out.alloc _⟩,by simp[intOf];omega⟩
   ·have hge:¬ (i:Int) < (L.length:Int):=by omega
    clear hf
    go_wp2
    go_ret
    refine⟨?_,HWW.out.trans HF.out⟩
    rw[List.take_of_length_le (by rw[HSL.out];omega)]
    rfl
end Go.Proofs.YtemjlpahohmajaaGreat
namespace Go.Proofs.YtemjlpahohmajaaGreat
open Go.RowKit Go.BigFrame
abbrev encM (m:Mv):Array Value:=#[.int .i64 m.kind,.int .i64 m.role,.int .i64 m.step,.int .i64 m.place]
theorem Tryz.undMv:Tryz.prog.underlying 70=some (.struct (Tryz.prog.fieldsOf 70)):=by kernel_rfl
set_option maxHeartbeats 1000000 in
set_option maxRecDepth 100000 in
theorem eql_move (a b:Mv) (w:World):(binOp .eql 70 (.agg (encM a)) (.agg (encM b))).run Tryz.prog w=.ok (.bool (decide (a=b))) w:=by
 have h:(Op.equalIn (9999 + 1) 70 (.agg (encM a)) (.agg (encM b))).run Tryz.prog w=.ok (decide (a=b)) w:=by
  rw[run_equalIn_struct w 9999 70 _ _ Tryz.undMv (by kernel_rfl)]
  simp[go_sem,encM,Tryz.underlying70]
  obtain⟨a1,a2,a3,a4⟩:=a
  obtain⟨b1,b2,b3,b4⟩:=b
  simp only[Mv.mk.injEq]
  repeat' split
  all_goals simp[*]
 simp only[binOp]
 simp[show Op.equal 70 (.agg (encM a)) (.agg (encM b))=Op.equalIn (9999 + 1) 70 (.agg (encM a)) (.agg (encM b)) from rfl,h]
set_option maxHeartbeats 1000000 in
theorem inMove_any (v:Value) (xs:List Mv) (y:Mv) (w:World) (h:Arr 4 MvAt w v xs) (hl:xs.length≤5000) :
  Calls Tryz.prog 104 #[v,.agg (encM y)] w (Ret (.int .i64 (ixf (fun x=>decide (y=x)) xs)) (Frm [] w)):=by
 obtain⟨ao,cap,rfl,hx⟩:=h
 have HX:=Lib.hid hx
 obtain⟨n,hn⟩:∃ n,xs.length=n:=⟨_,rfl⟩
 rw[hn] at hl ⊢
 have HN:=Lib.hid hn
 obtain⟨W0,hW0⟩:∃ W0,w.alloc (.cells (encM y) 70)=W0:=⟨_,rfl⟩
 have HW0:Hid (Frm [] w W0):=Lib.hid (by rw[← hW0];exact(Frm.refl _ _).alloc _)
 have HB:Hid (W0.heap[w.heap.size]?=some (.cells (encM y) 70 (0,0))):=Lib.hid (by rw[← hW0];exact heap_alloc_new w _)
 have HE:=Lib.hid hW0
 clear hx hn hW0
 go_enter Tryz.func104,Tryz.ntmps104
 go_wp2_with (refine wpList_box_row rfl 70 _ rfl (encM y) rfl ?_;rw[HE.out])
 clear HE
 go_loopw [8,5] (fun s8 s5 wr=>∃ i:Nat,s8=.int .i64 i∧i≤n∧Frm [] W0 wr∧∀ j x,j < i→xs[j]?=some x→decide (y=x)=false) (fun s8 _ _=>n - (intOf s8).toNat)
 case atStart=>exact⟨0,rfl,Nat.zero_le _,Frm.refl _ _,fun j x hj=>by omega⟩
 case round =>
  obtain⟨i,rfl,hi,hf,hno⟩:=hrel
  have HF:=Lib.hid hf;have HNO:=Lib.hid hno
  clear hf hno
  by_cases hlt:i < n
  ·have hlt':(i:Int) < (n:Int):=by omega
   obtain⟨x,hx⟩:∃ x,xs[i]?=some x:=⟨_,List.getElem?_eq_getElem (by rw[HN.out];exact hlt)⟩
   obtain⟨b,o,rfl,hat⟩:=HX.out i x hx
   obtain⟨c0,c1,c2,c3⟩:=hat.frm (HW0.out.trans HF.out)
   have hbb:=HF.out.at HB.out (by simp)
   have d0:wr.cell? ⟨w.heap.size,0,none⟩=some (.int .i64 y.kind):=cell_of hbb 0
   have d1:wr.cell? ⟨w.heap.size,1,none⟩=some (.int .i64 y.role):=cell_of hbb 1
   have d2:wr.cell? ⟨w.heap.size,2,none⟩=some (.int .i64 y.step):=cell_of hbb 2
   have d3:wr.cell? ⟨w.heap.size,3,none⟩=some (.int .i64 y.place):=cell_of hbb 3
   have hq:∀ V,(binOp .eql 70 (mvV y) (mvV x)).run Tryz.prog V=.ok (.bool (decide (y=x))) V:=fun V=>eql_move y x V
   have HXI:=Lib.hid hx
   clear hat hx hbb
   cases hpx:decide (y=x) with
   | true =>
     rw[hpx] at hq
     have HPX:=Lib.hid hpx
     clear hpx
     go_wp2
     go_quiet (fail)
     go_wp2
     go_ret
     exact⟨by rw[ixf_some HXI.out HPX.out HNO.out];rfl,HW0.out.trans (HF.out.drewN _)⟩
   | false =>
     rw[hpx] at hq
     have HPX:=Lib.hid hpx
     clear hpx
     go_wp2
     go_quiet (fail)
     go_wp2
     refine⟨⟨i + 1,by simp,hlt,HF.out.drewN _,fun j z hj hz=>?_⟩,by simp[intOf];omega⟩
     by_cases e:j=i
     ·subst e;rw[HXI.out] at hz;cases hz;exact HPX.out
     ·exact HNO.out j z (by omega) hz
  ·have hge:¬ (i:Int) < (n:Int):=by omega
   go_wp2
   go_ret
   refine⟨?_,HW0.out.trans HF.out⟩
   have e:=ixf_none (p:=fun x=>decide (y=x)) (l:=xs) fun x hx=>by
    obtain⟨j,hj⟩:=List.getElem?_of_mem hx
    exact HNO.out j x (by have:=lt_of_some hj;rw[HN.out] at this;omega) hj
   rw[e];rfl
theorem mem_ixm {xs:List Mv} {y:Mv}:decide (0≤ixf (fun x=>decide (y=x)) xs)=decide (y∈xs):=by
 by_cases h:y∈xs
 ·rw[decide_eq_true (ixf_ex (p:=fun x=>decide (y=x)) h (by simp)),decide_eq_true h]
 ·rw[decide_eq_false h,decide_eq_false]
  intro h2
  obtain⟨i,hi,-⟩:=ixf_nat h2
  obtain⟨x,h3,h4,-⟩:=ixf_at hi
  rw[decide_eq_true_eq] at h4
  subst h4
  exact h (List.mem_of_getElem? h3)
set_option maxHeartbeats 1000000 in
theorem coMove_any (v:Value) (xs:List Mv) (y:Mv) (w:World) (h:Arr 4 MvAt w v xs) (hl:xs.length≤5000) :
  Calls Tryz.prog 62 #[v,.agg (encM y)] w (Ret (.bool (decide (y∈xs))) (Frm [] w)):=by
 obtain⟨ao,cap,e,-⟩:=id h
 subst e
 have hf0:Frm [] w (w.alloc (.cells (encM y) 70)):=(Frm.refl _ _).alloc _
 have C1:=Lib.hid (inMove_any (.slice ao xs.length cap) xs y (w.alloc (.cells (encM y) 70)) (h.frm fun _ _ _ h=>h.frm hf0) hl)
 have HF0:=Lib.hid hf0
 rw[← mem_ixm]
 obtain⟨q,hq⟩:∃ q,ixf (fun x=>decide (y=x)) xs=q:=⟨_,rfl⟩
 rw[hq] at C1 ⊢
 have hb:(w.alloc (.cells (encM y) 70)).heap[w.heap.size]?=some (.cells (encM y) 70 (0,0)):=heap_alloc_new w _
 obtain⟨W0,hW0⟩:∃ W0,w.alloc (.cells (encM y) 70)=W0:=⟨_,rfl⟩
 rw[hW0] at C1 HF0 hb
 have HB:=Lib.hid hb
 have HW:=Lib.hid hW0
 clear h hf0 hq hW0 hb
 go_enter Tryz.func62,Tryz.ntmps62
 go_wp2_with (first
  | (refine wpList_box_row rfl 70 _ rfl (encM y) rfl ?_;rw[HW.out])
  | (refine wpList_load_whole rfl 70 _ rfl _ rfl _ 70 HB.out _ Tryz.underlying70 rfl (by kernel_rfl) ?_)
  | (go_at_call 104;go_must (refine C1.out.mono ?_;rintro e w1 ⟨rfl,hf1⟩;have HF1:=Lib.hid hf1;clear hf1)))
 go_ret
 exact⟨rfl,HF0.out.trans HF1.out⟩
end Go.Proofs.YtemjlpahohmajaaGreat
namespace Go.Proofs.YtemjlpahohmajaaGreat
open Go.RowKit Go.BigFrame
def StTo (w:World) (s:SesD) (yb:Nat) (y:PS) (v:Value) (w':World):Prop:=∃ xb,v=.tuple #[.pointer (some ⟨xb,0,none⟩),.int .i64 0]∧StR w' s yb xb y∧Frm [] w w'
section
variable {w W W':World} {s:SesD} {x:PS} {yb xb ab gb rb cb f t:Nat} {F F':List Nat} {L L':List ByteArray}
theorem ChS.step (h:ChS w s x yb xb ab gb rb cb f t F L W) (hx:PSok s x) (hf:f < s.roles.length) (ht:t < s.roles.length) {i b g p:Nat} {vs:List Int} (hi:i < s.roles.length) (ob:BnkO W b g ((s.rol i).ctrs.zip vs)) (hb:b≠ab) (hg:g≠ab) {y:PS}
  (hy:y={ pos:=x.pos.set i p,vals:=x.vals.set i vs,ways:=setWay x.ways f t L }) (ho:PSok s y) :
  StR ((W.setCell ⟨ab,i * 2,none⟩ (.int .i64 (p:Int))).setCell ⟨ab,i * 2 + 1,none⟩ (.pointer (some ⟨b,0,none⟩))) s yb xb y∧Frm [] w ((W.setCell ⟨ab,i * 2,none⟩ (.int .i64 (p:Int))).setCell ⟨ab,i * 2 + 1,none⟩ (.pointer (some ⟨b,0,none⟩))):=by
 obtain⟨cg,ca,h1,-⟩:=h.ways hx hf ht
 obtain⟨cur,ha⟩:=h.ha
 have hS:Frm [ab] W ((W.setCell ⟨ab,i * 2,none⟩ (.int .i64 (p:Int))).setCell ⟨ab,i * 2 + 1,none⟩ (.pointer (some ⟨b,0,none⟩))):=((Frm.refl [ab] W).setCell _ (.inl (by simp)) _).setCell _ (.inl (by simp)) _
 have hb2:=block_setCell (block_setCell ha (i * 2) (.int .i64 (p:Int))) (i * 2 + 1) (.pointer (some ⟨b,0,none⟩))
 obtain⟨W2,hW2⟩:∃ W2,(W.setCell ⟨ab,i * 2,none⟩ (.int .i64 (p:Int))).setCell ⟨ab,i * 2 + 1,none⟩ (.pointer (some ⟨b,0,none⟩))=W2:=⟨_,rfl⟩
 rw[hW2] at hS hb2 ⊢
 have nx:xb∉[ab]:=fun e=>by simp at e;subst e;rw[h1] at ha;cases ha
 obtain⟨⟨c1,f1,t1⟩,c2,f2,t2⟩:=h.types
 have ng:gb∉[ab]:=fun e=>by simp at e;subst e;rw[t1] at ha;cases ha
 have nr:rb∉[ab]:=fun e=>by simp at e;subst e;rw[t2] at ha;cases ha
 have nF:∀ k∈F,k∉[ab]:=fun k hk e=>by
  obtain⟨c,e',a1,a2⟩:=h.chn.types hk
  simp at e;subst e
  rw[ha] at a1;cases a1
  revert a2;decide
 have hfw:Frm [] w W2:=h.fr.then hS (by intro k hk;simp at hk;subst hk;exact .inr h.new.2.1)
 obtain⟨cr,hr⟩:=h.rowf
 have h':ChS w s x yb xb ab gb rb cb f t F L W→True:=fun _=>trivial
 have hsz:i * 2 + 1 < cur.size:=by
  obtain⟨bb,a1,a2,-⟩:=h.act i hi
  rw[cell_of ha] at a2
  exact(Array.getElem?_eq_some_iff.1 a2).1
 subst hy
 refine⟨⟨⟨_,_,hS.at h1 nx,⟨some ⟨ab,0,none⟩,ca,by rw[actsP_len],fun j a hj=>⟨ab,0,rfl,?_⟩⟩,some ⟨gb,0,none⟩,cg,by rw[setWay_length,hx.wl],fun j R hR=>⟨gb,0,rfl,?_⟩⟩,ho⟩,hfw⟩
 ·have hjl:j < s.roles.length:=by have:=lt_of_some hj;rwa [actsP_len] at this
  rw[actsP_at hjl] at hj
  cases hj
  rw[Nat.zero_add]
  by_cases e:j=i
  ·subst e
   refine⟨b,?_,?_,?_⟩
   ·rw[cell_of hb2,Array.getElem?_setIfInBounds_ne (by omega),Array.getElem?_setIfInBounds_self_of_lt (by omega)]
    simp only[PS.at]
    rw[List.getD_eq_getElem?_getD,List.getElem?_set_self (by rw[hx.pl];exact hi)]
    rfl
   ·rw[cell_of hb2,Array.getElem?_setIfInBounds_self_of_lt (by simp;omega)]
   ·have:=ob.frm hS (by simpa using hb) (by simpa using hg)
    simp only[PS.ctr,PS.bank]
    rw[List.getD_eq_getElem?_getD,List.getElem?_set_self (by rw[hx.vl];exact hi)]
    exact this.bnk
  ·obtain⟨bb,a1,a2,a3⟩:=h.act j hjl
   rw[cell_of ha] at a1 a2
   refine⟨bb,?_,?_,?_⟩
   ·rw[cell_of hb2,Array.getElem?_setIfInBounds_ne (by omega),Array.getElem?_setIfInBounds_ne (by omega),a1]
    simp only[PS.at]
    rw[List.getD_eq_getElem?_getD,List.getD_eq_getElem?_getD,List.getElem?_set_ne (fun h=>e h.symm)]
   ·rw[cell_of hb2,Array.getElem?_setIfInBounds_ne (by omega),Array.getElem?_setIfInBounds_ne (by omega),a2]
   ·have a3':=a3.frm hfw
    unfold PS.ctr PS.bank at a3' ⊢
    rw[List.getD_eq_getElem?_getD] at a3'
    simp only
    rw[List.getD_eq_getElem?_getD,List.getElem?_set_ne (fun h=>e h.symm)]
    exact a3'
 ·have hjl:=lt_of_some hR
  rw[setWay_length,hx.wl] at hjl
  rw[Nat.zero_add,Nat.mul_one]
  unfold setWay at hR
  rw[List.getElem?_set] at hR
  by_cases e:f=j
  ·subst e
   rw[if_pos rfl,if_pos (by rw[hx.wl];exact hjl)] at hR
   cases hR
   refine⟨_,hS.cellAt hr ng,some ⟨rb,0,none⟩,cr,by rw[List.length_set,hx.wr f hf],fun k M hM=>⟨rb,0,rfl,?_⟩⟩
   have hk:=lt_of_some hM
   rw[List.length_set,hx.wr f hf] at hk
   rw[Nat.zero_add,Nat.mul_one]
   rw[List.getElem?_set] at hM
   by_cases e2:t=k
   ·subst e2
    rw[if_pos rfl,if_pos (by rw[hx.wr f hf];exact hk)] at hM
    cases hM
    exact⟨cb,F,hS.cellAt h.cht nr,h.chn.frm hS nF⟩
   ·rw[if_neg e2] at hM
    obtain⟨c,G,a1,a2⟩:=h.chs k hk (fun e=>e2 e.symm)
    have:x.way f k=M:=by unfold PS.way wayOf;exact getD_some hM
    rw[this] at a2
    exact⟨c,G,hS.cellAt a1 nr,a2.frm hfw (by simp)⟩
  ·rw[if_neg e] at hR
   obtain⟨rv,a1,a2⟩:=h.row j hjl (fun e'=>e e'.symm)
   rw[getD_some hR] at a2
   exact⟨rv,hS.cellAt a1 ng,a2.frm hfw⟩
end
theorem setWay_self {ws:List (List (List ByteArray))} {i k:Nat} (hi:i < ws.length) (hk:k < (ws.getD i []).length):setWay ws i k (wayOf ws i k)=ws:=by
 unfold setWay wayOf
 have e1:(ws.getD i []).set k ((ws.getD i []).getD k [])=ws.getD i []:=by
  apply List.ext_getElem?
  intro j
  rw[List.getElem?_set]
  by_cases e:k=j
  ·subst e;rw[if_pos rfl,if_pos hk];exact(some_getD hk).symm
  ·rw[if_neg e]
 rw[e1]
 apply List.ext_getElem?
 intro j
 rw[List.getElem?_set]
 by_cases e:i=j
 ·subst e;rw[if_pos rfl,if_pos hi];exact(some_getD hi).symm
 ·rw[if_neg e]
end Go.Proofs.YtemjlpahohmajaaGreat
namespace Go.Proofs.YtemjlpahohmajaaGreat
open Go.RowKit Go.BigFrame Go.Maps
def ndC1 (d:Nd × Nat):List Value:=[.pointer (some ⟨d.2,0,none⟩),.int .i64 d.1.par,.int .i64 d.1.mv.kind,.int .i64 d.1.mv.role,.int .i64 d.1.mv.step,.int .i64 d.1.mv.place,.int .i64 d.1.lvl]
abbrev ndV (d:Nd × Nat):Value:=.agg #[.pointer (some ⟨d.2,0,none⟩),.int .i64 d.1.par,.int .i64 d.1.mv.kind,.int .i64 d.1.mv.role,.int .i64 d.1.mv.step,.int .i64 d.1.mv.place,.int .i64 d.1.lvl]
def ndC (N:List (Nd × Nat)):List Value:=N.flatMap ndC1
theorem ndC_length (N:List (Nd × Nat)):(ndC N).length=N.length * 7:=by
 induction N with
 | nil=>rfl
 | cons d N ih=>unfold ndC at ih ⊢;rw[List.flatMap_cons,List.length_append,ih];simp[ndC1];omega
theorem ndC_append (A B:List (Nd × Nat)):ndC (A ++ B)=ndC A ++ ndC B:=by unfold ndC;rw[List.flatMap_append]
theorem ndC_one (d:Nd × Nat):ndC [d]=ndC1 d:=by unfold ndC;simp
theorem ndC_at {N:List (Nd × Nat)}:∀ {i:Nat} {d:Nd × Nat},N[i]?=some d→∀ j,j < 7→(ndC N)[i * 7 + j]?=(ndC1 d)[j]?:=by
 induction N with
 | nil=>intro i d h;simp at h
 | cons a N ih =>
   intro i d h j hj
   have e:ndC (a :: N)=ndC1 a ++ ndC N:=rfl
   have h7:(ndC1 a).length=7:=rfl
   rw[e]
   cases i with
   | zero=>simp at h;subst h;rw[List.getElem?_append_left (by omega)];congr 1;omega
   | succ i=>rw[List.getElem?_append_right (by omega),h7,show (i + 1) * 7 + j - 7=i * 7 + j by omega];exact ih (by simpa using h) j hj
structure NdAt (W:World) (b o:Nat) (d:Nd × Nat):Prop where
 c0:W.cell? ⟨b,o,none⟩=some (.pointer (some ⟨d.2,0,none⟩))
 c1:W.cell? ⟨b,o + 1,none⟩=some (.int .i64 d.1.par)
 c2:W.cell? ⟨b,o + 2,none⟩=some (.int .i64 d.1.mv.kind)
 c3:W.cell? ⟨b,o + 3,none⟩=some (.int .i64 d.1.mv.role)
 c4:W.cell? ⟨b,o + 4,none⟩=some (.int .i64 d.1.mv.step)
 c5:W.cell? ⟨b,o + 5,none⟩=some (.int .i64 d.1.mv.place)
 c6:W.cell? ⟨b,o + 6,none⟩=some (.int .i64 d.1.lvl)
theorem NdAt.frm {W V:World} {b o:Nat} {d:Nd × Nat} (h:NdAt W b o d) (hf:Frm [] W V):NdAt V b o d:=⟨hf.keep h.c0,hf.keep h.c1,hf.keep h.c2,hf.keep h.c3,hf.keep h.c4,hf.keep h.c5,hf.keep h.c6⟩
theorem nd_arr {W:World} {base:Nat} {v:Value} {N:List (Nd × Nat)} (h:W.ownsRow base 117 7 v N.length (ndC N)):Arr 7 NdAt W v N:=by
 obtain⟨ao,cap,rfl⟩:=own_shape h
 refine⟨ao,cap,rfl,fun i d hd=>?_⟩
 have hl:=lt_of_some hd
 obtain⟨g,c,cur,e,-,-⟩:=own_block h (by omega)
 cases e
 have hc:=fun j hj=>World.ownsRow.cellAt h j hj
 have a:=ndC_at hd
 have hlen:=ndC_length N
 refine⟨g,0,rfl,?_⟩
 rw[Nat.zero_add]
 have k:∀ j u,j < 7→(ndC1 d)[j]?=some u→W.cell? ⟨g,i * 7 + j,none⟩=some u:=fun j u hj hu=>(hc _ (by omega)).trans ((a j hj).trans hu)
 exact⟨k 0 _ (by omega) rfl,k 1 _ (by omega) rfl,k 2 _ (by omega) rfl,k 3 _ (by omega) rfl,k 4 _ (by omega) rfl,k 5 _ (by omega) rfl,k 6 _ (by omega) rfl⟩
def findP (s:SesD) (N:List Nd) (k:List UInt8):Option Nat:=N.findIdx? fun d=>decide (keyP s d.st=k)
def keyF (s:SesD) (N:List Nd):Lit→Option Value
 | .string k=>(findP s N k).map fun i=>.int .i64 (i:Nat)
 | _=>none
theorem findP_none {s:SesD} {N:List Nd} {k:List UInt8}:(findP s N k).isSome=hasK s N k:=by
 unfold findP hasK
 rw[List.findIdx?_isSome]
theorem keyF_nil (s:SesD):keyF s []=fun _=>none:=by
 funext k
 cases k <;> rfl
theorem keyF_snoc {s:SesD} {N:List Nd} {d:Nd} (h:hasK s N (keyP s d.st)=false):keyF s (N ++ [d])=updL (keyF s N) (.string (keyP s d.st)) (some (.int .i64 (N.length:Nat))):=by
 funext k
 by_cases e:k=.string (keyP s d.st)
 ·subst e
  rw[updL_same]
  have h0:findP s N (keyP s d.st)=none:=by rw[← Option.not_isSome_iff_eq_none,findP_none,h];simp
  unfold findP at h0
  simp only[keyF,findP,List.findIdx?_append,h0]
  simp[List.findIdx?_cons]
 ·rw[updL_other _ _ e]
  cases k with
  | string b =>
    have hne:¬ keyP s d.st=b:=fun e'=>e (by rw[e'])
    simp only[keyF,findP,List.findIdx?_append]
    simp[List.findIdx?_cons,hne]
  | _=>rfl
def NdG (W:World) (u:Value):Prop:=(∀ x,u≠.string x)∧(∀ a n c,u≠.slice a n c)∧∀ p,u=.pointer (some ⟨p,0,none⟩)→Ty W p 140
theorem NdG.frm {W V:World} {F:List Nat} {u:Value} (h:NdG W u) (hf:Frm F W V) (hn:∀ p,Ty W p 140→p∉F):NdG V u:=⟨h.1,h.2.1,fun p e=>(h.2.2 p e).frm hf (hn p (h.2.2 p e))⟩
structure SpR (w:World) (s:SesD) (yb:Nat) (lim:Int) (whole:Bool) (qb mb:Nat) (N:List (Nd × Nat)) (W:World):Prop where
 fr:Frm [] w W
 lq:w.heap.size≤qb
 lm:w.heap.size≤mb
 bx:∃ ao cap,W.heap[qb]?=some (.cells #[.int .i64 lim,.bool whole,.slice ao N.length cap,.map (some mb)] 115 (0,0))∧W.ownsRow w.heap.size 117 7 (.slice ao N.length cap) N.length (ndC N)∧RowG (NdG W) 117 (.slice ao N.length cap) W
 mp:MapAt Tryz.prog 9 W (some mb) N.length (keyF s (N.map Prod.fst)) N.length
 st:∀ d∈N,StR W s yb d.2 d.1.st
structure SpO (W:World) (s:SesD) (yb:Nat) (whole:Bool) (pb:Nat) (N:List (Nd × Nat)):Prop where
 out:∃ qb mb lim ao cap,W.heap[pb]?=some (.cells #[.pointer (some ⟨qb,0,none⟩)] 121 (0,0))∧W.heap[qb]?=some (.cells #[.int .i64 lim,.bool whole,.slice ao N.length cap,.map (some mb)] 115 (0,0)) ∧
  Arr 7 NdAt W (.slice ao N.length cap) N∧MapAt Tryz.prog 9 W (some mb) N.length (keyF s (N.map Prod.fst)) N.length
 st:∀ d∈N,StR W s yb d.2 d.1.st
def RowOf (W:World) (qb k:Nat):Prop:=∃ a b v m,W.heap[qb]?=some (.cells #[a,b,v,m] 115 (0,0))∧v.ownBlock=some k
def SpB (W:World) (qb b:Nat):Prop:=FgB W b∧((∃ es c,W.heap[b]?=some (.map es c))∨Ty W b 115∨(Ty W b 117∧RowOf W qb b))
theorem cell_map {W:World} {b o:Nat} {es:Array MapEntry} {c:Nat} (h:W.heap[b]?=some (.map es c)):W.cell? ⟨b,o,none⟩=none:=by simp[World.cell?,h]
section
variable {w W V:World} {s:SesD} {yb qb mb pb:Nat} {lim:Int} {whole:Bool} {N:List (Nd × Nat)}
theorem SpR.frm (h:SpR w s yb lim whole qb mb N W) (hf:Frm [] W V):SpR w s yb lim whole qb mb N V:=by
 obtain⟨ao,cap,h1,h2,h3⟩:=h.bx
 refine⟨h.fr.trans hf,h.lq,h.lm,⟨ao,cap,hf.at h1 (by simp),hf.owns h2 (by simp),fun g cur hg hc u hu=>?_⟩,h.mp.frm hf (by simp),fun d hd=>(h.st d hd).frm hf⟩
 obtain⟨c,hc'⟩:=ownBlock_type h2 hg
 have:=hf.at hc' (by simp)
 rw[this] at hc
 cases hc
 exact(h3 g _ hg hc' u hu).frm hf (by simp)
theorem SpO.frm (h:SpO W s yb whole pb N) (hf:Frm [] W V):SpO V s yb whole pb N:=by
 obtain⟨qb,mb,lim,ao,cap,h1,h2,h3,h4⟩:=h.out
 exact⟨⟨qb,mb,lim,ao,cap,hf.at h1 (by simp),hf.at h2 (by simp),h3.frm fun _ _ _ h=>h.frm hf,h4.frm hf (by simp)⟩,fun d hd=>(h.st d hd).frm hf⟩
theorem SpR.done (h:SpR w s yb lim whole qb mb N W) (hp:W.heap[pb]?=some (.cells #[.pointer (some ⟨qb,0,none⟩)] 121 (0,0))):SpO W s yb whole pb N:=by
 obtain⟨ao,cap,h1,h2,h3⟩:=h.bx
 exact⟨⟨qb,mb,lim,ao,cap,hp,h1,nd_arr h2,h.mp⟩,h.st⟩
theorem SpR.fgm (h:SpR w s yb lim whole qb mb N W):SpB W qb mb:=by
 obtain⟨es,c,hb⟩:=h.mp.block rfl
 exact⟨⟨fun C t e=>(by rw[hb] at e;cases e),fun o x e=>(by rw[cell_map hb] at e;cases e),fun o p e=>(by rw[cell_map hb] at e;cases e),fun o g o' p n c e=>(by rw[cell_map hb] at e;cases e)⟩,.inl ⟨_,_,hb⟩⟩
theorem SpR.fgq (h:SpR w s yb lim whole qb mb N W):SpB W qb qb:=by
 obtain⟨ao,cap,h1,h2,h3⟩:=h.bx
 have c:=fun o=>cell_of h1 o
 refine⟨⟨fun C t e=>?_,fun o x e=>?_,fun o p e=>?_,fun o g o' p n c' e e2=>?_⟩,.inr (.inl ⟨_,h1⟩)⟩
 ·rw[h1] at e;cases e;decide
 ·rw[c] at e
  match o,e with
  | 0,e=>cases e
  | 1,e=>cases e
  | 2,e=>cases e
  | 3,e=>cases e
  | o + 4,e=>simp at e
 ·rw[c] at e
  match o,e with
  | 0,e=>cases e
  | 1,e=>cases e
  | 2,e=>cases e
  | 3,e=>cases e
  | o + 4,e=>simp at e
 ·rw[c] at e
  match o,e with
  | 0,e=>cases e
  | 1,e=>cases e
  | 2,e =>
    cases e
    obtain⟨cu,hcu⟩:=ownBlock_type h2 rfl
    have hu:∃ u∈cu,u=Value.pointer (some ⟨p,0,none⟩):=by
     rw[cell_of hcu] at e2
     exact⟨_,Array.mem_of_getElem? e2,rfl⟩
    obtain⟨u,hu,rfl⟩:=hu
    obtain⟨d,hd⟩:=(h3 g _ rfl hcu _ hu).2.2 p rfl
    intro C t e3
    rw[hd] at e3;cases e3
    decide
  | 3,e=>cases e
  | o + 4,e=>simp at e
theorem SpR.fgr {ao:Option Addr} {cap g:Nat} (h1:W.heap[qb]?=some (.cells #[.int .i64 lim,.bool whole,.slice ao N.length cap,.map (some mb)] 115 (0,0))) (h2:W.ownsRow w.heap.size 117 7 (.slice ao N.length cap) N.length (ndC N)) (h3:RowG (NdG W) 117 (.slice ao N.length cap) W) (hg:(Value.slice ao N.length cap).ownBlock=some g):SpB W qb g:=by
 obtain⟨cu,hcu⟩:=ownBlock_type h2 hg
 have k:∀ o u,W.cell? ⟨g,o,none⟩=some u→NdG W u:=fun o u e=>by
  rw[cell_of hcu] at e
  exact h3 g _ hg hcu u (Array.mem_of_getElem? e)
 refine⟨⟨fun C t e=>?_,fun o x e=>(k o _ e).1 x rfl,fun o p e C t e2=>?_,fun o g o' p n c e=>absurd rfl ((k o _ e).2.1 _ _ _)⟩,.inr (.inr ⟨⟨_,hcu⟩,_,_,_,_,h1,hg⟩)⟩
 ·rw[hcu] at e;cases e;decide
 ·obtain⟨D,hD⟩:=(k o _ e).2.2 p rfl
  rw[hD] at e2;cases e2
  exact⟨by decide,by decide⟩
theorem SpB.at {F:List Nat} (hb:∀ b∈F,SpB W qb b) (hf:Frm F W V) {k:Nat} {C:Array Value} {t:TypeId} (hk:W.heap[k]?=some (.cells C t (0,0))) (h1:t≠115) (h2:t≠117∨¬ RowOf W qb k):V.heap[k]?=some (.cells C t (0,0)):=
 hf.at hk fun hm=>by
  rcases (hb k hm).2 with ⟨es,c,e⟩ | ⟨D,e⟩ | ⟨⟨D,e⟩,e2⟩ <;> rw[hk] at e <;> cases e
  ·exact h1 rfl
  ·rcases h2 with h2 | h2
   ·exact h2 rfl
   ·exact h2 e2
theorem SpB.fg {F:List Nat} (hb:∀ b∈F,SpB W qb b):∀ b∈F,FgB W b:=fun b hm=>(hb b hm).1
theorem SpR.spB {ao:Option Addr} {cap:Nat} (h:SpR w s yb lim whole qb mb N W) (b1:W.heap[qb]?=some (.cells #[.int .i64 lim,.bool whole,.slice ao N.length cap,.map (some mb)] 115 (0,0))) (b2:W.ownsRow w.heap.size 117 7 (.slice ao N.length cap) N.length (ndC N)) (b3:RowG (NdG W) 117 (.slice ao N.length cap) W):∀ b∈mb :: qb :: (Value.slice ao N.length cap).ownBlock.toList,SpB W qb b:=fun b hb=>by
 rcases List.mem_cons.1 hb with rfl | hb
 ·exact h.fgm
 rcases List.mem_cons.1 hb with rfl | hb
 ·exact h.fgq
 rw[Option.mem_toList] at hb
 exact SpR.fgr b1 b2 b3 hb
theorem SpR.add {W1 W2 W3:World} {d:Nd} {sb:Nat} {ao:Option Addr} {cap:Nat} {v':Value} (h:SpR w s yb lim whole qb mb N W) (hs:0 < s.roles.length) (hd:StR W s yb sb d.st) (hk:hasK s (N.map Prod.fst) (keyP s d.st)=false)
  (b1:W.heap[qb]?=some (.cells #[.int .i64 lim,.bool whole,.slice ao N.length cap,.map (some mb)] 115 (0,0))) (b2:W.ownsRow w.heap.size 117 7 (.slice ao N.length cap) N.length (ndC N)) (b3:RowG (NdG W) 117 (.slice ao N.length cap) W)
  (hm:MapAt Tryz.prog 9 W1 (some mb) (N.length + 1) (updL (keyF s (N.map Prod.fst)) (.string (keyP s d.st)) (some (.int .i64 (N.length:Nat)))) (N.length + 1)) (f1:Frm [mb] W W1) (f2:Frm [] W1 W2)
  (hg:W2.grownBy W3 (Value.slice ao N.length cap).ownBlock) (ho:W3.ownsRow w.heap.size 117 7 v' (N.length + 1) (ndC N ++ ndC1 (d,sb))) (hG:RowG (NdG W2) 117 v' W3) :
  SpR w s yb lim whole qb mb (N ++ [(d,sb)]) (W3.setCell ⟨qb,2,none⟩ v')∧Frm (mb :: qb :: (Value.slice ao N.length cap).ownBlock.toList) W (W3.setCell ⟨qb,2,none⟩ v')∧(W3.setCell ⟨qb,2,none⟩ v').heap[qb]?=some (.cells #[.int .i64 lim,.bool whole,v',.map (some mb)] 115 (0,0)):=by
 obtain⟨F,hF⟩:∃ F,F=mb :: qb :: (Value.slice ao N.length cap).ownBlock.toList:=⟨_,rfl⟩
 have hB:∀ b∈F,SpB W qb b:=fun b hb=>h.spB b1 b2 b3 b (by rwa [hF] at hb)
 obtain⟨es,c,hmb⟩:=h.mp.block rfl
 have hne:qb≠mb:=fun e=>by subst e;rw[b1] at hmb;cases hmb
 have hrq:(Value.slice ao N.length cap).ownBlock≠some qb:=fun e=>by
  obtain⟨c,hc⟩:=ownBlock_type b2 e
  rw[b1] at hc;cases hc
 have g1:W2.heap[qb]?=some (.cells #[.int .i64 lim,.bool whole,.slice ao N.length cap,.map (some mb)] 115 (0,0)):=f2.at (f1.at b1 (by simpa using hne)) (by simp)
 have g2:=grown_at hg g1 hrq
 have hv:v'.ownBlock≠some qb:=fun e=>by
  obtain⟨c,hc⟩:=ownBlock_type ho e
  rw[g2] at hc;cases hc
 obtain⟨ao',cap',rfl⟩:=own_shape ho
 obtain⟨W4,hW4⟩:∃ W4,W3.setCell ⟨qb,2,none⟩ (.slice ao' (N.length + 1) cap')=W4:=⟨_,rfl⟩
 have f3:Frm F W W3:=((f1.mono (F':=F) (by rw[hF];simp)).then f2 (by simp)).grown hg fun k hk=>.inl (by rw[hF];simp[hk])
 have f4:Frm F W W4:=by rw[← hW4];exact f3.setCell _ (.inl (by rw[hF];simp)) _
 have hfg:=SpB.fg hB
 have hps:∀ {X:World},Frm F W X→∀ p,Ty W p 140→Ty X p 140:=fun hf p hp=>hp.frm hf fun hm=>by
  obtain⟨D,hD⟩:=hp
  exact FgB.ne hfg hD (by simp[sysT]) hm
 have f34:Frm [qb] W3 W4:=by rw[← hW4];exact(Frm.refl _ _).setCell _ (.inl (by simp)) _
 have g4:W4.heap[qb]?=some (.cells #[.int .i64 lim,.bool whole,.slice ao' (N.length + 1) cap',.map (some mb)] 115 (0,0)):=by rw[← hW4];exact(block_setCell g2 2 _).trans rfl
 have hlen:(N ++ [(d,sb)]).length=N.length + 1:=by simp
 have f2w:Frm F W W2:=(f1.mono (F':=F) (by rw[hF];simp)).then f2 (by simp)
 have hfr0:Frm [] w W4:=h.fr.then f4 fun x hx=>.inr (by
  rw[hF] at hx
  rcases List.mem_cons.1 hx with rfl | hx
  ·exact h.lm
  rcases List.mem_cons.1 hx with rfl | hx
  ·exact h.lq
  rw[Option.mem_toList] at hx
  exact ownBlock_ge b2 hx)
 rw[hW4]
 refine⟨⟨hfr0,h.lq,h.lm,⟨ao',cap',?_,?_,?_⟩,?_,fun e he=>?_⟩,by rw[← hF];exact f4,g4⟩
 ·rw[hlen];exact g4
 ·rw[hlen,ndC_append,ndC_one];exact f34.owns ho (by intro k hk hm;simp at hm;subst hm;exact hv hk)
 ·rw[hlen]
  intro g cur hgk hc u hu
  have hgq:g≠qb:=fun e=>hv (by rw[← e];exact hgk)
  obtain⟨cu,hcu⟩:=ownBlock_type ho hgk
  have hcu4:=f34.at hcu (by simpa using hgq)
  rw[hcu4] at hc
  cases hc
  have hu':=hG g _ hgk hcu u hu
  refine⟨hu'.1,hu'.2.1,fun p e=>?_⟩
  have h2:=hu'.2.2 p e
  by_cases hp:p < W.heap.size
  ·have:Ty W p 140:=by
    obtain⟨D,hD⟩:=h2
    by_cases hpm:p∈F
    ·exfalso
     have hD3:=hD
     rcases (hB p hpm).2 with ⟨es,c,e⟩ | ⟨D',e⟩ | ⟨⟨D',e⟩,-⟩
     ·have hpmb:p=mb:=by
       rw[hF] at hpm
       rcases List.mem_cons.1 hpm with rfl | hpm
       ·rfl
       rcases List.mem_cons.1 hpm with rfl | hpm
       ·rw[b1] at e;cases e
       rw[Option.mem_toList] at hpm
       obtain⟨c,hc⟩:=ownBlock_type b2 hpm
       rw[hc] at e;cases e
      subst hpmb
      obtain⟨es',c',e'⟩:=(hm.frm f2 (by simp)).block rfl
      rw[e'] at hD3;cases hD3
     ·have hpq:p≠mb:=fun e'=>by subst e';rw[hmb] at e;cases e
      rw[f2.at (f1.at e (by simpa using hpq)) (by simp)] at hD3
      cases hD3
     ·have hpq:p≠mb:=fun e'=>by subst e';rw[hmb] at e;cases e
      rw[f2.at (f1.at e (by simpa using hpq)) (by simp)] at hD3
      cases hD3
    ·have:=f2w.block p hp hpm
     rw[this] at hD
     exact⟨D,hD⟩
   exact hps f4 p this
  ·obtain⟨D,hD⟩:=h2
   have hpr:(Value.slice ao N.length cap).ownBlock≠some p:=fun e=>by
    have:=ownBlock_lt b2 e;omega
   have hD3:=grown_at hg hD hpr
   have hpq:p≠qb:=fun e=>by subst e;rw[g2] at hD3;cases hD3
   exact⟨D,f34.at hD3 (by simpa using hpq)⟩
 ·rw[hlen,List.map_append,List.map_cons,List.map_nil,keyF_snoc hk,List.length_map]
  refine hm.frm (F:=qb :: (Value.slice ao N.length cap).ownBlock.toList) ?_ ?_
  ·rw[← hW4]
   exact((f2.mono (F':=qb :: (Value.slice ao N.length cap).ownBlock.toList) (by simp)).grown hg fun k hk=>.inl (by simp[hk])).setCell _ (.inl (by simp)) _
  ·intro b hb hm'
   cases hb
   rcases List.mem_cons.1 hm' with e | hm'
   ·exact hne e.symm
   ·rw[Option.mem_toList] at hm'
    obtain⟨c,hc⟩:=ownBlock_type b2 hm'
    rw[hmb] at hc;cases hc
 ·rcases List.mem_append.1 he with he | he
  ·exact(h.st e he).fg hs hfg f4
  ·rw[List.mem_singleton] at he;subst he
   exact hd.fg hs hfg f4
end
end Go.Proofs.YtemjlpahohmajaaGreat
namespace Go.Proofs.YtemjlpahohmajaaGreat
open Go.RowKit Go.BigFrame Go.Maps
abbrev ndZ:Value:=.agg #[.pointer none,.int .i64 0,.int .i64 0,.int .i64 0,.int .i64 0,.int .i64 0,.int .i64 0]
section
variable {W V:World} {s:SesD} {yb pb:Nat} {whole:Bool} {N:List (Nd × Nat)} {po:Option Addr}
theorem xNone_any (h:SpO W s yb whole pb N):Calls Tryz.prog 51 #[.pointer (some ⟨pb,0,none⟩)] W (Ret (.bool false) (W=·)):=by
 obtain⟨qb,mb,lim,ao,cap,h1,-⟩:=h.out
 have c0:=cell_of h1 0
 clear h1 h
 go_enter Tryz.func51,Tryz.ntmps51
 go_wp2
 go_ret
 exact⟨rfl,rfl⟩
set_option maxRecDepth 100000 in
theorem xLen_any (h:SpO W s yb whole pb N):Calls Tryz.prog 14 #[.pointer (some ⟨pb,0,none⟩)] W (Ret (.int .i64 (N.length:Nat)) (Frm [] W)):=by
 have C1:=Lib.hid (xNone_any h)
 obtain⟨qb,mb,lim,ao,cap,h1,h2,-⟩:=h.out
 have c0:=cell_of h1 0
 have c2:=cell_of h2 2
 clear h1 h2 h
 go_enter Tryz.func14,Tryz.ntmps14
 go_wp2_with (first
  | (go_at_call 51;go_must (refine C1.out.mono ?_;rintro e w' ⟨rfl,rfl⟩)))
 go_ret
 exact⟨rfl,Frm.refl _ _⟩
theorem one_nd (p:Option Addr) (a b c d e f:Int):(#[.pointer p,.int .i64 a,.int .i64 b,.int .i64 c,.int .i64 d,.int .i64 e,.int .i64 f]:Array Value).all (·.oneCell')=true:=by
 rw[← Array.all_toList];rfl
theorem Tryz.infoNode:(Tryz.prog.info? 117).map (·.size)=some 7:=by kernel_rfl
set_option maxRecDepth 100000 in
theorem xNode_in (h:SpO W s yb whole pb N) {i:Nat} {d:Nd × Nat} (hd:N[i]?=some d) (h5:N.length≤1000000):Calls Tryz.prog 52 #[.pointer (some ⟨pb,0,none⟩),.int .i64 i] W (Ret (.tuple #[ndV d,.int .i64 0]) (Frm [] W)):=by
 have C1:Hid (∀ V,Frm [] W V→Calls Tryz.prog 51 #[.pointer (some ⟨pb,0,none⟩)] V (Ret (.bool false) (V=·))):=Lib.hid fun V hV=>xNone_any (h.frm hV)
 obtain⟨qb,mb,lim,ao,cap,h1,h2,h3,-⟩:=h.out
 obtain⟨b,o,rfl,hn⟩:=h3.get hd
 have hl:=lt_of_some hd
 have hl':(i:Int) < (N.length:Int):=by omega
 have hge:decide ((N.length:Int)≤(i:Int))=false:=decide_eq_false (by omega)
 have c0:=cell_of h1 0
 have c2:=cell_of h2 2
 have f0:=(Frm.refl [] W).alloc (.cells #[.pointer none,.int .i64 0,.int .i64 0,.int .i64 0,.int .i64 0,.int .i64 0,.int .i64 0] 117)
 have HA:=Lib.hid (heap_alloc_new W (.cells #[.pointer none,.int .i64 0,.int .i64 0,.int .i64 0,.int .i64 0,.int .i64 0,.int .i64 0] 117))
 obtain⟨W0,hW0⟩:∃ W0,W.alloc (.cells #[.pointer none,.int .i64 0,.int .i64 0,.int .i64 0,.int .i64 0,.int .i64 0,.int .i64 0] 117)=W0:=⟨_,rfl⟩
 rw[hW0] at f0 HA
 have C2:=Lib.hid (C1.out _ f0)
 have d0:W0.cell? ⟨pb,0,none⟩=some (.pointer (some ⟨qb,0,none⟩)):=f0.keep c0
 have d2:W0.cell? ⟨qb,2,none⟩=some (.slice (some ⟨b,o,none⟩) N.length cap):=f0.keep c2
 obtain⟨n0,n1,n2,n3,n4,n5,n6⟩:=hn.frm f0
 have HE:=Lib.hid hW0;have HF0:=Lib.hid f0
 clear h1 h2 h3 h hd c0 c2 C1 f0 hW0
 go_enter Tryz.func52,Tryz.ntmps52
 go_upto_region 1 with fail
 rw[HE.out]
 go_upto_region 5 with (first
  | (go_at_call 51;go_must (refine C2.out.mono ?_;rintro e w' ⟨rfl,rfl⟩)))
 go_wp2_with (first
  | (refine wpList_store_row rfl 117 _ _ rfl _ _ _ 117 rfl rfl HA.out rfl Tryz.infoNode (one_nd _ _ _ _ _ _ _) ?_;intro w2 hb2 hf2;have HB2:=Lib.hid hb2;have HF2:=Lib.hid hf2;clear hb2 hf2 n0 n1 n2 n3 n4 n5 n6;have r0:=cell_of HB2.out 0;have r1:=cell_of HB2.out 1;have r2:=cell_of HB2.out 2;have r3:=cell_of HB2.out 3;have r4:=cell_of HB2.out 4;have r5:=cell_of HB2.out 5;have r6:=cell_of HB2.out 6))
 refine bodyPost_ret (v:=.tuple #[ndV d,.int .i64 0]) (by simp[results,Tryz.results52,go_sem,r0,r1,r2,r3,r4,r5,r6]) rfl ?_
 exact⟨rfl,HF0.out.then HF2.out (by intro k hk;simp at hk;subst hk;exact .inr (Nat.le_refl _))⟩
theorem Tryz.zeroInt (w:World):(zeroValue 3).run Tryz.prog w=.ok (.int .i64 0) w:=
 (zero_of_info (show (Tryz.prog.info? 3).map (fun i=>(i.zero,i.size))=some (some (.int .i64 0),1) by kernel_rfl)).1 w
theorem Tryz.keyedS:Keyed Tryz.prog 9:=string_keyed Tryz.underlying9
theorem keyF_get (s:SesD) (N:List Nd) (k:List UInt8):(keyF s N (.string k)).getD (.int .i64 0)=.int .i64 ((findP s N k).getD 0:Nat)∧(keyF s N (.string k)).isSome=(findP s N k).isSome:=by
 have e:keyF s N (.string k)=(findP s N k).map fun i=>.int .i64 (i:Nat):=rfl
 rw[e]
 cases findP s N k <;> exact⟨rfl,rfl⟩
theorem SpO.look {W V:World} {mb:Nat} {n:Nat} (h4:MapAt Tryz.prog 9 W (some mb) n (keyF s (N.map Prod.fst)) n) (hf:Frm [] W V) (k:ByteArray) (hk:k.size≤maxLen) :
  (Instr.lookup 112 (.map (some mb)) (.string k) true).run Tryz.prog V=.ok (.tuple #[.int .i64 ((findP s (N.map Prod.fst) k.data.toList).getD 0:Nat),.bool (findP s (N.map Prod.fst) k.data.toList).isSome]) V:=by
 have h:=(h4.frm hf (by simp)).look_ok Tryz.keyedS Tryz.underlying112 (Tryz.zeroInt V) (WideMaps.keyOf_string_mk Tryz.underlying9 hk)
 obtain⟨e1,e2⟩:=keyF_get s (N.map Prod.fst) k.data.toList
 rw[e1,e2] at h
 exact h
end
end Go.Proofs.YtemjlpahohmajaaGreat
namespace Go.Proofs.YtemjlpahohmajaaGreat
open Go.RowKit Go.BigFrame
abbrev YB (w:World) (ob:Nat) (L:List UInt8) (W:World):Prop:=BO 61 5 1 w ob L.length (L.map u8) W
abbrev byT:List TypeId:=[61,5]
theorem YB.add {w W w1:World} {ob m:Nat} {L M:List UInt8} {ao:Option Addr} {cap:Nat} {o:Obj} {v':Value} (h:YB w ob L W) (h1:W.heap[ob]?=some (.cells #[.slice ao L.length cap] 61 (0,0))) (h2:W.ownsRow w.heap.size 5 1 (.slice ao L.length cap) L.length (L.map u8))
  (hg:(W.alloc o).grownBy w1 (Value.slice ao L.length cap).ownBlock) (hm:M.length=m) (ho:w1.ownsRow w.heap.size 5 1 v' (L.length + m) (L.map u8 ++ M.map u8)) :
  YB w ob (L ++ M) (w1.setCell ⟨ob,0,none⟩ v')∧Kt byT W (w1.setCell ⟨ob,0,none⟩ v'):=by
 have:=h.step h1 h2 (by decide) hg ho
 unfold YB
 rw[List.map_append,List.length_append,hm]
 exact this
theorem CtR.kt {B:Nat} {lv:Value} {l:List (CtrD × Int)} {W W':World} (h:CtR B lv l W) (hk:Kt byT W W'):CtR B lv l W':=by
 refine⟨hk.cells h.b (by decide),?_,fun ao n c e hn=>?_⟩
 ·obtain⟨ao,c,rfl,hx⟩:=h.a
  refine⟨ao,c,rfl,fun i x hi=>?_⟩
  obtain⟨b,o,e,a0,a1,a2⟩:=hx i x hi
  obtain⟨g,cur,e2,hg⟩:=h.t _ _ _ rfl (by have:=lt_of_some hi;omega)
  have ebg:g=b∧0=o:=by rw[e2] at e;injection e with e;injection e with e1 e3;exact⟨e1,e3⟩
  obtain⟨rfl,rfl⟩:=ebg
  have hg':=hk.cells hg (by decide)
  rw[cell_of hg] at a0 a1 a2
  exact⟨g,0,e2,(cell_of hg' _).trans a0,(cell_of hg' _).trans a1,(cell_of hg' _).trans a2⟩
 ·obtain⟨g,cur,e1,e2⟩:=h.t _ _ _ e hn
  exact⟨g,cur,e1,hk.cells e2 (by decide)⟩
theorem two_wrap {v:Int} (h0:0≤v) (h1:v≤65535):u8 (UInt8.ofNat (v.toNat / 256))=.int .u8 (v / 256)∧u8 (UInt8.ofNat (v.toNat % 256))=.int .u8 (v % 256):=by
 obtain⟨n,rfl⟩:=Int.eq_ofNat_of_zero_le h0
 unfold u8
 simp only[Int.toNat_natCast,UInt8.toNat_ofNat']
 constructor
 ·congr 1
  have:n / 256 < 256:=by omega
  rw[Nat.mod_eq_of_lt this];rfl
 ·congr 1
  have:n % 256 < 256:=by omega
  rw[Nat.mod_eq_of_lt this];rfl
theorem at_wrap {p:Nat} (h:p < 256):u8 (UInt8.ofNat p)=.int .u8 (p:Int):=by
 unfold u8
 rw[UInt8.toNat_ofNat',Nat.mod_eq_of_lt h]
end Go.Proofs.YtemjlpahohmajaaGreat
namespace Go.Proofs.YtemjlpahohmajaaGreat
open Go.RowKit Go.BigFrame Go.Lib
theorem strCells_byt (s:ByteArray):strCells s=(byt s).map u8:=rfl
theorem app_str {ty:TypeId} {W:World} {base:Nat} {v:Value} {xs:List UInt8} (ho:W.ownsRow base 5 1 v xs.length (xs.map u8)) (s:ByteArray) (hn:xs.length + s.size≤4000000) (hb:base≤W.heap.size) :
  ∃ v' W',(Builtin.append_ #[61,9] ty #[v,.string s]).run Tryz.prog W=.ok v' W'∧W'.ownsRow base 5 1 v' (xs ++ byt s).length ((xs ++ byt s).map u8)∧W.grownBy W' v.ownBlock:=by
 obtain⟨i0,hi0,hz0,hz1,hz2⟩:=info_parts Tryz.info5
 obtain⟨v',W',h1,h2,h3,-⟩:=run_append_own_string (P:=Tryz.prog) W base 61 9 ty 5 i0 Tryz.underlying61 Tryz.underlying9 hi0 hz0 hz1 hz2 v xs.length (xs.map u8) ho s (by unfold maxLen;omega) (by omega) hb
 refine⟨v',W',h1,?_,h3⟩
 rw[List.length_append,List.map_append,← strCells_byt]
 have:(byt s).length=s.size:=by unfold byt;simp
 rw[this]
 exact h2
theorem step_app_str {ops:Array Oper} {o:Oper} {a:Act} {w:World} {K:Act→World→Prop} {Q:Exit→Act→World→Prop} {E:Prop} (hgd:o.guard=none) (s x:Operand) (ho:o.op=.call { callee:=.builtin .append,args:=#[s,x],argTypes:=#[61,9] })
  (base:Nat) (v:Value) (sv:ByteArray) (hs:a.eval s=v) (hx:a.eval x=.string sv) (xs:List UInt8) (hown:w.ownsRow base 5 1 v xs.length (xs.map u8)) (hn:xs.length + sv.size≤4000000) (hb:base≤w.heap.size)
  (h:∀ ao cp w',w'.ownsRow base 5 1 (.slice ao (xs ++ byt sv).length cp) (xs ++ byt sv).length ((xs ++ byt sv).map u8)→w.grownBy w' v.ownBlock→K (a.put o.dst (.slice ao (xs ++ byt sv).length cp)) w'):if Region.wanted o (yielded ops a.tmps)=true then Oper.wp Tryz.prog o a w K Q else E:=by
 have hw:Region.wanted o (yielded ops a.tmps)=true:=by simp[Region.wanted,hgd]
 rw[if_pos hw]
 obtain⟨v',w',hrun,r1,r2⟩:=app_str (ty:=o.type) hown sv hn hb
 obtain⟨ao,cp,rfl⟩:=own_shape r1
 unfold Oper.wp
 simp[execOp,ho,resolve,invoke,builtin,hs,hx,hrun,Result.andThen]
 have hk:=h ao cp w' r1 r2
 rw[List.length_append] at hk
 exact hk
structure YP (w wr:World) (ob:Nat) (v0 v:Value) (L:List UInt8) (W:World):Prop where
 f:Frm [] w W
 b:W.heap[ob]?=some (.cells #[v0] 61 (0,0))
 o:W.ownsRow w.heap.size 5 1 v L.length (L.map u8)
 k:Kt byT wr W
section
variable {w wr W W':World} {ob:Nat} {v0 v:Value} {L l:List UInt8}
theorem YP.frm (h:YP w wr ob v0 v L W) (hf:Frm [] W W'):YP w wr ob v0 v L W':=⟨h.f.trans hf,hf.at h.b (by simp),hf.owns h.o (by simp),h.k.trans (Kt.frm hf)⟩
theorem YP.grow {v':Value} (h:YP w wr ob v0 v L W) (hg:W.grownBy W' v.ownBlock) (ho:W'.ownsRow w.heap.size 5 1 v' (L ++ l).length ((L ++ l).map u8)):YP w wr ob v0 v' (L ++ l) W':=by
 refine⟨h.f.grown hg (fun q hq=>.inr (ownBlock_ge h.o hq)),grown_at hg h.b (fun e'=>?_),ho,h.k.grown hg (fun q hq=>?_)⟩
 ·obtain⟨c,hc⟩:=ownBlock_type h.o e'
  have hb:=h.b
  rw[hb] at hc;cases hc
 ·obtain⟨c,hc⟩:=ownBlock_type h.o hq
  exact⟨c,5,(0,0),hc,by simp⟩
theorem YP.fin (h:YP w wr ob v0 v L W) (hn:w.heap.size≤ob):YB w ob L (W.setCell ⟨ob,0,none⟩ v)∧Kt byT wr (W.setCell ⟨ob,0,none⟩ v):=by
 obtain⟨ao',cp',rfl⟩:=own_shape h.o
 refine⟨⟨h.f.setCell _ (.inr hn) _,hn,ao',cp',(block_setCell h.b 0 _).trans rfl,?_⟩,h.k.set h.b (by simp) _⟩
 refine ownsRow_setCell_other h.o (fun e'=>?_) _
 obtain⟨c,hc⟩:=ownBlock_type h.o e'
 have hb:=h.b
 rw[hb] at hc;cases hc
end
set_option maxRecDepth 100000 in
theorem conv_own {W:World} {base:Nat} {ao:Option Addr} {cp:Nat} {L:List UInt8} (h:W.ownsRow base 5 1 (.slice ao L.length cp) L.length (L.map u8)) (hp:L.length≠0):(convert 61 9 (.slice ao L.length cp)).run Tryz.prog W=.ok (.string ⟨L.toArray⟩) W:=by
 obtain⟨g,c,cur,e,-,-⟩:=own_block h hp
 cases e
 exact run_convert_bytes_back _ 61 9 5 ⟨g,0,none⟩ cp L Tryz.underlying61 Tryz.underlying5 Tryz.underlying9 (fun j hj=>by
  have h1:=World.ownsRow.cellAt h j (by simpa using hj)
  rw[WideShapes.add_plain]
  rw[Nat.zero_add,h1]
  simp[u8,hj])
end Go.Proofs.YtemjlpahohmajaaGreat
