/- Part of the proof. -/
import Derived.Test.YtohfkhjlnlahdaaGreatV27
import Derived.Shelf.SortM.Plain
import Derived.Shelf.SortM.SortNone
import Derived.Test.YtohfkhjlnlahdaaGreatV25
import Derived.Test.YtohfkhjlnlahdaaGreatV24
import Derived.Laws.StructEq
import Derived.Test.YtohfkhjlnlahdaaGreatV13
import Derived.Lib.Builder
import Derived.Test.YtohfkhjlnlahdaaGreatV22
import Derived.Sort.CutIn
import Derived.OrdersIn
import Derived.Lib.AppendStr
set_option linter.all false
namespace Go.Proofs.YtohfkhjlnlahdaaGreat
open Go.RowKit Go.BigFrame Go.Sort
theorem sort_any (v:Value) (L:List ByteArray) (w:World) (h:Strs w v L) (hL:L.length≤1000000) :
  Calls Tryz.prog 105 #[v] w (Ret (.tuple #[]) (fun w'=>Strs w' v (keyL 2 L)∧Frm v.ownBlock.toList w w')):=by
 obtain⟨ao,cap,rfl,hn,hc⟩:=h.shape
 have hlen:(keyL 2 L).length=L.length:=by simp[keyL]
 cases L with
 | nil =>
   refine(AnyM.slices_Sort_string_none Tryz.sortS ao cap w).mono ?_
   rintro e w' ⟨rfl,rfl⟩
   exact⟨rfl,by simpa[keyL] using h,Frm.refl _ _⟩
 | cons x xs =>
   obtain⟨g,rfl,-⟩:=hc 0 x rfl
   obtain⟨hH,q1,q2,cur,hh,q3⟩:=h.holds
   have hd:=AnyM.slices_Sort_string Tryz.sortS g 0 cap ((x :: xs).map byt) w hH (lt_of_block hh) (by rw[List.length_map];omega)
   rw[List.length_map] at hd
   refine(show Calls Tryz.prog 105 _ w _ from hd).mono ?_
   rintro e w' ⟨rfl,q,os,rfl⟩
   refine⟨rfl,?_,?_⟩
   ·have ho:=ownsRow_sorted (w:=w) (base:=0) (g:=g) (cap:=cap) (n:=q) (e:=9) (os:=os) (cur:=cur) (ss:=(x :: xs).map byt) (ts:=((x :: xs).map byt).mergeSort fun x y=>decide (x≤y)) (by simp) (Nat.zero_le _) hh (by simpa using q1) q2 q3
    rw[List.length_map] at ho
    have e1:(keyL 2 (x :: xs)).map Value.string=(((x :: xs).map byt).mergeSort fun x y=>decide (x≤y)).map encStr:=by rw[keyL,if_pos rfl,List.map_map];rfl
    unfold Strs
    rw[hlen,e1]
    exact ho
   ·exact(Frm.refl _ _).grown (grownBy_sorted _) (fun k hk=>by cases hk;exact .inl (by simp[Value.ownBlock]))
theorem wrap_small {x:Int} (h0:0≤x) (h1:x≤255):IntKind.u8.wrap x=x:=by simp[IntKind.wrap,show IntKind.u8.bits=8 from rfl,show IntKind.u8.signed=false from rfl];omega
theorem len_byte (w:World) (x:ByteArray) (h:x.size≤32):(convert 26 9 (.slice (some ⟨w.heap.size,0,none⟩) 1 1)).run Tryz.prog (w.alloc (.cells #[.int .u8 (x.size:Int)] 5))=.ok (.string ⟨#[UInt8.ofNat x.size]⟩) (w.alloc (.cells #[.int .u8 (x.size:Int)] 5)):=
 run_convert_bytes_back _ 26 9 5 ⟨w.heap.size,0,none⟩ 1 [UInt8.ofNat x.size] Tryz.underlying26 Tryz.underlying5 Tryz.underlying9 (fun j hj=>by
  have h0:j=0:=by simpa using hj
  subst h0
  have e:((UInt8.ofNat x.size).toNat:Int)=(x.size:Int):=by simp;omega
  show (w.alloc _).cell? ⟨w.heap.size,0 + 0,none⟩=some (.int .u8 ((UInt8.ofNat x.size).toNat:Int))
  rw[e]
  exact cell_of (heap_alloc_new w _) 0)
set_option maxHeartbeats 1000000 in
set_option maxRecDepth 100000 in
theorem key_any (cb:Nat) (cls cap:Int) (L:List ByteArray) (F:List Nat) (w:World) (h:Chn w cb cls cap L F) :
  Calls Tryz.prog 104 #[.pointer (some ⟨cb,0,none⟩)] w (Ret (.string (keyB (keyL cls L))) (Frm [] w)):=by
 have HG:=Lib.hid h.good
 have hg:=h.good.lenN
 have HC:=Lib.hid h
 have CA:=Lib.hid (all_any h)
 clear h
 have HSL:Hid ((keyL cls L).length=L.length):=Lib.hid (keyL_length cls L)
 have HSZ:Hid (∀ x∈keyL cls L,1≤x.size∧x.size≤32):=Lib.hid (fun x hx=>HG.out.sz x (keyL_mem hx))
 by_cases hz:cls=2
 ·subst hz
  obtain⟨S,hS⟩:∃ S,keyL 2 L=S:=⟨_,rfl⟩
  rw[hS] at HSL HSZ ⊢
  go_enter Tryz.func104,Tryz.ntmps104
  go_wp2_with (first
   | (go_at_call 154;go_must (refine CA.out.mono ?_;rintro e w1 ⟨v,rfl,hr⟩;obtain⟨ao,cp,rfl,-,-⟩:=hr.1.shape;have HR:=Lib.hid hr;clear hr))
   | (go_at_call 128;go_must (refine(none_any cb 2 cap L F w1 (HC.out.frm HR.out.2.1 (by simp))).mono ?_;rintro e w' ⟨rfl,rfl⟩;obtain⟨sv,e1,-,-,-⟩:=HC.out;have c0:=HR.out.2.1.keep (cell_of e1 0);clear e1))
   | (go_at_call 105;go_must (refine(sort_any _ L w1 HR.out.1 (by omega)).mono ?_;rintro e w2 ⟨rfl,hs⟩;have HS:=Lib.hid hs;clear hs)))
  rw[hS] at HS
  clear hS
  have HST:Hid (Strs w2 (.slice ao L.length cp) S):=Lib.hid HS.out.1
  have HWW:Hid (Frm [] w w2):=Lib.hid ((HR.out.2.1).then HS.out.2 (fun x hx=>.inr (HR.out.2.2 x (by simpa using hx))))
  go_loopw [2,22] (fun s2 s22 wr=>∃ i:Nat,s2=.string (keyB (S.take i))∧s22=.int .i64 i∧i≤L.length∧Frm [] w2 wr) (fun _ s22 _=>L.length - (intOf s22).toNat)
  case atStart=>exact⟨0,rfl,rfl,Nat.zero_le _,Frm.refl _ _⟩
  case round =>
   obtain⟨i,rfl,rfl,hi,hf⟩:=hrel
   have HF:=Lib.hid hf
   by_cases hlt:i < L.length
   ·obtain⟨x,hx⟩:∃ x,S[i]?=some x:=⟨_,List.getElem?_eq_getElem (by rw[HSL.out];exact hlt)⟩
    have hsz:=HSZ.out x (List.mem_of_getElem? hx)
    obtain⟨ao',cp',hv,-,hcs⟩:=HST.out.shape
    rw[HSL.out] at hv;cases hv
    obtain⟨g,rfl,cx0⟩:=hcs i x hx
    have cx:=hf.keep cx0
    have hlt':(i:Int) < (L.length:Int):=by omega
    have hwr:IntKind.u8.wrap (x.size:Int)=(x.size:Int):=wrap_small (by omega) (by omega)
    have HX:=Lib.hid hx
    have hconv:(convert 26 9 (.slice (some ⟨wr.heap.size,0,none⟩) 1 1)).run Tryz.prog (wr.alloc (.cells #[.int .u8 (x.size:Int)] 5))=.ok (.string ⟨#[UInt8.ofNat x.size]⟩) (wr.alloc (.cells #[.int .u8 (x.size:Int)] 5)):=len_byte wr x hsz.2
    have hks:(keyB (S.take i)).size≤3000:=by
     have h1:=keyB_size (S.take i) (fun y hy=>(HSZ.out y (List.mem_of_mem_take hy)).2)
     rw[List.length_take] at h1
     omega
    clear hcs cx0 hf hx
    go_wp2_with fail
    exact⟨⟨i + 1,by rw[keyB_snoc HX.out],by simp,hlt,HF.out.alloc _⟩,by simp[intOf];omega⟩
   ·have hge:¬ (i:Int) < (L.length:Int):=by omega
    clear hf
    go_wp2
    go_ret
    refine⟨?_,HWW.out.trans HF.out⟩
    rw[List.take_of_length_le (by rw[HSL.out];omega)]
    rfl
 ·have hne:(cls == 2)=false:=by simpa using hz
  obtain⟨S,hS⟩:∃ S,keyL cls L=S:=⟨_,rfl⟩
  have HSE:Hid (S=L):=Lib.hid (hS.symm.trans (if_neg hz))
  rw[hS] at HSL HSZ ⊢
  clear hS
  go_enter Tryz.func104,Tryz.ntmps104
  go_wp2_with (first
   | (go_at_call 154;go_must (refine CA.out.mono ?_;rintro e w1 ⟨v,rfl,hr⟩;obtain⟨ao,cp,rfl,-,-⟩:=hr.1.shape;have HR:=Lib.hid hr;clear hr))
   | (go_at_call 128;go_must (refine(none_any cb cls cap L F w1 (HC.out.frm HR.out.2.1 (by simp))).mono ?_;rintro e w' ⟨rfl,rfl⟩;obtain⟨sv,e1,-,-,-⟩:=HC.out;have c0:=HR.out.2.1.keep (cell_of e1 0);clear e1)))
  have HST:Hid (Strs w1 (.slice ao L.length cp) S):=Lib.hid (by rw[HSE.out];exact HR.out.1)
  have HWW:Hid (Frm [] w w1):=Lib.hid HR.out.2.1
  go_loopw [2,22] (fun s2 s22 wr=>∃ i:Nat,s2=.string (keyB (S.take i))∧s22=.int .i64 i∧i≤L.length∧Frm [] w1 wr) (fun _ s22 _=>L.length - (intOf s22).toNat)
  case atStart=>exact⟨0,rfl,rfl,Nat.zero_le _,Frm.refl _ _⟩
  case round =>
   obtain⟨i,rfl,rfl,hi,hf⟩:=hrel
   have HF:=Lib.hid hf
   by_cases hlt:i < L.length
   ·obtain⟨x,hx⟩:∃ x,S[i]?=some x:=⟨_,List.getElem?_eq_getElem (by rw[HSL.out];exact hlt)⟩
    have hsz:=HSZ.out x (List.mem_of_getElem? hx)
    obtain⟨ao',cp',hv,-,hcs⟩:=HST.out.shape
    rw[HSL.out] at hv;cases hv
    obtain⟨g,rfl,cx0⟩:=hcs i x hx
    have cx:=hf.keep cx0
    have hlt':(i:Int) < (L.length:Int):=by omega
    have hwr:IntKind.u8.wrap (x.size:Int)=(x.size:Int):=wrap_small (by omega) (by omega)
    have HX:=Lib.hid hx
    have hconv:(convert 26 9 (.slice (some ⟨wr.heap.size,0,none⟩) 1 1)).run Tryz.prog (wr.alloc (.cells #[.int .u8 (x.size:Int)] 5))=.ok (.string ⟨#[UInt8.ofNat x.size]⟩) (wr.alloc (.cells #[.int .u8 (x.size:Int)] 5)):=len_byte wr x hsz.2
    have hks:(keyB (S.take i)).size≤3000:=by
     have h1:=keyB_size (S.take i) (fun y hy=>(HSZ.out y (List.mem_of_mem_take hy)).2)
     rw[List.length_take] at h1
     omega
    clear hcs cx0 hf hx
    go_wp2_with fail
    exact⟨⟨i + 1,by rw[keyB_snoc HX.out],by simp,hlt,HF.out.alloc _⟩,by simp[intOf];omega⟩
   ·have hge:¬ (i:Int) < (L.length:Int):=by omega
    clear hf
    go_wp2
    go_ret
    refine⟨?_,HWW.out.trans HF.out⟩
    rw[List.take_of_length_le (by rw[HSL.out];omega)]
    rfl
end Go.Proofs.YtohfkhjlnlahdaaGreat
namespace Go.Proofs.YtohfkhjlnlahdaaGreat
open Go.RowKit Go.BigFrame
theorem Arr.imp {α:Type} {k:Nat} {At At':World→Nat→Nat→α→Prop} {w w':World} {v:Value} {xs:List α} (hA:∀ b o x,At w b o x→At' w' b o x) (h:Arr k At w v xs):Arr k At' w' v xs:=by
 obtain⟨ao,cap,h1,h2⟩:=h
 refine⟨ao,cap,h1,fun i x hx=>?_⟩
 obtain⟨b,o,e,h3⟩:=h2 i x hx
 exact⟨b,o,e,hA _ _ _ h3⟩
theorem Fr.row {α:Type} {k:Nat} {e:TypeId} {At:World→Nat→Nat→α→Prop} {w w':World} {xs:List α} {v:Value} (h:Fr k e At w xs v w') (hn:xs.length≠0) :
  ∃ g cap cur,v=.slice (some ⟨g,0,none⟩) xs.length cap∧w.heap.size≤g∧w'.heap[g]?=some (.cells cur e (0,0))∧∀ (i:Nat) x,xs[i]?=some x→At w' g (i * k) x:=by
 rcases h.own with e | ⟨news,ho⟩
 ·rw[e] at hn;simp at hn
 ·obtain⟨g,cap,cur,rfl,hg,hc⟩:=own_block ho hn
  refine⟨g,cap,cur,rfl,hg,hc,fun i x hx=>?_⟩
  obtain⟨b,o,e,ha⟩:=h.arr.get hx
  cases e
  rw[Nat.zero_add] at ha
  exact ha
set_option maxHeartbeats 4000000 in
set_option maxRecDepth 100000 in
theorem pChange_any (s:SesD) (yb sb f t:Nat) (x:PS) (w:World) (hx:StR w s yb sb x) (hf:f < s.roles.length) (ht:t < s.roles.length) (h4:s.roles.length≤4) :
  Calls Tryz.prog 64 #[.pointer (some ⟨sb,0,none⟩),.int .i64 f,.int .i64 t] w (RetV fun v w'=>∃ xb ab gb rb cb F,v=.tuple #[.pointer (some ⟨xb,0,none⟩),.pointer (some ⟨cb,0,none⟩)]∧ChS w s x yb xb ab gb rb cb f t F (x.way f t) w'):=by
 have HST:=Lib.hid hx
 obtain⟨av,wv,h1,h2,h3⟩:=hx.out
 have hok:=hx.ok
 obtain⟨aa,ca,rfl⟩:=h2.shape
 obtain⟨aw,cw,rfl⟩:=h3.shape
 obtain⟨n,hn⟩:∃ n,s.roles.length=n:=⟨_,rfl⟩
 have CA:Hid (∀ V,Frm [] w V→Calls Tryz.prog 124 #[.slice aa n ca] V (RetV (Fr 2 143 (AoAt w) V (actsP s x)))):=Lib.hid fun V hV=>by
  have:=clActorAt_any w (.slice aa (actsP s x).length ca) (actsP s x) V (h2.imp fun _ _ _ h=>AoAt.frm h hV) (by rw[actsP_len];omega)
  rwa [actsP_len,hn] at this
 have CW:Hid (∀ V,Frm [] w V→Calls Tryz.prog 125 #[.slice aw n cw] V (RetV (Fr 1 191 (WoAt s.cls s.cap w) V x.ways))):=Lib.hid fun V hV=>by
  have:=clWaysAt_any s.cls s.cap w (.slice aw x.ways.length cw) x.ways V (h3.imp fun _ _ _ h=>WoAt.frm h hV) (by rw[hok.wl];omega)
  rwa [hok.wl,hn] at this
 rw[actsP_len,hok.wl,hn] at h1
 have HS:Hid (∀ V,Frm [] w V→V.cell? ⟨sb,0,none⟩=some (.pointer (some ⟨yb,0,none⟩))∧V.cell? ⟨sb,1,none⟩=some (.slice aa n ca)∧V.cell? ⟨sb,2,none⟩=some (.slice aw n cw)):=Lib.hid fun V hV=>⟨hV.keep (cell_of h1 0),hV.keep (cell_of h1 1),hV.keep (cell_of h1 2)⟩
 have HN:=Lib.hid hn;have HOK:=Lib.hid hok;have HFL:=Lib.hid hf;have HTL:=Lib.hid ht
 have hfn:(f:Int) < (n:Int):=by omega
 have htn:(t:Int) < (n:Int):=by omega
 clear h1 h2 h3 hx hok hn hf ht
 go_enter Tryz.func64,Tryz.ntmps64
 go_upto_region 1 with fail
 go_region_held3 (fun V=>V.cell? ⟨sb,0,none⟩=some (.pointer (some ⟨yb,0,none⟩))∧V.cell? ⟨sb,1,none⟩=some (.slice aa n ca)∧V.cell? ⟨sb,2,none⟩=some (.slice aw n cw))
  (first
   | exact HS.out _ ((Frm.refl [] w).drew)
   | exact HS.out _ F1.out
   | exact HS.out _ F2.out
   | exact HS.out _ (F2.out.alloc _))
  (first
   | (go_at_call 124;go_must (refine(CA.out _ ((Frm.refl [] w).drew)).mono ?_;rintro e w1 ⟨u,rfl,hr⟩;have F1:Hid (Frm [] w w1):=Lib.hid ((Frm.refl [] w).drew.trans hr.frm);have hrr:=hr.row (by rw[actsP_len,HN.out];omega);rw[actsP_len,HN.out] at hrr;obtain⟨ab,cab,cura,rfl,hab,hba,hae⟩:=hrr;have HAB:=Lib.hid hab;have HBA:=Lib.hid hba;have HAE:=Lib.hid hae;clear hab hba hae hr))
   | (go_at_call 125;go_must (refine(CW.out _ F1.out).mono ?_;rintro e w2 ⟨u,rfl,hr⟩;have F2:Hid (Frm [] w w2):=Lib.hid (F1.out.trans hr.frm);have F12:=Lib.hid hr.frm;have hrr:=hr.row (by rw[HOK.out.wl,HN.out];omega);rw[HOK.out.wl,HN.out] at hrr;obtain⟨gb,cgb,curg,rfl,hgb,hbg,hge⟩:=hrr;have HGB:=Lib.hid hgb;have HBG:=Lib.hid hbg;have HGE:=Lib.hid hge;clear hgb hbg hge hr)))
 obtain⟨w3,hw3⟩:∃ w3,w2.alloc (.cells #[.pointer (some ⟨yb,0,none⟩),.slice (some ⟨ab,0,none⟩) n cab,.slice (some ⟨gb,0,none⟩) n cgb] 147)=w3:=⟨_,rfl⟩
 have F3:Hid (Frm [] w w3):=Lib.hid (by rw[← hw3];exact F2.out.alloc _)
 have F13:Hid (Frm [] w1 w3):=Lib.hid (by rw[← hw3];exact F12.out.alloc _)
 have F23:Hid (Frm [] w2 w3):=Lib.hid (by rw[← hw3];exact(Frm.refl _ _).alloc _)
 have X3:Hid (w3.heap[w2.heap.size]?=some (.cells #[.pointer (some ⟨yb,0,none⟩),.slice (some ⟨ab,0,none⟩) n cab,.slice (some ⟨gb,0,none⟩) n cgb] 147 (0,0))):=Lib.hid (by rw[← hw3];exact heap_alloc_new _ _)
 have HE3:=Lib.hid hw3
 have hfl:(x.ways)[f]?=some (x.ways.getD f []):=some_getD (by rw[HOK.out.wl];exact HFL.out)
 obtain⟨rvf,q0,q1⟩:=HGE.out f _ hfl
 obtain⟨ar,cr,rfl⟩:=q1.shape
 rw[HOK.out.wr f HFL.out,HN.out,Nat.mul_one] at q0
 have CR:Hid (∀ V,Frm [] w V→Calls Tryz.prog 126 #[.slice ar n cr] V (RetV (Fr 1 130 (CoAt s.cls s.cap w) V (x.ways.getD f [])))):=Lib.hid fun V hV=>by
  have:=clRowAt_any s.cls s.cap w (.slice ar (x.ways.getD f []).length cr) (x.ways.getD f []) V (q1.imp fun _ _ _ h=>CoAt.frm h hV) (by rw[HOK.out.wr f HFL.out];omega)
  rwa [HOK.out.wr f HFL.out,HN.out] at this
 have HQ0:=Lib.hid q0
 have HS3:Hid (∀ V,Frm [] w3 V→V.cell? ⟨w2.heap.size,2,none⟩=some (.slice (some ⟨gb,0,none⟩) n cgb)∧V.cell? ⟨gb,f,none⟩=some (.slice ar n cr)):=Lib.hid fun V hV=>⟨hV.keep (cell_of X3.out 2),(F23.out.trans hV).keep HQ0.out⟩
 clear hw3 hfl q0 q1 CA CW HS
 go_upto_region 2 with fail
 rw[HE3.out]
 have HAE3:Hid (∀ (i:Nat) a,(actsP s x)[i]?=some a→AoAt w w3 ab (i * 2) a):=Lib.hid fun i a ha=>(HAE.out i a ha).frm F13.out
 have HGE3:Hid (∀ (i:Nat) R,x.ways[i]?=some R→WoAt s.cls s.cap w w3 gb (i * 1) R):=Lib.hid fun i R hR=>(HGE.out i R hR).frm F23.out
 have BA3:=Lib.hid (F13.out.at HBA.out (by simp))
 have BG3:=Lib.hid (F23.out.at HBG.out (by simp))
 have HL:Hid (w.heap.size≤w2.heap.size∧w.heap.size≤ab∧w.heap.size≤gb):=Lib.hid ⟨F2.out.size,HAB.out,Nat.le_trans F1.out.size HGB.out⟩
 obtain⟨xb,hxb⟩:∃ xb,w2.heap.size=xb:=⟨_,rfl⟩
 rw[hxb] at HS3 X3 HL ⊢
 clear hxb F12 HAE HGE HBA HBG HAB HGB HE3 F13 F23 HQ0 F1 F2
 obtain⟨y1,y2⟩:=HS3.out w3 (Frm.refl _ _)
 have hgl:=cell_lt y2
 go_cut [] (fun wc=>∃ rb,Ch2 w s x yb xb ab gb rb f wc)
 case first =>
  go_region_law (first
   | (go_simp;go_at_call 126;go_must (refine(CR.out _ F3.out.drew).mono ?_;rintro e w5 ⟨u,rfl,hr⟩;have F35:Hid (Frm [] w3 w5):=Lib.hid ((Frm.refl [] w3).drew.trans hr.frm);have hrr:=hr.row (by rw[HOK.out.wr f HFL.out,HN.out];omega);rw[HOK.out.wr f HFL.out,HN.out] at hrr;obtain⟨rb,crb,curr,rfl,hrb,hbr,hre⟩:=hrr;have HRB:=Lib.hid hrb;have HBR:=Lib.hid hbr;have HRE:=Lib.hid hre;have bg5:=F35.out.at BG3.out (by simp);obtain⟨cx5,cg5⟩:=HS3.out _ F35.out;have fg5:=free_of bg5 f;have BG5:=Lib.hid bg5;clear hrb hbr hre hr bg5)))
  all_goals
   go_wp2
   go_meet
   exact⟨rb,ch2_mk HN.out HOK.out HFL.out (F3.out.trans F35.out) F35.out HL.out.1 HL.out.2.1 HL.out.2.2 HRB.out X3.out BA3.out HAE3.out BG5.out BG3.out HGE3.out HBR.out HRE.out⟩
 case rest =>
  obtain⟨rb,h2⟩:=hcut
  have H2:=Lib.hid h2
  clear h2 y1 y2 hgl HS3 X3 HAE3 HGE3 BA3 BG3 HL CR
  have h3:=H2.out
  obtain⟨cax,cgx,hx3⟩:=h3.hx
  obtain⟨cr3,hr3⟩:=h3.rowf
  obtain⟨c0,G0,hc3,hch⟩:=h3.chs t HTL.out
  obtain⟨cg3,tg3⟩:=h3.tg
  obtain⟨ct3,tr3⟩:=h3.tr
  rw[HN.out] at hx3 hr3
  have FW:=Lib.hid h3.fr
  have HCH:=Lib.hid hch
  have HS4:Hid (∀ V,Frm [] wc V→V.cell? ⟨xb,2,none⟩=some (.slice (some ⟨gb,0,none⟩) n cgx)∧V.cell? ⟨gb,f,none⟩=some (.slice (some ⟨rb,0,none⟩) n cr3)∧V.cell? ⟨rb,t,none⟩=some (.pointer (some ⟨c0,0,none⟩))∧V.frozen? ⟨rb,t,none⟩=false):=
   Lib.hid fun V hV=>⟨hV.keep (cell_of hx3 2),hV.keep hr3,hV.keep hc3,free_of (hV.at tr3 (by simp)) t⟩
  have CC:=Lib.hid (copy_any (hch.frm h3.fr.drew (by simp)))
  have y1:=cell_of hx3 2
  have hl1:=cell_lt y1
  have hl2:=cell_lt hr3
  have hl3:=cell_lt hc3
  clear h3 hx3 tg3 tr3 hch
  go_upto_region 3 with fail
  go_cut [] (fun wd=>∃ cb F,ChS w s x yb xb ab gb rb cb f t F (x.way f t) wd)
  case first =>
   go_region_law (first
    | (go_simp;go_at_call 127;go_must (refine CC.out.mono ?_;rintro e w7 ⟨u,rfl,cb,F,rfl,hcn,hfr,hF⟩;have F7:Hid (Frm [] wc w7):=Lib.hid ((Frm.refl [] wc).drew.trans hfr);have HCN:=Lib.hid hcn;have HFF:=Lib.hid hF;obtain⟨a1,a2,a3,a4⟩:=HS4.out _ F7.out;clear hcn hfr hF)))
   all_goals
    go_wp2
    go_meet
    exact⟨cb,F,H2.out.fin F7.out HCN.out HFF.out HTL.out⟩
  case rest =>
   obtain⟨cb,F,hcs⟩:=hcut
   have HCS:=Lib.hid hcs
   obtain⟨cax',cgx',hx4⟩:=hcs.hx
   obtain⟨cr4,hr4⟩:=hcs.rowf
   rw[HN.out] at hx4 hr4
   have HS5:Hid (∀ V,Frm [] wc V→V.cell? ⟨xb,2,none⟩=some (.slice (some ⟨gb,0,none⟩) n cgx')∧V.cell? ⟨gb,f,none⟩=some (.slice (some ⟨rb,0,none⟩) n cr4)∧V.cell? ⟨rb,t,none⟩=some (.pointer (some ⟨cb,0,none⟩))):=
    Lib.hid fun V hV=>⟨hV.keep (cell_of hx4 2),hV.keep hr4,hV.keep hcs.cht⟩
   clear hcs hx4 hr4 y1 hl1 hl2 hl3 hc3 hr3 HS4 CC H2
   go_upto_region 4 with fail
   refine wp_region_cq (by kernel_rfl) (by kernel_rfl) ?_
   repeat (first
    | go_big_quiet_skip
    | (refine wpQuiet_want (by rfl) (fun K hK=>?_)
       first
        | (refine quiet_move _ (by rfl) (hK _ ?_))
        | (refine quiet_assign _ (by rfl) (hK _ ?_))
        | (apply Exists.intro
           refine⟨fun w' hC=>?_,hK _ ?_⟩
           ·(unfold Oper.quietAt
             obtain⟨z1,z2,z3⟩:=HS5.out w' hC
             clear hC
             go_simp
             try exact⟨rfl,rfl⟩
             try rfl))
       clear hK K
       try simp only[nrm,Act.eval,nrq]))
   refine wpQuiet_nil ?_
   intro w9 hf9
   go_wp2
   go_ret2
   exact⟨_,rfl,xb,ab,gb,rb,cb,F,rfl,HCS.out.frm hf9⟩
end Go.Proofs.YtohfkhjlnlahdaaGreat
namespace Go.Proofs.YtohfkhjlnlahdaaGreat
open Go.RowKit Go.BigFrame
abbrev encM (m:Mv):Array Value:=#[.int .i64 m.kind,.int .i64 m.role,.int .i64 m.step,.int .i64 m.place]
theorem Tryz.undMv:Tryz.prog.underlying 44=some (.struct (Tryz.prog.fieldsOf 44)):=by kernel_rfl
set_option maxHeartbeats 1000000 in
set_option maxRecDepth 100000 in
theorem eql_move (a b:Mv) (w:World):(binOp .eql 44 (.agg (encM a)) (.agg (encM b))).run Tryz.prog w=.ok (.bool (decide (a=b))) w:=by
 have h:(Op.equalIn (9999 + 1) 44 (.agg (encM a)) (.agg (encM b))).run Tryz.prog w=.ok (decide (a=b)) w:=by
  rw[run_equalIn_struct w 9999 44 _ _ Tryz.undMv (by kernel_rfl)]
  simp[go_sem,encM,Tryz.underlying44]
  obtain⟨a1,a2,a3,a4⟩:=a
  obtain⟨b1,b2,b3,b4⟩:=b
  simp only[Mv.mk.injEq]
  repeat' split
  all_goals simp[*]
 simp only[binOp]
 simp[show Op.equal 44 (.agg (encM a)) (.agg (encM b))=Op.equalIn (9999 + 1) 44 (.agg (encM a)) (.agg (encM b)) from rfl,h]
set_option maxHeartbeats 1000000 in
theorem inMove_any (v:Value) (xs:List Mv) (y:Mv) (w:World) (h:Arr 4 MvAt w v xs) (hl:xs.length≤5000) :
  Calls Tryz.prog 121 #[v,.agg (encM y)] w (Ret (.int .i64 (ixf (fun x=>decide (y=x)) xs)) (Frm [] w)):=by
 obtain⟨ao,cap,rfl,hx⟩:=h
 have HX:=Lib.hid hx
 obtain⟨n,hn⟩:∃ n,xs.length=n:=⟨_,rfl⟩
 rw[hn] at hl ⊢
 have HN:=Lib.hid hn
 obtain⟨W0,hW0⟩:∃ W0,w.alloc (.cells (encM y) 44)=W0:=⟨_,rfl⟩
 have HW0:Hid (Frm [] w W0):=Lib.hid (by rw[← hW0];exact(Frm.refl _ _).alloc _)
 have HB:Hid (W0.heap[w.heap.size]?=some (.cells (encM y) 44 (0,0))):=Lib.hid (by rw[← hW0];exact heap_alloc_new w _)
 have HE:=Lib.hid hW0
 clear hx hn hW0
 go_enter Tryz.func121,Tryz.ntmps121
 go_wp2_with (refine wpList_box_row rfl 44 _ rfl (encM y) rfl ?_;rw[HE.out])
 clear HE
 go_loopw [8,5] (fun s8 s5 wr=>∃ i:Nat,s8=.int .i64 i∧i≤n∧Frm [] W0 wr∧∀ j x,j < i→xs[j]?=some x→decide (y=x)=false) (fun s8 _ _=>n - (intOf s8).toNat)
 case atStart=>exact⟨0,rfl,Nat.zero_le _,Frm.refl _ _,fun j x hj=>by omega⟩
 case round =>
  obtain⟨i,rfl,hi,hf,hno⟩:=hrel
  have HF:=Lib.hid hf;have HNO:=Lib.hid hno
  clear hf hno
  by_cases hlt:i < n
  ·have hlt':(i:Int) < (n:Int):=by omega
   obtain⟨x,hx⟩:∃ x,xs[i]?=some x:=⟨_,List.getElem?_eq_getElem (by rw[HN.out];exact hlt)⟩
   obtain⟨b,o,rfl,hat⟩:=HX.out i x hx
   obtain⟨c0,c1,c2,c3⟩:=hat.frm (HW0.out.trans HF.out)
   have hbb:=HF.out.at HB.out (by simp)
   have d0:wr.cell? ⟨w.heap.size,0,none⟩=some (.int .i64 y.kind):=cell_of hbb 0
   have d1:wr.cell? ⟨w.heap.size,1,none⟩=some (.int .i64 y.role):=cell_of hbb 1
   have d2:wr.cell? ⟨w.heap.size,2,none⟩=some (.int .i64 y.step):=cell_of hbb 2
   have d3:wr.cell? ⟨w.heap.size,3,none⟩=some (.int .i64 y.place):=cell_of hbb 3
   have hq:∀ V,(binOp .eql 44 (mvV y) (mvV x)).run Tryz.prog V=.ok (.bool (decide (y=x))) V:=fun V=>eql_move y x V
   have HXI:=Lib.hid hx
   clear hat hx hbb
   cases hpx:decide (y=x) with
   | true =>
     rw[hpx] at hq
     have HPX:=Lib.hid hpx
     clear hpx
     go_wp2
     go_quiet (fail)
     go_wp2
     go_ret
     exact⟨by rw[ixf_some HXI.out HPX.out HNO.out];rfl,HW0.out.trans (HF.out.drewN _)⟩
   | false =>
     rw[hpx] at hq
     have HPX:=Lib.hid hpx
     clear hpx
     go_wp2
     go_quiet (fail)
     go_wp2
     refine⟨⟨i + 1,by simp,hlt,HF.out.drewN _,fun j z hj hz=>?_⟩,by simp[intOf];omega⟩
     by_cases e:j=i
     ·subst e;rw[HXI.out] at hz;cases hz;exact HPX.out
     ·exact HNO.out j z (by omega) hz
  ·have hge:¬ (i:Int) < (n:Int):=by omega
   go_wp2
   go_ret
   refine⟨?_,HW0.out.trans HF.out⟩
   have e:=ixf_none (p:=fun x=>decide (y=x)) (l:=xs) fun x hx=>by
    obtain⟨j,hj⟩:=List.getElem?_of_mem hx
    exact HNO.out j x (by have:=lt_of_some hj;rw[HN.out] at this;omega) hj
   rw[e];rfl
theorem mem_ixm {xs:List Mv} {y:Mv}:decide (0≤ixf (fun x=>decide (y=x)) xs)=decide (y∈xs):=by
 by_cases h:y∈xs
 ·rw[decide_eq_true (ixf_ex (p:=fun x=>decide (y=x)) h (by simp)),decide_eq_true h]
 ·rw[decide_eq_false h,decide_eq_false]
  intro h2
  obtain⟨i,hi,-⟩:=ixf_nat h2
  obtain⟨x,h3,h4,-⟩:=ixf_at hi
  rw[decide_eq_true_eq] at h4
  subst h4
  exact h (List.mem_of_getElem? h3)
set_option maxHeartbeats 1000000 in
theorem coMove_any (v:Value) (xs:List Mv) (y:Mv) (w:World) (h:Arr 4 MvAt w v xs) (hl:xs.length≤5000) :
  Calls Tryz.prog 62 #[v,.agg (encM y)] w (Ret (.bool (decide (y∈xs))) (Frm [] w)):=by
 obtain⟨ao,cap,e,-⟩:=id h
 subst e
 have hf0:Frm [] w (w.alloc (.cells (encM y) 44)):=(Frm.refl _ _).alloc _
 have C1:=Lib.hid (inMove_any (.slice ao xs.length cap) xs y (w.alloc (.cells (encM y) 44)) (h.frm fun _ _ _ h=>h.frm hf0) hl)
 have HF0:=Lib.hid hf0
 rw[← mem_ixm]
 obtain⟨q,hq⟩:∃ q,ixf (fun x=>decide (y=x)) xs=q:=⟨_,rfl⟩
 rw[hq] at C1 ⊢
 have hb:(w.alloc (.cells (encM y) 44)).heap[w.heap.size]?=some (.cells (encM y) 44 (0,0)):=heap_alloc_new w _
 obtain⟨W0,hW0⟩:∃ W0,w.alloc (.cells (encM y) 44)=W0:=⟨_,rfl⟩
 rw[hW0] at C1 HF0 hb
 have HB:=Lib.hid hb
 have HW:=Lib.hid hW0
 clear h hf0 hq hW0 hb
 go_enter Tryz.func62,Tryz.ntmps62
 go_wp2_with (first
  | (refine wpList_box_row rfl 44 _ rfl (encM y) rfl ?_;rw[HW.out])
  | (refine wpList_load_whole rfl 44 _ rfl _ rfl _ 44 HB.out _ Tryz.underlying44 rfl (by kernel_rfl) ?_)
  | (go_at_call 121;go_must (refine C1.out.mono ?_;rintro e w1 ⟨rfl,hf1⟩;have HF1:=Lib.hid hf1;clear hf1)))
 go_ret
 exact⟨rfl,HF0.out.trans HF1.out⟩
end Go.Proofs.YtohfkhjlnlahdaaGreat
namespace Go.Proofs.YtohfkhjlnlahdaaGreat
open Go.RowKit Go.BigFrame
def StTo (w:World) (s:SesD) (yb:Nat) (y:PS) (v:Value) (w':World):Prop:=∃ xb,v=.tuple #[.pointer (some ⟨xb,0,none⟩),.int .i64 0]∧StR w' s yb xb y∧Frm [] w w'
section
variable {w W W':World} {s:SesD} {x:PS} {yb xb ab gb rb cb f t:Nat} {F F':List Nat} {L L':List ByteArray}
theorem ChS.step (h:ChS w s x yb xb ab gb rb cb f t F L W) (hx:PSok s x) (hf:f < s.roles.length) (ht:t < s.roles.length) {i b g p:Nat} {vs:List Int} (hi:i < s.roles.length) (ob:BnkO W b g ((s.rol i).ctrs.zip vs)) (hb:b≠ab) (hg:g≠ab) {y:PS}
  (hy:y={ pos:=x.pos.set i p,vals:=x.vals.set i vs,ways:=setWay x.ways f t L }) (ho:PSok s y) :
  StR ((W.setCell ⟨ab,i * 2,none⟩ (.int .i64 (p:Int))).setCell ⟨ab,i * 2 + 1,none⟩ (.pointer (some ⟨b,0,none⟩))) s yb xb y∧Frm [] w ((W.setCell ⟨ab,i * 2,none⟩ (.int .i64 (p:Int))).setCell ⟨ab,i * 2 + 1,none⟩ (.pointer (some ⟨b,0,none⟩))):=by
 obtain⟨cg,ca,h1,-⟩:=h.ways hx hf ht
 obtain⟨cur,ha⟩:=h.ha
 have hS:Frm [ab] W ((W.setCell ⟨ab,i * 2,none⟩ (.int .i64 (p:Int))).setCell ⟨ab,i * 2 + 1,none⟩ (.pointer (some ⟨b,0,none⟩))):=((Frm.refl [ab] W).setCell _ (.inl (by simp)) _).setCell _ (.inl (by simp)) _
 have hb2:=block_setCell (block_setCell ha (i * 2) (.int .i64 (p:Int))) (i * 2 + 1) (.pointer (some ⟨b,0,none⟩))
 obtain⟨W2,hW2⟩:∃ W2,(W.setCell ⟨ab,i * 2,none⟩ (.int .i64 (p:Int))).setCell ⟨ab,i * 2 + 1,none⟩ (.pointer (some ⟨b,0,none⟩))=W2:=⟨_,rfl⟩
 rw[hW2] at hS hb2 ⊢
 have nx:xb∉[ab]:=fun e=>by simp at e;subst e;rw[h1] at ha;cases ha
 obtain⟨⟨c1,f1,t1⟩,c2,f2,t2⟩:=h.types
 have ng:gb∉[ab]:=fun e=>by simp at e;subst e;rw[t1] at ha;cases ha
 have nr:rb∉[ab]:=fun e=>by simp at e;subst e;rw[t2] at ha;cases ha
 have nF:∀ k∈F,k∉[ab]:=fun k hk e=>by
  obtain⟨c,e',a1,a2⟩:=h.chn.types hk
  simp at e;subst e
  rw[ha] at a1;cases a1
  revert a2;decide
 have hfw:Frm [] w W2:=h.fr.then hS (by intro k hk;simp at hk;subst hk;exact .inr h.new.2.1)
 obtain⟨cr,hr⟩:=h.rowf
 have h':ChS w s x yb xb ab gb rb cb f t F L W→True:=fun _=>trivial
 have hsz:i * 2 + 1 < cur.size:=by
  obtain⟨bb,a1,a2,-⟩:=h.act i hi
  rw[cell_of ha] at a2
  exact(Array.getElem?_eq_some_iff.1 a2).1
 subst hy
 refine⟨⟨⟨_,_,hS.at h1 nx,⟨some ⟨ab,0,none⟩,ca,by rw[actsP_len],fun j a hj=>⟨ab,0,rfl,?_⟩⟩,some ⟨gb,0,none⟩,cg,by rw[setWay_length,hx.wl],fun j R hR=>⟨gb,0,rfl,?_⟩⟩,ho⟩,hfw⟩
 ·have hjl:j < s.roles.length:=by have:=lt_of_some hj;rwa [actsP_len] at this
  rw[actsP_at hjl] at hj
  cases hj
  rw[Nat.zero_add]
  by_cases e:j=i
  ·subst e
   refine⟨b,?_,?_,?_⟩
   ·rw[cell_of hb2,Array.getElem?_setIfInBounds_ne (by omega),Array.getElem?_setIfInBounds_self_of_lt (by omega)]
    simp only[PS.at]
    rw[List.getD_eq_getElem?_getD,List.getElem?_set_self (by rw[hx.pl];exact hi)]
    rfl
   ·rw[cell_of hb2,Array.getElem?_setIfInBounds_self_of_lt (by simp;omega)]
   ·have:=ob.frm hS (by simpa using hb) (by simpa using hg)
    simp only[PS.ctr,PS.bank]
    rw[List.getD_eq_getElem?_getD,List.getElem?_set_self (by rw[hx.vl];exact hi)]
    exact this.bnk
  ·obtain⟨bb,a1,a2,a3⟩:=h.act j hjl
   rw[cell_of ha] at a1 a2
   refine⟨bb,?_,?_,?_⟩
   ·rw[cell_of hb2,Array.getElem?_setIfInBounds_ne (by omega),Array.getElem?_setIfInBounds_ne (by omega),a1]
    simp only[PS.at]
    rw[List.getD_eq_getElem?_getD,List.getD_eq_getElem?_getD,List.getElem?_set_ne (fun h=>e h.symm)]
   ·rw[cell_of hb2,Array.getElem?_setIfInBounds_ne (by omega),Array.getElem?_setIfInBounds_ne (by omega),a2]
   ·have a3':=a3.frm hfw
    unfold PS.ctr PS.bank at a3' ⊢
    rw[List.getD_eq_getElem?_getD] at a3'
    simp only
    rw[List.getD_eq_getElem?_getD,List.getElem?_set_ne (fun h=>e h.symm)]
    exact a3'
 ·have hjl:=lt_of_some hR
  rw[setWay_length,hx.wl] at hjl
  rw[Nat.zero_add,Nat.mul_one]
  unfold setWay at hR
  rw[List.getElem?_set] at hR
  by_cases e:f=j
  ·subst e
   rw[if_pos rfl,if_pos (by rw[hx.wl];exact hjl)] at hR
   cases hR
   refine⟨_,hS.cellAt hr ng,some ⟨rb,0,none⟩,cr,by rw[List.length_set,hx.wr f hf],fun k M hM=>⟨rb,0,rfl,?_⟩⟩
   have hk:=lt_of_some hM
   rw[List.length_set,hx.wr f hf] at hk
   rw[Nat.zero_add,Nat.mul_one]
   rw[List.getElem?_set] at hM
   by_cases e2:t=k
   ·subst e2
    rw[if_pos rfl,if_pos (by rw[hx.wr f hf];exact hk)] at hM
    cases hM
    exact⟨cb,F,hS.cellAt h.cht nr,h.chn.frm hS nF⟩
   ·rw[if_neg e2] at hM
    obtain⟨c,G,a1,a2⟩:=h.chs k hk (fun e=>e2 e.symm)
    have:x.way f k=M:=by unfold PS.way wayOf;exact getD_some hM
    rw[this] at a2
    exact⟨c,G,hS.cellAt a1 nr,a2.frm hfw (by simp)⟩
  ·rw[if_neg e] at hR
   obtain⟨rv,a1,a2⟩:=h.row j hjl (fun e'=>e e'.symm)
   rw[getD_some hR] at a2
   exact⟨rv,hS.cellAt a1 ng,a2.frm hfw⟩
end
theorem setWay_self {ws:List (List (List ByteArray))} {i k:Nat} (hi:i < ws.length) (hk:k < (ws.getD i []).length):setWay ws i k (wayOf ws i k)=ws:=by
 unfold setWay wayOf
 have e1:(ws.getD i []).set k ((ws.getD i []).getD k [])=ws.getD i []:=by
  apply List.ext_getElem?
  intro j
  rw[List.getElem?_set]
  by_cases e:k=j
  ·subst e;rw[if_pos rfl,if_pos hk];exact(some_getD hk).symm
  ·rw[if_neg e]
 rw[e1]
 apply List.ext_getElem?
 intro j
 rw[List.getElem?_set]
 by_cases e:i=j
 ·subst e;rw[if_pos rfl,if_pos hi];exact(some_getD hi).symm
 ·rw[if_neg e]
end Go.Proofs.YtohfkhjlnlahdaaGreat
namespace Go.Proofs.YtohfkhjlnlahdaaGreat
open Go.RowKit Go.BigFrame
abbrev YB (w:World) (ob:Nat) (L:List UInt8) (W:World):Prop:=BO 26 5 1 w ob L.length (L.map u8) W
abbrev byT:List TypeId:=[26,5]
theorem YB.add {w W w1:World} {ob m:Nat} {L M:List UInt8} {ao:Option Addr} {cap:Nat} {o:Obj} {v':Value} (h:YB w ob L W) (h1:W.heap[ob]?=some (.cells #[.slice ao L.length cap] 26 (0,0))) (h2:W.ownsRow w.heap.size 5 1 (.slice ao L.length cap) L.length (L.map u8))
  (hg:(W.alloc o).grownBy w1 (Value.slice ao L.length cap).ownBlock) (hm:M.length=m) (ho:w1.ownsRow w.heap.size 5 1 v' (L.length + m) (L.map u8 ++ M.map u8)) :
  YB w ob (L ++ M) (w1.setCell ⟨ob,0,none⟩ v')∧Kt byT W (w1.setCell ⟨ob,0,none⟩ v'):=by
 have:=h.step h1 h2 (by decide) hg ho
 unfold YB
 rw[List.map_append,List.length_append,hm]
 exact this
theorem CtR.kt {B:Nat} {lv:Value} {l:List (CtrD × Int)} {W W':World} (h:CtR B lv l W) (hk:Kt byT W W'):CtR B lv l W':=by
 refine⟨hk.cells h.b (by decide),?_,fun ao n c e hn=>?_⟩
 ·obtain⟨ao,c,rfl,hx⟩:=h.a
  refine⟨ao,c,rfl,fun i x hi=>?_⟩
  obtain⟨b,o,e,a0,a1,a2⟩:=hx i x hi
  obtain⟨g,cur,e2,hg⟩:=h.t _ _ _ rfl (by have:=lt_of_some hi;omega)
  have ebg:g=b∧0=o:=by rw[e2] at e;injection e with e;injection e with e1 e3;exact⟨e1,e3⟩
  obtain⟨rfl,rfl⟩:=ebg
  have hg':=hk.cells hg (by decide)
  rw[cell_of hg] at a0 a1 a2
  exact⟨g,0,e2,(cell_of hg' _).trans a0,(cell_of hg' _).trans a1,(cell_of hg' _).trans a2⟩
 ·obtain⟨g,cur,e1,e2⟩:=h.t _ _ _ e hn
  exact⟨g,cur,e1,hk.cells e2 (by decide)⟩
theorem two_wrap {v:Int} (h0:0≤v) (h1:v≤65535):u8 (UInt8.ofNat (v.toNat / 256))=.int .u8 (v / 256)∧u8 (UInt8.ofNat (v.toNat % 256))=.int .u8 (v % 256):=by
 obtain⟨n,rfl⟩:=Int.eq_ofNat_of_zero_le h0
 unfold u8
 simp only[Int.toNat_natCast,UInt8.toNat_ofNat']
 constructor
 ·congr 1
  have:n / 256 < 256:=by omega
  rw[Nat.mod_eq_of_lt this];rfl
 ·congr 1
  have:n % 256 < 256:=by omega
  rw[Nat.mod_eq_of_lt this];rfl
theorem at_wrap {p:Nat} (h:p < 256):u8 (UInt8.ofNat p)=.int .u8 (p:Int):=by
 unfold u8
 rw[UInt8.toNat_ofNat',Nat.mod_eq_of_lt h]
end Go.Proofs.YtohfkhjlnlahdaaGreat
namespace Go.Proofs.YtohfkhjlnlahdaaGreat
open Go.RowKit Go.BigFrame Go.Lib
theorem strCells_byt (s:ByteArray):strCells s=(byt s).map u8:=rfl
theorem app_str {ty:TypeId} {W:World} {base:Nat} {v:Value} {xs:List UInt8} (ho:W.ownsRow base 5 1 v xs.length (xs.map u8)) (s:ByteArray) (hn:xs.length + s.size≤4000000) (hb:base≤W.heap.size) :
  ∃ v' W',(Builtin.append_ #[26,9] ty #[v,.string s]).run Tryz.prog W=.ok v' W'∧W'.ownsRow base 5 1 v' (xs ++ byt s).length ((xs ++ byt s).map u8)∧W.grownBy W' v.ownBlock:=by
 obtain⟨i0,hi0,hz0,hz1,hz2⟩:=info_parts Tryz.info5
 obtain⟨v',W',h1,h2,h3,-⟩:=run_append_own_string (P:=Tryz.prog) W base 26 9 ty 5 i0 Tryz.underlying26 Tryz.underlying9 hi0 hz0 hz1 hz2 v xs.length (xs.map u8) ho s (by unfold maxLen;omega) (by omega) hb
 refine⟨v',W',h1,?_,h3⟩
 rw[List.length_append,List.map_append,← strCells_byt]
 have:(byt s).length=s.size:=by unfold byt;simp
 rw[this]
 exact h2
theorem step_app_str {ops:Array Oper} {o:Oper} {a:Act} {w:World} {K:Act→World→Prop} {Q:Exit→Act→World→Prop} {E:Prop} (hgd:o.guard=none) (s x:Operand) (ho:o.op=.call { callee:=.builtin .append,args:=#[s,x],argTypes:=#[26,9] })
  (base:Nat) (v:Value) (sv:ByteArray) (hs:a.eval s=v) (hx:a.eval x=.string sv) (xs:List UInt8) (hown:w.ownsRow base 5 1 v xs.length (xs.map u8)) (hn:xs.length + sv.size≤4000000) (hb:base≤w.heap.size)
  (h:∀ ao cp w',w'.ownsRow base 5 1 (.slice ao (xs ++ byt sv).length cp) (xs ++ byt sv).length ((xs ++ byt sv).map u8)→w.grownBy w' v.ownBlock→K (a.put o.dst (.slice ao (xs ++ byt sv).length cp)) w'):if Region.wanted o (yielded ops a.tmps)=true then Oper.wp Tryz.prog o a w K Q else E:=by
 have hw:Region.wanted o (yielded ops a.tmps)=true:=by simp[Region.wanted,hgd]
 rw[if_pos hw]
 obtain⟨v',w',hrun,r1,r2⟩:=app_str (ty:=o.type) hown sv hn hb
 obtain⟨ao,cp,rfl⟩:=own_shape r1
 unfold Oper.wp
 simp[execOp,ho,resolve,invoke,builtin,hs,hx,hrun,Result.andThen]
 have hk:=h ao cp w' r1 r2
 rw[List.length_append] at hk
 exact hk
structure YP (w wr:World) (ob:Nat) (v0 v:Value) (L:List UInt8) (W:World):Prop where
 f:Frm [] w W
 b:W.heap[ob]?=some (.cells #[v0] 26 (0,0))
 o:W.ownsRow w.heap.size 5 1 v L.length (L.map u8)
 k:Kt byT wr W
section
variable {w wr W W':World} {ob:Nat} {v0 v:Value} {L l:List UInt8}
theorem YP.frm (h:YP w wr ob v0 v L W) (hf:Frm [] W W'):YP w wr ob v0 v L W':=⟨h.f.trans hf,hf.at h.b (by simp),hf.owns h.o (by simp),h.k.trans (Kt.frm hf)⟩
theorem YP.grow {v':Value} (h:YP w wr ob v0 v L W) (hg:W.grownBy W' v.ownBlock) (ho:W'.ownsRow w.heap.size 5 1 v' (L ++ l).length ((L ++ l).map u8)):YP w wr ob v0 v' (L ++ l) W':=by
 refine⟨h.f.grown hg (fun q hq=>.inr (ownBlock_ge h.o hq)),grown_at hg h.b (fun e'=>?_),ho,h.k.grown hg (fun q hq=>?_)⟩
 ·obtain⟨c,hc⟩:=ownBlock_type h.o e'
  have hb:=h.b
  rw[hb] at hc;cases hc
 ·obtain⟨c,hc⟩:=ownBlock_type h.o hq
  exact⟨c,5,(0,0),hc,by simp⟩
theorem YP.fin (h:YP w wr ob v0 v L W) (hn:w.heap.size≤ob):YB w ob L (W.setCell ⟨ob,0,none⟩ v)∧Kt byT wr (W.setCell ⟨ob,0,none⟩ v):=by
 obtain⟨ao',cp',rfl⟩:=own_shape h.o
 refine⟨⟨h.f.setCell _ (.inr hn) _,hn,ao',cp',(block_setCell h.b 0 _).trans rfl,?_⟩,h.k.set h.b (by simp) _⟩
 refine ownsRow_setCell_other h.o (fun e'=>?_) _
 obtain⟨c,hc⟩:=ownBlock_type h.o e'
 have hb:=h.b
 rw[hb] at hc;cases hc
end
set_option maxRecDepth 100000 in
theorem conv_own {W:World} {base:Nat} {ao:Option Addr} {cp:Nat} {L:List UInt8} (h:W.ownsRow base 5 1 (.slice ao L.length cp) L.length (L.map u8)) (hp:L.length≠0):(convert 26 9 (.slice ao L.length cp)).run Tryz.prog W=.ok (.string ⟨L.toArray⟩) W:=by
 obtain⟨g,c,cur,e,-,-⟩:=own_block h hp
 cases e
 exact run_convert_bytes_back _ 26 9 5 ⟨g,0,none⟩ cp L Tryz.underlying26 Tryz.underlying5 Tryz.underlying9 (fun j hj=>by
  have h1:=World.ownsRow.cellAt h j (by simpa using hj)
  rw[WideShapes.add_plain]
  rw[Nat.zero_add,h1]
  simp[u8,hj])
end Go.Proofs.YtohfkhjlnlahdaaGreat
