/- Part of the proof. -/
import Derived.Test.YtemjlpahohmajaaGreatJ27
import Derived.Test.YtemjlpahohmajaaGreatJ30
import Derived.Test.YtemjlpahohmajaaGreatJ29
import Derived.Test.YtemjlpahohmajaaGreatJ34
import Derived.Test.YtemjlpahohmajaaGreatJ35
import Derived.Test.YtemjlpahohmajaaGreatJ31
import Derived.Test.YtemjlpahohmajaaGreatJ32
import Derived.Lib.Builder
import Derived.Shelf.SortM.Plain
import Derived.Shelf.SortM.SortNone
import Derived.Sort.CutIn
import Derived.OrdersIn
import Derived.Lib.AppendStr
import Derived.Laws.OwnMore
import Derived.LaidEql
import Derived.Test.YtemjlpahohmajaaGreatJ16
import Derived.Test.YtemjlpahohmajaaGreatJ18
import Derived.Laws.StructEq
import Derived.Laws.EntriesVeiled
import Derived.Laws.Concat
set_option linter.all false
namespace Go.Proofs.YtemjlpahohmajaaGreat
open Go.RowKit Go.BigFrame
structure NewTo (w:World) (s:SesD) (u:Value) (w':World):Prop where
 out:∃ yb fb,u=.tuple #[pv yb,.int .i64 0]∧w.heap.size≤yb∧∀ V,Agree w.heap.size w' V→SyR V s yb fb
 frm:Frm [] w w'
def emR (n:Nat):List (List ByteArray):=List.replicate n []
def emW (n i:Nat):List (List (List ByteArray)):=List.replicate i (emR n)
theorem emR_succ (n:Nat):emR (n + 1)=emR n ++ [[]]:=by unfold emR;rw[List.replicate_succ']
theorem emW_succ (n i:Nat):emW n (i + 1)=emW n i ++ [emR n]:=by unfold emW;rw[List.replicate_succ']
theorem emW_first (s:SesD):(firstP s).ways=emW s.roles.length s.roles.length:=by
 unfold firstP emW emR
 simp only[List.map_const']
def acF (s:SesD) (i:Nat):List (Int × List (CtrD × Int)):=(s.roles.take i).map fun r=>(0,zeroC r.ctrs)
theorem acF_succ {s:SesD} {i:Nat} (h:i < s.roles.length):acF s (i + 1)=acF s i ++ [(0,zeroC (s.rol i).ctrs)]:=by
 unfold acF
 rw[List.take_add_one,SesD.rol_some h,List.map_append];rfl
theorem zip_zero (cs:List CtrD):cs.zip (cs.map fun _=>(0:Int))=zeroC cs:=by
 unfold zeroC
 induction cs with
 | nil=>rfl
 | cons c l ih=>simp only[List.map_cons,List.zip_cons_cons,ih]
theorem acF_first (s:SesD):actsP s (firstP s)=acF s s.roles.length:=by
 refine List.ext_getElem? fun i=>?_
 by_cases hi:i < s.roles.length
 ·rw[actsP_at hi]
  unfold acF
  rw[List.take_length,List.getElem?_map,SesD.rol_some hi]
  simp only[Option.map_some,Option.some.injEq,Prod.mk.injEq]
  have hv:(firstP s).at i=0:=by
   show ((s.roles.map fun _=>0).getD i 0)=0
   rw[List.getD_eq_getElem?_getD,List.getElem?_map,SesD.rol_some hi];rfl
  have hb:(firstP s).bank i=(s.rol i).ctrs.map fun _=>(0:Int):=by
   show ((s.roles.map fun r=>r.ctrs.map fun _=>(0:Int)).getD i [])=_
   rw[List.getD_eq_getElem?_getD,List.getElem?_map,SesD.rol_some hi];rfl
  refine⟨by rw[hv];rfl,?_⟩
  unfold PS.ctr
  rw[hb]
  exact zip_zero _
 ·rw[List.getElem?_eq_none (by rw[actsP_len];omega),List.getElem?_eq_none (by unfold acF;rw[List.length_map,List.take_length];omega)]
theorem rolOk_defs {s:SesD} {r:RolD} (h:RolOk s r):DefsOk r.ctrs:=
 ⟨h.c4,fun c hc e=>by
  have:=(h.cN c hc).1
  rw[e] at this
  revert this;decide,fun c hc=>(h.cN c hc).2,h.cU⟩
theorem Tryz.infoPC:(Tryz.prog.info? 149).map (fun i=>(i.zero,i.size,i.bytes))=some (some (.pointer none),1,8):=by kernel_rfl
theorem Tryz.infoRw:(Tryz.prog.info? 148).map (fun i=>(i.zero,i.size,i.bytes))=some (some (.slice none 0 0),1,24):=by kernel_rfl
theorem Tryz.infoAc:(Tryz.prog.info? 143).map (fun i=>(i.zero,i.size,i.bytes))=some (some (.agg #[.int .i64 0,.pointer none]),2,16):=by kernel_rfl
structure N1 (w2:World) (s:SesD) (Y:Array Value) (n i:Nat) (W:World):Prop where
 out:∃ rs,GO 140 148 1 w2 (w2.heap.size + 1) 2 #[pv w2.heap.size,.slice none 0 0,undef] i rs W∧WayC (w2.heap.size≤·) W s.cls s.cap rs (emW n i)
 y:W.heap[w2.heap.size]?=some (.cells Y 98 (0,0))
 fr:Frm [] w2 W
theorem N1.frm {w2 W V:World} {s:SesD} {Y:Array Value} {n i:Nat} (h:N1 w2 s Y n i W) (hf:Frm [] W V):N1 w2 s Y n i V:=by
 obtain⟨rs,h1,h2⟩:=h.out
 exact⟨⟨rs,h1.frm hf,h2.kp (Kp.of_frm0 hf) (by simp) (by simp) (by simp)⟩,hf.at h.y (by simp),h.fr.trans hf⟩
structure N2 (B:Nat) (wr:World) (s:SesD) (ao:Option Addr) (k cp:Nat) (W:World):Prop where
 out:∃ cells,W.ownsRow wr.heap.size 149 1 (.slice ao k cp) k cells∧RowC (B≤·) W s.cls s.cap cells (emR k)
 fr:Frm [] wr W
theorem N2.step {B:Nat} {wr W V w6:World} {s:SesD} {ao ao':Option Addr} {k cp cp' cb:Nat} {cells:List Value} (h:RowC (B≤·) W s.cls s.cap cells (emR k)) (ho:W.ownsRow wr.heap.size 149 1 (.slice ao k cp) k cells) (hw:Frm [] wr W)
  (hf:Frm [] W V) (hc:ChO (B≤·) V cb s.cls s.cap []) (hg:V.grownBy w6 (Value.slice ao k cp).ownBlock) (ho':w6.ownsRow wr.heap.size 149 1 (.slice ao' (k + 1) cp') (k + 1) (cells ++ [pv cb])):N2 B wr s ao' (k + 1) cp' w6:=by
 have hk:Kt [149] V w6:=(Kt.refl _ V).grown hg (fun q hq=>by
  obtain⟨c,hc⟩:=ownBlock_type (hf.owns ho (by simp)) hq
  exact⟨c,_,(0,0),hc,by simp⟩)
 refine⟨⟨_,ho',?_⟩,(hw.trans hf).grown hg (fun q hq=>.inr (ownBlock_ge ho hq))⟩
 rw[emR_succ]
 exact((h.kp (Kp.of_frm0 hf) (by simp) (by simp)).snoc hc).kp (Kp.of_kt hk) (by decide) (by decide)
structure N3 (w2:World) (s:SesD) (Y:Array Value) (wv:Value) (n i:Nat) (W:World):Prop where
 out:∃ cs,GO 140 143 2 w2 (w2.heap.size + 1) 1 #[pv w2.heap.size,undef,wv] i cs W∧ActC (w2.heap.size≤·) W cs (acF s i)
 ways:WaysO (w2.heap.size≤·) W s.cls s.cap wv (emW n n)
 y:W.heap[w2.heap.size]?=some (.cells Y 98 (0,0))
 fr:Frm [] w2 W
theorem N3.frm {w2 W V:World} {s:SesD} {Y:Array Value} {wv:Value} {n i:Nat} (h:N3 w2 s Y wv n i W) (hf:Frm [] W V):N3 w2 s Y wv n i V:=by
 obtain⟨rs,h1,h2⟩:=h.out
 exact⟨⟨rs,h1.frm hf,h2.kp (Kp.of_frm0 hf) (by simp) (by simp)⟩,h.ways.kp (Kp.of_frm0 hf) (by simp) (by simp) (by simp) (by simp),hf.at h.y (by simp),h.fr.trans hf⟩
theorem okC_of {s:SesD} (h:SesOk s):okC s.cls s.cap=true:=by
 unfold okC
 rw[decide_eq_true_iff]
 exact⟨h.c1,h.c3,h.k1,by have:=h.k4;omega⟩
set_option maxHeartbeats 8000000 in
set_option maxRecDepth 100000 in
theorem pNew_ok (v:Value) (s:SesD) (w:World) (h:SesV w v s) (hs:SmS s) (h0:ckSes s=0):Calls Tryz.prog 37 #[v] w (RetV (NewTo w s)):=by
 have HOK:=Lib.hid (ses_ok h0)
 obtain⟨rv,rfl,hr⟩:=h
 obtain⟨ao,cap,e,-⟩:=id hr
 subst e
 obtain⟨w0,hw0⟩:∃ w0,w.alloc (.cells #[.string s.name,.slice ao s.roles.length cap,.int .i64 s.cls,.int .i64 s.cap] 25)=w0:=⟨_,rfl⟩
 have hf0:Frm [] w w0:=by rw[← hw0];exact(Frm.refl _ _).alloc _
 have CS:=Lib.hid (rSes_any _ s w0 ⟨_,rfl,hr.frm hf0⟩ hs)
 have HB:Hid (w0.heap[w.heap.size]?=some (.cells #[.string s.name,.slice ao s.roles.length cap,.int .i64 s.cls,.int .i64 s.cap] 25 (0,0))):=Lib.hid (by rw[← hw0];exact heap_alloc_new _ _)
 have HF:=Lib.hid hf0
 have HRL:=Lib.hid hr
 have CO:Hid (∀ V,Frm [] w V→Calls Tryz.prog 81 #[.agg #[.string s.name,.slice ao s.roles.length cap,.int .i64 s.cls,.int .i64 s.cap]] V (RetV (OwTo V s))):=Lib.hid fun V hV =>
  pOwn_any s _ V ⟨_,rfl,HRL.out.frm hV⟩ (by have:=HOK.out.n2;omega) HOK.out.n4 (fun r hr=>by have:=hs.r r hr;exact⟨by have:=this.s;omega,by have:=this.c;omega,by have:=this.t;omega⟩)
 rw[h0] at CS
 obtain⟨n,hn⟩:∃ n,s.roles.length=n:=⟨_,rfl⟩
 rw[hn] at CS HB HRL CO hw0
 rw[hn]
 have HN:=Lib.hid hn
 have HE:=Lib.hid hw0
 clear hr hs hf0 hn h0 hw0
 go_enter Tryz.func37,Tryz.ntmps37
 go_upto_region 6 with (first
  | (refine wpList_box_row rfl 25 _ rfl _ rfl ?_;rw[HE.out])
  | (refine wpList_load_whole rfl 25 _ rfl _ rfl _ 25 HB.out _ Tryz.underlying25 rfl (by kernel_rfl) ?_)
  | (refine wpList_load_whole rfl 25 _ rfl _ rfl _ 25 HB1.out _ Tryz.underlying25 rfl (by kernel_rfl) ?_)
  | (go_at_call 80;go_must (refine CS.out.mono ?_;rintro e w1 ⟨u,rfl,i,rfl,hf1⟩;have HF1:=Lib.hid (HF.out.trans hf1);have HB1:=Lib.hid (hf1.at HB.out (by simp));clear hf1 HB))
  | (go_at_call 81;go_must (refine(CO.out _ HF1.out).mono ?_;rintro e w2 ⟨u,rfl,ho⟩;obtain⟨g,cg,rfl⟩:=ho.shape;have HO:=Lib.hid ho;have HF2:=Lib.hid (HF1.out.trans ho.frm);have HB2:=Lib.hid (ho.frm.at HB1.out (by simp));clear ho)))
 obtain⟨X0,hX0⟩:∃ X0,(w2.alloc (.cells #[.string s.name,.slice (some ⟨g,0,none⟩) s.roles.length cg,.int .i64 s.cls,.int .i64 s.cap,.pointer none] 98)).alloc (.cells #[pv w2.heap.size,.slice none 0 0,.slice none 0 0] 140)=X0:=⟨_,rfl⟩
 have hfx:Frm [] w2 X0:=by rw[← hX0];exact((Frm.refl _ _).alloc _).alloc _
 have HX:Hid (N1 w2 s #[.string s.name,.slice (some ⟨g,0,none⟩) s.roles.length cg,.int .i64 s.cls,.int .i64 s.cap,.pointer none] n 0 X0):=Lib.hid ⟨⟨[],GO.made hfx (by omega) (by rw[← hX0];exact alloc_top (by simp)) rfl,WayC.nil⟩,by rw[← hX0];exact alloc_at (heap_alloc_new _ _),hfx⟩
 have HEX:=Lib.hid hX0
 obtain⟨Y,hY⟩:∃ Y:Array Value,#[.string s.name,.slice (some ⟨g,0,none⟩) s.roles.length cg,.int .i64 s.cls,.int .i64 s.cap,.pointer none]=Y:=⟨_,rfl⟩
 rw[hY] at HX
 have HY:=Lib.hid hY
 have HC:Hid (∀ V,Frm [] w2 V→V.cell? ⟨w.heap.size,1,none⟩=some (.slice ao n cap)∧V.cell? ⟨w.heap.size,2,none⟩=some (.int .i64 s.cls)∧V.cell? ⟨w.heap.size,3,none⟩=some (.int .i64 s.cap)):=Lib.hid fun V hV=>by
  have hb:=hV.at HB2.out (by simp)
  exact⟨cell_of hb 1,cell_of hb 2,cell_of hb 3⟩
 clear hfx hX0 hY CS CO HB1
 rw[HEX.out]
 clear HEX
 obtain⟨e1,e2,e3⟩:=HC.out X0 HX.out.fr
 have hw9:wrap64 ((n:Int) + 1)=(n:Int) + 1:=by have:=HOK.out.n4;have:=HN.out;unfold wrap64;omega
 clear hw9
 go_wp2
 clear e1 e2 e3
 go_loopw [33] (fun s33 wl=>∃ i:Nat,s33=.int .i64 i∧i≤n∧N1 w2 s Y n i wl) (fun s33 _=>n - (intOf s33).toNat)
 case atStart=>exact⟨0,rfl,Nat.zero_le _,HX.out⟩
 case round =>
  obtain⟨i,rfl,hi,hrel⟩:=hrel
  have HR:=Lib.hid hrel
  clear hrel HX
  obtain⟨w1',hw1'⟩:∃ w1',w1'=wr:=⟨_,rfl⟩
  subst hw1'
  by_cases hlt:i < n
  ·have hlt':(i:Int) < (n:Int):=by omega
   obtain⟨e1,e2,e3⟩:=HC.out w1' HR.out.fr
   go_wp2
   clear e1 e2 e3
   go_loopw [8,38] (fun s8 s38 wl=>∃ (k:Nat) (a8:Option Addr) (c8:Nat),s38=.int .i64 k∧k≤n∧s8=.slice a8 k c8∧N2 w2.heap.size w1' s a8 k c8 wl) (fun _ s38 _=>n - (intOf s38).toNat)
   case atStart=>exact⟨0,none,0,rfl,Nat.zero_le _,rfl,⟨⟨[],World.ownsRow_nil _ _ _ _,RowC.nil⟩,Frm.refl _ _⟩⟩
   case round =>
    obtain⟨k,a8,c8,rfl,hk,rfl,hrel⟩:=hrel
    have HK:=Lib.hid hrel
    clear hrel
    by_cases hltk:k < n
    ·have hltk':(k:Int) < (n:Int):=by omega
     obtain⟨e1,e2,e3⟩:=HC.out wr (HR.out.fr.trans HK.out.fr)
     have CN:=Lib.hid (new_ok s.cls s.cap wr (okC_of HOK.out))
     obtain⟨cells,hro,hrc⟩:=HK.out.out
     have HRO:=Lib.hid hro;have HRC:=Lib.hid hrc
     have hsz2:=(HR.out.fr.trans HK.out.fr).size
     have hk4:k≤4:=by have:=HOK.out.n4;have:=HN.out;omega
     obtain⟨i0,hi0,hz0,hz1,hz2⟩:=info_parts Tryz.infoPC
     clear hro hrc
     go_wp2_with (first
      | (go_at_call 82;go_must (refine CN.out.mono ?_;rintro e w3 ⟨rfl,hf3,hc3⟩;have HF3:=Lib.hid hf3;have HC3:Hid (ChO (w2.heap.size≤·) w3 wr.heap.size s.cls s.cap []):=Lib.hid ⟨_,hc3,by intro x hx;simp at hx;omega⟩;clear hf3 hc3 CN e1 e2 e3))
      | (at_builtin;refine wpList_append_own_at _ rfl _ _ 148 rfl w1'.heap.size 149 i0 (.pointer none) 1 8 Tryz.underlying148 hi0 hz0 hz1 hz2 rfl (by decide) (.slice a8 k c8) k cells rfl ((HF3.out.alloc _).owns HRO.out (by simp)) ⟨w3.heap.size,0,none⟩ 1 1 [pv wr.heap.size] rfl rfl (new_row _ _ _) (by simp[Value.oneCell']) (by unfold maxLen;omega) (by omega) (by have:=HK.out.fr.size;have:=HF3.out.size;simp;omega) ?_;intro v' w6 hown' hgrow _ _;obtain⟨a9,c9,rfl⟩:=own_shape hown';have HST:=Lib.hid (N2.step (cb:=wr.heap.size) HRC.out HRO.out HK.out.fr (HF3.out.alloc _) (HC3.out.kp (Kp.of_frm0 ((Frm.refl [] w3).alloc _)) (by simp) (by simp)) hgrow hown');clear hown' hgrow))
     exact⟨⟨k + 1,a9,c9,congrArg (Value.int .i64) (by omega),hltk,rfl,HST.out⟩,by simp[intOf];omega⟩
    ·obtain rfl:k=n:=by omega
     have hge:¬ (k:Int) < (k:Int):=by omega
     have HR2:=Lib.hid (HR.out.frm HK.out.fr)
     have HRW:Hid (RowO (w2.heap.size≤·) wr s.cls s.cap (.slice a8 k c8) (emR k)):=Lib.hid (by
      obtain⟨cells,h1,h2⟩:=HK.out.out
      have hl:(emR k).length=k:=by unfold emR;rw[List.length_replicate]
      exact⟨_,cells,by rw[hl];exact h1,fun q hq=>Nat.le_trans HR.out.fr.size (ownBlock_ge h1 hq),h2⟩)
     obtain⟨rs,hgo,hwc⟩:=HR2.out.out
     obtain⟨ab,cb,hb1,hb2⟩:=hgo.bx
     have hb1':wr.heap[w2.heap.size + 1]?=some (.cells #[pv w2.heap.size,.slice none 0 0,.slice ab i cb] 140 (0,0)):=hb1
     have HGO:=Lib.hid hgo;have HWC:=Lib.hid hwc;have HB1:=Lib.hid hb1;have HO1:=Lib.hid hb2
     have cx:=cell_of hb1' 2
     have fx:=free_of hb1' 2
     have hk4:i≤4:=by have:=HOK.out.n4;have:=HN.out;omega
     obtain⟨i0,hi0,hz0,hz1,hz2⟩:=info_parts Tryz.infoRw
     clear hgo hwc hb1 hb2 hb1'
     go_wp2_with (at_builtin;refine wpList_append_own_at _ rfl _ _ 138 rfl w2.heap.size 148 i0 (.slice none 0 0) 1 24 Tryz.underlying138 hi0 hz0 hz1 hz2 rfl (by decide) (.slice ab i cb) i rs rfl (HO1.out.alloc _) ⟨wr.heap.size,0,none⟩ 1 1 [.slice a8 k c8] rfl rfl (new_row _ _ _) (by simp[Value.oneCell']) (by unfold maxLen;omega) (by omega) (by have:=HR2.out.fr.size;simp;omega) ?_;intro v' w6 hown' hgrow _ _;obtain⟨ao',cp',rfl⟩:=own_shape hown';have hs:=GO.step HGO.out HB1.out HO1.out (by decide) ((Frm.refl [] wr).alloc _) hgrow hown';have hbx:w6.heap[w2.heap.size + 1]?=some (.cells #[pv w2.heap.size,.slice none 0 0,.slice ab i cb] 140 (0,0)):=GO.facts HB1.out HO1.out (by decide) ((Frm.refl [] wr).alloc _) hgrow;have cx6:=cell_of hbx 2;have fx6:=free_of hbx 2;have HS:=Lib.hid hs;clear hs hbx hown' hgrow cx)
     refine⟨⟨i + 1,congrArg (Value.int .i64) (by omega),hlt,?_⟩,by simp[intOf];omega⟩
     refine⟨⟨_,HS.out.1,?_⟩,HS.out.2.cells HR2.out.y (by decide),HS.out.1.fr⟩
     rw[emW_succ]
     exact(HWC.out.snoc HRW.out).kp (Kp.of_kt HS.out.2) (by decide) (by decide) (by decide)
  ·obtain rfl:i=n:=by omega
   have hge:¬ (i:Int) < (i:Int):=by omega
   obtain⟨e1,e2,e3⟩:=HC.out w1' HR.out.fr
   go_wp2
   clear e1 e2 e3
   obtain⟨rs,hgo,hwc⟩:=HR.out.out
   obtain⟨ab,cb,hb1,hb2⟩:=hgo.bx
   have hb1':w1'.heap[w2.heap.size + 1]?=some (.cells #[pv w2.heap.size,.slice none 0 0,.slice ab i cb] 140 (0,0)):=hb1
   have HN3:Hid (N3 w2 s Y (.slice ab i cb) i 0 w1'):=Lib.hid ⟨⟨[],GO.made HR.out.fr (by omega) hb1' rfl,ActC.nil⟩,⟨w2.heap.size,rs,by unfold emW;rw[List.length_replicate];exact hb2,fun q hq=>ownBlock_ge hb2 hq,hwc⟩,HR.out.y,HR.out.fr⟩
   clear hgo hwc hb1 hb2 hb1' HR hge
   obtain⟨wv,hwv⟩:∃ v,Value.slice ab i cb=v:=⟨_,rfl⟩
   have HWV:=Lib.hid hwv
   rw[hwv] at HN3
   clear hwv
   go_loopw [67] (fun s67 wl=>∃ k:Nat,s67=.int .i64 k∧k≤i∧N3 w2 s Y wv i k wl) (fun s67 _=>i - (intOf s67).toNat)
   case atStart=>exact⟨0,rfl,Nat.zero_le _,HN3.out⟩
   case round =>
    obtain⟨k,rfl,hk,hrel⟩:=hrel
    have HR:=Lib.hid hrel
    clear hrel HN3
    obtain⟨w9,hw9⟩:∃ w9,w9=wr:=⟨_,rfl⟩
    subst hw9
    by_cases hlt:k < i
    ·have hlt':(k:Int) < (i:Int):=by omega
     have hin:k < s.roles.length:=by rw[HN.out];exact hlt
     have hfw:Frm [] w w9:=HF2.out.trans HR.out.fr
     obtain⟨b,o,sv,cv,tv,rfl,⟨d0,d1,d2,d3⟩,h3⟩:=Rls.at (HRL.out.frm hfw) hin
     obtain⟨aS,cs,es,-⟩:=id h3.sts
     obtain⟨ac,cc,ec,-⟩:=id h3.ctrs
     obtain⟨at',ct,et,-⟩:=id h3.steps
     subst es;subst ec;subst et
     have CB:Hid (∀ V,Frm [] w9 V→Calls Tryz.prog 83 #[.slice ac (s.rol k).ctrs.length cc] V (RetV (NwTo V (zeroC (s.rol k).ctrs)))):=Lib.hid fun V hV=>bNew_any _ (s.rol k).ctrs V (h3.frm hV).ctrs (rolOk_defs (HOK.out.at hin))
     have HSN:=Lib.hid (acF_succ hin)
     have HZL:=Lib.hid (zeroC_length (s.rol k).ctrs)
     obtain⟨L,hL⟩:∃ L,zeroC (s.rol k).ctrs=L:=⟨_,rfl⟩
     rw[hL] at CB HSN
     obtain⟨nm,hnm⟩:∃ q,(s.rol k).name=q:=⟨_,rfl⟩
     obtain⟨n1,hn1⟩:∃ q,(s.rol k).sts.length=q:=⟨_,rfl⟩
     obtain⟨n2,hn2⟩:∃ q,(s.rol k).ctrs.length=q:=⟨_,rfl⟩
     obtain⟨n3,hn3⟩:∃ q,(s.rol k).steps.length=q:=⟨_,rfl⟩
     rw[hnm] at d0;rw[hn1] at d1;rw[hn2] at CB d2;rw[hn3] at d3
     obtain⟨cs0,hgo,hac⟩:=HR.out.out
     obtain⟨av,cav,hb1,hb2⟩:=hgo.bx
     have HAC:=Lib.hid hac
     have hi4:k≤4:=by have:=HOK.out.n4;omega
     obtain⟨i0,hi0,hz0,hz1,hz2⟩:=info_parts Tryz.infoAc
     clear h3 hin hL hnm hn1 hn2 hn3 hgo hac hb1 hb2 hfw
     have HF9:Hid (Frm [] w9 (w9.alloc (.cells #[.string nm,.slice aS n1 cs,.slice ac n2 cc,.slice at' n3 ct] 86))):=Lib.hid ((Frm.refl _ _).alloc _)
     go_upto_region 20 with (first
      | (go_at_call 83;go_must (refine(CB.out _ HF9.out).mono ?_;rintro e w3 ⟨u,rfl,bb,rfl,hg3⟩;have HF3:Hid (Frm [] w9 w3):=Lib.hid (HF9.out.trans hg3.fr);have HBK:Hid (BkO (w2.heap.size≤·) w3 bb L):=Lib.hid (hg3.bko (fun q hq=>Nat.le_trans (HR.out.fr.trans HF9.out).size hq));clear hg3)))
     have HR3:=Lib.hid (HR.out.frm HF3.out)
     obtain⟨cs1,hgo,hac⟩:=HR3.out.out
     obtain⟨av,cav,hb1,hb2⟩:=hgo.bx
     have hb1':w3.heap[w2.heap.size + 1]?=some (.cells #[pv w2.heap.size,.slice av k cav,wv] 140 (0,0)):=hb1
     have HGO:=Lib.hid hgo;have HAC:=Lib.hid hac;have HB1:=Lib.hid hb1;have HO1:=Lib.hid hb2
     have cx:=cell_of hb1' 1
     have fx:=free_of hb1' 1
     clear hgo hac hb1 hb2 hb1' d0 d1 d2 d3
     go_wp2_with (at_builtin;refine wpList_append_own_at _ rfl _ _ 137 rfl w2.heap.size 143 i0 (.agg #[.int .i64 0,.pointer none]) 2 16 Tryz.underlying137 hi0 hz0 hz1 hz2 rfl (by decide) (.slice av k cav) k cs1 rfl (HO1.out.alloc _) ⟨w3.heap.size,0,none⟩ 1 1 [.int .i64 0,pv bb] rfl rfl (new_row _ _ _) (by simp[Value.oneCell']) (by unfold maxLen;omega) (by omega) (by have:=HR3.out.fr.size;simp;omega) ?_;intro v' w6 hown' hgrow _ _;obtain⟨ao',cp',rfl⟩:=own_shape hown';have hs:=GO.step HGO.out HB1.out HO1.out (by decide) ((Frm.refl [] w3).alloc _) hgrow hown';have hbx:w6.heap[w2.heap.size + 1]?=some (.cells #[pv w2.heap.size,.slice av k cav,wv] 140 (0,0)):=GO.facts HB1.out HO1.out (by decide) ((Frm.refl [] w3).alloc _) hgrow;have cx6:=cell_of hbx 1;have fx6:=free_of hbx 1;have HS:=Lib.hid hs;clear hs hbx hown' hgrow cx)
     refine⟨⟨k + 1,congrArg (Value.int .i64) (by omega),hlt,?_⟩,by simp[intOf];omega⟩
     refine⟨⟨_,HS.out.1,?_⟩,HR3.out.ways.kp (Kp.of_kt HS.out.2) (by decide) (by decide) (by decide) (by decide),HS.out.2.cells HR3.out.y (by decide),HS.out.1.fr⟩
     rw[HSN.out]
     exact(HAC.out.snoc HBK.out).kp (Kp.of_kt HS.out.2) (by decide) (by decide)
    ·obtain rfl:k=i:=by omega
     have hge:¬ (k:Int) < (k:Int):=by omega
     have hy:=HR.out.y
     rw[← HY.out] at hy
     have HYB:=Lib.hid hy
     have cy:=cell_of hy 4
     have fy:=free_of hy 4
     clear hy
     go_wp2
     go_ret2
     refine⟨_,rfl,?_⟩
     obtain⟨cs1,hgo,hac⟩:=HR.out.out
     obtain⟨av,cav,hb1,hb2⟩:=hgo.bx
     have hkt:Kt [98] w9 (w9.setCell ⟨w2.heap.size,4,none⟩ (pv (w2.heap.size + 1))):=(Kt.refl _ _).set HYB.out (by simp) _
     have hfw:Frm [] w2 (w9.setCell ⟨w2.heap.size,4,none⟩ (pv (w2.heap.size + 1))):=HR.out.fr.setCell _ (.inr (Nat.le_refl _)) _
     refine⟨⟨w2.heap.size,w2.heap.size + 1,rfl,HF2.out.size,fun V hV=>?_⟩,HF2.out.trans hfw⟩
     have hV2:Agree w.heap.size w2 V:=hV.old hfw (by simp)
     obtain⟨rv,hrv,hrl⟩:=HO.out.ses V (hV2.low HF1.out.size)
     simp only[Value.agg.injEq,Array.mk.injEq,List.cons.injEq,true_and,and_true] at hrv
     subst hrv
     have hst:StO (w2.heap.size≤·) (w9.setCell ⟨w2.heap.size,4,none⟩ (pv (w2.heap.size + 1))) s w2.heap.size (w2.heap.size + 1) (firstP s):=by
      refine⟨⟨_,wv,hkt.cells hb1 (by decide),Nat.le_succ _,?_,?_⟩,first_ok HOK.out⟩
      ·rw[acF_first,HN.out]
       refine ActsO.kp ⟨w2.heap.size,cs1,?_,fun q hq=>ownBlock_ge hb2 hq,hac⟩ (Kp.of_kt hkt) (by decide) (by decide) (by decide)
       rw[show (acF s k).length=k by unfold acF;rw[List.length_map,List.length_take,HN.out,Nat.min_self]]
       exact hb2
      ·rw[emW_first,HN.out]
       exact HR.out.ways.kp (Kp.of_kt hkt) (by decide) (by decide) (by decide) (by decide)
     refine⟨⟨_,?_,hrl⟩,HOK.out,(hst.kp (Kp.of_agree hV (fun q hq=>Nat.le_trans HF2.out.size hq))).str⟩
     have hyb:=(block_setCell HYB.out 4 (pv (w2.heap.size + 1)))
     exact(hV _ HF2.out.size (lt_of_block hyb)).trans hyb
end Go.Proofs.YtemjlpahohmajaaGreat
namespace Go.Proofs.YtemjlpahohmajaaGreat
open Go.RowKit Go.BigFrame
def chE (s:SesD):Nat→List Value
 | 0=>[]
 | k + 1=>chE s k ++ [.int .i64 s.cls,.int .i64 s.cap,.slice none 0 0]
theorem chE_len (s:SesD):∀ k,(chE s k).length=k * 3
 | 0=>rfl
 | k + 1=>by rw[chE,List.length_append,chE_len s k,Nat.add_mul];rfl
theorem chE_at (s:SesD) {j:Nat}:∀ k,j < k→(chE s k)[j * 3]?=some (.int .i64 s.cls)∧(chE s k)[j * 3 + 1]?=some (.int .i64 s.cap)∧(chE s k)[j * 3 + 2]?=some (.slice none 0 0)
 | 0,h=>by omega
 | k + 1,h=>by
   have hl:=chE_len s k
   rw[chE]
   by_cases e:j=k
   ·subst e
    rw[List.getElem?_append_right (by omega),List.getElem?_append_right (by omega),List.getElem?_append_right (by omega),hl,Nat.sub_self,show j * 3 + 1 - j * 3=1 by omega,show j * 3 + 2 - j * 3=2 by omega]
    exact⟨rfl,rfl,rfl⟩
   ·rw[List.getElem?_append_left (by omega),List.getElem?_append_left (by omega),List.getElem?_append_left (by omega)]
    exact chE_at s k (by omega)
theorem chE_row {X:World} {s:SesD} {B g c i:Nat} (ho:X.ownsRow B 190 3 (.slice (some ⟨g,0,none⟩) s.roles.length c) s.roles.length (chE s s.roles.length)):Arr 3 (RcAt s.cls s.cap X) X (.slice (some ⟨g,0,none⟩) s.roles.length c) (rowL s (firstP s) i):=by
 refine⟨_,c,by rw[rowL_len],fun k y hy=>⟨g,0,rfl,?_⟩⟩
 obtain⟨hk,rfl⟩:=range_map_at hy
 obtain⟨q0,q1,q2⟩:=chE_at s _ hk
 rw[Nat.zero_add,first_way]
 exact⟨_,own_at ho q0,own_at ho q1,own_at ho q2,.inl (World.ownsRow_nil _ _ _ _)⟩
theorem Tryz.infoRb:(Tryz.prog.info? 185).map (fun i=>(i.zero,i.size,i.bytes))=some (some (.agg #[.slice none 0 0,.slice none 0 0]),2,48):=by kernel_rfl
theorem Tryz.infoRn:(Tryz.prog.info? 190).map (fun i=>(i.zero,i.size,i.bytes))=some (some (.agg #[.int .i64 0,.int .i64 0,.slice none 0 0]),3,40):=by kernel_rfl
set_option maxHeartbeats 16000000 in
set_option maxRecDepth 100000 in
theorem qFirst_any (s:SesD) (v:Value) (w:World) (h:SesV w v s) (hok:SesOk s):Calls Tryz.prog 46 #[v] w (RetV fun u w'=>RSt w.heap.size w' s u (firstP s)∧Frm [] w w'):=by
 obtain⟨rv,rfl,hr⟩:=h
 obtain⟨ao,cap,rfl⟩:=hr.shape
 obtain⟨n,hn⟩:∃ n,s.roles.length=n:=⟨_,rfl⟩
 have h2:2≤n:=hn ▸ hok.n2
 have h4:n≤4:=hn ▸ hok.n4
 obtain⟨W0,hW0⟩:∃ W0,((w.alloc (.cells #[.string s.name,.slice ao s.roles.length cap,.int .i64 s.cls,.int .i64 s.cap] 25)).alloc (.cells #[.slice none 0 0,.slice none 0 0,.slice none 0 0] 125)).alloc (.cells #[.slice none 0 0,.slice none 0 0,.slice none 0 0] 125)=W0:=⟨_,rfl⟩
 have hf0:Frm [] w W0:=by rw[← hW0];exact(((Frm.refl _ _).alloc _).alloc _).alloc _
 have hb1:W0.heap[w.heap.size]?=some (.cells #[.string s.name,.slice ao s.roles.length cap,.int .i64 s.cls,.int .i64 s.cap] 25 (0,0)):=by rw[← hW0];exact alloc_at (alloc_at (heap_alloc_new _ _))
 have hb2:W0.heap[w.heap.size + 1]?=some (.cells #[.slice none 0 0,.slice none 0 0,.slice none 0 0] 125 (0,0)):=by rw[← hW0];exact alloc_at (alloc_top (by simp))
 have hb3:W0.heap[w.heap.size + 2]?=some (.cells #[.slice none 0 0,.slice none 0 0,.slice none 0 0] 125 (0,0)):=by rw[← hW0];exact alloc_top (by simp)
 have hl3:=lt_of_block hb3
 have HQ0:Hid (QF w W0 s 0 0 W0):=Lib.hid ⟨Frm.refl _ _,none,0,none,0,none,0,fun _=>0,[],hb3,World.ownsRow_nil _ _ _ _,World.ownsRow_nil _ _ _ _,fun j hj=>by omega,⟨[],World.ownsRow_nil _ _ _ _,fun j hj=>by omega⟩,RW.zero _ _ _ _ _⟩
 have HF0:=Lib.hid hf0;have HOK:=Lib.hid hok;have HN:=Lib.hid hn
 have HR:Hid (∀ V,Frm [] w V→Rls V (.slice ao s.roles.length cap) s.roles):=Lib.hid fun V hV=>hr.frm hV
 have HS1:Hid (∀ V,Frm [w.heap.size + 2] W0 V→(V.cell? ⟨w.heap.size,1,none⟩=some (.slice ao n cap)∧V.cell? ⟨w.heap.size,2,none⟩=some (.int .i64 s.cls))∧V.cell? ⟨w.heap.size,3,none⟩=some (.int .i64 s.cap)):=Lib.hid fun V hV=>by
  have hz:=hV.at hb1 (by simp)
  exact⟨⟨(cell_of hz 1).trans (by rw[hn];rfl),cell_of hz 2⟩,cell_of hz 3⟩
 have HB2:Hid (∀ V,Frm [w.heap.size + 2] W0 V→V.heap[w.heap.size + 1]?=some (.cells #[.slice none 0 0,.slice none 0 0,.slice none 0 0] 125 (0,0))):=Lib.hid fun V hV=>hV.at hb2 (by simp)
 have HW:Hid (∀ V,Frm [w.heap.size + 2] W0 V→Frm [] w V):=Lib.hid fun V hV=>hf0.then hV (by intro k hk;simp at hk;subst hk;exact .inr (by omega))
 have HE:=Lib.hid hW0
 rw[hn] at HE HR
 rw[hn]
 have hlw:w.heap.size + 2 < W0.heap.size:=hl3
 clear hr hn hok hW0 hf0 hb1 hb2 hb3 hl3
 go_enter Tryz.func46,Tryz.ntmps46
 go_upto_region 2 with fail
 rw[HE.out]
 clear HE
 go_upto_region 3 with fail
 go_loopw [4] (fun s4 wr=>∃ i:Nat,s4=.int .i64 i∧i≤n∧QF w W0 s i i wr) (fun s4 _=>n - (intOf s4).toNat)
 case atStart=>exact⟨0,rfl,Nat.zero_le _,HQ0.out⟩
 case round =>
  clear HQ0
  obtain⟨i,rfl,hi,hq⟩:=hrel
  have HQ:=Lib.hid hq
  clear hq
  obtain⟨wl,hwl⟩:∃ wl,wl=wr:=⟨_,rfl⟩
  subst hwl
  obtain⟨⟨e1,-⟩,-⟩:=HS1.out wl HQ.out.fr
  by_cases hlt:i < n
  ·have hlt':(i:Int) < (n:Int):=by omega
   have hin:i < s.roles.length:=by rw[HN.out];exact hlt
   obtain⟨b,o,sv,cv,tv,rfl,⟨-,-,d2,-⟩,h3⟩:=Rls.at (HR.out wl (HW.out wl HQ.out.fr)) hin
   obtain⟨ac,kc,ec⟩:=h3.ctrs.shape
   subst ec
   have CN:=Lib.hid (jNew_any _ (s.rol i).ctrs wl h3.ctrs (rolOk_defs (HOK.out.at hin)))
   clear h3
   go_upto_region 6 with (first
    | (go_at_call 87;go_must (refine CN.out.mono ?_;clear CN;rintro e w1 ⟨u,rfl,dv,vv,rfl,hd,hv,hf1⟩;obtain⟨a1,k1,rfl⟩:=own_shape hd;obtain⟨a2,k2,rfl⟩:=own_shape hv;have HD:=Lib.hid hd;have HV:=Lib.hid hv;have HF1:=Lib.hid hf1;clear hd hv hf1))
    | (refine wpList_store_row rfl 185 _ _ rfl _ _ _ _ rfl rfl (heap_alloc_new _ _) rfl (by kernel_rfl) (one2 ..) ?_;intro w2 hb2 hf2;have HBT:=Lib.hid hb2;have HF2:=Lib.hid hf2;clear hb2 hf2))
   clear e1 d2
   have hF12:Frm [] wl w2:=(HF1.out.alloc _).then HF2.out (by intro k hk;simp at hk;subst hk;exact .inr HF1.out.size)
   have hF1':∀ vv,Frm [w1.heap.size] (w1.alloc vv) w2→True:=fun _ _=>trivial
   obtain⟨tb,htb⟩:∃ tb,w1.heap.size=tb:=⟨_,rfl⟩
   have htl:wl.heap.size≤tb:=htb ▸ HF1.out.size
   rw[htb] at HBT HF2 ⊢
   have HDD:Hid (DfV w2 (.slice a1 (s.rol i).ctrs.length k1) (s.rol i).ctrs):=Lib.hid (own_low ((HD.out.alloc _) |> fun h=>HF2.out.owns h (fun k hk hm=>by have:=ownBlock_lt HD.out hk;simp at hm;omega)) (Nat.zero_le _))
   have HVV:Hid (IvR w2 (.slice a2 (s.rol i).ctrs.length k2) ((firstP s).bank i)):=Lib.hid (by
    rw[first_bank s hin]
    unfold IvR
    rw[List.length_replicate,List.map_replicate]
    exact own_low (HF2.out.owns (HV.out.alloc _) (fun k hk hm=>by have:=ownBlock_lt HV.out hk;simp at hm;omega)) (Nat.zero_le _))
   have HVG:Hid (∀ q,(Value.slice a2 (s.rol i).ctrs.length k2).ownBlock=some q→wl.heap.size≤q):=Lib.hid fun q hq=>ownBlock_ge HV.out hq
   obtain⟨nc,hnc⟩:∃ nc,(s.rol i).ctrs.length=nc:=⟨_,rfl⟩
   rw[hnc] at HDD HVV HVG HBT ⊢
   have HQ2:=Lib.hid (HQ.out.frm hF12)
   obtain⟨aa,ka,ab,kb,aw,kw,bi,bk,hp,ho1,ho2,hbk,hwy,hrw⟩:=HQ2.out.bx
   have HP:=Lib.hid hp;have HO1:=Lib.hid ho1;have HO2:=Lib.hid ho2;have HBK:=Lib.hid hbk;have HWY:=Lib.hid hwy;have HRW:=Lib.hid hrw
   have HVN:Hid (∀ q,(Value.slice a2 nc k2).ownBlock=some q→(Value.slice aa i ka).ownBlock≠some q):=Lib.hid fun q hq he=>by
    obtain⟨aa',ka',_,_,_,_,_,_,hp',ho1',_⟩:=HQ.out.bx
    have hp2:=hF12.at hp' (by simp)
    rw[hp] at hp2
    injection hp2 with hp2
    injection hp2 with hp2
    have e:=congrArg Array.toList hp2
    injection e with e _
    rw[e] at he
    have:=ownBlock_lt ho1' he
    have:=HVG.out q hq
    omega
   obtain⟨F,hFe⟩:∃ F,(Value.slice aa i ka).ownBlock.toList ++ (Value.slice ab i kb).ownBlock.toList=F:=⟨_,rfl⟩
   have hFor:∀ k∈F,(Value.slice aa i ka).ownBlock=some k∨(Value.slice ab i kb).ownBlock=some k:=fun k hk=>by
    rw[← hFe] at hk
    rcases List.mem_append.1 hk with hk | hk
    ·exact .inl (by simpa using hk)
    ·exact .inr (by simpa using hk)
   have HFOR:=Lib.hid hFor
   have HFA:Hid (∀ k,(Value.slice aa i ka).ownBlock=some k→k∈F):=Lib.hid fun k hk=>by rw[← hFe];simp[hk]
   have HFB:Hid (∀ k,(Value.slice ab i kb).ownBlock=some k→k∈F):=Lib.hid fun k hk=>by rw[← hFe];simp[hk]
   have hFp:w.heap.size + 2∉F:=fun hm=>by
    rcases hFor _ hm with h | h
    ·obtain⟨c,hc⟩:=ownBlock_type ho1 h
     rw[hp] at hc;cases hc
    ·obtain⟨c,hc⟩:=ownBlock_type ho2 h
     rw[hp] at hc;cases hc
   have hFt:tb∉F:=fun hm=>by
    obtain⟨aa',ka',ab',kb',_,_,_,_,hp',ho1',ho2',_⟩:=HQ.out.bx
    have hp2:=hF12.at hp' (by simp)
    rw[hp] at hp2
    injection hp2 with hp2
    injection hp2 with hp2
    have e:=congrArg Array.toList hp2
    injection e with e e'
    injection e' with e' _
    rcases hFor _ hm with h | h
    ·rw[e] at h
     have:=ownBlock_lt ho1' h
     omega
    ·rw[e'] at h
     have:=ownBlock_lt ho2' h
     omega
   have HCF:Hid (∀ V,Frm F w2 V→(V.cell? ⟨w.heap.size + 2,0,none⟩=some (.slice aa i ka)∧V.cell? ⟨w.heap.size + 2,1,none⟩=some (.slice ab i kb))∧V.cell? ⟨tb,0,none⟩=some (.slice a1 nc k1)∧V.cell? ⟨tb,1,none⟩=some (.slice a2 nc k2)):=Lib.hid fun V hV=>by
    have hz:=hV.at hp hFp
    have hy:=hV.at HBT.out hFt
    exact⟨⟨cell_of hz 0,cell_of hz 1⟩,cell_of hy 0,cell_of hy 1⟩
   obtain⟨i0,hi0,hz0,hz1,hz2⟩:=info_parts Tryz.infoIn
   obtain⟨i1,hi1,hy0,hy1,hy2⟩:=info_parts Tryz.infoRb
   have hB0:W0.heap.size≤w2.heap.size:=HQ2.out.fr.size
   have hi3:i < 4:=by omega
   have HFR2:=Lib.hid HQ2.out.fr
   clear hp ho1 ho2 hbk hwy hrw hFor hFp hFt hFe hF12 hF1' htb hnc HD HV HF1
   go_upto_region 6 with fail
   go_cut [] (fun wc=>QF w W0 s (i + 1) i wc)
   case first =>
    refine heldL_start F (wrFrom 10) (by kernel_rfl) ?_
    refine cnt 0 ?_
    iterate 2
     refine hcL ?_ ?_ ?_
     rotate_left
     ·intro w' hC
      obtain⟨⟨x0,x1⟩,x2,x3⟩:=HCF.out w' ((Frm.refl F w2).drew.trans hC)
      clear hC
      go_simp
      try rfl
     try simp only[nrm,Nat.reduceAdd]
    refine tcn ?_
    refine cnt 4 ?_
    iterate 3
     refine hcL ?_ ?_ ?_
     rotate_left
     ·intro w' hC
      obtain⟨⟨x0,x1⟩,x2,x3⟩:=HCF.out w' ((Frm.refl F w2).drew.trans hC)
      clear hC
      go_simp
      try rfl
     try simp only[nrm,Nat.reduceAdd]
    refine tcn ?_
    obtain⟨wd,hwd⟩:∃ wd,w2.drew=wd:=⟨_,rfl⟩
    have hbd:FB W0.heap.size (w.heap.size + 2) w2 F (.slice aa i ka) (.slice ab i kb) (.slice aw i kw) (.slice aa i ka) (.slice ab i kb) i i (List.replicate i (iv 0)) bk wd:=by rw[← hwd];exact⟨(Frm.refl F w2).drew,Kt.frm ((Frm.refl [] w2).drew),HP.out,HO1.out,HO2.out,fun q hq=>.inl hq⟩
    rw[hwd]
    clear hwd
    refine heldL_all (rs:=[2,7]) (by kernel_rfl) (by simp) (allL_cons ?_ (allL_cons ?_ allL_nil))
    ·skip
     refine heldL_step (i:=2) rfl rfl (by rfl) (fun K' hK'=>?_)
     go_simp
     (skip)
     refine hK'.out _ _ ((Frm.refl _ _).alloc _) ?_
     clear hK' K'
     try simp only[nrm]
     have hr2:=heap_alloc_new (wd) (.cells #[.int .i64 0] 3)
     have hb2:=FB.alloc hbd (.cells #[.int .i64 0] 3)
     refine heldL_all (rs:=[3,7]) (by kernel_rfl) (by simp) (allL_cons ?_ (allL_cons ?_ allL_nil))
     ·skip
      refine heldL_step (i:=3) rfl rfl (by rfl) (fun K' hK'=>?_)
      refine wp_own_stepL _ _ 36 rfl W0.heap.size 3 Tryz.underlying36 hi0 hz0 hz1 hz2 rfl (by decide) (.slice aa i ka) i _ rfl hb2.o1 _ 1 1 [.int .i64 0] rfl rfl (by have:=row_cells hr2;simpa using this) (by simp[Value.oneCell']) (by unfold maxLen;omega) (by omega) (by have:=hb2.fr.size;omega) ?_
      intro d1 X3 ho3 hg3 hd3
      have hb3:=FB.app1 hb2 HFA.out hg3 ho3 hd3
      obtain⟨q3,c3,hsh3⟩:=own_shape ho3
      subst hsh3
      refine hK'.out _ _ ((Frm.refl F _).grown hg3 (fun k hk=>.inl (HFA.out k hk))) ?_
      clear hK' K'
      try simp only[nrm]
      refine htL 9 ?_ ?_ ?_
      rotate_left
      ·intro w' hC
       clear hC
       go_simp
       try rfl
      try simp only[nrm]
      refine honL 7 ?_
      refine heldL_step (i:=7) rfl rfl (by rfl) (fun K' hK'=>?_)
      go_simp
      (skip)
      refine hK'.out _ _ ((Frm.refl _ _).alloc _) ?_
      clear hK' K'
      try simp only[nrm]
      have hr7:=heap_alloc_new (X3) (.cells #[.slice a1 nc k1,.slice a2 nc k2] 185)
      have hb7:=FB.alloc hb3 (.cells #[.slice a1 nc k1,.slice a2 nc k2] 185)
      refine heldL_all (rs:=[8]) (by kernel_rfl) (by simp) (allL_cons ?_ allL_nil)
      refine heldL_step (i:=8) rfl rfl (by rfl) (fun K' hK'=>?_)
      refine wp_own_step _ _ 122 rfl W0.heap.size 185 Tryz.underlying122 hi1 hy0 hy1 hy2 rfl (by decide) (.slice ab i kb) i _ rfl hb7.o2 _ 1 1 [.slice a1 nc k1,.slice a2 nc k2] rfl rfl (by have:=row_cells hr7;simpa using this) (by simp[Value.oneCell']) (by unfold maxLen;omega) (by omega) (by have:=hb7.fr.size;omega) ?_
      intro v1 X8 ho8 hg8
      have hb8:=FB.app2 hb7 HFB.out hg8 ho8
      obtain⟨q8,c8,hsh8⟩:=own_shape ho8
      subst hsh8
      refine hK'.out _ _ ((Frm.refl F _).grown hg8 (fun k hk=>.inl (HFB.out k hk))) ?_
      clear hK' K'
      try simp only[nrm]
      have HBE:=Lib.hid hb8
      have fp:=free_of HBE.out.p 0
      have fq:=free_of HBE.out.p 1
      have y0:=cell_of HBE.out.p 0
      have y1:=cell_of HBE.out.p 1
      clear hb2 hb3 hb7 hb8 ho3 ho8 hg3 hg8 hd3 hbd
      refine honL 10 ?_
      refine heldL_write (i:=10) rfl (by rfl) (by rfl) (fun K' hK'=>?_)
      go_simp
      (skip)
      refine hK'.out _ _ ?_
      clear hK' K'
      try simp only[nrm]
      refine honL 11 ?_
      refine heldL_write (i:=11) rfl (by rfl) (by rfl) (fun K' hK'=>?_)
      go_simp
      (skip)
      refine hK'.out _ _ ?_
      clear hK' K'
      try simp only[nrm]
      refine honL 12 ?_
      refine heldL_write (i:=12) rfl (by rfl) (by rfl) (fun K' hK'=>?_)
      go_simp
      (skip)
      refine hK'.out _ _ ?_
      clear hK' K'
      try simp only[nrm]
      refine heldL_done (by kernel_rfl) ?_ _
      go_wp2
      go_meet
      exact QF.grow HFR2.out hlw HO1.out HO2.out HBK.out HWY.out HRW.out HDD.out HVV.out HVN.out HFOR.out (by rw[List.replicate_succ'];exact HBE.out) rfl
     ·skip
      refine heldL_step (i:=7) rfl rfl (by rfl) (fun K' hK'=>?_)
      go_simp
      (skip)
      refine hK'.out _ _ ((Frm.refl _ _).alloc _) ?_
      clear hK' K'
      try simp only[nrm]
      have hr2:=alloc_at (x:=.cells #[.slice a1 nc k1,.slice a2 nc k2] 185) hr2
      have hr7:=heap_alloc_new ((wd).alloc (.cells #[.int .i64 0] 3)) (.cells #[.slice a1 nc k1,.slice a2 nc k2] 185)
      have hb7:=FB.alloc hb2 (.cells #[.slice a1 nc k1,.slice a2 nc k2] 185)
      refine heldL_all (rs:=[3]) (by kernel_rfl) (by simp) (allL_cons ?_ allL_nil)
      refine heldL_step (i:=3) rfl rfl (by rfl) (fun K' hK'=>?_)
      refine wp_own_stepL _ _ 36 rfl W0.heap.size 3 Tryz.underlying36 hi0 hz0 hz1 hz2 rfl (by decide) (.slice aa i ka) i _ rfl hb7.o1 _ 1 1 [.int .i64 0] rfl rfl (by have:=row_cells hr2;simpa using this) (by simp[Value.oneCell']) (by unfold maxLen;omega) (by omega) (by have:=hb7.fr.size;omega) ?_
      intro d1 X3 ho3 hg3 hd3
      have hb3:=FB.app1 hb7 HFA.out hg3 ho3 hd3
      replace hr7:=(Kt.own hb7.o1 hg3).cells hr7 (by decide)
      obtain⟨q3,c3,hsh3⟩:=own_shape ho3
      subst hsh3
      refine hK'.out _ _ ((Frm.refl F _).grown hg3 (fun k hk=>.inl (HFA.out k hk))) ?_
      clear hK' K'
      try simp only[nrm]
      refine htL 9 ?_ ?_ ?_
      rotate_left
      ·intro w' hC
       clear hC
       go_simp
       try rfl
      try simp only[nrm]
      refine heldL_all (rs:=[8]) (by kernel_rfl) (by simp) (allL_cons ?_ allL_nil)
      refine heldL_step (i:=8) rfl rfl (by rfl) (fun K' hK'=>?_)
      refine wp_own_step _ _ 122 rfl W0.heap.size 185 Tryz.underlying122 hi1 hy0 hy1 hy2 rfl (by decide) (.slice ab i kb) i _ rfl hb3.o2 _ 1 1 [.slice a1 nc k1,.slice a2 nc k2] rfl rfl (by have:=row_cells hr7;simpa using this) (by simp[Value.oneCell']) (by unfold maxLen;omega) (by omega) (by have:=hb3.fr.size;omega) ?_
      intro v1 X8 ho8 hg8
      have hb8:=FB.app2 hb3 HFB.out hg8 ho8
      obtain⟨q8,c8,hsh8⟩:=own_shape ho8
      subst hsh8
      refine hK'.out _ _ ((Frm.refl F _).grown hg8 (fun k hk=>.inl (HFB.out k hk))) ?_
      clear hK' K'
      try simp only[nrm]
      have HBE:=Lib.hid hb8
      have fp:=free_of HBE.out.p 0
      have fq:=free_of HBE.out.p 1
      have y0:=cell_of HBE.out.p 0
      have y1:=cell_of HBE.out.p 1
      clear hb2 hb3 hb7 hb8 ho3 ho8 hg3 hg8 hd3 hbd
      refine honL 10 ?_
      refine heldL_write (i:=10) rfl (by rfl) (by rfl) (fun K' hK'=>?_)
      go_simp
      (skip)
      refine hK'.out _ _ ?_
      clear hK' K'
      try simp only[nrm]
      refine honL 11 ?_
      refine heldL_write (i:=11) rfl (by rfl) (by rfl) (fun K' hK'=>?_)
      go_simp
      (skip)
      refine hK'.out _ _ ?_
      clear hK' K'
      try simp only[nrm]
      refine honL 12 ?_
      refine heldL_write (i:=12) rfl (by rfl) (by rfl) (fun K' hK'=>?_)
      go_simp
      (skip)
      refine hK'.out _ _ ?_
      clear hK' K'
      try simp only[nrm]
      refine heldL_done (by kernel_rfl) ?_ _
      go_wp2
      go_meet
      exact QF.grow HFR2.out hlw HO1.out HO2.out HBK.out HWY.out HRW.out HDD.out HVV.out HVN.out HFOR.out (by rw[List.replicate_succ'];exact HBE.out) rfl
    ·skip
     refine heldL_step (i:=7) rfl rfl (by rfl) (fun K' hK'=>?_)
     go_simp
     (skip)
     refine hK'.out _ _ ((Frm.refl _ _).alloc _) ?_
     clear hK' K'
     try simp only[nrm]
     have hr7:=heap_alloc_new (wd) (.cells #[.slice a1 nc k1,.slice a2 nc k2] 185)
     have hb7:=FB.alloc hbd (.cells #[.slice a1 nc k1,.slice a2 nc k2] 185)
     refine honL 2 ?_
     refine heldL_step (i:=2) rfl rfl (by rfl) (fun K' hK'=>?_)
     go_simp
     (skip)
     refine hK'.out _ _ ((Frm.refl _ _).alloc _) ?_
     clear hK' K'
     try simp only[nrm]
     have hr7:=alloc_at (x:=.cells #[.int .i64 0] 3) hr7
     have hr2:=heap_alloc_new ((wd).alloc (.cells #[.slice a1 nc k1,.slice a2 nc k2] 185)) (.cells #[.int .i64 0] 3)
     have hb2:=FB.alloc hb7 (.cells #[.int .i64 0] 3)
     refine heldL_all (rs:=[3]) (by kernel_rfl) (by simp) (allL_cons ?_ allL_nil)
     refine heldL_step (i:=3) rfl rfl (by rfl) (fun K' hK'=>?_)
     refine wp_own_stepL _ _ 36 rfl W0.heap.size 3 Tryz.underlying36 hi0 hz0 hz1 hz2 rfl (by decide) (.slice aa i ka) i _ rfl hb2.o1 _ 1 1 [.int .i64 0] rfl rfl (by have:=row_cells hr2;simpa using this) (by simp[Value.oneCell']) (by unfold maxLen;omega) (by omega) (by have:=hb2.fr.size;omega) ?_
     intro d1 X3 ho3 hg3 hd3
     have hb3:=FB.app1 hb2 HFA.out hg3 ho3 hd3
     replace hr7:=(Kt.own hb2.o1 hg3).cells hr7 (by decide)
     obtain⟨q3,c3,hsh3⟩:=own_shape ho3
     subst hsh3
     refine hK'.out _ _ ((Frm.refl F _).grown hg3 (fun k hk=>.inl (HFA.out k hk))) ?_
     clear hK' K'
     try simp only[nrm]
     refine htL 9 ?_ ?_ ?_
     rotate_left
     ·intro w' hC
      clear hC
      go_simp
      try rfl
     try simp only[nrm]
     refine heldL_all (rs:=[8]) (by kernel_rfl) (by simp) (allL_cons ?_ allL_nil)
     refine heldL_step (i:=8) rfl rfl (by rfl) (fun K' hK'=>?_)
     refine wp_own_step _ _ 122 rfl W0.heap.size 185 Tryz.underlying122 hi1 hy0 hy1 hy2 rfl (by decide) (.slice ab i kb) i _ rfl hb3.o2 _ 1 1 [.slice a1 nc k1,.slice a2 nc k2] rfl rfl (by have:=row_cells hr7;simpa using this) (by simp[Value.oneCell']) (by unfold maxLen;omega) (by omega) (by have:=hb3.fr.size;omega) ?_
     intro v1 X8 ho8 hg8
     have hb8:=FB.app2 hb3 HFB.out hg8 ho8
     obtain⟨q8,c8,hsh8⟩:=own_shape ho8
     subst hsh8
     refine hK'.out _ _ ((Frm.refl F _).grown hg8 (fun k hk=>.inl (HFB.out k hk))) ?_
     clear hK' K'
     try simp only[nrm]
     have HBE:=Lib.hid hb8
     have fp:=free_of HBE.out.p 0
     have fq:=free_of HBE.out.p 1
     have y0:=cell_of HBE.out.p 0
     have y1:=cell_of HBE.out.p 1
     clear hb2 hb3 hb7 hb8 ho3 ho8 hg3 hg8 hd3 hbd
     refine honL 10 ?_
     refine heldL_write (i:=10) rfl (by rfl) (by rfl) (fun K' hK'=>?_)
     go_simp
     (skip)
     refine hK'.out _ _ ?_
     clear hK' K'
     try simp only[nrm]
     refine honL 11 ?_
     refine heldL_write (i:=11) rfl (by rfl) (by rfl) (fun K' hK'=>?_)
     go_simp
     (skip)
     refine hK'.out _ _ ?_
     clear hK' K'
     try simp only[nrm]
     refine honL 12 ?_
     refine heldL_write (i:=12) rfl (by rfl) (by rfl) (fun K' hK'=>?_)
     go_simp
     (skip)
     refine hK'.out _ _ ?_
     clear hK' K'
     try simp only[nrm]
     refine heldL_done (by kernel_rfl) ?_ _
     go_wp2
     go_meet
     exact QF.grow HFR2.out hlw HO1.out HO2.out HBK.out HWY.out HRW.out HDD.out HVV.out HVN.out HFOR.out (by rw[List.replicate_succ'];exact HBE.out) rfl
   case rest =>
    have HQ3:=Lib.hid hcut
    clear hcut HQ2 HP HO1 HO2 HBK HWY HRW HCF HBT
    obtain⟨wz,hwz⟩:∃ wz,wz=wc:=⟨_,rfl⟩
    subst hwz
    go_upto_region 9 with fail
    go_loopw [7,8] (fun s7 s8 wv=>∃ (k:Nat) (ar:Option Addr) (kr:Nat),s7=.slice ar k kr∧s8=.int .i64 k∧k≤n∧wv.ownsRow wz.heap.size 190 3 (.slice ar k kr) k (chE s k)∧Frm [] wz wv) (fun _ s8 _=>n - (intOf s8).toNat)
    case atStart=>exact⟨0,none,0,rfl,rfl,Nat.zero_le _,World.ownsRow_nil _ _ _ _,Frm.refl _ _⟩
    case round =>
     obtain⟨k,ar,kr,rfl,rfl,hk,ho,hf⟩:=hrel
     have HO:=Lib.hid ho;have HF:=Lib.hid hf
     clear ho hf
     obtain⟨wv,hwv⟩:∃ wv,wv=wr:=⟨_,rfl⟩
     subst hwv
     obtain⟨⟨e1,e2⟩,e3⟩:=HS1.out wv (HQ3.out.fr.trans (HF.out.mono (by simp)))
     by_cases hlk:k < n
     ·have hlk':(k:Int) < (n:Int):=by omega
      have CC:=Lib.hid (refNew_ok s.cls s.cap wv (okC_of HOK.out))
      obtain⟨i2,hi2,hx0,hx1,hx2⟩:=info_parts Tryz.infoRn
      go_upto_region 12 with (first
       | (go_at_call 88;go_must (refine CC.out.mono ?_;clear CC;rintro e w4 ⟨rfl,hf4⟩;have HF4:=Lib.hid hf4;clear hf4 e1 e2 e3))
       | (refine wpList_store_row rfl 190 _ _ rfl _ _ _ _ rfl rfl (heap_alloc_new _ _) rfl (by kernel_rfl) (one3 ..) ?_;intro w5 hb5 hf5;have HB5:=Lib.hid hb5;have HF5:=Lib.hid ((HF4.out.alloc _).then hf5 (by intro q hq;simp at hq;subst hq;exact .inr HF4.out.size));clear hb5 hf5))
      have HO5:=Lib.hid (HF5.out.owns HO.out (by simp))
      clear HF4
      go_wp2_with (first
       | (refine wpList_load_whole rfl 190 _ rfl _ rfl _ 190 HB5.out _ Tryz.underlying190 rfl (by kernel_rfl) ?_)
       | (at_builtin;refine wpList_append_own_at _ rfl _ _ 188 rfl wz.heap.size 190 i2 (.agg #[.int .i64 0,.int .i64 0,.slice none 0 0]) 3 40 Tryz.underlying188 hi2 hx0 hx1 hx2 rfl (by decide) (.slice ar k kr) k _ rfl (HO5.out.alloc _) ⟨w5.heap.size,0,none⟩ 1 1 [.int .i64 s.cls,.int .i64 s.cap,.slice none 0 0] rfl rfl (new_row _ _ _) (by simp[Value.oneCell']) (by unfold maxLen;omega) (by omega) (by have:=HF.out.size;have:=HF5.out.size;simp;omega) ?_;intro v' w6 hown' hgrow _ _;obtain⟨a6,k6,rfl⟩:=own_shape hown';have HO6:=Lib.hid hown';have HF6:=Lib.hid (((HF.out.trans HF5.out).alloc (.cells #[.int .i64 s.cls,.int .i64 s.cap,.slice none 0 0] 190)).grown hgrow (fun q hq=>.inr (ownBlock_ge HO5.out hq)));clear hown' hgrow))
      exact⟨⟨k + 1,a6,k6,rfl,congrArg (Value.int .i64) (by omega),hlk,HO6.out,HF6.out⟩,by simp[intOf];omega⟩
     ·obtain rfl:n=k:=by omega
      have hge:¬ (n:Int) < (n:Int):=by omega
      obtain⟨g,kg,cug,eg,hgl,hgt⟩:=own_block HO.out (by omega)
      cases eg
      obtain⟨aa,ka,ab,kb,aw,kw,bi,bk,hp,ho1,ho2,hbk,⟨ws,how,hws⟩,hrw⟩:=HQ3.out.bx
      have HP:=Lib.hid hp;have HO1:=Lib.hid ho1;have HO2:=Lib.hid ho2;have HBK:=Lib.hid hbk;have HOW:=Lib.hid how;have HWS:=Lib.hid hws;have HRW:=Lib.hid hrw
      have HGL:=Lib.hid hgl;have HGT:=Lib.hid hgt
      have y2:=cell_of (HF.out.at hp (by simp)) 2
      obtain⟨i3,hi3,hx0,hx1,hx2⟩:=info_parts Tryz.infoRc
      have hi4:i < 4:=by omega
      have hyl:=cell_lt y2
      clear hp ho1 ho2 hbk how hws hrw hgl hgt
      go_wp2_with (at_builtin;refine wpList_append_own_at _ rfl _ _ 123 rfl W0.heap.size 188 i3 (.slice none 0 0) 1 24 Tryz.underlying123 hi3 hx0 hx1 hx2 rfl (by decide) (.slice aw i kw) i ws rfl ((HF.out.alloc _).owns HOW.out (by simp)) ⟨wv.heap.size,0,none⟩ 1 1 [.slice (some ⟨g,0,none⟩) n kr] rfl rfl (new_row _ _ _) (by simp[Value.oneCell']) (by unfold maxLen;omega) (by omega) (by have:=HQ3.out.fr.size;have:=HF.out.size;simp;omega) ?_;intro v' w6 hown' hgrow _ _;obtain⟨a6,k6,rfl⟩:=own_shape hown';have hp6:=(Kt.own ((HF.out.alloc (.cells #[.slice (some ⟨g,0,none⟩) n kr] 188)).owns HOW.out (by simp)) hgrow).cells ((HF.out.alloc (.cells #[.slice (some ⟨g,0,none⟩) n kr] 188)).at HP.out (by simp)) (by decide);have y6:=cell_of hp6 2;have f6:=free_of hp6 2;have HST:=Lib.hid (fun Z=>QF.row (Z:=Z) HQ3.out.fr HP.out HO1.out HO2.out HBK.out HOW.out HWS.out HRW.out (HF.out.alloc (.cells #[.slice (some ⟨g,0,none⟩) n kr] 188)) HGL.out ⟨_,alloc_at HGT.out⟩ (by have:=chE_row (i:=i) (HN.out.symm ▸ HO.out.alloc (.cells #[.slice (some ⟨g,0,none⟩) n kr] 188));rw[HN.out] at this ⊢;exact this) hgrow (HN.out.symm ▸ hown'));clear hown' hgrow hp6)
      exact⟨⟨i + 1,congrArg (Value.int .i64) (by omega),hlt,HST.out _ rfl⟩,by simp[intOf];omega⟩
  ·obtain rfl:n=i:=by omega
   have hge:¬ (n:Int) < (n:Int):=by omega
   have HR6:=Lib.hid (HB2.out wl HQ.out.fr)
   obtain⟨aa,ka,ab,kb,aw,kw,bi,bk,hp,-⟩:=HQ.out.bx
   have HP:=Lib.hid hp
   clear hp
   go_wp2_with (first
    | (refine wpList_load_whole rfl 125 _ rfl _ rfl _ 125 HP.out _ Tryz.underlying125 rfl (by kernel_rfl) ?_)
    | (refine wpList_store_rowK rfl 125 _ _ rfl _ _ _ _ rfl rfl HR6.out rfl (by kernel_rfl) (one3v ..) ?_;intro w7 hb7 hf7 hk7;have HB7:=Lib.hid hb7;have HF7:=Lib.hid hf7;have HK7:=Lib.hid hk7;clear hb7 hf7 hk7))
   refine bodyPost_ret (results_c1 rfl rfl HB7.out rfl Tryz.underlying125 (by kernel_rfl)) rfl ⟨_,rfl,?_⟩
   exact QF.end HN.out HQ.out HF0.out hlw (by omega) (first_ok HOK.out) HR6.out HF7.out HK7.out HP.out
end Go.Proofs.YtemjlpahohmajaaGreat
namespace Go.Proofs.YtemjlpahohmajaaGreat
open Go.RowKit Go.BigFrame Go.Lib
structure YmW (w W0:World) (v:Value) (L:List UInt8) (W:World):Prop where
 o:W.ownsRow w.heap.size 5 1 v L.length (L.map u8)
 f:Frm [] w W
 k:Kt [5] W0 W
theorem YmW.frm {w W0 W V:World} {v:Value} {L:List UInt8} (h:YmW w W0 v L W) (hf:Frm [] W V):YmW w W0 v L V:=⟨hf.owns h.o (by simp),h.f.trans hf,h.k.trans (Kt.frm hf)⟩
theorem YmW.add {w W0 W V:World} {v v':Value} {L M:List UInt8} {m:Nat} (h:YmW w W0 v L W) (hg:W.grownBy V v.ownBlock) (hm:M.length=m) (ho:V.ownsRow w.heap.size 5 1 v' (L.length + m) (L.map u8 ++ M.map u8)):YmW w W0 v' (L ++ M) V:=
 ⟨by rw[List.map_append,List.length_append,hm];exact ho,h.f.grown hg (fun q hq=>.inr (ownBlock_ge h.o hq)),h.k.grown hg (fun q hq=>by
  obtain⟨c,hc⟩:=ownBlock_type h.o hq
  exact⟨c,_,(0,0),hc,by simp⟩)⟩
theorem YmW.keep {w W0 W V:World} {v:Value} {L:List UInt8} (h:YmW w W0 v L W) (hf:Frm v.ownBlock.toList W V):Frm [] w V∧Kt [5] W0 V:=
 ⟨h.f.then hf (fun k hk=>.inr (ownBlock_ge h.o (by simpa using hk))),h.k.trans ⟨hf.os,hf.tape,hf.output,hf.size,fun k o hk ho=>hf.at hk (fun hm=>by
  obtain⟨c,hc⟩:=ownBlock_type h.o (show v.ownBlock=some k by simpa using hm)
  rw[hk] at hc
  cases hc
  exact ho _ _ _ rfl (by simp))⟩⟩
def vB (l:List Int) (k:Nat):List UInt8:=(l.take k).flatMap two
theorem vB_succ {l:List Int} {k:Nat} {v:Int} (h:l[k]?=some v):vB l (k + 1)=vB l k ++ two v:=by
 unfold vB
 have hk:=lt_of_some h
 rw[List.take_succ_eq_append_getElem hk,List.flatMap_append,List.getElem?_eq_getElem hk] at *
 cases h
 simp
theorem vB_len (l:List Int) (k:Nat):(vB l k).length≤k * 2:=by
 unfold vB
 rw[two_len,List.length_take];omega
theorem quo_two {v:Int} (h0:0≤v) (h1:v≤1000):IntKind.u8.wrap (v / 256)=v / 256∧IntKind.u8.wrap (v % 256)=v % 256∧IntKind.i64.wrap (v.tdiv 256)=v / 256∧v.tmod 256=v % 256:=by
 exact⟨wrap_small (by omega) (by omega),wrap_small (by omega) (by omega),(by rw[Int.tdiv_eq_ediv_of_nonneg h0,IntKind.wrap_i64];omega),Int.tmod_eq_emod_of_nonneg h0⟩
set_option maxHeartbeats 8000000 in
set_option maxRecDepth 100000 in
theorem qKey_any (s:SesD) (xv:Value) (x:PS) (B:Nat) (w:World) (hx:RSt B w s xv x) (hok:SesOk s):Calls Tryz.prog 47 #[xv] w (RetV fun v w'=>v=.string ⟨(keyP s x).toArray⟩∧Frm [] w w'):=by
 have HOK:=Lib.hid hok;have HPK:=Lib.hid hx.ok
 obtain⟨ba,bb,bw,bi,ca,cb,cw,rfl,hro,-⟩:=hx.out
 obtain⟨n,hn⟩:∃ n,s.roles.length=n:=⟨_,rfl⟩
 have h4:n≤4:=hn ▸ hok.n4
 obtain⟨W0,hW0⟩:∃ W0,w.alloc (.cells #[.slice (some ⟨ba,0,none⟩) s.roles.length ca,.slice (some ⟨bb,0,none⟩) s.roles.length cb,.slice (some ⟨bw,0,none⟩) s.roles.length cw] 125)=W0:=⟨_,rfl⟩
 have hf0:Frm [] w W0:=by rw[← hW0];exact(Frm.refl _ _).alloc _
 have hb2:W0.heap[w.heap.size]?=some (.cells #[.slice (some ⟨ba,0,none⟩) s.roles.length ca,.slice (some ⟨bb,0,none⟩) s.roles.length cb,.slice (some ⟨bw,0,none⟩) s.roles.length cw] 125 (0,0)):=by rw[← hW0];exact heap_alloc_new _ _
 have HE:=Lib.hid hW0
 have HRO:=Lib.hid hro
 rw[hn] at hb2 HE ⊢
 have HN:=Lib.hid hn
 have HY0:Hid (YmW w W0 (.slice none ([]:List UInt8).length 0) [] W0):=Lib.hid ⟨World.ownsRow_nil _ _ _ _,hf0,Kt.refl _ _⟩
 have HS1:Hid (∀ V,Kt [5] W0 V→V.cell? ⟨w.heap.size,0,none⟩=some (.slice (some ⟨ba,0,none⟩) n ca)∧V.cell? ⟨w.heap.size,1,none⟩=some (.slice (some ⟨bb,0,none⟩) n cb)∧V.cell? ⟨w.heap.size,2,none⟩=some (.slice (some ⟨bw,0,none⟩) n cw)):=Lib.hid fun V hV=>by
  have hz:=hV.cells hb2 (by decide)
  exact⟨cell_of hz 0,cell_of hz 1,cell_of hz 2⟩
 have HKP:Hid (keyP s x=kR s x n ++ cat (wRow s x) n):=Lib.hid (by rw[← hn];rfl)
 obtain⟨i0,hi0,hz0,hz1,hz2⟩:=info_parts Tryz.info5
 clear hx hok hro hW0 hf0 hb2 hn
 go_enter Tryz.func47,Tryz.ntmps47
 go_upto_region 1 with fail
 rw[HE.out]
 clear HE
 go_upto_region 3 with fail
 go_loopw [3,4] (fun s3 s4 wr=>∃ (i:Nat) (L:List UInt8) (ar:Option Addr) (kr:Nat),Hid (L=kR s x i)∧s3=.slice ar L.length kr∧s4=.int .i64 i∧i≤n∧YmW w W0 (.slice ar L.length kr) L wr) (fun _ s4 _=>n - (intOf s4).toNat)
 case atStart=>exact⟨0,[],none,0,Lib.hid rfl,rfl,rfl,Nat.zero_le _,HY0.out⟩
 case round =>
  obtain⟨i,L,ar,kr,HL,rfl,rfl,hi,ho⟩:=hrel
  have HO:=Lib.hid ho
  clear ho
  obtain⟨wl,hwl⟩:∃ wl,wl=wr:=⟨_,rfl⟩
  subst hwl
  obtain⟨e0,-,-⟩:=HS1.out wl HO.out.k
  by_cases hlt:i < n
  ·have hlt':(i:Int) < (n:Int):=by omega
   have hin:i < s.roles.length:=by rw[HN.out];exact hlt
   have ga:=HO.out.f.keep (HRO.out.a i hin)
   obtain⟨dv,vv,-,gb,-,gv⟩:=HRO.out.b i hin
   obtain⟨av,kv,rfl⟩:=own_shape gv.1
   obtain⟨p,hp⟩:∃ p,x.at i=p:=⟨_,rfl⟩
   obtain⟨vs,hvs⟩:∃ vs,x.bank i=vs:=⟨_,rfl⟩
   have hpb:p < 24:=by have:=HPK.out.pb i hin;have:=(HOK.out.at hin).s24;omega
   rw[hp] at ga
   rw[hvs] at gb gv
   have HVB:Hid (∀ v∈vs,0≤v∧v≤1000):=Lib.hid (by rw[← hvs];exact bank_bound HOK.out HPK.out hin)
   have hvl:vs.length≤4:=by have:=(HPK.out.vb i hin).1;have:=(HOK.out.at hin).c4;rw[hvs] at *;omega
   have HKR:Hid (kR s x (i + 1)=kR s x i ++ ([UInt8.ofNat p] ++ vB vs vs.length)):=Lib.hid (by
    show cat (keyRole x) i ++ keyRole x i=_
    unfold keyRole vB
    rw[hp,hvs,List.take_length];rfl)
   have hLL:L.length≤100:=by rw[HL.out];exact kR_len HOK.out HPK.out (by omega)
   have hw8:IntKind.u8.wrap (p:Int)=(p:Int):=wrap_small (by omega) (by omega)
   have HVL:=Lib.hid hvl;have HGV:=Lib.hid gv;have HGB:=Lib.hid gb;have HLL:=Lib.hid hLL
   obtain⟨m,hm⟩:∃ m,vs.length=m:=⟨_,rfl⟩
   rw[hm] at HKR HGB hvl
   have HM:=Lib.hid hm
   have hpb':p < 256:=by omega
   have hsz:w.heap.size≤(wl.alloc (.cells #[.int .u8 (p:Int)] 5)).heap.size:=by have:=HO.out.f.size;simp;omega
   clear gv gb hp hvs hin hm
   go_upto_region 7 with (at_builtin;refine wpList_append_own_at _ rfl _ _ 61 rfl w.heap.size 5 i0 (.int .u8 0) 1 1 Tryz.underlying61 hi0 hz0 hz1 hz2 rfl (by decide) (.slice ar L.length kr) L.length (uL L) rfl (HO.out.o.alloc _) ⟨wl.heap.size,0,none⟩ 1 1 (uL [UInt8.ofNat p]) rfl rfl (by rw[uLc p hpb'];exact new_row _ _ _) (by intro u hu;obtain⟨x,-,rfl⟩:=List.mem_map.1 hu;rfl) (by unfold maxLen;omega) (by omega) hsz ?_;intro v' w6 hown' hgrow _ _;obtain⟨ao',cp',rfl⟩:=own_shape hown';have HO6:=Lib.hid ((HO.out.frm ((Frm.refl _ _).alloc _)).add hgrow rfl hown');clear hgrow hown')
   clear e0 ga hsz
   go_loopw [3,5] (fun s3 s5 wr=>∃ (k:Nat) (M:List UInt8) (ar:Option Addr) (kr:Nat),Hid (M=L ++ ([UInt8.ofNat p] ++ vB vs k))∧s3=.slice ar M.length kr∧s5=.int .i64 k∧k≤m∧YmW w W0 (.slice ar M.length kr) M wr) (fun _ s5 _=>m - (intOf s5).toNat)
   case atStart=>exact⟨0,L ++ [UInt8.ofNat p],ao',cp',Lib.hid (by unfold vB;simp),by rw[List.length_append];rfl,rfl,Nat.zero_le _,by rw[List.length_append];exact HO6.out⟩
   case round =>
    clear HO6
    obtain⟨k,M,ar,kr,HMM,rfl,rfl,hk,ho⟩:=hrel
    have HO:=Lib.hid ho
    clear ho
    obtain⟨wm,hwm⟩:∃ wm,wm=wr:=⟨_,rfl⟩
    subst hwm
    obtain⟨-,e1,-⟩:=HS1.out wm HO.out.k
    have e2:=HO.out.f.keep HGB.out
    by_cases hlk:k < m
    ·have hlk':(k:Int) < (m:Int):=by omega
     obtain⟨v,hv⟩:∃ v,vs[k]?=some v:=⟨_,List.getElem?_eq_getElem (by rw[HM.out];exact hlk)⟩
     obtain⟨v0,v1⟩:=HVB.out v (List.mem_of_getElem? hv)
     have HSU:=Lib.hid (vB_succ hv)
     obtain⟨g,kg,cug,eg,hgl,hgt⟩:=own_block HGV.out.1 (by rw[HM.out];omega)
     cases eg
     have e3:wm.cell? ⟨g,k,none⟩=some (.int .i64 v):=HO.out.f.keep (own_at HGV.out.1 (by rw[List.getElem?_map,hv];rfl))
     have hML:M.length≤200:=by
      have:=vB_len vs k
      have:=HLL.out
      rw[HMM.out,List.length_append,List.length_append];simp;omega
     obtain⟨q1,q2,q3,q4⟩:=quo_two v0 v1
     have HC3:=Lib.hid (own_at HGV.out.1 (j:=k) (u:=.int .i64 v) (by rw[List.getElem?_map,hv];rfl))
     clear hv hgl hgt
     have hTW:uL (two v)=[.int .u8 (v / 256),.int .u8 (v % 256)]:=two_u8 v0 (by omega)
     have hsz:w.heap.size≤(wm.alloc (.cells #[.int .u8 (v / 256),.int .u8 (v % 256)] 5)).heap.size:=by have:=HO.out.f.size;simp;omega
     obtain⟨F,hF⟩:∃ F,(Value.slice ar M.length kr).ownBlock.toList=F:=⟨_,rfl⟩
     have HCF:Hid (∀ V,Frm F wm V→V.cell? ⟨w.heap.size,1,none⟩=some (.slice (some ⟨bb,0,none⟩) n cb)∧V.cell? ⟨bb,i * 2 + 1,none⟩=some (.slice (some ⟨g,0,none⟩) m kv)∧V.cell? ⟨g,k,none⟩=some (.int .i64 v)):=Lib.hid fun V hV=>by
      obtain⟨k1,k2⟩:=HO.out.keep (by rw[hF];exact hV)
      obtain⟨-,k3,-⟩:=HS1.out V k2
      exact⟨k3,k1.keep HGB.out,k1.keep (HC3.out)⟩
     have HFE:=Lib.hid hF
     clear hF
     go_upto_region 9 with fail
     clear e1 e2 e3
     refine heldF_start (F:=F) (by kernel_rfl) ?_
     refine cnt 0 ?_
     iterate 23
      refine hcF ?_ ?_ ?_
      rotate_left
      ·intro w' hC
       obtain⟨x1,x2,x3⟩:=HCF.out w' ((Frm.refl F wm).drew.trans hC)
       clear hC
       go_simp
       try rfl
      try simp only[nrm,Nat.reduceAdd]
     refine tcn ?_
     obtain⟨wd,hwd⟩:∃ wd,wm.drew=wd:=⟨_,rfl⟩
     have hfd:Frm [] wm wd:=by rw[← hwd];exact(Frm.refl _ _).drew
     rw[hwd]
     have HOd:=Lib.hid (HO.out.frm hfd)
     clear hwd
     refine hstF 23 (fun K' hK'=>?_)
     go_simp
     (skip)
     refine hK'.out _ _ ((Frm.refl _ _).alloc _) ?_
     clear hK' K'
     try simp only[nrm]
     refine heldF_step (i:=24) rfl (by kernel_rfl) (by rfl) (fun K' hK'=>?_)
     refine wp_own_step _ _ 61 rfl w.heap.size 5 Tryz.underlying61 hi0 hz0 hz1 hz2 rfl (by decide) (.slice ar M.length kr) M.length (uL M) rfl (HOd.out.o.alloc _) ⟨wd.heap.size,0,none⟩ 2 2 (uL (two v)) rfl rfl (by rw[hTW];exact new_row _ _ _) (by intro u hu;obtain⟨x,-,rfl⟩:=List.mem_map.1 hu;rfl) (by unfold maxLen;omega) (by omega) (by have:=HOd.out.f.size;simp;omega) ?_;intro v' w6 hown' hgrow;obtain⟨a6,k6,rfl⟩:=own_shape hown'
     refine hK'.out _ _ (by rw[← HFE.out];exact(Frm.refl _ _).grown hgrow (fun q hq=>.inl (by rw[hq];simp))) ?_
     clear hK' K'
     try simp only[nrm]
     refine htF 25 ?_ ?_ ?_
     rotate_left
     ·intro w' hC
      clear hC
      go_simp
      try rfl
     try simp only[nrm]
     refine wpAnyH_done (by kernel_rfl) ?_ _
     go_wp2
     exact⟨⟨k + 1,M ++ two v,a6,k6,Lib.hid (by rw[HMM.out,HSU.out,List.append_assoc,List.append_assoc]),by rw[List.length_append];rfl,congrArg (Value.int .i64) (by omega),hlk,by rw[List.length_append];exact(HOd.out.frm ((Frm.refl _ _).alloc _)).add hgrow rfl hown'⟩,by simp[intOf];omega⟩
    ·obtain rfl:k=m:=by omega
     have hge:¬ (k:Int) < (k:Int):=by omega
     go_wp2
     exact⟨⟨i + 1,M,ar,kr,Lib.hid (by rw[HMM.out,HL.out,HKR.out]),rfl,congrArg (Value.int .i64) (by omega),hlt,HO.out⟩,by simp[intOf];omega⟩
  ·obtain rfl:i=n:=by omega
   have hge:¬ (i:Int) < (i:Int):=by omega
   go_upto_region 11 with fail
   clear e0
   have HLI:Hid (L.length≤100):=Lib.hid (by rw[HL.out];exact kR_len HOK.out HPK.out (by rw[HN.out];exact Nat.le_refl _))
   go_loopw [3,6] (fun s3 s6 wr=>∃ (a:Nat) (M:List UInt8) (ar:Option Addr) (kr:Nat),Hid (M=L ++ cat (wRow s x) a)∧s3=.slice ar M.length kr∧s6=.int .i64 a∧a≤i∧YmW w W0 (.slice ar M.length kr) M wr) (fun _ s6 _=>i - (intOf s6).toNat)
   case atStart=>exact⟨0,L,ar,kr,Lib.hid (List.append_nil L).symm,rfl,rfl,Nat.zero_le _,HO.out⟩
   case round =>
    clear HO
    obtain⟨a,M,ar,kr,HMM,rfl,rfl,ha,ho⟩:=hrel
    have HO:=Lib.hid ho
    clear ho
    obtain⟨wm,hwm⟩:∃ wm,wm=wr:=⟨_,rfl⟩
    subst hwm
    obtain⟨e0,-,-⟩:=HS1.out wm HO.out.k
    by_cases hla:a < i
    ·have hla':(a:Int) < (i:Int):=by omega
     have hian:a < s.roles.length:=by rw[HN.out];exact hla
     have HIA:=Lib.hid hian
     obtain⟨cwa,gw⟩:=HRO.out.w a hian
     rw[HN.out] at gw
     have HGW:=Lib.hid gw
     have HEA:Hid (cat (wRow s x) (a + 1)=cat (wRow s x) a ++ cat (keyWay s x a) i):=Lib.hid (by
      show cat (wRow s x) a ++ wRow s x a=_
      rw[show wRow s x a=cat (keyWay s x a) s.roles.length from rfl,HN.out])
     clear gw hian
     go_upto_region 14 with fail
     clear e0
     go_loopw [3,7] (fun s3 s7 wr=>∃ (c:Nat) (P:List UInt8) (ar:Option Addr) (kr:Nat),Hid (P=M ++ cat (keyWay s x a) c)∧s3=.slice ar P.length kr∧s7=.int .i64 c∧c≤i∧YmW w W0 (.slice ar P.length kr) P wr) (fun _ s7 _=>i - (intOf s7).toNat)
     case atStart=>exact⟨0,M,ar,kr,Lib.hid (List.append_nil M).symm,rfl,rfl,Nat.zero_le _,HO.out⟩
     case round =>
      clear HO
      obtain⟨c,P,ar,kr,HP,rfl,rfl,hc,ho⟩:=hrel
      have HO:=Lib.hid ho
      clear ho
      obtain⟨wp,hwp⟩:∃ wp,wp=wr:=⟨_,rfl⟩
      subst hwp
      obtain⟨e0,-,e2⟩:=HS1.out wp HO.out.k
      by_cases hlc:c < i
      ·have hlc':(c:Int) < (i:Int):=by omega
       have hicn:c < s.roles.length:=by rw[HN.out];exact hlc
       have HEC:Hid (cat (keyWay s x a) (c + 1)=cat (keyWay s x a) c ++ keyWay s x a c):=Lib.hid rfl
       by_cases hac:a=c
       ·have HSM:Hid (keyWay s x a c=[]):=Lib.hid (by unfold keyWay;rw[if_pos hac])
        have hb1:(((a:Int) == (c:Int)))=true:=by rw[hac];simp
        have hb2:(((a:Int) != (c:Int)))=false:=by rw[hac];simp
        have hb3:(a:Int)=(c:Int):=by rw[hac]
        clear hac
        go_wp2
        exact⟨⟨c + 1,P,ar,kr,Lib.hid (by rw[HP.out,HEC.out,HSM.out,List.append_nil]),rfl,congrArg (Value.int .i64) (by omega),hlc,HO.out⟩,by simp[intOf];omega⟩
       ·have hb3:¬ (a:Int)=(c:Int):=by omega
        have hb1:(((a:Int) == (c:Int)))=false:=by rw[beq_eq_false_iff_ne];exact hb3
        have hb2:(((a:Int) != (c:Int)))=true:=by rw[bne_iff_ne];exact hb3
        obtain⟨lv,r1,r2,r3,r4⟩:=HRO.out.r a c HIA.out hicn
        obtain⟨LL,hLL⟩:∃ LL,x.way a c=LL:=⟨_,rfl⟩
        have hll:=HPK.out.wb a c HIA.out hicn
        rw[hLL] at r4 hll
        obtain⟨al,kl,rfl,-⟩:=r4.shape
        have HSM:Hid (keyWay s x a c=[UInt8.ofNat LL.length] ++ byt (keyB (keyL s.cls LL))):=Lib.hid (by unfold keyWay;rw[if_neg hac,hLL];rfl)
        have hk4:=HOK.out.k4
        have hll4:LL.length≤4:=by omega
        have hks:(keyB (keyL s.cls LL)).size≤200:=by
         have h1:=keyB_size (keyL s.cls LL) (fun m hm=>(hll.2 m (keyL_mem hm)).2)
         rw[keyL_length] at h1;omega
        have hwr:IntKind.u8.wrap (LL.length:Int)=(LL.length:Int):=wrap_small (by omega) (by omega)
        have CKy:Hid (∀ V,Frm [] w V→Calls Tryz.prog 89 #[.agg #[.int .i64 s.cls,.int .i64 s.cap,.slice al LL.length kl]] V (RetV fun v w'=>v=.string (keyB (keyL s.cls LL))∧Frm [] V w')):=Lib.hid fun V hV=>refKey_all s.cls s.cap _ LL V (r4.frm hV (by simp)) (by omega) (fun m hm=>(hll.2 m hm).2)
        have hPL:P.length≤3000:=by
         have a1:=HLI.out
         have a2:=kRows_len HOK.out HPK.out (show a≤s.roles.length by have:=HIA.out;omega)
         have a3:=kRow_len HOK.out HPK.out HIA.out (show c≤s.roles.length by omega)
         rw[HP.out,HMM.out,List.length_append,List.length_append]
         have:(cat (wRow s x) a).length≤2128:=a2
         omega
        obtain⟨KB0,hKB⟩:∃ KB0,keyB (keyL s.cls LL)=KB0:=⟨_,rfl⟩
        rw[hKB] at CKy HSM hks
        have e3:=HO.out.f.keep HGW.out
        have e4:=HO.out.f.keep r3
        obtain⟨l,hl⟩:∃ l,LL.length=l:=⟨_,rfl⟩
        rw[hl] at e4 hwr hll4 CKy HSM
        have HR:Hid (∀ V,Frm [] w V→V.cell? ⟨bi a,c * 3,none⟩=some (.int .i64 s.cls)∧V.cell? ⟨bi a,c * 3 + 1,none⟩=some (.int .i64 s.cap)∧V.cell? ⟨bi a,c * 3 + 2,none⟩=some (.slice al l kl)):=Lib.hid fun V hV=>⟨hV.keep r1,hV.keep r2,by rw[← hl];exact hV.keep r3⟩
        have hbi:=cell_lt e4
        have hl256:l < 256:=by omega
        have hsz:w.heap.size≤(wp.alloc (.cells #[.int .u8 (l:Int)] 5)).heap.size:=by have:=HO.out.f.size;simp;omega
        clear r1 r2 r3 r4 hll hk4 hLL hKB hl hicn hac
        go_upto_region 18 with (at_builtin;refine wpList_append_own_at _ rfl _ _ 61 rfl w.heap.size 5 i0 (.int .u8 0) 1 1 Tryz.underlying61 hi0 hz0 hz1 hz2 rfl (by decide) (.slice ar P.length kr) P.length (uL P) rfl (HO.out.o.alloc _) ⟨wp.heap.size,0,none⟩ 1 1 (uL [UInt8.ofNat l]) rfl rfl (by rw[uLc l hl256];exact new_row _ _ _) (by intro u hu;obtain⟨x,-,rfl⟩:=List.mem_map.1 hu;rfl) (by unfold maxLen;omega) (by omega) hsz ?_;intro v' w6 hown' hgrow _ _;obtain⟨a6,k6,rfl⟩:=own_shape hown';have HO6:=Lib.hid ((HO.out.frm ((Frm.refl _ _).alloc _)).add hgrow rfl hown');clear hgrow hown')
        clear e0 e2 e3 e4 hsz
        obtain⟨-,-,e2⟩:=HS1.out w6 HO6.out.k
        have e3:=HO6.out.f.keep HGW.out
        obtain⟨r1,r2,r3⟩:=HR.out w6 HO6.out.f
        have CK6:=Lib.hid (CKy.out w6 HO6.out.f)
        have hbi6:=cell_lt r1
        have hPL6:(P ++ [UInt8.ofNat l]).length≤3001:=by rw[List.length_append];simp;omega
        go_wp2_with (first
         | (go_at_call 89;go_must (refine CK6.out.mono ?_;clear CK6;rintro e w7 ⟨v,rfl,rfl,hf7⟩;have HO7:=Lib.hid (HO6.out.frm hf7);clear hf7))
         | (at_builtin;refine wpList_append_own_string _ rfl _ _ 61 9 rfl w.heap.size 5 i0 Tryz.underlying61 Tryz.underlying9 hi0 hz0 hz1 hz2 (.slice a6 (P.length + 1) k6) (P ++ [UInt8.ofNat l]).length (uL (P ++ [UInt8.ofNat l])) rfl HO7.out.o KB0 rfl (by unfold maxLen;omega) (by omega) HO7.out.f.size ?_;intro v' w8 hown' hgrow _;obtain⟨a8,k8,rfl⟩:=own_shape hown';have HO8:=Lib.hid (HO7.out.add (M:=byt KB0) hgrow (byt_length _) hown');clear hgrow hown'))
        exact⟨⟨c + 1,(P ++ [UInt8.ofNat l]) ++ byt KB0,a8,k8,Lib.hid (by rw[HP.out,HEC.out,HSM.out];simp only[List.append_assoc]),by rw[List.length_append,byt_length,List.length_append];rfl,congrArg (Value.int .i64) (by omega),hlc,by rw[List.length_append,byt_length];exact HO8.out⟩,by simp[intOf];omega⟩
      ·obtain rfl:c=i:=by omega
       have hge:¬ (c:Int) < (c:Int):=by omega
       go_wp2
       exact⟨⟨a + 1,P,ar,kr,Lib.hid (by rw[HP.out,HMM.out,HEA.out,List.append_assoc]),rfl,congrArg (Value.int .i64) (by omega),hla,HO.out⟩,by simp[intOf];omega⟩
    ·obtain rfl:a=i:=by omega
     have hge:¬ (a:Int) < (a:Int):=by omega
     have hne:M.length≠0:=by
      have h2:=HOK.out.n2
      rw[HN.out] at h2
      obtain⟨m,rfl⟩:∃ m,a=m + 1:=⟨a - 1,by omega⟩
      rw[HMM.out,HL.out,List.length_append,show kR s x (m + 1)=kR s x m ++ keyRole x m from rfl,List.length_append]
      unfold keyRole
      rw[List.length_cons]
      omega
     have hconv:=conv_own HO.out.o hne
     go_wp2
     go_ret
     exact⟨_,rfl,by rw[HKP.out,← HL.out,← HMM.out];rfl,HO.out.f⟩
end Go.Proofs.YtemjlpahohmajaaGreat
namespace Go.Proofs.YtemjlpahohmajaaGreat
open Go.RowKit Go.BigFrame
def bA:ByteArray:={ data:=#[97] }
def bB:ByteArray:={ data:=#[98] }
def bX:ByteArray:={ data:=#[120] }
def bY:ByteArray:={ data:=#[121] }
def bM:ByteArray:={ data:=#[109] }
def bS:ByteArray:={ data:=#[115] }
def smS (cap:Int):SesD:=⟨bS,[⟨bA,[⟨bX,true,0⟩],[],[⟨bX,bX,1,bM,bB,emptyS,0,0,0⟩]⟩,⟨bB,[⟨bY,true,0⟩],[],[⟨bY,bY,2,bM,bA,emptyS,0,0,0⟩]⟩],1,cap⟩
theorem smS_sm (cap:Int):SmS (smS cap):=by
 refine⟨by simp[smS],fun r hr=>?_⟩
 simp only[smS,List.mem_cons,List.not_mem_nil,or_false] at hr
 rcases hr with rfl | rfl
 all_goals
  refine⟨by simp,by simp,by simp,fun x hx=>?_,fun x hx=>?_⟩
  ·simp only[List.mem_cons,List.not_mem_nil,or_false] at hx
   subst hx
   unfold wf64;decide
  ·simp only[List.mem_cons,List.not_mem_nil,or_false] at hx
   subst hx
   decide
end Go.Proofs.YtemjlpahohmajaaGreat
namespace Go.Proofs.YtemjlpahohmajaaGreat
open Go.RowKit Go.BigFrame Go.Maps
def keyS (s:SesD) (x:PS):ByteArray:=⟨(keyP s x).toArray⟩
theorem keyS_list (s:SesD) (x:PS):(keyS s x).data.toList=keyP s x:=by unfold keyS;simp
def AdTo (w:World) (s:SesD) (yb:Nat) (lim:Int) (whole:Bool) (qb mb:Nat) (N:List (Nd × Nat)) (W W':World):Prop:=SpR w s yb lim whole qb mb N W'∧(∃ F,Frm F W W'∧∀ b∈F,SpB W qb b)∧∀ k,k < W.heap.size→RowOf W' qb k→RowOf W qb k
theorem ndG_zero (W:World):∀ u∈ndZ.cells,NdG W u:=by
 intro u hu
 have:u=.pointer none∨u=.int .i64 0:=by
  simp[Value.cells] at hu
  rcases hu with rfl | rfl
  ·exact .inl rfl
  ·exact .inr rfl
 rcases this with rfl | rfl
 ·exact⟨fun _=>by simp,fun _ _ _=>by simp,fun _=>by simp⟩
 ·exact⟨fun _=>by simp,fun _ _ _=>by simp,fun _=>by simp⟩
theorem ndG_one {W:World} {d:Nd} {sb:Nat} (h:Ty W sb 140):∀ u∈ndC1 (d,sb),NdG W u:=by
 intro u hu
 simp only[ndC1,List.mem_cons,List.not_mem_nil,or_false] at hu
 rcases hu with rfl | rfl | rfl | rfl | rfl | rfl | rfl
 ·exact⟨fun _=>by simp,fun _ _ _=>by simp,fun p e=>by cases e;exact h⟩
 all_goals exact⟨fun _=>by simp,fun _ _ _=>by simp,fun _=>by simp⟩
theorem Tryz.infoNd:(Tryz.prog.info? 117).map (fun i=>(i.zero,i.size,i.bytes))=some (some ndZ,7,56):=by kernel_rfl
section
variable {w W:World} {s:SesD} {yb fb sb qb mb cb:Nat} {lim:Int} {whole:Bool} {N:List (Nd × Nat)} {d:Nd}
set_option maxHeartbeats 4000000 in
set_option maxRecDepth 100000 in
theorem xAdd_has (h:SpR w s yb lim whole qb mb N W) (hy:SyR W s yb fb) (hd:StR W s yb sb d.st) (hc:W.heap[cb]?=some (.cells #[.pointer (some ⟨qb,0,none⟩)] 109 (0,0))) (hk:hasK s (N.map Prod.fst) (keyP s d.st)=true) (hz:(keyS s d.st).size≤maxLen) :
  Calls Tryz.prog 45 #[ndV (d,sb),.pointer (some ⟨cb,0,none⟩)] W (Ret (.bool true) (Frm [] W)):=by
 obtain⟨W0,hW0⟩:∃ W0,W.alloc (.cells #[.pointer (some ⟨sb,0,none⟩),.int .i64 d.par,.int .i64 d.mv.kind,.int .i64 d.mv.role,.int .i64 d.mv.step,.int .i64 d.mv.place,.int .i64 d.lvl] 117)=W0:=⟨_,rfl⟩
 have hf0:Frm [] W W0:=by rw[← hW0];exact(Frm.refl _ _).alloc _
 have hb0:W0.heap[W.heap.size]?=some (.cells #[.pointer (some ⟨sb,0,none⟩),.int .i64 d.par,.int .i64 d.mv.kind,.int .i64 d.mv.role,.int .i64 d.mv.step,.int .i64 d.mv.place,.int .i64 d.lvl] 117 (0,0)):=by rw[← hW0];exact heap_alloc_new _ _
 have CK:Hid (Calls Tryz.prog 22 #[.pointer (some ⟨sb,0,none⟩)] W0 (Ret (.string (keyS s d.st)) (Frm [] W0))):=Lib.hid ((pKey_any s yb fb sb d.st W0 (hy.frm hf0) (hd.frm hf0)).mono fun e w' h=>by
  obtain⟨v,rfl,rfl,h⟩:=h
  exact⟨rfl,h⟩)
 have c0:=cell_of hb0 0
 obtain⟨ao,cap,h1,h2,-⟩:=h.bx
 have hfs:(findP s (N.map Prod.fst) (keyS s d.st).data.toList).isSome=true:=by rw[keyS_list,findP_none];exact hk
 have HL:Hid (∀ V,Frm [] W V→(V.cell? ⟨cb,0,none⟩=some (.pointer (some ⟨qb,0,none⟩))∧V.cell? ⟨qb,3,none⟩=some (.map (some mb))) ∧
   (Instr.lookup 112 (.map (some mb)) (.string (keyS s d.st)) true).run Tryz.prog V=.ok (.tuple #[.int .i64 ((findP s (N.map Prod.fst) (keyS s d.st).data.toList).getD 0:Nat),.bool true]) V):=Lib.hid fun V hV=>by
  refine⟨⟨cell_of (hV.at hc (by simp)) 0,cell_of (hV.at h1 (by simp)) 3⟩,?_⟩
  have:=SpO.look h.mp hV _ hz
  rwa [hfs] at this
 have HF0:=Lib.hid hf0;have HE:=Lib.hid hW0
 clear h hy hd hc hk hz hf0 hb0 h1 h2 hW0 hfs
 go_enter Tryz.func45,Tryz.ntmps45
 go_upto_region 1 with fail
 rw[HE.out]
 go_wp2_with (first
  | (go_at_call 22;go_must (refine CK.out.mono ?_;rintro e w2 ⟨rfl,hf2⟩;have HF2:=Lib.hid (HF0.out.trans hf2);clear hf2;obtain⟨⟨q0,q1⟩,q2⟩:=HL.out w2 HF2.out)))
 go_ret
 exact⟨rfl,HF2.out⟩
set_option maxHeartbeats 4000000 in
set_option maxRecDepth 100000 in
theorem xAdd_full (h:SpR w s yb lim whole qb mb N W) (hy:SyR W s yb fb) (hd:StR W s yb sb d.st) (hc:W.heap[cb]?=some (.cells #[.pointer (some ⟨qb,0,none⟩)] 109 (0,0))) (hk:hasK s (N.map Prod.fst) (keyP s d.st)=false) (hz:(keyS s d.st).size≤maxLen) (hl:(N.length:Int)=lim) :
  Calls Tryz.prog 45 #[ndV (d,sb),.pointer (some ⟨cb,0,none⟩)] W (Ret (.bool false) (Frm [] W)):=by
 obtain⟨W0,hW0⟩:∃ W0,W.alloc (.cells #[.pointer (some ⟨sb,0,none⟩),.int .i64 d.par,.int .i64 d.mv.kind,.int .i64 d.mv.role,.int .i64 d.mv.step,.int .i64 d.mv.place,.int .i64 d.lvl] 117)=W0:=⟨_,rfl⟩
 have hf0:Frm [] W W0:=by rw[← hW0];exact(Frm.refl _ _).alloc _
 have hb0:W0.heap[W.heap.size]?=some (.cells #[.pointer (some ⟨sb,0,none⟩),.int .i64 d.par,.int .i64 d.mv.kind,.int .i64 d.mv.role,.int .i64 d.mv.step,.int .i64 d.mv.place,.int .i64 d.lvl] 117 (0,0)):=by rw[← hW0];exact heap_alloc_new _ _
 have CK:Hid (Calls Tryz.prog 22 #[.pointer (some ⟨sb,0,none⟩)] W0 (Ret (.string (keyS s d.st)) (Frm [] W0))):=Lib.hid ((pKey_any s yb fb sb d.st W0 (hy.frm hf0) (hd.frm hf0)).mono fun e w' h=>by
  obtain⟨v,rfl,rfl,h⟩:=h
  exact⟨rfl,h⟩)
 have c0:=cell_of hb0 0
 obtain⟨ao,cap,h1,h2,-⟩:=h.bx
 have hfs:(findP s (N.map Prod.fst) (keyS s d.st).data.toList).isSome=false:=by rw[keyS_list,findP_none];exact hk
 have HL:Hid (∀ V,Frm [] W V→(V.cell? ⟨cb,0,none⟩=some (.pointer (some ⟨qb,0,none⟩))∧V.cell? ⟨qb,3,none⟩=some (.map (some mb))∧V.cell? ⟨qb,0,none⟩=some (.int .i64 lim)∧V.cell? ⟨qb,2,none⟩=some (.slice ao N.length cap)) ∧
   (Instr.lookup 112 (.map (some mb)) (.string (keyS s d.st)) true).run Tryz.prog V=.ok (.tuple #[.int .i64 ((findP s (N.map Prod.fst) (keyS s d.st).data.toList).getD 0:Nat),.bool false]) V):=Lib.hid fun V hV=>by
  refine⟨⟨cell_of (hV.at hc (by simp)) 0,cell_of (hV.at h1 (by simp)) 3,cell_of (hV.at h1 (by simp)) 0,cell_of (hV.at h1 (by simp)) 2⟩,?_⟩
  have:=SpO.look h.mp hV _ hz
  rwa [hfs] at this
 have HF0:=Lib.hid hf0;have HE:=Lib.hid hW0
 have hle:((N.length:Int) == lim)=true:=by simpa using hl
 clear h hy hd hc hk hz hf0 hb0 h1 h2 hW0 hfs hl
 go_enter Tryz.func45,Tryz.ntmps45
 go_upto_region 1 with fail
 rw[HE.out]
 go_upto_region 5 with (first
  | (go_at_call 22;go_must (refine CK.out.mono ?_;rintro e w2 ⟨rfl,hf2⟩;have HF2:=Lib.hid (HF0.out.trans hf2);clear hf2;obtain⟨⟨q0,q1,q2,q3⟩,q4⟩:=HL.out w2 HF2.out)))
 go_quiet (fail)
 go_wp2
 go_ret
 exact⟨rfl,HF2.out.drewN _⟩
set_option maxHeartbeats 4000000 in
set_option maxRecDepth 100000 in
theorem xAdd_new (h:SpR w s yb lim whole qb mb N W) (hy:SyR W s yb fb) (hd:StR W s yb sb d.st) (hc:W.heap[cb]?=some (.cells #[.pointer (some ⟨qb,0,none⟩)] 109 (0,0))) (hk:hasK s (N.map Prod.fst) (keyP s d.st)=false) (hz:(keyS s d.st).size≤maxLen) (hl:(N.length:Int)≠lim) (hs:0 < s.roles.length) (hn:N.length≤1000000) :
   Calls Tryz.prog 45 #[ndV (d,sb),.pointer (some ⟨cb,0,none⟩)] W (Ret (.bool true) (AdTo w s yb lim whole qb mb (N ++ [(d,sb)]) W)):=by
 obtain⟨W0,hW0⟩:∃ W0,W.alloc (.cells #[.pointer (some ⟨sb,0,none⟩),.int .i64 d.par,.int .i64 d.mv.kind,.int .i64 d.mv.role,.int .i64 d.mv.step,.int .i64 d.mv.place,.int .i64 d.lvl] 117)=W0:=⟨_,rfl⟩
 have hf0:Frm [] W W0:=by rw[← hW0];exact(Frm.refl _ _).alloc _
 have hb0:W0.heap[W.heap.size]?=some (.cells #[.pointer (some ⟨sb,0,none⟩),.int .i64 d.par,.int .i64 d.mv.kind,.int .i64 d.mv.role,.int .i64 d.mv.step,.int .i64 d.mv.place,.int .i64 d.lvl] 117 (0,0)):=by rw[← hW0];exact heap_alloc_new _ _
 have CK:Hid (Calls Tryz.prog 22 #[.pointer (some ⟨sb,0,none⟩)] W0 (Ret (.string (keyS s d.st)) (Frm [] W0))):=Lib.hid ((pKey_any s yb fb sb d.st W0 (hy.frm hf0) (hd.frm hf0)).mono fun e w' h=>by
  obtain⟨v,rfl,rfl,h⟩:=h
  exact⟨rfl,h⟩)
 have c0:=cell_of hb0 0
 have HB0:=Lib.hid hb0
 clear hb0
 obtain⟨ao,cap,h1,h2,h3⟩:=h.bx
 have hfs:(findP s (N.map Prod.fst) (keyS s d.st).data.toList).isSome=false:=by rw[keyS_list,findP_none];exact hk
 have HL:Hid (∀ V,Frm [] W V→(V.cell? ⟨cb,0,none⟩=some (.pointer (some ⟨qb,0,none⟩))∧V.cell? ⟨qb,3,none⟩=some (.map (some mb))∧V.cell? ⟨qb,0,none⟩=some (.int .i64 lim)∧V.cell? ⟨qb,2,none⟩=some (.slice ao N.length cap)) ∧
   (Instr.lookup 112 (.map (some mb)) (.string (keyS s d.st)) true).run Tryz.prog V=.ok (.tuple #[.int .i64 ((findP s (N.map Prod.fst) (keyS s d.st).data.toList).getD 0:Nat),.bool false]) V):=Lib.hid fun V hV=>by
  refine⟨⟨cell_of (hV.at hc (by simp)) 0,cell_of (hV.at h1 (by simp)) 3,cell_of (hV.at h1 (by simp)) 0,cell_of (hV.at h1 (by simp)) 2⟩,?_⟩
  have:=SpO.look h.mp hV _ hz
  rwa [hfs] at this
 have HF0:=Lib.hid hf0;have HE:=Lib.hid hW0
 have hle:((N.length:Int) == lim)=false:=by simpa using hl
 have HB1:=Lib.hid h1;have HB2:=Lib.hid h2;have HB3:=Lib.hid h3
 have HSP:=Lib.hid h;have HC:=Lib.hid hc;have HK:=Lib.hid hk;have HD:=Lib.hid hd;have HZ:=Lib.hid hz;have HS:=Lib.hid hs;have HN:=Lib.hid hn
 clear h hy hd hc hk hz hf0 h1 h2 h3 hW0 hfs hl hs hn
 go_enter Tryz.func45,Tryz.ntmps45
 go_upto_region 1 with fail
 rw[HE.out]
 go_upto_region 5 with (first
  | (go_at_call 22;go_must (refine CK.out.mono ?_;rintro e w2 ⟨rfl,hf2⟩;have HF2:=Lib.hid (HF0.out.trans hf2);have HG2:=Lib.hid hf2;clear hf2;obtain⟨⟨q0,q1,q2,q3⟩,q4⟩:=HL.out w2 HF2.out)))
 go_quiet (fail)
 go_upto_region 7 with fail
 obtain⟨w5,hw5⟩:∃ w5,w2.drewN nq=w5:=⟨_,rfl⟩
 have HF5:Hid (Frm [] W w5):=Lib.hid (by rw[← hw5];exact HF2.out.drewN _)
 have HG5:Hid (Frm [] W0 w5):=Lib.hid (by rw[← hw5];exact HG2.out.drewN _)
 rw[hw5]
 clear hw5 q0 q1 q2 q3 q4
 refine wp_region_cqt 10 (by kernel_rfl) (by kernel_rfl) ?_
 simp only[List.take_succ_cons,List.take_zero,List.drop_succ_cons,List.drop_zero]
 repeat (first
  | go_big_quiet_skip
  | (refine wpQuiet_want (by rfl) (fun K hK=>?_)
     first
      | (refine quiet_move _ (by rfl) (hK _ ?_))
      | (refine quiet_assign _ (by rfl) (hK _ ?_))
      | (apply Exists.intro
         refine⟨fun w' hC=>?_,hK _ ?_⟩
         ·(unfold Oper.quietAt
           obtain⟨⟨p0,p1,p2,p3⟩,p4⟩:=HL.out w' (HF5.out.trans hC)
           clear hC
           go_simp
           try exact⟨rfl,rfl⟩
           try rfl))
     clear hK K
     try simp only[nrm,Act.eval,nrq]))
 refine wpQuiet_nil ?_
 intro w6 hf6
 have HF6:=Lib.hid (HF5.out.trans hf6);have HG6:=Lib.hid (HG5.out.trans hf6)
 have HS6:=Lib.hid (HSP.out.frm HF6.out)
 obtain⟨w7,hup,hm7,hf7⟩:=HS6.out.mp.store Tryz.keyedS Tryz.underlying112 (by have:=HN.out;unfold maxLen;omega) (WideMaps.keyOf_string_mk Tryz.underlying9 HZ.out) (by trivial) (.int .i64 (N.length:Nat))
 rw[(keyF_get s (N.map Prod.fst) (keyS s d.st).data.toList).2,keyS_list,findP_none,HK.out] at hm7
 simp only[Bool.false_eq_true,if_false] at hm7
 have HM7:=Lib.hid hm7;have HF7:=Lib.hid hf7
 clear hf6 hm7 hf7
 go_upto_region 8 with fail
 obtain⟨ao',cap',g1,g2,g3⟩:=HS6.out.bx
 have eao:ao'=ao∧cap'=cap:=by
  have e:=(cell_of g1 2).symm.trans (HL.out w6 HF6.out).1.2.2.2
  simp at e
  exact e
 obtain⟨rfl,rfl⟩:=eao
 have hne:qb≠mb:=fun e=>by
  obtain⟨es,c,hb⟩:=HS6.out.mp.block rfl
  rw[← e,g1] at hb;cases hb
 have hcm:∀ {k:Nat} {C:Array Value} {t:TypeId},w6.heap[k]?=some (.cells C t (0,0))→w7.heap[k]?=some (.cells C t (0,0)):=fun {k C t} hk=>HF7.out.at hk (by
  intro hm
  simp only[List.mem_singleton] at hm
  obtain⟨es,c,hb⟩:=HS6.out.mp.block rfl
  rw[← hm,hk] at hb;cases hb)
 have x7:=hcm (HF6.out.at HC.out (by simp))
 have q7:=hcm g1
 have b7:=hcm (HG6.out.at HB0.out (by simp))
 have row7:w7.ownsRow w.heap.size 117 7 (.slice ao' N.length cap') N.length (ndC N):=HF7.out.owns g2 (by
  intro k hk hm
  simp only[List.mem_singleton] at hm
  obtain⟨c,hc⟩:=ownBlock_type g2 hk
  obtain⟨es,c',hb⟩:=HS6.out.mp.block rfl
  rw[← hm,hc] at hb;cases hb)
 have HG1:=Lib.hid g1;have HG2':=Lib.hid g2;have HG3:=Lib.hid g3;have HX7:=Lib.hid x7;have HB7:=Lib.hid b7;have HQ7:=Lib.hid q7;have HR7:=Lib.hid row7
 have hty:Ty w7 sb 140:=by
  obtain⟨av,wv,hb,-⟩:=HD.out.out
  exact⟨_,hcm (HF6.out.at hb (by simp))⟩
 have HTY:=Lib.hid hty
 have hG7:∀ V,Frm [] w7 V→RowG (NdG V) 117 (.slice ao' N.length cap') V:=fun V hV g cur hg hc u hu=>by
  obtain⟨c,hc6⟩:=ownBlock_type g2 hg
  have h7:=hV.at (hcm hc6) (by simp)
  rw[h7] at hc
  cases hc
  exact(((g3 g _ hg hc6 u hu).frm (F:=[mb]) HF7.out (fun p hp hm=>by
   simp only[List.mem_singleton] at hm
   obtain⟨D,hD⟩:=hp
   obtain⟨es,c',hb⟩:=HS6.out.mp.block rfl
   rw[← hm,hD] at hb;cases hb)).frm hV (by simp))
 have HG7:=Lib.hid hG7
 obtain⟨i0,hi0,hz0,hz1,hz2⟩:=info_parts Tryz.infoNd
 clear g1 g2 g3 x7 q7 b7 row7 hcm hty hG7 hup c0 hle CK HL HE
 obtain⟨F,hFe⟩:∃ F,(Value.slice ao' N.length cap').ownBlock.toList=F:=⟨_,rfl⟩
 have hFn:∀ k∈F,Ty w7 k 117∧k < W.heap.size:=fun k hk=>by
  rw[← hFe,Option.mem_toList] at hk
  exact⟨ownBlock_type HR7.out hk,ownBlock_lt HB2.out hk⟩
 have hX:∀ V,Frm F w7 V→V.heap[cb]?=some (.cells #[.pointer (some ⟨qb,0,none⟩)] 109 (0,0)):=fun V hV=>hV.at HX7.out (fun hm=>by
  obtain⟨D,hD⟩:=(hFn _ hm).1
  rw[HX7.out] at hD;cases hD)
 have hQ:∀ V,Frm F w7 V→V.heap[qb]?=some (.cells #[.int .i64 lim,.bool whole,.slice ao' N.length cap',.map (some mb)] 115 (0,0)):=fun V hV=>hV.at HQ7.out (fun hm=>by
  obtain⟨D,hD⟩:=(hFn _ hm).1
  rw[HQ7.out] at hD;cases hD)
 have hB:∀ V,Frm F w7 V→V.heap[W.heap.size]?=some (.cells #[.pointer (some ⟨sb,0,none⟩),.int .i64 d.par,.int .i64 d.mv.kind,.int .i64 d.mv.role,.int .i64 d.mv.step,.int .i64 d.mv.place,.int .i64 d.lvl] 117 (0,0)):=fun V hV=>hV.at HB7.out (fun hm=>by
  have:=(hFn _ hm).2;omega)
 have HCT:Hid (∀ V,Frm F w7 V→(V.cell? ⟨cb,0,none⟩=some (.pointer (some ⟨qb,0,none⟩))∧V.cell? ⟨qb,2,none⟩=some (.slice ao' N.length cap'))∧V.cell? ⟨W.heap.size,0,none⟩=some (.pointer (some ⟨sb,0,none⟩))∧V.cell? ⟨W.heap.size,1,none⟩=some (.int .i64 d.par) ∧
   V.cell? ⟨W.heap.size,2,none⟩=some (.int .i64 d.mv.kind)∧V.cell? ⟨W.heap.size,3,none⟩=some (.int .i64 d.mv.role)∧V.cell? ⟨W.heap.size,4,none⟩=some (.int .i64 d.mv.step)∧V.cell? ⟨W.heap.size,5,none⟩=some (.int .i64 d.mv.place)∧V.cell? ⟨W.heap.size,6,none⟩=some (.int .i64 d.lvl)):=Lib.hid fun V hV =>
  ⟨⟨cell_of (hX V hV) 0,cell_of (hQ V hV) 2⟩,cell_of (hB V hV) 0,cell_of (hB V hV) 1,cell_of (hB V hV) 2,cell_of (hB V hV) 3,cell_of (hB V hV) 4,cell_of (hB V hV) 5,cell_of (hB V hV) 6⟩
 have HQF:=Lib.hid hQ
 have HFE:=Lib.hid hFe
 clear hX hQ hB hFn hFe
 refine heldL_start F (wrFrom 10) (by kernel_rfl) ?_
 refine cnt 0 ?_
 iterate 6
  refine hcL ?_ ?_ ?_
  rotate_left
  ·intro w' hC
   obtain⟨⟨x0,x1⟩,y0,y1,y2,y3,y4,y5,y6⟩:=HCT.out w' ((Frm.refl F w7).drew.trans hC)
   clear hC
   go_simp
   try rfl
  try simp only[nrm,Nat.reduceAdd]
 refine tcn ?_
 obtain⟨wd,hwd⟩:∃ wd,w7.drew=wd:=⟨_,rfl⟩
 have hfd:Frm [] w7 wd:=by rw[← hwd];exact(Frm.refl _ _).drew
 rw[hwd]
 clear hwd
 have HG8:=Lib.hid (HG7.out _ (hfd.alloc (.cells #[.pointer (some ⟨sb,0,none⟩),.int .i64 d.par,.int .i64 d.mv.kind,.int .i64 d.mv.role,.int .i64 d.mv.step,.int .i64 d.mv.place,.int .i64 d.lvl] 117)))
 refine honL 6 ?_
 refine heldL_step (i:=6) rfl rfl (by rfl) (fun K' hK'=>?_)
 go_simp
 (skip)
 refine hK'.out _ _ ((Frm.refl _ _).alloc _) ?_
 clear hK' K'
 try simp only[nrm]
 obtain⟨w8,hw8⟩:∃ w8,wd.alloc (.cells #[.pointer (some ⟨sb,0,none⟩),.int .i64 d.par,.int .i64 d.mv.kind,.int .i64 d.mv.role,.int .i64 d.mv.step,.int .i64 d.mv.place,.int .i64 d.lvl] 117)=w8:=⟨_,rfl⟩
 have HF8:Hid (Frm [] w7 w8):=Lib.hid (by rw[← hw8];exact hfd.alloc _)
 have hnews:∀ j u,(ndC1 (d,sb))[j]?=some u→w8.cell? ((⟨wd.heap.size,0,none⟩:Addr).add j)=some u:=by rw[← hw8];exact new_row wd _ _
 rw[hw8] at HG8 ⊢
 have hsz8:w.heap.size≤w8.heap.size:=by have:=HS6.out.fr.size;have:=HF7.out.size;have:=HF8.out.size;omega
 have HNW:=Lib.hid hnews
 clear hw8 hnews hfd
 refine honL 7 ?_
 refine heldL_step (i:=7) rfl rfl (by rfl) (fun K' hK'=>?_)
 refine wp_append_all (NdG w8) _ _ 113 rfl w.heap.size 117 i0 ndZ 7 56 Tryz.underlying113 hi0 hz0 hz1 hz2 rfl (by decide) (.slice ao' N.length cap') N.length (ndC N) ?_ (HF8.out.owns HR7.out (by simp)) ⟨wd.heap.size,0,none⟩ 1 1 (ndC1 (d,sb)) ?_ rfl HNW.out (by simp[Value.oneCell',ndC1]) (by have:=HN.out;unfold maxLen;omega) (by have:=HN.out;omega) hsz8 (by omega) HG8.out (ndG_zero _) (ndG_one (HTY.out.frm HF8.out (by simp))) ?_;(focus (go_simp;done));(focus (go_simp;done));intro v' w9 hown' hgrow hG9 hob;have HOB:=Lib.hid hob;have HO:=Lib.hid hown';have HGR:=Lib.hid hgrow;have HG9:=Lib.hid hG9;have hfg:Frm F w8 w9:=(Frm.refl _ _).grown hgrow (fun k hk=>.inl (by rw[← HFE.out];simp[hk]));have hbx:=HQF.out w9 ((HF8.out.mono (by simp)).trans hfg);have cx9:=cell_of hbx 2;have fx9:=free_of hbx 2;obtain⟨ao9,cp9,rfl⟩:=own_shape hown';clear hown' hgrow hG9 hbx hob
 refine hK'.out _ _ hfg ?_
 clear hK' K'
 try simp only[nrm]
 refine cnt 8 ?_
 iterate 2
  refine hcL ?_ ?_ ?_
  rotate_left
  ·intro w' hC
   clear hC
   go_simp
   try rfl
  try simp only[nrm,Nat.reduceAdd]
 refine tcn ?_
 refine honL 10 ?_
 refine heldL_write (i:=10) rfl (by rfl) (by rfl) (fun K' hK'=>?_)
 go_simp
 (skip)
 refine hK'.out _ _ ?_
 clear hK' K'
 try simp only[nrm]
 refine heldL_done (by kernel_rfl) ?_ _
 go_wp2
 go_ret
 refine⟨rfl,?_⟩
 obtain⟨r1,r2,r3⟩:=HS6.out.add HS.out (HD.out.frm HF6.out) HK.out HG1.out HG2'.out HG3.out HM7.out HF7.out HF8.out HGR.out HO.out HG9.out
 refine⟨r1,⟨_,(HF6.out.mono (by simp)).trans r2,HSP.out.spB HB1.out HB2.out HB3.out⟩,fun k hk=>?_⟩
 rintro⟨a,b,v,m,e1,e2⟩
 rw[r3] at e1
 cases e1
 rcases HOB.out with e | e
 ·exact⟨_,_,_,_,HB1.out,e ▸ e2⟩
 ·rw[e] at e2
  cases e2
  have:=HF6.out.size
  have:=HF7.out.size
  have:=HF8.out.size
  omega
end
end Go.Proofs.YtemjlpahohmajaaGreat
namespace Go.Proofs.YtemjlpahohmajaaGreat
open Go.RowKit Go.BigFrame
theorem num34_any (e:Int) (W:World):Calls Tryz.prog 13 #[.int .i64 e] W (Ret (.int .i64 e) (W=·)):=by
 go_enter Tryz.func13,Tryz.ntmps13
 go_wp2
 go_ret
 exact⟨rfl,rfl⟩
set_option maxHeartbeats 2000000 in
set_option maxRecDepth 100000 in
theorem sample34_any (w:World):Calls Tryz.prog 43 #[] w (RetV fun v w'=>SesV w' v (smS 2)∧Frm [] w w'):=by
 go_enter Tryz.func43,Tryz.ntmps43
 go_upto_region 3 with fail
 obtain⟨X,hX⟩:∃ X,(((((((w.alloc (.cells #[.string { data:=#[] },.slice none 0 0,.int .i64 0,.int .i64 0] 25)).alloc (.cells #[.string { data:=#[120] },.bool true,.int .i64 0] 180)).alloc (.cells #[.string { data:=#[120] },.string { data:=#[120] },.int .i64 1,.string { data:=#[109] },.string { data:=#[98] },.string { data:=#[] },.int .i64 0,.int .i64 0,.int .i64 0] 90)).alloc (.cells #[.string { data:=#[97] },.slice (some ⟨w.heap.size + 1,0,none⟩) 1 1,.slice none 0 0,.slice (some ⟨w.heap.size + 1 + 1,0,none⟩) 1 1] 86)).alloc (.cells #[.string { data:=#[121] },.bool true,.int .i64 0] 180)).alloc (.cells #[.string { data:=#[121] },.string { data:=#[121] },.int .i64 2,.string { data:=#[109] },.string { data:=#[97] },.string { data:=#[] },.int .i64 0,.int .i64 0,.int .i64 0] 90)).alloc (.cells #[.string { data:=#[98] },.slice (some ⟨w.heap.size + 1 + 1 + 1 + 1,0,none⟩) 1 1,.slice none 0 0,.slice (some ⟨w.heap.size + 1 + 1 + 1 + 1 + 1,0,none⟩) 1 1] 86))=X:=⟨_,rfl⟩
 have HF:Hid (Frm [] w X):=Lib.hid (by rw[← hX];exact(((((((Frm.refl [] w).alloc _).alloc _).alloc _).alloc _).alloc _).alloc _).alloc _)
 have H0:Hid (X.heap[w.heap.size]?=some (.cells #[.string { data:=#[] },.slice none 0 0,.int .i64 0,.int .i64 0] 25 (0,0))):=Lib.hid (by rw[← hX];exact alloc_at (alloc_at (alloc_at (alloc_at (alloc_at (alloc_at (alloc_top (by simp))))))))
 have H1:Hid (X.heap[w.heap.size + 1]?=some (.cells #[.string { data:=#[120] },.bool true,.int .i64 0] 180 (0,0))):=Lib.hid (by rw[← hX];exact alloc_at (alloc_at (alloc_at (alloc_at (alloc_at (alloc_top (by simp)))))))
 have H2:Hid (X.heap[w.heap.size + 1 + 1]?=some (.cells #[.string { data:=#[120] },.string { data:=#[120] },.int .i64 1,.string { data:=#[109] },.string { data:=#[98] },.string { data:=#[] },.int .i64 0,.int .i64 0,.int .i64 0] 90 (0,0))):=Lib.hid (by rw[← hX];exact alloc_at (alloc_at (alloc_at (alloc_at (alloc_top (by simp))))))
 have H3:Hid (X.heap[w.heap.size + 1 + 1 + 1]?=some (.cells #[.string { data:=#[97] },.slice (some ⟨w.heap.size + 1,0,none⟩) 1 1,.slice none 0 0,.slice (some ⟨w.heap.size + 1 + 1,0,none⟩) 1 1] 86 (0,0))):=Lib.hid (by rw[← hX];exact alloc_at (alloc_at (alloc_at (alloc_top (by simp)))))
 have H4:Hid (X.heap[w.heap.size + 1 + 1 + 1 + 1]?=some (.cells #[.string { data:=#[121] },.bool true,.int .i64 0] 180 (0,0))):=Lib.hid (by rw[← hX];exact alloc_at (alloc_at (alloc_top (by simp))))
 have H5:Hid (X.heap[w.heap.size + 1 + 1 + 1 + 1 + 1]?=some (.cells #[.string { data:=#[121] },.string { data:=#[121] },.int .i64 2,.string { data:=#[109] },.string { data:=#[97] },.string { data:=#[] },.int .i64 0,.int .i64 0,.int .i64 0] 90 (0,0))):=Lib.hid (by rw[← hX];exact alloc_at (alloc_top (by simp)))
 have H6:Hid (X.heap[w.heap.size + 1 + 1 + 1 + 1 + 1 + 1]?=some (.cells #[.string { data:=#[98] },.slice (some ⟨w.heap.size + 1 + 1 + 1 + 1,0,none⟩) 1 1,.slice none 0 0,.slice (some ⟨w.heap.size + 1 + 1 + 1 + 1 + 1,0,none⟩) 1 1] 86 (0,0))):=Lib.hid (by rw[← hX];exact alloc_top (by simp))
 rw[hX]
 have HB0:Hid ((X.alloc (.cells #[.string { data:=#[97] },.slice (some ⟨w.heap.size + 1,0,none⟩) 1 1,.slice none 0 0,.slice (some ⟨w.heap.size + 1 + 1,0,none⟩) 1 1,.string { data:=#[98] },.slice (some ⟨w.heap.size + 1 + 1 + 1 + 1,0,none⟩) 1 1,.slice none 0 0,.slice (some ⟨w.heap.size + 1 + 1 + 1 + 1 + 1,0,none⟩) 1 1] 86)).heap[w.heap.size]?=some (.cells #[.string { data:=#[] },.slice none 0 0,.int .i64 0,.int .i64 0] 25 (0,0))):=Lib.hid (alloc_at H0.out)
 clear hX
 go_wp2_with (first
  | (refine wpList_load_whole rfl 86 _ rfl _ rfl _ 86 H3.out _ Tryz.underlying86 rfl (by kernel_rfl) ?_)
  | (refine wpList_load_whole rfl 86 _ rfl _ rfl _ 86 H6.out _ Tryz.underlying86 rfl (by kernel_rfl) ?_)
  | (refine wpList_store_row rfl 25 _ _ rfl _ _ _ 25 rfl rfl HB0.out rfl (by kernel_rfl) (by simp[Value.oneCell']) ?_;intro w2 hb2 hf2))
 have hfX:Frm [w.heap.size] X w2:=((Frm.refl [] X).alloc _).mono (by simp) |>.trans hf2
 have hr:w2.heap[X.heap.size]?=some (.cells #[.string { data:=#[97] },.slice (some ⟨w.heap.size + 1,0,none⟩) 1 1,.slice none 0 0,.slice (some ⟨w.heap.size + 1 + 1,0,none⟩) 1 1,.string { data:=#[98] },.slice (some ⟨w.heap.size + 1 + 1 + 1 + 1,0,none⟩) 1 1,.slice none 0 0,.slice (some ⟨w.heap.size + 1 + 1 + 1 + 1 + 1,0,none⟩) 1 1] 86 (0,0)):=hf2.at (heap_alloc_new X _) (by have:=HF.out.size;have:=lt_of_block H0.out;simp;omega)
 have c1:=hfX.at H1.out (by simp <;> omega)
 have c2:=hfX.at H2.out (by simp <;> omega)
 have c4:=hfX.at H4.out (by simp <;> omega)
 have c5:=hfX.at H5.out (by simp <;> omega)
 refine bodyPost_ret (results_c1 (d:=_) (Tryz.results43) rfl hb2 rfl Tryz.underlying25 (by kernel_rfl)) rfl ⟨_,rfl,?_,HF.out.then hfX (by simp)⟩
 refine⟨_,rfl,_,2,rfl,fun i r hi=>?_⟩
 match i,hi with
 | 0,hi =>
   cases hi
   refine⟨X.heap.size,0,rfl,_,_,_,cell_of hr 0,cell_of hr 1,cell_of hr 2,cell_of hr 3,⟨⟨_,1,rfl,fun j x hj=>?_⟩,Arr.nil _ _ _,⟨_,1,rfl,fun j x hj=>?_⟩,fun _ _ _ e=>by cases e;exact Nat.le_refl _⟩⟩
   ·match j,hj with
    | 0,hj=>cases hj;exact⟨_,0,rfl,cell_of c1 0,cell_of c1 1,cell_of c1 2⟩
    | j + 1,hj=>simp at hj
   ·match j,hj with
    | 0,hj=>cases hj;exact⟨_,0,rfl,cell_of c2 0,cell_of c2 1,cell_of c2 2,cell_of c2 3,cell_of c2 4,cell_of c2 5,cell_of c2 6,cell_of c2 7,cell_of c2 8⟩
    | j + 1,hj=>simp at hj
 | 1,hi =>
   cases hi
   refine⟨X.heap.size,0,rfl,_,_,_,cell_of hr 4,cell_of hr 5,cell_of hr 6,cell_of hr 7,⟨⟨_,1,rfl,fun j x hj=>?_⟩,Arr.nil _ _ _,⟨_,1,rfl,fun j x hj=>?_⟩,fun _ _ _ e=>by cases e;exact Nat.le_refl _⟩⟩
   ·match j,hj with
    | 0,hj=>cases hj;exact⟨_,0,rfl,cell_of c4 0,cell_of c4 1,cell_of c4 2⟩
    | j + 1,hj=>simp at hj
   ·match j,hj with
    | 0,hj=>cases hj;exact⟨_,0,rfl,cell_of c5 0,cell_of c5 1,cell_of c5 2,cell_of c5 3,cell_of c5 4,cell_of c5 5,cell_of c5 6,cell_of c5 7,cell_of c5 8⟩
    | j + 1,hj=>simp at hj
 | i + 2,hi=>simp[smS] at hi
end Go.Proofs.YtemjlpahohmajaaGreat
namespace Go.Proofs.YtemjlpahohmajaaGreat
open Go.RowKit Go.BigFrame Go.Maps
theorem cat_le {α:Type} {f:Nat→List α} {b:Nat}:∀ {n:Nat},(∀ k,k < n→(f k).length≤b)→(cat f n).length≤n * b
 | 0,_=>by simp[cat]
 | n + 1,h=>by
   rw[cat,List.length_append]
   have h1:=cat_le (n:=n) fun k hk=>h k (by omega)
   have h2:=h n (by omega)
   rw[Nat.add_mul,Nat.one_mul]
   omega
theorem flatMap_len {α β:Type} {f:α→List β} {b:Nat} (h:∀ x,(f x).length≤b):∀ l:List α,(l.flatMap f).length≤l.length * b
 | []=>by simp
 | x :: l=>by
   rw[List.flatMap_cons,List.length_append,List.length_cons,Nat.add_mul,Nat.one_mul]
   have:=flatMap_len h l
   have:=h x
   omega
theorem keyS_size {s:SesD} {x:PS} (hs:SesOk s) (hx:PSok s x):(keyS s x).size≤3000:=by
 have h4:=hs.n4
 have hr:∀ i,i < s.roles.length→(keyRole x i).length≤9:=fun i hi=>by
  unfold keyRole
  rw[List.length_cons]
  have h1:=flatMap_len (f:=two) (b:=2) (fun v=>by simp[two]) (x.bank i)
  have h2:=(hx.vb i hi).1
  have h3:=(hs.at hi).c4
  omega
 have hw:∀ i k,i < s.roles.length→k < s.roles.length→(keyWay s x i k).length≤140:=fun i k hi hk=>by
  unfold keyWay
  split
  ·simp
  ·rw[List.length_cons]
   obtain⟨h1,h2⟩:=hx.wb i k hi hk
   have h3:=keyB_size (keyL s.cls (x.way i k)) fun m hm=>(h2 m (keyL_mem hm)).2
   rw[keyL_length] at h3
   have h5:=hs.k4
   have h6:(byt (keyB (keyL s.cls (x.way i k)))).length=(keyB (keyL s.cls (x.way i k))).size:=byt_length _
   omega
 have e:(keyS s x).size=(keyP s x).length:=by
  unfold keyS
  exact List.size_toArray
 rw[e]
 unfold keyP
 rw[List.length_append]
 have h1:=cat_le (f:=keyRole x) (n:=s.roles.length) hr
 have h2:=cat_le (f:=fun i=>cat (keyWay s x i) s.roles.length) (n:=s.roles.length) (b:=4 * 140) fun i hi=>Nat.le_trans (cat_le fun k hk=>hw i k hi hk) (Nat.mul_le_mul_right _ h4)
 have h3:s.roles.length * 9≤4 * 9:=Nat.mul_le_mul_right _ h4
 have h5:s.roles.length * (4 * 140)≤4 * (4 * 140):=Nat.mul_le_mul_right _ h4
 omega
theorem addMv_snoc {s:SesD} {lim:Nat} {x:PS} {n lvl:Nat} {m:Mv}:∀ {ms:List Mv} {N N':List Nd},addMv s lim x n lvl N ms=(N',true)→addMv s lim x n lvl N (ms ++ [m])=addMv s lim x n lvl N' [m]
 | [],N,N',h=>by cases h;rfl
 | a :: ms,N,N',h=>by
   rw[List.cons_append,addMv]
   rw[addMv] at h
   split at h
   ·rename_i hk;rw[if_pos hk];exact addMv_snoc h
   ·rename_i hk
    rw[if_neg hk]
    split at h
    ·cases h
    ·rename_i hl;rw[if_neg hl];exact addMv_snoc h
theorem addMv_stop {s:SesD} {lim:Nat} {x:PS} {n lvl:Nat}:∀ {ms ks:List Mv} {N N':List Nd},addMv s lim x n lvl N ms=(N',false)→addMv s lim x n lvl N (ms ++ ks)=(N',false)
 | [],ks,N,N',h=>by cases h
 | a :: ms,ks,N,N',h=>by
   rw[List.cons_append,addMv]
   rw[addMv] at h
   split at h
   ·rename_i hk;rw[if_pos hk];exact addMv_stop h
   ·rename_i hk
    rw[if_neg hk]
    split at h
    ·rename_i hl;rw[if_pos hl];exact h
    ·rename_i hl;rw[if_neg hl];exact addMv_stop h
theorem addMv_one {s:SesD} {lim:Nat} {x:PS} {n lvl:Nat} {m:Mv} {N:List Nd}:addMv s lim x n lvl N [m]=if hasK s N (keyP s (nextP s x m)) then (N,true) else if N.length=lim then (N,false) else (N ++ [⟨nextP s x m,n,m,lvl + 1⟩],true):=by
 rw[addMv,addMv,addMv]
theorem wp_store_row {P:Program} {op:Oper} {a:Act} {w:World} {K:Act→World→Prop} {Q:Exit→Act→World→Prop} (ty:TypeId) (x y:Operand) (ho:op.op=.store ty x y) (b:Nat) (A C:Array Value) (t:TypeId) (hx:a.eval x=.pointer (some ⟨b,0,none⟩)) (hy:a.eval y=.agg A)
  (hb:w.heap[b]?=some (.cells C t (0,0))) (hs:A.size=C.size) (hi:(P.info? ty).map (·.size)=some A.size) (h1:A.all (·.oneCell')=true)
  (h:∀ w',w'.heap[b]?=some (.cells A t (0,0))→Frm [b] w w'→K (a.put op.dst undef) w'):op.wp P a w K Q:=by
 have hw:=setCells_whole hb A hs
 refine wp_store_mid ty x y ho b 0 A hx hy (fun j hj=>⟨?_,?_⟩) hi h1 (h _ hw.1 hw.2)
 ·rw[Nat.zero_add,cell_of hb];simp[show j < C.size by omega]
 ·rw[Nat.zero_add];exact free_of hb j
structure SeS (w:World) (s:SesD) (yb fb:Nat) (lim:Int) (whole:Bool) (qb mb yB cb ab:Nat) (N:List (Nd × Nat)) (W:World):Prop where
 sp:SpR w s yb lim whole qb mb N W
 y:W.heap[yB]?=some (.cells #[.pointer (some ⟨yb,0,none⟩)] 26 (0,0))
 c:W.heap[cb]?=some (.cells #[.pointer (some ⟨qb,0,none⟩)] 109 (0,0))
 a:W.heap[ab]?=some (.cells #[.func (.func 45) #[] #[.pointer (some ⟨cb,0,none⟩)]] 119 (0,0))
 sy:SyR W s yb fb
theorem book_fg {W:World}:∀ b∈books W,FgB W b:=fun b hb=>by
 obtain⟨o,ho,hi⟩:=mem_books.1 hb
 have hn:∀ C t fr,o≠.cells C t fr:=fun C t fr e=>by subst e;cases hi
 have hc:∀ x,W.cell? ⟨b,x,none⟩=none:=fun x=>by
  unfold World.cell?
  rw[ho]
  cases o with
  | cells C t fr=>exact absurd rfl (hn _ _ _)
  | _=>rfl
 exact⟨fun C t e=>(by rw[ho] at e;cases e;exact absurd rfl (hn _ _ _)),fun o' x e=>(by rw[hc] at e;cases e),fun o' p e=>(by rw[hc] at e;cases e),fun o' g o'' p n c e=>(by rw[hc] at e;cases e)⟩
section
variable {w W V:World} {s:SesD} {yb fb qb mb yB cb ab:Nat} {lim:Int} {whole:Bool} {N N':List (Nd × Nat)}
theorem SpR.bk (h:SpR w s yb lim whole qb mb N W) (hs:0 < s.roles.length) {B:Nat} (hb:Bk B W V) (hB:w.heap.size≤B):SpR w s yb lim whole qb mb N V:=by
 obtain⟨ao,cap,h1,h2,h3⟩:=h.bx
 have hf:=hb.frm
 have hnb:∀ {k:Nat} {C:Array Value} {t:TypeId},W.heap[k]?=some (.cells C t (0,0))→k∉books W:=fun hk=>not_books hk rfl
 refine⟨hb.old h.fr hB,h.lq,h.lm,⟨ao,cap,hb.at h1 rfl,hf.owns h2 fun k hk=>?_,fun g cur hg hc u hu=>?_⟩,h.mp.frm hf fun b e=>?_,fun d hd=>(h.st d hd).fg hs book_fg hf⟩
 ·obtain⟨c,hc⟩:=ownBlock_type h2 hk
  exact hnb hc
 ·obtain⟨c,hc'⟩:=ownBlock_type h2 hg
  have:=hb.at hc' rfl
  rw[this] at hc
  cases hc
  exact(h3 g _ hg hc' u hu).frm hf fun p hp=>by
   obtain⟨D,hD⟩:=hp
   exact hnb hD
 ·cases e
  obtain⟨es,c,hm⟩:=h.mp.block rfl
  exact not_books hm rfl
theorem SyR.bk (h:SyR W s yb fb) {B:Nat} (hb:Bk B W V):SyR V s yb fb:=h.fg book_fg hb.frm
theorem SeS.bk (h:SeS w s yb fb lim whole qb mb yB cb ab N W) {B:Nat} (hb:Bk B W V) (hB:w.heap.size≤B):SeS w s yb fb lim whole qb mb yB cb ab N V:=
 ⟨h.sp.bk (by have:=h.sy.ok.n2;omega) hb hB,hb.at h.y rfl,hb.at h.c rfl,hb.at h.a rfl,h.sy.bk hb⟩
theorem SeS.frm (h:SeS w s yb fb lim whole qb mb yB cb ab N W) (hf:Frm [] W V):SeS w s yb fb lim whole qb mb yB cb ab N V:=
 ⟨h.sp.frm hf,hf.at h.y (by simp),hf.at h.c (by simp),hf.at h.a (by simp),h.sy.frm hf⟩
theorem SeS.to (h:SeS w s yb fb lim whole qb mb yB cb ab N W) (ha:AdTo w s yb lim whole qb mb N' W V):SeS w s yb fb lim whole qb mb yB cb ab N' V:=by
 obtain⟨h1,⟨F,hf,hF⟩,-⟩:=ha
 exact⟨h1,SpB.at hF hf h.y (by decide) (.inl (by decide)),SpB.at hF hf h.c (by decide) (.inl (by decide)),SpB.at hF hf h.a (by decide) (.inl (by decide)),h.sy.fg (SpB.fg hF) hf⟩
theorem SpR.part (h:SpR w s yb lim whole qb mb N W) (hs:0 < s.roles.length):SpR w s yb lim false qb mb N (W.setCell ⟨qb,1,none⟩ (.bool false)):=by
 obtain⟨ao,cap,h1,h2,h3⟩:=h.bx
 have hfg:∀ b∈[qb],FgB W b:=fun b hb=>by rw[List.mem_singleton] at hb;subst hb;exact h.fgq.1
 obtain⟨V,hV⟩:∃ V,W.setCell ⟨qb,1,none⟩ (.bool false)=V:=⟨_,rfl⟩
 have hf:Frm [qb] W V:=by rw[← hV];exact(Frm.refl _ _).setCell _ (.inl (by simp)) _
 have b1:V.heap[qb]?=some (.cells #[.int .i64 lim,.bool false,.slice ao N.length cap,.map (some mb)] 115 (0,0)):=by rw[← hV];exact(block_setCell h1 1 _).trans rfl
 have hr:∀ k,(Value.slice ao N.length cap).ownBlock=some k→k∉[qb]:=fun k hk hm=>by
  rw[List.mem_singleton] at hm
  subst hm
  obtain⟨c,hc⟩:=ownBlock_type h2 hk
  rw[h1] at hc;cases hc
 rw[hV]
 refine⟨h.fr.then hf (by intro k hk;simp at hk;subst hk;exact .inr h.lq),h.lq,h.lm,⟨ao,cap,b1,hf.owns h2 hr,fun g cur hg hc u hu=>?_⟩,h.mp.frm hf fun b e hm=>?_,fun d hd=>(h.st d hd).fg hs hfg hf⟩
 ·obtain⟨c,hc'⟩:=ownBlock_type h2 hg
  have:=hf.at hc' (hr g hg)
  rw[this] at hc
  cases hc
  exact(h3 g _ hg hc' u hu).frm hf fun p hp hm=>by
   obtain⟨D,hD⟩:=hp
   exact FgB.ne hfg hD (by simp[sysT]) hm
 ·cases e
  rw[List.mem_singleton] at hm
  subst hm
  obtain⟨es,c,hm⟩:=h.mp.block rfl
  rw[h1] at hm;cases hm
theorem SeS.part (h:SeS w s yb fb lim whole qb mb yB cb ab N W):SeS w s yb fb lim false qb mb yB cb ab N (W.setCell ⟨qb,1,none⟩ (.bool false))∧KB W (W.setCell ⟨qb,1,none⟩ (.bool false)):=by
 have hn:0 < s.roles.length:=by have:=h.sy.ok.n2;omega
 obtain⟨ao,cap,h1,h2,h3⟩:=h.sp.bx
 have hfg:∀ b∈[qb],FgB W b:=fun b hb=>by rw[List.mem_singleton] at hb;subst hb;exact h.sp.fgq.1
 have hf:Frm [qb] W (W.setCell ⟨qb,1,none⟩ (.bool false)):=(Frm.refl _ _).setCell _ (.inl (by simp)) _
 have ht:∀ {k:Nat} {C:Array Value} {t:TypeId},W.heap[k]?=some (.cells C t (0,0))→t≠115→k∉[qb]:=fun hk ht hm=>by
  rw[List.mem_singleton] at hm
  subst hm
  rw[h1] at hk;cases hk
  exact ht rfl
 refine⟨⟨h.sp.part hn,hf.at h.y (ht h.y (by decide)),hf.at h.c (ht h.c (by decide)),hf.at h.a (ht h.a (by decide)),h.sy.fg hfg hf⟩,KB.frm hf fun k hk hb=>?_⟩
 rw[List.mem_singleton] at hk
 subst hk
 exact not_books h1 rfl hb
structure SrS (w:World) (s:SesD) (yb fb:Nat) (lim:Int) (whole:Bool) (qb mb yB cb ab nb xb n:Nat) (d:Nd × Nat) (B:Nat) (u:Value) (L:List Mv) (N:List (Nd × Nat)) (W:World):Prop where
 se:SeS w s yb fb lim whole qb mb yB cb ab N W
 hn:W.heap[nb]?=some (.cells #[.int .i64 n] 3 (0,0))
 hx:W.heap[xb]?=some (.cells #[.pointer (some ⟨d.2,0,none⟩),.int .i64 d.1.par,.int .i64 d.1.mv.kind,.int .i64 d.1.mv.role,.int .i64 d.1.mv.step,.int .i64 d.1.mv.place,.int .i64 d.1.lvl] 117 (0,0))
 xr:¬ RowOf W qb xb
 hb:W.heap[B]?=some (.cells #[u] 49 (0,0))
 hu:W.ownsRow w.heap.size 70 4 u L.length (mvC L)
 at':N[n]?=some d
variable {nb xb n B:Nat} {d:Nd × Nat} {u:Value} {L:List Mv}
theorem SrS.mvs (h:SrS w s yb fb lim whole qb mb yB cb ab nb xb n d B u L N W):MvI B u L W:=⟨h.hb,mv_arr h.hu⟩
theorem RowOf.back {F:List Nat} {k:Nat} (hf:Frm F W V) (hq:qb∉F) (hl:qb < W.heap.size) (h:RowOf V qb k):RowOf W qb k:=by
 obtain⟨a,b,v,m,e1,e2⟩:=h
 exact⟨a,b,v,m,(hf.block qb hl hq).symm.trans e1,e2⟩
theorem SpR.lt (h:SpR w s yb lim whole qb mb N W):qb < W.heap.size:=by
 obtain⟨ao,cap,h1,-⟩:=h.bx
 exact lt_of_block h1
theorem SrS.frm (h:SrS w s yb fb lim whole qb mb yB cb ab nb xb n d B u L N W) (hf:Frm [] W V):SrS w s yb fb lim whole qb mb yB cb ab nb xb n d B u L N V:=
 ⟨h.se.frm hf,hf.at h.hn (by simp),hf.at h.hx (by simp),fun hr=>h.xr (hr.back hf (by simp) h.se.sp.lt),hf.at h.hb (by simp),hf.owns h.hu (by simp),h.at'⟩
theorem SrS.bk (h:SrS w s yb fb lim whole qb mb yB cb ab nb xb n d B u L N W) {D:Nat} (hb:Bk D W V) (hD:w.heap.size≤D):SrS w s yb fb lim whole qb mb yB cb ab nb xb n d B u L N V:=by
 refine⟨h.se.bk hb hD,hb.at h.hn rfl,hb.at h.hx rfl,fun hr=>h.xr ?_,hb.at h.hb rfl,hb.frm.owns h.hu fun k hk=>?_,h.at'⟩
 ·obtain⟨ao,cap,h1,-⟩:=h.se.sp.bx
  exact hr.back hb.frm (not_books h1 rfl) (lt_of_block h1)
 ·obtain⟨c,hc⟩:=ownBlock_type h.hu hk
  exact not_books hc rfl
theorem SrS.to (h:SrS w s yb fb lim whole qb mb yB cb ab nb xb n d B u L N W) (ha:AdTo w s yb lim whole qb mb N' W V) (hn:N'[n]?=some d):SrS w s yb fb lim whole qb mb yB cb ab nb xb n d B u L N' V:=by
 have h0:=h.se.to ha
 obtain⟨h1,⟨F,hf,hF⟩,hr⟩:=ha
 refine⟨h0,SpB.at hF hf h.hn (by decide) (.inl (by decide)),SpB.at hF hf h.hx (by decide) (.inr h.xr),fun e=>h.xr (hr _ (lt_of_block h.hx) e),SpB.at hF hf h.hb (by decide) (.inl (by decide)),hf.owns h.hu fun k hk hm=>?_,hn⟩
 obtain⟨c,hc⟩:=ownBlock_type h.hu hk
 have:=SpB.at hF hf hc (by decide) (.inl (by decide))
 rcases (hF k hm).2 with ⟨es,c',e⟩ | ⟨D,e⟩ | ⟨⟨D,e⟩,-⟩ <;> rw[hc] at e <;> cases e
theorem AdTo.kb (ha:AdTo w s yb lim whole qb mb N' W V):KB W V:=by
 obtain⟨h1,⟨F,hf,hF⟩,-⟩:=ha
 refine KB.frm hf fun k hk hb=>?_
 obtain⟨o,ho,hi⟩:=mem_books.1 hb
 rcases (hF k hk).2 with ⟨es,c',e⟩ | ⟨D,e⟩ | ⟨⟨D,e⟩,-⟩ <;> rw[ho] at e <;> cases e <;> cases hi
end
def SrI (w:World) (s:SesD) (yb fb lim qb mb yB cb ab nb xb n:Nat) (d:Nd × Nat) (B:Nat) (u:Value) (L:List Mv) (N0:List Nd) (ds:List Nat) (pre:List (Nat × Mv)) (W:World):Prop:=
 ∃ N,SrS w s yb fb lim true qb mb yB cb ab nb xb n d B u L N W∧addMv s lim d.1.st n d.1.lvl N0 (pre.map Prod.snd)=(N.map Prod.fst,true)∧(N.length≤lim∧∀ e∈N,e.1.lvl≤N.length)∧Ms w ds W
def SrX (c:Code) (w:World) (s:SesD) (yb fb lim qb mb yB cb ab n:Nat) (d:Nd × Nat) (N0:List Nd) (ds:List Nat) (c':Code) (pre:List (Nat × Mv)) (W:World):Prop:=
 c'=c∧∃ N,SeS w s yb fb lim false qb mb yB cb ab N W∧addMv s lim d.1.st n d.1.lvl N0 (pre.map Prod.snd)=(N.map Prod.fst,false)∧Ms w ds W
section
variable {w W V:World} {s:SesD} {yb fb lim qb mb yB cb ab nb xb n B D:Nat} {d:Nd × Nat} {u:Value} {L:List Mv} {N0:List Nd} {ds:List Nat} {pre:List (Nat × Mv)} {c c':Code}
theorem Ms.bk (h:Ms w ds W) (hb:Bk D W V) (hds:∀ E∈ds,E < D):Ms w ds V:=⟨h.nd,fun E hE=>⟨(h.dl E hE).1,hb.block E _ (h.dl E hE).2 (.inl (hds E hE))⟩⟩
theorem Ms.kb (h:Ms w ds W) (hk:KB W V):Ms w ds V:=⟨h.nd,fun E hE=>⟨(h.dl E hE).1,hk E _ (h.dl E hE).2 rfl⟩⟩
theorem SrI.bk (h:SrI w s yb fb lim qb mb yB cb ab nb xb n d B u L N0 ds pre W) (hb:Bk D W V) (hD:w.heap.size≤D) (hds:∀ E∈ds,E < D):SrI w s yb fb lim qb mb yB cb ab nb xb n d B u L N0 ds pre V:=by
 obtain⟨N,h1,h2,h3,h4⟩:=h
 exact⟨N,h1.bk hb hD,h2,h3,h4.bk hb hds⟩
theorem SrX.bk (h:SrX c w s yb fb lim qb mb yB cb ab n d N0 ds c' pre W) (hb:Bk D W V) (hD:w.heap.size≤D) (hds:∀ E∈ds,E < D):SrX c w s yb fb lim qb mb yB cb ab n d N0 ds c' pre V:=by
 obtain⟨h0,N,h1,h2,h4⟩:=h
 exact⟨h0,N,h1.bk hb hD,h2,h4.bk hb hds⟩
end
theorem numL_some {α:Type} {L:List α} {pre rest:List (Nat × α)} {y:Nat × α} (h:numL L=pre ++ y :: rest):L[pre.length]?=some y.2:=by
 have h1:(numL L)[pre.length]?=some y:=by rw[h,List.getElem?_append_right (Nat.le_refl _),Nat.sub_self];rfl
 rw[numL_at,Option.map_eq_some_iff] at h1
 obtain⟨m,hm,rfl⟩:=h1
 exact hm
theorem bfs_step {s:SesD} {lim f n:Nat} {N N':List Nd} {d:Nd} (h:N[n]?=some d) (h2:addMv s lim d.st n d.lvl N (movesP s d.st)=(N',true)):bfs s lim (f + 1) n N=bfs s lim f (n + 1) N':=by
 rw[bfs,h]
 simp only[h2]
theorem bfs_stop {s:SesD} {lim f n:Nat} {N N':List Nd} {d:Nd} (h:N[n]?=some d) (h2:addMv s lim d.st n d.lvl N (movesP s d.st)=(N',false)):bfs s lim (f + 1) n N=(N',false):=by
 rw[bfs,h]
 simp only[h2]
theorem bfs_end {s:SesD} {lim f n:Nat} {N:List Nd} (h:N[n]?=none):bfs s lim (f + 1) n N=(N,true):=by
 rw[bfs,h]
theorem Ms.unmark {w W:World} {ds:List Nat} (h:Ms w ds W):Bk w.heap.size W (unmark ds W):=by
 have hf:=unmark_frm ds W
 refine⟨hf.os,hf.tape,hf.output,hf.size,fun k o hk ho=>hf.at hk fun hm=>?_⟩
 obtain⟨h1,h2⟩:=h.dl k hm
 rw[hk] at h2
 cases h2
 rcases ho with ho | ho
 ·omega
 ·cases ho
set_option maxHeartbeats 2000000 in
set_option maxRecDepth 100000 in
theorem pMvs_own (s:SesD) (yb fb sb:Nat) (x:PS) (w:World) (h:SyR w s yb fb) (hx:StR w s yb sb x):Calls Tryz.prog 33 #[.pointer (some ⟨yb,0,none⟩),.pointer (some ⟨sb,0,none⟩)] w
  (RetV fun v w'=>∃ B u,v=.func (.func 126) #[] #[.pointer (some ⟨B,0,none⟩)]∧w'.heap[B]?=some (.cells #[u] 49 (0,0))∧w'.ownsRow w.heap.size 70 4 u (movesP s x).length (mvC (movesP s x))∧Frm [] w w'):=by
 have C1:=Lib.hid (pCheck_any s yb fb sb x w h hx)
 have C2:=Lib.hid (pmoves_own s yb fb sb x w h hx)
 clear h hx
 go_enter Tryz.func33,Tryz.ntmps33
 go_wp2_with (first
  | (go_at_call 61;go_must (refine C1.out.mono ?_;rintro e w' ⟨rfl,rfl⟩))
  | (go_at_call 63;go_must (refine C2.out.mono ?_;rintro e w1 ⟨v,rfl,ha,hf⟩;obtain⟨ao,cq,rfl⟩:=own_shape ha;have HA:=Lib.hid ha;have HF:=Lib.hid hf;have C3:=Lib.hid (alMove_any _ (movesP s x) w1 (mv_arr ha));clear ha hf))
  | (go_at_call 75;go_must (refine C3.out.mono ?_;rintro e w2 ⟨v,rfl,rfl,ha,hf⟩;have HB:=Lib.hid ha;have HG:=Lib.hid hf;clear ha hf)))
 go_ret
 exact⟨_,rfl,_,_,rfl,HB.out.b,HG.out.owns HA.out (by simp),HF.out.trans HG.out⟩
end Go.Proofs.YtemjlpahohmajaaGreat
namespace Go.Proofs.YtemjlpahohmajaaGreat
open Go.RowKit Go.BigFrame
abbrev V3:=Value × Value × Value
def c3 (t:V3):List Value:=[t.1,t.2.1,t.2.2]
abbrev a3 (t:V3):Value:=.agg #[t.1,t.2.1,t.2.2]
def kyV (s:SesD) (d:Nd):Value:=.string (keyS s d.st)
def prV (d:Nd):Value:=.int .i64 d.par
abbrev zS:Value:=.string { data:=#[] }
abbrev zI:Value:=.int .i64 0
section
variable {W V:World} {s:SesD} {x:PS} {F:List Nat} {v:Value} {B:Nat}
theorem RSt.ty (h:RSt B W s v x) (hf:Frm F W V) (hn:∀ k∈F,Ty W k 125∨Ty W k 129∨Ty W k 39):RSt B V s v x:=by
 obtain⟨ba,bb,bw,bi,ca,cb,cw,h1,h2,h3⟩:=h.out
 exact⟨⟨ba,bb,bw,bi,ca,cb,cw,h1,h2.ty hf hn,h3⟩,h.ok⟩
theorem RSt.grS {g:Nat} {xs:List Value} (h:RSt B W s v x) (hg:Gr zS 9 g xs W V):RSt B V s v x:=by
 obtain⟨ba,bb,bw,bi,ca,cb,cw,h1,h2,h3⟩:=h.out
 exact⟨⟨ba,bb,bw,bi,ca,cb,cw,h1,h2.grS hg h.ok,h3⟩,h.ok⟩
theorem RSt.grI {g:Nat} {i0:Int} {xs:List Value} (h:RSt B W s v x) (hg:Gr zI 3 g (.int .i64 i0 :: xs) W V) (h0:i0 < 0) (hs:0 < s.roles.length):RSt B V s v x:=by
 obtain⟨ba,bb,bw,bi,ca,cb,cw,h1,h2,h3⟩:=h.out
 exact⟨⟨ba,bb,bw,bi,ca,cb,cw,h1,h2.grI hg h0 hs h.ok,h3⟩,h.ok⟩
theorem RowZ.ty {z:Value} {e:TypeId} {base:Nat} {xs:List Value} (h:RowZ z e base W v xs) {k:Nat} (hk:v.ownBlock=some k):Ty W k e:=by
 obtain⟨g,cap,cur,rfl,h1,h2,h3,h4,h5⟩:=h
 simp[Value.ownBlock] at hk
 subst hk
 exact⟨_,h4⟩
theorem RowZ.ge {z:Value} {e:TypeId} {base:Nat} {xs:List Value} (h:RowZ z e base W v xs) {k:Nat} (hk:v.ownBlock=some k):base≤k:=by
 obtain⟨g,cap,cur,rfl,h1,h2⟩:=h
 simp[Value.ownBlock] at hk
 omega
end
structure YR (w:World) (s:SesD) (T:List V3) (NS NK NP NM:List Nd) (Z:List (V3 × PS)) (cs ck cp cm:Value) (W:World):Prop where
 fr:Frm [] w W
 rs:W.ownsRow w.heap.size 125 3 cs NS.length (T.flatMap c3)
 tl:T.length=NS.length
 rk:RowZ zS 9 w.heap.size W ck (NK.map (kyV s))
 rp:RowZ zI 3 w.heap.size W cp (NP.map prV)
 p0:∃ xs,NP.map prV=.int .i64 (-1) :: xs
 rm:W.ownsRow w.heap.size 129 4 cm NM.length (mvC (NM.map Nd.mv))
 st:∀ z∈Z,RSt 0 W s (a3 z.1) z.2
section
variable {w W V:World} {s:SesD} {T:List V3} {NS NK NP NM:List Nd} {Z:List (V3 × PS)} {cs ck cp cm:Value}
theorem YR.frm (h:YR w s T NS NK NP NM Z cs ck cp cm W) (hf:Frm [] W V):YR w s T NS NK NP NM Z cs ck cp cm V:=
 ⟨h.fr.trans hf,hf.owns h.rs (by simp),h.tl,h.rk.frm hf (by simp),h.rp.frm hf (by simp),h.p0,hf.owns h.rm (by simp),fun z hz=>(h.st z hz).frm hf⟩
theorem YR.appS (h:YR w s T NS NK NP NM Z cs ck cp cm W) (nd:Nd) (t:V3) {cs':Value} (hg:W.grownBy V cs.ownBlock) (ho:V.ownsRow w.heap.size 125 3 cs' (NS.length + 1) (T.flatMap c3 ++ c3 t)) :
  YR w s (T ++ [t]) (NS ++ [nd]) NK NP NM Z cs' ck cp cm V:=by
 have hF:Frm cs.ownBlock.toList W V:=(Frm.refl _ _).grown hg fun k hk=>.inl (by simp[hk])
 have hty:∀ k∈cs.ownBlock.toList,Ty W k 125:=fun k hk=>own_ty h.rs (by rwa [Option.mem_toList] at hk)
 refine⟨h.fr.grown hg fun k hk=>.inr (ownBlock_ge h.rs hk),?_,by simp[h.tl],h.rk.frm hF fun k hk hm=>(h.rk.ty hk).ne (hty k hm) (by decide) rfl,h.rp.frm hF fun k hk hm=>(h.rp.ty hk).ne (hty k hm) (by decide) rfl,h.p0,
  hF.owns h.rm fun k hk hm=>(own_ty h.rm hk).ne (hty k hm) (by decide) rfl,fun z hz=>(h.st z hz).ty hF fun k hk=>.inl (hty k hk)⟩
 rw[List.flatMap_append,List.length_append]
 simpa using ho
theorem YR.appK (h:YR w s T NS NK NP NM Z cs ck cp cm W) (nd:Nd) {ck':Value} (ho:RowZ zS 9 w.heap.size V ck' (NK.map (kyV s) ++ [kyV s nd])) (hc:Frm [] W V∨∃ g,ck.ownBlock=some g∧ck'.ownBlock=some g∧Gr zS 9 g (NK.map (kyV s)) W V) :
  YR w s T NS (NK ++ [nd]) NP NM Z cs ck' cp cm V:=by
 have ho':RowZ zS 9 w.heap.size V ck' ((NK ++ [nd]).map (kyV s)):=by rw[List.map_append];exact ho
 rcases hc with hf | ⟨g,hg1,-,hg⟩
 ·have h2:=h.frm hf
  exact⟨h2.fr,h2.rs,h2.tl,ho',h2.rp,h2.p0,h2.rm,h2.st⟩
 ·have hty:Ty W g 9:=h.rk.ty hg1
  have hf:=hg.fr
  refine⟨h.fr.then hf (by intro k hk;simp at hk;subst hk;exact .inr (h.rk.ge hg1)),hf.owns h.rs fun k hk hm=>?_,h.tl,ho',h.rp.frm hf fun k hk hm=>?_,h.p0,hf.owns h.rm fun k hk hm=>?_,fun z hz=>(h.st z hz).grS hg⟩
  all_goals (rw[List.mem_singleton] at hm;subst hm)
  ·exact(own_ty h.rs hk).ne hty (by decide) rfl
  ·exact(h.rp.ty hk).ne hty (by decide) rfl
  ·exact(own_ty h.rm hk).ne hty (by decide) rfl
theorem YR.appP (h:YR w s T NS NK NP NM Z cs ck cp cm W) (hs:0 < s.roles.length) (nd:Nd) {cp':Value} (ho:RowZ zI 3 w.heap.size V cp' (NP.map prV ++ [prV nd])) (hc:Frm [] W V∨∃ g,cp.ownBlock=some g∧cp'.ownBlock=some g∧Gr zI 3 g (NP.map prV) W V) :
  YR w s T NS NK (NP ++ [nd]) NM Z cs ck cp' cm V:=by
 have ho':RowZ zI 3 w.heap.size V cp' ((NP ++ [nd]).map prV):=by rw[List.map_append];exact ho
 obtain⟨xs,hxs⟩:=h.p0
 have hp0:∃ xs,(NP ++ [nd]).map prV=.int .i64 (-1) :: xs:=⟨xs ++ [prV nd],by rw[List.map_append,hxs];rfl⟩
 rcases hc with hf | ⟨g,hg1,-,hg⟩
 ·have h2:=h.frm hf
  exact⟨h2.fr,h2.rs,h2.tl,h2.rk,ho',hp0,h2.rm,h2.st⟩
 ·have hty:Ty W g 3:=h.rp.ty hg1
  have hf:=hg.fr
  have hg':=hg
  rw[hxs] at hg'
  refine⟨h.fr.then hf (by intro k hk;simp at hk;subst hk;exact .inr (h.rp.ge hg1)),hf.owns h.rs fun k hk hm=>?_,h.tl,h.rk.frm hf fun k hk hm=>?_,ho',hp0,hf.owns h.rm fun k hk hm=>?_,fun z hz=>(h.st z hz).grI hg' (by omega) hs⟩
  all_goals (rw[List.mem_singleton] at hm;subst hm)
  ·exact(own_ty h.rs hk).ne hty (by decide) rfl
  ·exact(h.rk.ty hk).ne hty (by decide) rfl
  ·exact(own_ty h.rm hk).ne hty (by decide) rfl
theorem YR.appM (h:YR w s T NS NK NP NM Z cs ck cp cm W) (nd:Nd) {cm':Value} (hg:W.grownBy V cm.ownBlock) (ho:V.ownsRow w.heap.size 129 4 cm' (NM.length + 1) (mvC (NM.map Nd.mv) ++ mvC1 nd.mv)) :
  YR w s T NS NK NP (NM ++ [nd]) Z cs ck cp cm' V:=by
 have hF:Frm cm.ownBlock.toList W V:=(Frm.refl _ _).grown hg fun k hk=>.inl (by simp[hk])
 have hty:∀ k∈cm.ownBlock.toList,Ty W k 129:=fun k hk=>own_ty h.rm (by rwa [Option.mem_toList] at hk)
 refine⟨h.fr.grown hg fun k hk=>.inr (ownBlock_ge h.rm hk),hF.owns h.rs fun k hk hm=>(own_ty h.rs hk).ne (hty k hm) (by decide) rfl,h.tl,h.rk.frm hF fun k hk hm=>(h.rk.ty hk).ne (hty k hm) (by decide) rfl,h.rp.frm hF fun k hk hm=>(h.rp.ty hk).ne (hty k hm) (by decide) rfl,h.p0,
  ?_,fun z hz=>(h.st z hz).ty hF fun k hk=>.inr (.inl (hty k hk))⟩
 rw[List.map_append,mvC_append,List.length_append]
 simpa[mvC] using ho
theorem YR.box (h:YR w s T NS NK NP NM Z cs ck cp cm W) {pb:Nat} (hp:Ty W pb 39) (hl:w.heap.size≤pb) (hf:Frm [pb] W V):YR w s T NS NK NP NM Z cs ck cp cm V:=by
 have hn:∀ {k:Nat} {t:TypeId},Ty W k t→t≠39→k∉[pb]:=fun {k t} h1 h2 hk=>by
  rw[List.mem_singleton] at hk
  exact h1.ne hp h2 hk
 exact⟨h.fr.then hf (by intro k hk;simp at hk;subst hk;exact .inr hl),hf.owns h.rs fun k hk=>hn (own_ty h.rs hk) (by decide),h.tl,h.rk.frm hf fun k hk=>hn (h.rk.ty hk) (by decide),h.rp.frm hf fun k hk=>hn (h.rp.ty hk) (by decide),h.p0,
  hf.owns h.rm fun k hk=>hn (own_ty h.rm hk) (by decide),fun z hz=>(h.st z hz).ty hf fun k hk=>by rw[List.mem_singleton] at hk;subst hk;exact .inr (.inr hp)⟩
end
end Go.Proofs.YtemjlpahohmajaaGreat
namespace Go.Proofs.YtemjlpahohmajaaGreat
open Go.RowKit Go.BigFrame
def StrAt (W:World) (b o:Nat) (k:ByteArray):Prop:=W.cell? ⟨b,o,none⟩=some (.string k)
def IntAt (W:World) (b o:Nat) (i:Int):Prop:=W.cell? ⟨b,o,none⟩=some (.int .i64 i)
def RsAt (s:SesD) (W:World) (b o:Nat) (x:PS):Prop:=∃ c0 c1 c2,W.cell? ⟨b,o,none⟩=some c0∧W.cell? ⟨b,o + 1,none⟩=some c1∧W.cell? ⟨b,o + 2,none⟩=some c2∧RSt 0 W s (.agg #[c0,c1,c2]) x
theorem RsAt.frm {s:SesD} {W V:World} {b o:Nat} {x:PS} (h:RsAt s W b o x) (hf:Frm [] W V):RsAt s V b o x:=by
 obtain⟨c0,c1,c2,h0,h1,h2,h3⟩:=h
 exact⟨c0,c1,c2,hf.keep h0,hf.keep h1,hf.keep h2,h3.frm hf⟩
structure YsV (W:World) (s:SesD) (v:Value) (N:List Nd) (wh:Bool):Prop where
 out:∃ a0 c0 a1 c1 a2 c2 a3 c3,v=.agg #[.slice a0 N.length c0,.slice a1 N.length c1,.slice a2 N.length c2,.slice a3 N.length c3,.bool wh]∧Arr 3 (RsAt s) W (.slice a0 N.length c0) (N.map Nd.st) ∧
  Arr 1 StrAt W (.slice a1 N.length c1) (N.map fun d=>keyS s d.st)∧Arr 1 IntAt W (.slice a2 N.length c2) (N.map Nd.par)∧Arr 4 MvAt W (.slice a3 N.length c3) (N.map Nd.mv)
theorem YsV.frm {W V:World} {s:SesD} {v:Value} {N:List Nd} {wh:Bool} (h:YsV W s v N wh) (hf:Frm [] W V):YsV V s v N wh:=by
 obtain⟨a0,c0,a1,c1,a2,c2,a3,c3,e,h0,h1,h2,h3⟩:=h.out
 exact⟨⟨a0,c0,a1,c1,a2,c2,a3,c3,e,h0.frm fun _ _ _ h=>h.frm hf,h1.frm fun _ _ _ h=>hf.keep h,h2.frm fun _ _ _ h=>hf.keep h,h3.frm fun _ _ _ h=>h.frm hf⟩⟩
def fndI (s:SesD) (N:List Nd) (k:List UInt8):Int:=match findP s N k with | some i=>(i:Nat) | none=>-1
theorem key_eq {s:SesD} {x:PS} {k:ByteArray}:keyS s x=k↔keyP s x=k.data.toList:=by
 unfold keyS
 constructor
 ·rintro rfl;simp
 ·intro h;rw[h]
theorem fndI_at {s:SesD} {N:List Nd} {k:ByteArray} {i:Nat} {d:Nd} (hd:N[i]?=some d) (hk:keyS s d.st=k) (hn:∀ (j:Nat) (e:Nd),j < i→N[j]?=some e→keyS s e.st≠k):fndI s N k.data.toList=(i:Nat):=by
 have hi:=lt_of_some hd
 have:findP s N k.data.toList=some i:=by
  unfold findP
  rw[List.findIdx?_eq_some_iff_getElem]
  rw[List.getElem?_eq_getElem hi] at hd
  refine⟨hi,?_,fun j hj=>?_⟩
  ·rw[Option.some.inj hd];exact decide_eq_true (key_eq.1 hk)
  ·intro h
   exact hn j _ hj (List.getElem?_eq_getElem (by omega)) (key_eq.2 (of_decide_eq_true h))
 unfold fndI
 rw[this]
theorem fndI_no {s:SesD} {N:List Nd} {k:ByteArray} (hn:∀ (j:Nat) (e:Nd),N[j]?=some e→keyS s e.st≠k):fndI s N k.data.toList=-1:=by
 have:findP s N k.data.toList=none:=by
  unfold findP
  rw[List.findIdx?_eq_none_iff]
  intro d hd
  obtain⟨j,hj⟩:=List.getElem?_of_mem hd
  exact decide_eq_false fun h=>hn j d hj (key_eq.2 h)
 unfold fndI
 rw[this]
set_option maxHeartbeats 2000000 in
set_option maxRecDepth 100000 in
theorem yFind_any (s:SesD) (v:Value) (N:List Nd) (wh:Bool) (k:ByteArray) (w:World) (h:YsV w s v N wh) (hN:N.length≤1000000):Calls Tryz.prog 50 #[v,.string k] w (Ret (.int .i64 (fndI s N k.data.toList)) (Frm [] w)):=by
 obtain⟨a0,c0,a1,c1,a2,c2,a3,c3,rfl,-,h1,-,-⟩:=h.out
 obtain⟨n,hn⟩:∃ n,N.length=n:=⟨_,rfl⟩
 have HN:=Lib.hid hn;have HA:=Lib.hid h1
 rw[hn] at HA hN ⊢
 obtain⟨W0,hW0⟩:∃ W0,w.alloc (.cells #[.slice a0 n c0,.slice a1 n c1,.slice a2 n c2,.slice a3 n c3,.bool wh] 39)=W0:=⟨_,rfl⟩
 have HF0:Hid (Frm [] w W0):=Lib.hid (by rw[← hW0];exact(Frm.refl _ _).alloc _)
 have HB:Hid (∀ V,Frm [] W0 V→V.cell? ⟨w.heap.size,1,none⟩=some (.slice a1 n c1)):=Lib.hid fun V hV=>cell_of (hV.at (show W0.heap[w.heap.size]?=_ by rw[← hW0];exact heap_alloc_new _ _) (by simp)) 1
 have HE:=Lib.hid hW0
 clear h h1 hn hW0
 go_enter Tryz.func50,Tryz.ntmps50
 go_upto_region 1 with (first | (refine wpList_box_row rfl 39 _ rfl _ rfl ?_;rw[HE.out]))
 clear HE
 go_upto_region 2 with fail
 go_loopw [5] (fun s5 wr=>∃ i:Nat,s5=.int .i64 i∧i≤n∧Frm [] W0 wr∧∀ (j:Nat) (e:Nd),j < i→N[j]?=some e→keyS s e.st≠k) (fun s5 _=>n - (intOf s5).toNat)
 case atStart=>exact⟨0,rfl,Nat.zero_le _,Frm.refl _ _,fun j e hj=>by omega⟩
 case round =>
  obtain⟨i,rfl,hi,hf,hno⟩:=hrel
  have HF:=Lib.hid hf;have HNO:=Lib.hid hno
  clear hf hno
  have b1:=HB.out _ HF.out
  by_cases hlt:i < n
  ·have hlt':(i:Int) < (n:Int):=by omega
   obtain⟨d,hd⟩:∃ d,N[i]?=some d:=⟨_,List.getElem?_eq_getElem (by rw[HN.out];exact hlt)⟩
   obtain⟨g1,o1,e1,c1⟩:=HA.out.get (show (N.map fun d=>keyS s d.st)[i]?=some (keyS s d.st) by rw[List.getElem?_map,hd];rfl)
   subst e1
   have k1:wr.cell? ⟨g1,o1 + i * 1,none⟩=some (.string (keyS s d.st)):=(HF0.out.trans HF.out).keep c1
   rw[Nat.mul_one] at k1
   have HD:=Lib.hid hd
   clear c1 hd
   by_cases hk:keyS s d.st=k
   ·have HR:Hid (fndI s N k.data.toList=(i:Nat)):=Lib.hid (fndI_at HD.out hk HNO.out)
    rw[hk] at k1
    clear hk
    go_wp2
    go_ret
    exact⟨by rw[HR.out];rfl,HF0.out.trans HF.out⟩
   ·have HK:=Lib.hid hk
    have hb2:((keyS s d.st).toList == k.toList)=false:=str_ne hk
    clear hk
    go_wp2
    have hnew:∀ (j:Nat) (e:Nd),j < i + 1→N[j]?=some e→keyS s e.st≠k:=fun j e hj he=>by
     rcases Nat.lt_succ_iff_lt_or_eq.1 hj with h | h
     ·exact HNO.out j e h he
     ·rw[h,HD.out] at he
      cases he
      exact HK.out
    exact⟨⟨i + 1,congrArg (Value.int .i64) (by omega),hlt,HF.out,hnew⟩,by simp[intOf];omega⟩
  ·have hge:¬ (i:Int) < (n:Int):=by omega
   have HR:Hid (fndI s N k.data.toList=-1):=Lib.hid (fndI_no fun j e he=>HNO.out j e (by have:=lt_of_some he;have:=HN.out;omega) he)
   go_wp2
   go_ret
   exact⟨by rw[HR.out];rfl,HF0.out.trans HF.out⟩
set_option maxHeartbeats 2000000 in
set_option maxRecDepth 100000 in
theorem yLevel_any (s:SesD) (v:Value) (N:List Nd) (wh:Bool) (lim nn i:Nat) (d:Nd) (w:World) (h:YsV w s v N wh) (hsi:SI s lim nn N) (hd:N[i]?=some d) (hN:N.length≤100000) (hl:d.lvl≤100000):Calls Tryz.prog 17 #[v,.int .i64 i] w (Ret (.int .i64 d.lvl) (Frm [] w)):=by
 obtain⟨a0,c0,a1,c1,a2,c2,a3,c3,rfl,-,-,h1,-⟩:=h.out
 obtain⟨n,hn⟩:∃ n,N.length=n:=⟨_,rfl⟩
 have HN:=Lib.hid hn;have HA:=Lib.hid h1;have HSI:=Lib.hid hsi;have HL:=Lib.hid hl
 rw[hn] at HA hN ⊢
 obtain⟨W0,hW0⟩:∃ W0,w.alloc (.cells #[.slice a0 n c0,.slice a1 n c1,.slice a2 n c2,.slice a3 n c3,.bool wh] 39)=W0:=⟨_,rfl⟩
 have HF0:Hid (Frm [] w W0):=Lib.hid (by rw[← hW0];exact(Frm.refl _ _).alloc _)
 have HB:Hid (∀ V,Frm [] W0 V→V.cell? ⟨w.heap.size,2,none⟩=some (.slice a2 n c2)):=Lib.hid fun V hV=>cell_of (hV.at (show W0.heap[w.heap.size]?=_ by rw[← hW0];exact heap_alloc_new _ _) (by simp)) 2
 have HE:=Lib.hid hW0
 have HD:=Lib.hid hd
 clear h h1 hn hW0 hsi hl hd
 go_enter Tryz.func17,Tryz.ntmps17
 go_upto_region 1 with (first | (refine wpList_box_row rfl 39 _ rfl _ rfl ?_;rw[HE.out]))
 clear HE
 go_upto_region 2 with fail
 go_loopw [1,5] (fun s1 s5 wr=>∃ (j:Nat) (e:Nd),s1=.int .i64 j∧N[j]?=some e∧(∃ k:Nat,s5=.int .i64 k∧k + e.lvl=d.lvl)∧Frm [] W0 wr) (fun s1 _ _=>(intOf s1).toNat)
 case atStart=>exact⟨i,d,rfl,HD.out,⟨0,rfl,by omega⟩,Frm.refl _ _⟩
 case round =>
  obtain⟨j,e,rfl,he,⟨k,rfl,hk⟩,hf⟩:=hrel
  have HF:=Lib.hid hf;have HEe:=Lib.hid he
  have hjn:j < n:=by have:=lt_of_some he;have:=HN.out;omega
  have hj1:(j:Int) < (n:Int):=by omega
  have b1:=HB.out _ HF.out
  obtain⟨g1,o1,e1,q1⟩:=HA.out.get (show (N.map Nd.par)[j]?=some e.par by rw[List.getElem?_map,he];rfl)
  subst e1
  have k1:wr.cell? ⟨g1,o1 + j * 1,none⟩=some (.int .i64 e.par):=(HF0.out.trans HF.out).keep q1
  rw[Nat.mul_one] at k1
  clear hf he q1
  rcases Nat.eq_zero_or_pos j with h0 | h0
  ·subst h0
   have h9:=HSI.out.one
   rw[HEe.out] at h9
   cases h9
   have hp:(nd0 s).par=-1:=rfl
   have hl0:(nd0 s).lvl=0:=rfl
   rw[hp,Nat.add_zero] at k1
   rw[hl0] at hk
   have hk9:Hid (k=d.lvl):=Lib.hid (by omega)
   clear hk hp hl0
   go_wp2
   go_ret
   exact⟨by rw[hk9.out];rfl,HF0.out.trans HF.out⟩
  ·obtain⟨p,b,p1,p2,p3,-,-,p6⟩:=HSI.out.par j e HEe.out h0
   rw[p1] at k1
   have HP:=Lib.hid p3
   have hge:¬ ((p:Int) < 0):=by omega
   have hw:wrap64 ((k:Int) + 1)=((k + 1:Nat):Int):=by have:=HL.out;unfold wrap64;omega
   have hkk:k + 1 + b.lvl=d.lvl:=by omega
   clear p1 p3 p6 hk
   go_wp2
   exact⟨⟨p,b,rfl,HP.out,⟨k + 1,congrArg (Value.int .i64) hw,hkk⟩,HF.out⟩,by simp[intOf];omega⟩
end Go.Proofs.YtemjlpahohmajaaGreat
