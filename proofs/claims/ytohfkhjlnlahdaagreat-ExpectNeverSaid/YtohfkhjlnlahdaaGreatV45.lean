/- Part of the proof. -/
import Derived.Test.YtohfkhjlnlahdaaGreatV32
import Derived.Test.YtohfkhjlnlahdaaGreatV23
import Derived.Test.YtohfkhjlnlahdaaGreatV25
import Derived.Test.YtohfkhjlnlahdaaGreatV24
set_option linter.all false
namespace Go.Proofs.YtohfkhjlnlahdaaGreat
open Go.RowKit Go.BigFrame
structure NewTo (w:World) (s:SesD) (u:Value) (w':World):Prop where
 out:∃ yb fb,u=.tuple #[pv yb,.int .i64 0]∧w.heap.size≤yb∧∀ V,Agree w.heap.size w' V→SyR V s yb fb
 frm:Frm [] w w'
def emR (n:Nat):List (List ByteArray):=List.replicate n []
def emW (n i:Nat):List (List (List ByteArray)):=List.replicate i (emR n)
theorem emR_succ (n:Nat):emR (n + 1)=emR n ++ [[]]:=by unfold emR;rw[List.replicate_succ']
theorem emW_succ (n i:Nat):emW n (i + 1)=emW n i ++ [emR n]:=by unfold emW;rw[List.replicate_succ']
theorem emW_first (s:SesD):(firstP s).ways=emW s.roles.length s.roles.length:=by
 unfold firstP emW emR
 simp only[List.map_const']
def acF (s:SesD) (i:Nat):List (Int × List (CtrD × Int)):=(s.roles.take i).map fun r=>(0,zeroC r.ctrs)
theorem acF_succ {s:SesD} {i:Nat} (h:i < s.roles.length):acF s (i + 1)=acF s i ++ [(0,zeroC (s.rol i).ctrs)]:=by
 unfold acF
 rw[List.take_add_one,SesD.rol_some h,List.map_append];rfl
theorem zip_zero (cs:List CtrD):cs.zip (cs.map fun _=>(0:Int))=zeroC cs:=by
 unfold zeroC
 induction cs with
 | nil=>rfl
 | cons c l ih=>simp only[List.map_cons,List.zip_cons_cons,ih]
theorem acF_first (s:SesD):actsP s (firstP s)=acF s s.roles.length:=by
 refine List.ext_getElem? fun i=>?_
 by_cases hi:i < s.roles.length
 ·rw[actsP_at hi]
  unfold acF
  rw[List.take_length,List.getElem?_map,SesD.rol_some hi]
  simp only[Option.map_some,Option.some.injEq,Prod.mk.injEq]
  have hv:(firstP s).at i=0:=by
   show ((s.roles.map fun _=>0).getD i 0)=0
   rw[List.getD_eq_getElem?_getD,List.getElem?_map,SesD.rol_some hi];rfl
  have hb:(firstP s).bank i=(s.rol i).ctrs.map fun _=>(0:Int):=by
   show ((s.roles.map fun r=>r.ctrs.map fun _=>(0:Int)).getD i [])=_
   rw[List.getD_eq_getElem?_getD,List.getElem?_map,SesD.rol_some hi];rfl
  refine⟨by rw[hv];rfl,?_⟩
  unfold PS.ctr
  rw[hb]
  exact zip_zero _
 ·rw[List.getElem?_eq_none (by rw[actsP_len];omega),List.getElem?_eq_none (by unfold acF;rw[List.length_map,List.take_length];omega)]
theorem rolOk_defs {s:SesD} {r:RolD} (h:RolOk s r):DefsOk r.ctrs:=
 ⟨h.c4,fun c hc e=>by
  have:=(h.cN c hc).1
  rw[e] at this
  revert this;decide,fun c hc=>(h.cN c hc).2,h.cU⟩
theorem Tryz.infoPC:(Tryz.prog.info? 130).map (fun i=>(i.zero,i.size,i.bytes))=some (some (.pointer none),1,8):=by kernel_rfl
theorem Tryz.infoRw:(Tryz.prog.info? 191).map (fun i=>(i.zero,i.size,i.bytes))=some (some (.slice none 0 0),1,24):=by kernel_rfl
theorem Tryz.infoAc:(Tryz.prog.info? 143).map (fun i=>(i.zero,i.size,i.bytes))=some (some (.agg #[.int .i64 0,.pointer none]),2,16):=by kernel_rfl
structure N1 (w2:World) (s:SesD) (Y:Array Value) (n i:Nat) (W:World):Prop where
 out:∃ rs,GO 147 191 1 w2 (w2.heap.size + 1) 2 #[pv w2.heap.size,.slice none 0 0,undef] i rs W∧WayC (w2.heap.size≤·) W s.cls s.cap rs (emW n i)
 y:W.heap[w2.heap.size]?=some (.cells Y 116 (0,0))
 fr:Frm [] w2 W
theorem N1.frm {w2 W V:World} {s:SesD} {Y:Array Value} {n i:Nat} (h:N1 w2 s Y n i W) (hf:Frm [] W V):N1 w2 s Y n i V:=by
 obtain⟨rs,h1,h2⟩:=h.out
 exact⟨⟨rs,h1.frm hf,h2.kp (Kp.of_frm0 hf) (by simp) (by simp) (by simp)⟩,hf.at h.y (by simp),h.fr.trans hf⟩
structure N2 (B:Nat) (wr:World) (s:SesD) (ao:Option Addr) (k cp:Nat) (W:World):Prop where
 out:∃ cells,W.ownsRow wr.heap.size 130 1 (.slice ao k cp) k cells∧RowC (B≤·) W s.cls s.cap cells (emR k)
 fr:Frm [] wr W
theorem N2.step {B:Nat} {wr W V w6:World} {s:SesD} {ao ao':Option Addr} {k cp cp' cb:Nat} {cells:List Value} (h:RowC (B≤·) W s.cls s.cap cells (emR k)) (ho:W.ownsRow wr.heap.size 130 1 (.slice ao k cp) k cells) (hw:Frm [] wr W)
  (hf:Frm [] W V) (hc:ChO (B≤·) V cb s.cls s.cap []) (hg:V.grownBy w6 (Value.slice ao k cp).ownBlock) (ho':w6.ownsRow wr.heap.size 130 1 (.slice ao' (k + 1) cp') (k + 1) (cells ++ [pv cb])):N2 B wr s ao' (k + 1) cp' w6:=by
 have hk:Kt [130] V w6:=(Kt.refl _ V).grown hg (fun q hq=>by
  obtain⟨c,hc⟩:=ownBlock_type (hf.owns ho (by simp)) hq
  exact⟨c,_,(0,0),hc,by simp⟩)
 refine⟨⟨_,ho',?_⟩,(hw.trans hf).grown hg (fun q hq=>.inr (ownBlock_ge ho hq))⟩
 rw[emR_succ]
 exact((h.kp (Kp.of_frm0 hf) (by simp) (by simp)).snoc hc).kp (Kp.of_kt hk) (by decide) (by decide)
structure N3 (w2:World) (s:SesD) (Y:Array Value) (wv:Value) (n i:Nat) (W:World):Prop where
 out:∃ cs,GO 147 143 2 w2 (w2.heap.size + 1) 1 #[pv w2.heap.size,undef,wv] i cs W∧ActC (w2.heap.size≤·) W cs (acF s i)
 ways:WaysO (w2.heap.size≤·) W s.cls s.cap wv (emW n n)
 y:W.heap[w2.heap.size]?=some (.cells Y 116 (0,0))
 fr:Frm [] w2 W
theorem N3.frm {w2 W V:World} {s:SesD} {Y:Array Value} {wv:Value} {n i:Nat} (h:N3 w2 s Y wv n i W) (hf:Frm [] W V):N3 w2 s Y wv n i V:=by
 obtain⟨rs,h1,h2⟩:=h.out
 exact⟨⟨rs,h1.frm hf,h2.kp (Kp.of_frm0 hf) (by simp) (by simp)⟩,h.ways.kp (Kp.of_frm0 hf) (by simp) (by simp) (by simp) (by simp),hf.at h.y (by simp),h.fr.trans hf⟩
theorem okC_of {s:SesD} (h:SesOk s):okC s.cls s.cap=true:=by
 unfold okC
 rw[decide_eq_true_iff]
 exact⟨h.c1,h.c3,h.k1,by have:=h.k4;omega⟩
set_option maxHeartbeats 8000000 in
set_option maxRecDepth 100000 in
theorem pNew_ok (v:Value) (s:SesD) (w:World) (h:SesV w v s) (hs:SmS s) (h0:ckSes s=0):Calls Tryz.prog 53 #[v] w (RetV (NewTo w s)):=by
 have HOK:=Lib.hid (ses_ok h0)
 obtain⟨rv,rfl,hr⟩:=h
 obtain⟨ao,cap,e,-⟩:=id hr
 subst e
 obtain⟨w0,hw0⟩:∃ w0,w.alloc (.cells #[.string s.name,.slice ao s.roles.length cap,.int .i64 s.cls,.int .i64 s.cap] 25)=w0:=⟨_,rfl⟩
 have hf0:Frm [] w w0:=by rw[← hw0];exact(Frm.refl _ _).alloc _
 have CS:=Lib.hid (rSes_any _ s w0 ⟨_,rfl,hr.frm hf0⟩ hs)
 have HB:Hid (w0.heap[w.heap.size]?=some (.cells #[.string s.name,.slice ao s.roles.length cap,.int .i64 s.cls,.int .i64 s.cap] 25 (0,0))):=Lib.hid (by rw[← hw0];exact heap_alloc_new _ _)
 have HF:=Lib.hid hf0
 have HRL:=Lib.hid hr
 have CO:Hid (∀ V,Frm [] w V→Calls Tryz.prog 112 #[.agg #[.string s.name,.slice ao s.roles.length cap,.int .i64 s.cls,.int .i64 s.cap]] V (RetV (OwTo V s))):=Lib.hid fun V hV =>
  pOwn_any s _ V ⟨_,rfl,HRL.out.frm hV⟩ (by have:=HOK.out.n2;omega) HOK.out.n4 (fun r hr=>by have:=hs.r r hr;exact⟨by have:=this.s;omega,by have:=this.c;omega,by have:=this.t;omega⟩)
 rw[h0] at CS
 obtain⟨n,hn⟩:∃ n,s.roles.length=n:=⟨_,rfl⟩
 rw[hn] at CS HB HRL CO hw0
 rw[hn]
 have HN:=Lib.hid hn
 have HE:=Lib.hid hw0
 clear hr hs hf0 hn h0 hw0
 go_enter Tryz.func53,Tryz.ntmps53
 go_upto_region 6 with (first
  | (refine wpList_box_row rfl 25 _ rfl _ rfl ?_;rw[HE.out])
  | (refine wpList_load_whole rfl 25 _ rfl _ rfl _ 25 HB.out _ Tryz.underlying25 rfl (by kernel_rfl) ?_)
  | (refine wpList_load_whole rfl 25 _ rfl _ rfl _ 25 HB1.out _ Tryz.underlying25 rfl (by kernel_rfl) ?_)
  | (go_at_call 111;go_must (refine CS.out.mono ?_;rintro e w1 ⟨u,rfl,i,rfl,hf1⟩;have HF1:=Lib.hid (HF.out.trans hf1);have HB1:=Lib.hid (hf1.at HB.out (by simp));clear hf1 HB))
  | (go_at_call 112;go_must (refine(CO.out _ HF1.out).mono ?_;rintro e w2 ⟨u,rfl,ho⟩;obtain⟨g,cg,rfl⟩:=ho.shape;have HO:=Lib.hid ho;have HF2:=Lib.hid (HF1.out.trans ho.frm);have HB2:=Lib.hid (ho.frm.at HB1.out (by simp));clear ho)))
 obtain⟨X0,hX0⟩:∃ X0,(w2.alloc (.cells #[.string s.name,.slice (some ⟨g,0,none⟩) s.roles.length cg,.int .i64 s.cls,.int .i64 s.cap,.pointer none] 116)).alloc (.cells #[pv w2.heap.size,.slice none 0 0,.slice none 0 0] 147)=X0:=⟨_,rfl⟩
 have hfx:Frm [] w2 X0:=by rw[← hX0];exact((Frm.refl _ _).alloc _).alloc _
 have HX:Hid (N1 w2 s #[.string s.name,.slice (some ⟨g,0,none⟩) s.roles.length cg,.int .i64 s.cls,.int .i64 s.cap,.pointer none] n 0 X0):=Lib.hid ⟨⟨[],GO.made hfx (by omega) (by rw[← hX0];exact alloc_top (by simp)) rfl,WayC.nil⟩,by rw[← hX0];exact alloc_at (heap_alloc_new _ _),hfx⟩
 have HEX:=Lib.hid hX0
 obtain⟨Y,hY⟩:∃ Y:Array Value,#[.string s.name,.slice (some ⟨g,0,none⟩) s.roles.length cg,.int .i64 s.cls,.int .i64 s.cap,.pointer none]=Y:=⟨_,rfl⟩
 rw[hY] at HX
 have HY:=Lib.hid hY
 have HC:Hid (∀ V,Frm [] w2 V→V.cell? ⟨w.heap.size,1,none⟩=some (.slice ao n cap)∧V.cell? ⟨w.heap.size,2,none⟩=some (.int .i64 s.cls)∧V.cell? ⟨w.heap.size,3,none⟩=some (.int .i64 s.cap)):=Lib.hid fun V hV=>by
  have hb:=hV.at HB2.out (by simp)
  exact⟨cell_of hb 1,cell_of hb 2,cell_of hb 3⟩
 clear hfx hX0 hY CS CO HB1
 rw[HEX.out]
 clear HEX
 obtain⟨e1,e2,e3⟩:=HC.out X0 HX.out.fr
 have hw9:wrap64 ((n:Int) + 1)=(n:Int) + 1:=by have:=HOK.out.n4;have:=HN.out;unfold wrap64;omega
 clear hw9
 go_wp2
 clear e1 e2 e3
 go_loopw [33] (fun s33 wl=>∃ i:Nat,s33=.int .i64 i∧i≤n∧N1 w2 s Y n i wl) (fun s33 _=>n - (intOf s33).toNat)
 case atStart=>exact⟨0,rfl,Nat.zero_le _,HX.out⟩
 case round =>
  obtain⟨i,rfl,hi,hrel⟩:=hrel
  have HR:=Lib.hid hrel
  clear hrel HX
  obtain⟨w1',hw1'⟩:∃ w1',w1'=wr:=⟨_,rfl⟩
  subst hw1'
  by_cases hlt:i < n
  ·have hlt':(i:Int) < (n:Int):=by omega
   obtain⟨e1,e2,e3⟩:=HC.out w1' HR.out.fr
   go_wp2
   clear e1 e2 e3
   go_loopw [8,38] (fun s8 s38 wl=>∃ (k:Nat) (a8:Option Addr) (c8:Nat),s38=.int .i64 k∧k≤n∧s8=.slice a8 k c8∧N2 w2.heap.size w1' s a8 k c8 wl) (fun _ s38 _=>n - (intOf s38).toNat)
   case atStart=>exact⟨0,none,0,rfl,Nat.zero_le _,rfl,⟨⟨[],World.ownsRow_nil _ _ _ _,RowC.nil⟩,Frm.refl _ _⟩⟩
   case round =>
    obtain⟨k,a8,c8,rfl,hk,rfl,hrel⟩:=hrel
    have HK:=Lib.hid hrel
    clear hrel
    by_cases hltk:k < n
    ·have hltk':(k:Int) < (n:Int):=by omega
     obtain⟨e1,e2,e3⟩:=HC.out wr (HR.out.fr.trans HK.out.fr)
     have CN:=Lib.hid (new_ok s.cls s.cap wr (okC_of HOK.out))
     obtain⟨cells,hro,hrc⟩:=HK.out.out
     have HRO:=Lib.hid hro;have HRC:=Lib.hid hrc
     have hsz2:=(HR.out.fr.trans HK.out.fr).size
     have hk4:k≤4:=by have:=HOK.out.n4;have:=HN.out;omega
     obtain⟨i0,hi0,hz0,hz1,hz2⟩:=info_parts Tryz.infoPC
     clear hro hrc
     go_wp2_with (first
      | (go_at_call 113;go_must (refine CN.out.mono ?_;rintro e w3 ⟨rfl,hf3,hc3⟩;have HF3:=Lib.hid hf3;have HC3:Hid (ChO (w2.heap.size≤·) w3 wr.heap.size s.cls s.cap []):=Lib.hid ⟨_,hc3,by intro x hx;simp at hx;omega⟩;clear hf3 hc3 CN e1 e2 e3))
      | (at_builtin;refine wpList_append_own_at _ rfl _ _ 191 rfl w1'.heap.size 130 i0 (.pointer none) 1 8 Tryz.underlying191 hi0 hz0 hz1 hz2 rfl (by decide) (.slice a8 k c8) k cells rfl ((HF3.out.alloc _).owns HRO.out (by simp)) ⟨w3.heap.size,0,none⟩ 1 1 [pv wr.heap.size] rfl rfl (new_row _ _ _) (by simp[Value.oneCell']) (by unfold maxLen;omega) (by omega) (by have:=HK.out.fr.size;have:=HF3.out.size;simp;omega) ?_;intro v' w6 hown' hgrow _ _;obtain⟨a9,c9,rfl⟩:=own_shape hown';have HST:=Lib.hid (N2.step (cb:=wr.heap.size) HRC.out HRO.out HK.out.fr (HF3.out.alloc _) (HC3.out.kp (Kp.of_frm0 ((Frm.refl [] w3).alloc _)) (by simp) (by simp)) hgrow hown');clear hown' hgrow))
     exact⟨⟨k + 1,a9,c9,congrArg (Value.int .i64) (by omega),hltk,rfl,HST.out⟩,by simp[intOf];omega⟩
    ·obtain rfl:k=n:=by omega
     have hge:¬ (k:Int) < (k:Int):=by omega
     have HR2:=Lib.hid (HR.out.frm HK.out.fr)
     have HRW:Hid (RowO (w2.heap.size≤·) wr s.cls s.cap (.slice a8 k c8) (emR k)):=Lib.hid (by
      obtain⟨cells,h1,h2⟩:=HK.out.out
      have hl:(emR k).length=k:=by unfold emR;rw[List.length_replicate]
      exact⟨_,cells,by rw[hl];exact h1,fun q hq=>Nat.le_trans HR.out.fr.size (ownBlock_ge h1 hq),h2⟩)
     obtain⟨rs,hgo,hwc⟩:=HR2.out.out
     obtain⟨ab,cb,hb1,hb2⟩:=hgo.bx
     have hb1':wr.heap[w2.heap.size + 1]?=some (.cells #[pv w2.heap.size,.slice none 0 0,.slice ab i cb] 147 (0,0)):=hb1
     have HGO:=Lib.hid hgo;have HWC:=Lib.hid hwc;have HB1:=Lib.hid hb1;have HO1:=Lib.hid hb2
     have cx:=cell_of hb1' 2
     have fx:=free_of hb1' 2
     have hk4:i≤4:=by have:=HOK.out.n4;have:=HN.out;omega
     obtain⟨i0,hi0,hz0,hz1,hz2⟩:=info_parts Tryz.infoRw
     clear hgo hwc hb1 hb2 hb1'
     go_wp2_with (at_builtin;refine wpList_append_own_at _ rfl _ _ 145 rfl w2.heap.size 191 i0 (.slice none 0 0) 1 24 Tryz.underlying145 hi0 hz0 hz1 hz2 rfl (by decide) (.slice ab i cb) i rs rfl (HO1.out.alloc _) ⟨wr.heap.size,0,none⟩ 1 1 [.slice a8 k c8] rfl rfl (new_row _ _ _) (by simp[Value.oneCell']) (by unfold maxLen;omega) (by omega) (by have:=HR2.out.fr.size;simp;omega) ?_;intro v' w6 hown' hgrow _ _;obtain⟨ao',cp',rfl⟩:=own_shape hown';have hs:=GO.step HGO.out HB1.out HO1.out (by decide) ((Frm.refl [] wr).alloc _) hgrow hown';have hbx:w6.heap[w2.heap.size + 1]?=some (.cells #[pv w2.heap.size,.slice none 0 0,.slice ab i cb] 147 (0,0)):=GO.facts HB1.out HO1.out (by decide) ((Frm.refl [] wr).alloc _) hgrow;have cx6:=cell_of hbx 2;have fx6:=free_of hbx 2;have HS:=Lib.hid hs;clear hs hbx hown' hgrow cx)
     refine⟨⟨i + 1,congrArg (Value.int .i64) (by omega),hlt,?_⟩,by simp[intOf];omega⟩
     refine⟨⟨_,HS.out.1,?_⟩,HS.out.2.cells HR2.out.y (by decide),HS.out.1.fr⟩
     rw[emW_succ]
     exact(HWC.out.snoc HRW.out).kp (Kp.of_kt HS.out.2) (by decide) (by decide) (by decide)
  ·obtain rfl:i=n:=by omega
   have hge:¬ (i:Int) < (i:Int):=by omega
   obtain⟨e1,e2,e3⟩:=HC.out w1' HR.out.fr
   go_wp2
   clear e1 e2 e3
   obtain⟨rs,hgo,hwc⟩:=HR.out.out
   obtain⟨ab,cb,hb1,hb2⟩:=hgo.bx
   have hb1':w1'.heap[w2.heap.size + 1]?=some (.cells #[pv w2.heap.size,.slice none 0 0,.slice ab i cb] 147 (0,0)):=hb1
   have HN3:Hid (N3 w2 s Y (.slice ab i cb) i 0 w1'):=Lib.hid ⟨⟨[],GO.made HR.out.fr (by omega) hb1' rfl,ActC.nil⟩,⟨w2.heap.size,rs,by unfold emW;rw[List.length_replicate];exact hb2,fun q hq=>ownBlock_ge hb2 hq,hwc⟩,HR.out.y,HR.out.fr⟩
   clear hgo hwc hb1 hb2 hb1' HR hge
   obtain⟨wv,hwv⟩:∃ v,Value.slice ab i cb=v:=⟨_,rfl⟩
   have HWV:=Lib.hid hwv
   rw[hwv] at HN3
   clear hwv
   go_loopw [67] (fun s67 wl=>∃ k:Nat,s67=.int .i64 k∧k≤i∧N3 w2 s Y wv i k wl) (fun s67 _=>i - (intOf s67).toNat)
   case atStart=>exact⟨0,rfl,Nat.zero_le _,HN3.out⟩
   case round =>
    obtain⟨k,rfl,hk,hrel⟩:=hrel
    have HR:=Lib.hid hrel
    clear hrel HN3
    obtain⟨w9,hw9⟩:∃ w9,w9=wr:=⟨_,rfl⟩
    subst hw9
    by_cases hlt:k < i
    ·have hlt':(k:Int) < (i:Int):=by omega
     have hin:k < s.roles.length:=by rw[HN.out];exact hlt
     have hfw:Frm [] w w9:=HF2.out.trans HR.out.fr
     obtain⟨b,o,sv,cv,tv,rfl,⟨d0,d1,d2,d3⟩,h3⟩:=Rls.at (HRL.out.frm hfw) hin
     obtain⟨aS,cs,es,-⟩:=id h3.sts
     obtain⟨ac,cc,ec,-⟩:=id h3.ctrs
     obtain⟨at',ct,et,-⟩:=id h3.steps
     subst es;subst ec;subst et
     have CB:Hid (∀ V,Frm [] w9 V→Calls Tryz.prog 114 #[.slice ac (s.rol k).ctrs.length cc] V (RetV (NwTo V (zeroC (s.rol k).ctrs)))):=Lib.hid fun V hV=>bNew_any _ (s.rol k).ctrs V (h3.frm hV).ctrs (rolOk_defs (HOK.out.at hin))
     have HSN:=Lib.hid (acF_succ hin)
     have HZL:=Lib.hid (zeroC_length (s.rol k).ctrs)
     obtain⟨L,hL⟩:∃ L,zeroC (s.rol k).ctrs=L:=⟨_,rfl⟩
     rw[hL] at CB HSN
     obtain⟨nm,hnm⟩:∃ q,(s.rol k).name=q:=⟨_,rfl⟩
     obtain⟨n1,hn1⟩:∃ q,(s.rol k).sts.length=q:=⟨_,rfl⟩
     obtain⟨n2,hn2⟩:∃ q,(s.rol k).ctrs.length=q:=⟨_,rfl⟩
     obtain⟨n3,hn3⟩:∃ q,(s.rol k).steps.length=q:=⟨_,rfl⟩
     rw[hnm] at d0;rw[hn1] at d1;rw[hn2] at CB d2;rw[hn3] at d3
     obtain⟨cs0,hgo,hac⟩:=HR.out.out
     obtain⟨av,cav,hb1,hb2⟩:=hgo.bx
     have HAC:=Lib.hid hac
     have hi4:k≤4:=by have:=HOK.out.n4;omega
     obtain⟨i0,hi0,hz0,hz1,hz2⟩:=info_parts Tryz.infoAc
     clear h3 hin hL hnm hn1 hn2 hn3 hgo hac hb1 hb2 hfw
     have HF9:Hid (Frm [] w9 (w9.alloc (.cells #[.string nm,.slice aS n1 cs,.slice ac n2 cc,.slice at' n3 ct] 87))):=Lib.hid ((Frm.refl _ _).alloc _)
     go_upto_region 20 with (first
      | (go_at_call 114;go_must (refine(CB.out _ HF9.out).mono ?_;rintro e w3 ⟨u,rfl,bb,rfl,hg3⟩;have HF3:Hid (Frm [] w9 w3):=Lib.hid (HF9.out.trans hg3.fr);have HBK:Hid (BkO (w2.heap.size≤·) w3 bb L):=Lib.hid (hg3.bko (fun q hq=>Nat.le_trans (HR.out.fr.trans HF9.out).size hq));clear hg3)))
     have HR3:=Lib.hid (HR.out.frm HF3.out)
     obtain⟨cs1,hgo,hac⟩:=HR3.out.out
     obtain⟨av,cav,hb1,hb2⟩:=hgo.bx
     have hb1':w3.heap[w2.heap.size + 1]?=some (.cells #[pv w2.heap.size,.slice av k cav,wv] 147 (0,0)):=hb1
     have HGO:=Lib.hid hgo;have HAC:=Lib.hid hac;have HB1:=Lib.hid hb1;have HO1:=Lib.hid hb2
     have cx:=cell_of hb1' 1
     have fx:=free_of hb1' 1
     clear hgo hac hb1 hb2 hb1' d0 d1 d2 d3
     go_wp2_with (at_builtin;refine wpList_append_own_at _ rfl _ _ 144 rfl w2.heap.size 143 i0 (.agg #[.int .i64 0,.pointer none]) 2 16 Tryz.underlying144 hi0 hz0 hz1 hz2 rfl (by decide) (.slice av k cav) k cs1 rfl (HO1.out.alloc _) ⟨w3.heap.size,0,none⟩ 1 1 [.int .i64 0,pv bb] rfl rfl (new_row _ _ _) (by simp[Value.oneCell']) (by unfold maxLen;omega) (by omega) (by have:=HR3.out.fr.size;simp;omega) ?_;intro v' w6 hown' hgrow _ _;obtain⟨ao',cp',rfl⟩:=own_shape hown';have hs:=GO.step HGO.out HB1.out HO1.out (by decide) ((Frm.refl [] w3).alloc _) hgrow hown';have hbx:w6.heap[w2.heap.size + 1]?=some (.cells #[pv w2.heap.size,.slice av k cav,wv] 147 (0,0)):=GO.facts HB1.out HO1.out (by decide) ((Frm.refl [] w3).alloc _) hgrow;have cx6:=cell_of hbx 1;have fx6:=free_of hbx 1;have HS:=Lib.hid hs;clear hs hbx hown' hgrow cx)
     refine⟨⟨k + 1,congrArg (Value.int .i64) (by omega),hlt,?_⟩,by simp[intOf];omega⟩
     refine⟨⟨_,HS.out.1,?_⟩,HR3.out.ways.kp (Kp.of_kt HS.out.2) (by decide) (by decide) (by decide) (by decide),HS.out.2.cells HR3.out.y (by decide),HS.out.1.fr⟩
     rw[HSN.out]
     exact(HAC.out.snoc HBK.out).kp (Kp.of_kt HS.out.2) (by decide) (by decide)
    ·obtain rfl:k=i:=by omega
     have hge:¬ (k:Int) < (k:Int):=by omega
     have hy:=HR.out.y
     rw[← HY.out] at hy
     have HYB:=Lib.hid hy
     have cy:=cell_of hy 4
     have fy:=free_of hy 4
     clear hy
     go_wp2
     go_ret2
     refine⟨_,rfl,?_⟩
     obtain⟨cs1,hgo,hac⟩:=HR.out.out
     obtain⟨av,cav,hb1,hb2⟩:=hgo.bx
     have hkt:Kt [116] w9 (w9.setCell ⟨w2.heap.size,4,none⟩ (pv (w2.heap.size + 1))):=(Kt.refl _ _).set HYB.out (by simp) _
     have hfw:Frm [] w2 (w9.setCell ⟨w2.heap.size,4,none⟩ (pv (w2.heap.size + 1))):=HR.out.fr.setCell _ (.inr (Nat.le_refl _)) _
     refine⟨⟨w2.heap.size,w2.heap.size + 1,rfl,HF2.out.size,fun V hV=>?_⟩,HF2.out.trans hfw⟩
     have hV2:Agree w.heap.size w2 V:=hV.old hfw (by simp)
     obtain⟨rv,hrv,hrl⟩:=HO.out.ses V (hV2.low HF1.out.size)
     simp only[Value.agg.injEq,Array.mk.injEq,List.cons.injEq,true_and,and_true] at hrv
     subst hrv
     have hst:StO (w2.heap.size≤·) (w9.setCell ⟨w2.heap.size,4,none⟩ (pv (w2.heap.size + 1))) s w2.heap.size (w2.heap.size + 1) (firstP s):=by
      refine⟨⟨_,wv,hkt.cells hb1 (by decide),Nat.le_succ _,?_,?_⟩,first_ok HOK.out⟩
      ·rw[acF_first,HN.out]
       refine ActsO.kp ⟨w2.heap.size,cs1,?_,fun q hq=>ownBlock_ge hb2 hq,hac⟩ (Kp.of_kt hkt) (by decide) (by decide) (by decide)
       rw[show (acF s k).length=k by unfold acF;rw[List.length_map,List.length_take,HN.out,Nat.min_self]]
       exact hb2
      ·rw[emW_first,HN.out]
       exact HR.out.ways.kp (Kp.of_kt hkt) (by decide) (by decide) (by decide) (by decide)
     refine⟨⟨_,?_,hrl⟩,HOK.out,(hst.kp (Kp.of_agree hV (fun q hq=>Nat.le_trans HF2.out.size hq))).str⟩
     have hyb:=(block_setCell HYB.out 4 (pv (w2.heap.size + 1)))
     exact(hV _ HF2.out.size (lt_of_block hyb)).trans hyb
end Go.Proofs.YtohfkhjlnlahdaaGreat
