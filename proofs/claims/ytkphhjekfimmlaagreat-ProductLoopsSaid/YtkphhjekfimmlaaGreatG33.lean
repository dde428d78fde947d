/- Part of the proof. -/
import Derived.Test.YtkphhjekfimmlaaGreatG21
import Derived.Test.YtkphhjekfimmlaaGreatG32
import Derived.Test.YtkphhjekfimmlaaGreatG23
import Derived.Test.YtkphhjekfimmlaaGreatG31
set_option linter.all false
namespace Go.Proofs.YtkphhjekfimmlaaGreat
open Go.RowKit Go.BigFrame
def acP (s:SesD) (ps:List Nat) (vs:List (List Int)) (i:Nat):List (Int × List (CtrD × Int)):=(List.range i).map fun j=>(((ps.getD j 0:Nat):Int),(s.rol j).ctrs.zip (vs.getD j []))
theorem acP_succ {s:SesD} {ps:List Nat} {vs:List (List Int)} {i p:Nat} {v:List Int} (h1:ps.length=i) (h2:vs.length=i):acP s (ps ++ [p]) (vs ++ [v]) (i + 1)=acP s ps vs i ++ [((p:Int),(s.rol i).ctrs.zip v)]:=by
 unfold acP
 rw[List.range_succ,List.map_append]
 congr 1
 ·refine List.map_congr_left fun j hj=>?_
  rw[List.mem_range] at hj
  rw[getD_snoc (by omega),getD_snoc (by omega),if_neg (by omega),if_neg (by omega)]
 ·simp only[List.map_cons,List.map_nil]
  rw[getD_snoc (by omega),getD_snoc (by omega),if_pos h1.symm,if_pos h2.symm]
theorem acP_length (s:SesD) (ps:List Nat) (vs:List (List Int)) (i:Nat):(acP s ps vs i).length=i:=by unfold acP;rw[List.length_map,List.length_range]
structure D1 (w:World) (s:SesD) (yb i:Nat) (ps:List Nat) (vs:List (List Int)) (W:World):Prop where
 out:∃ cs,GO 119 145 2 w (w.heap.size + 1) 1 #[pv yb,undef,.slice none 0 0] i cs W∧ActC (w.heap.size≤·) W cs (acP s ps vs i)
 p:ps.length=i
 v:vs.length=i
theorem D1.kt {w W V:World} {s:SesD} {yb i:Nat} {ps:List Nat} {vs:List (List Int)} {T:List TypeId} (h:D1 w s yb i ps vs W) (hk:Kt T W V) (hf:Frm [] w V) (h1:119∉T) (h2:145∉T) (h3:232∉T) (h4:234∉T):D1 w s yb i ps vs V:=by
 obtain⟨cs,g1,g2⟩:=h.out
 exact⟨⟨cs,g1.kt hk hf h1 h2,g2.kp (Kp.of_kt hk) h3 h4⟩,h.p,h.v⟩
theorem CurAt.kt {W V:World} {ub:Nat} {b:List UInt8} {bad:Bool} (h:CurAt W ub b bad) (hf:Frm [ub] W V):Kt [148] W V:=
 ⟨hf.os,hf.tape,hf.output,hf.size,fun k o hk ho=>hf.at hk (by
  simp only[List.mem_singleton]
  rintro rfl
  unfold CurAt at h
  rw[h] at hk
  cases hk
  exact ho _ _ _ rfl (by simp))⟩
theorem CurAt.frm {W V:World} {ub:Nat} {b:List UInt8} {bad:Bool} {F:List Nat} (h:CurAt W ub b bad) (hf:Frm F W V) (hn:ub∉F):CurAt V ub b bad:=hf.at h hn
def DcTo (w:World) (s:SesD) (yb:Nat) (r:Option PS) (u:Value) (w':World):Prop:=
 Frm [] w w'∧match r with
  | none=>u=.tuple #[.pointer none,.int .i64 2]
  | some x=>∃ sb,u=.tuple #[pv sb,.int .i64 0]∧w.heap.size≤sb∧StR w' s yb sb x
theorem DcTo.no {w w':World} {s:SesD} {yb:Nat} {r:Option PS} (h:r=none) (hf:Frm [] w w'):DcTo w s yb r (.tuple #[.pointer none,.int .i64 2]) w':=by
 subst h;exact⟨hf,rfl⟩
theorem zeroC_fits (cs:List CtrD) (vs:List Int):fitsC (zeroC cs) vs=fitsV cs vs:=by
 rw[Bool.eq_iff_iff,fitsC_iff]
 unfold fitsV
 rw[List.all_eq_true]
 constructor
 ·rintro h ⟨c,v⟩ hm
  obtain⟨j,hj⟩:=List.getElem?_of_mem hm
  rw[List.getElem?_zip_eq_some] at hj
  have:=h j (c,0) v (by unfold zeroC;rw[List.getElem?_map,hj.1];rfl) hj.2
  simpa using this
 ·intro h j c v hc hv
  unfold zeroC at hc
  rw[List.getElem?_map,Option.map_eq_some_iff] at hc
  obtain⟨d,hd,rfl⟩:=hc
  have:=h (d,v) (List.mem_of_getElem? (i:=j) (by rw[List.getElem?_zip_eq_some];exact⟨hd,hv⟩))
  simpa using this
theorem zeroC_put {cs:List CtrD} {vs:List Int} (h:vs.length=cs.length):putC (zeroC cs) vs (zeroC cs).length=cs.zip vs:=by
 refine List.ext_getElem? fun j=>?_
 rw[putC_at]
 by_cases hj:j < cs.length
 ·have hc:cs[j]?=some (cs[j]):=List.getElem?_eq_getElem hj
  rw[zip_at h hc]
  unfold zeroC
  rw[List.getElem?_map,hc]
  simp only[Option.map_some,List.length_map,if_pos hj]
 ·rw[List.getElem?_eq_none (by rw[zeroC_length];omega),List.getElem?_eq_none (by rw[List.length_zip];omega)];rfl
structure D3 (w:World) (s:SesD) (yb:Nat) (av:Value) (As:List (Int × List (CtrD × Int))) (i:Nat) (Ws:List (List (List ByteArray))) (W:World):Prop where
 out:∃ rs,GO 119 137 1 w (w.heap.size + 1) 2 #[pv yb,av,undef] i rs W∧WayC (w.heap.size≤·) W s.cls s.cap rs Ws
 n:Ws.length=i
 acts:ActsO (w.heap.size≤·) W av As
theorem D3.kt {w W V:World} {s:SesD} {yb i:Nat} {av:Value} {As:List (Int × List (CtrD × Int))} {Ws:List (List (List ByteArray))} (h:D3 w s yb av As i Ws W) (hk:Kt [148] W V) (hf:Frm [] w V):D3 w s yb av As i Ws V:=by
 obtain⟨cs,g1,g2⟩:=h.out
 exact⟨⟨cs,g1.kt hk hf (by decide) (by decide),g2.kp (Kp.of_kt hk) (by decide) (by decide) (by decide)⟩,h.n,h.acts.kp (Kp.of_kt hk) (by decide) (by decide) (by decide)⟩
theorem Chn.ty {W:World} {cb:Nat} {cls cap:Int} {L:List ByteArray} {F:List Nat} (h:Chn W cb cls cap L F):∀ x∈F,Ty W x 229∨Ty W x 9:=by
 obtain⟨sv,g1,g2,g3,rfl⟩:=h
 intro x hx
 rcases List.mem_cons.1 hx with rfl | hx
 ·exact .inl ⟨_,g1⟩
 ·rw[Option.mem_toList] at hx
  exact .inr (own_ty g2 hx)
structure D5 (Wi V:World) (ub cb:Nat) (s:SesD) (v:Value) (k:Nat) (cells:List Value) (L:List ByteArray) (W:World):Prop where
 row:W.ownsRow Wi.heap.size 138 1 v k cells
 ch:ChO (V.heap.size≤·) W cb s.cls s.cap L
 kp:Kp (fun _=>True) [148,138] V W
 fr:Frm [ub] Wi W
 sz:V.heap.size≤W.heap.size
section
variable {Wi V W W' w3 w6:World} {ub cb k:Nat} {s:SesD} {v v':Value} {cells:List Value} {L L':List ByteArray} {F:List Nat} {b:List UInt8} {bad:Bool}
theorem D5.start {X:Obj} (ho:V.ownsRow Wi.heap.size 138 1 v k cells) (hf:Frm [ub] Wi V) (hf3:Frm [] V w3) (hc:Chn w3 cb s.cls s.cap [] F) (hF:∀ x∈F,V.heap.size≤x) (hg:(w3.alloc X).grownBy w6 v.ownBlock) (ho6:w6.ownsRow Wi.heap.size 138 1 v' (k + 1) (cells ++ [pv cb])) :
  D5 Wi V ub cb s v' (k + 1) (cells ++ [pv cb]) [] w6:=by
 have hf4:Frm [] V (w3.alloc X):=hf3.alloc _
 have hk:Kt [138] (w3.alloc X) w6:=(Kt.refl _ _).grown hg (fun q hq=>by
  obtain⟨c,hc⟩:=ownBlock_type (hf4.owns ho (by simp)) hq
  exact⟨c,_,(0,0),hc,by simp⟩)
 have hk2:Kt [138] w3 w6:=(Kt.frm ((Frm.refl [] w3).alloc _)).trans hk
 refine⟨ho6,ChO.kp ⟨F,hc,hF⟩ (Kp.of_kt hk2) (by decide) (by decide),fun q c t _ hq ht=>hk.cells (hf4.at hq (by simp)) (by simp at ht ⊢;exact ht.2),?_,Nat.le_trans hf4.size hg.size⟩
 exact(hf.trans (hf4.mono (by simp))).grown hg (fun q hq=>.inr (ownBlock_ge ho hq))
theorem D5.take (h:D5 Wi V ub cb s v k cells L W) (hc:CurAt W ub b bad) (hf:Frm [ub] W W'):D5 Wi V ub cb s v k cells L W':=by
 have hk:=hc.kt hf
 exact⟨hk.row h.row (by decide),h.ch.kp (Kp.of_kt hk) (by decide) (by decide),fun q c t hi hq ht=>hk.cells (h.kp q c t hi hq ht) (by simp at ht ⊢;exact ht.1),h.fr.trans hf,Nat.le_trans h.sz hf.size⟩
theorem D5.put (h:D5 Wi V ub cb s v k cells L W) (hV:Wi.heap.size≤V.heap.size) (hF:Chn W cb s.cls s.cap L F) (hI:∀ x∈F,V.heap.size≤x) (ht:ChnTo W cb s.cls s.cap L' F W'):D5 Wi V ub cb s v k cells L' W':=by
 obtain⟨F',h1,h2,h3⟩:=ht
 refine⟨h2.owns h.row fun q hq hm=>?_,⟨F',h1,fun x hx=>(h3 x hx).elim (hI x) (fun hx=>Nat.le_trans h.sz hx)⟩,fun q c t hi hq ht=>h2.at (h.kp q c t hi hq ht) (fun hm=>by have:=hI q hm;have:=lt_of_block hq;omega),h.fr.then h2 (fun x hx=>.inr (Nat.le_trans hV (hI x hx))),Nat.le_trans h.sz h2.size⟩
 have hq':=own_ty h.row hq
 rcases hF.ty q hm with e | e
 ·exact absurd rfl (hq'.ne e (by decide))
 ·exact absurd rfl (hq'.ne e (by decide))
end
theorem int_arr {W:World} {base:Nat} {v:Value} {vs:List Int} {k:Nat} (h:W.ownsRow base 3 1 v k (vs.map iv)) (hk:vs.length=k):Arr 1 IAt W v vs:=by
 subst hk
 obtain⟨ao,cp,rfl⟩:=own_shape h
 refine⟨ao,cp,rfl,fun i x hx=>?_⟩
 obtain⟨g,c,e,hc⟩:=own_cell h (j:=i) (u:=iv x) (by rw[List.getElem?_map,hx];rfl)
 cases e
 exact⟨g,0,rfl,by unfold IAt;rw[Nat.zero_add,Nat.mul_one];exact hc⟩
theorem first_ctr {s:SesD} {i:Nat} (hi:i < s.roles.length):(firstP s).ctr s i=zeroC (s.rol i).ctrs:=by
 have h1:=actsP_at (x:=firstP s) hi
 have h2:(acF s s.roles.length)[i]?=some (0,zeroC (s.rol i).ctrs):=by
  unfold acF
  rw[List.take_length,List.getElem?_map,SesD.rol_some hi];rfl
 rw[acF_first,h2] at h1
 simp only[Option.some.injEq,Prod.mk.injEq] at h1
 exact h1.2.symm
set_option maxHeartbeats 8000000 in
set_option maxRecDepth 100000 in
theorem pDecode_any (s:SesD) (yb fb:Nat) (key:ByteArray) (w:World) (h:SyR w s yb fb):Calls Tryz.prog 21 #[.pointer (some ⟨yb,0,none⟩),.string key] w (RetV (DcTo w s yb (decP s (byt key)))):=by
 have HSY:=Lib.hid h
 have CN:=Lib.hid (pNone_any s yb fb w h)
 obtain⟨rv,hy,hrl⟩:=h.out
 obtain⟨ao,cap,rfl,-⟩:=id hrl
 obtain⟨n,hn⟩:∃ n,s.roles.length=n:=⟨_,rfl⟩
 rw[hn] at hy hrl
 have HN:=Lib.hid hn;have HRL:=Lib.hid hrl;have HYB:=Lib.hid hy
 have hlty:=lt_of_block hy
 have HC:Hid (∀ V,Frm [] w V→V.cell? ⟨yb,1,none⟩=some (.slice ao n cap)∧V.cell? ⟨yb,4,none⟩=some (.pointer (some ⟨fb,0,none⟩))):=Lib.hid fun V hV=>by
  have hb:=hV.at HYB.out (by simp)
  exact⟨cell_of hb 1,cell_of hb 4⟩
 obtain⟨X0,hX0⟩:∃ X0,(w.alloc (.cells #[.string key,.bool false] 148)).alloc (.cells #[pv yb,.slice none 0 0,.slice none 0 0] 119)=X0:=⟨_,rfl⟩
 have hfx:Frm [] w X0:=by rw[← hX0];exact((Frm.refl _ _).alloc _).alloc _
 have hkt:txt (byt key)=key:=rfl
 have HX:Hid (CurAt X0 w.heap.size (byt key) false):=Lib.hid (by rw[← hX0];exact alloc_at (heap_alloc_new _ _))
 have HD:Hid (D1 w s yb 0 [] [] X0):=Lib.hid ⟨⟨[],GO.made hfx (by omega) (by rw[← hX0];exact alloc_top (by simp)) rfl,ActC.nil⟩,rfl,rfl⟩
 have HJ0:Hid (RJ s (byt key) false (parseRoles s (byt key) 0=some ([],[],byt key))):=Lib.hid (.inr ⟨rfl,rfl⟩)
 obtain⟨D,hD⟩:∃ D,decP s (byt key)=D:=⟨_,rfl⟩
 have HDE:=Lib.hid hD
 rw[hD]
 have HEX:=Lib.hid hX0
 clear h hy hrl hn hX0 hD hkt
 go_enter Tryz.func21,Tryz.ntmps21
 go_upto_region 5 with (first
  | (go_at_call 63;go_must (refine CN.out.mono ?_;rintro e w' ⟨rfl,rfl⟩)))
 rw[HEX.out]
 clear HEX CN
 obtain⟨e1,e4⟩:=HC.out X0 hfx
 clear hfx
 go_wp2
 clear e1 e4
 go_loopw [33] (fun s33 wl=>∃ (i:Nat) (b:List UInt8) (bad:Bool) (ps:List Nat) (vs:List (List Int)),s33=.int .i64 i∧i≤n∧D1 w s yb i ps vs wl∧CurAt wl w.heap.size b bad∧RJ s (byt key) bad (parseRoles s (byt key) i=some (ps,vs,b))) (fun s33 _=>n - (intOf s33).toNat)
 case atStart=>exact⟨0,_,_,_,_,rfl,Nat.zero_le _,HD.out,HX.out,HJ0.out⟩
 case round =>
  obtain⟨i,b,bad,ps,vs,rfl,hi,hd,hcu,hj⟩:=hrel
  have HD:=Lib.hid hd;have HCU:=Lib.hid hcu;have HJ:=Lib.hid hj
  clear hd hcu hj HX
  obtain⟨w1,hw1⟩:∃ w1,w1=wr:=⟨_,rfl⟩
  subst hw1
  have hfr:Frm [] w w1:=by obtain⟨cs,g1,-⟩:=HD.out.out;exact g1.fr
  have HFR:=Lib.hid hfr
  clear hfr
  by_cases hlt:i < n
  ·have hlt':(i:Int) < (n:Int):=by omega
   have hin:i < s.roles.length:=by rw[HN.out];exact hlt
   have HIN:=Lib.hid hin
   obtain⟨bR,oR,sv,cv,tv,rfl,⟨d0,d1,d2,d3⟩,h3⟩:=Rls.at (HRL.out.frm HFR.out) hin
   obtain⟨aS,cs,es,-⟩:=id h3.sts
   obtain⟨ac,cc,ec,-⟩:=id h3.ctrs
   obtain⟨at',ct,et,-⟩:=id h3.steps
   subst es;subst ec;subst et
   obtain⟨nm,hnm⟩:∃ q,(s.rol i).name=q:=⟨_,rfl⟩
   obtain⟨n1,hn1⟩:∃ q,(s.rol i).sts.length=q:=⟨_,rfl⟩
   obtain⟨n2,hn2⟩:∃ q,(s.rol i).ctrs.length=q:=⟨_,rfl⟩
   obtain⟨n3,hn3⟩:∃ q,(s.rol i).steps.length=q:=⟨_,rfl⟩
   rw[hnm] at d0;rw[hn1] at d1;rw[hn2] at d2;rw[hn3] at d3
   have HN1:=Lib.hid hn1;have HN2:=Lib.hid hn2
   have hfa:Frm [] w1 (w1.alloc (.cells #[.string nm,.slice aS n1 cs,.slice ac n2 cc,.slice at' n3 ct] 53)):=(Frm.refl _ _).alloc _
   have HRB:Hid ((w1.alloc (.cells #[.string nm,.slice aS n1 cs,.slice ac n2 cc,.slice at' n3 ct] 53)).heap[w1.heap.size]?=some (.cells #[.string nm,.slice aS n1 cs,.slice ac n2 cc,.slice at' n3 ct] 53 (0,0))):=Lib.hid (heap_alloc_new _ _)
   have CT:=Lib.hid (pTake_any w.heap.size 1 b bad _ (HCU.out.frm hfa (by simp)) (by omega))
   have HFA:=Lib.hid hfa
   obtain⟨z,hz⟩:∃ z,txt (tkV b 1)=z:=⟨_,rfl⟩
   have hzs:z.size=1:=by rw[← hz,txt_size,tkV_length]
   have hz0:(0:Int) < (z.size:Int):=by omega
   have hz0':0 < z.size:=by omega
   have hzv:(z[0]'hz0').toNat=(hd1 b).toNat:=by
    subst hz
    unfold hd1
    rw[List.getD_eq_getElem?_getD,List.getElem?_eq_getElem (by rw[tkV_length];omega)]
    rfl
   rw[hz] at CT
   obtain⟨a,ha⟩:∃ a,(hd1 b).toNat=a:=⟨_,rfl⟩
   have ha256:a < 256:=by rw[← ha];exact(hd1 b).toNat_lt
   rw[ha] at hzv
   have HA:=Lib.hid ha
   clear h3 hnm hn1 hn2 hn3 hfa hz ha hin
   go_upto_region 10 with (first
    | (go_at_call 64;go_must (refine CT.out.mono ?_;rintro e w2 ⟨rfl,ht⟩;have HT:=Lib.hid ht;clear ht CT)))
   have HF12:Hid (Frm [w.heap.size] w1 w2):=Lib.hid ((HFA.out.mono (by simp)).trans HT.out.frm)
   have hRB2:=HT.out.frm.at HRB.out (by simp;have:=lt_of_block HCU.out;omega)
   have HRB2:=Lib.hid hRB2
   have e2:=cell_of hRB2 2
   clear hRB2 hzs hz0 hzv d0 d1 d2 d3
   go_wp2
   clear e2
   obtain⟨i0,hi0,hz0,hz1,hz2⟩:=info_parts Tryz.info3
   go_loopw [11,45] (fun s11 s45 wl=>∃ (k:Nat) (a11:Option Addr) (c11:Nat) (vals:List Int) (b':List UInt8) (bad':Bool),s45=.int .i64 k∧k≤n2∧s11=.slice a11 k c11∧wl.ownsRow w2.heap.size 3 1 (.slice a11 k c11) k (vals.map iv)∧CurAt wl w.heap.size b' bad' ∧
    VJ (tkB b 1) (tkF b bad 1) n2 k vals b' bad'∧Frm [w.heap.size] w2 wl) (fun _ s45 _=>n2 - (intOf s45).toNat)
   case atStart=>exact⟨0,none,0,[],_,_,rfl,Nat.zero_le _,rfl,World.ownsRow_nil _ _ _ _,HT.out.cur,VJ.start _ _ _,Frm.refl _ _⟩
   case round =>
    obtain⟨k,a11,c11,vals,b',bad',rfl,hk,rfl,ho,hcu,hv,hf⟩:=hrel
    have HO:=Lib.hid ho;have HCV:=Lib.hid hcu;have HV:=Lib.hid hv;have HF:=Lib.hid hf
    clear ho hcu hv hf
    by_cases hltk:k < n2
    ·have hltk':(k:Int) < (n2:Int):=by omega
     have CT:=Lib.hid (pTake_any w.heap.size 2 b' bad' wr HCV.out (by omega))
     have HVS:=Lib.hid (HV.out.step hltk)
     obtain⟨z,hz⟩:∃ z,txt (tkV b' 2)=z:=⟨_,rfl⟩
     have hzs:z.size=2:=by rw[← hz,txt_size,tkV_length]
     have hq0:(0:Int) < (z.size:Int):=by omega
     have hq1:(1:Int) < (z.size:Int):=by omega
     have hq0':0 < z.size:=by omega
     have hq1':1 < z.size:=by omega
     obtain⟨x0,hx0⟩:∃ x0,((tkV b' 2).getD 0 0).toNat=x0:=⟨_,rfl⟩
     obtain⟨x1,hx1⟩:∃ x1,((tkV b' 2).getD 1 0).toNat=x1:=⟨_,rfl⟩
     have hl0:x0 < 256:=by rw[← hx0];exact UInt8.toNat_lt _
     have hl1:x1 < 256:=by rw[← hx1];exact UInt8.toNat_lt _
     have hzv0:(z[0]'hq0').toNat=x0:=by
      subst hz;rw[← hx0,List.getD_eq_getElem?_getD,List.getElem?_eq_getElem (by rw[tkV_length];omega)];rfl
     have hzv1:(z[1]'hq1').toNat=x1:=by
      subst hz;rw[← hx1,List.getD_eq_getElem?_getD,List.getElem?_eq_getElem (by rw[tkV_length];omega)];rfl
     have HNM:Hid (num2 (tkV b' 2)=256 * (x0:Int) + (x1:Int)):=Lib.hid (by unfold num2;rw[hx0,hx1])
     rw[hz] at CT
     clear hz hx0 hx1
     go_upto_region 13 with (first
      | (go_at_call 64;go_must (refine CT.out.mono ?_;rintro e w3 ⟨rfl,ht⟩;have HT3:=Lib.hid ht;clear ht CT)))
     have HF3:Hid (Frm [w.heap.size] w2 w3):=Lib.hid (HF.out.trans HT3.out.frm)
     have HO3:Hid (w3.ownsRow w2.heap.size 3 1 (.slice a11 k c11) k (vals.map iv)):=Lib.hid (HT3.out.frm.owns HO.out (fun q hq=>by
      have:=ownBlock_ge HO.out hq
      have:=lt_of_block HT.out.cur
      simp;omega))
     have hk4:k≤4:=by have:=(HSY.out.ok.at HIN.out).c4;have:=HN2.out;omega
     have hwx:IntKind.i64.wrap ((x0:Int) * 256)=(x0:Int) * 256:=by
      simp[IntKind.wrap,show IntKind.i64.bits=64 from rfl,show IntKind.i64.signed=true from rfl];omega
     have hor:=or_two hl0 hl1
     have hwx0:IntKind.i64.wrap (x0:Int)=(x0:Int):=by
      simp[IntKind.wrap,show IntKind.i64.bits=64 from rfl,show IntKind.i64.signed=true from rfl];omega
     have hwx1:IntKind.i64.wrap (x1:Int)=(x1:Int):=by
      simp[IntKind.wrap,show IntKind.i64.bits=64 from rfl,show IntKind.i64.signed=true from rfl];omega
     have hx0i:(x0:Int) < 256:=by omega
     have hx1i:(x1:Int) < 256:=by omega
     have hs3:=HF3.out.size
     obtain⟨hv,hhv⟩:∃ h,256 * (x0:Int) + (x1:Int)=h:=⟨_,rfl⟩
     rw[hhv] at hor HNM
     clear hhv hl0 hl1 hzs
     generalize hQQ:Exit.inBlock _ _=QQ
     refine wp_mono (Q:=fun e a' w'=>match e with | .normal=>QQ .normal a' w' | _=>False) ?_ (fun e a' w' h=>by cases e <;> first | exact h | exact h.elim)
     go_region_law (first
      | (refine step_append_own_at rfl _ _ 31 rfl w2.heap.size 3 i0 (.int .i64 0) 1 8 Tryz.underlying31 hi0 hz0 hz1 hz2 rfl (by decide) (.slice a11 k c11) k (vals.map iv) ?_ (((Frm.refl [] w3).drew.alloc _).owns HO3.out (by simp)) ⟨w3.heap.size,0,none⟩ 1 1 [iv hv] ?_ rfl (new_row w3.drew _ _) ?_ ?_ ?_ ?_ ?_;(focus (go_simp;done));(focus (go_simp;done));(focus (simp[Value.oneCell',iv];done));(focus (unfold maxLen;omega));(focus omega);(focus (simp;omega));intro v' w6 hown' hgrow;obtain⟨a12,c12,rfl⟩:=own_shape hown';have HO6:=Lib.hid hown';have HC6:Hid (CurAt w6 w.heap.size (tkB b' 2) (tkF b' bad' 2)):=Lib.hid (grown_at hgrow (alloc_at (show w3.drew.heap[w.heap.size]?=_ from HT3.out.cur)) (fun e'=>by have h1:=ownBlock_ge HO3.out e';have h2:=lt_of_block HT.out.cur;omega));have HF6:Hid (Frm [w.heap.size] w2 w6):=Lib.hid ((HF3.out.drew.alloc _).grown hgrow (fun q hq=>.inr (ownBlock_ge HO3.out hq)));clear hown' hgrow))
     all_goals
      subst hQQ
      go_wp2
      refine⟨⟨k + 1,a12,c12,_,_,_,congrArg (Value.int .i64) (by omega),hltk,rfl,?_,HC6.out,HVS.out,HF6.out⟩,by simp[intOf];omega⟩
      rw[List.map_append,HNM.out]
      exact HO6.out
    ·obtain rfl:k=n2:=by omega
     have hge:¬ (k:Int) < (k:Int):=by omega
     have HW:Hid (Frm [] w wr):=Lib.hid ((HFR.out.then HF12.out (by simp)).then HF.out (by simp))
     obtain⟨ab,aa,ca,bb,x1,hac⟩:=HSY.out.first.act HIN.out
     rw[first_ctr HIN.out] at hac
     rw[HN.out] at x1
     obtain⟨-,a1,a2⟩:=hac
     have y4:=(HC.out wr HW.out).2
     have x1':=HW.out.keep x1
     have a1':=HW.out.keep a1
     have CC:=Lib.hid (bCopy_to bb (zeroC (s.rol i).ctrs) wr (a2.frm HW.out) (by rw[zeroC_length,HN2.out];have:=(HSY.out.ok.at HIN.out).c4;have:=HN2.out;omega))
     have hrb:=HF.out.at HRB2.out (by simp;have:=HCU.out;have:=lt_of_block HCU.out;omega)
     have HRB3:=Lib.hid hrb
     have e1:=cell_of hrb 1
     clear x1 a1 a2 hrb
     go_upto_region 16 with (first
      | (go_at_call 65;go_must (refine CC.out.mono ?_;rintro e w4 ⟨v,rfl,b4,g4,rfl,hc4⟩;have HCP:=Lib.hid hc4;clear hc4 CC)))
     have HV0:=Lib.hid HV.out.v
     have HVN:=Lib.hid HV.out.n
     have hr4:=HCP.out.frm.at HRB3.out (by simp)
     have e4:=cell_of hr4 1
     have HCU4:=Lib.hid (HCV.out.frm HCP.out.frm (by simp))
     have HF4:Hid (Frm [w.heap.size] w1 w4):=Lib.hid ((HF12.out.trans HF.out).trans (HCP.out.frm.mono (by simp)))
     have HW4:Hid (Frm [] w w4):=Lib.hid (HW.out.trans HCP.out.frm)
     clear x1' a1' y4 e1 hr4
     by_cases hap:a < n1
     ·have hap':¬ (n1:Int)≤(a:Int):=by omega
      have CP:=Lib.hid (bPut_any b4 g4 (zeroC (s.rol i).ctrs) (.slice a11 k c11) vals w4 HCP.out.bnk (int_arr (HCP.out.frm.owns HO.out (by simp)) HVN.out) (by rw[zeroC_length,HN2.out];exact HVN.out)
       (fun b' o' n' c' e' hn'=>by
        cases e'
        obtain⟨g,cp,cur,e2,-,hh⟩:=own_block HO.out (by omega)
        cases e2
        have h1:=lt_of_block hh
        have h2:=HCP.out.g
        omega) (fun x hx=>(HV0.out x hx).1) (by rw[zeroC_length,HN2.out];have:=(HSY.out.ok.at HIN.out).c4;have:=HN2.out;omega))
      have HPR:Hid (putR (zeroC (s.rol i).ctrs) vals=if fitsV (s.rol i).ctrs vals=true then 0 else 3):=Lib.hid (by unfold putR;rw[zeroC_fits])
      obtain⟨pr,hpr⟩:∃ q,putR (zeroC (s.rol i).ctrs) vals=q:=⟨_,rfl⟩
      rw[hpr] at CP HPR
      clear hpr
      cases hfit:fitsV (s.rol i).ctrs vals with
      | false =>
        have hpr3:pr=3:=by rw[HPR.out,hfit];rfl
        have HNO:Hid (D=none):=Lib.hid (by rw[← HDE.out];exact role_bad2 HJ.out HIN.out (by rw[HN2.out];exact HV.out) hfit)
        subst hpr3
        clear hfit HPR
        go_wp2_with (first
         | (go_at_call 66;go_must (refine CP.out.mono ?_;rintro e w5 ⟨rfl,ht⟩;have HP:=Lib.hid ht;clear ht CP)))
        go_ret2
        exact⟨_,rfl,DcTo.no HNO.out (HW4.out.then HP.out.frm (by have:=HCP.out.g;have:=HW.out.size;intro x hx;simp at hx;omega))⟩
      | true =>
        have hpr0:pr=0:=by rw[HPR.out,hfit];rfl
        subst hpr0
        have HJN:=Lib.hid (role_done HJ.out HIN.out (by rw[HA.out,HN1.out];exact hap) (by rw[HN2.out];exact HV.out) hfit)
        have HFT:Hid (fitsC (zeroC (s.rol i).ctrs) vals=true):=Lib.hid (by rw[zeroC_fits];exact hfit)
        have HZP:=Lib.hid (zeroC_put (cs:=(s.rol i).ctrs) (vs:=vals) (by rw[HVN.out,HN2.out]))
        rw[HA.out] at HJN
        clear hfit HPR
        go_upto_region 18 with (first
         | (go_at_call 66;go_must (refine CP.out.mono ?_;rintro e w5 ⟨rfl,ht⟩;have HP:=Lib.hid ht;clear ht CP)))
        have hg4:=HCP.out.g
        have hb4:=HCP.out.b
        have HF5:Hid (Frm [w.heap.size] w1 w5):=Lib.hid (HF4.out.then HP.out.frm (by have:=(HF12.out.trans HF.out).size;intro x hx;simp at hx;right;omega))
        have HW5:Hid (Frm [] w w5):=Lib.hid (HFR.out.then HF5.out (by simp))
        have HBK:Hid (BkO (w.heap.size≤·) w5 b4 ((s.rol i).ctrs.zip vals)):=Lib.hid ⟨g4,by rw[← HZP.out];exact HP.out.ok HFT.out,by have:=HW.out.size;omega,by have:=HW.out.size;omega⟩
        have HD5:=Lib.hid (HD.out.kt (HCU.out.kt HF5.out) HW5.out (by decide) (by decide) (by decide) (by decide))
        have HCU5:Hid (CurAt w5 w.heap.size b' bad'):=Lib.hid (HCU4.out.frm HP.out.frm (by have:=lt_of_block HCU.out;have:=(HF12.out.trans HF.out).size;simp;omega))
        obtain⟨cs1,hgo,hac⟩:=HD5.out.out
        obtain⟨av,cav,hb1,hb2⟩:=hgo.bx
        have hb1':w5.heap[w.heap.size + 1]?=some (.cells #[pv yb,.slice av i cav,.slice none 0 0] 119 (0,0)):=hb1
        have HGO:=Lib.hid hgo;have HAC:=Lib.hid hac;have HB1:=Lib.hid hb1;have HO1:=Lib.hid hb2
        have cx:=cell_of hb1' 1
        have fx:=free_of hb1' 1
        have hi4:i≤4:=by have:=HSY.out.ok.n4;have:=HN.out;omega
        obtain⟨i1,hj0,hj1,hj2,hj3⟩:=info_parts Tryz.infoAc
        clear hgo hac hb1 hb2 hb1' e4
        go_wp2_with (at_builtin;refine wpList_append_own_at _ rfl _ _ 116 rfl w.heap.size 145 i1 (.agg #[.int .i64 0,.pointer none]) 2 16 Tryz.underlying116 hj0 hj1 hj2 hj3 rfl (by decide) (.slice av i cav) i cs1 rfl (HO1.out.alloc _) ⟨w5.heap.size,0,none⟩ 1 1 [.int .i64 a,pv b4] rfl rfl (new_row _ _ _) (by simp[Value.oneCell']) (by unfold maxLen;omega) (by omega) (by have:=HW5.out.size;simp;omega) ?_;intro v' w6 hown' hgrow _ _;obtain⟨ao',cp',rfl⟩:=own_shape hown';have hs:=GO.step HGO.out HB1.out HO1.out (by decide) ((Frm.refl [] w5).alloc _) hgrow hown';have hbx:w6.heap[w.heap.size + 1]?=some (.cells #[pv yb,.slice av i cav,.slice none 0 0] 119 (0,0)):=GO.facts HB1.out HO1.out (by decide) ((Frm.refl [] w5).alloc _) hgrow;have cx6:=cell_of hbx 1;have fx6:=free_of hbx 1;have HS:=Lib.hid hs;clear hs hbx hown' hgrow cx)
        refine⟨⟨i + 1,b',bad',_,_,congrArg (Value.int .i64) (by omega),hlt,⟨⟨_,HS.out.1,?_⟩,by rw[List.length_append,HD.out.p];rfl,by rw[List.length_append,HD.out.v];rfl⟩,HS.out.2.cells HCU5.out (by decide),HJN.out⟩,by simp[intOf];omega⟩
        rw[acP_succ HD.out.p HD.out.v]
        exact(HAC.out.snoc HBK.out).kp (Kp.of_kt HS.out.2) (by decide) (by decide)
     ·have hap':(n1:Int)≤(a:Int):=by omega
      have HNO:Hid (D=none):=Lib.hid (by rw[← HDE.out];exact role_bad1 HJ.out HIN.out (HSY.out.ok.at HIN.out).s1 (by rw[HA.out,HN1.out];exact hap))
      go_wp2
      go_ret2
      exact⟨_,rfl,DcTo.no HNO.out HW4.out⟩
  ·obtain rfl:i=n:=by omega
   have hge:¬ (i:Int) < (i:Int):=by omega
   obtain⟨cs1,hgo,hac⟩:=HD.out.out
   obtain⟨av0,cav,hb1,hb2⟩:=hgo.bx
   have hb1':w1.heap[w.heap.size + 1]?=some (.cells #[pv yb,.slice av0 i cav,.slice none 0 0] 119 (0,0)):=hb1
   obtain⟨av,hav⟩:∃ v,Value.slice av0 i cav=v:=⟨_,rfl⟩
   have HD3:Hid (D3 w s yb av (acP s ps vs i) 0 [] w1):=Lib.hid (by
    rw[← hav]
    exact⟨⟨[],GO.made HFR.out (by omega) hb1' rfl,WayC.nil⟩,rfl,w.heap.size,cs1,by rw[acP_length];exact hb2,fun q hq=>ownBlock_ge hb2 hq,hac⟩)
   have HJW:Hid (WJ s (byt key) b 0 [] b bad):=Lib.hid (by
    rcases HJ.out with ⟨h1,h2⟩ | ⟨h1,-⟩
    ·exact .inl ⟨h1,h2⟩
    ·exact .inr ⟨h1,rfl⟩)
   have hin0:0 < s.roles.length:=by have:=HSY.out.ok.n2;omega
   obtain⟨gb,go',capw,rv0,x2,-,-⟩:=HSY.out.first.row hin0
   rw[HN.out] at x2
   have HX2:=Lib.hid x2
   have x2':=HFR.out.keep x2
   have y4:=(HC.out w1 HFR.out).2
   have HCU0:=HCU
   have HPL:=Lib.hid HD.out.p;have HVL:=Lib.hid HD.out.v
   clear hgo hac hb1 hb2 hb1' hav hin0 x2 hge HD
   go_wp2
   clear x2' y4
   go_loopw [105] (fun s105 wl=>∃ (j:Nat) (b1:List UInt8) (bad1:Bool) (Ws:List (List (List ByteArray))),s105=.int .i64 j∧j≤i∧D3 w s yb av (acP s ps vs i) j Ws wl∧CurAt wl w.heap.size b1 bad1∧WJ s (byt key) b j Ws b1 bad1∧(bad=true→bad1=true)) (fun s105 _=>i - (intOf s105).toNat)
   case atStart=>exact⟨0,_,_,_,rfl,Nat.zero_le _,HD3.out,HCU0.out,HJW.out,id⟩
   case round =>
    obtain⟨j,b1,bad1,Ws,rfl,hj,hd,hcu,hjw,hbb⟩:=hrel
    have HD:=Lib.hid hd;have HCU:=Lib.hid hcu;have HJV:=Lib.hid hjw;have HBB:=Lib.hid hbb
    clear hd hcu hjw hbb HD3 HCU0
    obtain⟨wi,hwi⟩:∃ wi,wi=wr:=⟨_,rfl⟩
    subst hwi
    have HFRi:Hid (Frm [] w wi):=Lib.hid (by obtain⟨cs,g1,-⟩:=HD.out.out;exact g1.fr)
    by_cases hltj:j < i
    ·have hltj':(j:Int) < (i:Int):=by omega
     have hjn:j < s.roles.length:=by rw[HN.out];exact hltj
     have HJN:=Lib.hid hjn
     obtain⟨gb2,go2,cap2,rb0,ro0,c0,cb0,x3,hw0⟩:=HSY.out.first.way hjn (show 0 < s.roles.length by omega)
     rw[HN.out] at x3
     have q:=Option.some.inj (HX2.out.symm.trans x3)
     cases q
     have y0:=HFRi.out.keep hw0.c0
     rw[HN.out] at y0
     have HY0:=Lib.hid hw0.c0
     have HRW0:Hid (RwJ s (byt key) j b1 0 [] b1 bad1):=Lib.hid (RwJ.start (by rw[HN.out];exact HJ.out) HBB.out HJV.out hjn)
     clear hjn x3 hw0
     go_wp2
     clear y0
     go_loopw [16,112] (fun s16 s112 wl=>∃ (k:Nat) (a16:Option Addr) (c16:Nat) (cells:List Value) (R:List (List ByteArray)) (b2:List UInt8) (bad2:Bool),s112=.int .i64 k∧k≤i∧s16=.slice a16 k c16∧wl.ownsRow wi.heap.size 138 1 (.slice a16 k c16) k cells∧RowC (w.heap.size≤·) wl s.cls s.cap cells R ∧
      Frm [w.heap.size] wi wl∧CurAt wl w.heap.size b2 bad2∧RwJ s (byt key) j b1 k R b2 bad2∧(bad1=true→bad2=true)) (fun _ s112 _=>i - (intOf s112).toNat)
     case atStart=>exact⟨0,none,0,[],[],_,_,rfl,Nat.zero_le _,rfl,World.ownsRow_nil _ _ _ _,RowC.nil,Frm.refl _ _,HCU.out,HRW0.out,id⟩
     case round =>
      obtain⟨k,a16,c16,cells,R,b2,bad2,rfl,hk,rfl,hro,hrc,hf,hcu,hrj,hbb⟩:=hrel
      have HRO:=Lib.hid hro;have HRC:=Lib.hid hrc;have HF:=Lib.hid hf;have HCV:=Lib.hid hcu;have HRJ:=Lib.hid hrj;have HB2:=Lib.hid hbb
      clear hro hrc hf hcu hrj hbb HRW0
      obtain⟨wv,hwv⟩:∃ wv,wv=wr:=⟨_,rfl⟩
      subst hwv
      have HFRv:Hid (Frm [] w wv):=Lib.hid (HFRi.out.then HF.out (by simp))
      by_cases hltk:k < i
      ·have hltk':(k:Int) < (i:Int):=by omega
       have hkn:k < s.roles.length:=by rw[HN.out];exact hltk
       have HKN:=Lib.hid hkn
       obtain⟨gb3,go3,cap3,rb1,ro1,c1,cb1,x4,hw1⟩:=HSY.out.first.way HJN.out hkn
       have q:=Option.some.inj (HX2.out.symm.trans (by rw[HN.out] at x4;exact x4))
       cases q
       have q2:=Option.some.inj (HY0.out.symm.trans hw1.c0)
       simp only[Value.slice.injEq,Option.some.injEq,Addr.mk.injEq,true_and,and_true] at q2
       obtain⟨⟨rfl,rfl⟩,rfl⟩:=q2
       have y1:=HFRv.out.keep hw1.c1
       obtain⟨F0,hch⟩:=hw1.chn
       rw[first_way] at hch
       have CC:=Lib.hid (copy_any (hch.frm HFRv.out (by simp)))
       have hi4:k≤4:=by have:=HSY.out.ok.n4;have:=HN.out;omega
       have hsz:=HF.out.size
       obtain⟨i1,hj0,hj1,hj2,hj3⟩:=info_parts Tryz.infoPC
       clear hch hw1 x4 hkn
       go_upto_region 29 with (first
        | (go_at_call 67;go_must (refine CC.out.mono ?_;rintro e w3 ⟨v,rfl,db,F,rfl,hc,hf3,hF⟩;have HC3:=Lib.hid hc;have HF3:=Lib.hid hf3;have HFI:=Lib.hid hF;clear hc hf3 hF CC y1))
        | (at_builtin;refine wpList_append_own_at _ rfl _ _ 137 rfl wi.heap.size 138 i1 (.pointer none) 1 8 Tryz.underlying137 hj0 hj1 hj2 hj3 rfl (by decide) (.slice a16 k c16) k cells rfl ((HF3.out.alloc _).owns HRO.out (by simp)) ⟨w3.heap.size,0,none⟩ 1 1 [pv db] rfl rfl (new_row _ _ _) (by simp[Value.oneCell']) (by unfold maxLen;omega) (by omega) (by have:=HF3.out.size;simp;omega) ?_;intro v' w6 hown' hgrow _ _;obtain⟨a9,c9,rfl⟩:=own_shape hown';have HD5:=Lib.hid (D5.start HRO.out HF.out HF3.out HC3.out HFI.out hgrow hown');have HC6:Hid (CurAt w6 w.heap.size b2 bad2):=Lib.hid (grown_at hgrow (alloc_at (HF3.out.at HCV.out (by simp))) (fun e'=>by have h1:=ownBlock_ge HRO.out e';have h2:=lt_of_block HCU.out;omega));clear hown' hgrow))
       by_cases hjk:j=k
       ·have hq1:((j:Int) == (k:Int))=true:=by rw[beq_iff_eq];omega
        subst hjk
        have HSM:=Lib.hid (HRJ.out.same)
        go_wp2
        refine⟨⟨j + 1,a9,c9,_,_,b2,bad2,congrArg (Value.int .i64) (by omega),hltk,rfl,HD5.out.row,?_,HD5.out.fr,HC6.out,HSM.out,HB2.out⟩,by simp[intOf];omega⟩
        exact(HRC.out.kp (HD5.out.kp.mono' (fun _ _=>trivial)) (by decide) (by decide)).snoc (HD5.out.ch.mono (fun q hq=>Nat.le_trans HFRv.out.size hq))
       ·have hq1:((j:Int) == (k:Int))=false:=by rw[beq_eq_false_iff_ne];omega
        have CT:=Lib.hid (pTake_any w.heap.size 1 b2 bad2 w6 HC6.out (by omega))
        obtain⟨z,hz⟩:∃ z,txt (tkV b2 1)=z:=⟨_,rfl⟩
        have hzs:z.size=1:=by rw[← hz,txt_size,tkV_length]
        have hz0:(0:Int) < (z.size:Int):=by omega
        have hz0':0 < z.size:=by omega
        have hzv:(z[0]'hz0').toNat=(hd1 b2).toNat:=by
         subst hz
         unfold hd1
         rw[List.getD_eq_getElem?_getD,List.getElem?_eq_getElem (by rw[tkV_length];omega)]
         rfl
        rw[hz] at CT
        have HMS:=Lib.hid (MJ.start HRJ.out HKN.out hjk)
        obtain⟨m,hm⟩:∃ a,(hd1 b2).toNat=a:=⟨_,rfl⟩
        have hm256:m < 256:=by rw[← hm];exact(hd1 b2).toNat_lt
        rw[hm] at hzv
        have HM:=Lib.hid hm
        clear hz hm
        go_wp2_with (first
         | (go_at_call 64;go_must (refine CT.out.mono ?_;rintro e w7 ⟨rfl,ht⟩;have HT:=Lib.hid ht;clear ht CT)))
        have HD7:=Lib.hid (HD5.out.take HC6.out HT.out.frm)
        have HC7:=Lib.hid HT.out.cur
        clear hzs hz0 hzv HD5 HC6 HT
        go_loopw [130] (fun s130 wl=>∃ (x:Nat) (L:List ByteArray) (b3:List UInt8) (bad3:Bool),s130=.int .i64 x∧x≤m∧D5 wi wv w.heap.size db s (.slice a9 (k + 1) c9) (k + 1) (cells ++ [pv db]) L wl∧CurAt wl w.heap.size b3 bad3∧MJ s (byt key) b2 bad2 x L b3 bad3) (fun s130 _=>m - (intOf s130).toNat)
        case atStart=>exact⟨0,[],_,_,rfl,Nat.zero_le _,HD7.out,HC7.out,HMS.out⟩
        case round =>
         obtain⟨x,L,b3,bad3,rfl,hx,hd5,hc3,hmj⟩:=hrel
         have HDx:=Lib.hid hd5;have HCx:=Lib.hid hc3;have HMx:=Lib.hid hmj
         clear hd5 hc3 hmj HD7 HC7 HMS
         by_cases hltx:x < m
         ·have hltx':(x:Int) < (m:Int):=by omega
          have CT:=Lib.hid (pTake_any w.heap.size 1 b3 bad3 wr HCx.out (by omega))
          obtain⟨z,hz⟩:∃ z,txt (tkV b3 1)=z:=⟨_,rfl⟩
          have hzs:z.size=1:=by rw[← hz,txt_size,tkV_length]
          have hz0:(0:Int) < (z.size:Int):=by omega
          have hz0':0 < z.size:=by omega
          have hzv:(z[0]'hz0').toNat=(hd1 b3).toNat:=by
           subst hz
           unfold hd1
           rw[List.getD_eq_getElem?_getD,List.getElem?_eq_getElem (by rw[tkV_length];omega)]
           rfl
          rw[hz] at CT
          have hnm:=hd1 b3 |>.toNat_lt
          have HNOM:Hid (putE s.cap L ⟨(mgT b3).toArray⟩≠0→decP s (byt key)=none):=Lib.hid fun he=>MJ.no HRJ.out HKN.out hjk HMx.out (by rw[HM.out];exact hltx) he
          have HYESM:Hid (putE s.cap L ⟨(mgT b3).toArray⟩=0→MJ s (byt key) b2 bad2 (x + 1) (L ++ [⟨(mgT b3).toArray⟩]) (mgB b3) (mgF b3 bad3)):=Lib.hid fun he=>MJ.step HRJ.out HKN.out hjk HMx.out (by rw[HM.out];exact hltx) he
          obtain⟨F,hF⟩:∃ F,F=(hd1 b3).toNat:=⟨_,rfl⟩
          rw[← hF] at hzv hnm
          have CT2:Hid (∀ V,CurAt V w.heap.size (tkB b3 1) (tkF b3 bad3 1)→Calls Tryz.prog 64 #[.pointer (some ⟨w.heap.size,0,none⟩),.int .i64 F] V (Ret (.string (txt (mgT b3))) (fun w'=>CurAt w' w.heap.size (mgB b3) (mgF b3 bad3)∧Frm [w.heap.size] V w'))):=Lib.hid fun V hV=>by
           subst hF
           exact(pTake_any w.heap.size (hd1 b3).toNat (tkB b3 1) (tkF b3 bad3 1) V hV (by omega)).mono fun e w' ⟨h1,h2⟩=>⟨h1,h2.cur,h2.frm⟩
          have CPT:Hid (∀ V F',Chn V db s.cls s.cap L F'→Calls Tryz.prog 68 #[.pointer (some ⟨db,0,none⟩),.string (txt (mgT b3))] V (Ret (.int .i64 (putE s.cap L (txt (mgT b3)))) (ChnTo V db s.cls s.cap (putL s.cap L (txt (mgT b3))) F'))):=Lib.hid fun V F' hV=>put_all db s.cls s.cap L F' (txt (mgT b3)) V hV
          have HPL:Hid (putE s.cap L (txt (mgT b3))=0→putL s.cap L (txt (mgT b3))=L ++ [txt (mgT b3)]):=Lib.hid fun h=>by unfold putL;rw[if_pos h]
          obtain⟨tx,htx⟩:∃ t,txt (mgT b3)=t:=⟨_,rfl⟩
          rw[htx] at CT2 CPT HPL
          rw[show (⟨(mgT b3).toArray⟩:ByteArray)=tx from htx] at HNOM HYESM
          obtain⟨pe,hpe⟩:∃ q,putE s.cap L tx=q:=⟨_,rfl⟩
          rw[hpe] at CPT HPL HNOM HYESM
          clear hz hF htx hpe
          by_cases hp0:pe=0
          ·have hq2:(pe == 0)=true:=by simpa using hp0
           have hq3:(pe != 0)=false:=by simpa using hp0
           have HY:=Lib.hid (HYESM.out hp0)
           rw[HPL.out hp0] at CPT
           clear hp0 HNOM HYESM HPL
           go_wp2_with (first
            | (go_at_call 64;go_must (first
             | (refine CT.out.mono ?_;clear CT;rintro e w8 ⟨rfl,ht⟩;have HT8:=Lib.hid ht;clear ht)
             | (refine(CT2.out _ HT8.out.cur).mono ?_;clear CT2;rintro e w9 ⟨rfl,ht⟩;have HT9:=Lib.hid ht;have HDy:=Lib.hid ((HDx.out.take HCx.out HT8.out.frm).take HT8.out.cur ht.2);obtain⟨F9,hF9,hI9⟩:=HDy.out.ch;have HF9:=Lib.hid hF9;have HI9:=Lib.hid hI9;clear ht hF9 hI9)))
            | (go_at_call 68;go_must (refine(CPT.out _ _ HF9.out).mono ?_;rintro e w10 ⟨rfl,ht⟩;have HDz:=Lib.hid (HDy.out.put hsz HF9.out HI9.out ht);have HCz:Hid (CurAt w10 w.heap.size (mgB b3) (mgF b3 bad3)):=Lib.hid (by obtain⟨F',-,h2,-⟩:=ht;exact HT9.out.1.frm h2 (fun hm=>by have h1:=HI9.out _ hm;have h3:=lt_of_block HCV.out;omega));clear ht)))
           exact⟨⟨x + 1,_,_,_,congrArg (Value.int .i64) (by omega),hltx,HDz.out,HCz.out,HY.out⟩,by simp[intOf];omega⟩
          ·have hq2:(pe == 0)=false:=by simpa using hp0
           have hq3:(pe != 0)=true:=by simpa using hp0
           have HNO:Hid (D=none):=Lib.hid (by rw[← HDE.out];exact HNOM.out hp0)
           clear hp0 HNOM HYESM HPL
           go_wp2_with (first
            | (go_at_call 64;go_must (first
             | (refine CT.out.mono ?_;clear CT;rintro e w8 ⟨rfl,ht⟩;have HT8:=Lib.hid ht;clear ht)
             | (refine(CT2.out _ HT8.out.cur).mono ?_;clear CT2;rintro e w9 ⟨rfl,ht⟩;have HT9:=Lib.hid ht;have HDy:=Lib.hid ((HDx.out.take HCx.out HT8.out.frm).take HT8.out.cur ht.2);obtain⟨F9,hF9,hI9⟩:=HDy.out.ch;have HF9:=Lib.hid hF9;have HI9:=Lib.hid hI9;clear ht hF9 hI9)))
            | (go_at_call 68;go_must (refine(CPT.out _ _ HF9.out).mono ?_;rintro e w10 ⟨rfl,ht⟩;have HDz:=Lib.hid (HDy.out.put hsz HF9.out HI9.out ht);clear ht)))
           go_ret2
           exact⟨_,rfl,DcTo.no HNO.out (HFRi.out.then HDz.out.fr (by simp))⟩
         ·obtain rfl:x=m:=by omega
          have hgx:¬ (x:Int) < (x:Int):=by omega
          have HDN:=Lib.hid (MJ.done HRJ.out hjk (by rw[HM.out];exact HMx.out))
          go_wp2
          refine⟨⟨k + 1,a9,c9,_,_,b3,bad3,congrArg (Value.int .i64) (by omega),hltk,rfl,HDx.out.row,?_,HDx.out.fr,HCx.out,HDN.out,fun h=>HMx.out.1 (HB2.out h)⟩,by simp[intOf];omega⟩
          exact(HRC.out.kp (HDx.out.kp.mono' (fun _ _=>trivial)) (by decide) (by decide)).snoc (HDx.out.ch.mono (fun q hq=>Nat.le_trans HFRv.out.size hq))
      ·obtain rfl:k=i:=by omega
       have hgk:¬ (k:Int) < (k:Int):=by omega
       have HD2:=Lib.hid (HD.out.kt (HCU.out.kt HF.out) HFRv.out)
       have HRW:Hid (RowO (w.heap.size≤·) wv s.cls s.cap (.slice a16 k c16) R):=Lib.hid ⟨_,cells,by rw[HRJ.out.n];exact HRO.out,fun q hq=>Nat.le_trans HFRi.out.size (ownBlock_ge HRO.out hq),HRC.out⟩
       obtain⟨rs,hgo,hwc⟩:=HD2.out.out
       obtain⟨abw,cbw,hb1,hb2⟩:=hgo.bx
       have hb1':wv.heap[w.heap.size + 1]?=some (.cells #[pv yb,av,.slice abw j cbw] 119 (0,0)):=hb1
       have HGO:=Lib.hid hgo;have HWC:=Lib.hid hwc;have HB1:=Lib.hid hb1;have HO1:=Lib.hid hb2
       have cx:=cell_of hb1' 2
       have fx:=free_of hb1' 2
       have hk4:j≤4:=by have:=HSY.out.ok.n4;have:=HN.out;omega
       have HJD:Hid (WJ s (byt key) b (j + 1) (Ws ++ [R]) b2 bad2):=Lib.hid (RwJ.done HJV.out (by rw[HN.out];exact HRJ.out) HB2.out)
       obtain⟨i2,hk0,hk1,hk2,hk3⟩:=info_parts Tryz.infoRw
       clear hgo hwc hb1 hb2 hb1' hgk
       go_wp2_with (at_builtin;refine wpList_append_own_at _ rfl _ _ 117 rfl w.heap.size 137 i2 (.slice none 0 0) 1 24 Tryz.underlying117 hk0 hk1 hk2 hk3 rfl (by decide) (.slice abw j cbw) j rs rfl (HO1.out.alloc _) ⟨wv.heap.size,0,none⟩ 1 1 [.slice a16 k c16] rfl rfl (new_row _ _ _) (by simp[Value.oneCell']) (by unfold maxLen;omega) (by omega) (by have:=HFRv.out.size;simp;omega) ?_;intro v' w6 hown' hgrow _ _;obtain⟨ao',cp',rfl⟩:=own_shape hown';have hs:=GO.step HGO.out HB1.out HO1.out (by decide) ((Frm.refl [] wv).alloc _) hgrow hown';have hbx:w6.heap[w.heap.size + 1]?=some (.cells #[pv yb,av,.slice abw j cbw] 119 (0,0)):=GO.facts HB1.out HO1.out (by decide) ((Frm.refl [] wv).alloc _) hgrow;have cx6:=cell_of hbx 2;have fx6:=free_of hbx 2;have HS:=Lib.hid hs;clear hs hbx hown' hgrow cx)
       refine⟨⟨j + 1,b2,bad2,_,congrArg (Value.int .i64) (by omega),hltj,⟨⟨_,HS.out.1,?_⟩,by rw[List.length_append,HD.out.n];rfl,HD2.out.acts.kp (Kp.of_kt HS.out.2) (by decide) (by decide) (by decide)⟩,HS.out.2.cells HCV.out (by decide),HJD.out,fun h=>HB2.out (HBB.out h)⟩,by simp[intOf];omega⟩
       exact(HWC.out.snoc HRW.out).kp (Kp.of_kt HS.out.2) (by decide) (by decide) (by decide)
    ·obtain rfl:j=i:=by omega
     have hgj:¬ (j:Int) < (j:Int):=by omega
     have hcub:=HCU.out
     unfold CurAt at hcub
     have c1:=cell_of hcub 1
     clear hcub hgj
     cases bad1 with
     | true =>
       have HNO:Hid (D=none):=Lib.hid (by
        rw[← HDE.out]
        rcases HJV.out with ⟨-,h⟩ | ⟨h,-⟩
        ·exact h
        ·cases h)
       go_wp2
       go_ret2
       exact⟨_,rfl,DcTo.no HNO.out HFRi.out⟩
     | false =>
       have HGOOD:Hid (parseP s (byt key)=some ⟨ps,vs,Ws⟩):=Lib.hid (by
        have h0:bad=false:=by
         cases hb:bad with
         | false=>rfl
         | true=>have:=HBB.out hb;cases this
        rcases HJ.out with ⟨h1,-⟩ | ⟨-,h1⟩
        ·rw[h0] at h1;cases h1
        ·rcases HJV.out with ⟨h2,-⟩ | ⟨-,h2⟩
         ·cases h2
         ·unfold parseP
          rw[HN.out,h1]
          simp only
          rw[h2])
       have HST:Hid (StR wi s yb (w.heap.size + 1) ⟨ps,vs,Ws⟩):=Lib.hid (by
        obtain⟨rs,hgo,hwc⟩:=HD.out.out
        obtain⟨abw,cbw,hb1,hb2⟩:=hgo.bx
        refine StO.str (I:=(w.heap.size≤·)) ⟨⟨av,_,hb1,Nat.le_succ _,?_,w.heap.size,rs,?_,fun q hq=>ownBlock_ge hb2 hq,hwc⟩,parse_ok HSY.out.ok HGOOD.out⟩
        ·have h1:=HD.out.acts
         rw[← HN.out] at h1
         exact h1
        ·show wi.ownsRow w.heap.size 137 1 _ Ws.length rs
         rw[HD.out.n];exact hb2)
       have CK:=Lib.hid (pKey_any s yb fb (w.heap.size + 1) ⟨ps,vs,Ws⟩ wi (HSY.out.frm HFRi.out) HST.out)
       obtain⟨kb,hkb⟩:∃ q:ByteArray,⟨(keyP s ⟨ps,vs,Ws⟩).toArray⟩=q:=⟨_,rfl⟩
       rw[hkb] at CK
       have HDD:Hid (D=if kb=key then some ⟨ps,vs,Ws⟩ else none):=Lib.hid (by
        rw[← HDE.out]
        unfold decP
        rw[HGOOD.out]
        simp only
        have e:keyP s ⟨ps,vs,Ws⟩=byt key↔kb=key:=by
         rw[← hkb]
         constructor
         ·intro h;rw[h];rfl
         ·intro h;rw[← h];rfl
        rw[if_iff e])
       clear hkb
       by_cases hk:kb=key
       ·have hq1:(kb.toList == key.toList)=true:=by rw[hk];simp
        have hq2:(kb.toList != key.toList)=false:=by rw[hk];simp
        have HDD:Hid (D=some ⟨ps,vs,Ws⟩):=Lib.hid (by rw[HDD.out,if_pos hk])
        clear hk
        go_wp2_with (first
         | (go_at_call 22;go_must (refine CK.out.mono ?_;rintro e w5 ⟨v,rfl,rfl,hf5⟩;have HF5:=Lib.hid hf5;clear hf5 CK)))
        go_ret2
        refine⟨_,rfl,HFRi.out.trans HF5.out,?_⟩
        rw[HDD.out]
        exact⟨_,rfl,Nat.le_succ _,HST.out.frm HF5.out⟩
       ·have hq1:(kb.toList == key.toList)=false:=str_ne hk
        have hq2:(kb.toList != key.toList)=true:=by rw[bne,hq1];rfl
        have HNO:Hid (D=none):=Lib.hid (by rw[HDD.out,if_neg hk])
        clear hk HDD
        go_wp2_with (first
         | (go_at_call 22;go_must (refine CK.out.mono ?_;rintro e w5 ⟨v,rfl,rfl,hf5⟩;have HF5:=Lib.hid hf5;clear hf5 CK)))
        go_ret2
        exact⟨_,rfl,DcTo.no HNO.out (HFRi.out.trans HF5.out)⟩
end Go.Proofs.YtkphhjekfimmlaaGreat
