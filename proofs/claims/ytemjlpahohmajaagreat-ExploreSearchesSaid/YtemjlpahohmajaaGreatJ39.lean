/- Part of the proof. -/
import Derived.Test.YtemjlpahohmajaaGreatJ32
import Derived.Test.YtemjlpahohmajaaGreatJ27
import Derived.Test.YtemjlpahohmajaaGreatJ33
set_option linter.all false
namespace Go.Proofs.YtemjlpahohmajaaGreat
open Go.RowKit Go.BigFrame
open Go.RowKit in
theorem iv_row {W:World} {v:Value} {l:List Int} {n:Nat} (h:IvR W v l) (hn:l.length=n):W.ownsRow 0 3 1 v n (l.map iv):=hn ▸ h
theorem own_new {a b:World} {v u:Value} (hf:Frm [] a b) (h:∀ k,v.ownBlock=some k→u.ownBlock=some k∨b.heap.size≤k):∀ k,v.ownBlock=some k→u.ownBlock=some k∨a.heap.size≤k:=fun k hk=>(h k hk).imp id fun h=>Nat.le_trans hf.size h
theorem bank_put {w3 W:World} {bq n dc kv vc:Nat} {da av va:Option Addr} {E:Int} {xs:List Value} (hz:W.heap[bq]?=some (.cells #[.slice none 0 0,.slice none 0 0] 185 (0,0))) (hl:W.ownsRow 0 3 1 (.slice av n kv) n xs) (hf:Frm [] w3 W) (hb:w3.heap.size≤bq)
  (ho:∀ q,(Value.slice av n kv).ownBlock=some q→(Value.slice va n vc).ownBlock=some q∨w3.heap.size≤q) :
  ∃ (b:Nat) (a:Option Addr) (k:Nat),Value.pointer (some ⟨bq,0,none⟩)=.pointer (some ⟨b,0,none⟩)∧Value.int .i64 E=.int .i64 E∧((W.setCell ⟨bq,0,none⟩ (.slice da n dc)).setCell ⟨bq,1,none⟩ (.slice av n kv)).heap[b]?=some (.cells #[.slice da n dc,.slice a n k] 185 (0,0)) ∧
    ((W.setCell ⟨bq,0,none⟩ (.slice da n dc)).setCell ⟨bq,1,none⟩ (.slice av n kv)).ownsRow 0 3 1 (.slice a n k) n xs∧(∀ q,(Value.slice a n k).ownBlock=some q→(Value.slice va n vc).ownBlock=some q∨w3.heap.size≤q)∧Frm [] w3 ((W.setCell ⟨bq,0,none⟩ (.slice da n dc)).setCell ⟨bq,1,none⟩ (.slice av n kv))∧w3.heap.size≤b:=by
 have b1:=block_setCell hz 0 (.slice da n dc)
 have b2:=block_setCell b1 1 (.slice av n kv)
 have hk:Kt [185] W ((W.setCell ⟨bq,0,none⟩ (.slice da n dc)).setCell ⟨bq,1,none⟩ (.slice av n kv)):=((Kt.refl _ W).set hz (by simp) _).set b1 (by simp) _
 exact⟨bq,av,kv,rfl,rfl,b2,hk.row hl (by decide),ho,hf.then ((setFrm W _ _ _).trans (setFrm _ _ _ _)) (by intro q hq;simp at hq;subst hq;exact .inr hb),hb⟩
set_option maxHeartbeats 16000000 in
set_option maxRecDepth 100000 in
noncomputable def doS:PSigma fun P:Prop=>P→∀ (s:SesD) (sv xv:Value) (x:PS) (B:Nat) (w:World) (i k:Nat) (pl:Int),SesV w sv s→RSt B w s xv x→SesOk s→i < s.roles.length→k < (s.rol i).steps.length→Calls Tryz.prog 49 #[sv,xv,.agg #[.int .i64 1,.int .i64 (i:Nat),.int .i64 (k:Nat),.int .i64 pl]] w (RetV (DoTo w s x ⟨1,(i:Nat),(k:Nat),pl⟩)):=by
 apply PSigma.mk
 case snd =>
  intro hP
  have HP:=Lib.hid hP
  clear hP
  intro s sv xv x B w i k pl hs hx hok hi hk
  obtain⟨rv,rfl,hr⟩:=hs
  obtain⟨ao,cap,rfl⟩:=hr.shape
  have hpok:=hx.ok
  have hxx:=hx
  obtain⟨ba,bb,bw,bi,ca,cb,cw,rfl,hro,-⟩:=hx.out
  obtain⟨n,hn⟩:∃ n,s.roles.length=n:=⟨_,rfl⟩
  have h2:2≤n:=hn ▸ hok.n2
  have h4:n≤4:=hn ▸ hok.n4
  obtain⟨W0,hW0⟩:∃ W0,(((w.alloc (.cells #[.string s.name,.slice ao s.roles.length cap,.int .i64 s.cls,.int .i64 s.cap] 25)).alloc (.cells #[.slice (some ⟨ba,0,none⟩) s.roles.length ca,.slice (some ⟨bb,0,none⟩) s.roles.length cb,.slice (some ⟨bw,0,none⟩) s.roles.length cw] 125)).alloc (.cells #[.int .i64 1,.int .i64 (i:Nat),.int .i64 (k:Nat),.int .i64 pl] 129)).alloc (.cells #[.slice none 0 0,.slice none 0 0,.slice none 0 0] 125)=W0:=⟨_,rfl⟩
  have hf0:Frm [] w W0:=by rw[← hW0];exact((((Frm.refl _ _).alloc _).alloc _).alloc _).alloc _
  have hdx:DoX w s ao s.roles.length cap ba bb bw ca cb cw ⟨1,(i:Nat),(k:Nat),pl⟩ W0:=by
   rw[← hW0]
   exact⟨alloc_at (alloc_at (alloc_at (heap_alloc_new _ _))),alloc_at (alloc_at (alloc_top (by simp))),alloc_at (alloc_top (by simp)),alloc_top (by simp)⟩
  have HW0:Hid (Frm [] w W0):=Lib.hid hf0
  have HN:=Lib.hid hn;have HOK:=Lib.hid hok;have HPK:=Lib.hid hpok;have HRO:=Lib.hid hro;have HRL:=Lib.hid hr
  rw[hn] at hdx HRL
  have HDX:=Lib.hid hdx
  have HE:=Lib.hid hW0
  have CQ0:=Lib.hid (fun V hV=>qCopied_any s _ x B V (hxx.frm hV) (by rw[hn];omega) (by rw[hn];exact h4))
  have hls:w.heap.size + 3 < W0.heap.size:=lt_of_block hdx.b3
  rw[hn] at HE CQ0
  rw[hn]
  have m0:=cell_of hdx.b2 0
  have m1:=cell_of hdx.b2 1
  have m2:=cell_of hdx.b2 2
  have m3:=cell_of hdx.b2 3
  have e1:=cell_of hdx.b0 1
  clear hr hn hok hpok hro hxx hW0 hf0 hdx hx
  have r1:decide ((i:Int) < 0)=false:=decide_eq_false (by omega)
  have r2:decide ((n:Int)≤(i:Int))=false:=decide_eq_false (by rw[HN.out] at hi;omega)
  have hin:(i:Int) < (n:Int):=by rw[HN.out] at hi;omega
  have r3:decide ((k:Int) < 0)=false:=decide_eq_false (by omega)
  have HBK:=Lib.hid (bkOk_of HOK.out HPK.out hi hk)
  obtain⟨rb,ro,sv,cv,tv,rfl,hrc,h3⟩:=Rls.at (HRL.out.frm HW0.out) hi
  obtain⟨aS,cS,eS⟩:=h3.sts.shape
  obtain⟨aC,cC,eC⟩:=h3.ctrs.shape
  obtain⟨aT,cT,eT⟩:=h3.steps.shape
  subst eS eC eT
  obtain⟨nS,hnS⟩:∃ q,(s.rol i).sts.length=q:=⟨_,rfl⟩
  obtain⟨nC,hnC⟩:∃ q,(s.rol i).ctrs.length=q:=⟨_,rfl⟩
  obtain⟨nT,hnT⟩:∃ q,(s.rol i).steps.length=q:=⟨_,rfl⟩
  have HR3:=Lib.hid h3
  rw[hnS,hnC,hnT] at hrc HR3
  have HNT:=Lib.hid hnT;have HNS:=Lib.hid hnS;have HNC:=Lib.hid hnC
  have HRC:Hid (∀ V,Frm [] W0 V→(V.cell? ⟨rb,ro + i * 4,none⟩=some (.string (s.rol i).name)∧V.cell? ⟨rb,ro + i * 4 + 1,none⟩=some (.slice aS nS cS))∧V.cell? ⟨rb,ro + i * 4 + 2,none⟩=some (.slice aC nC cC)∧V.cell? ⟨rb,ro + i * 4 + 3,none⟩=some (.slice aT nT cT)):=Lib.hid fun V hV=>by
   obtain⟨d0,d1,d2,d3⟩:=hrc
   exact⟨⟨hV.keep d0,hV.keep d1⟩,hV.keep d2,hV.keep d3⟩
  clear h3 hrc hnS hnC hnT
  rw[HNT.out] at hk
  have hkT:(k:Int) < (nT:Int):=by omega
  have q4:decide ((nT:Int)≤(k:Int))=false:=decide_eq_false (by omega)
  obtain⟨t,ht⟩:∃ t,(s.rol i).stp k=t:=⟨_,rfl⟩
  obtain⟨tb,to',e1',hst⟩:=HR3.out.steps.get (RolD.stp_some (by rw[HNT.out];exact hk))
  rw[ht] at hst HBK
  subst e1'
  have HST:Hid (∀ V,Frm [] W0 V→SpAt V tb (to' + k * 9) t):=Lib.hid fun V hV=>hst.frm hV
  obtain⟨dv,vv,g0,g1,g2,g3⟩:=HRO.out.b i hi
  have CA0:=Lib.hid (fun V (hV:Frm [] w V)=>jApply_any dv vv _ _ t V ((df_arr g2).frm fun _ _ _ h=>h.frm hV) ((show IvR w vv (x.bank i) from g3.1).frm hV (by simp)) HBK.out)
  have HDV:=Lib.hid g2;have HVV:=Lib.hid g3
  obtain⟨da,dc,rfl⟩:=own_shape g2
  obtain⟨va,vc,rfl⟩:=own_shape g3.1
  have hbl:(x.bank i).length=nC:=HBK.out.l.trans HNC.out
  rw[HNC.out,hbl] at CA0
  rw[hbl] at g1 HVV
  rw[HNC.out] at g0 HDV
  obtain⟨VS,hVS⟩:∃ l,(if bankOk (s.rol i).ctrs (x.bank i) t=true then bankDo (s.rol i).ctrs (x.bank i) t else x.bank i)=l:=⟨_,rfl⟩
  obtain⟨E,hE⟩:∃ e,(if bankOk (s.rol i).ctrs (x.bank i) t=true then (0:Int) else 8)=e:=⟨_,rfl⟩
  have hvl:VS.length=nC:=by
   rw[← hVS]
   split
   ·unfold bankDo;split <;> simp[hbl]
   ·exact hbl
  rw[hVS,hE] at CA0
  have HVS:=Lib.hid hvl;have HVE:=Lib.hid hVS;have HEE:=Lib.hid hE
  have HGB:Hid (∀ V,Frm [] w V→V.cell? ⟨bb,i * 2,none⟩=some (.slice da nC dc)∧V.cell? ⟨bb,i * 2 + 1,none⟩=some (.slice va nC vc)):=Lib.hid fun V hV=>⟨hV.keep g0,hV.keep g1⟩
  have ga:=HRO.out.a i hi
  have HGA:Hid (∀ V,Frm [] w V→V.cell? ⟨ba,i,none⟩=some (.int .i64 (x.at i:Nat))):=Lib.hid fun V hV=>hV.keep ga
  have HT:=Lib.hid ht
  have HIK:=Lib.hid (And.intro hi hk)
  clear hst g0 g1 g2 g3 hbl hVS hE hvl ga ht hi hk
  go_enter Tryz.func49,Tryz.ntmps49
  go_upto_region 1 with fail
  rw[HE.out]
  clear HE
  go_upto_region 4 with (first
   | (refine wpList_load_whole rfl 125 _ rfl _ rfl _ 125 HDX.out.b1 _ Tryz.underlying125 rfl (by kernel_rfl) ?_)
   | (go_at_call 90;go_must (refine(CQ0.out _ HW0.out).mono ?_;clear CQ0;rintro e w2 ⟨yv,rfl,hy,hf2⟩;obtain⟨ya,yb,yw,yi,za,zb,zw,rfl,hyo,yl1,yl2,yl3,yl4⟩:=hy.out;have HYO:=Lib.hid hyo;have HYL:=Lib.hid (And.intro yl1 (And.intro yl2 (And.intro yl3 yl4)));have HF2:=Lib.hid hf2;clear hy hyo hf2 yl1 yl2 yl3 yl4;rw[HN.out]))
   | (refine wpList_store_row rfl 125 _ _ rfl _ _ _ _ rfl rfl (heap_alloc_new _ _) rfl (by kernel_rfl) (one3v ..) ?_;intro w3 hb3 hf3;have HB3:=Lib.hid hb3;have HF3:=Lib.hid ((HF2.out.alloc _).then hf3 (by intro q hq;simp at hq;subst hq;exact .inr HF2.out.size));have HY3:=Lib.hid (HYO.out.frm (((Frm.refl [] w2).alloc _).then hf3 (by intro q hq;simp at hq;subst hq;exact .inr (Nat.le_refl _))));clear hb3 hf3))
  obtain⟨b8,hb8⟩:∃ b,w2.heap.size=b:=⟨_,rfl⟩
  have hl8:W0.heap.size≤b8:=hb8 ▸ HF2.out.size
  rw[hb8] at HB3 ⊢
  have HYS:Hid (YSt w s b8 x w3):=Lib.hid ⟨by omega,ya,yb,yw,yi,za,zb,zw,by rw[HN.out];exact HB3.out,HY3.out,by have:=HYL.out.1;omega,by have:=HYL.out.2.1;omega,by have:=HYL.out.2.2.1;omega,fun i hi=>by have:=HYL.out.2.2.2 i hi;omega⟩
  have HDX3:=Lib.hid (HDX.out.frm HF3.out (by simp))
  have HW3:Hid (Frm [] w w3):=Lib.hid (HW0.out.trans HF3.out)
  have hls3:w.heap.size + 3 < w3.heap.size:=lt_of_block HDX3.out.b3
  clear HYO HYL HF2 HY3 hb8 m0 m1 m2 m3 e1 HDX
  have m0:=cell_of HDX3.out.b2 0
  have m1:=cell_of HDX3.out.b2 1
  have m2:=cell_of HDX3.out.b2 2
  have m3:=cell_of HDX3.out.b2 3
  have e1:=cell_of HDX3.out.b0 1
  obtain⟨⟨d0,d1⟩,d2,d3⟩:=HRC.out w3 HF3.out
  go_upto_region 11 with (first
   | (refine wpList_store_row rfl 86 _ _ rfl _ _ _ _ rfl rfl (heap_alloc_new _ _) rfl (by kernel_rfl) (by rw[← Array.all_toList];rfl) ?_;intro w4 hb4 hf4;have HB12:=Lib.hid hb4;have HF4:=Lib.hid (((Frm.refl [] w3).alloc _).then hf4 (by intro q hq;simp at hq;subst hq;exact .inr (Nat.le_refl _)));clear hb4 hf4))
  clear m0 m1 m2 m3 e1 d0 d1 d2 d3
  obtain⟨b12,hb12⟩:∃ b,w3.heap.size=b:=⟨_,rfl⟩
  rw[hb12] at HB12 ⊢
  have HDX4:=Lib.hid (HDX3.out.frm HF4.out (by simp))
  have hl12:w.heap.size + 3 < b12:=hb12 ▸ hls3
  clear hb12
  have m0:=cell_of HDX4.out.b2 0
  have m1:=cell_of HDX4.out.b2 1
  have m2:=cell_of HDX4.out.b2 2
  have m3:=cell_of HDX4.out.b2 3
  have p3:=cell_of HB12.out 3
  obtain⟨t0,t1,t2,t3,t4,t5,t6,t7,t8⟩:=HST.out w4 (HF3.out.trans HF4.out)
  go_upto_region 14 with (first
   | (refine wpList_store_row rfl 90 _ _ rfl _ _ _ _ rfl rfl (heap_alloc_new _ _) rfl (by kernel_rfl) (by rw[← Array.all_toList];rfl) ?_;intro w5 hb5 hf5;have HB13:=Lib.hid hb5;have HF5:=Lib.hid (((Frm.refl [] w4).alloc _).then hf5 (by intro q hq;simp at hq;subst hq;exact .inr (Nat.le_refl _)));clear hb5 hf5))
  clear m0 m1 m2 m3 p3 t0 t1 t2 t3 t4 t5 t6 t7 t8 q4 r1 r2 r3
  obtain⟨b13,hb13⟩:∃ b,w4.heap.size=b:=⟨_,rfl⟩
  rw[hb13] at HB13 ⊢
  have hl13:w.heap.size + 3 < b13:=by have:=HF4.out.size;omega
  have HDX5:=Lib.hid (HDX4.out.frm HF5.out (by simp))
  have HF35:Hid (Frm [] w3 w5):=Lib.hid (HF4.out.trans HF5.out)
  have HW5:Hid (Frm [] w w5):=Lib.hid (HW3.out.trans HF35.out)
  have HYS5:=Lib.hid (HYS.out.frm HF35.out)
  have HB12':=Lib.hid (HF5.out.at HB12.out (by simp))
  have HL5:Hid (w3.heap.size≤w5.heap.size):=Lib.hid HF35.out.size
  clear hb13 HDX4 HDX3 HB12 HYS hls3
  have CA:=Lib.hid (fun V (hV:Frm [] w5 V)=>CA0.out V (HW5.out.trans hV))
  have HCX:Hid (∀ V,Frm [] w5 V→(((V.cell? ⟨w.heap.size + 1,1,none⟩=some (.slice (some ⟨bb,0,none⟩) n cb)∧V.cell? ⟨w.heap.size + 2,1,none⟩=some (.int .i64 (i:Nat)))∧V.cell? ⟨bb,i * 2,none⟩=some (.slice da nC dc)∧V.cell? ⟨bb,i * 2 + 1,none⟩=some (.slice va nC vc))∧V.heap[b13]?=some (.cells #[.string t.frm,.string t.to,.int .i64 t.kind,.string t.msg,.string t.peer,.string t.ctr,.int .i64 t.low,.int .i64 t.high,.int .i64 t.add] 90 (0,0)))):=Lib.hid fun V hV=>⟨⟨⟨cell_of (hV.at HDX5.out.b1 (by simp)) 1,cell_of (hV.at HDX5.out.b2 (by simp)) 1⟩,HGB.out V (HW5.out.trans hV)⟩,hV.at HB13.out (by simp)⟩
  clear CA0
  go_upto_region 14 with fail
  try simp only[Act.put]
  go_cut [14,15] (fun s14 s15 wc=>∃ (bq:Nat) (av:Option Addr) (kv:Nat),s14=.pointer (some ⟨bq,0,none⟩)∧s15=.int .i64 E∧wc.heap[bq]?=some (.cells #[.slice da nC dc,.slice av nC kv] 185 (0,0))∧wc.ownsRow 0 3 1 (.slice av nC kv) nC (VS.map iv)∧(∀ q,(Value.slice av nC kv).ownBlock=some q→(Value.slice va nC vc).ownBlock=some q∨w5.heap.size≤q)∧Frm [] w5 wc∧w5.heap.size≤bq)
  case first =>
   refine heldL_start [] (wrSet [12,13]) (by kernel_rfl) ?_
   refine cnt 0 ?_
   iterate 7
    refine hcL ?_ ?_ ?_
    rotate_left
    ·intro w' hC
     obtain⟨⟨⟨x0,x1⟩,x2,x3⟩,hz⟩:=HCX.out w' ((Frm.refl [] w5).drew.trans hC)
     have z0:=cell_of hz 0
     have z1:=cell_of hz 1
     have z2:=cell_of hz 2
     have z3:=cell_of hz 3
     have z4:=cell_of hz 4
     have z5:=cell_of hz 5
     have z6:=cell_of hz 6
     have z7:=cell_of hz 7
     have z8:=cell_of hz 8
     clear hz
     clear hC
     go_simp
     try rfl
    try simp only[nrm,Nat.reduceAdd]
   refine tcn ?_
   obtain⟨wd,hwd⟩:∃ wd,w5.drew=wd:=⟨_,rfl⟩
   have hfd:Frm [] w5 wd:=by rw[← hwd];exact(Frm.refl _ _).drew
   rw[hwd]
   clear hwd
   refine heldL_all (rs:=[7,11]) (by kernel_rfl) (by simp) (allL_cons ?_ (allL_cons ?_ allL_nil))
   ·skip
    refine heldL_step (i:=7) rfl rfl (by rfl) (fun K' hK'=>?_)
    go_simp
    (refine(CA.out _ hfd).mono ?_;rintro e w6 ⟨u,rfl,vv',rfl,hl',hf5,hown⟩;have hl':=iv_row hl' HVS.out;obtain⟨av,kv,rfl⟩:=own_shape hl';replace hown:=own_new hfd hown)
    refine hK'.out _ _ (hf5) ?_
    clear hK' K'
    try simp only[nrm]
    refine cnt 8 ?_
    iterate 3
     refine hcP ?_ ?_ ?_
     rotate_left
     ·intro w'
      go_simp
      try rfl
     try simp only[nrm,Nat.reduceAdd]
    refine tcn ?_
    refine honL 11 ?_
    refine heldL_step (i:=11) rfl rfl (by rfl) (fun K' hK'=>?_)
    go_simp
    (skip)
    refine hK'.out _ _ ((Frm.refl _ _).alloc _) ?_
    clear hK' K'
    try simp only[nrm]
    obtain⟨bq,hbq⟩:∃ b,w6.heap.size=b:=⟨_,rfl⟩
    have hz:=heap_alloc_new w6 (.cells #[.slice none 0 0,.slice none 0 0] 185)
    have hf6:Frm [] w5 (w6.alloc (.cells #[.slice none 0 0,.slice none 0 0] 185)):=(hfd.trans hf5).alloc _
    have hl6:=hl'.alloc (.cells #[.slice none 0 0,.slice none 0 0] 185)
    obtain⟨w8,hw8⟩:∃ X,w6.alloc (.cells #[.slice none 0 0,.slice none 0 0] 185)=X:=⟨_,rfl⟩
    rw[hw8,hbq] at hz ⊢
    rw[hw8] at hf6 hl6
    have hbl:w5.heap.size≤bq:=hbq ▸ (hfd.trans hf5).size
    clear hw8 hbq
    have f0:=free_of hz 0
    have f1:=free_of hz 1
    have y0:=cell_of hz 0
    have y1:=cell_of hz 1
    have HZ:=Lib.hid hz
    have HL6:=Lib.hid hl6
    have HF6:=Lib.hid hf6
    have HBL:=Lib.hid hbl
    have HOWN:=Lib.hid hown
    clear hz hl6 hf6 hl' hf5 hfd hbl hown
    refine honL 12 ?_
    refine heldL_write (i:=12) rfl (by rfl) (by rfl) (fun K' hK'=>?_)
    go_simp
    (skip)
    refine hK'.out _ _ ?_
    clear hK' K'
    try simp only[nrm]
    refine honL 13 ?_
    refine heldL_write (i:=13) rfl (by rfl) (by rfl) (fun K' hK'=>?_)
    go_simp
    (skip)
    refine hK'.out _ _ ?_
    clear hK' K'
    try simp only[nrm]
    refine heldL_done (by kernel_rfl) ?_ _
    go_wp2
    go_meet
    exact bank_put HZ.out HL6.out HF6.out HBL.out HOWN.out
   ·skip
    refine heldL_step (i:=11) rfl rfl (by rfl) (fun K' hK'=>?_)
    go_simp
    (skip)
    refine hK'.out _ _ ((Frm.refl _ _).alloc _) ?_
    clear hK' K'
    try simp only[nrm]
    obtain⟨bq,hbq⟩:∃ b,wd.heap.size=b:=⟨_,rfl⟩
    have hz0:=heap_alloc_new wd (.cells #[.slice none 0 0,.slice none 0 0] 185)
    obtain⟨w4,hw4⟩:∃ X,wd.alloc (.cells #[.slice none 0 0,.slice none 0 0] 185)=X:=⟨_,rfl⟩
    have hf4:Frm [] w5 w4:=by rw[← hw4];exact hfd.alloc _
    rw[hw4,hbq] at hz0 ⊢
    have hbl:w5.heap.size≤bq:=hbq ▸ hfd.size
    clear hw4 hbq
    refine honL 7 ?_
    refine heldL_step (i:=7) rfl rfl (by rfl) (fun K' hK'=>?_)
    go_simp
    (refine(CA.out _ hf4).mono ?_;rintro e w8 ⟨u,rfl,vv',rfl,hl',hf5,hown⟩;have hl':=iv_row hl' HVS.out;obtain⟨av,kv,rfl⟩:=own_shape hl';replace hown:=own_new hf4 hown)
    refine hK'.out _ _ (hf5) ?_
    clear hK' K'
    try simp only[nrm]
    refine cnt 8 ?_
    iterate 3
     refine hcP ?_ ?_ ?_
     rotate_left
     ·intro w'
      go_simp
      try rfl
     try simp only[nrm,Nat.reduceAdd]
    refine tcn ?_
    have hz:=hf5.at hz0 (by simp)
    have hf6:=hf4.trans hf5
    have hl6:=hl'
    have f0:=free_of hz 0
    have f1:=free_of hz 1
    have y0:=cell_of hz 0
    have y1:=cell_of hz 1
    have HZ:=Lib.hid hz
    have HL6:=Lib.hid hl6
    have HF6:=Lib.hid hf6
    have HBL:=Lib.hid hbl
    have HOWN:=Lib.hid hown
    clear hz hl6 hf6 hl' hf5 hfd hbl hown
    refine honL 12 ?_
    refine heldL_write (i:=12) rfl (by rfl) (by rfl) (fun K' hK'=>?_)
    go_simp
    (skip)
    refine hK'.out _ _ ?_
    clear hK' K'
    try simp only[nrm]
    refine honL 13 ?_
    refine heldL_write (i:=13) rfl (by rfl) (by rfl) (fun K' hK'=>?_)
    go_simp
    (skip)
    refine hK'.out _ _ ?_
    clear hK' K'
    try simp only[nrm]
    refine heldL_done (by kernel_rfl) ?_ _
    go_wp2
    go_meet
    exact bank_put HZ.out HL6.out HF6.out HBL.out HOWN.out
  case rest =>
   obtain⟨b14,av,kv,rfl,rfl,hb14,ho14,hn14,hf14,hl14⟩:=hcut
   have HB14:=Lib.hid hb14;have HO14:=Lib.hid ho14;have HN14:=Lib.hid hn14;have HF14:=Lib.hid hf14
   clear hb14 ho14 hn14 hf14 CA HCX
   rename_i z0_ z1_ z2_ z3_ z4_
   revert s x B w i k pl cap ba bb bw bi ca cb cw n h2 h4 W0 HW0 HN HOK HPK HRO hls hin rb ro HRL aS cS aC cC cT nS nC nT HNT HNS HNC hkT t HBK tb to' HR3 HRC HST da dc HDV va vc HVV VS E HVS HVE HEE HGB HGA HT HIK z0_ z1_ w2 ya yb yw yi za zb zw w3 HF3 b8 HB3 hl8 HW3 w4 HF4 b12 hl12 z2_ w5 HF5 z3_ z4_ b13 HB13 hl13 HDX5 HF35 HW5 HYS5 HB12' HL5 wc u22 u23 u24 u25 u26 u27 u28 u29 u30 u31 u32 u33 u34 u35 u36 u37 u38 u39 u40 u41 u42 u43 u44 u45 u46 u47 u48 u49 u50 u51 u52 u53 u54 u55 u56 u57 u58 u59 u60 u61 u62 u63 u64 u65 u66 u67 u68 u69 u70 u71 u72 u73 u74 u75 u76 u77 u78 u79 u80 u81 u82 u83 u84 u85 u86 u87 u88 u89 u90 u91 u92 u93 u94 u95 u96 u97 u98 u99 u100 u101 u102 u103 u104 u105 u106 u107 u108 u109 u110 u111 u112 u113 u114 u115 u116 u117 u118 u119 u120 u121 u122 u123 u124 u125 u126 u127 u128 u129 u130 u131 u132 u133 u134 u135 u136 u137 u138 u139 u140 u141 u142 u143 u144 u145 u146 u147 u148 u149 u150 u151 u152 u153 u154 u155 u156 u157 u158 u159 u160 u161 u162 u163 u164 u165 u166 u167 u168 u169 u170 u171 u172 u173 u174 u175 u176 u177 u178 u179 u180 u181 u182 u183 u184 u185 u186 u187 u188 u189 u190 u191 u192 u193 u194 u195 u196 u197 u198 u199 u200 u201 u202 u203 u204 u205 u206 u207 u208 u209 u210 u211 u212 u213 u214 u215 u216 u217 u218 u219 u220 u221 u222 u223 u224 u225 u226 u227 u228 u229 u230 u231 u232 u233 u234 u235 u236 b14 av kv hl14 HB14 HO14 HN14 HF14
   exact HP.out
end Go.Proofs.YtemjlpahohmajaaGreat
