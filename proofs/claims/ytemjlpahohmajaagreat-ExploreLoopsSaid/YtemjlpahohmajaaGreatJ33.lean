/- Part of the proof. -/
import Derived.Test.YtemjlpahohmajaaGreatJ32
import Derived.Test.YtemjlpahohmajaaGreatJ29
import Derived.Test.YtemjlpahohmajaaGreatJ16
set_option linter.all false
namespace Go.Proofs.YtemjlpahohmajaaGreat
open Go.RowKit Go.BigFrame
theorem wp_cloneO {α:Type} {k:Nat} {At:World→Nat→Nat→α→Prop} {t e:TypeId} {z:Value} {bytes:Nat} {o:Oper} {a:Act} {K:Act→World→Prop} {Q:Exit→Act→World→Prop} {w:World} (s x:Operand)
  (ho:o.op=.call { callee:=.builtin .append,args:=#[s,x],argTypes:=#[t,t] }) {d:Nat} (hs:a.eval s=.slice (some ⟨d,0,none⟩) 0 0) {ao:Option Addr} {n cap:Nat} (hx:a.eval x=.slice ao n cap)
  (ht:Tryz.prog.underlying t=some (.slice e)) (hi:(Tryz.prog.info? e).map (fun i=>(i.zero,i.size,i.bytes))=some (some z,k,bytes)) (hzs:z.cells.size=k) (hk:0 < k) (hb:bytes≤1000) (hM:Movable k At) {xs:List α} (hn:xs.length=n)
  (h:Arr k At w (.slice ao n cap) xs) (hl:n≤100000) (hd:w.heap[d]?=some (.cells #[] e (0,0)))
  (hK:∀ ao' cap' w',Arr k At w' (.slice ao' n cap') xs→Frm [] w w'→(∃ news,w'.ownsRow d e k (.slice ao' n cap') n news)→K (a.put o.dst (.slice ao' n cap')) w'):Oper.wp Tryz.prog o a w K Q:=by
 subst hn
 obtain⟨ao',cap',w',hrun,r1,r2,r3⟩:=clone_own (ty:=o.type) (d:=d) ht hi hzs hk hb hM h hl hd
 unfold Oper.wp
 simp[execOp,ho,resolve,invoke,builtin,hs,hx,hrun,Result.andThen]
 exact hK ao' cap' w' r1 r2 r3
structure FrR {α:Type} (k:Nat) (e:TypeId) (At:World→Nat→Nat→α→Prop) (B:Nat) (n:Nat) (xs:List α) (v:Value) (X:World):Prop where
 arr:Arr k At X v xs
 own:∃ news,X.ownsRow B e k v n news
theorem FrR.frm {α:Type} {k:Nat} {e:TypeId} {At:World→Nat→Nat→α→Prop} {B n:Nat} {xs:List α} {v:Value} {X Y:World} (h:FrR k e At B n xs v X) (hA:∀ b o y,At X b o y→At Y b o y) (hf:Frm [] X Y):FrR k e At B n xs v Y:=by
 obtain⟨news,ho⟩:=h.own
 exact⟨h.arr.frm fun b o y=>hA b o y,news,hf.owns ho (by simp)⟩
theorem FrR.kt {α:Type} {k:Nat} {e:TypeId} {At:World→Nat→Nat→α→Prop} {B n:Nat} {xs:List α} {v:Value} {X Y:World} {T:List TypeId} (h:FrR k e At B n xs v X) (hA:∀ b o y,v.ownBlock=some b→Y.heap[b]?=X.heap[b]?→At X b o y→At Y b o y) (hk:Kt T X Y) (he:e∉T):FrR k e At B n xs v Y:=by
 obtain⟨news,ho⟩:=h.own
 refine⟨?_,news,hk.row ho he⟩
 obtain⟨ao,c,rfl,hx⟩:=h.arr
 refine⟨ao,c,rfl,fun i y hy=>?_⟩
 obtain⟨b,o,rfl,ha⟩:=hx i y hy
 obtain⟨cur,hc⟩:=ownBlock_type ho rfl
 exact⟨b,o,rfl,hA _ _ _ rfl ((hk.cells hc he).trans hc.symm) ha⟩
theorem Tryz.infoRc:(Tryz.prog.info? 188).map (fun i=>(i.zero,i.size,i.bytes))=some (some (.slice none 0 0),1,24):=by kernel_rfl
theorem setCells_kt:∀ (vs:List Value) (o:Nat) (w:World) (b:Nat) (c:Array Value) (t:TypeId),w.heap[b]?=some (.cells c t (0,0))→Kt [t] w (w.setCells b o vs)
 | [],_,w,_,_,t,_=>Kt.refl [t] w
 | v :: vs,o,w,b,c,t,h=>((Kt.refl [t] w).set h (by simp) v).trans (setCells_kt vs (o + 1) (w.setCell ⟨b,o,none⟩ v) b _ t (block_setCell h o v))
theorem wpList_store_rowK {P:Program} {ops:Array Oper} {rest:List Oper} {o:Oper} {a:Act} {Q:Exit→Act→World→Prop} {w:World} (hgd:o.guard=none) (ty:TypeId) (x y:Operand) (ho:o.op=.store ty x y) (b:Nat) (A C:Array Value) (t:TypeId) (hx:a.eval x=.pointer (some ⟨b,0,none⟩)) (hy:a.eval y=.agg A)
  (hb:w.heap[b]?=some (.cells C t (0,0))) (hs:A.size=C.size) (hi:(P.info? ty).map (·.size)=some A.size) (h1:A.all (·.oneCell')=true)
  (h:∀ w',w'.heap[b]?=some (.cells A t (0,0))→Frm [b] w w'→Kt [t] w w'→wpList P ops Q rest (a.put o.dst undef) w'):wpList P ops Q (o :: rest) a w:=by
 have hw:=setCells_whole hb A hs
 refine wpList_store_mid hgd ty x y ho b 0 A hx hy (fun j hj=>⟨?_,?_⟩) hi h1 (h _ hw.1 hw.2 (setCells_kt _ _ _ _ _ _ hb))
 ·rw[Nat.zero_add,cell_of hb];simp[show j < C.size by omega]
 ·rw[Nat.zero_add];exact free_of hb j
theorem one3v (a b c:Option Addr) (n m l p q r:Nat):(#[.slice a n p,.slice b m q,.slice c l r]:Array Value).all (·.oneCell')=true:=by
 rw[← Array.all_toList];rfl
structure QC (w W0:World) (s:SesD) (x:PS) (ob:Nat) (A Bv:Value) (i:Nat) (W:World):Prop where
 fr:Frm [] W0 W
 lo:W0.heap.size≤ob
 a:FrR 1 3 IAt W0.heap.size s.roles.length (posL s x) A W
 b:FrR 2 185 (RbAt w) W0.heap.size s.roles.length (bnkL s x) Bv W
 bx:∃ aw cw bi,W.heap[ob]?=some (.cells #[A,Bv,.slice aw i cw] 125 (0,0))∧WyR W0.heap.size i s.roles.length bi (.slice aw i cw) W∧RW W0.heap.size s x i bi W
theorem IAt.eq {X Y:World} {b o:Nat} {y:Int} (h:IAt X b o y) (e:Y.heap[b]?=X.heap[b]?):IAt Y b o y:=cell_eq h e
theorem RbAt.eq {w X Y:World} {b o:Nat} {y:List CtrD × List Int} (h:RbAt w X b o y) (e:Y.heap[b]?=X.heap[b]?):RbAt w Y b o y:=by
 obtain⟨dv,vv,h0,h1,h2⟩:=h
 exact⟨dv,vv,cell_eq h0 e,cell_eq h1 e,h2⟩
theorem QC.start {w W0 X Y:World} {s:SesD} {x:PS} {ob:Nat} {A Bv:Value} (hf:Frm [] W0 X) (hlo:W0.heap.size≤ob) (ha:FrR 1 3 IAt W0.heap.size s.roles.length (posL s x) A X) (hb:FrR 2 185 (RbAt w) W0.heap.size s.roles.length (bnkL s x) Bv X)
  (h9:X.heap[ob]?=some (.cells #[.slice none 0 0,.slice none 0 0,.slice none 0 0] 125 (0,0))) (e:((X.setCell ⟨ob,0,none⟩ A).setCell ⟨ob,1,none⟩ Bv).setCell ⟨ob,2,none⟩ (.slice none 0 0)=Y):QC w W0 s x ob A Bv 0 Y:=by
 have b1:=block_setCell h9 0 A
 have b2:=block_setCell b1 1 Bv
 have b3:=block_setCell b2 2 (.slice none 0 0)
 have hF:Frm [ob] X Y:=by rw[← e];exact((setFrm X _ _ _).trans (setFrm _ _ _ _)).trans (setFrm _ _ _ _)
 have hK:Kt [125] X Y:=by rw[← e];exact(((Kt.refl _ X).set h9 (by simp) _).set b1 (by simp) _).set b2 (by simp) _
 rw[e] at b3
 exact⟨hf.then hF (by intro k hk;simp at hk;subst hk;exact .inr hlo),hlo,ha.kt (fun _ _ _ _ e h=>h.eq e) hK (by decide),hb.kt (fun _ _ _ _ e h=>h.eq e) hK (by decide),none,0,fun _=>0,b3,⟨[],World.ownsRow_nil _ _ _ _,fun j hj=>by omega⟩,RW.zero _ _ _ _ _⟩
theorem RcAt.up {cls cap:Int} {w V X:World} {b o:Nat} {L:List ByteArray} (h:RcAt cls cap w X b o L) (hf:Frm [] w V):RcAt cls cap V X b o L:=by
 obtain⟨lv,h0,h1,h2,h3⟩:=h
 exact⟨lv,h0,h1,h2,h3.frm hf (by simp)⟩
theorem RcAt.eq {cls cap:Int} {w X Y:World} {b o:Nat} {L:List ByteArray} (h:RcAt cls cap w X b o L) (e:Y.heap[b]?=X.heap[b]?):RcAt cls cap w Y b o L:=by
 obtain⟨lv,h0,h1,h2,h3⟩:=h
 exact⟨lv,cell_eq h0 e,cell_eq h1 e,cell_eq h2 e,h3⟩
theorem RbAt.up {w V X:World} {b o:Nat} {y:List CtrD × List Int} (h:RbAt w X b o y) (hf:Frm [] w V):RbAt V X b o y:=by
 obtain⟨dv,vv,h0,h1,h2,h3⟩:=h
 exact⟨dv,vv,h0,h1,h2.frm hf (by simp),h3.frm hf (by simp)⟩
theorem QC.step {w W0 W X Y Z:World} {s:SesD} {x:PS} {ob i g c:Nat} {A Bv v':Value} {aw:Option Addr} {cw:Nat} {bi:Nat→Nat} {ws:List Value} (h:QC w W0 s x ob A Bv i W) (hw0:Frm [] w W0)
  (hbx:W.heap[ob]?=some (.cells #[A,Bv,.slice aw i cw] 125 (0,0))) (how:W.ownsRow W0.heap.size 188 1 (.slice aw i cw) i ws) (hws:∀ j,j < i→∃ c,ws[j]?=some (.slice (some ⟨bi j,0,none⟩) s.roles.length c)) (hrw:RW W0.heap.size s x i bi W)
  (hf:Frm [] W X) (hg:W.heap.size≤g) (hty:Ty X g 190) (hrow:Arr 3 (RcAt s.cls s.cap w) X (.slice (some ⟨g,0,none⟩) s.roles.length c) (rowL s x i)) (hgr:X.grownBy Y (Value.slice aw i cw).ownBlock)
  (ho:Y.ownsRow W0.heap.size 188 1 v' (i + 1) (ws ++ [.slice (some ⟨g,0,none⟩) s.roles.length c])) (e:Y.setCell ⟨ob,2,none⟩ v'=Z):QC w W0 s x ob A Bv (i + 1) Z:=by
 obtain⟨a',c',rfl⟩:=own_shape ho
 have hX:=hf.at hbx (by simp)
 have hk1:Kt [188] X Y:=Kt.own (hf.owns how (by simp)) hgr
 have hY:=hk1.cells hX (by decide)
 have b1:=block_setCell hY 2 (.slice a' (i + 1) c')
 have hk2:Kt [125] Y Z:=by rw[← e];exact(Kt.refl _ Y).set hY (by simp) _
 have hXZ:Kt [125,188] X Z:=(hk1.mono (by simp)).trans (hk2.mono (by simp))
 have hK:Kt [125,188] W Z:=(Kt.frm hf).trans hXZ
 have hF:Frm [ob] Y Z:=by rw[← e];exact setFrm _ _ _ _
 rw[e] at b1
 have hY0:Frm [] W0 Y:=(h.fr.trans hf).grown hgr (fun k hk=>.inr (ownBlock_ge how hk))
 have hZ0:Frm [] W0 Z:=hY0.then hF (by intro k hk;simp at hk;subst hk;exact .inr h.lo)
 have hwX:=(h.fr.trans hf).size
 refine⟨hZ0,h.lo,h.a.kt (fun _ _ _ _ e h=>h.eq e) hK (by decide),h.b.kt (fun _ _ _ _ e h=>h.eq e) hK (by decide),a',c',_,b1,(WyR.add how hws ho).kt hk2 (by decide),(hrw.kt hK (by decide) (by decide)).add (n:=s.roles.length) (c:=c) (hXZ.ty hty (by decide)) (Nat.le_trans h.fr.size hg) (fun j hj e=>by have:=(hrw.ti j hj).1.lt;omega) ?_⟩
 obtain⟨ao,cc,e1,hx⟩:=hrow
 injection e1 with e2 e3 e4
 refine⟨_,_,congrArg (fun n=>Value.slice _ n _) e3,fun k y hy=>?_⟩
 obtain⟨b,o,e5,ha⟩:=hx k y hy
 rw[← e2] at e5
 cases e5
 obtain⟨cur,hc⟩:=hty
 exact⟨g,0,rfl,(ha.eq ((hXZ.cells hc (by decide)).trans hc.symm)).up (hw0.trans hZ0)⟩
theorem QC.end {w W0 W Z:World} {s:SesD} {x:PS} {ob rb:Nat} {A Bv:Value} {aw:Option Addr} {cw:Nat} {C:Array Value} (h:QC w W0 s x ob A Bv s.roles.length W) (hw0:Frm [] w W0) (hn:0 < s.roles.length) (hok:PSok s x) (hbx:W.heap[ob]?=some (.cells #[A,Bv,.slice aw s.roles.length cw] 125 (0,0)))
  (hrb:W.heap[rb]?=some (.cells C 125 (0,0))) (hr:w.heap.size≤rb) (hf:Frm [rb] W Z) (hk:Kt [125] W Z):RSt w.heap.size Z s (.agg #[A,Bv,.slice aw s.roles.length cw]) x∧Frm [] w Z:=by
 have hwZ:Frm [] w Z:=(hw0.trans h.fr).then hf (by intro k hk;simp at hk;subst hk;exact .inr hr)
 refine⟨?_,hwZ⟩
 obtain⟨aw',cw',bi,b1,b2,b3⟩:=h.bx
 rw[hbx] at b1
 injection b1 with b1
 injection b1 with b1
 have b1:Value.slice aw s.roles.length cw=Value.slice aw' s.roles.length cw':=by injection (congrArg Array.toList b1) with _ b1;injection b1 with _ b1;injection b1
 rw[← b1] at b2
 have hA:=h.a.kt (fun _ _ _ _ e h=>h.eq e) hk (by decide)
 have hB:=h.b.kt (fun _ _ _ _ e h=>h.eq e) hk (by decide)
 obtain⟨na,oa⟩:=hA.own
 obtain⟨nb,ob'⟩:=hB.own
 obtain⟨ga,ca,cua,rfl,ga1,ga2⟩:=own_block oa (by omega)
 obtain⟨gb,cb,cub,rfl,gb1,gb2⟩:=own_block ob' (by omega)
 refine(RSt.mk' (B:=W0.heap.size) hn hok hA.arr (fun k hk=>?_) ⟨_,_,rfl⟩ (hB.arr.imp fun _ _ _ h=>h.up hwZ) (fun k hk=>?_) ⟨_,_,rfl⟩ (b2.kt hk (by decide)) (b3.kt hk (by decide) (by decide)) ?_).low hw0.size
 ·simp[Value.ownBlock] at hk;subst hk;exact⟨ga1,_,ga2⟩
 ·simp[Value.ownBlock] at hk;subst hk;exact⟨gb1,_,gb2⟩
 ·intro i b o vv hi hb ho hv k hk hka
  simp[Value.ownBlock] at hb hka
  subst hb ho hka
  have hy:(bnkL s x)[i]?=some ((s.rol i).ctrs,x.bank i):=by unfold bnkL;rw[List.getElem?_map,List.getElem?_range hi];rfl
  obtain⟨b,o,e,dv,vv',q0,q1,q2,q3⟩:=hB.arr.get hy
  cases e
  rw[Nat.zero_add,hv] at q1
  cases q1
  have:=ownBlock_lt q3 hk
  have:=hw0.size
  omega
set_option maxHeartbeats 16000000 in
set_option maxRecDepth 100000 in
theorem qCopied_any (s:SesD) (v:Value) (x:PS) (B:Nat) (w:World) (h:RSt B w s v x) (h1:1≤s.roles.length) (h4:s.roles.length≤4):Calls Tryz.prog 90 #[v] w (RetV fun u w'=>RSt w.heap.size w' s u x∧Frm [] w w'):=by
 have hpok:=h.ok
 obtain⟨ba,bb,bw,bi,ca,cb,cw,rfl,hro,-⟩:=h.out
 obtain⟨n,hn⟩:∃ n,s.roles.length=n:=⟨_,rfl⟩
 obtain⟨W0,hW0⟩:∃ W0,(w.alloc (.cells #[.slice (some ⟨ba,0,none⟩) s.roles.length ca,.slice (some ⟨bb,0,none⟩) s.roles.length cb,.slice (some ⟨bw,0,none⟩) s.roles.length cw] 125)).alloc (.cells #[.slice none 0 0,.slice none 0 0,.slice none 0 0] 125)=W0:=⟨_,rfl⟩
 have HF:Hid (Frm [] w W0):=Lib.hid (by rw[← hW0];exact((Frm.refl _ _).alloc _).alloc _)
 have hb1:W0.heap[w.heap.size]?=some (.cells #[.slice (some ⟨ba,0,none⟩) s.roles.length ca,.slice (some ⟨bb,0,none⟩) s.roles.length cb,.slice (some ⟨bw,0,none⟩) s.roles.length cw] 125 (0,0)):=by rw[← hW0];exact alloc_at (heap_alloc_new _ _)
 have HR:Hid (W0.heap[w.heap.size + 1]?=some (.cells #[.slice none 0 0,.slice none 0 0,.slice none 0 0] 125 (0,0))):=Lib.hid (by rw[← hW0];exact alloc_top (by simp))
 have hpo:=hro.posA ca;have hbo:=hro.bnkA cb
 have HWR:Hid (∀ i,i < n→∃ c,w.cell? ⟨bw,i,none⟩=some (.slice (some ⟨bi i,0,none⟩) n c)):=Lib.hid (by rw[← hn];exact hro.w)
 have hrow:∀ i c,i < n→Arr 3 (RcAt s.cls s.cap w) w (.slice (some ⟨bi i,0,none⟩) n c) (rowL s x i):=fun i c hi=>by rw[← hn] at hi ⊢;exact hro.rowA hi c
 have HROW:=Lib.hid hrow
 rw[hn] at h1 h4 hb1 hpo hbo
 have HB1:=Lib.hid hb1;have HPO:=Lib.hid hpo;have HBO:=Lib.hid hbo
 have HN:=Lib.hid hn;have HE:=Lib.hid hW0;have HRO:=Lib.hid hro;have HPK:=Lib.hid hpok
 have HLP:Hid ((posL s x).length=n):=Lib.hid (by rw[posL_len,hn])
 have HLB:Hid ((bnkL s x).length=n):=Lib.hid (by rw[bnkL_len,hn])
 rw[hn]
 rw[hn] at HE
 have hlw:w.heap.size < W0.heap.size:=lt_of_block hb1
 clear h hro hb1 hpo hbo hrow hn hW0 hpok
 go_enter Tryz.func90,Tryz.ntmps90
 go_upto_region 1 with fail
 rw[HE.out]
 clear HE
 go_cut [3] (fun s3 wc=>∃ (ro:Nat) (aA aB:Option Addr) (kA kB:Nat),s3=.pointer (some ⟨ro,0,none⟩)∧QC w W0 s x ro (.slice aA n kA) (.slice aB n kB) 0 wc)
 case first =>
  refine heldL_start [] (wrFrom 10) (by kernel_rfl) ?_
  refine cnt 1 ?_
  iterate 2
   refine hcL ?_ ?_ ?_
   rotate_left
   ·intro w' hC
    have hz:=(Frm.refl [] W0).drew.trans hC |>.at HB1.out (by simp)
    have z0:=cell_of hz 0
    have z1:=cell_of hz 1
    clear hz
    clear hC
    go_simp
    try rfl
   try simp only[nrm,Nat.reduceAdd]
  refine tcn ?_
  refine cnt 5 ?_
  iterate 2
   refine hcL ?_ ?_ ?_
   rotate_left
   ·intro w' hC
    have hz:=(Frm.refl [] W0).drew.trans hC |>.at HB1.out (by simp)
    have z0:=cell_of hz 0
    have z1:=cell_of hz 1
    clear hz
    clear hC
    go_simp
    try rfl
   try simp only[nrm,Nat.reduceAdd]
  refine tcn ?_
  have hfr:Frm [] W0 W0.drew:=(Frm.refl _ _).drew
  generalize W0.drew=wd at hfr ⊢
  repeat' (first
   | (refine htL 8 ?_ ?_ ?_ (hb:=by decide +kernel);rotate_left;(focus (intro w' hC;clear hC;go_simp;try rfl));try simp only[nrm])
   | refine heldL_all (rs:=[3,4,9]) (by decide +kernel) (by simp) (allL_cons ?_ (allL_cons ?_ (allL_cons ?_ allL_nil)))
   | refine heldL_all (rs:=[0,4,9]) (by decide +kernel) (by simp) (allL_cons ?_ (allL_cons ?_ (allL_cons ?_ allL_nil)))
   | refine heldL_all (rs:=[0,4]) (by decide +kernel) (by simp) (allL_cons ?_ (allL_cons ?_ allL_nil))
   | refine heldL_all (rs:=[3,4]) (by decide +kernel) (by simp) (allL_cons ?_ (allL_cons ?_ allL_nil))
   | refine heldL_all (rs:=[4,9]) (by decide +kernel) (by simp) (allL_cons ?_ (allL_cons ?_ allL_nil))
   | refine heldL_all (rs:=[0,9]) (by decide +kernel) (by simp) (allL_cons ?_ (allL_cons ?_ allL_nil))
   | refine heldL_all (rs:=[7,9]) (by decide +kernel) (by simp) (allL_cons ?_ (allL_cons ?_ allL_nil))
   | refine heldL_all (rs:=[3,9]) (by decide +kernel) (by simp) (allL_cons ?_ (allL_cons ?_ allL_nil))
   | refine heldL_all (rs:=[4]) (by decide +kernel) (by simp) (allL_cons ?_ allL_nil)
   | refine heldL_all (rs:=[7]) (by decide +kernel) (by simp) (allL_cons ?_ allL_nil)
   | refine heldL_all (rs:=[0]) (by decide +kernel) (by simp) (allL_cons ?_ allL_nil)
   | refine heldL_all (rs:=[3]) (by decide +kernel) (by simp) (allL_cons ?_ allL_nil)
   | refine heldL_all (rs:=[9]) (by decide +kernel) (by simp) (allL_cons ?_ allL_nil)
   | (refine heldL_step (i:=0) rfl rfl (by rfl) (fun K' hK'=>?_)
      go_simp
      refine hK'.out _ _ ((Frm.refl _ _).alloc _) ?_
      clear hK' K'
      try simp only[nrm]
      have hl0:=hfr.size
      have h0:=heap_alloc_new wd (.cells #[] 3)
      have hf:Frm [] wd (wd.alloc (.cells #[] 3)):=(Frm.refl _ _).alloc _
      generalize wd.alloc (.cells #[] 3)=wx at h0 hf ⊢
      generalize wd.heap.size=ra at hl0 h0 ⊢
      try replace h0:=hf.at h0 (by simp)
      try replace h4:=hf.at h4 (by simp)
      try replace h9:=hf.at h9 (by simp)
      try replace hA:=hA.frm (fun _ _ _ h=>hf.keep h) hf
      try replace hB:=hB.frm (fun _ _ _ h=>RbAt.frm h hf) hf
      replace hfr:=hfr.trans hf
      clear hf
      obtain⟨wd,e⟩:∃ q,q=wx:=⟨_,rfl⟩
      subst e)
   | (refine heldL_step (i:=4) rfl rfl (by rfl) (fun K' hK'=>?_)
      go_simp
      refine hK'.out _ _ ((Frm.refl _ _).alloc _) ?_
      clear hK' K'
      try simp only[nrm]
      have hl4:=hfr.size
      have h4:=heap_alloc_new wd (.cells #[] 185)
      have hf:Frm [] wd (wd.alloc (.cells #[] 185)):=(Frm.refl _ _).alloc _
      generalize wd.alloc (.cells #[] 185)=wx at h4 hf ⊢
      generalize wd.heap.size=rb at hl4 h4 ⊢
      try replace h0:=hf.at h0 (by simp)
      try replace h4:=hf.at h4 (by simp)
      try replace h9:=hf.at h9 (by simp)
      try replace hA:=hA.frm (fun _ _ _ h=>hf.keep h) hf
      try replace hB:=hB.frm (fun _ _ _ h=>RbAt.frm h hf) hf
      replace hfr:=hfr.trans hf
      clear hf
      obtain⟨wd,e⟩:∃ q,q=wx:=⟨_,rfl⟩
      subst e)
   | (refine heldL_step (i:=9) rfl rfl (by rfl) (fun K' hK'=>?_)
      go_simp
      refine hK'.out _ _ ((Frm.refl _ _).alloc _) ?_
      clear hK' K'
      try simp only[nrm]
      have hl9:=hfr.size
      have h9:=heap_alloc_new wd (.cells #[.slice none 0 0,.slice none 0 0,.slice none 0 0] 125)
      have hf:Frm [] wd (wd.alloc (.cells #[.slice none 0 0,.slice none 0 0,.slice none 0 0] 125)):=(Frm.refl _ _).alloc _
      generalize wd.alloc (.cells #[.slice none 0 0,.slice none 0 0,.slice none 0 0] 125)=wx at h9 hf ⊢
      generalize wd.heap.size=ro at hl9 h9 ⊢
      try replace h0:=hf.at h0 (by simp)
      try replace h4:=hf.at h4 (by simp)
      try replace h9:=hf.at h9 (by simp)
      try replace hA:=hA.frm (fun _ _ _ h=>hf.keep h) hf
      try replace hB:=hB.frm (fun _ _ _ h=>RbAt.frm h hf) hf
      replace hfr:=hfr.trans hf
      clear hf
      obtain⟨wd,e⟩:∃ q,q=wx:=⟨_,rfl⟩
      subst e)
   | (refine heldL_step (i:=3) rfl rfl (by rfl) (fun K' hK'=>?_)
      refine wp_cloneO (k:=1) (At:=IAt) (t:=36) (e:=3) (z:=.int .i64 0) (bytes:=8) _ _ rfl rfl rfl Tryz.underlying36 (by kernel_rfl) rfl (by decide) (by decide) IAt.mov HLP.out (HPO.out.frm fun _ _ _ h=>(HF.out.trans hfr).keep h) (by omega) h0 ?_
      intro a3 c3 wx hr hf ho
      have hA:FrR 1 3 IAt W0.heap.size n _ (.slice a3 n c3) wx:=⟨hr,ho.imp fun _ h=>own_low h hl0⟩
      clear hr ho
      refine hK'.out _ _ hf ?_
      clear hK' K'
      try simp only[nrm]
      try replace h0:=hf.at h0 (by simp)
      try replace h4:=hf.at h4 (by simp)
      try replace h9:=hf.at h9 (by simp)
      try replace hA:=hA.frm (fun _ _ _ h=>hf.keep h) hf
      try replace hB:=hB.frm (fun _ _ _ h=>RbAt.frm h hf) hf
      replace hfr:=hfr.trans hf
      clear hf
      obtain⟨wd,e⟩:∃ q,q=wx:=⟨_,rfl⟩
      subst e)
   | (refine heldL_step (i:=7) rfl rfl (by rfl) (fun K' hK'=>?_)
      refine wp_cloneO (k:=2) (At:=RbAt w) (t:=122) (e:=185) (z:=.agg #[.slice none 0 0,.slice none 0 0]) (bytes:=48) _ _ rfl rfl rfl Tryz.underlying122 (by kernel_rfl) rfl (by decide) (by decide) (RbAt.mov w) HLB.out (HBO.out.frm fun _ _ _ h=>RbAt.frm h (HF.out.trans hfr)) (by omega) h4 ?_
      intro a7 c7 wx hr hf ho
      have hB:FrR 2 185 (RbAt w) W0.heap.size n _ (.slice a7 n c7) wx:=⟨hr,ho.imp fun _ h=>own_low h hl4⟩
      clear hr ho
      refine hK'.out _ _ hf ?_
      clear hK' K'
      try simp only[nrm]
      try replace h0:=hf.at h0 (by simp)
      try replace h4:=hf.at h4 (by simp)
      try replace h9:=hf.at h9 (by simp)
      try replace hA:=hA.frm (fun _ _ _ h=>hf.keep h) hf
      try replace hB:=hB.frm (fun _ _ _ h=>RbAt.frm h hf) hf
      replace hfr:=hfr.trans hf
      clear hf
      obtain⟨wd,e⟩:∃ q,q=wx:=⟨_,rfl⟩
      subst e))
  all_goals
   have f0:=free_of h9 0
   have f1:=free_of h9 1
   have f2:=free_of h9 2
   have y0:=cell_of h9 0
   have y1:=cell_of h9 1
   have y2:=cell_of h9 2
   have HA:=Lib.hid hA
   have HB:=Lib.hid hB
   have H9:=Lib.hid h9
   have HFR:=Lib.hid hfr
   have HL9:=Lib.hid hl9
   have hlro:=lt_of_block h9
   clear hA hB h9 hfr h0 h4 hl9 hl0 hl4
   skip
   refine honL 10 ?_
   refine heldL_write (i:=10) rfl (by rfl) (by rfl) (fun K' hK'=>?_)
   go_simp
   (skip)
   refine hK'.out _ _ ?_
   clear hK' K'
   try simp only[nrm]
   refine heldL_done (by kernel_rfl) ?_ _
   go_wp2
   go_meet
   exact⟨ro,_,_,_,_,rfl,QC.start HFR.out HL9.out (HN.out.symm ▸ HA.out) (HN.out.symm ▸ HB.out) H9.out rfl⟩
 case rest =>
  obtain⟨ob,aA,aB,kA,kB,rfl,hq⟩:=hcut
  have HQ:=Lib.hid hq
  clear hq HPO HBO HLP HLB
  go_upto_region 3 with fail
  go_loopw [4] (fun s4 wl=>∃ i:Nat,s4=.int .i64 i∧i≤n∧QC w W0 s x ob (.slice aA n kA) (.slice aB n kB) i wl) (fun s4 _=>n - (intOf s4).toNat)
  case atStart=>exact⟨0,rfl,Nat.zero_le _,HQ.out⟩
  case round =>
   clear HQ
   obtain⟨i,rfl,hi,hq⟩:=hrel
   have HQ:=Lib.hid hq
   clear hq
   obtain⟨wl,hwl⟩:∃ wl,wl=wr:=⟨_,rfl⟩
   subst hwl
   have HBX1:=Lib.hid (HQ.out.fr.at HB1.out (by simp))
   have e1:wl.cell? ⟨w.heap.size,2,none⟩=some (.slice (some ⟨bw,0,none⟩) n cw):=cell_of HBX1.out 2
   by_cases hlt:i < n
   ·have hlt':(i:Int) < (n:Int):=by omega
    obtain⟨aw,kw,bj,hbx,⟨ws,how,hws⟩,hrw⟩:=HQ.out.bx
    obtain⟨ci,hci⟩:=HWR.out i hlt
    have hrow:=HROW.out i ci hlt
    have HBX:=Lib.hid hbx;have HOW:=Lib.hid how;have HWS:=Lib.hid hws;have HRW:=Lib.hid hrw;have HROWI:=Lib.hid hrow
    obtain⟨F,hFe⟩:∃ F,(Value.slice aw i kw).ownBlock.toList=F:=⟨_,rfl⟩
    have HFD:Hid (∀ k,(Value.slice aw i kw).ownBlock=some k→k∈F):=Lib.hid fun k hk=>by rw[← hFe];simp[hk]
    have hFn:∀ k∈F,W0.heap.size≤k:=fun k hk=>by
     rw[← hFe] at hk
     exact ownBlock_ge how (by simpa using hk)
    have hobF:ob∉F:=fun hm=>by
     rw[← hFe] at hm
     obtain⟨c,hc⟩:=ownBlock_type how (by simpa using hm)
     rw[hbx] at hc
     cases hc
    have hbwl:=cell_lt hci
    have HCF:Hid (∀ V,Frm F wl V→(V.cell? ⟨ob,2,none⟩=some (.slice aw i kw)∧V.cell? ⟨w.heap.size,2,none⟩=some (.slice (some ⟨bw,0,none⟩) n cw))∧V.cell? ⟨bw,i,none⟩=some (.slice (some ⟨bi i,0,none⟩) n ci)):=Lib.hid fun V hV=>by
     have h1:w.heap.size∉F:=fun hm=>by have:=hFn _ hm;omega
     have h2:bw∉F:=fun hm=>by have:=hFn _ hm;omega
     exact⟨⟨cell_of (hV.at hbx hobF) 2,cell_of (hV.at HBX1.out h1) 2⟩,hV.cellAt ((HF.out.trans HQ.out.fr).keep hci) h2⟩
    have HLR:Hid ((rowL s x i).length=n):=Lib.hid (by rw[rowL_len,HN.out])
    have hi5:i≤4:=by omega
    obtain⟨i0,hi0,hz0,hz1,hz2⟩:=info_parts Tryz.infoRc
    clear hbx how hws hrw hrow hci hFe hFn
    go_upto_region 5 with fail
    clear e1
    refine heldL_start F (wrFrom 12) (by kernel_rfl) ?_
    refine cnt 0 ?_
    iterate 2
     refine hcL ?_ ?_ ?_
     rotate_left
     ·intro w' hC
      obtain⟨⟨x0,x1⟩,x2⟩:=HCF.out w' ((Frm.refl F wl).drew.trans hC)
      clear hC
      go_simp
      try rfl
     try simp only[nrm,Nat.reduceAdd]
    refine tcn ?_
    refine cnt 3 ?_
    iterate 5
     refine hcL ?_ ?_ ?_
     rotate_left
     ·intro w' hC
      obtain⟨⟨x0,x1⟩,x2⟩:=HCF.out w' ((Frm.refl F wl).drew.trans hC)
      clear hC
      go_simp
      try rfl
     try simp only[nrm,Nat.reduceAdd]
    refine tcn ?_
    obtain⟨wd,hwd⟩:∃ wd,wl.drew=wd:=⟨_,rfl⟩
    have hfd:Frm [] wl wd:=by rw[← hwd];exact(Frm.refl _ _).drew
    rw[hwd]
    clear hwd
    refine honL 2 ?_
    refine heldL_step (i:=2) rfl rfl (by rfl) (fun K' hK'=>?_)
    go_simp
    (skip)
    refine hK'.out _ _ ((Frm.refl _ _).alloc _) ?_
    clear hK' K'
    try simp only[nrm]
    obtain⟨X2,hX⟩:∃ X,wd.alloc (.cells #[] 190)=X:=⟨_,rfl⟩
    have h2:X2.heap[wd.heap.size]?=some (.cells #[] 190 (0,0)):=by rw[← hX];exact heap_alloc_new _ _
    have hf2:Frm [] wl X2:=by rw[← hX];exact hfd.alloc _
    rw[hX]
    clear hX
    refine heldL_all (rs:=[8]) (by kernel_rfl) (by simp) (allL_cons ?_ allL_nil)
    refine heldL_step (i:=8) rfl rfl (by rfl) (fun K' hK'=>?_)
    refine wp_cloneO (k:=3) (At:=RcAt s.cls s.cap w) (t:=188) (e:=190) (z:=.agg #[.int .i64 0,.int .i64 0,.slice none 0 0]) (bytes:=40) _ _ rfl rfl rfl Tryz.underlying188 (by kernel_rfl) rfl (by decide) (by decide) (RcAt.mov _ _ w) HLR.out (HROWI.out.frm fun _ _ _ h=>RcAt.frm h ((HF.out.trans HQ.out.fr).trans hf2)) (by omega) h2 ?_
    intro a8 c8 X8 hr8 hf8 ho8
    refine hK'.out _ _ (hf8.mono (by simp)) ?_
    clear hK' K'
    try simp only[nrm]
    obtain⟨nw8,ho8⟩:=ho8
    obtain⟨g,c9,cu8,e8,hg8,hty8⟩:=own_block ho8 (by omega)
    cases e8
    have hgl:wl.heap.size≤g:=Nat.le_trans hfd.size hg8
    refine honL 9 ?_
    refine heldL_step (i:=9) rfl rfl (by rfl) (fun K' hK'=>?_)
    go_simp
    (skip)
    refine hK'.out _ _ ((Frm.refl _ _).alloc _) ?_
    clear hK' K'
    try simp only[nrm]
    obtain⟨X9,hX⟩:∃ X,X8.alloc (.cells #[.slice (some ⟨g,0,none⟩) n c8] 188)=X:=⟨_,rfl⟩
    have h9:X9.heap[X8.heap.size]?=some (.cells #[.slice (some ⟨g,0,none⟩) n c8] 188 (0,0)):=by rw[← hX];exact heap_alloc_new _ _
    have hf89:Frm [] X8 X9:=by rw[← hX];exact(Frm.refl _ _).alloc _
    have hf9:Frm [] wl X9:=(hf2.trans hf8).trans hf89
    rw[hX]
    clear hX
    refine heldL_all (rs:=[10]) (by kernel_rfl) (by simp) (allL_cons ?_ allL_nil)
    refine heldL_step (i:=10) rfl rfl (by rfl) (fun K' hK'=>?_)
    refine wp_own_step _ _ 123 rfl W0.heap.size 188 Tryz.underlying123 hi0 hz0 hz1 hz2 rfl (by decide) (.slice aw i kw) i ws rfl (hf9.owns HOW.out (by simp)) _ 1 1 [.slice (some ⟨g,0,none⟩) n c8] rfl rfl (by have:=row_cells h9;simpa using this) (by simp[Value.oneCell']) (by unfold maxLen;omega) (by omega) (HQ.out.fr.trans hf9).size ?_
    intro v' X10 ho10 hg10
    obtain⟨a10,c10,hsh⟩:=own_shape ho10
    subst hsh
    have hp10:=(Kt.own (hf9.owns HOW.out (by simp)) hg10).cells (hf9.at HBX.out (by simp)) (by decide)
    refine hK'.out _ _ ((Frm.refl F _).grown hg10 (fun k hk=>.inl (HFD.out k hk))) ?_
    clear hK' K'
    try simp only[nrm]
    refine htL 11 ?_ ?_ ?_
    rotate_left
    ·intro w' hC
     clear hC
     go_simp
     try rfl
    try simp only[nrm]
    have y2:=cell_of hp10 2
    have f2:=free_of hp10 2
    have HST:=Lib.hid (fun Z=>QC.step (Z:=Z) HQ.out HF.out HBX.out HOW.out (HN.out.symm ▸ HWS.out) HRW.out hf9 hgl ⟨_,(hf89.at hty8 (by simp))⟩ (HN.out.symm ▸ (hr8.frm fun _ _ _ h=>RcAt.frm h hf89)) hg10 (HN.out.symm ▸ ho10))
    clear hf2 h2 hr8 hf8 ho8 hty8 h9 hf89 hf9 hg10 ho10 hp10 hfd
    refine honL 12 ?_
    refine heldL_write (i:=12) rfl (by rfl) (by rfl) (fun K' hK'=>?_)
    go_simp
    (skip)
    refine hK'.out _ _ ?_
    clear hK' K'
    try simp only[nrm]
    refine heldL_done (by kernel_rfl) ?_ _
    go_wp2
    exact⟨⟨i + 1,congrArg (Value.int .i64) (by omega),hlt,HST.out _ rfl⟩,by simp[intOf];omega⟩
   ·obtain rfl:n=i:=by omega
    have hge:¬ (n:Int) < (n:Int):=by omega
    have HR6:=Lib.hid (HQ.out.fr.at HR.out (by simp))
    obtain⟨aw,kw,bj,hbx,-,-⟩:=HQ.out.bx
    have HBX:=Lib.hid hbx
    clear hbx
    go_wp2_with (first
     | (refine wpList_load_whole rfl 125 _ rfl _ rfl _ 125 HBX.out _ Tryz.underlying125 rfl (by kernel_rfl) ?_)
     | (refine wpList_store_rowK rfl 125 _ _ rfl _ _ _ _ rfl rfl HR6.out rfl (by kernel_rfl) (one3v ..) ?_;intro w7 hb7 hf7 hk7;have HB7:=Lib.hid hb7;have HF7:=Lib.hid hf7;have HK7:=Lib.hid hk7;clear hb7 hf7 hk7))
    refine bodyPost_ret (results_c1 rfl rfl HB7.out rfl Tryz.underlying125 (by kernel_rfl)) rfl ⟨_,rfl,?_⟩
    have:=QC.end (rb:=w.heap.size + 1) (by rw[HN.out];exact HQ.out) HF.out (by rw[HN.out];omega) HPK.out (by rw[HN.out];exact HBX.out) HR6.out (by omega) HF7.out HK7.out
    rw[HN.out] at this
    exact this
end Go.Proofs.YtemjlpahohmajaaGreat
