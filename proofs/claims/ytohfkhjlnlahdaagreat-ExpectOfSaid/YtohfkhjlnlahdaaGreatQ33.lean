/- Part of the proof. -/
import Derived.Test.YtohfkhjlnlahdaaGreatQ04
import Derived.Test.YtohfkhjlnlahdaaGreatQ32
import Derived.Test.YtohfkhjlnlahdaaGreatQ25
set_option linter.all false
namespace Go.Proofs.YtohfkhjlnlahdaaGreat
open Go.RowKit Go.BigFrame
theorem cz {P:Program} {o:Oper} {A:Act} {w:World} {H:Act→World→Prop} {Q:Exit→Act→World→Prop} (s x:Operand) (t:TypeId)
  (ad:o.op=.call { callee:=.builtin .append,args:=#[s,x],argTypes:=#[t,t] })
  (base:Nat) (e:TypeId) {i:TypeInfo} {z:Value} {a bytes:Nat} (aj:P.underlying t=some (.slice e)) (W:P.info? e=some i) (al:i.zero=some z)
  (ah:i.size=a) (S:i.bytes=bytes) (am:z.cells.size=a) (ai:0<a)
  (v:Value) (n:Nat) (G:List Value) (ag:A.eval s=v) (ae:w.ownsRow base e a v n G)
  (E:Addr) (m c:Nat) (h:List Value) (ak:A.eval x=.slice (some E) m c) (aa:h.length=m*a) (ab:∀ (j:Nat) u,h[j]?=some u→w.cell? (E.add j)=some u) (J:∀ u∈h,u.oneCell'=true)
  (O:n+m≤maxLen) (U:(n+m)*bytes≤140737488355328) (R:base≤w.heap.size)
  (I:∀ v' w',w'.ownsRow base e a v' (n+m) (G++h)→w.grownBy w' v.ownBlock→H (A.put o.dst v') w'):Oper.wp P o A w H Q:=by
 obtain⟨v',w',af,K,N,an,ap⟩:=run_append_own_at (P:=P) w base t o.type e i z a bytes aj W al ah S am ai v n G ae E m c h aa ab J O U R
 unfold Oper.wp execOp
 simp only[ad,resolve,invoke,builtin,Sem.run_bind,Sem.run_pure,Result.andThen_ok,List.map_toArray,List.map_cons,List.map_nil,ag,ak,af]
 exact I v' w' K N
theorem Kt.own {a V:World} {base e H n:Nat} {v:Value} {I:List Value} (G:a.ownsRow base e H v n I) (A:a.grownBy V v.ownBlock):Kt [e] a V:=
 (Kt.refl _ _).grown A fun k E=>by
  obtain⟨c,h⟩:=ak G E
  exact⟨c,e,(0,0),h,by simp⟩
structure NI (w:World) (cs:List CtrD) (i:Nat) (W:World):Prop where
 fr:Frm [] w W
 rb:W.heap[w.heap.size]?=some (.cells #[.slice none 0 0,.slice none 0 0] 159 (0,0))
 bx:∃ ad cd av cv,W.heap[w.heap.size+1]?=some (.cells #[.slice ad i cd,.slice av i cv] 159 (0,0))∧W.ownsRow (w.heap.size+2) 244 2 (.slice ad i cd) i ((cs.take i).flatMap kJ)∧W.ownsRow (w.heap.size+2) 3 1 (.slice av i cv) i (List.replicate i (iv 0))
theorem NI.frm {w A V:World} {E:List CtrD} {i:Nat} (h:NI w E i A) (a:Frm [] A V):NI w E i V:=by
 obtain⟨G,I,H,J,K,N,O⟩:=h.bx
 exact⟨h.fr.trans a,a.at h.rb (by simp),G,I,H,J,a.at K (by simp),a.owns N (by simp),a.owns O (by simp)⟩
theorem Tryz.infoCt:(Tryz.prog.info? 244).map (fun i=>(i.zero,i.size,i.bytes))=some (some (.agg #[.string { data:=#[] },.int .i64 0]),2,24):=by kernel_rfl
theorem Tryz.infoIn:(Tryz.prog.info? 3).map (fun i=>(i.zero,i.size,i.bytes))=some (some (.int .i64 0),1,8):=by kernel_rfl
def vf (w:World) (a:List CtrD) (u:Value) (w':World):Prop:=
 ∃ h A,u=.tuple #[.agg #[h,A],.int .i64 0]∧w'.ownsRow w.heap.size 244 2 h a.length (a.flatMap kJ)∧w'.ownsRow w.heap.size 3 1 A a.length (List.replicate a.length (iv 0))∧Frm [] w w'
theorem NI.end {w E:World} {H:List CtrD} {i:Nat} {W ab:Value} {a G:World} {D V:Value} (ad:NI w H i E) (ak:E.heap[w.heap.size+1]?=some (.cells #[D,V] 159 (0,0)))
  (ah:Frm (D.ownBlock.toList++V.ownBlock.toList) E a) (af:∀ k,D.ownBlock=some k→w.heap.size+2≤k) (ag:∀ k,V.ownBlock=some k→w.heap.size+2≤k) (ai:a.heap[w.heap.size+1]?=some (.cells #[D,V] 159 (0,0))) (aj:a.heap[w.heap.size]?=some (.cells #[.slice none 0 0,.slice none 0 0] 159 (0,0)))
  (K:a.ownsRow (w.heap.size+2) 244 2 W (i+1) ((H.take (i+1)).flatMap kJ)) (N:a.ownsRow (w.heap.size+2) 3 1 ab (i+1) (List.replicate (i+1) (iv 0)))
  (e:(a.setCell ⟨w.heap.size+1,0,none⟩ W).setCell ⟨w.heap.size+1,1,none⟩ ab=G):NI w H (i+1) G:=by
 obtain⟨O,S,rfl⟩:=an K
 obtain⟨R,U,rfl⟩:=an N
 have ae:=ap ai 0 (.slice O (i+1) S)
 have aa:=ap ae 1 (.slice R (i+1) U)
 have A:Frm [w.heap.size+1] a G:=by rw[← e];exact((Frm.refl _ a).setCell _ (.inl (by simp)) _).setCell _ (.inl (by simp)) _
 rw[e] at aa
 refine⟨(ad.fr.then ah (fun x h=>.inr ?_)).then A (fun x h=>.inr ?_),A.at aj (by simp),O,S,R,U,aa,A.owns K (fun k I J=>?_),A.owns N (fun k I J=>?_)⟩
 ·rcases List.mem_append.1 h with h | h
  ·have:=af x (by simpa using h);omega
  ·have:=ag x (by simpa using h);omega
 ·simp at h;omega
 ·have:=aF K I;simp at J;omega
 ·have:=aF N I;simp at J;omega
theorem cE {X:World} {r:Nat} {a:Array Value} {t:TypeId} (h:X.heap[r]?=some (.cells a t (0,0))) (j:Nat) (u:Value) (A:a.toList[j]?=some u):X.cell? ((⟨r,0,none⟩:Addr).add j)=some u:=by
 have e:∀ o,(⟨r,o,none⟩:Addr).add j=⟨r,o+j,none⟩:=fun o=>by simp[Addr.add]
 rw[e,Nat.zero_add,ae h,← Array.getElem?_toList]
 exact A
structure BB (w wl:World) (F:List Nat) (D V:Value) (d v:Value) (n1 n2:Nat) (L1 L2:List Value) (X:World):Prop where
 fr:Frm F wl X
 p:X.heap[w.heap.size+1]?=some (.cells #[D,V] 159 (0,0))
 rb:X.heap[w.heap.size]?=some (.cells #[.slice none 0 0,.slice none 0 0] 159 (0,0))
 o1:X.ownsRow (w.heap.size+2) 244 2 d n1 L1
 o2:X.ownsRow (w.heap.size+2) 3 1 v n2 L2
section
variable {w wl X Y:World} {F:List Nat} {D V d v d' v':Value} {n1 n2 m1 m2:Nat} {L1 L2 M1 M2:List Value}
theorem BB.alloc (a:BB w wl F D V d v n1 n2 L1 L2 X) (o:Obj):BB w wl F D V d v n1 n2 L1 L2 (X.alloc o):=⟨a.fr.alloc _,ah a.p,ah a.rb,a.o1.alloc _,a.o2.alloc _⟩
theorem BB.app1 (a:BB w wl F D V D v n1 n2 L1 L2 X) (A:∀ k,D.ownBlock=some k→k∈F) (h:X.grownBy Y D.ownBlock) (G:Y.ownsRow (w.heap.size+2) 244 2 d' m1 M1):BB w wl F D V d' v m1 n2 M1 L2 Y:=
 ⟨a.fr.grown h (fun k E=>.inl (A k E)),(Kt.own a.o1 h).cells a.p (by decide),(Kt.own a.o1 h).cells a.rb (by decide),G,(Kt.own a.o1 h).row a.o2 (by decide)⟩
theorem BB.app2 (a:BB w wl F D V d V n1 n2 L1 L2 X) (A:∀ k,V.ownBlock=some k→k∈F) (h:X.grownBy Y V.ownBlock) (G:Y.ownsRow (w.heap.size+2) 3 1 v' m2 M2):BB w wl F D V d v' n1 m2 L1 M2 Y:=
 ⟨a.fr.grown h (fun k E=>.inl (A k E)),(Kt.own a.o2 h).cells a.p (by decide),(Kt.own a.o2 h).cells a.rb (by decide),(Kt.own a.o2 h).row a.o1 (by decide),G⟩
end
set_option maxHeartbeats 8000000 in
set_option maxRecDepth 100000 in
theorem rx (v:Value) (N:List CtrD) (w:World) (a0:Arr 2 CtAt w v N) (bg:DefsOk N):Calls Tryz.prog 80 #[v] w (aU (vf w N)):=by
 obtain⟨co,cq,rfl⟩:=a0.shape
 obtain⟨n,aS⟩:∃ n,N.length=n:=⟨_,rfl⟩
 rw[aS] at a0
 have cf:n≤4:=aS ▸ bg.n
 have bU:decide (4<(n:Int))=false:=decide_eq_false (by omega)
 obtain⟨a9,aQ⟩:∃ a9,(w.alloc (.cells #[.slice none 0 0,.slice none 0 0] 159)).alloc (.cells #[.slice none 0 0,.slice none 0 0] 159)=a9:=⟨_,rfl⟩
 have bs:Hid (NI w N 0 a9):=vi (by
  refine⟨by rw[← aQ];exact((Frm.refl _ _).alloc _).alloc _,by rw[← aQ];exact ah (heap_alloc_new _ _),none,0,none,0,by rw[← aQ];exact aq (by simp),World.ownsRow_nil _ _ _ _,World.ownsRow_nil _ _ _ _⟩)
 have bp:=vi a0;have aL:=vi aS;have a8:=vi bg
 have br:=vi aQ
 rw[aS]
 clear a0 aS bg aQ
 go_enter Tryz.func80,Tryz.ntmps80
 go_upto_region 4 with fail
 rw[br.out]
 clear br bU
 go_upto_region 5 with fail
 go_loopw [5] (fun s5 wr=>∃ i:Nat,s5=.int .i64 i∧i≤n∧NI w N i wr) (fun s5 _=>n - (intOf s5).toNat)
 case atStart=>exact⟨0,rfl,Nat.zero_le _,bs.out⟩
 case round =>
  clear bs
  obtain⟨i,rfl,cg,bK⟩:=hrel
  have ag:=vi bK
  clear bK
  obtain⟨bo,b0⟩:∃ bo,bo=wr:=⟨_,rfl⟩
  subst b0
  by_cases hlt:i<n
  ·have ck:(i:Int)<(n:Int):=by omega
   obtain⟨c,a3⟩:∃ c,N[i]?=some c:=⟨_,List.getElem?_eq_getElem (by rw[aL.out];exact hlt)⟩
   have bf:c∈N:=List.mem_of_getElem? a3
   have bV:c.name.toList.isEmpty=false:=dF (a8.out.ne c bf)
   obtain⟨b4,b6⟩:=a8.out.lo c bf
   have b5:decide (c.lim<1)=false:=decide_eq_false (by omega)
   have b7:decide (1000<c.lim)=false:=decide_eq_false (by omega)
   obtain⟨aB,a4,bb,aW⟩:=bp.out.get a3
   subst bb
   have aZ:Hid (∀ V,Frm [] w V→CtAt V aB (a4+i*2) c):=vi fun V ak=>aW.frm ak
   obtain⟨c0,bT⟩:=aZ.out _ ag.out.fr
   have aY:=vi a3
   clear a3 bf b4 b6 aW
   go_upto_region 10 with fail
   clear c0 bT b5 b7 bV
   go_loopw [6] (fun s6 wl=>∃ k:Nat,s6=.int .i64 k∧k≤i∧Frm [] bo wl) (fun s6 _=>i - (intOf s6).toNat)
   case atStart=>exact⟨0,rfl,Nat.zero_le _,Frm.refl _ _⟩
   case round =>
    obtain⟨k,rfl,h,bF⟩:=hrel
    have aH:=vi bF
    clear bF
    obtain⟨wl,bM⟩:∃ wl,wl=wr:=⟨_,rfl⟩
    subst bM
    by_cases hlk:k<i
    ·have cj:(k:Int)<(i:Int):=by omega
     have ch:(k:Int)<(n:Int):=by omega
     obtain⟨d,bc⟩:∃ d,N[k]?=some d:=⟨_,List.getElem?_eq_getElem (by rw[aL.out];omega)⟩
     have cl:(d.name.toList == c.name.toList)=false:=by
      rw[aK,decide_eq_false_iff_not]
      intro e
      have:=a8.out.un k i d c bc aY.out e
      omega
     obtain⟨cp,cr,bb,aW⟩:=bp.out.get bc
     cases bb
     have bR:Hid (∀ V,Frm [] w V→CtAt V aB (a4+k*2) d):=vi fun V ak=>aW.frm ak
     clear aW bc
     go_upto_region 12 with fail
     refine ay (by kernel_rfl) (by kernel_rfl) ?_
     repeat (first
      | go_big_quiet_skip
      | (refine wpQuiet_want (by rfl) (fun bS a2=>?_)
         first
          | (refine quiet_move _ (by rfl) (a2 _ ?_))
          | (refine quiet_assign _ (by rfl) (a2 _ ?_))
          | (apply Exists.intro
             refine⟨fun w' G=>?_,a2 _ ?_⟩
             ·(unfold Oper.quietAt
               obtain⟨ar,-⟩:=aZ.out w' (ag.out.fr.trans (aH.out.trans G));obtain⟨aX,-⟩:=bR.out w' (ag.out.fr.trans (aH.out.trans G))
               clear G
               go_simp
               try exact⟨rfl,rfl⟩
               try rfl))
         clear a2 bS
         try simp only[nrm,Act.eval,nrq]))
     refine wpQuiet_nil ?_
     intro cs bG
     have bQ:=vi (aH.out.trans bG)
     clear bG
     go_wp2
     exact⟨⟨k+1,congrArg (Value.int .i64) (by omega),hlk,bQ.out⟩,by simp[intOf];omega⟩
    ·obtain rfl:i=k:=by omega
     have bX:¬ (i:Int)<(i:Int):=by omega
     have aN:=vi (ag.out.frm aH.out)
     obtain⟨W,ab,aa,ad,hb,am,ap⟩:=aN.out.bx
     have aG:=vi hb;have aO:=vi am;have aw:=vi ap
     obtain⟨cm,bd,bk,bl,bm⟩:=info_parts Tryz.infoCt
     obtain⟨cn,be,bh,bi,bj⟩:=info_parts Tryz.infoIn
     have bM:w.heap.size+2≤wl.heap.size:=lt_of_block hb
     obtain⟨F,aP⟩:∃ F,(Value.slice W i ab).ownBlock.toList++(Value.slice aa i ad).ownBlock.toList=F:=⟨_,rfl⟩
     have bC:∀ k,(Value.slice W i ab).ownBlock=some k→k∈F:=fun k h=>by rw[← aP];simp[h]
     have bD:∀ k,(Value.slice aa i ad).ownBlock=some k→k∈F:=fun k h=>by rw[← aP];simp[h]
     have a1:∀ k∈F,w.heap.size+2≤k:=fun k h=>by
      rw[← aP] at h
      rcases List.mem_append.1 h with h | h
      ·exact aF am (by simpa using h)
      ·exact aF ap (by simpa using h)
     have ci:aB<w.heap.size:=by
      obtain⟨ar,-⟩:=aZ.out w (Frm.refl _ _)
      exact aI ar
     have bq:Hid (∀ V,Frm F wl V→(V.cell? ⟨w.heap.size+1,0,none⟩=some (.slice W i ab)∧V.cell? ⟨w.heap.size+1,1,none⟩=some (.slice aa i ad))∧V.cell? ⟨aB,a4+i*2,none⟩=some (.string c.name)∧V.cell? ⟨aB,a4+i*2+1,none⟩=some (.int .i64 c.lim)):=vi fun V ak=>by
      obtain⟨ar,aX⟩:=aZ.out wl (ag.out.fr.trans aH.out)
      have bY:w.heap.size+1∉F:=fun al=>by have:=a1 _ al;omega
      have bJ:aB∉F:=fun al=>by have:=a1 _ al;omega
      have bN:=ak.at hb bY
      exact⟨⟨ae bN 0,ae bN 1⟩,ak.cellAt ar bJ,ak.cellAt aX bJ⟩
     have au:=vi bC;have av:=vi bD;have ce:=vi a1;have a7:=vi aP
     have a5:Hid (BB w wl F (.slice W i ab) (.slice aa i ad) (.slice W i ab) (.slice aa i ad) i i _ _ wl.drew):=vi ⟨(Frm.refl F wl).drew,hb,aN.out.rb,am,ap⟩
     clear hb am ap bC bD a1 aP hlk h
     go_upto_region 14 with fail
     refine bH F (fk 13) (by kernel_rfl) ?_
     refine cnt 0 ?_
     iterate 6
      refine hcL ?_ ?_ ?_
      rotate_left
      ·intro w' G
       obtain⟨⟨b9,ca⟩,cc,cd⟩:=bq.out w' ((Frm.refl F wl).drew.trans G)
       clear G
       go_simp
       try rfl
      try simp only[nrm,Nat.reduceAdd]
     refine tcn ?_
     refine cnt 8 ?_
     iterate 2
      refine hcL ?_ ?_ ?_
      rotate_left
      ·intro w' G
       obtain⟨⟨b9,ca⟩,cc,cd⟩:=bq.out w' ((Frm.refl F wl).drew.trans G)
       clear G
       go_simp
       try rfl
      try simp only[nrm,Nat.reduceAdd]
     refine tcn ?_
     obtain⟨aC,bL⟩:∃ aC,wl.drew=aC:=⟨_,rfl⟩
     rw[bL] at a5 ⊢
     clear bL
     refine aJ (rs:=[6,10]) (by kernel_rfl) (by simp) (aE ?_ (aE ?_ aM))
     ·skip
      refine ax (i:=6) rfl rfl (by rfl) (fun A a=>?_)
      go_simp
      (skip)
      refine a.out _ _ ((Frm.refl _ _).alloc _) ?_
      clear a A
      try simp only[nrm]
      have aA:=heap_alloc_new (aC) (.cells #[.string c.name,.int .i64 c.lim] 244)
      have K:=BB.alloc a5.out (.cells #[.string c.name,.int .i64 c.lim] 244)
      refine aJ (rs:=[7,10]) (by kernel_rfl) (by simp) (aE ?_ (aE ?_ aM))
      ·skip
       refine ax (i:=7) rfl rfl (by rfl) (fun A a=>?_)
       refine cz _ _ 84 rfl (w.heap.size+2) 244 Tryz.underlying84 bd bk bl bm rfl (by decide) (.slice W i ab) i _ rfl K.o1 _ 1 1 [.string c.name,.int .i64 c.lim] rfl rfl (by have:=cE aA;simpa using this) (by simp[Value.oneCell']) (by unfold maxLen;omega) (by omega) (by have:=K.fr.size;omega) ?_
       intro bz ba S J
       have H:=BB.app1 K au.out J S
       obtain⟨bv,bx,aV⟩:=an S
       subst aV
       refine a.out _ _ ((Frm.refl F _).grown J (fun k h=>.inl (au.out k h))) ?_
       clear a A
       try simp only[nrm]
       refine htL 12 ?_ ?_ ?_
       rotate_left
       ·intro w' G
        clear G
        go_simp
        try rfl
       try simp only[nrm]
       refine bE 10 ?_
       refine ax (i:=10) rfl rfl (by rfl) (fun A a=>?_)
       go_simp
       (skip)
       refine a.out _ _ ((Frm.refl _ _).alloc _) ?_
       clear a A
       try simp only[nrm]
       have U:=heap_alloc_new (ba) (.cells #[.int .i64 0] 3)
       have I:=BB.alloc H (.cells #[.int .i64 0] 3)
       refine aJ (rs:=[11]) (by kernel_rfl) (by simp) (aE ?_ aM)
       refine ax (i:=11) rfl rfl (by rfl) (fun A a=>?_)
       refine cz _ _ 57 rfl (w.heap.size+2) 3 Tryz.underlying57 be bh bi bj rfl (by decide) (.slice aa i ad) i _ rfl I.o2 _ 1 1 [.int .i64 0] rfl rfl (by have:=cE U;simpa using this) (by simp[Value.oneCell']) (by unfold maxLen;omega) (by omega) (by have:=I.fr.size;omega) ?_
       intro bO bt R O
       have ai:=BB.app2 I av.out O R
       obtain⟨bu,bw,aT⟩:=an R
       subst aT
       refine a.out _ _ ((Frm.refl F _).grown O (fun k h=>.inl (av.out k h))) ?_
       clear a A
       try simp only[nrm]
       have E:=vi ai
       have bA:=aj E.out.p 0
       have bB:=aj E.out.p 1
       have ar:=ae E.out.p 0
       have aX:=ae E.out.p 1
       clear K H I ai S R J O
       refine bE 13 ?_
       refine az (i:=13) rfl (by rfl) (by rfl) (fun A a=>?_)
       go_simp
       (skip)
       refine a.out _ _ ?_
       clear a A
       try simp only[nrm]
       refine bE 14 ?_
       refine az (i:=14) rfl (by rfl) (by rfl) (fun A a=>?_)
       go_simp
       (skip)
       refine a.out _ _ ?_
       clear a A
       try simp only[nrm]
       refine bE 15 ?_
       refine az (i:=15) rfl (by rfl) (by rfl) (fun A a=>?_)
       go_simp
       (skip)
       refine a.out _ _ ?_
       clear a A
       try simp only[nrm]
       refine aR (by kernel_rfl) ?_ _
       go_wp2
       refine⟨⟨i+1,congrArg (Value.int .i64) (by omega),hlt,?_⟩,by simp[intOf];omega⟩
       refine NI.end aN.out aG.out (a7.out ▸ E.out.fr) (fun k h=>aF aO.out h) (fun k h=>aF aw.out h) E.out.p E.out.rb ?_ ?_ rfl
       ·rw[List.take_add_one,aY.out,List.flatMap_append];exact E.out.o1
       ·rw[List.replicate_succ'];exact E.out.o2
      ·skip
       refine ax (i:=10) rfl rfl (by rfl) (fun A a=>?_)
       go_simp
       (skip)
       refine a.out _ _ ((Frm.refl _ _).alloc _) ?_
       clear a A
       try simp only[nrm]
       have aA:=ah (x:=.cells #[.int .i64 0] 3) aA
       have U:=heap_alloc_new ((aC).alloc (.cells #[.string c.name,.int .i64 c.lim] 244)) (.cells #[.int .i64 0] 3)
       have I:=BB.alloc K (.cells #[.int .i64 0] 3)
       refine aJ (rs:=[7]) (by kernel_rfl) (by simp) (aE ?_ aM)
       refine ax (i:=7) rfl rfl (by rfl) (fun A a=>?_)
       refine cz _ _ 84 rfl (w.heap.size+2) 244 Tryz.underlying84 bd bk bl bm rfl (by decide) (.slice W i ab) i _ rfl I.o1 _ 1 1 [.string c.name,.int .i64 c.lim] rfl rfl (by have:=cE aA;simpa using this) (by simp[Value.oneCell']) (by unfold maxLen;omega) (by omega) (by have:=I.fr.size;omega) ?_
       intro bz ba S J
       have H:=BB.app1 I au.out J S
       replace U:=(Kt.own I.o1 J).cells U (by decide)
       obtain⟨bv,bx,aV⟩:=an S
       subst aV
       refine a.out _ _ ((Frm.refl F _).grown J (fun k h=>.inl (au.out k h))) ?_
       clear a A
       try simp only[nrm]
       refine htL 12 ?_ ?_ ?_
       rotate_left
       ·intro w' G
        clear G
        go_simp
        try rfl
       try simp only[nrm]
       refine aJ (rs:=[11]) (by kernel_rfl) (by simp) (aE ?_ aM)
       refine ax (i:=11) rfl rfl (by rfl) (fun A a=>?_)
       refine cz _ _ 57 rfl (w.heap.size+2) 3 Tryz.underlying57 be bh bi bj rfl (by decide) (.slice aa i ad) i _ rfl H.o2 _ 1 1 [.int .i64 0] rfl rfl (by have:=cE U;simpa using this) (by simp[Value.oneCell']) (by unfold maxLen;omega) (by omega) (by have:=H.fr.size;omega) ?_
       intro bO bt R O
       have ai:=BB.app2 H av.out O R
       obtain⟨bu,bw,aT⟩:=an R
       subst aT
       refine a.out _ _ ((Frm.refl F _).grown O (fun k h=>.inl (av.out k h))) ?_
       clear a A
       try simp only[nrm]
       have E:=vi ai
       have bA:=aj E.out.p 0
       have bB:=aj E.out.p 1
       have ar:=ae E.out.p 0
       have aX:=ae E.out.p 1
       clear K H I ai S R J O
       refine bE 13 ?_
       refine az (i:=13) rfl (by rfl) (by rfl) (fun A a=>?_)
       go_simp
       (skip)
       refine a.out _ _ ?_
       clear a A
       try simp only[nrm]
       refine bE 14 ?_
       refine az (i:=14) rfl (by rfl) (by rfl) (fun A a=>?_)
       go_simp
       (skip)
       refine a.out _ _ ?_
       clear a A
       try simp only[nrm]
       refine bE 15 ?_
       refine az (i:=15) rfl (by rfl) (by rfl) (fun A a=>?_)
       go_simp
       (skip)
       refine a.out _ _ ?_
       clear a A
       try simp only[nrm]
       refine aR (by kernel_rfl) ?_ _
       go_wp2
       refine⟨⟨i+1,congrArg (Value.int .i64) (by omega),hlt,?_⟩,by simp[intOf];omega⟩
       refine NI.end aN.out aG.out (a7.out ▸ E.out.fr) (fun k h=>aF aO.out h) (fun k h=>aF aw.out h) E.out.p E.out.rb ?_ ?_ rfl
       ·rw[List.take_add_one,aY.out,List.flatMap_append];exact E.out.o1
       ·rw[List.replicate_succ'];exact E.out.o2
     ·skip
      refine ax (i:=10) rfl rfl (by rfl) (fun A a=>?_)
      go_simp
      (skip)
      refine a.out _ _ ((Frm.refl _ _).alloc _) ?_
      clear a A
      try simp only[nrm]
      have U:=heap_alloc_new (aC) (.cells #[.int .i64 0] 3)
      have I:=BB.alloc a5.out (.cells #[.int .i64 0] 3)
      refine bE 6 ?_
      refine ax (i:=6) rfl rfl (by rfl) (fun A a=>?_)
      go_simp
      (skip)
      refine a.out _ _ ((Frm.refl _ _).alloc _) ?_
      clear a A
      try simp only[nrm]
      have U:=ah (x:=.cells #[.string c.name,.int .i64 c.lim] 244) U
      have aA:=heap_alloc_new ((aC).alloc (.cells #[.int .i64 0] 3)) (.cells #[.string c.name,.int .i64 c.lim] 244)
      have K:=BB.alloc I (.cells #[.string c.name,.int .i64 c.lim] 244)
      refine aJ (rs:=[7]) (by kernel_rfl) (by simp) (aE ?_ aM)
      refine ax (i:=7) rfl rfl (by rfl) (fun A a=>?_)
      refine cz _ _ 84 rfl (w.heap.size+2) 244 Tryz.underlying84 bd bk bl bm rfl (by decide) (.slice W i ab) i _ rfl K.o1 _ 1 1 [.string c.name,.int .i64 c.lim] rfl rfl (by have:=cE aA;simpa using this) (by simp[Value.oneCell']) (by unfold maxLen;omega) (by omega) (by have:=K.fr.size;omega) ?_
      intro bz ba S J
      have H:=BB.app1 K au.out J S
      replace U:=(Kt.own K.o1 J).cells U (by decide)
      obtain⟨bv,bx,aV⟩:=an S
      subst aV
      refine a.out _ _ ((Frm.refl F _).grown J (fun k h=>.inl (au.out k h))) ?_
      clear a A
      try simp only[nrm]
      refine htL 12 ?_ ?_ ?_
      rotate_left
      ·intro w' G
       clear G
       go_simp
       try rfl
      try simp only[nrm]
      refine aJ (rs:=[11]) (by kernel_rfl) (by simp) (aE ?_ aM)
      refine ax (i:=11) rfl rfl (by rfl) (fun A a=>?_)
      refine cz _ _ 57 rfl (w.heap.size+2) 3 Tryz.underlying57 be bh bi bj rfl (by decide) (.slice aa i ad) i _ rfl H.o2 _ 1 1 [.int .i64 0] rfl rfl (by have:=cE U;simpa using this) (by simp[Value.oneCell']) (by unfold maxLen;omega) (by omega) (by have:=H.fr.size;omega) ?_
      intro bO bt R O
      have ai:=BB.app2 H av.out O R
      obtain⟨bu,bw,aT⟩:=an R
      subst aT
      refine a.out _ _ ((Frm.refl F _).grown O (fun k h=>.inl (av.out k h))) ?_
      clear a A
      try simp only[nrm]
      have E:=vi ai
      have bA:=aj E.out.p 0
      have bB:=aj E.out.p 1
      have ar:=ae E.out.p 0
      have aX:=ae E.out.p 1
      clear K H I ai S R J O
      refine bE 13 ?_
      refine az (i:=13) rfl (by rfl) (by rfl) (fun A a=>?_)
      go_simp
      (skip)
      refine a.out _ _ ?_
      clear a A
      try simp only[nrm]
      refine bE 14 ?_
      refine az (i:=14) rfl (by rfl) (by rfl) (fun A a=>?_)
      go_simp
      (skip)
      refine a.out _ _ ?_
      clear a A
      try simp only[nrm]
      refine bE 15 ?_
      refine az (i:=15) rfl (by rfl) (by rfl) (fun A a=>?_)
      go_simp
      (skip)
      refine a.out _ _ ?_
      clear a A
      try simp only[nrm]
      refine aR (by kernel_rfl) ?_ _
      go_wp2
      refine⟨⟨i+1,congrArg (Value.int .i64) (by omega),hlt,?_⟩,by simp[intOf];omega⟩
      refine NI.end aN.out aG.out (a7.out ▸ E.out.fr) (fun k h=>aF aO.out h) (fun k h=>aF aw.out h) E.out.p E.out.rb ?_ ?_ rfl
      ·rw[List.take_add_one,aY.out,List.flatMap_append];exact E.out.o1
      ·rw[List.replicate_succ'];exact E.out.o2
  ·obtain rfl:n=i:=by omega
   have bX:¬ (n:Int)<(n:Int):=by omega
   obtain⟨W,ab,aa,ad,hb,am,ap⟩:=ag.out.bx
   have aG:=vi hb;have aO:=vi am;have aw:=vi ap
   clear hb am ap
   go_wp2_with (first
    | (refine af rfl 159 _ rfl _ rfl _ 159 aG.out _ Tryz.underlying159 rfl (by kernel_rfl) ?_)
    | (refine aD rfl 159 _ _ rfl _ _ _ _ rfl rfl ag.out.rb rfl (by kernel_rfl) (qS ..) ?_;intro b8 H bI;have bP:=vi H;have a6:=vi bI;clear H bI))
   have bW:Frm [] w b8:=ag.out.fr.then a6.out (by intro x b3;simp at b3;omega)
   have bZ:N.take n=N:=by rw[← aL.out,List.take_length]
   have bn:=aO.out
   rw[bZ] at bn
   refine bodyPost_ret (ft rfl rfl rfl bP.out rfl) rfl ⟨_,rfl,_,_,rfl,?_,?_,bW⟩
   ·rw[aL.out]
    exact df (a6.out.owns bn (fun k h al=>by have:=aF bn h;simp at al;omega)) (by omega)
   ·rw[aL.out]
    exact df (a6.out.owns aw.out (fun k h al=>by have:=aF aw.out h;simp at al;omega)) (by omega)
end Go.Proofs.YtohfkhjlnlahdaaGreat
