/- Part of the proof. -/
import Derived.Test.YtohfkhjlnlahdaaGreatW37
import Derived.Test.YtohfkhjlnlahdaaGreatW24
set_option linter.all false
namespace Go.Proofs.YtohfkhjlnlahdaaGreat
open Go.RowKit Go.BigFrame
theorem wp_own_step {P:Program} {o:Oper} {a:Act} {w:World} {K:Act→World→Prop} {Q:Exit→Act→World→Prop} (s x:Operand) (t:TypeId)
  (ho:o.op=.call { callee:=.builtin .append,args:=#[s,x],argTypes:=#[t,t] })
  (base:Nat) (e:TypeId) {i:TypeInfo} {z:Value} {size bytes:Nat} (ht:P.underlying t=some (.slice e)) (hi:P.info? e=some i) (hz:i.zero=some z)
  (hsize:i.size=size) (hby:i.bytes=bytes) (hzs:z.cells.size=size) (hsz:0 < size)
  (v:Value) (n:Nat) (xs:List Value) (hs:a.eval s=v) (hown:w.ownsRow base e size v n xs)
  (ad:Addr) (m c:Nat) (news:List Value) (hx:a.eval x=.slice (some ad) m c) (hl:news.length=m * size) (hnews:∀ (j:Nat) u,news[j]?=some u→w.cell? (ad.add j)=some u) (h1:∀ u∈news,u.oneCell'=true)
  (h63:n + m≤maxLen) (hbytes:(n + m) * bytes≤140737488355328) (hbase:base≤w.heap.size)
  (h:∀ v' w',w'.ownsRow base e size v' (n + m) (xs ++ news)→w.grownBy w' v.ownBlock→K (a.put o.dst v') w'):Oper.wp P o a w K Q:=by
 obtain⟨v',w',hr,h2,h3,h4,h5⟩:=run_append_own_at (P:=P) w base t o.type e i z size bytes ht hi hz hsize hby hzs hsz v n xs hown ad m c news hl hnews h1 h63 hbytes hbase
 unfold Oper.wp execOp
 simp only[ho,resolve,invoke,builtin,Sem.run_bind,Sem.run_pure,Result.andThen_ok,List.map_toArray,List.map_cons,List.map_nil,hs,hx,hr]
 exact h v' w' h2 h3
theorem Kt.own {W V:World} {base e size n:Nat} {v:Value} {xs:List Value} (ho:W.ownsRow base e size v n xs) (hg:W.grownBy V v.ownBlock):Kt [e] W V:=
 (Kt.refl _ _).grown hg fun k hk=>by
  obtain⟨c,hc⟩:=ownBlock_type ho hk
  exact⟨c,e,(0,0),hc,by simp⟩
structure NI (w:World) (cs:List CtrD) (i:Nat) (W:World):Prop where
 fr:Frm [] w W
 rb:W.heap[w.heap.size]?=some (.cells #[.slice none 0 0,.slice none 0 0] 159 (0,0))
 bx:∃ ad cd av cv,W.heap[w.heap.size + 1]?=some (.cells #[.slice ad i cd,.slice av i cv] 159 (0,0))∧W.ownsRow (w.heap.size + 2) 244 2 (.slice ad i cd) i ((cs.take i).flatMap ctC1)∧W.ownsRow (w.heap.size + 2) 3 1 (.slice av i cv) i (List.replicate i (iv 0))
theorem NI.frm {w W V:World} {cs:List CtrD} {i:Nat} (h:NI w cs i W) (hf:Frm [] W V):NI w cs i V:=by
 obtain⟨ad,cd,av,cv,h1,h2,h3⟩:=h.bx
 exact⟨h.fr.trans hf,hf.at h.rb (by simp),ad,cd,av,cv,hf.at h1 (by simp),hf.owns h2 (by simp),hf.owns h3 (by simp)⟩
theorem Tryz.infoCt:(Tryz.prog.info? 244).map (fun i=>(i.zero,i.size,i.bytes))=some (some (.agg #[.string { data:=#[] },.int .i64 0]),2,24):=by kernel_rfl
theorem Tryz.infoIn:(Tryz.prog.info? 3).map (fun i=>(i.zero,i.size,i.bytes))=some (some (.int .i64 0),1,8):=by kernel_rfl
def JnTo (w:World) (cs:List CtrD) (u:Value) (w':World):Prop:=
 ∃ dv vv,u=.tuple #[.agg #[dv,vv],.int .i64 0]∧w'.ownsRow w.heap.size 244 2 dv cs.length (cs.flatMap ctC1)∧w'.ownsRow w.heap.size 3 1 vv cs.length (List.replicate cs.length (iv 0))∧Frm [] w w'
theorem NI.end {w W:World} {cs:List CtrD} {i:Nat} {d1 v1:Value} {W1 W2:World} {D V:Value} (h:NI w cs i W) (hd:W.heap[w.heap.size + 1]?=some (.cells #[D,V] 159 (0,0)))
  (hf:Frm (D.ownBlock.toList ++ V.ownBlock.toList) W W1) (hD:∀ k,D.ownBlock=some k→w.heap.size + 2≤k) (hV:∀ k,V.ownBlock=some k→w.heap.size + 2≤k) (hp:W1.heap[w.heap.size + 1]?=some (.cells #[D,V] 159 (0,0))) (hr:W1.heap[w.heap.size]?=some (.cells #[.slice none 0 0,.slice none 0 0] 159 (0,0)))
  (o1:W1.ownsRow (w.heap.size + 2) 244 2 d1 (i + 1) ((cs.take (i + 1)).flatMap ctC1)) (o2:W1.ownsRow (w.heap.size + 2) 3 1 v1 (i + 1) (List.replicate (i + 1) (iv 0)))
  (e:(W1.setCell ⟨w.heap.size + 1,0,none⟩ d1).setCell ⟨w.heap.size + 1,1,none⟩ v1=W2):NI w cs (i + 1) W2:=by
 obtain⟨a1,c1,rfl⟩:=own_shape o1
 obtain⟨a2,c2,rfl⟩:=own_shape o2
 have h1:=block_setCell hp 0 (.slice a1 (i + 1) c1)
 have h2:=block_setCell h1 1 (.slice a2 (i + 1) c2)
 have hF:Frm [w.heap.size + 1] W1 W2:=by rw[← e];exact((Frm.refl _ W1).setCell _ (.inl (by simp)) _).setCell _ (.inl (by simp)) _
 rw[e] at h2
 refine⟨(h.fr.then hf (fun x hx=>.inr ?_)).then hF (fun x hx=>.inr ?_),hF.at hr (by simp),a1,c1,a2,c2,h2,hF.owns o1 (fun k hk hm=>?_),hF.owns o2 (fun k hk hm=>?_)⟩
 ·rcases List.mem_append.1 hx with hx | hx
  ·have:=hD x (by simpa using hx);omega
  ·have:=hV x (by simpa using hx);omega
 ·simp at hx;omega
 ·have:=ownBlock_ge o1 hk;simp at hm;omega
 ·have:=ownBlock_ge o2 hk;simp at hm;omega
theorem row_cells {X:World} {r:Nat} {A:Array Value} {t:TypeId} (h:X.heap[r]?=some (.cells A t (0,0))) (j:Nat) (u:Value) (hu:A.toList[j]?=some u):X.cell? ((⟨r,0,none⟩:Addr).add j)=some u:=by
 have e:∀ o,(⟨r,o,none⟩:Addr).add j=⟨r,o + j,none⟩:=fun o=>by simp[Addr.add]
 rw[e,Nat.zero_add,cell_of h,← Array.getElem?_toList]
 exact hu
structure BB (w wl:World) (F:List Nat) (D V:Value) (d v:Value) (n1 n2:Nat) (L1 L2:List Value) (X:World):Prop where
 fr:Frm F wl X
 p:X.heap[w.heap.size + 1]?=some (.cells #[D,V] 159 (0,0))
 rb:X.heap[w.heap.size]?=some (.cells #[.slice none 0 0,.slice none 0 0] 159 (0,0))
 o1:X.ownsRow (w.heap.size + 2) 244 2 d n1 L1
 o2:X.ownsRow (w.heap.size + 2) 3 1 v n2 L2
section
variable {w wl X Y:World} {F:List Nat} {D V d v d' v':Value} {n1 n2 m1 m2:Nat} {L1 L2 M1 M2:List Value}
theorem BB.alloc (h:BB w wl F D V d v n1 n2 L1 L2 X) (o:Obj):BB w wl F D V d v n1 n2 L1 L2 (X.alloc o):=⟨h.fr.alloc _,alloc_at h.p,alloc_at h.rb,h.o1.alloc _,h.o2.alloc _⟩
theorem BB.app1 (h:BB w wl F D V D v n1 n2 L1 L2 X) (hF:∀ k,D.ownBlock=some k→k∈F) (hg:X.grownBy Y D.ownBlock) (ho:Y.ownsRow (w.heap.size + 2) 244 2 d' m1 M1):BB w wl F D V d' v m1 n2 M1 L2 Y:=
 ⟨h.fr.grown hg (fun k hk=>.inl (hF k hk)),(Kt.own h.o1 hg).cells h.p (by decide),(Kt.own h.o1 hg).cells h.rb (by decide),ho,(Kt.own h.o1 hg).row h.o2 (by decide)⟩
theorem BB.app2 (h:BB w wl F D V d V n1 n2 L1 L2 X) (hF:∀ k,V.ownBlock=some k→k∈F) (hg:X.grownBy Y V.ownBlock) (ho:Y.ownsRow (w.heap.size + 2) 3 1 v' m2 M2):BB w wl F D V d v' n1 m2 L1 M2 Y:=
 ⟨h.fr.grown hg (fun k hk=>.inl (hF k hk)),(Kt.own h.o2 hg).cells h.p (by decide),(Kt.own h.o2 hg).cells h.rb (by decide),(Kt.own h.o2 hg).row h.o1 (by decide),ho⟩
end
set_option maxHeartbeats 8000000 in
set_option maxRecDepth 100000 in
theorem jNew_any (v:Value) (cs:List CtrD) (w:World) (h:Arr 2 CtAt w v cs) (hok:DefsOk cs):Calls Tryz.prog 80 #[v] w (RetV (JnTo w cs)):=by
 obtain⟨la,lc,rfl⟩:=h.shape
 obtain⟨n,hn⟩:∃ n,cs.length=n:=⟨_,rfl⟩
 rw[hn] at h
 have h4:n≤4:=hn ▸ hok.n
 have h4':decide (4 < (n:Int))=false:=decide_eq_false (by omega)
 obtain⟨W0,hW0⟩:∃ W0,(w.alloc (.cells #[.slice none 0 0,.slice none 0 0] 159)).alloc (.cells #[.slice none 0 0,.slice none 0 0] 159)=W0:=⟨_,rfl⟩
 have HI0:Hid (NI w cs 0 W0):=Lib.hid (by
  refine⟨by rw[← hW0];exact((Frm.refl _ _).alloc _).alloc _,by rw[← hW0];exact alloc_at (heap_alloc_new _ _),none,0,none,0,by rw[← hW0];exact alloc_top (by simp),World.ownsRow_nil _ _ _ _,World.ownsRow_nil _ _ _ _⟩)
 have HA:=Lib.hid h;have HN:=Lib.hid hn;have HOK:=Lib.hid hok
 have HE:=Lib.hid hW0
 rw[hn]
 clear h hn hok hW0
 go_enter Tryz.func80,Tryz.ntmps80
 go_upto_region 4 with fail
 rw[HE.out]
 clear HE h4'
 go_upto_region 5 with fail
 go_loopw [5] (fun s5 wr=>∃ i:Nat,s5=.int .i64 i∧i≤n∧NI w cs i wr) (fun s5 _=>n - (intOf s5).toNat)
 case atStart=>exact⟨0,rfl,Nat.zero_le _,HI0.out⟩
 case round =>
  clear HI0
  obtain⟨i,rfl,hi,hni⟩:=hrel
  have HNI:=Lib.hid hni
  clear hni
  obtain⟨wq,hwq⟩:∃ wq,wq=wr:=⟨_,rfl⟩
  subst hwq
  by_cases hlt:i < n
  ·have hlt':(i:Int) < (n:Int):=by omega
   obtain⟨c,hc⟩:∃ c,cs[i]?=some c:=⟨_,List.getElem?_eq_getElem (by rw[HN.out];exact hlt)⟩
   have hmem:c∈cs:=List.mem_of_getElem? hc
   have hemp:c.name.toList.isEmpty=false:=emp_no (HOK.out.ne c hmem)
   obtain⟨l1,l2⟩:=HOK.out.lo c hmem
   have l1':decide (c.lim < 1)=false:=decide_eq_false (by omega)
   have l2':decide (1000 < c.lim)=false:=decide_eq_false (by omega)
   obtain⟨lb,lo,e1,q1⟩:=HA.out.get hc
   subst e1
   have HQ1:Hid (∀ V,Frm [] w V→CtAt V lb (lo + i * 2) c):=Lib.hid fun V hV=>q1.frm hV
   obtain⟨c0,c1⟩:=HQ1.out _ HNI.out.fr
   have HC:=Lib.hid hc
   clear hc hmem l1 l2 q1
   go_upto_region 10 with fail
   clear c0 c1 l1' l2' hemp
   go_loopw [6] (fun s6 wl=>∃ k:Nat,s6=.int .i64 k∧k≤i∧Frm [] wq wl) (fun s6 _=>i - (intOf s6).toNat)
   case atStart=>exact⟨0,rfl,Nat.zero_le _,Frm.refl _ _⟩
   case round =>
    obtain⟨k,rfl,hk,hf⟩:=hrel
    have HL1:=Lib.hid hf
    clear hf
    obtain⟨wl,hwl⟩:∃ wl,wl=wr:=⟨_,rfl⟩
    subst hwl
    by_cases hlk:k < i
    ·have hlk':(k:Int) < (i:Int):=by omega
     have hkn:(k:Int) < (n:Int):=by omega
     obtain⟨d,hd⟩:∃ d,cs[k]?=some d:=⟨_,List.getElem?_eq_getElem (by rw[HN.out];omega)⟩
     have hne:(d.name.toList == c.name.toList)=false:=by
      rw[str_beq,decide_eq_false_iff_not]
      intro e
      have:=HOK.out.un k i d c hd HC.out e
      omega
     obtain⟨lb',lo',e1,q1⟩:=HA.out.get hd
     cases e1
     have HQ2:Hid (∀ V,Frm [] w V→CtAt V lb (lo + k * 2) d):=Lib.hid fun V hV=>q1.frm hV
     clear q1 hd
     go_upto_region 12 with fail
     refine wp_region_cq (by kernel_rfl) (by kernel_rfl) ?_
     repeat (first
      | go_big_quiet_skip
      | (refine wpQuiet_want (by rfl) (fun K hK=>?_)
         first
          | (refine quiet_move _ (by rfl) (hK _ ?_))
          | (refine quiet_assign _ (by rfl) (hK _ ?_))
          | (apply Exists.intro
             refine⟨fun w' hC=>?_,hK _ ?_⟩
             ·(unfold Oper.quietAt
               obtain⟨y0,-⟩:=HQ1.out w' (HNI.out.fr.trans (HL1.out.trans hC));obtain⟨y1,-⟩:=HQ2.out w' (HNI.out.fr.trans (HL1.out.trans hC))
               clear hC
               go_simp
               try exact⟨rfl,rfl⟩
               try rfl))
         clear hK K
         try simp only[nrm,Act.eval,nrq]))
     refine wpQuiet_nil ?_
     intro w2 hf2
     have HF2:=Lib.hid (HL1.out.trans hf2)
     clear hf2
     go_wp2
     exact⟨⟨k + 1,congrArg (Value.int .i64) (by omega),hlk,HF2.out⟩,by simp[intOf];omega⟩
    ·obtain rfl:i=k:=by omega
     have hge:¬ (i:Int) < (i:Int):=by omega
     have HNL:=Lib.hid (HNI.out.frm HL1.out)
     obtain⟨ad,cd,av,cv,hb,ho1,ho2⟩:=HNL.out.bx
     have HB:=Lib.hid hb;have HO1:=Lib.hid ho1;have HO2:=Lib.hid ho2
     obtain⟨i0,hi0,hz0,hz1,hz2⟩:=info_parts Tryz.infoCt
     obtain⟨i1,hi1,hy0,hy1,hy2⟩:=info_parts Tryz.infoIn
     have hwl:w.heap.size + 2≤wl.heap.size:=lt_of_block hb
     obtain⟨F,hFe⟩:∃ F,(Value.slice ad i cd).ownBlock.toList ++ (Value.slice av i cv).ownBlock.toList=F:=⟨_,rfl⟩
     have hFD:∀ k,(Value.slice ad i cd).ownBlock=some k→k∈F:=fun k hk=>by rw[← hFe];simp[hk]
     have hFV:∀ k,(Value.slice av i cv).ownBlock=some k→k∈F:=fun k hk=>by rw[← hFe];simp[hk]
     have hFn:∀ k∈F,w.heap.size + 2≤k:=fun k hk=>by
      rw[← hFe] at hk
      rcases List.mem_append.1 hk with hk | hk
      ·exact ownBlock_ge ho1 (by simpa using hk)
      ·exact ownBlock_ge ho2 (by simpa using hk)
     have hlb:lb < w.heap.size:=by
      obtain⟨y0,-⟩:=HQ1.out w (Frm.refl _ _)
      exact cell_lt y0
     have HCF:Hid (∀ V,Frm F wl V→(V.cell? ⟨w.heap.size + 1,0,none⟩=some (.slice ad i cd)∧V.cell? ⟨w.heap.size + 1,1,none⟩=some (.slice av i cv))∧V.cell? ⟨lb,lo + i * 2,none⟩=some (.string c.name)∧V.cell? ⟨lb,lo + i * 2 + 1,none⟩=some (.int .i64 c.lim)):=Lib.hid fun V hV=>by
      obtain⟨y0,y1⟩:=HQ1.out wl (HNI.out.fr.trans HL1.out)
      have hp:w.heap.size + 1∉F:=fun hm=>by have:=hFn _ hm;omega
      have hl:lb∉F:=fun hm=>by have:=hFn _ hm;omega
      have hz:=hV.at hb hp
      exact⟨⟨cell_of hz 0,cell_of hz 1⟩,hV.cellAt y0 hl,hV.cellAt y1 hl⟩
     have HFD:=Lib.hid hFD;have HFV:=Lib.hid hFV;have HFN:=Lib.hid hFn;have HFE:=Lib.hid hFe
     have HBB:Hid (BB w wl F (.slice ad i cd) (.slice av i cv) (.slice ad i cd) (.slice av i cv) i i _ _ wl.drew):=Lib.hid ⟨(Frm.refl F wl).drew,hb,HNL.out.rb,ho1,ho2⟩
     clear hb ho1 ho2 hFD hFV hFn hFe hlk hk
     go_upto_region 14 with fail
     refine heldL_start F (wrFrom 13) (by kernel_rfl) ?_
     refine cnt 0 ?_
     iterate 6
      refine hcL ?_ ?_ ?_
      rotate_left
      ·intro w' hC
       obtain⟨⟨x0,x1⟩,x2,x3⟩:=HCF.out w' ((Frm.refl F wl).drew.trans hC)
       clear hC
       go_simp
       try rfl
      try simp only[nrm,Nat.reduceAdd]
     refine tcn ?_
     refine cnt 8 ?_
     iterate 2
      refine hcL ?_ ?_ ?_
      rotate_left
      ·intro w' hC
       obtain⟨⟨x0,x1⟩,x2,x3⟩:=HCF.out w' ((Frm.refl F wl).drew.trans hC)
       clear hC
       go_simp
       try rfl
      try simp only[nrm,Nat.reduceAdd]
     refine tcn ?_
     obtain⟨wd,hwd⟩:∃ wd,wl.drew=wd:=⟨_,rfl⟩
     rw[hwd] at HBB ⊢
     clear hwd
     refine heldL_all (rs:=[6,10]) (by kernel_rfl) (by simp) (allL_cons ?_ (allL_cons ?_ allL_nil))
     ·skip
      refine heldL_step (i:=6) rfl rfl (by rfl) (fun K' hK'=>?_)
      go_simp
      (skip)
      refine hK'.out _ _ ((Frm.refl _ _).alloc _) ?_
      clear hK' K'
      try simp only[nrm]
      have hr6:=heap_alloc_new (wd) (.cells #[.string c.name,.int .i64 c.lim] 244)
      have hb6:=BB.alloc HBB.out (.cells #[.string c.name,.int .i64 c.lim] 244)
      refine heldL_all (rs:=[7,10]) (by kernel_rfl) (by simp) (allL_cons ?_ (allL_cons ?_ allL_nil))
      ·skip
       refine heldL_step (i:=7) rfl rfl (by rfl) (fun K' hK'=>?_)
       refine wp_own_step _ _ 84 rfl (w.heap.size + 2) 244 Tryz.underlying84 hi0 hz0 hz1 hz2 rfl (by decide) (.slice ad i cd) i _ rfl hb6.o1 _ 1 1 [.string c.name,.int .i64 c.lim] rfl rfl (by have:=row_cells hr6;simpa using this) (by simp[Value.oneCell']) (by unfold maxLen;omega) (by omega) (by have:=hb6.fr.size;omega) ?_
       intro d1 X7 ho7 hg7
       have hb7:=BB.app1 hb6 HFD.out hg7 ho7
       obtain⟨a7,c7,hsh7⟩:=own_shape ho7
       subst hsh7
       refine hK'.out _ _ ((Frm.refl F _).grown hg7 (fun k hk=>.inl (HFD.out k hk))) ?_
       clear hK' K'
       try simp only[nrm]
       refine htL 12 ?_ ?_ ?_
       rotate_left
       ·intro w' hC
        clear hC
        go_simp
        try rfl
       try simp only[nrm]
       refine honL 10 ?_
       refine heldL_step (i:=10) rfl rfl (by rfl) (fun K' hK'=>?_)
       go_simp
       (skip)
       refine hK'.out _ _ ((Frm.refl _ _).alloc _) ?_
       clear hK' K'
       try simp only[nrm]
       have hr10:=heap_alloc_new (X7) (.cells #[.int .i64 0] 3)
       have hb10:=BB.alloc hb7 (.cells #[.int .i64 0] 3)
       refine heldL_all (rs:=[11]) (by kernel_rfl) (by simp) (allL_cons ?_ allL_nil)
       refine heldL_step (i:=11) rfl rfl (by rfl) (fun K' hK'=>?_)
       refine wp_own_step _ _ 57 rfl (w.heap.size + 2) 3 Tryz.underlying57 hi1 hy0 hy1 hy2 rfl (by decide) (.slice av i cv) i _ rfl hb10.o2 _ 1 1 [.int .i64 0] rfl rfl (by have:=row_cells hr10;simpa using this) (by simp[Value.oneCell']) (by unfold maxLen;omega) (by omega) (by have:=hb10.fr.size;omega) ?_
       intro v1 X11 ho11 hg11
       have hb11:=BB.app2 hb10 HFV.out hg11 ho11
       obtain⟨a11,c11,hsh11⟩:=own_shape ho11
       subst hsh11
       refine hK'.out _ _ ((Frm.refl F _).grown hg11 (fun k hk=>.inl (HFV.out k hk))) ?_
       clear hK' K'
       try simp only[nrm]
       have HBE:=Lib.hid hb11
       have fp:=free_of HBE.out.p 0
       have fq:=free_of HBE.out.p 1
       have y0:=cell_of HBE.out.p 0
       have y1:=cell_of HBE.out.p 1
       clear hb6 hb7 hb10 hb11 ho7 ho11 hg7 hg11
       refine honL 13 ?_
       refine heldL_write (i:=13) rfl (by rfl) (by rfl) (fun K' hK'=>?_)
       go_simp
       (skip)
       refine hK'.out _ _ ?_
       clear hK' K'
       try simp only[nrm]
       refine honL 14 ?_
       refine heldL_write (i:=14) rfl (by rfl) (by rfl) (fun K' hK'=>?_)
       go_simp
       (skip)
       refine hK'.out _ _ ?_
       clear hK' K'
       try simp only[nrm]
       refine honL 15 ?_
       refine heldL_write (i:=15) rfl (by rfl) (by rfl) (fun K' hK'=>?_)
       go_simp
       (skip)
       refine hK'.out _ _ ?_
       clear hK' K'
       try simp only[nrm]
       refine heldL_done (by kernel_rfl) ?_ _
       go_wp2
       refine⟨⟨i + 1,congrArg (Value.int .i64) (by omega),hlt,?_⟩,by simp[intOf];omega⟩
       refine NI.end HNL.out HB.out (HFE.out ▸ HBE.out.fr) (fun k hk=>ownBlock_ge HO1.out hk) (fun k hk=>ownBlock_ge HO2.out hk) HBE.out.p HBE.out.rb ?_ ?_ rfl
       ·rw[List.take_add_one,HC.out,List.flatMap_append];exact HBE.out.o1
       ·rw[List.replicate_succ'];exact HBE.out.o2
      ·skip
       refine heldL_step (i:=10) rfl rfl (by rfl) (fun K' hK'=>?_)
       go_simp
       (skip)
       refine hK'.out _ _ ((Frm.refl _ _).alloc _) ?_
       clear hK' K'
       try simp only[nrm]
       have hr6:=alloc_at (x:=.cells #[.int .i64 0] 3) hr6
       have hr10:=heap_alloc_new ((wd).alloc (.cells #[.string c.name,.int .i64 c.lim] 244)) (.cells #[.int .i64 0] 3)
       have hb10:=BB.alloc hb6 (.cells #[.int .i64 0] 3)
       refine heldL_all (rs:=[7]) (by kernel_rfl) (by simp) (allL_cons ?_ allL_nil)
       refine heldL_step (i:=7) rfl rfl (by rfl) (fun K' hK'=>?_)
       refine wp_own_step _ _ 84 rfl (w.heap.size + 2) 244 Tryz.underlying84 hi0 hz0 hz1 hz2 rfl (by decide) (.slice ad i cd) i _ rfl hb10.o1 _ 1 1 [.string c.name,.int .i64 c.lim] rfl rfl (by have:=row_cells hr6;simpa using this) (by simp[Value.oneCell']) (by unfold maxLen;omega) (by omega) (by have:=hb10.fr.size;omega) ?_
       intro d1 X7 ho7 hg7
       have hb7:=BB.app1 hb10 HFD.out hg7 ho7
       replace hr10:=(Kt.own hb10.o1 hg7).cells hr10 (by decide)
       obtain⟨a7,c7,hsh7⟩:=own_shape ho7
       subst hsh7
       refine hK'.out _ _ ((Frm.refl F _).grown hg7 (fun k hk=>.inl (HFD.out k hk))) ?_
       clear hK' K'
       try simp only[nrm]
       refine htL 12 ?_ ?_ ?_
       rotate_left
       ·intro w' hC
        clear hC
        go_simp
        try rfl
       try simp only[nrm]
       refine heldL_all (rs:=[11]) (by kernel_rfl) (by simp) (allL_cons ?_ allL_nil)
       refine heldL_step (i:=11) rfl rfl (by rfl) (fun K' hK'=>?_)
       refine wp_own_step _ _ 57 rfl (w.heap.size + 2) 3 Tryz.underlying57 hi1 hy0 hy1 hy2 rfl (by decide) (.slice av i cv) i _ rfl hb7.o2 _ 1 1 [.int .i64 0] rfl rfl (by have:=row_cells hr10;simpa using this) (by simp[Value.oneCell']) (by unfold maxLen;omega) (by omega) (by have:=hb7.fr.size;omega) ?_
       intro v1 X11 ho11 hg11
       have hb11:=BB.app2 hb7 HFV.out hg11 ho11
       obtain⟨a11,c11,hsh11⟩:=own_shape ho11
       subst hsh11
       refine hK'.out _ _ ((Frm.refl F _).grown hg11 (fun k hk=>.inl (HFV.out k hk))) ?_
       clear hK' K'
       try simp only[nrm]
       have HBE:=Lib.hid hb11
       have fp:=free_of HBE.out.p 0
       have fq:=free_of HBE.out.p 1
       have y0:=cell_of HBE.out.p 0
       have y1:=cell_of HBE.out.p 1
       clear hb6 hb7 hb10 hb11 ho7 ho11 hg7 hg11
       refine honL 13 ?_
       refine heldL_write (i:=13) rfl (by rfl) (by rfl) (fun K' hK'=>?_)
       go_simp
       (skip)
       refine hK'.out _ _ ?_
       clear hK' K'
       try simp only[nrm]
       refine honL 14 ?_
       refine heldL_write (i:=14) rfl (by rfl) (by rfl) (fun K' hK'=>?_)
       go_simp
       (skip)
       refine hK'.out _ _ ?_
       clear hK' K'
       try simp only[nrm]
       refine honL 15 ?_
       refine heldL_write (i:=15) rfl (by rfl) (by rfl) (fun K' hK'=>?_)
       go_simp
       (skip)
       refine hK'.out _ _ ?_
       clear hK' K'
       try simp only[nrm]
       refine heldL_done (by kernel_rfl) ?_ _
       go_wp2
       refine⟨⟨i + 1,congrArg (Value.int .i64) (by omega),hlt,?_⟩,by simp[intOf];omega⟩
       refine NI.end HNL.out HB.out (HFE.out ▸ HBE.out.fr) (fun k hk=>ownBlock_ge HO1.out hk) (fun k hk=>ownBlock_ge HO2.out hk) HBE.out.p HBE.out.rb ?_ ?_ rfl
       ·rw[List.take_add_one,HC.out,List.flatMap_append];exact HBE.out.o1
       ·rw[List.replicate_succ'];exact HBE.out.o2
     ·skip
      refine heldL_step (i:=10) rfl rfl (by rfl) (fun K' hK'=>?_)
      go_simp
      (skip)
      refine hK'.out _ _ ((Frm.refl _ _).alloc _) ?_
      clear hK' K'
      try simp only[nrm]
      have hr10:=heap_alloc_new (wd) (.cells #[.int .i64 0] 3)
      have hb10:=BB.alloc HBB.out (.cells #[.int .i64 0] 3)
      refine honL 6 ?_
      refine heldL_step (i:=6) rfl rfl (by rfl) (fun K' hK'=>?_)
      go_simp
      (skip)
      refine hK'.out _ _ ((Frm.refl _ _).alloc _) ?_
      clear hK' K'
      try simp only[nrm]
      have hr10:=alloc_at (x:=.cells #[.string c.name,.int .i64 c.lim] 244) hr10
      have hr6:=heap_alloc_new ((wd).alloc (.cells #[.int .i64 0] 3)) (.cells #[.string c.name,.int .i64 c.lim] 244)
      have hb6:=BB.alloc hb10 (.cells #[.string c.name,.int .i64 c.lim] 244)
      refine heldL_all (rs:=[7]) (by kernel_rfl) (by simp) (allL_cons ?_ allL_nil)
      refine heldL_step (i:=7) rfl rfl (by rfl) (fun K' hK'=>?_)
      refine wp_own_step _ _ 84 rfl (w.heap.size + 2) 244 Tryz.underlying84 hi0 hz0 hz1 hz2 rfl (by decide) (.slice ad i cd) i _ rfl hb6.o1 _ 1 1 [.string c.name,.int .i64 c.lim] rfl rfl (by have:=row_cells hr6;simpa using this) (by simp[Value.oneCell']) (by unfold maxLen;omega) (by omega) (by have:=hb6.fr.size;omega) ?_
      intro d1 X7 ho7 hg7
      have hb7:=BB.app1 hb6 HFD.out hg7 ho7
      replace hr10:=(Kt.own hb6.o1 hg7).cells hr10 (by decide)
      obtain⟨a7,c7,hsh7⟩:=own_shape ho7
      subst hsh7
      refine hK'.out _ _ ((Frm.refl F _).grown hg7 (fun k hk=>.inl (HFD.out k hk))) ?_
      clear hK' K'
      try simp only[nrm]
      refine htL 12 ?_ ?_ ?_
      rotate_left
      ·intro w' hC
       clear hC
       go_simp
       try rfl
      try simp only[nrm]
      refine heldL_all (rs:=[11]) (by kernel_rfl) (by simp) (allL_cons ?_ allL_nil)
      refine heldL_step (i:=11) rfl rfl (by rfl) (fun K' hK'=>?_)
      refine wp_own_step _ _ 57 rfl (w.heap.size + 2) 3 Tryz.underlying57 hi1 hy0 hy1 hy2 rfl (by decide) (.slice av i cv) i _ rfl hb7.o2 _ 1 1 [.int .i64 0] rfl rfl (by have:=row_cells hr10;simpa using this) (by simp[Value.oneCell']) (by unfold maxLen;omega) (by omega) (by have:=hb7.fr.size;omega) ?_
      intro v1 X11 ho11 hg11
      have hb11:=BB.app2 hb7 HFV.out hg11 ho11
      obtain⟨a11,c11,hsh11⟩:=own_shape ho11
      subst hsh11
      refine hK'.out _ _ ((Frm.refl F _).grown hg11 (fun k hk=>.inl (HFV.out k hk))) ?_
      clear hK' K'
      try simp only[nrm]
      have HBE:=Lib.hid hb11
      have fp:=free_of HBE.out.p 0
      have fq:=free_of HBE.out.p 1
      have y0:=cell_of HBE.out.p 0
      have y1:=cell_of HBE.out.p 1
      clear hb6 hb7 hb10 hb11 ho7 ho11 hg7 hg11
      refine honL 13 ?_
      refine heldL_write (i:=13) rfl (by rfl) (by rfl) (fun K' hK'=>?_)
      go_simp
      (skip)
      refine hK'.out _ _ ?_
      clear hK' K'
      try simp only[nrm]
      refine honL 14 ?_
      refine heldL_write (i:=14) rfl (by rfl) (by rfl) (fun K' hK'=>?_)
      go_simp
      (skip)
      refine hK'.out _ _ ?_
      clear hK' K'
      try simp only[nrm]
      refine honL 15 ?_
      refine heldL_write (i:=15) rfl (by rfl) (by rfl) (fun K' hK'=>?_)
      go_simp
      (skip)
      refine hK'.out _ _ ?_
      clear hK' K'
      try simp only[nrm]
      refine heldL_done (by kernel_rfl) ?_ _
      go_wp2
      refine⟨⟨i + 1,congrArg (Value.int .i64) (by omega),hlt,?_⟩,by simp[intOf];omega⟩
      refine NI.end HNL.out HB.out (HFE.out ▸ HBE.out.fr) (fun k hk=>ownBlock_ge HO1.out hk) (fun k hk=>ownBlock_ge HO2.out hk) HBE.out.p HBE.out.rb ?_ ?_ rfl
      ·rw[List.take_add_one,HC.out,List.flatMap_append];exact HBE.out.o1
      ·rw[List.replicate_succ'];exact HBE.out.o2
  ·obtain rfl:n=i:=by omega
   have hge:¬ (n:Int) < (n:Int):=by omega
   obtain⟨ad,cd,av,cv,hb,ho1,ho2⟩:=HNI.out.bx
   have HB:=Lib.hid hb;have HO1:=Lib.hid ho1;have HO2:=Lib.hid ho2
   clear hb ho1 ho2
   go_wp2_with (first
    | (refine wpList_load_whole rfl 159 _ rfl _ rfl _ 159 HB.out _ Tryz.underlying159 rfl (by kernel_rfl) ?_)
    | (refine wpList_store_row rfl 159 _ _ rfl _ _ _ _ rfl rfl HNI.out.rb rfl (by kernel_rfl) (one2 ..) ?_;intro w7 hb7 hf7;have HB7:=Lib.hid hb7;have HF7:=Lib.hid hf7;clear hb7 hf7))
   have hfe:Frm [] w w7:=HNI.out.fr.then HF7.out (by intro x hx;simp at hx;omega)
   have ht:cs.take n=cs:=by rw[← HN.out,List.take_length]
   have o1:=HO1.out
   rw[ht] at o1
   refine bodyPost_ret (results_b2 rfl rfl rfl HB7.out rfl) rfl ⟨_,rfl,_,_,rfl,?_,?_,hfe⟩
   ·rw[HN.out]
    exact own_low (HF7.out.owns o1 (fun k hk hm=>by have:=ownBlock_ge o1 hk;simp at hm;omega)) (by omega)
   ·rw[HN.out]
    exact own_low (HF7.out.owns HO2.out (fun k hk hm=>by have:=ownBlock_ge HO2.out hk;simp at hm;omega)) (by omega)
end Go.Proofs.YtohfkhjlnlahdaaGreat
