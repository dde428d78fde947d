/- Part of the proof. -/
import Derived.Test.YtemjlpahohmajaaGreatJ31
import Derived.Test.YtemjlpahohmajaaGreatJ37
import Derived.Test.YtemjlpahohmajaaGreatJ44
import Derived.Test.YtemjlpahohmajaaGreatJ48
set_option linter.all false
namespace Go.Proofs.YtemjlpahohmajaaGreat
open Go.RowKit Go.BigFrame
set_option maxHeartbeats 2000000 in
set_option maxRecDepth 100000 in
theorem moves_any (v v':Value) (L:List Mv) (w:World) (h:Arr 4 MvAt w v L) (h':Arr 4 MvAt w v' L) (hL:L.length≤1000000):Calls Tryz.prog 23 #[v,v'] w (Ret (.bool true) (Frm [] w)):=by
 obtain⟨ao,cp,rfl⟩:=h.shape
 obtain⟨al,cl,rfl⟩:=h'.shape
 obtain⟨n,hn⟩:∃ n,L.length=n:=⟨_,rfl⟩
 have HN:=Lib.hid hn;have HA:=Lib.hid h;have HB:=Lib.hid h'
 rw[hn] at HA HB hL ⊢
 clear h h' hn
 go_enter Tryz.func23,Tryz.ntmps23
 go_upto_region 4 with fail
 go_loopw [5] (fun s5 wr=>∃ i:Nat,s5=.int .i64 i∧i≤n∧Frm [] w wr) (fun s5 _=>n - (intOf s5).toNat)
 case atStart=>exact⟨0,rfl,Nat.zero_le _,Frm.refl _ _⟩
 case round =>
  obtain⟨i,rfl,hi,hf⟩:=hrel
  have HF:=Lib.hid hf
  clear hf
  by_cases hlt:i < n
  ·have hlt':(i:Int) < (n:Int):=by omega
   obtain⟨m,hm⟩:∃ m,L[i]?=some m:=⟨_,List.getElem?_eq_getElem (by rw[HN.out];exact hlt)⟩
   obtain⟨g1,o1,e1,c1⟩:=HA.out.get hm
   obtain⟨g2,o2,e2,c2⟩:=HB.out.get hm
   subst e1 e2
   have HU:Hid (∀ V,Frm [] wr V→MvAt V g1 (o1 + i * 4) m∧MvAt V g2 (o2 + i * 4) m):=Lib.hid fun V hV=>⟨c1.frm (HF.out.trans hV),c2.frm (HF.out.trans hV)⟩
   clear c1 c2 hm HA HB
   go_upto_region 6 with fail
   refine wp_region_cq (by kernel_rfl) (by kernel_rfl) ?_
   repeat (first
    | go_big_quiet_skip
    | (refine wpQuiet_want (by rfl) (fun K hK=>?_)
       first
        | (refine quiet_move _ (by rfl) (hK _ ?_))
        | (refine quiet_assign _ (by rfl) (hK _ ?_))
        | (apply Exists.intro
           refine⟨fun w' hC=>?_,hK _ ?_⟩
           ·(unfold Oper.quietAt
             obtain⟨⟨x0,x1,x2,x3⟩,⟨y0,y1,y2,y3⟩⟩:=HU.out w' hC
             clear hC
             go_simp
             try exact⟨rfl,rfl⟩
             try rfl))
       clear hK K
       try simp only[nrm,Act.eval,nrq]))
   refine wpQuiet_nil ?_
   intro w2 hf2
   have HF2:=Lib.hid (HF.out.trans hf2)
   clear hf2
   go_wp2
   exact⟨⟨i + 1,congrArg (Value.int .i64) (by omega),hlt,HF2.out⟩,by simp[intOf];omega⟩
  ·have hge:¬ (i:Int) < (n:Int):=by omega
   go_wp2
   go_ret
   exact⟨rfl,HF.out⟩
end Go.Proofs.YtemjlpahohmajaaGreat
namespace Go.Proofs.YtemjlpahohmajaaGreat
open Go.RowKit Go.BigFrame
set_option maxHeartbeats 4000000 in
set_option maxRecDepth 100000 in
theorem yTrace_any (s:SesD) (N:List Nd) (wh:Bool) (lim nn:Nat) (hsi:SI s lim nn N) (hN:N.length≤100000):∀ (i:Nat) (d:Nd) (v:Value) (w:World),N[i]?=some d→YsV w s v N wh →
  Calls Tryz.prog 24 #[v,.int .i64 i] w (RetV fun u w'=>RmO w u (traceP N i) w'∧Frm [] w w'):=by
 have HSI:=Lib.hid hsi
 clear hsi
 intro i
 induction i using Nat.strongRecOn with
 | _ i ih =>
 intro d v w hd h
 have HI:=Lib.hid ih
 clear ih
 obtain⟨a0,c0,a1,c1,a2,c2,a3,c3,rfl,q0,q1,h1,h2⟩:=id h.out
 have HV:=Lib.hid h
 obtain⟨n,hn⟩:∃ n,N.length=n:=⟨_,rfl⟩
 have HN:=Lib.hid hn
 rw[hn] at h1 h2 hN HV ⊢
 have HA:=Lib.hid h1;have HM:=Lib.hid h2
 obtain⟨W0,hW0⟩:∃ W0,w.alloc (.cells #[.slice a0 n c0,.slice a1 n c1,.slice a2 n c2,.slice a3 n c3,.bool wh] 39)=W0:=⟨_,rfl⟩
 have HF0:Hid (Frm [] w W0):=Lib.hid (by rw[← hW0];exact(Frm.refl _ _).alloc _)
 have HB:Hid (W0.heap[w.heap.size]?=some (.cells #[.slice a0 n c0,.slice a1 n c1,.slice a2 n c2,.slice a3 n c3,.bool wh] 39 (0,0))):=Lib.hid (by rw[← hW0];exact heap_alloc_new _ _)
 have HE:=Lib.hid hW0
 have HD:=Lib.hid hd
 have hin:i < n:=by have:=lt_of_some hd;omega
 have HIN:=Lib.hid hin
 have hin':(i:Int) < (n:Int):=by omega
 obtain⟨g1,o1,e1,k1⟩:=h1.get (show (N.map Nd.par)[i]?=some d.par by rw[List.getElem?_map,hd];rfl)
 obtain⟨g2,o2,e2,k2⟩:=h2.get (show (N.map Nd.mv)[i]?=some d.mv by rw[List.getElem?_map,hd];rfl)
 subst e1 e2
 have k1':w.cell? ⟨g1,o1 + i * 1,none⟩=some (.int .i64 d.par):=k1
 rw[Nat.mul_one] at k1'
 have HK1:=Lib.hid k1';have HK2:=Lib.hid k2
 clear h h1 h2 hn hW0 hd k1 k2 k1' q0 q1
 go_enter Tryz.func24,Tryz.ntmps24
 go_upto_region 1 with (first | (refine wpList_box_row rfl 39 _ rfl _ rfl ?_;rw[HE.out]))
 clear HE
 have x2:=cell_of HB.out 2
 have p1:=HF0.out.keep HK1.out
 rcases Nat.eq_zero_or_pos i with h0 | h0
 ·subst h0
  have h9:=HSI.out.one
  rw[HD.out] at h9
  cases h9
  have hp:(nd0 s).par=-1:=rfl
  rw[hp,Nat.add_zero] at p1
  clear hp
  go_wp2
  go_ret
  refine⟨_,rfl,?_,HF0.out⟩
  rw[trace_zero HSI.out]
  exact World.ownsRow_nil _ _ _ _
 ·obtain⟨p,b,e1,e2,e3,-⟩:=HSI.out.par i d HD.out h0
  have HT:=Lib.hid (trace_step HSI.out HD.out e1 e2)
  have HPI:=Lib.hid e2
  rw[e1] at p1 HK1
  have hge:¬ ((p:Int) < 0):=by omega
  have CT:=Lib.hid (fun V (hV:Frm [] w V)=>HI.out p e2 b _ V e3 (HV.out.frm hV))
  clear HI e1 e2 e3
  go_upto_region 3 with fail
  clear x2 p1 hge
  have HCT:Hid (∀ V,Frm [] W0 V→(V.cell? ⟨w.heap.size,0,none⟩=some (.slice a0 n c0)∧V.cell? ⟨w.heap.size,1,none⟩=some (.slice a1 n c1)∧V.cell? ⟨w.heap.size,2,none⟩=some (.slice (some ⟨g1,o1,none⟩) n c2)∧V.cell? ⟨w.heap.size,3,none⟩=some (.slice (some ⟨g2,o2,none⟩) n c3)∧V.cell? ⟨w.heap.size,4,none⟩=some (.bool wh)) ∧
    V.cell? ⟨g1,o1 + i,none⟩=some (.int .i64 (p:Nat))∧MvAt V g2 (o2 + i * 4) d.mv):=Lib.hid fun V hV=>by
   have hb:=hV.at HB.out (by simp)
   exact⟨⟨cell_of hb 0,cell_of hb 1,cell_of hb 2,cell_of hb 3,cell_of hb 4⟩,(HF0.out.trans hV).keep HK1.out,HK2.out.frm (HF0.out.trans hV)⟩
  obtain⟨T,hT⟩:∃ T,traceP N p=T:=⟨_,rfl⟩
  have HTL:Hid (T.length≤200000):=Lib.hid (by
   rw[← hT]
   have h1:=trc_len (N:=N) (p + 1) p
   have h2:traceP N p=trc N (p + 1) p:=rfl
   rw[h2]
   have:=HIN.out;have:=HPI.out
   omega)
  rw[hT] at CT HT
  obtain⟨i0,hi0,hz0,hz1,hz2⟩:=info_parts Tryz.infoRm
  clear hT
  refine heldL_start [] (wrFrom 13) (by kernel_rfl) ?_
  refine htP 1 ?_ ?_ ?_
  rotate_left
  ·intro w'
   go_simp
   try rfl
  try simp only[nrm]
  refine htP 3 ?_ ?_ ?_
  rotate_left
  ·intro w'
   go_simp
   try rfl
  try simp only[nrm]
  refine htP 7 ?_ ?_ ?_
  rotate_left
  ·intro w'
   go_simp
   try rfl
  try simp only[nrm]
  refine htP 9 ?_ ?_ ?_
  rotate_left
  ·intro w'
   go_simp
   try rfl
  try simp only[nrm]
  refine htL 0 ?_ ?_ ?_
  rotate_left
  ·intro w' hC
   obtain⟨⟨x0,x1,x2,x3,x4⟩,p1,⟨m0,m1,m2,m3⟩⟩:=HCT.out w' ((Frm.refl [] W0).drew.trans hC)
   clear hC
   go_simp
   try rfl
  try simp only[nrm]
  refine htL 2 ?_ ?_ ?_
  rotate_left
  ·intro w' hC
   obtain⟨⟨x0,x1,x2,x3,x4⟩,p1,⟨m0,m1,m2,m3⟩⟩:=HCT.out w' ((Frm.refl [] W0).drew.trans hC)
   clear hC
   go_simp
   try rfl
  try simp only[nrm]
  refine cnt 4 ?_
  iterate 2
   refine hcL ?_ ?_ ?_
   rotate_left
   ·intro w' hC
    obtain⟨⟨x0,x1,x2,x3,x4⟩,p1,⟨m0,m1,m2,m3⟩⟩:=HCT.out w' ((Frm.refl [] W0).drew.trans hC)
    clear hC
    go_simp
    try rfl
   try simp only[nrm,Nat.reduceAdd]
  refine tcn ?_
  refine htL 8 ?_ ?_ ?_
  rotate_left
  ·intro w' hC
   obtain⟨⟨x0,x1,x2,x3,x4⟩,p1,⟨m0,m1,m2,m3⟩⟩:=HCT.out w' ((Frm.refl [] W0).drew.trans hC)
   clear hC
   go_simp
   try rfl
  try simp only[nrm]
  refine cnt 10 ?_
  iterate 2
   refine hcL ?_ ?_ ?_
   rotate_left
   ·intro w' hC
    obtain⟨⟨x0,x1,x2,x3,x4⟩,p1,⟨m0,m1,m2,m3⟩⟩:=HCT.out w' ((Frm.refl [] W0).drew.trans hC)
    clear hC
    go_simp
    try rfl
   try simp only[nrm,Nat.reduceAdd]
  refine tcn ?_
  obtain⟨wd,hwd⟩:∃ wd,W0.drew=wd:=⟨_,rfl⟩
  have HFD:Hid (Frm [] w wd):=Lib.hid (by rw[← hwd];exact HF0.out.drew)
  rw[hwd]
  clear hwd
  refine heldL_all (rs:=[6,12]) (by kernel_rfl) (by simp) (allL_cons ?_ (allL_cons ?_ allL_nil))
  ·skip
   refine heldL_step (i:=6) rfl rfl (by rfl) (fun K' hK'=>?_)
   go_simp
   (refine(CT.out wd HFD.out).mono ?_;rintro e w1 ⟨u,rfl,ho,hf⟩;obtain⟨au,cu,hsh⟩:=own_shape ho;subst hsh;have HO:=Lib.hid ho;have HF1:=Lib.hid hf;clear ho)
   refine hK'.out _ _ (hf) ?_
   clear hK' K'
   try simp only[nrm]
   refine honL 12 ?_
   refine heldL_step (i:=12) rfl rfl (by rfl) (fun K' hK'=>?_)
   go_simp
   (skip)
   refine hK'.out _ _ ((Frm.refl _ _).alloc _) ?_
   clear hK' K'
   try simp only[nrm]
   have hr:=heap_alloc_new w1 (.cells #[.int .i64 d.mv.kind,.int .i64 d.mv.role,.int .i64 d.mv.step,.int .i64 d.mv.place] 129)
   have ho2:=(own_low HO.out HFD.out.size).alloc (.cells #[.int .i64 d.mv.kind,.int .i64 d.mv.role,.int .i64 d.mv.step,.int .i64 d.mv.place] 129)
   have FR:Hid (Frm [] w (w1.alloc (.cells #[.int .i64 d.mv.kind,.int .i64 d.mv.role,.int .i64 d.mv.step,.int .i64 d.mv.place] 129))):=Lib.hid ((HFD.out.trans HF1.out).alloc _)
   refine honL 13 ?_
   refine heldL_write (i:=13) rfl (by rfl) (by rfl) (fun K' hK'=>?_)
   refine wp_own_step _ _ 37 rfl w.heap.size 129 Tryz.underlying37 hi0 hz0 hz1 hz2 rfl (by decide) (.slice au T.length cu) T.length (mvC T) rfl ho2 _ 1 1 (mvC1 d.mv) rfl rfl (by have:=row_cells hr;simpa[mvC1] using this) (by simp[mvC1,Value.oneCell']) (by have:=HTL.out;unfold maxLen;omega) (by have:=HTL.out;omega) (by have:=FR.out.size;omega) ?_
   intro v' w3 h9 hg;have HO9:=Lib.hid h9;have HG9:=Lib.hid hg;obtain⟨a9,c9,hsh9⟩:=own_shape h9;subst hsh9;clear h9 hg
   refine hK'.out _ _ ?_
   clear hK' K'
   try simp only[nrm]
   refine honL 14 ?_
   refine heldL_write (i:=14) rfl (by rfl) (by rfl) (fun K' hK'=>?_)
   go_simp
   (skip)
   refine hK'.out _ _ ?_
   clear hK' K'
   try simp only[nrm]
   refine heldL_done (by kernel_rfl) ?_ _
   go_wp2
   go_ret
   refine⟨_,rfl,?_,FR.out.grown HG9.out (fun k hk=>.inr (ownBlock_ge ho2 hk))⟩
   rw[HT.out]
   exact RmO.add d.mv HO9.out
  ·skip
   refine heldL_step (i:=12) rfl rfl (by rfl) (fun K' hK'=>?_)
   go_simp
   (skip)
   refine hK'.out _ _ ((Frm.refl _ _).alloc _) ?_
   clear hK' K'
   try simp only[nrm]
   have hr:=heap_alloc_new wd (.cells #[.int .i64 d.mv.kind,.int .i64 d.mv.role,.int .i64 d.mv.step,.int .i64 d.mv.place] 129)
   obtain⟨wa,hwa⟩:∃ wa,wd.alloc (.cells #[.int .i64 d.mv.kind,.int .i64 d.mv.role,.int .i64 d.mv.step,.int .i64 d.mv.place] 129)=wa:=⟨_,rfl⟩
   have HFA:Hid (Frm [] w wa):=Lib.hid (by rw[← hwa];exact HFD.out.alloc _)
   rw[hwa] at hr ⊢
   clear hwa
   refine honL 6 ?_
   refine heldL_step (i:=6) rfl rfl (by rfl) (fun K' hK'=>?_)
   go_simp
   (refine(CT.out wa HFA.out).mono ?_;rintro e w1 ⟨u,rfl,ho,hf⟩;obtain⟨au,cu,hsh⟩:=own_shape ho;subst hsh;have HO:=Lib.hid ho;have HF1:=Lib.hid hf;clear ho)
   refine hK'.out _ _ (hf) ?_
   clear hK' K'
   try simp only[nrm]
   have hr2:=HF1.out.at hr (by simp)
   have ho2:=own_low HO.out HFA.out.size
   have FR:Hid (Frm [] w w1):=Lib.hid (HFA.out.trans HF1.out)
   refine honL 13 ?_
   refine heldL_write (i:=13) rfl (by rfl) (by rfl) (fun K' hK'=>?_)
   refine wp_own_step _ _ 37 rfl w.heap.size 129 Tryz.underlying37 hi0 hz0 hz1 hz2 rfl (by decide) (.slice au T.length cu) T.length (mvC T) rfl ho2 _ 1 1 (mvC1 d.mv) rfl rfl (by have:=row_cells hr2;simpa[mvC1] using this) (by simp[mvC1,Value.oneCell']) (by have:=HTL.out;unfold maxLen;omega) (by have:=HTL.out;omega) (by have:=FR.out.size;omega) ?_
   intro v' w3 h9 hg;have HO9:=Lib.hid h9;have HG9:=Lib.hid hg;obtain⟨a9,c9,hsh9⟩:=own_shape h9;subst hsh9;clear h9 hg
   refine hK'.out _ _ ?_
   clear hK' K'
   try simp only[nrm]
   refine honL 14 ?_
   refine heldL_write (i:=14) rfl (by rfl) (by rfl) (fun K' hK'=>?_)
   go_simp
   (skip)
   refine hK'.out _ _ ?_
   clear hK' K'
   try simp only[nrm]
   refine heldL_done (by kernel_rfl) ?_ _
   go_wp2
   go_ret
   refine⟨_,rfl,?_,FR.out.grown HG9.out (fun k hk=>.inr (ownBlock_ge ho2 hk))⟩
   rw[HT.out]
   exact RmO.add d.mv HO9.out
end Go.Proofs.YtemjlpahohmajaaGreat
