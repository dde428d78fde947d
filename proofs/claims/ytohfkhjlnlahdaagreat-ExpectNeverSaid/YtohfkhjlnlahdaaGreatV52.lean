/- Part of the proof. -/
import Derived.Test.YtohfkhjlnlahdaaGreatV48
import Derived.Test.YtohfkhjlnlahdaaGreatV51
set_option linter.all false
namespace Go.Proofs.YtohfkhjlnlahdaaGreat
open Go.RowKit Go.BigFrame
theorem sm_12 {s:SesD} (h:large6B s=false):s.roles.length≤4∧∀ r∈s.roles,r.steps.length≤12:=by
 unfold large6B at h
 simp only[Bool.or_eq_false_iff,decide_eq_false_iff_not,List.any_eq_false] at h
 obtain⟨⟨h1,-⟩,h3⟩:=h
 refine⟨by omega,fun r hr=>?_⟩
 have hb:=h3 r hr
 unfold rolBig6 at hb
 simp only[Bool.or_eq_true,decide_eq_true_eq,List.any_eq_true,not_or,not_exists,not_and] at hb
 obtain⟨⟨⟨⟨b1,b2⟩,b3⟩,b4⟩,b5⟩:=hb
 omega
set_option maxHeartbeats 4000000 in
set_option maxRecDepth 100000 in
theorem enever_any (v:Value) (s:SesD) (w:World) (h:SesV w v s):Calls Tryz.prog 4 #[v] w (Ret (.bool true) (Frm [] w)):=by
 have HSV:=Lib.hid h
 obtain⟨rv,rfl,hr⟩:=h
 obtain⟨ao,cap,rfl⟩:=hr.shape
 obtain⟨n,hn⟩:∃ n,s.roles.length=n:=⟨_,rfl⟩
 rw[hn] at HSV ⊢
 obtain⟨W0,hW0⟩:∃ W0,w.alloc (.cells #[.string s.name,.slice ao n cap,.int .i64 s.cls,.int .i64 s.cap] 25)=W0:=⟨_,rfl⟩
 have hf0:Frm [] w W0:=by rw[← hW0];exact(Frm.refl _ _).alloc _
 have HF0:=Lib.hid hf0
 have hb0:W0.heap[w.heap.size]?=some (.cells #[.string s.name,.slice ao n cap,.int .i64 s.cls,.int .i64 s.cap] 25 (0,0)):=by rw[← hW0];exact heap_alloc_new _ _
 have HB0:=Lib.hid (fun V (hV:Frm [] W0 V)=>hV.at hb0 (by simp))
 have CK:Hid (∀ V,Calls Tryz.prog 15 #[] V (Ret (.bool true) (Frm [] V))):=Lib.hid known36_any
 have HE:=Lib.hid hW0
 have CM:=Lib.hid (small36_any _ s W0 (HSV.out.frm hf0))
 clear hr hf0 hb0 hW0 hn
 go_enter Tryz.func4,Tryz.ntmps4
 go_upto_region 1 with (first | (refine wpList_box_row rfl 25 _ rfl _ rfl ?_;rw[HE.out]))
 clear HE
 cases hlg:large6B s with
 | true =>
   rw[hlg] at CM
   go_wp2_with (first
    | (refine wpList_load_whole rfl 25 _ rfl _ rfl _ 25 (HB0.out _ (Frm.refl _ _)) _ Tryz.underlying25 rfl (by kernel_rfl) ?_)
    | (go_at_call 22;go_must (refine CM.out.mono ?_;rintro e w1 ⟨rfl,hf⟩;have HF1:=Lib.hid hf;clear hf CM))
    | (go_at_call 15;go_must (refine(CK.out _).mono ?_;rintro e wk ⟨rfl,hf'⟩;have HFK:=Lib.hid (HF1.out.trans hf');clear hf')))
   go_ret
   exact⟨rfl,HF0.out.trans HFK.out⟩
 | false =>
   have HSM:=Lib.hid (sm_12 hlg)
   rw[hlg] at CM
   clear hlg
   go_upto_region 3 with (first
    | (refine wpList_load_whole rfl 25 _ rfl _ rfl _ 25 (HB0.out _ (Frm.refl _ _)) _ Tryz.underlying25 rfl (by kernel_rfl) ?_)
    | (go_at_call 22;go_must (refine CM.out.mono ?_;rintro e w1 ⟨rfl,hf⟩;have HF1:=Lib.hid hf;clear hf CM)))
   have HCT:Hid (∀ V,Frm [] w1 V→V.cell? ⟨w.heap.size,0,none⟩=some (.string s.name)∧V.cell? ⟨w.heap.size,1,none⟩=some (.slice ao n cap)∧V.cell? ⟨w.heap.size,2,none⟩=some (.int .i64 s.cls)∧V.cell? ⟨w.heap.size,3,none⟩=some (.int .i64 s.cap)):=Lib.hid fun V hV=>by
    have hb:=HB0.out V (HF1.out.trans hV)
    exact⟨cell_of hb 0,cell_of hb 1,cell_of hb 2,cell_of hb 3⟩
   have CN:=Lib.hid (fun V (hV:Frm [] w1 V)=>xpNever_any s (.agg #[.string s.name,.slice ao n cap,.int .i64 s.cls,.int .i64 s.cap]) V (HSV.out.frm (HF0.out.trans (HF1.out.trans hV))) HSM.out.1 HSM.out.2)
   have CZ:=Lib.hid (fun V (hV:Frm [] w1 V)=>zNever_any s (.agg #[.string s.name,.slice ao n cap,.int .i64 s.cls,.int .i64 s.cap]) V (HSV.out.frm (HF0.out.trans (HF1.out.trans hV))) HSM.out.1 HSM.out.2)
   have HLN:Hid ((neverP s).length≤1000000):=Lib.hid (by
    have h9:=nevRoles_len (s:=s) HSM.out.2 HSM.out.1 s.roles.length (Nat.le_refl _)
    have h8:=HSM.out.1
    unfold neverP
    omega)
   refine heldG_start (by kernel_rfl) ?_
   refine tkG 0 ?_ ?_ ?_
   rotate_left
   ·intro w' hC
    obtain⟨x0,x1,x2,x3⟩:=HCT.out w' ((Frm.refl [] w1).drew.trans hC)
    clear hC
    go_simp
    try rfl
   try simp only[nrm]
   refine tkG 2 ?_ ?_ ?_
   rotate_left
   ·intro w' hC
    obtain⟨x0,x1,x2,x3⟩:=HCT.out w' ((Frm.refl [] w1).drew.trans hC)
    clear hC
    go_simp
    try rfl
   try simp only[nrm]
   obtain⟨wd,hwd⟩:∃ wd,w1.drew=wd:=⟨_,rfl⟩
   have HFD:Hid (Frm [] w1 wd):=Lib.hid (by rw[← hwd];exact(Frm.refl [] w1).drew)
   rw[hwd]
   clear hwd
   refine stG 1 (fun K' hK'=>?_)
   go_simp
   (refine(CN.out _ HFD.out).mono ?_;rintro e w2 ⟨u,rfl,ho,hf⟩;obtain⟨a1,k1,hsh⟩:=own_shape ho;subst hsh;have HO1:=Lib.hid (su_arr ho);have HF2:=Lib.hid (HFD.out.trans hf);clear ho)
   refine hK'.out _ _ (hf) ?_
   clear hK' K'
   try simp only[nrm]
   refine stG 3 (fun K' hK'=>?_)
   go_simp
   (refine(CZ.out _ HF2.out).mono ?_;rintro e w3 ⟨u,rfl,ho,hf⟩;obtain⟨a2,k2,hsh⟩:=own_shape ho;subst hsh;have HO2:=Lib.hid (rsu_arr ho);have HO13:=Lib.hid (HO1.out.frm fun _ _ _ h=>h.frm hf);have HF3:=Lib.hid (HF2.out.trans hf);clear ho)
   refine hK'.out _ _ (hf) ?_
   clear hK' K'
   try simp only[nrm]
   refine stG 4 (fun K' hK'=>?_)
   go_simp
   (refine(same36_any _ _ (neverP s) w3 HO13.out HO2.out HLN.out).mono ?_;rintro e w4 ⟨rfl,hf⟩;have HF4:=Lib.hid (HF3.out.trans hf))
   refine hK'.out _ _ (hf) ?_
   clear hK' K'
   try simp only[nrm]
   refine tkG 5 ?_ ?_ ?_
   rotate_left
   ·intro w' hC
    clear hC
    go_simp
    try rfl
   try simp only[nrm]
   refine stG 6 (fun K' hK'=>?_)
   go_simp
   (refine(CK.out _).mono ?_;rintro e w5 ⟨rfl,hf⟩;have HF5:=Lib.hid (HF4.out.trans hf))
   refine hK'.out _ _ (hf) ?_
   clear hK' K'
   try simp only[nrm]
   refine cnt 7 ?_
   iterate 2
    refine tcG ?_ ?_ ?_
    rotate_left
    ·intro w' hC
     clear hC
     go_simp
     try rfl
    try simp only[nrm,Nat.reduceAdd]
   refine tcn ?_
   refine wpAnyH_done (by kernel_rfl) ?_ _
   go_wp2
   go_ret
   exact⟨rfl,HF0.out.trans (HF1.out.trans HF5.out)⟩
end Go.Proofs.YtohfkhjlnlahdaaGreat
