/- Part of the proof. -/
import Derived.Test.YtemjlpahohmajaaGreatK46
import Derived.Test.YtemjlpahohmajaaGreatK29
set_option linter.all false
namespace Go.Proofs.YtemjlpahohmajaaGreat
open Go.RowKit Go.BigFrame
attribute [local go_sem] Oper.semAt_some
set_option maxHeartbeats 4000000 in
set_option maxRecDepth 100000 in
theorem xpFirst_err {yo:Option Addr} (lim e9:Int) (w:World) (he:e9≠0) (hc:∀ V,Frm [] w V→Calls Tryz.prog 11 #[.pointer yo,.int .i64 lim] V (RetV fun v w'=>v=.tuple #[.pointer none,.int .i64 e9]∧Frm [] V w')) :
  Calls Tryz.prog 28 #[.pointer yo,.int .i64 lim] w (RetV fun v w'=>v=.tuple #[.slice none 0 0,suZ,.bool false,.int .i64 e9]∧Frm [] w w'):=by
 obtain⟨W0,hW0⟩:∃ W0,(((w.alloc (.cells #[.slice none 0 0] 49)).alloc (.cells #[.int .i64 0,.int .i64 0,.string { data:=#[] }] 63)).alloc (.cells #[.bool false] 4)).alloc (.cells #[.int .i64 0] 31)=W0:=⟨_,rfl⟩
 obtain⟨r7,h7⟩:∃ b,w.heap.size + 1 + 1 + 1=b:=⟨_,rfl⟩
 obtain⟨r6,h6⟩:∃ b,w.heap.size + 1 + 1=b:=⟨_,rfl⟩
 obtain⟨r5,h5⟩:∃ b,w.heap.size + 1=b:=⟨_,rfl⟩
 obtain⟨r4,h4⟩:∃ b,w.heap.size=b:=⟨_,rfl⟩
 have HB0:Hid (FsB w r4 r5 r6 r7 (.slice none 0 0) #[.int .i64 0,.int .i64 0,.string { data:=#[] }] false 0 W0):=Lib.hid (by
  rw[← hW0,← h4,← h5,← h6,← h7]
  exact⟨((((Frm.refl _ _).alloc _).alloc _).alloc _).alloc _,alloc_at (alloc_at (alloc_at (heap_alloc_new _ _))),alloc_at (alloc_at (alloc_top (by simp))),alloc_at (alloc_top (by simp)),alloc_top (by simp),Nat.le_refl _,by omega,by omega,by omega⟩)
 have CS:=Lib.hid (hc W0 HB0.out.fr)
 have HE:=Lib.hid hW0;have H4:=Lib.hid h4;have H5:=Lib.hid h5;have H6:=Lib.hid h6;have H7:=Lib.hid h7
 have hb:(e9 != 0)=true:=by simpa using he
 have hb2:(e9 == 0)=false:=by simpa using he
 clear hc hW0 h4 h5 h6 h7 he
 refine calls_of_marks Tryz.func28 rfl ?_
 simp only[Tryz.ntmps28,List.size_toArray,List.length_cons,List.length_nil,Nat.reduceAdd,Nat.reduceSub,Array.replicate_succ,Array.replicate_zero,List.push_toArray,List.append_toArray,List.nil_append,List.cons_append]
 go_upto_region 1 with fail
 rw[HE.out,H7.out,H6.out,H5.out,H4.out]
 clear HE H7 H6 H5 H4
 go_upto_region 2 with (first
  | (go_at_call 11;go_must (refine CS.out.mono ?_;rintro e w1 ⟨v,rfl,rfl,hf⟩;have HB1:=Lib.hid (HB0.out.frm hf);clear hf CS;have e7:=cell_of (HB1.out.frm ((Frm.refl [] w1).alloc (.cells #[.pointer none] 30))).e 0;have f7:=free_of (HB1.out.frm ((Frm.refl [] w1).alloc (.cells #[.pointer none] 30))).e 0)))
 obtain⟨V,hV⟩:∃ V,(w1.alloc (.cells #[.pointer none] 30)).setCell ⟨r7,0,none⟩ (.int .i64 e9)=V:=⟨_,rfl⟩
 have HBv:Hid (FsB w r4 r5 r6 r7 (.slice none 0 0) #[.int .i64 0,.int .i64 0,.string { data:=#[] }] false e9 V):=Lib.hid (by rw[← hV];exact(HB1.out.frm ((Frm.refl _ _).alloc _)).setE e9)
 rw[hV]
 clear hV e7 f7
 have x4:=cell_of HBv.out.t 0
 have y4:=free_of HBv.out.t 0
 have x50:=cell_of HBv.out.x 0
 have x51:=cell_of HBv.out.x 1
 have x52:=cell_of HBv.out.x 2
 have y50:=free_of HBv.out.x 0
 have y51:=free_of HBv.out.x 1
 have y52:=free_of HBv.out.x 2
 have x6:=cell_of HBv.out.f 0
 have y6:=free_of HBv.out.f 0
 have x7:=cell_of HBv.out.e 0
 have y7:=free_of HBv.out.e 0
 obtain⟨n45,n46,n47,n56,n57,n67⟩:=HBv.out.nes
 have n54:=n45.symm
 have n64:=n46.symm
 have n74:=n47.symm
 have n65:=n56.symm
 have n75:=n57.symm
 have n76:=n67.symm
 go_upto_region 3 with fail
 go_region
 obtain⟨Vf,hVf⟩:∃ Vf,Vf=((((((V.setCell ⟨r4,0,none⟩ (.slice none 0 0)).setCell ⟨r5,0,none⟩ (.int .i64 0)).setCell ⟨r5,1,none⟩ (.int .i64 0)).setCell ⟨r5,2,none⟩ (.string { data:=#[] })).setCell ⟨r6,0,none⟩ (.bool false)).setCell ⟨r7,0,none⟩ (.int .i64 e9)).drew:=⟨_,rfl⟩
 obtain⟨g1,g2⟩:=HBv.out.put rfl _ _ _ _ _ _ hVf
 have HG1:=Lib.hid g1
 rw[← hVf]
 clear hVf g1 g2 x4 y4 x50 x51 x52 y50 y51 y52 x6 y6 x7 y7
 go_wp2
 exact leaves_none ⟨_,HG1.out.res rfl rfl rfl rfl rfl,_,rfl,rfl,HG1.out.fr⟩
theorem xpFirst_no {yo:Option Addr} (lim:Int) (w:World) (h:NoY w yo):Calls Tryz.prog 28 #[.pointer yo,.int .i64 lim] w (RetV fun v w'=>v=.tuple #[.slice none 0 0,suZ,.bool false,.int .i64 1]∧Frm [] w w'):=
 xpFirst_err lim 1 w (by decide) fun V hV=>xSearch_no lim V (h.frm hV)
end Go.Proofs.YtemjlpahohmajaaGreat
