/- Part of the proof. -/
import Derived.Test.YtemjlpahohmajaaGreatK46
import Derived.Deep.OwnRows
import Derived.Test.YtemjlpahohmajaaGreatK29
set_option linter.all false
namespace Go.Proofs.YtemjlpahohmajaaGreat
open Go.RowKit Go.BigFrame
theorem us_resE {V:World} {ob n c:Nat} {ao:Option Addr} {e:Int} {fn:Func} {tmps:Array Value} (h:V.heap[ob]?=some (.cells #[.slice ao n c] 78 (0,0))) (hf:fn.results=#[.cell 4 78,.tmp 5])
  (h4:tmps.getD 4 undef=.pointer (some ⟨ob,0,none⟩)) (h5:tmps.getD 5 undef=.int .i64 e):(results fn tmps).run Tryz.prog V=.ok (.tuple #[.slice ao n c,.int .i64 e]) V:=by
 have h4':tmps[4]?.getD undef=.pointer (some ⟨ob,0,none⟩):=by simpa using h4
 have h5':tmps[5]?.getD undef=.int .i64 e:=by simpa using h5
 have c4:=cell_of h 0
 simp at c4
 simp[results,hf,h4',h5',asAddr,c4,go_sem]
attribute [local go_sem] Oper.semAt_some
set_option maxHeartbeats 4000000 in
set_option maxRecDepth 100000 in
theorem xpUsed_err {yo:Option Addr} (lim e9:Int) (w:World) (he:e9≠0) (hc:∀ V,Frm [] w V→Calls Tryz.prog 11 #[.pointer yo,.int .i64 lim] V (RetV fun v w'=>v=.tuple #[.pointer none,.int .i64 e9]∧Frm [] V w')) :
  Calls Tryz.prog 34 #[.pointer yo,.int .i64 lim] w (RetV fun v w'=>v=.tuple #[.slice none 0 0,.int .i64 e9]∧Frm [] w w'):=by
 obtain⟨W0,hW0⟩:∃ W0,(w.alloc (.cells #[.pointer yo] 26)).alloc (.cells #[.slice none 0 0] 78)=W0:=⟨_,rfl⟩
 obtain⟨r4,h4⟩:∃ b,w.heap.size + 1=b:=⟨_,rfl⟩
 obtain⟨r2,h3⟩:∃ b,w.heap.size=b:=⟨_,rfl⟩
 have HF0:Hid (Frm [] w W0):=Lib.hid (by rw[← hW0];exact((Frm.refl _ _).alloc _).alloc _)
 have HQ2:Hid (W0.heap[r2]?=some (.cells #[.pointer yo] 26 (0,0))):=Lib.hid (by rw[← hW0,← h3];exact alloc_at (heap_alloc_new _ _))
 have HQ4:Hid (W0.heap[r4]?=some (.cells #[.slice none 0 0] 78 (0,0))):=Lib.hid (by rw[← hW0,← h4];exact alloc_top (by simp))
 have CS:=Lib.hid (hc W0 HF0.out)
 have HE:=Lib.hid hW0;have H4:=Lib.hid h4;have H3:=Lib.hid h3
 have hb:(e9 != 0)=true:=by simpa using he
 have hb2:(e9 == 0)=false:=by simpa using he
 clear hc hW0 h4 h3 he
 refine calls_of_marks Tryz.func34 rfl ?_
 simp only[Tryz.ntmps34,List.size_toArray,List.length_cons,List.length_nil,Nat.reduceAdd,Nat.reduceSub,Array.replicate_succ,Array.replicate_zero,List.push_toArray,List.append_toArray,List.nil_append,List.cons_append]
 go_upto_region 1 with fail
 rw[HE.out,H4.out,H3.out]
 clear HE H4 H3
 have c2:=cell_of HQ2.out 0
 go_upto_region 2 with (first
  | (go_at_call 11;go_must (refine CS.out.mono ?_;rintro e w1 ⟨v,rfl,rfl,hf⟩;have HF1:=Lib.hid hf;clear hf CS c2)))
 have HB1:=Lib.hid (HF1.out.at HQ4.out (by simp))
 have x4:=cell_of HB1.out 0
 have f4:=free_of HB1.out 0
 have hsm:=setCell_same (w:=w1) (b:=r4) (o:=0) (v:=.slice none 0 0) HB1.out rfl
 go_wp2
 exact leaves_none ⟨_,us_resE HB1.out rfl rfl rfl,_,rfl,rfl,HF0.out.trans HF1.out⟩
theorem xpUsed_no {yo:Option Addr} (lim:Int) (w:World) (h:NoY w yo):Calls Tryz.prog 34 #[.pointer yo,.int .i64 lim] w (RetV fun v w'=>v=.tuple #[.slice none 0 0,.int .i64 1]∧Frm [] w w'):=
 xpUsed_err lim 1 w (by decide) fun V hV=>xSearch_no lim V (h.frm hV)
end Go.Proofs.YtemjlpahohmajaaGreat
