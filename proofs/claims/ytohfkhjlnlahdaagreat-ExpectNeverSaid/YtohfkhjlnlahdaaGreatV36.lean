/- Part of the proof. -/
import Derived.Test.YtohfkhjlnlahdaaGreatV35
import Derived.Test.YtohfkhjlnlahdaaGreatV23
set_option linter.all false
namespace Go.Proofs.YtohfkhjlnlahdaaGreat
open Go.RowKit Go.BigFrame
theorem pDo_yes (s:SesD) (yb fb sb:Nat) (x:PS) (m:Mv) (w:World) (h:SyR w s yb fb) (hx:StR w s yb sb x) (hm:m∈movesP s x) :
  Calls Tryz.prog 19 #[.pointer (some ⟨yb,0,none⟩),.pointer (some ⟨sb,0,none⟩),mvV m] w (RetV (StTo w s yb (nextP s x m))):=by
 rcases mem_movesP.1 hm with ⟨i,k,hi,hk,h2⟩ | ⟨i,k,hi,hk,h2⟩
 ·exact pDo_step s yb fb sb i k x m w h hx hm hi hk h2
 ·exact pDo_lose s yb fb sb i k x m w h hx hm hi hk (mem_loseMv.1 h2).1
def MvsTo (w:World) (L:List Mv) (v:Value) (w':World):Prop:=∃ B u,v=.func (.func 146) #[] #[.pointer (some ⟨B,0,none⟩)]∧MvI B u L w'∧Frm [] w w'∧w.heap.size≤B
set_option maxHeartbeats 2000000 in
set_option maxRecDepth 100000 in
theorem pMoves_any (s:SesD) (yb fb sb:Nat) (x:PS) (w:World) (h:SyR w s yb fb) (hx:StR w s yb sb x):Calls Tryz.prog 21 #[.pointer (some ⟨yb,0,none⟩),.pointer (some ⟨sb,0,none⟩)] w (RetV (MvsTo w (movesP s x))):=by
 have C1:=Lib.hid (pCheck_any s yb fb sb x w h hx)
 have C2:=Lib.hid (pmoves_any s yb fb sb x w h hx)
 clear h hx
 go_enter Tryz.func21,Tryz.ntmps21
 go_wp2_with (first
  | (go_at_call 61;go_must (refine C1.out.mono ?_;rintro e w' ⟨rfl,rfl⟩))
  | (go_at_call 63;go_must (refine C2.out.mono ?_;rintro e w1 ⟨v,rfl,ha,hf⟩;obtain⟨ao,cq,rfl⟩:=ha.shape;have HA:=Lib.hid ha;have HF:=Lib.hid hf;have C3:=Lib.hid (alMove_any _ (movesP s x) w1 ha);clear ha hf))
  | (go_at_call 75;go_must (refine C3.out.mono ?_;rintro e w2 ⟨v,rfl,rfl,ha,hf⟩;have HB:=Lib.hid ha;have HG:=Lib.hid hf;clear ha hf)))
 go_ret
 exact⟨_,rfl,_,_,rfl,HB.out,HF.out.trans HG.out,HF.out.size⟩
set_option maxHeartbeats 2000000 in
set_option maxRecDepth 100000 in
theorem pSession_any (s:SesD) (yb fb:Nat) (w:World) (h:SyR w s yb fb):Calls Tryz.prog 74 #[.pointer (some ⟨yb,0,none⟩)] w (RetV (OwTo w s)):=by
 have hf0:Frm [] w (w.alloc (.cells #[.string { data:=#[] },.slice none 0 0,.int .i64 0,.int .i64 0] 25)):=(Frm.refl [] w).alloc _
 have C1:=Lib.hid (pNone_any s yb fb _ (h.frm hf0))
 have hok:=h.ok
 obtain⟨rv,h1,h2⟩:=h.out
 have CO:=Lib.hid (pOwn_any s (.agg #[.string s.name,rv,.int .i64 s.cls,.int .i64 s.cap]) _ ⟨rv,rfl,h2.frm hf0⟩ (by have:=hok.n2;omega) hok.n4 (fun r hr=>⟨by have:=(hok.rol r hr).s24;omega,by have:=(hok.rol r hr).c4;omega,by have:=(hok.rol r hr).t80;omega⟩))
 have HF0:=Lib.hid hf0
 have B0:=Lib.hid (heap_alloc_new w (.cells #[.string { data:=#[] },.slice none 0 0,.int .i64 0,.int .i64 0] 25))
 have hl:=lt_of_block h1
 have c0:=cell_of h1 0
 have c1:=cell_of h1 1
 have c2:=cell_of h1 2
 have c3:=cell_of h1 3
 clear h h1 h2 hf0 hok
 go_enter Tryz.func74,Tryz.ntmps74
 go_wp2_with (first
  | (go_at_call 60;go_must (refine C1.out.mono ?_;rintro e w' ⟨rfl,rfl⟩))
  | (go_at_call 112;go_must (refine CO.out.mono ?_;rintro e w1 ⟨v,rfl,ho⟩;obtain⟨g,cg,rfl⟩:=ho.shape;have HO:=Lib.hid ho;have B1:=Lib.hid (ho.frm.at B0.out (by simp));clear ho))
  | (refine wpList_store_row rfl 25 _ _ rfl _ _ _ 25 rfl rfl B1.out rfl (by kernel_rfl) (by simp[Value.oneCell']) ?_;intro w2 hb2 hf2))
 refine bodyPost_ret (results_c1 (d:=_) (Tryz.results74) rfl hb2 rfl Tryz.underlying25 (by kernel_rfl)) rfl ⟨_,rfl,⟨g,cg,rfl⟩,(HF0.out.trans HO.out.frm).then hf2 (by intro y hy;simp at hy;right;omega),fun V hV=>HO.out.ses V ?_⟩
 have hs:=hf2.size
 intro k h1 h2
 rw[hV k (by simp at h1;omega) (by omega)]
 exact hf2.block k h2 (by simp at h1 ⊢;omega)
end Go.Proofs.YtohfkhjlnlahdaaGreat
