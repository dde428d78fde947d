/- Part of the proof. -/
import Derived.Test.YtohfkhjlnlahdaaGreatV42
import Derived.Test.YtohfkhjlnlahdaaGreatV37
import Derived.Test.YtohfkhjlnlahdaaGreatV43
set_option linter.all false
namespace Go.Proofs.YtohfkhjlnlahdaaGreat
open Go.RowKit Go.BigFrame
def AllTo (w:World) (s:SesD) (yb fb lim:Nat) (u:Value) (w':World):Prop:=
 ∃ B1 B2 pb ra cp N,u=.func (.func 94) #[] #[.pointer (some ⟨B1,0,none⟩),.pointer (some ⟨B2,0,none⟩)]∧AlI B1 B2 pb ra cp s yb fb (searchP s lim).2 N w'∧N.map Prod.fst=(searchP s lim).1∧Frm [] w w'
set_option maxHeartbeats 2000000 in
set_option maxRecDepth 100000 in
theorem xpAll_any (s:SesD) (yb fb lim:Nat) (w:World) (h:SyR w s yb fb) (h1:1≤lim) (h2:lim≤200000):Calls Tryz.prog 36 #[.pointer (some ⟨yb,0,none⟩),.int .i64 lim] w (RetV (AllTo w s yb fb lim)):=by
 have CS:=Lib.hid (xSearch_any s yb fb lim w h h1 h2)
 have HY:=Lib.hid h
 clear h h1 h2
 go_enter Tryz.func36,Tryz.ntmps36
 go_upto_region 2 with (first
  | (go_at_call 57;go_must (refine CS.out.mono ?_;rintro e w1 ⟨v,rfl,pb,N,rfl,hsp,hN,hf⟩;have HSP:=Lib.hid hsp;have HN:=Lib.hid hN;have HF1:=Lib.hid hf;clear hsp hN hf CS)))
 obtain⟨W1,hW1⟩:∃ W1,w1.alloc (.cells #[.pointer (some ⟨pb,0,none⟩)] 122)=W1:=⟨_,rfl⟩
 obtain⟨B1,hB1⟩:∃ b,w1.heap.size=b:=⟨_,rfl⟩
 have HFa:Hid (Frm [] w1 W1):=Lib.hid (by rw[← hW1];exact(Frm.refl _ _).alloc _)
 have HB1:Hid (W1.heap[B1]?=some (.cells #[.pointer (some ⟨pb,0,none⟩)] 122 (0,0))):=Lib.hid (by rw[← hW1,← hB1];exact heap_alloc_new _ _)
 rw[hW1,hB1]
 clear hW1 hB1
 have CSe:=Lib.hid (pSession_any s yb fb W1 (HY.out.frm (HF1.out.trans HFa.out)))
 go_wp2_with (first
  | (go_at_call 74;go_must (refine CSe.out.mono ?_;rintro e w2 ⟨v,rfl,ho⟩;obtain⟨⟨g2,c2,rfl⟩,hf2,hses⟩:=ho;have HF2:=Lib.hid hf2;have HSS:=Lib.hid (hses w2 (Agree.refl _ _));clear hf2 hses CSe)))
 go_ret
 have HF24:Hid (Frm [] w2 (w2.alloc (.cells #[.string s.name,.slice (some ⟨g2,0,none⟩) s.roles.length c2,.int .i64 s.cls,.int .i64 s.cap] 25))):=Lib.hid ((Frm.refl _ _).alloc _)
 have HF14:=Lib.hid (HF2.out.trans HF24.out)
 exact⟨_,rfl,B1,_,pb,_,c2,N,rfl,⟨HF14.out.at HB1.out (by simp),heap_alloc_new _ _,HSS.out.frm HF24.out,HSP.out.frm (HFa.out.trans HF14.out),HY.out.frm (HF1.out.trans (HFa.out.trans HF14.out))⟩,HN.out,HF1.out.trans (HFa.out.trans HF14.out)⟩
set_option maxHeartbeats 2000000 in
set_option maxRecDepth 100000 in
theorem xpOf_any (s:SesD) (yb fb sb:Nat) (x:PS) (w:World) (h:SyR w s yb fb) (hx:StR w s yb sb x) :
  Calls Tryz.prog 20 #[.pointer (some ⟨yb,0,none⟩),.pointer (some ⟨sb,0,none⟩)] w (RetV fun v w'=>∃ u,v=.tuple #[u,.int .i64 0]∧w'.ownsRow w.heap.size 33 3 u (ofP s x).length (suC (ofP s x))∧Frm [] w w'):=by
 have CF:=Lib.hid (pFinal_any s yb fb sb x w h hx)
 have HY:=Lib.hid h;have HX:=Lib.hid hx
 clear h hx
 go_enter Tryz.func20,Tryz.ntmps20
 go_wp2_with (first
  | (go_at_call 72;go_must (refine CF.out.mono ?_;rintro e w1 ⟨rfl,hf⟩;have HF1:=Lib.hid hf;have CS:=Lib.hid (pSession_any s yb fb w1 (HY.out.frm hf));clear hf CF))
  | (go_at_call 74;go_must (refine CS.out.mono ?_;rintro e w2 ⟨v,rfl,ho⟩;obtain⟨⟨g2,c2,rfl⟩,hf2,hses⟩:=ho;have HF2:=Lib.hid (HF1.out.trans hf2);have CO:=Lib.hid (xpSps_any s yb fb sb x _ w2 (HY.out.frm (HF1.out.trans hf2)) (HX.out.frm (HF1.out.trans hf2)) (hses w2 (Agree.refl _ _)));clear hf2 hses CS))
  | (go_at_call 73;go_must (refine CO.out.mono ?_;rintro e w3 ⟨v,rfl,ho,hf⟩;obtain⟨ao,cp,hsh⟩:=own_shape ho;subst hsh;have HO:=Lib.hid ho;have HF3:=Lib.hid hf;clear ho hf CO)))
 go_ret2
 exact⟨_,rfl,_,rfl,own_low HO.out HF2.out.size,HF2.out.trans HF3.out⟩
attribute [local go_sem] Oper.semAt_some
end Go.Proofs.YtohfkhjlnlahdaaGreat
