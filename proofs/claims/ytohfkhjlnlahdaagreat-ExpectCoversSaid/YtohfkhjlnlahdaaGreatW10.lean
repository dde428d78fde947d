/- Part of the proof. -/
import Derived.Test.YtohfkhjlnlahdaaGreatW09
import Derived.LoopTactic
set_option linter.all false
namespace Go.Proofs.YtohfkhjlnlahdaaGreat
open Go.RowKit Go.BigFrame
set_option maxHeartbeats 1000000 in
theorem ifCnt_any (K:FuncId) (caps:Array Value) (p:(CtrD × Int)→Bool) (v:Value) (xs:List (CtrD × Int)) (w:World) (h:Arr 3 CnAt w v xs) (hl:xs.length≤1000) (hK:∀ args w,(callFunc K args).run Tryz.prog w=.ok (.enter K args) w)
  (hp:∀ W x,Frm [] w W→x∈xs→Calls Tryz.prog K (#[.agg #[.string x.1.name,.int .i64 x.1.lim,.int .i64 x.2]] ++ caps) W (Ret (.bool (p x)) (Frm [] W))) :
  Calls Tryz.prog 184 #[v,.func (.func K) #[] caps] w (Ret (.int .i64 (ixf p xs)) (Frm [] w)):=by
 obtain⟨ao,cap,rfl,hx⟩:=h
 have HX:=Lib.hid hx;have HP:=Lib.hid hp
 obtain⟨n,hn⟩:∃ n,xs.length=n:=⟨_,rfl⟩
 rw[hn] at hl ⊢
 have HN:=Lib.hid hn
 clear hx hp hn
 go_enter Tryz.func184,Tryz.ntmps184
 go_wp2
 go_loopw [8,5] (fun s8 s5 wr=>∃ i:Nat,s8=.int .i64 i∧i≤n∧Frm [] w wr∧∀ j x,j < i→xs[j]?=some x→p x=false) (fun s8 _ _=>n - (intOf s8).toNat)
 case atStart=>exact⟨0,rfl,Nat.zero_le _,Frm.refl _ _,fun j x hj=>by omega⟩
 case round =>
  obtain⟨i,rfl,hi,hf,hno⟩:=hrel
  have HF:=Lib.hid hf;have HNO:=Lib.hid hno
  clear hf hno
  by_cases hlt:i < n
  ·have hlt':(i:Int) < (n:Int):=by omega
   obtain⟨x,hx⟩:∃ x,xs[i]?=some x:=⟨_,List.getElem?_eq_getElem (by rw[HN.out];exact hlt)⟩
   obtain⟨b,o,rfl,hat⟩:=HX.out i x hx
   obtain⟨c0,c1,c2⟩:=hat.frm HF.out
   have C1:=Lib.hid (HP.out wr x HF.out (List.mem_of_getElem? hx))
   have HXI:=Lib.hid hx
   clear hat hx
   cases hpx:p x with
   | true =>
     rw[hpx] at C1
     have HPX:=Lib.hid hpx
     clear hpx
     go_wp2_with fail
     refine C1.out.mono ?_
     rintro e w1 ⟨rfl,hf1⟩
     have HF1:=Lib.hid hf1
     clear hf1
     go_wp2
     go_ret
     exact⟨by rw[ixf_some HXI.out HPX.out HNO.out];rfl,HF.out.trans HF1.out⟩
   | false =>
     rw[hpx] at C1
     have HPX:=Lib.hid hpx
     clear hpx
     go_wp2_with fail
     refine C1.out.mono ?_
     rintro e w1 ⟨rfl,hf1⟩
     have HF1:=Lib.hid hf1
     clear hf1
     go_wp2
     refine⟨⟨i + 1,by simp,hlt,HF.out.trans HF1.out,fun j y hj hy=>?_⟩,by simp[intOf];omega⟩
     by_cases e:j=i
     ·subst e;rw[HXI.out] at hy;cases hy;exact HPX.out
     ·exact HNO.out j y (by omega) hy
  ·have hge:¬ (i:Int) < (n:Int):=by omega
   go_wp2
   go_ret
   refine⟨?_,HF.out⟩
   have e:=ixf_none (p:=p) (l:=xs) fun x hx=>by
    obtain⟨j,hj⟩:=List.getElem?_of_mem hx
    exact HNO.out j x (by have:=lt_of_some hj;rw[HN.out] at this;omega) hj
   rw[e];rfl
set_option maxHeartbeats 1000000 in
theorem ifChan_any (cls cap:Int) (K:FuncId) (caps:Array Value) (p:(List ByteArray)→Bool) (v:Value) (xs:List (List ByteArray)) (w:World) (h:RowV cls cap w v xs) (hl:xs.length≤1000) (hK:∀ args w,(callFunc K args).run Tryz.prog w=.ok (.enter K args) w)
  (hp:∀ W x cb F,Frm [] w W→x∈xs→Chn W cb cls cap x F→Calls Tryz.prog K (#[.pointer (some ⟨cb,0,none⟩)] ++ caps) W (Ret (.bool (p x)) (Frm [] W))) :
  Calls Tryz.prog 186 #[v,.func (.func K) #[] caps] w (Ret (.int .i64 (ixf p xs)) (Frm [] w)):=by
 obtain⟨ao,cap,rfl,hx⟩:=h
 have HX:=Lib.hid hx;have HP:=Lib.hid hp
 obtain⟨n,hn⟩:∃ n,xs.length=n:=⟨_,rfl⟩
 rw[hn] at hl ⊢
 have HN:=Lib.hid hn
 clear hx hp hn
 go_enter Tryz.func186,Tryz.ntmps186
 go_wp2
 go_loopw [8,5] (fun s8 s5 wr=>∃ i:Nat,s8=.int .i64 i∧i≤n∧Frm [] w wr∧∀ j x,j < i→xs[j]?=some x→p x=false) (fun s8 _ _=>n - (intOf s8).toNat)
 case atStart=>exact⟨0,rfl,Nat.zero_le _,Frm.refl _ _,fun j x hj=>by omega⟩
 case round =>
  obtain⟨i,rfl,hi,hf,hno⟩:=hrel
  have HF:=Lib.hid hf;have HNO:=Lib.hid hno
  clear hf hno
  by_cases hlt:i < n
  ·have hlt':(i:Int) < (n:Int):=by omega
   obtain⟨x,hx⟩:∃ x,xs[i]?=some x:=⟨_,List.getElem?_eq_getElem (by rw[HN.out];exact hlt)⟩
   obtain⟨b,o,rfl,hat⟩:=HX.out i x hx
   obtain⟨cb,F,c0,hr3⟩:=hat.frm HF.out;rw[Nat.mul_one] at c0
   have C1:=Lib.hid (HP.out wr x cb F HF.out (List.mem_of_getElem? hx) hr3)
   have HXI:=Lib.hid hx
   clear hat hx hr3
   cases hpx:p x with
   | true =>
     rw[hpx] at C1
     have HPX:=Lib.hid hpx
     clear hpx
     go_wp2_with fail
     refine C1.out.mono ?_
     rintro e w1 ⟨rfl,hf1⟩
     have HF1:=Lib.hid hf1
     clear hf1
     go_wp2
     go_ret
     exact⟨by rw[ixf_some HXI.out HPX.out HNO.out];rfl,HF.out.trans HF1.out⟩
   | false =>
     rw[hpx] at C1
     have HPX:=Lib.hid hpx
     clear hpx
     go_wp2_with fail
     refine C1.out.mono ?_
     rintro e w1 ⟨rfl,hf1⟩
     have HF1:=Lib.hid hf1
     clear hf1
     go_wp2
     refine⟨⟨i + 1,by simp,hlt,HF.out.trans HF1.out,fun j y hj hy=>?_⟩,by simp[intOf];omega⟩
     by_cases e:j=i
     ·subst e;rw[HXI.out] at hy;cases hy;exact HPX.out
     ·exact HNO.out j y (by omega) hy
  ·have hge:¬ (i:Int) < (n:Int):=by omega
   go_wp2
   go_ret
   refine⟨?_,HF.out⟩
   have e:=ixf_none (p:=p) (l:=xs) fun x hx=>by
    obtain⟨j,hj⟩:=List.getElem?_of_mem hx
    exact HNO.out j x (by have:=lt_of_some hj;rw[HN.out] at this;omega) hj
   rw[e];rfl
end Go.Proofs.YtohfkhjlnlahdaaGreat
