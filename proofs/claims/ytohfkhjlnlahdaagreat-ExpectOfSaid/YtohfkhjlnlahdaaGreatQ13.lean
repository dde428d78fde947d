/- Part of the proof. -/
import Derived.Test.YtohfkhjlnlahdaaGreatQ04
import Derived.Test.YtohfkhjlnlahdaaGreatQ12
import Derived.LoopTactic
set_option linter.all false
namespace Go.Proofs.YtohfkhjlnlahdaaGreat
open Go.RowKit Go.BigFrame
set_option maxHeartbeats 1000000 in
theorem p8 (H:FuncId) (W:Array Value) (p:(CtrD × Int)→Bool) (v:Value) (h:List (CtrD × Int)) (w:World) (af:Arr 3 CnAt w v h) (ah:h.length≤1000) (al:∀ args w,(callFunc H args).run Tryz.prog w=.ok (.enter H args) w)
  (ab:∀ O x,Frm [] w O→x∈h→Calls Tryz.prog H (#[.agg #[.string x.1.name,.int .i64 x.1.lim,.int .i64 x.2]]++W) O (Ret (.bool (p x)) (Frm [] O))) :
  Calls Tryz.prog 184 #[v,.func (.func H) #[] W] w (Ret (.int .i64 (ixf p h)) (Frm [] w)):=by
 obtain⟨ao,cap,rfl,a⟩:=af
 have ae:=vi a;have ad:=vi ab
 obtain⟨n,R⟩:∃ n,h.length=n:=⟨_,rfl⟩
 rw[R] at ah ⊢
 have U:=vi R
 clear a ab R
 go_enter Tryz.func184,Tryz.ntmps184
 go_wp2
 go_loopw [8,5] (fun s8 s5 wr=>∃ i:Nat,s8=.int .i64 i∧i≤n∧Frm [] w wr∧∀ j x,j<i→h[j]?=some x→p x=false) (fun s8 _ _=>n - (intOf s8).toNat)
 case atStart=>exact⟨0,rfl,Nat.zero_le _,Frm.refl _ _,fun j x I=>by omega⟩
 case round =>
  obtain⟨i,rfl,an,Y,aa⟩:=hrel
  have A:=vi Y;have K:=vi aa
  clear Y aa
  by_cases hlt:i<n
  ·have ap:(i:Int)<(n:Int):=by omega
   obtain⟨x,a⟩:∃ x,h[i]?=some x:=⟨_,List.getElem?_eq_getElem (by rw[U.out];exact hlt)⟩
   obtain⟨b,o,rfl,X⟩:=ae.out i x a
   obtain⟨c0,aj,ak⟩:=X.frm A.out
   have G:=vi (ad.out wr x A.out (List.mem_of_getElem? a))
   have V:=vi a
   clear X a
   cases hpx:p x with
   | true =>
     rw[hpx] at G
     have N:=vi hpx
     clear hpx
     go_wp2_with fail
     refine G.out.mono ?_
     rintro e ai ⟨rfl,E⟩
     have J:=vi E
     clear E
     go_wp2
     go_ret
     exact⟨by rw[cj V.out N.out K.out];rfl,A.out.trans J.out⟩
   | false =>
     rw[hpx] at G
     have N:=vi hpx
     clear hpx
     go_wp2_with fail
     refine G.out.mono ?_
     rintro e ai ⟨rfl,E⟩
     have J:=vi E
     clear E
     go_wp2
     refine⟨⟨i+1,by simp,hlt,A.out.trans J.out,fun j y I S=>?_⟩,by simp[intOf];omega⟩
     by_cases e:j=i
     ·subst e;rw[V.out] at S;cases S;exact N.out
     ·exact K.out j y (by omega) S
  ·have am:¬ (i:Int)<(n:Int):=by omega
   go_wp2
   go_ret
   refine⟨?_,A.out⟩
   have e:=cn (p:=p) (l:=h) fun x a=>by
    obtain⟨j,I⟩:=List.getElem?_of_mem a
    exact K.out j x (by have:=ag I;rw[U.out] at this;omega) I
   rw[e];rfl
set_option maxHeartbeats 1000000 in
theorem od (cls cap:Int) (H:FuncId) (W:Array Value) (p:(List ByteArray)→Bool) (v:Value) (h:List (List ByteArray)) (w:World) (ah:RowV cls cap w v h) (ai:h.length≤1000) (ak:∀ args w,(callFunc H args).run Tryz.prog w=.ok (.enter H args) w)
  (ab:∀ I x cb F,Frm [] w I→x∈h→Chn I cb cls cap x F→Calls Tryz.prog H (#[.pointer (some ⟨cb,0,none⟩)]++W) I (Ret (.bool (p x)) (Frm [] I))) :
  Calls Tryz.prog 186 #[v,.func (.func H) #[] W] w (Ret (.int .i64 (ixf p h)) (Frm [] w)):=by
 obtain⟨ao,cap,rfl,a⟩:=ah
 have af:=vi a;have ae:=vi ab
 obtain⟨n,R⟩:∃ n,h.length=n:=⟨_,rfl⟩
 rw[R] at ai ⊢
 have U:=vi R
 clear a ab R
 go_enter Tryz.func186,Tryz.ntmps186
 go_wp2
 go_loopw [8,5] (fun s8 s5 wr=>∃ i:Nat,s8=.int .i64 i∧i≤n∧Frm [] w wr∧∀ j x,j<i→h[j]?=some x→p x=false) (fun s8 _ _=>n - (intOf s8).toNat)
 case atStart=>exact⟨0,rfl,Nat.zero_le _,Frm.refl _ _,fun j x J=>by omega⟩
 case round =>
  obtain⟨i,rfl,am,Y,aa⟩:=hrel
  have A:=vi Y;have N:=vi aa
  clear Y aa
  by_cases hlt:i<n
  ·have an:(i:Int)<(n:Int):=by omega
   obtain⟨x,a⟩:∃ x,h[i]?=some x:=⟨_,List.getElem?_eq_getElem (by rw[U.out];exact hlt)⟩
   obtain⟨b,o,rfl,X⟩:=af.out i x a
   obtain⟨cb,F,c0,ad⟩:=X.frm A.out;rw[Nat.mul_one] at c0
   have G:=vi (ae.out wr x cb F A.out (List.mem_of_getElem? a) ad)
   have V:=vi a
   clear X a ad
   cases hpx:p x with
   | true =>
     rw[hpx] at G
     have O:=vi hpx
     clear hpx
     go_wp2_with fail
     refine G.out.mono ?_
     rintro e aj ⟨rfl,E⟩
     have K:=vi E
     clear E
     go_wp2
     go_ret
     exact⟨by rw[cj V.out O.out N.out];rfl,A.out.trans K.out⟩
   | false =>
     rw[hpx] at G
     have O:=vi hpx
     clear hpx
     go_wp2_with fail
     refine G.out.mono ?_
     rintro e aj ⟨rfl,E⟩
     have K:=vi E
     clear E
     go_wp2
     refine⟨⟨i+1,by simp,hlt,A.out.trans K.out,fun j y J S=>?_⟩,by simp[intOf];omega⟩
     by_cases e:j=i
     ·subst e;rw[V.out] at S;cases S;exact O.out
     ·exact N.out j y (by omega) S
  ·have al:¬ (i:Int)<(n:Int):=by omega
   go_wp2
   go_ret
   refine⟨?_,A.out⟩
   have e:=cn (p:=p) (l:=h) fun x a=>by
    obtain⟨j,J⟩:=List.getElem?_of_mem a
    exact N.out j x (by have:=ag J;rw[U.out] at this;omega) J
   rw[e];rfl
end Go.Proofs.YtohfkhjlnlahdaaGreat
