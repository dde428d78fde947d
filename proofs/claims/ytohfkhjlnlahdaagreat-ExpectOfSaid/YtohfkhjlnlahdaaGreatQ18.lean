/- Part of the proof. -/
import Derived.Test.YtohfkhjlnlahdaaGreatQ04
import Derived.Test.YtohfkhjlnlahdaaGreatQ03
import Derived.BigQuiet
import Derived.StillTail
import Derived.Test.YtohfkhjlnlahdaaGreatProg
import Derived.Lib.Hide
import Derived.WalkLawsBesides
import Derived.Deep.DeepMust
import Derived.LoopTactic
import Derived.Test.YtohfkhjlnlahdaaGreatQ05
set_option linter.all false
namespace Go.Proofs.YtohfkhjlnlahdaaGreat
open Go.RowKit Go.BigFrame
set_option maxHeartbeats 1000000 in
theorem iq (H:FuncId) (W:Array Value) (p:StD→Bool) (v:Value) (h:List StD) (w:World) (af:Arr 3 StAt w v h) (ah:h.length≤1000) (al:∀ args w,(callFunc H args).run Tryz.prog w=.ok (.enter H args) w)
  (ab:∀ O x,Frm [] w O→x∈h→Calls Tryz.prog H (#[.agg #[.string x.name,.bool x.fin,.int .i64 x.wait]]++W) O (Ret (.bool (p x)) (Frm [] O))) :
  Calls Tryz.prog 138 #[v,.func (.func H) #[] W] w (Ret (.int .i64 (ixf p h)) (Frm [] w)):=by
 obtain⟨ao,cap,rfl,a⟩:=af
 have ae:=vi a;have ad:=vi ab
 obtain⟨n,R⟩:∃ n,h.length=n:=⟨_,rfl⟩
 rw[R] at ah ⊢
 have U:=vi R
 clear a ab R
 go_enter Tryz.func138,Tryz.ntmps138
 go_wp2
 go_loopw [8,5] (fun s8 s5 wr=>∃ i:Nat,s8=.int .i64 i∧i≤n∧Frm [] w wr∧∀ j x,j<i→h[j]?=some x→p x=false) (fun s8 _ _=>n - (intOf s8).toNat)
 case atStart=>exact⟨0,rfl,Nat.zero_le _,Frm.refl _ _,fun j x I=>by omega⟩
 case round =>
  obtain⟨i,rfl,an,Y,aa⟩:=hrel
  have A:=vi Y;have K:=vi aa
  clear Y aa
  by_cases hlt:i<n
  ·have ap:(i:Int)<(n:Int):=by omega
   obtain⟨x,a⟩:∃ x,h[i]?=some x:=⟨_,List.getElem?_eq_getElem (by rw[U.out];exact hlt)⟩
   obtain⟨b,o,rfl,X⟩:=ae.out i x a
   obtain⟨c0,aj,ak⟩:=X.frm A.out
   have G:=vi (ad.out wr x A.out (List.mem_of_getElem? a))
   have V:=vi a
   clear X a
   cases hpx:p x with
   | true =>
     rw[hpx] at G
     have N:=vi hpx
     clear hpx
     go_wp2_with fail
     refine G.out.mono ?_
     rintro e ai ⟨rfl,E⟩
     have J:=vi E
     clear E
     go_wp2
     go_ret
     exact⟨by rw[cj V.out N.out K.out];rfl,A.out.trans J.out⟩
   | false =>
     rw[hpx] at G
     have N:=vi hpx
     clear hpx
     go_wp2_with fail
     refine G.out.mono ?_
     rintro e ai ⟨rfl,E⟩
     have J:=vi E
     clear E
     go_wp2
     refine⟨⟨i+1,by simp,hlt,A.out.trans J.out,fun j y I S=>?_⟩,by simp[intOf];omega⟩
     by_cases e:j=i
     ·subst e;rw[V.out] at S;cases S;exact N.out
     ·exact K.out j y (by omega) S
  ·have am:¬ (i:Int)<(n:Int):=by omega
   go_wp2
   go_ret
   refine⟨?_,A.out⟩
   have e:=cn (p:=p) (l:=h) fun x a=>by
    obtain⟨j,I⟩:=List.getElem?_of_mem a
    exact K.out j x (by have:=ag I;rw[U.out] at this;omega) I
   rw[e];rfl
set_option maxHeartbeats 1000000 in
theorem pM (H:FuncId) (W:Array Value) (p:CtrD→Bool) (v:Value) (h:List CtrD) (w:World) (af:Arr 2 CtAt w v h) (ah:h.length≤1000) (ak:∀ args w,(callFunc H args).run Tryz.prog w=.ok (.enter H args) w)
  (ab:∀ O x,Frm [] w O→x∈h→Calls Tryz.prog H (#[.agg #[.string x.name,.int .i64 x.lim]]++W) O (Ret (.bool (p x)) (Frm [] O))) :
  Calls Tryz.prog 224 #[v,.func (.func H) #[] W] w (Ret (.int .i64 (ixf p h)) (Frm [] w)):=by
 obtain⟨ao,cap,rfl,a⟩:=af
 have ae:=vi a;have ad:=vi ab
 obtain⟨n,R⟩:∃ n,h.length=n:=⟨_,rfl⟩
 rw[R] at ah ⊢
 have U:=vi R
 clear a ab R
 go_enter Tryz.func224,Tryz.ntmps224
 go_wp2
 go_loopw [8,5] (fun s8 s5 wr=>∃ i:Nat,s8=.int .i64 i∧i≤n∧Frm [] w wr∧∀ j x,j<i→h[j]?=some x→p x=false) (fun s8 _ _=>n - (intOf s8).toNat)
 case atStart=>exact⟨0,rfl,Nat.zero_le _,Frm.refl _ _,fun j x I=>by omega⟩
 case round =>
  obtain⟨i,rfl,am,Y,aa⟩:=hrel
  have A:=vi Y;have K:=vi aa
  clear Y aa
  by_cases hlt:i<n
  ·have an:(i:Int)<(n:Int):=by omega
   obtain⟨x,a⟩:∃ x,h[i]?=some x:=⟨_,List.getElem?_eq_getElem (by rw[U.out];exact hlt)⟩
   obtain⟨b,o,rfl,X⟩:=ae.out i x a
   obtain⟨c0,aj⟩:=X.frm A.out
   have G:=vi (ad.out wr x A.out (List.mem_of_getElem? a))
   have V:=vi a
   clear X a
   cases hpx:p x with
   | true =>
     rw[hpx] at G
     have N:=vi hpx
     clear hpx
     go_wp2_with fail
     refine G.out.mono ?_
     rintro e ai ⟨rfl,E⟩
     have J:=vi E
     clear E
     go_wp2
     go_ret
     exact⟨by rw[cj V.out N.out K.out];rfl,A.out.trans J.out⟩
   | false =>
     rw[hpx] at G
     have N:=vi hpx
     clear hpx
     go_wp2_with fail
     refine G.out.mono ?_
     rintro e ai ⟨rfl,E⟩
     have J:=vi E
     clear E
     go_wp2
     refine⟨⟨i+1,by simp,hlt,A.out.trans J.out,fun j y I S=>?_⟩,by simp[intOf];omega⟩
     by_cases e:j=i
     ·subst e;rw[V.out] at S;cases S;exact N.out
     ·exact K.out j y (by omega) S
  ·have al:¬ (i:Int)<(n:Int):=by omega
   go_wp2
   go_ret
   refine⟨?_,A.out⟩
   have e:=cn (p:=p) (l:=h) fun x a=>by
    obtain⟨j,I⟩:=List.getElem?_of_mem a
    exact K.out j x (by have:=ag I;rw[U.out] at this;omega) I
   rw[e];rfl
set_option maxHeartbeats 1000000 in
theorem ja (H:FuncId) (W:Array Value) (p:StpD→Bool) (v:Value) (h:List StpD) (w:World) (af:Arr 9 SpAt w v h) (ah:h.length≤1000) (au:∀ args w,(callFunc H args).run Tryz.prog w=.ok (.enter H args) w)
  (ab:∀ O x,Frm [] w O→x∈h→Calls Tryz.prog H (#[.agg #[.string x.frm,.string x.to,.int .i64 x.kind,.string x.msg,.string x.peer,.string x.ctr,.int .i64 x.low,.int .i64 x.high,.int .i64 x.add]]++W) O (Ret (.bool (p x)) (Frm [] O))) :
  Calls Tryz.prog 147 #[v,.func (.func H) #[] W] w (Ret (.int .i64 (ixf p h)) (Frm [] w)):=by
 obtain⟨ao,cap,rfl,a⟩:=af
 have ae:=vi a;have ad:=vi ab
 obtain⟨n,R⟩:∃ n,h.length=n:=⟨_,rfl⟩
 rw[R] at ah ⊢
 have U:=vi R
 clear a ab R
 go_enter Tryz.func147,Tryz.ntmps147
 go_wp2
 go_loopw [8,5] (fun s8 s5 wr=>∃ i:Nat,s8=.int .i64 i∧i≤n∧Frm [] w wr∧∀ j x,j<i→h[j]?=some x→p x=false) (fun s8 _ _=>n - (intOf s8).toNat)
 case atStart=>exact⟨0,rfl,Nat.zero_le _,Frm.refl _ _,fun j x I=>by omega⟩
 case round =>
  obtain⟨i,rfl,aw,Y,aa⟩:=hrel
  have A:=vi Y;have K:=vi aa
  clear Y aa
  by_cases hlt:i<n
  ·have ax:(i:Int)<(n:Int):=by omega
   obtain⟨x,a⟩:∃ x,h[i]?=some x:=⟨_,List.getElem?_eq_getElem (by rw[U.out];exact hlt)⟩
   obtain⟨b,o,rfl,X⟩:=ae.out i x a
   obtain⟨c0,aj,ak,al,am,an,ap,aq,ar⟩:=X.frm A.out
   have G:=vi (ad.out wr x A.out (List.mem_of_getElem? a))
   have V:=vi a
   clear X a
   cases hpx:p x with
   | true =>
     rw[hpx] at G
     have N:=vi hpx
     clear hpx
     go_wp2_with fail
     refine G.out.mono ?_
     rintro e ai ⟨rfl,E⟩
     have J:=vi E
     clear E
     go_wp2
     go_ret
     exact⟨by rw[cj V.out N.out K.out];rfl,A.out.trans J.out⟩
   | false =>
     rw[hpx] at G
     have N:=vi hpx
     clear hpx
     go_wp2_with fail
     refine G.out.mono ?_
     rintro e ai ⟨rfl,E⟩
     have J:=vi E
     clear E
     go_wp2
     refine⟨⟨i+1,by simp,hlt,A.out.trans J.out,fun j y I S=>?_⟩,by simp[intOf];omega⟩
     by_cases e:j=i
     ·subst e;rw[V.out] at S;cases S;exact N.out
     ·exact K.out j y (by omega) S
  ·have av:¬ (i:Int)<(n:Int):=by omega
   go_wp2
   go_ret
   refine⟨?_,A.out⟩
   have e:=cn (p:=p) (l:=h) fun x a=>by
    obtain⟨j,I⟩:=List.getElem?_of_mem a
    exact K.out j x (by have:=ag I;rw[U.out] at this;omega) I
   rw[e];rfl
set_option maxHeartbeats 1000000 in
theorem jb (H:FuncId) (aa:Array Value) (p:RolD→Bool) (v:Value) (h:List RolD) (w:World) (ak:Rls w v h) (al:h.length≤1000) (ar:∀ args w,(callFunc H args).run Tryz.prog w=.ok (.enter H args) w)
  (af:∀ I x N J O,Frm [] w I→x∈h→Rl3 I N J O x→Calls Tryz.prog H (#[.agg #[.string x.name,N,J,O]]++aa) I (Ret (.bool (p x)) (Frm [] I))) :
  Calls Tryz.prog 129 #[v,.func (.func H) #[] aa] w (Ret (.int .i64 (ixf p h)) (Frm [] w)):=by
 obtain⟨ao,cap,rfl,a⟩:=ak
 have aj:=vi a;have ai:=vi af
 obtain⟨n,V⟩:∃ n,h.length=n:=⟨_,rfl⟩
 rw[V] at al ⊢
 have X:=vi V
 clear a af V
 go_enter Tryz.func129,Tryz.ntmps129
 go_wp2
 go_loopw [8,5] (fun s8 s5 wr=>∃ i:Nat,s8=.int .i64 i∧i≤n∧Frm [] w wr∧∀ j x,j<i→h[j]?=some x→p x=false) (fun s8 _ _=>n - (intOf s8).toNat)
 case atStart=>exact⟨0,rfl,Nat.zero_le _,Frm.refl _ _,fun j x K=>by omega⟩
 case round =>
  obtain⟨i,rfl,av,ad,ae⟩:=hrel
  have A:=vi ad;have S:=vi ae
  clear ad ae
  by_cases hlt:i<n
  ·have aw:(i:Int)<(n:Int):=by omega
   obtain⟨x,a⟩:∃ x,h[i]?=some x:=⟨_,List.getElem?_eq_getElem (by rw[X.out];exact hlt)⟩
   obtain⟨b,o,rfl,ab⟩:=aj.out i x a
   obtain⟨N,J,O,c0,an,ap,aq,ah⟩:=ab.frm A.out
   have G:=vi (ai.out wr x N J O A.out (List.mem_of_getElem? a) ah)
   have Y:=vi a
   clear ab a ah
   cases hpx:p x with
   | true =>
     rw[hpx] at G
     have U:=vi hpx
     clear hpx
     go_wp2_with fail
     refine G.out.mono ?_
     rintro e am ⟨rfl,E⟩
     have R:=vi E
     clear E
     go_wp2
     go_ret
     exact⟨by rw[cj Y.out U.out S.out];rfl,A.out.trans R.out⟩
   | false =>
     rw[hpx] at G
     have U:=vi hpx
     clear hpx
     go_wp2_with fail
     refine G.out.mono ?_
     rintro e am ⟨rfl,E⟩
     have R:=vi E
     clear E
     go_wp2
     refine⟨⟨i+1,by simp,hlt,A.out.trans R.out,fun j y K W=>?_⟩,by simp[intOf];omega⟩
     by_cases e:j=i
     ·subst e;rw[Y.out] at W;cases W;exact U.out
     ·exact S.out j y (by omega) W
  ·have au:¬ (i:Int)<(n:Int):=by omega
   go_wp2
   go_ret
   refine⟨?_,A.out⟩
   have e:=cn (p:=p) (l:=h) fun x a=>by
    obtain⟨j,K⟩:=List.getElem?_of_mem a
    exact S.out j x (by have:=ag K;rw[X.out] at this;omega) K
   rw[e];rfl
end Go.Proofs.YtohfkhjlnlahdaaGreat
