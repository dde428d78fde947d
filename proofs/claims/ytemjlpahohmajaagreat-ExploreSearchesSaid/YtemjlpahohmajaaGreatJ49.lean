/- Part of the proof. -/
import Derived.Test.YtemjlpahohmajaaGreatJ37
import Derived.Test.YtemjlpahohmajaaGreatJ48
import Derived.Test.YtemjlpahohmajaaGreatJ44
set_option linter.all false
namespace Go.Proofs.YtemjlpahohmajaaGreat
open Go.RowKit Go.BigFrame
def Tm (B:Nat) (V:World) (u:Value) (C:List Value) (e:TypeId):Prop:=∃ b,u=.slice (some ⟨b,0,none⟩) 1 1∧B≤b∧V.heap[b]?=some (.cells C.toArray e (0,0))
theorem Tm.frm {B:Nat} {V V':World} {u:Value} {C:List Value} {e:TypeId} {F:List Nat} (h:Tm B V u C e) (hf:Frm F V V') (hn:∀ k∈F,¬ Ty V k e):Tm B V' u C e:=by
 obtain⟨b,h1,h2,h3⟩:=h
 exact⟨b,h1,h2,hf.at h3 fun hm=>hn b hm ⟨_,h3⟩⟩
theorem Tm.frm0 {B:Nat} {V V':World} {u:Value} {C:List Value} {e:TypeId} (h:Tm B V u C e) (hf:Frm [] V V'):Tm B V' u C e:=h.frm hf (by simp)
abbrev zM:Value:=.agg #[.int .i64 0,.int .i64 0,.int .i64 0,.int .i64 0]
abbrev zSp:Array Value:=#[.slice none 0 0,.slice none 0 0,.slice none 0 0,.slice none 0 0,.bool false]
theorem Tryz.infoRSp:(Tryz.prog.info? 39).map (·.size)=some 5:=by kernel_rfl
structure R2 (W:World) (st:V3) (ky:ByteArray) (D:Nat→Bool) (f:Nat→Value) (V:World):Prop where
 fr:Frm [] W V
 p0:D 0=true→f 0=a3 st
 p1:D 1=true→Tm W.heap.size V (f 1) (c3 st) 125
 p2:D 2=true→f 2=a3 st
 p3:D 3=true→f 3=.string ky
 p4:D 4=true→Tm W.heap.size V (f 4) [.string ky] 9
 p5:D 5=true→Tm W.heap.size V (f 5) [.int .i64 (-1)] 3
 p6:D 6=true→f 6=zM
 p7:D 7=true→Tm W.heap.size V (f 7) [.int .i64 0,.int .i64 0,.int .i64 0,.int .i64 0] 129
 p8:D 8=true→f 8=.agg #[f 1,f 4,f 5,f 7,.bool true]
 p9:D 9=true→∃ b,f 9=.pointer (some ⟨b,0,none⟩)∧W.heap.size≤b∧V.heap[b]?=some (.cells (if D 10=true then #[f 1,f 4,f 5,f 7,.bool true] else zSp) 39 (0,0))
theorem R2.mono {W:World} {st:V3} {ky:ByteArray} {D:Nat→Bool} {f:Nat→Value} {V V':World} (h:R2 W st ky D f V) (hf:Frm [] V V'):R2 W st ky D f V':=
 ⟨h.fr.trans hf,h.p0,fun d=>(h.p1 d).frm0 hf,h.p2,h.p3,fun d=>(h.p4 d).frm0 hf,fun d=>(h.p5 d).frm0 hf,h.p6,fun d=>(h.p7 d).frm0 hf,h.p8,fun d=>by
  obtain⟨b,h1,h2,h3⟩:=h.p9 d
  exact⟨b,h1,h2,hf.at h3 (by simp)⟩⟩
theorem R2.p9n {W:World} {st:V3} {ky:ByteArray} {D:Nat→Bool} {f:Nat→Value} {V:World} (h:R2 W st ky D f V) (d10:D 10=false):D 9=true→∃ b,f 9=.pointer (some ⟨b,0,none⟩)∧W.heap.size≤b∧V.heap[b]?=some (.cells zSp 39 (0,0)):=fun d9=>by
 obtain⟨b,g1,g2,g3⟩:=h.p9 d9
 rw[if_neg (by rw[d10];decide)] at g3
 exact⟨b,g1,g2,g3⟩
theorem R2.p9k {B:Nat} {d9 d10:Bool} {f9:Value} {V:World} {A:Array Value} (h10:d10=false) (h:d9=true→∃ b,f9=.pointer (some ⟨b,0,none⟩)∧B≤b∧V.heap[b]?=some (.cells zSp 39 (0,0))) :
  d9=true→∃ b,f9=.pointer (some ⟨b,0,none⟩)∧B≤b∧V.heap[b]?=some (.cells (if d10=true then A else zSp) 39 (0,0)):=fun h9=>by
 obtain⟨b,g1,g2,g3⟩:=h h9
 exact⟨b,g1,g2,by rw[if_neg (by rw[h10];decide)];exact g3⟩
structure YW (w:World) (s:SesD) (pb:Nat) (T:List V3) (N:List Nd) (vs vk vp vm:Value) (W:World):Prop where
 r:YR w s T N N N N (T.zip (N.map Nd.st)) vs vk vp vm W
 b:W.heap[pb]?=some (.cells #[vs,vk,vp,vm,.bool true] 39 (0,0))
 lo:w.heap.size≤pb
theorem YW.frm {w W V:World} {s:SesD} {pb:Nat} {T:List V3} {N:List Nd} {vs vk vp vm:Value} (h:YW w s pb T N vs vk vp vm W) (hf:Frm [] W V):YW w s pb T N vs vk vp vm V:=⟨h.r.frm hf,hf.at h.b (by simp),h.lo⟩
theorem c3_len (T:List V3):(T.flatMap c3).length=T.length * 3:=by
 induction T with
 | nil=>rfl
 | cons a T ih=>rw[List.flatMap_cons,List.length_append,ih];simp[c3];omega
theorem c3_at {T:List V3}:∀ {i:Nat} {t:V3},T[i]?=some t→∀ j,j < 3→(T.flatMap c3)[i * 3 + j]?=(c3 t)[j]?:=by
 induction T with
 | nil=>intro i t h;simp at h
 | cons a T ih =>
   intro i t h j hj
   have e:(a :: T).flatMap c3=c3 a ++ T.flatMap c3:=rfl
   have h3:(c3 a).length=3:=rfl
   rw[e]
   cases i with
   | zero=>simp at h;subst h;rw[List.getElem?_append_left (by omega)];congr 1;omega
   | succ i=>rw[List.getElem?_append_right (by omega),h3,show (i + 1) * 3 + j - 3=i * 3 + j by omega];exact ih (by simpa using h) j hj
theorem YR.state {w W:World} {s:SesD} {k:Nat} {T:List V3} {N:List Nd} {vs vk vp vm:Value} {d:Nd} (h:YR w s T N N N N (T.zip (N.map Nd.st)) vs vk vp vm W) (hd:N[k]?=some d) :
  ∃ t g c,vs=.slice (some ⟨g,0,none⟩) N.length c∧(∀ V,Frm [] W V→V.cell? ⟨g,k * 3,none⟩=some t.1∧V.cell? ⟨g,k * 3 + 1,none⟩=some t.2.1∧V.cell? ⟨g,k * 3 + 2,none⟩=some t.2.2)∧RSt 0 W s (a3 t) d.st:=by
 have hk:=lt_of_some hd
 obtain⟨t,ht⟩:∃ t,T[k]?=some t:=⟨_,List.getElem?_eq_getElem (by rw[h.tl];exact hk)⟩
 obtain⟨g,c,cur,e,-,-⟩:=own_block h.rs (by omega)
 have ho:=h.rs
 rw[e] at ho
 have hc:=fun j hj=>World.ownsRow.cellAt ho j hj
 have hl:=c3_len T
 have hkT:=lt_of_some ht
 have a:=c3_at ht
 refine⟨t,g,c,e,fun V hV=>⟨hV.keep ?_,hV.keep ?_,hV.keep ?_⟩,h.st (t,d.st) ?_⟩
 ·have:=hc (k * 3) (by omega)
  rw[this]
  exact a 0 (by omega)
 ·rw[hc (k * 3 + 1) (by omega)];exact a 1 (by omega)
 ·rw[hc (k * 3 + 2) (by omega)];exact a 2 (by omega)
 ·have:(T.zip (N.map Nd.st))[k]?=some (t,d.st):=by
   rw[List.getElem?_zip_eq_some]
   exact⟨ht,by rw[List.getElem?_map,hd];rfl⟩
  exact List.mem_of_getElem? this
theorem YR.shape {w W:World} {s:SesD} {T:List V3} {N:List Nd} {vs vk vp vm:Value} (h:YR w s T N N N N (T.zip (N.map Nd.st)) vs vk vp vm W) :
  ∃ a0 c0 a1 c1 a2 c2 a3 c3,vs=.slice a0 N.length c0∧vk=.slice a1 N.length c1∧vp=.slice a2 N.length c2∧vm=.slice a3 N.length c3:=by
 obtain⟨a0,c0,e0⟩:=own_shape h.rs
 obtain⟨a3,c3,e3⟩:=own_shape h.rm
 obtain⟨g1,c1,-,e1,-⟩:=h.rk
 obtain⟨g2,c2,-,e2,-⟩:=h.rp
 rw[List.length_map] at e1 e2
 exact⟨a0,c0,_,c1,_,c2,a3,c3,e0,e1,e2,e3⟩
theorem YR.val {w W:World} {s:SesD} {T:List V3} {N:List Nd} {vs vk vp vm:Value} (h:YR w s T N N N N (T.zip (N.map Nd.st)) vs vk vp vm W) (wh:Bool):YsV W s (.agg #[vs,vk,vp,vm,.bool wh]) N wh:=by
 obtain⟨a0,c0,a1,c1,a2,c2,a3,c3,e0,e1,e2,e3⟩:=h.shape
 refine⟨⟨a0,c0,a1,c1,a2,c2,a3,c3,by rw[e0,e1,e2,e3],⟨a0,c0,by rw[List.length_map],fun i x hx=>?_⟩,⟨a1,c1,by rw[List.length_map],fun i x hx=>?_⟩,⟨a2,c2,by rw[List.length_map],fun i x hx=>?_⟩,?_⟩⟩
 ·obtain⟨d,hd,rfl⟩:=some_map hx
  obtain⟨t,g,c,e,hc,hr⟩:=h.state hd
  rw[e0] at e
  injection e with e
  obtain⟨q0,q1,q2⟩:=hc W (Frm.refl _ _)
  exact⟨g,0,e,t.1,t.2.1,t.2.2,by rw[Nat.zero_add];exact q0,by rw[Nat.zero_add];exact q1,by rw[Nat.zero_add];exact q2,hr⟩
 ·obtain⟨d,hd,rfl⟩:=some_map hx
  obtain⟨g,c,e,hc⟩:=h.rk.at (show (N.map (kyV s))[i]?=some (kyV s d) by rw[List.getElem?_map,hd];rfl)
  rw[e1] at e
  injection e with e
  exact⟨g,0,e,by rw[Nat.zero_add,Nat.mul_one];exact hc⟩
 ·obtain⟨d,hd,rfl⟩:=some_map hx
  obtain⟨g,c,e,hc⟩:=h.rp.at (show (N.map prV)[i]?=some (prV d) by rw[List.getElem?_map,hd];rfl)
  rw[e2] at e
  injection e with e
  exact⟨g,0,e,by rw[Nat.zero_add,Nat.mul_one];exact hc⟩
 ·have:=h.rm
  have h4:=rm_arr (L:=N.map Nd.mv) (by rw[List.length_map];exact this)
  rwa [e3] at h4
theorem YW.state {w W:World} {s:SesD} {pb k:Nat} {T:List V3} {N:List Nd} {vs vk vp vm:Value} {d:Nd} (h:YW w s pb T N vs vk vp vm W) (hd:N[k]?=some d) :
 ∃ t g c,vs=.slice (some ⟨g,0,none⟩) N.length c∧(∀ V,Frm [] W V→V.cell? ⟨g,k * 3,none⟩=some t.1∧V.cell? ⟨g,k * 3 + 1,none⟩=some t.2.1∧V.cell? ⟨g,k * 3 + 2,none⟩=some t.2.2)∧RSt 0 W s (a3 t) d.st:=h.r.state hd
theorem YW.shape {w W:World} {s:SesD} {pb:Nat} {T:List V3} {N:List Nd} {vs vk vp vm:Value} (h:YW w s pb T N vs vk vp vm W) :
 ∃ a0 c0 a1 c1 a2 c2 a3 c3,vs=.slice a0 N.length c0∧vk=.slice a1 N.length c1∧vp=.slice a2 N.length c2∧vm=.slice a3 N.length c3:=h.r.shape
theorem YW.val {w W:World} {s:SesD} {pb:Nat} {T:List V3} {N:List Nd} {vs vk vp vm:Value} (h:YW w s pb T N vs vk vp vm W) (wh:Bool):YsV W s (.agg #[vs,vk,vp,vm,.bool wh]) N wh:=h.r.val wh
theorem YR.low {w W0 W:World} {s:SesD} {T:List V3} {NS NK NP NM:List Nd} {Z:List (V3 × PS)} {cs ck cp cm:Value} (h:YR W0 s T NS NK NP NM Z cs ck cp cm W) (hf:Frm [] w W0):YR w s T NS NK NP NM Z cs ck cp cm W:=by
 have hl:=hf.size
 obtain⟨g1,p1,u1,e1,l1,r1⟩:=h.rk
 obtain⟨g2,p2,u2,e2,l2,r2⟩:=h.rp
 exact⟨hf.trans h.fr,own_low h.rs hl,h.tl,⟨g1,p1,u1,e1,by omega,r1⟩,⟨g2,p2,u2,e2,by omega,r2⟩,h.p0,own_low h.rm hl,h.st⟩
theorem fnd_has {s:SesD} {N:List Nd} {k:List UInt8} (h:hasK s N k=true):∃ j:Nat,fndI s N k=j:=by
 rw[← findP_none] at h
 obtain⟨j,hj⟩:=Option.isSome_iff_exists.1 h
 exact⟨j,by unfold fndI;rw[hj]⟩
theorem fnd_no {s:SesD} {N:List Nd} {k:List UInt8} (h:hasK s N k=false):fndI s N k=-1:=by
 rw[← findP_none,Option.isSome_eq_false_iff,Option.isNone_iff_eq_none] at h
 unfold fndI;rw[h]
theorem results_sp {fn:Func} {tmps:Array Value} {V:World} {rb p:Nat} {A:Array Value} (h:fn.results=#[.cell p 39]) (hp:tmps.getD p undef=.pointer (some ⟨rb,0,none⟩)) (hg:V.heap[rb]?=some (.cells A 39 (0,0))) (hs:A.size=5) :
  (results fn tmps).run Tryz.prog V=.ok (.agg A) V:=by
 have hp':tmps[p]?.getD undef=.pointer (some ⟨rb,0,none⟩):=by simpa using hp
 simp[results,h,hp',asAddr,run_loadVar_row V rb 39 39 A (0,0) _ hg Tryz.underlying39 rfl (by rw[Tryz.infoRSp,hs])]
theorem R2.made {w W:World} {s:SesD} {st:V3} {D:Nat→Bool} {f:Nat→Value} {V:World} (h:R2 W st (keyS s (firstP s)) D f V) (hD:∀ i,i < 11→D i=true) (hw:Frm [] w W) (hs:RSt 0 W s (a3 st) (firstP s)) :
  ∃ pb b1 b4 b5 b7,f 9=.pointer (some ⟨pb,0,none⟩)∧YW w s pb [st] [nd0 s] (.slice (some ⟨b1,0,none⟩) 1 1) (.slice (some ⟨b4,0,none⟩) 1 1) (.slice (some ⟨b5,0,none⟩) 1 1) (.slice (some ⟨b7,0,none⟩) 1 1) V:=by
 obtain⟨b1,e1,l1,c1⟩:=h.p1 (hD 1 (by decide))
 obtain⟨b4,e4,l4,c4⟩:=h.p4 (hD 4 (by decide))
 obtain⟨b5,e5,l5,c5⟩:=h.p5 (hD 5 (by decide))
 obtain⟨b7,e7,l7,c7⟩:=h.p7 (hD 7 (by decide))
 obtain⟨b,e9,l9,c9⟩:=h.p9 (hD 9 (by decide))
 rw[if_pos (hD 10 (by decide)),e1,e4,e5,e7] at c9
 have hl:=hw.size
 have hm:1≤maxLen:=by unfold maxLen;omega
 refine⟨b,b1,b4,b5,b7,e9,⟨⟨hw.trans h.fr,⟨rfl,.inr ⟨b1,1,_,rfl,by omega,c1,Nat.le_refl _,hm,rfl,rfl⟩⟩,rfl,⟨b4,1,_,rfl,by omega,Nat.le_refl _,hm,c4,rfl,rfl⟩,⟨b5,1,_,rfl,by omega,Nat.le_refl _,hm,c5,rfl,rfl⟩,⟨[],rfl⟩,
  ⟨rfl,.inr ⟨b7,1,_,rfl,by omega,c7,Nat.le_refl _,hm,rfl,rfl⟩⟩,fun z hz=>?_⟩,c9,by omega⟩⟩
 have hz':z∈[(st,firstP s)]:=hz
 rw[List.mem_singleton] at hz'
 subst hz'
 exact hs.frm h.fr
end Go.Proofs.YtemjlpahohmajaaGreat
