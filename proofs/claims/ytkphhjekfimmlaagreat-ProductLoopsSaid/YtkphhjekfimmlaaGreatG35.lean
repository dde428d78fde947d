/- Part of the proof. -/
import Derived.Test.YtkphhjekfimmlaaGreatG33
set_option linter.all false
namespace Go.Proofs.YtkphhjekfimmlaaGreat
open Go.RowKit Go.BigFrame
def BxR (W:World) (b:Nat):Prop:=(∃ C,W.heap[b]?=some (.cells C 35 (0,0))) ∧
 ∀ (o:Nat) v,W.cell? ⟨b,o,none⟩=some v→∃ ao n c,v=.slice ao n c∧∀ (g o':Nat),ao=some ⟨g,o',none⟩→∀ p,W.cell? ⟨g,o',none⟩≠some (.pointer p)
section
variable {W V:World} {b:Nat}
theorem BxR.ne (h:BxR W b) {k:Nat} {C:Array Value} {t:TypeId} (hk:W.heap[k]?=some (.cells C t (0,0))) (ht:t≠35):k≠b:=by
 rintro rfl
 obtain⟨⟨D,hD⟩,-⟩:=h
 rw[hk] at hD
 cases hD
 exact ht rfl
theorem BxR.cne (h:BxR W b) {k o:Nat} {u:Value} (hu:W.cell? ⟨k,o,none⟩=some u) (hn:∀ ao n c,u≠.slice ao n c):k≠b:=by
 rintro rfl
 obtain⟨ao,n,c,e,-⟩:=h.2 o u hu
 exact hn _ _ _ e
theorem BxR.cell (hf:Frm [b] W V) {k o:Nat} {u:Value} (hu:W.cell? ⟨k,o,none⟩=some u) (hk:k≠b):V.cell? ⟨k,o,none⟩=some u:=hf.cellAt hu (by simpa using hk)
theorem BxR.keep (h:BxR W b) (hf:Frm [b] W V) {k o:Nat} {u:Value} (hu:W.cell? ⟨k,o,none⟩=some u) (hn:∀ ao n c,u≠.slice ao n c):V.cell? ⟨k,o,none⟩=some u:=BxR.cell hf hu (h.cne hu hn)
theorem BxR.str (h:BxR W b) (hf:Frm [b] W V) {k o:Nat} {x:ByteArray} (hu:W.cell? ⟨k,o,none⟩=some (.string x)):V.cell? ⟨k,o,none⟩=some (.string x):=h.keep hf hu (by simp)
theorem BxR.int (h:BxR W b) (hf:Frm [b] W V) {k o:Nat} {x:Int} (hu:W.cell? ⟨k,o,none⟩=some (.int .i64 x)):V.cell? ⟨k,o,none⟩=some (.int .i64 x):=h.keep hf hu (by simp)
theorem Chn.bx {cb:Nat} {cls cap:Int} {L:List ByteArray} {F:List Nat} (h:Chn W cb cls cap L F) (hb:BxR W b) (hf:Frm [b] W V):Chn V cb cls cap L F:=h.frm hf fun x hx hm=>by
 simp only[List.mem_singleton] at hm
 subst hm
 obtain⟨⟨C,hC⟩,-⟩:=hb
 rcases h.ty x hx with ⟨D,hD⟩ | ⟨D,hD⟩ <;> rw[hC] at hD <;> cases hD
theorem StR.bx {s:SesD} {yb sb:Nat} {x:PS} (h:StR W s yb sb x) (hs:0 < s.roles.length) (hb:BxR W b) (hf:Frm [b] W V):StR V s yb sb x:=by
 obtain⟨av,wv,h1,h2,h3⟩:=h.out
 refine⟨⟨av,wv,hf.at h1 (by simpa using hb.ne h1 (by decide)),h2.frm fun k o y hy=>?_,?_⟩,h.ok⟩
 ·obtain⟨bb,a1,a2,lv,a3,a4⟩:=hy
  exact⟨bb,hb.int hf a1,hb.keep hf a2 (by simp),lv,hf.at a3 (by simpa using hb.ne a3 (by decide)),a4.frm fun k o y hy=>⟨hb.str hf hy.1,hb.int hf hy.2.1,hb.int hf hy.2.2⟩⟩
 ·obtain⟨ao,cap,e,h4⟩:=h3
  refine⟨ao,cap,e,fun i R hR=>?_⟩
  obtain⟨g,o,e2,rv,c1,c2⟩:=h4 i R hR
  have hi:=lt_of_some hR
  have hl:R.length=s.roles.length:=by
   have:=h.ok.wr i (by rw[← h.ok.wl];exact hi)
   rwa [getD_some hR] at this
  have hg:g≠b:=by
   rintro rfl
   obtain⟨a,n,c,e3,hp⟩:=hb.2 _ _ c1
   obtain⟨a',c',e4,h5⟩:=c2
   rw[e3] at e4
   cases e4
   obtain⟨L,hL⟩:∃ L,R[0]?=some L:=⟨_,List.getElem?_eq_getElem (by omega)⟩
   obtain⟨k,o',e5,cb,F,q1,-⟩:=h5 0 L hL
   rw[Nat.zero_mul,Nat.add_zero] at q1
   exact hp k o' e5 _ q1
  refine⟨g,o,e2,rv,BxR.cell hf c1 hg,Arr.frm (fun k o' L hL=>?_) c2⟩
  obtain⟨cb,F,q1,q2⟩:=hL
  exact⟨cb,F,hb.keep hf q1 (by simp),q2.bx hb hf⟩
theorem Rls.bx {v:Value} {l:List RolD} (h:Rls W v l) (hb:BxR W b) (hf:Frm [b] W V):Rls V v l:=Arr.frm (fun k o r hr=>by
 obtain⟨sv,cv,tv,c0,c1,c2,c3,c4⟩:=hr
 have hk:=hb.cne c0 (by simp)
 refine⟨sv,cv,tv,BxR.cell hf c0 hk,BxR.cell hf c1 hk,BxR.cell hf c2 hk,BxR.cell hf c3 hk,⟨c4.sts.frm fun g o y hy=>?_,c4.ctrs.frm fun g o y hy=>?_,c4.steps.frm fun g o y hy=>?_,c4.cap⟩⟩
 ·exact⟨hb.str hf hy.1,hb.keep hf hy.2.1 (by simp),hb.int hf hy.2.2⟩
 ·exact⟨hb.str hf hy.1,hb.int hf hy.2⟩
 ·exact⟨hb.str hf hy.c0,hb.str hf hy.c1,hb.int hf hy.c2,hb.str hf hy.c3,hb.str hf hy.c4,hb.str hf hy.c5,hb.int hf hy.c6,hb.int hf hy.c7,hb.int hf hy.c8⟩) h
theorem SyR.bx {s:SesD} {yb fb:Nat} (h:SyR W s yb fb) (hb:BxR W b) (hf:Frm [b] W V):SyR V s yb fb:=by
 obtain⟨rv,h1,h2⟩:=h.out
 exact⟨⟨rv,hf.at h1 (by simpa using hb.ne h1 (by decide)),h2.bx hb hf⟩,h.ok,h.first.bx (by have:=h.ok.n2;omega) hb hf⟩
theorem RO.bx {s:SesD} {ba bb bw ca cb cw:Nat} {bi:Nat→Nat} {x:PS} (h:RO W s ba bb bw bi x) (hs:0 < s.roles.length) (hb:W.heap[b]?=some (.cells #[.slice (some ⟨ba,0,none⟩) s.roles.length ca,.slice (some ⟨bb,0,none⟩) s.roles.length cb,.slice (some ⟨bw,0,none⟩) s.roles.length cw] 35 (0,0))):BxR W b:=by
 refine⟨⟨_,hb⟩,fun o v hv=>?_⟩
 rw[cell_of hb] at hv
 match o,hv with
 | 0,hv =>
   cases hv
   refine⟨_,_,_,rfl,fun g o' e p=>?_⟩
   cases e
   rw[h.a 0 hs];simp
 | 1,hv =>
   cases hv
   refine⟨_,_,_,rfl,fun g o' e p=>?_⟩
   cases e
   obtain⟨dv,vv,h1,-,h2,-⟩:=h.b 0 hs
   obtain⟨a,c,rfl⟩:=own_shape h2
   rw[Nat.zero_mul] at h1
   rw[h1];simp
 | 2,hv =>
   cases hv
   refine⟨_,_,_,rfl,fun g o' e p=>?_⟩
   cases e
   obtain⟨c,h1⟩:=h.w 0 hs
   rw[h1];simp
 | o + 3,hv=>simp at hv
end
end Go.Proofs.YtkphhjekfimmlaaGreat
