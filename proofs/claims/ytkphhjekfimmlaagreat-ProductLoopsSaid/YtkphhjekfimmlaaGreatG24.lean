/- Part of the proof. -/
import Derived.Test.YtkphhjekfimmlaaGreatG20
import Derived.Shelf.SortM.Plain
import Derived.Shelf.SortM.SortNone
import Derived.Sort.CutIn
import Derived.OrdersIn
import Derived.Test.YtkphhjekfimmlaaGreatG19
import Derived.Test.YtkphhjekfimmlaaGreatG07
import Derived.Test.YtkphhjekfimmlaaGreatG01
import Derived.Deep.RegionHeld3
import Derived.Test.YtkphhjekfimmlaaGreatG23
import Derived.Lib.Builder
import Derived.Laws.OwnMore
import Derived.Maps.OwnSet
import Derived.Maps.OwnOps
import Derived.Laws.StructEq
import Derived.Laws.EntriesVeiled
import Derived.Laws.Concat
import Derived.Lib.AppendStr
import Derived.Test.YtkphhjekfimmlaaGreatG10
set_option linter.all false
namespace Go.Proofs.YtkphhjekfimmlaaGreat
open Go.RowKit Go.BigFrame
structure ChS (w:World) (s:SesD) (x:PS) (yb xb ab gb rb cb f t:Nat) (F:List Nat) (L:List ByteArray) (W:World):Prop where
 fr:Frm [] w W
 new:w.heap.size≤xb∧w.heap.size≤ab∧w.heap.size≤gb∧w.heap.size≤rb∧∀ k∈F,w.heap.size≤k
 hx:∃ ca cg,W.heap[xb]?=some (.cells #[.pointer (some ⟨yb,0,none⟩),.slice (some ⟨ab,0,none⟩) s.roles.length ca,.slice (some ⟨gb,0,none⟩) s.roles.length cg] 119 (0,0))
 ha:∃ cur,W.heap[ab]?=some (.cells cur 145 (0,0))
 act:∀ i,i < s.roles.length→∃ bb,W.cell? ⟨ab,i * 2,none⟩=some (.int .i64 ((x.at i:Nat):Int))∧W.cell? ⟨ab,i * 2 + 1,none⟩=some (.pointer (some ⟨bb,0,none⟩))∧Bnk w bb (x.ctr s i)
 row:∀ i,i < s.roles.length→i≠f→∃ rv,W.cell? ⟨gb,i,none⟩=some rv∧RowV s.cls s.cap w rv (x.ways.getD i [])
 rowf:∃ cr,W.cell? ⟨gb,f,none⟩=some (.slice (some ⟨rb,0,none⟩) s.roles.length cr)
 chs:∀ k,k < s.roles.length→k≠t→∃ c G,W.cell? ⟨rb,k,none⟩=some (.pointer (some ⟨c,0,none⟩))∧Chn w c s.cls s.cap (x.way f k) G
 cht:W.cell? ⟨rb,t,none⟩=some (.pointer (some ⟨cb,0,none⟩))
 chn:Chn W cb s.cls s.cap L F
 types:(∃ c fr,W.heap[gb]?=some (.cells c 137 fr))∧∃ c fr,W.heap[rb]?=some (.cells c 138 fr)
structure Ch2 (w:World) (s:SesD) (x:PS) (yb xb ab gb rb f:Nat) (W:World):Prop where
 fr:Frm [] w W
 new:w.heap.size≤xb∧w.heap.size≤ab∧w.heap.size≤gb∧w.heap.size≤rb
 hx:∃ ca cg,W.heap[xb]?=some (.cells #[.pointer (some ⟨yb,0,none⟩),.slice (some ⟨ab,0,none⟩) s.roles.length ca,.slice (some ⟨gb,0,none⟩) s.roles.length cg] 119 (0,0))
 ha:∃ cur,W.heap[ab]?=some (.cells cur 145 (0,0))
 act:∀ i,i < s.roles.length→∃ bb,W.cell? ⟨ab,i * 2,none⟩=some (.int .i64 ((x.at i:Nat):Int))∧W.cell? ⟨ab,i * 2 + 1,none⟩=some (.pointer (some ⟨bb,0,none⟩))∧Bnk w bb (x.ctr s i)
 row:∀ i,i < s.roles.length→i≠f→∃ rv,W.cell? ⟨gb,i,none⟩=some rv∧RowV s.cls s.cap w rv (x.ways.getD i [])
 rowf:∃ cr,W.cell? ⟨gb,f,none⟩=some (.slice (some ⟨rb,0,none⟩) s.roles.length cr)
 chs:∀ k,k < s.roles.length→∃ c G,W.cell? ⟨rb,k,none⟩=some (.pointer (some ⟨c,0,none⟩))∧Chn w c s.cls s.cap (x.way f k) G
 tg:∃ c,W.heap[gb]?=some (.cells c 137 (0,0))
 tr:∃ c,W.heap[rb]?=some (.cells c 138 (0,0))
section
variable {w W W':World} {s:SesD} {x:PS} {yb xb ab gb rb cb f t:Nat} {F F':List Nat} {L L':List ByteArray}
theorem Chn.types (h:Chn W cb s.cls s.cap L F) {k:Nat} (hk:k∈F):∃ c e,W.heap[k]?=some (.cells c e (0,0))∧(e=229∨e=9):=by
 obtain⟨sv,h1,h2,-,rfl⟩:=h
 simp only[List.mem_cons,Option.mem_toList] at hk
 rcases hk with rfl | hk
 ·exact⟨_,_,h1,.inl rfl⟩
 ·obtain⟨c,hc⟩:=ownBlock_type h2 hk
  exact⟨c,9,hc,.inr rfl⟩
theorem Ch2.frm (h:Ch2 w s x yb xb ab gb rb f W) (hf:Frm [] W W'):Ch2 w s x yb xb ab gb rb f W':=by
 obtain⟨ca,cg,hx⟩:=h.hx
 obtain⟨cur,ha⟩:=h.ha
 obtain⟨c1,t1⟩:=h.tg
 obtain⟨c2,t2⟩:=h.tr
 obtain⟨cr,hr⟩:=h.rowf
 refine⟨h.fr.trans hf,h.new,⟨ca,cg,hf.at hx (by simp)⟩,⟨cur,hf.at ha (by simp)⟩,fun i hi=>?_,fun i hi hn=>?_,⟨cr,hf.keep hr⟩,fun k hk=>?_,⟨c1,hf.at t1 (by simp)⟩,c2,hf.at t2 (by simp)⟩
 ·obtain⟨bb,a1,a2,a3⟩:=h.act i hi
  exact⟨bb,hf.keep a1,hf.keep a2,a3⟩
 ·obtain⟨rv,a1,a2⟩:=h.row i hi hn
  exact⟨rv,hf.keep a1,a2⟩
 ·obtain⟨c,G,a1,a2⟩:=h.chs k hk
  exact⟨c,G,hf.keep a1,a2⟩
theorem ch2_mk {w3 w5:World} {cab cgb crb n:Nat} {curg curr:Array Value} (hn:s.roles.length=n) (hok:PSok s x) (hfl:f < s.roles.length) (fr:Frm [] w w5) (f35:Frm [] w3 w5) (n1:w.heap.size≤xb) (n2:w.heap.size≤ab) (n3:w.heap.size≤gb) (n4:w3.heap.size≤rb)
  (hx:w3.heap[xb]?=some (.cells #[.pointer (some ⟨yb,0,none⟩),.slice (some ⟨ab,0,none⟩) n cab,.slice (some ⟨gb,0,none⟩) n cgb] 119 (0,0))) {cura:Array Value} (ha:w3.heap[ab]?=some (.cells cura 145 (0,0))) (hae:∀ (i:Nat) a,(actsP s x)[i]?=some a→AoAt w w3 ab (i * 2) a)
  (hg:w5.heap[gb]?=some (.cells curg 137 (0,0))) (hg3:w3.heap[gb]?=some (.cells curg 137 (0,0))) (hge:∀ (i:Nat) R,x.ways[i]?=some R→WoAt s.cls s.cap w w3 gb (i * 1) R) (hr:w5.heap[rb]?=some (.cells curr 138 (0,0))) (hre:∀ (k:Nat) M,(x.ways.getD f [])[k]?=some M→CoAt s.cls s.cap w w5 rb (k * 1) M) :
  Ch2 w s x yb xb ab gb rb f (w5.setCell ⟨gb,f,none⟩ (.slice (some ⟨rb,0,none⟩) n crb)):=by
 have hF:Frm [gb] w5 (w5.setCell ⟨gb,f,none⟩ (.slice (some ⟨rb,0,none⟩) n crb)):=(Frm.refl _ _).setCell _ (.inl (by simp)) _
 have hb:=block_setCell hg f (.slice (some ⟨rb,0,none⟩) n crb)
 have x5:=f35.at hx (by simp)
 have a5:=f35.at ha (by simp)
 have nx:xb∉[gb]:=fun e=>by simp at e;subst e;rw[x5] at hg;cases hg
 have na:ab∉[gb]:=fun e=>by simp at e;subst e;rw[a5] at hg;cases hg
 have nr:rb∉[gb]:=fun e=>by simp at e;subst e;rw[hr] at hg;cases hg
 have hgf:f < curg.size:=by
  obtain⟨v,h1,-⟩:=hge f _ (some_getD (d:=[]) (by rw[hok.wl];exact hfl))
  rw[Nat.mul_one,cell_of hg3] at h1
  exact(Array.getElem?_eq_some_iff.1 h1).1
 have hs5:=f35.size
 have hs0:=lt_of_block hg3
 refine⟨fr.then hF (by intro y hy;simp at hy;subst hy;exact .inr n3),⟨n1,n2,n3,by omega⟩,⟨cab,cgb,by rw[hn];exact hF.at x5 nx⟩,⟨cura,hF.at a5 na⟩,fun i hi=>?_,fun i hi hne=>?_,⟨crb,?_⟩,fun k hk=>?_,⟨_,hb⟩,curr,hF.at hr nr⟩
 ·obtain⟨bb,b1,b2,b3⟩:=hae i _ (actsP_at hi)
  exact⟨bb,hF.cellAt (f35.keep b1) na,hF.cellAt (f35.keep b2) na,b3⟩
 ·obtain⟨v,b1,b2⟩:=hge i _ (some_getD (d:=[]) (by rw[hok.wl];exact hi))
  rw[Nat.mul_one] at b1
  refine⟨v,?_,b2⟩
  rw[cell_of hb,Array.getElem?_setIfInBounds_ne (by omega),← cell_of hg3]
  exact b1
 ·rw[cell_of hb,Array.getElem?_setIfInBounds_self_of_lt hgf,hn]
 ·obtain⟨c,G,b1,b2⟩:=hre k _ (some_getD (d:=[]) (by rw[hok.wr f hfl];exact hk))
  rw[Nat.mul_one] at b1
  exact⟨c,G,hF.cellAt b1 nr,b2⟩
theorem Ch2.fin {w7:World} (h:Ch2 w s x yb xb ab gb rb f W) (hf:Frm [] W w7) (hc:Chn w7 cb s.cls s.cap L F) (hF:∀ k∈F,W.heap.size≤k) (ht:t < s.roles.length):ChS w s x yb xb ab gb rb cb f t F L (w7.setCell ⟨rb,t,none⟩ (.pointer (some ⟨cb,0,none⟩))):=by
 have h7:=h.frm hf
 obtain⟨ca,cg,hx⟩:=h7.hx
 obtain⟨cur,ha⟩:=h7.ha
 obtain⟨c1,t1⟩:=h7.tg
 obtain⟨c2,t2⟩:=h7.tr
 obtain⟨cr,hr⟩:=h7.rowf
 have hS:Frm [rb] w7 (w7.setCell ⟨rb,t,none⟩ (.pointer (some ⟨cb,0,none⟩))):=(Frm.refl _ _).setCell _ (.inl (by simp)) _
 have hb:=block_setCell t2 t (.pointer (some ⟨cb,0,none⟩))
 have nx:xb∉[rb]:=fun e=>by simp at e;subst e;rw[hx] at t2;cases t2
 have na:ab∉[rb]:=fun e=>by simp at e;subst e;rw[ha] at t2;cases t2
 have ng:gb∉[rb]:=fun e=>by simp at e;subst e;rw[t1] at t2;cases t2
 have nF:∀ k∈F,k∉[rb]:=fun k hk e=>by
  obtain⟨c,e',a1,a2⟩:=hc.types hk
  simp at e;subst e
  rw[t2] at a1;cases a1
  revert a2;decide
 have hsz:t < c2.size:=by
  obtain⟨c,G,a1,-⟩:=h7.chs t ht
  rw[cell_of t2] at a1
  exact(Array.getElem?_eq_some_iff.1 a1).1
 have hs:=h.fr.size
 refine⟨h7.fr.then hS (by intro y hy;simp at hy;subst hy;exact .inr h.new.2.2.2),⟨h.new.1,h.new.2.1,h.new.2.2.1,h.new.2.2.2,fun k hk=>by have:=hF k hk;omega⟩,⟨ca,cg,hS.at hx nx⟩,⟨cur,hS.at ha na⟩,fun i hi=>?_,fun i hi hn=>?_,⟨cr,hS.cellAt hr ng⟩,fun k hk hn=>?_,?_,hc.frm hS nF,⟨c1,(0,0),hS.at t1 ng⟩,_,(0,0),hb⟩
 ·obtain⟨bb,a1,a2,a3⟩:=h7.act i hi
  exact⟨bb,hS.cellAt a1 na,hS.cellAt a2 na,a3⟩
 ·obtain⟨rv,a1,a2⟩:=h7.row i hi hn
  exact⟨rv,hS.cellAt a1 ng,a2⟩
 ·obtain⟨c,G,a1,a2⟩:=h7.chs k hk
  refine⟨c,G,?_,a2⟩
  rw[cell_of hb,Array.getElem?_setIfInBounds_ne (by omega),← cell_of t2]
  exact a1
 ·rw[cell_of hb,Array.getElem?_setIfInBounds_self_of_lt hsz]
theorem ChS.frm (h:ChS w s x yb xb ab gb rb cb f t F L W) (hf:Frm [] W W'):ChS w s x yb xb ab gb rb cb f t F L W':=by
 obtain⟨ca,cg,hx⟩:=h.hx
 obtain⟨cur,ha⟩:=h.ha
 obtain⟨⟨c1,f1,t1⟩,c2,f2,t2⟩:=h.types
 obtain⟨cr,hr⟩:=h.rowf
 refine⟨h.fr.trans hf,h.new,⟨ca,cg,hf.at hx (by simp)⟩,⟨cur,hf.at ha (by simp)⟩,fun i hi=>?_,fun i hi hn=>?_,⟨cr,hf.keep hr⟩,fun k hk hn=>?_,hf.keep h.cht,h.chn.frm hf (by simp),⟨c1,f1,hf.at t1 (by simp)⟩,c2,f2,hf.at t2 (by simp)⟩
 ·obtain⟨bb,a1,a2,a3⟩:=h.act i hi
  exact⟨bb,hf.keep a1,hf.keep a2,a3⟩
 ·obtain⟨rv,a1,a2⟩:=h.row i hi hn
  exact⟨rv,hf.keep a1,a2⟩
 ·obtain⟨c,G,a1,a2⟩:=h.chs k hk hn
  exact⟨c,G,hf.keep a1,a2⟩
theorem ChS.chan (h:ChS w s x yb xb ab gb rb cb f t F L W) (hc:ChnTo W cb s.cls s.cap L' F W'):∃ F',ChS w s x yb xb ab gb rb cb f t F' L' W':=by
 obtain⟨F',k1,k2,k3⟩:=hc
 obtain⟨ca,cg,hx⟩:=h.hx
 obtain⟨cur,ha⟩:=h.ha
 obtain⟨⟨c1,f1,t1⟩,c2,f2,t2⟩:=h.types
 obtain⟨cr,hr⟩:=h.rowf
 have nx:xb∉F:=fun hk=>by obtain⟨c,e,a1,a2⟩:=h.chn.types hk;rw[hx] at a1;cases a1;revert a2;decide
 have na:ab∉F:=fun hk=>by obtain⟨c,e,a1,a2⟩:=h.chn.types hk;rw[ha] at a1;cases a1;revert a2;decide
 have ng:gb∉F:=fun hk=>by obtain⟨c,e,a1,a2⟩:=h.chn.types hk;rw[t1] at a1;cases a1;revert a2;decide
 have nr:rb∉F:=fun hk=>by obtain⟨c,e,a1,a2⟩:=h.chn.types hk;rw[t2] at a1;cases a1;revert a2;decide
 have hs:=h.fr.size
 refine⟨F',h.fr.then k2 (fun k hk=>.inr (h.new.2.2.2.2 k hk)),⟨h.new.1,h.new.2.1,h.new.2.2.1,h.new.2.2.2.1,fun k hk=>?_⟩,⟨ca,cg,k2.at hx nx⟩,⟨cur,k2.at ha na⟩,fun i hi=>?_,fun i hi hn=>?_,⟨cr,k2.cellAt hr ng⟩,fun k hk hn=>?_,k2.cellAt h.cht nr,k1,⟨c1,f1,k2.at t1 ng⟩,c2,f2,k2.at t2 nr⟩
 ·rcases k3 k hk with a | a
  ·exact h.new.2.2.2.2 k a
  ·omega
 ·obtain⟨bb,a1,a2,a3⟩:=h.act i hi
  exact⟨bb,k2.cellAt a1 na,k2.cellAt a2 na,a3⟩
 ·obtain⟨rv,a1,a2⟩:=h.row i hi hn
  exact⟨rv,k2.cellAt a1 ng,a2⟩
 ·obtain⟨c,G,a1,a2⟩:=h.chs k hk hn
  exact⟨c,G,k2.cellAt a1 nr,a2⟩
theorem ChS.ways (h:ChS w s x yb xb ab gb rb cb f t F L W) (hx:PSok s x) (hf:f < s.roles.length) (ht:t < s.roles.length):∃ cg ca,W.heap[xb]?=some (.cells #[.pointer (some ⟨yb,0,none⟩),.slice (some ⟨ab,0,none⟩) s.roles.length ca,.slice (some ⟨gb,0,none⟩) s.roles.length cg] 119 (0,0)) ∧
  Arr 1 (RwAt s.cls s.cap) W (.slice (some ⟨gb,0,none⟩) s.roles.length cg) (setWay x.ways f t L):=by
 obtain⟨ca,cg,hxb⟩:=h.hx
 obtain⟨cr,hr⟩:=h.rowf
 refine⟨cg,ca,hxb,some ⟨gb,0,none⟩,cg,by rw[setWay_length,hx.wl],fun i R hR=>⟨gb,0,rfl,?_⟩⟩
 have hi:=lt_of_some hR
 rw[setWay_length,hx.wl] at hi
 rw[Nat.zero_add,Nat.mul_one]
 unfold setWay at hR
 rw[List.getElem?_set] at hR
 by_cases e:f=i
 ·subst e
  rw[if_pos rfl,if_pos (by rw[hx.wl];exact hi)] at hR
  cases hR
  refine⟨_,hr,some ⟨rb,0,none⟩,cr,by rw[List.length_set,hx.wr f hf],fun k M hM=>⟨rb,0,rfl,?_⟩⟩
  have hk:=lt_of_some hM
  rw[List.length_set,hx.wr f hf] at hk
  rw[Nat.zero_add,Nat.mul_one]
  rw[List.getElem?_set] at hM
  by_cases e2:t=k
  ·subst e2
   rw[if_pos rfl,if_pos (by rw[hx.wr f hf];exact hk)] at hM
   cases hM
   exact⟨cb,F,h.cht,h.chn⟩
  ·rw[if_neg e2] at hM
   obtain⟨c,G,a1,a2⟩:=h.chs k hk (fun e=>e2 e.symm)
   have:x.way f k=M:=by unfold PS.way wayOf;exact getD_some hM
   rw[this] at a2
   exact⟨c,G,a1,a2.frm h.fr (by simp)⟩
 ·rw[if_neg e] at hR
  obtain⟨rv,a1,a2⟩:=h.row i hi (fun e'=>e e'.symm)
  rw[getD_some hR] at a2
  exact⟨rv,a1,a2.frm h.fr⟩
theorem ChS.str (h:ChS w s x yb xb ab gb rb cb f t F L W) (hx:PSok s x) (hf:f < s.roles.length) (ht:t < s.roles.length) (ho:PSok s { x with ways:=setWay x.ways f t L }):StR W s yb xb { x with ways:=setWay x.ways f t L }:=by
 obtain⟨cg,ca,h1,h2⟩:=h.ways hx hf ht
 refine⟨⟨_,_,h1,⟨some ⟨ab,0,none⟩,ca,by rw[actsP_len],fun i a ha=>⟨ab,0,rfl,?_⟩⟩,h2⟩,ho⟩
 have hi:i < s.roles.length:=by have:=lt_of_some ha;rwa [actsP_len] at this
 rw[actsP_at hi] at ha
 cases ha
 obtain⟨bb,a1,a2,a3⟩:=h.act i hi
 rw[Nat.zero_add]
 exact⟨bb,a1,a2,a3.frm h.fr⟩
end
end Go.Proofs.YtkphhjekfimmlaaGreat
namespace Go.Proofs.YtkphhjekfimmlaaGreat
open Go.RowKit Go.BigFrame
theorem Arr.imp {α:Type} {k:Nat} {At At':World→Nat→Nat→α→Prop} {w w':World} {v:Value} {xs:List α} (hA:∀ b o x,At w b o x→At' w' b o x) (h:Arr k At w v xs):Arr k At' w' v xs:=by
 obtain⟨ao,cap,h1,h2⟩:=h
 refine⟨ao,cap,h1,fun i x hx=>?_⟩
 obtain⟨b,o,e,h3⟩:=h2 i x hx
 exact⟨b,o,e,hA _ _ _ h3⟩
theorem Fr.row {α:Type} {k:Nat} {e:TypeId} {At:World→Nat→Nat→α→Prop} {w w':World} {xs:List α} {v:Value} (h:Fr k e At w xs v w') (hn:xs.length≠0) :
  ∃ g cap cur,v=.slice (some ⟨g,0,none⟩) xs.length cap∧w.heap.size≤g∧w'.heap[g]?=some (.cells cur e (0,0))∧∀ (i:Nat) x,xs[i]?=some x→At w' g (i * k) x:=by
 rcases h.own with e | ⟨news,ho⟩
 ·rw[e] at hn;simp at hn
 ·obtain⟨g,cap,cur,rfl,hg,hc⟩:=own_block ho hn
  refine⟨g,cap,cur,rfl,hg,hc,fun i x hx=>?_⟩
  obtain⟨b,o,e,ha⟩:=h.arr.get hx
  cases e
  rw[Nat.zero_add] at ha
  exact ha
set_option maxHeartbeats 4000000 in
set_option maxRecDepth 100000 in
theorem pChange_any (s:SesD) (yb sb f t:Nat) (x:PS) (w:World) (hx:StR w s yb sb x) (hf:f < s.roles.length) (ht:t < s.roles.length) (h4:s.roles.length≤4) :
  Calls Tryz.prog 74 #[.pointer (some ⟨sb,0,none⟩),.int .i64 f,.int .i64 t] w (RetV fun v w'=>∃ xb ab gb rb cb F,v=.tuple #[.pointer (some ⟨xb,0,none⟩),.pointer (some ⟨cb,0,none⟩)]∧ChS w s x yb xb ab gb rb cb f t F (x.way f t) w'):=by
 have HST:=Lib.hid hx
 obtain⟨av,wv,h1,h2,h3⟩:=hx.out
 have hok:=hx.ok
 obtain⟨aa,ca,rfl⟩:=h2.shape
 obtain⟨aw,cw,rfl⟩:=h3.shape
 obtain⟨n,hn⟩:∃ n,s.roles.length=n:=⟨_,rfl⟩
 have CA:Hid (∀ V,Frm [] w V→Calls Tryz.prog 131 #[.slice aa n ca] V (RetV (Fr 2 145 (AoAt w) V (actsP s x)))):=Lib.hid fun V hV=>by
  have:=clActorAt_any w (.slice aa (actsP s x).length ca) (actsP s x) V (h2.imp fun _ _ _ h=>AoAt.frm h hV) (by rw[actsP_len];omega)
  rwa [actsP_len,hn] at this
 have CW:Hid (∀ V,Frm [] w V→Calls Tryz.prog 132 #[.slice aw n cw] V (RetV (Fr 1 137 (WoAt s.cls s.cap w) V x.ways))):=Lib.hid fun V hV=>by
  have:=clWaysAt_any s.cls s.cap w (.slice aw x.ways.length cw) x.ways V (h3.imp fun _ _ _ h=>WoAt.frm h hV) (by rw[hok.wl];omega)
  rwa [hok.wl,hn] at this
 rw[actsP_len,hok.wl,hn] at h1
 have HS:Hid (∀ V,Frm [] w V→V.cell? ⟨sb,0,none⟩=some (.pointer (some ⟨yb,0,none⟩))∧V.cell? ⟨sb,1,none⟩=some (.slice aa n ca)∧V.cell? ⟨sb,2,none⟩=some (.slice aw n cw)):=Lib.hid fun V hV=>⟨hV.keep (cell_of h1 0),hV.keep (cell_of h1 1),hV.keep (cell_of h1 2)⟩
 have HN:=Lib.hid hn;have HOK:=Lib.hid hok;have HFL:=Lib.hid hf;have HTL:=Lib.hid ht
 have hfn:(f:Int) < (n:Int):=by omega
 have htn:(t:Int) < (n:Int):=by omega
 clear h1 h2 h3 hx hok hn hf ht
 go_enter Tryz.func74,Tryz.ntmps74
 go_upto_region 1 with fail
 go_region_held3 (fun V=>V.cell? ⟨sb,0,none⟩=some (.pointer (some ⟨yb,0,none⟩))∧V.cell? ⟨sb,1,none⟩=some (.slice aa n ca)∧V.cell? ⟨sb,2,none⟩=some (.slice aw n cw))
  (first
   | exact HS.out _ ((Frm.refl [] w).drew)
   | exact HS.out _ F1.out
   | exact HS.out _ F2.out
   | exact HS.out _ (F2.out.alloc _))
  (first
   | (go_at_call 131;go_must (refine(CA.out _ ((Frm.refl [] w).drew)).mono ?_;rintro e w1 ⟨u,rfl,hr⟩;have F1:Hid (Frm [] w w1):=Lib.hid ((Frm.refl [] w).drew.trans hr.frm);have hrr:=hr.row (by rw[actsP_len,HN.out];omega);rw[actsP_len,HN.out] at hrr;obtain⟨ab,cab,cura,rfl,hab,hba,hae⟩:=hrr;have HAB:=Lib.hid hab;have HBA:=Lib.hid hba;have HAE:=Lib.hid hae;clear hab hba hae hr))
   | (go_at_call 132;go_must (refine(CW.out _ F1.out).mono ?_;rintro e w2 ⟨u,rfl,hr⟩;have F2:Hid (Frm [] w w2):=Lib.hid (F1.out.trans hr.frm);have F12:=Lib.hid hr.frm;have hrr:=hr.row (by rw[HOK.out.wl,HN.out];omega);rw[HOK.out.wl,HN.out] at hrr;obtain⟨gb,cgb,curg,rfl,hgb,hbg,hge⟩:=hrr;have HGB:=Lib.hid hgb;have HBG:=Lib.hid hbg;have HGE:=Lib.hid hge;clear hgb hbg hge hr)))
 obtain⟨w3,hw3⟩:∃ w3,w2.alloc (.cells #[.pointer (some ⟨yb,0,none⟩),.slice (some ⟨ab,0,none⟩) n cab,.slice (some ⟨gb,0,none⟩) n cgb] 119)=w3:=⟨_,rfl⟩
 have F3:Hid (Frm [] w w3):=Lib.hid (by rw[← hw3];exact F2.out.alloc _)
 have F13:Hid (Frm [] w1 w3):=Lib.hid (by rw[← hw3];exact F12.out.alloc _)
 have F23:Hid (Frm [] w2 w3):=Lib.hid (by rw[← hw3];exact(Frm.refl _ _).alloc _)
 have X3:Hid (w3.heap[w2.heap.size]?=some (.cells #[.pointer (some ⟨yb,0,none⟩),.slice (some ⟨ab,0,none⟩) n cab,.slice (some ⟨gb,0,none⟩) n cgb] 119 (0,0))):=Lib.hid (by rw[← hw3];exact heap_alloc_new _ _)
 have HE3:=Lib.hid hw3
 have hfl:(x.ways)[f]?=some (x.ways.getD f []):=some_getD (by rw[HOK.out.wl];exact HFL.out)
 obtain⟨rvf,q0,q1⟩:=HGE.out f _ hfl
 obtain⟨ar,cr,rfl⟩:=q1.shape
 rw[HOK.out.wr f HFL.out,HN.out,Nat.mul_one] at q0
 have CR:Hid (∀ V,Frm [] w V→Calls Tryz.prog 133 #[.slice ar n cr] V (RetV (Fr 1 138 (CoAt s.cls s.cap w) V (x.ways.getD f [])))):=Lib.hid fun V hV=>by
  have:=clRowAt_any s.cls s.cap w (.slice ar (x.ways.getD f []).length cr) (x.ways.getD f []) V (q1.imp fun _ _ _ h=>CoAt.frm h hV) (by rw[HOK.out.wr f HFL.out];omega)
  rwa [HOK.out.wr f HFL.out,HN.out] at this
 have HQ0:=Lib.hid q0
 have HS3:Hid (∀ V,Frm [] w3 V→V.cell? ⟨w2.heap.size,2,none⟩=some (.slice (some ⟨gb,0,none⟩) n cgb)∧V.cell? ⟨gb,f,none⟩=some (.slice ar n cr)):=Lib.hid fun V hV=>⟨hV.keep (cell_of X3.out 2),(F23.out.trans hV).keep HQ0.out⟩
 clear hw3 hfl q0 q1 CA CW HS
 go_upto_region 2 with fail
 rw[HE3.out]
 have HAE3:Hid (∀ (i:Nat) a,(actsP s x)[i]?=some a→AoAt w w3 ab (i * 2) a):=Lib.hid fun i a ha=>(HAE.out i a ha).frm F13.out
 have HGE3:Hid (∀ (i:Nat) R,x.ways[i]?=some R→WoAt s.cls s.cap w w3 gb (i * 1) R):=Lib.hid fun i R hR=>(HGE.out i R hR).frm F23.out
 have BA3:=Lib.hid (F13.out.at HBA.out (by simp))
 have BG3:=Lib.hid (F23.out.at HBG.out (by simp))
 have HL:Hid (w.heap.size≤w2.heap.size∧w.heap.size≤ab∧w.heap.size≤gb):=Lib.hid ⟨F2.out.size,HAB.out,Nat.le_trans F1.out.size HGB.out⟩
 obtain⟨xb,hxb⟩:∃ xb,w2.heap.size=xb:=⟨_,rfl⟩
 rw[hxb] at HS3 X3 HL ⊢
 clear hxb F12 HAE HGE HBA HBG HAB HGB HE3 F13 F23 HQ0 F1 F2
 obtain⟨y1,y2⟩:=HS3.out w3 (Frm.refl _ _)
 have hgl:=cell_lt y2
 go_cut [] (fun wc=>∃ rb,Ch2 w s x yb xb ab gb rb f wc)
 case first =>
  go_region_law (first
   | (go_simp;go_at_call 133;go_must (refine(CR.out _ F3.out.drew).mono ?_;rintro e w5 ⟨u,rfl,hr⟩;have F35:Hid (Frm [] w3 w5):=Lib.hid ((Frm.refl [] w3).drew.trans hr.frm);have hrr:=hr.row (by rw[HOK.out.wr f HFL.out,HN.out];omega);rw[HOK.out.wr f HFL.out,HN.out] at hrr;obtain⟨rb,crb,curr,rfl,hrb,hbr,hre⟩:=hrr;have HRB:=Lib.hid hrb;have HBR:=Lib.hid hbr;have HRE:=Lib.hid hre;have bg5:=F35.out.at BG3.out (by simp);obtain⟨cx5,cg5⟩:=HS3.out _ F35.out;have fg5:=free_of bg5 f;have BG5:=Lib.hid bg5;clear hrb hbr hre hr bg5)))
  all_goals
   go_wp2
   go_meet
   exact⟨rb,ch2_mk HN.out HOK.out HFL.out (F3.out.trans F35.out) F35.out HL.out.1 HL.out.2.1 HL.out.2.2 HRB.out X3.out BA3.out HAE3.out BG5.out BG3.out HGE3.out HBR.out HRE.out⟩
 case rest =>
  obtain⟨rb,h2⟩:=hcut
  have H2:=Lib.hid h2
  clear h2 y1 y2 hgl HS3 X3 HAE3 HGE3 BA3 BG3 HL CR
  have h3:=H2.out
  obtain⟨cax,cgx,hx3⟩:=h3.hx
  obtain⟨cr3,hr3⟩:=h3.rowf
  obtain⟨c0,G0,hc3,hch⟩:=h3.chs t HTL.out
  obtain⟨cg3,tg3⟩:=h3.tg
  obtain⟨ct3,tr3⟩:=h3.tr
  rw[HN.out] at hx3 hr3
  have FW:=Lib.hid h3.fr
  have HCH:=Lib.hid hch
  have HS4:Hid (∀ V,Frm [] wc V→V.cell? ⟨xb,2,none⟩=some (.slice (some ⟨gb,0,none⟩) n cgx)∧V.cell? ⟨gb,f,none⟩=some (.slice (some ⟨rb,0,none⟩) n cr3)∧V.cell? ⟨rb,t,none⟩=some (.pointer (some ⟨c0,0,none⟩))∧V.frozen? ⟨rb,t,none⟩=false):=
   Lib.hid fun V hV=>⟨hV.keep (cell_of hx3 2),hV.keep hr3,hV.keep hc3,free_of (hV.at tr3 (by simp)) t⟩
  have CC:=Lib.hid (copy_any (hch.frm h3.fr.drew (by simp)))
  have y1:=cell_of hx3 2
  have hl1:=cell_lt y1
  have hl2:=cell_lt hr3
  have hl3:=cell_lt hc3
  clear h3 hx3 tg3 tr3 hch
  go_upto_region 3 with fail
  go_cut [] (fun wd=>∃ cb F,ChS w s x yb xb ab gb rb cb f t F (x.way f t) wd)
  case first =>
   go_region_law (first
    | (go_simp;go_at_call 67;go_must (refine CC.out.mono ?_;rintro e w7 ⟨u,rfl,cb,F,rfl,hcn,hfr,hF⟩;have F7:Hid (Frm [] wc w7):=Lib.hid ((Frm.refl [] wc).drew.trans hfr);have HCN:=Lib.hid hcn;have HFF:=Lib.hid hF;obtain⟨a1,a2,a3,a4⟩:=HS4.out _ F7.out;clear hcn hfr hF)))
   all_goals
    go_wp2
    go_meet
    exact⟨cb,F,H2.out.fin F7.out HCN.out HFF.out HTL.out⟩
  case rest =>
   obtain⟨cb,F,hcs⟩:=hcut
   have HCS:=Lib.hid hcs
   obtain⟨cax',cgx',hx4⟩:=hcs.hx
   obtain⟨cr4,hr4⟩:=hcs.rowf
   rw[HN.out] at hx4 hr4
   have HS5:Hid (∀ V,Frm [] wc V→V.cell? ⟨xb,2,none⟩=some (.slice (some ⟨gb,0,none⟩) n cgx')∧V.cell? ⟨gb,f,none⟩=some (.slice (some ⟨rb,0,none⟩) n cr4)∧V.cell? ⟨rb,t,none⟩=some (.pointer (some ⟨cb,0,none⟩))):=
    Lib.hid fun V hV=>⟨hV.keep (cell_of hx4 2),hV.keep hr4,hV.keep hcs.cht⟩
   clear hcs hx4 hr4 y1 hl1 hl2 hl3 hc3 hr3 HS4 CC H2
   go_upto_region 4 with fail
   refine wp_region_cq (by kernel_rfl) (by kernel_rfl) ?_
   repeat (first
    | go_big_quiet_skip
    | (refine wpQuiet_want (by rfl) (fun K hK=>?_)
       first
        | (refine quiet_move _ (by rfl) (hK _ ?_))
        | (refine quiet_assign _ (by rfl) (hK _ ?_))
        | (apply Exists.intro
           refine⟨fun w' hC=>?_,hK _ ?_⟩
           ·(unfold Oper.quietAt
             obtain⟨z1,z2,z3⟩:=HS5.out w' hC
             clear hC
             go_simp
             try exact⟨rfl,rfl⟩
             try rfl))
       clear hK K
       try simp only[nrm,Act.eval,nrq]))
   refine wpQuiet_nil ?_
   intro w9 hf9
   go_wp2
   go_ret2
   exact⟨_,rfl,xb,ab,gb,rb,cb,F,rfl,HCS.out.frm hf9⟩
end Go.Proofs.YtkphhjekfimmlaaGreat
namespace Go.Proofs.YtkphhjekfimmlaaGreat
open Go
section
variable {s:SesD} {x z u:PS}
theorem next_step (s:SesD) (x:PS) (i k:Nat) (p:Int):nextP s x ⟨1,i,k,p⟩ =
  { pos:=x.pos.set i (stIx (s.rol i) ((s.rol i).stp k).to).toNat
    vals:=x.vals.set i (bankDo (s.rol i).ctrs (x.bank i) ((s.rol i).stp k))
    ways:=
     if ((s.rol i).stp k).kind=1 then setWay x.ways i (peerN s ((s.rol i).stp k)) (putL s.cap (x.way i (peerN s ((s.rol i).stp k))) ((s.rol i).stp k).msg)
     else if ((s.rol i).stp k).kind=2 then setWay x.ways (peerN s ((s.rol i).stp k)) i (takeL s.cls (x.way (peerN s ((s.rol i).stp k)) i) p)
     else x.ways }:=by
 unfold nextP
 rw[if_neg (show ¬ (1:Int)=2 by decide)]
 rfl
theorem next_lose (s:SesD) (x:PS) (i k:Nat) (p:Int):nextP s x ⟨2,i,k,p⟩={ x with ways:=setWay x.ways i k (loseL s.cls (x.way i k)) }:=by
 unfold nextP
 rw[if_pos rfl]
 rfl
end
end Go.Proofs.YtkphhjekfimmlaaGreat
namespace Go.Proofs.YtkphhjekfimmlaaGreat
open Go.RowKit
section
variable {F:List Nat} {P:Program} {ops:Array Oper} {Q:Exit→Act→World→Prop} {md:Region.Mode} {S S':World→Prop}
theorem wpAnyF_sub (hSS:∀ W,S' W→S W):∀ (fuel:Nat) (listed:Array Bool) (a:Act) (w:World),wpAnyH P md ops Q S' fuel listed a w→wpAnyH P md ops Q S fuel listed a w
 | 0,_,_,_,h=>h
 | fuel + 1,_,_,_,h=>⟨h.1,fun i hi=>wpOp_mono (fun a' w' h'=>⟨hSS _ h'.1,wpAnyF_sub hSS fuel _ a' w' h'.2⟩) (h.2 i hi)⟩
theorem heldF_start {id:Nat} {a:Act} {w:World} (hm:P.follows .mixedOrders=true) (h:wpAnyH P .any ops Q (Frm F w.drew) ops.size (Array.replicate ops.size false) a w.drew):(Code.region id ops true).wp P Q a w:=
 wp_region_held hm h
theorem heldF_take {i:Nat} {oi:Oper} {fuel:Nat} {listed:Array Bool} {a:Act} {w:World} (v:Value) (hi:ops[i]?=some oi)
  (hs:Region.noSelect ops=true) (hf:Region.free md ops listed i=true) (hr:(Region.ready md ops listed).contains i=true)
  (hQ:∀ c a w,Q (.panic c) (a.put oi.dst v) w→Q (.panic c) a w) (hw:Region.wanted oi (yielded ops a.tmps)=true) (hy:∀ w',Frm F w w'→(execOp a.eval oi).run P w'=.ok (.value v) w')
  (h:wpAnyH P md ops Q (Frm F w) fuel (listed.setIfInBounds i true) (a.put oi.dst v) w):wpAnyH P md ops Q (Frm F w) (fuel + 1) listed a w:=
 wpAnyH_take hi hs hf hr hQ (.inl ⟨hw,hy⟩) (Frm.refl F _) h
theorem heldF_skip {i:Nat} {oi:Oper} {fuel:Nat} {listed:Array Bool} {a:Act} {w:World} (hi:ops[i]?=some oi)
  (hs:Region.noSelect ops=true) (hf:Region.free md ops listed i=true) (hr:(Region.ready md ops listed).contains i=true)
  (hQ:∀ c a w,Q (.panic c) (a.put oi.dst undef) w→Q (.panic c) a w) (hw:Region.wanted oi (yielded ops a.tmps)=false)
  (h:wpAnyH P md ops Q (Frm F w) fuel (listed.setIfInBounds i true) (a.put oi.dst undef) w):wpAnyH P md ops Q (Frm F w) (fuel + 1) listed a w:=
 wpAnyH_take hi hs hf hr hQ (.inr ⟨hw,rfl⟩) (Frm.refl F _) h
theorem heldF_step {i:Nat} {oi:Oper} {fuel:Nat} {listed:Array Bool} {a:Act} {w:World} (hi:ops[i]?=some oi) (hr:Region.ready md ops listed=[i]) (hw:Region.wanted oi (yielded ops a.tmps)=true)
  (h:∀ K':Act→World→Prop,Shut (∀ a' w',Frm F w w'→wpAnyH P md ops Q (Frm F w') fuel (listed.setIfInBounds i true) a' w'→K' a' w')→Oper.wp P oi a w K' Q):wpAnyH P md ops Q (Frm F w) (fuel + 1) listed a w:=by
 refine wpAnyH_all hr (by simp) (fun j hj=>?_)
 simp only[List.mem_singleton] at hj
 subst hj
 unfold wpOp
 simp only[hi,hw,if_true]
 exact .inl (h _ (fun a' w' hf hk=>⟨hf,wpAnyF_sub (fun W hW=>hf.trans hW) _ _ _ _ hk⟩))
theorem htF (i:Nat) {oi:Oper} {fuel:Nat} {listed:Array Bool} {a:Act} {w:World} (v:Value) (hy:∀ w',Frm F w w'→(execOp a.eval oi).run P w'=.ok (.value v) w')
  (h:wpAnyH P md ops Q (Frm F w) fuel (listed.setIfInBounds i true) (a.put oi.dst v) w) (hi:ops[i]?=some oi:=by rfl) (hb:(Region.noSelect ops && Region.free md ops listed i && (Region.ready md ops listed).contains i)=true:=by kernel_rfl)
  (hQ:∀ c a w,Q (.panic c) (a.put oi.dst v) w→Q (.panic c) a w:=by exact fun _ _ _ h=>h) (hw:Region.wanted oi (yielded ops a.tmps)=true:=by rfl):wpAnyH P md ops Q (Frm F w) (fuel + 1) listed a w:=by
 simp only[Bool.and_eq_true] at hb
 exact heldF_take v hi hb.1.1 hb.1.2 hb.2 hQ hw hy h
theorem hsF (i:Nat) {oi:Oper} {fuel:Nat} {listed:Array Bool} {a:Act} {w:World}
  (h:wpAnyH P md ops Q (Frm F w) fuel (listed.setIfInBounds i true) (a.put oi.dst undef) w) (hi:ops[i]?=some oi:=by rfl) (hb:(Region.noSelect ops && Region.free md ops listed i && (Region.ready md ops listed).contains i)=true:=by kernel_rfl)
  (hQ:∀ c a w,Q (.panic c) (a.put oi.dst undef) w→Q (.panic c) a w:=by exact fun _ _ _ h=>h) (hw:Region.wanted oi (yielded ops a.tmps)=false:=by rfl):wpAnyH P md ops Q (Frm F w) (fuel + 1) listed a w:=by
 simp only[Bool.and_eq_true] at hb
 exact heldF_skip hi hb.1.1 hb.1.2 hb.2 hQ hw h
theorem hstF (i:Nat) {oi:Oper} {fuel:Nat} {listed:Array Bool} {a:Act} {w:World}
 (h:∀ K':Act→World→Prop,Shut (∀ a' w',Frm F w w'→wpAnyH P md ops Q (Frm F w') fuel (listed.setIfInBounds i true) a' w'→K' a' w')→Oper.wp P oi a w K' Q) (hi:ops[i]?=some oi:=by rfl)
 (hr:Region.ready md ops listed=[i]:=by kernel_rfl) (hw:Region.wanted oi (yielded ops a.tmps)=true:=by rfl):wpAnyH P md ops Q (Frm F w) (fuel + 1) listed a w:=heldF_step hi hr hw h
theorem hcF {i:Nat} {oi:Oper} {fuel:Nat} {listed:Array Bool} {a:Act} {w:World} (v:Value) (hy:∀ w',Frm F w w'→(execOp a.eval oi).run P w'=.ok (.value v) w')
  (h:Cnt (i + 1) (wpAnyH P md ops Q (Frm F w) fuel (listed.setIfInBounds i true) (a.put oi.dst v) w)) (hi:ops[i]?=some oi:=by rfl) (hb:(Region.noSelect ops && Region.free md ops listed i && (Region.ready md ops listed).contains i)=true:=by kernel_rfl)
  (hQ:∀ c a w,Q (.panic c) (a.put oi.dst v) w→Q (.panic c) a w:=by exact fun _ _ _ h=>h) (hw:Region.wanted oi (yielded ops a.tmps)=true:=by rfl):Cnt i (wpAnyH P md ops Q (Frm F w) (fuel + 1) listed a w):=
 htF i v hy h hi hb hQ hw
theorem hdF {i:Nat} {oi:Oper} {fuel:Nat} {listed:Array Bool} {a:Act} {w:World}
  (h:Cnt (i + 1) (wpAnyH P md ops Q (Frm F w) fuel (listed.setIfInBounds i true) (a.put oi.dst undef) w)) (hi:ops[i]?=some oi:=by rfl) (hb:(Region.noSelect ops && Region.free md ops listed i && (Region.ready md ops listed).contains i)=true:=by kernel_rfl)
  (hQ:∀ c a w,Q (.panic c) (a.put oi.dst undef) w→Q (.panic c) a w:=by exact fun _ _ _ h=>h) (hw:Region.wanted oi (yielded ops a.tmps)=false:=by rfl):Cnt i (wpAnyH P md ops Q (Frm F w) (fuel + 1) listed a w):=
 hsF i h hi hb hQ hw
end
end Go.Proofs.YtkphhjekfimmlaaGreat
namespace Go.Proofs.YtkphhjekfimmlaaGreat
open Go.RowKit
section
variable {F:List Nat} {P:Program} {ops:Array Oper} {Q:Exit→Act→World→Prop} {md:Region.Mode} {S S':World→Prop} {T:Nat→Bool}
def wpAnyL (P:Program) (md:Region.Mode) (ops:Array Oper) (Q:Exit→Act→World→Prop) (S:World→Prop) (T:Nat→Bool):Nat→Bool→Array Bool→Act→World→Prop
 | 0,_,listed,a,w=>Region.ready md ops listed=[]∧Q .normal a w
 | fuel + 1,b,listed,a,w =>
   (Region.ready md ops listed=[]→Q .normal a w) ∧
   ∀ i∈Region.ready md ops listed,wpOp P ops Q i (fun a' w'=>((b || T i)=false→S w')∧wpAnyL P md ops Q S T fuel (b || T i) (listed.setIfInBounds i true) a' w') a w
theorem wpAny_of_L:∀ (fuel:Nat) (b:Bool) (listed:Array Bool) (a:Act) (w:World),wpAnyL P md ops Q S T fuel b listed a w→wpAny P md ops Q fuel listed a w
 | 0,_,_,_,_,h=>h
 | fuel + 1,_,_,_,_,h=>⟨h.1,fun i hi=>wpOp_mono (fun a' w' h'=>wpAny_of_L fuel _ _ a' w' h'.2) (h.2 i hi)⟩
theorem wpAnyL_sub (hSS:∀ W,S' W→S W):∀ (fuel:Nat) (b:Bool) (listed:Array Bool) (a:Act) (w:World),wpAnyL P md ops Q S' T fuel b listed a w→wpAnyL P md ops Q S T fuel b listed a w
 | 0,_,_,_,_,h=>h
 | fuel + 1,_,_,_,_,h=>⟨h.1,fun i hi=>wpOp_mono (fun a' w' h'=>⟨fun hb=>hSS _ (h'.1 hb),wpAnyL_sub hSS fuel _ _ a' w' h'.2⟩) (h.2 i hi)⟩
def depB (md:Region.Mode) (ops:Array Oper):Nat→Nat→Nat→Bool
 | 0,_,_=>false
 | f + 1,j,i=>((ops[j]?).map fun o=>o.after.any fun e=>Region.binds md e && (e.on == i || depB md ops f e.on i)).getD false
def Closed (md:Region.Mode) (ops:Array Oper) (listed:Array Bool):Prop:=∀ (k:Nat) o,ops[k]?=some o→listed.getD k false=true→∀ e∈o.after,Region.binds md e=true→listed.getD e.on false=true
def closedB (md:Region.Mode) (ops:Array Oper) (listed:Array Bool):Bool:=(List.range ops.size).all fun k=>!listed.getD k false || ((ops[k]?).map fun o=>o.after.all fun e=>!Region.binds md e || listed.getD e.on false).getD true
theorem closed_of {listed:Array Bool} (h:closedB md ops listed=true):Closed md ops listed:=fun k o ho hk e he hb=>by
 have:=(List.all_eq_true.1 h) k (List.mem_range.2 (Array.getElem?_eq_some_iff.1 ho).1)
 rw[ho,hk] at this
 simp only[Bool.not_true,Option.map_some,Option.getD_some,Bool.false_or] at this
 have:=(Array.all_eq_true_iff_forall_mem.1 this) e he
 simpa[hb] using this
theorem dep_no {listed:Array Bool} {i:Nat} (hc:Closed md ops listed) (hi:listed.getD i false=false):∀ (f j:Nat),depB md ops f j i=true→(∀ o,ops[j]?=some o→∀ e∈o.after,Region.binds md e=true→listed.getD e.on false=true)→False
 | 0,_,h,_=>by cases h
 | f + 1,j,h,hj=>by
   unfold depB at h
   cases ho:ops[j]? with
   | none=>rw[ho] at h;cases h
   | some o =>
     rw[ho] at h
     simp only[Option.map_some,Option.getD_some] at h
     obtain⟨e,he,hb⟩:=Array.any_eq_true'.1 h
     simp only[Bool.and_eq_true,Bool.or_eq_true,beq_iff_eq] at hb
     have hl:=hj o ho e he hb.1
     rcases hb.2 with hb | hb
     ·rw[hb,hi] at hl;cases hl
     ·exact dep_no hc hi f e.on hb fun o' ho'=>hc e.on o' ho' hl
def waitsB (md:Region.Mode) (ops:Array Oper) (T:Nat→Bool) (i:Nat):Bool:=(List.range ops.size).all fun j=>!T j || depB md ops 4 j i
theorem wpAnyL_first {i:Nat} {oi:Oper} {v:Value} (hi:ops[i]?=some oi) (hT:T i=false) (hw:waitsB md ops T i=true) (hsel:∀ (j:Nat) (o:Oper) cs b,ops[j]?=some o→o.op≠.select cs b)
  (hQ:∀ c a w,Q (.panic c) (a.put oi.dst v) w→Q (.panic c) a w) :
  ∀ (fuel:Nat) (listed:Array Bool) (a:Act) (w:World),Closed md ops listed →
    (∀ j oj,ops[j]?=some oj→j≠i→listed.getD j true=false→(∀ e∈oj.after,Region.binds md e=true→e.on≠i)→oi.apart ops oj=true) →
    i∈Region.ready md ops listed→YieldsIf P ops S oi v a→S w →
    wpAnyL P md ops Q S T fuel false (listed.setIfInBounds i true) (a.put oi.dst v) w→wpAnyL P md ops Q S T (fuel + 1) false listed a w:=by
 intro fuel
 induction fuel with
 | zero =>
   intro listed a w _ _ hr hy hS H
   refine⟨fun h=>(by rw[h] at hr;cases hr),fun j hj=>?_⟩
   by_cases hji:j=i
   ·subst hji
    rw[Bool.false_or,hT]
    exact hy.wpOp hi hS ⟨fun _=>hS,H⟩
   ·have:=ready_mono hj hji
    rw[H.1] at this
    cases this
 | succ fuel ih =>
   intro listed a w hcl hfree hr hy hS H
   refine⟨fun h=>(by rw[h] at hr;cases hr),fun j hj=>?_⟩
   by_cases hji:j=i
   ·subst hji
    rw[Bool.false_or,hT]
    exact hy.wpOp hi hS ⟨fun _=>hS,H⟩
   ·have h1:=H.2 j (ready_mono hj hji)
    obtain⟨hjun,oj,hoj,hall⟩:=mem_ready.1 hj
    have hnot:∀ e∈oj.after,Region.binds md e=true→e.on≠i:=fun e he hb heq=>by
     have h1:=hall e he hb
     have h0:=(mem_ready.1 hr).1
     rw[heq] at h1
     rcases Nat.lt_or_ge i listed.size with h' | h'
     ·simp[h'] at h0 h1;rw[h0] at h1;cases h1
     ·simp[Array.getElem?_eq_none h'] at h1
    have hTj:T j=false:=by
     have hjs:j < ops.size:=(Array.getElem?_eq_some_iff.1 hoj).1
     have:=(List.all_eq_true.1 hw) j (List.mem_range.2 hjs)
     simp only[Bool.or_eq_true,Bool.not_eq_true'] at this
     rcases this with h | h
     ·exact h
     ·refine(dep_no hcl ?_ 4 j h fun o ho e he hb=>?_).elim
      ·have h0:=(mem_ready.1 hr).1
       rcases Nat.lt_or_ge i listed.size with h' | h'
       ·simp[h'] at h0 ⊢;exact h0
       ·simp[h'] at h0
      ·rw[hoj] at ho
       cases ho
       exact hall e he hb
    rw[Bool.false_or,hTj] at h1 ⊢
    have h2:=wpOp_putIf hoj (hfree j oj hoj hji hjun hnot) (fun cs b=>hsel i oi cs b hi) (fun cs b=>hsel j oj cs b hoj) hQ hy h1
    have hfree':∀ k ok,ops[k]?=some ok→k≠i→(listed.setIfInBounds j true).getD k true=false →
      (∀ e∈ok.after,Region.binds md e=true→e.on≠i)→oi.apart ops ok=true:=fun k ok hk hki hun hno=>by
     refine hfree k ok hk hki ?_ hno
     by_cases hjk:j=k
     ·subst hjk;exact hjun
     ·rw[getD_set_ne true hjk] at hun;exact hun
    have hcl':Closed md ops (listed.setIfInBounds j true):=fun k o ho hk e he hb=>by
     have up:∀ q,listed.getD q false=true→(listed.setIfInBounds j true).getD q false=true:=fun q hq=>by
      by_cases e:j=q
      ·subst e
       rcases Nat.lt_or_ge j listed.size with h' | h'
       ·simp[h']
       ·simp[Array.getElem?_eq_none h'] at hq
      ·rw[getD_set_ne false e];exact hq
     by_cases ek:j=k
     ·subst ek
      rw[hoj] at ho
      cases ho
      exact up _ (hall e he hb)
     ·rw[getD_set_ne false ek] at hk
      exact up _ (hcl k o ho hk e he hb)
    refine wpOp_mono (fun a' w' h3=>⟨fun _=>h3.2.1 rfl,ih (listed.setIfInBounds j true) a' w' hcl' hfree' (ready_mono hr (Ne.symm hji)) h3.1 (h3.2.1 rfl) ?_⟩) h2
    rw[Array.setIfInBounds_comm _ _ hji]
    exact h3.2.2
theorem wpAnyL_firstP {i:Nat} {oi:Oper} {v:Value} (hi:ops[i]?=some oi) (hT:T i=false) (hsel:∀ (j:Nat) (o:Oper) cs b,ops[j]?=some o→o.op≠.select cs b)
  (hQ:∀ c a w,Q (.panic c) (a.put oi.dst v) w→Q (.panic c) a w) :
  ∀ (fuel:Nat) (b:Bool) (listed:Array Bool) (a:Act) (w:World),
    (∀ j oj,ops[j]?=some oj→j≠i→listed.getD j true=false→(∀ e∈oj.after,Region.binds md e=true→e.on≠i)→oi.apart ops oj=true) →
    i∈Region.ready md ops listed→YieldsIf P ops (fun _=>True) oi v a→(b=false→S w) →
    wpAnyL P md ops Q S T fuel b (listed.setIfInBounds i true) (a.put oi.dst v) w→wpAnyL P md ops Q S T (fuel + 1) b listed a w:=by
 intro fuel
 induction fuel with
 | zero =>
   intro b listed a w _ hr hy hS H
   refine⟨fun h=>(by rw[h] at hr;cases hr),fun j hj=>?_⟩
   by_cases hji:j=i
   ·subst hji
    rw[hT,Bool.or_false]
    exact hy.wpOp hi trivial ⟨hS,H⟩
   ·have:=ready_mono hj hji
    rw[H.1] at this
    cases this
 | succ fuel ih =>
   intro b listed a w hfree hr hy hS H
   refine⟨fun h=>(by rw[h] at hr;cases hr),fun j hj=>?_⟩
   by_cases hji:j=i
   ·subst hji
    rw[hT,Bool.or_false]
    exact hy.wpOp hi trivial ⟨hS,H⟩
   ·have h1:=H.2 j (ready_mono hj hji)
    obtain⟨hjun,oj,hoj,hall⟩:=mem_ready.1 hj
    have hnot:∀ e∈oj.after,Region.binds md e=true→e.on≠i:=fun e he hb heq=>by
     have h1:=hall e he hb
     have h0:=(mem_ready.1 hr).1
     rw[heq] at h1
     rcases Nat.lt_or_ge i listed.size with h' | h'
     ·simp[h'] at h0 h1;rw[h0] at h1;cases h1
     ·simp[Array.getElem?_eq_none h'] at h1
    have h2:=wpOp_putIf hoj (hfree j oj hoj hji hjun hnot) (fun cs b=>hsel i oi cs b hi) (fun cs b=>hsel j oj cs b hoj) hQ hy h1
    have hfree':∀ k ok,ops[k]?=some ok→k≠i→(listed.setIfInBounds j true).getD k true=false →
      (∀ e∈ok.after,Region.binds md e=true→e.on≠i)→oi.apart ops ok=true:=fun k ok hk hki hun hno=>by
     refine hfree k ok hk hki ?_ hno
     by_cases hjk:j=k
     ·subst hjk;exact hjun
     ·rw[getD_set_ne true hjk] at hun;exact hun
    refine wpOp_mono (fun a' w' h3=>⟨h3.2.1,ih (b || T j) (listed.setIfInBounds j true) a' w' hfree' (ready_mono hr (Ne.symm hji)) h3.1 h3.2.1 ?_⟩) h2
    rw[Array.setIfInBounds_comm _ _ hji]
    exact h3.2.2
def wrFrom (n:Nat) (j:Nat):Bool:=decide (n≤j)
theorem heldL_start (F:List Nat) (T:Nat→Bool) {id:Nat} {a:Act} {w:World} (hm:P.follows .mixedOrders=true) (h:wpAnyL P .any ops Q (Frm F w.drew) T ops.size false (Array.replicate ops.size false) a w.drew):(Code.region id ops true).wp P Q a w:=
 wp_region_any hm (wpAny_of_L _ _ _ _ _ h)
theorem heldL_take {i:Nat} {oi:Oper} {fuel:Nat} {listed:Array Bool} {a:Act} {w:World} (v:Value) (hi:ops[i]?=some oi)
  (hs:Region.noSelect ops=true) (hf:Region.free md ops listed i=true) (hr:(Region.ready md ops listed).contains i=true) (hT:T i=false) (hwt:(waitsB md ops T i && closedB md ops listed)=true)
  (hQ:∀ c a w,Q (.panic c) (a.put oi.dst v) w→Q (.panic c) a w) (hw:Region.wanted oi (yielded ops a.tmps)=true) (hy:∀ w',Frm F w w'→(execOp a.eval oi).run P w'=.ok (.value v) w')
  (h:wpAnyL P md ops Q (Frm F w) T fuel false (listed.setIfInBounds i true) (a.put oi.dst v) w):wpAnyL P md ops Q (Frm F w) T (fuel + 1) false listed a w:=
 wpAnyL_first hi hT (Bool.and_eq_true_iff.1 hwt).1 (Region.noSelect_spec hs) hQ fuel listed a w (closed_of (Bool.and_eq_true_iff.1 hwt).2) (Region.free_spec hi hf) (List.contains_iff_mem.1 hr) (.inl ⟨hw,hy⟩) (Frm.refl F w) h
theorem heldL_takep {b:Bool} {i:Nat} {oi:Oper} {fuel:Nat} {listed:Array Bool} {a:Act} {w:World} (v:Value) (hi:ops[i]?=some oi)
  (hs:Region.noSelect ops=true) (hf:Region.free md ops listed i=true) (hr:(Region.ready md ops listed).contains i=true) (hT:T i=false)
  (hQ:∀ c a w,Q (.panic c) (a.put oi.dst v) w→Q (.panic c) a w) (hw:Region.wanted oi (yielded ops a.tmps)=true) (hy:∀ w',(execOp a.eval oi).run P w'=.ok (.value v) w')
  (h:wpAnyL P md ops Q (Frm F w) T fuel b (listed.setIfInBounds i true) (a.put oi.dst v) w):wpAnyL P md ops Q (Frm F w) T (fuel + 1) b listed a w:=
 wpAnyL_firstP hi hT (Region.noSelect_spec hs) hQ fuel b listed a w (Region.free_spec hi hf) (List.contains_iff_mem.1 hr) (.inl ⟨hw,fun w' _=>hy w'⟩) (fun _=>Frm.refl F w) h
theorem heldL_all {rs:List Nat} {fuel:Nat} {b:Bool} {listed:Array Bool} {a:Act} {w:World} (hr:Region.ready md ops listed=rs) (hne:rs≠[])
  (h:∀ i∈rs,wpOp P ops Q i (fun a' w'=>((b || T i)=false→S w')∧wpAnyL P md ops Q S T fuel (b || T i) (listed.setIfInBounds i true) a' w') a w):wpAnyL P md ops Q S T (fuel + 1) b listed a w:=
 ⟨fun h0=>absurd (hr.symm.trans h0) hne,fun i hi=>h i (hr ▸ hi)⟩
theorem allL_nil {p:Nat→Prop}:∀ i∈([]:List Nat),p i:=fun _ h=>by cases h
theorem allL_cons {p:Nat→Prop} {i:Nat} {rs:List Nat} (h:p i) (hs:∀ j∈rs,p j):∀ j∈i :: rs,p j:=fun j hj=>by
 rcases List.mem_cons.1 hj with rfl | hj
 ·exact h
 ·exact hs j hj
theorem heldL_step {i:Nat} {oi:Oper} {fuel:Nat} {listed:Array Bool} {a:Act} {w:World} (hi:ops[i]?=some oi) (hT:T i=false) (hw:Region.wanted oi (yielded ops a.tmps)=true)
  (h:∀ K':Act→World→Prop,Shut (∀ a' w',Frm F w w'→wpAnyL P md ops Q (Frm F w') T fuel false (listed.setIfInBounds i true) a' w'→K' a' w')→Oper.wp P oi a w K' Q) :
  wpOp P ops Q i (fun a' w'=>((false || T i)=false→Frm F w w')∧wpAnyL P md ops Q (Frm F w) T fuel (false || T i) (listed.setIfInBounds i true) a' w') a w:=by
 unfold wpOp
 simp only[hi,hw,if_true]
 refine .inl (h _ (fun a' w' hf hk=>⟨fun _=>hf,?_⟩))
 rw[Bool.false_or,hT]
 exact wpAnyL_sub (fun W hW=>hf.trans hW) _ _ _ _ _ hk
theorem heldL_write {b:Bool} {i:Nat} {oi:Oper} {fuel:Nat} {listed:Array Bool} {a:Act} {w:World} (hi:ops[i]?=some oi) (hT:(b || T i)=true) (hw:Region.wanted oi (yielded ops a.tmps)=true)
  (h:∀ K':Act→World→Prop,Shut (∀ a' w',wpAnyL P md ops Q S T fuel true (listed.setIfInBounds i true) a' w'→K' a' w')→Oper.wp P oi a w K' Q) :
  wpOp P ops Q i (fun a' w'=>((b || T i)=false→S w')∧wpAnyL P md ops Q S T fuel (b || T i) (listed.setIfInBounds i true) a' w') a w:=by
 unfold wpOp
 simp only[hi,hw,if_true]
 rw[hT]
 exact .inl (h _ (fun a' w' hk=>⟨(fun h0=>by cases h0),hk⟩))
theorem heldL_done {b:Bool} {listed:Array Bool} {a:Act} {w:World} (hr:Region.ready md ops listed=[]) (h:Q .normal a w):∀ fuel,wpAnyL P md ops Q S T fuel b listed a w
 | 0=>⟨hr,h⟩
 | _ + 1=>⟨fun _=>h,fun i hi=>by rw[hr] at hi;cases hi⟩
theorem htL (i:Nat) {oi:Oper} {fuel:Nat} {listed:Array Bool} {a:Act} {w:World} (v:Value) (hy:∀ w',Frm F w w'→(execOp a.eval oi).run P w'=.ok (.value v) w')
  (h:wpAnyL P md ops Q (Frm F w) T fuel false (listed.setIfInBounds i true) (a.put oi.dst v) w) (hi:ops[i]?=some oi:=by rfl) (hb:(Region.noSelect ops && Region.free md ops listed i && (Region.ready md ops listed).contains i && !T i && (waitsB md ops T i && closedB md ops listed))=true:=by kernel_rfl)
  (hQ:∀ c a w,Q (.panic c) (a.put oi.dst v) w→Q (.panic c) a w:=by exact fun _ _ _ h=>h) (hw:Region.wanted oi (yielded ops a.tmps)=true:=by rfl):wpAnyL P md ops Q (Frm F w) T (fuel + 1) false listed a w:=by
 obtain⟨h1,h2⟩:=Bool.and_eq_true_iff.1 hb
 simp only[Bool.and_eq_true,Bool.not_eq_true'] at h1
 exact heldL_take v hi h1.1.1.1 h1.1.1.2 h1.1.2 h1.2 h2 hQ hw hy h
theorem htP {b:Bool} (i:Nat) {oi:Oper} {fuel:Nat} {listed:Array Bool} {a:Act} {w:World} (v:Value) (hy:∀ w',(execOp a.eval oi).run P w'=.ok (.value v) w')
  (h:wpAnyL P md ops Q (Frm F w) T fuel b (listed.setIfInBounds i true) (a.put oi.dst v) w) (hi:ops[i]?=some oi:=by rfl) (hb:(Region.noSelect ops && Region.free md ops listed i && (Region.ready md ops listed).contains i && !T i)=true:=by kernel_rfl)
  (hQ:∀ c a w,Q (.panic c) (a.put oi.dst v) w→Q (.panic c) a w:=by exact fun _ _ _ h=>h) (hw:Region.wanted oi (yielded ops a.tmps)=true:=by rfl):wpAnyL P md ops Q (Frm F w) T (fuel + 1) b listed a w:=by
 simp only[Bool.and_eq_true,Bool.not_eq_true'] at hb
 exact heldL_takep v hi hb.1.1.1 hb.1.1.2 hb.1.2 hb.2 hQ hw hy h
theorem honL (i:Nat) {fuel:Nat} {b:Bool} {listed:Array Bool} {a:Act} {w:World}
  (h:wpOp P ops Q i (fun a' w'=>((b || T i)=false→S w')∧wpAnyL P md ops Q S T fuel (b || T i) (listed.setIfInBounds i true) a' w') a w) (hr:Region.ready md ops listed=[i]:=by kernel_rfl):wpAnyL P md ops Q S T (fuel + 1) b listed a w:=
 heldL_all hr (by simp) (allL_cons h allL_nil)
theorem hcL {i:Nat} {oi:Oper} {fuel:Nat} {listed:Array Bool} {a:Act} {w:World} (v:Value) (hy:∀ w',Frm F w w'→(execOp a.eval oi).run P w'=.ok (.value v) w')
  (h:Cnt (i + 1) (wpAnyL P md ops Q (Frm F w) T fuel false (listed.setIfInBounds i true) (a.put oi.dst v) w)) (hi:ops[i]?=some oi:=by rfl) (hb:(Region.noSelect ops && Region.free md ops listed i && (Region.ready md ops listed).contains i && !T i && (waitsB md ops T i && closedB md ops listed))=true:=by kernel_rfl)
  (hQ:∀ c a w,Q (.panic c) (a.put oi.dst v) w→Q (.panic c) a w:=by exact fun _ _ _ h=>h) (hw:Region.wanted oi (yielded ops a.tmps)=true:=by rfl):Cnt i (wpAnyL P md ops Q (Frm F w) T (fuel + 1) false listed a w):=
 htL i v hy h hi hb hQ hw
theorem hcP {b:Bool} {i:Nat} {oi:Oper} {fuel:Nat} {listed:Array Bool} {a:Act} {w:World} (v:Value) (hy:∀ w',(execOp a.eval oi).run P w'=.ok (.value v) w')
  (h:Cnt (i + 1) (wpAnyL P md ops Q (Frm F w) T fuel b (listed.setIfInBounds i true) (a.put oi.dst v) w)) (hi:ops[i]?=some oi:=by rfl) (hb:(Region.noSelect ops && Region.free md ops listed i && (Region.ready md ops listed).contains i && !T i)=true:=by kernel_rfl)
  (hQ:∀ c a w,Q (.panic c) (a.put oi.dst v) w→Q (.panic c) a w:=by exact fun _ _ _ h=>h) (hw:Region.wanted oi (yielded ops a.tmps)=true:=by rfl):Cnt i (wpAnyL P md ops Q (Frm F w) T (fuel + 1) b listed a w):=
 htP i v hy h hi hb hQ hw
end
end Go.Proofs.YtkphhjekfimmlaaGreat
namespace Go.Proofs.YtkphhjekfimmlaaGreat
open Go.RowKit Go.BigFrame
set_option maxHeartbeats 1000000 in
theorem qPlace_any (v:Value) (r:RolD) (n:ByteArray) (w:World) (h:RlV w v r) (hl:r.sts.length≤1000):Calls Tryz.prog 84 #[v,.string n] w (Ret (.int .i64 (stIx r n)) (Frm [] w)):=by
 obtain⟨sv,cv,tv,rfl,h3⟩:=h
 obtain⟨ao,cap,e,hx⟩:=h3.sts
 subst e
 have HX:=Lib.hid hx
 obtain⟨m,hm⟩:∃ m,r.sts.length=m:=⟨_,rfl⟩
 rw[hm] at hl
 have HN:=Lib.hid hm
 rw[hm]
 obtain⟨W0,hW0⟩:∃ W0,w.alloc (.cells #[.string r.name,.slice ao m cap,cv,tv] 53)=W0:=⟨_,rfl⟩
 have HW0:Hid (Frm [] w W0):=Lib.hid (by rw[← hW0];exact(Frm.refl _ _).alloc _)
 have HB:Hid (W0.cell? ⟨w.heap.size,1,none⟩=some (.slice ao m cap)):=Lib.hid (by rw[← hW0];exact cell_of (heap_alloc_new w _) 1)
 have HE:=Lib.hid hW0
 clear hx h3 hm hW0
 go_enter Tryz.func84,Tryz.ntmps84
 go_wp2
 rw[HE.out]
 clear HE
 go_loopw [5] (fun s5 wr=>∃ i:Nat,s5=.int .i64 i∧i≤m∧Frm [] W0 wr∧∀ j x,j < i→r.sts[j]?=some x→decide (x.name=n)=false) (fun s5 _=>m - (intOf s5).toNat)
 case atStart=>exact⟨0,rfl,Nat.zero_le _,Frm.refl _ _,fun j x hj=>by omega⟩
 case round =>
  obtain⟨i,rfl,hi,hf,hno⟩:=hrel
  have HF:=Lib.hid hf;have HNO:=Lib.hid hno
  clear hf hno
  have cb:=HF.out.keep HB.out
  by_cases hlt:i < m
  ·have hlt':(i:Int) < (m:Int):=by omega
   obtain⟨x,hx⟩:∃ x,r.sts[i]?=some x:=⟨_,List.getElem?_eq_getElem (by rw[HN.out];exact hlt)⟩
   obtain⟨b,o,rfl,hat⟩:=HX.out i x hx
   obtain⟨c0,-,-⟩:=hat.frm (HW0.out.trans HF.out)
   have HXI:=Lib.hid hx
   clear hat hx
   cases hpx:decide (x.name=n) with
   | true =>
     have hsb:(x.name.toList == n.toList)=true:=(str_beq _ _).trans hpx
     have HPX:=Lib.hid hpx
     clear hpx
     go_wp2
     go_ret
     refine⟨?_,HW0.out.trans HF.out⟩
     have e:stIx r n=(i:Int):=ixf_some HXI.out HPX.out HNO.out
     rw[e];rfl
   | false =>
     have hsb:(x.name.toList == n.toList)=false:=(str_beq _ _).trans hpx
     have HPX:=Lib.hid hpx
     clear hpx
     go_wp2
     refine⟨⟨i + 1,by simp,hlt,HF.out,fun j y hj hy=>?_⟩,by simp[intOf];omega⟩
     by_cases e:j=i
     ·subst e;rw[HXI.out] at hy;cases hy;exact HPX.out
     ·exact HNO.out j y (by omega) hy
  ·have hge:¬ (i:Int) < (m:Int):=by omega
   go_wp2
   go_ret
   refine⟨?_,HW0.out.trans HF.out⟩
   have e:stIx r n=-1:=ixf_none fun x hx=>by
    obtain⟨j,hj⟩:=List.getElem?_of_mem hx
    exact HNO.out j x (by have:=lt_of_some hj;rw[HN.out] at this;omega) hj
   rw[e];rfl
set_option maxHeartbeats 1000000 in
theorem qNumber_any (v:Value) (s:SesD) (n:ByteArray) (w:World) (h:SesV w v s) (hl:s.roles.length≤1000):Calls Tryz.prog 85 #[v,.string n] w (Ret (.int .i64 (rolIx s n)) (Frm [] w)):=by
 obtain⟨rv,rfl,h3⟩:=h
 obtain⟨ao,cap,e,hx⟩:=id h3
 subst e
 have HX:=Lib.hid hx
 obtain⟨m,hm⟩:∃ m,s.roles.length=m:=⟨_,rfl⟩
 rw[hm] at hl
 have HN:=Lib.hid hm
 rw[hm]
 obtain⟨W0,hW0⟩:∃ W0,w.alloc (.cells #[.string s.name,.slice ao m cap,.int .i64 s.cls,.int .i64 s.cap] 25)=W0:=⟨_,rfl⟩
 have HW0:Hid (Frm [] w W0):=Lib.hid (by rw[← hW0];exact(Frm.refl _ _).alloc _)
 have HB:Hid (W0.cell? ⟨w.heap.size,1,none⟩=some (.slice ao m cap)):=Lib.hid (by rw[← hW0];exact cell_of (heap_alloc_new w _) 1)
 have HE:=Lib.hid hW0
 clear hx h3 hm hW0
 go_enter Tryz.func85,Tryz.ntmps85
 go_wp2
 rw[HE.out]
 clear HE
 go_loopw [5] (fun s5 wr=>∃ i:Nat,s5=.int .i64 i∧i≤m∧Frm [] W0 wr∧∀ j x,j < i→s.roles[j]?=some x→decide (x.name=n)=false) (fun s5 _=>m - (intOf s5).toNat)
 case atStart=>exact⟨0,rfl,Nat.zero_le _,Frm.refl _ _,fun j x hj=>by omega⟩
 case round =>
  obtain⟨i,rfl,hi,hf,hno⟩:=hrel
  have HF:=Lib.hid hf;have HNO:=Lib.hid hno
  clear hf hno
  have cb:=HF.out.keep HB.out
  by_cases hlt:i < m
  ·have hlt':(i:Int) < (m:Int):=by omega
   obtain⟨x,hx⟩:∃ x,s.roles[i]?=some x:=⟨_,List.getElem?_eq_getElem (by rw[HN.out];exact hlt)⟩
   obtain⟨b,o,rfl,hat⟩:=HX.out i x hx
   obtain⟨_,_,_,c0,-⟩:=hat.frm (HW0.out.trans HF.out)
   have HXI:=Lib.hid hx
   clear hat hx
   cases hpx:decide (x.name=n) with
   | true =>
     have hsb:(x.name.toList == n.toList)=true:=(str_beq _ _).trans hpx
     have HPX:=Lib.hid hpx
     clear hpx
     go_wp2
     go_ret
     refine⟨?_,HW0.out.trans HF.out⟩
     have e:rolIx s n=(i:Int):=ixf_some HXI.out HPX.out HNO.out
     rw[e];rfl
   | false =>
     have hsb:(x.name.toList == n.toList)=false:=(str_beq _ _).trans hpx
     have HPX:=Lib.hid hpx
     clear hpx
     go_wp2
     refine⟨⟨i + 1,by simp,hlt,HF.out,fun j y hj hy=>?_⟩,by simp[intOf];omega⟩
     by_cases e:j=i
     ·subst e;rw[HXI.out] at hy;cases hy;exact HPX.out
     ·exact HNO.out j y (by omega) hy
  ·have hge:¬ (i:Int) < (m:Int):=by omega
   go_wp2
   go_ret
   refine⟨?_,HW0.out.trans HF.out⟩
   have e:rolIx s n=-1:=ixf_none fun x hx=>by
    obtain⟨j,hj⟩:=List.getElem?_of_mem hx
    exact HNO.out j x (by have:=lt_of_some hj;rw[HN.out] at this;omega) hj
   rw[e];rfl
set_option maxHeartbeats 1000000 in
theorem jFind_any (dv vv:Value) (cs:List CtrD) (n:ByteArray) (w:World) (h:Arr 2 CtAt w dv cs) (hl:cs.length≤1000):Calls Tryz.prog 142 #[.agg #[dv,vv],.string n] w (Ret (.int .i64 (ctrIx cs n)) (Frm [] w)):=by
 obtain⟨ao,cap,e,hx⟩:=id h
 subst e
 have HX:=Lib.hid hx
 obtain⟨m,hm⟩:∃ m,cs.length=m:=⟨_,rfl⟩
 rw[hm] at hl
 have HN:=Lib.hid hm
 rw[hm]
 obtain⟨W0,hW0⟩:∃ W0,w.alloc (.cells #[.slice ao m cap,vv] 173)=W0:=⟨_,rfl⟩
 have HW0:Hid (Frm [] w W0):=Lib.hid (by rw[← hW0];exact(Frm.refl _ _).alloc _)
 have HB:Hid (W0.cell? ⟨w.heap.size,0,none⟩=some (.slice ao m cap)):=Lib.hid (by rw[← hW0];exact cell_of (heap_alloc_new w _) 0)
 have HE:=Lib.hid hW0
 clear hx h hm hW0
 go_enter Tryz.func142,Tryz.ntmps142
 go_wp2
 rw[HE.out]
 clear HE
 go_loopw [5] (fun s5 wr=>∃ i:Nat,s5=.int .i64 i∧i≤m∧Frm [] W0 wr∧∀ j x,j < i→cs[j]?=some x→decide (x.name=n)=false) (fun s5 _=>m - (intOf s5).toNat)
 case atStart=>exact⟨0,rfl,Nat.zero_le _,Frm.refl _ _,fun j x hj=>by omega⟩
 case round =>
  obtain⟨i,rfl,hi,hf,hno⟩:=hrel
  have HF:=Lib.hid hf;have HNO:=Lib.hid hno
  clear hf hno
  have cb:=HF.out.keep HB.out
  by_cases hlt:i < m
  ·have hlt':(i:Int) < (m:Int):=by omega
   obtain⟨x,hx⟩:∃ x,cs[i]?=some x:=⟨_,List.getElem?_eq_getElem (by rw[HN.out];exact hlt)⟩
   obtain⟨b,o,rfl,hat⟩:=HX.out i x hx
   obtain⟨c0,-⟩:=hat.frm (HW0.out.trans HF.out)
   have HXI:=Lib.hid hx
   clear hat hx
   cases hpx:decide (x.name=n) with
   | true =>
     have hsb:(x.name.toList == n.toList)=true:=(str_beq _ _).trans hpx
     have HPX:=Lib.hid hpx
     clear hpx
     go_wp2
     go_ret
     refine⟨?_,HW0.out.trans HF.out⟩
     have e:ctrIx cs n=(i:Int):=ixf_some HXI.out HPX.out HNO.out
     rw[e];rfl
   | false =>
     have hsb:(x.name.toList == n.toList)=false:=(str_beq _ _).trans hpx
     have HPX:=Lib.hid hpx
     clear hpx
     go_wp2
     refine⟨⟨i + 1,by simp,hlt,HF.out,fun j y hj hy=>?_⟩,by simp[intOf];omega⟩
     by_cases e:j=i
     ·subst e;rw[HXI.out] at hy;cases hy;exact HPX.out
     ·exact HNO.out j y (by omega) hy
  ·have hge:¬ (i:Int) < (m:Int):=by omega
   go_wp2
   go_ret
   refine⟨?_,HW0.out.trans HF.out⟩
   have e:ctrIx cs n=-1:=ixf_none fun x hx=>by
    obtain⟨j,hj⟩:=List.getElem?_of_mem hx
    exact HNO.out j x (by have:=lt_of_some hj;rw[HN.out] at this;omega) hj
   rw[e];rfl
def aftV (lim:Int) (t:StpD) (v:Int):Int:=if allowsV lim t v then v + t.add else -1
set_option maxHeartbeats 2000000 in
set_option maxRecDepth 100000 in
theorem jAfter_any (lim v:Int) (t:StpD) (w:World) (hl:0≤lim∧lim≤1000) (hv:0≤v∧v≤1000) (ha:-1000≤t.add∧t.add≤1000):Calls Tryz.prog 168 #[.int .i64 lim,stpV t,.int .i64 v] w (Ret (.int .i64 (aftV lim t v)) (Frm [] w)):=by
 obtain⟨A,hA⟩:∃ A,aftV lim t v=A:=⟨_,rfl⟩
 have hw:IntKind.i64.wrap (v + t.add)=v + t.add:=by simp[IntKind.wrap,show IntKind.i64.bits=64 from rfl,show IntKind.i64.signed=true from rfl];omega
 have d3:decide (t.add < -1000)=false:=decide_eq_false (by omega)
 have d4:decide (1000 < t.add)=false:=decide_eq_false (by omega)
 obtain⟨W0,hW0⟩:∃ W0,w.alloc (.cells #[.string t.frm,.string t.to,.int .i64 t.kind,.string t.msg,.string t.peer,.string t.ctr,.int .i64 t.low,.int .i64 t.high,.int .i64 t.add] 60)=W0:=⟨_,rfl⟩
 have HF:Hid (Frm [] w W0):=Lib.hid (by rw[← hW0];exact(Frm.refl _ _).alloc _)
 have c6:W0.cell? ⟨w.heap.size,6,none⟩=some (.int .i64 t.low):=by rw[← hW0];exact cell_of (heap_alloc_new w _) 6
 have c7:W0.cell? ⟨w.heap.size,7,none⟩=some (.int .i64 t.high):=by rw[← hW0];exact cell_of (heap_alloc_new w _) 7
 have c8:W0.cell? ⟨w.heap.size,8,none⟩=some (.int .i64 t.add):=by rw[← hW0];exact cell_of (heap_alloc_new w _) 8
 have HE:=Lib.hid hW0
 have HA:=Lib.hid hA
 have HV:=Lib.hid hv;have HL:=Lib.hid hl
 rw[hA]
 clear hA hv hl ha hW0
 go_enter Tryz.func168,Tryz.ntmps168
 go_upto_region 1 with fail
 rw[HE.out]
 clear HE
 by_cases k0:v < t.low
 ·have e0:decide (v < t.low)=true:=decide_eq_true k0
  have HK:=Lib.hid k0
  clear k0
  go_wp2
  go_ret
  refine⟨?_,HF.out⟩
  rw[← HA.out]
  have:=HK.out
  unfold aftV allowsV
  have:=HV.out;have:=HL.out
  rw[if_neg (by simp;omega)]
  rfl
 have e0:decide (v < t.low)=false:=decide_eq_false k0
 have H0:=Lib.hid k0
 clear k0
 by_cases k1:t.high < v
 ·have e1:decide (t.high < v)=true:=decide_eq_true k1
  have HK:=Lib.hid k1
  clear k1
  go_wp2
  go_ret
  refine⟨?_,HF.out⟩
  rw[← HA.out]
  have:=HK.out
  unfold aftV allowsV
  have:=HV.out;have:=HL.out
  rw[if_neg (by simp;omega)]
  rfl
 have e1:decide (t.high < v)=false:=decide_eq_false k1
 have H1:=Lib.hid k1
 clear k1
 by_cases k4:v + t.add < 0
 ·have e4:decide (v + t.add < 0)=true:=decide_eq_true k4
  have HK:=Lib.hid k4
  clear k4
  go_wp2
  go_ret
  refine⟨?_,HF.out⟩
  rw[← HA.out]
  have:=HK.out
  unfold aftV allowsV
  have:=HV.out;have:=HL.out
  rw[if_neg (by simp;omega)]
  rfl
 have e4:decide (v + t.add < 0)=false:=decide_eq_false k4
 have H4:=Lib.hid k4
 clear k4
 by_cases k5:lim < v + t.add
 ·have e5:decide (lim < v + t.add)=true:=decide_eq_true k5
  have HK:=Lib.hid k5
  clear k5
  go_wp2
  go_ret
  refine⟨?_,HF.out⟩
  rw[← HA.out]
  have:=HK.out
  unfold aftV allowsV
  have:=HV.out;have:=HL.out
  rw[if_neg (by simp;omega)]
  rfl
 have e5:decide (lim < v + t.add)=false:=decide_eq_false k5
 have H5:=Lib.hid k5
 clear k5
 go_wp2
 go_ret
 refine⟨?_,HF.out⟩
 rw[← HA.out]
 have:=H0.out;have:=H1.out;have:=H4.out;have:=H5.out
 unfold aftV allowsV
 rw[if_pos (by simp;omega)]
 rfl
def BkV (W:World) (v:Value) (cs:List CtrD) (vs:List Int):Prop:=∃ dv vv,v=.agg #[dv,vv]∧Arr 2 CtAt W dv cs∧Arr 1 IAt W vv vs
structure BkOk (cs:List CtrD) (vs:List Int) (t:StpD):Prop where
 l:vs.length=cs.length
 n:cs.length≤1000
 v:∀ (k:Nat) (c:CtrD),cs[k]?=some c→0≤c.lim∧c.lim≤1000∧0≤vs.getD k 0∧vs.getD k 0≤1000
 c:t.ctr≠emptyS→0≤ctrIx cs t.ctr∧-1000≤t.add∧t.add≤1000
theorem aftV_iff (lim:Int) (t:StpD) (v:Int):decide (0≤aftV lim t v)=allowsV lim t v:=by
 unfold aftV
 cases h:allowsV lim t v with
 | true =>
   rw[if_pos rfl]
   unfold allowsV at h
   simp at h
   exact decide_eq_true (by omega)
 | false=>rfl
set_option maxHeartbeats 4000000 in
set_option maxRecDepth 100000 in
theorem jAllowed_any (v:Value) (cs:List CtrD) (vs:List Int) (t:StpD) (w:World) (h:BkV w v cs vs) (hok:BkOk cs vs t):Calls Tryz.prog 141 #[v,stpV t] w (Ret (.tuple #[.bool (bankOk cs vs t),.int .i64 0]) (Frm [] w)):=by
 obtain⟨dv,vv,rfl,h1,h2⟩:=h
 obtain⟨da,dc,rfl⟩:=h1.shape
 obtain⟨va,vc,rfl⟩:=h2.shape
 obtain⟨n,hn⟩:∃ n,cs.length=n:=⟨_,rfl⟩
 have hm:=hok.l
 rw[hn] at hm
 obtain⟨b,hb⟩:∃ b,bankOk cs vs t=b:=⟨_,rfl⟩
 have HA1:Hid (Arr 2 CtAt w (.slice da n dc) cs):=Lib.hid (hn ▸ h1)
 have HA2:Hid (Arr 1 IAt w (.slice va n vc) vs):=Lib.hid (hm ▸ h2)
 obtain⟨W0,hW0⟩:∃ W0,(w.alloc (.cells #[.slice da n dc,.slice va n vc] 173)).alloc (.cells #[.string t.frm,.string t.to,.int .i64 t.kind,.string t.msg,.string t.peer,.string t.ctr,.int .i64 t.low,.int .i64 t.high,.int .i64 t.add] 60)=W0:=⟨_,rfl⟩
 have HF:Hid (Frm [] w W0):=Lib.hid (by rw[← hW0];exact((Frm.refl _ _).alloc _).alloc _)
 have HB:Hid (W0.heap[w.heap.size]?=some (.cells #[.slice da n dc,.slice va n vc] 173 (0,0))):=Lib.hid (by rw[← hW0];exact alloc_at (heap_alloc_new _ _))
 have HT:Hid (W0.heap[w.heap.size + 1]?=some (.cells #[.string t.frm,.string t.to,.int .i64 t.kind,.string t.msg,.string t.peer,.string t.ctr,.int .i64 t.low,.int .i64 t.high,.int .i64 t.add] 60 (0,0))):=Lib.hid (by rw[← hW0];exact alloc_top (by simp))
 have c5:=cell_of HT.out 5
 have HE:=Lib.hid hW0
 have HBB:=Lib.hid hb
 have HOK:=Lib.hid hok
 have HN:=Lib.hid hn
 rw[hb,hn,hm]
 clear h1 h2 hok hn hm hW0 hb
 go_enter Tryz.func141,Tryz.ntmps141
 go_upto_region 1 with fail
 rw[HE.out]
 clear HE
 by_cases he:t.ctr=emptyS
 ·have hs:t.ctr.toList.isEmpty=true:=emp_yes he
  have HHE:=Lib.hid he
  clear he
  go_wp2
  go_ret2
  exact⟨by rw[← HBB.out];unfold bankOk;rw[if_pos HHE.out];rfl,HF.out⟩
 ·obtain⟨g1,g2,g3⟩:=HOK.out.c he
  have hs:t.ctr.toList.isEmpty=false:=emp_no he
  obtain⟨k,hk,hkl⟩:=ixf_nat g1
  have hck:ctrIx cs t.ctr=(k:Int):=hk
  obtain⟨c,hc⟩:∃ c,cs[k]?=some c:=⟨_,List.getElem?_eq_getElem hkl⟩
  obtain⟨x,hx⟩:∃ x,vs[k]?=some x:=⟨_,List.getElem?_eq_getElem (by rw[HOK.out.l];exact hkl)⟩
  obtain⟨v1,v2,v3,v4⟩:=HOK.out.v k c hc
  rw[getD_some hx] at v3 v4
  have hbe:allowsV c.lim t x=b:=by
   rw[← HBB.out]
   unfold bankOk
   rw[if_neg he,hck,Int.toNat_natCast,getD_some hc,getD_some hx]
   simp
  have CF:=Lib.hid (jFind_any (.slice da n dc) (.slice va n vc) cs t.ctr W0 (HA1.out.frm fun _ _ _ h=>h.frm HF.out) HOK.out.n)
  rw[hck] at CF
  obtain⟨db,do',e1,q1⟩:=HA1.out.get hc
  obtain⟨vb,vo,e2,q2⟩:=HA2.out.get hx
  subst e1 e2
  rw[HN.out] at hkl
  have hkn:(k:Int) < (n:Int):=by omega
  have hk0:¬ (k:Int) < 0:=by omega
  have CA:Hid (∀ V,Calls Tryz.prog 168 #[.int .i64 c.lim,stpV t,.int .i64 x] V (Ret (.int .i64 (aftV c.lim t x)) (Frm [] V))):=Lib.hid fun V=>jAfter_any c.lim x t V ⟨v1,v2⟩ ⟨v3,v4⟩ ⟨g2,g3⟩
  obtain⟨A,hA⟩:∃ A,aftV c.lim t x=A:=⟨_,rfl⟩
  have hAb:=aftV_iff c.lim t x
  rw[hA] at CA hAb
  rw[hbe] at hAb
  have HQ1:Hid (∀ V,Frm [] w V→V.cell? ⟨db,do' + k * 2 + 1,none⟩=some (.int .i64 c.lim)):=Lib.hid fun V hV=>(q1.frm hV).2
  have HQ2:Hid (∀ V,Frm [] w V→V.cell? ⟨vb,vo + k,none⟩=some (.int .i64 x)):=Lib.hid fun V hV=>by have:=hV.keep q2;rwa [Nat.mul_one] at this
  clear q1 q2 hA g1 g2 g3 hk hck hc hx v1 v2 v3 v4 hbe he
  go_upto_region 6 with (first
   | (refine wpList_load_whole rfl 173 _ rfl _ rfl _ 173 HB.out _ Tryz.underlying173 rfl (by kernel_rfl) ?_)
   | (go_at_call 142;go_must (refine CF.out.mono ?_;clear CF;rintro e w1 ⟨rfl,hf1⟩;have HF1:=Lib.hid hf1;clear hf1)))
  clear c5
  refine wp_region_cq (by kernel_rfl) (by kernel_rfl) ?_
  repeat (first
   | go_big_quiet_skip
   | (refine wpQuiet_want (by rfl) (fun K hK=>?_)
      first
       | (refine quiet_move _ (by rfl) (hK _ ?_))
       | (refine quiet_assign _ (by rfl) (hK _ ?_))
       | (refine cq_call (.int .i64 A) 168 #[.int .i64 c.lim,stpV t,.int .i64 x] (fun w' hC=>?_) (fun w' hC=>Ret.cq (CA.out w') (fun w'' h=>hC.trans h)) (hK _ ?_)
          ·go_simp)
       | (refine cq_row 60 _ rfl (w.heap.size + 1) rfl #[.string t.frm,.string t.to,.int .i64 t.kind,.string t.msg,.string t.peer,.string t.ctr,.int .i64 t.low,.int .i64 t.high,.int .i64 t.add] 60 (HF1.out.at HT.out (by simp)) _ Tryz.underlying60 rfl (by kernel_rfl) (hK _ ?_))
       | (apply Exists.intro
          refine⟨fun w' hC=>?_,hK _ ?_⟩
          ·(unfold Oper.quietAt
            obtain hz:=(HF1.out.trans hC).at HB.out (by simp);have z0:=cell_of hz 0;have z1:=cell_of hz 1;have y0:=HQ1.out w' ((HF.out.trans HF1.out).trans hC);have y1:=HQ2.out w' ((HF.out.trans HF1.out).trans hC);clear hz
            clear hC
            go_simp
            try exact⟨rfl,rfl⟩
            try rfl))
      clear hK K
      try simp only[nrm,Act.eval,nrq]))
  refine wpQuiet_nil ?_
  intro w2 hf2
  go_wp2
  go_ret2
  exact⟨rfl,(HF.out.trans HF1.out).trans hf2⟩
end Go.Proofs.YtkphhjekfimmlaaGreat
