/- Part of the proof. -/
import Derived.Test.YtohfkhjlnlahdaaGreatV46
import Derived.Test.YtohfkhjlnlahdaaGreatV23
import Derived.Deep.OwnRows
set_option linter.all false
namespace Go.Proofs.YtohfkhjlnlahdaaGreat
open Go.RowKit Go.BigFrame
theorem fg_res {W:World} {ob:Nat} (h:W.heap[ob]?=some (.cells #[.slice none 0 0] 71 (0,0))):∀ b∈[ob],FgB W b:=by
 intro b hb
 rw[List.mem_singleton] at hb
 subst hb
 have c:=fun o=>cell_of h o
 refine⟨fun C t e=>?_,fun o x e=>?_,fun o p e=>?_,fun o g o' p n c' e e2=>?_⟩
 ·rw[h] at e;cases e;decide
 ·rw[c] at e
  cases o with
  | zero=>cases e
  | succ o=>simp at e
 ·rw[c] at e
  cases o with
  | zero=>cases e
  | succ o=>simp at e
 ·rw[c] at e
  cases o with
  | zero=>cases e
  | succ o=>simp at e
theorem SpO.box {W V:World} {s:SesD} {yb pb ob:Nat} {whole:Bool} {N:List (Nd × Nat)} (h:SpO W s yb whole pb N) (hs:0 < s.roles.length) (ho:W.heap[ob]?=some (.cells #[.slice none 0 0] 71 (0,0))) (hf:Frm [ob] W V):SpO V s yb whole pb N:=by
 obtain⟨qb,mb,lim,ao,cap,h1,h2,h3,h4⟩:=h.out
 have hb:=fg_res ho
 refine⟨⟨qb,mb,lim,ao,cap,hf.at h1 ?_,hf.at h2 ?_,h3.frm fun g o d hd=>?_,h4.frm hf fun b e hm=>?_⟩,fun d hd=>(h.st d hd).fg hs hb hf⟩
 ·rw[List.mem_singleton];exact ty_ne h1 ho (by decide)
 ·rw[List.mem_singleton];exact ty_ne h2 ho (by decide)
 ·have hg:g∉[ob]:=fun hm=>by
   rw[List.mem_singleton] at hm
   subst hm
   have:=hd.c0
   rw[cell_of ho] at this
   cases o with
   | zero=>cases this
   | succ o=>simp at this
  exact⟨hf.cellAt hd.c0 hg,hf.cellAt hd.c1 hg,hf.cellAt hd.c2 hg,hf.cellAt hd.c3 hg,hf.cellAt hd.c4 hg,hf.cellAt hd.c5 hg,hf.cellAt hd.c6 hg⟩
 ·obtain⟨es,c,h9⟩:=h4.block e
  rw[List.mem_singleton] at hm
  subst hm
  rw[ho] at h9
  cases h9
theorem Tryz.infoBs:(Tryz.prog.info? 82).map (fun i=>(i.zero,i.size,i.bytes))=some (some (.slice none 0 0),1,24):=by kernel_rfl
theorem Tryz.infoB4:(Tryz.prog.info? 4).map (fun i=>(i.zero,i.size,i.bytes))=some (some (.bool false),1,1):=by kernel_rfl
def usRow (s:SesD) (f:Nat→Nat→Bool):List (List Bool):=(List.range s.roles.length).map fun i=>(List.range (s.rol i).steps.length).map (f i)
theorem usRow_at {s:SesD} {f:Nat→Nat→Bool} {i:Nat} (h:i < s.roles.length):(usRow s f)[i]?=some ((List.range (s.rol i).steps.length).map (f i)):=by
 unfold usRow
 rw[List.getElem?_map,List.getElem?_range h]
 rfl
def usC (L:List (Nat × List Bool)):List Value:=L.map fun e=>.slice (some ⟨e.1,0,none⟩) e.2.length e.2.length
structure UsO (w1:World) (ob:Nat) (L:List (Nat × List Bool)) (v:Value) (V:World):Prop where
 fr:Frm [ob] w1 V
 lt:ob < w1.heap.size
 box:V.heap[ob]?=some (.cells #[v] 71 (0,0))
 row:V.ownsRow w1.heap.size 82 1 v L.length (usC L)
 at':∀ (j:Nat) (e:Nat × List Bool),L[j]?=some e→w1.heap.size≤e.1∧V.heap[e.1]?=some (.cells (e.2.map Value.bool).toArray 4 (0,0))
 nd:∀ (i j:Nat) (a b:Nat × List Bool),L[i]?=some a→L[j]?=some b→a.1=b.1→i=j
section
variable {w1 V V':World} {ob:Nat} {L:List (Nat × List Bool)} {v:Value}
theorem UsO.keep {F:List Nat} (h:UsO w1 ob L v V) (hf:Frm F V V') (hn:∀ k c t fr,V.heap[k]?=some (.cells c t fr)→t=71∨t=82∨t=4→k∉F) (hF:∀ k∈F,k∈[ob]∨w1.heap.size≤k):UsO w1 ob L v V':=
 ⟨h.fr.then hf hF,h.lt,hf.at h.box (hn _ _ _ _ h.box (.inl rfl)),hf.owns h.row (fun k hk=>by
  obtain⟨c,hc⟩:=ownBlock_type h.row hk
  exact hn _ _ _ _ hc (.inr (.inl rfl))),fun j e he=>⟨(h.at' j e he).1,hf.at (h.at' j e he).2 (hn _ _ _ _ (h.at' j e he).2 (.inr (.inr rfl)))⟩,h.nd⟩
theorem UsO.frm (h:UsO w1 ob L v V) (hf:Frm [] V V'):UsO w1 ob L v V':=h.keep hf (by simp) (by simp)
theorem UsO.bk {B:Nat} (h:UsO w1 ob L v V) (hb:Bk B V V') (hB:w1.heap.size≤B):UsO w1 ob L v V':=by
 refine⟨hb.oldG h.fr hB,h.lt,hb.at h.box rfl,?_,fun j e he=>⟨(h.at' j e he).1,hb.at (h.at' j e he).2 rfl⟩,h.nd⟩
 obtain⟨h1,h2⟩:=h.row
 refine⟨h1,?_⟩
 rcases h2 with h2 | ⟨g,cap,cur,hv,hg,hh,r⟩
 ·exact .inl h2
 ·exact .inr ⟨g,cap,cur,hv,hg,hb.at hh rfl,r⟩
theorem UsO.grown (h:UsO w1 ob L v V) (hg:V.grownBy V' v.ownBlock):V'.heap[ob]?=some (.cells #[v] 71 (0,0)):=by
 have f2:Frm v.ownBlock.toList V V':=(Frm.refl _ _).grown hg fun q hq=>.inl (by rw[hq];simp)
 refine f2.at h.box fun hm=>?_
 rw[Option.mem_toList] at hm
 obtain⟨c,hc⟩:=ownBlock_type h.row hm
 exact ty_ne h.box hc (by decide) rfl
theorem UsO.add (h:UsO w1 ob L v V) {n:Nat} {o:Obj} {v':Value} {W2:World}
  (hg:((V.alloc (.cells (madeCells #[.bool false] n) 4)).alloc o).grownBy W2 v.ownBlock) (ho:W2.ownsRow w1.heap.size 82 1 v' (L.length + 1) (usC L ++ [.slice (some ⟨V.heap.size,0,none⟩) n n])) :
  UsO w1 ob (L ++ [(V.heap.size,List.replicate n false)]) v' (W2.setCell ⟨ob,0,none⟩ v'):=by
 have f1:Frm [] V ((V.alloc (.cells (madeCells #[.bool false] n) 4)).alloc o):=((Frm.refl [] V).alloc _).alloc _
 have h1:=h.frm f1
 have hnew:((V.alloc (.cells (madeCells #[.bool false] n) 4)).alloc o).heap[V.heap.size]?=some (.cells (madeCells #[.bool false] n) 4 (0,0)):=alloc_at (heap_alloc_new _ _)
 have hty:∀ q,v.ownBlock=some q→∃ c,((V.alloc (.cells (madeCells #[.bool false] n) 4)).alloc o).heap[q]?=some (.cells c 82 (0,0)):=fun q hq=>ownBlock_type h1.row hq
 have f2:Frm v.ownBlock.toList ((V.alloc (.cells (madeCells #[.bool false] n) 4)).alloc o) W2:=(Frm.refl _ _).grown hg fun q hq=>.inl (by rw[hq];simp)
 have ne:∀ {k:Nat} {c:Array Value} {t:TypeId} {fr:Nat × Nat},((V.alloc (.cells (madeCells #[.bool false] n) 4)).alloc o).heap[k]?=some (.cells c t fr)→t≠82→k∉v.ownBlock.toList:=fun hk ht hm=>by
  rw[Option.mem_toList] at hm
  obtain⟨c,hc⟩:=hty _ hm
  exact ty_ne hk hc ht rfl
 have b2:=f2.at h1.box (ne h1.box (by decide))
 have f3:Frm [ob] W2 (W2.setCell ⟨ob,0,none⟩ v'):=(Frm.refl _ _).setCell _ (.inl (by simp)) _
 refine⟨((h1.fr.then f2 fun q hq=>.inr ?_)).trans f3,h.lt,(block_setCell b2 0 v').trans rfl,?_,fun j e he=>?_,fun i j a b ha hb hab=>?_⟩
 ·rw[Option.mem_toList] at hq
  exact ownBlock_ge h1.row hq
 ·have h9:=f3.owns ho fun k hk=>by
   obtain⟨c,hc⟩:=ownBlock_type ho hk
   rw[List.mem_singleton]
   exact ty_ne hc b2 (by decide)
  have e9:usC (L ++ [(V.heap.size,List.replicate n false)])=usC L ++ [.slice (some ⟨V.heap.size,0,none⟩) n n]:=by
   unfold usC
   rw[List.map_append]
   simp
  rw[e9,List.length_append]
  exact h9
 ·rcases Nat.lt_or_ge j L.length with hj | hj
  ·rw[List.getElem?_append_left hj] at he
   have h9:=h1.at' j e he
   exact⟨h9.1,f3.at (f2.at h9.2 (ne h9.2 (by decide))) (by rw[List.mem_singleton];exact ty_ne h9.2 h1.box (by decide))⟩
  ·rw[List.getElem?_append_right hj] at he
   obtain⟨hj0,hj1⟩:j - L.length=0∧e=(V.heap.size,List.replicate n false):=by
    cases hz:j - L.length with
    | zero=>rw[hz] at he;exact⟨rfl,by simpa using he.symm⟩
    | succ k=>rw[hz] at he;simp at he
   subst hj1
   have hm:((List.replicate n false).map Value.bool).toArray=madeCells #[.bool false] n:=by
    rw[List.map_replicate,← toList_madeCells_one]
   rw[hm]
   exact⟨h.fr.size,f3.at (f2.at hnew (ne hnew (by decide))) (by rw[List.mem_singleton];exact ty_ne hnew h1.box (by decide))⟩
 ·have lt9:∀ (k:Nat) (e:Nat × List Bool),L[k]?=some e→e.1 < V.heap.size:=fun k e he=>lt_of_block (h.at' k e he).2
  have hc:∀ (k:Nat) (e:Nat × List Bool),(L ++ [(V.heap.size,List.replicate n false)])[k]?=some e→(k < L.length∧L[k]?=some e)∨(k=L.length∧e.1=V.heap.size):=fun k e he=>by
   rcases Nat.lt_or_ge k L.length with hj | hj
   ·rw[List.getElem?_append_left hj] at he;exact .inl ⟨hj,he⟩
   ·rw[List.getElem?_append_right hj] at he
    cases hz:k - L.length with
    | zero =>
      rw[hz] at he
      exact .inr ⟨by omega,by simp at he;rw[← he]⟩
    | succ k=>rw[hz] at he;simp at he
  rcases hc i a ha with ⟨-,ha⟩ | ⟨hi,ha⟩ <;> rcases hc j b hb with ⟨-,hb⟩ | ⟨hj,hb⟩
  ·exact h.nd i j a b ha hb hab
  ·have:=lt9 i a ha;omega
  ·have:=lt9 j b hb;omega
  ·omega
theorem UsO.put (h:UsO w1 ob L v V) {i k b:Nat} {r:List Bool} (hi:L[i]?=some (b,r)):UsO w1 ob (L.set i (b,r.set k true)) v (V.setCell ⟨b,k,none⟩ (.bool true)):=by
 have hb:=h.at' i _ hi
 have hl:=lt_of_some hi
 have f3:Frm [b] V (V.setCell ⟨b,k,none⟩ (.bool true)):=(Frm.refl _ _).setCell _ (.inl (by simp)) _
 refine⟨h.fr.then f3 fun q hq=>.inr (by rw[List.mem_singleton] at hq;subst hq;exact hb.1),h.lt,f3.at h.box (by rw[List.mem_singleton];exact ty_ne h.box hb.2 (by decide)),?_,fun j e he=>?_,fun p q x y hx hy hxy=>?_⟩
 ·have h9:=f3.owns h.row fun k hk=>by
   obtain⟨c,hc⟩:=ownBlock_type h.row hk
   rw[List.mem_singleton]
   exact ty_ne hc hb.2 (by decide)
  have e9:usC (L.set i (b,r.set k true))=usC L:=by
   unfold usC
   apply List.ext_getElem?
   intro j
   rw[List.getElem?_map,List.getElem?_map]
   by_cases hj:i=j
   ·subst hj
    rw[List.getElem?_set_self hl,hi]
    simp
   ·rw[List.getElem?_set_ne hj]
  rw[e9,List.length_set]
  exact h9
 ·by_cases hj:i=j
  ·subst hj
   rw[List.getElem?_set_self hl] at he
   cases he
   refine⟨hb.1,(block_setCell hb.2 k _).trans ?_⟩
   congr 2
   apply Array.ext_getElem?
   intro q
   simp[List.map_set]
  ·rw[List.getElem?_set_ne hj] at he
   have h9:=h.at' j e he
   exact⟨h9.1,f3.at h9.2 (by rw[List.mem_singleton];exact fun e9=>hj (h.nd i j _ _ hi he e9.symm))⟩
 ·have hc:∀ (q:Nat) (x:Nat × List Bool),(L.set i (b,r.set k true))[q]?=some x→∃ x',L[q]?=some x'∧x'.1=x.1:=fun q x hx=>by
   by_cases hj:i=q
   ·subst hj
    rw[List.getElem?_set_self hl] at hx
    cases hx
    exact⟨_,hi,rfl⟩
   ·rw[List.getElem?_set_ne hj] at hx
    exact⟨x,hx,rfl⟩
  obtain⟨x',hx',e1⟩:=hc p x hx
  obtain⟨y',hy',e2⟩:=hc q y hy
  exact h.nd p q x' y' hx' hy' (by rw[e1,e2,hxy])
theorem UsO.get (h:UsO w1 ob L v V) {i b:Nat} {r:List Bool} (hi:L[i]?=some (b,r)):∃ g n' c,v=.slice (some ⟨g,0,none⟩) n' c∧V.cell? ⟨g,i,none⟩=some (.slice (some ⟨b,0,none⟩) r.length r.length):=by
 have hl:=lt_of_some hi
 obtain⟨g,c,cur,rfl,-,-⟩:=own_block h.row (by omega)
 refine⟨g,_,c,rfl,(World.ownsRow.cellAt h.row i (by omega)).trans ?_⟩
 unfold usC
 rw[List.getElem?_map,hi]
 rfl
end
def usdB (i k:Nat) (m:Mv):Bool:=decide (m.kind=1) && decide (m.role=(i:Int)) && decide (m.step=(k:Int))
def usF (s:SesD) (N:List Nd) (ms:List Mv) (i k:Nat):Bool:=usedP s N i k || ms.any (usdB i k)
theorem usF_nil (s:SesD) (N:List Nd):usF s N []=usedP s N:=by
 funext i k
 unfold usF
 simp
theorem usF_snoc {s:SesD} {N:List Nd} {d:Nd} {ms:List Mv} (h:movesP s d.st=ms):usF s N ms=usedP s (N ++ [d]):=by
 funext i k
 unfold usF usedP
 have e:usdB i k=fun m=>decide (m.kind=1) && decide (m.role=(i:Int)) && decide (m.step=(k:Int)):=rfl
 rw[List.any_append,← h,e]
 simp
theorem usF_step (s:SesD) (N:List Nd) (ms:List Mv) (m:Mv) (i k:Nat):usF s N (ms ++ [m]) i k=(usF s N ms i k || usdB i k m):=by
 unfold usF
 rw[List.any_append,Bool.or_assoc]
 simp
theorem usRow_same {s:SesD} {f g:Nat→Nat→Bool} (h:∀ i k,f i k=g i k):usRow s f=usRow s g:=by
 have:f=g:=by funext i k;exact h i k
 rw[this]
theorem usRow_put {s:SesD} {f:Nat→Nat→Bool} {i k:Nat}:(usRow s f).set i (((List.range (s.rol i).steps.length).map (f i)).set k true)=usRow s (fun p q=>f p q || (decide (p=i) && decide (q=k))):=by
 unfold usRow
 apply List.ext_getElem?
 intro p
 by_cases hp:i=p
 ·subst hp
  rcases Nat.lt_or_ge i s.roles.length with hl | hl
  ·rw[List.getElem?_set_self (by simpa using hl),List.getElem?_map,List.getElem?_range hl]
   simp only[Option.map_some,Option.some.injEq]
   apply List.ext_getElem?
   intro q
   by_cases hq:k=q
   ·subst hq
    rcases Nat.lt_or_ge k (s.rol i).steps.length with h2 | h2
    ·rw[List.getElem?_set_self (by simpa using h2),List.getElem?_map,List.getElem?_range h2]
     simp
    ·rw[List.getElem?_eq_none (by simpa using h2),List.getElem?_eq_none (by simpa using h2)]
   ·rw[List.getElem?_set_ne hq,List.getElem?_map,List.getElem?_map]
    rcases Nat.lt_or_ge q (s.rol i).steps.length with h2 | h2
    ·rw[List.getElem?_range h2]
     simp[Ne.symm hq]
    ·rw[List.getElem?_eq_none (by simpa using h2)]
     rfl
  ·rw[List.getElem?_eq_none (by simpa using hl),List.getElem?_eq_none (by simpa using hl)]
 ·rw[List.getElem?_set_ne hp,List.getElem?_map,List.getElem?_map]
  rcases Nat.lt_or_ge p s.roles.length with h2 | h2
  ·rw[List.getElem?_range h2]
   simp[Ne.symm hp]
  ·rw[List.getElem?_eq_none (by simpa using h2)]
   rfl
theorem usRow_no {s:SesD}:usRow s (usedP s [])=(List.range s.roles.length).map fun j=>List.replicate (s.rol j).steps.length false:=by
 unfold usRow
 apply List.map_congr_left
 intro i _
 have e:usedP s [] i=fun _=>false:=by funext k;rfl
 rw[e,List.map_const',List.length_range]
theorem mv_bounds {s:SesD} {x:PS} {m:Mv} (hm:m∈movesP s x) (hk:m.kind=1):∃ a b:Nat,m.role=a∧m.step=b∧a < s.roles.length∧b < (s.rol a).steps.length:=by
 rcases mem_movesP.1 hm with ⟨a,b,h1,h2,hm2⟩ | ⟨a,b,-,-,hm2⟩
 ·obtain⟨-,e2,e3,-⟩:=mem_stepMv hm2
  exact⟨a,b,e2,e3,h1,h2⟩
 ·have:=(mem_loseMv.1 hm2).1
  rw[this] at hk
  cases hk
theorem KB.bk {B:Nat} {W V V':World} (h:KB W V) (hb:Bk B V V') (hB:W.heap.size≤B):KB W V':=fun k o hk ho=>hb.block k o (h k o hk ho) (.inl (by have:=lt_of_block hk;omega))
theorem MvI.bk {B B':Nat} {v:Value} {L:List Mv} {W W':World} (h:MvI B v L W) (hb:Bk B' W W'):MvI B v L W':=⟨hb.at h.b rfl,h.a.frm fun _ _ _ h=>h.bk hb⟩
theorem MvI.box {B b:Nat} {u:Value} {L:List Mv} {W V:World} {r:List Bool} (h:MvI B u L W) (hb:W.heap[b]?=some (.cells (r.map Value.bool).toArray 4 (0,0))) (hf:Frm [b] W V):MvI B u L V:=
 ⟨hf.at h.b (by rw[List.mem_singleton];exact ty_ne h.b hb (by decide)),h.a.frm fun g o m hm=>by
  have hg:g∉[b]:=fun hx=>by
   rw[List.mem_singleton] at hx
   subst hx
   have:=hm.1
   rw[cell_of hb] at this
   simp at this
  exact⟨hf.cellAt hm.1 hg,hf.cellAt hm.2 hg,hf.cellAt hm.3 hg,hf.cellAt hm.4 hg⟩⟩
def usEx (g n cv b12 a bb q b:Nat):Nat→Value
 | 0=>.slice (some ⟨g,0,none⟩) n cv
 | 1=>.pointer (some ⟨b12,1,none⟩)
 | 2=>.int .i64 (a:Int)
 | 3=>.pointer (some ⟨g,a,none⟩)
 | 4=>.slice (some ⟨bb,0,none⟩) q q
 | 5=>.pointer (some ⟨b12,2,none⟩)
 | 6=>.int .i64 (b:Int)
 | 7=>.pointer (some ⟨bb,b,none⟩)
 | _=>undef
theorem upd_ok {D:Nat→Bool} {f ex:Nat→Value} {i:Nat} {v:Value} (h:∀ j,D j=true→f j=ex j) (e:v=ex i):∀ j,updD D i j=true→updV f i v j=ex j:=fun j hj=>by
 unfold updD at hj
 unfold updV
 split
 ·rename_i h1
  rw[h1]
  exact e
 ·rename_i h1
  rw[if_neg h1] at hj
  exact h j hj
def BsAt (W:World) (g o:Nat) (r:List Bool):Prop:=∃ b,W.cell? ⟨g,o,none⟩=some (.slice (some ⟨b,0,none⟩) r.length r.length)∧W.heap[b]?=some (.cells (r.map Value.bool).toArray 4 (0,0))
theorem UsO.arr {w1 V:World} {ob:Nat} {L:List (Nat × List Bool)} {v:Value} (h:UsO w1 ob L v V):Arr 1 BsAt V v (L.map Prod.snd):=by
 obtain⟨ao,cap,rfl⟩:=own_shape h.row
 refine⟨ao,cap,by rw[List.length_map],fun i r hr=>?_⟩
 obtain⟨⟨b,r'⟩,he,rfl⟩:=some_map hr
 obtain⟨g,n',c,e1,e2⟩:=h.get he
 cases e1
 refine⟨g,0,rfl,b,?_,(h.at' i _ he).2⟩
 rw[Nat.zero_add,Nat.mul_one]
 exact e2
theorem us_res {V:World} {ob n c:Nat} {ao:Option Addr} {fn:Func} {tmps:Array Value} (h:V.heap[ob]?=some (.cells #[.slice ao n c] 71 (0,0))) (hf:fn.results=#[.cell 4 71,.tmp 5])
  (h4:tmps.getD 4 undef=.pointer (some ⟨ob,0,none⟩)) (h5:tmps.getD 5 undef=.int .i64 0):(results fn tmps).run Tryz.prog V=.ok (.tuple #[.slice ao n c,.int .i64 0]) V:=by
 have h4':tmps[4]?.getD undef=.pointer (some ⟨ob,0,none⟩):=by simpa using h4
 have h5':tmps[5]?.getD undef=.int .i64 0:=by simpa using h5
 have c4:=cell_of h 0
 simp at c4
 simp[results,hf,h4',h5',asAddr,c4,go_sem]
def UsdTo (w:World) (s:SesD) (lim:Nat) (v:Value) (w':World):Prop:=
 Frm [] w w'∧∃ u,v=.tuple #[u,.int .i64 0]∧Arr 1 BsAt w' u (usRow s (usedP s (searchP s lim).1))
theorem field_roles (a:ByteArray) (ao:Option Addr) (n c:Nat) (x y:Int) (W:World):(Instr.field 25 (.agg #[.string a,.slice ao n c,.int .i64 x,.int .i64 y]) 1).run Tryz.prog W=.ok (.slice ao n c) W:=by
 simp[Instr.field,go_sem,Tryz.underlying25,asAgg,part]
attribute [local go_sem] Oper.semAt_some
set_option maxHeartbeats 4000000 in
set_option maxRecDepth 100000 in
theorem xpUsed_any (s:SesD) (yb fb lim:Nat) (w:World) (h:SyR w s yb fb) (h1:1≤lim) (h2:lim≤200000) (hwh:(searchP s lim).2=true):Calls Tryz.prog 30 #[.pointer (some ⟨yb,0,none⟩),.int .i64 lim] w (RetV (UsdTo w s lim)):=by
 have HY:=Lib.hid h;have HL:=Lib.hid (⟨h1,h2⟩:1≤lim∧lim≤200000)
 obtain⟨W0,hW0⟩:∃ W0,(w.alloc (.cells #[.pointer (some ⟨yb,0,none⟩)] 27)).alloc (.cells #[.slice none 0 0] 71)=W0:=⟨_,rfl⟩
 obtain⟨r4,h4⟩:∃ b,w.heap.size + 1=b:=⟨_,rfl⟩
 obtain⟨r2,h3⟩:∃ b,w.heap.size=b:=⟨_,rfl⟩
 have HF0:Hid (Frm [] w W0):=Lib.hid (by rw[← hW0];exact((Frm.refl _ _).alloc _).alloc _)
 have HQ2:Hid (W0.heap[r2]?=some (.cells #[.pointer (some ⟨yb,0,none⟩)] 27 (0,0))):=Lib.hid (by rw[← hW0,← h3];exact alloc_at (heap_alloc_new _ _))
 have HQ4:Hid (W0.heap[r4]?=some (.cells #[.slice none 0 0] 71 (0,0))):=Lib.hid (by rw[← hW0,← h4];exact alloc_top (by simp))
 have HR4:Hid (w.heap.size≤r4):=Lib.hid (by omega)
 have CS:=Lib.hid (xSearch_any s yb fb lim W0 (h.frm HF0.out) h1 h2)
 have HE:=Lib.hid hW0;have H4:=Lib.hid h4;have H3:=Lib.hid h3;have HWH:=Lib.hid hwh
 clear h h1 h2 hW0 h4 h3 hwh
 refine calls_of_marks Tryz.func30 rfl ?_
 simp only[Tryz.ntmps30,List.size_toArray,List.length_cons,List.length_nil,Nat.reduceAdd,Nat.reduceSub,Array.replicate_succ,Array.replicate_zero,List.push_toArray,List.append_toArray,List.nil_append,List.cons_append]
 go_upto_region 1 with fail
 rw[HE.out,H4.out,H3.out]
 clear HE H4 H3
 have c2:=cell_of HQ2.out 0
 go_upto_region 2 with (first
  | (go_at_call 57;go_must (refine CS.out.mono ?_;rintro e w1 ⟨v,rfl,pb,N,rfl,hsp,hN,hf⟩;have HSP:=Lib.hid hsp;have HN:=Lib.hid hN;have HF1:=Lib.hid hf;clear hsp hN hf CS c2)))
 have CW:=Lib.hid (xWhole_eq HSP.out)
 rw[HWH.out] at CW
 have CSe:=Lib.hid (pSession_any s yb fb w1 (HY.out.frm (HF0.out.trans HF1.out)))
 have q2:=cell_of (HF1.out.at HQ2.out (by simp)) 0
 have hfd:=field_roles s.name
 go_upto_region 7 with (first
  | (go_at_call 59;go_must (refine CW.out.mono ?_;rintro e w4 ⟨rfl,rfl⟩;clear CW))
  | (go_at_call 74;go_must (refine CSe.out.mono ?_;rintro e w2 ⟨v,rfl,ho⟩;obtain⟨⟨g2,c2,rfl⟩,hf2,hses⟩:=ho;have HF2:=Lib.hid hf2;have HSS:=Lib.hid (hses w2 (Agree.refl _ _));clear hf2 hses CSe q2)))
 clear hfd
 obtain⟨rv,hrv,hrl⟩:=HSS.out
 cases hrv
 obtain⟨n,hn⟩:∃ n,s.roles.length=n:=⟨_,rfl⟩
 have HRL:=Lib.hid hrl;have HNn:=Lib.hid hn
 rw[hn] at HRL ⊢
 have HSY:Hid (SyR w2 s yb fb):=Lib.hid (HY.out.frm (HF0.out.trans (HF1.out.trans HF2.out)))
 have HN4:Hid (n≤4):=Lib.hid (by rw[← hn];exact HY.out.ok.n4)
 have HN2:Hid (2≤n):=Lib.hid (by rw[← hn];exact HY.out.ok.n2)
 have HWI:Hid (∀ i:Nat,i < n→wrap64 ((i:Int) + 1)=((i + 1:Nat):Int)):=Lib.hid fun i hi=>by have:=HN4.out;unfold wrap64;omega
 have HOB:Hid (w2.heap[r4]?=some (.cells #[.slice none 0 0] 71 (0,0))):=Lib.hid (HF2.out.at (HF1.out.at HQ4.out (by simp)) (by simp))
 have HSP2:=Lib.hid (HSP.out.frm HF2.out)
 have HU0:Hid (UsO w2 r4 [] (.slice none 0 0) w2):=Lib.hid ⟨Frm.refl _ _,lt_of_block HOB.out,HOB.out,World.ownsRow_nil _ _ _ _,fun j e he=>by simp at he,fun i j a b ha=>by simp at ha⟩
 have HF02:Hid (Frm [] w w2):=Lib.hid (HF0.out.trans (HF1.out.trans HF2.out))
 clear hn hrl HSS HSP HQ4
 go_loopw [31] (fun s31 wr=>∃ i:Nat,s31=.int .i64 i∧i≤n∧∃ L v,L.length=i∧L.map Prod.snd=(List.range i).map (fun j=>List.replicate (s.rol j).steps.length false)∧UsO w2 r4 L v wr) (fun s31 _=>n - (intOf s31).toNat)
 case atStart=>exact⟨0,rfl,Nat.zero_le _,[],_,rfl,rfl,HU0.out⟩
 case round =>
  obtain⟨i,rfl,hi,L,v,hLi,hLm,hus⟩:=hrel
  obtain⟨av,cv,rfl⟩:=own_shape hus.row
  have HU:=Lib.hid hus;have HLI:=Lib.hid hLi;have HLM:=Lib.hid hLm
  clear hus hLi hLm
  obtain⟨wa,hwa⟩:∃ wa,wa=wr:=⟨_,rfl⟩
  subst hwa
  by_cases hlt:i < n
  ·have hlt':(i:Int) < (n:Int):=by omega
   have hin:i < s.roles.length:=by rw[HNn.out];exact hlt
   have hrl:Rls wa (.slice (some ⟨g2,0,none⟩) n c2) s.roles:=HRL.out.fg (fg_res HOB.out) HU.out.fr
   obtain⟨rb,ro,e1,sv,cv',tv,d0,d1,d2,d3,hr3⟩:=hrl.get (SesD.rol_some hin)
   cases e1
   obtain⟨r,hrr⟩:∃ r,s.rol i=r:=⟨_,rfl⟩
   rw[hrr] at d0 hr3
   obtain⟨aS,cS,rfl⟩:=hr3.sts.shape
   obtain⟨aC,cC,rfl⟩:=hr3.ctrs.shape
   obtain⟨aT,cT,rfl⟩:=hr3.steps.shape
   have hgl:=cell_lt d0
   obtain⟨m,hm⟩:∃ m,r.steps.length=m:=⟨_,rfl⟩
   have HMm:Hid ((s.rol i).steps.length=m):=Lib.hid (by rw[hrr];exact hm)
   have HM80:Hid (m≤1000):=Lib.hid (by rw[← HMm.out];have:=(HY.out.ok.rol _ (List.mem_of_getElem? (SesD.rol_some hin))).t80;omega)
   rw[hm] at d3
   simp only[Nat.zero_add] at d0 d1 d2 d3
   clear hr3 hin hrr hm hrl
   go_upto_region 9 with fail
   clear d0 d1 d2 d3 hgl
   obtain⟨V0,hV0⟩:∃ V0,wa.alloc (.cells #[.string r.name,.slice aS r.sts.length cS,.slice aC r.ctrs.length cC,.slice aT m cT] 87)=V0:=⟨_,rfl⟩
   obtain⟨b8,hb8⟩:∃ b,wa.heap.size=b:=⟨_,rfl⟩
   have F0:Hid (Frm [] wa V0):=Lib.hid (by rw[← hV0];exact(Frm.refl [] wa).alloc _)
   have Q8:Hid (V0.heap[b8]?=some (.cells #[.string r.name,.slice aS r.sts.length cS,.slice aC r.ctrs.length cC,.slice aT m cT] 87 (0,0))):=Lib.hid (by rw[← hV0,← hb8];exact heap_alloc_new _ _)
   rw[hV0,hb8]
   clear hV0 hb8
   have HU1:=Lib.hid (HU.out.frm F0.out)
   have HCT:Hid (∀ V,Frm [] V0 V→V.cell? ⟨r4,0,none⟩=some (.slice av L.length cv)∧V.cell? ⟨b8,3,none⟩=some (.slice aT m cT)):=Lib.hid fun V hV=>⟨cell_of (hV.at HU1.out.box (by simp)) 0,cell_of (hV.at Q8.out (by simp)) 3⟩
   have hmk:=run_make_row' (P:=Tryz.prog) 82 4 (.bool false) 1 Tryz.underlying82 Tryz.infoB4 rfl .i64 .i64 m (by have:=HM80.out;omega) (by have:=HM80.out;omega)
   obtain⟨i0,hi0,hz0,hz1,hz2⟩:=info_parts Tryz.infoBs
   have HL4:Hid (L.length≤4):=Lib.hid (by rw[HLI.out];have:=HN4.out;omega)
   generalize hQQ:Exit.inBlock _ _=QQ
   refine wp_mono (Q:=fun e a' w'=>match e with | .normal=>QQ .normal a' w' | _=>False) ?_ (fun e a' w' h=>by cases e <;> first | exact h | exact h.elim)
   refine heldL_start [] (wrFrom 6) (by kernel_rfl) ?_
   refine htP 1 ?_ ?_ ?_
   rotate_left
   ·intro w'
    go_simp
    try rfl
   try simp only[nrm]
   refine htL 0 ?_ ?_ ?_
   rotate_left
   ·intro w' hC
    obtain⟨x0,x1⟩:=HCT.out w' ((Frm.refl [] V0).drew.trans hC)
    clear hC
    go_simp
    try rfl
   try simp only[nrm]
   refine cnt 2 ?_
   iterate 2
    refine hcL ?_ ?_ ?_
    rotate_left
    ·intro w' hC
     obtain⟨x0,x1⟩:=HCT.out w' ((Frm.refl [] V0).drew.trans hC)
     clear hC
     go_simp
     try rfl
    try simp only[nrm,Nat.reduceAdd]
   refine tcn ?_
   obtain⟨wd,hwd⟩:∃ wd,V0.drew=wd:=⟨_,rfl⟩
   have HUd:Hid (UsO w2 r4 L (.slice av L.length cv) wd):=Lib.hid (by rw[← hwd];exact HU1.out.frm (Frm.refl [] V0).drew)
   rw[hwd]
   clear hwd
   refine honL 4 ?_
   refine heldL_step (i:=4) rfl rfl (by rfl) (fun K' hK'=>?_)
   go_simp
   (skip)
   refine hK'.out _ _ ((Frm.refl _ _).alloc _) ?_
   clear hK' K'
   try simp only[nrm]
   refine honL 5 ?_
   refine heldL_step (i:=5) rfl rfl (by rfl) (fun K' hK'=>?_)
   go_simp
   (skip)
   refine hK'.out _ _ ((Frm.refl _ _).alloc _) ?_
   clear hK' K'
   try simp only[nrm]
   have hr9:((wd.alloc (.cells (madeCells #[.bool false] m) 4)).alloc (.cells #[.slice (some ⟨wd.heap.size,0,none⟩) m m] 82)).heap[wd.heap.size + 1]?=some (.cells #[.slice (some ⟨wd.heap.size,0,none⟩) m m] 82 (0,0)):=alloc_top (by simp)
   refine honL 6 ?_
   refine heldL_write (i:=6) rfl (by rfl) (by rfl) (fun K' hK'=>?_)
   refine wp_own_step _ _ 71 rfl w2.heap.size 82 Tryz.underlying71 hi0 hz0 hz1 hz2 rfl (by decide) (.slice av L.length cv) L.length (usC L) rfl (HUd.out.frm (((Frm.refl [] wd).alloc _).alloc _)).row _ 1 1 [.slice (some ⟨wd.heap.size,0,none⟩) m m] rfl rfl (by have:=row_cells hr9;simpa using this) (by simp[Value.oneCell']) (by have:=HL4.out;unfold maxLen;omega) (by have:=HL4.out;omega) (by have:=HUd.out.fr.size;simp;omega) ?_
   intro v' w3 h9 hg;have HO9:=Lib.hid h9;have HG9:=Lib.hid hg;obtain⟨a9,c9,hsh9⟩:=own_shape h9;subst hsh9;clear h9 hg
   have hb3:=(HUd.out.frm (((Frm.refl [] wd).alloc _).alloc _)).grown HG9.out
   have x3:=cell_of hb3 0
   have y3:=free_of hb3 0
   refine hK'.out _ _ ?_
   clear hK' K'
   try simp only[nrm]
   refine honL 7 ?_
   refine heldL_write (i:=7) rfl (by rfl) (by rfl) (fun K' hK'=>?_)
   go_simp
   (skip)
   refine hK'.out _ _ ?_
   clear hK' K'
   try simp only[nrm]
   refine heldL_done (by kernel_rfl) ?_ _
   have HU9:=Lib.hid (HUd.out.add HG9.out HO9.out)
   subst hQQ
   obtain⟨w9,hw9⟩:∃ w9,w3.setCell ⟨r4,0,none⟩ (.slice a9 (L.length + 1) c9)=w9:=⟨_,rfl⟩
   rw[hw9] at HU9 ⊢
   clear hw9 hr9 hb3 x3 y3 hmk hi0 hz0 hz1 hz2
   go_wp2
   refine⟨⟨i + 1,congrArg (Value.int .i64) (HWI.out i hlt),hlt,_,_,?_,?_,HU9.out⟩,meas_up hlt (HWI.out i hlt)⟩
   ·rw[List.length_append,HLI.out];rfl
   ·rw[List.map_append,HLM.out,List.range_succ,List.map_append,← HMm.out];rfl
  ·obtain rfl:n=i:=by omega
   have hge:¬ (n:Int) < (n:Int):=by omega
   have HSPa:=Lib.hid (HSP2.out.box (by have:=HN2.out;have:=HNn.out;omega) HOB.out HU.out.fr)
   go_upto_region 12 with (first
    | (go_at_call 91;go_must (refine(xStates_any _ _).mono ?_;rintro e w3 ⟨u,rfl,bx,rfl,hbx,hf⟩;have HBX:=Lib.hid hbx;have HF3:=Lib.hid hf;clear hbx hf)))
   have HU3:Hid (UsO w2 r4 L (.slice av n cv) w3):=Lib.hid (by
    have h9:=HU.out.frm HF3.out
    rw[HLI.out] at h9
    exact h9)
   obtain⟨nn,hfo⟩:=search_ok (lim:=lim) HY.out.ok HL.out.1
   have hsi:SI s lim nn (N.map Prod.fst):=by rw[HN.out];exact hfo.toSI
   have HLN:Hid (N.length≤200000):=Lib.hid (by
    have:=hsi.top
    rw[List.length_map] at this
    have:=HL.out
    omega)
   have HN0:Hid (0 < s.roles.length):=Lib.hid (by have:=HN2.out;have:=HNn.out;omega)
   have HW23:Hid (w2.heap.size≤w3.heap.size):=Lib.hid HU3.out.fr.size
   clear hfo hsi hge hlt hi HU
   refine wp_rangeList (P:=Tryz.prog) rfl (enters_of Tryz.func151 (by kernel_rfl) rfl) (st_iter bx yb pb s (searchP s lim).2 N (by have:=HLN.out;omega)) (fun _=>rfl)
    (fun pre V=>(∃ L',L'.map Prod.snd=usRow s (usedP s ((N.map Prod.fst).take pre.length))∧UsO w2 r4 L' (.slice av n cv) V)∧V.heap[bx]?=some (.cells #[.pointer (some ⟨pb,0,none⟩)] 122 (0,0)))
    (fun _ _ _=>False)
    (fun _ _ _ h hb=>⟨by obtain⟨⟨L',h1,h2⟩,-⟩:=h;exact⟨L',h1,h2.bk hb HW23.out⟩,hb.at h.2 rfl⟩)
    (fun _ _ _ _ h _=>h)
    (fun _ V h=>⟨h.2,by obtain⟨⟨L',h1,h2⟩,-⟩:=h;exact HSP2.out.box HN0.out HOB.out h2.fr⟩)
    ⟨⟨L,by rw[List.length_nil,List.take_zero,usRow_no,HNn.out];exact HLM.out,HU3.out⟩,HBX.out⟩ ?_ ?_ (fun _ _ _ _ _ _ _ _ h _=>h.elim)
   ·intro l1 pre y rest Wr hxs hI hl hlr
    obtain⟨hy,hpl⟩:=numL_pre hxs
    have hLk:=numL_some hxs
    obtain⟨yi,ym⟩:=y
    simp only at hy hLk
    subst hy
    have HI:=Lib.hid hI
    have HLQ:=Lib.hid hlr;have HL1:=Lib.hid hl
    clear hI hl hlr hxs
    gi_wp2
    refine⟨KB.refl _,fun Wq hbk hlr=>?_⟩
    have HI2:Hid ((∃ L',L'.map Prod.snd=usRow s (usedP s ((N.map Prod.fst).take pre.length))∧UsO w2 r4 L' (.slice av n cv) Wq)∧Wq.heap[bx]?=some (.cells #[.pointer (some ⟨pb,0,none⟩)] 122 (0,0))):=Lib.hid ⟨by obtain⟨⟨L',h1,h2⟩,-⟩:=HI.out;exact⟨L',h1,h2.bk hbk HW23.out⟩,hbk.at HI.out.2 rfl⟩
    have HLR:=Lib.hid hlr
    clear hbk HI hlr
    obtain⟨d,hd,rfl⟩:=some_map hLk
    obtain⟨k,hk⟩:∃ k,pre.length=k:=⟨_,rfl⟩
    have HK:=Lib.hid hk
    rw[hk] at HI2 hd hpl ⊢
    have hfr:Frm [r4] w2 Wq:=by obtain⟨⟨L',h1,h2⟩,-⟩:=HI2.out;exact h2.fr
    have HST:Hid (StR Wq s yb d.2 d.1.st):=Lib.hid ((HSP2.out.box HN0.out HOB.out hfr).st d (List.mem_of_getElem? hd))
    have HMd:Hid ((N.map Prod.fst).take (k + 1)=(N.map Prod.fst).take k ++ [d.1]):=Lib.hid (take_snoc' (by rw[List.getElem?_map,hd];rfl)).1
    have HSYq:Hid (SyR Wq s yb fb):=Lib.hid (HSY.out.fg (fg_res HOB.out) hfr)
    have CM:=Lib.hid (pMoves_any s yb fb d.2 d.1.st Wq HSYq.out HST.out)
    have c2q:Wq.cell? ⟨r2,0,none⟩=some (.pointer (some ⟨yb,0,none⟩)):=cell_of (hfr.at (HF2.out.at (HF1.out.at HQ2.out (by simp)) (by simp)) (by rw[List.mem_singleton];exact ty_ne (HF2.out.at (HF1.out.at HQ2.out (by simp)) (by simp)) HOB.out (by decide))) 0
    have HMB:Hid (∀ m∈movesP s d.1.st,m.kind=1→∃ a b:Nat,m.role=a∧m.step=b∧a < s.roles.length∧b < (s.rol a).steps.length):=Lib.hid fun m hm=>mv_bounds hm
    have HML:Hid ((movesP s d.1.st).length≤1000000):=Lib.hid (by have:=moves_len HSYq.out.ok HST.out.ok;omega)
    obtain⟨ms,hms⟩:∃ ms,movesP s d.1.st=ms:=⟨_,rfl⟩
    have HMS:=Lib.hid hms
    rw[hms] at CM HMB HML
    clear hd hfr hLk hpl hk hms
    gi_upto_region 14 with (refine⟨trivial,?_⟩;gi_at_call 21;go_must (refine(CallsIn.inRound l1 (callsIn_wide.2 CM.out)).mono ?_;rintro e w4 ⟨v,rfl,B,u,rfl,hmi,hf,hB⟩;have HMI:=Lib.hid hmi;have HF4:=Lib.hid hf;clear hmi hf hB CM c2q))
    have HU4:Hid ((∃ L',L'.map Prod.snd=usRow s (usedP s ((N.map Prod.fst).take k))∧UsO w2 r4 L' (.slice av n cv) w4)∧w4.heap[bx]?=some (.cells #[.pointer (some ⟨pb,0,none⟩)] 122 (0,0))):=Lib.hid ⟨by obtain⟨⟨L',h1,h2⟩,-⟩:=HI2.out;exact⟨L',h1,h2.frm HF4.out⟩,HF4.out.at HI2.out.2 (by simp)⟩
    have HLR4:Hid (∃ r,w4.heap[l1]?=some (.loop r)):=Lib.hid (by obtain⟨r,hr⟩:=HLR.out;exact⟨r,HF4.out.at hr (by simp)⟩)
    have HQ4s:Hid (Wq.heap.size≤w4.heap.size):=Lib.hid HF4.out.size
    have HW24:Hid (w2.heap.size≤w4.heap.size):=Lib.hid (by obtain⟨⟨L',h1,h2⟩,-⟩:=HU4.out;exact h2.fr.size)
    clear HI2
    refine wpIn_rangeListN (P:=Tryz.prog) HLR4.out rfl (enters_of Tryz.func146 (by kernel_rfl) rfl) (mv_iter B u ms HML.out) (fun _=>rfl)
     (fun pre V=>(∃ L',L'.map Prod.snd=usRow s (usF s ((N.map Prod.fst).take k) (ms.take pre.length))∧UsO w2 r4 L' (.slice av n cv) V)∧V.heap[bx]?=some (.cells #[.pointer (some ⟨pb,0,none⟩)] 122 (0,0))∧MvI B u ms V∧KB Wq V)
     (fun _ _ _=>False)
     (fun _ _ _ h hb=>⟨by obtain⟨⟨L',h1,h2⟩,-⟩:=h;exact⟨L',h1,h2.bk hb HW24.out⟩,hb.at h.2.1 rfl,h.2.2.1.bk hb,h.2.2.2.bk hb HQ4s.out⟩)
     (fun _ _ _ _ h _=>h)
     (fun _ V h=>h.2.2.1)
     ⟨by obtain⟨⟨L',h1,h2⟩,-⟩:=HU4.out;exact⟨L',by rw[List.length_nil,List.take_zero,usF_nil];exact h1,h2⟩,HU4.out.2,HMI.out,KB.frm0 HF4.out⟩ ?_ ?_ (fun _ _ _ _ _ _ h=>h.elim)
    ·intro l2 pre2 y rest2 Wr2 hxs hI hl hlr
     obtain⟨hy,hpl⟩:=numL_pre hxs
     have hLk:=numL_some hxs
     obtain⟨yi,m⟩:=y
     simp only at hy hLk
     subst hy
     have HJ:=Lib.hid hI
     have HL2:=Lib.hid hl
     clear hI hl hlr hxs
     gi_wp2
     refine⟨KB.frm0 ((Frm.refl [] Wr2).alloc _),fun Wz hbk _=>?_⟩
     obtain⟨⟨L1,hm1,hu1⟩,hb1,hv1,hk1⟩:=HJ.out
     have HU5:Hid (UsO w2 r4 L1 (.slice av n cv) Wz):=Lib.hid ((hu1.frm ((Frm.refl [] Wr2).alloc _)).bk hbk HW24.out)
     have HB5:Hid (Wz.heap[bx]?=some (.cells #[.pointer (some ⟨pb,0,none⟩)] 122 (0,0))):=Lib.hid (hbk.at (((Frm.refl [] Wr2).alloc _).at hb1 (by simp)) rfl)
     have HV5:Hid (MvI B u ms Wz):=Lib.hid ((hv1.frm ((Frm.refl [] Wr2).alloc _)).bk hbk)
     have HK5:Hid (KB Wq Wz):=Lib.hid ((hk1.trans (KB.frm0 ((Frm.refl [] Wr2).alloc _))).bk hbk HQ4s.out)
     have HM5:Hid (Wz.heap[Wr2.heap.size]?=some (.cells #[.int .i64 m.kind,.int .i64 m.role,.int .i64 m.step,.int .i64 m.place] 44 (0,0))):=Lib.hid (hbk.at (heap_alloc_new _ _) rfl)
     have HL1:=Lib.hid hm1
     obtain⟨b12,h12⟩:∃ b,Wr2.heap.size=b:=⟨_,rfl⟩
     rw[h12] at HM5 ⊢
     have HTK:=Lib.hid (take_snoc' hLk).1
     have HMM:=Lib.hid (List.mem_of_getElem? hLk)
     obtain⟨p2,hp2⟩:∃ p,pre2.length=p:=⟨_,rfl⟩
     have HP2:Hid ((pre2 ++ [(pre2.length,m)]).length=p2 + 1):=Lib.hid (by rw[List.length_append,hp2];rfl)
     rw[hp2] at HTK HL1 HP2 ⊢
     clear hbk hm1 hu1 hb1 hv1 hk1 h12 HJ hLk hpl hp2
     have k0:=cell_of HM5.out 0
     by_cases hk:m.kind=1
     ·have q2:(m.kind == 1)=true:=by simpa using hk
      obtain⟨a,b,ea,eb,hal,hbl⟩:=HMB.out m HMM.out hk
      have h9:(L1.map Prod.snd)[a]?=some ((List.range (s.rol a).steps.length).map (usF s ((N.map Prod.fst).take k) (ms.take p2) a)):=by rw[HL1.out];exact usRow_at hal
      obtain⟨⟨bb,rr⟩,hLa,hrr⟩:=some_map h9
      simp only at hrr
      obtain⟨g,n',c,e1,hc⟩:=HU5.out.get hLa
      cases e1
      obtain⟨q,hq⟩:∃ q,rr.length=q:=⟨_,rfl⟩
      have hbq:b < q:=by rw[← hq,hrr];simpa using hbl
      have han:a < n:=by rw[← HNn.out];exact hal
      have HLa:=Lib.hid hLa;have HQQ:=Lib.hid hq;have HBQ:=Lib.hid hbq;have HAN:=Lib.hid han;have HC:=Lib.hid hc;have HRR:=Lib.hid hrr;have HEA:=Lib.hid ea;have HEB:=Lib.hid eb;have HKK:=Lib.hid hk
      clear h9 hLa hrr hq hbq han hc ea eb hk hal hbl
      gi_upto_region 16 with fail
      clear k0
      have HM6:Hid (Wz.heap[b12]?=some (.cells #[.int .i64 m.kind,.int .i64 (a:Int),.int .i64 (b:Int),.int .i64 m.place] 44 (0,0))):=Lib.hid (by rw[HM5.out,HEA.out,HEB.out])
      have HGET:Hid (∀ (c:Bool) V,UsO w2 r4 (bif c then L1.set a (bb,rr.set b true) else L1) (.slice (some ⟨g,0,none⟩) n cv) V→V.cell? ⟨g,a,none⟩=some (.slice (some ⟨bb,0,none⟩) q q)):=Lib.hid fun c V hV=>by
       cases c with
       | true =>
         obtain⟨g',n',c',e1,hc⟩:=hV.get (i:=a) (b:=bb) (r:=rr.set b true) (by rw[cond_true,List.getElem?_set_self (lt_of_some HLa.out)])
         cases e1
         rw[List.length_set,HQQ.out] at hc
         exact hc
       | false =>
         obtain⟨g',n',c',e1,hc⟩:=hV.get (i:=a) (b:=bb) (r:=rr) HLa.out
         cases e1
         rw[HQQ.out] at hc
         exact hc
      refine wpIn_region_inv' (fun f=>{ tmps:=#[.pointer (some ⟨yb,0,none⟩),.int .i64 (lim:Int),.pointer (some ⟨r2,0,none⟩),undef,.pointer (some ⟨r4,0,none⟩),.int .i64 0,.pointer (some ⟨pb,0,none⟩),undef,u8,undef,.pointer (some ⟨d.snd,0,none⟩),undef,.pointer (some ⟨b12,0,none⟩),.tuple #[.pointer (some ⟨pb,0,none⟩),.int .i64 0],.pointer (some ⟨yb,0,none⟩),.int .i64 (lim:Int),.tuple #[.pointer (some ⟨pb,0,none⟩),.int .i64 0],.pointer (some ⟨pb,0,none⟩),.int .i64 0,.bool false,.int .i64 0,.bool false,undef,.bool false,.pointer (some ⟨pb,0,none⟩),.bool true,.bool false,.pointer (some ⟨yb,0,none⟩),.agg #[.string s.name,.slice (some ⟨g2,0,none⟩) n c2,.int .i64 s.cls,.int .i64 s.cap],.slice (some ⟨g2,0,none⟩) n c2,.int .i64 (n:Int),.int .i64 (n:Int),.bool false,u33,u34,u35,u36,u37,u38,u39,u40,u41,u42,.pointer (some ⟨pb,0,none⟩),.func (.func 151) #[] #[.pointer (some ⟨bx,0,none⟩)],.int .i64 (k:Int),.pointer (some ⟨d.snd,0,none⟩),.pointer (some ⟨yb,0,none⟩),.pointer (some ⟨d.snd,0,none⟩),.func (.func 146) #[] #[.pointer (some ⟨B,0,none⟩)],.int .i64 (p2:Int),mvV m,.pointer (some ⟨b12,0,none⟩),.int .i64 m.kind,.bool true,f 0,f 1,f 2,f 3,f 4,f 5,f 6,f 7,undef],defers:=[] })
       (fun D f V=>UsO w2 r4 (bif D 8 then L1.set a (bb,rr.set b true) else L1) (.slice (some ⟨g,0,none⟩) n cv) V∧(∀ j,D j=true→f j=usEx g n cv b12 a bb q b j)∧V.heap[b12]?=some (.cells #[.int .i64 m.kind,.int .i64 (a:Int),.int .i64 (b:Int),.int .i64 m.place] 44 (0,0))∧V.heap[bx]?=some (.cells #[.pointer (some ⟨pb,0,none⟩)] 122 (0,0))∧MvI B u ms V∧KB Wz V)
       (fun _=>undef) (by kernel_rfl) (by kernel_rfl) rfl ?_ ?_ ?_
      ·exact⟨HU5.out.frm (Frm.refl [] Wz).drew,(fun j h=>by cases h),(Frm.refl [] Wz).drew.at HM6.out (by simp),(Frm.refl [] Wz).drew.at HB5.out (by simp),HV5.out.frm (Frm.refl [] Wz).drew,KB.frm0 (Frm.refl [] Wz).drew⟩
      ·refine⟨?_,?_,?_,?_,?_,?_,?_,?_,?_,trivial⟩
       ·intro D f V hI hDi hdep hcl
        refine⟨rfl,fun _=>rfl,fun K' hK'=>?_⟩
        obtain⟨z1,z2,z3,z4⟩:=hI
        have x0:=cell_of z1.box 0
        refine⟨fun _ _=>trivial,?_⟩
        go_simp
        refine hK'.out _ _ (usEx g n cv b12 a bb q b 0) rfl ?_
        exact⟨z1,upd_ok z2 rfl,z3,z4⟩
       ·intro D f V hI hDi hdep hcl
        refine⟨rfl,fun _=>rfl,fun K' hK'=>?_⟩
        obtain⟨z1,z2,z3,z4⟩:=hI
        refine⟨fun _ _=>trivial,?_⟩
        go_simp
        refine hK'.out _ _ (usEx g n cv b12 a bb q b 1) rfl ?_
        exact⟨z1,upd_ok z2 rfl,z3,z4⟩
       ·intro D f V hI hDi hdep hcl
        refine⟨rfl,fun _=>rfl,fun K' hK'=>?_⟩
        obtain⟨z1,z2,z3,z4⟩:=hI
        have e1:f 1=.pointer (some ⟨b12,1,none⟩):=z2 1 (hdep ⟨1,Ground.data⟩ (by simp) rfl)
        have x0:=cell_of z3 1
        refine⟨fun _ _=>trivial,?_⟩
        go_simp
        refine hK'.out _ _ (usEx g n cv b12 a bb q b 2) (by (try simp only[e1]) <;> rfl) ?_
        exact⟨z1,upd_ok z2 rfl,z3,z4⟩
       ·intro D f V hI hDi hdep hcl
        refine⟨rfl,fun _=>rfl,fun K' hK'=>?_⟩
        obtain⟨z1,z2,z3,z4⟩:=hI
        have e0:f 0=.slice (some ⟨g,0,none⟩) n cv:=z2 0 (hdep ⟨0,Ground.data⟩ (by simp) rfl)
        have e2:f 2=.int .i64 (a:Int):=z2 2 (hdep ⟨2,Ground.data⟩ (by simp) rfl)
        have han:(a:Int) < (n:Int):=by have:=HAN.out;omega
        refine⟨fun _ _=>trivial,?_⟩
        go_simp
        refine hK'.out _ _ (usEx g n cv b12 a bb q b 3) (by (try simp only[e0,e2]) <;> rfl) ?_
        exact⟨z1,upd_ok z2 rfl,z3,z4⟩
       ·intro D f V hI hDi hdep hcl
        refine⟨rfl,fun _=>rfl,fun K' hK'=>?_⟩
        obtain⟨z1,z2,z3,z4⟩:=hI
        have e3:f 3=.pointer (some ⟨g,a,none⟩):=z2 3 (hdep ⟨3,Ground.data⟩ (by simp) rfl)
        have x0:=HGET.out _ _ z1
        refine⟨fun _ _=>trivial,?_⟩
        go_simp
        refine hK'.out _ _ (usEx g n cv b12 a bb q b 4) (by (try simp only[e3]) <;> rfl) ?_
        exact⟨z1,upd_ok z2 rfl,z3,z4⟩
       ·intro D f V hI hDi hdep hcl
        refine⟨rfl,fun _=>rfl,fun K' hK'=>?_⟩
        obtain⟨z1,z2,z3,z4⟩:=hI
        refine⟨fun _ _=>trivial,?_⟩
        go_simp
        refine hK'.out _ _ (usEx g n cv b12 a bb q b 5) rfl ?_
        exact⟨z1,upd_ok z2 rfl,z3,z4⟩
       ·intro D f V hI hDi hdep hcl
        refine⟨rfl,fun _=>rfl,fun K' hK'=>?_⟩
        obtain⟨z1,z2,z3,z4⟩:=hI
        have e5:f 5=.pointer (some ⟨b12,2,none⟩):=z2 5 (hdep ⟨5,Ground.data⟩ (by simp) rfl)
        have x0:=cell_of z3 2
        refine⟨fun _ _=>trivial,?_⟩
        go_simp
        refine hK'.out _ _ (usEx g n cv b12 a bb q b 6) (by (try simp only[e5]) <;> rfl) ?_
        exact⟨z1,upd_ok z2 rfl,z3,z4⟩
       ·intro D f V hI hDi hdep hcl
        refine⟨rfl,fun _=>rfl,fun K' hK'=>?_⟩
        obtain⟨z1,z2,z3,z4⟩:=hI
        have e4:f 4=.slice (some ⟨bb,0,none⟩) q q:=z2 4 (hdep ⟨4,Ground.data⟩ (by simp) rfl)
        have e6:f 6=.int .i64 (b:Int):=z2 6 (hdep ⟨6,Ground.data⟩ (by simp) rfl)
        have hbq:(b:Int) < (q:Int):=by have:=HBQ.out;omega
        refine⟨fun _ _=>trivial,?_⟩
        go_simp
        refine hK'.out _ _ (usEx g n cv b12 a bb q b 7) (by (try simp only[e4,e6]) <;> rfl) ?_
        exact⟨z1,upd_ok z2 rfl,z3,z4⟩
       ·intro D f V hI hDi hdep hcl
        refine⟨rfl,fun _=>rfl,fun K' hK'=>?_⟩
        obtain⟨z1,z2,z3,z4,z5,z6⟩:=hI
        have e7:f 7=.pointer (some ⟨bb,b,none⟩):=z2 7 (hdep ⟨7,Ground.data⟩ (by simp) rfl)
        rw[hDi] at z1
        have hbb:=(z1.at' a _ HLa.out).2
        have x0:V.cell? ⟨bb,b,none⟩=some (.bool (rr.getD b false)):=by
         rw[cell_of hbb]
         have:=HBQ.out
         have h9:b < rr.length:=by rw[HQQ.out];exact this
         simp[h9]
        have f0:=free_of hbb b
        have hf:Frm [bb] V (V.setCell ⟨bb,b,none⟩ (.bool true)):=(Frm.refl _ _).setCell _ (.inl (by simp)) _
        refine⟨fun _ _=>trivial,?_⟩
        go_simp
        refine hK'.out _ _ undef (by (try simp only[e7]) <;> rfl) ?_
        exact⟨z1.put HLa.out,upd_ok z2 rfl,setCell_at z3 (ty_ne z3 hbb (by decide)) _,setCell_at z4 (ty_ne z4 hbb (by decide)) _,z5.box hbb hf,z6.trans (KB.frm hf fun x hx=>by rw[List.mem_singleton] at hx;subst hx;exact not_books hbb rfl)⟩
      ·intro D f V hD hI
       obtain⟨z1,z2,z3,z4,z5,z6⟩:=hI
       rw[hD 8 (by decide)] at z1
       have HZ1:=Lib.hid z1;have HZ4:=Lib.hid z4;have HZ5:=Lib.hid z5;have HZ6:=Lib.hid z6
       clear z1 z2 z3 z4 z5 z6
       gi_wp2
       refine⟨HZ6.out,⟨_,?_,HZ1.out⟩,HZ4.out,HZ5.out,HK5.out.trans HZ6.out⟩
       rw[HP2.out,HTK.out,cond_true,List.map_set,HL1.out,HRR.out,usRow_put]
       refine usRow_same fun i k=>?_
       rw[usF_step]
       unfold usdB
       rw[decide_eq_true HKK.out,HEA.out,HEB.out,Bool.true_and]
       congr 1
       rw[Bool.eq_iff_iff]
       simp only[Bool.and_eq_true,decide_eq_true_eq]
       omega
     ·have q2:(m.kind == 1)=false:=by simpa using hk
      have HKK:=Lib.hid hk
      clear hk
      gi_wp2
      refine⟨KB.refl _,⟨L1,?_,HU5.out⟩,HB5.out,HV5.out,HK5.out⟩
      rw[HP2.out,HTK.out,HL1.out]
      refine usRow_same fun i k=>?_
      rw[usF_step]
      unfold usdB
      rw[decide_eq_false HKK.out]
      simp
    ·intro V hI
     obtain⟨⟨L1,hm1,hu1⟩,hb1,hv1,hk1⟩:=hI
     rw[numL_length,List.take_length,usF_snoc HMS.out,← HMd.out] at hm1
     have HM1:=Lib.hid hm1;have HU1:=Lib.hid hu1;have HB1:=Lib.hid hb1;have HK1:=Lib.hid hk1
     clear hm1 hu1 hb1 hv1 hk1
     gi_wp2
     refine⟨HK1.out,⟨L1,?_,HU1.out⟩,HB1.out⟩
     rw[List.length_append,HK.out]
     exact HM1.out
   ·intro D V hD hI hK
    obtain⟨⟨L1,hm1,hu1⟩,hb1⟩:=hI
    have e9:(numL (N.map Prod.snd)).length=(N.map Prod.fst).length:=by rw[numL_length,List.length_map,List.length_map]
    rw[e9,List.take_length,HN.out] at hm1
    have HM1:=Lib.hid hm1;have HU1:=Lib.hid hu1;have HKD:=Lib.hid hK;have HDD:=Lib.hid hD
    clear hm1 hu1 hb1 hK hD e9
    have x0:=cell_of HU1.out.box 0
    have f0:=free_of HU1.out.box 0
    have hsm:=setCell_same (w:=V) (b:=r4) (o:=0) (v:=.slice av n cv) HU1.out.box rfl
    go_wp2
    have hb:Bk w3.heap.size V (V.putObj D (.deferred none)):=Bk.putObj V _ HKD.out rfl HDD.out
    have hu9:=HU1.out.bk hb HW23.out
    refine leaves_mark HKD.out ⟨_,us_res hu9.box rfl rfl rfl,_,rfl,?_,_,rfl,?_⟩
    ·exact HF02.out.then hu9.fr fun q hq=>.inr (by rw[List.mem_singleton] at hq;subst hq;exact HR4.out)
    ·have h9:=hu9.arr
     rw[HM1.out] at h9
     exact h9
end Go.Proofs.YtohfkhjlnlahdaaGreat
