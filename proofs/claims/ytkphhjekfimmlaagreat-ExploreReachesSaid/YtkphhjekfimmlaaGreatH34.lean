/- Part of the proof. -/
import Derived.Test.YtkphhjekfimmlaaGreatH31
import Derived.Test.YtkphhjekfimmlaaGreatH16
import Derived.Test.YtkphhjekfimmlaaGreatH23
import Derived.Test.YtkphhjekfimmlaaGreatH33
import Derived.Shelf.SortM.Plain
import Derived.Shelf.SortM.SortNone
import Derived.Sort.CutIn
import Derived.OrdersIn
import Derived.Test.YtkphhjekfimmlaaGreatH32
import Derived.Laws.StructEq
import Derived.Lib.Builder
import Derived.Lib.AppendStr
set_option linter.all false
namespace Go.Proofs.YtkphhjekfimmlaaGreat
open Go.RowKit Go.BigFrame
structure DefsOk (cs:List CtrD):Prop where
 n:cs.length≤4
 ne:∀ c∈cs,c.name≠emptyS
 lo:∀ c∈cs,1≤c.lim∧c.lim≤1000
 un:∀ (i j:Nat) (a b:CtrD),cs[i]?=some a→cs[j]?=some b→a.name=b.name→i=j
def zeroC (cs:List CtrD):List (CtrD × Int):=cs.map fun c=>(c,0)
theorem zeroC_length (cs:List CtrD):(zeroC cs).length=cs.length:=by unfold zeroC;rw[List.length_map]
theorem zeroC_snoc {cs:List CtrD} {i:Nat} {c:CtrD} (h:cs[i]?=some c):zeroC (cs.take (i + 1))=zeroC (cs.take i) ++ [(c,0)]:=by
 unfold zeroC
 rw[List.take_add_one,h,List.map_append];rfl
theorem zero_find {cs:List CtrD} (h:DefsOk cs) {i:Nat} {c:CtrD} (hc:cs[i]?=some c):cnIx (zeroC (cs.take i)) c.name=-1:=by
 refine ixf_none fun x hx=>?_
 unfold zeroC at hx
 rw[List.mem_map] at hx
 obtain⟨d,hd,rfl⟩:=hx
 obtain⟨j,hj⟩:=List.getElem?_of_mem hd
 rw[List.getElem?_take] at hj
 split at hj
 ·rename_i hji
  rw[decide_eq_false_iff_not]
  intro e
  have:=h.un j i d c hj hc e
  omega
 ·cases hj
theorem Tryz.infoCn:(Tryz.prog.info? 234).map (fun i=>(i.zero,i.size,i.bytes))=some (some (.agg #[.string { data:=#[] },.int .i64 0,.int .i64 0]),3,32):=by kernel_rfl
def NwTo (w:World) (l:List (CtrD × Int)) (u:Value) (w':World):Prop:=∃ bb,u=.tuple #[.pointer (some ⟨bb,0,none⟩),.int .i64 0]∧GO 232 234 3 w bb 1 #[.bool true,undef] l.length (cnC l) w'
theorem GO.bnk {w W:World} {bb:Nat} {l:List (CtrD × Int)} (h:GO 232 234 3 w bb 1 #[.bool true,undef] l.length (cnC l) W):Bnk W bb l:=by
 obtain⟨ao,cap,h1,h2⟩:=h.bx
 exact⟨_,h1,cn_arr h2⟩
set_option maxHeartbeats 4000000 in
set_option maxRecDepth 100000 in
theorem bNew_any (v:Value) (cs:List CtrD) (w:World) (h:Arr 2 CtAt w v cs) (hok:DefsOk cs):Calls Tryz.prog 62 #[v] w (RetV (NwTo w (zeroC cs))):=by
 obtain⟨ao,cap,rfl,hx⟩:=h
 have HX:=Lib.hid hx
 have HOK:=Lib.hid hok
 obtain⟨n,hn⟩:∃ n,cs.length=n:=⟨_,rfl⟩
 have HN:=Lib.hid hn
 have h4:¬ 4 < (n:Int):=by have:=hok.n;omega
 rw[hn]
 obtain⟨W0,hW0⟩:∃ W0,w.alloc (.cells #[.bool true,.slice none 0 0] 232)=W0:=⟨_,rfl⟩
 have HG0:Hid (GO 232 234 3 w w.heap.size 1 #[.bool true,undef] 0 (cnC (zeroC (cs.take 0))) W0):=Lib.hid (GO.made (by rw[← hW0];exact(Frm.refl _ _).alloc _) (Nat.le_refl _) (by rw[← hW0];exact heap_alloc_new _ _) rfl)
 have HE:=Lib.hid hW0
 clear hx hok hn hW0
 go_enter Tryz.func62,Tryz.ntmps62
 go_wp2
 rw[HE.out]
 clear HE h4
 go_loopw [14] (fun s14 wl=>∃ i:Nat,s14=.int .i64 i∧i≤n∧GO 232 234 3 w w.heap.size 1 #[.bool true,undef] i (cnC (zeroC (cs.take i))) wl) (fun s14 _=>n - (intOf s14).toNat)
 case atStart=>exact⟨0,rfl,Nat.zero_le _,HG0.out⟩
 case round =>
  obtain⟨i,rfl,hi,hg⟩:=hrel
  have HG:=Lib.hid hg
  clear HG0 hg
  by_cases hlt:i < n
  ·have hlt':(i:Int) < (n:Int):=by omega
   obtain⟨c,hc⟩:∃ c,cs[i]?=some c:=⟨_,List.getElem?_eq_getElem (by rw[HN.out];exact hlt)⟩
   have hmem:=List.mem_of_getElem? hc
   obtain⟨b,o,rfl,c0,c1⟩:=HX.out i c hc
   replace c0:=HG.out.fr.keep c0
   replace c1:=HG.out.fr.keep c1
   have hemp:c.name.toList.isEmpty=false:=emp_no (HOK.out.ne c hmem)
   obtain⟨l1,l2⟩:=HOK.out.lo c hmem
   have l1':¬ c.lim < 1:=by omega
   have l2':¬ 1000 < c.lim:=by omega
   have hti:(zeroC (cs.take i)).length=i:=by rw[zeroC_length,List.length_take];have:=lt_of_some hc;omega
   have CF:Hid (∀ V,Frm [] wr V→Calls Tryz.prog 123 #[.pointer (some ⟨w.heap.size,0,none⟩),.string c.name] V (Ret (.int .i64 (-1)) (Frm [] V))):=Lib.hid fun V hV=>by
    have hb:Bnk V w.heap.size (zeroC (cs.take i)):=GO.bnk (by rw[hti];exact HG.out.frm hV)
    have:=bFind_any w.heap.size _ c.name V hb (by rw[hti];have:=HN.out;have:=HOK.out.n;omega)
    rwa [zero_find HOK.out hc] at this
   have HSN:=Lib.hid (zeroC_snoc hc)
   have HTI:=Lib.hid hti
   clear hc hmem l1 l2 hti
   obtain⟨i0,hi0,hz0,hz1,hz2⟩:=info_parts Tryz.infoCn
   have HBX:Hid ((wr.alloc (.cells #[.string c.name,.int .i64 c.lim] 182)).heap[wr.heap.size]?=some (.cells #[.string c.name,.int .i64 c.lim] 182 (0,0))):=Lib.hid (heap_alloc_new _ _)
   go_upto_region 9 with (first
    | (go_at_call 123;go_must (refine(CF.out _ ((Frm.refl [] wr).alloc _)).mono ?_;rintro e w2 ⟨rfl,hf2⟩;have HF2:Hid (Frm [] wr w2):=Lib.hid (((Frm.refl [] wr).alloc _).trans hf2);have HB2:=Lib.hid (hf2.at HBX.out (by simp));clear hf2)))
   clear c0 c1 l1' l2' hemp CF HBX
   have HG2:=Lib.hid (HG.out.frm HF2.out)
   obtain⟨ab,cb,hb1,hb2⟩:=HG2.out.bx
   have hb1':w2.heap[w.heap.size]?=some (.cells #[.bool true,.slice ab i cb] 232 (0,0)):=hb1
   have HB1:=Lib.hid hb1;have HO1:=Lib.hid hb2
   have cx:=cell_of hb1' 1
   have fx:=free_of hb1' 1
   have cy0:=cell_of HB2.out 0
   have cy1:=cell_of HB2.out 1
   have lx:=lt_of_block hb1
   have hi4:i < 4:=by have:=HOK.out.n;have:=HN.out;omega
   clear hb1 hb2 hb1'
   generalize hQQ:Exit.inBlock _ _=QQ
   refine wp_mono (Q:=fun e a' w'=>match e with | .normal=>QQ .normal a' w' | _=>False) ?_ (fun e a' w' h=>by cases e <;> first | exact h | exact h.elim)
   go_region_law (first
    | (refine step_append_own_at rfl _ _ 230 rfl w.heap.size 234 i0 (.agg #[.string { data:=#[] },.int .i64 0,.int .i64 0]) 3 32 Tryz.underlying230 hi0 hz0 hz1 hz2 rfl (by decide) (.slice ab i cb) i (cnC (zeroC (cs.take i))) ?_ (((Frm.refl [] w2).drew.alloc _).owns HO1.out (by simp)) ⟨w2.heap.size,0,none⟩ 1 1 [.string c.name,.int .i64 c.lim,.int .i64 0] ?_ rfl (new_row w2.drew _ _) ?_ ?_ ?_ ?_ ?_;(focus (go_simp;done));(focus (go_simp;done));(focus (simp[Value.oneCell'];done));(focus (unfold maxLen;omega));(focus omega);(focus (have:=HG2.out.fr.size;simp;omega));intro v' w6 hown' hgrow;obtain⟨ao6,cp6,rfl⟩:=own_shape hown';have hs:=GO.step HG2.out HB1.out HO1.out (by decide) ((Frm.refl [] w2).drew.alloc _) hgrow hown';have hbx:w6.heap[w.heap.size]?=some (.cells #[.bool true,.slice ab i cb] 232 (0,0)):=GO.facts HB1.out HO1.out (by decide) ((Frm.refl [] w2).drew.alloc _) hgrow;have cx6:=cell_of hbx 1;have fx6:=free_of hbx 1;have HS:=Lib.hid hs.1;clear hs hbx hown' hgrow))
   all_goals
    subst hQQ
    go_wp2
    refine⟨⟨i + 1,congrArg (Value.int .i64) (by omega),hlt,?_⟩,by simp[intOf];omega⟩
    rw[HSN.out,cnC_append]
    exact HS.out
  ·obtain rfl:i=n:=by omega
   have hge:¬ (i:Int) < (i:Int):=by omega
   have ht:cs.take i=cs:=by rw[← HN.out,List.take_length]
   have HT:=Lib.hid ht
   clear ht
   go_wp2
   go_ret2
   refine⟨_,rfl,_,rfl,?_⟩
   have:=HG.out
   rw[HT.out] at this
   rw[zeroC_length,HN.out]
   exact this
end Go.Proofs.YtkphhjekfimmlaaGreat
namespace Go.Proofs.YtkphhjekfimmlaaGreat
open Go.RowKit Go.BigFrame
def Agree (B:Nat) (W V:World):Prop:=∀ k,B≤k→k < W.heap.size→V.heap[k]?=W.heap[k]?
theorem Agree.refl (B:Nat) (W:World):Agree B W W:=fun _ _ _=>rfl
theorem Agree.low {B B':Nat} {W V:World} (h:Agree B W V) (hb:B≤B'):Agree B' W V:=fun k h1 h2=>h k (by omega) h2
theorem Agree.old {F:List Nat} {B:Nat} {W W' V:World} (h:Agree B W' V) (hf:Frm F W W') (hF:∀ x∈F,x < B):Agree B W V:=fun k h1 h2=>by
 have hs:=hf.size
 rw[h k h1 (by omega)]
 exact hf.block k h2 (fun hx=>by have:=hF k hx;omega)
theorem Fr.stb {α:Type} {k:Nat} {e:TypeId} {At:World→Nat→Nat→α→Prop} {w w':World} {xs:List α} {v:Value} (h:Fr k e At w xs v w') (hA:∀ (W V:World) b o x,At W b o x→V.heap[b]?=W.heap[b]?→At V b o x) :
  ∃ ao c,v=.slice ao xs.length c∧∀ (W V:World),Agree w.heap.size w' W→Agree w.heap.size w' V→Arr k At V v xs:=by
 obtain⟨ao,c,rfl⟩:=h.arr.shape
 refine⟨ao,c,rfl,fun _ V _ hV=>?_⟩
 rcases h.own with rfl | ⟨news,ho⟩
 ·exact Arr.nil _ _ _
 ·refine⟨ao,c,rfl,fun i x hx=>?_⟩
  have hn:xs.length≠0:=by have:=lt_of_some hx;omega
  obtain⟨g,cap,cur,e,hg,hc⟩:=own_block ho hn
  cases e
  obtain⟨b,o,e,ha⟩:=h.arr.get hx
  cases e
  exact⟨g,0,rfl,hA _ _ _ _ _ ha (hV g hg (lt_of_block hc))⟩
theorem cell_eq {W V:World} {b o:Nat} {v:Value} (h:W.cell? ⟨b,o,none⟩=some v) (e:V.heap[b]?=W.heap[b]?):V.cell? ⟨b,o,none⟩=some v:=(World.cell?_of_block (w:=W) e).trans h
theorem StAt.leaf (W V:World) (b o:Nat) (x:StD) (h:StAt W b o x) (e:V.heap[b]?=W.heap[b]?):StAt V b o x:=⟨cell_eq h.1 e,cell_eq h.2.1 e,cell_eq h.2.2 e⟩
theorem CtAt.leaf (W V:World) (b o:Nat) (x:CtrD) (h:CtAt W b o x) (e:V.heap[b]?=W.heap[b]?):CtAt V b o x:=⟨cell_eq h.1 e,cell_eq h.2 e⟩
theorem SpAt.leaf (W V:World) (b o:Nat) (x:StpD) (h:SpAt W b o x) (e:V.heap[b]?=W.heap[b]?):SpAt V b o x:=
 ⟨cell_eq h.c0 e,cell_eq h.c1 e,cell_eq h.c2 e,cell_eq h.c3 e,cell_eq h.c4 e,cell_eq h.c5 e,cell_eq h.c6 e,cell_eq h.c7 e,cell_eq h.c8 e⟩
def AgX (B g b:Nat) (W V:World):Prop:=∀ k,B≤k→k≠g→k≠b→k < W.heap.size→V.heap[k]?=W.heap[k]?
theorem AgX.old {B g b:Nat} {W W' V:World} {F:List Nat} (h:AgX B g b W' V) (hf:Frm F W W') (hF:∀ x∈F,x=g∨x=b):AgX B g b W V:=fun k h1 h2 h3 h4=>by
 have hs:=hf.size
 rw[h k h1 h2 h3 (by omega)]
 exact hf.block k h4 (fun hx=>by rcases hF k hx with e | e <;> omega)
def OwR (B g b o:Nat) (r:RolD) (W:World):Prop:=
 ∃ sv cv tv,W.cell? ⟨g,o,none⟩=some (.string r.name)∧W.cell? ⟨g,o + 1,none⟩=some sv∧W.cell? ⟨g,o + 2,none⟩=some cv∧W.cell? ⟨g,o + 3,none⟩=some tv∧∀ V,AgX B g b W V→Rl3 V sv cv tv r
theorem RoAt.of {w:World} {v:Value} {l:List RolD} (h:Rls w v l):Arr 4 (RoAt w) w v l:=by
 obtain⟨ao,cap,e,hx⟩:=h
 refine⟨ao,cap,e,fun i x hi=>?_⟩
 obtain⟨b,o,e2,sv,cv,tv,h1⟩:=hx i x hi
 exact⟨b,o,e2,sv,cv,tv,h1⟩
structure OwI (w:World) (s:SesD) (b1 b2 g cap i:Nat) (W:World):Prop where
 fr:Frm [] w W
 l1:w.heap.size≤b1
 l2:w.heap.size≤b2
 lg:w.heap.size≤g
 n12:b1≠b2
 h1:W.heap[b1]?=some (.cells #[.string s.name,.slice (some ⟨g,0,none⟩) s.roles.length cap,.int .i64 s.cls,.int .i64 s.cap] 25 (0,0))
 h2:W.heap[b2]?=some (.cells #[.string { data:=#[] },.slice none 0 0,.int .i64 0,.int .i64 0] 25 (0,0))
 hg:∃ cur,W.heap[g]?=some (.cells cur 53 (0,0))
 done:∀ (j:Nat) r,j < i→s.roles[j]?=some r→OwR w.heap.size g b2 (j * 4) r W
 rest:∀ (j:Nat) r,i≤j→s.roles[j]?=some r→RoAt w W g (j * 4) r
theorem OwI.ne {w W:World} {s:SesD} {b1 b2 g cap i:Nat} (h:OwI w s b1 b2 g cap i W):b1≠g∧b2≠g:=by
 obtain⟨cur,hg⟩:=h.hg
 refine⟨fun e=>?_,fun e=>?_⟩
 ·subst e;rw[h.h1] at hg;cases hg
 ·subst e;rw[h.h2] at hg;cases hg
structure Cl3 (w0:World) (sv cv tv:Value) (r:RolD) (W:World):Prop where
 frm:Frm [] w0 W
 sts:∀ V,Agree w0.heap.size W V→Arr 3 StAt V sv r.sts
 ctrs:∀ V,Agree w0.heap.size W V→Arr 2 CtAt V cv r.ctrs
 steps:∀ V,Agree w0.heap.size W V→Arr 9 SpAt V tv r.steps
 cap:∀ ao n c,tv=.slice ao n c→n≤c
theorem OwI.step {w W W':World} {s:SesD} {b1 b2 g cap i:Nat} (h:OwI w s b1 b2 g cap i W) {r:RolD} (hr:s.roles[i]?=some r) {sv cv tv:Value} (hc:Cl3 W sv cv tv r W') :
  OwI w s b1 b2 g cap (i + 1) (((W'.setCell ⟨g,i * 4 + 1,none⟩ sv).setCell ⟨g,i * 4 + 2,none⟩ cv).setCell ⟨g,i * 4 + 3,none⟩ tv):=by
 obtain⟨n1,n2⟩:=h.ne
 obtain⟨cur,hg⟩:=h.hg
 have hg':=hc.frm.at hg (by simp)
 have e1:=block_setCell hg' (i * 4 + 1) sv
 have e2:=block_setCell e1 (i * 4 + 2) cv
 have e3:=block_setCell e2 (i * 4 + 3) tv
 have hF:Frm [g] W' (((W'.setCell ⟨g,i * 4 + 1,none⟩ sv).setCell ⟨g,i * 4 + 2,none⟩ cv).setCell ⟨g,i * 4 + 3,none⟩ tv):=(((Frm.refl [g] W').setCell _ (.inl (by simp)) _).setCell _ (.inl (by simp)) _).setCell _ (.inl (by simp)) _
 obtain⟨W2,hW2⟩:∃ W2,(((W'.setCell ⟨g,i * 4 + 1,none⟩ sv).setCell ⟨g,i * 4 + 2,none⟩ cv).setCell ⟨g,i * 4 + 3,none⟩ tv)=W2:=⟨_,rfl⟩
 rw[hW2] at e3 hF ⊢
 have hFW:Frm [g] W W2:=(hc.frm.mono (by simp)).trans hF
 have hsz:w.heap.size≤W.heap.size:=h.fr.size
 have hrr:=h.rest i r (Nat.le_refl _) hr
 obtain⟨sv0,cv0,tv0,q0,q1,q2,q3,-⟩:=hrr
 rw[cell_of hg] at q0 q1 q2 q3
 have hlt:i * 4 + 3 < cur.size:=(Array.getElem?_eq_some_iff.1 q3).1
 have hcell:∀ o,(o≠i * 4 + 1→o≠i * 4 + 2→o≠i * 4 + 3→W2.cell? ⟨g,o,none⟩=W.cell? ⟨g,o,none⟩):=fun o h1 h2 h3=>by
  rw[cell_of e3,cell_of hg,Array.getElem?_setIfInBounds_ne (by omega),Array.getElem?_setIfInBounds_ne (by omega),Array.getElem?_setIfInBounds_ne (by omega)]
 refine⟨h.fr.then hFW (by intro x hx;simp at hx;subst hx;exact .inr h.lg),h.l1,h.l2,h.lg,h.n12,hFW.at h.h1 (by simpa using n1),hFW.at h.h2 (by simpa using n2),⟨_,e3⟩,fun j a hj ha=>?_,fun j a hj ha=>?_⟩
 ·by_cases e:j=i
  ·subst e
   rw[hr] at ha;cases ha
   refine⟨sv,cv,tv,?_,?_,?_,?_,fun V hV=>?_⟩
   ·rw[hcell _ (by omega) (by omega) (by omega),cell_of hg];exact q0
   ·rw[cell_of e3,Array.getElem?_setIfInBounds_ne (by omega),Array.getElem?_setIfInBounds_ne (by omega),Array.getElem?_setIfInBounds_self_of_lt (by omega)]
   ·rw[cell_of e3,Array.getElem?_setIfInBounds_ne (by omega),Array.getElem?_setIfInBounds_self_of_lt (by simp;omega)]
   ·rw[cell_of e3,Array.getElem?_setIfInBounds_self_of_lt (by simp;omega)]
   ·have hgl:=lt_of_block hg
    have hbl:=lt_of_block h.h2
    have hV':Agree W.heap.size W' V:=fun k h1 h2=>(hV.old hF (by simp)) k (by omega) (by omega) (by omega) h2
    exact⟨hc.sts V hV',hc.ctrs V hV',hc.steps V hV',hc.cap⟩
  ·obtain⟨sv1,cv1,tv1,p0,p1,p2,p3,p4⟩:=h.done j a (by omega) ha
   refine⟨sv1,cv1,tv1,?_,?_,?_,?_,fun V hV=>?_⟩
   ·rw[hcell _ (by omega) (by omega) (by omega)];exact p0
   ·rw[hcell _ (by omega) (by omega) (by omega)];exact p1
   ·rw[hcell _ (by omega) (by omega) (by omega)];exact p2
   ·rw[hcell _ (by omega) (by omega) (by omega)];exact p3
   ·exact p4 V (hV.old hFW (by simp))
 ·obtain⟨sv1,cv1,tv1,p0,p1,p2,p3,p4⟩:=h.rest j a (by omega) ha
  refine⟨sv1,cv1,tv1,?_,?_,?_,?_,p4⟩
  ·rw[hcell _ (by omega) (by omega) (by omega)];exact p0
  ·rw[hcell _ (by omega) (by omega) (by omega)];exact p1
  ·rw[hcell _ (by omega) (by omega) (by omega)];exact p2
  ·rw[hcell _ (by omega) (by omega) (by omega)];exact p3
theorem results_c1 {fn:Func} {p:Tmp} {ty:TypeId} (h:fn.results=#[.cell p ty]) {tmps:Array Value} {w:World} {g:Nat} {A:Array Value} {t:TypeId} {d:TypeDesc} (hp:tmps.getD p undef=.pointer (some ⟨g,0,none⟩)) (hg:w.heap[g]?=some (.cells A t (0,0)))
  (hd:(match d with | .struct _ | .array _ _=>true | _=>false)=true) (hu:Tryz.prog.underlying ty=some d) (hi:(Tryz.prog.info? ty).map (·.size)=some A.size):(results fn tmps).run Tryz.prog w=.ok (.agg A) w:=by
 have hp':tmps[p]?.getD undef=.pointer (some ⟨g,0,none⟩):=by simpa using hp
 have hr:=run_loadVar_row w g t ty A (0,0) d hg hu (by cases d <;> first | rfl | (exact hd) | (cases hd)) hi
 simp[results,h,hp',asAddr,hr]
structure OwTo (w:World) (s:SesD) (v:Value) (w':World):Prop where
 shape:∃ g cap,v=.agg #[.string s.name,.slice (some ⟨g,0,none⟩) s.roles.length cap,.int .i64 s.cls,.int .i64 s.cap]
 frm:Frm [] w w'
 ses:∀ V,Agree w.heap.size w' V→SesV V v s
theorem OwI.frm {w W W':World} {s:SesD} {b1 b2 g cap i:Nat} (h:OwI w s b1 b2 g cap i W) (hf:Frm [] W W'):OwI w s b1 b2 g cap i W':=by
 obtain⟨cur,hg⟩:=h.hg
 refine⟨h.fr.trans hf,h.l1,h.l2,h.lg,h.n12,hf.at h.h1 (by simp),hf.at h.h2 (by simp),⟨cur,hf.at hg (by simp)⟩,fun j r hj hr=>?_,fun j r hj hr=>?_⟩
 ·obtain⟨sv1,cv1,tv1,p0,p1,p2,p3,p4⟩:=h.done j r hj hr
  exact⟨sv1,cv1,tv1,hf.keep p0,hf.keep p1,hf.keep p2,hf.keep p3,fun V hV=>p4 V (hV.old hf (by simp))⟩
 ·obtain⟨sv1,cv1,tv1,p0,p1,p2,p3,p4⟩:=h.rest j r hj hr
  exact⟨sv1,cv1,tv1,hf.keep p0,hf.keep p1,hf.keep p2,hf.keep p3,p4⟩
theorem OwI.ses {w W w2 V:World} {s:SesD} {b1 b2 g cap:Nat} (h:OwI w s b1 b2 g cap s.roles.length W) (hf:Frm [b2] W w2) (hV:Agree w.heap.size w2 V):SesV V (.agg #[.string s.name,.slice (some ⟨g,0,none⟩) s.roles.length cap,.int .i64 s.cls,.int .i64 s.cap]) s:=by
 refine⟨_,rfl,_,cap,rfl,fun i r hr=>⟨g,0,rfl,?_⟩⟩
 obtain⟨cur,hg⟩:=h.hg
 have hs:=hf.size
 have hgl:=lt_of_block hg
 have e:V.heap[g]?=W.heap[g]?:=(hV g h.lg (by omega)).trans (hf.block g hgl (by simpa using h.ne.2.symm))
 obtain⟨sv1,cv1,tv1,p0,p1,p2,p3,p4⟩:=h.done i r (lt_of_some hr) hr
 rw[Nat.zero_add]
 exact⟨sv1,cv1,tv1,cell_eq p0 e,cell_eq p1 e,cell_eq p2 e,cell_eq p3 e,p4 V fun k h1 _ h3 h4=>(hV k h1 (by omega)).trans (hf.block k h4 (by simpa using h3))⟩
theorem Fr.cap {α:Type} {k:Nat} {e:TypeId} {At:World→Nat→Nat→α→Prop} {w w':World} {xs:List α} {v:Value} (h:Fr k e At w xs v w'):∀ ao n c,v=.slice ao n c→n≤c:=by
 rintro ao n c rfl
 rcases h.own with rfl | ⟨news,ho⟩
 ·obtain⟨a,c',e⟩:=h.arr.shape
  cases e;exact Nat.zero_le _
 ·rcases ho.2 with ⟨hv,hn⟩ | ⟨g,c',cur,hv,-,-,h1,-⟩
  ·cases hv;omega
  ·cases hv;exact h1
theorem OwI.start {w w0 w1:World} {s:SesD} {b1 b2 c0:Nat} {ao:Option Addr} {v:Value} (hf:Frm [] w w0) (h1:w0.heap[b1]?=some (.cells #[.string s.name,.slice ao s.roles.length c0,.int .i64 s.cls,.int .i64 s.cap] 25 (0,0)))
  (h2:w0.heap[b2]?=some (.cells #[.string { data:=#[] },.slice none 0 0,.int .i64 0,.int .i64 0] 25 (0,0))) (l1:w.heap.size≤b1) (l2:w.heap.size≤b2) (hne:b1≠b2) (hr:Fr 4 53 (RoAt w) w0 s.roles v w1) (hn:1≤s.roles.length) :
  ∃ g cap,v=.slice (some ⟨g,0,none⟩) s.roles.length cap∧OwI w s b1 b2 g cap 0 (w1.setCell ⟨b1,1,none⟩ v):=by
 rcases hr.own with e | ⟨news,ho⟩
 ·rw[e] at hn;simp at hn
 obtain⟨g,cap,cur,rfl,hg,hc⟩:=own_block ho (by omega)
 have g1:=hr.frm.at h1 (by simp)
 have g2:=hr.frm.at h2 (by simp)
 have hs:=hf.size
 have n1:g≠b1:=fun e=>by have:=lt_of_block h1;omega
 have hF:Frm [b1] w1 (w1.setCell ⟨b1,1,none⟩ (.slice (some ⟨g,0,none⟩) s.roles.length cap)):=(Frm.refl _ _).setCell _ (.inl (by simp)) _
 refine⟨g,cap,rfl,(hf.trans hr.frm).then hF (by intro x hx;simp at hx;subst hx;exact .inr l1),l1,l2,by omega,hne,(block_setCell g1 1 _).trans rfl,hF.at g2 (by simpa using hne.symm),⟨cur,hF.at hc (by simpa using n1)⟩,fun j r hj=>by omega,fun j r _ hj=>?_⟩
 obtain⟨b,o,e,a0⟩:=hr.arr.get hj
 cases e
 obtain⟨sv,cv,tv,p0,p1,p2,p3,p4⟩:=a0
 rw[Nat.zero_add] at p0 p1 p2 p3
 have hng:g∉[b1]:=by simpa using n1
 exact⟨sv,cv,tv,hF.cellAt p0 hng,hF.cellAt p1 hng,hF.cellAt p2 hng,hF.cellAt p3 hng,p4⟩
set_option maxHeartbeats 4000000 in
set_option maxRecDepth 100000 in
theorem pOwn_any (s:SesD) (v:Value) (w:World) (h:SesV w v s) (h1:1≤s.roles.length) (h4:s.roles.length≤4) (hb:∀ r∈s.roles,r.sts.length≤1000∧r.ctrs.length≤1000∧r.steps.length≤1000):Calls Tryz.prog 60 #[v] w (RetV (OwTo w s)):=by
 obtain⟨rv,rfl,hr⟩:=h
 obtain⟨ao,cap,rfl⟩:=hr.shape
 obtain⟨n,hn⟩:∃ n,s.roles.length=n:=⟨_,rfl⟩
 have HR:=Lib.hid hr
 have HF0:Hid (Frm [] w ((w.alloc (.cells #[.string s.name,.slice ao n cap,.int .i64 s.cls,.int .i64 s.cap] 25)).alloc (.cells #[.string { data:=#[] },.slice none 0 0,.int .i64 0,.int .i64 0] 25))):=Lib.hid (((Frm.refl [] w).alloc _).alloc _)
 have CR:=Lib.hid (clRoleAt_any w (.slice ao s.roles.length cap) s.roles _ ((RoAt.of hr).frm fun _ _ _ h=>h.frm HF0.out) (by omega))
 have HB:=Lib.hid hb
 rw[hn] at CR HR
 rw[hn] at h1 h4
 have HN:=Lib.hid hn
 have B1:Hid (((w.alloc (.cells #[.string s.name,.slice ao n cap,.int .i64 s.cls,.int .i64 s.cap] 25)).alloc (.cells #[.string { data:=#[] },.slice none 0 0,.int .i64 0,.int .i64 0] 25)).heap[w.heap.size]?=some (.cells #[.string s.name,.slice ao n cap,.int .i64 s.cls,.int .i64 s.cap] 25 (0,0))):=Lib.hid (alloc_at (heap_alloc_new _ _))
 have B2:Hid (((w.alloc (.cells #[.string s.name,.slice ao n cap,.int .i64 s.cls,.int .i64 s.cap] 25)).alloc (.cells #[.string { data:=#[] },.slice none 0 0,.int .i64 0,.int .i64 0] 25)).heap[w.heap.size + 1]?=some (.cells #[.string { data:=#[] },.slice none 0 0,.int .i64 0,.int .i64 0] 25 (0,0))):=Lib.hid (alloc_top (by simp))
 rw[hn]
 clear hr hn hb
 go_enter Tryz.func60,Tryz.ntmps60
 go_wp2_with (first
  | (go_at_call 119;go_must (refine CR.out.mono ?_;rintro e w1 ⟨u,rfl,hr⟩;have hi:=OwI.start (b1:=w.heap.size) (b2:=w.heap.size + 1) (c0:=cap) (ao:=ao) HF0.out (by rw[HN.out];exact B1.out) B2.out (Nat.le_refl _) (by omega) (by omega) hr (by rw[HN.out];exact h1);rw[HN.out] at hi;obtain⟨g,c1,rfl,hoi⟩:=hi;have HI:=Lib.hid hoi;have b1:=hr.frm.at B1.out (by simp);have d1:=cell_of b1 1;have f1:=free_of b1 1;have e1:=cell_of hoi.h1 1;rw[HN.out] at e1;clear hr b1 hoi)))
 go_loopw [12] (fun s12 wr=>∃ i:Nat,s12=.int .i64 i∧i≤n∧OwI w s w.heap.size (w.heap.size + 1) g c1 i wr) (fun s12 _=>n - (intOf s12).toNat)
 case atStart=>exact⟨0,rfl,Nat.zero_le _,HI.out⟩
 case round =>
  obtain⟨i,rfl,hi,ho⟩:=hrel
  have HO:=Lib.hid ho
  clear ho d1 f1 e1
  by_cases hlt:i < n
  ·have hlt':(i:Int) < (n:Int):=by omega
   obtain⟨r,hr⟩:∃ r,s.roles[i]?=some r:=⟨_,List.getElem?_eq_getElem (by rw[HN.out];exact hlt)⟩
   obtain⟨sv,cv,tv,p0,p1,p2,p3,p4⟩:=HO.out.rest i r (Nat.le_refl _) hr
   have HRR:=Lib.hid hr;have HP:=Lib.hid p4
   have c1':=cell_of HO.out.h1 1
   rw[HN.out] at c1'
   have hgl:=cell_lt p0
   have hbr:=HB.out r (List.mem_of_getElem? hr)
   obtain⟨aS,cS,rfl⟩:=p4.sts.shape
   obtain⟨aC,cC,rfl⟩:=p4.ctrs.shape
   obtain⟨aT,cT,rfl⟩:=p4.steps.shape
   have CS:Hid (∀ V,Frm [] w V→Calls Tryz.prog 120 #[.slice aS r.sts.length cS] V (RetV (Fr 3 62 StAt V r.sts))):=Lib.hid fun V hV=>clState_any _ r.sts V ((p4.frm hV).sts) (by omega)
   have CC:Hid (∀ V,Frm [] w V→Calls Tryz.prog 121 #[.slice aC r.ctrs.length cC] V (RetV (Fr 2 182 CtAt V r.ctrs))):=Lib.hid fun V hV=>clCtr_any _ r.ctrs V ((p4.frm hV).ctrs) (by omega)
   have CT:Hid (∀ V,Frm [] w V→Calls Tryz.prog 122 #[.slice aT r.steps.length cT] V (RetV (Fr 9 60 SpAt V r.steps))):=Lib.hid fun V hV=>clStep_any _ r.steps V ((p4.frm hV).steps) (by omega)
   clear hr p4 hbr
   obtain⟨nS,hnS⟩:∃ m,r.sts.length=m:=⟨_,rfl⟩
   obtain⟨nC,hnC⟩:∃ m,r.ctrs.length=m:=⟨_,rfl⟩
   obtain⟨nT,hnT⟩:∃ m,r.steps.length=m:=⟨_,rfl⟩
   have HLS:=Lib.hid hnS;have HLC:=Lib.hid hnC;have HLT:=Lib.hid hnT
   rw[hnS] at CS p1
   rw[hnC] at CC p2
   rw[hnT] at CT p3
   clear hnS hnC hnT
   go_upto_region 5 with fail
   obtain⟨W4,hW4⟩:∃ W4,wr.alloc (.cells #[.string r.name,.slice aS nS cS,.slice aC nC cC,.slice aT nT cT] 53)=W4:=⟨_,rfl⟩
   have hf4:Frm [] wr W4:=by rw[← hW4];exact(Frm.refl _ _).alloc _
   have hq4:W4.heap[wr.heap.size]?=some (.cells #[.string r.name,.slice aS nS cS,.slice aC nC cC,.slice aT nT cT] 53 (0,0)):=by rw[← hW4];exact heap_alloc_new _ _
   rw[hW4]
   have HF4:=Lib.hid hf4
   have HO4:=Lib.hid (HO.out.frm hf4)
   have HS:Hid (∀ V,Frm [g] W4 V→V.cell? ⟨w.heap.size,1,none⟩=some (.slice (some ⟨g,0,none⟩) n c1)∧V.cell? ⟨wr.heap.size,1,none⟩=some (.slice aS nS cS)∧V.cell? ⟨wr.heap.size,2,none⟩=some (.slice aC nC cC)∧V.cell? ⟨wr.heap.size,3,none⟩=some (.slice aT nT cT)):=Lib.hid fun V hV=>by
    have n1:=HO4.out.ne.1
    have h1:=hV.at HO4.out.h1 (by simpa using n1)
    rw[HN.out] at h1
    have h2:=hV.at hq4 (by simp;omega)
    exact⟨cell_of h1 1,cell_of h2 1,cell_of h2 2,cell_of h2 3⟩
   clear hf4 hq4 hW4 p0 p1 p2 p3 c1'
   go_region_held3 (fun V=>V.cell? ⟨w.heap.size,1,none⟩=some (.slice (some ⟨g,0,none⟩) n c1)∧V.cell? ⟨wr.heap.size,1,none⟩=some (.slice aS nS cS)∧V.cell? ⟨wr.heap.size,2,none⟩=some (.slice aC nC cC)∧V.cell? ⟨wr.heap.size,3,none⟩=some (.slice aT nT cT))
    (first
     | exact HS.out _ ((Frm.refl [g] W4).drew)
     | exact HS.out _ F5.out
     | exact HS.out _ F6.out
     | exact HS.out _ F7.out
     | exact HS.out _ (F7.out.setCell _ (.inl (by simp)) _)
     | exact HS.out _ ((F7.out.setCell _ (.inl (by simp)) _).setCell _ (.inl (by simp)) _)
     | exact HS.out _ (((F7.out.setCell _ (.inl (by simp)) _).setCell _ (.inl (by simp)) _).setCell _ (.inl (by simp)) _))
    (first
     | (go_at_call 120;go_must (refine(CS.out _ (HO4.out.fr.drew)).mono ?_;rintro e w5 ⟨u,rfl,hr⟩;have F5:Hid (Frm [g] W4 w5):=Lib.hid (((Frm.refl [g] W4).drew).trans (hr.frm.mono (by simp)));have G5:Hid (Frm [] w w5):=Lib.hid (HO4.out.fr.drew.trans hr.frm);have K5:Hid (Frm [] W4 w5):=Lib.hid ((Frm.refl [] W4).drew.trans hr.frm);have hst:=hr.stb StAt.leaf;rw[HLS.out] at hst;obtain⟨a5,k5,rfl,hst⟩:=hst;have HT5:=Lib.hid hst;clear hst hr))
     | (go_at_call 121;go_must (refine(CC.out _ G5.out).mono ?_;rintro e w6 ⟨u,rfl,hr⟩;have F6:Hid (Frm [g] W4 w6):=Lib.hid (F5.out.trans (hr.frm.mono (by simp)));have G6:Hid (Frm [] w w6):=Lib.hid (G5.out.trans hr.frm);have E6:=Lib.hid hr.frm;have K6:Hid (Frm [] W4 w6):=Lib.hid (K5.out.trans hr.frm);have hst:=hr.stb CtAt.leaf;rw[HLC.out] at hst;obtain⟨a6,k6,rfl,hst⟩:=hst;have HT6:=Lib.hid hst;clear hst hr))
     | (go_at_call 122;go_must (refine(CT.out _ G6.out).mono ?_;rintro e w7 ⟨u,rfl,hr⟩;have F7:Hid (Frm [g] W4 w7):=Lib.hid (F6.out.trans (hr.frm.mono (by simp)));have E7:=Lib.hid hr.frm;have K7:Hid (Frm [] W4 w7):=Lib.hid (K6.out.trans hr.frm);have h7:=HO4.out.frm K7.out;obtain⟨v1,v2,v3,-,z1,z2,z3,-⟩:=h7.rest i r (Nat.le_refl _) HRR.out;obtain⟨cur,hgc⟩:=h7.hg;have y1:=free_of hgc (i * 4 + 1);have y2:=free_of hgc (i * 4 + 2);have y3:=free_of hgc (i * 4 + 3);clear hgc h7;have hcp:=hr.cap;have HCP:=Lib.hid hcp;clear hcp;have hst:=hr.stb SpAt.leaf;rw[HLT.out] at hst;obtain⟨a7,k7,rfl,hst⟩:=hst;have HT7:=Lib.hid hst;clear hst hr)))
   have HC3:Hid (Cl3 W4 (.slice a5 nS k5) (.slice a6 nC k6) (.slice a7 nT k7) r w7):=Lib.hid (by
    have s5:=K5.out.size;have s6:=K6.out.size;have e6:=E6.out.size
    have e56:=E6.out.trans E7.out
    refine⟨K7.out,fun V hV=>?_,fun V hV=>?_,fun V hV=>?_,HCP.out⟩
    ·have:=HT5.out V V (hV.old e56 (by simp)) (hV.old e56 (by simp))
     rw[← HLS.out] at this ⊢;exact this
    ·have h8:=(hV.old E7.out (by simp)).low s5
     have:=HT6.out V V h8 h8
     rw[← HLC.out] at this ⊢;exact this
    ·have h8:=hV.low s6
     have:=HT7.out V V h8 h8
     rw[← HLT.out] at this ⊢;exact this)
   go_wp2
   exact⟨⟨i + 1,congrArg (Value.int .i64) (by omega),hlt,HO4.out.step HRR.out HC3.out⟩,by simp[intOf];omega⟩
  ·obtain rfl:i=n:=by omega
   have hge:¬ (i:Int) < (i:Int):=by omega
   have hc1:=HO.out.h1
   rw[HN.out] at hc1
   have HC2:=Lib.hid HO.out.h2
   have x0:=cell_of hc1 0
   have x1:=cell_of hc1 1
   have x2:=cell_of hc1 2
   have x3:=cell_of hc1 3
   clear hc1
   go_wp2_with (first
    | (refine wpList_store_row rfl 25 _ _ rfl _ _ _ 25 rfl rfl HC2.out rfl (by kernel_rfl) (by simp[Value.oneCell']) ?_;intro w2 hb2 hf2))
   refine bodyPost_ret (results_c1 (d:=_) (Tryz.results60) rfl hb2 rfl Tryz.underlying25 (by kernel_rfl)) rfl ⟨_,rfl,?_⟩
   have hoi:=HO.out
   rw[← HN.out] at hoi
   exact⟨⟨g,c1,by rw[HN.out]⟩,hoi.fr.then hf2 (by intro x hx;simp at hx;subst hx;right;omega),fun V hV=>by have:=hoi.ses hf2 hV;rwa [HN.out] at this⟩
end Go.Proofs.YtkphhjekfimmlaaGreat
namespace Go.Proofs.YtkphhjekfimmlaaGreat
open Go.RowKit Go.BigFrame
def Kp (I:Nat→Prop) (T:List TypeId) (W V:World):Prop:=∀ k c t,I k→W.heap[k]?=some (.cells c t (0,0))→t∉T→V.heap[k]?=some (.cells c t (0,0))
section
variable {I J:Nat→Prop} {T:List TypeId} {W V:World}
theorem Kp.of_kt (h:Kt T W V):Kp I T W V:=fun _ _ _ _ hk ht=>h.cells hk ht
theorem Kp.of_agree {B:Nat} (h:Agree B W V) (hI:∀ k,I k→B≤k):Kp I [] W V:=fun k _ _ hi hk _=>(h k (hI k hi) (lt_of_block hk)).trans hk
theorem Kp.of_frm {F:List Nat} (h:Frm F W V) (hI:∀ k,I k→k∉F):Kp I [] W V:=fun k _ _ hi hk _=>h.at hk (hI k hi)
theorem Kp.of_frm0 (h:Frm [] W V):Kp I [] W V:=Kp.of_frm h (by simp)
theorem Kp.row {base e size n:Nat} {v:Value} {xs:List Value} (h:Kp I T W V) (ho:W.ownsRow base e size v n xs) (hi:∀ k,v.ownBlock=some k→I k) (he:e∉T):V.ownsRow base e size v n xs:=by
 obtain⟨h1,h2⟩:=ho
 refine⟨h1,?_⟩
 rcases h2 with h2 | ⟨g,cap,cur,hv,hg,hh,r⟩
 ·exact .inl h2
 ·exact .inr ⟨g,cap,cur,hv,hg,h g _ _ (hi g (by rw[hv];rfl)) hh he,r⟩
def ChO (I:Nat→Prop) (W:World) (cb:Nat) (cls cap:Int) (L:List ByteArray):Prop:=∃ F,Chn W cb cls cap L F∧∀ x∈F,I x
theorem ChO.kp {cb:Nat} {cls cap:Int} {L:List ByteArray} (h:ChO I W cb cls cap L) (hk:Kp I T W V) (h1:229∉T) (h2:9∉T):ChO I V cb cls cap L:=by
 obtain⟨F,⟨sv,g1,g2,g3,rfl⟩,hI⟩:=h
 exact⟨_,⟨sv,hk cb _ _ (hI cb (by simp)) g1 h1,hk.row g2 (fun k hk=>hI k (by simp[hk])) h2,g3,rfl⟩,hI⟩
abbrev pv (cb:Nat):Value:=.pointer (some ⟨cb,0,none⟩)
def RowC (I:Nat→Prop) (W:World) (cls cap:Int) (cells:List Value) (Ls:List (List ByteArray)):Prop:=cells.length=Ls.length∧∀ (k:Nat) L,Ls[k]?=some L→∃ cb,cells[k]?=some (pv cb)∧ChO I W cb cls cap L
def RowO (I:Nat→Prop) (W:World) (cls cap:Int) (r:Value) (Ls:List (List ByteArray)):Prop:=∃ base cells,W.ownsRow base 138 1 r Ls.length cells∧(∀ k,r.ownBlock=some k→I k)∧RowC I W cls cap cells Ls
theorem RowC.kp {cls cap:Int} {cells:List Value} {Ls:List (List ByteArray)} (h:RowC I W cls cap cells Ls) (hk:Kp I T W V) (h1:229∉T) (h2:9∉T):RowC I V cls cap cells Ls:=by
 refine⟨h.1,fun k L hL=>?_⟩
 obtain⟨cb,g1,g2⟩:=h.2 k L hL
 exact⟨cb,g1,g2.kp hk h1 h2⟩
theorem snoc_at {α:Type} {l:List α} {x y:α} {k:Nat} (h:(l ++ [x])[k]?=some y):l[k]?=some y∨(k=l.length∧y=x):=by
 by_cases hk:k < l.length
 ·rw[List.getElem?_append_left hk] at h;exact .inl h
 ·rw[List.getElem?_append_right (by omega)] at h
  have hl:=lt_of_some h
  simp at hl
  have e:k - l.length=0:=by omega
  rw[e] at h
  simp at h
  exact .inr ⟨by omega,h.symm⟩
theorem RowC.snoc {cls cap:Int} {cells:List Value} {Ls:List (List ByteArray)} {cb:Nat} {L:List ByteArray} (h:RowC I W cls cap cells Ls) (hc:ChO I W cb cls cap L):RowC I W cls cap (cells ++ [pv cb]) (Ls ++ [L]):=by
 refine⟨by simp[h.1],fun k L' hL=>?_⟩
 rcases snoc_at hL with hL | ⟨rfl,rfl⟩
 ·obtain⟨cb',g1,g2⟩:=h.2 k L' hL
  exact⟨cb',by rw[List.getElem?_append_left (lt_of_some g1)];exact g1,g2⟩
 ·exact⟨cb,by rw[← h.1];simp,hc⟩
theorem RowC.nil {cls cap:Int}:RowC I W cls cap [] []:=⟨rfl,fun k L h=>by simp at h⟩
theorem RowO.kp {cls cap:Int} {r:Value} {Ls:List (List ByteArray)} (h:RowO I W cls cap r Ls) (hk:Kp I T W V) (h1:229∉T) (h2:9∉T) (h3:138∉T):RowO I V cls cap r Ls:=by
 obtain⟨base,cells,g1,g2,g3⟩:=h
 exact⟨base,cells,hk.row g1 g2 h3,g2,g3.kp hk h1 h2⟩
theorem own_cell {base e n:Nat} {v:Value} {xs:List Value} {size:Nat} (h:W.ownsRow base e size v n xs) {j:Nat} {u:Value} (hu:xs[j]?=some u):∃ g cap,v=.slice (some ⟨g,0,none⟩) n cap∧W.cell? ⟨g,j,none⟩=some u:=by
 obtain⟨h0,h2⟩:=h
 have hl:=lt_of_some hu
 rcases h2 with ⟨-,h2⟩ | ⟨g,cap,cur,rfl,hg,hh,-,-,-,ht⟩
 ·rw[h0,h2] at hl;omega
 ·refine⟨g,cap,rfl,?_⟩
  rw[cell_of hh,← Array.getElem?_toList]
  rw[← List.getElem?_take_of_lt (j:=n * size) (by rw[← h0];exact hl),ht]
  exact hu
theorem RowO.rowV {cls cap:Int} {r:Value} {Ls:List (List ByteArray)} (h:RowO I W cls cap r Ls):RowV cls cap W r Ls:=by
 obtain⟨base,cells,g1,g2,g3⟩:=h
 obtain⟨ao,cp,rfl⟩:=own_shape g1
 refine⟨ao,cp,rfl,fun k L hL=>?_⟩
 obtain⟨cb,k1,F,k2,-⟩:=g3.2 k L hL
 obtain⟨g,c,e,hc⟩:=own_cell g1 k1
 cases e
 exact⟨g,0,rfl,cb,F,by rw[Nat.zero_add,Nat.mul_one];exact hc,k2⟩
def WayC (I:Nat→Prop) (W:World) (cls cap:Int) (cells:List Value) (Ws:List (List (List ByteArray))):Prop:=cells.length=Ws.length∧∀ (k:Nat) R,Ws[k]?=some R→∃ r,cells[k]?=some r∧RowO I W cls cap r R
def WaysO (I:Nat→Prop) (W:World) (cls cap:Int) (v:Value) (Ws:List (List (List ByteArray))):Prop:=∃ base cells,W.ownsRow base 137 1 v Ws.length cells∧(∀ k,v.ownBlock=some k→I k)∧WayC I W cls cap cells Ws
theorem WayC.kp {cls cap:Int} {cells:List Value} {Ws:List (List (List ByteArray))} (h:WayC I W cls cap cells Ws) (hk:Kp I T W V) (h1:229∉T) (h2:9∉T) (h3:138∉T):WayC I V cls cap cells Ws:=by
 refine⟨h.1,fun k L hL=>?_⟩
 obtain⟨cb,g1,g2⟩:=h.2 k L hL
 exact⟨cb,g1,g2.kp hk h1 h2 h3⟩
theorem WayC.snoc {cls cap:Int} {cells:List Value} {Ws:List (List (List ByteArray))} {r:Value} {R:List (List ByteArray)} (h:WayC I W cls cap cells Ws) (hc:RowO I W cls cap r R):WayC I W cls cap (cells ++ [r]) (Ws ++ [R]):=by
 refine⟨by simp[h.1],fun k L' hL=>?_⟩
 rcases snoc_at hL with hL | ⟨rfl,rfl⟩
 ·obtain⟨cb',g1,g2⟩:=h.2 k L' hL
  exact⟨cb',by rw[List.getElem?_append_left (lt_of_some g1)];exact g1,g2⟩
 ·exact⟨r,by rw[← h.1];simp,hc⟩
theorem WayC.nil {cls cap:Int}:WayC I W cls cap [] []:=⟨rfl,fun k L h=>by simp at h⟩
theorem WaysO.kp {cls cap:Int} {r:Value} {Ls:List (List (List ByteArray))} (h:WaysO I W cls cap r Ls) (hk:Kp I T W V) (h1:229∉T) (h2:9∉T) (h3:138∉T) (h4:137∉T):WaysO I V cls cap r Ls:=by
 obtain⟨base,cells,g1,g2,g3⟩:=h
 exact⟨base,cells,hk.row g1 g2 h4,g2,g3.kp hk h1 h2 h3⟩
theorem WaysO.arr {cls cap:Int} {v:Value} {Ws:List (List (List ByteArray))} (h:WaysO I W cls cap v Ws):Arr 1 (RwAt cls cap) W v Ws:=by
 obtain⟨base,cells,g1,g2,g3⟩:=h
 obtain⟨ao,cp,rfl⟩:=own_shape g1
 refine⟨ao,cp,rfl,fun k L hL=>?_⟩
 obtain⟨r,k1,k2⟩:=g3.2 k L hL
 obtain⟨g,c,e,hc⟩:=own_cell g1 k1
 cases e
 exact⟨g,0,rfl,r,by rw[Nat.zero_add,Nat.mul_one];exact hc,k2.rowV⟩
def BkO (I:Nat→Prop) (W:World) (bb:Nat) (l:List (CtrD × Int)):Prop:=∃ g,BnkO W bb g l∧I bb∧I g
theorem BnkO.kp {bb g:Nat} {l:List (CtrD × Int)} (h:BnkO W bb g l) (hk:Kp I T W V) (i1:I bb) (i2:I g) (h1:232∉T) (h2:234∉T):BnkO V bb g l:=by
 obtain⟨⟨lv,k1,k2⟩,h3⟩:=h
 rcases h3 with rfl | ⟨cap,cur,k3,k4⟩
 ·obtain⟨ao,c,rfl,-⟩:=k2
  exact⟨⟨_,hk _ _ _ i1 k1 h1,Arr.nil _ _ _⟩,.inl rfl⟩
 ·rw[k1] at k3
  cases k3
  have k5:=hk _ _ _ i2 k4 h2
  have e5:V.heap[g]?=W.heap[g]?:=by rw[k4,k5]
  refine⟨⟨_,hk _ _ _ i1 k1 h1,?_⟩,.inr ⟨cap,cur,hk _ _ _ i1 k1 h1,k5⟩⟩
  obtain⟨ao,c,e,hx⟩:=k2
  refine⟨ao,c,e,fun i x hi=>?_⟩
  obtain⟨b,o,e2,a0,a1,a2⟩:=hx i x hi
  rw[e2] at e
  cases e
  exact⟨g,0,e2,cell_eq a0 e5,cell_eq a1 e5,cell_eq a2 e5⟩
theorem BkO.kp {bb:Nat} {l:List (CtrD × Int)} (h:BkO I W bb l) (hk:Kp I T W V) (h1:232∉T) (h2:234∉T):BkO I V bb l:=by
 obtain⟨g,g1,g2,g3⟩:=h
 exact⟨g,g1.kp hk g2 g3 h1 h2,g2,g3⟩
theorem BkO.bnk {bb:Nat} {l:List (CtrD × Int)} (h:BkO I W bb l):Bnk W bb l:=by
 obtain⟨g,g1,g2,g3⟩:=h
 exact g1.bnk
theorem GO.bko {w:World} {bb:Nat} {l:List (CtrD × Int)} (h:GO 232 234 3 w bb 1 #[.bool true,undef] l.length (cnC l) W) (hI:∀ k,w.heap.size≤k→I k):BkO I W bb l:=by
 have hb:=GO.bnk h
 obtain⟨ao,cap,h1,h2⟩:=h.bx
 by_cases hl:l=[]
 ·exact⟨bb,⟨hb,.inl hl⟩,hI _ h.new,hI _ h.new⟩
 ·obtain⟨g,cp,cur,e,hg,hh⟩:=own_block h2 (by simpa using hl)
  cases e
  exact⟨g,⟨hb,.inr ⟨_,cur,h1,hh⟩⟩,hI _ h.new,hI _ hg⟩
def ActC (I:Nat→Prop) (W:World) (cells:List Value) (As:List (Int × List (CtrD × Int))):Prop:=cells.length=As.length * 2∧∀ (i:Nat) a,As[i]?=some a→∃ bb,cells[i * 2]?=some (.int .i64 a.1)∧cells[i * 2 + 1]?=some (pv bb)∧BkO I W bb a.2
def ActsO (I:Nat→Prop) (W:World) (v:Value) (As:List (Int × List (CtrD × Int))):Prop:=∃ base cells,W.ownsRow base 145 2 v As.length cells∧(∀ k,v.ownBlock=some k→I k)∧ActC I W cells As
theorem ActC.kp {cells:List Value} {As:List (Int × List (CtrD × Int))} (h:ActC I W cells As) (hk:Kp I T W V) (h1:232∉T) (h2:234∉T):ActC I V cells As:=by
 refine⟨h.1,fun i a ha=>?_⟩
 obtain⟨bb,g1,g2,g3⟩:=h.2 i a ha
 exact⟨bb,g1,g2,g3.kp hk h1 h2⟩
theorem ActC.snoc {cells:List Value} {As:List (Int × List (CtrD × Int))} {p:Int} {bb:Nat} {l:List (CtrD × Int)} (h:ActC I W cells As) (hb:BkO I W bb l):ActC I W (cells ++ [.int .i64 p,pv bb]) (As ++ [(p,l)]):=by
 refine⟨by simp[h.1];omega,fun i a ha=>?_⟩
 rcases snoc_at ha with ha | ⟨rfl,rfl⟩
 ·obtain⟨bb',g1,g2,g3⟩:=h.2 i a ha
  exact⟨bb',by rw[List.getElem?_append_left (lt_of_some g1)];exact g1,by rw[List.getElem?_append_left (lt_of_some g2)];exact g2,g3⟩
 ·refine⟨bb,?_,?_,hb⟩
  ·rw[List.getElem?_append_right (by rw[h.1];omega),h.1];simp
  ·rw[List.getElem?_append_right (by rw[h.1];omega),h.1,show As.length * 2 + 1 - As.length * 2=1 by omega];simp
theorem ActC.nil:ActC I W [] []:=⟨rfl,fun k L h=>by simp at h⟩
theorem ActsO.kp {v:Value} {As:List (Int × List (CtrD × Int))} (h:ActsO I W v As) (hk:Kp I T W V) (h1:232∉T) (h2:234∉T) (h3:145∉T):ActsO I V v As:=by
 obtain⟨base,cells,g1,g2,g3⟩:=h
 exact⟨base,cells,hk.row g1 g2 h3,g2,g3.kp hk h1 h2⟩
theorem ActsO.arr {v:Value} {As:List (Int × List (CtrD × Int))} (h:ActsO I W v As):Arr 2 AcAt W v As:=by
 obtain⟨base,cells,g1,g2,g3⟩:=h
 obtain⟨ao,cp,rfl⟩:=own_shape g1
 refine⟨ao,cp,rfl,fun i a ha=>?_⟩
 obtain⟨bb,k1,k2,k3⟩:=g3.2 i a ha
 obtain⟨g,c,e,hc⟩:=own_cell g1 k1
 cases e
 obtain⟨g',c',e',hc'⟩:=own_cell g1 k2
 cases e'
 exact⟨g,0,rfl,bb,by rw[Nat.zero_add];exact hc,by rw[Nat.zero_add];exact hc',k3.bnk⟩
structure StO (I:Nat→Prop) (W:World) (s:SesD) (yb sb:Nat) (x:PS):Prop where
 out:∃ av wv,W.heap[sb]?=some (.cells #[pv yb,av,wv] 119 (0,0))∧I sb∧ActsO I W av (actsP s x)∧WaysO I W s.cls s.cap wv x.ways
 ok:PSok s x
theorem StO.str {s:SesD} {yb sb:Nat} {x:PS} (h:StO I W s yb sb x):StR W s yb sb x:=by
 obtain⟨av,wv,h1,h2,h3,h4⟩:=h.out
 exact⟨⟨av,wv,h1,h3.arr,h4.arr⟩,h.ok⟩
theorem StO.kp {s:SesD} {yb sb:Nat} {x:PS} (h:StO I W s yb sb x) (hk:Kp I [] W V):StO I V s yb sb x:=by
 obtain⟨av,wv,h1,h2,h3,h4⟩:=h.out
 exact⟨⟨av,wv,hk sb _ _ h2 h1 (by simp),h2,h3.kp hk (by simp) (by simp) (by simp),h4.kp hk (by simp) (by simp) (by simp) (by simp)⟩,h.ok⟩
end
end Go.Proofs.YtkphhjekfimmlaaGreat
namespace Go.Proofs.YtkphhjekfimmlaaGreat
open Go.RowKit Go.BigFrame Go.Sort
theorem sort_any (v:Value) (L:List ByteArray) (w:World) (h:Strs w v L) (hL:L.length≤1000000) :
  Calls Tryz.prog 129 #[v] w (Ret (.tuple #[]) (fun w'=>Strs w' v (keyL 2 L)∧Frm v.ownBlock.toList w w')):=by
 obtain⟨ao,cap,rfl,hn,hc⟩:=h.shape
 have hlen:(keyL 2 L).length=L.length:=by simp[keyL]
 cases L with
 | nil =>
   refine(AnyM.slices_Sort_string_none Tryz.sortS ao cap w).mono ?_
   rintro e w' ⟨rfl,rfl⟩
   exact⟨rfl,by simpa[keyL] using h,Frm.refl _ _⟩
 | cons x xs =>
   obtain⟨g,rfl,-⟩:=hc 0 x rfl
   obtain⟨hH,q1,q2,cur,hh,q3⟩:=h.holds
   have hd:=AnyM.slices_Sort_string Tryz.sortS g 0 cap ((x :: xs).map byt) w hH (lt_of_block hh) (by rw[List.length_map];omega)
   rw[List.length_map] at hd
   refine(show Calls Tryz.prog 129 _ w _ from hd).mono ?_
   rintro e w' ⟨rfl,q,os,rfl⟩
   refine⟨rfl,?_,?_⟩
   ·have ho:=ownsRow_sorted (w:=w) (base:=0) (g:=g) (cap:=cap) (n:=q) (e:=9) (os:=os) (cur:=cur) (ss:=(x :: xs).map byt) (ts:=((x :: xs).map byt).mergeSort fun x y=>decide (x≤y)) (by simp) (Nat.zero_le _) hh (by simpa using q1) q2 q3
    rw[List.length_map] at ho
    have e1:(keyL 2 (x :: xs)).map Value.string=(((x :: xs).map byt).mergeSort fun x y=>decide (x≤y)).map encStr:=by rw[keyL,if_pos rfl,List.map_map];rfl
    unfold Strs
    rw[hlen,e1]
    exact ho
   ·exact(Frm.refl _ _).grown (grownBy_sorted _) (fun k hk=>by cases hk;exact .inl (by simp[Value.ownBlock]))
theorem wrap_small {x:Int} (h0:0≤x) (h1:x≤255):IntKind.u8.wrap x=x:=by simp[IntKind.wrap,show IntKind.u8.bits=8 from rfl,show IntKind.u8.signed=false from rfl];omega
theorem len_byte (w:World) (x:ByteArray) (h:x.size≤32):(convert 26 9 (.slice (some ⟨w.heap.size,0,none⟩) 1 1)).run Tryz.prog (w.alloc (.cells #[.int .u8 (x.size:Int)] 5))=.ok (.string ⟨#[UInt8.ofNat x.size]⟩) (w.alloc (.cells #[.int .u8 (x.size:Int)] 5)):=
 run_convert_bytes_back _ 26 9 5 ⟨w.heap.size,0,none⟩ 1 [UInt8.ofNat x.size] Tryz.underlying26 Tryz.underlying5 Tryz.underlying9 (fun j hj=>by
  have h0:j=0:=by simpa using hj
  subst h0
  have e:((UInt8.ofNat x.size).toNat:Int)=(x.size:Int):=by simp;omega
  show (w.alloc _).cell? ⟨w.heap.size,0 + 0,none⟩=some (.int .u8 ((UInt8.ofNat x.size).toNat:Int))
  rw[e]
  exact cell_of (heap_alloc_new w _) 0)
set_option maxHeartbeats 1000000 in
set_option maxRecDepth 100000 in
theorem key_any (cb:Nat) (cls cap:Int) (L:List ByteArray) (F:List Nat) (w:World) (h:Chn w cb cls cap L F) :
  Calls Tryz.prog 72 #[.pointer (some ⟨cb,0,none⟩)] w (Ret (.string (keyB (keyL cls L))) (Frm [] w)):=by
 have HG:=Lib.hid h.good
 have hg:=h.good.lenN
 have HC:=Lib.hid h
 have CA:=Lib.hid (all_any h)
 clear h
 have HSL:Hid ((keyL cls L).length=L.length):=Lib.hid (keyL_length cls L)
 have HSZ:Hid (∀ x∈keyL cls L,1≤x.size∧x.size≤32):=Lib.hid (fun x hx=>HG.out.sz x (keyL_mem hx))
 by_cases hz:cls=2
 ·subst hz
  obtain⟨S,hS⟩:∃ S,keyL 2 L=S:=⟨_,rfl⟩
  rw[hS] at HSL HSZ ⊢
  go_enter Tryz.func72,Tryz.ntmps72
  go_wp2_with (first
   | (go_at_call 107;go_must (refine CA.out.mono ?_;rintro e w1 ⟨v,rfl,hr⟩;obtain⟨ao,cp,rfl,-,-⟩:=hr.1.shape;have HR:=Lib.hid hr;clear hr))
   | (go_at_call 126;go_must (refine(none_any cb 2 cap L F w1 (HC.out.frm HR.out.2.1 (by simp))).mono ?_;rintro e w' ⟨rfl,rfl⟩;obtain⟨sv,e1,-,-,-⟩:=HC.out;have c0:=HR.out.2.1.keep (cell_of e1 0);clear e1))
   | (go_at_call 129;go_must (refine(sort_any _ L w1 HR.out.1 (by omega)).mono ?_;rintro e w2 ⟨rfl,hs⟩;have HS:=Lib.hid hs;clear hs)))
  rw[hS] at HS
  clear hS
  have HST:Hid (Strs w2 (.slice ao L.length cp) S):=Lib.hid HS.out.1
  have HWW:Hid (Frm [] w w2):=Lib.hid ((HR.out.2.1).then HS.out.2 (fun x hx=>.inr (HR.out.2.2 x (by simpa using hx))))
  go_loopw [2,22] (fun s2 s22 wr=>∃ i:Nat,s2=.string (keyB (S.take i))∧s22=.int .i64 i∧i≤L.length∧Frm [] w2 wr) (fun _ s22 _=>L.length - (intOf s22).toNat)
  case atStart=>exact⟨0,rfl,rfl,Nat.zero_le _,Frm.refl _ _⟩
  case round =>
   obtain⟨i,rfl,rfl,hi,hf⟩:=hrel
   have HF:=Lib.hid hf
   by_cases hlt:i < L.length
   ·obtain⟨x,hx⟩:∃ x,S[i]?=some x:=⟨_,List.getElem?_eq_getElem (by rw[HSL.out];exact hlt)⟩
    have hsz:=HSZ.out x (List.mem_of_getElem? hx)
    obtain⟨ao',cp',hv,-,hcs⟩:=HST.out.shape
    rw[HSL.out] at hv;cases hv
    obtain⟨g,rfl,cx0⟩:=hcs i x hx
    have cx:=hf.keep cx0
    have hlt':(i:Int) < (L.length:Int):=by omega
    have hwr:IntKind.u8.wrap (x.size:Int)=(x.size:Int):=wrap_small (by omega) (by omega)
    have HX:=Lib.hid hx
    have hconv:(convert 26 9 (.slice (some ⟨wr.heap.size,0,none⟩) 1 1)).run Tryz.prog (wr.alloc (.cells #[.int .u8 (x.size:Int)] 5))=.ok (.string ⟨#[UInt8.ofNat x.size]⟩) (wr.alloc (.cells #[.int .u8 (x.size:Int)] 5)):=len_byte wr x hsz.2
    have hks:(keyB (S.take i)).size≤3000:=by
     have h1:=keyB_size (S.take i) (fun y hy=>(HSZ.out y (List.mem_of_mem_take hy)).2)
     rw[List.length_take] at h1
     omega
    clear hcs cx0 hf hx
    go_wp2_with fail
    exact⟨⟨i + 1,by rw[keyB_snoc HX.out],by simp,hlt,HF.out.alloc _⟩,by simp[intOf];omega⟩
   ·have hge:¬ (i:Int) < (L.length:Int):=by omega
    clear hf
    go_wp2
    go_ret
    refine⟨?_,HWW.out.trans HF.out⟩
    rw[List.take_of_length_le (by rw[HSL.out];omega)]
    rfl
 ·have hne:(cls == 2)=false:=by simpa using hz
  obtain⟨S,hS⟩:∃ S,keyL cls L=S:=⟨_,rfl⟩
  have HSE:Hid (S=L):=Lib.hid (hS.symm.trans (if_neg hz))
  rw[hS] at HSL HSZ ⊢
  clear hS
  go_enter Tryz.func72,Tryz.ntmps72
  go_wp2_with (first
   | (go_at_call 107;go_must (refine CA.out.mono ?_;rintro e w1 ⟨v,rfl,hr⟩;obtain⟨ao,cp,rfl,-,-⟩:=hr.1.shape;have HR:=Lib.hid hr;clear hr))
   | (go_at_call 126;go_must (refine(none_any cb cls cap L F w1 (HC.out.frm HR.out.2.1 (by simp))).mono ?_;rintro e w' ⟨rfl,rfl⟩;obtain⟨sv,e1,-,-,-⟩:=HC.out;have c0:=HR.out.2.1.keep (cell_of e1 0);clear e1)))
  have HST:Hid (Strs w1 (.slice ao L.length cp) S):=Lib.hid (by rw[HSE.out];exact HR.out.1)
  have HWW:Hid (Frm [] w w1):=Lib.hid HR.out.2.1
  go_loopw [2,22] (fun s2 s22 wr=>∃ i:Nat,s2=.string (keyB (S.take i))∧s22=.int .i64 i∧i≤L.length∧Frm [] w1 wr) (fun _ s22 _=>L.length - (intOf s22).toNat)
  case atStart=>exact⟨0,rfl,rfl,Nat.zero_le _,Frm.refl _ _⟩
  case round =>
   obtain⟨i,rfl,rfl,hi,hf⟩:=hrel
   have HF:=Lib.hid hf
   by_cases hlt:i < L.length
   ·obtain⟨x,hx⟩:∃ x,S[i]?=some x:=⟨_,List.getElem?_eq_getElem (by rw[HSL.out];exact hlt)⟩
    have hsz:=HSZ.out x (List.mem_of_getElem? hx)
    obtain⟨ao',cp',hv,-,hcs⟩:=HST.out.shape
    rw[HSL.out] at hv;cases hv
    obtain⟨g,rfl,cx0⟩:=hcs i x hx
    have cx:=hf.keep cx0
    have hlt':(i:Int) < (L.length:Int):=by omega
    have hwr:IntKind.u8.wrap (x.size:Int)=(x.size:Int):=wrap_small (by omega) (by omega)
    have HX:=Lib.hid hx
    have hconv:(convert 26 9 (.slice (some ⟨wr.heap.size,0,none⟩) 1 1)).run Tryz.prog (wr.alloc (.cells #[.int .u8 (x.size:Int)] 5))=.ok (.string ⟨#[UInt8.ofNat x.size]⟩) (wr.alloc (.cells #[.int .u8 (x.size:Int)] 5)):=len_byte wr x hsz.2
    have hks:(keyB (S.take i)).size≤3000:=by
     have h1:=keyB_size (S.take i) (fun y hy=>(HSZ.out y (List.mem_of_mem_take hy)).2)
     rw[List.length_take] at h1
     omega
    clear hcs cx0 hf hx
    go_wp2_with fail
    exact⟨⟨i + 1,by rw[keyB_snoc HX.out],by simp,hlt,HF.out.alloc _⟩,by simp[intOf];omega⟩
   ·have hge:¬ (i:Int) < (L.length:Int):=by omega
    clear hf
    go_wp2
    go_ret
    refine⟨?_,HWW.out.trans HF.out⟩
    rw[List.take_of_length_le (by rw[HSL.out];omega)]
    rfl
end Go.Proofs.YtkphhjekfimmlaaGreat
namespace Go.Proofs.YtkphhjekfimmlaaGreat
open Go.RowKit Go.BigFrame
structure ChS (w:World) (s:SesD) (x:PS) (yb xb ab gb rb cb f t:Nat) (F:List Nat) (L:List ByteArray) (W:World):Prop where
 fr:Frm [] w W
 new:w.heap.size≤xb∧w.heap.size≤ab∧w.heap.size≤gb∧w.heap.size≤rb∧∀ k∈F,w.heap.size≤k
 hx:∃ ca cg,W.heap[xb]?=some (.cells #[.pointer (some ⟨yb,0,none⟩),.slice (some ⟨ab,0,none⟩) s.roles.length ca,.slice (some ⟨gb,0,none⟩) s.roles.length cg] 119 (0,0))
 ha:∃ cur,W.heap[ab]?=some (.cells cur 145 (0,0))
 act:∀ i,i < s.roles.length→∃ bb,W.cell? ⟨ab,i * 2,none⟩=some (.int .i64 ((x.at i:Nat):Int))∧W.cell? ⟨ab,i * 2 + 1,none⟩=some (.pointer (some ⟨bb,0,none⟩))∧Bnk w bb (x.ctr s i)
 row:∀ i,i < s.roles.length→i≠f→∃ rv,W.cell? ⟨gb,i,none⟩=some rv∧RowV s.cls s.cap w rv (x.ways.getD i [])
 rowf:∃ cr,W.cell? ⟨gb,f,none⟩=some (.slice (some ⟨rb,0,none⟩) s.roles.length cr)
 chs:∀ k,k < s.roles.length→k≠t→∃ c G,W.cell? ⟨rb,k,none⟩=some (.pointer (some ⟨c,0,none⟩))∧Chn w c s.cls s.cap (x.way f k) G
 cht:W.cell? ⟨rb,t,none⟩=some (.pointer (some ⟨cb,0,none⟩))
 chn:Chn W cb s.cls s.cap L F
 types:(∃ c fr,W.heap[gb]?=some (.cells c 137 fr))∧∃ c fr,W.heap[rb]?=some (.cells c 138 fr)
structure Ch2 (w:World) (s:SesD) (x:PS) (yb xb ab gb rb f:Nat) (W:World):Prop where
 fr:Frm [] w W
 new:w.heap.size≤xb∧w.heap.size≤ab∧w.heap.size≤gb∧w.heap.size≤rb
 hx:∃ ca cg,W.heap[xb]?=some (.cells #[.pointer (some ⟨yb,0,none⟩),.slice (some ⟨ab,0,none⟩) s.roles.length ca,.slice (some ⟨gb,0,none⟩) s.roles.length cg] 119 (0,0))
 ha:∃ cur,W.heap[ab]?=some (.cells cur 145 (0,0))
 act:∀ i,i < s.roles.length→∃ bb,W.cell? ⟨ab,i * 2,none⟩=some (.int .i64 ((x.at i:Nat):Int))∧W.cell? ⟨ab,i * 2 + 1,none⟩=some (.pointer (some ⟨bb,0,none⟩))∧Bnk w bb (x.ctr s i)
 row:∀ i,i < s.roles.length→i≠f→∃ rv,W.cell? ⟨gb,i,none⟩=some rv∧RowV s.cls s.cap w rv (x.ways.getD i [])
 rowf:∃ cr,W.cell? ⟨gb,f,none⟩=some (.slice (some ⟨rb,0,none⟩) s.roles.length cr)
 chs:∀ k,k < s.roles.length→∃ c G,W.cell? ⟨rb,k,none⟩=some (.pointer (some ⟨c,0,none⟩))∧Chn w c s.cls s.cap (x.way f k) G
 tg:∃ c,W.heap[gb]?=some (.cells c 137 (0,0))
 tr:∃ c,W.heap[rb]?=some (.cells c 138 (0,0))
section
variable {w W W':World} {s:SesD} {x:PS} {yb xb ab gb rb cb f t:Nat} {F F':List Nat} {L L':List ByteArray}
theorem Chn.types (h:Chn W cb s.cls s.cap L F) {k:Nat} (hk:k∈F):∃ c e,W.heap[k]?=some (.cells c e (0,0))∧(e=229∨e=9):=by
 obtain⟨sv,h1,h2,-,rfl⟩:=h
 simp only[List.mem_cons,Option.mem_toList] at hk
 rcases hk with rfl | hk
 ·exact⟨_,_,h1,.inl rfl⟩
 ·obtain⟨c,hc⟩:=ownBlock_type h2 hk
  exact⟨c,9,hc,.inr rfl⟩
theorem Ch2.frm (h:Ch2 w s x yb xb ab gb rb f W) (hf:Frm [] W W'):Ch2 w s x yb xb ab gb rb f W':=by
 obtain⟨ca,cg,hx⟩:=h.hx
 obtain⟨cur,ha⟩:=h.ha
 obtain⟨c1,t1⟩:=h.tg
 obtain⟨c2,t2⟩:=h.tr
 obtain⟨cr,hr⟩:=h.rowf
 refine⟨h.fr.trans hf,h.new,⟨ca,cg,hf.at hx (by simp)⟩,⟨cur,hf.at ha (by simp)⟩,fun i hi=>?_,fun i hi hn=>?_,⟨cr,hf.keep hr⟩,fun k hk=>?_,⟨c1,hf.at t1 (by simp)⟩,c2,hf.at t2 (by simp)⟩
 ·obtain⟨bb,a1,a2,a3⟩:=h.act i hi
  exact⟨bb,hf.keep a1,hf.keep a2,a3⟩
 ·obtain⟨rv,a1,a2⟩:=h.row i hi hn
  exact⟨rv,hf.keep a1,a2⟩
 ·obtain⟨c,G,a1,a2⟩:=h.chs k hk
  exact⟨c,G,hf.keep a1,a2⟩
theorem ch2_mk {w3 w5:World} {cab cgb crb n:Nat} {curg curr:Array Value} (hn:s.roles.length=n) (hok:PSok s x) (hfl:f < s.roles.length) (fr:Frm [] w w5) (f35:Frm [] w3 w5) (n1:w.heap.size≤xb) (n2:w.heap.size≤ab) (n3:w.heap.size≤gb) (n4:w3.heap.size≤rb)
  (hx:w3.heap[xb]?=some (.cells #[.pointer (some ⟨yb,0,none⟩),.slice (some ⟨ab,0,none⟩) n cab,.slice (some ⟨gb,0,none⟩) n cgb] 119 (0,0))) {cura:Array Value} (ha:w3.heap[ab]?=some (.cells cura 145 (0,0))) (hae:∀ (i:Nat) a,(actsP s x)[i]?=some a→AoAt w w3 ab (i * 2) a)
  (hg:w5.heap[gb]?=some (.cells curg 137 (0,0))) (hg3:w3.heap[gb]?=some (.cells curg 137 (0,0))) (hge:∀ (i:Nat) R,x.ways[i]?=some R→WoAt s.cls s.cap w w3 gb (i * 1) R) (hr:w5.heap[rb]?=some (.cells curr 138 (0,0))) (hre:∀ (k:Nat) M,(x.ways.getD f [])[k]?=some M→CoAt s.cls s.cap w w5 rb (k * 1) M) :
  Ch2 w s x yb xb ab gb rb f (w5.setCell ⟨gb,f,none⟩ (.slice (some ⟨rb,0,none⟩) n crb)):=by
 have hF:Frm [gb] w5 (w5.setCell ⟨gb,f,none⟩ (.slice (some ⟨rb,0,none⟩) n crb)):=(Frm.refl _ _).setCell _ (.inl (by simp)) _
 have hb:=block_setCell hg f (.slice (some ⟨rb,0,none⟩) n crb)
 have x5:=f35.at hx (by simp)
 have a5:=f35.at ha (by simp)
 have nx:xb∉[gb]:=fun e=>by simp at e;subst e;rw[x5] at hg;cases hg
 have na:ab∉[gb]:=fun e=>by simp at e;subst e;rw[a5] at hg;cases hg
 have nr:rb∉[gb]:=fun e=>by simp at e;subst e;rw[hr] at hg;cases hg
 have hgf:f < curg.size:=by
  obtain⟨v,h1,-⟩:=hge f _ (some_getD (d:=[]) (by rw[hok.wl];exact hfl))
  rw[Nat.mul_one,cell_of hg3] at h1
  exact(Array.getElem?_eq_some_iff.1 h1).1
 have hs5:=f35.size
 have hs0:=lt_of_block hg3
 refine⟨fr.then hF (by intro y hy;simp at hy;subst hy;exact .inr n3),⟨n1,n2,n3,by omega⟩,⟨cab,cgb,by rw[hn];exact hF.at x5 nx⟩,⟨cura,hF.at a5 na⟩,fun i hi=>?_,fun i hi hne=>?_,⟨crb,?_⟩,fun k hk=>?_,⟨_,hb⟩,curr,hF.at hr nr⟩
 ·obtain⟨bb,b1,b2,b3⟩:=hae i _ (actsP_at hi)
  exact⟨bb,hF.cellAt (f35.keep b1) na,hF.cellAt (f35.keep b2) na,b3⟩
 ·obtain⟨v,b1,b2⟩:=hge i _ (some_getD (d:=[]) (by rw[hok.wl];exact hi))
  rw[Nat.mul_one] at b1
  refine⟨v,?_,b2⟩
  rw[cell_of hb,Array.getElem?_setIfInBounds_ne (by omega),← cell_of hg3]
  exact b1
 ·rw[cell_of hb,Array.getElem?_setIfInBounds_self_of_lt hgf,hn]
 ·obtain⟨c,G,b1,b2⟩:=hre k _ (some_getD (d:=[]) (by rw[hok.wr f hfl];exact hk))
  rw[Nat.mul_one] at b1
  exact⟨c,G,hF.cellAt b1 nr,b2⟩
theorem Ch2.fin {w7:World} (h:Ch2 w s x yb xb ab gb rb f W) (hf:Frm [] W w7) (hc:Chn w7 cb s.cls s.cap L F) (hF:∀ k∈F,W.heap.size≤k) (ht:t < s.roles.length):ChS w s x yb xb ab gb rb cb f t F L (w7.setCell ⟨rb,t,none⟩ (.pointer (some ⟨cb,0,none⟩))):=by
 have h7:=h.frm hf
 obtain⟨ca,cg,hx⟩:=h7.hx
 obtain⟨cur,ha⟩:=h7.ha
 obtain⟨c1,t1⟩:=h7.tg
 obtain⟨c2,t2⟩:=h7.tr
 obtain⟨cr,hr⟩:=h7.rowf
 have hS:Frm [rb] w7 (w7.setCell ⟨rb,t,none⟩ (.pointer (some ⟨cb,0,none⟩))):=(Frm.refl _ _).setCell _ (.inl (by simp)) _
 have hb:=block_setCell t2 t (.pointer (some ⟨cb,0,none⟩))
 have nx:xb∉[rb]:=fun e=>by simp at e;subst e;rw[hx] at t2;cases t2
 have na:ab∉[rb]:=fun e=>by simp at e;subst e;rw[ha] at t2;cases t2
 have ng:gb∉[rb]:=fun e=>by simp at e;subst e;rw[t1] at t2;cases t2
 have nF:∀ k∈F,k∉[rb]:=fun k hk e=>by
  obtain⟨c,e',a1,a2⟩:=hc.types hk
  simp at e;subst e
  rw[t2] at a1;cases a1
  revert a2;decide
 have hsz:t < c2.size:=by
  obtain⟨c,G,a1,-⟩:=h7.chs t ht
  rw[cell_of t2] at a1
  exact(Array.getElem?_eq_some_iff.1 a1).1
 have hs:=h.fr.size
 refine⟨h7.fr.then hS (by intro y hy;simp at hy;subst hy;exact .inr h.new.2.2.2),⟨h.new.1,h.new.2.1,h.new.2.2.1,h.new.2.2.2,fun k hk=>by have:=hF k hk;omega⟩,⟨ca,cg,hS.at hx nx⟩,⟨cur,hS.at ha na⟩,fun i hi=>?_,fun i hi hn=>?_,⟨cr,hS.cellAt hr ng⟩,fun k hk hn=>?_,?_,hc.frm hS nF,⟨c1,(0,0),hS.at t1 ng⟩,_,(0,0),hb⟩
 ·obtain⟨bb,a1,a2,a3⟩:=h7.act i hi
  exact⟨bb,hS.cellAt a1 na,hS.cellAt a2 na,a3⟩
 ·obtain⟨rv,a1,a2⟩:=h7.row i hi hn
  exact⟨rv,hS.cellAt a1 ng,a2⟩
 ·obtain⟨c,G,a1,a2⟩:=h7.chs k hk
  refine⟨c,G,?_,a2⟩
  rw[cell_of hb,Array.getElem?_setIfInBounds_ne (by omega),← cell_of t2]
  exact a1
 ·rw[cell_of hb,Array.getElem?_setIfInBounds_self_of_lt hsz]
theorem ChS.frm (h:ChS w s x yb xb ab gb rb cb f t F L W) (hf:Frm [] W W'):ChS w s x yb xb ab gb rb cb f t F L W':=by
 obtain⟨ca,cg,hx⟩:=h.hx
 obtain⟨cur,ha⟩:=h.ha
 obtain⟨⟨c1,f1,t1⟩,c2,f2,t2⟩:=h.types
 obtain⟨cr,hr⟩:=h.rowf
 refine⟨h.fr.trans hf,h.new,⟨ca,cg,hf.at hx (by simp)⟩,⟨cur,hf.at ha (by simp)⟩,fun i hi=>?_,fun i hi hn=>?_,⟨cr,hf.keep hr⟩,fun k hk hn=>?_,hf.keep h.cht,h.chn.frm hf (by simp),⟨c1,f1,hf.at t1 (by simp)⟩,c2,f2,hf.at t2 (by simp)⟩
 ·obtain⟨bb,a1,a2,a3⟩:=h.act i hi
  exact⟨bb,hf.keep a1,hf.keep a2,a3⟩
 ·obtain⟨rv,a1,a2⟩:=h.row i hi hn
  exact⟨rv,hf.keep a1,a2⟩
 ·obtain⟨c,G,a1,a2⟩:=h.chs k hk hn
  exact⟨c,G,hf.keep a1,a2⟩
theorem ChS.chan (h:ChS w s x yb xb ab gb rb cb f t F L W) (hc:ChnTo W cb s.cls s.cap L' F W'):∃ F',ChS w s x yb xb ab gb rb cb f t F' L' W':=by
 obtain⟨F',k1,k2,k3⟩:=hc
 obtain⟨ca,cg,hx⟩:=h.hx
 obtain⟨cur,ha⟩:=h.ha
 obtain⟨⟨c1,f1,t1⟩,c2,f2,t2⟩:=h.types
 obtain⟨cr,hr⟩:=h.rowf
 have nx:xb∉F:=fun hk=>by obtain⟨c,e,a1,a2⟩:=h.chn.types hk;rw[hx] at a1;cases a1;revert a2;decide
 have na:ab∉F:=fun hk=>by obtain⟨c,e,a1,a2⟩:=h.chn.types hk;rw[ha] at a1;cases a1;revert a2;decide
 have ng:gb∉F:=fun hk=>by obtain⟨c,e,a1,a2⟩:=h.chn.types hk;rw[t1] at a1;cases a1;revert a2;decide
 have nr:rb∉F:=fun hk=>by obtain⟨c,e,a1,a2⟩:=h.chn.types hk;rw[t2] at a1;cases a1;revert a2;decide
 have hs:=h.fr.size
 refine⟨F',h.fr.then k2 (fun k hk=>.inr (h.new.2.2.2.2 k hk)),⟨h.new.1,h.new.2.1,h.new.2.2.1,h.new.2.2.2.1,fun k hk=>?_⟩,⟨ca,cg,k2.at hx nx⟩,⟨cur,k2.at ha na⟩,fun i hi=>?_,fun i hi hn=>?_,⟨cr,k2.cellAt hr ng⟩,fun k hk hn=>?_,k2.cellAt h.cht nr,k1,⟨c1,f1,k2.at t1 ng⟩,c2,f2,k2.at t2 nr⟩
 ·rcases k3 k hk with a | a
  ·exact h.new.2.2.2.2 k a
  ·omega
 ·obtain⟨bb,a1,a2,a3⟩:=h.act i hi
  exact⟨bb,k2.cellAt a1 na,k2.cellAt a2 na,a3⟩
 ·obtain⟨rv,a1,a2⟩:=h.row i hi hn
  exact⟨rv,k2.cellAt a1 ng,a2⟩
 ·obtain⟨c,G,a1,a2⟩:=h.chs k hk hn
  exact⟨c,G,k2.cellAt a1 nr,a2⟩
theorem ChS.ways (h:ChS w s x yb xb ab gb rb cb f t F L W) (hx:PSok s x) (hf:f < s.roles.length) (ht:t < s.roles.length):∃ cg ca,W.heap[xb]?=some (.cells #[.pointer (some ⟨yb,0,none⟩),.slice (some ⟨ab,0,none⟩) s.roles.length ca,.slice (some ⟨gb,0,none⟩) s.roles.length cg] 119 (0,0)) ∧
  Arr 1 (RwAt s.cls s.cap) W (.slice (some ⟨gb,0,none⟩) s.roles.length cg) (setWay x.ways f t L):=by
 obtain⟨ca,cg,hxb⟩:=h.hx
 obtain⟨cr,hr⟩:=h.rowf
 refine⟨cg,ca,hxb,some ⟨gb,0,none⟩,cg,by rw[setWay_length,hx.wl],fun i R hR=>⟨gb,0,rfl,?_⟩⟩
 have hi:=lt_of_some hR
 rw[setWay_length,hx.wl] at hi
 rw[Nat.zero_add,Nat.mul_one]
 unfold setWay at hR
 rw[List.getElem?_set] at hR
 by_cases e:f=i
 ·subst e
  rw[if_pos rfl,if_pos (by rw[hx.wl];exact hi)] at hR
  cases hR
  refine⟨_,hr,some ⟨rb,0,none⟩,cr,by rw[List.length_set,hx.wr f hf],fun k M hM=>⟨rb,0,rfl,?_⟩⟩
  have hk:=lt_of_some hM
  rw[List.length_set,hx.wr f hf] at hk
  rw[Nat.zero_add,Nat.mul_one]
  rw[List.getElem?_set] at hM
  by_cases e2:t=k
  ·subst e2
   rw[if_pos rfl,if_pos (by rw[hx.wr f hf];exact hk)] at hM
   cases hM
   exact⟨cb,F,h.cht,h.chn⟩
  ·rw[if_neg e2] at hM
   obtain⟨c,G,a1,a2⟩:=h.chs k hk (fun e=>e2 e.symm)
   have:x.way f k=M:=by unfold PS.way wayOf;exact getD_some hM
   rw[this] at a2
   exact⟨c,G,a1,a2.frm h.fr (by simp)⟩
 ·rw[if_neg e] at hR
  obtain⟨rv,a1,a2⟩:=h.row i hi (fun e'=>e e'.symm)
  rw[getD_some hR] at a2
  exact⟨rv,a1,a2.frm h.fr⟩
theorem ChS.str (h:ChS w s x yb xb ab gb rb cb f t F L W) (hx:PSok s x) (hf:f < s.roles.length) (ht:t < s.roles.length) (ho:PSok s { x with ways:=setWay x.ways f t L }):StR W s yb xb { x with ways:=setWay x.ways f t L }:=by
 obtain⟨cg,ca,h1,h2⟩:=h.ways hx hf ht
 refine⟨⟨_,_,h1,⟨some ⟨ab,0,none⟩,ca,by rw[actsP_len],fun i a ha=>⟨ab,0,rfl,?_⟩⟩,h2⟩,ho⟩
 have hi:i < s.roles.length:=by have:=lt_of_some ha;rwa [actsP_len] at this
 rw[actsP_at hi] at ha
 cases ha
 obtain⟨bb,a1,a2,a3⟩:=h.act i hi
 rw[Nat.zero_add]
 exact⟨bb,a1,a2,a3.frm h.fr⟩
end
end Go.Proofs.YtkphhjekfimmlaaGreat
namespace Go.Proofs.YtkphhjekfimmlaaGreat
open Go.RowKit Go.BigFrame
theorem Arr.imp {α:Type} {k:Nat} {At At':World→Nat→Nat→α→Prop} {w w':World} {v:Value} {xs:List α} (hA:∀ b o x,At w b o x→At' w' b o x) (h:Arr k At w v xs):Arr k At' w' v xs:=by
 obtain⟨ao,cap,h1,h2⟩:=h
 refine⟨ao,cap,h1,fun i x hx=>?_⟩
 obtain⟨b,o,e,h3⟩:=h2 i x hx
 exact⟨b,o,e,hA _ _ _ h3⟩
theorem Fr.row {α:Type} {k:Nat} {e:TypeId} {At:World→Nat→Nat→α→Prop} {w w':World} {xs:List α} {v:Value} (h:Fr k e At w xs v w') (hn:xs.length≠0) :
  ∃ g cap cur,v=.slice (some ⟨g,0,none⟩) xs.length cap∧w.heap.size≤g∧w'.heap[g]?=some (.cells cur e (0,0))∧∀ (i:Nat) x,xs[i]?=some x→At w' g (i * k) x:=by
 rcases h.own with e | ⟨news,ho⟩
 ·rw[e] at hn;simp at hn
 ·obtain⟨g,cap,cur,rfl,hg,hc⟩:=own_block ho hn
  refine⟨g,cap,cur,rfl,hg,hc,fun i x hx=>?_⟩
  obtain⟨b,o,e,ha⟩:=h.arr.get hx
  cases e
  rw[Nat.zero_add] at ha
  exact ha
set_option maxHeartbeats 4000000 in
set_option maxRecDepth 100000 in
theorem pChange_any (s:SesD) (yb sb f t:Nat) (x:PS) (w:World) (hx:StR w s yb sb x) (hf:f < s.roles.length) (ht:t < s.roles.length) (h4:s.roles.length≤4) :
  Calls Tryz.prog 74 #[.pointer (some ⟨sb,0,none⟩),.int .i64 f,.int .i64 t] w (RetV fun v w'=>∃ xb ab gb rb cb F,v=.tuple #[.pointer (some ⟨xb,0,none⟩),.pointer (some ⟨cb,0,none⟩)]∧ChS w s x yb xb ab gb rb cb f t F (x.way f t) w'):=by
 have HST:=Lib.hid hx
 obtain⟨av,wv,h1,h2,h3⟩:=hx.out
 have hok:=hx.ok
 obtain⟨aa,ca,rfl⟩:=h2.shape
 obtain⟨aw,cw,rfl⟩:=h3.shape
 obtain⟨n,hn⟩:∃ n,s.roles.length=n:=⟨_,rfl⟩
 have CA:Hid (∀ V,Frm [] w V→Calls Tryz.prog 131 #[.slice aa n ca] V (RetV (Fr 2 145 (AoAt w) V (actsP s x)))):=Lib.hid fun V hV=>by
  have:=clActorAt_any w (.slice aa (actsP s x).length ca) (actsP s x) V (h2.imp fun _ _ _ h=>AoAt.frm h hV) (by rw[actsP_len];omega)
  rwa [actsP_len,hn] at this
 have CW:Hid (∀ V,Frm [] w V→Calls Tryz.prog 132 #[.slice aw n cw] V (RetV (Fr 1 137 (WoAt s.cls s.cap w) V x.ways))):=Lib.hid fun V hV=>by
  have:=clWaysAt_any s.cls s.cap w (.slice aw x.ways.length cw) x.ways V (h3.imp fun _ _ _ h=>WoAt.frm h hV) (by rw[hok.wl];omega)
  rwa [hok.wl,hn] at this
 rw[actsP_len,hok.wl,hn] at h1
 have HS:Hid (∀ V,Frm [] w V→V.cell? ⟨sb,0,none⟩=some (.pointer (some ⟨yb,0,none⟩))∧V.cell? ⟨sb,1,none⟩=some (.slice aa n ca)∧V.cell? ⟨sb,2,none⟩=some (.slice aw n cw)):=Lib.hid fun V hV=>⟨hV.keep (cell_of h1 0),hV.keep (cell_of h1 1),hV.keep (cell_of h1 2)⟩
 have HN:=Lib.hid hn;have HOK:=Lib.hid hok;have HFL:=Lib.hid hf;have HTL:=Lib.hid ht
 have hfn:(f:Int) < (n:Int):=by omega
 have htn:(t:Int) < (n:Int):=by omega
 clear h1 h2 h3 hx hok hn hf ht
 go_enter Tryz.func74,Tryz.ntmps74
 go_upto_region 1 with fail
 go_region_held3 (fun V=>V.cell? ⟨sb,0,none⟩=some (.pointer (some ⟨yb,0,none⟩))∧V.cell? ⟨sb,1,none⟩=some (.slice aa n ca)∧V.cell? ⟨sb,2,none⟩=some (.slice aw n cw))
  (first
   | exact HS.out _ ((Frm.refl [] w).drew)
   | exact HS.out _ F1.out
   | exact HS.out _ F2.out
   | exact HS.out _ (F2.out.alloc _))
  (first
   | (go_at_call 131;go_must (refine(CA.out _ ((Frm.refl [] w).drew)).mono ?_;rintro e w1 ⟨u,rfl,hr⟩;have F1:Hid (Frm [] w w1):=Lib.hid ((Frm.refl [] w).drew.trans hr.frm);have hrr:=hr.row (by rw[actsP_len,HN.out];omega);rw[actsP_len,HN.out] at hrr;obtain⟨ab,cab,cura,rfl,hab,hba,hae⟩:=hrr;have HAB:=Lib.hid hab;have HBA:=Lib.hid hba;have HAE:=Lib.hid hae;clear hab hba hae hr))
   | (go_at_call 132;go_must (refine(CW.out _ F1.out).mono ?_;rintro e w2 ⟨u,rfl,hr⟩;have F2:Hid (Frm [] w w2):=Lib.hid (F1.out.trans hr.frm);have F12:=Lib.hid hr.frm;have hrr:=hr.row (by rw[HOK.out.wl,HN.out];omega);rw[HOK.out.wl,HN.out] at hrr;obtain⟨gb,cgb,curg,rfl,hgb,hbg,hge⟩:=hrr;have HGB:=Lib.hid hgb;have HBG:=Lib.hid hbg;have HGE:=Lib.hid hge;clear hgb hbg hge hr)))
 obtain⟨w3,hw3⟩:∃ w3,w2.alloc (.cells #[.pointer (some ⟨yb,0,none⟩),.slice (some ⟨ab,0,none⟩) n cab,.slice (some ⟨gb,0,none⟩) n cgb] 119)=w3:=⟨_,rfl⟩
 have F3:Hid (Frm [] w w3):=Lib.hid (by rw[← hw3];exact F2.out.alloc _)
 have F13:Hid (Frm [] w1 w3):=Lib.hid (by rw[← hw3];exact F12.out.alloc _)
 have F23:Hid (Frm [] w2 w3):=Lib.hid (by rw[← hw3];exact(Frm.refl _ _).alloc _)
 have X3:Hid (w3.heap[w2.heap.size]?=some (.cells #[.pointer (some ⟨yb,0,none⟩),.slice (some ⟨ab,0,none⟩) n cab,.slice (some ⟨gb,0,none⟩) n cgb] 119 (0,0))):=Lib.hid (by rw[← hw3];exact heap_alloc_new _ _)
 have HE3:=Lib.hid hw3
 have hfl:(x.ways)[f]?=some (x.ways.getD f []):=some_getD (by rw[HOK.out.wl];exact HFL.out)
 obtain⟨rvf,q0,q1⟩:=HGE.out f _ hfl
 obtain⟨ar,cr,rfl⟩:=q1.shape
 rw[HOK.out.wr f HFL.out,HN.out,Nat.mul_one] at q0
 have CR:Hid (∀ V,Frm [] w V→Calls Tryz.prog 133 #[.slice ar n cr] V (RetV (Fr 1 138 (CoAt s.cls s.cap w) V (x.ways.getD f [])))):=Lib.hid fun V hV=>by
  have:=clRowAt_any s.cls s.cap w (.slice ar (x.ways.getD f []).length cr) (x.ways.getD f []) V (q1.imp fun _ _ _ h=>CoAt.frm h hV) (by rw[HOK.out.wr f HFL.out];omega)
  rwa [HOK.out.wr f HFL.out,HN.out] at this
 have HQ0:=Lib.hid q0
 have HS3:Hid (∀ V,Frm [] w3 V→V.cell? ⟨w2.heap.size,2,none⟩=some (.slice (some ⟨gb,0,none⟩) n cgb)∧V.cell? ⟨gb,f,none⟩=some (.slice ar n cr)):=Lib.hid fun V hV=>⟨hV.keep (cell_of X3.out 2),(F23.out.trans hV).keep HQ0.out⟩
 clear hw3 hfl q0 q1 CA CW HS
 go_upto_region 2 with fail
 rw[HE3.out]
 have HAE3:Hid (∀ (i:Nat) a,(actsP s x)[i]?=some a→AoAt w w3 ab (i * 2) a):=Lib.hid fun i a ha=>(HAE.out i a ha).frm F13.out
 have HGE3:Hid (∀ (i:Nat) R,x.ways[i]?=some R→WoAt s.cls s.cap w w3 gb (i * 1) R):=Lib.hid fun i R hR=>(HGE.out i R hR).frm F23.out
 have BA3:=Lib.hid (F13.out.at HBA.out (by simp))
 have BG3:=Lib.hid (F23.out.at HBG.out (by simp))
 have HL:Hid (w.heap.size≤w2.heap.size∧w.heap.size≤ab∧w.heap.size≤gb):=Lib.hid ⟨F2.out.size,HAB.out,Nat.le_trans F1.out.size HGB.out⟩
 obtain⟨xb,hxb⟩:∃ xb,w2.heap.size=xb:=⟨_,rfl⟩
 rw[hxb] at HS3 X3 HL ⊢
 clear hxb F12 HAE HGE HBA HBG HAB HGB HE3 F13 F23 HQ0 F1 F2
 obtain⟨y1,y2⟩:=HS3.out w3 (Frm.refl _ _)
 have hgl:=cell_lt y2
 go_cut [] (fun wc=>∃ rb,Ch2 w s x yb xb ab gb rb f wc)
 case first =>
  go_region_law (first
   | (go_simp;go_at_call 133;go_must (refine(CR.out _ F3.out.drew).mono ?_;rintro e w5 ⟨u,rfl,hr⟩;have F35:Hid (Frm [] w3 w5):=Lib.hid ((Frm.refl [] w3).drew.trans hr.frm);have hrr:=hr.row (by rw[HOK.out.wr f HFL.out,HN.out];omega);rw[HOK.out.wr f HFL.out,HN.out] at hrr;obtain⟨rb,crb,curr,rfl,hrb,hbr,hre⟩:=hrr;have HRB:=Lib.hid hrb;have HBR:=Lib.hid hbr;have HRE:=Lib.hid hre;have bg5:=F35.out.at BG3.out (by simp);obtain⟨cx5,cg5⟩:=HS3.out _ F35.out;have fg5:=free_of bg5 f;have BG5:=Lib.hid bg5;clear hrb hbr hre hr bg5)))
  all_goals
   go_wp2
   go_meet
   exact⟨rb,ch2_mk HN.out HOK.out HFL.out (F3.out.trans F35.out) F35.out HL.out.1 HL.out.2.1 HL.out.2.2 HRB.out X3.out BA3.out HAE3.out BG5.out BG3.out HGE3.out HBR.out HRE.out⟩
 case rest =>
  obtain⟨rb,h2⟩:=hcut
  have H2:=Lib.hid h2
  clear h2 y1 y2 hgl HS3 X3 HAE3 HGE3 BA3 BG3 HL CR
  have h3:=H2.out
  obtain⟨cax,cgx,hx3⟩:=h3.hx
  obtain⟨cr3,hr3⟩:=h3.rowf
  obtain⟨c0,G0,hc3,hch⟩:=h3.chs t HTL.out
  obtain⟨cg3,tg3⟩:=h3.tg
  obtain⟨ct3,tr3⟩:=h3.tr
  rw[HN.out] at hx3 hr3
  have FW:=Lib.hid h3.fr
  have HCH:=Lib.hid hch
  have HS4:Hid (∀ V,Frm [] wc V→V.cell? ⟨xb,2,none⟩=some (.slice (some ⟨gb,0,none⟩) n cgx)∧V.cell? ⟨gb,f,none⟩=some (.slice (some ⟨rb,0,none⟩) n cr3)∧V.cell? ⟨rb,t,none⟩=some (.pointer (some ⟨c0,0,none⟩))∧V.frozen? ⟨rb,t,none⟩=false):=
   Lib.hid fun V hV=>⟨hV.keep (cell_of hx3 2),hV.keep hr3,hV.keep hc3,free_of (hV.at tr3 (by simp)) t⟩
  have CC:=Lib.hid (copy_any (hch.frm h3.fr.drew (by simp)))
  have y1:=cell_of hx3 2
  have hl1:=cell_lt y1
  have hl2:=cell_lt hr3
  have hl3:=cell_lt hc3
  clear h3 hx3 tg3 tr3 hch
  go_upto_region 3 with fail
  go_cut [] (fun wd=>∃ cb F,ChS w s x yb xb ab gb rb cb f t F (x.way f t) wd)
  case first =>
   go_region_law (first
    | (go_simp;go_at_call 67;go_must (refine CC.out.mono ?_;rintro e w7 ⟨u,rfl,cb,F,rfl,hcn,hfr,hF⟩;have F7:Hid (Frm [] wc w7):=Lib.hid ((Frm.refl [] wc).drew.trans hfr);have HCN:=Lib.hid hcn;have HFF:=Lib.hid hF;obtain⟨a1,a2,a3,a4⟩:=HS4.out _ F7.out;clear hcn hfr hF)))
   all_goals
    go_wp2
    go_meet
    exact⟨cb,F,H2.out.fin F7.out HCN.out HFF.out HTL.out⟩
  case rest =>
   obtain⟨cb,F,hcs⟩:=hcut
   have HCS:=Lib.hid hcs
   obtain⟨cax',cgx',hx4⟩:=hcs.hx
   obtain⟨cr4,hr4⟩:=hcs.rowf
   rw[HN.out] at hx4 hr4
   have HS5:Hid (∀ V,Frm [] wc V→V.cell? ⟨xb,2,none⟩=some (.slice (some ⟨gb,0,none⟩) n cgx')∧V.cell? ⟨gb,f,none⟩=some (.slice (some ⟨rb,0,none⟩) n cr4)∧V.cell? ⟨rb,t,none⟩=some (.pointer (some ⟨cb,0,none⟩))):=
    Lib.hid fun V hV=>⟨hV.keep (cell_of hx4 2),hV.keep hr4,hV.keep hcs.cht⟩
   clear hcs hx4 hr4 y1 hl1 hl2 hl3 hc3 hr3 HS4 CC H2
   go_upto_region 4 with fail
   refine wp_region_cq (by kernel_rfl) (by kernel_rfl) ?_
   repeat (first
    | go_big_quiet_skip
    | (refine wpQuiet_want (by rfl) (fun K hK=>?_)
       first
        | (refine quiet_move _ (by rfl) (hK _ ?_))
        | (refine quiet_assign _ (by rfl) (hK _ ?_))
        | (apply Exists.intro
           refine⟨fun w' hC=>?_,hK _ ?_⟩
           ·(unfold Oper.quietAt
             obtain⟨z1,z2,z3⟩:=HS5.out w' hC
             clear hC
             go_simp
             try exact⟨rfl,rfl⟩
             try rfl))
       clear hK K
       try simp only[nrm,Act.eval,nrq]))
   refine wpQuiet_nil ?_
   intro w9 hf9
   go_wp2
   go_ret2
   exact⟨_,rfl,xb,ab,gb,rb,cb,F,rfl,HCS.out.frm hf9⟩
end Go.Proofs.YtkphhjekfimmlaaGreat
namespace Go.Proofs.YtkphhjekfimmlaaGreat
open Go.RowKit Go.BigFrame
abbrev encM (m:Mv):Array Value:=#[.int .i64 m.kind,.int .i64 m.role,.int .i64 m.step,.int .i64 m.place]
theorem Tryz.undMv:Tryz.prog.underlying 45=some (.struct (Tryz.prog.fieldsOf 45)):=by kernel_rfl
set_option maxHeartbeats 1000000 in
set_option maxRecDepth 100000 in
theorem eql_move (a b:Mv) (w:World):(binOp .eql 45 (.agg (encM a)) (.agg (encM b))).run Tryz.prog w=.ok (.bool (decide (a=b))) w:=by
 have h:(Op.equalIn (9999 + 1) 45 (.agg (encM a)) (.agg (encM b))).run Tryz.prog w=.ok (decide (a=b)) w:=by
  rw[run_equalIn_struct w 9999 45 _ _ Tryz.undMv (by kernel_rfl)]
  simp[go_sem,encM,Tryz.underlying45]
  obtain⟨a1,a2,a3,a4⟩:=a
  obtain⟨b1,b2,b3,b4⟩:=b
  simp only[Mv.mk.injEq]
  repeat' split
  all_goals simp[*]
 simp only[binOp]
 simp[show Op.equal 45 (.agg (encM a)) (.agg (encM b))=Op.equalIn (9999 + 1) 45 (.agg (encM a)) (.agg (encM b)) from rfl,h]
set_option maxHeartbeats 1000000 in
theorem inMove_any (v:Value) (xs:List Mv) (y:Mv) (w:World) (h:Arr 4 MvAt w v xs) (hl:xs.length≤5000) :
  Calls Tryz.prog 130 #[v,.agg (encM y)] w (Ret (.int .i64 (ixf (fun x=>decide (y=x)) xs)) (Frm [] w)):=by
 obtain⟨ao,cap,rfl,hx⟩:=h
 have HX:=Lib.hid hx
 obtain⟨n,hn⟩:∃ n,xs.length=n:=⟨_,rfl⟩
 rw[hn] at hl ⊢
 have HN:=Lib.hid hn
 obtain⟨W0,hW0⟩:∃ W0,w.alloc (.cells (encM y) 45)=W0:=⟨_,rfl⟩
 have HW0:Hid (Frm [] w W0):=Lib.hid (by rw[← hW0];exact(Frm.refl _ _).alloc _)
 have HB:Hid (W0.heap[w.heap.size]?=some (.cells (encM y) 45 (0,0))):=Lib.hid (by rw[← hW0];exact heap_alloc_new w _)
 have HE:=Lib.hid hW0
 clear hx hn hW0
 go_enter Tryz.func130,Tryz.ntmps130
 go_wp2_with (refine wpList_box_row rfl 45 _ rfl (encM y) rfl ?_;rw[HE.out])
 clear HE
 go_loopw [8,5] (fun s8 s5 wr=>∃ i:Nat,s8=.int .i64 i∧i≤n∧Frm [] W0 wr∧∀ j x,j < i→xs[j]?=some x→decide (y=x)=false) (fun s8 _ _=>n - (intOf s8).toNat)
 case atStart=>exact⟨0,rfl,Nat.zero_le _,Frm.refl _ _,fun j x hj=>by omega⟩
 case round =>
  obtain⟨i,rfl,hi,hf,hno⟩:=hrel
  have HF:=Lib.hid hf;have HNO:=Lib.hid hno
  clear hf hno
  by_cases hlt:i < n
  ·have hlt':(i:Int) < (n:Int):=by omega
   obtain⟨x,hx⟩:∃ x,xs[i]?=some x:=⟨_,List.getElem?_eq_getElem (by rw[HN.out];exact hlt)⟩
   obtain⟨b,o,rfl,hat⟩:=HX.out i x hx
   obtain⟨c0,c1,c2,c3⟩:=hat.frm (HW0.out.trans HF.out)
   have hbb:=HF.out.at HB.out (by simp)
   have d0:wr.cell? ⟨w.heap.size,0,none⟩=some (.int .i64 y.kind):=cell_of hbb 0
   have d1:wr.cell? ⟨w.heap.size,1,none⟩=some (.int .i64 y.role):=cell_of hbb 1
   have d2:wr.cell? ⟨w.heap.size,2,none⟩=some (.int .i64 y.step):=cell_of hbb 2
   have d3:wr.cell? ⟨w.heap.size,3,none⟩=some (.int .i64 y.place):=cell_of hbb 3
   have hq:∀ V,(binOp .eql 45 (mvV y) (mvV x)).run Tryz.prog V=.ok (.bool (decide (y=x))) V:=fun V=>eql_move y x V
   have HXI:=Lib.hid hx
   clear hat hx hbb
   cases hpx:decide (y=x) with
   | true =>
     rw[hpx] at hq
     have HPX:=Lib.hid hpx
     clear hpx
     go_wp2
     go_quiet (fail)
     go_wp2
     go_ret
     exact⟨by rw[ixf_some HXI.out HPX.out HNO.out];rfl,HW0.out.trans (HF.out.drewN _)⟩
   | false =>
     rw[hpx] at hq
     have HPX:=Lib.hid hpx
     clear hpx
     go_wp2
     go_quiet (fail)
     go_wp2
     refine⟨⟨i + 1,by simp,hlt,HF.out.drewN _,fun j z hj hz=>?_⟩,by simp[intOf];omega⟩
     by_cases e:j=i
     ·subst e;rw[HXI.out] at hz;cases hz;exact HPX.out
     ·exact HNO.out j z (by omega) hz
  ·have hge:¬ (i:Int) < (n:Int):=by omega
   go_wp2
   go_ret
   refine⟨?_,HW0.out.trans HF.out⟩
   have e:=ixf_none (p:=fun x=>decide (y=x)) (l:=xs) fun x hx=>by
    obtain⟨j,hj⟩:=List.getElem?_of_mem hx
    exact HNO.out j x (by have:=lt_of_some hj;rw[HN.out] at this;omega) hj
   rw[e];rfl
theorem mem_ixm {xs:List Mv} {y:Mv}:decide (0≤ixf (fun x=>decide (y=x)) xs)=decide (y∈xs):=by
 by_cases h:y∈xs
 ·rw[decide_eq_true (ixf_ex (p:=fun x=>decide (y=x)) h (by simp)),decide_eq_true h]
 ·rw[decide_eq_false h,decide_eq_false]
  intro h2
  obtain⟨i,hi,-⟩:=ixf_nat h2
  obtain⟨x,h3,h4,-⟩:=ixf_at hi
  rw[decide_eq_true_eq] at h4
  subst h4
  exact h (List.mem_of_getElem? h3)
set_option maxHeartbeats 1000000 in
theorem coMove_any (v:Value) (xs:List Mv) (y:Mv) (w:World) (h:Arr 4 MvAt w v xs) (hl:xs.length≤5000) :
  Calls Tryz.prog 73 #[v,.agg (encM y)] w (Ret (.bool (decide (y∈xs))) (Frm [] w)):=by
 obtain⟨ao,cap,e,-⟩:=id h
 subst e
 have hf0:Frm [] w (w.alloc (.cells (encM y) 45)):=(Frm.refl _ _).alloc _
 have C1:=Lib.hid (inMove_any (.slice ao xs.length cap) xs y (w.alloc (.cells (encM y) 45)) (h.frm fun _ _ _ h=>h.frm hf0) hl)
 have HF0:=Lib.hid hf0
 rw[← mem_ixm]
 obtain⟨q,hq⟩:∃ q,ixf (fun x=>decide (y=x)) xs=q:=⟨_,rfl⟩
 rw[hq] at C1 ⊢
 have hb:(w.alloc (.cells (encM y) 45)).heap[w.heap.size]?=some (.cells (encM y) 45 (0,0)):=heap_alloc_new w _
 obtain⟨W0,hW0⟩:∃ W0,w.alloc (.cells (encM y) 45)=W0:=⟨_,rfl⟩
 rw[hW0] at C1 HF0 hb
 have HB:=Lib.hid hb
 have HW:=Lib.hid hW0
 clear h hf0 hq hW0 hb
 go_enter Tryz.func73,Tryz.ntmps73
 go_wp2_with (first
  | (refine wpList_box_row rfl 45 _ rfl (encM y) rfl ?_;rw[HW.out])
  | (refine wpList_load_whole rfl 45 _ rfl _ rfl _ 45 HB.out _ Tryz.underlying45 rfl (by kernel_rfl) ?_)
  | (go_at_call 130;go_must (refine C1.out.mono ?_;rintro e w1 ⟨rfl,hf1⟩;have HF1:=Lib.hid hf1;clear hf1)))
 go_ret
 exact⟨rfl,HF0.out.trans HF1.out⟩
end Go.Proofs.YtkphhjekfimmlaaGreat
namespace Go.Proofs.YtkphhjekfimmlaaGreat
open Go.RowKit Go.BigFrame
abbrev YB (w:World) (ob:Nat) (L:List UInt8) (W:World):Prop:=BO 26 5 1 w ob L.length (L.map u8) W
abbrev byT:List TypeId:=[26,5]
theorem YB.add {w W w1:World} {ob m:Nat} {L M:List UInt8} {ao:Option Addr} {cap:Nat} {o:Obj} {v':Value} (h:YB w ob L W) (h1:W.heap[ob]?=some (.cells #[.slice ao L.length cap] 26 (0,0))) (h2:W.ownsRow w.heap.size 5 1 (.slice ao L.length cap) L.length (L.map u8))
  (hg:(W.alloc o).grownBy w1 (Value.slice ao L.length cap).ownBlock) (hm:M.length=m) (ho:w1.ownsRow w.heap.size 5 1 v' (L.length + m) (L.map u8 ++ M.map u8)) :
  YB w ob (L ++ M) (w1.setCell ⟨ob,0,none⟩ v')∧Kt byT W (w1.setCell ⟨ob,0,none⟩ v'):=by
 have:=h.step h1 h2 (by decide) hg ho
 unfold YB
 rw[List.map_append,List.length_append,hm]
 exact this
theorem CtR.kt {B:Nat} {lv:Value} {l:List (CtrD × Int)} {W W':World} (h:CtR B lv l W) (hk:Kt byT W W'):CtR B lv l W':=by
 refine⟨hk.cells h.b (by decide),?_,fun ao n c e hn=>?_⟩
 ·obtain⟨ao,c,rfl,hx⟩:=h.a
  refine⟨ao,c,rfl,fun i x hi=>?_⟩
  obtain⟨b,o,e,a0,a1,a2⟩:=hx i x hi
  obtain⟨g,cur,e2,hg⟩:=h.t _ _ _ rfl (by have:=lt_of_some hi;omega)
  have ebg:g=b∧0=o:=by rw[e2] at e;injection e with e;injection e with e1 e3;exact⟨e1,e3⟩
  obtain⟨rfl,rfl⟩:=ebg
  have hg':=hk.cells hg (by decide)
  rw[cell_of hg] at a0 a1 a2
  exact⟨g,0,e2,(cell_of hg' _).trans a0,(cell_of hg' _).trans a1,(cell_of hg' _).trans a2⟩
 ·obtain⟨g,cur,e1,e2⟩:=h.t _ _ _ e hn
  exact⟨g,cur,e1,hk.cells e2 (by decide)⟩
theorem two_wrap {v:Int} (h0:0≤v) (h1:v≤65535):u8 (UInt8.ofNat (v.toNat / 256))=.int .u8 (v / 256)∧u8 (UInt8.ofNat (v.toNat % 256))=.int .u8 (v % 256):=by
 obtain⟨n,rfl⟩:=Int.eq_ofNat_of_zero_le h0
 unfold u8
 simp only[Int.toNat_natCast,UInt8.toNat_ofNat']
 constructor
 ·congr 1
  have:n / 256 < 256:=by omega
  rw[Nat.mod_eq_of_lt this];rfl
 ·congr 1
  have:n % 256 < 256:=by omega
  rw[Nat.mod_eq_of_lt this];rfl
theorem at_wrap {p:Nat} (h:p < 256):u8 (UInt8.ofNat p)=.int .u8 (p:Int):=by
 unfold u8
 rw[UInt8.toNat_ofNat',Nat.mod_eq_of_lt h]
end Go.Proofs.YtkphhjekfimmlaaGreat
namespace Go.Proofs.YtkphhjekfimmlaaGreat
open Go.RowKit Go.BigFrame Go.Lib
theorem strCells_byt (s:ByteArray):strCells s=(byt s).map u8:=rfl
theorem app_str {ty:TypeId} {W:World} {base:Nat} {v:Value} {xs:List UInt8} (ho:W.ownsRow base 5 1 v xs.length (xs.map u8)) (s:ByteArray) (hn:xs.length + s.size≤4000000) (hb:base≤W.heap.size) :
  ∃ v' W',(Builtin.append_ #[26,9] ty #[v,.string s]).run Tryz.prog W=.ok v' W'∧W'.ownsRow base 5 1 v' (xs ++ byt s).length ((xs ++ byt s).map u8)∧W.grownBy W' v.ownBlock:=by
 obtain⟨i0,hi0,hz0,hz1,hz2⟩:=info_parts Tryz.info5
 obtain⟨v',W',h1,h2,h3,-⟩:=run_append_own_string (P:=Tryz.prog) W base 26 9 ty 5 i0 Tryz.underlying26 Tryz.underlying9 hi0 hz0 hz1 hz2 v xs.length (xs.map u8) ho s (by unfold maxLen;omega) (by omega) hb
 refine⟨v',W',h1,?_,h3⟩
 rw[List.length_append,List.map_append,← strCells_byt]
 have:(byt s).length=s.size:=by unfold byt;simp
 rw[this]
 exact h2
theorem step_app_str {ops:Array Oper} {o:Oper} {a:Act} {w:World} {K:Act→World→Prop} {Q:Exit→Act→World→Prop} {E:Prop} (hgd:o.guard=none) (s x:Operand) (ho:o.op=.call { callee:=.builtin .append,args:=#[s,x],argTypes:=#[26,9] })
  (base:Nat) (v:Value) (sv:ByteArray) (hs:a.eval s=v) (hx:a.eval x=.string sv) (xs:List UInt8) (hown:w.ownsRow base 5 1 v xs.length (xs.map u8)) (hn:xs.length + sv.size≤4000000) (hb:base≤w.heap.size)
  (h:∀ ao cp w',w'.ownsRow base 5 1 (.slice ao (xs ++ byt sv).length cp) (xs ++ byt sv).length ((xs ++ byt sv).map u8)→w.grownBy w' v.ownBlock→K (a.put o.dst (.slice ao (xs ++ byt sv).length cp)) w'):if Region.wanted o (yielded ops a.tmps)=true then Oper.wp Tryz.prog o a w K Q else E:=by
 have hw:Region.wanted o (yielded ops a.tmps)=true:=by simp[Region.wanted,hgd]
 rw[if_pos hw]
 obtain⟨v',w',hrun,r1,r2⟩:=app_str (ty:=o.type) hown sv hn hb
 obtain⟨ao,cp,rfl⟩:=own_shape r1
 unfold Oper.wp
 simp[execOp,ho,resolve,invoke,builtin,hs,hx,hrun,Result.andThen]
 have hk:=h ao cp w' r1 r2
 rw[List.length_append] at hk
 exact hk
structure YP (w wr:World) (ob:Nat) (v0 v:Value) (L:List UInt8) (W:World):Prop where
 f:Frm [] w W
 b:W.heap[ob]?=some (.cells #[v0] 26 (0,0))
 o:W.ownsRow w.heap.size 5 1 v L.length (L.map u8)
 k:Kt byT wr W
section
variable {w wr W W':World} {ob:Nat} {v0 v:Value} {L l:List UInt8}
theorem YP.frm (h:YP w wr ob v0 v L W) (hf:Frm [] W W'):YP w wr ob v0 v L W':=⟨h.f.trans hf,hf.at h.b (by simp),hf.owns h.o (by simp),h.k.trans (Kt.frm hf)⟩
theorem YP.grow {v':Value} (h:YP w wr ob v0 v L W) (hg:W.grownBy W' v.ownBlock) (ho:W'.ownsRow w.heap.size 5 1 v' (L ++ l).length ((L ++ l).map u8)):YP w wr ob v0 v' (L ++ l) W':=by
 refine⟨h.f.grown hg (fun q hq=>.inr (ownBlock_ge h.o hq)),grown_at hg h.b (fun e'=>?_),ho,h.k.grown hg (fun q hq=>?_)⟩
 ·obtain⟨c,hc⟩:=ownBlock_type h.o e'
  have hb:=h.b
  rw[hb] at hc;cases hc
 ·obtain⟨c,hc⟩:=ownBlock_type h.o hq
  exact⟨c,5,(0,0),hc,by simp⟩
theorem YP.fin (h:YP w wr ob v0 v L W) (hn:w.heap.size≤ob):YB w ob L (W.setCell ⟨ob,0,none⟩ v)∧Kt byT wr (W.setCell ⟨ob,0,none⟩ v):=by
 obtain⟨ao',cp',rfl⟩:=own_shape h.o
 refine⟨⟨h.f.setCell _ (.inr hn) _,hn,ao',cp',(block_setCell h.b 0 _).trans rfl,?_⟩,h.k.set h.b (by simp) _⟩
 refine ownsRow_setCell_other h.o (fun e'=>?_) _
 obtain⟨c,hc⟩:=ownBlock_type h.o e'
 have hb:=h.b
 rw[hb] at hc;cases hc
end
set_option maxRecDepth 100000 in
theorem conv_own {W:World} {base:Nat} {ao:Option Addr} {cp:Nat} {L:List UInt8} (h:W.ownsRow base 5 1 (.slice ao L.length cp) L.length (L.map u8)) (hp:L.length≠0):(convert 26 9 (.slice ao L.length cp)).run Tryz.prog W=.ok (.string ⟨L.toArray⟩) W:=by
 obtain⟨g,c,cur,e,-,-⟩:=own_block h hp
 cases e
 exact run_convert_bytes_back _ 26 9 5 ⟨g,0,none⟩ cp L Tryz.underlying26 Tryz.underlying5 Tryz.underlying9 (fun j hj=>by
  have h1:=World.ownsRow.cellAt h j (by simpa using hj)
  rw[WideShapes.add_plain]
  rw[Nat.zero_add,h1]
  simp[u8,hj])
end Go.Proofs.YtkphhjekfimmlaaGreat
