/- Part of the proof. -/
import Derived.Test.YtohfkhjlnlahdaaGreatW23
import Derived.Test.YtohfkhjlnlahdaaGreatW14
import Derived.Test.YtohfkhjlnlahdaaGreatW31
import Derived.Test.YtohfkhjlnlahdaaGreatW32
set_option linter.all false
namespace Go.Proofs.YtohfkhjlnlahdaaGreat
open Go.RowKit Go.BigFrame
structure DefsOk (cs:List CtrD):Prop where
 n:cs.length≤4
 ne:∀ c∈cs,c.name≠emptyS
 lo:∀ c∈cs,1≤c.lim∧c.lim≤1000
 un:∀ (i j:Nat) (a b:CtrD),cs[i]?=some a→cs[j]?=some b→a.name=b.name→i=j
def zeroC (cs:List CtrD):List (CtrD × Int):=cs.map fun c=>(c,0)
theorem zeroC_length (cs:List CtrD):(zeroC cs).length=cs.length:=by unfold zeroC;rw[List.length_map]
theorem zeroC_snoc {cs:List CtrD} {i:Nat} {c:CtrD} (h:cs[i]?=some c):zeroC (cs.take (i + 1))=zeroC (cs.take i) ++ [(c,0)]:=by
 unfold zeroC
 rw[List.take_add_one,h,List.map_append];rfl
theorem zero_find {cs:List CtrD} (h:DefsOk cs) {i:Nat} {c:CtrD} (hc:cs[i]?=some c):cnIx (zeroC (cs.take i)) c.name=-1:=by
 refine ixf_none fun x hx=>?_
 unfold zeroC at hx
 rw[List.mem_map] at hx
 obtain⟨d,hd,rfl⟩:=hx
 obtain⟨j,hj⟩:=List.getElem?_of_mem hd
 rw[List.getElem?_take] at hj
 split at hj
 ·rename_i hji
  rw[decide_eq_false_iff_not]
  intro e
  have:=h.un j i d c hj hc e
  omega
 ·cases hj
theorem Tryz.infoCn:(Tryz.prog.info? 246).map (fun i=>(i.zero,i.size,i.bytes))=some (some (.agg #[.string { data:=#[] },.int .i64 0,.int .i64 0]),3,32):=by kernel_rfl
def NwTo (w:World) (l:List (CtrD × Int)) (u:Value) (w':World):Prop:=∃ bb,u=.tuple #[.pointer (some ⟨bb,0,none⟩),.int .i64 0]∧GO 248 246 3 w bb 1 #[.bool true,undef] l.length (cnC l) w'
theorem GO.bnk {w W:World} {bb:Nat} {l:List (CtrD × Int)} (h:GO 248 246 3 w bb 1 #[.bool true,undef] l.length (cnC l) W):Bnk W bb l:=by
 obtain⟨ao,cap,h1,h2⟩:=h.bx
 exact⟨_,h1,cn_arr h2⟩
set_option maxHeartbeats 4000000 in
set_option maxRecDepth 100000 in
theorem bNew_any (v:Value) (cs:List CtrD) (w:World) (h:Arr 2 CtAt w v cs) (hok:DefsOk cs):Calls Tryz.prog 114 #[v] w (RetV (NwTo w (zeroC cs))):=by
 obtain⟨ao,cap,rfl,hx⟩:=h
 have HX:=Lib.hid hx
 have HOK:=Lib.hid hok
 obtain⟨n,hn⟩:∃ n,cs.length=n:=⟨_,rfl⟩
 have HN:=Lib.hid hn
 have h4:¬ 4 < (n:Int):=by have:=hok.n;omega
 rw[hn]
 obtain⟨W0,hW0⟩:∃ W0,w.alloc (.cells #[.bool true,.slice none 0 0] 248)=W0:=⟨_,rfl⟩
 have HG0:Hid (GO 248 246 3 w w.heap.size 1 #[.bool true,undef] 0 (cnC (zeroC (cs.take 0))) W0):=Lib.hid (GO.made (by rw[← hW0];exact(Frm.refl _ _).alloc _) (Nat.le_refl _) (by rw[← hW0];exact heap_alloc_new _ _) rfl)
 have HE:=Lib.hid hW0
 clear hx hok hn hW0
 go_enter Tryz.func114,Tryz.ntmps114
 go_wp2
 rw[HE.out]
 clear HE h4
 go_loopw [14] (fun s14 wl=>∃ i:Nat,s14=.int .i64 i∧i≤n∧GO 248 246 3 w w.heap.size 1 #[.bool true,undef] i (cnC (zeroC (cs.take i))) wl) (fun s14 _=>n - (intOf s14).toNat)
 case atStart=>exact⟨0,rfl,Nat.zero_le _,HG0.out⟩
 case round =>
  obtain⟨i,rfl,hi,hg⟩:=hrel
  have HG:=Lib.hid hg
  clear HG0 hg
  by_cases hlt:i < n
  ·have hlt':(i:Int) < (n:Int):=by omega
   obtain⟨c,hc⟩:∃ c,cs[i]?=some c:=⟨_,List.getElem?_eq_getElem (by rw[HN.out];exact hlt)⟩
   have hmem:=List.mem_of_getElem? hc
   obtain⟨b,o,rfl,c0,c1⟩:=HX.out i c hc
   replace c0:=HG.out.fr.keep c0
   replace c1:=HG.out.fr.keep c1
   have hemp:c.name.toList.isEmpty=false:=emp_no (HOK.out.ne c hmem)
   obtain⟨l1,l2⟩:=HOK.out.lo c hmem
   have l1':¬ c.lim < 1:=by omega
   have l2':¬ 1000 < c.lim:=by omega
   have hti:(zeroC (cs.take i)).length=i:=by rw[zeroC_length,List.length_take];have:=lt_of_some hc;omega
   have CF:Hid (∀ V,Frm [] wr V→Calls Tryz.prog 137 #[.pointer (some ⟨w.heap.size,0,none⟩),.string c.name] V (Ret (.int .i64 (-1)) (Frm [] V))):=Lib.hid fun V hV=>by
    have hb:Bnk V w.heap.size (zeroC (cs.take i)):=GO.bnk (by rw[hti];exact HG.out.frm hV)
    have:=bFind_any w.heap.size _ c.name V hb (by rw[hti];have:=HN.out;have:=HOK.out.n;omega)
    rwa [zero_find HOK.out hc] at this
   have HSN:=Lib.hid (zeroC_snoc hc)
   have HTI:=Lib.hid hti
   clear hc hmem l1 l2 hti
   obtain⟨i0,hi0,hz0,hz1,hz2⟩:=info_parts Tryz.infoCn
   have HBX:Hid ((wr.alloc (.cells #[.string c.name,.int .i64 c.lim] 244)).heap[wr.heap.size]?=some (.cells #[.string c.name,.int .i64 c.lim] 244 (0,0))):=Lib.hid (heap_alloc_new _ _)
   go_upto_region 9 with (first
    | (go_at_call 137;go_must (refine(CF.out _ ((Frm.refl [] wr).alloc _)).mono ?_;rintro e w2 ⟨rfl,hf2⟩;have HF2:Hid (Frm [] wr w2):=Lib.hid (((Frm.refl [] wr).alloc _).trans hf2);have HB2:=Lib.hid (hf2.at HBX.out (by simp));clear hf2)))
   clear c0 c1 l1' l2' hemp CF HBX
   have HG2:=Lib.hid (HG.out.frm HF2.out)
   obtain⟨ab,cb,hb1,hb2⟩:=HG2.out.bx
   have hb1':w2.heap[w.heap.size]?=some (.cells #[.bool true,.slice ab i cb] 248 (0,0)):=hb1
   have HB1:=Lib.hid hb1;have HO1:=Lib.hid hb2
   have cx:=cell_of hb1' 1
   have fx:=free_of hb1' 1
   have cy0:=cell_of HB2.out 0
   have cy1:=cell_of HB2.out 1
   have lx:=lt_of_block hb1
   have hi4:i < 4:=by have:=HOK.out.n;have:=HN.out;omega
   clear hb1 hb2 hb1'
   generalize hQQ:Exit.inBlock _ _=QQ
   refine wp_mono (Q:=fun e a' w'=>match e with | .normal=>QQ .normal a' w' | _=>False) ?_ (fun e a' w' h=>by cases e <;> first | exact h | exact h.elim)
   go_region_law (first
    | (refine step_append_own_at rfl _ _ 241 rfl w.heap.size 246 i0 (.agg #[.string { data:=#[] },.int .i64 0,.int .i64 0]) 3 32 Tryz.underlying241 hi0 hz0 hz1 hz2 rfl (by decide) (.slice ab i cb) i (cnC (zeroC (cs.take i))) ?_ (((Frm.refl [] w2).drew.alloc _).owns HO1.out (by simp)) ⟨w2.heap.size,0,none⟩ 1 1 [.string c.name,.int .i64 c.lim,.int .i64 0] ?_ rfl (new_row w2.drew _ _) ?_ ?_ ?_ ?_ ?_;(focus (go_simp;done));(focus (go_simp;done));(focus (simp[Value.oneCell'];done));(focus (unfold maxLen;omega));(focus omega);(focus (have:=HG2.out.fr.size;simp;omega));intro v' w6 hown' hgrow;obtain⟨ao6,cp6,rfl⟩:=own_shape hown';have hs:=GO.step HG2.out HB1.out HO1.out (by decide) ((Frm.refl [] w2).drew.alloc _) hgrow hown';have hbx:w6.heap[w.heap.size]?=some (.cells #[.bool true,.slice ab i cb] 248 (0,0)):=GO.facts HB1.out HO1.out (by decide) ((Frm.refl [] w2).drew.alloc _) hgrow;have cx6:=cell_of hbx 1;have fx6:=free_of hbx 1;have HS:=Lib.hid hs.1;clear hs hbx hown' hgrow))
   all_goals
    subst hQQ
    go_wp2
    refine⟨⟨i + 1,congrArg (Value.int .i64) (by omega),hlt,?_⟩,by simp[intOf];omega⟩
    rw[HSN.out,cnC_append]
    exact HS.out
  ·obtain rfl:i=n:=by omega
   have hge:¬ (i:Int) < (i:Int):=by omega
   have ht:cs.take i=cs:=by rw[← HN.out,List.take_length]
   have HT:=Lib.hid ht
   clear ht
   go_wp2
   go_ret2
   refine⟨_,rfl,_,rfl,?_⟩
   have:=HG.out
   rw[HT.out] at this
   rw[zeroC_length,HN.out]
   exact this
end Go.Proofs.YtohfkhjlnlahdaaGreat
namespace Go.Proofs.YtohfkhjlnlahdaaGreat
open Go.RowKit Go.BigFrame
def Kp (I:Nat→Prop) (T:List TypeId) (W V:World):Prop:=∀ k c t,I k→W.heap[k]?=some (.cells c t (0,0))→t∉T→V.heap[k]?=some (.cells c t (0,0))
section
variable {I J:Nat→Prop} {T:List TypeId} {W V:World}
theorem Kp.of_kt (h:Kt T W V):Kp I T W V:=fun _ _ _ _ hk ht=>h.cells hk ht
theorem Kp.of_agree {B:Nat} (h:Agree B W V) (hI:∀ k,I k→B≤k):Kp I [] W V:=fun k _ _ hi hk _=>(h k (hI k hi) (lt_of_block hk)).trans hk
theorem Kp.of_frm {F:List Nat} (h:Frm F W V) (hI:∀ k,I k→k∉F):Kp I [] W V:=fun k _ _ hi hk _=>h.at hk (hI k hi)
theorem Kp.of_frm0 (h:Frm [] W V):Kp I [] W V:=Kp.of_frm h (by simp)
theorem Kp.row {base e size n:Nat} {v:Value} {xs:List Value} (h:Kp I T W V) (ho:W.ownsRow base e size v n xs) (hi:∀ k,v.ownBlock=some k→I k) (he:e∉T):V.ownsRow base e size v n xs:=by
 obtain⟨h1,h2⟩:=ho
 refine⟨h1,?_⟩
 rcases h2 with h2 | ⟨g,cap,cur,hv,hg,hh,r⟩
 ·exact .inl h2
 ·exact .inr ⟨g,cap,cur,hv,hg,h g _ _ (hi g (by rw[hv];rfl)) hh he,r⟩
def ChO (I:Nat→Prop) (W:World) (cb:Nat) (cls cap:Int) (L:List ByteArray):Prop:=∃ F,Chn W cb cls cap L F∧∀ x∈F,I x
theorem ChO.kp {cb:Nat} {cls cap:Int} {L:List ByteArray} (h:ChO I W cb cls cap L) (hk:Kp I T W V) (h1:233∉T) (h2:9∉T):ChO I V cb cls cap L:=by
 obtain⟨F,⟨sv,g1,g2,g3,rfl⟩,hI⟩:=h
 exact⟨_,⟨sv,hk cb _ _ (hI cb (by simp)) g1 h1,hk.row g2 (fun k hk=>hI k (by simp[hk])) h2,g3,rfl⟩,hI⟩
abbrev pv (cb:Nat):Value:=.pointer (some ⟨cb,0,none⟩)
def RowC (I:Nat→Prop) (W:World) (cls cap:Int) (cells:List Value) (Ls:List (List ByteArray)):Prop:=cells.length=Ls.length∧∀ (k:Nat) L,Ls[k]?=some L→∃ cb,cells[k]?=some (pv cb)∧ChO I W cb cls cap L
def RowO (I:Nat→Prop) (W:World) (cls cap:Int) (r:Value) (Ls:List (List ByteArray)):Prop:=∃ base cells,W.ownsRow base 130 1 r Ls.length cells∧(∀ k,r.ownBlock=some k→I k)∧RowC I W cls cap cells Ls
theorem RowC.kp {cls cap:Int} {cells:List Value} {Ls:List (List ByteArray)} (h:RowC I W cls cap cells Ls) (hk:Kp I T W V) (h1:233∉T) (h2:9∉T):RowC I V cls cap cells Ls:=by
 refine⟨h.1,fun k L hL=>?_⟩
 obtain⟨cb,g1,g2⟩:=h.2 k L hL
 exact⟨cb,g1,g2.kp hk h1 h2⟩
theorem snoc_at {α:Type} {l:List α} {x y:α} {k:Nat} (h:(l ++ [x])[k]?=some y):l[k]?=some y∨(k=l.length∧y=x):=by
 by_cases hk:k < l.length
 ·rw[List.getElem?_append_left hk] at h;exact .inl h
 ·rw[List.getElem?_append_right (by omega)] at h
  have hl:=lt_of_some h
  simp at hl
  have e:k - l.length=0:=by omega
  rw[e] at h
  simp at h
  exact .inr ⟨by omega,h.symm⟩
theorem RowC.snoc {cls cap:Int} {cells:List Value} {Ls:List (List ByteArray)} {cb:Nat} {L:List ByteArray} (h:RowC I W cls cap cells Ls) (hc:ChO I W cb cls cap L):RowC I W cls cap (cells ++ [pv cb]) (Ls ++ [L]):=by
 refine⟨by simp[h.1],fun k L' hL=>?_⟩
 rcases snoc_at hL with hL | ⟨rfl,rfl⟩
 ·obtain⟨cb',g1,g2⟩:=h.2 k L' hL
  exact⟨cb',by rw[List.getElem?_append_left (lt_of_some g1)];exact g1,g2⟩
 ·exact⟨cb,by rw[← h.1];simp,hc⟩
theorem RowC.nil {cls cap:Int}:RowC I W cls cap [] []:=⟨rfl,fun k L h=>by simp at h⟩
theorem RowO.kp {cls cap:Int} {r:Value} {Ls:List (List ByteArray)} (h:RowO I W cls cap r Ls) (hk:Kp I T W V) (h1:233∉T) (h2:9∉T) (h3:130∉T):RowO I V cls cap r Ls:=by
 obtain⟨base,cells,g1,g2,g3⟩:=h
 exact⟨base,cells,hk.row g1 g2 h3,g2,g3.kp hk h1 h2⟩
theorem own_cell {base e n:Nat} {v:Value} {xs:List Value} {size:Nat} (h:W.ownsRow base e size v n xs) {j:Nat} {u:Value} (hu:xs[j]?=some u):∃ g cap,v=.slice (some ⟨g,0,none⟩) n cap∧W.cell? ⟨g,j,none⟩=some u:=by
 obtain⟨h0,h2⟩:=h
 have hl:=lt_of_some hu
 rcases h2 with ⟨-,h2⟩ | ⟨g,cap,cur,rfl,hg,hh,-,-,-,ht⟩
 ·rw[h0,h2] at hl;omega
 ·refine⟨g,cap,rfl,?_⟩
  rw[cell_of hh,← Array.getElem?_toList]
  rw[← List.getElem?_take_of_lt (j:=n * size) (by rw[← h0];exact hl),ht]
  exact hu
theorem RowO.rowV {cls cap:Int} {r:Value} {Ls:List (List ByteArray)} (h:RowO I W cls cap r Ls):RowV cls cap W r Ls:=by
 obtain⟨base,cells,g1,g2,g3⟩:=h
 obtain⟨ao,cp,rfl⟩:=own_shape g1
 refine⟨ao,cp,rfl,fun k L hL=>?_⟩
 obtain⟨cb,k1,F,k2,-⟩:=g3.2 k L hL
 obtain⟨g,c,e,hc⟩:=own_cell g1 k1
 cases e
 exact⟨g,0,rfl,cb,F,by rw[Nat.zero_add,Nat.mul_one];exact hc,k2⟩
def WayC (I:Nat→Prop) (W:World) (cls cap:Int) (cells:List Value) (Ws:List (List (List ByteArray))):Prop:=cells.length=Ws.length∧∀ (k:Nat) R,Ws[k]?=some R→∃ r,cells[k]?=some r∧RowO I W cls cap r R
def WaysO (I:Nat→Prop) (W:World) (cls cap:Int) (v:Value) (Ws:List (List (List ByteArray))):Prop:=∃ base cells,W.ownsRow base 191 1 v Ws.length cells∧(∀ k,v.ownBlock=some k→I k)∧WayC I W cls cap cells Ws
theorem WayC.kp {cls cap:Int} {cells:List Value} {Ws:List (List (List ByteArray))} (h:WayC I W cls cap cells Ws) (hk:Kp I T W V) (h1:233∉T) (h2:9∉T) (h3:130∉T):WayC I V cls cap cells Ws:=by
 refine⟨h.1,fun k L hL=>?_⟩
 obtain⟨cb,g1,g2⟩:=h.2 k L hL
 exact⟨cb,g1,g2.kp hk h1 h2 h3⟩
theorem WayC.snoc {cls cap:Int} {cells:List Value} {Ws:List (List (List ByteArray))} {r:Value} {R:List (List ByteArray)} (h:WayC I W cls cap cells Ws) (hc:RowO I W cls cap r R):WayC I W cls cap (cells ++ [r]) (Ws ++ [R]):=by
 refine⟨by simp[h.1],fun k L' hL=>?_⟩
 rcases snoc_at hL with hL | ⟨rfl,rfl⟩
 ·obtain⟨cb',g1,g2⟩:=h.2 k L' hL
  exact⟨cb',by rw[List.getElem?_append_left (lt_of_some g1)];exact g1,g2⟩
 ·exact⟨r,by rw[← h.1];simp,hc⟩
theorem WayC.nil {cls cap:Int}:WayC I W cls cap [] []:=⟨rfl,fun k L h=>by simp at h⟩
theorem WaysO.kp {cls cap:Int} {r:Value} {Ls:List (List (List ByteArray))} (h:WaysO I W cls cap r Ls) (hk:Kp I T W V) (h1:233∉T) (h2:9∉T) (h3:130∉T) (h4:191∉T):WaysO I V cls cap r Ls:=by
 obtain⟨base,cells,g1,g2,g3⟩:=h
 exact⟨base,cells,hk.row g1 g2 h4,g2,g3.kp hk h1 h2 h3⟩
theorem WaysO.arr {cls cap:Int} {v:Value} {Ws:List (List (List ByteArray))} (h:WaysO I W cls cap v Ws):Arr 1 (RwAt cls cap) W v Ws:=by
 obtain⟨base,cells,g1,g2,g3⟩:=h
 obtain⟨ao,cp,rfl⟩:=own_shape g1
 refine⟨ao,cp,rfl,fun k L hL=>?_⟩
 obtain⟨r,k1,k2⟩:=g3.2 k L hL
 obtain⟨g,c,e,hc⟩:=own_cell g1 k1
 cases e
 exact⟨g,0,rfl,r,by rw[Nat.zero_add,Nat.mul_one];exact hc,k2.rowV⟩
def BkO (I:Nat→Prop) (W:World) (bb:Nat) (l:List (CtrD × Int)):Prop:=∃ g,BnkO W bb g l∧I bb∧I g
theorem BnkO.kp {bb g:Nat} {l:List (CtrD × Int)} (h:BnkO W bb g l) (hk:Kp I T W V) (i1:I bb) (i2:I g) (h1:248∉T) (h2:246∉T):BnkO V bb g l:=by
 obtain⟨⟨lv,k1,k2⟩,h3⟩:=h
 rcases h3 with rfl | ⟨cap,cur,k3,k4⟩
 ·obtain⟨ao,c,rfl,-⟩:=k2
  exact⟨⟨_,hk _ _ _ i1 k1 h1,Arr.nil _ _ _⟩,.inl rfl⟩
 ·rw[k1] at k3
  cases k3
  have k5:=hk _ _ _ i2 k4 h2
  have e5:V.heap[g]?=W.heap[g]?:=by rw[k4,k5]
  refine⟨⟨_,hk _ _ _ i1 k1 h1,?_⟩,.inr ⟨cap,cur,hk _ _ _ i1 k1 h1,k5⟩⟩
  obtain⟨ao,c,e,hx⟩:=k2
  refine⟨ao,c,e,fun i x hi=>?_⟩
  obtain⟨b,o,e2,a0,a1,a2⟩:=hx i x hi
  rw[e2] at e
  cases e
  exact⟨g,0,e2,cell_eq a0 e5,cell_eq a1 e5,cell_eq a2 e5⟩
theorem BkO.kp {bb:Nat} {l:List (CtrD × Int)} (h:BkO I W bb l) (hk:Kp I T W V) (h1:248∉T) (h2:246∉T):BkO I V bb l:=by
 obtain⟨g,g1,g2,g3⟩:=h
 exact⟨g,g1.kp hk g2 g3 h1 h2,g2,g3⟩
theorem BkO.bnk {bb:Nat} {l:List (CtrD × Int)} (h:BkO I W bb l):Bnk W bb l:=by
 obtain⟨g,g1,g2,g3⟩:=h
 exact g1.bnk
theorem GO.bko {w:World} {bb:Nat} {l:List (CtrD × Int)} (h:GO 248 246 3 w bb 1 #[.bool true,undef] l.length (cnC l) W) (hI:∀ k,w.heap.size≤k→I k):BkO I W bb l:=by
 have hb:=GO.bnk h
 obtain⟨ao,cap,h1,h2⟩:=h.bx
 by_cases hl:l=[]
 ·exact⟨bb,⟨hb,.inl hl⟩,hI _ h.new,hI _ h.new⟩
 ·obtain⟨g,cp,cur,e,hg,hh⟩:=own_block h2 (by simpa using hl)
  cases e
  exact⟨g,⟨hb,.inr ⟨_,cur,h1,hh⟩⟩,hI _ h.new,hI _ hg⟩
def ActC (I:Nat→Prop) (W:World) (cells:List Value) (As:List (Int × List (CtrD × Int))):Prop:=cells.length=As.length * 2∧∀ (i:Nat) a,As[i]?=some a→∃ bb,cells[i * 2]?=some (.int .i64 a.1)∧cells[i * 2 + 1]?=some (pv bb)∧BkO I W bb a.2
def ActsO (I:Nat→Prop) (W:World) (v:Value) (As:List (Int × List (CtrD × Int))):Prop:=∃ base cells,W.ownsRow base 143 2 v As.length cells∧(∀ k,v.ownBlock=some k→I k)∧ActC I W cells As
theorem ActC.kp {cells:List Value} {As:List (Int × List (CtrD × Int))} (h:ActC I W cells As) (hk:Kp I T W V) (h1:248∉T) (h2:246∉T):ActC I V cells As:=by
 refine⟨h.1,fun i a ha=>?_⟩
 obtain⟨bb,g1,g2,g3⟩:=h.2 i a ha
 exact⟨bb,g1,g2,g3.kp hk h1 h2⟩
theorem ActC.snoc {cells:List Value} {As:List (Int × List (CtrD × Int))} {p:Int} {bb:Nat} {l:List (CtrD × Int)} (h:ActC I W cells As) (hb:BkO I W bb l):ActC I W (cells ++ [.int .i64 p,pv bb]) (As ++ [(p,l)]):=by
 refine⟨by simp[h.1];omega,fun i a ha=>?_⟩
 rcases snoc_at ha with ha | ⟨rfl,rfl⟩
 ·obtain⟨bb',g1,g2,g3⟩:=h.2 i a ha
  exact⟨bb',by rw[List.getElem?_append_left (lt_of_some g1)];exact g1,by rw[List.getElem?_append_left (lt_of_some g2)];exact g2,g3⟩
 ·refine⟨bb,?_,?_,hb⟩
  ·rw[List.getElem?_append_right (by rw[h.1];omega),h.1];simp
  ·rw[List.getElem?_append_right (by rw[h.1];omega),h.1,show As.length * 2 + 1 - As.length * 2=1 by omega];simp
theorem ActC.nil:ActC I W [] []:=⟨rfl,fun k L h=>by simp at h⟩
theorem ActsO.kp {v:Value} {As:List (Int × List (CtrD × Int))} (h:ActsO I W v As) (hk:Kp I T W V) (h1:248∉T) (h2:246∉T) (h3:143∉T):ActsO I V v As:=by
 obtain⟨base,cells,g1,g2,g3⟩:=h
 exact⟨base,cells,hk.row g1 g2 h3,g2,g3.kp hk h1 h2⟩
theorem ActsO.arr {v:Value} {As:List (Int × List (CtrD × Int))} (h:ActsO I W v As):Arr 2 AcAt W v As:=by
 obtain⟨base,cells,g1,g2,g3⟩:=h
 obtain⟨ao,cp,rfl⟩:=own_shape g1
 refine⟨ao,cp,rfl,fun i a ha=>?_⟩
 obtain⟨bb,k1,k2,k3⟩:=g3.2 i a ha
 obtain⟨g,c,e,hc⟩:=own_cell g1 k1
 cases e
 obtain⟨g',c',e',hc'⟩:=own_cell g1 k2
 cases e'
 exact⟨g,0,rfl,bb,by rw[Nat.zero_add];exact hc,by rw[Nat.zero_add];exact hc',k3.bnk⟩
structure StO (I:Nat→Prop) (W:World) (s:SesD) (yb sb:Nat) (x:PS):Prop where
 out:∃ av wv,W.heap[sb]?=some (.cells #[pv yb,av,wv] 147 (0,0))∧I sb∧ActsO I W av (actsP s x)∧WaysO I W s.cls s.cap wv x.ways
 ok:PSok s x
theorem StO.str {s:SesD} {yb sb:Nat} {x:PS} (h:StO I W s yb sb x):StR W s yb sb x:=by
 obtain⟨av,wv,h1,h2,h3,h4⟩:=h.out
 exact⟨⟨av,wv,h1,h3.arr,h4.arr⟩,h.ok⟩
theorem StO.kp {s:SesD} {yb sb:Nat} {x:PS} (h:StO I W s yb sb x) (hk:Kp I [] W V):StO I V s yb sb x:=by
 obtain⟨av,wv,h1,h2,h3,h4⟩:=h.out
 exact⟨⟨av,wv,hk sb _ _ h2 h1 (by simp),h2,h3.kp hk (by simp) (by simp) (by simp),h4.kp hk (by simp) (by simp) (by simp) (by simp)⟩,h.ok⟩
end
end Go.Proofs.YtohfkhjlnlahdaaGreat
