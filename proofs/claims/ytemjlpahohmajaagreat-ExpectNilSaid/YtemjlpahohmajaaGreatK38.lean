/- Part of the proof. -/
import Derived.Test.YtemjlpahohmajaaGreatK29
import Derived.Test.YtemjlpahohmajaaGreatK14
import Derived.Test.YtemjlpahohmajaaGreatK26
import Derived.Test.YtemjlpahohmajaaGreatK22
import Derived.Test.YtemjlpahohmajaaGreatK28
import Derived.Maps.OwnSet
import Derived.Maps.OwnOps
import Derived.WalkMore
import Derived.Test.YtemjlpahohmajaaGreatK32
import Derived.Test.YtemjlpahohmajaaGreatK19
import Derived.Shelf.SortM.Plain
import Derived.Shelf.SortM.SortNone
import Derived.Sort.CutIn
import Derived.OrdersIn
import Derived.Laws.StructEq
import Derived.Lib.Builder
import Derived.Lib.AppendStr
import Derived.Laws.EntriesVeiled
import Derived.Laws.OwnMore
import Derived.Laws.Concat
import Derived.LaidEql
import Derived.Sort.BigQuietIn
import Derived.Test.YtemjlpahohmajaaGreatK03
import Derived.Deep.MidRow
import Derived.Deep.WholeRow
import Derived.Lib.SlicesS
import Derived.BigQuiet
import Derived.StillTail
import Derived.Test.YtemjlpahohmajaaGreatProg
import Derived.Lib.Hide
import Derived.WalkLawsBesides
import Derived.Deep.DeepMust
import Derived.LoopTactic
import Derived.Laws.IdiomStrings
import Derived.Shelf.Bytes.SlSmallAll
import Derived.Deep.Upon
import Derived.ArgAppend
import Derived.Deep.AppendLies
import Derived.Maps.AppendAt
import Derived.BigRegion
import Derived.Deep.RegionHeld3
import Derived.Deep.RegionLaw
import Derived.Deep.DeepCutAuto
import Derived.Shelf.SlGeneric
import Derived.Shelf.SlLaysN
import Derived.Shelf.SlLaysM
import Derived.Ground.SlgnProg
import Derived.Ground.SlgmProg
import Derived.Shelf.SlicesG.Clone
import Derived.Shelf.SlicesG.Turned
import Derived.Shelf.SlicesG.Delete
import Derived.Sort.OwnSorted
import Derived.OrdersHeld
import Derived.Lib.SliceRun
import Derived.RangeFuncNested
import Derived.RangeFuncLeaves
import Derived.RangeFuncCalls
import Derived.RangeFuncBound
import Derived.OwnWalkIn
import Derived.TacticsInMore
import Derived.LoopNIn
import Derived.LoopIn
import Derived.ProofKit
import Derived.SizedLaws
import Derived.Deep.Slices
import Derived.WalkKit
import Derived.WalkSpells
import Derived.Deep.QuietTactic
import Derived.Test.YtemjlpahohmajaaGreatRows
set_option linter.all false
namespace Go.Proofs.YtemjlpahohmajaaGreat
open Go.RowKit Go.BigFrame
structure DefsOk (cs:List CtrD):Prop where
 n:cs.length≤4
 ne:∀ c∈cs,c.name≠emptyS
 lo:∀ c∈cs,1≤c.lim∧c.lim≤1000
 un:∀ (i j:Nat) (a b:CtrD),cs[i]?=some a→cs[j]?=some b→a.name=b.name→i=j
def zeroC (cs:List CtrD):List (CtrD × Int):=cs.map fun c=>(c,0)
theorem zeroC_length (cs:List CtrD):(zeroC cs).length=cs.length:=by unfold zeroC;rw[List.length_map]
theorem zeroC_snoc {cs:List CtrD} {i:Nat} {c:CtrD} (h:cs[i]?=some c):zeroC (cs.take (i + 1))=zeroC (cs.take i) ++ [(c,0)]:=by
 unfold zeroC
 rw[List.take_add_one,h,List.map_append];rfl
theorem zero_find {cs:List CtrD} (h:DefsOk cs) {i:Nat} {c:CtrD} (hc:cs[i]?=some c):cnIx (zeroC (cs.take i)) c.name=-1:=by
 refine ixf_none fun x hx=>?_
 unfold zeroC at hx
 rw[List.mem_map] at hx
 obtain⟨d,hd,rfl⟩:=hx
 obtain⟨j,hj⟩:=List.getElem?_of_mem hd
 rw[List.getElem?_take] at hj
 split at hj
 ·rename_i hji
  rw[decide_eq_false_iff_not]
  intro e
  have:=h.un j i d c hj hc e
  omega
 ·cases hj
theorem Tryz.infoCn:(Tryz.prog.info? 207).map (fun i=>(i.zero,i.size,i.bytes))=some (some (.agg #[.string { data:=#[] },.int .i64 0,.int .i64 0]),3,32):=by kernel_rfl
def NwTo (w:World) (l:List (CtrD × Int)) (u:Value) (w':World):Prop:=∃ bb,u=.tuple #[.pointer (some ⟨bb,0,none⟩),.int .i64 0]∧GO 209 207 3 w bb 1 #[.bool true,undef] l.length (cnC l) w'
theorem GO.bnk {w W:World} {bb:Nat} {l:List (CtrD × Int)} (h:GO 209 207 3 w bb 1 #[.bool true,undef] l.length (cnC l) W):Bnk W bb l:=by
 obtain⟨ao,cap,h1,h2⟩:=h.bx
 exact⟨_,h1,cn_arr h2⟩
set_option maxHeartbeats 4000000 in
set_option maxRecDepth 100000 in
theorem bNew_any (v:Value) (cs:List CtrD) (w:World) (h:Arr 2 CtAt w v cs) (hok:DefsOk cs):Calls Tryz.prog 83 #[v] w (RetV (NwTo w (zeroC cs))):=by
 obtain⟨ao,cap,rfl,hx⟩:=h
 have HX:=Lib.hid hx
 have HOK:=Lib.hid hok
 obtain⟨n,hn⟩:∃ n,cs.length=n:=⟨_,rfl⟩
 have HN:=Lib.hid hn
 have h4:¬ 4 < (n:Int):=by have:=hok.n;omega
 rw[hn]
 obtain⟨W0,hW0⟩:∃ W0,w.alloc (.cells #[.bool true,.slice none 0 0] 209)=W0:=⟨_,rfl⟩
 have HG0:Hid (GO 209 207 3 w w.heap.size 1 #[.bool true,undef] 0 (cnC (zeroC (cs.take 0))) W0):=Lib.hid (GO.made (by rw[← hW0];exact(Frm.refl _ _).alloc _) (Nat.le_refl _) (by rw[← hW0];exact heap_alloc_new _ _) rfl)
 have HE:=Lib.hid hW0
 clear hx hok hn hW0
 go_enter Tryz.func83,Tryz.ntmps83
 go_wp2
 rw[HE.out]
 clear HE h4
 go_loopw [14] (fun s14 wl=>∃ i:Nat,s14=.int .i64 i∧i≤n∧GO 209 207 3 w w.heap.size 1 #[.bool true,undef] i (cnC (zeroC (cs.take i))) wl) (fun s14 _=>n - (intOf s14).toNat)
 case atStart=>exact⟨0,rfl,Nat.zero_le _,HG0.out⟩
 case round =>
  obtain⟨i,rfl,hi,hg⟩:=hrel
  have HG:=Lib.hid hg
  clear HG0 hg
  by_cases hlt:i < n
  ·have hlt':(i:Int) < (n:Int):=by omega
   obtain⟨c,hc⟩:∃ c,cs[i]?=some c:=⟨_,List.getElem?_eq_getElem (by rw[HN.out];exact hlt)⟩
   have hmem:=List.mem_of_getElem? hc
   obtain⟨b,o,rfl,c0,c1⟩:=HX.out i c hc
   replace c0:=HG.out.fr.keep c0
   replace c1:=HG.out.fr.keep c1
   have hemp:c.name.toList.isEmpty=false:=emp_no (HOK.out.ne c hmem)
   obtain⟨l1,l2⟩:=HOK.out.lo c hmem
   have l1':¬ c.lim < 1:=by omega
   have l2':¬ 1000 < c.lim:=by omega
   have hti:(zeroC (cs.take i)).length=i:=by rw[zeroC_length,List.length_take];have:=lt_of_some hc;omega
   have CF:Hid (∀ V,Frm [] wr V→Calls Tryz.prog 117 #[.pointer (some ⟨w.heap.size,0,none⟩),.string c.name] V (Ret (.int .i64 (-1)) (Frm [] V))):=Lib.hid fun V hV=>by
    have hb:Bnk V w.heap.size (zeroC (cs.take i)):=GO.bnk (by rw[hti];exact HG.out.frm hV)
    have:=bFind_any w.heap.size _ c.name V hb (by rw[hti];have:=HN.out;have:=HOK.out.n;omega)
    rwa [zero_find HOK.out hc] at this
   have HSN:=Lib.hid (zeroC_snoc hc)
   have HTI:=Lib.hid hti
   clear hc hmem l1 l2 hti
   obtain⟨i0,hi0,hz0,hz1,hz2⟩:=info_parts Tryz.infoCn
   have HBX:Hid ((wr.alloc (.cells #[.string c.name,.int .i64 c.lim] 205)).heap[wr.heap.size]?=some (.cells #[.string c.name,.int .i64 c.lim] 205 (0,0))):=Lib.hid (heap_alloc_new _ _)
   go_upto_region 9 with (first
    | (go_at_call 117;go_must (refine(CF.out _ ((Frm.refl [] wr).alloc _)).mono ?_;rintro e w2 ⟨rfl,hf2⟩;have HF2:Hid (Frm [] wr w2):=Lib.hid (((Frm.refl [] wr).alloc _).trans hf2);have HB2:=Lib.hid (hf2.at HBX.out (by simp));clear hf2)))
   clear c0 c1 l1' l2' hemp CF HBX
   have HG2:=Lib.hid (HG.out.frm HF2.out)
   obtain⟨ab,cb,hb1,hb2⟩:=HG2.out.bx
   have hb1':w2.heap[w.heap.size]?=some (.cells #[.bool true,.slice ab i cb] 209 (0,0)):=hb1
   have HB1:=Lib.hid hb1;have HO1:=Lib.hid hb2
   have cx:=cell_of hb1' 1
   have fx:=free_of hb1' 1
   have cy0:=cell_of HB2.out 0
   have cy1:=cell_of HB2.out 1
   have lx:=lt_of_block hb1
   have hi4:i < 4:=by have:=HOK.out.n;have:=HN.out;omega
   clear hb1 hb2 hb1'
   generalize hQQ:Exit.inBlock _ _=QQ
   refine wp_mono (Q:=fun e a' w'=>match e with | .normal=>QQ .normal a' w' | _=>False) ?_ (fun e a' w' h=>by cases e <;> first | exact h | exact h.elim)
   go_region_law (first
    | (refine step_append_own_at rfl _ _ 202 rfl w.heap.size 207 i0 (.agg #[.string { data:=#[] },.int .i64 0,.int .i64 0]) 3 32 Tryz.underlying202 hi0 hz0 hz1 hz2 rfl (by decide) (.slice ab i cb) i (cnC (zeroC (cs.take i))) ?_ (((Frm.refl [] w2).drew.alloc _).owns HO1.out (by simp)) ⟨w2.heap.size,0,none⟩ 1 1 [.string c.name,.int .i64 c.lim,.int .i64 0] ?_ rfl (new_row w2.drew _ _) ?_ ?_ ?_ ?_ ?_;(focus (go_simp;done));(focus (go_simp;done));(focus (simp[Value.oneCell'];done));(focus (unfold maxLen;omega));(focus omega);(focus (have:=HG2.out.fr.size;simp;omega));intro v' w6 hown' hgrow;obtain⟨ao6,cp6,rfl⟩:=own_shape hown';have hs:=GO.step HG2.out HB1.out HO1.out (by decide) ((Frm.refl [] w2).drew.alloc _) hgrow hown';have hbx:w6.heap[w.heap.size]?=some (.cells #[.bool true,.slice ab i cb] 209 (0,0)):=GO.facts HB1.out HO1.out (by decide) ((Frm.refl [] w2).drew.alloc _) hgrow;have cx6:=cell_of hbx 1;have fx6:=free_of hbx 1;have HS:=Lib.hid hs.1;clear hs hbx hown' hgrow))
   all_goals
    subst hQQ
    go_wp2
    refine⟨⟨i + 1,congrArg (Value.int .i64) (by omega),hlt,?_⟩,by simp[intOf];omega⟩
    rw[HSN.out,cnC_append]
    exact HS.out
  ·obtain rfl:i=n:=by omega
   have hge:¬ (i:Int) < (i:Int):=by omega
   have ht:cs.take i=cs:=by rw[← HN.out,List.take_length]
   have HT:=Lib.hid ht
   clear ht
   go_wp2
   go_ret2
   refine⟨_,rfl,_,rfl,?_⟩
   have:=HG.out
   rw[HT.out] at this
   rw[zeroC_length,HN.out]
   exact this
end Go.Proofs.YtemjlpahohmajaaGreat
namespace Go.Proofs.YtemjlpahohmajaaGreat
open Go.RowKit Go.BigFrame
def Agree (B:Nat) (W V:World):Prop:=∀ k,B≤k→k < W.heap.size→V.heap[k]?=W.heap[k]?
theorem Agree.refl (B:Nat) (W:World):Agree B W W:=fun _ _ _=>rfl
theorem Agree.low {B B':Nat} {W V:World} (h:Agree B W V) (hb:B≤B'):Agree B' W V:=fun k h1 h2=>h k (by omega) h2
theorem Agree.old {F:List Nat} {B:Nat} {W W' V:World} (h:Agree B W' V) (hf:Frm F W W') (hF:∀ x∈F,x < B):Agree B W V:=fun k h1 h2=>by
 have hs:=hf.size
 rw[h k h1 (by omega)]
 exact hf.block k h2 (fun hx=>by have:=hF k hx;omega)
theorem Fr.stb {α:Type} {k:Nat} {e:TypeId} {At:World→Nat→Nat→α→Prop} {w w':World} {xs:List α} {v:Value} (h:Fr k e At w xs v w') (hA:∀ (W V:World) b o x,At W b o x→V.heap[b]?=W.heap[b]?→At V b o x) :
  ∃ ao c,v=.slice ao xs.length c∧∀ (W V:World),Agree w.heap.size w' W→Agree w.heap.size w' V→Arr k At V v xs:=by
 obtain⟨ao,c,rfl⟩:=h.arr.shape
 refine⟨ao,c,rfl,fun _ V _ hV=>?_⟩
 rcases h.own with rfl | ⟨news,ho⟩
 ·exact Arr.nil _ _ _
 ·refine⟨ao,c,rfl,fun i x hx=>?_⟩
  have hn:xs.length≠0:=by have:=lt_of_some hx;omega
  obtain⟨g,cap,cur,e,hg,hc⟩:=own_block ho hn
  cases e
  obtain⟨b,o,e,ha⟩:=h.arr.get hx
  cases e
  exact⟨g,0,rfl,hA _ _ _ _ _ ha (hV g hg (lt_of_block hc))⟩
theorem cell_eq {W V:World} {b o:Nat} {v:Value} (h:W.cell? ⟨b,o,none⟩=some v) (e:V.heap[b]?=W.heap[b]?):V.cell? ⟨b,o,none⟩=some v:=(World.cell?_of_block (w:=W) e).trans h
theorem StAt.leaf (W V:World) (b o:Nat) (x:StD) (h:StAt W b o x) (e:V.heap[b]?=W.heap[b]?):StAt V b o x:=⟨cell_eq h.1 e,cell_eq h.2.1 e,cell_eq h.2.2 e⟩
theorem CtAt.leaf (W V:World) (b o:Nat) (x:CtrD) (h:CtAt W b o x) (e:V.heap[b]?=W.heap[b]?):CtAt V b o x:=⟨cell_eq h.1 e,cell_eq h.2 e⟩
theorem SpAt.leaf (W V:World) (b o:Nat) (x:StpD) (h:SpAt W b o x) (e:V.heap[b]?=W.heap[b]?):SpAt V b o x:=
 ⟨cell_eq h.c0 e,cell_eq h.c1 e,cell_eq h.c2 e,cell_eq h.c3 e,cell_eq h.c4 e,cell_eq h.c5 e,cell_eq h.c6 e,cell_eq h.c7 e,cell_eq h.c8 e⟩
def AgX (B g b:Nat) (W V:World):Prop:=∀ k,B≤k→k≠g→k≠b→k < W.heap.size→V.heap[k]?=W.heap[k]?
theorem AgX.old {B g b:Nat} {W W' V:World} {F:List Nat} (h:AgX B g b W' V) (hf:Frm F W W') (hF:∀ x∈F,x=g∨x=b):AgX B g b W V:=fun k h1 h2 h3 h4=>by
 have hs:=hf.size
 rw[h k h1 h2 h3 (by omega)]
 exact hf.block k h4 (fun hx=>by rcases hF k hx with e | e <;> omega)
def OwR (B g b o:Nat) (r:RolD) (W:World):Prop:=
 ∃ sv cv tv,W.cell? ⟨g,o,none⟩=some (.string r.name)∧W.cell? ⟨g,o + 1,none⟩=some sv∧W.cell? ⟨g,o + 2,none⟩=some cv∧W.cell? ⟨g,o + 3,none⟩=some tv∧∀ V,AgX B g b W V→Rl3 V sv cv tv r
theorem RoAt.of {w:World} {v:Value} {l:List RolD} (h:Rls w v l):Arr 4 (RoAt w) w v l:=by
 obtain⟨ao,cap,e,hx⟩:=h
 refine⟨ao,cap,e,fun i x hi=>?_⟩
 obtain⟨b,o,e2,sv,cv,tv,h1⟩:=hx i x hi
 exact⟨b,o,e2,sv,cv,tv,h1⟩
structure OwI (w:World) (s:SesD) (b1 b2 g cap i:Nat) (W:World):Prop where
 fr:Frm [] w W
 l1:w.heap.size≤b1
 l2:w.heap.size≤b2
 lg:w.heap.size≤g
 n12:b1≠b2
 h1:W.heap[b1]?=some (.cells #[.string s.name,.slice (some ⟨g,0,none⟩) s.roles.length cap,.int .i64 s.cls,.int .i64 s.cap] 25 (0,0))
 h2:W.heap[b2]?=some (.cells #[.string { data:=#[] },.slice none 0 0,.int .i64 0,.int .i64 0] 25 (0,0))
 hg:∃ cur,W.heap[g]?=some (.cells cur 86 (0,0))
 done:∀ (j:Nat) r,j < i→s.roles[j]?=some r→OwR w.heap.size g b2 (j * 4) r W
 rest:∀ (j:Nat) r,i≤j→s.roles[j]?=some r→RoAt w W g (j * 4) r
theorem OwI.ne {w W:World} {s:SesD} {b1 b2 g cap i:Nat} (h:OwI w s b1 b2 g cap i W):b1≠g∧b2≠g:=by
 obtain⟨cur,hg⟩:=h.hg
 refine⟨fun e=>?_,fun e=>?_⟩
 ·subst e;rw[h.h1] at hg;cases hg
 ·subst e;rw[h.h2] at hg;cases hg
structure Cl3 (w0:World) (sv cv tv:Value) (r:RolD) (W:World):Prop where
 frm:Frm [] w0 W
 sts:∀ V,Agree w0.heap.size W V→Arr 3 StAt V sv r.sts
 ctrs:∀ V,Agree w0.heap.size W V→Arr 2 CtAt V cv r.ctrs
 steps:∀ V,Agree w0.heap.size W V→Arr 9 SpAt V tv r.steps
 cap:∀ ao n c,tv=.slice ao n c→n≤c
theorem OwI.step {w W W':World} {s:SesD} {b1 b2 g cap i:Nat} (h:OwI w s b1 b2 g cap i W) {r:RolD} (hr:s.roles[i]?=some r) {sv cv tv:Value} (hc:Cl3 W sv cv tv r W') :
  OwI w s b1 b2 g cap (i + 1) (((W'.setCell ⟨g,i * 4 + 1,none⟩ sv).setCell ⟨g,i * 4 + 2,none⟩ cv).setCell ⟨g,i * 4 + 3,none⟩ tv):=by
 obtain⟨n1,n2⟩:=h.ne
 obtain⟨cur,hg⟩:=h.hg
 have hg':=hc.frm.at hg (by simp)
 have e1:=block_setCell hg' (i * 4 + 1) sv
 have e2:=block_setCell e1 (i * 4 + 2) cv
 have e3:=block_setCell e2 (i * 4 + 3) tv
 have hF:Frm [g] W' (((W'.setCell ⟨g,i * 4 + 1,none⟩ sv).setCell ⟨g,i * 4 + 2,none⟩ cv).setCell ⟨g,i * 4 + 3,none⟩ tv):=(((Frm.refl [g] W').setCell _ (.inl (by simp)) _).setCell _ (.inl (by simp)) _).setCell _ (.inl (by simp)) _
 obtain⟨W2,hW2⟩:∃ W2,(((W'.setCell ⟨g,i * 4 + 1,none⟩ sv).setCell ⟨g,i * 4 + 2,none⟩ cv).setCell ⟨g,i * 4 + 3,none⟩ tv)=W2:=⟨_,rfl⟩
 rw[hW2] at e3 hF ⊢
 have hFW:Frm [g] W W2:=(hc.frm.mono (by simp)).trans hF
 have hsz:w.heap.size≤W.heap.size:=h.fr.size
 have hrr:=h.rest i r (Nat.le_refl _) hr
 obtain⟨sv0,cv0,tv0,q0,q1,q2,q3,-⟩:=hrr
 rw[cell_of hg] at q0 q1 q2 q3
 have hlt:i * 4 + 3 < cur.size:=(Array.getElem?_eq_some_iff.1 q3).1
 have hcell:∀ o,(o≠i * 4 + 1→o≠i * 4 + 2→o≠i * 4 + 3→W2.cell? ⟨g,o,none⟩=W.cell? ⟨g,o,none⟩):=fun o h1 h2 h3=>by
  rw[cell_of e3,cell_of hg,Array.getElem?_setIfInBounds_ne (by omega),Array.getElem?_setIfInBounds_ne (by omega),Array.getElem?_setIfInBounds_ne (by omega)]
 refine⟨h.fr.then hFW (by intro x hx;simp at hx;subst hx;exact .inr h.lg),h.l1,h.l2,h.lg,h.n12,hFW.at h.h1 (by simpa using n1),hFW.at h.h2 (by simpa using n2),⟨_,e3⟩,fun j a hj ha=>?_,fun j a hj ha=>?_⟩
 ·by_cases e:j=i
  ·subst e
   rw[hr] at ha;cases ha
   refine⟨sv,cv,tv,?_,?_,?_,?_,fun V hV=>?_⟩
   ·rw[hcell _ (by omega) (by omega) (by omega),cell_of hg];exact q0
   ·rw[cell_of e3,Array.getElem?_setIfInBounds_ne (by omega),Array.getElem?_setIfInBounds_ne (by omega),Array.getElem?_setIfInBounds_self_of_lt (by omega)]
   ·rw[cell_of e3,Array.getElem?_setIfInBounds_ne (by omega),Array.getElem?_setIfInBounds_self_of_lt (by simp;omega)]
   ·rw[cell_of e3,Array.getElem?_setIfInBounds_self_of_lt (by simp;omega)]
   ·have hgl:=lt_of_block hg
    have hbl:=lt_of_block h.h2
    have hV':Agree W.heap.size W' V:=fun k h1 h2=>(hV.old hF (by simp)) k (by omega) (by omega) (by omega) h2
    exact⟨hc.sts V hV',hc.ctrs V hV',hc.steps V hV',hc.cap⟩
  ·obtain⟨sv1,cv1,tv1,p0,p1,p2,p3,p4⟩:=h.done j a (by omega) ha
   refine⟨sv1,cv1,tv1,?_,?_,?_,?_,fun V hV=>?_⟩
   ·rw[hcell _ (by omega) (by omega) (by omega)];exact p0
   ·rw[hcell _ (by omega) (by omega) (by omega)];exact p1
   ·rw[hcell _ (by omega) (by omega) (by omega)];exact p2
   ·rw[hcell _ (by omega) (by omega) (by omega)];exact p3
   ·exact p4 V (hV.old hFW (by simp))
 ·obtain⟨sv1,cv1,tv1,p0,p1,p2,p3,p4⟩:=h.rest j a (by omega) ha
  refine⟨sv1,cv1,tv1,?_,?_,?_,?_,p4⟩
  ·rw[hcell _ (by omega) (by omega) (by omega)];exact p0
  ·rw[hcell _ (by omega) (by omega) (by omega)];exact p1
  ·rw[hcell _ (by omega) (by omega) (by omega)];exact p2
  ·rw[hcell _ (by omega) (by omega) (by omega)];exact p3
theorem results_c1 {fn:Func} {p:Tmp} {ty:TypeId} (h:fn.results=#[.cell p ty]) {tmps:Array Value} {w:World} {g:Nat} {A:Array Value} {t:TypeId} {d:TypeDesc} (hp:tmps.getD p undef=.pointer (some ⟨g,0,none⟩)) (hg:w.heap[g]?=some (.cells A t (0,0)))
  (hd:(match d with | .struct _ | .array _ _=>true | _=>false)=true) (hu:Tryz.prog.underlying ty=some d) (hi:(Tryz.prog.info? ty).map (·.size)=some A.size):(results fn tmps).run Tryz.prog w=.ok (.agg A) w:=by
 have hp':tmps[p]?.getD undef=.pointer (some ⟨g,0,none⟩):=by simpa using hp
 have hr:=run_loadVar_row w g t ty A (0,0) d hg hu (by cases d <;> first | rfl | (exact hd) | (cases hd)) hi
 simp[results,h,hp',asAddr,hr]
structure OwTo (w:World) (s:SesD) (v:Value) (w':World):Prop where
 shape:∃ g cap,v=.agg #[.string s.name,.slice (some ⟨g,0,none⟩) s.roles.length cap,.int .i64 s.cls,.int .i64 s.cap]
 frm:Frm [] w w'
 ses:∀ V,Agree w.heap.size w' V→SesV V v s
theorem OwI.frm {w W W':World} {s:SesD} {b1 b2 g cap i:Nat} (h:OwI w s b1 b2 g cap i W) (hf:Frm [] W W'):OwI w s b1 b2 g cap i W':=by
 obtain⟨cur,hg⟩:=h.hg
 refine⟨h.fr.trans hf,h.l1,h.l2,h.lg,h.n12,hf.at h.h1 (by simp),hf.at h.h2 (by simp),⟨cur,hf.at hg (by simp)⟩,fun j r hj hr=>?_,fun j r hj hr=>?_⟩
 ·obtain⟨sv1,cv1,tv1,p0,p1,p2,p3,p4⟩:=h.done j r hj hr
  exact⟨sv1,cv1,tv1,hf.keep p0,hf.keep p1,hf.keep p2,hf.keep p3,fun V hV=>p4 V (hV.old hf (by simp))⟩
 ·obtain⟨sv1,cv1,tv1,p0,p1,p2,p3,p4⟩:=h.rest j r hj hr
  exact⟨sv1,cv1,tv1,hf.keep p0,hf.keep p1,hf.keep p2,hf.keep p3,p4⟩
theorem OwI.ses {w W w2 V:World} {s:SesD} {b1 b2 g cap:Nat} (h:OwI w s b1 b2 g cap s.roles.length W) (hf:Frm [b2] W w2) (hV:Agree w.heap.size w2 V):SesV V (.agg #[.string s.name,.slice (some ⟨g,0,none⟩) s.roles.length cap,.int .i64 s.cls,.int .i64 s.cap]) s:=by
 refine⟨_,rfl,_,cap,rfl,fun i r hr=>⟨g,0,rfl,?_⟩⟩
 obtain⟨cur,hg⟩:=h.hg
 have hs:=hf.size
 have hgl:=lt_of_block hg
 have e:V.heap[g]?=W.heap[g]?:=(hV g h.lg (by omega)).trans (hf.block g hgl (by simpa using h.ne.2.symm))
 obtain⟨sv1,cv1,tv1,p0,p1,p2,p3,p4⟩:=h.done i r (lt_of_some hr) hr
 rw[Nat.zero_add]
 exact⟨sv1,cv1,tv1,cell_eq p0 e,cell_eq p1 e,cell_eq p2 e,cell_eq p3 e,p4 V fun k h1 _ h3 h4=>(hV k h1 (by omega)).trans (hf.block k h4 (by simpa using h3))⟩
theorem Fr.cap {α:Type} {k:Nat} {e:TypeId} {At:World→Nat→Nat→α→Prop} {w w':World} {xs:List α} {v:Value} (h:Fr k e At w xs v w'):∀ ao n c,v=.slice ao n c→n≤c:=by
 rintro ao n c rfl
 rcases h.own with rfl | ⟨news,ho⟩
 ·obtain⟨a,c',e⟩:=h.arr.shape
  cases e;exact Nat.zero_le _
 ·rcases ho.2 with ⟨hv,hn⟩ | ⟨g,c',cur,hv,-,-,h1,-⟩
  ·cases hv;omega
  ·cases hv;exact h1
theorem OwI.start {w w0 w1:World} {s:SesD} {b1 b2 c0:Nat} {ao:Option Addr} {v:Value} (hf:Frm [] w w0) (h1:w0.heap[b1]?=some (.cells #[.string s.name,.slice ao s.roles.length c0,.int .i64 s.cls,.int .i64 s.cap] 25 (0,0)))
  (h2:w0.heap[b2]?=some (.cells #[.string { data:=#[] },.slice none 0 0,.int .i64 0,.int .i64 0] 25 (0,0))) (l1:w.heap.size≤b1) (l2:w.heap.size≤b2) (hne:b1≠b2) (hr:Fr 4 86 (RoAt w) w0 s.roles v w1) (hn:1≤s.roles.length) :
  ∃ g cap,v=.slice (some ⟨g,0,none⟩) s.roles.length cap∧OwI w s b1 b2 g cap 0 (w1.setCell ⟨b1,1,none⟩ v):=by
 rcases hr.own with e | ⟨news,ho⟩
 ·rw[e] at hn;simp at hn
 obtain⟨g,cap,cur,rfl,hg,hc⟩:=own_block ho (by omega)
 have g1:=hr.frm.at h1 (by simp)
 have g2:=hr.frm.at h2 (by simp)
 have hs:=hf.size
 have n1:g≠b1:=fun e=>by have:=lt_of_block h1;omega
 have hF:Frm [b1] w1 (w1.setCell ⟨b1,1,none⟩ (.slice (some ⟨g,0,none⟩) s.roles.length cap)):=(Frm.refl _ _).setCell _ (.inl (by simp)) _
 refine⟨g,cap,rfl,(hf.trans hr.frm).then hF (by intro x hx;simp at hx;subst hx;exact .inr l1),l1,l2,by omega,hne,(block_setCell g1 1 _).trans rfl,hF.at g2 (by simpa using hne.symm),⟨cur,hF.at hc (by simpa using n1)⟩,fun j r hj=>by omega,fun j r _ hj=>?_⟩
 obtain⟨b,o,e,a0⟩:=hr.arr.get hj
 cases e
 obtain⟨sv,cv,tv,p0,p1,p2,p3,p4⟩:=a0
 rw[Nat.zero_add] at p0 p1 p2 p3
 have hng:g∉[b1]:=by simpa using n1
 exact⟨sv,cv,tv,hF.cellAt p0 hng,hF.cellAt p1 hng,hF.cellAt p2 hng,hF.cellAt p3 hng,p4⟩
set_option maxHeartbeats 4000000 in
set_option maxRecDepth 100000 in
theorem pOwn_any (s:SesD) (v:Value) (w:World) (h:SesV w v s) (h1:1≤s.roles.length) (h4:s.roles.length≤4) (hb:∀ r∈s.roles,r.sts.length≤1000∧r.ctrs.length≤1000∧r.steps.length≤1000):Calls Tryz.prog 81 #[v] w (RetV (OwTo w s)):=by
 obtain⟨rv,rfl,hr⟩:=h
 obtain⟨ao,cap,rfl⟩:=hr.shape
 obtain⟨n,hn⟩:∃ n,s.roles.length=n:=⟨_,rfl⟩
 have HR:=Lib.hid hr
 have HF0:Hid (Frm [] w ((w.alloc (.cells #[.string s.name,.slice ao n cap,.int .i64 s.cls,.int .i64 s.cap] 25)).alloc (.cells #[.string { data:=#[] },.slice none 0 0,.int .i64 0,.int .i64 0] 25))):=Lib.hid (((Frm.refl [] w).alloc _).alloc _)
 have CR:=Lib.hid (clRoleAt_any w (.slice ao s.roles.length cap) s.roles _ ((RoAt.of hr).frm fun _ _ _ h=>h.frm HF0.out) (by omega))
 have HB:=Lib.hid hb
 rw[hn] at CR HR
 rw[hn] at h1 h4
 have HN:=Lib.hid hn
 have B1:Hid (((w.alloc (.cells #[.string s.name,.slice ao n cap,.int .i64 s.cls,.int .i64 s.cap] 25)).alloc (.cells #[.string { data:=#[] },.slice none 0 0,.int .i64 0,.int .i64 0] 25)).heap[w.heap.size]?=some (.cells #[.string s.name,.slice ao n cap,.int .i64 s.cls,.int .i64 s.cap] 25 (0,0))):=Lib.hid (alloc_at (heap_alloc_new _ _))
 have B2:Hid (((w.alloc (.cells #[.string s.name,.slice ao n cap,.int .i64 s.cls,.int .i64 s.cap] 25)).alloc (.cells #[.string { data:=#[] },.slice none 0 0,.int .i64 0,.int .i64 0] 25)).heap[w.heap.size + 1]?=some (.cells #[.string { data:=#[] },.slice none 0 0,.int .i64 0,.int .i64 0] 25 (0,0))):=Lib.hid (alloc_top (by simp))
 rw[hn]
 clear hr hn hb
 go_enter Tryz.func81,Tryz.ntmps81
 go_wp2_with (first
  | (go_at_call 137;go_must (refine CR.out.mono ?_;rintro e w1 ⟨u,rfl,hr⟩;have hi:=OwI.start (b1:=w.heap.size) (b2:=w.heap.size + 1) (c0:=cap) (ao:=ao) HF0.out (by rw[HN.out];exact B1.out) B2.out (Nat.le_refl _) (by omega) (by omega) hr (by rw[HN.out];exact h1);rw[HN.out] at hi;obtain⟨g,c1,rfl,hoi⟩:=hi;have HI:=Lib.hid hoi;have b1:=hr.frm.at B1.out (by simp);have d1:=cell_of b1 1;have f1:=free_of b1 1;have e1:=cell_of hoi.h1 1;rw[HN.out] at e1;clear hr b1 hoi)))
 go_loopw [12] (fun s12 wr=>∃ i:Nat,s12=.int .i64 i∧i≤n∧OwI w s w.heap.size (w.heap.size + 1) g c1 i wr) (fun s12 _=>n - (intOf s12).toNat)
 case atStart=>exact⟨0,rfl,Nat.zero_le _,HI.out⟩
 case round =>
  obtain⟨i,rfl,hi,ho⟩:=hrel
  have HO:=Lib.hid ho
  clear ho d1 f1 e1
  by_cases hlt:i < n
  ·have hlt':(i:Int) < (n:Int):=by omega
   obtain⟨r,hr⟩:∃ r,s.roles[i]?=some r:=⟨_,List.getElem?_eq_getElem (by rw[HN.out];exact hlt)⟩
   obtain⟨sv,cv,tv,p0,p1,p2,p3,p4⟩:=HO.out.rest i r (Nat.le_refl _) hr
   have HRR:=Lib.hid hr;have HP:=Lib.hid p4
   have c1':=cell_of HO.out.h1 1
   rw[HN.out] at c1'
   have hgl:=cell_lt p0
   have hbr:=HB.out r (List.mem_of_getElem? hr)
   obtain⟨aS,cS,rfl⟩:=p4.sts.shape
   obtain⟨aC,cC,rfl⟩:=p4.ctrs.shape
   obtain⟨aT,cT,rfl⟩:=p4.steps.shape
   have CS:Hid (∀ V,Frm [] w V→Calls Tryz.prog 138 #[.slice aS r.sts.length cS] V (RetV (Fr 3 180 StAt V r.sts))):=Lib.hid fun V hV=>clState_any _ r.sts V ((p4.frm hV).sts) (by omega)
   have CC:Hid (∀ V,Frm [] w V→Calls Tryz.prog 139 #[.slice aC r.ctrs.length cC] V (RetV (Fr 2 205 CtAt V r.ctrs))):=Lib.hid fun V hV=>clCtr_any _ r.ctrs V ((p4.frm hV).ctrs) (by omega)
   have CT:Hid (∀ V,Frm [] w V→Calls Tryz.prog 140 #[.slice aT r.steps.length cT] V (RetV (Fr 9 90 SpAt V r.steps))):=Lib.hid fun V hV=>clStep_any _ r.steps V ((p4.frm hV).steps) (by omega)
   clear hr p4 hbr
   obtain⟨nS,hnS⟩:∃ m,r.sts.length=m:=⟨_,rfl⟩
   obtain⟨nC,hnC⟩:∃ m,r.ctrs.length=m:=⟨_,rfl⟩
   obtain⟨nT,hnT⟩:∃ m,r.steps.length=m:=⟨_,rfl⟩
   have HLS:=Lib.hid hnS;have HLC:=Lib.hid hnC;have HLT:=Lib.hid hnT
   rw[hnS] at CS p1
   rw[hnC] at CC p2
   rw[hnT] at CT p3
   clear hnS hnC hnT
   go_upto_region 5 with fail
   obtain⟨W4,hW4⟩:∃ W4,wr.alloc (.cells #[.string r.name,.slice aS nS cS,.slice aC nC cC,.slice aT nT cT] 86)=W4:=⟨_,rfl⟩
   have hf4:Frm [] wr W4:=by rw[← hW4];exact(Frm.refl _ _).alloc _
   have hq4:W4.heap[wr.heap.size]?=some (.cells #[.string r.name,.slice aS nS cS,.slice aC nC cC,.slice aT nT cT] 86 (0,0)):=by rw[← hW4];exact heap_alloc_new _ _
   rw[hW4]
   have HF4:=Lib.hid hf4
   have HO4:=Lib.hid (HO.out.frm hf4)
   have HS:Hid (∀ V,Frm [g] W4 V→V.cell? ⟨w.heap.size,1,none⟩=some (.slice (some ⟨g,0,none⟩) n c1)∧V.cell? ⟨wr.heap.size,1,none⟩=some (.slice aS nS cS)∧V.cell? ⟨wr.heap.size,2,none⟩=some (.slice aC nC cC)∧V.cell? ⟨wr.heap.size,3,none⟩=some (.slice aT nT cT)):=Lib.hid fun V hV=>by
    have n1:=HO4.out.ne.1
    have h1:=hV.at HO4.out.h1 (by simpa using n1)
    rw[HN.out] at h1
    have h2:=hV.at hq4 (by simp;omega)
    exact⟨cell_of h1 1,cell_of h2 1,cell_of h2 2,cell_of h2 3⟩
   clear hf4 hq4 hW4 p0 p1 p2 p3 c1'
   go_region_held3 (fun V=>V.cell? ⟨w.heap.size,1,none⟩=some (.slice (some ⟨g,0,none⟩) n c1)∧V.cell? ⟨wr.heap.size,1,none⟩=some (.slice aS nS cS)∧V.cell? ⟨wr.heap.size,2,none⟩=some (.slice aC nC cC)∧V.cell? ⟨wr.heap.size,3,none⟩=some (.slice aT nT cT))
    (first
     | exact HS.out _ ((Frm.refl [g] W4).drew)
     | exact HS.out _ F5.out
     | exact HS.out _ F6.out
     | exact HS.out _ F7.out
     | exact HS.out _ (F7.out.setCell _ (.inl (by simp)) _)
     | exact HS.out _ ((F7.out.setCell _ (.inl (by simp)) _).setCell _ (.inl (by simp)) _)
     | exact HS.out _ (((F7.out.setCell _ (.inl (by simp)) _).setCell _ (.inl (by simp)) _).setCell _ (.inl (by simp)) _))
    (first
     | (go_at_call 138;go_must (refine(CS.out _ (HO4.out.fr.drew)).mono ?_;rintro e w5 ⟨u,rfl,hr⟩;have F5:Hid (Frm [g] W4 w5):=Lib.hid (((Frm.refl [g] W4).drew).trans (hr.frm.mono (by simp)));have G5:Hid (Frm [] w w5):=Lib.hid (HO4.out.fr.drew.trans hr.frm);have K5:Hid (Frm [] W4 w5):=Lib.hid ((Frm.refl [] W4).drew.trans hr.frm);have hst:=hr.stb StAt.leaf;rw[HLS.out] at hst;obtain⟨a5,k5,rfl,hst⟩:=hst;have HT5:=Lib.hid hst;clear hst hr))
     | (go_at_call 139;go_must (refine(CC.out _ G5.out).mono ?_;rintro e w6 ⟨u,rfl,hr⟩;have F6:Hid (Frm [g] W4 w6):=Lib.hid (F5.out.trans (hr.frm.mono (by simp)));have G6:Hid (Frm [] w w6):=Lib.hid (G5.out.trans hr.frm);have E6:=Lib.hid hr.frm;have K6:Hid (Frm [] W4 w6):=Lib.hid (K5.out.trans hr.frm);have hst:=hr.stb CtAt.leaf;rw[HLC.out] at hst;obtain⟨a6,k6,rfl,hst⟩:=hst;have HT6:=Lib.hid hst;clear hst hr))
     | (go_at_call 140;go_must (refine(CT.out _ G6.out).mono ?_;rintro e w7 ⟨u,rfl,hr⟩;have F7:Hid (Frm [g] W4 w7):=Lib.hid (F6.out.trans (hr.frm.mono (by simp)));have E7:=Lib.hid hr.frm;have K7:Hid (Frm [] W4 w7):=Lib.hid (K6.out.trans hr.frm);have h7:=HO4.out.frm K7.out;obtain⟨v1,v2,v3,-,z1,z2,z3,-⟩:=h7.rest i r (Nat.le_refl _) HRR.out;obtain⟨cur,hgc⟩:=h7.hg;have y1:=free_of hgc (i * 4 + 1);have y2:=free_of hgc (i * 4 + 2);have y3:=free_of hgc (i * 4 + 3);clear hgc h7;have hcp:=hr.cap;have HCP:=Lib.hid hcp;clear hcp;have hst:=hr.stb SpAt.leaf;rw[HLT.out] at hst;obtain⟨a7,k7,rfl,hst⟩:=hst;have HT7:=Lib.hid hst;clear hst hr)))
   have HC3:Hid (Cl3 W4 (.slice a5 nS k5) (.slice a6 nC k6) (.slice a7 nT k7) r w7):=Lib.hid (by
    have s5:=K5.out.size;have s6:=K6.out.size;have e6:=E6.out.size
    have e56:=E6.out.trans E7.out
    refine⟨K7.out,fun V hV=>?_,fun V hV=>?_,fun V hV=>?_,HCP.out⟩
    ·have:=HT5.out V V (hV.old e56 (by simp)) (hV.old e56 (by simp))
     rw[← HLS.out] at this ⊢;exact this
    ·have h8:=(hV.old E7.out (by simp)).low s5
     have:=HT6.out V V h8 h8
     rw[← HLC.out] at this ⊢;exact this
    ·have h8:=hV.low s6
     have:=HT7.out V V h8 h8
     rw[← HLT.out] at this ⊢;exact this)
   go_wp2
   exact⟨⟨i + 1,congrArg (Value.int .i64) (by omega),hlt,HO4.out.step HRR.out HC3.out⟩,by simp[intOf];omega⟩
  ·obtain rfl:i=n:=by omega
   have hge:¬ (i:Int) < (i:Int):=by omega
   have hc1:=HO.out.h1
   rw[HN.out] at hc1
   have HC2:=Lib.hid HO.out.h2
   have x0:=cell_of hc1 0
   have x1:=cell_of hc1 1
   have x2:=cell_of hc1 2
   have x3:=cell_of hc1 3
   clear hc1
   go_wp2_with (first
    | (refine wpList_store_row rfl 25 _ _ rfl _ _ _ 25 rfl rfl HC2.out rfl (by kernel_rfl) (by simp[Value.oneCell']) ?_;intro w2 hb2 hf2))
   refine bodyPost_ret (results_c1 (d:=_) (Tryz.results81) rfl hb2 rfl Tryz.underlying25 (by kernel_rfl)) rfl ⟨_,rfl,?_⟩
   have hoi:=HO.out
   rw[← HN.out] at hoi
   exact⟨⟨g,c1,by rw[HN.out]⟩,hoi.fr.then hf2 (by intro x hx;simp at hx;subst hx;right;omega),fun V hV=>by have:=hoi.ses hf2 hV;rwa [HN.out] at this⟩
end Go.Proofs.YtemjlpahohmajaaGreat
namespace Go.Proofs.YtemjlpahohmajaaGreat
open Go.RowKit Go.BigFrame
def Kp (I:Nat→Prop) (T:List TypeId) (W V:World):Prop:=∀ k c t,I k→W.heap[k]?=some (.cells c t (0,0))→t∉T→V.heap[k]?=some (.cells c t (0,0))
section
variable {I J:Nat→Prop} {T:List TypeId} {W V:World}
theorem Kp.of_kt (h:Kt T W V):Kp I T W V:=fun _ _ _ _ hk ht=>h.cells hk ht
theorem Kp.of_agree {B:Nat} (h:Agree B W V) (hI:∀ k,I k→B≤k):Kp I [] W V:=fun k _ _ hi hk _=>(h k (hI k hi) (lt_of_block hk)).trans hk
theorem Kp.of_frm {F:List Nat} (h:Frm F W V) (hI:∀ k,I k→k∉F):Kp I [] W V:=fun k _ _ hi hk _=>h.at hk (hI k hi)
theorem Kp.of_frm0 (h:Frm [] W V):Kp I [] W V:=Kp.of_frm h (by simp)
theorem Kp.row {base e size n:Nat} {v:Value} {xs:List Value} (h:Kp I T W V) (ho:W.ownsRow base e size v n xs) (hi:∀ k,v.ownBlock=some k→I k) (he:e∉T):V.ownsRow base e size v n xs:=by
 obtain⟨h1,h2⟩:=ho
 refine⟨h1,?_⟩
 rcases h2 with h2 | ⟨g,cap,cur,hv,hg,hh,r⟩
 ·exact .inl h2
 ·exact .inr ⟨g,cap,cur,hv,hg,h g _ _ (hi g (by rw[hv];rfl)) hh he,r⟩
def ChO (I:Nat→Prop) (W:World) (cb:Nat) (cls cap:Int) (L:List ByteArray):Prop:=∃ F,Chn W cb cls cap L F∧∀ x∈F,I x
theorem ChO.kp {cb:Nat} {cls cap:Int} {L:List ByteArray} (h:ChO I W cb cls cap L) (hk:Kp I T W V) (h1:213∉T) (h2:9∉T):ChO I V cb cls cap L:=by
 obtain⟨F,⟨sv,g1,g2,g3,rfl⟩,hI⟩:=h
 exact⟨_,⟨sv,hk cb _ _ (hI cb (by simp)) g1 h1,hk.row g2 (fun k hk=>hI k (by simp[hk])) h2,g3,rfl⟩,hI⟩
abbrev pv (cb:Nat):Value:=.pointer (some ⟨cb,0,none⟩)
def RowC (I:Nat→Prop) (W:World) (cls cap:Int) (cells:List Value) (Ls:List (List ByteArray)):Prop:=cells.length=Ls.length∧∀ (k:Nat) L,Ls[k]?=some L→∃ cb,cells[k]?=some (pv cb)∧ChO I W cb cls cap L
def RowO (I:Nat→Prop) (W:World) (cls cap:Int) (r:Value) (Ls:List (List ByteArray)):Prop:=∃ base cells,W.ownsRow base 149 1 r Ls.length cells∧(∀ k,r.ownBlock=some k→I k)∧RowC I W cls cap cells Ls
theorem RowC.kp {cls cap:Int} {cells:List Value} {Ls:List (List ByteArray)} (h:RowC I W cls cap cells Ls) (hk:Kp I T W V) (h1:213∉T) (h2:9∉T):RowC I V cls cap cells Ls:=by
 refine⟨h.1,fun k L hL=>?_⟩
 obtain⟨cb,g1,g2⟩:=h.2 k L hL
 exact⟨cb,g1,g2.kp hk h1 h2⟩
theorem snoc_at {α:Type} {l:List α} {x y:α} {k:Nat} (h:(l ++ [x])[k]?=some y):l[k]?=some y∨(k=l.length∧y=x):=by
 by_cases hk:k < l.length
 ·rw[List.getElem?_append_left hk] at h;exact .inl h
 ·rw[List.getElem?_append_right (by omega)] at h
  have hl:=lt_of_some h
  simp at hl
  have e:k - l.length=0:=by omega
  rw[e] at h
  simp at h
  exact .inr ⟨by omega,h.symm⟩
theorem RowC.snoc {cls cap:Int} {cells:List Value} {Ls:List (List ByteArray)} {cb:Nat} {L:List ByteArray} (h:RowC I W cls cap cells Ls) (hc:ChO I W cb cls cap L):RowC I W cls cap (cells ++ [pv cb]) (Ls ++ [L]):=by
 refine⟨by simp[h.1],fun k L' hL=>?_⟩
 rcases snoc_at hL with hL | ⟨rfl,rfl⟩
 ·obtain⟨cb',g1,g2⟩:=h.2 k L' hL
  exact⟨cb',by rw[List.getElem?_append_left (lt_of_some g1)];exact g1,g2⟩
 ·exact⟨cb,by rw[← h.1];simp,hc⟩
theorem RowC.nil {cls cap:Int}:RowC I W cls cap [] []:=⟨rfl,fun k L h=>by simp at h⟩
theorem RowO.kp {cls cap:Int} {r:Value} {Ls:List (List ByteArray)} (h:RowO I W cls cap r Ls) (hk:Kp I T W V) (h1:213∉T) (h2:9∉T) (h3:149∉T):RowO I V cls cap r Ls:=by
 obtain⟨base,cells,g1,g2,g3⟩:=h
 exact⟨base,cells,hk.row g1 g2 h3,g2,g3.kp hk h1 h2⟩
theorem own_cell {base e n:Nat} {v:Value} {xs:List Value} {size:Nat} (h:W.ownsRow base e size v n xs) {j:Nat} {u:Value} (hu:xs[j]?=some u):∃ g cap,v=.slice (some ⟨g,0,none⟩) n cap∧W.cell? ⟨g,j,none⟩=some u:=by
 obtain⟨h0,h2⟩:=h
 have hl:=lt_of_some hu
 rcases h2 with ⟨-,h2⟩ | ⟨g,cap,cur,rfl,hg,hh,-,-,-,ht⟩
 ·rw[h0,h2] at hl;omega
 ·refine⟨g,cap,rfl,?_⟩
  rw[cell_of hh,← Array.getElem?_toList]
  rw[← List.getElem?_take_of_lt (j:=n * size) (by rw[← h0];exact hl),ht]
  exact hu
theorem RowO.rowV {cls cap:Int} {r:Value} {Ls:List (List ByteArray)} (h:RowO I W cls cap r Ls):RowV cls cap W r Ls:=by
 obtain⟨base,cells,g1,g2,g3⟩:=h
 obtain⟨ao,cp,rfl⟩:=own_shape g1
 refine⟨ao,cp,rfl,fun k L hL=>?_⟩
 obtain⟨cb,k1,F,k2,-⟩:=g3.2 k L hL
 obtain⟨g,c,e,hc⟩:=own_cell g1 k1
 cases e
 exact⟨g,0,rfl,cb,F,by rw[Nat.zero_add,Nat.mul_one];exact hc,k2⟩
def WayC (I:Nat→Prop) (W:World) (cls cap:Int) (cells:List Value) (Ws:List (List (List ByteArray))):Prop:=cells.length=Ws.length∧∀ (k:Nat) R,Ws[k]?=some R→∃ r,cells[k]?=some r∧RowO I W cls cap r R
def WaysO (I:Nat→Prop) (W:World) (cls cap:Int) (v:Value) (Ws:List (List (List ByteArray))):Prop:=∃ base cells,W.ownsRow base 148 1 v Ws.length cells∧(∀ k,v.ownBlock=some k→I k)∧WayC I W cls cap cells Ws
theorem WayC.kp {cls cap:Int} {cells:List Value} {Ws:List (List (List ByteArray))} (h:WayC I W cls cap cells Ws) (hk:Kp I T W V) (h1:213∉T) (h2:9∉T) (h3:149∉T):WayC I V cls cap cells Ws:=by
 refine⟨h.1,fun k L hL=>?_⟩
 obtain⟨cb,g1,g2⟩:=h.2 k L hL
 exact⟨cb,g1,g2.kp hk h1 h2 h3⟩
theorem WayC.snoc {cls cap:Int} {cells:List Value} {Ws:List (List (List ByteArray))} {r:Value} {R:List (List ByteArray)} (h:WayC I W cls cap cells Ws) (hc:RowO I W cls cap r R):WayC I W cls cap (cells ++ [r]) (Ws ++ [R]):=by
 refine⟨by simp[h.1],fun k L' hL=>?_⟩
 rcases snoc_at hL with hL | ⟨rfl,rfl⟩
 ·obtain⟨cb',g1,g2⟩:=h.2 k L' hL
  exact⟨cb',by rw[List.getElem?_append_left (lt_of_some g1)];exact g1,g2⟩
 ·exact⟨r,by rw[← h.1];simp,hc⟩
theorem WayC.nil {cls cap:Int}:WayC I W cls cap [] []:=⟨rfl,fun k L h=>by simp at h⟩
theorem WaysO.kp {cls cap:Int} {r:Value} {Ls:List (List (List ByteArray))} (h:WaysO I W cls cap r Ls) (hk:Kp I T W V) (h1:213∉T) (h2:9∉T) (h3:149∉T) (h4:148∉T):WaysO I V cls cap r Ls:=by
 obtain⟨base,cells,g1,g2,g3⟩:=h
 exact⟨base,cells,hk.row g1 g2 h4,g2,g3.kp hk h1 h2 h3⟩
theorem WaysO.arr {cls cap:Int} {v:Value} {Ws:List (List (List ByteArray))} (h:WaysO I W cls cap v Ws):Arr 1 (RwAt cls cap) W v Ws:=by
 obtain⟨base,cells,g1,g2,g3⟩:=h
 obtain⟨ao,cp,rfl⟩:=own_shape g1
 refine⟨ao,cp,rfl,fun k L hL=>?_⟩
 obtain⟨r,k1,k2⟩:=g3.2 k L hL
 obtain⟨g,c,e,hc⟩:=own_cell g1 k1
 cases e
 exact⟨g,0,rfl,r,by rw[Nat.zero_add,Nat.mul_one];exact hc,k2.rowV⟩
def BkO (I:Nat→Prop) (W:World) (bb:Nat) (l:List (CtrD × Int)):Prop:=∃ g,BnkO W bb g l∧I bb∧I g
theorem BnkO.kp {bb g:Nat} {l:List (CtrD × Int)} (h:BnkO W bb g l) (hk:Kp I T W V) (i1:I bb) (i2:I g) (h1:209∉T) (h2:207∉T):BnkO V bb g l:=by
 obtain⟨⟨lv,k1,k2⟩,h3⟩:=h
 rcases h3 with rfl | ⟨cap,cur,k3,k4⟩
 ·obtain⟨ao,c,rfl,-⟩:=k2
  exact⟨⟨_,hk _ _ _ i1 k1 h1,Arr.nil _ _ _⟩,.inl rfl⟩
 ·rw[k1] at k3
  cases k3
  have k5:=hk _ _ _ i2 k4 h2
  have e5:V.heap[g]?=W.heap[g]?:=by rw[k4,k5]
  refine⟨⟨_,hk _ _ _ i1 k1 h1,?_⟩,.inr ⟨cap,cur,hk _ _ _ i1 k1 h1,k5⟩⟩
  obtain⟨ao,c,e,hx⟩:=k2
  refine⟨ao,c,e,fun i x hi=>?_⟩
  obtain⟨b,o,e2,a0,a1,a2⟩:=hx i x hi
  rw[e2] at e
  cases e
  exact⟨g,0,e2,cell_eq a0 e5,cell_eq a1 e5,cell_eq a2 e5⟩
theorem BkO.kp {bb:Nat} {l:List (CtrD × Int)} (h:BkO I W bb l) (hk:Kp I T W V) (h1:209∉T) (h2:207∉T):BkO I V bb l:=by
 obtain⟨g,g1,g2,g3⟩:=h
 exact⟨g,g1.kp hk g2 g3 h1 h2,g2,g3⟩
theorem BkO.bnk {bb:Nat} {l:List (CtrD × Int)} (h:BkO I W bb l):Bnk W bb l:=by
 obtain⟨g,g1,g2,g3⟩:=h
 exact g1.bnk
theorem GO.bko {w:World} {bb:Nat} {l:List (CtrD × Int)} (h:GO 209 207 3 w bb 1 #[.bool true,undef] l.length (cnC l) W) (hI:∀ k,w.heap.size≤k→I k):BkO I W bb l:=by
 have hb:=GO.bnk h
 obtain⟨ao,cap,h1,h2⟩:=h.bx
 by_cases hl:l=[]
 ·exact⟨bb,⟨hb,.inl hl⟩,hI _ h.new,hI _ h.new⟩
 ·obtain⟨g,cp,cur,e,hg,hh⟩:=own_block h2 (by simpa using hl)
  cases e
  exact⟨g,⟨hb,.inr ⟨_,cur,h1,hh⟩⟩,hI _ h.new,hI _ hg⟩
def ActC (I:Nat→Prop) (W:World) (cells:List Value) (As:List (Int × List (CtrD × Int))):Prop:=cells.length=As.length * 2∧∀ (i:Nat) a,As[i]?=some a→∃ bb,cells[i * 2]?=some (.int .i64 a.1)∧cells[i * 2 + 1]?=some (pv bb)∧BkO I W bb a.2
def ActsO (I:Nat→Prop) (W:World) (v:Value) (As:List (Int × List (CtrD × Int))):Prop:=∃ base cells,W.ownsRow base 143 2 v As.length cells∧(∀ k,v.ownBlock=some k→I k)∧ActC I W cells As
theorem ActC.kp {cells:List Value} {As:List (Int × List (CtrD × Int))} (h:ActC I W cells As) (hk:Kp I T W V) (h1:209∉T) (h2:207∉T):ActC I V cells As:=by
 refine⟨h.1,fun i a ha=>?_⟩
 obtain⟨bb,g1,g2,g3⟩:=h.2 i a ha
 exact⟨bb,g1,g2,g3.kp hk h1 h2⟩
theorem ActC.snoc {cells:List Value} {As:List (Int × List (CtrD × Int))} {p:Int} {bb:Nat} {l:List (CtrD × Int)} (h:ActC I W cells As) (hb:BkO I W bb l):ActC I W (cells ++ [.int .i64 p,pv bb]) (As ++ [(p,l)]):=by
 refine⟨by simp[h.1];omega,fun i a ha=>?_⟩
 rcases snoc_at ha with ha | ⟨rfl,rfl⟩
 ·obtain⟨bb',g1,g2,g3⟩:=h.2 i a ha
  exact⟨bb',by rw[List.getElem?_append_left (lt_of_some g1)];exact g1,by rw[List.getElem?_append_left (lt_of_some g2)];exact g2,g3⟩
 ·refine⟨bb,?_,?_,hb⟩
  ·rw[List.getElem?_append_right (by rw[h.1];omega),h.1];simp
  ·rw[List.getElem?_append_right (by rw[h.1];omega),h.1,show As.length * 2 + 1 - As.length * 2=1 by omega];simp
theorem ActC.nil:ActC I W [] []:=⟨rfl,fun k L h=>by simp at h⟩
theorem ActsO.kp {v:Value} {As:List (Int × List (CtrD × Int))} (h:ActsO I W v As) (hk:Kp I T W V) (h1:209∉T) (h2:207∉T) (h3:143∉T):ActsO I V v As:=by
 obtain⟨base,cells,g1,g2,g3⟩:=h
 exact⟨base,cells,hk.row g1 g2 h3,g2,g3.kp hk h1 h2⟩
theorem ActsO.arr {v:Value} {As:List (Int × List (CtrD × Int))} (h:ActsO I W v As):Arr 2 AcAt W v As:=by
 obtain⟨base,cells,g1,g2,g3⟩:=h
 obtain⟨ao,cp,rfl⟩:=own_shape g1
 refine⟨ao,cp,rfl,fun i a ha=>?_⟩
 obtain⟨bb,k1,k2,k3⟩:=g3.2 i a ha
 obtain⟨g,c,e,hc⟩:=own_cell g1 k1
 cases e
 obtain⟨g',c',e',hc'⟩:=own_cell g1 k2
 cases e'
 exact⟨g,0,rfl,bb,by rw[Nat.zero_add];exact hc,by rw[Nat.zero_add];exact hc',k3.bnk⟩
structure StO (I:Nat→Prop) (W:World) (s:SesD) (yb sb:Nat) (x:PS):Prop where
 out:∃ av wv,W.heap[sb]?=some (.cells #[pv yb,av,wv] 140 (0,0))∧I sb∧ActsO I W av (actsP s x)∧WaysO I W s.cls s.cap wv x.ways
 ok:PSok s x
theorem StO.str {s:SesD} {yb sb:Nat} {x:PS} (h:StO I W s yb sb x):StR W s yb sb x:=by
 obtain⟨av,wv,h1,h2,h3,h4⟩:=h.out
 exact⟨⟨av,wv,h1,h3.arr,h4.arr⟩,h.ok⟩
theorem StO.kp {s:SesD} {yb sb:Nat} {x:PS} (h:StO I W s yb sb x) (hk:Kp I [] W V):StO I V s yb sb x:=by
 obtain⟨av,wv,h1,h2,h3,h4⟩:=h.out
 exact⟨⟨av,wv,hk sb _ _ h2 h1 (by simp),h2,h3.kp hk (by simp) (by simp) (by simp),h4.kp hk (by simp) (by simp) (by simp) (by simp)⟩,h.ok⟩
end
end Go.Proofs.YtemjlpahohmajaaGreat
namespace Go.Proofs.YtemjlpahohmajaaGreat
open Go.RowKit Go.BigFrame Go.Maps
theorem ctV_val (l:List (CtrD × Int)) (n:ByteArray):∃ a e,ctV l n=.tuple #[.int .i64 a,.int .i64 e]:=by
 unfold ctV
 split
 ·split
  ·exact⟨_,_,rfl⟩
  ·exact⟨_,_,rfl⟩
 ·exact⟨_,_,rfl⟩
theorem guard_val {s:SesD} {x:PS} (hs:SesOk s) (hx:PSok s x) {i:Nat} (hi:i < s.roles.length) {t:StpD} (ht:t∈(s.rol i).steps) {a e:Int} (hv:ctV (x.ctr s i) t.ctr=.tuple #[.int .i64 a,.int .i64 e]) :
  bankOk (s.rol i).ctrs (x.bank i) t=(decide (t.ctr=emptyS) || (decide (t.low≤a) && decide (a≤t.high))):=by
 have hst:=(hs.at hi).stp t ht
 have hvb:=hx.vb i hi
 rw[bank_guard hst hvb]
 by_cases he:t.ctr=emptyS
 ·rw[decide_eq_true he];rfl
 ·obtain⟨k,c,h1,h2,-⟩:=hst.ctr he
  have h3:ctV (x.ctr s i) t.ctr=.tuple #[.int .i64 ((x.bank i).getD k 0),.int .i64 0]:=by
   unfold ctV PS.ctr
   rw[cnIx_zip hvb.1,h1,Int.toNat_natCast,zip_at hvb.1 h2]
   simp only
   rw[if_pos (by omega)]
  rw[h3] at hv
  injection hv with hv
  have h4:(x.bank i).getD k 0=a:=by
   have:=congrArg (fun A:Array Value=>A.getD 0 undef) hv
   simp at this
   simpa using this
  rw[h1,Int.toNat_natCast,h4]
set_option maxHeartbeats 2000000 in
set_option maxRecDepth 100000 in
theorem xpGrd_any (s:SesD) (yb fb sb i:Nat) (x:PS) (t:StpD) (w:World) (h:SyR w s yb fb) (hx:StR w s yb sb x) (hi:i < s.roles.length) (ht:t∈(s.rol i).steps) :
  Calls Tryz.prog 125 #[.pointer (some ⟨sb,0,none⟩),.int .i64 i,stpV t] w (Ret (.bool (bankOk (s.rol i).ctrs (x.bank i) t)) (Frm [] w)):=by
 obtain⟨a,e,hv⟩:=ctV_val (x.ctr s i) t.ctr
 rw[guard_val h.ok hx.ok hi ht hv]
 obtain⟨W0,hW0⟩:∃ W0,w.alloc (.cells #[.string t.frm,.string t.to,.int .i64 t.kind,.string t.msg,.string t.peer,.string t.ctr,.int .i64 t.low,.int .i64 t.high,.int .i64 t.add] 90)=W0:=⟨_,rfl⟩
 have hf0:Frm [] w W0:=by rw[← hW0];exact(Frm.refl _ _).alloc _
 have CC:=Lib.hid (pCounter_ok s yb fb sb i x t.ctr W0 (h.frm hf0) (hx.frm hf0) hi)
 rw[hv] at CC
 have HB:Hid (∀ V,Frm [] W0 V→V.cell? ⟨w.heap.size,5,none⟩=some (.string t.ctr)∧V.cell? ⟨w.heap.size,6,none⟩=some (.int .i64 t.low)∧V.cell? ⟨w.heap.size,7,none⟩=some (.int .i64 t.high)):=Lib.hid fun V hV=>by
  have hb:=hV.at (show W0.heap[w.heap.size]?=_ by rw[← hW0];exact heap_alloc_new _ _) (by simp)
  exact⟨cell_of hb 5,cell_of hb 6,cell_of hb 7⟩
 have HF0:=Lib.hid hf0;have HE:=Lib.hid hW0
 clear hi ht hx h hf0 hW0 hv
 go_enter Tryz.func125,Tryz.ntmps125
 go_upto_region 1 with (first | (refine wpList_box_row rfl 90 _ rfl _ rfl ?_;rw[HE.out]))
 clear HE
 obtain⟨x5,x6,x7⟩:=HB.out _ (Frm.refl _ _)
 go_upto_region 2 with (first
  | (go_at_call 161;go_must (refine CC.out.mono ?_;rintro e w1 ⟨rfl,hf1⟩;have HF1:=Lib.hid hf1;clear hf1 x5 x6 x7 CC)))
 obtain⟨x5,x6,x7⟩:=HB.out _ HF1.out
 have HFE:=Lib.hid (HF0.out.trans HF1.out)
 clear HB HF0 HF1
 by_cases he:t.ctr=emptyS
 ·have hq:t.ctr.toList.isEmpty=true:=emp_yes he
  have HD:Hid (decide (t.ctr=emptyS)=true):=Lib.hid (decide_eq_true he)
  clear he
  go_wp2
  go_ret
  exact⟨by rw[HD.out];rfl,HFE.out⟩
 ·have hq:t.ctr.toList.isEmpty=false:=emp_no he
  have HD:Hid (decide (t.ctr=emptyS)=false):=Lib.hid (decide_eq_false he)
  clear he
  by_cases h1:t.low≤a
  ·have HL:Hid (decide (t.low≤a)=true):=Lib.hid (decide_eq_true h1)
   have h1':=HL.out
   go_wp2
   go_ret
   refine⟨?_,HFE.out⟩
   rw[HD.out,HL.out]
   simp
  ·have HL:Hid (decide (t.low≤a)=false):=Lib.hid (decide_eq_false h1)
   have h1':=HL.out
   go_wp2
   go_ret
   exact⟨by rw[HD.out];rfl,HFE.out⟩
def ArrTo (w:World) (cls:Int) (L:List ByteArray) (v:Value) (w':World):Prop:=∃ bl bc cb sv,v=.func (.func 149) #[] #[.pointer (some ⟨bl,0,none⟩),.pointer (some ⟨bc,0,none⟩)]∧ChR bl bc cb cls sv L w'∧(∃ F,Chn w' cb cls 64 L F)∧Frm [] w w'
set_option maxHeartbeats 2000000 in
set_option maxRecDepth 100000 in
theorem xpArr_any (s:SesD) (yb sb i p:Nat) (x:PS) (w:World) (hs:SesOk s) (hx:StR w s yb sb x) (hi:i < s.roles.length) (hp:p < s.roles.length) (hne:p≠i) :
  Calls Tryz.prog 123 #[.pointer (some ⟨sb,0,none⟩),.int .i64 s.cls,.int .i64 i,.int .i64 p] w (RetV (ArrTo w s.cls (x.way p i))):=by
 have CC:=Lib.hid (pChannel_ok s yb sb p i x w hx hp hi hne)
 have hwb:=hx.ok.wb p i hp hi
 have hk4:=hs.k4
 obtain⟨L,hL⟩:∃ L,x.way p i=L:=⟨_,rfl⟩
 rw[hL] at CC hwb ⊢
 obtain⟨m,hm⟩:∃ m,L.length=m:=⟨_,rfl⟩
 have HN:=Lib.hid hm
 have HM:Hid (m≤4∧∀ b∈L,1≤b.size∧b.size≤32):=Lib.hid ⟨by omega,hwb.2⟩
 have CN:Hid (∀ V,Calls Tryz.prog 82 #[.int .i64 s.cls,.int .i64 64] V (Ret (.tuple #[.pointer (some ⟨V.heap.size,0,none⟩),.int .i64 0]) (fun w'=>Frm [] V w'∧Chn w' V.heap.size s.cls 64 [] [V.heap.size]))):=Lib.hid fun V=>new_ok s.cls 64 V (by unfold okC;exact decide_eq_true ⟨hs.c1,hs.c3,by omega,by omega⟩)
 clear hx hi hp hne hs hL hwb hk4 hm
 go_enter Tryz.func123,Tryz.ntmps123
 go_upto_region 4 with (first
  | (go_at_call 159;go_must (refine CC.out.mono ?_;rintro e w1 ⟨v,rfl,u,rfl,hfr⟩;obtain⟨ao,cp,rfl,-,hcs⟩:=hfr.1.shape;have HFR:=Lib.hid hfr;have HCS:=Lib.hid hcs;rw[HN.out];clear hfr hcs CC))
  | (go_at_call 82;go_must (refine(CN.out _).mono ?_;rintro e w2 ⟨rfl,hf,hch⟩;have HF2:=Lib.hid hf;have HCH:=Lib.hid hch;clear hf hch CN)))
 have HF02:Hid (Frm [] w w2):=Lib.hid (HFR.out.2.1.trans HF2.out)
 obtain⟨cb,hcb⟩:∃ cb,w1.heap.size=cb:=⟨_,rfl⟩
 have HCB:Hid (w.heap.size≤cb):=Lib.hid (by rw[← hcb];exact HFR.out.2.1.size)
 rw[hcb] at HCH ⊢
 have HB1:=Lib.hid hcb
 clear hcb
 go_loopw [29] (fun s29 wr=>∃ (k:Nat) (F:List Nat),s29=.int .i64 k∧k≤m∧Chn wr cb s.cls 64 (L.take k) F∧Frm [] w1 wr∧∀ y∈F,cb≤y) (fun s29 _=>m - (intOf s29).toNat)
 case atStart=>exact⟨0,_,rfl,Nat.zero_le _,HCH.out,HF2.out,by simp⟩
 case round =>
  obtain⟨k,F,rfl,hk,hch,hf,hF⟩:=hrel
  have HC:=Lib.hid hch;have HF:=Lib.hid hf;have HFy:=Lib.hid hF
  clear hch hf hF
  by_cases hlt:k < m
  ·obtain⟨b,hb⟩:∃ b,L[k]?=some b:=⟨_,List.getElem?_eq_getElem (by rw[HN.out];exact hlt)⟩
   obtain⟨g,hg,cg⟩:=HCS.out k b hb
   subst hg
   have cg1:=HF.out.keep cg
   have hsz:=HM.out.2 b (List.mem_of_getElem? hb)
   have CP:=Lib.hid (put_any cb s.cls 64 (L.take k) F b wr HC.out hsz.1 hsz.2 (by rw[List.length_take];have:=HM.out.1;omega))
   rw[(take_snoc' hb).1.symm] at CP
   have hlt':(k:Int) < (m:Int):=by omega
   have hm4:=HM.out.1
   clear hb cg hsz
   go_wp2_with (first
    | (go_at_call 67;go_must (refine CP.out.mono ?_;rintro e w3 ⟨rfl,F',hc,hf,hF⟩;have HC3:=Lib.hid hc;have HF3:=Lib.hid hf;have HFy3:=Lib.hid hF;clear hc hf hF CP)))
   go_roundw
   case rel =>
    refine⟨k + 1,F',by go_num,hlt,HC3.out,HF.out.then HF3.out (fun y hy=>.inr ?_),fun y hy=>?_⟩
    ·have:=HFy.out y hy;have:=HB1.out;omega
    ·rcases HFy3.out y hy with h | h
     ·exact HFy.out y h
     ·have:=HF.out.size;have:=HB1.out;omega
   case measure=>simp[intOf];omega
  ·obtain rfl:k=m:=by omega
   have hge:¬ (k:Int) < (k:Int):=by omega
   have HC9:Hid (Chn wr cb s.cls 64 L F):=Lib.hid (by have:=HC.out;rwa [List.take_of_length_le (by rw[HN.out];exact Nat.le_refl _)] at this)
   have CH:=Lib.hid (choose_any cb s.cls 64 L F wr HC9.out)
   go_wp2_with (first
    | (go_at_call 106;go_must (refine CH.out.mono ?_;rintro e w4 ⟨v,rfl,bl,bc,sv,rfl,hcr,hf,-⟩;have HCR:=Lib.hid hcr;have HF4:=Lib.hid hf;clear hcr hf CH)))
   go_ret
   exact⟨_,rfl,bl,bc,cb,sv,rfl,HCR.out,⟨F,HC9.out.frm HF4.out (by simp)⟩,HFR.out.2.1.trans (HF.out.trans HF4.out)⟩
end Go.Proofs.YtemjlpahohmajaaGreat
namespace Go.Proofs.YtemjlpahohmajaaGreat
open Go.RowKit Go.BigFrame Go.Maps
def ndC1 (d:Nd × Nat):List Value:=[.pointer (some ⟨d.2,0,none⟩),.int .i64 d.1.par,.int .i64 d.1.mv.kind,.int .i64 d.1.mv.role,.int .i64 d.1.mv.step,.int .i64 d.1.mv.place,.int .i64 d.1.lvl]
abbrev ndV (d:Nd × Nat):Value:=.agg #[.pointer (some ⟨d.2,0,none⟩),.int .i64 d.1.par,.int .i64 d.1.mv.kind,.int .i64 d.1.mv.role,.int .i64 d.1.mv.step,.int .i64 d.1.mv.place,.int .i64 d.1.lvl]
def ndC (N:List (Nd × Nat)):List Value:=N.flatMap ndC1
theorem ndC_length (N:List (Nd × Nat)):(ndC N).length=N.length * 7:=by
 induction N with
 | nil=>rfl
 | cons d N ih=>unfold ndC at ih ⊢;rw[List.flatMap_cons,List.length_append,ih];simp[ndC1];omega
theorem ndC_append (A B:List (Nd × Nat)):ndC (A ++ B)=ndC A ++ ndC B:=by unfold ndC;rw[List.flatMap_append]
theorem ndC_one (d:Nd × Nat):ndC [d]=ndC1 d:=by unfold ndC;simp
theorem ndC_at {N:List (Nd × Nat)}:∀ {i:Nat} {d:Nd × Nat},N[i]?=some d→∀ j,j < 7→(ndC N)[i * 7 + j]?=(ndC1 d)[j]?:=by
 induction N with
 | nil=>intro i d h;simp at h
 | cons a N ih =>
   intro i d h j hj
   have e:ndC (a :: N)=ndC1 a ++ ndC N:=rfl
   have h7:(ndC1 a).length=7:=rfl
   rw[e]
   cases i with
   | zero=>simp at h;subst h;rw[List.getElem?_append_left (by omega)];congr 1;omega
   | succ i=>rw[List.getElem?_append_right (by omega),h7,show (i + 1) * 7 + j - 7=i * 7 + j by omega];exact ih (by simpa using h) j hj
structure NdAt (W:World) (b o:Nat) (d:Nd × Nat):Prop where
 c0:W.cell? ⟨b,o,none⟩=some (.pointer (some ⟨d.2,0,none⟩))
 c1:W.cell? ⟨b,o + 1,none⟩=some (.int .i64 d.1.par)
 c2:W.cell? ⟨b,o + 2,none⟩=some (.int .i64 d.1.mv.kind)
 c3:W.cell? ⟨b,o + 3,none⟩=some (.int .i64 d.1.mv.role)
 c4:W.cell? ⟨b,o + 4,none⟩=some (.int .i64 d.1.mv.step)
 c5:W.cell? ⟨b,o + 5,none⟩=some (.int .i64 d.1.mv.place)
 c6:W.cell? ⟨b,o + 6,none⟩=some (.int .i64 d.1.lvl)
theorem NdAt.frm {W V:World} {b o:Nat} {d:Nd × Nat} (h:NdAt W b o d) (hf:Frm [] W V):NdAt V b o d:=⟨hf.keep h.c0,hf.keep h.c1,hf.keep h.c2,hf.keep h.c3,hf.keep h.c4,hf.keep h.c5,hf.keep h.c6⟩
theorem nd_arr {W:World} {base:Nat} {v:Value} {N:List (Nd × Nat)} (h:W.ownsRow base 117 7 v N.length (ndC N)):Arr 7 NdAt W v N:=by
 obtain⟨ao,cap,rfl⟩:=own_shape h
 refine⟨ao,cap,rfl,fun i d hd=>?_⟩
 have hl:=lt_of_some hd
 obtain⟨g,c,cur,e,-,-⟩:=own_block h (by omega)
 cases e
 have hc:=fun j hj=>World.ownsRow.cellAt h j hj
 have a:=ndC_at hd
 have hlen:=ndC_length N
 refine⟨g,0,rfl,?_⟩
 rw[Nat.zero_add]
 have k:∀ j u,j < 7→(ndC1 d)[j]?=some u→W.cell? ⟨g,i * 7 + j,none⟩=some u:=fun j u hj hu=>(hc _ (by omega)).trans ((a j hj).trans hu)
 exact⟨k 0 _ (by omega) rfl,k 1 _ (by omega) rfl,k 2 _ (by omega) rfl,k 3 _ (by omega) rfl,k 4 _ (by omega) rfl,k 5 _ (by omega) rfl,k 6 _ (by omega) rfl⟩
def findP (s:SesD) (N:List Nd) (k:List UInt8):Option Nat:=N.findIdx? fun d=>decide (keyP s d.st=k)
def keyF (s:SesD) (N:List Nd):Lit→Option Value
 | .string k=>(findP s N k).map fun i=>.int .i64 (i:Nat)
 | _=>none
theorem findP_none {s:SesD} {N:List Nd} {k:List UInt8}:(findP s N k).isSome=hasK s N k:=by
 unfold findP hasK
 rw[List.findIdx?_isSome]
theorem keyF_nil (s:SesD):keyF s []=fun _=>none:=by
 funext k
 cases k <;> rfl
theorem keyF_snoc {s:SesD} {N:List Nd} {d:Nd} (h:hasK s N (keyP s d.st)=false):keyF s (N ++ [d])=updL (keyF s N) (.string (keyP s d.st)) (some (.int .i64 (N.length:Nat))):=by
 funext k
 by_cases e:k=.string (keyP s d.st)
 ·subst e
  rw[updL_same]
  have h0:findP s N (keyP s d.st)=none:=by rw[← Option.not_isSome_iff_eq_none,findP_none,h];simp
  unfold findP at h0
  simp only[keyF,findP,List.findIdx?_append,h0]
  simp[List.findIdx?_cons]
 ·rw[updL_other _ _ e]
  cases k with
  | string b =>
    have hne:¬ keyP s d.st=b:=fun e'=>e (by rw[e'])
    simp only[keyF,findP,List.findIdx?_append]
    simp[List.findIdx?_cons,hne]
  | _=>rfl
def NdG (W:World) (u:Value):Prop:=(∀ x,u≠.string x)∧(∀ a n c,u≠.slice a n c)∧∀ p,u=.pointer (some ⟨p,0,none⟩)→Ty W p 140
theorem NdG.frm {W V:World} {F:List Nat} {u:Value} (h:NdG W u) (hf:Frm F W V) (hn:∀ p,Ty W p 140→p∉F):NdG V u:=⟨h.1,h.2.1,fun p e=>(h.2.2 p e).frm hf (hn p (h.2.2 p e))⟩
structure SpR (w:World) (s:SesD) (yb:Nat) (lim:Int) (whole:Bool) (qb mb:Nat) (N:List (Nd × Nat)) (W:World):Prop where
 fr:Frm [] w W
 lq:w.heap.size≤qb
 lm:w.heap.size≤mb
 bx:∃ ao cap,W.heap[qb]?=some (.cells #[.int .i64 lim,.bool whole,.slice ao N.length cap,.map (some mb)] 115 (0,0))∧W.ownsRow w.heap.size 117 7 (.slice ao N.length cap) N.length (ndC N)∧RowG (NdG W) 117 (.slice ao N.length cap) W
 mp:MapAt Tryz.prog 9 W (some mb) N.length (keyF s (N.map Prod.fst)) N.length
 st:∀ d∈N,StR W s yb d.2 d.1.st
structure SpO (W:World) (s:SesD) (yb:Nat) (whole:Bool) (pb:Nat) (N:List (Nd × Nat)):Prop where
 out:∃ qb mb lim ao cap,W.heap[pb]?=some (.cells #[.pointer (some ⟨qb,0,none⟩)] 121 (0,0))∧W.heap[qb]?=some (.cells #[.int .i64 lim,.bool whole,.slice ao N.length cap,.map (some mb)] 115 (0,0)) ∧
  Arr 7 NdAt W (.slice ao N.length cap) N∧MapAt Tryz.prog 9 W (some mb) N.length (keyF s (N.map Prod.fst)) N.length
 st:∀ d∈N,StR W s yb d.2 d.1.st
def RowOf (W:World) (qb k:Nat):Prop:=∃ a b v m,W.heap[qb]?=some (.cells #[a,b,v,m] 115 (0,0))∧v.ownBlock=some k
def SpB (W:World) (qb b:Nat):Prop:=FgB W b∧((∃ es c,W.heap[b]?=some (.map es c))∨Ty W b 115∨(Ty W b 117∧RowOf W qb b))
theorem cell_map {W:World} {b o:Nat} {es:Array MapEntry} {c:Nat} (h:W.heap[b]?=some (.map es c)):W.cell? ⟨b,o,none⟩=none:=by simp[World.cell?,h]
section
variable {w W V:World} {s:SesD} {yb qb mb pb:Nat} {lim:Int} {whole:Bool} {N:List (Nd × Nat)}
theorem SpR.frm (h:SpR w s yb lim whole qb mb N W) (hf:Frm [] W V):SpR w s yb lim whole qb mb N V:=by
 obtain⟨ao,cap,h1,h2,h3⟩:=h.bx
 refine⟨h.fr.trans hf,h.lq,h.lm,⟨ao,cap,hf.at h1 (by simp),hf.owns h2 (by simp),fun g cur hg hc u hu=>?_⟩,h.mp.frm hf (by simp),fun d hd=>(h.st d hd).frm hf⟩
 obtain⟨c,hc'⟩:=ownBlock_type h2 hg
 have:=hf.at hc' (by simp)
 rw[this] at hc
 cases hc
 exact(h3 g _ hg hc' u hu).frm hf (by simp)
theorem SpO.frm (h:SpO W s yb whole pb N) (hf:Frm [] W V):SpO V s yb whole pb N:=by
 obtain⟨qb,mb,lim,ao,cap,h1,h2,h3,h4⟩:=h.out
 exact⟨⟨qb,mb,lim,ao,cap,hf.at h1 (by simp),hf.at h2 (by simp),h3.frm fun _ _ _ h=>h.frm hf,h4.frm hf (by simp)⟩,fun d hd=>(h.st d hd).frm hf⟩
theorem SpR.done (h:SpR w s yb lim whole qb mb N W) (hp:W.heap[pb]?=some (.cells #[.pointer (some ⟨qb,0,none⟩)] 121 (0,0))):SpO W s yb whole pb N:=by
 obtain⟨ao,cap,h1,h2,h3⟩:=h.bx
 exact⟨⟨qb,mb,lim,ao,cap,hp,h1,nd_arr h2,h.mp⟩,h.st⟩
theorem SpR.fgm (h:SpR w s yb lim whole qb mb N W):SpB W qb mb:=by
 obtain⟨es,c,hb⟩:=h.mp.block rfl
 exact⟨⟨fun C t e=>(by rw[hb] at e;cases e),fun o x e=>(by rw[cell_map hb] at e;cases e),fun o p e=>(by rw[cell_map hb] at e;cases e),fun o g o' p n c e=>(by rw[cell_map hb] at e;cases e)⟩,.inl ⟨_,_,hb⟩⟩
theorem SpR.fgq (h:SpR w s yb lim whole qb mb N W):SpB W qb qb:=by
 obtain⟨ao,cap,h1,h2,h3⟩:=h.bx
 have c:=fun o=>cell_of h1 o
 refine⟨⟨fun C t e=>?_,fun o x e=>?_,fun o p e=>?_,fun o g o' p n c' e e2=>?_⟩,.inr (.inl ⟨_,h1⟩)⟩
 ·rw[h1] at e;cases e;decide
 ·rw[c] at e
  match o,e with
  | 0,e=>cases e
  | 1,e=>cases e
  | 2,e=>cases e
  | 3,e=>cases e
  | o + 4,e=>simp at e
 ·rw[c] at e
  match o,e with
  | 0,e=>cases e
  | 1,e=>cases e
  | 2,e=>cases e
  | 3,e=>cases e
  | o + 4,e=>simp at e
 ·rw[c] at e
  match o,e with
  | 0,e=>cases e
  | 1,e=>cases e
  | 2,e =>
    cases e
    obtain⟨cu,hcu⟩:=ownBlock_type h2 rfl
    have hu:∃ u∈cu,u=Value.pointer (some ⟨p,0,none⟩):=by
     rw[cell_of hcu] at e2
     exact⟨_,Array.mem_of_getElem? e2,rfl⟩
    obtain⟨u,hu,rfl⟩:=hu
    obtain⟨d,hd⟩:=(h3 g _ rfl hcu _ hu).2.2 p rfl
    intro C t e3
    rw[hd] at e3;cases e3
    decide
  | 3,e=>cases e
  | o + 4,e=>simp at e
theorem SpR.fgr {ao:Option Addr} {cap g:Nat} (h1:W.heap[qb]?=some (.cells #[.int .i64 lim,.bool whole,.slice ao N.length cap,.map (some mb)] 115 (0,0))) (h2:W.ownsRow w.heap.size 117 7 (.slice ao N.length cap) N.length (ndC N)) (h3:RowG (NdG W) 117 (.slice ao N.length cap) W) (hg:(Value.slice ao N.length cap).ownBlock=some g):SpB W qb g:=by
 obtain⟨cu,hcu⟩:=ownBlock_type h2 hg
 have k:∀ o u,W.cell? ⟨g,o,none⟩=some u→NdG W u:=fun o u e=>by
  rw[cell_of hcu] at e
  exact h3 g _ hg hcu u (Array.mem_of_getElem? e)
 refine⟨⟨fun C t e=>?_,fun o x e=>(k o _ e).1 x rfl,fun o p e C t e2=>?_,fun o g o' p n c e=>absurd rfl ((k o _ e).2.1 _ _ _)⟩,.inr (.inr ⟨⟨_,hcu⟩,_,_,_,_,h1,hg⟩)⟩
 ·rw[hcu] at e;cases e;decide
 ·obtain⟨D,hD⟩:=(k o _ e).2.2 p rfl
  rw[hD] at e2;cases e2
  exact⟨by decide,by decide⟩
theorem SpB.at {F:List Nat} (hb:∀ b∈F,SpB W qb b) (hf:Frm F W V) {k:Nat} {C:Array Value} {t:TypeId} (hk:W.heap[k]?=some (.cells C t (0,0))) (h1:t≠115) (h2:t≠117∨¬ RowOf W qb k):V.heap[k]?=some (.cells C t (0,0)):=
 hf.at hk fun hm=>by
  rcases (hb k hm).2 with ⟨es,c,e⟩ | ⟨D,e⟩ | ⟨⟨D,e⟩,e2⟩ <;> rw[hk] at e <;> cases e
  ·exact h1 rfl
  ·rcases h2 with h2 | h2
   ·exact h2 rfl
   ·exact h2 e2
theorem SpB.fg {F:List Nat} (hb:∀ b∈F,SpB W qb b):∀ b∈F,FgB W b:=fun b hm=>(hb b hm).1
theorem SpR.spB {ao:Option Addr} {cap:Nat} (h:SpR w s yb lim whole qb mb N W) (b1:W.heap[qb]?=some (.cells #[.int .i64 lim,.bool whole,.slice ao N.length cap,.map (some mb)] 115 (0,0))) (b2:W.ownsRow w.heap.size 117 7 (.slice ao N.length cap) N.length (ndC N)) (b3:RowG (NdG W) 117 (.slice ao N.length cap) W):∀ b∈mb :: qb :: (Value.slice ao N.length cap).ownBlock.toList,SpB W qb b:=fun b hb=>by
 rcases List.mem_cons.1 hb with rfl | hb
 ·exact h.fgm
 rcases List.mem_cons.1 hb with rfl | hb
 ·exact h.fgq
 rw[Option.mem_toList] at hb
 exact SpR.fgr b1 b2 b3 hb
theorem SpR.add {W1 W2 W3:World} {d:Nd} {sb:Nat} {ao:Option Addr} {cap:Nat} {v':Value} (h:SpR w s yb lim whole qb mb N W) (hs:0 < s.roles.length) (hd:StR W s yb sb d.st) (hk:hasK s (N.map Prod.fst) (keyP s d.st)=false)
  (b1:W.heap[qb]?=some (.cells #[.int .i64 lim,.bool whole,.slice ao N.length cap,.map (some mb)] 115 (0,0))) (b2:W.ownsRow w.heap.size 117 7 (.slice ao N.length cap) N.length (ndC N)) (b3:RowG (NdG W) 117 (.slice ao N.length cap) W)
  (hm:MapAt Tryz.prog 9 W1 (some mb) (N.length + 1) (updL (keyF s (N.map Prod.fst)) (.string (keyP s d.st)) (some (.int .i64 (N.length:Nat)))) (N.length + 1)) (f1:Frm [mb] W W1) (f2:Frm [] W1 W2)
  (hg:W2.grownBy W3 (Value.slice ao N.length cap).ownBlock) (ho:W3.ownsRow w.heap.size 117 7 v' (N.length + 1) (ndC N ++ ndC1 (d,sb))) (hG:RowG (NdG W2) 117 v' W3) :
  SpR w s yb lim whole qb mb (N ++ [(d,sb)]) (W3.setCell ⟨qb,2,none⟩ v')∧Frm (mb :: qb :: (Value.slice ao N.length cap).ownBlock.toList) W (W3.setCell ⟨qb,2,none⟩ v')∧(W3.setCell ⟨qb,2,none⟩ v').heap[qb]?=some (.cells #[.int .i64 lim,.bool whole,v',.map (some mb)] 115 (0,0)):=by
 obtain⟨F,hF⟩:∃ F,F=mb :: qb :: (Value.slice ao N.length cap).ownBlock.toList:=⟨_,rfl⟩
 have hB:∀ b∈F,SpB W qb b:=fun b hb=>h.spB b1 b2 b3 b (by rwa [hF] at hb)
 obtain⟨es,c,hmb⟩:=h.mp.block rfl
 have hne:qb≠mb:=fun e=>by subst e;rw[b1] at hmb;cases hmb
 have hrq:(Value.slice ao N.length cap).ownBlock≠some qb:=fun e=>by
  obtain⟨c,hc⟩:=ownBlock_type b2 e
  rw[b1] at hc;cases hc
 have g1:W2.heap[qb]?=some (.cells #[.int .i64 lim,.bool whole,.slice ao N.length cap,.map (some mb)] 115 (0,0)):=f2.at (f1.at b1 (by simpa using hne)) (by simp)
 have g2:=grown_at hg g1 hrq
 have hv:v'.ownBlock≠some qb:=fun e=>by
  obtain⟨c,hc⟩:=ownBlock_type ho e
  rw[g2] at hc;cases hc
 obtain⟨ao',cap',rfl⟩:=own_shape ho
 obtain⟨W4,hW4⟩:∃ W4,W3.setCell ⟨qb,2,none⟩ (.slice ao' (N.length + 1) cap')=W4:=⟨_,rfl⟩
 have f3:Frm F W W3:=((f1.mono (F':=F) (by rw[hF];simp)).then f2 (by simp)).grown hg fun k hk=>.inl (by rw[hF];simp[hk])
 have f4:Frm F W W4:=by rw[← hW4];exact f3.setCell _ (.inl (by rw[hF];simp)) _
 have hfg:=SpB.fg hB
 have hps:∀ {X:World},Frm F W X→∀ p,Ty W p 140→Ty X p 140:=fun hf p hp=>hp.frm hf fun hm=>by
  obtain⟨D,hD⟩:=hp
  exact FgB.ne hfg hD (by simp[sysT]) hm
 have f34:Frm [qb] W3 W4:=by rw[← hW4];exact(Frm.refl _ _).setCell _ (.inl (by simp)) _
 have g4:W4.heap[qb]?=some (.cells #[.int .i64 lim,.bool whole,.slice ao' (N.length + 1) cap',.map (some mb)] 115 (0,0)):=by rw[← hW4];exact(block_setCell g2 2 _).trans rfl
 have hlen:(N ++ [(d,sb)]).length=N.length + 1:=by simp
 have f2w:Frm F W W2:=(f1.mono (F':=F) (by rw[hF];simp)).then f2 (by simp)
 have hfr0:Frm [] w W4:=h.fr.then f4 fun x hx=>.inr (by
  rw[hF] at hx
  rcases List.mem_cons.1 hx with rfl | hx
  ·exact h.lm
  rcases List.mem_cons.1 hx with rfl | hx
  ·exact h.lq
  rw[Option.mem_toList] at hx
  exact ownBlock_ge b2 hx)
 rw[hW4]
 refine⟨⟨hfr0,h.lq,h.lm,⟨ao',cap',?_,?_,?_⟩,?_,fun e he=>?_⟩,by rw[← hF];exact f4,g4⟩
 ·rw[hlen];exact g4
 ·rw[hlen,ndC_append,ndC_one];exact f34.owns ho (by intro k hk hm;simp at hm;subst hm;exact hv hk)
 ·rw[hlen]
  intro g cur hgk hc u hu
  have hgq:g≠qb:=fun e=>hv (by rw[← e];exact hgk)
  obtain⟨cu,hcu⟩:=ownBlock_type ho hgk
  have hcu4:=f34.at hcu (by simpa using hgq)
  rw[hcu4] at hc
  cases hc
  have hu':=hG g _ hgk hcu u hu
  refine⟨hu'.1,hu'.2.1,fun p e=>?_⟩
  have h2:=hu'.2.2 p e
  by_cases hp:p < W.heap.size
  ·have:Ty W p 140:=by
    obtain⟨D,hD⟩:=h2
    by_cases hpm:p∈F
    ·exfalso
     have hD3:=hD
     rcases (hB p hpm).2 with ⟨es,c,e⟩ | ⟨D',e⟩ | ⟨⟨D',e⟩,-⟩
     ·have hpmb:p=mb:=by
       rw[hF] at hpm
       rcases List.mem_cons.1 hpm with rfl | hpm
       ·rfl
       rcases List.mem_cons.1 hpm with rfl | hpm
       ·rw[b1] at e;cases e
       rw[Option.mem_toList] at hpm
       obtain⟨c,hc⟩:=ownBlock_type b2 hpm
       rw[hc] at e;cases e
      subst hpmb
      obtain⟨es',c',e'⟩:=(hm.frm f2 (by simp)).block rfl
      rw[e'] at hD3;cases hD3
     ·have hpq:p≠mb:=fun e'=>by subst e';rw[hmb] at e;cases e
      rw[f2.at (f1.at e (by simpa using hpq)) (by simp)] at hD3
      cases hD3
     ·have hpq:p≠mb:=fun e'=>by subst e';rw[hmb] at e;cases e
      rw[f2.at (f1.at e (by simpa using hpq)) (by simp)] at hD3
      cases hD3
    ·have:=f2w.block p hp hpm
     rw[this] at hD
     exact⟨D,hD⟩
   exact hps f4 p this
  ·obtain⟨D,hD⟩:=h2
   have hpr:(Value.slice ao N.length cap).ownBlock≠some p:=fun e=>by
    have:=ownBlock_lt b2 e;omega
   have hD3:=grown_at hg hD hpr
   have hpq:p≠qb:=fun e=>by subst e;rw[g2] at hD3;cases hD3
   exact⟨D,f34.at hD3 (by simpa using hpq)⟩
 ·rw[hlen,List.map_append,List.map_cons,List.map_nil,keyF_snoc hk,List.length_map]
  refine hm.frm (F:=qb :: (Value.slice ao N.length cap).ownBlock.toList) ?_ ?_
  ·rw[← hW4]
   exact((f2.mono (F':=qb :: (Value.slice ao N.length cap).ownBlock.toList) (by simp)).grown hg fun k hk=>.inl (by simp[hk])).setCell _ (.inl (by simp)) _
  ·intro b hb hm'
   cases hb
   rcases List.mem_cons.1 hm' with e | hm'
   ·exact hne e.symm
   ·rw[Option.mem_toList] at hm'
    obtain⟨c,hc⟩:=ownBlock_type b2 hm'
    rw[hmb] at hc;cases hc
 ·rcases List.mem_append.1 he with he | he
  ·exact(h.st e he).fg hs hfg f4
  ·rw[List.mem_singleton] at he;subst he
   exact hd.fg hs hfg f4
end
end Go.Proofs.YtemjlpahohmajaaGreat
namespace Go.Proofs.YtemjlpahohmajaaGreat
open Go.RowKit Go.BigFrame Go.Maps
def NoP (W:World) (po:Option Addr):Prop:=po=none∨∃ pb,po=some ⟨pb,0,none⟩∧W.heap[pb]?=some (.cells #[.pointer none] 121 (0,0))
abbrev ndZ:Value:=.agg #[.pointer none,.int .i64 0,.int .i64 0,.int .i64 0,.int .i64 0,.int .i64 0,.int .i64 0]
section
variable {W V:World} {s:SesD} {yb pb:Nat} {whole:Bool} {N:List (Nd × Nat)} {po:Option Addr}
theorem xNone_any (h:SpO W s yb whole pb N):Calls Tryz.prog 51 #[.pointer (some ⟨pb,0,none⟩)] W (Ret (.bool false) (W=·)):=by
 obtain⟨qb,mb,lim,ao,cap,h1,-⟩:=h.out
 have c0:=cell_of h1 0
 clear h1 h
 go_enter Tryz.func51,Tryz.ntmps51
 go_wp2
 go_ret
 exact⟨rfl,rfl⟩
theorem xNone_no (h:NoP W po):Calls Tryz.prog 51 #[.pointer po] W (Ret (.bool true) (W=·)):=by
 rcases h with rfl | ⟨yb,rfl,h⟩
 ·go_enter Tryz.func51,Tryz.ntmps51
  go_wp2
  go_ret
  exact⟨rfl,rfl⟩
 ·have c0:=cell_of h 0
  clear h
  go_enter Tryz.func51,Tryz.ntmps51
  go_wp2
  go_ret
  exact⟨rfl,rfl⟩
set_option maxRecDepth 100000 in
theorem xLen_any (h:SpO W s yb whole pb N):Calls Tryz.prog 14 #[.pointer (some ⟨pb,0,none⟩)] W (Ret (.int .i64 (N.length:Nat)) (Frm [] W)):=by
 have C1:=Lib.hid (xNone_any h)
 obtain⟨qb,mb,lim,ao,cap,h1,h2,-⟩:=h.out
 have c0:=cell_of h1 0
 have c2:=cell_of h2 2
 clear h1 h2 h
 go_enter Tryz.func14,Tryz.ntmps14
 go_wp2_with (first
  | (go_at_call 51;go_must (refine C1.out.mono ?_;rintro e w' ⟨rfl,rfl⟩)))
 go_ret
 exact⟨rfl,Frm.refl _ _⟩
set_option maxRecDepth 100000 in
theorem xLen_no (h:NoP W po):Calls Tryz.prog 14 #[.pointer po] W (Ret (.int .i64 0) (W=·)):=by
 have C1:=Lib.hid (xNone_no h)
 clear h
 go_enter Tryz.func14,Tryz.ntmps14
 go_wp2_with (first
  | (go_at_call 51;go_must (refine C1.out.mono ?_;rintro e w' ⟨rfl,rfl⟩)))
 go_ret
 exact⟨rfl,rfl⟩
theorem one_nd (p:Option Addr) (a b c d e f:Int):(#[.pointer p,.int .i64 a,.int .i64 b,.int .i64 c,.int .i64 d,.int .i64 e,.int .i64 f]:Array Value).all (·.oneCell')=true:=by
 rw[← Array.all_toList];rfl
theorem Tryz.infoNode:(Tryz.prog.info? 117).map (·.size)=some 7:=by kernel_rfl
set_option maxRecDepth 100000 in
theorem xNode_in (h:SpO W s yb whole pb N) {i:Nat} {d:Nd × Nat} (hd:N[i]?=some d) (h5:N.length≤1000000):Calls Tryz.prog 52 #[.pointer (some ⟨pb,0,none⟩),.int .i64 i] W (Ret (.tuple #[ndV d,.int .i64 0]) (Frm [] W)):=by
 have C1:Hid (∀ V,Frm [] W V→Calls Tryz.prog 51 #[.pointer (some ⟨pb,0,none⟩)] V (Ret (.bool false) (V=·))):=Lib.hid fun V hV=>xNone_any (h.frm hV)
 obtain⟨qb,mb,lim,ao,cap,h1,h2,h3,-⟩:=h.out
 obtain⟨b,o,rfl,hn⟩:=h3.get hd
 have hl:=lt_of_some hd
 have hl':(i:Int) < (N.length:Int):=by omega
 have hge:decide ((N.length:Int)≤(i:Int))=false:=decide_eq_false (by omega)
 have c0:=cell_of h1 0
 have c2:=cell_of h2 2
 have f0:=(Frm.refl [] W).alloc (.cells #[.pointer none,.int .i64 0,.int .i64 0,.int .i64 0,.int .i64 0,.int .i64 0,.int .i64 0] 117)
 have HA:=Lib.hid (heap_alloc_new W (.cells #[.pointer none,.int .i64 0,.int .i64 0,.int .i64 0,.int .i64 0,.int .i64 0,.int .i64 0] 117))
 obtain⟨W0,hW0⟩:∃ W0,W.alloc (.cells #[.pointer none,.int .i64 0,.int .i64 0,.int .i64 0,.int .i64 0,.int .i64 0,.int .i64 0] 117)=W0:=⟨_,rfl⟩
 rw[hW0] at f0 HA
 have C2:=Lib.hid (C1.out _ f0)
 have d0:W0.cell? ⟨pb,0,none⟩=some (.pointer (some ⟨qb,0,none⟩)):=f0.keep c0
 have d2:W0.cell? ⟨qb,2,none⟩=some (.slice (some ⟨b,o,none⟩) N.length cap):=f0.keep c2
 obtain⟨n0,n1,n2,n3,n4,n5,n6⟩:=hn.frm f0
 have HE:=Lib.hid hW0;have HF0:=Lib.hid f0
 clear h1 h2 h3 h hd c0 c2 C1 f0 hW0
 go_enter Tryz.func52,Tryz.ntmps52
 go_upto_region 1 with fail
 rw[HE.out]
 go_upto_region 5 with (first
  | (go_at_call 51;go_must (refine C2.out.mono ?_;rintro e w' ⟨rfl,rfl⟩)))
 go_wp2_with (first
  | (refine wpList_store_row rfl 117 _ _ rfl _ _ _ 117 rfl rfl HA.out rfl Tryz.infoNode (one_nd _ _ _ _ _ _ _) ?_;intro w2 hb2 hf2;have HB2:=Lib.hid hb2;have HF2:=Lib.hid hf2;clear hb2 hf2 n0 n1 n2 n3 n4 n5 n6;have r0:=cell_of HB2.out 0;have r1:=cell_of HB2.out 1;have r2:=cell_of HB2.out 2;have r3:=cell_of HB2.out 3;have r4:=cell_of HB2.out 4;have r5:=cell_of HB2.out 5;have r6:=cell_of HB2.out 6))
 refine bodyPost_ret (v:=.tuple #[ndV d,.int .i64 0]) (by simp[results,Tryz.results52,go_sem,r0,r1,r2,r3,r4,r5,r6]) rfl ?_
 exact⟨rfl,HF0.out.then HF2.out (by intro k hk;simp at hk;subst hk;exact .inr (Nat.le_refl _))⟩
theorem Tryz.zeroInt (w:World):(zeroValue 3).run Tryz.prog w=.ok (.int .i64 0) w:=
 (zero_of_info (show (Tryz.prog.info? 3).map (fun i=>(i.zero,i.size))=some (some (.int .i64 0),1) by kernel_rfl)).1 w
theorem Tryz.keyedS:Keyed Tryz.prog 9:=string_keyed Tryz.underlying9
theorem keyF_get (s:SesD) (N:List Nd) (k:List UInt8):(keyF s N (.string k)).getD (.int .i64 0)=.int .i64 ((findP s N k).getD 0:Nat)∧(keyF s N (.string k)).isSome=(findP s N k).isSome:=by
 have e:keyF s N (.string k)=(findP s N k).map fun i=>.int .i64 (i:Nat):=rfl
 rw[e]
 cases findP s N k <;> exact⟨rfl,rfl⟩
theorem SpO.look {W V:World} {mb:Nat} {n:Nat} (h4:MapAt Tryz.prog 9 W (some mb) n (keyF s (N.map Prod.fst)) n) (hf:Frm [] W V) (k:ByteArray) (hk:k.size≤maxLen) :
  (Instr.lookup 112 (.map (some mb)) (.string k) true).run Tryz.prog V=.ok (.tuple #[.int .i64 ((findP s (N.map Prod.fst) k.data.toList).getD 0:Nat),.bool (findP s (N.map Prod.fst) k.data.toList).isSome]) V:=by
 have h:=(h4.frm hf (by simp)).look_ok Tryz.keyedS Tryz.underlying112 (Tryz.zeroInt V) (WideMaps.keyOf_string_mk Tryz.underlying9 hk)
 obtain⟨e1,e2⟩:=keyF_get s (N.map Prod.fst) k.data.toList
 rw[e1,e2] at h
 exact h
end
end Go.Proofs.YtemjlpahohmajaaGreat
namespace Go.Proofs.YtemjlpahohmajaaGreat
open Go.RowKit Go.BigFrame Go.Maps
section
variable {F:Fence} {n:Nat} {P:Program} {b:Frame} {a:Act} {k:List Item} {cs:List Frame} {w:World} {Q:Exit→Act→World→Prop}
theorem stepR_scope {c:Code}:step P (lone (b.atR a (.code (.scope c) :: k)) cs w)=.next (lone (b.atR a (.code c :: .inScope c :: k)) cs w):=
 step_lone_go (by simp[stepG,stepG.exec,Frame.atR])
theorem stepR_inScope {c:Code}:step P (lone (b.atR a (.inScope c :: k)) cs w)=.next (lone (b.atR a k) cs w):=
 step_lone_go (by simp[stepG,stepG.exec,Frame.atR])
theorem wpIn_scope_straight {c:Code} (h:c.wpIn F n P (Exit.noGoto Q) a w):(Code.scope c).wpIn F n P Q a w:=by
 intro b k cs hro hb hr
 have h0:(lone (b.atR a (.code (.scope c) :: k)) cs w).fenced P F:=fenced_calm hb hr rfl
 obtain⟨e,a₁,w₁,hq,harr⟩:=h b (.inScope c :: k) cs hro hb hr
 cases e with
 | normal=>exact⟨.normal,a₁,w₁,hq,.head h0 stepR_scope (StepsIn.trans harr (.one (fenced_calm hb hr rfl) stepR_inScope))⟩
 | exit id =>
   have hx:exitTo id (.inScope c :: k)=exitTo id k:=by simp[exitTo]
   exact⟨_,a₁,w₁,hq,fun k' hk=>.head h0 stepR_scope (harr.1 k' (by rw[hx];exact hk)),
    fun hr' hk=>let ⟨k₁,h1,h2⟩:=harr.2 hr' (by rw[hx];exact hk);⟨k₁,h1,.head h0 stepR_scope h2⟩⟩
 | goto l=>exact hq.elim
 | ret=>exact⟨_,a₁,w₁,hq,.of_steps (.one h0 stepR_scope) harr⟩
 | panic ch=>exact⟨_,a₁,w₁,hq,.of_steps (.one h0 stepR_scope) harr⟩
 | outgrown=>exact⟨_,a₁,w₁,hq,.of_steps (.one h0 stepR_scope) harr⟩
end
def StsTo (w:World) (po:Option Addr) (v:Value) (w':World):Prop:=∃ bx,v=.func (.func 58) #[] #[.pointer (some ⟨bx,0,none⟩)]∧w'.heap[bx]?=some (.cells #[.pointer po] 30 (0,0))∧Frm [] w w'
theorem xStates_any (po:Option Addr) (w:World):Calls Tryz.prog 25 #[.pointer po] w (RetV (StsTo w po)):=by
 go_enter Tryz.func25,Tryz.ntmps25
 go_wp2
 go_ret
 exact⟨_,rfl,_,rfl,heap_alloc_new _ _,(Frm.refl _ _).alloc _⟩
structure StI (B:Nat) (s:SesD) (yb pb:Nat) (whole:Bool) (N:List (Nd × Nat)) (W:World):Prop where
 b:W.heap[B]?=some (.cells #[.pointer (some ⟨pb,0,none⟩)] 30 (0,0))
 sp:SpO W s yb whole pb N
set_option maxHeartbeats 2000000 in
set_option maxRecDepth 100000 in
theorem st_iter (B yb pb:Nat) (s:SesD) (whole:Bool) (N:List (Nd × Nat)) (hL:N.length≤1000000) :
  Iter Fence.wide 2 Tryz.prog 58 #[.pointer (some ⟨B,0,none⟩)] (fun e:Nat × Nat=>#[.int .i64 e.1,.pointer (some ⟨e.2,0,none⟩)]) (StI B s yb pb whole N) (numL (N.map Prod.snd)):=by
 intro l J Jx sJ sJx hJR hY W h0
 have HJ:=Lib.hid sJ;have HJR:=Lib.hid hJR;have HY:=Lib.hid hY
 clear sJ sJx hJR hY
 have hr:=HJR.out _ _ h0
 have c0:=cell_of hr.b 0
 have CL:=Lib.hid (xLen_any hr.sp)
 have H0:=Lib.hid h0
 have HNL:Hid ((numL (N.map Prod.snd)).length=N.length):=Lib.hid (by rw[numL_length,List.length_map])
 clear hr h0
 refine callsIn_of_wp Tryz.func58 rfl trivial ?_ rfl
 simp only[Tryz.ntmps58,List.size_toArray,List.length_cons,List.length_nil,Nat.reduceAdd,Nat.reduceSub,Array.replicate_succ,Array.replicate_zero,List.push_toArray,List.append_toArray,List.nil_append,List.cons_append]
 refine wpIn_scope_straight (wpIn_seq (wpIn_label ?_))
 gi_wp2_with (refine⟨trivial,?_⟩;gi_at_call 14;go_must (refine(callsIn_wide.2 CL.out).mono ?_;rintro e w1 ⟨rfl,hf⟩;have HF1:=Lib.hid hf;clear hf CL))
 gi_loopw [6] (fun s wr=>∃ k:Nat,s=.int .i64 k∧k≤N.length∧J ((numL (N.map Prod.snd)).take k) wr) (fun s _=>N.length - (intOf s).toNat)
 case atStart=>exact⟨0,rfl,Nat.zero_le _,HJ.out _ _ _ H0.out HF1.out⟩
 case round =>
  obtain⟨k,rfl,hk,hj⟩:=hrel
  have HJ1:=Lib.hid hj
  clear hj H0 c0
  by_cases hlt:k < N.length
  ·obtain⟨x,hx⟩:∃ x,N[k]?=some x:=⟨_,List.getElem?_eq_getElem hlt⟩
   have hr:=HJR.out _ _ HJ1.out
   have c0:=cell_of hr.b 0
   obtain⟨qb,mb,lim,ao,cap,q1,q2,q3,-⟩:=hr.sp.out
   have p0:=cell_of q1 0
   have p2:=cell_of q2 2
   obtain⟨b,o,rfl,hn⟩:=q3.get hx
   have n0:=hn.c0
   have hnx:(numL (N.map Prod.snd))[k]?=some (k,x.2):=by rw[numL_at,List.getElem?_map,hx];rfl
   have HX:=Lib.hid hnx
   have hJ':=HJ1.out
   clear hr hx hnx q1 q2 q3 hn
   obtain⟨fn,tmps,assign,body,hy,hR⟩:=HY.out ((numL (N.map Prod.snd)).take k) (k,x.2) ((numL (N.map Prod.snd)).drop (k + 1)) _ (take_snoc' HX.out).2 hJ'
   have HRR:=Lib.hid hR
   clear hJ' hR
   have hlt':(k:Int) < N.length:=by omega
   gi_wp2
   refine HRR.out.mono ?_
   rintro e W3 (⟨rfl,hJ3⟩ | ⟨rfl,hJx3⟩)
   ·have HJ3:=Lib.hid hJ3
    clear hJ3
    gi_wp2
    go_roundw
    case rel=>exact⟨k + 1,by go_num,hlt,by rw[(take_snoc' HX.out).1];exact HJ3.out⟩
    case measure=>simp[intOf];omega
   ·have HJ3:=Lib.hid hJx3
    clear hJx3
    gi_wp2
    rw[Exit.noGoto_normal]
    change bodyPost Tryz.prog Tryz.f58 (fun e W'=>(∃ v,e=Ending.returned v)∧(J (numL (N.map Prod.snd)) W'∨∃ pre x rest,numL (N.map Prod.snd)=pre ++ x :: rest∧Jx (pre ++ [x]) W')) Exit.normal _ _
    go_end0
    exact⟨⟨_,rfl⟩,.inr ⟨_,_,_,(take_snoc' HX.out).2,HJ3.out⟩⟩
  ·have hge:¬ (k:Int) < N.length:=by omega
   gi_wp2
   try rw[Exit.noGoto_normal]
   go_end0
   refine⟨⟨_,rfl⟩,.inl ?_⟩
   have:=HJ1.out
   rwa [List.take_of_length_le (by rw[HNL.out];omega)] at this
def StN (B:Nat) (po:Option Addr) (W:World):Prop:=W.heap[B]?=some (.cells #[.pointer po] 30 (0,0))∧NoP W po
set_option maxHeartbeats 2000000 in
set_option maxRecDepth 100000 in
theorem st_iter_no (B:Nat) (po:Option Addr):Iter Fence.wide 2 Tryz.prog 58 #[.pointer (some ⟨B,0,none⟩)] (fun e:Nat × Nat=>#[.int .i64 e.1,.pointer (some ⟨e.2,0,none⟩)]) (StN B po) []:=by
 intro l J Jx sJ sJx hJR hY W h0
 have HJ:=Lib.hid sJ;have HJR:=Lib.hid hJR
 clear sJ sJx hJR hY
 have hr:=HJR.out _ _ h0
 have c0:=cell_of hr.1 0
 have CL:=Lib.hid (xLen_no hr.2)
 have H0:=Lib.hid h0
 clear hr h0
 refine callsIn_of_wp Tryz.func58 rfl trivial ?_ rfl
 simp only[Tryz.ntmps58,List.size_toArray,List.length_cons,List.length_nil,Nat.reduceAdd,Nat.reduceSub,Array.replicate_succ,Array.replicate_zero,List.push_toArray,List.append_toArray,List.nil_append,List.cons_append]
 refine wpIn_scope_straight (wpIn_seq (wpIn_label ?_))
 gi_wp2_with (refine⟨trivial,?_⟩;gi_at_call 14;go_must (refine(callsIn_wide.2 CL.out).mono ?_;rintro e w1 ⟨rfl,hf⟩;have HF1:=Lib.hid hf;clear hf CL))
 gi_loopw [6] (fun s wr=>s=.int .i64 0∧J [] wr) (fun _ _=>0)
 case atStart=>exact⟨rfl,by rw[← HF1.out];exact H0.out⟩
 case round =>
  obtain⟨rfl,hj⟩:=hrel
  have HJ1:=Lib.hid hj
  clear hj H0 c0
  gi_wp2
  try rw[Exit.noGoto_normal]
  go_end0
  exact⟨⟨_,rfl⟩,.inl HJ1.out⟩
end Go.Proofs.YtemjlpahohmajaaGreat
namespace Go.Proofs.YtemjlpahohmajaaGreat
open Go.RowKit Go.BigFrame Go.Maps
def fromL (L:List StpD) (st:ByteArray):List (Nat × StpD):=(numL L).filter fun e=>decide (e.2.frm=st)
def fromK (L:List StpD) (st:ByteArray) (k:Nat):List (Nat × StpD):=((numL L).take k).filter fun e=>decide (e.2.frm=st)
section
variable {L:List StpD} {st:ByteArray} {k:Nat} {x:StpD}
theorem fromK_yes (h:L[k]?=some x) (hx:x.frm=st):fromK L st (k + 1)=fromK L st k ++ [(k,x)]∧∃ rest,fromL L st=fromK L st k ++ (k,x) :: rest:=by
 have hn:(numL L)[k]?=some (k,x):=by rw[numL_at,h];rfl
 obtain⟨h1,h2⟩:=take_snoc' hn
 have hd:decide (x.frm=st)=true:=decide_eq_true hx
 refine⟨?_,((numL L).drop (k + 1)).filter fun e=>decide (e.2.frm=st),?_⟩
 ·unfold fromK;rw[h1,List.filter_append];simp[hd]
 ·unfold fromL fromK
  conv=>lhs;rw[h2]
  rw[List.filter_append];simp[hd]
theorem fromK_no (h:L[k]?=some x) (hx:x.frm≠st):fromK L st (k + 1)=fromK L st k:=by
 have hn:(numL L)[k]?=some (k,x):=by rw[numL_at,h];rfl
 obtain⟨h1,-⟩:=take_snoc' hn
 have hd:decide (x.frm=st)=false:=decide_eq_false hx
 unfold fromK;rw[h1,List.filter_append];simp[hd]
theorem fromK_all:fromK L st L.length=fromL L st:=by unfold fromK fromL;rw[List.take_of_length_le (by rw[numL_length];exact Nat.le_refl _)]
theorem mem_fromL {i:Nat}:(i,x)∈fromL L st↔L[i]?=some x∧x.frm=st:=by
 unfold fromL
 rw[List.mem_filter]
 constructor
 ·rintro⟨h1,h2⟩
  obtain⟨j,hj⟩:=List.getElem?_of_mem h1
  rw[numL_at] at hj
  cases hz:L[j]? with
  | none=>rw[hz] at hj;simp at hj
  | some z =>
    rw[hz] at hj
    simp at hj
    obtain⟨rfl,rfl⟩:=hj
    exact⟨hz,of_decide_eq_true h2⟩
 ·rintro⟨h1,h2⟩
  exact⟨List.mem_of_getElem? (i:=i) (by rw[numL_at,h1];rfl),decide_eq_true h2⟩
end
structure FrI (B1 B2:Nat) (v:Value) (L:List StpD) (st:ByteArray) (W:World):Prop where
 b1:W.heap[B1]?=some (.cells #[v] 84 (0,0))
 b2:W.heap[B2]?=some (.cells #[.string st] 9 (0,0))
 a:Arr 9 SpAt W v L
set_option maxHeartbeats 2000000 in
set_option maxRecDepth 100000 in
theorem from_iter (B1 B2:Nat) (v:Value) (L:List StpD) (st:ByteArray) (hL:L.length≤1000000) :
  Iter Fence.wide 2 Tryz.prog 160 #[.pointer (some ⟨B1,0,none⟩),.pointer (some ⟨B2,0,none⟩)] (fun e:Nat × StpD=>#[.int .i64 e.1,stpV e.2]) (FrI B1 B2 v L st) (fromL L st):=by
 intro l J Jx sJ sJx hJR hY W h0
 have HJ:=Lib.hid sJ;have HJR:=Lib.hid hJR;have HY:=Lib.hid hY
 clear sJ sJx hJR hY
 have hr:=HJR.out _ _ h0
 have c0:=cell_of hr.b1 0
 obtain⟨ao,cap,rfl⟩:=hr.a.shape
 have H0:=Lib.hid h0
 clear hr h0
 refine callsIn_of_wp Tryz.func160 rfl trivial ?_ rfl
 simp only[Tryz.ntmps160,List.size_toArray,List.length_cons,List.length_nil,Nat.reduceAdd,Nat.reduceSub,Array.replicate_succ,Array.replicate_zero,List.push_toArray,List.append_toArray,List.nil_append,List.cons_append]
 refine wpIn_scope_straight (wpIn_seq (wpIn_label ?_))
 gi_wp2
 gi_loopw [8] (fun s wr=>∃ k:Nat,s=.int .i64 k∧k≤L.length∧J (fromK L st k) wr) (fun s _=>L.length - (intOf s).toNat)
 case atStart=>exact⟨0,rfl,Nat.zero_le _,H0.out⟩
 case round =>
  obtain⟨k,rfl,hk,hj⟩:=hrel
  have HJ1:=Lib.hid hj
  clear hj H0 c0
  by_cases hlt:k < L.length
  ·obtain⟨x,hx⟩:∃ x,L[k]?=some x:=⟨_,List.getElem?_eq_getElem hlt⟩
   have hr:=HJR.out _ _ HJ1.out
   obtain⟨b,o,c',e,hsp⟩:=hr.a.at hx
   cases e
   obtain⟨g0,g1,g2,g3,g4,g5,g6,g7,g8⟩:=hsp
   have HX:=Lib.hid hx
   have hst:wr.cell? ⟨B2,0,none⟩=some (.string st):=cell_of hr.b2 0
   have hlt':(k:Int) < L.length:=by omega
   have HF1:Hid (Frm [] wr (wr.alloc (.cells #[.string x.frm,.string x.to,.int .i64 x.kind,.string x.msg,.string x.peer,.string x.ctr,.int .i64 x.low,.int .i64 x.high,.int .i64 x.add] 90))):=Lib.hid ((Frm.refl _ _).alloc _)
   have hst1:=HF1.out.keep hst
   clear hr hx
   by_cases hm:x.frm=st
   ·obtain⟨rest,hsp⟩:=(fromK_yes HX.out hm).2
    obtain⟨fn,tmps,assign,body,hy,hR⟩:=HY.out _ _ _ _ hsp (HJ.out _ _ _ HJ1.out HF1.out)
    have HRR:=Lib.hid hR;have HSP:=Lib.hid hsp;have HM:=Lib.hid hm
    have hbe:(x.frm.toList == st.toList)=true:=by rw[hm];simp
    clear hR hsp hm
    gi_wp2
    refine HRR.out.mono ?_
    rintro e W3 (⟨rfl,hJ3⟩ | ⟨rfl,hJx3⟩)
    ·have HJ3:=Lib.hid hJ3
     clear hJ3
     gi_wp2
     go_roundw
     case rel=>exact⟨k + 1,by go_num,hlt,by rw[(fromK_yes HX.out HM.out).1];exact HJ3.out⟩
     case measure=>simp[intOf];omega
    ·have HJ3:=Lib.hid hJx3
     clear hJx3
     gi_wp2
     rw[Exit.noGoto_normal]
     change bodyPost Tryz.prog Tryz.f160 (fun e W'=>(∃ v,e=Ending.returned v)∧(J (fromL L st) W'∨∃ pre x rest,fromL L st=pre ++ x :: rest∧Jx (pre ++ [x]) W')) Exit.normal _ _
     go_end0
     exact⟨⟨_,rfl⟩,.inr ⟨_,_,_,HSP.out,HJ3.out⟩⟩
   ·have hbe:(x.frm.toList == st.toList)=false:=str_ne hm
    have HJ2:Hid (J (fromK L st (k + 1)) (wr.alloc (.cells #[.string x.frm,.string x.to,.int .i64 x.kind,.string x.msg,.string x.peer,.string x.ctr,.int .i64 x.low,.int .i64 x.high,.int .i64 x.add] 90))):=Lib.hid (by
     rw[fromK_no HX.out hm]
     exact HJ.out _ _ _ HJ1.out HF1.out)
    clear hm
    gi_wp2
    refine⟨(fun f hf=>by cases hf),?_⟩
    gi_wp2
    go_roundw
    case rel=>exact⟨k + 1,by go_num,hlt,HJ2.out⟩
    case measure=>simp[intOf];omega
  ·obtain rfl:k=L.length:=by omega
   have hge:¬ (L.length:Int) < L.length:=by omega
   gi_wp2
   try rw[Exit.noGoto_normal]
   go_end0
   exact⟨⟨_,rfl⟩,.inl (by have:=HJ1.out;rwa [fromK_all] at this)⟩
theorem rFrom_any (r:RolD) (st:ByteArray) (a b c d:Value) (w:World) (h:Arr 9 SpAt w d r.steps) (hl:r.steps.length≤100000):Calls Tryz.prog 124 #[.agg #[a,b,c,d],.string st] w (RetV fun u w'=>∃ B1 B2 sv,u=.func (.func 160) #[] #[.pointer (some ⟨B1,0,none⟩),.pointer (some ⟨B2,0,none⟩)]∧FrI B1 B2 sv r.steps st w'∧Frm [] w w'):=by
 obtain⟨ao,cap,rfl⟩:=h.shape
 have HA:=Lib.hid h
 obtain⟨n,hn⟩:∃ n,r.steps.length=n:=⟨_,rfl⟩
 have HN:=Lib.hid hn
 rw[hn] at HA ⊢
 have hf0:Frm [] w ((w.alloc (.cells #[a,b,c,.slice ao n cap] 86)).alloc (.cells #[.string st] 9)):=((Frm.refl _ _).alloc _).alloc _
 obtain⟨W1,hW1⟩:∃ W,((w.alloc (.cells #[a,b,c,.slice ao n cap] 86)).alloc (.cells #[.string st] 9))=W:=⟨_,rfl⟩
 have hb1:W1.heap[w.heap.size]?=some (.cells #[a,b,c,.slice ao n cap] 86 (0,0)):=by rw[← hW1];exact alloc_at (heap_alloc_new _ _)
 have hb2:W1.heap[w.heap.size + 1]?=some (.cells #[.string st] 9 (0,0)):=by rw[← hW1];exact alloc_top (by simp)
 rw[hW1] at hf0
 have HF0:=Lib.hid hf0;have HB2:=Lib.hid hb2;have HE:=Lib.hid hW1
 have CC:=Lib.hid (clStep_any (.slice ao n cap) r.steps W1 (HA.out.frm fun _ _ _ h=>h.frm hf0) hl)
 have c3:=cell_of hb1 3
 clear h hn hb1 hb2 hf0 hW1
 go_enter Tryz.func124,Tryz.ntmps124
 go_upto_region 1 with (first | (refine wpList_box_row rfl 86 _ rfl _ rfl ?_))
 rw[HE.out]
 clear HE
 go_wp2_with (first
  | (go_at_call 140;go_must (refine CC.out.mono ?_;rintro e w2 ⟨v,rfl,hfr⟩;obtain⟨a5,c5,rfl⟩:=hfr.arr.shape;have HFR:=Lib.hid hfr;clear hfr CC)))
 go_ret
 have hf2:Frm [] W1 (w2.alloc (.cells #[.slice a5 r.steps.length c5] 84)):=HFR.out.frm.alloc _
 exact⟨_,rfl,_,_,_,rfl,⟨heap_alloc_new _ _,hf2.at HB2.out (by simp),HFR.out.arr.frm fun _ _ _ h=>h.frm ((Frm.refl [] w2).alloc _)⟩,HF0.out.trans hf2⟩
end Go.Proofs.YtemjlpahohmajaaGreat
namespace Go.Proofs.YtemjlpahohmajaaGreat
open Go.RowKit Go.BigFrame
theorem numL_snd {α:Type} (L:List α):(numL L).map Prod.snd=L:=by
 refine List.ext_getElem? fun i=>?_
 rw[List.getElem?_map,numL_at]
 cases L[i]? <;> rfl
theorem numL_pre {α:Type} {L:List α} {pre rest:List (Nat × α)} {y:Nat × α} (h:numL L=pre ++ y :: rest):y.1=pre.length∧pre.length < L.length:=by
 have h1:(numL L)[pre.length]?=some y:=by rw[h,List.getElem?_append_right (Nat.le_refl _),Nat.sub_self];rfl
 rw[numL_at,Option.map_eq_some_iff] at h1
 obtain⟨m,hm,rfl⟩:=h1
 exact⟨rfl,lt_of_some hm⟩
attribute [local go_sem] Oper.semAt_some
end Go.Proofs.YtemjlpahohmajaaGreat
namespace Go.Proofs.YtemjlpahohmajaaGreat
open Go.RowKit Go.BigFrame Go.Maps
section
variable {W:World} {s:SesD} {yb pb:Nat} {whole:Bool} {N:List (Nd × Nat)}
theorem xWhole_eq (h:SpO W s yb whole pb N):Calls Tryz.prog 15 #[.pointer (some ⟨pb,0,none⟩)] W (Ret (.bool whole) (W=·)):=by
 have C1:=Lib.hid (xNone_any h)
 obtain⟨qb,mb,lim,ao,cap,h1,h2,-⟩:=h.out
 have c0:=cell_of h1 0
 have c1:=cell_of h2 1
 clear h1 h2 h
 go_enter Tryz.func15,Tryz.ntmps15
 go_wp2_with (first
  | (go_at_call 51;go_must (refine C1.out.mono ?_;rintro e w' ⟨rfl,rfl⟩)))
 go_ret
 exact⟨rfl,rfl⟩
end
theorem some_map {α β:Type} {f:α→β} {L:List α} {i:Nat} {y:β} (h:(L.map f)[i]?=some y):∃ x,L[i]?=some x∧f x=y:=by
 rw[List.getElem?_map] at h
 cases hz:L[i]? with
 | none=>rw[hz] at h;cases h
 | some z=>rw[hz] at h;exact⟨z,rfl,Option.some.inj h⟩
end Go.Proofs.YtemjlpahohmajaaGreat
namespace Go.Proofs.YtemjlpahohmajaaGreat
open Go.RowKit Go.BigFrame
theorem Tryz.call_pFinal1 (args:Array Value) (w:World):(callFunc 121 args).run Tryz.prog w=.ok (.enter 121 args) w:=by kernel_rfl
set_option maxRecDepth 100000 in
theorem pFinal1_any (cb:Nat) (cls cap:Int) (L:List ByteArray) (F:List Nat) (w:World) (h:Chn w cb cls cap L F):Calls Tryz.prog 121 #[.pointer (some ⟨cb,0,none⟩)] w (Ret (.bool (decide (0 < L.length))) (Frm [] w)):=by
 have CL:=Lib.hid (len_any h)
 have e:decide (0 < L.length)=decide ((0:Int) < (L.length:Int)):=by rw[decide_eq_decide];omega
 rw[e]
 clear h e
 go_enter Tryz.func121,Tryz.ntmps121
 go_wp2_with (go_at_call 56;go_must (refine CL.out.mono ?_;rintro e w1 ⟨rfl,hf⟩;have HF:=Lib.hid hf;clear hf))
 go_ret
 exact⟨by simp,HF.out⟩
def busyB (Ls:List (List ByteArray)):Bool:=Ls.any fun l=>decide (0 < l.length)
theorem busy_ixf (Ls:List (List ByteArray)):decide (0≤ixf (fun l=>decide (0 < l.length)) Ls)=busyB Ls:=by
 unfold busyB
 rw[Bool.eq_iff_iff,decide_eq_true_eq,List.any_eq_true]
 constructor
 ·intro h
  obtain⟨i,hi,-⟩:=ixf_nat h
  obtain⟨x,h1,h2,-⟩:=ixf_at hi
  exact⟨x,List.mem_of_getElem? h1,h2⟩
 ·rintro⟨x,h1,h2⟩
  exact ixf_ex h1 h2
set_option maxRecDepth 100000 in
theorem cfChan_any (cls cap:Int) (v:Value) (Ls:List (List ByteArray)) (w:World) (h:RowV cls cap w v Ls) (hl:Ls.length≤1000):Calls Tryz.prog 120 #[v,.func (.func 121) #[] #[]] w (Ret (.bool (busyB Ls)) (Frm [] w)):=by
 have CI:=Lib.hid (ifChan_any cls cap 121 #[] (fun l=>decide (0 < l.length)) v Ls w h hl Tryz.call_pFinal1 (fun W x cb F _ _ hc=>pFinal1_any cb cls cap x F W hc))
 obtain⟨ao,cq,rfl⟩:=Arr.shape h
 rw[← busy_ixf]
 obtain⟨q,hq⟩:∃ q,ixf (fun l:List ByteArray=>decide (0 < l.length)) Ls=q:=⟨_,rfl⟩
 rw[hq] at CI ⊢
 clear h hl hq
 go_enter Tryz.func120,Tryz.ntmps120
 go_wp2_with (go_at_call 157;go_must (refine CI.out.mono ?_;rintro e w1 ⟨rfl,hf⟩;have HF:=Lib.hid hf;clear hf))
 go_ret
 exact⟨rfl,HF.out⟩
def endB (s:SesD) (x:PS) (i:Nat):Bool:=(x.ways.getD i []).all (fun l=>l.isEmpty) && ((s.rol i).sts.getD (x.at i) dS).fin
theorem busy_all (Ls:List (List ByteArray)):(Ls.all fun l=>l.isEmpty)=!busyB Ls:=by
 unfold busyB
 rw[Bool.eq_iff_iff,List.all_eq_true,Bool.not_eq_true',List.any_eq_false]
 constructor
 ·intro h x hx
  have:=h x hx
  rw[List.isEmpty_iff] at this
  simp[this]
 ·intro h x hx
  have:=h x hx
  rw[decide_eq_true_eq] at this
  rw[List.isEmpty_iff,← List.length_eq_zero_iff];omega
set_option maxHeartbeats 2000000 in
set_option maxRecDepth 100000 in
theorem pFinal_any (s:SesD) (yb fb sb:Nat) (x:PS) (w:World) (h:SyR w s yb fb) (hx:StR w s yb sb x):Calls Tryz.prog 72 #[.pointer (some ⟨yb,0,none⟩),.pointer (some ⟨sb,0,none⟩)] w (Ret (.tuple #[.bool (finalB s x),.int .i64 0]) (Frm [] w)):=by
 have HSY:=Lib.hid h;have HST:=Lib.hid hx
 have C1:=Lib.hid (pCheck_any s yb fb sb x w h hx)
 obtain⟨av,wv,h1,h2,h3⟩:=hx.out
 obtain⟨aa,ca,rfl⟩:=h2.shape
 obtain⟨aw,cw,rfl⟩:=h3.shape
 rw[actsP_len,hx.ok.wl] at h1
 obtain⟨n,hn⟩:∃ n,s.roles.length=n:=⟨_,rfl⟩
 rw[hn] at h1
 have x1:=cell_of h1 1
 have HX1:=Lib.hid x1
 have HN:=Lib.hid hn
 have HFB:Hid (finalB s x=(List.range n).all fun i=>endB s x i):=Lib.hid (by rw[← hn];rfl)
 obtain⟨fb',hfb⟩:∃ b,finalB s x=b:=⟨_,rfl⟩
 rw[hfb] at HFB ⊢
 have hn4:n≤4:=by rw[← hn];exact h.ok.n4
 clear h hx h1 h2 h3 hn hfb
 go_enter Tryz.func72,Tryz.ntmps72
 go_wp2_with (first
  | (go_at_call 61;go_must (refine C1.out.mono ?_;rintro e w' ⟨rfl,rfl⟩)))
 clear x1 C1
 go_loopw [21] (fun s21 wr=>∃ i:Nat,s21=.int .i64 i∧i≤n∧Frm [] w wr∧∀ j,j < i→endB s x j=true) (fun s21 _=>n - (intOf s21).toNat)
 case atStart=>exact⟨0,rfl,Nat.zero_le _,Frm.refl _ _,fun j hj=>by omega⟩
 case round =>
  obtain⟨i,rfl,hi,hf,hno⟩:=hrel
  have HF:=Lib.hid hf;have HNO:=Lib.hid hno
  clear hf hno
  by_cases hlt:i < n
  ·have hlt':(i:Int) < (n:Int):=by omega
   have hin:i < s.roles.length:=by rw[HN.out];exact hlt
   obtain⟨gb,go',cw',rv,y1,y2,y3⟩:=HST.out.row hin
   obtain⟨ab,ao,ac,bb,y4,ha⟩:=HST.out.act hin
   obtain⟨rb,ro,rc,sv,cv,tv,y5,hr⟩:=HSY.out.rol hin
   have hst:(s.rol i).sts[x.at i]?=some ((s.rol i).sts.getD (x.at i) dS):=some_getD (HST.out.ok.pb i hin)
   have hpb:=HST.out.ok.pb i hin
   have hwr:=HST.out.ok.wr i hin
   obtain⟨aS,cS,rfl⟩:=hr.r3.sts.shape
   obtain⟨b1,o1,rfl,-,g1,-⟩:=hr.r3.sts.get hst
   obtain⟨-,d1,-,-,-⟩:=hr
   obtain⟨e0,e1,-⟩:=ha
   rw[HN.out] at y1 y4 y5
   have q:=Option.some.inj (HX1.out.symm.trans y4)
   cases q
   have HEB:Hid (endB s x i=(!busyB (x.ways.getD i []) && ((s.rol i).sts.getD (x.at i) dS).fin)):=Lib.hid (by unfold endB;rw[busy_all])
   obtain⟨Ls,hLs⟩:∃ Ls,x.ways.getD i []=Ls:=⟨_,rfl⟩
   obtain⟨p,hp⟩:∃ p,x.at i=p:=⟨_,rfl⟩
   obtain⟨m,hm⟩:∃ m,(s.rol i).sts.length=m:=⟨_,rfl⟩
   obtain⟨fin,hfi⟩:∃ f,((s.rol i).sts.getD (x.at i) dS).fin=f:=⟨_,rfl⟩
   rw[hfi] at g1 HEB
   rw[hLs] at y3 HEB hwr
   rw[hp] at e0 g1 hpb
   rw[hm] at d1 hpb
   have hpm:(p:Int) < (m:Int):=by omega
   have CF:Hid (∀ V,Frm [] w V→Calls Tryz.prog 120 #[rv,.func (.func 121) #[] #[]] V (Ret (.bool (busyB Ls)) (Frm [] V))):=Lib.hid fun V hV=>cfChan_any s.cls s.cap rv Ls V (y3.frm hV) (by rw[hwr,HN.out];omega)
   obtain⟨bz,hbz⟩:∃ b,busyB Ls=b:=⟨_,rfl⟩
   rw[hbz] at CF HEB
   have HU:Hid (∀ V,Frm [] w V→V.cell? ⟨yb,1,none⟩=some (.slice (some ⟨rb,ro,none⟩) n rc)∧V.cell? ⟨rb,ro + i * 4 + 1,none⟩=some (.slice (some ⟨b1,o1,none⟩) m cS)∧V.cell? ⟨b1,o1 + p * 3 + 1,none⟩=some (.bool fin)):=Lib.hid fun V hV=>⟨hV.keep y5,hV.keep d1,hV.keep g1⟩
   replace y1:=HF.out.keep y1;replace y2:=HF.out.keep y2;replace y4:=HF.out.keep y4;replace e0:=HF.out.keep e0;replace e1:=HF.out.keep e1
   have hl1:=cell_lt y1
   have hl2:=cell_lt y2
   clear hst hwr y3 y5 d1 g1 hLs hp hm hfi hbz hin hpb
   go_upto_region 8 with (first
    | (go_at_call 120;go_must (refine(CF.out _ (HF.out.alloc _)).mono ?_;rintro e w1 ⟨rfl,hf1⟩;have HQ:=Lib.hid (hf1.at (heap_alloc_new wr (.cells #[.int .i64 p,.pointer (some ⟨bb,0,none⟩)] 143)) (by simp));have HF1:Hid (Frm [] w w1):=Lib.hid ((HF.out.alloc _).trans hf1);clear hf1)))
   have HU1:Hid (∀ V,Frm [] w1 V→(V.cell? ⟨yb,1,none⟩=some (.slice (some ⟨rb,ro,none⟩) n rc)∧V.cell? ⟨rb,ro + i * 4 + 1,none⟩=some (.slice (some ⟨b1,o1,none⟩) m cS)∧V.cell? ⟨b1,o1 + p * 3 + 1,none⟩=some (.bool fin))∧V.cell? ⟨wr.heap.size,0,none⟩=some (.int .i64 p)):=Lib.hid fun V hV=>⟨HU.out V (HF1.out.trans hV),hV.keep (cell_of HQ.out 0)⟩
   clear y1 y2 y4 e0 e1 CF hl1 hl2
   have hfalse:endB s x i=false→fb'=false:=fun h=>by
    rw[HFB.out,List.all_eq_false]
    exact⟨i,by simpa using hlt,by rw[h];decide⟩
   have HFA:=Lib.hid hfalse
   clear hfalse
   cases bz with
   | true =>
     have HR:=Lib.hid (HFA.out (by rw[HEB.out];rfl))
     clear HFA
     refine wp_region_cq (by kernel_rfl) (by kernel_rfl) ?_
     repeat (first
      | go_big_quiet_skip
      | (refine wpQuiet_want (by rfl) (fun K hK=>?_)
         first
          | (refine quiet_move _ (by rfl) (hK _ ?_))
          | (refine quiet_assign _ (by rfl) (hK _ ?_))
          | (apply Exists.intro
             refine⟨fun w' hC=>?_,hK _ ?_⟩
             ·(unfold Oper.quietAt
               obtain⟨⟨z1,z2,z3⟩,z4⟩:=HU1.out w' hC
               clear hC
               go_simp
               try exact⟨rfl,rfl⟩
               try rfl))
         clear hK K
         try simp only[nrm,Act.eval,nrq]))
     refine wpQuiet_nil ?_
     intro w2 hf2
     go_wp2
     go_ret2
     exact⟨by rw[HR.out];rfl,HF1.out.trans hf2⟩
   | false =>
     cases fin with
     | false =>
       have HR:=Lib.hid (HFA.out (by rw[HEB.out];rfl))
       clear HFA
       refine wp_region_cq (by kernel_rfl) (by kernel_rfl) ?_
       repeat (first
        | go_big_quiet_skip
        | (refine wpQuiet_want (by rfl) (fun K hK=>?_)
           first
            | (refine quiet_move _ (by rfl) (hK _ ?_))
            | (refine quiet_assign _ (by rfl) (hK _ ?_))
            | (apply Exists.intro
               refine⟨fun w' hC=>?_,hK _ ?_⟩
               ·(unfold Oper.quietAt
                 obtain⟨⟨z1,z2,z3⟩,z4⟩:=HU1.out w' hC
                 clear hC
                 go_simp
                 try exact⟨rfl,rfl⟩
                 try rfl))
           clear hK K
           try simp only[nrm,Act.eval,nrq]))
       refine wpQuiet_nil ?_
       intro w2 hf2
       go_wp2
       go_ret2
       exact⟨by rw[HR.out];rfl,HF1.out.trans hf2⟩
     | true =>
       clear HFA
       refine wp_region_cq (by kernel_rfl) (by kernel_rfl) ?_
       repeat (first
        | go_big_quiet_skip
        | (refine wpQuiet_want (by rfl) (fun K hK=>?_)
           first
            | (refine quiet_move _ (by rfl) (hK _ ?_))
            | (refine quiet_assign _ (by rfl) (hK _ ?_))
            | (apply Exists.intro
               refine⟨fun w' hC=>?_,hK _ ?_⟩
               ·(unfold Oper.quietAt
                 obtain⟨⟨z1,z2,z3⟩,z4⟩:=HU1.out w' hC
                 clear hC
                 go_simp
                 try exact⟨rfl,rfl⟩
                 try rfl))
           clear hK K
           try simp only[nrm,Act.eval,nrq]))
       refine wpQuiet_nil ?_
       intro w2 hf2
       have HF2:=Lib.hid (HF1.out.trans hf2)
       clear hf2
       go_wp2
       refine⟨⟨i + 1,congrArg (Value.int .i64) (by omega),hlt,HF2.out,fun j hj=>?_⟩,by simp[intOf];omega⟩
       by_cases e:j=i
       ·subst e;rw[HEB.out];rfl
       ·exact HNO.out j (by omega)
  ·have hge:¬ (i:Int) < (n:Int):=by omega
   have HR:Hid (fb'=true):=Lib.hid (by
    rw[HFB.out,List.all_eq_true]
    intro j hj
    exact HNO.out j (by rw[List.mem_range] at hj;omega))
   go_wp2
   go_ret2
   exact⟨by rw[HR.out];rfl,HF.out⟩
end Go.Proofs.YtemjlpahohmajaaGreat
namespace Go.Proofs.YtemjlpahohmajaaGreat
open Go.RowKit Go.BigFrame
def NoS (W:World) (xo:Option Addr):Prop:=xo=none∨∃ xb,xo=some ⟨xb,0,none⟩∧W.heap[xb]?=some (.cells #[.pointer none,.slice none 0 0,.slice none 0 0] 140 (0,0))
def NoY (W:World) (yo:Option Addr):Prop:=yo=none∨∃ yb,yo=some ⟨yb,0,none⟩∧W.heap[yb]?=some (.cells #[.string { data:=#[] },.slice none 0 0,.int .i64 0,.int .i64 0,.pointer none] 98 (0,0))
section
variable {w w':World} {xo yo:Option Addr}
theorem NoY.frm (h:NoY w yo) (hf:Frm [] w w'):NoY w' yo:=by
 rcases h with h | ⟨xb,h1,h2⟩
 ·exact .inl h
 ·exact .inr ⟨xb,h1,hf.at h2 (by simp)⟩
theorem pNone_no (h:NoY w yo):Calls Tryz.prog 60 #[.pointer yo] w (Ret (.bool true) (w=·)):=by
 rcases h with rfl | ⟨yb,rfl,h⟩
 ·go_enter Tryz.func60,Tryz.ntmps60
  go_wp2
  go_ret
  exact⟨rfl,rfl⟩
 ·have c4:=cell_of h 4
  clear h
  go_enter Tryz.func60,Tryz.ntmps60
  go_wp2
  go_ret
  exact⟨rfl,rfl⟩
theorem pSnone_no (h:NoS w xo):Calls Tryz.prog 54 #[.pointer xo] w (Ret (.bool true) (w=·)):=by
 rcases h with rfl | ⟨xb,rfl,h⟩
 ·go_enter Tryz.func54,Tryz.ntmps54
  go_wp2
  go_ret
  exact⟨rfl,rfl⟩
 ·have c0:=cell_of h 0
  clear h
  go_enter Tryz.func54,Tryz.ntmps54
  go_wp2
  go_ret
  exact⟨rfl,rfl⟩
theorem pCheck_noY (h:NoY w yo) (xo:Option Addr):Calls Tryz.prog 61 #[.pointer yo,.pointer xo] w (Ret (.int .i64 1) (w=·)):=by
 have C1:=Lib.hid (pNone_no h)
 clear h
 go_enter Tryz.func61,Tryz.ntmps61
 go_wp2_with (first
  | (go_at_call 60;go_must (refine C1.out.mono ?_;rintro e w' ⟨rfl,rfl⟩)))
 go_ret
 exact⟨rfl,rfl⟩
theorem pCheck_noS (s:SesD) (yb fb:Nat) (h:SyR w s yb fb) (hx:NoS w xo):Calls Tryz.prog 61 #[.pointer (some ⟨yb,0,none⟩),.pointer xo] w (Ret (.int .i64 1) (w=·)):=by
 have C1:=Lib.hid (pNone_any s yb fb w h)
 have C2:=Lib.hid (pSnone_no hx)
 clear h hx
 go_enter Tryz.func61,Tryz.ntmps61
 go_wp2_with (first
  | (go_at_call 60;go_must (refine C1.out.mono ?_;rintro e w' ⟨rfl,rfl⟩))
  | (go_at_call 54;go_must (refine C2.out.mono ?_;rintro e w' ⟨rfl,rfl⟩)))
 go_ret
 exact⟨rfl,rfl⟩
theorem sys_other (a b:Nat) (hne:a≠b) (W:World) {ca cb:Array Value} {ta tb:TypeId} (ha:W.heap[a]?=some (.cells ca ta (0,0))) (hb:W.heap[b]?=some (.cells cb tb (0,0))):(binOp .neq 26 (.pointer (some ⟨a,0,none⟩)) (.pointer (some ⟨b,0,none⟩))).run Tryz.prog W=.ok (.bool true) W:=by
 have h:(Tryz.prog.info? 98).map (·.size)=some 5:=by kernel_rfl
 obtain⟨j,hj,hs⟩:=Option.map_eq_some_iff.1 h
 have hab:(⟨a,0,none⟩:Addr)≠⟨b,0,none⟩:=fun e=>by injection e with e;exact hne e
 have h2:∀ d:Nat,(Op.equalIn (d + 1) 26 (.pointer (some ⟨a,0,none⟩)) (.pointer (some ⟨b,0,none⟩))).run Tryz.prog W=.ok false W:=fun d=>by
  simp[Op.equalIn,run_underlying Tryz.underlying26,sizeOf,typeInfo,hj,hs,run_sameAddr_other (P:=Tryz.prog) (w:=W) hab ha hb]
 simp only[binOp]
 simp[Op.equal,Op.maxDepth,h2 9999]
theorem pCheck_other (s s2:SesD) (yb fb y2 fb2 sb:Nat) (x:PS) (h:SyR w s yb fb) (h2:SyR w s2 y2 fb2) (hx:StR w s2 y2 sb x) (hne:y2≠yb):Calls Tryz.prog 61 #[.pointer (some ⟨yb,0,none⟩),.pointer (some ⟨sb,0,none⟩)] w (Ret (.int .i64 2) (w=·)):=by
 have C1:=Lib.hid (pNone_any s yb fb w h)
 have C2:=Lib.hid (pSnone_any s2 y2 sb x w hx)
 obtain⟨av,wv,h1,-⟩:=hx.out
 have c0:=cell_of h1 0
 obtain⟨r1,k1,-⟩:=h.out
 obtain⟨r2,k2,-⟩:=h2.out
 have hq:=sys_other y2 yb hne w k2 k1
 clear h h2 hx h1 hne k1 k2
 go_enter Tryz.func61,Tryz.ntmps61
 go_wp2_with (first
  | (go_at_call 60;go_must (refine C1.out.mono ?_;rintro e w' ⟨rfl,rfl⟩))
  | (go_at_call 54;go_must (refine C2.out.mono ?_;rintro e w' ⟨rfl,rfl⟩)))
 go_ret
 exact⟨rfl,rfl⟩
theorem pFinal_err (e:Int) (he:e≠0) (hc:Calls Tryz.prog 61 #[.pointer yo,.pointer xo] w (Ret (.int .i64 e) (w=·))) :
  Calls Tryz.prog 72 #[.pointer yo,.pointer xo] w (Ret (.tuple #[.bool false,.int .i64 e]) (w=·)):=by
 have CC:=Lib.hid hc
 have q1:(e == 0)=false:=by simpa using he
 have q2:(e != 0)=true:=by simpa using he
 clear hc he
 go_enter Tryz.func72,Tryz.ntmps72
 go_wp2_with (first
  | (go_at_call 61;go_must (refine CC.out.mono ?_;rintro e' w' ⟨rfl,rfl⟩)))
 go_ret2
 exact⟨rfl,rfl⟩
theorem pFirst_no (h:NoY w yo):Calls Tryz.prog 30 #[.pointer yo] w (Ret (.pointer none) (w=·)):=by
 have C1:=Lib.hid (pNone_no h)
 clear h
 go_enter Tryz.func30,Tryz.ntmps30
 go_wp2_with (first
  | (go_at_call 60;go_must (refine C1.out.mono ?_;rintro e w' ⟨rfl,rfl⟩)))
 go_ret
 exact⟨rfl,rfl⟩
theorem pSession_no (h:NoY w yo):Calls Tryz.prog 74 #[.pointer yo] w (Ret (.agg #[.string { data:=#[] },.slice none 0 0,.int .i64 0,.int .i64 0]) (Frm [] w)):=by
 have hf0:Frm [] w (w.alloc (.cells #[.string { data:=#[] },.slice none 0 0,.int .i64 0,.int .i64 0] 25)):=(Frm.refl [] w).alloc _
 have C1:=Lib.hid (pNone_no (h.frm hf0))
 clear h
 go_enter Tryz.func74,Tryz.ntmps74
 go_wp2_with (first
  | (go_at_call 60;go_must (refine C1.out.mono ?_;rintro e w' ⟨rfl,rfl⟩))
  | (refine wpList_store_row rfl 25 _ _ rfl _ _ _ 25 rfl rfl (heap_alloc_new w _) rfl (by kernel_rfl) (by simp[Value.oneCell']) ?_;intro w2 hb2 hf2))
 exact bodyPost_ret (results_c1 (d:=_) (Tryz.results74) rfl hb2 rfl Tryz.underlying25 (by kernel_rfl)) rfl ⟨rfl,((Frm.refl [] w).alloc _).then hf2 (by intro y hy;simp at hy;right;omega)⟩
end
end Go.Proofs.YtemjlpahohmajaaGreat
namespace Go.Proofs.YtemjlpahohmajaaGreat
open Go.RowKit Go.BigFrame Go.Maps
set_option maxHeartbeats 4000000 in
set_option maxRecDepth 100000 in
theorem xSearch_no {yo:Option Addr} (lim:Int) (w:World) (h:NoY w yo) :
  Calls Tryz.prog 11 #[.pointer yo,.int .i64 lim] w (RetV fun v w'=>v=.tuple #[.pointer none,.int .i64 1]∧Frm [] w w'):=by
 obtain⟨w0,hw0⟩:∃ w0,w.alloc (.cells #[.pointer yo] 26)=w0:=⟨_,rfl⟩
 have hf0:Frm [] w w0:=by rw[← hw0];exact(Frm.refl _ _).alloc _
 have hb0:w0.heap[w.heap.size]?=some (.cells #[.pointer yo] 26 (0,0)):=by rw[← hw0];exact heap_alloc_new _ _
 have CF:=Lib.hid (pFirst_no (h.frm hf0))
 have y0:=cell_of hb0 0
 have HF0:=Lib.hid hf0;have HE:=Lib.hid hw0
 clear h hf0 hb0 hw0
 go_enter Tryz.func11,Tryz.ntmps11
 go_upto_region 1 with fail
 rw[HE.out]
 refine wp_scope_straight ?_
 go_wp2_with (first
  | (go_at_call 30;go_must (refine CF.out.mono ?_;rintro e w' ⟨rfl,rfl⟩)))
 try rw[Exit.noGoto_ret]
 go_ret2
 exact⟨_,rfl,rfl,HF0.out⟩
end Go.Proofs.YtemjlpahohmajaaGreat
namespace Go.Proofs.YtemjlpahohmajaaGreat
open Go.RowKit Go.BigFrame
theorem setCells_at:∀ (vs:List Value) (o:Nat) (w:World) (b:Nat) (c:Array Value) (t:TypeId),w.heap[b]?=some (.cells c t (0,0))→o + vs.length≤c.size →
  ∃ c',(w.setCells b o vs).heap[b]?=some (.cells c' t (0,0))∧c'.size=c.size∧(∀ j,j < o∨o + vs.length≤j→c'[j]?=c[j]?)∧(∀ j v,vs[j]?=some v→c'[o + j]?=some v)∧Frm [b] w (w.setCells b o vs)
 | [],o,w,b,c,t,h,_=>⟨c,h,rfl,fun _ _=>rfl,fun j v h=>by simp at h,Frm.refl _ _⟩
 | v :: vs,o,w,b,c,t,h,hl=>by
   have hb:=block_setCell h o v
   simp only[List.length_cons] at hl
   obtain⟨c',h1,h2,h3,h4,h5⟩:=setCells_at vs (o + 1) (w.setCell ⟨b,o,none⟩ v) b _ t hb (by simp;omega)
   refine⟨c',h1,by simpa using h2,fun j hj=>?_,fun j u hu=>?_,((Frm.refl _ _).setCell _ (.inl (by simp)) _).trans h5⟩
   ·simp only[List.length_cons] at hj
    rw[h3 j (by omega),Array.getElem?_setIfInBounds_ne (by omega)]
   ·cases j with
    | zero =>
      simp at hu;subst hu
      rw[Nat.add_zero,h3 o (by omega),Array.getElem?_setIfInBounds_self_of_lt (by omega)]
    | succ j =>
      rw[show o + (j + 1)=o + 1 + j by omega]
      exact h4 j u (by simpa using hu)
def mv00:Mv:=⟨0,0,0,0⟩
def RvR (W:World) (g n:Nat) (M:Nat→Mv):Prop:=∃ cur,W.heap[g]?=some (.cells cur 70 (0,0))∧n * 4≤cur.size ∧
 ∀ k,k < n→cur[k * 4]?=some (.int .i64 (M k).kind)∧cur[k * 4 + 1]?=some (.int .i64 (M k).role)∧cur[k * 4 + 2]?=some (.int .i64 (M k).step)∧cur[k * 4 + 3]?=some (.int .i64 (M k).place)
theorem RvR.frm {W V:World} {g n:Nat} {M:Nat→Mv} (h:RvR W g n M) (hf:Frm [] W V):RvR V g n M:=by
 obtain⟨cur,h1,h2⟩:=h
 exact⟨cur,hf.at h1 (by simp),h2⟩
theorem RvR.at {W:World} {g n k:Nat} {M:Nat→Mv} (h:RvR W g n M) (hk:k < n):MvAt W g (k * 4) (M k):=by
 obtain⟨cur,h1,h2,h3⟩:=h
 obtain⟨a,b,c,d⟩:=h3 k hk
 exact⟨(cell_of h1 _).trans a,(cell_of h1 _).trans b,(cell_of h1 _).trans c,(cell_of h1 _).trans d⟩
theorem RvR.set {W:World} {g n i:Nat} {M:Nat→Mv} (h:RvR W g n M) (hi:i < n) (m:Mv):RvR (W.setCells g (i * 4) (mvC1 m)) g n (fun k=>if k=i then m else M k)∧Frm [g] W (W.setCells g (i * 4) (mvC1 m)):=by
 obtain⟨cur,h1,h2,h3⟩:=h
 obtain⟨c',g1,g2,g3,g4,g5⟩:=setCells_at (mvC1 m) (i * 4) W g cur _ h1 (by simp[mvC1];omega)
 refine⟨⟨c',g1,by omega,fun k hk=>?_⟩,g5⟩
 by_cases e:k=i
 ·subst e
  simp only[if_true]
  exact⟨g4 0 _ rfl,g4 1 _ rfl,g4 2 _ rfl,g4 3 _ rfl⟩
 ·simp only[if_neg e]
  have hl:(mvC1 m).length=4:=rfl
  obtain⟨a,b,c,d⟩:=h3 k hk
  refine⟨(g3 _ ?_).trans a,(g3 _ ?_).trans b,(g3 _ ?_).trans c,(g3 _ ?_).trans d⟩ <;> rw[hl] <;> omega
theorem RvR.there {W:World} {g n i:Nat} {M:Nat→Mv} (h:RvR W g n M) (hi:i < n):W.there g (i * 4) 4:=by
 obtain⟨cur,h1,h2,h3⟩:=h
 intro j hj
 refine⟨?_,free_of h1 _⟩
 rw[cell_of h1,Array.getElem?_eq_getElem (by omega)]
 rfl
theorem mv_rv {W:World} {base:Nat} {v:Value} {L:List Mv} (h:W.ownsRow base 70 4 v L.length (mvC L)) (hn:L.length≠0):∃ g cap,v=.slice (some ⟨g,0,none⟩) L.length cap∧RvR W g L.length (fun k=>L.getD k mv00):=by
 obtain⟨-,⟨-,h2⟩ | ⟨g,cap,cur,rfl,-,hh,hc,-,hs,ht⟩⟩:=h
 ·exact absurd h2 hn
 ·refine⟨g,cap,rfl,cur,hh,by rw[hs];exact Nat.mul_le_mul_right _ hc,fun k hk=>?_⟩
  obtain⟨a,b,c,d⟩:=mvC_at (some_getD (d:=mv00) hk)
  have e:∀ j,j < L.length * 4→cur[j]?=(mvC L)[j]?:=fun j hj=>by
   rw[← ht,List.getElem?_take_of_lt hj,Array.getElem?_toList]
  exact⟨(e _ (by omega)).trans a,(e _ (by omega)).trans b,(e _ (by omega)).trans c,(e _ (by omega)).trans d⟩
theorem rv_arr {W:World} {g n cap:Nat} {M:Nat→Mv} {L:List Mv} (h:RvR W g n M) (hn:L.length=n) (hM:∀ k m,L[k]?=some m→M k=m):Arr 4 MvAt W (.slice (some ⟨g,0,none⟩) n cap) L:=
 ⟨_,_,by rw[hn],fun i m hm=>⟨g,0,rfl,by
  have:=h.at (k:=i) (by rw[← hn];exact lt_of_some hm)
  rw[hM i m hm] at this
  rwa [Nat.zero_add]⟩⟩
def revM (L:List Mv) (i k:Nat):Mv:=if k < i∨L.length≤k + i then L.getD (L.length - 1 - k) mv00 else L.getD k mv00
theorem revM_step {L:List Mv} {i j:Nat} (hj:L.length=i + j + 1) (hij:i < j) (k:Nat):(if k=j then revM L i i else if k=i then revM L i j else revM L i k)=revM L (i + 1) k:=by
 unfold revM
 by_cases h1:k=j
 ·subst h1
  rw[if_pos rfl,if_neg (by omega),if_pos (by omega),show L.length - 1 - k=i by omega]
 rw[if_neg h1]
 by_cases h2:k=i
 ·subst h2
  rw[if_pos rfl,if_neg (by omega),if_pos (by omega),show L.length - 1 - k=j by omega]
 rw[if_neg h2]
 by_cases h3:k < i∨L.length≤k + i
 ·rw[if_pos h3,if_pos (by omega)]
 ·rw[if_neg h3,if_neg (by omega)]
theorem revM_end {L:List Mv} {i:Nat} (h:L.length≤i + i + 1) {k:Nat} {m:Mv} (hm:L.reverse[k]?=some m):revM L i k=m:=by
 have hk:k < L.length:=by have:=lt_of_some hm;simpa using this
 rw[List.getElem?_reverse hk] at hm
 have h2:=getD_some (d:=mv00) hm
 unfold revM
 by_cases h3:k < i∨L.length≤k + i
 ·rw[if_pos h3];exact h2
 ·rw[if_neg h3,show k=L.length - 1 - k by omega];exact h2
theorem Tryz.infoMvS:(Tryz.prog.info? 70).map (·.size)=some 4:=by kernel_rfl
theorem one_mv (a b c d:Int):(#[.int .i64 a,.int .i64 b,.int .i64 c,.int .i64 d]:Array Value).all (·.oneCell')=true:=by
 rw[← Array.all_toList];rfl
theorem wp_store_mv {op:Oper} {a:Act} {w:World} {K:Act→World→Prop} {Q:Exit→Act→World→Prop} {g n i:Nat} {M:Nat→Mv} (x y:Operand) (m:Mv) (ho:op.op=.store 70 x y) (hx:a.eval x=.pointer (some ⟨g,i * 4,none⟩)) (hy:a.eval y=mvV m)
  (hR:RvR w g n M) (hi:i < n) (h:∀ w',RvR w' g n (fun k=>if k=i then m else M k)→Frm [g] w w'→K (a.put op.dst undef) w'):op.wp Tryz.prog a w K Q:=
 wp_store_mid 70 x y ho g (i * 4) #[.int .i64 m.kind,.int .i64 m.role,.int .i64 m.step,.int .i64 m.place] hx hy (hR.there hi) Tryz.infoMvS (one_mv _ _ _ _) (h _ (hR.set hi m).1 (hR.set hi m).2)
set_option maxHeartbeats 4000000 in
set_option maxRecDepth 100000 in
theorem rvMove_any (g n cap:Nat) (L:List Mv) (w:World) (hn:L.length=n) (h1:1≤n) (h5:n≤1000000) (h:RvR w g n (fun k=>L.getD k mv00)) :
  Calls Tryz.prog 97 #[.slice (some ⟨g,0,none⟩) n cap] w (RetV fun _ w'=>Arr 4 MvAt w' (.slice (some ⟨g,0,none⟩) n cap) L.reverse∧Frm [g] w w'):=by
 have HN:=Lib.hid hn
 have h0:RvR w g n (revM L 0):=by
  obtain⟨cur,g1,g2,g3⟩:=h
  refine⟨cur,g1,g2,fun k hk=>?_⟩
  have e:revM L 0 k=L.getD k mv00:=by unfold revM;rw[if_neg (by omega)]
  rw[e]
  exact g3 k hk
 have H0:=Lib.hid h0
 have hw:wrap64 ((n:Int) - 1)=((n - 1:Nat):Int):=by unfold wrap64;omega
 clear h hn
 go_enter Tryz.func97,Tryz.ntmps97
 go_wp2
 go_loopw [2,3] (fun s2 s3 wr=>∃ i:Nat,(s2=.int .i64 i∧s3=.int .i64 ((n - 1 - i:Nat):Int))∧2 * i≤n∧i < n∧RvR wr g n (revM L i)∧Frm [g] w wr) (fun s2 _ _=>n - (intOf s2).toNat)
 case atStart=>exact⟨0,⟨rfl,by congr 1;omega⟩,by omega,by omega,H0.out,Frm.refl _ _⟩
 case round =>
  obtain⟨i,⟨rfl,rfl⟩,hi2,hi,hr,hf⟩:=hrel
  obtain⟨j,hj⟩:∃ j,n - 1 - i=j:=⟨_,rfl⟩
  rw[hj]
  have HJ:=Lib.hid hj;have HR:=Lib.hid hr;have HF:=Lib.hid hf
  obtain⟨wq,hwq⟩:∃ wq,wq=wr:=⟨_,rfl⟩
  subst hwq
  clear hr hf hw
  by_cases hlt:i < j
  ·have hlt':(i:Int) < (j:Int):=by omega
   have hjn:j < n:=by omega
   go_upto_region 3 with (fail)
   generalize hQQ:Exit.inBlock _ _=QQ
   refine wp_mono (Q:=fun e a' w'=>match e with | .normal=>QQ .normal a' w' | _=>False) ?_ (fun e a' w' h=>by cases e <;> first | exact h | exact h.elim)
   have HCT:Hid (∀ V,Frm [] wq V→MvAt V g (j * 4) (revM L i j)∧MvAt V g (i * 4) (revM L i i)):=Lib.hid fun V hV=>⟨(HR.out.frm hV).at hjn,(HR.out.frm hV).at hi⟩
   refine heldL_start [] (wrFrom 13) (by kernel_rfl) ?_
   refine cnt 2 ?_
   iterate 2
    refine hcP ?_ ?_ ?_
    rotate_left
    ·intro w'
     go_simp
     try rfl
    try simp only[nrm,Nat.reduceAdd]
   refine tcn ?_
   refine cnt 0 ?_
   iterate 2
    refine hcL ?_ ?_ ?_
    rotate_left
    ·intro w' hC
     obtain⟨⟨x0,x1,x2,x3⟩,⟨y0,y1,y2,y3⟩⟩:=HCT.out w' ((Frm.refl [] wq).drew.trans hC)
     clear hC
     go_simp
     try rfl
    try simp only[nrm,Nat.reduceAdd]
   refine tcn ?_
   refine cnt 4 ?_
   iterate 9
    refine hcL ?_ ?_ ?_
    rotate_left
    ·intro w' hC
     obtain⟨⟨x0,x1,x2,x3⟩,⟨y0,y1,y2,y3⟩⟩:=HCT.out w' ((Frm.refl [] wq).drew.trans hC)
     clear hC
     go_simp
     try rfl
    try simp only[nrm,Nat.reduceAdd]
   refine tcn ?_
   refine honL 13 ?_
   refine heldL_write (i:=13) rfl (by rfl) (by rfl) (fun K' hK'=>?_)
   refine wp_store_mv (g:=g) (n:=n) (i:=i) (M:=revM L i) _ _ (revM L i j) rfl rfl rfl (HR.out.frm ((Frm.refl _ _).drew)) hi ?_
   intro wa hra hfa
   have HRA:=Lib.hid hra
   have HFA:Hid (Frm [g] wq wa):=Lib.hid ((((Frm.refl [] wq).drew).mono (by simp)).trans hfa)
   clear hra hfa
   refine hK'.out _ _ ?_
   clear hK' K'
   try simp only[nrm]
   refine honL 14 ?_
   refine heldL_write (i:=14) rfl (by rfl) (by rfl) (fun K' hK'=>?_)
   go_simp
   (skip)
   refine hK'.out _ _ ?_
   clear hK' K'
   try simp only[nrm]
   refine honL 15 ?_
   refine heldL_write (i:=15) rfl (by rfl) (by rfl) (fun K' hK'=>?_)
   refine wp_store_mv (g:=g) (n:=n) (i:=j) (M:=fun k=>if k=i then revM L i j else revM L i k) _ _ (revM L i i) rfl rfl rfl HRA.out hjn ?_
   intro wb hrb hfb
   have HRB:=Lib.hid hrb
   have HFB:Hid (Frm [g] wq wb):=Lib.hid (HFA.out.trans hfb)
   clear hrb hfb
   refine hK'.out _ _ ?_
   clear hK' K'
   try simp only[nrm]
   refine heldL_done (by kernel_rfl) ?_ _
   subst hQQ
   have hn9:=HN.out
   have hr9:RvR wb g n (revM L (i + 1)):=by
    have:=HRB.out
    rwa [show (fun k=>if k=j then revM L i i else if k=i then revM L i j else revM L i k)=revM L (i + 1) from funext fun k=>revM_step (by omega) hlt k] at this
   have HR9:=Lib.hid hr9
   clear hr9
   go_wp2
   exact⟨⟨i + 1,⟨rfl,by congr 1;omega⟩,by omega,by omega,HR9.out,HF.out.trans HFB.out⟩,by simp[intOf];omega⟩
  ·have hlt':¬ (i:Int) < (j:Int):=by omega
   go_wp2
   refine bodyPost_ret (results_none rfl _ _ _) rfl ?_
   exact⟨_,rfl,rv_arr HR.out (by simpa using HN.out) (fun k m hm=>revM_end (by have:=HN.out;omega) hm),HF.out⟩
end Go.Proofs.YtemjlpahohmajaaGreat
namespace Go.Proofs.YtemjlpahohmajaaGreat
open Go.RowKit Go.BigFrame Go.Maps
set_option maxRecDepth 100000 in
theorem rvMove_nil (ao:Option Addr) (cap:Nat) (w:World):Calls Tryz.prog 97 #[.slice ao 0 cap] w (RetV fun _ w'=>w=w'):=by
 go_enter Tryz.func97,Tryz.ntmps97
 go_wp2
 go_loopw [2,3] (fun s2 s3 wr=>(s2=.int .i64 0∧s3=.int .i64 (-1))∧w=wr) (fun _ _ _=>0)
 case atStart=>exact⟨⟨rfl,rfl⟩,rfl⟩
 case round =>
  obtain⟨⟨rfl,rfl⟩,rfl⟩:=hrel
  go_wp2
  refine bodyPost_ret (results_none rfl _ _ _) rfl ?_
  exact⟨_,rfl,rfl⟩
set_option maxRecDepth 100000 in
theorem xTurned_any {L:List Mv} {base:Nat} {v:Value} {w:World} (h:w.ownsRow base 70 4 v L.length (mvC L)) (h5:L.length≤1000000) :
  Calls Tryz.prog 53 #[v] w (RetV fun u w'=>u=v∧Arr 4 MvAt w' v L.reverse∧Frm v.ownBlock.toList w w'):=by
 by_cases h0:L.length=0
 ·obtain⟨ao,cap,rfl⟩:=own_shape h
  have hL:L=[]:=List.length_eq_zero_iff.1 h0
  subst hL
  have C1:=Lib.hid (rvMove_nil ao cap w)
  have hA:Hid (Arr 4 MvAt w (.slice ao 0 cap) (List.reverse [])):=Lib.hid ⟨_,_,rfl,fun i m hm=>by simp at hm⟩
  clear h
  simp only[List.length_nil]
  go_enter Tryz.func53,Tryz.ntmps53
  go_wp2_with (first
   | (go_at_call 97;go_must (refine C1.out.mono ?_;rintro e w' ⟨v,rfl,rfl⟩)))
  go_ret
  exact⟨_,rfl,rfl,hA.out,Frm.refl _ _⟩
 ·obtain⟨g,cap,rfl,hr⟩:=mv_rv h h0
  have C1:=Lib.hid (rvMove_any g L.length cap L w rfl (by omega) h5 hr)
  clear h hr
  go_enter Tryz.func53,Tryz.ntmps53
  go_wp2_with (first
   | (go_at_call 97;go_must (refine C1.out.mono ?_;rintro e w' ⟨v,rfl,h1,h2⟩;have H1:=Lib.hid h1;have H2:=Lib.hid h2;clear h1 h2)))
  go_ret
  exact⟨_,rfl,rfl,H1.out,H2.out⟩
def parOf (nb:Nat) (w:World):Nat:=(intOf ((w.cell? ⟨nb,1,none⟩).getD undef) + 1).toNat
abbrev ndA (d:Nd × Nat):Array Value:=#[.pointer (some ⟨d.2,0,none⟩),.int .i64 d.1.par,.int .i64 d.1.mv.kind,.int .i64 d.1.mv.role,.int .i64 d.1.mv.step,.int .i64 d.1.mv.place,.int .i64 d.1.lvl]
theorem parOf_at {nb:Nat} {w:World} {d:Nd × Nat} {t:TypeId} (h:w.heap[nb]?=some (.cells (ndA d) t (0,0))):parOf nb w=(d.1.par + 1).toNat:=by
 have h2:w.cell? ⟨nb,1,none⟩=some (.int .i64 d.1.par):=cell_of h 1
 unfold parOf
 rw[h2]
 rfl
set_option maxHeartbeats 4000000 in
set_option maxRecDepth 100000 in
theorem xTrace_any {W:World} {s:SesD} {yb pb lim nn i:Nat} {whole:Bool} {N:List (Nd × Nat)} (h:SpO W s yb whole pb N) (hi:SI s lim nn (N.map Prod.fst)) (hlt:i < N.length) (h5:N.length≤200000) :
  Calls Tryz.prog 20 #[.pointer (some ⟨pb,0,none⟩),.int .i64 i] W (RetV fun v w'=>∃ u,v=.tuple #[u,.int .i64 0]∧Arr 4 MvAt w' u (traceP (N.map Prod.fst) i)∧Frm [] W w'):=by
 have HS:=Lib.hid h;have HI:=Lib.hid hi
 obtain⟨d,hd⟩:∃ d,N[i]?=some d:=⟨_,List.getElem?_eq_getElem hlt⟩
 have C1:=Lib.hid (xNode_in h hd (by omega))
 have HD:=Lib.hid hd
 clear h hi hd
 go_enter Tryz.func20,Tryz.ntmps20
 go_wp2_with (first
  | (go_at_call 52;go_must (refine C1.out.mono ?_;rintro e w1 ⟨rfl,hf⟩;have HF:=Lib.hid hf;clear hf)))
 have hnb0:=heap_alloc_new w1 (.cells (ndA d) 117)
 have hf0:Frm [] W (w1.alloc (.cells (ndA d) 117)):=HF.out.alloc _
 have hle:W.heap.size≤w1.heap.size:=HF.out.size
 obtain⟨nb,hnb⟩:∃ nb,w1.heap.size=nb:=⟨_,rfl⟩
 rw[hnb] at hnb0 hle ⊢
 have HN0:=Lib.hid hnb0;have HF0:=Lib.hid hf0;have HLE:=Lib.hid hle
 clear hnb0 hf0 hle HF C1
 go_loopw [4,5] (fun s4 s5 wr=>∃ (c:Nat) (e:Nd × Nat) (R:List Mv) (ao:Option Addr) (cp:Nat),(s4=.slice ao R.length cp∧s5=.int .i64 0)∧N[c]?=some e∧R.length + c≤i∧traceP (N.map Prod.fst) i=traceP (N.map Prod.fst) c ++ R.reverse∧wr.ownsRow W.heap.size 70 4 (.slice ao R.length cp) R.length (mvC R)∧wr.heap[nb]?=some (.cells (ndA e) 117 (0,0))∧Frm [] W wr) (fun _ _ w=>parOf nb w)
 case atStart=>exact⟨i,d,[],none,0,⟨rfl,rfl⟩,HD.out,by simp,by simp,World.ownsRow_nil _ _ _ _,HN0.out,HF0.out⟩
 case round =>
  obtain⟨c,e,R,ao,cp,⟨rfl,rfl⟩,he,hRc,htr,ho,hn,hf⟩:=hrel
  obtain⟨wq,hwq⟩:∃ wq,wq=wr:=⟨_,rfl⟩
  subst hwq
  have HTR:=Lib.hid htr;have HO:=Lib.hid ho;have HNB:=Lib.hid hn;have HFQ:=Lib.hid hf
  have hm:(N.map Prod.fst)[c]?=some e.1:=by rw[List.getElem?_map,he];rfl
  have n1:wq.cell? ⟨nb,1,none⟩=some (.int .i64 e.1.par):=cell_of hn 1
  by_cases hp:0≤e.1.par
  ·have hc0:0 < c:=by
    rcases Nat.eq_zero_or_pos c with h0 | h0
    ·subst h0
     rw[HI.out.one] at hm
     rw[← Option.some.inj hm] at hp
     exact absurd hp (show ¬ (0:Int)≤-1 by decide)
    ·exact h0
   obtain⟨p,b,hpar,hpc,hb,-⟩:=HI.out.par c e.1 hm hc0
   have hcl:=lt_of_some he
   obtain⟨e',he'⟩:∃ e',N[p]?=some e':=⟨_,List.getElem?_eq_getElem (by omega)⟩
   have hm':(N.map Prod.fst)[p]?=some e'.1:=by rw[List.getElem?_map,he'];rfl
   have hlow:e'.1.par < p:=by
    rcases Nat.eq_zero_or_pos p with h0 | h0
    ·subst h0
     rw[HI.out.one] at hm'
     rw[← Option.some.inj hm']
     exact(show (-1:Int) < 0 by decide)
    ·obtain⟨p2,b2,h1,h2,-⟩:=HI.out.par p e'.1 hm' h0
     rw[h1];omega
   have HST:=Lib.hid (trace_step HI.out hm hpar hpc)
   have n2:wq.cell? ⟨nb,2,none⟩=some (.int .i64 e.1.mv.kind):=cell_of hn 2
   have n3:wq.cell? ⟨nb,3,none⟩=some (.int .i64 e.1.mv.role):=cell_of hn 3
   have n4:wq.cell? ⟨nb,4,none⟩=some (.int .i64 e.1.mv.step):=cell_of hn 4
   have n5:wq.cell? ⟨nb,5,none⟩=some (.int .i64 e.1.mv.place):=cell_of hn 5
   rw[hpar] at n1
   have hpz:(0:Int)≤(p:Int):=by omega
   have HE':=Lib.hid he';have HPAR:=Lib.hid hpar;have HLOW:=Lib.hid hlow
   obtain⟨i0,hi0,hz0,hz1,hz2⟩:=info_parts Tryz.infoMv
   have hsz:W.heap.size≤(wq.alloc (.cells #[.int .i64 e.1.mv.kind,.int .i64 e.1.mv.role,.int .i64 e.1.mv.step,.int .i64 e.1.mv.place] 70)).heap.size:=by have:=hf.size;simp;omega
   have hne:(Value.slice ao R.length cp).ownBlock≠some nb:=fun h=>by
    obtain⟨cu,hcu⟩:=ownBlock_type ho h
    rw[hn] at hcu;cases hcu
   have HNE:=Lib.hid hne
   clear htr ho hn hf hm hm' hp hpar hb he he' hlow hne
   go_wp2_with (first
    | (at_builtin;refine wpList_append_own_at _ rfl _ _ 49 rfl W.heap.size 70 i0 (.agg #[.int .i64 0,.int .i64 0,.int .i64 0,.int .i64 0]) 4 32 Tryz.underlying49 hi0 hz0 hz1 hz2 rfl (by decide) (.slice ao R.length cp) R.length (mvC R) rfl (HO.out.alloc _) ⟨wq.heap.size,0,none⟩ 1 1 (mvC1 e.1.mv) rfl rfl (new_row _ _ _) (by simp[mvC1,Value.oneCell']) (by unfold maxLen;omega) (by omega) hsz ?_;intro v' w6 hown' hgrow _ _;obtain⟨ao',cp',rfl⟩:=own_shape hown';have hf6:Frm [] W w6:=(HFQ.out.alloc _).grown hgrow (fun k hk=>.inr (ownBlock_ge HO.out hk));have h6:=grown_at hgrow (alloc_at HNB.out) HNE.out;have HF6:=Lib.hid hf6;have HNB6:=Lib.hid h6;have HO6:=Lib.hid hown';have m1:w6.cell? ⟨nb,1,none⟩=some (.int .i64 (p:Int)):=by { rw[← HPAR.out];exact cell_of h6 1 };clear hgrow hown' h6 hf6 n1 n2 n3 n4 n5)
    | (go_at_call 52;go_must (refine(xNode_in (HS.out.frm HF6.out) HE'.out (by omega)).mono ?_;rintro en w7 ⟨rfl,hf7⟩;have HF7:=Lib.hid hf7;have HNB7:=Lib.hid (hf7.at HNB6.out (by simp));clear hf7 m1))
    | (refine wpList_store_row rfl 117 _ _ rfl _ _ _ 117 rfl rfl HNB7.out rfl Tryz.infoNode (one_nd _ _ _ _ _ _ _) ?_;intro w8 hb8 hf8;have HB8:=Lib.hid hb8;have HF8:=Lib.hid hf8;clear hb8 hf8))
   have hm1:parOf nb w8 < parOf nb wq:=by
    rw[parOf_at (d:=e') HB8.out,parOf_at HNB.out,HPAR.out]
    have:=HLOW.out
    omega
   have hlen:(R ++ [e.1.mv]).length=R.length + 1:=by simp
   have hO8:w8.ownsRow W.heap.size 70 4 (.slice ao' (R.length + 1) cp') (R.length + 1) (mvC (R ++ [e.1.mv])):=by
    have h0:(Value.slice ao' (R.length + 1) cp').ownBlock≠some nb:=fun h=>by
     obtain⟨cu,hcu⟩:=ownBlock_type HO6.out h
     rw[HNB6.out] at hcu;cases hcu
    have e9:mvC (R ++ [e.1.mv])=mvC R ++ mvC1 e.1.mv:=by rw[mvC_append];simp[mvC]
    rw[e9]
    exact HF8.out.owns (HF7.out.owns HO6.out (by simp)) (fun k hk hm=>by
     rw[List.mem_singleton] at hm
     rw[hm] at hk
     exact h0 hk)
   refine⟨⟨p,e',R ++ [e.1.mv],ao',cp',⟨by rw[hlen],rfl⟩,HE'.out,by rw[hlen];omega,?_,by rw[hlen];exact hO8,HB8.out,(HF6.out.trans HF7.out).then HF8.out (fun k hk=>?_)⟩,hm1⟩
   ·rw[HTR.out,HST.out,List.reverse_append,List.append_assoc];rfl
   ·rw[List.mem_singleton] at hk
    subst hk
    exact .inr HLE.out
  ·have hp':¬ (0:Int)≤e.1.par:=hp
   have hc0:c=0:=by
    rcases Nat.eq_zero_or_pos c with h0 | h0
    ·exact h0
    ·obtain⟨p,b,hpar,-⟩:=HI.out.par c e.1 hm h0
     omega
   subst hc0
   have hz:=trace_zero HI.out
   have CT:=Lib.hid (xTurned_any ho (by omega))
   have HZ:=Lib.hid hz
   clear htr ho hn hf hm hz
   go_wp2_with (first
    | (go_at_call 53;go_must (refine CT.out.mono ?_;rintro en w7 ⟨v,rfl,rfl,h1,h2⟩;have H1:=Lib.hid h1;have H2:=Lib.hid h2;clear h1 h2)))
   go_ret2
   refine⟨_,rfl,_,rfl,?_,HFQ.out.then H2.out (fun k hk=>?_)⟩
   ·rw[HTR.out,HZ.out,List.nil_append];exact H1.out
   ·rw[Option.mem_toList] at hk;exact .inr (ownBlock_ge HO.out hk)
end Go.Proofs.YtemjlpahohmajaaGreat
namespace Go.Proofs.YtemjlpahohmajaaGreat
open Go.RowKit Go.BigFrame
theorem wp_own_step {P:Program} {o:Oper} {a:Act} {w:World} {K:Act→World→Prop} {Q:Exit→Act→World→Prop} (s x:Operand) (t:TypeId)
  (ho:o.op=.call { callee:=.builtin .append,args:=#[s,x],argTypes:=#[t,t] })
  (base:Nat) (e:TypeId) {i:TypeInfo} {z:Value} {size bytes:Nat} (ht:P.underlying t=some (.slice e)) (hi:P.info? e=some i) (hz:i.zero=some z)
  (hsize:i.size=size) (hby:i.bytes=bytes) (hzs:z.cells.size=size) (hsz:0 < size)
  (v:Value) (n:Nat) (xs:List Value) (hs:a.eval s=v) (hown:w.ownsRow base e size v n xs)
  (ad:Addr) (m c:Nat) (news:List Value) (hx:a.eval x=.slice (some ad) m c) (hl:news.length=m * size) (hnews:∀ (j:Nat) u,news[j]?=some u→w.cell? (ad.add j)=some u) (h1:∀ u∈news,u.oneCell'=true)
  (h63:n + m≤maxLen) (hbytes:(n + m) * bytes≤140737488355328) (hbase:base≤w.heap.size)
  (h:∀ v' w',w'.ownsRow base e size v' (n + m) (xs ++ news)→w.grownBy w' v.ownBlock→K (a.put o.dst v') w'):Oper.wp P o a w K Q:=by
 obtain⟨v',w',hr,h2,h3,h4,h5⟩:=run_append_own_at (P:=P) w base t o.type e i z size bytes ht hi hz hsize hby hzs hsz v n xs hown ad m c news hl hnews h1 h63 hbytes hbase
 unfold Oper.wp execOp
 simp only[ho,resolve,invoke,builtin,Sem.run_bind,Sem.run_pure,Result.andThen_ok,List.map_toArray,List.map_cons,List.map_nil,hs,hx,hr]
 exact h v' w' h2 h3
theorem row_cells {X:World} {r:Nat} {A:Array Value} {t:TypeId} (h:X.heap[r]?=some (.cells A t (0,0))) (j:Nat) (u:Value) (hu:A.toList[j]?=some u):X.cell? ((⟨r,0,none⟩:Addr).add j)=some u:=by
 have e:∀ o,(⟨r,o,none⟩:Addr).add j=⟨r,o + j,none⟩:=fun o=>by simp[Addr.add]
 rw[e,Nat.zero_add,cell_of h,← Array.getElem?_toList]
 exact hu
end Go.Proofs.YtemjlpahohmajaaGreat
namespace Go.Proofs.YtemjlpahohmajaaGreat
open Go.ChangeShapes Go.WideShapes Go.ChangeAt Go.RowKit
theorem trodAll_below {H:Type} {enc:TypeId × Value→H} {P:Program} (hl:laidOutB P=true) {W W':World} (hb:Below W.heap.size W W'):∀ (ts:List TypeId) (vs:List Value) (ds:List (DataW H)) (ps:List MemPlace),
  (ts.all fun t=>P.readableRec t && decide (t < P.types.size))=true→DataW.TrodAll enc P W 0 (fun _=>true) true ts vs ds ps→(∀ x∈ps,x.block < W.heap.size) →
  DataW.TrodAll enc P W' 0 (fun b=>decide (b < W.heap.size)) true ts vs ds ps
 | [],vs,ds,ps,_,h,_=>by
   obtain⟨rfl,rfl,rfl⟩:=trodAll_nil h
   exact rfl
 | t :: ts,vs,ds,ps,ht,h,hlt=>by
   obtain⟨v,vs',d,ds',p,q,rfl,rfl,rfl,h1,h2⟩:=trodAll_cons h
   simp only[List.all_cons,Bool.and_eq_true,decide_eq_true_eq] at ht
   exact⟨p,q,Below.trod hl ht.1.1 ht.1.2 h1 hb (fun x hx=>hlt x (by simp[hx])),trodAll_below hl hb ts vs' ds' q ht.2 h2 (fun x hx=>hlt x (by simp[hx])),rfl⟩
theorem trodAll_length {H:Type} {enc:TypeId × Value→H} {P:Program} {W:World} {base:Nat} {sp:Nat→Bool} {held:Bool}:∀ (ts:List TypeId) (vs:List Value) (ds:List (DataW H)) (ps:List MemPlace),
  DataW.TrodAll enc P W base sp held ts vs ds ps→ds.length=ts.length
 | [],vs,ds,ps,h=>by
   obtain⟨rfl,rfl,rfl⟩:=trodAll_nil h
   rfl
 | t :: ts,vs,ds,ps,h=>by
   obtain⟨v,vs',d,ds',p,q,rfl,rfl,rfl,h1,h2⟩:=trodAll_cons h
   simp[trodAll_length ts vs' ds' q h2]
theorem law_lifted {C:Checked} (own:ownKnob C.prog.godebug=none) (laid:laidOutB C.prog=true) {os:Os} (started:os.Started) {H:Type} (enc:TypeId × Value→H) (f:FuncId) (fn:Func) (s:ChangeSpec) (tb:TypeId)
  (noInit:C.prog.inits.idxOf? f=none) (hfn:C.prog.funcs[f]?=some fn)
  (witness:∃ (w:World) (tape:Tape) (i:Input),w.os=os∧(w.forCall tape i).Shaped C.prog∧i.vars=[]∧Input.okWide C.prog (w.forCall tape i) .any w.heap.size f i ∧
   s.pre6 enc C.prog fn [] false (w.forCall tape i).memory i.args∧({}:Assume).holds C.prog (lone (Frame.enter C.prog f i.args .normal) [] (w.forCall tape i)))
  (hv:s.vars=[]) (hrt:fn.resultTypes=#[tb]) (htb:C.prog.underlying tb=some .bool)
  (hts:(fn.params.toList.all fun t=>C.prog.readableRec t && decide (t < C.prog.types.size))=true)
  (hspec:∀ ds:List (DataW H),ds.length=fn.params.toList.length→s.fn H ds={ results:=[.lit (.bool true)],args:=ds })
  (walk:∀ (W:World) (base:Nat) (args:Array Value) (ds:List (DataW H)) (p:List MemPlace),
   (∀ (j:Nat) t v,fn.params[j]?=some t→args[j]?=some v→Value.okWide C.prog W .any base t v) →
   DataW.TrodAll enc C.prog W 0 (fun _=>true) true fn.params.toList args.toList ds p →
   (∀ x∈p,x.block < W.heap.size) →
   (DataW.weightsEach C.prog fn.params.toList ds).all (·≤reachBytes)=true →
   Calls C.prog f args W (Ret (.bool true) (Frm [] W))) :
  ReturnsInHanded {} C os f .any (s.pre6 enc C.prog fn [] false) (s.post enc C.prog fn false true false false):=by
 refine returnsInHanded_of_change_sized (C:=C) own started noInit hfn witness ?_
 intro W base args ds gs before hval hW _ hsz _
 have hvt:s.plain.varTypes C.prog=[]:=by
  simp[DataSpec.varTypes,ChangeSpec.plain,hv]
 have hW':=hW
 obtain⟨p,q,hA,hV,rfl,_,_⟩:=hW
 rw[hv] at hV
 obtain⟨rfl,rfl⟩:=trodVars_none hV
 simp only[List.append_nil] at hW'
 rw[hvt,List.append_nil,List.append_nil] at hsz
 have hlt:∀ x∈p,x.block < W.heap.size:=fun x hx=>by simpa using hW'.lt x hx
 refine(walk W base args ds p hval hA hlt hsz).mono ?_
 rintro e W' ⟨rfl,hf⟩
 have hB:Below W.heap.size W W':=hf.below (Nat.le_refl _) (by simp)
 have hsp:=hspec ds (trodAll_length _ _ _ _ hA)
 refine⟨_,rfl,ds,[],p,[],p,[],hW',?_,?_,?_,hB.frame _,fun h=>by cases h⟩
 ·rw[List.append_nil,hsp,hrt]
  exact trodAll_mk1 (shut_bool htb _)
 ·rw[List.append_nil,hsp]
  exact trodAll_below laid hB _ _ _ _ hts hA hlt
 ·rw[List.append_nil,hsp,hv]
  rfl
end Go.Proofs.YtemjlpahohmajaaGreat
namespace Go.Proofs.YtemjlpahohmajaaGreat
open Go.ChangeShapes Go.WideShapes Go.ChangeAt Go.RowKit
theorem Tryz.own:ownKnob Tryz.prog.godebug=none:=by kernel_rfl
theorem Tryz.laidOut:laidOutB Tryz.prog=true:=by kernel_rfl
end Go.Proofs.YtemjlpahohmajaaGreat
