/- Part of the proof. -/
import Derived.Test.YtemjlpahohmajaaGreatU36
import Derived.Test.YtemjlpahohmajaaGreatU16
import Derived.Test.YtemjlpahohmajaaGreatU23
import Derived.Test.YtemjlpahohmajaaGreatU02
import Derived.Lib.SlicesS
import Derived.WalkKit
import Derived.WalkSpells
import Derived.Deep.QuietTactic
import Derived.Deep.RegionHeld3
import Derived.OrdersIn
import Derived.Deep.MidRow
import Derived.Deep.WholeRow
import Derived.Test.YtemjlpahohmajaaGreatU10
import Derived.Shelf.SlGeneric
import Derived.Shelf.SlLaysN
import Derived.Shelf.SlLaysM
import Derived.Ground.SlgnProg
import Derived.Ground.SlgmProg
import Derived.Test.YtemjlpahohmajaaGreatProg
import Derived.BigQuiet
import Derived.StillTail
import Derived.Laws.IdiomStrings
import Derived.Shelf.Bytes.SlSmallAll
import Derived.Deep.Upon
import Derived.ArgAppend
import Derived.Deep.AppendLies
import Derived.Maps.AppendAt
import Derived.Lib.Hide
import Derived.Deep.DeepMust
import Derived.WalkLawsBesides
import Derived.BigRegion
import Derived.Deep.RegionLaw
import Derived.Deep.DeepCutAuto
import Derived.Shelf.SlicesG.Clone
import Derived.LoopTactic
import Derived.Shelf.SlicesG.Turned
import Derived.Shelf.SlicesG.Delete
import Derived.Sort.OwnSorted
import Derived.OrdersHeld
import Derived.Lib.SliceRun
import Derived.RangeFuncNested
import Derived.RangeFuncLeaves
import Derived.RangeFuncCalls
import Derived.RangeFuncBound
import Derived.OwnWalkIn
import Derived.TacticsInMore
import Derived.LoopNIn
import Derived.LoopIn
import Derived.Lib.Builder
import Derived.Shelf.SortM.Plain
import Derived.Shelf.SortM.SortNone
import Derived.Sort.CutIn
import Derived.Laws.StructEq
import Derived.Lib.AppendStr
import Derived.Laws.OwnMore
import Derived.Maps.OwnSet
import Derived.Maps.OwnOps
import Derived.Laws.EntriesVeiled
import Derived.Laws.Concat
import Derived.LaidEql
import Derived.Test.YtemjlpahohmajaaGreatU01
import Derived.ProofKit
import Derived.SizedLaws
import Derived.Deep.Slices
import Derived.Test.YtemjlpahohmajaaGreatRows
import Derived.Lib.SmallJoins
import Derived.Test.YtemjlpahohmajaaGreatU03
set_option linter.all false
namespace Go.Proofs.YtemjlpahohmajaaGreat
open Go.RowKit Go.BigFrame
structure DefsOk (cs:List CtrD):Prop where
 n:cs.length≤4
 ne:∀ c∈cs,c.name≠emptyS
 lo:∀ c∈cs,1≤c.lim∧c.lim≤1000
 un:∀ (i j:Nat) (a b:CtrD),cs[i]?=some a→cs[j]?=some b→a.name=b.name→i=j
def zeroC (cs:List CtrD):List (CtrD × Int):=cs.map fun c=>(c,0)
theorem zeroC_length (cs:List CtrD):(zeroC cs).length=cs.length:=by unfold zeroC;rw[List.length_map]
theorem zeroC_snoc {cs:List CtrD} {i:Nat} {c:CtrD} (h:cs[i]?=some c):zeroC (cs.take (i + 1))=zeroC (cs.take i) ++ [(c,0)]:=by
 unfold zeroC
 rw[List.take_add_one,h,List.map_append];rfl
theorem zero_find {cs:List CtrD} (h:DefsOk cs) {i:Nat} {c:CtrD} (hc:cs[i]?=some c):cnIx (zeroC (cs.take i)) c.name=-1:=by
 refine ixf_none fun x hx=>?_
 unfold zeroC at hx
 rw[List.mem_map] at hx
 obtain⟨d,hd,rfl⟩:=hx
 obtain⟨j,hj⟩:=List.getElem?_of_mem hd
 rw[List.getElem?_take] at hj
 split at hj
 ·rename_i hji
  rw[decide_eq_false_iff_not]
  intro e
  have:=h.un j i d c hj hc e
  omega
 ·cases hj
theorem Tryz.infoCn:(Tryz.prog.info? 207).map (fun i=>(i.zero,i.size,i.bytes))=some (some (.agg #[.string { data:=#[] },.int .i64 0,.int .i64 0]),3,32):=by kernel_rfl
def NwTo (w:World) (l:List (CtrD × Int)) (u:Value) (w':World):Prop:=∃ bb,u=.tuple #[.pointer (some ⟨bb,0,none⟩),.int .i64 0]∧GO 209 207 3 w bb 1 #[.bool true,undef] l.length (cnC l) w'
theorem GO.bnk {w W:World} {bb:Nat} {l:List (CtrD × Int)} (h:GO 209 207 3 w bb 1 #[.bool true,undef] l.length (cnC l) W):Bnk W bb l:=by
 obtain⟨ao,cap,h1,h2⟩:=h.bx
 exact⟨_,h1,cn_arr h2⟩
set_option maxHeartbeats 4000000 in
set_option maxRecDepth 100000 in
theorem bNew_any (v:Value) (cs:List CtrD) (w:World) (h:Arr 2 CtAt w v cs) (hok:DefsOk cs):Calls Tryz.prog 83 #[v] w (RetV (NwTo w (zeroC cs))):=by
 obtain⟨ao,cap,rfl,hx⟩:=h
 have HX:=Lib.hid hx
 have HOK:=Lib.hid hok
 obtain⟨n,hn⟩:∃ n,cs.length=n:=⟨_,rfl⟩
 have HN:=Lib.hid hn
 have h4:¬ 4 < (n:Int):=by have:=hok.n;omega
 rw[hn]
 obtain⟨W0,hW0⟩:∃ W0,w.alloc (.cells #[.bool true,.slice none 0 0] 209)=W0:=⟨_,rfl⟩
 have HG0:Hid (GO 209 207 3 w w.heap.size 1 #[.bool true,undef] 0 (cnC (zeroC (cs.take 0))) W0):=Lib.hid (GO.made (by rw[← hW0];exact(Frm.refl _ _).alloc _) (Nat.le_refl _) (by rw[← hW0];exact heap_alloc_new _ _) rfl)
 have HE:=Lib.hid hW0
 clear hx hok hn hW0
 go_enter Tryz.func83,Tryz.ntmps83
 go_wp2
 rw[HE.out]
 clear HE h4
 go_loopw [14] (fun s14 wl=>∃ i:Nat,s14=.int .i64 i∧i≤n∧GO 209 207 3 w w.heap.size 1 #[.bool true,undef] i (cnC (zeroC (cs.take i))) wl) (fun s14 _=>n - (intOf s14).toNat)
 case atStart=>exact⟨0,rfl,Nat.zero_le _,HG0.out⟩
 case round =>
  obtain⟨i,rfl,hi,hg⟩:=hrel
  have HG:=Lib.hid hg
  clear HG0 hg
  by_cases hlt:i < n
  ·have hlt':(i:Int) < (n:Int):=by omega
   obtain⟨c,hc⟩:∃ c,cs[i]?=some c:=⟨_,List.getElem?_eq_getElem (by rw[HN.out];exact hlt)⟩
   have hmem:=List.mem_of_getElem? hc
   obtain⟨b,o,rfl,c0,c1⟩:=HX.out i c hc
   replace c0:=HG.out.fr.keep c0
   replace c1:=HG.out.fr.keep c1
   have hemp:c.name.toList.isEmpty=false:=emp_no (HOK.out.ne c hmem)
   obtain⟨l1,l2⟩:=HOK.out.lo c hmem
   have l1':¬ c.lim < 1:=by omega
   have l2':¬ 1000 < c.lim:=by omega
   have hti:(zeroC (cs.take i)).length=i:=by rw[zeroC_length,List.length_take];have:=lt_of_some hc;omega
   have CF:Hid (∀ V,Frm [] wr V→Calls Tryz.prog 117 #[.pointer (some ⟨w.heap.size,0,none⟩),.string c.name] V (Ret (.int .i64 (-1)) (Frm [] V))):=Lib.hid fun V hV=>by
    have hb:Bnk V w.heap.size (zeroC (cs.take i)):=GO.bnk (by rw[hti];exact HG.out.frm hV)
    have:=bFind_any w.heap.size _ c.name V hb (by rw[hti];have:=HN.out;have:=HOK.out.n;omega)
    rwa [zero_find HOK.out hc] at this
   have HSN:=Lib.hid (zeroC_snoc hc)
   have HTI:=Lib.hid hti
   clear hc hmem l1 l2 hti
   obtain⟨i0,hi0,hz0,hz1,hz2⟩:=info_parts Tryz.infoCn
   have HBX:Hid ((wr.alloc (.cells #[.string c.name,.int .i64 c.lim] 205)).heap[wr.heap.size]?=some (.cells #[.string c.name,.int .i64 c.lim] 205 (0,0))):=Lib.hid (heap_alloc_new _ _)
   go_upto_region 9 with (first
    | (go_at_call 117;go_must (refine(CF.out _ ((Frm.refl [] wr).alloc _)).mono ?_;rintro e w2 ⟨rfl,hf2⟩;have HF2:Hid (Frm [] wr w2):=Lib.hid (((Frm.refl [] wr).alloc _).trans hf2);have HB2:=Lib.hid (hf2.at HBX.out (by simp));clear hf2)))
   clear c0 c1 l1' l2' hemp CF HBX
   have HG2:=Lib.hid (HG.out.frm HF2.out)
   obtain⟨ab,cb,hb1,hb2⟩:=HG2.out.bx
   have hb1':w2.heap[w.heap.size]?=some (.cells #[.bool true,.slice ab i cb] 209 (0,0)):=hb1
   have HB1:=Lib.hid hb1;have HO1:=Lib.hid hb2
   have cx:=cell_of hb1' 1
   have fx:=free_of hb1' 1
   have cy0:=cell_of HB2.out 0
   have cy1:=cell_of HB2.out 1
   have lx:=lt_of_block hb1
   have hi4:i < 4:=by have:=HOK.out.n;have:=HN.out;omega
   clear hb1 hb2 hb1'
   generalize hQQ:Exit.inBlock _ _=QQ
   refine wp_mono (Q:=fun e a' w'=>match e with | .normal=>QQ .normal a' w' | _=>False) ?_ (fun e a' w' h=>by cases e <;> first | exact h | exact h.elim)
   go_region_law (first
    | (refine step_append_own_at rfl _ _ 202 rfl w.heap.size 207 i0 (.agg #[.string { data:=#[] },.int .i64 0,.int .i64 0]) 3 32 Tryz.underlying202 hi0 hz0 hz1 hz2 rfl (by decide) (.slice ab i cb) i (cnC (zeroC (cs.take i))) ?_ (((Frm.refl [] w2).drew.alloc _).owns HO1.out (by simp)) ⟨w2.heap.size,0,none⟩ 1 1 [.string c.name,.int .i64 c.lim,.int .i64 0] ?_ rfl (new_row w2.drew _ _) ?_ ?_ ?_ ?_ ?_;(focus (go_simp;done));(focus (go_simp;done));(focus (simp[Value.oneCell'];done));(focus (unfold maxLen;omega));(focus omega);(focus (have:=HG2.out.fr.size;simp;omega));intro v' w6 hown' hgrow;obtain⟨ao6,cp6,rfl⟩:=own_shape hown';have hs:=GO.step HG2.out HB1.out HO1.out (by decide) ((Frm.refl [] w2).drew.alloc _) hgrow hown';have hbx:w6.heap[w.heap.size]?=some (.cells #[.bool true,.slice ab i cb] 209 (0,0)):=GO.facts HB1.out HO1.out (by decide) ((Frm.refl [] w2).drew.alloc _) hgrow;have cx6:=cell_of hbx 1;have fx6:=free_of hbx 1;have HS:=Lib.hid hs.1;clear hs hbx hown' hgrow))
   all_goals
    subst hQQ
    go_wp2
    refine⟨⟨i + 1,congrArg (Value.int .i64) (by omega),hlt,?_⟩,by simp[intOf];omega⟩
    rw[HSN.out,cnC_append]
    exact HS.out
  ·obtain rfl:i=n:=by omega
   have hge:¬ (i:Int) < (i:Int):=by omega
   have ht:cs.take i=cs:=by rw[← HN.out,List.take_length]
   have HT:=Lib.hid ht
   clear ht
   go_wp2
   go_ret2
   refine⟨_,rfl,_,rfl,?_⟩
   have:=HG.out
   rw[HT.out] at this
   rw[zeroC_length,HN.out]
   exact this
end Go.Proofs.YtemjlpahohmajaaGreat
namespace Go.Proofs.YtemjlpahohmajaaGreat
open Go.RowKit Go.BigFrame
def Agree (B:Nat) (W V:World):Prop:=∀ k,B≤k→k < W.heap.size→V.heap[k]?=W.heap[k]?
theorem Agree.refl (B:Nat) (W:World):Agree B W W:=fun _ _ _=>rfl
theorem Agree.low {B B':Nat} {W V:World} (h:Agree B W V) (hb:B≤B'):Agree B' W V:=fun k h1 h2=>h k (by omega) h2
theorem Agree.old {F:List Nat} {B:Nat} {W W' V:World} (h:Agree B W' V) (hf:Frm F W W') (hF:∀ x∈F,x < B):Agree B W V:=fun k h1 h2=>by
 have hs:=hf.size
 rw[h k h1 (by omega)]
 exact hf.block k h2 (fun hx=>by have:=hF k hx;omega)
theorem Fr.stb {α:Type} {k:Nat} {e:TypeId} {At:World→Nat→Nat→α→Prop} {w w':World} {xs:List α} {v:Value} (h:Fr k e At w xs v w') (hA:∀ (W V:World) b o x,At W b o x→V.heap[b]?=W.heap[b]?→At V b o x) :
  ∃ ao c,v=.slice ao xs.length c∧∀ (W V:World),Agree w.heap.size w' W→Agree w.heap.size w' V→Arr k At V v xs:=by
 obtain⟨ao,c,rfl⟩:=h.arr.shape
 refine⟨ao,c,rfl,fun _ V _ hV=>?_⟩
 rcases h.own with rfl | ⟨news,ho⟩
 ·exact Arr.nil _ _ _
 ·refine⟨ao,c,rfl,fun i x hx=>?_⟩
  have hn:xs.length≠0:=by have:=lt_of_some hx;omega
  obtain⟨g,cap,cur,e,hg,hc⟩:=own_block ho hn
  cases e
  obtain⟨b,o,e,ha⟩:=h.arr.get hx
  cases e
  exact⟨g,0,rfl,hA _ _ _ _ _ ha (hV g hg (lt_of_block hc))⟩
theorem cell_eq {W V:World} {b o:Nat} {v:Value} (h:W.cell? ⟨b,o,none⟩=some v) (e:V.heap[b]?=W.heap[b]?):V.cell? ⟨b,o,none⟩=some v:=(World.cell?_of_block (w:=W) e).trans h
theorem StAt.leaf (W V:World) (b o:Nat) (x:StD) (h:StAt W b o x) (e:V.heap[b]?=W.heap[b]?):StAt V b o x:=⟨cell_eq h.1 e,cell_eq h.2.1 e,cell_eq h.2.2 e⟩
theorem CtAt.leaf (W V:World) (b o:Nat) (x:CtrD) (h:CtAt W b o x) (e:V.heap[b]?=W.heap[b]?):CtAt V b o x:=⟨cell_eq h.1 e,cell_eq h.2 e⟩
theorem SpAt.leaf (W V:World) (b o:Nat) (x:StpD) (h:SpAt W b o x) (e:V.heap[b]?=W.heap[b]?):SpAt V b o x:=
 ⟨cell_eq h.c0 e,cell_eq h.c1 e,cell_eq h.c2 e,cell_eq h.c3 e,cell_eq h.c4 e,cell_eq h.c5 e,cell_eq h.c6 e,cell_eq h.c7 e,cell_eq h.c8 e⟩
def AgX (B g b:Nat) (W V:World):Prop:=∀ k,B≤k→k≠g→k≠b→k < W.heap.size→V.heap[k]?=W.heap[k]?
theorem AgX.old {B g b:Nat} {W W' V:World} {F:List Nat} (h:AgX B g b W' V) (hf:Frm F W W') (hF:∀ x∈F,x=g∨x=b):AgX B g b W V:=fun k h1 h2 h3 h4=>by
 have hs:=hf.size
 rw[h k h1 h2 h3 (by omega)]
 exact hf.block k h4 (fun hx=>by rcases hF k hx with e | e <;> omega)
def OwR (B g b o:Nat) (r:RolD) (W:World):Prop:=
 ∃ sv cv tv,W.cell? ⟨g,o,none⟩=some (.string r.name)∧W.cell? ⟨g,o + 1,none⟩=some sv∧W.cell? ⟨g,o + 2,none⟩=some cv∧W.cell? ⟨g,o + 3,none⟩=some tv∧∀ V,AgX B g b W V→Rl3 V sv cv tv r
theorem RoAt.of {w:World} {v:Value} {l:List RolD} (h:Rls w v l):Arr 4 (RoAt w) w v l:=by
 obtain⟨ao,cap,e,hx⟩:=h
 refine⟨ao,cap,e,fun i x hi=>?_⟩
 obtain⟨b,o,e2,sv,cv,tv,h1⟩:=hx i x hi
 exact⟨b,o,e2,sv,cv,tv,h1⟩
structure OwI (w:World) (s:SesD) (b1 b2 g cap i:Nat) (W:World):Prop where
 fr:Frm [] w W
 l1:w.heap.size≤b1
 l2:w.heap.size≤b2
 lg:w.heap.size≤g
 n12:b1≠b2
 h1:W.heap[b1]?=some (.cells #[.string s.name,.slice (some ⟨g,0,none⟩) s.roles.length cap,.int .i64 s.cls,.int .i64 s.cap] 25 (0,0))
 h2:W.heap[b2]?=some (.cells #[.string { data:=#[] },.slice none 0 0,.int .i64 0,.int .i64 0] 25 (0,0))
 hg:∃ cur,W.heap[g]?=some (.cells cur 86 (0,0))
 done:∀ (j:Nat) r,j < i→s.roles[j]?=some r→OwR w.heap.size g b2 (j * 4) r W
 rest:∀ (j:Nat) r,i≤j→s.roles[j]?=some r→RoAt w W g (j * 4) r
theorem OwI.ne {w W:World} {s:SesD} {b1 b2 g cap i:Nat} (h:OwI w s b1 b2 g cap i W):b1≠g∧b2≠g:=by
 obtain⟨cur,hg⟩:=h.hg
 refine⟨fun e=>?_,fun e=>?_⟩
 ·subst e;rw[h.h1] at hg;cases hg
 ·subst e;rw[h.h2] at hg;cases hg
structure Cl3 (w0:World) (sv cv tv:Value) (r:RolD) (W:World):Prop where
 frm:Frm [] w0 W
 sts:∀ V,Agree w0.heap.size W V→Arr 3 StAt V sv r.sts
 ctrs:∀ V,Agree w0.heap.size W V→Arr 2 CtAt V cv r.ctrs
 steps:∀ V,Agree w0.heap.size W V→Arr 9 SpAt V tv r.steps
 cap:∀ ao n c,tv=.slice ao n c→n≤c
theorem OwI.step {w W W':World} {s:SesD} {b1 b2 g cap i:Nat} (h:OwI w s b1 b2 g cap i W) {r:RolD} (hr:s.roles[i]?=some r) {sv cv tv:Value} (hc:Cl3 W sv cv tv r W') :
  OwI w s b1 b2 g cap (i + 1) (((W'.setCell ⟨g,i * 4 + 1,none⟩ sv).setCell ⟨g,i * 4 + 2,none⟩ cv).setCell ⟨g,i * 4 + 3,none⟩ tv):=by
 obtain⟨n1,n2⟩:=h.ne
 obtain⟨cur,hg⟩:=h.hg
 have hg':=hc.frm.at hg (by simp)
 have e1:=block_setCell hg' (i * 4 + 1) sv
 have e2:=block_setCell e1 (i * 4 + 2) cv
 have e3:=block_setCell e2 (i * 4 + 3) tv
 have hF:Frm [g] W' (((W'.setCell ⟨g,i * 4 + 1,none⟩ sv).setCell ⟨g,i * 4 + 2,none⟩ cv).setCell ⟨g,i * 4 + 3,none⟩ tv):=(((Frm.refl [g] W').setCell _ (.inl (by simp)) _).setCell _ (.inl (by simp)) _).setCell _ (.inl (by simp)) _
 obtain⟨W2,hW2⟩:∃ W2,(((W'.setCell ⟨g,i * 4 + 1,none⟩ sv).setCell ⟨g,i * 4 + 2,none⟩ cv).setCell ⟨g,i * 4 + 3,none⟩ tv)=W2:=⟨_,rfl⟩
 rw[hW2] at e3 hF ⊢
 have hFW:Frm [g] W W2:=(hc.frm.mono (by simp)).trans hF
 have hsz:w.heap.size≤W.heap.size:=h.fr.size
 have hrr:=h.rest i r (Nat.le_refl _) hr
 obtain⟨sv0,cv0,tv0,q0,q1,q2,q3,-⟩:=hrr
 rw[cell_of hg] at q0 q1 q2 q3
 have hlt:i * 4 + 3 < cur.size:=(Array.getElem?_eq_some_iff.1 q3).1
 have hcell:∀ o,(o≠i * 4 + 1→o≠i * 4 + 2→o≠i * 4 + 3→W2.cell? ⟨g,o,none⟩=W.cell? ⟨g,o,none⟩):=fun o h1 h2 h3=>by
  rw[cell_of e3,cell_of hg,Array.getElem?_setIfInBounds_ne (by omega),Array.getElem?_setIfInBounds_ne (by omega),Array.getElem?_setIfInBounds_ne (by omega)]
 refine⟨h.fr.then hFW (by intro x hx;simp at hx;subst hx;exact .inr h.lg),h.l1,h.l2,h.lg,h.n12,hFW.at h.h1 (by simpa using n1),hFW.at h.h2 (by simpa using n2),⟨_,e3⟩,fun j a hj ha=>?_,fun j a hj ha=>?_⟩
 ·by_cases e:j=i
  ·subst e
   rw[hr] at ha;cases ha
   refine⟨sv,cv,tv,?_,?_,?_,?_,fun V hV=>?_⟩
   ·rw[hcell _ (by omega) (by omega) (by omega),cell_of hg];exact q0
   ·rw[cell_of e3,Array.getElem?_setIfInBounds_ne (by omega),Array.getElem?_setIfInBounds_ne (by omega),Array.getElem?_setIfInBounds_self_of_lt (by omega)]
   ·rw[cell_of e3,Array.getElem?_setIfInBounds_ne (by omega),Array.getElem?_setIfInBounds_self_of_lt (by simp;omega)]
   ·rw[cell_of e3,Array.getElem?_setIfInBounds_self_of_lt (by simp;omega)]
   ·have hgl:=lt_of_block hg
    have hbl:=lt_of_block h.h2
    have hV':Agree W.heap.size W' V:=fun k h1 h2=>(hV.old hF (by simp)) k (by omega) (by omega) (by omega) h2
    exact⟨hc.sts V hV',hc.ctrs V hV',hc.steps V hV',hc.cap⟩
  ·obtain⟨sv1,cv1,tv1,p0,p1,p2,p3,p4⟩:=h.done j a (by omega) ha
   refine⟨sv1,cv1,tv1,?_,?_,?_,?_,fun V hV=>?_⟩
   ·rw[hcell _ (by omega) (by omega) (by omega)];exact p0
   ·rw[hcell _ (by omega) (by omega) (by omega)];exact p1
   ·rw[hcell _ (by omega) (by omega) (by omega)];exact p2
   ·rw[hcell _ (by omega) (by omega) (by omega)];exact p3
   ·exact p4 V (hV.old hFW (by simp))
 ·obtain⟨sv1,cv1,tv1,p0,p1,p2,p3,p4⟩:=h.rest j a (by omega) ha
  refine⟨sv1,cv1,tv1,?_,?_,?_,?_,p4⟩
  ·rw[hcell _ (by omega) (by omega) (by omega)];exact p0
  ·rw[hcell _ (by omega) (by omega) (by omega)];exact p1
  ·rw[hcell _ (by omega) (by omega) (by omega)];exact p2
  ·rw[hcell _ (by omega) (by omega) (by omega)];exact p3
theorem results_c1 {fn:Func} {p:Tmp} {ty:TypeId} (h:fn.results=#[.cell p ty]) {tmps:Array Value} {w:World} {g:Nat} {A:Array Value} {t:TypeId} {d:TypeDesc} (hp:tmps.getD p undef=.pointer (some ⟨g,0,none⟩)) (hg:w.heap[g]?=some (.cells A t (0,0)))
  (hd:(match d with | .struct _ | .array _ _=>true | _=>false)=true) (hu:Tryz.prog.underlying ty=some d) (hi:(Tryz.prog.info? ty).map (·.size)=some A.size):(results fn tmps).run Tryz.prog w=.ok (.agg A) w:=by
 have hp':tmps[p]?.getD undef=.pointer (some ⟨g,0,none⟩):=by simpa using hp
 have hr:=run_loadVar_row w g t ty A (0,0) d hg hu (by cases d <;> first | rfl | (exact hd) | (cases hd)) hi
 simp[results,h,hp',asAddr,hr]
structure OwTo (w:World) (s:SesD) (v:Value) (w':World):Prop where
 shape:∃ g cap,v=.agg #[.string s.name,.slice (some ⟨g,0,none⟩) s.roles.length cap,.int .i64 s.cls,.int .i64 s.cap]
 frm:Frm [] w w'
 ses:∀ V,Agree w.heap.size w' V→SesV V v s
theorem OwI.frm {w W W':World} {s:SesD} {b1 b2 g cap i:Nat} (h:OwI w s b1 b2 g cap i W) (hf:Frm [] W W'):OwI w s b1 b2 g cap i W':=by
 obtain⟨cur,hg⟩:=h.hg
 refine⟨h.fr.trans hf,h.l1,h.l2,h.lg,h.n12,hf.at h.h1 (by simp),hf.at h.h2 (by simp),⟨cur,hf.at hg (by simp)⟩,fun j r hj hr=>?_,fun j r hj hr=>?_⟩
 ·obtain⟨sv1,cv1,tv1,p0,p1,p2,p3,p4⟩:=h.done j r hj hr
  exact⟨sv1,cv1,tv1,hf.keep p0,hf.keep p1,hf.keep p2,hf.keep p3,fun V hV=>p4 V (hV.old hf (by simp))⟩
 ·obtain⟨sv1,cv1,tv1,p0,p1,p2,p3,p4⟩:=h.rest j r hj hr
  exact⟨sv1,cv1,tv1,hf.keep p0,hf.keep p1,hf.keep p2,hf.keep p3,p4⟩
theorem OwI.ses {w W w2 V:World} {s:SesD} {b1 b2 g cap:Nat} (h:OwI w s b1 b2 g cap s.roles.length W) (hf:Frm [b2] W w2) (hV:Agree w.heap.size w2 V):SesV V (.agg #[.string s.name,.slice (some ⟨g,0,none⟩) s.roles.length cap,.int .i64 s.cls,.int .i64 s.cap]) s:=by
 refine⟨_,rfl,_,cap,rfl,fun i r hr=>⟨g,0,rfl,?_⟩⟩
 obtain⟨cur,hg⟩:=h.hg
 have hs:=hf.size
 have hgl:=lt_of_block hg
 have e:V.heap[g]?=W.heap[g]?:=(hV g h.lg (by omega)).trans (hf.block g hgl (by simpa using h.ne.2.symm))
 obtain⟨sv1,cv1,tv1,p0,p1,p2,p3,p4⟩:=h.done i r (lt_of_some hr) hr
 rw[Nat.zero_add]
 exact⟨sv1,cv1,tv1,cell_eq p0 e,cell_eq p1 e,cell_eq p2 e,cell_eq p3 e,p4 V fun k h1 _ h3 h4=>(hV k h1 (by omega)).trans (hf.block k h4 (by simpa using h3))⟩
theorem Fr.cap {α:Type} {k:Nat} {e:TypeId} {At:World→Nat→Nat→α→Prop} {w w':World} {xs:List α} {v:Value} (h:Fr k e At w xs v w'):∀ ao n c,v=.slice ao n c→n≤c:=by
 rintro ao n c rfl
 rcases h.own with rfl | ⟨news,ho⟩
 ·obtain⟨a,c',e⟩:=h.arr.shape
  cases e;exact Nat.zero_le _
 ·rcases ho.2 with ⟨hv,hn⟩ | ⟨g,c',cur,hv,-,-,h1,-⟩
  ·cases hv;omega
  ·cases hv;exact h1
theorem OwI.start {w w0 w1:World} {s:SesD} {b1 b2 c0:Nat} {ao:Option Addr} {v:Value} (hf:Frm [] w w0) (h1:w0.heap[b1]?=some (.cells #[.string s.name,.slice ao s.roles.length c0,.int .i64 s.cls,.int .i64 s.cap] 25 (0,0)))
  (h2:w0.heap[b2]?=some (.cells #[.string { data:=#[] },.slice none 0 0,.int .i64 0,.int .i64 0] 25 (0,0))) (l1:w.heap.size≤b1) (l2:w.heap.size≤b2) (hne:b1≠b2) (hr:Fr 4 86 (RoAt w) w0 s.roles v w1) (hn:1≤s.roles.length) :
  ∃ g cap,v=.slice (some ⟨g,0,none⟩) s.roles.length cap∧OwI w s b1 b2 g cap 0 (w1.setCell ⟨b1,1,none⟩ v):=by
 rcases hr.own with e | ⟨news,ho⟩
 ·rw[e] at hn;simp at hn
 obtain⟨g,cap,cur,rfl,hg,hc⟩:=own_block ho (by omega)
 have g1:=hr.frm.at h1 (by simp)
 have g2:=hr.frm.at h2 (by simp)
 have hs:=hf.size
 have n1:g≠b1:=fun e=>by have:=lt_of_block h1;omega
 have hF:Frm [b1] w1 (w1.setCell ⟨b1,1,none⟩ (.slice (some ⟨g,0,none⟩) s.roles.length cap)):=(Frm.refl _ _).setCell _ (.inl (by simp)) _
 refine⟨g,cap,rfl,(hf.trans hr.frm).then hF (by intro x hx;simp at hx;subst hx;exact .inr l1),l1,l2,by omega,hne,(block_setCell g1 1 _).trans rfl,hF.at g2 (by simpa using hne.symm),⟨cur,hF.at hc (by simpa using n1)⟩,fun j r hj=>by omega,fun j r _ hj=>?_⟩
 obtain⟨b,o,e,a0⟩:=hr.arr.get hj
 cases e
 obtain⟨sv,cv,tv,p0,p1,p2,p3,p4⟩:=a0
 rw[Nat.zero_add] at p0 p1 p2 p3
 have hng:g∉[b1]:=by simpa using n1
 exact⟨sv,cv,tv,hF.cellAt p0 hng,hF.cellAt p1 hng,hF.cellAt p2 hng,hF.cellAt p3 hng,p4⟩
set_option maxHeartbeats 4000000 in
set_option maxRecDepth 100000 in
theorem pOwn_any (s:SesD) (v:Value) (w:World) (h:SesV w v s) (h1:1≤s.roles.length) (h4:s.roles.length≤4) (hb:∀ r∈s.roles,r.sts.length≤1000∧r.ctrs.length≤1000∧r.steps.length≤1000):Calls Tryz.prog 81 #[v] w (RetV (OwTo w s)):=by
 obtain⟨rv,rfl,hr⟩:=h
 obtain⟨ao,cap,rfl⟩:=hr.shape
 obtain⟨n,hn⟩:∃ n,s.roles.length=n:=⟨_,rfl⟩
 have HR:=Lib.hid hr
 have HF0:Hid (Frm [] w ((w.alloc (.cells #[.string s.name,.slice ao n cap,.int .i64 s.cls,.int .i64 s.cap] 25)).alloc (.cells #[.string { data:=#[] },.slice none 0 0,.int .i64 0,.int .i64 0] 25))):=Lib.hid (((Frm.refl [] w).alloc _).alloc _)
 have CR:=Lib.hid (clRoleAt_any w (.slice ao s.roles.length cap) s.roles _ ((RoAt.of hr).frm fun _ _ _ h=>h.frm HF0.out) (by omega))
 have HB:=Lib.hid hb
 rw[hn] at CR HR
 rw[hn] at h1 h4
 have HN:=Lib.hid hn
 have B1:Hid (((w.alloc (.cells #[.string s.name,.slice ao n cap,.int .i64 s.cls,.int .i64 s.cap] 25)).alloc (.cells #[.string { data:=#[] },.slice none 0 0,.int .i64 0,.int .i64 0] 25)).heap[w.heap.size]?=some (.cells #[.string s.name,.slice ao n cap,.int .i64 s.cls,.int .i64 s.cap] 25 (0,0))):=Lib.hid (alloc_at (heap_alloc_new _ _))
 have B2:Hid (((w.alloc (.cells #[.string s.name,.slice ao n cap,.int .i64 s.cls,.int .i64 s.cap] 25)).alloc (.cells #[.string { data:=#[] },.slice none 0 0,.int .i64 0,.int .i64 0] 25)).heap[w.heap.size + 1]?=some (.cells #[.string { data:=#[] },.slice none 0 0,.int .i64 0,.int .i64 0] 25 (0,0))):=Lib.hid (alloc_top (by simp))
 rw[hn]
 clear hr hn hb
 go_enter Tryz.func81,Tryz.ntmps81
 go_wp2_with (first
  | (go_at_call 137;go_must (refine CR.out.mono ?_;rintro e w1 ⟨u,rfl,hr⟩;have hi:=OwI.start (b1:=w.heap.size) (b2:=w.heap.size + 1) (c0:=cap) (ao:=ao) HF0.out (by rw[HN.out];exact B1.out) B2.out (Nat.le_refl _) (by omega) (by omega) hr (by rw[HN.out];exact h1);rw[HN.out] at hi;obtain⟨g,c1,rfl,hoi⟩:=hi;have HI:=Lib.hid hoi;have b1:=hr.frm.at B1.out (by simp);have d1:=cell_of b1 1;have f1:=free_of b1 1;have e1:=cell_of hoi.h1 1;rw[HN.out] at e1;clear hr b1 hoi)))
 go_loopw [12] (fun s12 wr=>∃ i:Nat,s12=.int .i64 i∧i≤n∧OwI w s w.heap.size (w.heap.size + 1) g c1 i wr) (fun s12 _=>n - (intOf s12).toNat)
 case atStart=>exact⟨0,rfl,Nat.zero_le _,HI.out⟩
 case round =>
  obtain⟨i,rfl,hi,ho⟩:=hrel
  have HO:=Lib.hid ho
  clear ho d1 f1 e1
  by_cases hlt:i < n
  ·have hlt':(i:Int) < (n:Int):=by omega
   obtain⟨r,hr⟩:∃ r,s.roles[i]?=some r:=⟨_,List.getElem?_eq_getElem (by rw[HN.out];exact hlt)⟩
   obtain⟨sv,cv,tv,p0,p1,p2,p3,p4⟩:=HO.out.rest i r (Nat.le_refl _) hr
   have HRR:=Lib.hid hr;have HP:=Lib.hid p4
   have c1':=cell_of HO.out.h1 1
   rw[HN.out] at c1'
   have hgl:=cell_lt p0
   have hbr:=HB.out r (List.mem_of_getElem? hr)
   obtain⟨aS,cS,rfl⟩:=p4.sts.shape
   obtain⟨aC,cC,rfl⟩:=p4.ctrs.shape
   obtain⟨aT,cT,rfl⟩:=p4.steps.shape
   have CS:Hid (∀ V,Frm [] w V→Calls Tryz.prog 138 #[.slice aS r.sts.length cS] V (RetV (Fr 3 180 StAt V r.sts))):=Lib.hid fun V hV=>clState_any _ r.sts V ((p4.frm hV).sts) (by omega)
   have CC:Hid (∀ V,Frm [] w V→Calls Tryz.prog 139 #[.slice aC r.ctrs.length cC] V (RetV (Fr 2 205 CtAt V r.ctrs))):=Lib.hid fun V hV=>clCtr_any _ r.ctrs V ((p4.frm hV).ctrs) (by omega)
   have CT:Hid (∀ V,Frm [] w V→Calls Tryz.prog 140 #[.slice aT r.steps.length cT] V (RetV (Fr 9 90 SpAt V r.steps))):=Lib.hid fun V hV=>clStep_any _ r.steps V ((p4.frm hV).steps) (by omega)
   clear hr p4 hbr
   obtain⟨nS,hnS⟩:∃ m,r.sts.length=m:=⟨_,rfl⟩
   obtain⟨nC,hnC⟩:∃ m,r.ctrs.length=m:=⟨_,rfl⟩
   obtain⟨nT,hnT⟩:∃ m,r.steps.length=m:=⟨_,rfl⟩
   have HLS:=Lib.hid hnS;have HLC:=Lib.hid hnC;have HLT:=Lib.hid hnT
   rw[hnS] at CS p1
   rw[hnC] at CC p2
   rw[hnT] at CT p3
   clear hnS hnC hnT
   go_upto_region 5 with fail
   obtain⟨W4,hW4⟩:∃ W4,wr.alloc (.cells #[.string r.name,.slice aS nS cS,.slice aC nC cC,.slice aT nT cT] 86)=W4:=⟨_,rfl⟩
   have hf4:Frm [] wr W4:=by rw[← hW4];exact(Frm.refl _ _).alloc _
   have hq4:W4.heap[wr.heap.size]?=some (.cells #[.string r.name,.slice aS nS cS,.slice aC nC cC,.slice aT nT cT] 86 (0,0)):=by rw[← hW4];exact heap_alloc_new _ _
   rw[hW4]
   have HF4:=Lib.hid hf4
   have HO4:=Lib.hid (HO.out.frm hf4)
   have HS:Hid (∀ V,Frm [g] W4 V→V.cell? ⟨w.heap.size,1,none⟩=some (.slice (some ⟨g,0,none⟩) n c1)∧V.cell? ⟨wr.heap.size,1,none⟩=some (.slice aS nS cS)∧V.cell? ⟨wr.heap.size,2,none⟩=some (.slice aC nC cC)∧V.cell? ⟨wr.heap.size,3,none⟩=some (.slice aT nT cT)):=Lib.hid fun V hV=>by
    have n1:=HO4.out.ne.1
    have h1:=hV.at HO4.out.h1 (by simpa using n1)
    rw[HN.out] at h1
    have h2:=hV.at hq4 (by simp;omega)
    exact⟨cell_of h1 1,cell_of h2 1,cell_of h2 2,cell_of h2 3⟩
   clear hf4 hq4 hW4 p0 p1 p2 p3 c1'
   go_region_held3 (fun V=>V.cell? ⟨w.heap.size,1,none⟩=some (.slice (some ⟨g,0,none⟩) n c1)∧V.cell? ⟨wr.heap.size,1,none⟩=some (.slice aS nS cS)∧V.cell? ⟨wr.heap.size,2,none⟩=some (.slice aC nC cC)∧V.cell? ⟨wr.heap.size,3,none⟩=some (.slice aT nT cT))
    (first
     | exact HS.out _ ((Frm.refl [g] W4).drew)
     | exact HS.out _ F5.out
     | exact HS.out _ F6.out
     | exact HS.out _ F7.out
     | exact HS.out _ (F7.out.setCell _ (.inl (by simp)) _)
     | exact HS.out _ ((F7.out.setCell _ (.inl (by simp)) _).setCell _ (.inl (by simp)) _)
     | exact HS.out _ (((F7.out.setCell _ (.inl (by simp)) _).setCell _ (.inl (by simp)) _).setCell _ (.inl (by simp)) _))
    (first
     | (go_at_call 138;go_must (refine(CS.out _ (HO4.out.fr.drew)).mono ?_;rintro e w5 ⟨u,rfl,hr⟩;have F5:Hid (Frm [g] W4 w5):=Lib.hid (((Frm.refl [g] W4).drew).trans (hr.frm.mono (by simp)));have G5:Hid (Frm [] w w5):=Lib.hid (HO4.out.fr.drew.trans hr.frm);have K5:Hid (Frm [] W4 w5):=Lib.hid ((Frm.refl [] W4).drew.trans hr.frm);have hst:=hr.stb StAt.leaf;rw[HLS.out] at hst;obtain⟨a5,k5,rfl,hst⟩:=hst;have HT5:=Lib.hid hst;clear hst hr))
     | (go_at_call 139;go_must (refine(CC.out _ G5.out).mono ?_;rintro e w6 ⟨u,rfl,hr⟩;have F6:Hid (Frm [g] W4 w6):=Lib.hid (F5.out.trans (hr.frm.mono (by simp)));have G6:Hid (Frm [] w w6):=Lib.hid (G5.out.trans hr.frm);have E6:=Lib.hid hr.frm;have K6:Hid (Frm [] W4 w6):=Lib.hid (K5.out.trans hr.frm);have hst:=hr.stb CtAt.leaf;rw[HLC.out] at hst;obtain⟨a6,k6,rfl,hst⟩:=hst;have HT6:=Lib.hid hst;clear hst hr))
     | (go_at_call 140;go_must (refine(CT.out _ G6.out).mono ?_;rintro e w7 ⟨u,rfl,hr⟩;have F7:Hid (Frm [g] W4 w7):=Lib.hid (F6.out.trans (hr.frm.mono (by simp)));have E7:=Lib.hid hr.frm;have K7:Hid (Frm [] W4 w7):=Lib.hid (K6.out.trans hr.frm);have h7:=HO4.out.frm K7.out;obtain⟨v1,v2,v3,-,z1,z2,z3,-⟩:=h7.rest i r (Nat.le_refl _) HRR.out;obtain⟨cur,hgc⟩:=h7.hg;have y1:=free_of hgc (i * 4 + 1);have y2:=free_of hgc (i * 4 + 2);have y3:=free_of hgc (i * 4 + 3);clear hgc h7;have hcp:=hr.cap;have HCP:=Lib.hid hcp;clear hcp;have hst:=hr.stb SpAt.leaf;rw[HLT.out] at hst;obtain⟨a7,k7,rfl,hst⟩:=hst;have HT7:=Lib.hid hst;clear hst hr)))
   have HC3:Hid (Cl3 W4 (.slice a5 nS k5) (.slice a6 nC k6) (.slice a7 nT k7) r w7):=Lib.hid (by
    have s5:=K5.out.size;have s6:=K6.out.size;have e6:=E6.out.size
    have e56:=E6.out.trans E7.out
    refine⟨K7.out,fun V hV=>?_,fun V hV=>?_,fun V hV=>?_,HCP.out⟩
    ·have:=HT5.out V V (hV.old e56 (by simp)) (hV.old e56 (by simp))
     rw[← HLS.out] at this ⊢;exact this
    ·have h8:=(hV.old E7.out (by simp)).low s5
     have:=HT6.out V V h8 h8
     rw[← HLC.out] at this ⊢;exact this
    ·have h8:=hV.low s6
     have:=HT7.out V V h8 h8
     rw[← HLT.out] at this ⊢;exact this)
   go_wp2
   exact⟨⟨i + 1,congrArg (Value.int .i64) (by omega),hlt,HO4.out.step HRR.out HC3.out⟩,by simp[intOf];omega⟩
  ·obtain rfl:i=n:=by omega
   have hge:¬ (i:Int) < (i:Int):=by omega
   have hc1:=HO.out.h1
   rw[HN.out] at hc1
   have HC2:=Lib.hid HO.out.h2
   have x0:=cell_of hc1 0
   have x1:=cell_of hc1 1
   have x2:=cell_of hc1 2
   have x3:=cell_of hc1 3
   clear hc1
   go_wp2_with (first
    | (refine wpList_store_row rfl 25 _ _ rfl _ _ _ 25 rfl rfl HC2.out rfl (by kernel_rfl) (by simp[Value.oneCell']) ?_;intro w2 hb2 hf2))
   refine bodyPost_ret (results_c1 (d:=_) (Tryz.results81) rfl hb2 rfl Tryz.underlying25 (by kernel_rfl)) rfl ⟨_,rfl,?_⟩
   have hoi:=HO.out
   rw[← HN.out] at hoi
   exact⟨⟨g,c1,by rw[HN.out]⟩,hoi.fr.then hf2 (by intro x hx;simp at hx;subst hx;right;omega),fun V hV=>by have:=hoi.ses hf2 hV;rwa [HN.out] at this⟩
end Go.Proofs.YtemjlpahohmajaaGreat
namespace Go.Proofs.YtemjlpahohmajaaGreat
open Go.RowKit Go.BigFrame
def Kp (I:Nat→Prop) (T:List TypeId) (W V:World):Prop:=∀ k c t,I k→W.heap[k]?=some (.cells c t (0,0))→t∉T→V.heap[k]?=some (.cells c t (0,0))
section
variable {I J:Nat→Prop} {T:List TypeId} {W V:World}
theorem Kp.of_kt (h:Kt T W V):Kp I T W V:=fun _ _ _ _ hk ht=>h.cells hk ht
theorem Kp.of_agree {B:Nat} (h:Agree B W V) (hI:∀ k,I k→B≤k):Kp I [] W V:=fun k _ _ hi hk _=>(h k (hI k hi) (lt_of_block hk)).trans hk
theorem Kp.of_frm {F:List Nat} (h:Frm F W V) (hI:∀ k,I k→k∉F):Kp I [] W V:=fun k _ _ hi hk _=>h.at hk (hI k hi)
theorem Kp.of_frm0 (h:Frm [] W V):Kp I [] W V:=Kp.of_frm h (by simp)
theorem Kp.row {base e size n:Nat} {v:Value} {xs:List Value} (h:Kp I T W V) (ho:W.ownsRow base e size v n xs) (hi:∀ k,v.ownBlock=some k→I k) (he:e∉T):V.ownsRow base e size v n xs:=by
 obtain⟨h1,h2⟩:=ho
 refine⟨h1,?_⟩
 rcases h2 with h2 | ⟨g,cap,cur,hv,hg,hh,r⟩
 ·exact .inl h2
 ·exact .inr ⟨g,cap,cur,hv,hg,h g _ _ (hi g (by rw[hv];rfl)) hh he,r⟩
def ChO (I:Nat→Prop) (W:World) (cb:Nat) (cls cap:Int) (L:List ByteArray):Prop:=∃ F,Chn W cb cls cap L F∧∀ x∈F,I x
theorem ChO.kp {cb:Nat} {cls cap:Int} {L:List ByteArray} (h:ChO I W cb cls cap L) (hk:Kp I T W V) (h1:213∉T) (h2:9∉T):ChO I V cb cls cap L:=by
 obtain⟨F,⟨sv,g1,g2,g3,rfl⟩,hI⟩:=h
 exact⟨_,⟨sv,hk cb _ _ (hI cb (by simp)) g1 h1,hk.row g2 (fun k hk=>hI k (by simp[hk])) h2,g3,rfl⟩,hI⟩
abbrev pv (cb:Nat):Value:=.pointer (some ⟨cb,0,none⟩)
def RowC (I:Nat→Prop) (W:World) (cls cap:Int) (cells:List Value) (Ls:List (List ByteArray)):Prop:=cells.length=Ls.length∧∀ (k:Nat) L,Ls[k]?=some L→∃ cb,cells[k]?=some (pv cb)∧ChO I W cb cls cap L
def RowO (I:Nat→Prop) (W:World) (cls cap:Int) (r:Value) (Ls:List (List ByteArray)):Prop:=∃ base cells,W.ownsRow base 149 1 r Ls.length cells∧(∀ k,r.ownBlock=some k→I k)∧RowC I W cls cap cells Ls
theorem RowC.kp {cls cap:Int} {cells:List Value} {Ls:List (List ByteArray)} (h:RowC I W cls cap cells Ls) (hk:Kp I T W V) (h1:213∉T) (h2:9∉T):RowC I V cls cap cells Ls:=by
 refine⟨h.1,fun k L hL=>?_⟩
 obtain⟨cb,g1,g2⟩:=h.2 k L hL
 exact⟨cb,g1,g2.kp hk h1 h2⟩
theorem snoc_at {α:Type} {l:List α} {x y:α} {k:Nat} (h:(l ++ [x])[k]?=some y):l[k]?=some y∨(k=l.length∧y=x):=by
 by_cases hk:k < l.length
 ·rw[List.getElem?_append_left hk] at h;exact .inl h
 ·rw[List.getElem?_append_right (by omega)] at h
  have hl:=lt_of_some h
  simp at hl
  have e:k - l.length=0:=by omega
  rw[e] at h
  simp at h
  exact .inr ⟨by omega,h.symm⟩
theorem RowC.snoc {cls cap:Int} {cells:List Value} {Ls:List (List ByteArray)} {cb:Nat} {L:List ByteArray} (h:RowC I W cls cap cells Ls) (hc:ChO I W cb cls cap L):RowC I W cls cap (cells ++ [pv cb]) (Ls ++ [L]):=by
 refine⟨by simp[h.1],fun k L' hL=>?_⟩
 rcases snoc_at hL with hL | ⟨rfl,rfl⟩
 ·obtain⟨cb',g1,g2⟩:=h.2 k L' hL
  exact⟨cb',by rw[List.getElem?_append_left (lt_of_some g1)];exact g1,g2⟩
 ·exact⟨cb,by rw[← h.1];simp,hc⟩
theorem RowC.nil {cls cap:Int}:RowC I W cls cap [] []:=⟨rfl,fun k L h=>by simp at h⟩
theorem RowO.kp {cls cap:Int} {r:Value} {Ls:List (List ByteArray)} (h:RowO I W cls cap r Ls) (hk:Kp I T W V) (h1:213∉T) (h2:9∉T) (h3:149∉T):RowO I V cls cap r Ls:=by
 obtain⟨base,cells,g1,g2,g3⟩:=h
 exact⟨base,cells,hk.row g1 g2 h3,g2,g3.kp hk h1 h2⟩
theorem own_cell {base e n:Nat} {v:Value} {xs:List Value} {size:Nat} (h:W.ownsRow base e size v n xs) {j:Nat} {u:Value} (hu:xs[j]?=some u):∃ g cap,v=.slice (some ⟨g,0,none⟩) n cap∧W.cell? ⟨g,j,none⟩=some u:=by
 obtain⟨h0,h2⟩:=h
 have hl:=lt_of_some hu
 rcases h2 with ⟨-,h2⟩ | ⟨g,cap,cur,rfl,hg,hh,-,-,-,ht⟩
 ·rw[h0,h2] at hl;omega
 ·refine⟨g,cap,rfl,?_⟩
  rw[cell_of hh,← Array.getElem?_toList]
  rw[← List.getElem?_take_of_lt (j:=n * size) (by rw[← h0];exact hl),ht]
  exact hu
theorem RowO.rowV {cls cap:Int} {r:Value} {Ls:List (List ByteArray)} (h:RowO I W cls cap r Ls):RowV cls cap W r Ls:=by
 obtain⟨base,cells,g1,g2,g3⟩:=h
 obtain⟨ao,cp,rfl⟩:=own_shape g1
 refine⟨ao,cp,rfl,fun k L hL=>?_⟩
 obtain⟨cb,k1,F,k2,-⟩:=g3.2 k L hL
 obtain⟨g,c,e,hc⟩:=own_cell g1 k1
 cases e
 exact⟨g,0,rfl,cb,F,by rw[Nat.zero_add,Nat.mul_one];exact hc,k2⟩
def WayC (I:Nat→Prop) (W:World) (cls cap:Int) (cells:List Value) (Ws:List (List (List ByteArray))):Prop:=cells.length=Ws.length∧∀ (k:Nat) R,Ws[k]?=some R→∃ r,cells[k]?=some r∧RowO I W cls cap r R
def WaysO (I:Nat→Prop) (W:World) (cls cap:Int) (v:Value) (Ws:List (List (List ByteArray))):Prop:=∃ base cells,W.ownsRow base 148 1 v Ws.length cells∧(∀ k,v.ownBlock=some k→I k)∧WayC I W cls cap cells Ws
theorem WayC.kp {cls cap:Int} {cells:List Value} {Ws:List (List (List ByteArray))} (h:WayC I W cls cap cells Ws) (hk:Kp I T W V) (h1:213∉T) (h2:9∉T) (h3:149∉T):WayC I V cls cap cells Ws:=by
 refine⟨h.1,fun k L hL=>?_⟩
 obtain⟨cb,g1,g2⟩:=h.2 k L hL
 exact⟨cb,g1,g2.kp hk h1 h2 h3⟩
theorem WayC.snoc {cls cap:Int} {cells:List Value} {Ws:List (List (List ByteArray))} {r:Value} {R:List (List ByteArray)} (h:WayC I W cls cap cells Ws) (hc:RowO I W cls cap r R):WayC I W cls cap (cells ++ [r]) (Ws ++ [R]):=by
 refine⟨by simp[h.1],fun k L' hL=>?_⟩
 rcases snoc_at hL with hL | ⟨rfl,rfl⟩
 ·obtain⟨cb',g1,g2⟩:=h.2 k L' hL
  exact⟨cb',by rw[List.getElem?_append_left (lt_of_some g1)];exact g1,g2⟩
 ·exact⟨r,by rw[← h.1];simp,hc⟩
theorem WayC.nil {cls cap:Int}:WayC I W cls cap [] []:=⟨rfl,fun k L h=>by simp at h⟩
theorem WaysO.kp {cls cap:Int} {r:Value} {Ls:List (List (List ByteArray))} (h:WaysO I W cls cap r Ls) (hk:Kp I T W V) (h1:213∉T) (h2:9∉T) (h3:149∉T) (h4:148∉T):WaysO I V cls cap r Ls:=by
 obtain⟨base,cells,g1,g2,g3⟩:=h
 exact⟨base,cells,hk.row g1 g2 h4,g2,g3.kp hk h1 h2 h3⟩
theorem WaysO.arr {cls cap:Int} {v:Value} {Ws:List (List (List ByteArray))} (h:WaysO I W cls cap v Ws):Arr 1 (RwAt cls cap) W v Ws:=by
 obtain⟨base,cells,g1,g2,g3⟩:=h
 obtain⟨ao,cp,rfl⟩:=own_shape g1
 refine⟨ao,cp,rfl,fun k L hL=>?_⟩
 obtain⟨r,k1,k2⟩:=g3.2 k L hL
 obtain⟨g,c,e,hc⟩:=own_cell g1 k1
 cases e
 exact⟨g,0,rfl,r,by rw[Nat.zero_add,Nat.mul_one];exact hc,k2.rowV⟩
def BkO (I:Nat→Prop) (W:World) (bb:Nat) (l:List (CtrD × Int)):Prop:=∃ g,BnkO W bb g l∧I bb∧I g
theorem BnkO.kp {bb g:Nat} {l:List (CtrD × Int)} (h:BnkO W bb g l) (hk:Kp I T W V) (i1:I bb) (i2:I g) (h1:209∉T) (h2:207∉T):BnkO V bb g l:=by
 obtain⟨⟨lv,k1,k2⟩,h3⟩:=h
 rcases h3 with rfl | ⟨cap,cur,k3,k4⟩
 ·obtain⟨ao,c,rfl,-⟩:=k2
  exact⟨⟨_,hk _ _ _ i1 k1 h1,Arr.nil _ _ _⟩,.inl rfl⟩
 ·rw[k1] at k3
  cases k3
  have k5:=hk _ _ _ i2 k4 h2
  have e5:V.heap[g]?=W.heap[g]?:=by rw[k4,k5]
  refine⟨⟨_,hk _ _ _ i1 k1 h1,?_⟩,.inr ⟨cap,cur,hk _ _ _ i1 k1 h1,k5⟩⟩
  obtain⟨ao,c,e,hx⟩:=k2
  refine⟨ao,c,e,fun i x hi=>?_⟩
  obtain⟨b,o,e2,a0,a1,a2⟩:=hx i x hi
  rw[e2] at e
  cases e
  exact⟨g,0,e2,cell_eq a0 e5,cell_eq a1 e5,cell_eq a2 e5⟩
theorem BkO.kp {bb:Nat} {l:List (CtrD × Int)} (h:BkO I W bb l) (hk:Kp I T W V) (h1:209∉T) (h2:207∉T):BkO I V bb l:=by
 obtain⟨g,g1,g2,g3⟩:=h
 exact⟨g,g1.kp hk g2 g3 h1 h2,g2,g3⟩
theorem BkO.bnk {bb:Nat} {l:List (CtrD × Int)} (h:BkO I W bb l):Bnk W bb l:=by
 obtain⟨g,g1,g2,g3⟩:=h
 exact g1.bnk
theorem GO.bko {w:World} {bb:Nat} {l:List (CtrD × Int)} (h:GO 209 207 3 w bb 1 #[.bool true,undef] l.length (cnC l) W) (hI:∀ k,w.heap.size≤k→I k):BkO I W bb l:=by
 have hb:=GO.bnk h
 obtain⟨ao,cap,h1,h2⟩:=h.bx
 by_cases hl:l=[]
 ·exact⟨bb,⟨hb,.inl hl⟩,hI _ h.new,hI _ h.new⟩
 ·obtain⟨g,cp,cur,e,hg,hh⟩:=own_block h2 (by simpa using hl)
  cases e
  exact⟨g,⟨hb,.inr ⟨_,cur,h1,hh⟩⟩,hI _ h.new,hI _ hg⟩
def ActC (I:Nat→Prop) (W:World) (cells:List Value) (As:List (Int × List (CtrD × Int))):Prop:=cells.length=As.length * 2∧∀ (i:Nat) a,As[i]?=some a→∃ bb,cells[i * 2]?=some (.int .i64 a.1)∧cells[i * 2 + 1]?=some (pv bb)∧BkO I W bb a.2
def ActsO (I:Nat→Prop) (W:World) (v:Value) (As:List (Int × List (CtrD × Int))):Prop:=∃ base cells,W.ownsRow base 143 2 v As.length cells∧(∀ k,v.ownBlock=some k→I k)∧ActC I W cells As
theorem ActC.kp {cells:List Value} {As:List (Int × List (CtrD × Int))} (h:ActC I W cells As) (hk:Kp I T W V) (h1:209∉T) (h2:207∉T):ActC I V cells As:=by
 refine⟨h.1,fun i a ha=>?_⟩
 obtain⟨bb,g1,g2,g3⟩:=h.2 i a ha
 exact⟨bb,g1,g2,g3.kp hk h1 h2⟩
theorem ActC.snoc {cells:List Value} {As:List (Int × List (CtrD × Int))} {p:Int} {bb:Nat} {l:List (CtrD × Int)} (h:ActC I W cells As) (hb:BkO I W bb l):ActC I W (cells ++ [.int .i64 p,pv bb]) (As ++ [(p,l)]):=by
 refine⟨by simp[h.1];omega,fun i a ha=>?_⟩
 rcases snoc_at ha with ha | ⟨rfl,rfl⟩
 ·obtain⟨bb',g1,g2,g3⟩:=h.2 i a ha
  exact⟨bb',by rw[List.getElem?_append_left (lt_of_some g1)];exact g1,by rw[List.getElem?_append_left (lt_of_some g2)];exact g2,g3⟩
 ·refine⟨bb,?_,?_,hb⟩
  ·rw[List.getElem?_append_right (by rw[h.1];omega),h.1];simp
  ·rw[List.getElem?_append_right (by rw[h.1];omega),h.1,show As.length * 2 + 1 - As.length * 2=1 by omega];simp
theorem ActC.nil:ActC I W [] []:=⟨rfl,fun k L h=>by simp at h⟩
theorem ActsO.kp {v:Value} {As:List (Int × List (CtrD × Int))} (h:ActsO I W v As) (hk:Kp I T W V) (h1:209∉T) (h2:207∉T) (h3:143∉T):ActsO I V v As:=by
 obtain⟨base,cells,g1,g2,g3⟩:=h
 exact⟨base,cells,hk.row g1 g2 h3,g2,g3.kp hk h1 h2⟩
theorem ActsO.arr {v:Value} {As:List (Int × List (CtrD × Int))} (h:ActsO I W v As):Arr 2 AcAt W v As:=by
 obtain⟨base,cells,g1,g2,g3⟩:=h
 obtain⟨ao,cp,rfl⟩:=own_shape g1
 refine⟨ao,cp,rfl,fun i a ha=>?_⟩
 obtain⟨bb,k1,k2,k3⟩:=g3.2 i a ha
 obtain⟨g,c,e,hc⟩:=own_cell g1 k1
 cases e
 obtain⟨g',c',e',hc'⟩:=own_cell g1 k2
 cases e'
 exact⟨g,0,rfl,bb,by rw[Nat.zero_add];exact hc,by rw[Nat.zero_add];exact hc',k3.bnk⟩
structure StO (I:Nat→Prop) (W:World) (s:SesD) (yb sb:Nat) (x:PS):Prop where
 out:∃ av wv,W.heap[sb]?=some (.cells #[pv yb,av,wv] 140 (0,0))∧I sb∧ActsO I W av (actsP s x)∧WaysO I W s.cls s.cap wv x.ways
 ok:PSok s x
theorem StO.str {s:SesD} {yb sb:Nat} {x:PS} (h:StO I W s yb sb x):StR W s yb sb x:=by
 obtain⟨av,wv,h1,h2,h3,h4⟩:=h.out
 exact⟨⟨av,wv,h1,h3.arr,h4.arr⟩,h.ok⟩
theorem StO.kp {s:SesD} {yb sb:Nat} {x:PS} (h:StO I W s yb sb x) (hk:Kp I [] W V):StO I V s yb sb x:=by
 obtain⟨av,wv,h1,h2,h3,h4⟩:=h.out
 exact⟨⟨av,wv,hk sb _ _ h2 h1 (by simp),h2,h3.kp hk (by simp) (by simp) (by simp),h4.kp hk (by simp) (by simp) (by simp) (by simp)⟩,h.ok⟩
end
end Go.Proofs.YtemjlpahohmajaaGreat
namespace Go.Proofs.YtemjlpahohmajaaGreat
open Go
def tkV (b:List UInt8) (n:Nat):List UInt8:=if b.length < n then List.replicate n 0 else b.take n
section
variable {s:SesD} {key:List UInt8} {i:Nat} {ps:List Nat} {vs:List (List Int)} {b b':List UInt8} {bad bad':Bool} {vals:List Int}
abbrev hd1 (b:List UInt8):UInt8:=(tkV b 1).getD 0 0
end
end Go.Proofs.YtemjlpahohmajaaGreat
namespace Go.Proofs.YtemjlpahohmajaaGreat
open Go.RowKit
def updD (D:Nat→Bool) (i:Nat):Nat→Bool:=fun j=>if j=i then true else D j
def updV (f:Nat→Value) (i:Nat) (v:Value):Nat→Value:=fun j=>if j=i then v else f j
section
variable {P:Program} {ops:Array Oper} {Q:Exit→Act→World→Prop}
def ClosedD (ops:Array Oper) (D:Nat→Bool):Prop:=∀ (k:Nat) o,ops[k]?=some o→D k=true→∀ e∈o.after,Region.binds .any e=true→D e.on=true
def downB (ops:Array Oper):Bool:=(List.range ops.size).all fun i=>((ops[i]?).map fun o=>o.after.all fun e=>!Region.binds .any e || decide (e.on < i)).getD true
theorem down_of (h:downB ops=true) {i:Nat} {o:Oper} (ho:ops[i]?=some o):∀ e∈o.after,Region.binds .any e=true→e.on < i:=fun e he hb=>by
 have:=(List.all_eq_true.1 h) i (List.mem_range.2 (Array.getElem?_eq_some_iff.1 ho).1)
 rw[ho] at this
 simp only[Option.map_some,Option.getD_some] at this
 have:=(Array.all_eq_true_iff_forall_mem.1 this) e he
 simpa[hb] using this
theorem countP_less {p q:Nat→Bool} (hpq:∀ x,q x=true→p x=true) {i:Nat} (h1:p i=true) (h2:q i=false):∀ {l:List Nat},i∈l→l.countP q < l.countP p
 | [],h=>by cases h
 | a :: l,h=>by
   have hle:l.countP q≤l.countP p:=List.countP_mono_left fun x _ hx=>hpq x hx
   rw[List.countP_cons,List.countP_cons]
   rcases List.mem_cons.1 h with rfl | h
   ·rw[h1,h2]
    simp
    omega
   ·have ih:=countP_less hpq h1 h2 h
    have:(if q a=true then 1 else 0)≤(if p a=true then 1 else 0):=by
     split
     ·rename_i hq
      rw[if_pos (hpq a hq)]
      omega
     ·omega
    omega
def DL (listed:Array Bool):Nat→Bool:=fun i=>listed.getD i false
theorem DL_set {listed:Array Bool} {i:Nat} (hi:i < listed.size):DL (listed.setIfInBounds i true)=updD (DL listed) i:=by
 funext j
 unfold DL updD
 split
 ·rename_i e;subst e;simp[hi]
 ·rename_i e
  exact getD_set_ne false (fun h=>e h.symm)
variable (FR:(Nat→Value)→Act) (I:(Nat→Bool)→(Nat→Value)→World→Prop)
def stepsFrom (p:Nat→Oper→Prop):Nat→List Oper→Prop
 | _,[]=>True
 | k,o :: l=>p k o∧stepsFrom p (k + 1) l
theorem stepsFrom_at {p:Nat→Oper→Prop}:∀ {l:List Oper} {k i:Nat} {o:Oper},stepsFrom p k l→l[i]?=some o→p (k + i) o
 | [],_,_,_,_,h=>by simp at h
 | a :: l,k,0,o,hp,h=>by
   simp at h
   subst h
   exact hp.1
 | a :: l,k,i + 1,o,hp,h=>by
   have:=stepsFrom_at (l:=l) (k:=k + 1) (i:=i) hp.2 (by simpa using h)
   rwa [show k + (i + 1)=k + 1 + i by omega]
end
end Go.Proofs.YtemjlpahohmajaaGreat
namespace Go.Proofs.YtemjlpahohmajaaGreat
open Go.RowKit
section
variable {F:Fence} {n:Nat} {P:Program} {ops:Array Oper} {Q:Exit→Act→World→Prop}
variable (FR:(Nat→Value)→Act) (I:(Nat→Bool)→(Nat→Value)→World→Prop)
theorem wpAnyIn_inv (hdn:downB ops=true)
  (hs:∀ i o,ops[i]?=some o→∀ D f w,I D f w→D i=false→(∀ e∈o.after,Region.binds .any e=true→D e.on=true)→ClosedD ops D →
   Region.wanted o (yielded ops (FR f).tmps)=true∧o.wpIn F n P (FR f) w (fun a' w'=>∃ v,a'=FR (updV f i v)∧I (updD D i) (updV f i v) w') Q)
  (hd:∀ D f w,(∀ i,i < ops.size→D i=true)→I D f w→Q .normal (FR f) w) :
  ∀ (fuel:Nat) (listed:Array Bool) (f:Nat→Value) (w:World),listed.size=ops.size→(List.range ops.size).countP (fun i=>!DL listed i)≤fuel→ClosedD ops (DL listed)→I (DL listed) f w→wpAnyIn F n P .any ops Q fuel listed (FR f) w:=by
 have hall:∀ listed:Array Bool,listed.size=ops.size→Region.ready .any ops listed=[]→∀ i,i < ops.size→DL listed i=true:=fun listed hsz h0 i=>by
  induction i using Nat.strongRecOn with
  | _ i ih =>
  intro hi
  obtain⟨o,ho⟩:∃ o,ops[i]?=some o:=⟨_,Array.getElem?_eq_getElem hi⟩
  cases hD:DL listed i with
  | true=>rfl
  | false =>
    exfalso
    have hm:i∈Region.ready .any ops listed:=mem_ready.2 ⟨by
     unfold DL at hD
     simpa[hsz,hi] using hD,o,ho,fun e he hb=>ih e.on (down_of hdn ho e he hb) (by have:=down_of hdn ho e he hb;omega)⟩
    rw[h0] at hm
    cases hm
 intro fuel
 induction fuel with
 | zero =>
   intro listed f w hsz hc hcl hI
   have hz:∀ i,i < ops.size→DL listed i=true:=fun i hi=>by
    have h0:=List.countP_eq_zero.1 (Nat.le_zero.1 hc) i (List.mem_range.2 hi)
    simpa using h0
   refine⟨?_,hd _ f w hz hI⟩
   rw[List.eq_nil_iff_forall_not_mem]
   intro i hi
   obtain⟨h1,o,ho,-⟩:=mem_ready.1 hi
   have h2:=hz i (Array.getElem?_eq_some_iff.1 ho).1
   have h3:i < listed.size:=by rw[hsz];exact(Array.getElem?_eq_some_iff.1 ho).1
   unfold DL at h2
   simp[h3] at h1 h2
   rw[h1] at h2
   cases h2
 | succ fuel ih =>
   intro listed f w hsz hc hcl hI
   refine⟨fun h0=>hd _ f w (hall listed hsz h0) hI,fun i hi=>?_⟩
   obtain⟨h1,o,ho,h2⟩:=mem_ready.1 hi
   have hio:i < ops.size:=(Array.getElem?_eq_some_iff.1 ho).1
   have h3:i < listed.size:=by rw[hsz];exact hio
   have hDi:DL listed i=false:=by unfold DL;simpa[h3] using h1
   obtain⟨hw,hwp⟩:=hs i o ho (DL listed) f w hI hDi h2 hcl
   unfold wpOpIn
   simp only[ho,hw,if_true]
   refine Oper.wpIn_mono (fun a' w' h=>?_) hwp
   obtain⟨v,rfl,hI'⟩:=h
   have hset:=DL_set (listed:=listed) h3
   refine ih (listed.setIfInBounds i true) (updV f i v) w' (by simpa using hsz) ?_ ?_ (by rw[hset];exact hI')
   ·have hlt:=countP_less (p:=fun j=>!DL listed j) (q:=fun j=>!DL (listed.setIfInBounds i true) j) (fun x hx=>by
     rw[hset] at hx
     unfold updD at hx
     split at hx
     ·cases hx
     ·exact hx) (i:=i) (by simp[hDi]) (by rw[hset];simp[updD]) (List.mem_range.2 hio)
    omega
   ·rw[hset]
    intro k ok hk hDk e he hb
    unfold updD at hDk ⊢
    split
    ·rfl
    ·split at hDk
     ·rename_i e1
      subst e1
      rw[ho] at hk
      cases hk
      exact h2 e he hb
     ·exact hcl k ok hk hDk e he hb
theorem wpIn_region_inv {id:Nat} {a:Act} {w:World} (hm:P.follows .mixedOrders=true) (hdn:downB ops=true) (f0:Nat→Value) (ha:a=FR f0) (h0:I (fun _=>false) f0 w.drew)
  (hs:∀ i o,ops[i]?=some o→∀ D f w,I D f w→D i=false→(∀ e∈o.after,Region.binds .any e=true→D e.on=true)→ClosedD ops D →
   Region.wanted o (yielded ops (FR f).tmps)=true∧o.wpIn F n P (FR f) w (fun a' w'=>∃ v,a'=FR (updV f i v)∧I (updD D i) (updV f i v) w') Q)
  (hd:∀ D f w,(∀ i,i < ops.size→D i=true)→I D f w→Q .normal (FR f) w):(Code.region id ops true).wpIn F n P Q a w:=by
 refine wpIn_region_any hm ?_
 have e:DL (Array.replicate ops.size false)=fun _=>false:=by
  funext j
  unfold DL
  by_cases h:j < ops.size <;> simp[h]
 subst ha
 refine wpAnyIn_inv FR I hdn hs hd ops.size (Array.replicate ops.size false) f0 _ (by simp) ?_ (by rw[e];intro k o _ h;cases h) (by rw[e];exact h0)
 exact Nat.le_trans List.countP_le_length (by simp)
def OpInvIn (F:Fence) (n:Nat) (P:Program) (ops:Array Oper) (Q:Exit→Act→World→Prop) (FR:(Nat→Value)→Act) (I:(Nat→Bool)→(Nat→Value)→World→Prop) (i:Nat) (o:Oper):Prop:=
 ∀ D f w,I D f w→D i=false→(∀ e∈o.after,Region.binds .any e=true→D e.on=true)→ClosedD ops D →
   Region.wanted o (yielded ops (FR f).tmps)=true∧(∀ v,(FR f).put o.dst v=FR (updV f i v)) ∧
   ∀ K':Act→World→Prop,Shut (∀ a' w' v,a'=(FR f).put o.dst v→I (updD D i) (updV f i v) w'→K' a' w')→o.wpIn F n P (FR f) w K' Q
theorem wpIn_region_inv' {id:Nat} {a:Act} {w:World} {l:List Oper} (f0:Nat→Value) (hm:P.follows .mixedOrders=true) (hdn:downB l.toArray=true) (ha:a=FR f0) (h0:I (fun _=>false) f0 w.drew)
  (hs:stepsFrom (OpInvIn F n P l.toArray Q FR I) 0 l) (hd:∀ D f w,(∀ i,i < l.length→D i=true)→I D f w→Q .normal (FR f) w):(Code.region id l.toArray true).wpIn F n P Q a w:=
 wpIn_region_inv FR I hm hdn f0 ha h0 (fun i o ho D f w hI hD hdep hcl=>by
  have h1:=stepsFrom_at hs (i:=i) (o:=o) (by simpa using ho)
  rw[Nat.zero_add] at h1
  obtain⟨g1,g2,g3⟩:=h1 D f w hI hD hdep hcl
  refine⟨g1,g3 _ (fun a' w' v e hv=>⟨v,?_,hv⟩)⟩
  rw[e,g2]) (fun D f w h hI=>hd D f w (fun i hi=>h i (by simpa using hi)) hI)
end
end Go.Proofs.YtemjlpahohmajaaGreat
namespace Go.Proofs.YtemjlpahohmajaaGreat
open Go.RowKit Go.BigFrame
def km0:Mv:=⟨1,0,0,0⟩
end Go.Proofs.YtemjlpahohmajaaGreat
namespace Go.Proofs.YtemjlpahohmajaaGreat
open Go.RowKit Go.BigFrame
def bA:ByteArray:={ data:=#[97] }
def bB:ByteArray:={ data:=#[98] }
def bX:ByteArray:={ data:=#[120] }
def bM:ByteArray:={ data:=#[109] }
def bS:ByteArray:={ data:=#[115] }
end Go.Proofs.YtemjlpahohmajaaGreat
namespace Go.Proofs.YtemjlpahohmajaaGreat
open Go.RowKit Go.BigFrame
theorem wp_own_step {P:Program} {o:Oper} {a:Act} {w:World} {K:Act→World→Prop} {Q:Exit→Act→World→Prop} (s x:Operand) (t:TypeId)
  (ho:o.op=.call { callee:=.builtin .append,args:=#[s,x],argTypes:=#[t,t] })
  (base:Nat) (e:TypeId) {i:TypeInfo} {z:Value} {size bytes:Nat} (ht:P.underlying t=some (.slice e)) (hi:P.info? e=some i) (hz:i.zero=some z)
  (hsize:i.size=size) (hby:i.bytes=bytes) (hzs:z.cells.size=size) (hsz:0 < size)
  (v:Value) (n:Nat) (xs:List Value) (hs:a.eval s=v) (hown:w.ownsRow base e size v n xs)
  (ad:Addr) (m c:Nat) (news:List Value) (hx:a.eval x=.slice (some ad) m c) (hl:news.length=m * size) (hnews:∀ (j:Nat) u,news[j]?=some u→w.cell? (ad.add j)=some u) (h1:∀ u∈news,u.oneCell'=true)
  (h63:n + m≤maxLen) (hbytes:(n + m) * bytes≤140737488355328) (hbase:base≤w.heap.size)
  (h:∀ v' w',w'.ownsRow base e size v' (n + m) (xs ++ news)→w.grownBy w' v.ownBlock→K (a.put o.dst v') w'):Oper.wp P o a w K Q:=by
 obtain⟨v',w',hr,h2,h3,h4,h5⟩:=run_append_own_at (P:=P) w base t o.type e i z size bytes ht hi hz hsize hby hzs hsz v n xs hown ad m c news hl hnews h1 h63 hbytes hbase
 unfold Oper.wp execOp
 simp only[ho,resolve,invoke,builtin,Sem.run_bind,Sem.run_pure,Result.andThen_ok,List.map_toArray,List.map_cons,List.map_nil,hs,hx,hr]
 exact h v' w' h2 h3
theorem row_cells {X:World} {r:Nat} {A:Array Value} {t:TypeId} (h:X.heap[r]?=some (.cells A t (0,0))) (j:Nat) (u:Value) (hu:A.toList[j]?=some u):X.cell? ((⟨r,0,none⟩:Addr).add j)=some u:=by
 have e:∀ o,(⟨r,o,none⟩:Addr).add j=⟨r,o + j,none⟩:=fun o=>by simp[Addr.add]
 rw[e,Nat.zero_add,cell_of h,← Array.getElem?_toList]
 exact hu
end Go.Proofs.YtemjlpahohmajaaGreat
namespace Go.Proofs.YtemjlpahohmajaaGreat
open Go.RowKit Go.BigFrame
theorem leaves_none {P:Program} {fn:Func} {tmps:Array Value} {R:Ending→World→Prop} {w:World}
 (h:∃ v,(results fn tmps).run P w=.ok v w∧R (.returned v) w):LeavesInM Fence.wide 3 P fn tmps R [] .returning w:=h
end Go.Proofs.YtemjlpahohmajaaGreat
namespace Go.Proofs.YtemjlpahohmajaaGreat
open Go.ChangeShapes Go.WideShapes Go.ChangeAt Go.RowKit
theorem trodAll_below {H:Type} {enc:TypeId × Value→H} {P:Program} (hl:laidOutB P=true) {W W':World} (hb:Below W.heap.size W W'):∀ (ts:List TypeId) (vs:List Value) (ds:List (DataW H)) (ps:List MemPlace),
  (ts.all fun t=>P.readableRec t && decide (t < P.types.size))=true→DataW.TrodAll enc P W 0 (fun _=>true) true ts vs ds ps→(∀ x∈ps,x.block < W.heap.size) →
  DataW.TrodAll enc P W' 0 (fun b=>decide (b < W.heap.size)) true ts vs ds ps
 | [],vs,ds,ps,_,h,_=>by
   obtain⟨rfl,rfl,rfl⟩:=trodAll_nil h
   exact rfl
 | t :: ts,vs,ds,ps,ht,h,hlt=>by
   obtain⟨v,vs',d,ds',p,q,rfl,rfl,rfl,h1,h2⟩:=trodAll_cons h
   simp only[List.all_cons,Bool.and_eq_true,decide_eq_true_eq] at ht
   exact⟨p,q,Below.trod hl ht.1.1 ht.1.2 h1 hb (fun x hx=>hlt x (by simp[hx])),trodAll_below hl hb ts vs' ds' q ht.2 h2 (fun x hx=>hlt x (by simp[hx])),rfl⟩
theorem trodAll_length {H:Type} {enc:TypeId × Value→H} {P:Program} {W:World} {base:Nat} {sp:Nat→Bool} {held:Bool}:∀ (ts:List TypeId) (vs:List Value) (ds:List (DataW H)) (ps:List MemPlace),
  DataW.TrodAll enc P W base sp held ts vs ds ps→ds.length=ts.length
 | [],vs,ds,ps,h=>by
   obtain⟨rfl,rfl,rfl⟩:=trodAll_nil h
   rfl
 | t :: ts,vs,ds,ps,h=>by
   obtain⟨v,vs',d,ds',p,q,rfl,rfl,rfl,h1,h2⟩:=trodAll_cons h
   simp[trodAll_length ts vs' ds' q h2]
theorem law_lifted {C:Checked} (own:ownKnob C.prog.godebug=none) (laid:laidOutB C.prog=true) {os:Os} (started:os.Started) {H:Type} (enc:TypeId × Value→H) (f:FuncId) (fn:Func) (s:ChangeSpec) (tb:TypeId)
  (noInit:C.prog.inits.idxOf? f=none) (hfn:C.prog.funcs[f]?=some fn)
  (witness:∃ (w:World) (tape:Tape) (i:Input),w.os=os∧(w.forCall tape i).Shaped C.prog∧i.vars=[]∧Input.okWide C.prog (w.forCall tape i) .any w.heap.size f i ∧
   s.pre6 enc C.prog fn [] false (w.forCall tape i).memory i.args∧({}:Assume).holds C.prog (lone (Frame.enter C.prog f i.args .normal) [] (w.forCall tape i)))
  (hv:s.vars=[]) (hrt:fn.resultTypes=#[tb]) (htb:C.prog.underlying tb=some .bool)
  (hts:(fn.params.toList.all fun t=>C.prog.readableRec t && decide (t < C.prog.types.size))=true)
  (hspec:∀ ds:List (DataW H),ds.length=fn.params.toList.length→s.fn H ds={ results:=[.lit (.bool true)],args:=ds })
  (walk:∀ (W:World) (base:Nat) (args:Array Value) (ds:List (DataW H)) (p:List MemPlace),
   (∀ (j:Nat) t v,fn.params[j]?=some t→args[j]?=some v→Value.okWide C.prog W .any base t v) →
   DataW.TrodAll enc C.prog W 0 (fun _=>true) true fn.params.toList args.toList ds p →
   (∀ x∈p,x.block < W.heap.size) →
   (DataW.weightsEach C.prog fn.params.toList ds).all (·≤reachBytes)=true →
   Calls C.prog f args W (Ret (.bool true) (Frm [] W))) :
  ReturnsInHanded {} C os f .any (s.pre6 enc C.prog fn [] false) (s.post enc C.prog fn false true false false):=by
 refine returnsInHanded_of_change_sized (C:=C) own started noInit hfn witness ?_
 intro W base args ds gs before hval hW _ hsz _
 have hvt:s.plain.varTypes C.prog=[]:=by
  simp[DataSpec.varTypes,ChangeSpec.plain,hv]
 have hW':=hW
 obtain⟨p,q,hA,hV,rfl,_,_⟩:=hW
 rw[hv] at hV
 obtain⟨rfl,rfl⟩:=trodVars_none hV
 simp only[List.append_nil] at hW'
 rw[hvt,List.append_nil,List.append_nil] at hsz
 have hlt:∀ x∈p,x.block < W.heap.size:=fun x hx=>by simpa using hW'.lt x hx
 refine(walk W base args ds p hval hA hlt hsz).mono ?_
 rintro e W' ⟨rfl,hf⟩
 have hB:Below W.heap.size W W':=hf.below (Nat.le_refl _) (by simp)
 have hsp:=hspec ds (trodAll_length _ _ _ _ hA)
 refine⟨_,rfl,ds,[],p,[],p,[],hW',?_,?_,?_,hB.frame _,fun h=>by cases h⟩
 ·rw[List.append_nil,hsp,hrt]
  exact trodAll_mk1 (shut_bool htb _)
 ·rw[List.append_nil,hsp]
  exact trodAll_below laid hB _ _ _ _ hts hA hlt
 ·rw[List.append_nil,hsp,hv]
  rfl
end Go.Proofs.YtemjlpahohmajaaGreat
namespace Go.Proofs.YtemjlpahohmajaaGreat
open Go.ChangeShapes Go.WideShapes Go.ChangeAt Go.RowKit Go.Deep
theorem trodAll_two {H:Type} {enc:TypeId × Value→H} {P:Program} {w:World} {base:Nat} {spare:TypeId→Bool} {held:Bool} {t0 t1:TypeId} {args:Array Value} {ds:List (DataW H)} {ps:List MemPlace}
  (h:DataW.TrodAll enc P w base spare held [t0,t1] args.toList ds ps) :
  ∃ v0 v1 d0 d1 p0 p1,args=#[v0,v1]∧ds=[d0,d1]∧ps=p0 ++ p1∧DataW.Trod enc P w base spare held t0 v0 d0 p0∧DataW.Trod enc P w base spare held t1 v1 d1 p1:=by
 obtain⟨v0,_,d0,_,p0,_,hargs,rfl,rfl,h0,hrest⟩:=trodAll_cons h
 obtain⟨v1,_,d1,_,p1,_,rfl,rfl,rfl,h1,hrest⟩:=trodAll_cons hrest
 obtain⟨rfl,rfl,rfl⟩:=trodAll_nil hrest
 exact⟨v0,v1,d0,d1,p0,p1,by cases args;simp_all,rfl,by simp,h0,h1⟩
end Go.Proofs.YtemjlpahohmajaaGreat
namespace Go.Proofs.YtemjlpahohmajaaGreat
open Go.ChangeShapes Go.WideShapes Go.ChangeAt Go.RowKit Go.Deep
section
variable {H:Type} {enc:TypeId × Value→H} {W:World}
theorem open_arr {α:Type} [Inhabited α] {t e:TypeId} {k:Nat} {At:World→Nat→Nat→α→Prop} {Q:α→Prop} (ht:Tryz.prog.underlying t=some (.slice e)) (hc:Tryz.prog.cellsOf e=k) (hk:0 < k)
  (hel:∀ b o cs n y,(∀ i,i < k→W.cell? ⟨b,o + i,none⟩=cs[i]?)→cs.length=k→DataW.trod enc Tryz.prog W 0 (fun _=>true) true n e cs=some y→∃ x,At W b o x∧Q x)
  {fuel:Nat} {c:Value} {x:DataW H × List MemPlace} (hf:DataW.trod enc Tryz.prog W 0 (fun _=>true) true fuel t [c]=some x) :
  ∃ xs,Arr k At W c xs∧(∀ x∈xs,Q x)∧∀ ao n c',c=.slice ao n c'→n≤c':=by
 rcases open_slice ht hf with ⟨hcs,_⟩ | ⟨a,len,cap,m,n,D,Pl,hcs,_,hl,_,hm,_,hx⟩
 ·simp only[List.cons.injEq,and_true] at hcs
  subst hcs
  exact⟨[],Arr.nil _ _ _,by simp,fun ao n c' h=>by cases h;omega⟩
 ·simp only[List.cons.injEq,and_true] at hcs
  subst hcs
  simp only[if_true] at hm
  subst hm
  obtain⟨ab,ao,spot⟩:=a
  have hspot:0 < len→spot=none:=fun h=>by
   obtain⟨cs',h1,h2⟩:=hx 0 (by omega)
   obtain⟨_,hlen,hcell⟩:=World.cells?_some h1
   rw[hc] at hlen hcell
   have h0:=hcell 0 hk
   rw[List.getElem?_eq_getElem (by omega)] at h0
   simpa[Addr.add] using World.cell?_spot h0
  obtain⟨f,hf⟩:=choose_lt (α:=α) (p:=fun i x=>spot=none∧At W ab (ao + i * k) x∧Q x) (n:=len) (fun i hi=>by
   obtain⟨cs',h1,h2⟩:=hx i (by omega)
   obtain⟨_,hlen,hcell⟩:=World.cells?_some h1
   rw[hc] at hlen hcell
   have hs:=hspot (by omega)
   subst hs
   obtain⟨x,h3,h4⟩:=hel ab (ao + i * k) cs' n _ (fun j hj=>by
    have:=hcell j hj
    rw[add_plain,add_plain] at this
    exact this) hlen h2
   exact⟨x,rfl,h3,h4⟩)
  refine⟨(List.range len).map f,⟨some ⟨ab,ao,spot⟩,m,by simp,fun i x hi=>?_⟩,fun x hx'=>?_,fun ao n c' h=>by cases h;omega⟩
  ·have hil:i < len:=by have:=lt_of_some hi;simpa using this
   rw[List.getElem?_map,List.getElem?_range hil,Option.map_some,Option.some.injEq] at hi
   subst hi
   obtain⟨h1,h2,_⟩:=hf i hil
   subst h1
   exact⟨ab,ao,rfl,h2⟩
  ·rw[List.mem_map] at hx'
   obtain⟨i,hi,rfl⟩:=hx'
   rw[List.mem_range] at hi
   exact(hf i hi).2.2
instance:Inhabited StD:=⟨dS⟩
instance:Inhabited CtrD:=⟨dC⟩
instance:Inhabited StpD:=⟨dT⟩
instance:Inhabited RolD:=⟨dR⟩
theorem Tryz.cellsStr:Tryz.prog.cellsOf 9=1:=by kernel_rfl
theorem Tryz.cellsBool:Tryz.prog.cellsOf 4=1:=by kernel_rfl
theorem Tryz.cellsInt:Tryz.prog.cellsOf 3=1:=by kernel_rfl
theorem Tryz.cellsKnd:Tryz.prog.cellsOf 88=1:=by kernel_rfl
theorem Tryz.cellsCls:Tryz.prog.cellsOf 23=1:=by kernel_rfl
theorem Tryz.cellsSts:Tryz.prog.cellsOf 82=1:=by kernel_rfl
theorem Tryz.cellsCts:Tryz.prog.cellsOf 83=1:=by kernel_rfl
theorem Tryz.cellsStps:Tryz.prog.cellsOf 84=1:=by kernel_rfl
theorem Tryz.cellsRls:Tryz.prog.cellsOf 22=1:=by kernel_rfl
theorem Tryz.cellsSt:Tryz.prog.cellsOf 180=3:=by kernel_rfl
theorem Tryz.cellsCt:Tryz.prog.cellsOf 205=2:=by kernel_rfl
theorem Tryz.cellsStp:Tryz.prog.cellsOf 90=9:=by kernel_rfl
theorem Tryz.cellsRl:Tryz.prog.cellsOf 86=4:=by kernel_rfl
theorem Tryz.cellsSes:Tryz.prog.cellsOf 25=4:=by kernel_rfl
theorem list2 {α:Type} {cs:List α} (h:cs.length=2):∃ a b,cs=[a,b]:=by
 match cs,h with
 | [a,b],_=>exact⟨a,b,rfl⟩
theorem list3 {α:Type} {cs:List α} (h:cs.length=3):∃ a b c,cs=[a,b,c]:=by
 match cs,h with
 | [a,b,c],_=>exact⟨a,b,c,rfl⟩
theorem list4 {α:Type} {cs:List α} (h:cs.length=4):∃ a b c d,cs=[a,b,c,d]:=by
 match cs,h with
 | [a,b,c,d],_=>exact⟨a,b,c,d,rfl⟩
theorem list9 {α:Type} {cs:List α} (h:cs.length=9):∃ a b c d e f g i j,cs=[a,b,c,d,e,f,g,i,j]:=by
 match cs,h with
 | [a,b,c,d,e,f,g,i,j],_=>exact⟨a,b,c,d,e,f,g,i,j,rfl⟩
set_option maxRecDepth 10000 in
theorem open_st {b o n:Nat} {cs:List Value} {y:DataW H × List MemPlace} (hc:∀ i,i < 3→W.cell? ⟨b,o + i,none⟩=cs[i]?) (hl:cs.length=3) (hf:DataW.trod enc Tryz.prog W 0 (fun _=>true) true n 180 cs=some y):∃ x:StD,StAt W b o x∧True:=by
 obtain⟨c0,c1,c2,rfl⟩:=list3 hl
 obtain⟨y0,y1,y2,n',_,_,t0,t1,t2⟩:=trod_struct3 Tryz.underlying180 hf
 simp only[Tryz.cellsStr,Tryz.cellsBool,Tryz.cellsInt,List.drop,List.take] at t0 t1 t2
 obtain⟨s,e0,_⟩:=DataW.trod_string Tryz.underlying9 t0
 obtain⟨bb,e1,_⟩:=DataW.trod_bool Tryz.underlying4 t1
 obtain⟨i,e2,_⟩:=DataW.trod_int Tryz.underlying3 t2
 simp only[List.cons.injEq,and_true] at e0 e1 e2
 subst e0;subst e1;subst e2
 exact⟨⟨s,bb,i⟩,⟨hc 0 (by omega),hc 1 (by omega),hc 2 (by omega)⟩,trivial⟩
set_option maxRecDepth 10000 in
theorem open_ct {b o n:Nat} {cs:List Value} {y:DataW H × List MemPlace} (hc:∀ i,i < 2→W.cell? ⟨b,o + i,none⟩=cs[i]?) (hl:cs.length=2) (hf:DataW.trod enc Tryz.prog W 0 (fun _=>true) true n 205 cs=some y):∃ x:CtrD,CtAt W b o x∧True:=by
 obtain⟨c0,c1,rfl⟩:=list2 hl
 obtain⟨y0,y1,n',_,_,t0,t1⟩:=trod_struct2 Tryz.underlying205 hf
 simp only[Tryz.cellsStr,Tryz.cellsInt,List.drop,List.take] at t0 t1
 obtain⟨s,e0,_⟩:=DataW.trod_string Tryz.underlying9 t0
 obtain⟨i,e1,_⟩:=DataW.trod_int Tryz.underlying3 t1
 simp only[List.cons.injEq,and_true] at e0 e1
 subst e0;subst e1
 exact⟨⟨s,i⟩,⟨hc 0 (by omega),hc 1 (by omega)⟩,trivial⟩
set_option maxRecDepth 10000 in
theorem open_stp {b o n:Nat} {cs:List Value} {y:DataW H × List MemPlace} (hc:∀ i,i < 9→W.cell? ⟨b,o + i,none⟩=cs[i]?) (hl:cs.length=9) (hf:DataW.trod enc Tryz.prog W 0 (fun _=>true) true n 90 cs=some y):∃ x:StpD,SpAt W b o x∧wf64 x.kind:=by
 obtain⟨c0,c1,c2,c3,c4,c5,c6,c7,c8,rfl⟩:=list9 hl
 obtain⟨xs,n',_,_,_,hlen,hfs⟩:=DataW.trod_struct Tryz.underlying90 hf
 match xs,hlen with
 | [y0,y1,y2,y3,y4,y5,y6,y7,y8],_ =>
   have t0:=hfs 0 _ rfl
   have t1:=hfs 1 _ rfl
   have t2:=hfs 2 _ rfl
   have t3:=hfs 3 _ rfl
   have t4:=hfs 4 _ rfl
   have t5:=hfs 5 _ rfl
   have t6:=hfs 6 _ rfl
   have t7:=hfs 7 _ rfl
   have t8:=hfs 8 _ rfl
   simp only[List.getElem_toArray,List.getElem_cons_zero,List.getElem_cons_succ,Tryz.cellsStr,Tryz.cellsKnd,Tryz.cellsInt,List.drop,List.take,List.getElem?_cons_zero,List.getElem?_cons_succ] at t0 t1 t2 t3 t4 t5 t6 t7 t8
   obtain⟨s0,e0,_⟩:=DataW.trod_string Tryz.underlying9 t0
   obtain⟨s1,e1,_⟩:=DataW.trod_string Tryz.underlying9 t1
   obtain⟨i2,e2,_,hw⟩:=DataW.trod_int Tryz.underlying88 t2
   obtain⟨s3,e3,_⟩:=DataW.trod_string Tryz.underlying9 t3
   obtain⟨s4,e4,_⟩:=DataW.trod_string Tryz.underlying9 t4
   obtain⟨s5,e5,_⟩:=DataW.trod_string Tryz.underlying9 t5
   obtain⟨i6,e6,_⟩:=DataW.trod_int Tryz.underlying3 t6
   obtain⟨i7,e7,_⟩:=DataW.trod_int Tryz.underlying3 t7
   obtain⟨i8,e8,_⟩:=DataW.trod_int Tryz.underlying3 t8
   simp only[List.cons.injEq,and_true] at e0 e1 e2 e3 e4 e5 e6 e7 e8
   subst e0;subst e1;subst e2;subst e3;subst e4;subst e5;subst e6;subst e7;subst e8
   refine⟨⟨s0,s1,i2,s3,s4,s5,i6,i7,i8⟩,⟨hc 0 (by omega),hc 1 (by omega),hc 2 (by omega),hc 3 (by omega),hc 4 (by omega),hc 5 (by omega),hc 6 (by omega),hc 7 (by omega),hc 8 (by omega)⟩,?_⟩
   simp only[Lit.wf,show IntKind.i64.min=-9223372036854775808 from rfl,show IntKind.i64.max=9223372036854775807 from rfl,Bool.and_eq_true,decide_eq_true_eq] at hw
   exact hw
set_option maxRecDepth 10000 in
theorem open_rol {b o n:Nat} {cs:List Value} {y:DataW H × List MemPlace} (hc:∀ i,i < 4→W.cell? ⟨b,o + i,none⟩=cs[i]?) (hl:cs.length=4) (hf:DataW.trod enc Tryz.prog W 0 (fun _=>true) true n 86 cs=some y):∃ x:RolD,RlAt W b o x∧∀ t∈x.steps,wf64 t.kind:=by
 obtain⟨c0,c1,c2,c3,rfl⟩:=list4 hl
 obtain⟨y0,y1,y2,y3,n',_,_,t0,t1,t2,t3⟩:=Go.Joins.trod_struct4 Tryz.underlying86 hf
 simp only[Tryz.cellsStr,Tryz.cellsSts,Tryz.cellsCts,Tryz.cellsStps,List.drop,List.take] at t0 t1 t2 t3
 obtain⟨s,e0,_⟩:=DataW.trod_string Tryz.underlying9 t0
 simp only[List.cons.injEq,and_true] at e0
 subst e0
 obtain⟨l1,a1,-,-⟩:=open_arr (At:=StAt) (Q:=fun _=>True) Tryz.underlying82 Tryz.cellsSt (by omega) (fun b o cs n y h1 h2 h3=>open_st h1 h2 h3) t1
 obtain⟨l2,a2,-,-⟩:=open_arr (At:=CtAt) (Q:=fun _=>True) Tryz.underlying83 Tryz.cellsCt (by omega) (fun b o cs n y h1 h2 h3=>open_ct h1 h2 h3) t2
 obtain⟨l3,a3,q3,k3⟩:=open_arr (At:=SpAt) (Q:=fun t=>wf64 t.kind) Tryz.underlying84 Tryz.cellsStp (by omega) (fun b o cs n y h1 h2 h3=>open_stp h1 h2 h3) t3
 exact⟨⟨s,l1,l2,l3⟩,⟨_,_,_,hc 0 (by omega),hc 1 (by omega),hc 2 (by omega),hc 3 (by omega),a1,a2,a3,k3⟩,q3⟩
set_option maxRecDepth 10000 in
theorem open_ses {base:Nat} {v:Value} {d:DataW H} {p:List MemPlace} (hv:Value.okWide Tryz.prog W .any base 25 v) (h:DataW.Trod enc Tryz.prog W 0 (fun _=>true) true 25 v d p):∃ s,SesV W v s∧WfS s:=by
 obtain⟨cs,rfl,hsz⟩:=okWide_struct Tryz.underlying25 hv
 obtain⟨fuel,hf⟩:=h
 obtain⟨y0,y1,y2,y3,n,_,_,t0,t1,t2,t3⟩:=Go.Joins.trod_struct4 Tryz.underlying25 hf
 rw[Tryz.cellsSes] at hsz
 obtain⟨c0,c1,c2,c3,rfl⟩:=Go.Joins.array4 hsz
 simp only[Value.cells,Tryz.cellsStr,Tryz.cellsRls,Tryz.cellsCls,Tryz.cellsInt,List.drop,List.take] at t0 t1 t2 t3
 obtain⟨s,e0,_⟩:=DataW.trod_string Tryz.underlying9 t0
 obtain⟨i2,e2,_⟩:=DataW.trod_int Tryz.underlying23 t2
 obtain⟨i3,e3,_⟩:=DataW.trod_int Tryz.underlying3 t3
 simp only[List.cons.injEq,and_true] at e0 e2 e3
 subst e0;subst e2;subst e3
 obtain⟨l,a1,q1,-⟩:=open_arr (At:=RlAt) (Q:=fun r:RolD=>∀ t∈r.steps,wf64 t.kind) Tryz.underlying22 Tryz.cellsRl (by omega) (fun b o cs n y h1 h2 h3=>open_rol h1 h2 h3) t1
 exact⟨⟨s,l,i2,i3⟩,⟨c1,rfl,a1⟩,q1⟩
end
end Go.Proofs.YtemjlpahohmajaaGreat
namespace Go.Proofs.YtemjlpahohmajaaGreat
open Go.ChangeShapes Go.WideShapes Go.ChangeAt Go.RowKit
theorem Tryz.own:ownKnob Tryz.prog.godebug=none:=by kernel_rfl
theorem Tryz.laidOut:laidOutB Tryz.prog=true:=by kernel_rfl
end Go.Proofs.YtemjlpahohmajaaGreat
