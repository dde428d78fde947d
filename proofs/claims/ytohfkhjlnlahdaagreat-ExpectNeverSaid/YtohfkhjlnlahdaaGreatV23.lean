/- Part of the proof. -/
import Derived.Test.YtohfkhjlnlahdaaGreatV22
import Derived.Test.YtohfkhjlnlahdaaGreatV14
import Derived.Test.YtohfkhjlnlahdaaGreatV13
import Derived.Test.YtohfkhjlnlahdaaGreatV19
import Derived.RangeFuncBound
import Derived.Lib.Builder
import Derived.Shelf.SortM.Plain
import Derived.Shelf.SortM.SortNone
import Derived.Sort.CutIn
import Derived.OrdersIn
import Derived.Lib.AppendStr
import Derived.Laws.StructEq
import Derived.Laws.EntriesVeiled
import Derived.Laws.OwnMore
import Derived.Laws.Concat
import Derived.LaidEql
import Derived.Sort.BigQuietIn
import Derived.Test.YtohfkhjlnlahdaaGreatV03
import Derived.Deep.RegionHeld3
import Derived.WalkKit
import Derived.WalkSpells
import Derived.Deep.QuietTactic
import Derived.Shelf.SlGeneric
import Derived.Shelf.SlLaysN
import Derived.Shelf.SlLaysM
import Derived.Ground.SlgnProg
import Derived.Ground.SlgmProg
import Derived.Shelf.SlicesG.Clone
import Derived.Shelf.SlicesG.Turned
import Derived.Shelf.SlicesG.Delete
import Derived.Sort.OwnSorted
import Derived.OrdersHeld
import Derived.Lib.SliceRun
import Derived.RangeFuncNested
import Derived.RangeFuncLeaves
import Derived.RangeFuncCalls
import Derived.OwnWalkIn
import Derived.TacticsInMore
import Derived.LoopNIn
import Derived.LoopIn
import Derived.Deep.MidRow
import Derived.Deep.WholeRow
import Derived.Test.YtohfkhjlnlahdaaGreatV08
import Derived.Test.YtohfkhjlnlahdaaGreatProg
import Derived.BigQuiet
import Derived.StillTail
import Derived.Laws.IdiomStrings
import Derived.Shelf.Bytes.SlSmallAll
import Derived.Deep.Upon
import Derived.ArgAppend
import Derived.Deep.AppendLies
import Derived.Maps.AppendAt
import Derived.Lib.Hide
import Derived.Deep.DeepMust
import Derived.WalkLawsBesides
import Derived.BigRegion
import Derived.Deep.RegionLaw
import Derived.Deep.DeepCutAuto
import Derived.LoopTactic
import Derived.Maps.OwnSet
import Derived.Maps.OwnOps
import Derived.Lib.SlicesS
import Derived.ProofKit
import Derived.SizedLaws
import Derived.Deep.Slices
import Derived.Test.YtohfkhjlnlahdaaGreatRows
import Derived.Lib.SmallJoins
import Derived.Test.YtohfkhjlnlahdaaGreatV07
set_option linter.all false
namespace Go.Proofs.YtohfkhjlnlahdaaGreat
open Go.RowKit Go.BigFrame
structure DefsOk (cs:List CtrD):Prop where
 n:cs.length≤4
 ne:∀ c∈cs,c.name≠emptyS
 lo:∀ c∈cs,1≤c.lim∧c.lim≤1000
 un:∀ (i j:Nat) (a b:CtrD),cs[i]?=some a→cs[j]?=some b→a.name=b.name→i=j
def zeroC (cs:List CtrD):List (CtrD × Int):=cs.map fun c=>(c,0)
theorem zeroC_length (cs:List CtrD):(zeroC cs).length=cs.length:=by unfold zeroC;rw[List.length_map]
theorem zeroC_snoc {cs:List CtrD} {i:Nat} {c:CtrD} (h:cs[i]?=some c):zeroC (cs.take (i + 1))=zeroC (cs.take i) ++ [(c,0)]:=by
 unfold zeroC
 rw[List.take_add_one,h,List.map_append];rfl
theorem zero_find {cs:List CtrD} (h:DefsOk cs) {i:Nat} {c:CtrD} (hc:cs[i]?=some c):cnIx (zeroC (cs.take i)) c.name=-1:=by
 refine ixf_none fun x hx=>?_
 unfold zeroC at hx
 rw[List.mem_map] at hx
 obtain⟨d,hd,rfl⟩:=hx
 obtain⟨j,hj⟩:=List.getElem?_of_mem hd
 rw[List.getElem?_take] at hj
 split at hj
 ·rename_i hji
  rw[decide_eq_false_iff_not]
  intro e
  have:=h.un j i d c hj hc e
  omega
 ·cases hj
theorem Tryz.infoCn:(Tryz.prog.info? 246).map (fun i=>(i.zero,i.size,i.bytes))=some (some (.agg #[.string { data:=#[] },.int .i64 0,.int .i64 0]),3,32):=by kernel_rfl
def NwTo (w:World) (l:List (CtrD × Int)) (u:Value) (w':World):Prop:=∃ bb,u=.tuple #[.pointer (some ⟨bb,0,none⟩),.int .i64 0]∧GO 248 246 3 w bb 1 #[.bool true,undef] l.length (cnC l) w'
theorem GO.bnk {w W:World} {bb:Nat} {l:List (CtrD × Int)} (h:GO 248 246 3 w bb 1 #[.bool true,undef] l.length (cnC l) W):Bnk W bb l:=by
 obtain⟨ao,cap,h1,h2⟩:=h.bx
 exact⟨_,h1,cn_arr h2⟩
set_option maxHeartbeats 4000000 in
set_option maxRecDepth 100000 in
theorem bNew_any (v:Value) (cs:List CtrD) (w:World) (h:Arr 2 CtAt w v cs) (hok:DefsOk cs):Calls Tryz.prog 114 #[v] w (RetV (NwTo w (zeroC cs))):=by
 obtain⟨ao,cap,rfl,hx⟩:=h
 have HX:=Lib.hid hx
 have HOK:=Lib.hid hok
 obtain⟨n,hn⟩:∃ n,cs.length=n:=⟨_,rfl⟩
 have HN:=Lib.hid hn
 have h4:¬ 4 < (n:Int):=by have:=hok.n;omega
 rw[hn]
 obtain⟨W0,hW0⟩:∃ W0,w.alloc (.cells #[.bool true,.slice none 0 0] 248)=W0:=⟨_,rfl⟩
 have HG0:Hid (GO 248 246 3 w w.heap.size 1 #[.bool true,undef] 0 (cnC (zeroC (cs.take 0))) W0):=Lib.hid (GO.made (by rw[← hW0];exact(Frm.refl _ _).alloc _) (Nat.le_refl _) (by rw[← hW0];exact heap_alloc_new _ _) rfl)
 have HE:=Lib.hid hW0
 clear hx hok hn hW0
 go_enter Tryz.func114,Tryz.ntmps114
 go_wp2
 rw[HE.out]
 clear HE h4
 go_loopw [14] (fun s14 wl=>∃ i:Nat,s14=.int .i64 i∧i≤n∧GO 248 246 3 w w.heap.size 1 #[.bool true,undef] i (cnC (zeroC (cs.take i))) wl) (fun s14 _=>n - (intOf s14).toNat)
 case atStart=>exact⟨0,rfl,Nat.zero_le _,HG0.out⟩
 case round =>
  obtain⟨i,rfl,hi,hg⟩:=hrel
  have HG:=Lib.hid hg
  clear HG0 hg
  by_cases hlt:i < n
  ·have hlt':(i:Int) < (n:Int):=by omega
   obtain⟨c,hc⟩:∃ c,cs[i]?=some c:=⟨_,List.getElem?_eq_getElem (by rw[HN.out];exact hlt)⟩
   have hmem:=List.mem_of_getElem? hc
   obtain⟨b,o,rfl,c0,c1⟩:=HX.out i c hc
   replace c0:=HG.out.fr.keep c0
   replace c1:=HG.out.fr.keep c1
   have hemp:c.name.toList.isEmpty=false:=emp_no (HOK.out.ne c hmem)
   obtain⟨l1,l2⟩:=HOK.out.lo c hmem
   have l1':¬ c.lim < 1:=by omega
   have l2':¬ 1000 < c.lim:=by omega
   have hti:(zeroC (cs.take i)).length=i:=by rw[zeroC_length,List.length_take];have:=lt_of_some hc;omega
   have CF:Hid (∀ V,Frm [] wr V→Calls Tryz.prog 137 #[.pointer (some ⟨w.heap.size,0,none⟩),.string c.name] V (Ret (.int .i64 (-1)) (Frm [] V))):=Lib.hid fun V hV=>by
    have hb:Bnk V w.heap.size (zeroC (cs.take i)):=GO.bnk (by rw[hti];exact HG.out.frm hV)
    have:=bFind_any w.heap.size _ c.name V hb (by rw[hti];have:=HN.out;have:=HOK.out.n;omega)
    rwa [zero_find HOK.out hc] at this
   have HSN:=Lib.hid (zeroC_snoc hc)
   have HTI:=Lib.hid hti
   clear hc hmem l1 l2 hti
   obtain⟨i0,hi0,hz0,hz1,hz2⟩:=info_parts Tryz.infoCn
   have HBX:Hid ((wr.alloc (.cells #[.string c.name,.int .i64 c.lim] 244)).heap[wr.heap.size]?=some (.cells #[.string c.name,.int .i64 c.lim] 244 (0,0))):=Lib.hid (heap_alloc_new _ _)
   go_upto_region 9 with (first
    | (go_at_call 137;go_must (refine(CF.out _ ((Frm.refl [] wr).alloc _)).mono ?_;rintro e w2 ⟨rfl,hf2⟩;have HF2:Hid (Frm [] wr w2):=Lib.hid (((Frm.refl [] wr).alloc _).trans hf2);have HB2:=Lib.hid (hf2.at HBX.out (by simp));clear hf2)))
   clear c0 c1 l1' l2' hemp CF HBX
   have HG2:=Lib.hid (HG.out.frm HF2.out)
   obtain⟨ab,cb,hb1,hb2⟩:=HG2.out.bx
   have hb1':w2.heap[w.heap.size]?=some (.cells #[.bool true,.slice ab i cb] 248 (0,0)):=hb1
   have HB1:=Lib.hid hb1;have HO1:=Lib.hid hb2
   have cx:=cell_of hb1' 1
   have fx:=free_of hb1' 1
   have cy0:=cell_of HB2.out 0
   have cy1:=cell_of HB2.out 1
   have lx:=lt_of_block hb1
   have hi4:i < 4:=by have:=HOK.out.n;have:=HN.out;omega
   clear hb1 hb2 hb1'
   generalize hQQ:Exit.inBlock _ _=QQ
   refine wp_mono (Q:=fun e a' w'=>match e with | .normal=>QQ .normal a' w' | _=>False) ?_ (fun e a' w' h=>by cases e <;> first | exact h | exact h.elim)
   go_region_law (first
    | (refine step_append_own_at rfl _ _ 241 rfl w.heap.size 246 i0 (.agg #[.string { data:=#[] },.int .i64 0,.int .i64 0]) 3 32 Tryz.underlying241 hi0 hz0 hz1 hz2 rfl (by decide) (.slice ab i cb) i (cnC (zeroC (cs.take i))) ?_ (((Frm.refl [] w2).drew.alloc _).owns HO1.out (by simp)) ⟨w2.heap.size,0,none⟩ 1 1 [.string c.name,.int .i64 c.lim,.int .i64 0] ?_ rfl (new_row w2.drew _ _) ?_ ?_ ?_ ?_ ?_;(focus (go_simp;done));(focus (go_simp;done));(focus (simp[Value.oneCell'];done));(focus (unfold maxLen;omega));(focus omega);(focus (have:=HG2.out.fr.size;simp;omega));intro v' w6 hown' hgrow;obtain⟨ao6,cp6,rfl⟩:=own_shape hown';have hs:=GO.step HG2.out HB1.out HO1.out (by decide) ((Frm.refl [] w2).drew.alloc _) hgrow hown';have hbx:w6.heap[w.heap.size]?=some (.cells #[.bool true,.slice ab i cb] 248 (0,0)):=GO.facts HB1.out HO1.out (by decide) ((Frm.refl [] w2).drew.alloc _) hgrow;have cx6:=cell_of hbx 1;have fx6:=free_of hbx 1;have HS:=Lib.hid hs.1;clear hs hbx hown' hgrow))
   all_goals
    subst hQQ
    go_wp2
    refine⟨⟨i + 1,congrArg (Value.int .i64) (by omega),hlt,?_⟩,by simp[intOf];omega⟩
    rw[HSN.out,cnC_append]
    exact HS.out
  ·obtain rfl:i=n:=by omega
   have hge:¬ (i:Int) < (i:Int):=by omega
   have ht:cs.take i=cs:=by rw[← HN.out,List.take_length]
   have HT:=Lib.hid ht
   clear ht
   go_wp2
   go_ret2
   refine⟨_,rfl,_,rfl,?_⟩
   have:=HG.out
   rw[HT.out] at this
   rw[zeroC_length,HN.out]
   exact this
end Go.Proofs.YtohfkhjlnlahdaaGreat
namespace Go.Proofs.YtohfkhjlnlahdaaGreat
open Go.RowKit Go.BigFrame
def Agree (B:Nat) (W V:World):Prop:=∀ k,B≤k→k < W.heap.size→V.heap[k]?=W.heap[k]?
theorem Agree.refl (B:Nat) (W:World):Agree B W W:=fun _ _ _=>rfl
theorem Agree.low {B B':Nat} {W V:World} (h:Agree B W V) (hb:B≤B'):Agree B' W V:=fun k h1 h2=>h k (by omega) h2
theorem Agree.old {F:List Nat} {B:Nat} {W W' V:World} (h:Agree B W' V) (hf:Frm F W W') (hF:∀ x∈F,x < B):Agree B W V:=fun k h1 h2=>by
 have hs:=hf.size
 rw[h k h1 (by omega)]
 exact hf.block k h2 (fun hx=>by have:=hF k hx;omega)
theorem Fr.stb {α:Type} {k:Nat} {e:TypeId} {At:World→Nat→Nat→α→Prop} {w w':World} {xs:List α} {v:Value} (h:Fr k e At w xs v w') (hA:∀ (W V:World) b o x,At W b o x→V.heap[b]?=W.heap[b]?→At V b o x) :
  ∃ ao c,v=.slice ao xs.length c∧∀ (W V:World),Agree w.heap.size w' W→Agree w.heap.size w' V→Arr k At V v xs:=by
 obtain⟨ao,c,rfl⟩:=h.arr.shape
 refine⟨ao,c,rfl,fun _ V _ hV=>?_⟩
 rcases h.own with rfl | ⟨news,ho⟩
 ·exact Arr.nil _ _ _
 ·refine⟨ao,c,rfl,fun i x hx=>?_⟩
  have hn:xs.length≠0:=by have:=lt_of_some hx;omega
  obtain⟨g,cap,cur,e,hg,hc⟩:=own_block ho hn
  cases e
  obtain⟨b,o,e,ha⟩:=h.arr.get hx
  cases e
  exact⟨g,0,rfl,hA _ _ _ _ _ ha (hV g hg (lt_of_block hc))⟩
theorem cell_eq {W V:World} {b o:Nat} {v:Value} (h:W.cell? ⟨b,o,none⟩=some v) (e:V.heap[b]?=W.heap[b]?):V.cell? ⟨b,o,none⟩=some v:=(World.cell?_of_block (w:=W) e).trans h
theorem StAt.leaf (W V:World) (b o:Nat) (x:StD) (h:StAt W b o x) (e:V.heap[b]?=W.heap[b]?):StAt V b o x:=⟨cell_eq h.1 e,cell_eq h.2.1 e,cell_eq h.2.2 e⟩
theorem CtAt.leaf (W V:World) (b o:Nat) (x:CtrD) (h:CtAt W b o x) (e:V.heap[b]?=W.heap[b]?):CtAt V b o x:=⟨cell_eq h.1 e,cell_eq h.2 e⟩
theorem SpAt.leaf (W V:World) (b o:Nat) (x:StpD) (h:SpAt W b o x) (e:V.heap[b]?=W.heap[b]?):SpAt V b o x:=
 ⟨cell_eq h.c0 e,cell_eq h.c1 e,cell_eq h.c2 e,cell_eq h.c3 e,cell_eq h.c4 e,cell_eq h.c5 e,cell_eq h.c6 e,cell_eq h.c7 e,cell_eq h.c8 e⟩
def AgX (B g b:Nat) (W V:World):Prop:=∀ k,B≤k→k≠g→k≠b→k < W.heap.size→V.heap[k]?=W.heap[k]?
theorem AgX.old {B g b:Nat} {W W' V:World} {F:List Nat} (h:AgX B g b W' V) (hf:Frm F W W') (hF:∀ x∈F,x=g∨x=b):AgX B g b W V:=fun k h1 h2 h3 h4=>by
 have hs:=hf.size
 rw[h k h1 h2 h3 (by omega)]
 exact hf.block k h4 (fun hx=>by rcases hF k hx with e | e <;> omega)
def OwR (B g b o:Nat) (r:RolD) (W:World):Prop:=
 ∃ sv cv tv,W.cell? ⟨g,o,none⟩=some (.string r.name)∧W.cell? ⟨g,o + 1,none⟩=some sv∧W.cell? ⟨g,o + 2,none⟩=some cv∧W.cell? ⟨g,o + 3,none⟩=some tv∧∀ V,AgX B g b W V→Rl3 V sv cv tv r
theorem RoAt.of {w:World} {v:Value} {l:List RolD} (h:Rls w v l):Arr 4 (RoAt w) w v l:=by
 obtain⟨ao,cap,e,hx⟩:=h
 refine⟨ao,cap,e,fun i x hi=>?_⟩
 obtain⟨b,o,e2,sv,cv,tv,h1⟩:=hx i x hi
 exact⟨b,o,e2,sv,cv,tv,h1⟩
structure OwI (w:World) (s:SesD) (b1 b2 g cap i:Nat) (W:World):Prop where
 fr:Frm [] w W
 l1:w.heap.size≤b1
 l2:w.heap.size≤b2
 lg:w.heap.size≤g
 n12:b1≠b2
 h1:W.heap[b1]?=some (.cells #[.string s.name,.slice (some ⟨g,0,none⟩) s.roles.length cap,.int .i64 s.cls,.int .i64 s.cap] 25 (0,0))
 h2:W.heap[b2]?=some (.cells #[.string { data:=#[] },.slice none 0 0,.int .i64 0,.int .i64 0] 25 (0,0))
 hg:∃ cur,W.heap[g]?=some (.cells cur 87 (0,0))
 done:∀ (j:Nat) r,j < i→s.roles[j]?=some r→OwR w.heap.size g b2 (j * 4) r W
 rest:∀ (j:Nat) r,i≤j→s.roles[j]?=some r→RoAt w W g (j * 4) r
theorem OwI.ne {w W:World} {s:SesD} {b1 b2 g cap i:Nat} (h:OwI w s b1 b2 g cap i W):b1≠g∧b2≠g:=by
 obtain⟨cur,hg⟩:=h.hg
 refine⟨fun e=>?_,fun e=>?_⟩
 ·subst e;rw[h.h1] at hg;cases hg
 ·subst e;rw[h.h2] at hg;cases hg
structure Cl3 (w0:World) (sv cv tv:Value) (r:RolD) (W:World):Prop where
 frm:Frm [] w0 W
 sts:∀ V,Agree w0.heap.size W V→Arr 3 StAt V sv r.sts
 ctrs:∀ V,Agree w0.heap.size W V→Arr 2 CtAt V cv r.ctrs
 steps:∀ V,Agree w0.heap.size W V→Arr 9 SpAt V tv r.steps
 cap:∀ ao n c,tv=.slice ao n c→n≤c
theorem OwI.step {w W W':World} {s:SesD} {b1 b2 g cap i:Nat} (h:OwI w s b1 b2 g cap i W) {r:RolD} (hr:s.roles[i]?=some r) {sv cv tv:Value} (hc:Cl3 W sv cv tv r W') :
  OwI w s b1 b2 g cap (i + 1) (((W'.setCell ⟨g,i * 4 + 1,none⟩ sv).setCell ⟨g,i * 4 + 2,none⟩ cv).setCell ⟨g,i * 4 + 3,none⟩ tv):=by
 obtain⟨n1,n2⟩:=h.ne
 obtain⟨cur,hg⟩:=h.hg
 have hg':=hc.frm.at hg (by simp)
 have e1:=block_setCell hg' (i * 4 + 1) sv
 have e2:=block_setCell e1 (i * 4 + 2) cv
 have e3:=block_setCell e2 (i * 4 + 3) tv
 have hF:Frm [g] W' (((W'.setCell ⟨g,i * 4 + 1,none⟩ sv).setCell ⟨g,i * 4 + 2,none⟩ cv).setCell ⟨g,i * 4 + 3,none⟩ tv):=(((Frm.refl [g] W').setCell _ (.inl (by simp)) _).setCell _ (.inl (by simp)) _).setCell _ (.inl (by simp)) _
 obtain⟨W2,hW2⟩:∃ W2,(((W'.setCell ⟨g,i * 4 + 1,none⟩ sv).setCell ⟨g,i * 4 + 2,none⟩ cv).setCell ⟨g,i * 4 + 3,none⟩ tv)=W2:=⟨_,rfl⟩
 rw[hW2] at e3 hF ⊢
 have hFW:Frm [g] W W2:=(hc.frm.mono (by simp)).trans hF
 have hsz:w.heap.size≤W.heap.size:=h.fr.size
 have hrr:=h.rest i r (Nat.le_refl _) hr
 obtain⟨sv0,cv0,tv0,q0,q1,q2,q3,-⟩:=hrr
 rw[cell_of hg] at q0 q1 q2 q3
 have hlt:i * 4 + 3 < cur.size:=(Array.getElem?_eq_some_iff.1 q3).1
 have hcell:∀ o,(o≠i * 4 + 1→o≠i * 4 + 2→o≠i * 4 + 3→W2.cell? ⟨g,o,none⟩=W.cell? ⟨g,o,none⟩):=fun o h1 h2 h3=>by
  rw[cell_of e3,cell_of hg,Array.getElem?_setIfInBounds_ne (by omega),Array.getElem?_setIfInBounds_ne (by omega),Array.getElem?_setIfInBounds_ne (by omega)]
 refine⟨h.fr.then hFW (by intro x hx;simp at hx;subst hx;exact .inr h.lg),h.l1,h.l2,h.lg,h.n12,hFW.at h.h1 (by simpa using n1),hFW.at h.h2 (by simpa using n2),⟨_,e3⟩,fun j a hj ha=>?_,fun j a hj ha=>?_⟩
 ·by_cases e:j=i
  ·subst e
   rw[hr] at ha;cases ha
   refine⟨sv,cv,tv,?_,?_,?_,?_,fun V hV=>?_⟩
   ·rw[hcell _ (by omega) (by omega) (by omega),cell_of hg];exact q0
   ·rw[cell_of e3,Array.getElem?_setIfInBounds_ne (by omega),Array.getElem?_setIfInBounds_ne (by omega),Array.getElem?_setIfInBounds_self_of_lt (by omega)]
   ·rw[cell_of e3,Array.getElem?_setIfInBounds_ne (by omega),Array.getElem?_setIfInBounds_self_of_lt (by simp;omega)]
   ·rw[cell_of e3,Array.getElem?_setIfInBounds_self_of_lt (by simp;omega)]
   ·have hgl:=lt_of_block hg
    have hbl:=lt_of_block h.h2
    have hV':Agree W.heap.size W' V:=fun k h1 h2=>(hV.old hF (by simp)) k (by omega) (by omega) (by omega) h2
    exact⟨hc.sts V hV',hc.ctrs V hV',hc.steps V hV',hc.cap⟩
  ·obtain⟨sv1,cv1,tv1,p0,p1,p2,p3,p4⟩:=h.done j a (by omega) ha
   refine⟨sv1,cv1,tv1,?_,?_,?_,?_,fun V hV=>?_⟩
   ·rw[hcell _ (by omega) (by omega) (by omega)];exact p0
   ·rw[hcell _ (by omega) (by omega) (by omega)];exact p1
   ·rw[hcell _ (by omega) (by omega) (by omega)];exact p2
   ·rw[hcell _ (by omega) (by omega) (by omega)];exact p3
   ·exact p4 V (hV.old hFW (by simp))
 ·obtain⟨sv1,cv1,tv1,p0,p1,p2,p3,p4⟩:=h.rest j a (by omega) ha
  refine⟨sv1,cv1,tv1,?_,?_,?_,?_,p4⟩
  ·rw[hcell _ (by omega) (by omega) (by omega)];exact p0
  ·rw[hcell _ (by omega) (by omega) (by omega)];exact p1
  ·rw[hcell _ (by omega) (by omega) (by omega)];exact p2
  ·rw[hcell _ (by omega) (by omega) (by omega)];exact p3
theorem results_c1 {fn:Func} {p:Tmp} {ty:TypeId} (h:fn.results=#[.cell p ty]) {tmps:Array Value} {w:World} {g:Nat} {A:Array Value} {t:TypeId} {d:TypeDesc} (hp:tmps.getD p undef=.pointer (some ⟨g,0,none⟩)) (hg:w.heap[g]?=some (.cells A t (0,0)))
  (hd:(match d with | .struct _ | .array _ _=>true | _=>false)=true) (hu:Tryz.prog.underlying ty=some d) (hi:(Tryz.prog.info? ty).map (·.size)=some A.size):(results fn tmps).run Tryz.prog w=.ok (.agg A) w:=by
 have hp':tmps[p]?.getD undef=.pointer (some ⟨g,0,none⟩):=by simpa using hp
 have hr:=run_loadVar_row w g t ty A (0,0) d hg hu (by cases d <;> first | rfl | (exact hd) | (cases hd)) hi
 simp[results,h,hp',asAddr,hr]
structure OwTo (w:World) (s:SesD) (v:Value) (w':World):Prop where
 shape:∃ g cap,v=.agg #[.string s.name,.slice (some ⟨g,0,none⟩) s.roles.length cap,.int .i64 s.cls,.int .i64 s.cap]
 frm:Frm [] w w'
 ses:∀ V,Agree w.heap.size w' V→SesV V v s
theorem OwI.frm {w W W':World} {s:SesD} {b1 b2 g cap i:Nat} (h:OwI w s b1 b2 g cap i W) (hf:Frm [] W W'):OwI w s b1 b2 g cap i W':=by
 obtain⟨cur,hg⟩:=h.hg
 refine⟨h.fr.trans hf,h.l1,h.l2,h.lg,h.n12,hf.at h.h1 (by simp),hf.at h.h2 (by simp),⟨cur,hf.at hg (by simp)⟩,fun j r hj hr=>?_,fun j r hj hr=>?_⟩
 ·obtain⟨sv1,cv1,tv1,p0,p1,p2,p3,p4⟩:=h.done j r hj hr
  exact⟨sv1,cv1,tv1,hf.keep p0,hf.keep p1,hf.keep p2,hf.keep p3,fun V hV=>p4 V (hV.old hf (by simp))⟩
 ·obtain⟨sv1,cv1,tv1,p0,p1,p2,p3,p4⟩:=h.rest j r hj hr
  exact⟨sv1,cv1,tv1,hf.keep p0,hf.keep p1,hf.keep p2,hf.keep p3,p4⟩
theorem OwI.ses {w W w2 V:World} {s:SesD} {b1 b2 g cap:Nat} (h:OwI w s b1 b2 g cap s.roles.length W) (hf:Frm [b2] W w2) (hV:Agree w.heap.size w2 V):SesV V (.agg #[.string s.name,.slice (some ⟨g,0,none⟩) s.roles.length cap,.int .i64 s.cls,.int .i64 s.cap]) s:=by
 refine⟨_,rfl,_,cap,rfl,fun i r hr=>⟨g,0,rfl,?_⟩⟩
 obtain⟨cur,hg⟩:=h.hg
 have hs:=hf.size
 have hgl:=lt_of_block hg
 have e:V.heap[g]?=W.heap[g]?:=(hV g h.lg (by omega)).trans (hf.block g hgl (by simpa using h.ne.2.symm))
 obtain⟨sv1,cv1,tv1,p0,p1,p2,p3,p4⟩:=h.done i r (lt_of_some hr) hr
 rw[Nat.zero_add]
 exact⟨sv1,cv1,tv1,cell_eq p0 e,cell_eq p1 e,cell_eq p2 e,cell_eq p3 e,p4 V fun k h1 _ h3 h4=>(hV k h1 (by omega)).trans (hf.block k h4 (by simpa using h3))⟩
theorem Fr.cap {α:Type} {k:Nat} {e:TypeId} {At:World→Nat→Nat→α→Prop} {w w':World} {xs:List α} {v:Value} (h:Fr k e At w xs v w'):∀ ao n c,v=.slice ao n c→n≤c:=by
 rintro ao n c rfl
 rcases h.own with rfl | ⟨news,ho⟩
 ·obtain⟨a,c',e⟩:=h.arr.shape
  cases e;exact Nat.zero_le _
 ·rcases ho.2 with ⟨hv,hn⟩ | ⟨g,c',cur,hv,-,-,h1,-⟩
  ·cases hv;omega
  ·cases hv;exact h1
theorem OwI.start {w w0 w1:World} {s:SesD} {b1 b2 c0:Nat} {ao:Option Addr} {v:Value} (hf:Frm [] w w0) (h1:w0.heap[b1]?=some (.cells #[.string s.name,.slice ao s.roles.length c0,.int .i64 s.cls,.int .i64 s.cap] 25 (0,0)))
  (h2:w0.heap[b2]?=some (.cells #[.string { data:=#[] },.slice none 0 0,.int .i64 0,.int .i64 0] 25 (0,0))) (l1:w.heap.size≤b1) (l2:w.heap.size≤b2) (hne:b1≠b2) (hr:Fr 4 87 (RoAt w) w0 s.roles v w1) (hn:1≤s.roles.length) :
  ∃ g cap,v=.slice (some ⟨g,0,none⟩) s.roles.length cap∧OwI w s b1 b2 g cap 0 (w1.setCell ⟨b1,1,none⟩ v):=by
 rcases hr.own with e | ⟨news,ho⟩
 ·rw[e] at hn;simp at hn
 obtain⟨g,cap,cur,rfl,hg,hc⟩:=own_block ho (by omega)
 have g1:=hr.frm.at h1 (by simp)
 have g2:=hr.frm.at h2 (by simp)
 have hs:=hf.size
 have n1:g≠b1:=fun e=>by have:=lt_of_block h1;omega
 have hF:Frm [b1] w1 (w1.setCell ⟨b1,1,none⟩ (.slice (some ⟨g,0,none⟩) s.roles.length cap)):=(Frm.refl _ _).setCell _ (.inl (by simp)) _
 refine⟨g,cap,rfl,(hf.trans hr.frm).then hF (by intro x hx;simp at hx;subst hx;exact .inr l1),l1,l2,by omega,hne,(block_setCell g1 1 _).trans rfl,hF.at g2 (by simpa using hne.symm),⟨cur,hF.at hc (by simpa using n1)⟩,fun j r hj=>by omega,fun j r _ hj=>?_⟩
 obtain⟨b,o,e,a0⟩:=hr.arr.get hj
 cases e
 obtain⟨sv,cv,tv,p0,p1,p2,p3,p4⟩:=a0
 rw[Nat.zero_add] at p0 p1 p2 p3
 have hng:g∉[b1]:=by simpa using n1
 exact⟨sv,cv,tv,hF.cellAt p0 hng,hF.cellAt p1 hng,hF.cellAt p2 hng,hF.cellAt p3 hng,p4⟩
set_option maxHeartbeats 4000000 in
set_option maxRecDepth 100000 in
theorem pOwn_any (s:SesD) (v:Value) (w:World) (h:SesV w v s) (h1:1≤s.roles.length) (h4:s.roles.length≤4) (hb:∀ r∈s.roles,r.sts.length≤1000∧r.ctrs.length≤1000∧r.steps.length≤1000):Calls Tryz.prog 112 #[v] w (RetV (OwTo w s)):=by
 obtain⟨rv,rfl,hr⟩:=h
 obtain⟨ao,cap,rfl⟩:=hr.shape
 obtain⟨n,hn⟩:∃ n,s.roles.length=n:=⟨_,rfl⟩
 have HR:=Lib.hid hr
 have HF0:Hid (Frm [] w ((w.alloc (.cells #[.string s.name,.slice ao n cap,.int .i64 s.cls,.int .i64 s.cap] 25)).alloc (.cells #[.string { data:=#[] },.slice none 0 0,.int .i64 0,.int .i64 0] 25))):=Lib.hid (((Frm.refl [] w).alloc _).alloc _)
 have CR:=Lib.hid (clRoleAt_any w (.slice ao s.roles.length cap) s.roles _ ((RoAt.of hr).frm fun _ _ _ h=>h.frm HF0.out) (by omega))
 have HB:=Lib.hid hb
 rw[hn] at CR HR
 rw[hn] at h1 h4
 have HN:=Lib.hid hn
 have B1:Hid (((w.alloc (.cells #[.string s.name,.slice ao n cap,.int .i64 s.cls,.int .i64 s.cap] 25)).alloc (.cells #[.string { data:=#[] },.slice none 0 0,.int .i64 0,.int .i64 0] 25)).heap[w.heap.size]?=some (.cells #[.string s.name,.slice ao n cap,.int .i64 s.cls,.int .i64 s.cap] 25 (0,0))):=Lib.hid (alloc_at (heap_alloc_new _ _))
 have B2:Hid (((w.alloc (.cells #[.string s.name,.slice ao n cap,.int .i64 s.cls,.int .i64 s.cap] 25)).alloc (.cells #[.string { data:=#[] },.slice none 0 0,.int .i64 0,.int .i64 0] 25)).heap[w.heap.size + 1]?=some (.cells #[.string { data:=#[] },.slice none 0 0,.int .i64 0,.int .i64 0] 25 (0,0))):=Lib.hid (alloc_top (by simp))
 rw[hn]
 clear hr hn hb
 go_enter Tryz.func112,Tryz.ntmps112
 go_wp2_with (first
  | (go_at_call 170;go_must (refine CR.out.mono ?_;rintro e w1 ⟨u,rfl,hr⟩;have hi:=OwI.start (b1:=w.heap.size) (b2:=w.heap.size + 1) (c0:=cap) (ao:=ao) HF0.out (by rw[HN.out];exact B1.out) B2.out (Nat.le_refl _) (by omega) (by omega) hr (by rw[HN.out];exact h1);rw[HN.out] at hi;obtain⟨g,c1,rfl,hoi⟩:=hi;have HI:=Lib.hid hoi;have b1:=hr.frm.at B1.out (by simp);have d1:=cell_of b1 1;have f1:=free_of b1 1;have e1:=cell_of hoi.h1 1;rw[HN.out] at e1;clear hr b1 hoi)))
 go_loopw [12] (fun s12 wr=>∃ i:Nat,s12=.int .i64 i∧i≤n∧OwI w s w.heap.size (w.heap.size + 1) g c1 i wr) (fun s12 _=>n - (intOf s12).toNat)
 case atStart=>exact⟨0,rfl,Nat.zero_le _,HI.out⟩
 case round =>
  obtain⟨i,rfl,hi,ho⟩:=hrel
  have HO:=Lib.hid ho
  clear ho d1 f1 e1
  by_cases hlt:i < n
  ·have hlt':(i:Int) < (n:Int):=by omega
   obtain⟨r,hr⟩:∃ r,s.roles[i]?=some r:=⟨_,List.getElem?_eq_getElem (by rw[HN.out];exact hlt)⟩
   obtain⟨sv,cv,tv,p0,p1,p2,p3,p4⟩:=HO.out.rest i r (Nat.le_refl _) hr
   have HRR:=Lib.hid hr;have HP:=Lib.hid p4
   have c1':=cell_of HO.out.h1 1
   rw[HN.out] at c1'
   have hgl:=cell_lt p0
   have hbr:=HB.out r (List.mem_of_getElem? hr)
   obtain⟨aS,cS,rfl⟩:=p4.sts.shape
   obtain⟨aC,cC,rfl⟩:=p4.ctrs.shape
   obtain⟨aT,cT,rfl⟩:=p4.steps.shape
   have CS:Hid (∀ V,Frm [] w V→Calls Tryz.prog 171 #[.slice aS r.sts.length cS] V (RetV (Fr 3 206 StAt V r.sts))):=Lib.hid fun V hV=>clState_any _ r.sts V ((p4.frm hV).sts) (by omega)
   have CC:Hid (∀ V,Frm [] w V→Calls Tryz.prog 172 #[.slice aC r.ctrs.length cC] V (RetV (Fr 2 244 CtAt V r.ctrs))):=Lib.hid fun V hV=>clCtr_any _ r.ctrs V ((p4.frm hV).ctrs) (by omega)
   have CT:Hid (∀ V,Frm [] w V→Calls Tryz.prog 173 #[.slice aT r.steps.length cT] V (RetV (Fr 9 137 SpAt V r.steps))):=Lib.hid fun V hV=>clStep_any _ r.steps V ((p4.frm hV).steps) (by omega)
   clear hr p4 hbr
   obtain⟨nS,hnS⟩:∃ m,r.sts.length=m:=⟨_,rfl⟩
   obtain⟨nC,hnC⟩:∃ m,r.ctrs.length=m:=⟨_,rfl⟩
   obtain⟨nT,hnT⟩:∃ m,r.steps.length=m:=⟨_,rfl⟩
   have HLS:=Lib.hid hnS;have HLC:=Lib.hid hnC;have HLT:=Lib.hid hnT
   rw[hnS] at CS p1
   rw[hnC] at CC p2
   rw[hnT] at CT p3
   clear hnS hnC hnT
   go_upto_region 5 with fail
   obtain⟨W4,hW4⟩:∃ W4,wr.alloc (.cells #[.string r.name,.slice aS nS cS,.slice aC nC cC,.slice aT nT cT] 87)=W4:=⟨_,rfl⟩
   have hf4:Frm [] wr W4:=by rw[← hW4];exact(Frm.refl _ _).alloc _
   have hq4:W4.heap[wr.heap.size]?=some (.cells #[.string r.name,.slice aS nS cS,.slice aC nC cC,.slice aT nT cT] 87 (0,0)):=by rw[← hW4];exact heap_alloc_new _ _
   rw[hW4]
   have HF4:=Lib.hid hf4
   have HO4:=Lib.hid (HO.out.frm hf4)
   have HS:Hid (∀ V,Frm [g] W4 V→V.cell? ⟨w.heap.size,1,none⟩=some (.slice (some ⟨g,0,none⟩) n c1)∧V.cell? ⟨wr.heap.size,1,none⟩=some (.slice aS nS cS)∧V.cell? ⟨wr.heap.size,2,none⟩=some (.slice aC nC cC)∧V.cell? ⟨wr.heap.size,3,none⟩=some (.slice aT nT cT)):=Lib.hid fun V hV=>by
    have n1:=HO4.out.ne.1
    have h1:=hV.at HO4.out.h1 (by simpa using n1)
    rw[HN.out] at h1
    have h2:=hV.at hq4 (by simp;omega)
    exact⟨cell_of h1 1,cell_of h2 1,cell_of h2 2,cell_of h2 3⟩
   clear hf4 hq4 hW4 p0 p1 p2 p3 c1'
   go_region_held3 (fun V=>V.cell? ⟨w.heap.size,1,none⟩=some (.slice (some ⟨g,0,none⟩) n c1)∧V.cell? ⟨wr.heap.size,1,none⟩=some (.slice aS nS cS)∧V.cell? ⟨wr.heap.size,2,none⟩=some (.slice aC nC cC)∧V.cell? ⟨wr.heap.size,3,none⟩=some (.slice aT nT cT))
    (first
     | exact HS.out _ ((Frm.refl [g] W4).drew)
     | exact HS.out _ F5.out
     | exact HS.out _ F6.out
     | exact HS.out _ F7.out
     | exact HS.out _ (F7.out.setCell _ (.inl (by simp)) _)
     | exact HS.out _ ((F7.out.setCell _ (.inl (by simp)) _).setCell _ (.inl (by simp)) _)
     | exact HS.out _ (((F7.out.setCell _ (.inl (by simp)) _).setCell _ (.inl (by simp)) _).setCell _ (.inl (by simp)) _))
    (first
     | (go_at_call 171;go_must (refine(CS.out _ (HO4.out.fr.drew)).mono ?_;rintro e w5 ⟨u,rfl,hr⟩;have F5:Hid (Frm [g] W4 w5):=Lib.hid (((Frm.refl [g] W4).drew).trans (hr.frm.mono (by simp)));have G5:Hid (Frm [] w w5):=Lib.hid (HO4.out.fr.drew.trans hr.frm);have K5:Hid (Frm [] W4 w5):=Lib.hid ((Frm.refl [] W4).drew.trans hr.frm);have hst:=hr.stb StAt.leaf;rw[HLS.out] at hst;obtain⟨a5,k5,rfl,hst⟩:=hst;have HT5:=Lib.hid hst;clear hst hr))
     | (go_at_call 172;go_must (refine(CC.out _ G5.out).mono ?_;rintro e w6 ⟨u,rfl,hr⟩;have F6:Hid (Frm [g] W4 w6):=Lib.hid (F5.out.trans (hr.frm.mono (by simp)));have G6:Hid (Frm [] w w6):=Lib.hid (G5.out.trans hr.frm);have E6:=Lib.hid hr.frm;have K6:Hid (Frm [] W4 w6):=Lib.hid (K5.out.trans hr.frm);have hst:=hr.stb CtAt.leaf;rw[HLC.out] at hst;obtain⟨a6,k6,rfl,hst⟩:=hst;have HT6:=Lib.hid hst;clear hst hr))
     | (go_at_call 173;go_must (refine(CT.out _ G6.out).mono ?_;rintro e w7 ⟨u,rfl,hr⟩;have F7:Hid (Frm [g] W4 w7):=Lib.hid (F6.out.trans (hr.frm.mono (by simp)));have E7:=Lib.hid hr.frm;have K7:Hid (Frm [] W4 w7):=Lib.hid (K6.out.trans hr.frm);have h7:=HO4.out.frm K7.out;obtain⟨v1,v2,v3,-,z1,z2,z3,-⟩:=h7.rest i r (Nat.le_refl _) HRR.out;obtain⟨cur,hgc⟩:=h7.hg;have y1:=free_of hgc (i * 4 + 1);have y2:=free_of hgc (i * 4 + 2);have y3:=free_of hgc (i * 4 + 3);clear hgc h7;have hcp:=hr.cap;have HCP:=Lib.hid hcp;clear hcp;have hst:=hr.stb SpAt.leaf;rw[HLT.out] at hst;obtain⟨a7,k7,rfl,hst⟩:=hst;have HT7:=Lib.hid hst;clear hst hr)))
   have HC3:Hid (Cl3 W4 (.slice a5 nS k5) (.slice a6 nC k6) (.slice a7 nT k7) r w7):=Lib.hid (by
    have s5:=K5.out.size;have s6:=K6.out.size;have e6:=E6.out.size
    have e56:=E6.out.trans E7.out
    refine⟨K7.out,fun V hV=>?_,fun V hV=>?_,fun V hV=>?_,HCP.out⟩
    ·have:=HT5.out V V (hV.old e56 (by simp)) (hV.old e56 (by simp))
     rw[← HLS.out] at this ⊢;exact this
    ·have h8:=(hV.old E7.out (by simp)).low s5
     have:=HT6.out V V h8 h8
     rw[← HLC.out] at this ⊢;exact this
    ·have h8:=hV.low s6
     have:=HT7.out V V h8 h8
     rw[← HLT.out] at this ⊢;exact this)
   go_wp2
   exact⟨⟨i + 1,congrArg (Value.int .i64) (by omega),hlt,HO4.out.step HRR.out HC3.out⟩,by simp[intOf];omega⟩
  ·obtain rfl:i=n:=by omega
   have hge:¬ (i:Int) < (i:Int):=by omega
   have hc1:=HO.out.h1
   rw[HN.out] at hc1
   have HC2:=Lib.hid HO.out.h2
   have x0:=cell_of hc1 0
   have x1:=cell_of hc1 1
   have x2:=cell_of hc1 2
   have x3:=cell_of hc1 3
   clear hc1
   go_wp2_with (first
    | (refine wpList_store_row rfl 25 _ _ rfl _ _ _ 25 rfl rfl HC2.out rfl (by kernel_rfl) (by simp[Value.oneCell']) ?_;intro w2 hb2 hf2))
   refine bodyPost_ret (results_c1 (d:=_) (Tryz.results112) rfl hb2 rfl Tryz.underlying25 (by kernel_rfl)) rfl ⟨_,rfl,?_⟩
   have hoi:=HO.out
   rw[← HN.out] at hoi
   exact⟨⟨g,c1,by rw[HN.out]⟩,hoi.fr.then hf2 (by intro x hx;simp at hx;subst hx;right;omega),fun V hV=>by have:=hoi.ses hf2 hV;rwa [HN.out] at this⟩
end Go.Proofs.YtohfkhjlnlahdaaGreat
namespace Go.Proofs.YtohfkhjlnlahdaaGreat
open Go.RowKit Go.BigFrame
def Kp (I:Nat→Prop) (T:List TypeId) (W V:World):Prop:=∀ k c t,I k→W.heap[k]?=some (.cells c t (0,0))→t∉T→V.heap[k]?=some (.cells c t (0,0))
section
variable {I J:Nat→Prop} {T:List TypeId} {W V:World}
theorem Kp.of_kt (h:Kt T W V):Kp I T W V:=fun _ _ _ _ hk ht=>h.cells hk ht
theorem Kp.of_agree {B:Nat} (h:Agree B W V) (hI:∀ k,I k→B≤k):Kp I [] W V:=fun k _ _ hi hk _=>(h k (hI k hi) (lt_of_block hk)).trans hk
theorem Kp.of_frm {F:List Nat} (h:Frm F W V) (hI:∀ k,I k→k∉F):Kp I [] W V:=fun k _ _ hi hk _=>h.at hk (hI k hi)
theorem Kp.of_frm0 (h:Frm [] W V):Kp I [] W V:=Kp.of_frm h (by simp)
theorem Kp.row {base e size n:Nat} {v:Value} {xs:List Value} (h:Kp I T W V) (ho:W.ownsRow base e size v n xs) (hi:∀ k,v.ownBlock=some k→I k) (he:e∉T):V.ownsRow base e size v n xs:=by
 obtain⟨h1,h2⟩:=ho
 refine⟨h1,?_⟩
 rcases h2 with h2 | ⟨g,cap,cur,hv,hg,hh,r⟩
 ·exact .inl h2
 ·exact .inr ⟨g,cap,cur,hv,hg,h g _ _ (hi g (by rw[hv];rfl)) hh he,r⟩
def ChO (I:Nat→Prop) (W:World) (cb:Nat) (cls cap:Int) (L:List ByteArray):Prop:=∃ F,Chn W cb cls cap L F∧∀ x∈F,I x
theorem ChO.kp {cb:Nat} {cls cap:Int} {L:List ByteArray} (h:ChO I W cb cls cap L) (hk:Kp I T W V) (h1:233∉T) (h2:9∉T):ChO I V cb cls cap L:=by
 obtain⟨F,⟨sv,g1,g2,g3,rfl⟩,hI⟩:=h
 exact⟨_,⟨sv,hk cb _ _ (hI cb (by simp)) g1 h1,hk.row g2 (fun k hk=>hI k (by simp[hk])) h2,g3,rfl⟩,hI⟩
abbrev pv (cb:Nat):Value:=.pointer (some ⟨cb,0,none⟩)
def RowC (I:Nat→Prop) (W:World) (cls cap:Int) (cells:List Value) (Ls:List (List ByteArray)):Prop:=cells.length=Ls.length∧∀ (k:Nat) L,Ls[k]?=some L→∃ cb,cells[k]?=some (pv cb)∧ChO I W cb cls cap L
def RowO (I:Nat→Prop) (W:World) (cls cap:Int) (r:Value) (Ls:List (List ByteArray)):Prop:=∃ base cells,W.ownsRow base 130 1 r Ls.length cells∧(∀ k,r.ownBlock=some k→I k)∧RowC I W cls cap cells Ls
theorem RowC.kp {cls cap:Int} {cells:List Value} {Ls:List (List ByteArray)} (h:RowC I W cls cap cells Ls) (hk:Kp I T W V) (h1:233∉T) (h2:9∉T):RowC I V cls cap cells Ls:=by
 refine⟨h.1,fun k L hL=>?_⟩
 obtain⟨cb,g1,g2⟩:=h.2 k L hL
 exact⟨cb,g1,g2.kp hk h1 h2⟩
theorem snoc_at {α:Type} {l:List α} {x y:α} {k:Nat} (h:(l ++ [x])[k]?=some y):l[k]?=some y∨(k=l.length∧y=x):=by
 by_cases hk:k < l.length
 ·rw[List.getElem?_append_left hk] at h;exact .inl h
 ·rw[List.getElem?_append_right (by omega)] at h
  have hl:=lt_of_some h
  simp at hl
  have e:k - l.length=0:=by omega
  rw[e] at h
  simp at h
  exact .inr ⟨by omega,h.symm⟩
theorem RowC.snoc {cls cap:Int} {cells:List Value} {Ls:List (List ByteArray)} {cb:Nat} {L:List ByteArray} (h:RowC I W cls cap cells Ls) (hc:ChO I W cb cls cap L):RowC I W cls cap (cells ++ [pv cb]) (Ls ++ [L]):=by
 refine⟨by simp[h.1],fun k L' hL=>?_⟩
 rcases snoc_at hL with hL | ⟨rfl,rfl⟩
 ·obtain⟨cb',g1,g2⟩:=h.2 k L' hL
  exact⟨cb',by rw[List.getElem?_append_left (lt_of_some g1)];exact g1,g2⟩
 ·exact⟨cb,by rw[← h.1];simp,hc⟩
theorem RowC.nil {cls cap:Int}:RowC I W cls cap [] []:=⟨rfl,fun k L h=>by simp at h⟩
theorem RowO.kp {cls cap:Int} {r:Value} {Ls:List (List ByteArray)} (h:RowO I W cls cap r Ls) (hk:Kp I T W V) (h1:233∉T) (h2:9∉T) (h3:130∉T):RowO I V cls cap r Ls:=by
 obtain⟨base,cells,g1,g2,g3⟩:=h
 exact⟨base,cells,hk.row g1 g2 h3,g2,g3.kp hk h1 h2⟩
theorem own_cell {base e n:Nat} {v:Value} {xs:List Value} {size:Nat} (h:W.ownsRow base e size v n xs) {j:Nat} {u:Value} (hu:xs[j]?=some u):∃ g cap,v=.slice (some ⟨g,0,none⟩) n cap∧W.cell? ⟨g,j,none⟩=some u:=by
 obtain⟨h0,h2⟩:=h
 have hl:=lt_of_some hu
 rcases h2 with ⟨-,h2⟩ | ⟨g,cap,cur,rfl,hg,hh,-,-,-,ht⟩
 ·rw[h0,h2] at hl;omega
 ·refine⟨g,cap,rfl,?_⟩
  rw[cell_of hh,← Array.getElem?_toList]
  rw[← List.getElem?_take_of_lt (j:=n * size) (by rw[← h0];exact hl),ht]
  exact hu
theorem RowO.rowV {cls cap:Int} {r:Value} {Ls:List (List ByteArray)} (h:RowO I W cls cap r Ls):RowV cls cap W r Ls:=by
 obtain⟨base,cells,g1,g2,g3⟩:=h
 obtain⟨ao,cp,rfl⟩:=own_shape g1
 refine⟨ao,cp,rfl,fun k L hL=>?_⟩
 obtain⟨cb,k1,F,k2,-⟩:=g3.2 k L hL
 obtain⟨g,c,e,hc⟩:=own_cell g1 k1
 cases e
 exact⟨g,0,rfl,cb,F,by rw[Nat.zero_add,Nat.mul_one];exact hc,k2⟩
def WayC (I:Nat→Prop) (W:World) (cls cap:Int) (cells:List Value) (Ws:List (List (List ByteArray))):Prop:=cells.length=Ws.length∧∀ (k:Nat) R,Ws[k]?=some R→∃ r,cells[k]?=some r∧RowO I W cls cap r R
def WaysO (I:Nat→Prop) (W:World) (cls cap:Int) (v:Value) (Ws:List (List (List ByteArray))):Prop:=∃ base cells,W.ownsRow base 191 1 v Ws.length cells∧(∀ k,v.ownBlock=some k→I k)∧WayC I W cls cap cells Ws
theorem WayC.kp {cls cap:Int} {cells:List Value} {Ws:List (List (List ByteArray))} (h:WayC I W cls cap cells Ws) (hk:Kp I T W V) (h1:233∉T) (h2:9∉T) (h3:130∉T):WayC I V cls cap cells Ws:=by
 refine⟨h.1,fun k L hL=>?_⟩
 obtain⟨cb,g1,g2⟩:=h.2 k L hL
 exact⟨cb,g1,g2.kp hk h1 h2 h3⟩
theorem WayC.snoc {cls cap:Int} {cells:List Value} {Ws:List (List (List ByteArray))} {r:Value} {R:List (List ByteArray)} (h:WayC I W cls cap cells Ws) (hc:RowO I W cls cap r R):WayC I W cls cap (cells ++ [r]) (Ws ++ [R]):=by
 refine⟨by simp[h.1],fun k L' hL=>?_⟩
 rcases snoc_at hL with hL | ⟨rfl,rfl⟩
 ·obtain⟨cb',g1,g2⟩:=h.2 k L' hL
  exact⟨cb',by rw[List.getElem?_append_left (lt_of_some g1)];exact g1,g2⟩
 ·exact⟨r,by rw[← h.1];simp,hc⟩
theorem WayC.nil {cls cap:Int}:WayC I W cls cap [] []:=⟨rfl,fun k L h=>by simp at h⟩
theorem WaysO.kp {cls cap:Int} {r:Value} {Ls:List (List (List ByteArray))} (h:WaysO I W cls cap r Ls) (hk:Kp I T W V) (h1:233∉T) (h2:9∉T) (h3:130∉T) (h4:191∉T):WaysO I V cls cap r Ls:=by
 obtain⟨base,cells,g1,g2,g3⟩:=h
 exact⟨base,cells,hk.row g1 g2 h4,g2,g3.kp hk h1 h2 h3⟩
theorem WaysO.arr {cls cap:Int} {v:Value} {Ws:List (List (List ByteArray))} (h:WaysO I W cls cap v Ws):Arr 1 (RwAt cls cap) W v Ws:=by
 obtain⟨base,cells,g1,g2,g3⟩:=h
 obtain⟨ao,cp,rfl⟩:=own_shape g1
 refine⟨ao,cp,rfl,fun k L hL=>?_⟩
 obtain⟨r,k1,k2⟩:=g3.2 k L hL
 obtain⟨g,c,e,hc⟩:=own_cell g1 k1
 cases e
 exact⟨g,0,rfl,r,by rw[Nat.zero_add,Nat.mul_one];exact hc,k2.rowV⟩
def BkO (I:Nat→Prop) (W:World) (bb:Nat) (l:List (CtrD × Int)):Prop:=∃ g,BnkO W bb g l∧I bb∧I g
theorem BnkO.kp {bb g:Nat} {l:List (CtrD × Int)} (h:BnkO W bb g l) (hk:Kp I T W V) (i1:I bb) (i2:I g) (h1:248∉T) (h2:246∉T):BnkO V bb g l:=by
 obtain⟨⟨lv,k1,k2⟩,h3⟩:=h
 rcases h3 with rfl | ⟨cap,cur,k3,k4⟩
 ·obtain⟨ao,c,rfl,-⟩:=k2
  exact⟨⟨_,hk _ _ _ i1 k1 h1,Arr.nil _ _ _⟩,.inl rfl⟩
 ·rw[k1] at k3
  cases k3
  have k5:=hk _ _ _ i2 k4 h2
  have e5:V.heap[g]?=W.heap[g]?:=by rw[k4,k5]
  refine⟨⟨_,hk _ _ _ i1 k1 h1,?_⟩,.inr ⟨cap,cur,hk _ _ _ i1 k1 h1,k5⟩⟩
  obtain⟨ao,c,e,hx⟩:=k2
  refine⟨ao,c,e,fun i x hi=>?_⟩
  obtain⟨b,o,e2,a0,a1,a2⟩:=hx i x hi
  rw[e2] at e
  cases e
  exact⟨g,0,e2,cell_eq a0 e5,cell_eq a1 e5,cell_eq a2 e5⟩
theorem BkO.kp {bb:Nat} {l:List (CtrD × Int)} (h:BkO I W bb l) (hk:Kp I T W V) (h1:248∉T) (h2:246∉T):BkO I V bb l:=by
 obtain⟨g,g1,g2,g3⟩:=h
 exact⟨g,g1.kp hk g2 g3 h1 h2,g2,g3⟩
theorem BkO.bnk {bb:Nat} {l:List (CtrD × Int)} (h:BkO I W bb l):Bnk W bb l:=by
 obtain⟨g,g1,g2,g3⟩:=h
 exact g1.bnk
theorem GO.bko {w:World} {bb:Nat} {l:List (CtrD × Int)} (h:GO 248 246 3 w bb 1 #[.bool true,undef] l.length (cnC l) W) (hI:∀ k,w.heap.size≤k→I k):BkO I W bb l:=by
 have hb:=GO.bnk h
 obtain⟨ao,cap,h1,h2⟩:=h.bx
 by_cases hl:l=[]
 ·exact⟨bb,⟨hb,.inl hl⟩,hI _ h.new,hI _ h.new⟩
 ·obtain⟨g,cp,cur,e,hg,hh⟩:=own_block h2 (by simpa using hl)
  cases e
  exact⟨g,⟨hb,.inr ⟨_,cur,h1,hh⟩⟩,hI _ h.new,hI _ hg⟩
def ActC (I:Nat→Prop) (W:World) (cells:List Value) (As:List (Int × List (CtrD × Int))):Prop:=cells.length=As.length * 2∧∀ (i:Nat) a,As[i]?=some a→∃ bb,cells[i * 2]?=some (.int .i64 a.1)∧cells[i * 2 + 1]?=some (pv bb)∧BkO I W bb a.2
def ActsO (I:Nat→Prop) (W:World) (v:Value) (As:List (Int × List (CtrD × Int))):Prop:=∃ base cells,W.ownsRow base 143 2 v As.length cells∧(∀ k,v.ownBlock=some k→I k)∧ActC I W cells As
theorem ActC.kp {cells:List Value} {As:List (Int × List (CtrD × Int))} (h:ActC I W cells As) (hk:Kp I T W V) (h1:248∉T) (h2:246∉T):ActC I V cells As:=by
 refine⟨h.1,fun i a ha=>?_⟩
 obtain⟨bb,g1,g2,g3⟩:=h.2 i a ha
 exact⟨bb,g1,g2,g3.kp hk h1 h2⟩
theorem ActC.snoc {cells:List Value} {As:List (Int × List (CtrD × Int))} {p:Int} {bb:Nat} {l:List (CtrD × Int)} (h:ActC I W cells As) (hb:BkO I W bb l):ActC I W (cells ++ [.int .i64 p,pv bb]) (As ++ [(p,l)]):=by
 refine⟨by simp[h.1];omega,fun i a ha=>?_⟩
 rcases snoc_at ha with ha | ⟨rfl,rfl⟩
 ·obtain⟨bb',g1,g2,g3⟩:=h.2 i a ha
  exact⟨bb',by rw[List.getElem?_append_left (lt_of_some g1)];exact g1,by rw[List.getElem?_append_left (lt_of_some g2)];exact g2,g3⟩
 ·refine⟨bb,?_,?_,hb⟩
  ·rw[List.getElem?_append_right (by rw[h.1];omega),h.1];simp
  ·rw[List.getElem?_append_right (by rw[h.1];omega),h.1,show As.length * 2 + 1 - As.length * 2=1 by omega];simp
theorem ActC.nil:ActC I W [] []:=⟨rfl,fun k L h=>by simp at h⟩
theorem ActsO.kp {v:Value} {As:List (Int × List (CtrD × Int))} (h:ActsO I W v As) (hk:Kp I T W V) (h1:248∉T) (h2:246∉T) (h3:143∉T):ActsO I V v As:=by
 obtain⟨base,cells,g1,g2,g3⟩:=h
 exact⟨base,cells,hk.row g1 g2 h3,g2,g3.kp hk h1 h2⟩
theorem ActsO.arr {v:Value} {As:List (Int × List (CtrD × Int))} (h:ActsO I W v As):Arr 2 AcAt W v As:=by
 obtain⟨base,cells,g1,g2,g3⟩:=h
 obtain⟨ao,cp,rfl⟩:=own_shape g1
 refine⟨ao,cp,rfl,fun i a ha=>?_⟩
 obtain⟨bb,k1,k2,k3⟩:=g3.2 i a ha
 obtain⟨g,c,e,hc⟩:=own_cell g1 k1
 cases e
 obtain⟨g',c',e',hc'⟩:=own_cell g1 k2
 cases e'
 exact⟨g,0,rfl,bb,by rw[Nat.zero_add];exact hc,by rw[Nat.zero_add];exact hc',k3.bnk⟩
structure StO (I:Nat→Prop) (W:World) (s:SesD) (yb sb:Nat) (x:PS):Prop where
 out:∃ av wv,W.heap[sb]?=some (.cells #[pv yb,av,wv] 147 (0,0))∧I sb∧ActsO I W av (actsP s x)∧WaysO I W s.cls s.cap wv x.ways
 ok:PSok s x
theorem StO.str {s:SesD} {yb sb:Nat} {x:PS} (h:StO I W s yb sb x):StR W s yb sb x:=by
 obtain⟨av,wv,h1,h2,h3,h4⟩:=h.out
 exact⟨⟨av,wv,h1,h3.arr,h4.arr⟩,h.ok⟩
theorem StO.kp {s:SesD} {yb sb:Nat} {x:PS} (h:StO I W s yb sb x) (hk:Kp I [] W V):StO I V s yb sb x:=by
 obtain⟨av,wv,h1,h2,h3,h4⟩:=h.out
 exact⟨⟨av,wv,hk sb _ _ h2 h1 (by simp),h2,h3.kp hk (by simp) (by simp) (by simp),h4.kp hk (by simp) (by simp) (by simp) (by simp)⟩,h.ok⟩
end
end Go.Proofs.YtohfkhjlnlahdaaGreat
namespace Go.Proofs.YtohfkhjlnlahdaaGreat
open Go.RowKit Go.BigFrame Go.Maps
def ndC1 (d:Nd × Nat):List Value:=[.pointer (some ⟨d.2,0,none⟩),.int .i64 d.1.par,.int .i64 d.1.mv.kind,.int .i64 d.1.mv.role,.int .i64 d.1.mv.step,.int .i64 d.1.mv.place,.int .i64 d.1.lvl]
abbrev ndV (d:Nd × Nat):Value:=.agg #[.pointer (some ⟨d.2,0,none⟩),.int .i64 d.1.par,.int .i64 d.1.mv.kind,.int .i64 d.1.mv.role,.int .i64 d.1.mv.step,.int .i64 d.1.mv.place,.int .i64 d.1.lvl]
def ndC (N:List (Nd × Nat)):List Value:=N.flatMap ndC1
theorem ndC_length (N:List (Nd × Nat)):(ndC N).length=N.length * 7:=by
 induction N with
 | nil=>rfl
 | cons d N ih=>unfold ndC at ih ⊢;rw[List.flatMap_cons,List.length_append,ih];simp[ndC1];omega
theorem ndC_append (A B:List (Nd × Nat)):ndC (A ++ B)=ndC A ++ ndC B:=by unfold ndC;rw[List.flatMap_append]
theorem ndC_one (d:Nd × Nat):ndC [d]=ndC1 d:=by unfold ndC;simp
theorem ndC_at {N:List (Nd × Nat)}:∀ {i:Nat} {d:Nd × Nat},N[i]?=some d→∀ j,j < 7→(ndC N)[i * 7 + j]?=(ndC1 d)[j]?:=by
 induction N with
 | nil=>intro i d h;simp at h
 | cons a N ih =>
   intro i d h j hj
   have e:ndC (a :: N)=ndC1 a ++ ndC N:=rfl
   have h7:(ndC1 a).length=7:=rfl
   rw[e]
   cases i with
   | zero=>simp at h;subst h;rw[List.getElem?_append_left (by omega)];congr 1;omega
   | succ i=>rw[List.getElem?_append_right (by omega),h7,show (i + 1) * 7 + j - 7=i * 7 + j by omega];exact ih (by simpa using h) j hj
structure NdAt (W:World) (b o:Nat) (d:Nd × Nat):Prop where
 c0:W.cell? ⟨b,o,none⟩=some (.pointer (some ⟨d.2,0,none⟩))
 c1:W.cell? ⟨b,o + 1,none⟩=some (.int .i64 d.1.par)
 c2:W.cell? ⟨b,o + 2,none⟩=some (.int .i64 d.1.mv.kind)
 c3:W.cell? ⟨b,o + 3,none⟩=some (.int .i64 d.1.mv.role)
 c4:W.cell? ⟨b,o + 4,none⟩=some (.int .i64 d.1.mv.step)
 c5:W.cell? ⟨b,o + 5,none⟩=some (.int .i64 d.1.mv.place)
 c6:W.cell? ⟨b,o + 6,none⟩=some (.int .i64 d.1.lvl)
theorem NdAt.frm {W V:World} {b o:Nat} {d:Nd × Nat} (h:NdAt W b o d) (hf:Frm [] W V):NdAt V b o d:=⟨hf.keep h.c0,hf.keep h.c1,hf.keep h.c2,hf.keep h.c3,hf.keep h.c4,hf.keep h.c5,hf.keep h.c6⟩
theorem nd_arr {W:World} {base:Nat} {v:Value} {N:List (Nd × Nat)} (h:W.ownsRow base 216 7 v N.length (ndC N)):Arr 7 NdAt W v N:=by
 obtain⟨ao,cap,rfl⟩:=own_shape h
 refine⟨ao,cap,rfl,fun i d hd=>?_⟩
 have hl:=lt_of_some hd
 obtain⟨g,c,cur,e,-,-⟩:=own_block h (by omega)
 cases e
 have hc:=fun j hj=>World.ownsRow.cellAt h j hj
 have a:=ndC_at hd
 have hlen:=ndC_length N
 refine⟨g,0,rfl,?_⟩
 rw[Nat.zero_add]
 have k:∀ j u,j < 7→(ndC1 d)[j]?=some u→W.cell? ⟨g,i * 7 + j,none⟩=some u:=fun j u hj hu=>(hc _ (by omega)).trans ((a j hj).trans hu)
 exact⟨k 0 _ (by omega) rfl,k 1 _ (by omega) rfl,k 2 _ (by omega) rfl,k 3 _ (by omega) rfl,k 4 _ (by omega) rfl,k 5 _ (by omega) rfl,k 6 _ (by omega) rfl⟩
def findP (s:SesD) (N:List Nd) (k:List UInt8):Option Nat:=N.findIdx? fun d=>decide (keyP s d.st=k)
def keyF (s:SesD) (N:List Nd):Lit→Option Value
 | .string k=>(findP s N k).map fun i=>.int .i64 (i:Nat)
 | _=>none
theorem findP_none {s:SesD} {N:List Nd} {k:List UInt8}:(findP s N k).isSome=hasK s N k:=by
 unfold findP hasK
 rw[List.findIdx?_isSome]
theorem keyF_nil (s:SesD):keyF s []=fun _=>none:=by
 funext k
 cases k <;> rfl
theorem keyF_snoc {s:SesD} {N:List Nd} {d:Nd} (h:hasK s N (keyP s d.st)=false):keyF s (N ++ [d])=updL (keyF s N) (.string (keyP s d.st)) (some (.int .i64 (N.length:Nat))):=by
 funext k
 by_cases e:k=.string (keyP s d.st)
 ·subst e
  rw[updL_same]
  have h0:findP s N (keyP s d.st)=none:=by rw[← Option.not_isSome_iff_eq_none,findP_none,h];simp
  unfold findP at h0
  simp only[keyF,findP,List.findIdx?_append,h0]
  simp[List.findIdx?_cons]
 ·rw[updL_other _ _ e]
  cases k with
  | string b =>
    have hne:¬ keyP s d.st=b:=fun e'=>e (by rw[e'])
    simp only[keyF,findP,List.findIdx?_append]
    simp[List.findIdx?_cons,hne]
  | _=>rfl
def NdG (W:World) (u:Value):Prop:=(∀ x,u≠.string x)∧(∀ a n c,u≠.slice a n c)∧∀ p,u=.pointer (some ⟨p,0,none⟩)→Ty W p 147
theorem NdG.frm {W V:World} {F:List Nat} {u:Value} (h:NdG W u) (hf:Frm F W V) (hn:∀ p,Ty W p 147→p∉F):NdG V u:=⟨h.1,h.2.1,fun p e=>(h.2.2 p e).frm hf (hn p (h.2.2 p e))⟩
structure SpR (w:World) (s:SesD) (yb:Nat) (lim:Int) (whole:Bool) (qb mb:Nat) (N:List (Nd × Nat)) (W:World):Prop where
 fr:Frm [] w W
 lq:w.heap.size≤qb
 lm:w.heap.size≤mb
 bx:∃ ao cap,W.heap[qb]?=some (.cells #[.int .i64 lim,.bool whole,.slice ao N.length cap,.map (some mb)] 214 (0,0))∧W.ownsRow w.heap.size 216 7 (.slice ao N.length cap) N.length (ndC N)∧RowG (NdG W) 216 (.slice ao N.length cap) W
 mp:MapAt Tryz.prog 9 W (some mb) N.length (keyF s (N.map Prod.fst)) N.length
 st:∀ d∈N,StR W s yb d.2 d.1.st
structure SpO (W:World) (s:SesD) (yb:Nat) (whole:Bool) (pb:Nat) (N:List (Nd × Nat)):Prop where
 out:∃ qb mb lim ao cap,W.heap[pb]?=some (.cells #[.pointer (some ⟨qb,0,none⟩)] 219 (0,0))∧W.heap[qb]?=some (.cells #[.int .i64 lim,.bool whole,.slice ao N.length cap,.map (some mb)] 214 (0,0)) ∧
  Arr 7 NdAt W (.slice ao N.length cap) N∧MapAt Tryz.prog 9 W (some mb) N.length (keyF s (N.map Prod.fst)) N.length
 st:∀ d∈N,StR W s yb d.2 d.1.st
def RowOf (W:World) (qb k:Nat):Prop:=∃ a b v m,W.heap[qb]?=some (.cells #[a,b,v,m] 214 (0,0))∧v.ownBlock=some k
def SpB (W:World) (qb b:Nat):Prop:=FgB W b∧((∃ es c,W.heap[b]?=some (.map es c))∨Ty W b 214∨(Ty W b 216∧RowOf W qb b))
theorem cell_map {W:World} {b o:Nat} {es:Array MapEntry} {c:Nat} (h:W.heap[b]?=some (.map es c)):W.cell? ⟨b,o,none⟩=none:=by simp[World.cell?,h]
section
variable {w W V:World} {s:SesD} {yb qb mb pb:Nat} {lim:Int} {whole:Bool} {N:List (Nd × Nat)}
theorem SpR.frm (h:SpR w s yb lim whole qb mb N W) (hf:Frm [] W V):SpR w s yb lim whole qb mb N V:=by
 obtain⟨ao,cap,h1,h2,h3⟩:=h.bx
 refine⟨h.fr.trans hf,h.lq,h.lm,⟨ao,cap,hf.at h1 (by simp),hf.owns h2 (by simp),fun g cur hg hc u hu=>?_⟩,h.mp.frm hf (by simp),fun d hd=>(h.st d hd).frm hf⟩
 obtain⟨c,hc'⟩:=ownBlock_type h2 hg
 have:=hf.at hc' (by simp)
 rw[this] at hc
 cases hc
 exact(h3 g _ hg hc' u hu).frm hf (by simp)
theorem SpO.frm (h:SpO W s yb whole pb N) (hf:Frm [] W V):SpO V s yb whole pb N:=by
 obtain⟨qb,mb,lim,ao,cap,h1,h2,h3,h4⟩:=h.out
 exact⟨⟨qb,mb,lim,ao,cap,hf.at h1 (by simp),hf.at h2 (by simp),h3.frm fun _ _ _ h=>h.frm hf,h4.frm hf (by simp)⟩,fun d hd=>(h.st d hd).frm hf⟩
theorem SpR.done (h:SpR w s yb lim whole qb mb N W) (hp:W.heap[pb]?=some (.cells #[.pointer (some ⟨qb,0,none⟩)] 219 (0,0))):SpO W s yb whole pb N:=by
 obtain⟨ao,cap,h1,h2,h3⟩:=h.bx
 exact⟨⟨qb,mb,lim,ao,cap,hp,h1,nd_arr h2,h.mp⟩,h.st⟩
theorem SpR.fgm (h:SpR w s yb lim whole qb mb N W):SpB W qb mb:=by
 obtain⟨es,c,hb⟩:=h.mp.block rfl
 exact⟨⟨fun C t e=>(by rw[hb] at e;cases e),fun o x e=>(by rw[cell_map hb] at e;cases e),fun o p e=>(by rw[cell_map hb] at e;cases e),fun o g o' p n c e=>(by rw[cell_map hb] at e;cases e)⟩,.inl ⟨_,_,hb⟩⟩
theorem SpR.fgq (h:SpR w s yb lim whole qb mb N W):SpB W qb qb:=by
 obtain⟨ao,cap,h1,h2,h3⟩:=h.bx
 have c:=fun o=>cell_of h1 o
 refine⟨⟨fun C t e=>?_,fun o x e=>?_,fun o p e=>?_,fun o g o' p n c' e e2=>?_⟩,.inr (.inl ⟨_,h1⟩)⟩
 ·rw[h1] at e;cases e;decide
 ·rw[c] at e
  match o,e with
  | 0,e=>cases e
  | 1,e=>cases e
  | 2,e=>cases e
  | 3,e=>cases e
  | o + 4,e=>simp at e
 ·rw[c] at e
  match o,e with
  | 0,e=>cases e
  | 1,e=>cases e
  | 2,e=>cases e
  | 3,e=>cases e
  | o + 4,e=>simp at e
 ·rw[c] at e
  match o,e with
  | 0,e=>cases e
  | 1,e=>cases e
  | 2,e =>
    cases e
    obtain⟨cu,hcu⟩:=ownBlock_type h2 rfl
    have hu:∃ u∈cu,u=Value.pointer (some ⟨p,0,none⟩):=by
     rw[cell_of hcu] at e2
     exact⟨_,Array.mem_of_getElem? e2,rfl⟩
    obtain⟨u,hu,rfl⟩:=hu
    obtain⟨d,hd⟩:=(h3 g _ rfl hcu _ hu).2.2 p rfl
    intro C t e3
    rw[hd] at e3;cases e3
    decide
  | 3,e=>cases e
  | o + 4,e=>simp at e
theorem SpR.fgr {ao:Option Addr} {cap g:Nat} (h1:W.heap[qb]?=some (.cells #[.int .i64 lim,.bool whole,.slice ao N.length cap,.map (some mb)] 214 (0,0))) (h2:W.ownsRow w.heap.size 216 7 (.slice ao N.length cap) N.length (ndC N)) (h3:RowG (NdG W) 216 (.slice ao N.length cap) W) (hg:(Value.slice ao N.length cap).ownBlock=some g):SpB W qb g:=by
 obtain⟨cu,hcu⟩:=ownBlock_type h2 hg
 have k:∀ o u,W.cell? ⟨g,o,none⟩=some u→NdG W u:=fun o u e=>by
  rw[cell_of hcu] at e
  exact h3 g _ hg hcu u (Array.mem_of_getElem? e)
 refine⟨⟨fun C t e=>?_,fun o x e=>(k o _ e).1 x rfl,fun o p e C t e2=>?_,fun o g o' p n c e=>absurd rfl ((k o _ e).2.1 _ _ _)⟩,.inr (.inr ⟨⟨_,hcu⟩,_,_,_,_,h1,hg⟩)⟩
 ·rw[hcu] at e;cases e;decide
 ·obtain⟨D,hD⟩:=(k o _ e).2.2 p rfl
  rw[hD] at e2;cases e2
  exact⟨by decide,by decide⟩
theorem SpB.at {F:List Nat} (hb:∀ b∈F,SpB W qb b) (hf:Frm F W V) {k:Nat} {C:Array Value} {t:TypeId} (hk:W.heap[k]?=some (.cells C t (0,0))) (h1:t≠214) (h2:t≠216∨¬ RowOf W qb k):V.heap[k]?=some (.cells C t (0,0)):=
 hf.at hk fun hm=>by
  rcases (hb k hm).2 with ⟨es,c,e⟩ | ⟨D,e⟩ | ⟨⟨D,e⟩,e2⟩ <;> rw[hk] at e <;> cases e
  ·exact h1 rfl
  ·rcases h2 with h2 | h2
   ·exact h2 rfl
   ·exact h2 e2
theorem SpB.fg {F:List Nat} (hb:∀ b∈F,SpB W qb b):∀ b∈F,FgB W b:=fun b hm=>(hb b hm).1
theorem SpR.spB {ao:Option Addr} {cap:Nat} (h:SpR w s yb lim whole qb mb N W) (b1:W.heap[qb]?=some (.cells #[.int .i64 lim,.bool whole,.slice ao N.length cap,.map (some mb)] 214 (0,0))) (b2:W.ownsRow w.heap.size 216 7 (.slice ao N.length cap) N.length (ndC N)) (b3:RowG (NdG W) 216 (.slice ao N.length cap) W):∀ b∈mb :: qb :: (Value.slice ao N.length cap).ownBlock.toList,SpB W qb b:=fun b hb=>by
 rcases List.mem_cons.1 hb with rfl | hb
 ·exact h.fgm
 rcases List.mem_cons.1 hb with rfl | hb
 ·exact h.fgq
 rw[Option.mem_toList] at hb
 exact SpR.fgr b1 b2 b3 hb
theorem SpR.add {W1 W2 W3:World} {d:Nd} {sb:Nat} {ao:Option Addr} {cap:Nat} {v':Value} (h:SpR w s yb lim whole qb mb N W) (hs:0 < s.roles.length) (hd:StR W s yb sb d.st) (hk:hasK s (N.map Prod.fst) (keyP s d.st)=false)
  (b1:W.heap[qb]?=some (.cells #[.int .i64 lim,.bool whole,.slice ao N.length cap,.map (some mb)] 214 (0,0))) (b2:W.ownsRow w.heap.size 216 7 (.slice ao N.length cap) N.length (ndC N)) (b3:RowG (NdG W) 216 (.slice ao N.length cap) W)
  (hm:MapAt Tryz.prog 9 W1 (some mb) (N.length + 1) (updL (keyF s (N.map Prod.fst)) (.string (keyP s d.st)) (some (.int .i64 (N.length:Nat)))) (N.length + 1)) (f1:Frm [mb] W W1) (f2:Frm [] W1 W2)
  (hg:W2.grownBy W3 (Value.slice ao N.length cap).ownBlock) (ho:W3.ownsRow w.heap.size 216 7 v' (N.length + 1) (ndC N ++ ndC1 (d,sb))) (hG:RowG (NdG W2) 216 v' W3) :
  SpR w s yb lim whole qb mb (N ++ [(d,sb)]) (W3.setCell ⟨qb,2,none⟩ v')∧Frm (mb :: qb :: (Value.slice ao N.length cap).ownBlock.toList) W (W3.setCell ⟨qb,2,none⟩ v')∧(W3.setCell ⟨qb,2,none⟩ v').heap[qb]?=some (.cells #[.int .i64 lim,.bool whole,v',.map (some mb)] 214 (0,0)):=by
 obtain⟨F,hF⟩:∃ F,F=mb :: qb :: (Value.slice ao N.length cap).ownBlock.toList:=⟨_,rfl⟩
 have hB:∀ b∈F,SpB W qb b:=fun b hb=>h.spB b1 b2 b3 b (by rwa [hF] at hb)
 obtain⟨es,c,hmb⟩:=h.mp.block rfl
 have hne:qb≠mb:=fun e=>by subst e;rw[b1] at hmb;cases hmb
 have hrq:(Value.slice ao N.length cap).ownBlock≠some qb:=fun e=>by
  obtain⟨c,hc⟩:=ownBlock_type b2 e
  rw[b1] at hc;cases hc
 have g1:W2.heap[qb]?=some (.cells #[.int .i64 lim,.bool whole,.slice ao N.length cap,.map (some mb)] 214 (0,0)):=f2.at (f1.at b1 (by simpa using hne)) (by simp)
 have g2:=grown_at hg g1 hrq
 have hv:v'.ownBlock≠some qb:=fun e=>by
  obtain⟨c,hc⟩:=ownBlock_type ho e
  rw[g2] at hc;cases hc
 obtain⟨ao',cap',rfl⟩:=own_shape ho
 obtain⟨W4,hW4⟩:∃ W4,W3.setCell ⟨qb,2,none⟩ (.slice ao' (N.length + 1) cap')=W4:=⟨_,rfl⟩
 have f3:Frm F W W3:=((f1.mono (F':=F) (by rw[hF];simp)).then f2 (by simp)).grown hg fun k hk=>.inl (by rw[hF];simp[hk])
 have f4:Frm F W W4:=by rw[← hW4];exact f3.setCell _ (.inl (by rw[hF];simp)) _
 have hfg:=SpB.fg hB
 have hps:∀ {X:World},Frm F W X→∀ p,Ty W p 147→Ty X p 147:=fun hf p hp=>hp.frm hf fun hm=>by
  obtain⟨D,hD⟩:=hp
  exact FgB.ne hfg hD (by simp[sysT]) hm
 have f34:Frm [qb] W3 W4:=by rw[← hW4];exact(Frm.refl _ _).setCell _ (.inl (by simp)) _
 have g4:W4.heap[qb]?=some (.cells #[.int .i64 lim,.bool whole,.slice ao' (N.length + 1) cap',.map (some mb)] 214 (0,0)):=by rw[← hW4];exact(block_setCell g2 2 _).trans rfl
 have hlen:(N ++ [(d,sb)]).length=N.length + 1:=by simp
 have f2w:Frm F W W2:=(f1.mono (F':=F) (by rw[hF];simp)).then f2 (by simp)
 have hfr0:Frm [] w W4:=h.fr.then f4 fun x hx=>.inr (by
  rw[hF] at hx
  rcases List.mem_cons.1 hx with rfl | hx
  ·exact h.lm
  rcases List.mem_cons.1 hx with rfl | hx
  ·exact h.lq
  rw[Option.mem_toList] at hx
  exact ownBlock_ge b2 hx)
 rw[hW4]
 refine⟨⟨hfr0,h.lq,h.lm,⟨ao',cap',?_,?_,?_⟩,?_,fun e he=>?_⟩,by rw[← hF];exact f4,g4⟩
 ·rw[hlen];exact g4
 ·rw[hlen,ndC_append,ndC_one];exact f34.owns ho (by intro k hk hm;simp at hm;subst hm;exact hv hk)
 ·rw[hlen]
  intro g cur hgk hc u hu
  have hgq:g≠qb:=fun e=>hv (by rw[← e];exact hgk)
  obtain⟨cu,hcu⟩:=ownBlock_type ho hgk
  have hcu4:=f34.at hcu (by simpa using hgq)
  rw[hcu4] at hc
  cases hc
  have hu':=hG g _ hgk hcu u hu
  refine⟨hu'.1,hu'.2.1,fun p e=>?_⟩
  have h2:=hu'.2.2 p e
  by_cases hp:p < W.heap.size
  ·have:Ty W p 147:=by
    obtain⟨D,hD⟩:=h2
    by_cases hpm:p∈F
    ·exfalso
     have hD3:=hD
     rcases (hB p hpm).2 with ⟨es,c,e⟩ | ⟨D',e⟩ | ⟨⟨D',e⟩,-⟩
     ·have hpmb:p=mb:=by
       rw[hF] at hpm
       rcases List.mem_cons.1 hpm with rfl | hpm
       ·rfl
       rcases List.mem_cons.1 hpm with rfl | hpm
       ·rw[b1] at e;cases e
       rw[Option.mem_toList] at hpm
       obtain⟨c,hc⟩:=ownBlock_type b2 hpm
       rw[hc] at e;cases e
      subst hpmb
      obtain⟨es',c',e'⟩:=(hm.frm f2 (by simp)).block rfl
      rw[e'] at hD3;cases hD3
     ·have hpq:p≠mb:=fun e'=>by subst e';rw[hmb] at e;cases e
      rw[f2.at (f1.at e (by simpa using hpq)) (by simp)] at hD3
      cases hD3
     ·have hpq:p≠mb:=fun e'=>by subst e';rw[hmb] at e;cases e
      rw[f2.at (f1.at e (by simpa using hpq)) (by simp)] at hD3
      cases hD3
    ·have:=f2w.block p hp hpm
     rw[this] at hD
     exact⟨D,hD⟩
   exact hps f4 p this
  ·obtain⟨D,hD⟩:=h2
   have hpr:(Value.slice ao N.length cap).ownBlock≠some p:=fun e=>by
    have:=ownBlock_lt b2 e;omega
   have hD3:=grown_at hg hD hpr
   have hpq:p≠qb:=fun e=>by subst e;rw[g2] at hD3;cases hD3
   exact⟨D,f34.at hD3 (by simpa using hpq)⟩
 ·rw[hlen,List.map_append,List.map_cons,List.map_nil,keyF_snoc hk,List.length_map]
  refine hm.frm (F:=qb :: (Value.slice ao N.length cap).ownBlock.toList) ?_ ?_
  ·rw[← hW4]
   exact((f2.mono (F':=qb :: (Value.slice ao N.length cap).ownBlock.toList) (by simp)).grown hg fun k hk=>.inl (by simp[hk])).setCell _ (.inl (by simp)) _
  ·intro b hb hm'
   cases hb
   rcases List.mem_cons.1 hm' with e | hm'
   ·exact hne e.symm
   ·rw[Option.mem_toList] at hm'
    obtain⟨c,hc⟩:=ownBlock_type b2 hm'
    rw[hmb] at hc;cases hc
 ·rcases List.mem_append.1 he with he | he
  ·exact(h.st e he).fg hs hfg f4
  ·rw[List.mem_singleton] at he;subst he
   exact hd.fg hs hfg f4
end
end Go.Proofs.YtohfkhjlnlahdaaGreat
namespace Go.Proofs.YtohfkhjlnlahdaaGreat
open Go.RowKit Go.BigFrame Go.Maps
abbrev ndZ:Value:=.agg #[.pointer none,.int .i64 0,.int .i64 0,.int .i64 0,.int .i64 0,.int .i64 0,.int .i64 0]
section
variable {W V:World} {s:SesD} {yb pb:Nat} {whole:Bool} {N:List (Nd × Nat)} {po:Option Addr}
theorem xNone_any (h:SpO W s yb whole pb N):Calls Tryz.prog 120 #[.pointer (some ⟨pb,0,none⟩)] W (Ret (.bool false) (W=·)):=by
 obtain⟨qb,mb,lim,ao,cap,h1,-⟩:=h.out
 have c0:=cell_of h1 0
 clear h1 h
 go_enter Tryz.func120,Tryz.ntmps120
 go_wp2
 go_ret
 exact⟨rfl,rfl⟩
set_option maxRecDepth 100000 in
theorem xLen_any (h:SpO W s yb whole pb N):Calls Tryz.prog 95 #[.pointer (some ⟨pb,0,none⟩)] W (Ret (.int .i64 (N.length:Nat)) (Frm [] W)):=by
 have C1:=Lib.hid (xNone_any h)
 obtain⟨qb,mb,lim,ao,cap,h1,h2,-⟩:=h.out
 have c0:=cell_of h1 0
 have c2:=cell_of h2 2
 clear h1 h2 h
 go_enter Tryz.func95,Tryz.ntmps95
 go_wp2_with (first
  | (go_at_call 120;go_must (refine C1.out.mono ?_;rintro e w' ⟨rfl,rfl⟩)))
 go_ret
 exact⟨rfl,Frm.refl _ _⟩
theorem one_nd (p:Option Addr) (a b c d e f:Int):(#[.pointer p,.int .i64 a,.int .i64 b,.int .i64 c,.int .i64 d,.int .i64 e,.int .i64 f]:Array Value).all (·.oneCell')=true:=by
 rw[← Array.all_toList];rfl
theorem Tryz.infoNode:(Tryz.prog.info? 216).map (·.size)=some 7:=by kernel_rfl
set_option maxRecDepth 100000 in
theorem xNode_in (h:SpO W s yb whole pb N) {i:Nat} {d:Nd × Nat} (hd:N[i]?=some d) (h5:N.length≤1000000):Calls Tryz.prog 118 #[.pointer (some ⟨pb,0,none⟩),.int .i64 i] W (Ret (.tuple #[ndV d,.int .i64 0]) (Frm [] W)):=by
 have C1:Hid (∀ V,Frm [] W V→Calls Tryz.prog 120 #[.pointer (some ⟨pb,0,none⟩)] V (Ret (.bool false) (V=·))):=Lib.hid fun V hV=>xNone_any (h.frm hV)
 obtain⟨qb,mb,lim,ao,cap,h1,h2,h3,-⟩:=h.out
 obtain⟨b,o,rfl,hn⟩:=h3.get hd
 have hl:=lt_of_some hd
 have hl':(i:Int) < (N.length:Int):=by omega
 have hge:decide ((N.length:Int)≤(i:Int))=false:=decide_eq_false (by omega)
 have c0:=cell_of h1 0
 have c2:=cell_of h2 2
 have f0:=(Frm.refl [] W).alloc (.cells #[.pointer none,.int .i64 0,.int .i64 0,.int .i64 0,.int .i64 0,.int .i64 0,.int .i64 0] 216)
 have HA:=Lib.hid (heap_alloc_new W (.cells #[.pointer none,.int .i64 0,.int .i64 0,.int .i64 0,.int .i64 0,.int .i64 0,.int .i64 0] 216))
 obtain⟨W0,hW0⟩:∃ W0,W.alloc (.cells #[.pointer none,.int .i64 0,.int .i64 0,.int .i64 0,.int .i64 0,.int .i64 0,.int .i64 0] 216)=W0:=⟨_,rfl⟩
 rw[hW0] at f0 HA
 have C2:=Lib.hid (C1.out _ f0)
 have d0:W0.cell? ⟨pb,0,none⟩=some (.pointer (some ⟨qb,0,none⟩)):=f0.keep c0
 have d2:W0.cell? ⟨qb,2,none⟩=some (.slice (some ⟨b,o,none⟩) N.length cap):=f0.keep c2
 obtain⟨n0,n1,n2,n3,n4,n5,n6⟩:=hn.frm f0
 have HE:=Lib.hid hW0;have HF0:=Lib.hid f0
 clear h1 h2 h3 h hd c0 c2 C1 f0 hW0
 go_enter Tryz.func118,Tryz.ntmps118
 go_upto_region 1 with fail
 rw[HE.out]
 go_upto_region 5 with (first
  | (go_at_call 120;go_must (refine C2.out.mono ?_;rintro e w' ⟨rfl,rfl⟩)))
 go_wp2_with (first
  | (refine wpList_store_row rfl 216 _ _ rfl _ _ _ 216 rfl rfl HA.out rfl Tryz.infoNode (one_nd _ _ _ _ _ _ _) ?_;intro w2 hb2 hf2;have HB2:=Lib.hid hb2;have HF2:=Lib.hid hf2;clear hb2 hf2 n0 n1 n2 n3 n4 n5 n6;have r0:=cell_of HB2.out 0;have r1:=cell_of HB2.out 1;have r2:=cell_of HB2.out 2;have r3:=cell_of HB2.out 3;have r4:=cell_of HB2.out 4;have r5:=cell_of HB2.out 5;have r6:=cell_of HB2.out 6))
 refine bodyPost_ret (v:=.tuple #[ndV d,.int .i64 0]) (by simp[results,Tryz.results118,go_sem,r0,r1,r2,r3,r4,r5,r6]) rfl ?_
 exact⟨rfl,HF0.out.then HF2.out (by intro k hk;simp at hk;subst hk;exact .inr (Nat.le_refl _))⟩
theorem Tryz.zeroInt (w:World):(zeroValue 3).run Tryz.prog w=.ok (.int .i64 0) w:=
 (zero_of_info (show (Tryz.prog.info? 3).map (fun i=>(i.zero,i.size))=some (some (.int .i64 0),1) by kernel_rfl)).1 w
theorem Tryz.keyedS:Keyed Tryz.prog 9:=string_keyed Tryz.underlying9
theorem keyF_get (s:SesD) (N:List Nd) (k:List UInt8):(keyF s N (.string k)).getD (.int .i64 0)=.int .i64 ((findP s N k).getD 0:Nat)∧(keyF s N (.string k)).isSome=(findP s N k).isSome:=by
 have e:keyF s N (.string k)=(findP s N k).map fun i=>.int .i64 (i:Nat):=rfl
 rw[e]
 cases findP s N k <;> exact⟨rfl,rfl⟩
theorem SpO.look {W V:World} {mb:Nat} {n:Nat} (h4:MapAt Tryz.prog 9 W (some mb) n (keyF s (N.map Prod.fst)) n) (hf:Frm [] W V) (k:ByteArray) (hk:k.size≤maxLen) :
  (Instr.lookup 211 (.map (some mb)) (.string k) true).run Tryz.prog V=.ok (.tuple #[.int .i64 ((findP s (N.map Prod.fst) k.data.toList).getD 0:Nat),.bool (findP s (N.map Prod.fst) k.data.toList).isSome]) V:=by
 have h:=(h4.frm hf (by simp)).look_ok Tryz.keyedS Tryz.underlying211 (Tryz.zeroInt V) (WideMaps.keyOf_string_mk Tryz.underlying9 hk)
 obtain⟨e1,e2⟩:=keyF_get s (N.map Prod.fst) k.data.toList
 rw[e1,e2] at h
 exact h
end
end Go.Proofs.YtohfkhjlnlahdaaGreat
namespace Go.Proofs.YtohfkhjlnlahdaaGreat
open Go.RowKit Go.BigFrame
section
variable {P:Program} {n m l l0:Nat}
theorem room_any (l n:Nat):(Fence.wide.inRound l).room n:=fun _ h=>by simp[Fence.wide] at h
theorem callsIn_any {f:FuncId} {args:Array Value} {w:World} {R:Ending→World→Prop} (h:CallsIn Fence.wide m P f args w R):CallsIn (Fence.wide.inRound l) n P f args w R:=
 ⟨h.1,fun cs _=>h.2 cs (room_wide _)⟩
theorem roundIn_any {f:FuncId} {tmps:Array Value} {assign body:Code} {w:World} {R:Ending→World→Prop} (h:RoundIn (Fence.wide.inRound l0) n P l f tmps assign body w R):RoundIn Fence.wide m P l f tmps assign body w R:=
 ⟨h.1,fun c cs _=>h.2 c cs (room_any _ _)⟩
theorem yieldAt_any {args:Array Value} {w:World} {R:Ending→World→Prop} (h:YieldAt (Fence.wide.inRound l0) n P l args w R):YieldAt Fence.wide m P l args w R:=by
 obtain⟨fn,tmps,assign,body,h1,h2⟩:=h
 exact⟨fn,tmps,assign,body,h1,roundIn_any h2⟩
theorem wpIn_any {c:Code} {Q:Exit→Act→World→Prop} {a:Act} {w:World} (h:c.wpIn (Fence.wide.inRound l) m P Q a w):c.wpIn (Fence.wide.inRound l) n P Q a w:=
 fun b k cs h1 h2 _=>h b k cs h1 h2 (room_any _ _)
theorem Iter.inRound {α:Type} {g:Nat} {lb:Array Value} {encs:α→Array Value} {R:World→Prop} {xs:List α} (l0:Nat) (h:Iter Fence.wide 2 P g lb encs R xs):Iter (Fence.wide.inRound l0) n P g lb encs R xs:=
 fun l J Jx sJ sJx hJR hY W h0=>callsIn_any (h l J Jx sJ sJx hJR (fun pre x rest W hxs hj=>yieldAt_any (hY pre x rest W hxs hj)) W h0)
end
variable {P:Program}
theorem wpIn_rangeListN {α:Type} {g:Operand} {ps:Array Tmp} {assign body:Code} {Q:Exit→Act→World→Prop} {a:Act} {w:World} {l0:Nat} (hl0:∃ r,w.heap[l0]?=some (.loop r))
  {gf:Nat} {lb:Array Value} (hg:a.eval g=.func (.func gf) #[] lb) (eg:∀ args w,(callFunc gf args).run P w=.ok (.enter gf args) w)
  {encs:α→Array Value} {R:World→Prop} {xs:List α} (hit:Iter Fence.wide 2 P gf lb encs R xs) (hps:∀ x,(encs x).size=ps.size)
  (I:List α→World→Prop) (Ix:Code→List α→World→Prop) (sI:∀ s W W',I s W→Bk w.heap.size W W'→I s W') (sIx:∀ c s W W',Ix c s W→Bk w.heap.size W W'→Ix c s W')
  (hR:∀ s W,I s W→R W) (h0:I [] w)
  (hround:∀ (l:Nat) (pre:List α) (x:α) (rest:List α) (W:World),xs=pre ++ x :: rest→I pre W→w.heap.size≤l→(∃ r,W.heap[l]?=some (.loop r)) →
   assign.wpIn (Fence.wide.inRound l) 1 P (Exit.then (fun a' W'=>KB W W'∧∀ W2,Bk w.heap.size W' W2→(∃ r,W2.heap[l]?=some (.loop r))→body.wpIn (Fence.wide.inRound l) 1 P (roundEnd I Ix (pre ++ [x]) W2) a' W2) (fun _ _ _=>False))
    { tmps:=(ps.zip (encs x)).foldl (fun t (p,v)=>t.setIfInBounds p v) a.tmps,defers:=[] } W)
  (hdone:∀ (W:World),I xs W→Q .normal a W)
  (hstop:∀ (c:Code) (pre:List α) (x:α) (rest:List α) (W:World),xs=pre ++ x :: rest→Ix c (pre ++ [x]) W→c.wpIn (Fence.wide.inRound l0) 1 P Q a W) :
  (Code.rangeFunc g ps assign body).wpIn (Fence.wide.inRound l0) 1 P Q a w:=by
 obtain⟨r0,hl0⟩:=hl0
 refine wpIn_rangeFunc ?_
 intro fn hfn
 rw[show (Fence.wide.inRound l0).round=some l0 from rfl]
 obtain⟨rec,hrec⟩:∃ rec:LoopState→Option Code→Loop,rec=fun st pe=>{ state:=st,pending:=pe,fn,tmps:=a.tmps,params:=ps,assign,body,defers:=r0.defers }:=⟨_,rfl⟩
 obtain⟨W1,hW1⟩:∃ W1,w.alloc (.loop (rec .ready none))=W1:=⟨_,rfl⟩
 have hL1:W1.heap[w.heap.size]?=some (.loop (rec .ready none)):=by rw[← hW1];exact World.alloc_heap_new w _
 have hF1:Frm [] w W1:=by rw[← hW1];exact(Frm.refl _ _).alloc _
 have hI1:I [] W1:=sI _ _ _ h0 (hF1.bk _)
 refine⟨w.heap.size,[],W1,{ target:=.fn (.func gf) lb,args:=#[.func (.yield w.heap.size) #[] #[]] },W1,gf,
  #[.func (.yield w.heap.size) #[] #[]] ++ lb,W1,?_,?_,?_,?_,fun h=>by simp[Fence.wide] at h,?_⟩
 ·rw[← hW1,hrec];exact run_enterLoop_inner hl0 _ _ _ _ _
 ·simp only[resolve,hg]
  simp[go_sem]
 ·intro f' hf';trivial
 ·simp[invoke,go_sem,eg]
 ·refine((Iter.inRound (n:=0) l0 hit) w.heap.size
   (fun pre W=>I pre W∧W.heap[w.heap.size]?=some (.loop (rec .ready none)))
   (fun pre W=>∃ c,Ix c pre W∧W.heap[w.heap.size]?=some (.loop (rec .done (some c))))
   (fun pre W W' hJ hf=>⟨sI _ _ _ hJ.1 (hf.bk _),hf.at hJ.2 (by simp)⟩)
   (fun pre W W' ⟨c,hJ⟩ hf=>⟨c,sIx _ _ _ _ hJ.1 (hf.bk _),hf.at hJ.2 (by simp)⟩)
   (fun pre W hJ=>hR _ _ hJ.1) ?_ W1 ⟨hI1,hL1⟩).mono ?_
  ·rintro pre x rest W hxs ⟨hi,hl⟩
   have hy:=run_yield (P:=P) (args:=encs x) hl (by rw[hrec];exact hps x)
   rw[hrec] at hy
   refine⟨fn,_,assign,body,hy,roundIn_of_wpIn hfn (wpIn_any (l:=w.heap.size) (m:=1) (wpIn_mono (hround w.heap.size pre x rest W hxs hi (Nat.le_refl _) ⟨_,hl⟩) ?_))⟩
   intro e a' W' hp
   cases e with
   | normal =>
     obtain⟨hkb,hb⟩:=hp
     have hl':=hkb _ _ hl rfl
     have hlt:w.heap.size < W'.heap.size:=lt_of_block hl'
     refine⟨_,run_beginRound hl' (by rw[hrec]),?_⟩
     have hl2:(W'.putObj w.heap.size (.loop { rec .ready none with state:=.busy })).heap[w.heap.size]?=some (.loop { rec .ready none with state:=.busy }):=World.putObj_heap_same hlt
     refine wpIn_any (l:=w.heap.size) (m:=1) (wpIn_mono (hb _ (Bk.putObj W' _ hl' rfl (Nat.le_refl _)) ⟨_,hl2⟩) ?_)
     have fin:∀ (jump:Option Code) (W3:World),KB (W'.putObj w.heap.size (.loop { rec .ready none with state:=.busy })) W3 →
       (Instr.endRound w.heap.size jump).run P W3=.ok (.bool jump.isNone) (W3.putObj w.heap.size (.loop (rec (if jump.isNone then .ready else .done) jump))) ∧
       Bk w.heap.size W3 (W3.putObj w.heap.size (.loop (rec (if jump.isNone then .ready else .done) jump))) ∧
       (W3.putObj w.heap.size (.loop (rec (if jump.isNone then .ready else .done) jump))).heap[w.heap.size]?=some (.loop (rec (if jump.isNone then .ready else .done) jump)):=fun jump W3 hk3=>by
      have hl3:=hk3 _ _ hl2 rfl
      have:=run_endRound (P:=P) jump hl3
      rw[hrec] at this ⊢
      exact⟨this,Bk.putObj W3 _ hl3 rfl (Nat.le_refl _),World.putObj_heap_same (lt_of_block hl3)⟩
     rintro e a3 W3 hp
     cases e with
     | normal =>
       obtain⟨hk3,hi3⟩:=hp
       obtain⟨hr,hb3,hl4⟩:=fin none W3 hk3
       exact⟨_,_,hr,.inl ⟨rfl,sI _ _ _ hi3 hb3,hl4⟩⟩
     | ret =>
       obtain⟨hk3,hi3⟩:=hp
       obtain⟨hr,hb3,hl4⟩:=fin (some .ret) W3 hk3
       exact⟨_,_,hr,.inr ⟨rfl,.ret,sIx _ _ _ _ hi3 hb3,hl4⟩⟩
     | exit id =>
       obtain⟨hk3,hi3⟩:=hp
       obtain⟨hr,hb3,hl4⟩:=fin (some (.exit id)) W3 hk3
       exact⟨_,_,hr,.inr ⟨rfl,.exit id,sIx _ _ _ _ hi3 hb3,hl4⟩⟩
     | goto t =>
       obtain⟨hk3,hi3⟩:=hp
       obtain⟨hr,hb3,hl4⟩:=fin (some (.goto t)) W3 hk3
       exact⟨_,_,hr,.inr ⟨rfl,.goto t,sIx _ _ _ _ hi3 hb3,hl4⟩⟩
     | panic ch=>exact hp.elim
     | outgrown=>exact hp.elim
   | ret=>exact hp.elim
   | exit id=>exact hp.elim
   | goto t=>exact hp.elim
   | panic ch=>exact hp.elim
   | outgrown=>exact hp.elim
  ·rintro e W2 ⟨⟨v,rfl⟩,(⟨hi,hl⟩ | ⟨pre,x,rest,hxs,c,hi,hl⟩)⟩
   ·exact⟨none,_,by have:=run_endLoop (P:=P) hl (by rw[hrec];simp);rw[hrec] at this;exact this,hdone _ (sI _ _ _ hi (by rw[hrec] at hl;exact Bk.putObj W2 _ hl rfl (Nat.le_refl _)))⟩
   ·exact⟨some c,_,by have:=run_endLoop (P:=P) hl (by rw[hrec];simp);rw[hrec] at this;exact this,hstop c pre x rest _ hxs (sIx _ _ _ _ hi (by rw[hrec] at hl;exact Bk.putObj W2 _ hl rfl (Nat.le_refl _)))⟩
end Go.Proofs.YtohfkhjlnlahdaaGreat
namespace Go.Proofs.YtohfkhjlnlahdaaGreat
open Go.RowKit Go.BigFrame
theorem Bk.weak {B B':Nat} {w w':World} (h:Bk B w w') (hB:B'≤B):Bk B' w w':=⟨h.os,h.tape,h.output,h.size,fun k o hk ho=>h.block k o hk (ho.elim (fun h=>.inl (by omega)) .inr)⟩
structure Kc (T:TypeId→Prop) (B:Nat) (W W':World):Prop where
 size:W.heap.size≤W'.heap.size
 cells:∀ (k:Nat) (c:Array Value) (t:TypeId) (fr:Nat × Nat),W.heap[k]?=some (.cells c t fr)→¬ T t→W'.heap[k]?=some (.cells c t fr)
 books:∀ (k:Nat) (o:Obj),B≤k→W.heap[k]?=some o→isBook o=true→W'.heap[k]?=some o
section
variable {T:TypeId→Prop} {B B':Nat} {W W' W2:World}
theorem Kc.refl (T:TypeId→Prop) (B:Nat) (W:World):Kc T B W W:=⟨Nat.le_refl _,fun _ _ _ _ h _=>h,fun _ _ _ h _=>h⟩
theorem Kc.trans (h:Kc T B W W') (k:Kc T B W' W2):Kc T B W W2:=⟨Nat.le_trans h.size k.size,fun i c t fr hi ht=>k.cells i c t fr (h.cells i c t fr hi ht) ht,fun i o hB hi ho=>k.books i o hB (h.books i o hB hi ho) ho⟩
theorem Kc.low (h:Kc T B W W') (hB:B≤B'):Kc T B' W W':=⟨h.size,h.cells,fun k o hk=>h.books k o (by omega)⟩
theorem Kc.sub {T':TypeId→Prop} (h:Kc T B W W') (hT:∀ t,T t→T' t):Kc T' B W W':=⟨h.size,fun k c t fr hk ht=>h.cells k c t fr hk fun h2=>ht (hT t h2),h.books⟩
theorem Kc.frm (h:Frm [] W W'):Kc T B W W':=⟨h.size,fun _ _ _ _ hk _=>h.at hk (by simp),fun _ _ _ hk _=>h.at hk (by simp)⟩
theorem Kc.put {l:Nat} {o o':Obj} (h:Kc T B W W') (hl:W'.heap[l]?=some o) (ho:isBook o=true) (hB:l < B):Kc T B W (W'.putObj l o'):=by
 refine h.trans ⟨by simp[World.putObj],fun k c t fr hk _=>?_,fun k x hk hx _=>?_⟩
 ·have hne:k≠l:=fun e=>by subst e;rw[hl] at hk;cases hk;cases ho
  exact(World.putObj_heap_other hne).trans hk
 ·exact(World.putObj_heap_other (by omega)).trans hx
theorem Kc.set {b:Nat} {c:Array Value} {t:TypeId} {fr:Nat × Nat} (h:Kc T B W W') (hb:W'.heap[b]?=some (.cells c t fr)) (ht:T t) (o:Nat) (u:Value):Kc T B W (W'.setCell ⟨b,o,none⟩ u):=by
 have ne:∀ {k:Nat} {x:Obj},W'.heap[k]?=some x→(∀ c' t' fr',x=.cells c' t' fr'→¬ T t')→k≠b:=fun hk hx e=>by
  subst e
  rw[hb] at hk
  cases hk
  exact hx _ _ _ rfl ht
 refine h.trans ⟨by simp[World.setCell],fun k c' t' fr' hk ht'=>?_,fun k x _ hx hb'=>?_⟩
 ·exact(Below.heap_setCell _ _ _ _ (ne hk fun _ _ _ e=>by cases e;exact ht')).trans hk
 ·exact(Below.heap_setCell _ _ _ _ (ne hx fun _ _ _ e=>by subst e;cases hb')).trans hx
end
abbrev anyT:TypeId→Prop:=fun _=>True
def roundEndT {α:Type} (T:TypeId→Prop) (B:Nat) (I:List α→World→Prop) (Ix:Code→List α→World→Prop) (s:List α) (W:World):Exit→Act→World→Prop
 | .normal,_,W'=>Kc T B W W'∧I s W'
 | .ret,_,W'=>Kc anyT B W W'∧Ix .ret s W'
 | .exit id,_,W'=>Kc anyT B W W'∧Ix (.exit id) s W'
 | .goto t,_,W'=>Kc anyT B W W'∧Ix (.goto t) s W'
 | .panic _,_,_=>False
 | .outgrown,_,_=>False
def IterT {α:Type} (T:TypeId→Prop) (F:Fence) (n:Nat) (P:Program) (g:Nat) (lb:Array Value) (encs:α→Array Value) (R:World→Prop) (xs:List α):Prop:=
 ∀ (B l:Nat) (J Jx:List α→World→Prop),
   (∀ pre W W',J pre W→Bk B W W'→J pre W')→(∀ pre W W',Jx pre W→Bk B W W'→Jx pre W')→(∀ pre W,J pre W→R W) →
   (∀ pre x rest W,B≤W.heap.size→xs=pre ++ x :: rest→J pre W→YieldAt F (n - 1) P l (encs x) W fun e W' =>
    (e=.returned (.bool true)∧Kc T B W W'∧J (pre ++ [x]) W')∨(e=.returned (.bool false)∧Kc anyT B W W'∧Jx (pre ++ [x]) W')) →
   ∀ W,B≤W.heap.size→J [] W→CallsIn F n P g (#[.func (.yield l) #[] #[]] ++ lb) W fun e W'=>(∃ v,e=.returned v)∧(J xs W'∨∃ pre x rest,xs=pre ++ x :: rest∧Jx (pre ++ [x]) W')
theorem Iter.toT {α:Type} {T:TypeId→Prop} {F:Fence} {n:Nat} {P:Program} {g:Nat} {lb:Array Value} {encs:α→Array Value} {R:World→Prop} {xs:List α} (h:Iter F n P g lb encs R xs):IterT T F n P g lb encs R xs:=
 fun B l J Jx sJ sJx hJR hY W hB h0=>(h l (fun pre W=>J pre W∧B≤W.heap.size) Jx (fun pre W W' hj hf=>⟨sJ pre W W' hj.1 (hf.bk _),Nat.le_trans hj.2 hf.size⟩) (fun pre W W' hj hf=>sJx pre W W' hj (hf.bk _)) (fun pre W hj=>hJR pre W hj.1)
  (fun pre x rest W hxs hj=>(hY pre x rest W hj.2 hxs hj.1).mono fun e W' h=>by
   rcases h with ⟨h1,hc,h2⟩ | ⟨h1,-,h2⟩
   ·exact .inl ⟨h1,h2,Nat.le_trans hj.2 hc.size⟩
   ·exact .inr ⟨h1,h2⟩) W ⟨h0,hB⟩).mono fun e W' h=>⟨h.1,h.2.imp (fun h=>h.1) id⟩
section
variable {P:Program} {n m l l0:Nat}
theorem roundIn_fwd {f:FuncId} {tmps:Array Value} {assign body:Code} {w:World} {R:Ending→World→Prop} (h:RoundIn Fence.wide m P l f tmps assign body w R):RoundIn (Fence.wide.inRound l0) n P l f tmps assign body w R:=
 ⟨h.1,fun c cs _=>h.2 c cs (room_wide _)⟩
theorem yieldAt_fwd {args:Array Value} {w:World} {R:Ending→World→Prop} (h:YieldAt Fence.wide m P l args w R):YieldAt (Fence.wide.inRound l0) n P l args w R:=by
 obtain⟨fn,tmps,assign,body,h1,h2⟩:=h
 exact⟨fn,tmps,assign,body,h1,roundIn_fwd h2⟩
end
variable {F:Fence} {n:Nat} {P:Program}
theorem wpIn_rangeListT {α:Type} {T:TypeId→Prop} {g:Operand} {ps:Array Tmp} {assign body:Code} {Q:Exit→Act→World→Prop} {a:Act} {w:World}
  (hro:F.round=none) (h1:1≤n) {gf:Nat} {lb:Array Value} (hg:a.eval g=.func (.func gf) #[] lb) (hFg:F.fn gf) (eg:∀ args w,(callFunc gf args).run P w=.ok (.enter gf args) w)
  {encs:α→Array Value} {R:World→Prop} {xs:List α} (hit:IterT T F (n - 1) P gf lb encs R xs) (hps:∀ x,(encs x).size=ps.size)
  (I:List α→World→Prop) (Ix:Code→List α→World→Prop) (sI:∀ s W W',I s W→Bk w.heap.size W W'→I s W') (sIx:∀ c s W W',Ix c s W→Bk w.heap.size W W'→Ix c s W')
  (hR:∀ s W,I s W→R W) (h0:I [] w)
  (hround:∀ (l:Nat) (pre:List α) (x:α) (rest:List α) (W:World),xs=pre ++ x :: rest→I pre W→w.heap.size≤l→(∃ r,W.heap[l]?=some (.loop r)) →
   assign.wpIn (F.inRound l) (n - 1 - 1) P (Exit.then (fun a' W'=>Kc T w.heap.size W W'∧∀ W2,Bk w.heap.size W' W2→(∃ r,W2.heap[l]?=some (.loop r))→body.wpIn (F.inRound l) (n - 1 - 1) P (roundEndT T w.heap.size I Ix (pre ++ [x]) W2) a' W2) (fun _ _ _=>False))
    { tmps:=(ps.zip (encs x)).foldl (fun t (p,v)=>t.setIfInBounds p v) a.tmps,defers:=[] } W)
  (hdone:∀ (D:Nat) (W:World),w.heap.size≤D→I xs W→W.heap[D]?=some (.deferred (some []))→Q .normal { a with defers:={ target:=.collected D,args:=#[] } :: a.defers } W)
  (hstop:∀ (D:Nat) (c:Code) (pre:List α) (x:α) (rest:List α) (W:World),xs=pre ++ x :: rest→w.heap.size≤D→Ix c (pre ++ [x]) W→W.heap[D]?=some (.deferred (some []))→c.wpIn F n P Q { a with defers:={ target:=.collected D,args:=#[] } :: a.defers } W) :
  (Code.rangeFunc g ps assign body).wpIn F n P Q a w:=by
 refine wpIn_rangeFunc ?_
 intro fn hfn
 rw[hro]
 obtain⟨rec,hrec⟩:∃ rec:LoopState→Option Code→Loop,rec=fun st pe=>{ state:=st,pending:=pe,fn,tmps:=a.tmps,params:=ps,assign,body,defers:=w.heap.size }:=⟨_,rfl⟩
 obtain⟨W1,hW1⟩:∃ W1,(w.alloc (.deferred (some []))).alloc (.loop (rec .ready none))=W1:=⟨_,rfl⟩
 have hL1:W1.heap[w.heap.size + 1]?=some (.loop (rec .ready none)):=by
  rw[← hW1];have:=World.alloc_heap_new (w.alloc (.deferred (some []))) (.loop (rec .ready none));rwa [World.size_alloc] at this
 have hK1:W1.heap[w.heap.size]?=some (.deferred (some [])):=by
  rw[← hW1];exact(Below.heap_alloc _ _ _ (by simp)).trans (World.alloc_heap_new w _)
 have hF1:Frm [] w W1:=by rw[← hW1];exact((Frm.refl _ _).alloc _).alloc _
 have hI1:I [] W1:=sI _ _ _ h0 (hF1.bk _)
 refine⟨w.heap.size + 1,[{ target:=.collected w.heap.size,args:=#[] }],W1,{ target:=.fn (.func gf) lb,args:=#[.func (.yield (w.heap.size + 1)) #[] #[]] },W1,gf,
  #[.func (.yield (w.heap.size + 1)) #[] #[]] ++ lb,W1,?_,?_,?_,?_,fun _=>h1,?_⟩
 ·rw[← hW1,hrec];exact run_enterLoop_outer _ _ _ _ _
 ·simp only[resolve,hg]
  simp[go_sem]
 ·intro f' hf';simp[Target.leads] at hf';subst hf';exact hFg
 ·simp[invoke,go_sem,eg]
 ·have hsz:W1.heap.size=w.heap.size + 2:=by rw[← hW1];simp
  refine(hit W1.heap.size (w.heap.size + 1)
   (fun pre W=>I pre W∧W.heap[w.heap.size + 1]?=some (.loop (rec .ready none))∧W.heap[w.heap.size]?=some (.deferred (some [])))
   (fun pre W=>∃ c,Ix c pre W∧W.heap[w.heap.size + 1]?=some (.loop (rec .done (some c)))∧W.heap[w.heap.size]?=some (.deferred (some [])))
   (fun pre W W' hJ hf=>⟨sI _ _ _ hJ.1 (hf.weak (by omega)),hf.block _ _ hJ.2.1 (.inl (by omega)),hf.block _ _ hJ.2.2 (.inl (by omega))⟩)
   (fun pre W W' ⟨c,hJ⟩ hf=>⟨c,sIx _ _ _ _ hJ.1 (hf.weak (by omega)),hf.block _ _ hJ.2.1 (.inl (by omega)),hf.block _ _ hJ.2.2 (.inl (by omega))⟩)
   (fun pre W hJ=>hR _ _ hJ.1) ?_ W1 (Nat.le_refl _) ⟨hI1,hL1,hK1⟩).mono ?_
  ·rintro pre x rest W hBW hxs ⟨hi,hl,hk⟩
   have hy:=run_yield (P:=P) (args:=encs x) hl (by rw[hrec];exact hps x)
   rw[hrec] at hy
   refine⟨fn,_,assign,body,hy,roundIn_of_wpIn hfn (wpIn_mono (hround (w.heap.size + 1) pre x rest W hxs hi (by omega) ⟨_,hl⟩) ?_)⟩
   intro e a' W' hp
   cases e with
   | normal =>
     obtain⟨hkb,hb⟩:=hp
     have hl':=hkb.books _ _ (by omega) hl rfl
     have hk':=hkb.books _ _ (by omega) hk rfl
     have hlt:w.heap.size + 1 < W'.heap.size:=lt_of_block hl'
     refine⟨_,run_beginRound hl' (by rw[hrec]),?_⟩
     have hl2:(W'.putObj (w.heap.size + 1) (.loop { rec .ready none with state:=.busy })).heap[w.heap.size + 1]?=some (.loop { rec .ready none with state:=.busy }):=World.putObj_heap_same hlt
     have hk2:(W'.putObj (w.heap.size + 1) (.loop { rec .ready none with state:=.busy })).heap[w.heap.size]?=some (.deferred (some [])):=(World.putObj_heap_other (by omega)).trans hk'
     refine wpIn_mono (hb _ (Bk.putObj W' _ hl' rfl (by omega)) ⟨_,hl2⟩) ?_
     have fin:∀ (T':TypeId→Prop) (_:∀ t,T t→T' t) (jump:Option Code) (W3:World),Kc T' w.heap.size (W'.putObj (w.heap.size + 1) (.loop { rec .ready none with state:=.busy })) W3 →
       (Instr.endRound (w.heap.size + 1) jump).run P W3=.ok (.bool jump.isNone) (W3.putObj (w.heap.size + 1) (.loop (rec (if jump.isNone then .ready else .done) jump))) ∧
       Bk w.heap.size W3 (W3.putObj (w.heap.size + 1) (.loop (rec (if jump.isNone then .ready else .done) jump))) ∧
       (W3.putObj (w.heap.size + 1) (.loop (rec (if jump.isNone then .ready else .done) jump))).heap[w.heap.size + 1]?=some (.loop (rec (if jump.isNone then .ready else .done) jump)) ∧
       (W3.putObj (w.heap.size + 1) (.loop (rec (if jump.isNone then .ready else .done) jump))).heap[w.heap.size]?=some (.deferred (some [])) ∧
       Kc T' W1.heap.size W (W3.putObj (w.heap.size + 1) (.loop (rec (if jump.isNone then .ready else .done) jump))):=fun T' hTT jump W3 hk3=>by
      have hl3:=hk3.books _ _ (by omega) hl2 rfl
      have:=run_endRound (P:=P) jump hl3
      rw[hrec] at this ⊢
      exact⟨this,Bk.putObj W3 _ hl3 rfl (by omega),World.putObj_heap_same (lt_of_block hl3),(World.putObj_heap_other (by omega)).trans (hk3.books _ _ (by omega) hk2 rfl),
       ((((hkb.sub hTT).low (by omega)).put hl' rfl (by omega)).trans (hk3.low (by omega))).put hl3 rfl (by omega)⟩
     rintro e a3 W3 hp
     cases e with
     | normal =>
       obtain⟨hk3,hi3⟩:=hp
       obtain⟨hr,hb3,hl4,hk4,hc4⟩:=fin T (fun _ h=>h) none W3 hk3
       exact⟨_,_,hr,.inl ⟨rfl,hc4,sI _ _ _ hi3 hb3,hl4,hk4⟩⟩
     | ret =>
       obtain⟨hk3,hi3⟩:=hp
       obtain⟨hr,hb3,hl4,hk4,hc4⟩:=fin anyT (fun _ _=>trivial) (some .ret) W3 hk3
       exact⟨_,_,hr,.inr ⟨rfl,hc4,.ret,sIx _ _ _ _ hi3 hb3,hl4,hk4⟩⟩
     | exit id =>
       obtain⟨hk3,hi3⟩:=hp
       obtain⟨hr,hb3,hl4,hk4,hc4⟩:=fin anyT (fun _ _=>trivial) (some (.exit id)) W3 hk3
       exact⟨_,_,hr,.inr ⟨rfl,hc4,.exit id,sIx _ _ _ _ hi3 hb3,hl4,hk4⟩⟩
     | goto t =>
       obtain⟨hk3,hi3⟩:=hp
       obtain⟨hr,hb3,hl4,hk4,hc4⟩:=fin anyT (fun _ _=>trivial) (some (.goto t)) W3 hk3
       exact⟨_,_,hr,.inr ⟨rfl,hc4,.goto t,sIx _ _ _ _ hi3 hb3,hl4,hk4⟩⟩
     | panic ch=>exact hp.elim
     | outgrown=>exact hp.elim
   | ret=>exact hp.elim
   | exit id=>exact hp.elim
   | goto t=>exact hp.elim
   | panic ch=>exact hp.elim
   | outgrown=>exact hp.elim
  ·rintro e W2 ⟨⟨v,rfl⟩,(⟨hi,hl,hk⟩ | ⟨pre,x,rest,hxs,c,hi,hl,hk⟩)⟩
   ·exact⟨none,_,by have:=run_endLoop (P:=P) hl (by rw[hrec];simp);rw[hrec] at this;exact this,hdone _ _ (Nat.le_refl _) (sI _ _ _ hi (by rw[hrec] at hl;exact Bk.putObj W2 _ hl rfl (by omega))) ((World.putObj_heap_other (by omega)).trans hk)⟩
   ·exact⟨some c,_,by have:=run_endLoop (P:=P) hl (by rw[hrec];simp);rw[hrec] at this;exact this,hstop _ c pre x rest _ hxs (Nat.le_refl _) (sIx _ _ _ _ hi (by rw[hrec] at hl;exact Bk.putObj W2 _ hl rfl (by omega))) ((World.putObj_heap_other (by omega)).trans hk)⟩
theorem wp_rangeListT {α:Type} {T:TypeId→Prop} {g:Operand} {ps:Array Tmp} {assign body:Code} {Q:Exit→Act→World→Prop} {a:Act} {w:World}
  {gf:Nat} {lb:Array Value} (hg:a.eval g=.func (.func gf) #[] lb) (eg:∀ args w,(callFunc gf args).run P w=.ok (.enter gf args) w)
  {encs:α→Array Value} {R:World→Prop} {xs:List α} (hit:IterT T Fence.wide 2 P gf lb encs R xs) (hps:∀ x,(encs x).size=ps.size)
  (I:List α→World→Prop) (Ix:Code→List α→World→Prop) (sI:∀ s W W',I s W→Bk w.heap.size W W'→I s W') (sIx:∀ c s W W',Ix c s W→Bk w.heap.size W W'→Ix c s W')
  (hR:∀ s W,I s W→R W) (h0:I [] w)
  (hround:∀ (l:Nat) (pre:List α) (x:α) (rest:List α) (W:World),xs=pre ++ x :: rest→I pre W→w.heap.size≤l→(∃ r,W.heap[l]?=some (.loop r)) →
   assign.wpIn (Fence.wide.inRound l) 1 P (Exit.then (fun a' W'=>Kc T w.heap.size W W'∧∀ W2,Bk w.heap.size W' W2→(∃ r,W2.heap[l]?=some (.loop r))→body.wpIn (Fence.wide.inRound l) 1 P (roundEndT T w.heap.size I Ix (pre ++ [x]) W2) a' W2) (fun _ _ _=>False))
    { tmps:=(ps.zip (encs x)).foldl (fun t (p,v)=>t.setIfInBounds p v) a.tmps,defers:=[] } W)
  (hdone:∀ (D:Nat) (W:World),w.heap.size≤D→I xs W→W.heap[D]?=some (.deferred (some []))→Q .normal { a with defers:={ target:=.collected D,args:=#[] } :: a.defers } W)
  (hstop:∀ (D:Nat) (c:Code) (pre:List α) (x:α) (rest:List α) (W:World),xs=pre ++ x :: rest→w.heap.size≤D→Ix c (pre ++ [x]) W→W.heap[D]?=some (.deferred (some []))→c.wp P Q { a with defers:={ target:=.collected D,args:=#[] } :: a.defers } W) :
  (Code.rangeFunc g ps assign body).wp P Q a w:=
 wpIn_wide.1 (wpIn_rangeListT (F:=Fence.wide) (n:=3) rfl (by omega) hg trivial eg hit hps I Ix sI sIx hR h0 hround hdone (fun D c pre x rest W h1 h2 h3 h4=>wpIn_wide.2 (hstop D c pre x rest W h1 h2 h3 h4)))
end Go.Proofs.YtohfkhjlnlahdaaGreat
namespace Go.Proofs.YtohfkhjlnlahdaaGreat
open Go.RowKit Go.BigFrame Go.Maps
section
variable {W:World} {s:SesD} {yb pb:Nat} {whole:Bool} {N:List (Nd × Nat)}
theorem xWhole_eq (h:SpO W s yb whole pb N):Calls Tryz.prog 59 #[.pointer (some ⟨pb,0,none⟩)] W (Ret (.bool whole) (W=·)):=by
 have C1:=Lib.hid (xNone_any h)
 obtain⟨qb,mb,lim,ao,cap,h1,h2,-⟩:=h.out
 have c0:=cell_of h1 0
 have c1:=cell_of h2 1
 clear h1 h2 h
 go_enter Tryz.func59,Tryz.ntmps59
 go_wp2_with (first
  | (go_at_call 120;go_must (refine C1.out.mono ?_;rintro e w' ⟨rfl,rfl⟩)))
 go_ret
 exact⟨rfl,rfl⟩
end
theorem some_map {α β:Type} {f:α→β} {L:List α} {i:Nat} {y:β} (h:(L.map f)[i]?=some y):∃ x,L[i]?=some x∧f x=y:=by
 rw[List.getElem?_map] at h
 cases hz:L[i]? with
 | none=>rw[hz] at h;cases h
 | some z=>rw[hz] at h;exact⟨z,rfl,Option.some.inj h⟩
end Go.Proofs.YtohfkhjlnlahdaaGreat
namespace Go.Proofs.YtohfkhjlnlahdaaGreat
open Go.RowKit
section
variable {F:List Nat} {P:Program} {ops:Array Oper} {Q:Exit→Act→World→Prop} {md:Region.Mode} {S S':World→Prop} {T:Nat→Bool}
def wpAnyL (P:Program) (md:Region.Mode) (ops:Array Oper) (Q:Exit→Act→World→Prop) (S:World→Prop) (T:Nat→Bool):Nat→Bool→Array Bool→Act→World→Prop
 | 0,_,listed,a,w=>Region.ready md ops listed=[]∧Q .normal a w
 | fuel + 1,b,listed,a,w =>
   (Region.ready md ops listed=[]→Q .normal a w) ∧
   ∀ i∈Region.ready md ops listed,wpOp P ops Q i (fun a' w'=>((b || T i)=false→S w')∧wpAnyL P md ops Q S T fuel (b || T i) (listed.setIfInBounds i true) a' w') a w
theorem wpAny_of_L:∀ (fuel:Nat) (b:Bool) (listed:Array Bool) (a:Act) (w:World),wpAnyL P md ops Q S T fuel b listed a w→wpAny P md ops Q fuel listed a w
 | 0,_,_,_,_,h=>h
 | fuel + 1,_,_,_,_,h=>⟨h.1,fun i hi=>wpOp_mono (fun a' w' h'=>wpAny_of_L fuel _ _ a' w' h'.2) (h.2 i hi)⟩
theorem wpAnyL_sub (hSS:∀ W,S' W→S W):∀ (fuel:Nat) (b:Bool) (listed:Array Bool) (a:Act) (w:World),wpAnyL P md ops Q S' T fuel b listed a w→wpAnyL P md ops Q S T fuel b listed a w
 | 0,_,_,_,_,h=>h
 | fuel + 1,_,_,_,_,h=>⟨h.1,fun i hi=>wpOp_mono (fun a' w' h'=>⟨fun hb=>hSS _ (h'.1 hb),wpAnyL_sub hSS fuel _ _ a' w' h'.2⟩) (h.2 i hi)⟩
def depB (md:Region.Mode) (ops:Array Oper):Nat→Nat→Nat→Bool
 | 0,_,_=>false
 | f + 1,j,i=>((ops[j]?).map fun o=>o.after.any fun e=>Region.binds md e && (e.on == i || depB md ops f e.on i)).getD false
def Closed (md:Region.Mode) (ops:Array Oper) (listed:Array Bool):Prop:=∀ (k:Nat) o,ops[k]?=some o→listed.getD k false=true→∀ e∈o.after,Region.binds md e=true→listed.getD e.on false=true
def closedB (md:Region.Mode) (ops:Array Oper) (listed:Array Bool):Bool:=(List.range ops.size).all fun k=>!listed.getD k false || ((ops[k]?).map fun o=>o.after.all fun e=>!Region.binds md e || listed.getD e.on false).getD true
theorem closed_of {listed:Array Bool} (h:closedB md ops listed=true):Closed md ops listed:=fun k o ho hk e he hb=>by
 have:=(List.all_eq_true.1 h) k (List.mem_range.2 (Array.getElem?_eq_some_iff.1 ho).1)
 rw[ho,hk] at this
 simp only[Bool.not_true,Option.map_some,Option.getD_some,Bool.false_or] at this
 have:=(Array.all_eq_true_iff_forall_mem.1 this) e he
 simpa[hb] using this
theorem dep_no {listed:Array Bool} {i:Nat} (hc:Closed md ops listed) (hi:listed.getD i false=false):∀ (f j:Nat),depB md ops f j i=true→(∀ o,ops[j]?=some o→∀ e∈o.after,Region.binds md e=true→listed.getD e.on false=true)→False
 | 0,_,h,_=>by cases h
 | f + 1,j,h,hj=>by
   unfold depB at h
   cases ho:ops[j]? with
   | none=>rw[ho] at h;cases h
   | some o =>
     rw[ho] at h
     simp only[Option.map_some,Option.getD_some] at h
     obtain⟨e,he,hb⟩:=Array.any_eq_true'.1 h
     simp only[Bool.and_eq_true,Bool.or_eq_true,beq_iff_eq] at hb
     have hl:=hj o ho e he hb.1
     rcases hb.2 with hb | hb
     ·rw[hb,hi] at hl;cases hl
     ·exact dep_no hc hi f e.on hb fun o' ho'=>hc e.on o' ho' hl
def waitsB (md:Region.Mode) (ops:Array Oper) (T:Nat→Bool) (i:Nat):Bool:=(List.range ops.size).all fun j=>!T j || depB md ops 4 j i
theorem wpAnyL_first {i:Nat} {oi:Oper} {v:Value} (hi:ops[i]?=some oi) (hT:T i=false) (hw:waitsB md ops T i=true) (hsel:∀ (j:Nat) (o:Oper) cs b,ops[j]?=some o→o.op≠.select cs b)
  (hQ:∀ c a w,Q (.panic c) (a.put oi.dst v) w→Q (.panic c) a w) :
  ∀ (fuel:Nat) (listed:Array Bool) (a:Act) (w:World),Closed md ops listed →
    (∀ j oj,ops[j]?=some oj→j≠i→listed.getD j true=false→(∀ e∈oj.after,Region.binds md e=true→e.on≠i)→oi.apart ops oj=true) →
    i∈Region.ready md ops listed→YieldsIf P ops S oi v a→S w →
    wpAnyL P md ops Q S T fuel false (listed.setIfInBounds i true) (a.put oi.dst v) w→wpAnyL P md ops Q S T (fuel + 1) false listed a w:=by
 intro fuel
 induction fuel with
 | zero =>
   intro listed a w _ _ hr hy hS H
   refine⟨fun h=>(by rw[h] at hr;cases hr),fun j hj=>?_⟩
   by_cases hji:j=i
   ·subst hji
    rw[Bool.false_or,hT]
    exact hy.wpOp hi hS ⟨fun _=>hS,H⟩
   ·have:=ready_mono hj hji
    rw[H.1] at this
    cases this
 | succ fuel ih =>
   intro listed a w hcl hfree hr hy hS H
   refine⟨fun h=>(by rw[h] at hr;cases hr),fun j hj=>?_⟩
   by_cases hji:j=i
   ·subst hji
    rw[Bool.false_or,hT]
    exact hy.wpOp hi hS ⟨fun _=>hS,H⟩
   ·have h1:=H.2 j (ready_mono hj hji)
    obtain⟨hjun,oj,hoj,hall⟩:=mem_ready.1 hj
    have hnot:∀ e∈oj.after,Region.binds md e=true→e.on≠i:=fun e he hb heq=>by
     have h1:=hall e he hb
     have h0:=(mem_ready.1 hr).1
     rw[heq] at h1
     rcases Nat.lt_or_ge i listed.size with h' | h'
     ·simp[h'] at h0 h1;rw[h0] at h1;cases h1
     ·simp[Array.getElem?_eq_none h'] at h1
    have hTj:T j=false:=by
     have hjs:j < ops.size:=(Array.getElem?_eq_some_iff.1 hoj).1
     have:=(List.all_eq_true.1 hw) j (List.mem_range.2 hjs)
     simp only[Bool.or_eq_true,Bool.not_eq_true'] at this
     rcases this with h | h
     ·exact h
     ·refine(dep_no hcl ?_ 4 j h fun o ho e he hb=>?_).elim
      ·have h0:=(mem_ready.1 hr).1
       rcases Nat.lt_or_ge i listed.size with h' | h'
       ·simp[h'] at h0 ⊢;exact h0
       ·simp[h'] at h0
      ·rw[hoj] at ho
       cases ho
       exact hall e he hb
    rw[Bool.false_or,hTj] at h1 ⊢
    have h2:=wpOp_putIf hoj (hfree j oj hoj hji hjun hnot) (fun cs b=>hsel i oi cs b hi) (fun cs b=>hsel j oj cs b hoj) hQ hy h1
    have hfree':∀ k ok,ops[k]?=some ok→k≠i→(listed.setIfInBounds j true).getD k true=false →
      (∀ e∈ok.after,Region.binds md e=true→e.on≠i)→oi.apart ops ok=true:=fun k ok hk hki hun hno=>by
     refine hfree k ok hk hki ?_ hno
     by_cases hjk:j=k
     ·subst hjk;exact hjun
     ·rw[getD_set_ne true hjk] at hun;exact hun
    have hcl':Closed md ops (listed.setIfInBounds j true):=fun k o ho hk e he hb=>by
     have up:∀ q,listed.getD q false=true→(listed.setIfInBounds j true).getD q false=true:=fun q hq=>by
      by_cases e:j=q
      ·subst e
       rcases Nat.lt_or_ge j listed.size with h' | h'
       ·simp[h']
       ·simp[Array.getElem?_eq_none h'] at hq
      ·rw[getD_set_ne false e];exact hq
     by_cases ek:j=k
     ·subst ek
      rw[hoj] at ho
      cases ho
      exact up _ (hall e he hb)
     ·rw[getD_set_ne false ek] at hk
      exact up _ (hcl k o ho hk e he hb)
    refine wpOp_mono (fun a' w' h3=>⟨fun _=>h3.2.1 rfl,ih (listed.setIfInBounds j true) a' w' hcl' hfree' (ready_mono hr (Ne.symm hji)) h3.1 (h3.2.1 rfl) ?_⟩) h2
    rw[Array.setIfInBounds_comm _ _ hji]
    exact h3.2.2
theorem wpAnyL_firstP {i:Nat} {oi:Oper} {v:Value} (hi:ops[i]?=some oi) (hT:T i=false) (hsel:∀ (j:Nat) (o:Oper) cs b,ops[j]?=some o→o.op≠.select cs b)
  (hQ:∀ c a w,Q (.panic c) (a.put oi.dst v) w→Q (.panic c) a w) :
  ∀ (fuel:Nat) (b:Bool) (listed:Array Bool) (a:Act) (w:World),
    (∀ j oj,ops[j]?=some oj→j≠i→listed.getD j true=false→(∀ e∈oj.after,Region.binds md e=true→e.on≠i)→oi.apart ops oj=true) →
    i∈Region.ready md ops listed→YieldsIf P ops (fun _=>True) oi v a→(b=false→S w) →
    wpAnyL P md ops Q S T fuel b (listed.setIfInBounds i true) (a.put oi.dst v) w→wpAnyL P md ops Q S T (fuel + 1) b listed a w:=by
 intro fuel
 induction fuel with
 | zero =>
   intro b listed a w _ hr hy hS H
   refine⟨fun h=>(by rw[h] at hr;cases hr),fun j hj=>?_⟩
   by_cases hji:j=i
   ·subst hji
    rw[hT,Bool.or_false]
    exact hy.wpOp hi trivial ⟨hS,H⟩
   ·have:=ready_mono hj hji
    rw[H.1] at this
    cases this
 | succ fuel ih =>
   intro b listed a w hfree hr hy hS H
   refine⟨fun h=>(by rw[h] at hr;cases hr),fun j hj=>?_⟩
   by_cases hji:j=i
   ·subst hji
    rw[hT,Bool.or_false]
    exact hy.wpOp hi trivial ⟨hS,H⟩
   ·have h1:=H.2 j (ready_mono hj hji)
    obtain⟨hjun,oj,hoj,hall⟩:=mem_ready.1 hj
    have hnot:∀ e∈oj.after,Region.binds md e=true→e.on≠i:=fun e he hb heq=>by
     have h1:=hall e he hb
     have h0:=(mem_ready.1 hr).1
     rw[heq] at h1
     rcases Nat.lt_or_ge i listed.size with h' | h'
     ·simp[h'] at h0 h1;rw[h0] at h1;cases h1
     ·simp[Array.getElem?_eq_none h'] at h1
    have h2:=wpOp_putIf hoj (hfree j oj hoj hji hjun hnot) (fun cs b=>hsel i oi cs b hi) (fun cs b=>hsel j oj cs b hoj) hQ hy h1
    have hfree':∀ k ok,ops[k]?=some ok→k≠i→(listed.setIfInBounds j true).getD k true=false →
      (∀ e∈ok.after,Region.binds md e=true→e.on≠i)→oi.apart ops ok=true:=fun k ok hk hki hun hno=>by
     refine hfree k ok hk hki ?_ hno
     by_cases hjk:j=k
     ·subst hjk;exact hjun
     ·rw[getD_set_ne true hjk] at hun;exact hun
    refine wpOp_mono (fun a' w' h3=>⟨h3.2.1,ih (b || T j) (listed.setIfInBounds j true) a' w' hfree' (ready_mono hr (Ne.symm hji)) h3.1 h3.2.1 ?_⟩) h2
    rw[Array.setIfInBounds_comm _ _ hji]
    exact h3.2.2
def wrFrom (n:Nat) (j:Nat):Bool:=decide (n≤j)
theorem heldL_start (F:List Nat) (T:Nat→Bool) {id:Nat} {a:Act} {w:World} (hm:P.follows .mixedOrders=true) (h:wpAnyL P .any ops Q (Frm F w.drew) T ops.size false (Array.replicate ops.size false) a w.drew):(Code.region id ops true).wp P Q a w:=
 wp_region_any hm (wpAny_of_L _ _ _ _ _ h)
theorem heldL_take {i:Nat} {oi:Oper} {fuel:Nat} {listed:Array Bool} {a:Act} {w:World} (v:Value) (hi:ops[i]?=some oi)
  (hs:Region.noSelect ops=true) (hf:Region.free md ops listed i=true) (hr:(Region.ready md ops listed).contains i=true) (hT:T i=false) (hwt:(waitsB md ops T i && closedB md ops listed)=true)
  (hQ:∀ c a w,Q (.panic c) (a.put oi.dst v) w→Q (.panic c) a w) (hw:Region.wanted oi (yielded ops a.tmps)=true) (hy:∀ w',Frm F w w'→(execOp a.eval oi).run P w'=.ok (.value v) w')
  (h:wpAnyL P md ops Q (Frm F w) T fuel false (listed.setIfInBounds i true) (a.put oi.dst v) w):wpAnyL P md ops Q (Frm F w) T (fuel + 1) false listed a w:=
 wpAnyL_first hi hT (Bool.and_eq_true_iff.1 hwt).1 (Region.noSelect_spec hs) hQ fuel listed a w (closed_of (Bool.and_eq_true_iff.1 hwt).2) (Region.free_spec hi hf) (List.contains_iff_mem.1 hr) (.inl ⟨hw,hy⟩) (Frm.refl F w) h
theorem heldL_takep {b:Bool} {i:Nat} {oi:Oper} {fuel:Nat} {listed:Array Bool} {a:Act} {w:World} (v:Value) (hi:ops[i]?=some oi)
  (hs:Region.noSelect ops=true) (hf:Region.free md ops listed i=true) (hr:(Region.ready md ops listed).contains i=true) (hT:T i=false)
  (hQ:∀ c a w,Q (.panic c) (a.put oi.dst v) w→Q (.panic c) a w) (hw:Region.wanted oi (yielded ops a.tmps)=true) (hy:∀ w',(execOp a.eval oi).run P w'=.ok (.value v) w')
  (h:wpAnyL P md ops Q (Frm F w) T fuel b (listed.setIfInBounds i true) (a.put oi.dst v) w):wpAnyL P md ops Q (Frm F w) T (fuel + 1) b listed a w:=
 wpAnyL_firstP hi hT (Region.noSelect_spec hs) hQ fuel b listed a w (Region.free_spec hi hf) (List.contains_iff_mem.1 hr) (.inl ⟨hw,fun w' _=>hy w'⟩) (fun _=>Frm.refl F w) h
theorem heldL_all {rs:List Nat} {fuel:Nat} {b:Bool} {listed:Array Bool} {a:Act} {w:World} (hr:Region.ready md ops listed=rs) (hne:rs≠[])
  (h:∀ i∈rs,wpOp P ops Q i (fun a' w'=>((b || T i)=false→S w')∧wpAnyL P md ops Q S T fuel (b || T i) (listed.setIfInBounds i true) a' w') a w):wpAnyL P md ops Q S T (fuel + 1) b listed a w:=
 ⟨fun h0=>absurd (hr.symm.trans h0) hne,fun i hi=>h i (hr ▸ hi)⟩
theorem allL_nil {p:Nat→Prop}:∀ i∈([]:List Nat),p i:=fun _ h=>by cases h
theorem allL_cons {p:Nat→Prop} {i:Nat} {rs:List Nat} (h:p i) (hs:∀ j∈rs,p j):∀ j∈i :: rs,p j:=fun j hj=>by
 rcases List.mem_cons.1 hj with rfl | hj
 ·exact h
 ·exact hs j hj
theorem heldL_step {i:Nat} {oi:Oper} {fuel:Nat} {listed:Array Bool} {a:Act} {w:World} (hi:ops[i]?=some oi) (hT:T i=false) (hw:Region.wanted oi (yielded ops a.tmps)=true)
  (h:∀ K':Act→World→Prop,Shut (∀ a' w',Frm F w w'→wpAnyL P md ops Q (Frm F w') T fuel false (listed.setIfInBounds i true) a' w'→K' a' w')→Oper.wp P oi a w K' Q) :
  wpOp P ops Q i (fun a' w'=>((false || T i)=false→Frm F w w')∧wpAnyL P md ops Q (Frm F w) T fuel (false || T i) (listed.setIfInBounds i true) a' w') a w:=by
 unfold wpOp
 simp only[hi,hw,if_true]
 refine .inl (h _ (fun a' w' hf hk=>⟨fun _=>hf,?_⟩))
 rw[Bool.false_or,hT]
 exact wpAnyL_sub (fun W hW=>hf.trans hW) _ _ _ _ _ hk
theorem heldL_write {b:Bool} {i:Nat} {oi:Oper} {fuel:Nat} {listed:Array Bool} {a:Act} {w:World} (hi:ops[i]?=some oi) (hT:(b || T i)=true) (hw:Region.wanted oi (yielded ops a.tmps)=true)
  (h:∀ K':Act→World→Prop,Shut (∀ a' w',wpAnyL P md ops Q S T fuel true (listed.setIfInBounds i true) a' w'→K' a' w')→Oper.wp P oi a w K' Q) :
  wpOp P ops Q i (fun a' w'=>((b || T i)=false→S w')∧wpAnyL P md ops Q S T fuel (b || T i) (listed.setIfInBounds i true) a' w') a w:=by
 unfold wpOp
 simp only[hi,hw,if_true]
 rw[hT]
 exact .inl (h _ (fun a' w' hk=>⟨(fun h0=>by cases h0),hk⟩))
theorem heldL_done {b:Bool} {listed:Array Bool} {a:Act} {w:World} (hr:Region.ready md ops listed=[]) (h:Q .normal a w):∀ fuel,wpAnyL P md ops Q S T fuel b listed a w
 | 0=>⟨hr,h⟩
 | _ + 1=>⟨fun _=>h,fun i hi=>by rw[hr] at hi;cases hi⟩
theorem htL (i:Nat) {oi:Oper} {fuel:Nat} {listed:Array Bool} {a:Act} {w:World} (v:Value) (hy:∀ w',Frm F w w'→(execOp a.eval oi).run P w'=.ok (.value v) w')
  (h:wpAnyL P md ops Q (Frm F w) T fuel false (listed.setIfInBounds i true) (a.put oi.dst v) w) (hi:ops[i]?=some oi:=by rfl) (hb:(Region.noSelect ops && Region.free md ops listed i && (Region.ready md ops listed).contains i && !T i && (waitsB md ops T i && closedB md ops listed))=true:=by kernel_rfl)
  (hQ:∀ c a w,Q (.panic c) (a.put oi.dst v) w→Q (.panic c) a w:=by exact fun _ _ _ h=>h) (hw:Region.wanted oi (yielded ops a.tmps)=true:=by rfl):wpAnyL P md ops Q (Frm F w) T (fuel + 1) false listed a w:=by
 obtain⟨h1,h2⟩:=Bool.and_eq_true_iff.1 hb
 simp only[Bool.and_eq_true,Bool.not_eq_true'] at h1
 exact heldL_take v hi h1.1.1.1 h1.1.1.2 h1.1.2 h1.2 h2 hQ hw hy h
theorem htP {b:Bool} (i:Nat) {oi:Oper} {fuel:Nat} {listed:Array Bool} {a:Act} {w:World} (v:Value) (hy:∀ w',(execOp a.eval oi).run P w'=.ok (.value v) w')
  (h:wpAnyL P md ops Q (Frm F w) T fuel b (listed.setIfInBounds i true) (a.put oi.dst v) w) (hi:ops[i]?=some oi:=by rfl) (hb:(Region.noSelect ops && Region.free md ops listed i && (Region.ready md ops listed).contains i && !T i)=true:=by kernel_rfl)
  (hQ:∀ c a w,Q (.panic c) (a.put oi.dst v) w→Q (.panic c) a w:=by exact fun _ _ _ h=>h) (hw:Region.wanted oi (yielded ops a.tmps)=true:=by rfl):wpAnyL P md ops Q (Frm F w) T (fuel + 1) b listed a w:=by
 simp only[Bool.and_eq_true,Bool.not_eq_true'] at hb
 exact heldL_takep v hi hb.1.1.1 hb.1.1.2 hb.1.2 hb.2 hQ hw hy h
theorem honL (i:Nat) {fuel:Nat} {b:Bool} {listed:Array Bool} {a:Act} {w:World}
  (h:wpOp P ops Q i (fun a' w'=>((b || T i)=false→S w')∧wpAnyL P md ops Q S T fuel (b || T i) (listed.setIfInBounds i true) a' w') a w) (hr:Region.ready md ops listed=[i]:=by kernel_rfl):wpAnyL P md ops Q S T (fuel + 1) b listed a w:=
 heldL_all hr (by simp) (allL_cons h allL_nil)
theorem hcL {i:Nat} {oi:Oper} {fuel:Nat} {listed:Array Bool} {a:Act} {w:World} (v:Value) (hy:∀ w',Frm F w w'→(execOp a.eval oi).run P w'=.ok (.value v) w')
  (h:Cnt (i + 1) (wpAnyL P md ops Q (Frm F w) T fuel false (listed.setIfInBounds i true) (a.put oi.dst v) w)) (hi:ops[i]?=some oi:=by rfl) (hb:(Region.noSelect ops && Region.free md ops listed i && (Region.ready md ops listed).contains i && !T i && (waitsB md ops T i && closedB md ops listed))=true:=by kernel_rfl)
  (hQ:∀ c a w,Q (.panic c) (a.put oi.dst v) w→Q (.panic c) a w:=by exact fun _ _ _ h=>h) (hw:Region.wanted oi (yielded ops a.tmps)=true:=by rfl):Cnt i (wpAnyL P md ops Q (Frm F w) T (fuel + 1) false listed a w):=
 htL i v hy h hi hb hQ hw
theorem hcP {b:Bool} {i:Nat} {oi:Oper} {fuel:Nat} {listed:Array Bool} {a:Act} {w:World} (v:Value) (hy:∀ w',(execOp a.eval oi).run P w'=.ok (.value v) w')
  (h:Cnt (i + 1) (wpAnyL P md ops Q (Frm F w) T fuel b (listed.setIfInBounds i true) (a.put oi.dst v) w)) (hi:ops[i]?=some oi:=by rfl) (hb:(Region.noSelect ops && Region.free md ops listed i && (Region.ready md ops listed).contains i && !T i)=true:=by kernel_rfl)
  (hQ:∀ c a w,Q (.panic c) (a.put oi.dst v) w→Q (.panic c) a w:=by exact fun _ _ _ h=>h) (hw:Region.wanted oi (yielded ops a.tmps)=true:=by rfl):Cnt i (wpAnyL P md ops Q (Frm F w) T (fuel + 1) b listed a w):=
 htP i v hy h hi hb hQ hw
end
end Go.Proofs.YtohfkhjlnlahdaaGreat
namespace Go.Proofs.YtohfkhjlnlahdaaGreat
open Go.RowKit
def updD (D:Nat→Bool) (i:Nat):Nat→Bool:=fun j=>if j=i then true else D j
def updV (f:Nat→Value) (i:Nat) (v:Value):Nat→Value:=fun j=>if j=i then v else f j
section
variable {P:Program} {ops:Array Oper} {Q:Exit→Act→World→Prop}
def ClosedD (ops:Array Oper) (D:Nat→Bool):Prop:=∀ (k:Nat) o,ops[k]?=some o→D k=true→∀ e∈o.after,Region.binds .any e=true→D e.on=true
def downB (ops:Array Oper):Bool:=(List.range ops.size).all fun i=>((ops[i]?).map fun o=>o.after.all fun e=>!Region.binds .any e || decide (e.on < i)).getD true
theorem down_of (h:downB ops=true) {i:Nat} {o:Oper} (ho:ops[i]?=some o):∀ e∈o.after,Region.binds .any e=true→e.on < i:=fun e he hb=>by
 have:=(List.all_eq_true.1 h) i (List.mem_range.2 (Array.getElem?_eq_some_iff.1 ho).1)
 rw[ho] at this
 simp only[Option.map_some,Option.getD_some] at this
 have:=(Array.all_eq_true_iff_forall_mem.1 this) e he
 simpa[hb] using this
theorem countP_less {p q:Nat→Bool} (hpq:∀ x,q x=true→p x=true) {i:Nat} (h1:p i=true) (h2:q i=false):∀ {l:List Nat},i∈l→l.countP q < l.countP p
 | [],h=>by cases h
 | a :: l,h=>by
   have hle:l.countP q≤l.countP p:=List.countP_mono_left fun x _ hx=>hpq x hx
   rw[List.countP_cons,List.countP_cons]
   rcases List.mem_cons.1 h with rfl | h
   ·rw[h1,h2]
    simp
    omega
   ·have ih:=countP_less hpq h1 h2 h
    have:(if q a=true then 1 else 0)≤(if p a=true then 1 else 0):=by
     split
     ·rename_i hq
      rw[if_pos (hpq a hq)]
      omega
     ·omega
    omega
def DL (listed:Array Bool):Nat→Bool:=fun i=>listed.getD i false
theorem DL_set {listed:Array Bool} {i:Nat} (hi:i < listed.size):DL (listed.setIfInBounds i true)=updD (DL listed) i:=by
 funext j
 unfold DL updD
 split
 ·rename_i e;subst e;simp[hi]
 ·rename_i e
  exact getD_set_ne false (fun h=>e h.symm)
variable (FR:(Nat→Value)→Act) (I:(Nat→Bool)→(Nat→Value)→World→Prop)
def stepsFrom (p:Nat→Oper→Prop):Nat→List Oper→Prop
 | _,[]=>True
 | k,o :: l=>p k o∧stepsFrom p (k + 1) l
theorem stepsFrom_at {p:Nat→Oper→Prop}:∀ {l:List Oper} {k i:Nat} {o:Oper},stepsFrom p k l→l[i]?=some o→p (k + i) o
 | [],_,_,_,_,h=>by simp at h
 | a :: l,k,0,o,hp,h=>by
   simp at h
   subst h
   exact hp.1
 | a :: l,k,i + 1,o,hp,h=>by
   have:=stepsFrom_at (l:=l) (k:=k + 1) (i:=i) hp.2 (by simpa using h)
   rwa [show k + (i + 1)=k + 1 + i by omega]
end
end Go.Proofs.YtohfkhjlnlahdaaGreat
namespace Go.Proofs.YtohfkhjlnlahdaaGreat
open Go.RowKit
section
variable {F:Fence} {n:Nat} {P:Program} {ops:Array Oper} {Q:Exit→Act→World→Prop}
variable (FR:(Nat→Value)→Act) (I:(Nat→Bool)→(Nat→Value)→World→Prop)
theorem wpAnyIn_inv (hdn:downB ops=true)
  (hs:∀ i o,ops[i]?=some o→∀ D f w,I D f w→D i=false→(∀ e∈o.after,Region.binds .any e=true→D e.on=true)→ClosedD ops D →
   Region.wanted o (yielded ops (FR f).tmps)=true∧o.wpIn F n P (FR f) w (fun a' w'=>∃ v,a'=FR (updV f i v)∧I (updD D i) (updV f i v) w') Q)
  (hd:∀ D f w,(∀ i,i < ops.size→D i=true)→I D f w→Q .normal (FR f) w) :
  ∀ (fuel:Nat) (listed:Array Bool) (f:Nat→Value) (w:World),listed.size=ops.size→(List.range ops.size).countP (fun i=>!DL listed i)≤fuel→ClosedD ops (DL listed)→I (DL listed) f w→wpAnyIn F n P .any ops Q fuel listed (FR f) w:=by
 have hall:∀ listed:Array Bool,listed.size=ops.size→Region.ready .any ops listed=[]→∀ i,i < ops.size→DL listed i=true:=fun listed hsz h0 i=>by
  induction i using Nat.strongRecOn with
  | _ i ih =>
  intro hi
  obtain⟨o,ho⟩:∃ o,ops[i]?=some o:=⟨_,Array.getElem?_eq_getElem hi⟩
  cases hD:DL listed i with
  | true=>rfl
  | false =>
    exfalso
    have hm:i∈Region.ready .any ops listed:=mem_ready.2 ⟨by
     unfold DL at hD
     simpa[hsz,hi] using hD,o,ho,fun e he hb=>ih e.on (down_of hdn ho e he hb) (by have:=down_of hdn ho e he hb;omega)⟩
    rw[h0] at hm
    cases hm
 intro fuel
 induction fuel with
 | zero =>
   intro listed f w hsz hc hcl hI
   have hz:∀ i,i < ops.size→DL listed i=true:=fun i hi=>by
    have h0:=List.countP_eq_zero.1 (Nat.le_zero.1 hc) i (List.mem_range.2 hi)
    simpa using h0
   refine⟨?_,hd _ f w hz hI⟩
   rw[List.eq_nil_iff_forall_not_mem]
   intro i hi
   obtain⟨h1,o,ho,-⟩:=mem_ready.1 hi
   have h2:=hz i (Array.getElem?_eq_some_iff.1 ho).1
   have h3:i < listed.size:=by rw[hsz];exact(Array.getElem?_eq_some_iff.1 ho).1
   unfold DL at h2
   simp[h3] at h1 h2
   rw[h1] at h2
   cases h2
 | succ fuel ih =>
   intro listed f w hsz hc hcl hI
   refine⟨fun h0=>hd _ f w (hall listed hsz h0) hI,fun i hi=>?_⟩
   obtain⟨h1,o,ho,h2⟩:=mem_ready.1 hi
   have hio:i < ops.size:=(Array.getElem?_eq_some_iff.1 ho).1
   have h3:i < listed.size:=by rw[hsz];exact hio
   have hDi:DL listed i=false:=by unfold DL;simpa[h3] using h1
   obtain⟨hw,hwp⟩:=hs i o ho (DL listed) f w hI hDi h2 hcl
   unfold wpOpIn
   simp only[ho,hw,if_true]
   refine Oper.wpIn_mono (fun a' w' h=>?_) hwp
   obtain⟨v,rfl,hI'⟩:=h
   have hset:=DL_set (listed:=listed) h3
   refine ih (listed.setIfInBounds i true) (updV f i v) w' (by simpa using hsz) ?_ ?_ (by rw[hset];exact hI')
   ·have hlt:=countP_less (p:=fun j=>!DL listed j) (q:=fun j=>!DL (listed.setIfInBounds i true) j) (fun x hx=>by
     rw[hset] at hx
     unfold updD at hx
     split at hx
     ·cases hx
     ·exact hx) (i:=i) (by simp[hDi]) (by rw[hset];simp[updD]) (List.mem_range.2 hio)
    omega
   ·rw[hset]
    intro k ok hk hDk e he hb
    unfold updD at hDk ⊢
    split
    ·rfl
    ·split at hDk
     ·rename_i e1
      subst e1
      rw[ho] at hk
      cases hk
      exact h2 e he hb
     ·exact hcl k ok hk hDk e he hb
theorem wpIn_region_inv {id:Nat} {a:Act} {w:World} (hm:P.follows .mixedOrders=true) (hdn:downB ops=true) (f0:Nat→Value) (ha:a=FR f0) (h0:I (fun _=>false) f0 w.drew)
  (hs:∀ i o,ops[i]?=some o→∀ D f w,I D f w→D i=false→(∀ e∈o.after,Region.binds .any e=true→D e.on=true)→ClosedD ops D →
   Region.wanted o (yielded ops (FR f).tmps)=true∧o.wpIn F n P (FR f) w (fun a' w'=>∃ v,a'=FR (updV f i v)∧I (updD D i) (updV f i v) w') Q)
  (hd:∀ D f w,(∀ i,i < ops.size→D i=true)→I D f w→Q .normal (FR f) w):(Code.region id ops true).wpIn F n P Q a w:=by
 refine wpIn_region_any hm ?_
 have e:DL (Array.replicate ops.size false)=fun _=>false:=by
  funext j
  unfold DL
  by_cases h:j < ops.size <;> simp[h]
 subst ha
 refine wpAnyIn_inv FR I hdn hs hd ops.size (Array.replicate ops.size false) f0 _ (by simp) ?_ (by rw[e];intro k o _ h;cases h) (by rw[e];exact h0)
 exact Nat.le_trans List.countP_le_length (by simp)
def OpInvIn (F:Fence) (n:Nat) (P:Program) (ops:Array Oper) (Q:Exit→Act→World→Prop) (FR:(Nat→Value)→Act) (I:(Nat→Bool)→(Nat→Value)→World→Prop) (i:Nat) (o:Oper):Prop:=
 ∀ D f w,I D f w→D i=false→(∀ e∈o.after,Region.binds .any e=true→D e.on=true)→ClosedD ops D →
   Region.wanted o (yielded ops (FR f).tmps)=true∧(∀ v,(FR f).put o.dst v=FR (updV f i v)) ∧
   ∀ K':Act→World→Prop,Shut (∀ a' w' v,a'=(FR f).put o.dst v→I (updD D i) (updV f i v) w'→K' a' w')→o.wpIn F n P (FR f) w K' Q
theorem wpIn_region_inv' {id:Nat} {a:Act} {w:World} {l:List Oper} (f0:Nat→Value) (hm:P.follows .mixedOrders=true) (hdn:downB l.toArray=true) (ha:a=FR f0) (h0:I (fun _=>false) f0 w.drew)
  (hs:stepsFrom (OpInvIn F n P l.toArray Q FR I) 0 l) (hd:∀ D f w,(∀ i,i < l.length→D i=true)→I D f w→Q .normal (FR f) w):(Code.region id l.toArray true).wpIn F n P Q a w:=
 wpIn_region_inv FR I hm hdn f0 ha h0 (fun i o ho D f w hI hD hdep hcl=>by
  have h1:=stepsFrom_at hs (i:=i) (o:=o) (by simpa using ho)
  rw[Nat.zero_add] at h1
  obtain⟨g1,g2,g3⟩:=h1 D f w hI hD hdep hcl
  refine⟨g1,g3 _ (fun a' w' v e hv=>⟨v,?_,hv⟩)⟩
  rw[e,g2]) (fun D f w h hI=>hd D f w (fun i hi=>h i (by simpa using hi)) hI)
end
end Go.Proofs.YtohfkhjlnlahdaaGreat
namespace Go.Proofs.YtohfkhjlnlahdaaGreat
open Go.RowKit Go.BigFrame
def stepBig (t:StpD):Bool:=decide (60 < t.msg.size) || decide (60 < t.peer.size)
def WfS (s:SesD):Prop:=∀ r∈s.roles,∀ x∈r.steps,wf64 x.kind
end Go.Proofs.YtohfkhjlnlahdaaGreat
namespace Go.Proofs.YtohfkhjlnlahdaaGreat
open Go.RowKit Go.BigFrame
def rolBig6 (r:RolD):Bool:=(decide (4 < r.ctrs.length) || decide (6 < r.sts.length) || decide (12 < r.steps.length) || decide (60 < r.name.size)) || r.steps.any stepBig
def large6B (s:SesD):Bool:=(decide (4 < s.roles.length) || decide (60 < s.name.size)) || s.roles.any rolBig6
theorem rolBig6_ways (r:RolD):((4 < (r.ctrs.length:Int))∧rolBig6 r=true)∨(¬ 4 < (r.ctrs.length:Int)∧(6 < (r.sts.length:Int))∧rolBig6 r=true)∨(¬ 4 < (r.ctrs.length:Int)∧¬ 6 < (r.sts.length:Int)∧12 < (r.steps.length:Int)∧rolBig6 r=true) ∨
  (¬ 4 < (r.ctrs.length:Int)∧¬ 6 < (r.sts.length:Int)∧¬ 12 < (r.steps.length:Int)∧60 < (r.name.size:Int)∧rolBig6 r=true)∨(¬ 4 < (r.ctrs.length:Int)∧¬ 6 < (r.sts.length:Int)∧¬ 12 < (r.steps.length:Int)∧¬ 60 < (r.name.size:Int)∧rolBig6 r=r.steps.any stepBig):=by
 unfold rolBig6
 by_cases h1:4 < r.ctrs.length
 ·left;exact⟨by omega,by simp[h1]⟩
 by_cases h2:6 < r.sts.length
 ·right;left;exact⟨by omega,by omega,by simp[h2]⟩
 by_cases h3:12 < r.steps.length
 ·right;right;left;exact⟨by omega,by omega,by omega,by simp[h3]⟩
 by_cases h4:60 < r.name.size
 ·right;right;right;left;exact⟨by omega,by omega,by omega,by omega,by simp[h4]⟩
 right;right;right;right
 refine⟨by omega,by omega,by omega,by omega,?_⟩
 rw[decide_eq_false h1,decide_eq_false h2,decide_eq_false h3,decide_eq_false h4];rfl
end Go.Proofs.YtohfkhjlnlahdaaGreat
namespace Go.Proofs.YtohfkhjlnlahdaaGreat
open Go.RowKit Go.BigFrame
def km0:Mv:=⟨1,0,0,0⟩
end Go.Proofs.YtohfkhjlnlahdaaGreat
namespace Go.Proofs.YtohfkhjlnlahdaaGreat
open Go.RowKit Go.BigFrame
def bA:ByteArray:={ data:=#[97] }
def bB:ByteArray:={ data:=#[98] }
def bX:ByteArray:={ data:=#[120] }
def bM:ByteArray:={ data:=#[109] }
def bS:ByteArray:={ data:=#[115] }
end Go.Proofs.YtohfkhjlnlahdaaGreat
namespace Go.Proofs.YtohfkhjlnlahdaaGreat
open Go.RowKit Go.BigFrame
theorem wp_own_step {P:Program} {o:Oper} {a:Act} {w:World} {K:Act→World→Prop} {Q:Exit→Act→World→Prop} (s x:Operand) (t:TypeId)
  (ho:o.op=.call { callee:=.builtin .append,args:=#[s,x],argTypes:=#[t,t] })
  (base:Nat) (e:TypeId) {i:TypeInfo} {z:Value} {size bytes:Nat} (ht:P.underlying t=some (.slice e)) (hi:P.info? e=some i) (hz:i.zero=some z)
  (hsize:i.size=size) (hby:i.bytes=bytes) (hzs:z.cells.size=size) (hsz:0 < size)
  (v:Value) (n:Nat) (xs:List Value) (hs:a.eval s=v) (hown:w.ownsRow base e size v n xs)
  (ad:Addr) (m c:Nat) (news:List Value) (hx:a.eval x=.slice (some ad) m c) (hl:news.length=m * size) (hnews:∀ (j:Nat) u,news[j]?=some u→w.cell? (ad.add j)=some u) (h1:∀ u∈news,u.oneCell'=true)
  (h63:n + m≤maxLen) (hbytes:(n + m) * bytes≤140737488355328) (hbase:base≤w.heap.size)
  (h:∀ v' w',w'.ownsRow base e size v' (n + m) (xs ++ news)→w.grownBy w' v.ownBlock→K (a.put o.dst v') w'):Oper.wp P o a w K Q:=by
 obtain⟨v',w',hr,h2,h3,h4,h5⟩:=run_append_own_at (P:=P) w base t o.type e i z size bytes ht hi hz hsize hby hzs hsz v n xs hown ad m c news hl hnews h1 h63 hbytes hbase
 unfold Oper.wp execOp
 simp only[ho,resolve,invoke,builtin,Sem.run_bind,Sem.run_pure,Result.andThen_ok,List.map_toArray,List.map_cons,List.map_nil,hs,hx,hr]
 exact h v' w' h2 h3
theorem row_cells {X:World} {r:Nat} {A:Array Value} {t:TypeId} (h:X.heap[r]?=some (.cells A t (0,0))) (j:Nat) (u:Value) (hu:A.toList[j]?=some u):X.cell? ((⟨r,0,none⟩:Addr).add j)=some u:=by
 have e:∀ o,(⟨r,o,none⟩:Addr).add j=⟨r,o + j,none⟩:=fun o=>by simp[Addr.add]
 rw[e,Nat.zero_add,cell_of h,← Array.getElem?_toList]
 exact hu
end Go.Proofs.YtohfkhjlnlahdaaGreat
namespace Go.Proofs.YtohfkhjlnlahdaaGreat
open Go.ChangeShapes Go.WideShapes Go.ChangeAt Go.RowKit
theorem trodAll_below {H:Type} {enc:TypeId × Value→H} {P:Program} (hl:laidOutB P=true) {W W':World} (hb:Below W.heap.size W W'):∀ (ts:List TypeId) (vs:List Value) (ds:List (DataW H)) (ps:List MemPlace),
  (ts.all fun t=>P.readableRec t && decide (t < P.types.size))=true→DataW.TrodAll enc P W 0 (fun _=>true) true ts vs ds ps→(∀ x∈ps,x.block < W.heap.size) →
  DataW.TrodAll enc P W' 0 (fun b=>decide (b < W.heap.size)) true ts vs ds ps
 | [],vs,ds,ps,_,h,_=>by
   obtain⟨rfl,rfl,rfl⟩:=trodAll_nil h
   exact rfl
 | t :: ts,vs,ds,ps,ht,h,hlt=>by
   obtain⟨v,vs',d,ds',p,q,rfl,rfl,rfl,h1,h2⟩:=trodAll_cons h
   simp only[List.all_cons,Bool.and_eq_true,decide_eq_true_eq] at ht
   exact⟨p,q,Below.trod hl ht.1.1 ht.1.2 h1 hb (fun x hx=>hlt x (by simp[hx])),trodAll_below hl hb ts vs' ds' q ht.2 h2 (fun x hx=>hlt x (by simp[hx])),rfl⟩
theorem trodAll_length {H:Type} {enc:TypeId × Value→H} {P:Program} {W:World} {base:Nat} {sp:Nat→Bool} {held:Bool}:∀ (ts:List TypeId) (vs:List Value) (ds:List (DataW H)) (ps:List MemPlace),
  DataW.TrodAll enc P W base sp held ts vs ds ps→ds.length=ts.length
 | [],vs,ds,ps,h=>by
   obtain⟨rfl,rfl,rfl⟩:=trodAll_nil h
   rfl
 | t :: ts,vs,ds,ps,h=>by
   obtain⟨v,vs',d,ds',p,q,rfl,rfl,rfl,h1,h2⟩:=trodAll_cons h
   simp[trodAll_length ts vs' ds' q h2]
theorem law_lifted {C:Checked} (own:ownKnob C.prog.godebug=none) (laid:laidOutB C.prog=true) {os:Os} (started:os.Started) {H:Type} (enc:TypeId × Value→H) (f:FuncId) (fn:Func) (s:ChangeSpec) (tb:TypeId)
  (noInit:C.prog.inits.idxOf? f=none) (hfn:C.prog.funcs[f]?=some fn)
  (witness:∃ (w:World) (tape:Tape) (i:Input),w.os=os∧(w.forCall tape i).Shaped C.prog∧i.vars=[]∧Input.okWide C.prog (w.forCall tape i) .any w.heap.size f i ∧
   s.pre6 enc C.prog fn [] false (w.forCall tape i).memory i.args∧({}:Assume).holds C.prog (lone (Frame.enter C.prog f i.args .normal) [] (w.forCall tape i)))
  (hv:s.vars=[]) (hrt:fn.resultTypes=#[tb]) (htb:C.prog.underlying tb=some .bool)
  (hts:(fn.params.toList.all fun t=>C.prog.readableRec t && decide (t < C.prog.types.size))=true)
  (hspec:∀ ds:List (DataW H),ds.length=fn.params.toList.length→s.fn H ds={ results:=[.lit (.bool true)],args:=ds })
  (walk:∀ (W:World) (base:Nat) (args:Array Value) (ds:List (DataW H)) (p:List MemPlace),
   (∀ (j:Nat) t v,fn.params[j]?=some t→args[j]?=some v→Value.okWide C.prog W .any base t v) →
   DataW.TrodAll enc C.prog W 0 (fun _=>true) true fn.params.toList args.toList ds p →
   (∀ x∈p,x.block < W.heap.size) →
   (DataW.weightsEach C.prog fn.params.toList ds).all (·≤reachBytes)=true →
   Calls C.prog f args W (Ret (.bool true) (Frm [] W))) :
  ReturnsInHanded {} C os f .any (s.pre6 enc C.prog fn [] false) (s.post enc C.prog fn false true false false):=by
 refine returnsInHanded_of_change_sized (C:=C) own started noInit hfn witness ?_
 intro W base args ds gs before hval hW _ hsz _
 have hvt:s.plain.varTypes C.prog=[]:=by
  simp[DataSpec.varTypes,ChangeSpec.plain,hv]
 have hW':=hW
 obtain⟨p,q,hA,hV,rfl,_,_⟩:=hW
 rw[hv] at hV
 obtain⟨rfl,rfl⟩:=trodVars_none hV
 simp only[List.append_nil] at hW'
 rw[hvt,List.append_nil,List.append_nil] at hsz
 have hlt:∀ x∈p,x.block < W.heap.size:=fun x hx=>by simpa using hW'.lt x hx
 refine(walk W base args ds p hval hA hlt hsz).mono ?_
 rintro e W' ⟨rfl,hf⟩
 have hB:Below W.heap.size W W':=hf.below (Nat.le_refl _) (by simp)
 have hsp:=hspec ds (trodAll_length _ _ _ _ hA)
 refine⟨_,rfl,ds,[],p,[],p,[],hW',?_,?_,?_,hB.frame _,fun h=>by cases h⟩
 ·rw[List.append_nil,hsp,hrt]
  exact trodAll_mk1 (shut_bool htb _)
 ·rw[List.append_nil,hsp]
  exact trodAll_below laid hB _ _ _ _ hts hA hlt
 ·rw[List.append_nil,hsp,hv]
  rfl
end Go.Proofs.YtohfkhjlnlahdaaGreat
namespace Go.Proofs.YtohfkhjlnlahdaaGreat
open Go.ChangeShapes Go.WideShapes Go.ChangeAt Go.RowKit Go.Deep
section
variable {H:Type} {enc:TypeId × Value→H} {W:World}
theorem open_arr {α:Type} [Inhabited α] {t e:TypeId} {k:Nat} {At:World→Nat→Nat→α→Prop} {Q:α→Prop} (ht:Tryz.prog.underlying t=some (.slice e)) (hc:Tryz.prog.cellsOf e=k) (hk:0 < k)
  (hel:∀ b o cs n y,(∀ i,i < k→W.cell? ⟨b,o + i,none⟩=cs[i]?)→cs.length=k→DataW.trod enc Tryz.prog W 0 (fun _=>true) true n e cs=some y→∃ x,At W b o x∧Q x)
  {fuel:Nat} {c:Value} {x:DataW H × List MemPlace} (hf:DataW.trod enc Tryz.prog W 0 (fun _=>true) true fuel t [c]=some x) :
  ∃ xs,Arr k At W c xs∧(∀ x∈xs,Q x)∧∀ ao n c',c=.slice ao n c'→n≤c':=by
 rcases open_slice ht hf with ⟨hcs,_⟩ | ⟨a,len,cap,m,n,D,Pl,hcs,_,hl,_,hm,_,hx⟩
 ·simp only[List.cons.injEq,and_true] at hcs
  subst hcs
  exact⟨[],Arr.nil _ _ _,by simp,fun ao n c' h=>by cases h;omega⟩
 ·simp only[List.cons.injEq,and_true] at hcs
  subst hcs
  simp only[if_true] at hm
  subst hm
  obtain⟨ab,ao,spot⟩:=a
  have hspot:0 < len→spot=none:=fun h=>by
   obtain⟨cs',h1,h2⟩:=hx 0 (by omega)
   obtain⟨_,hlen,hcell⟩:=World.cells?_some h1
   rw[hc] at hlen hcell
   have h0:=hcell 0 hk
   rw[List.getElem?_eq_getElem (by omega)] at h0
   simpa[Addr.add] using World.cell?_spot h0
  obtain⟨f,hf⟩:=choose_lt (α:=α) (p:=fun i x=>spot=none∧At W ab (ao + i * k) x∧Q x) (n:=len) (fun i hi=>by
   obtain⟨cs',h1,h2⟩:=hx i (by omega)
   obtain⟨_,hlen,hcell⟩:=World.cells?_some h1
   rw[hc] at hlen hcell
   have hs:=hspot (by omega)
   subst hs
   obtain⟨x,h3,h4⟩:=hel ab (ao + i * k) cs' n _ (fun j hj=>by
    have:=hcell j hj
    rw[add_plain,add_plain] at this
    exact this) hlen h2
   exact⟨x,rfl,h3,h4⟩)
  refine⟨(List.range len).map f,⟨some ⟨ab,ao,spot⟩,m,by simp,fun i x hi=>?_⟩,fun x hx'=>?_,fun ao n c' h=>by cases h;omega⟩
  ·have hil:i < len:=by have:=lt_of_some hi;simpa using this
   rw[List.getElem?_map,List.getElem?_range hil,Option.map_some,Option.some.injEq] at hi
   subst hi
   obtain⟨h1,h2,_⟩:=hf i hil
   subst h1
   exact⟨ab,ao,rfl,h2⟩
  ·rw[List.mem_map] at hx'
   obtain⟨i,hi,rfl⟩:=hx'
   rw[List.mem_range] at hi
   exact(hf i hi).2.2
instance:Inhabited StD:=⟨dS⟩
instance:Inhabited CtrD:=⟨dC⟩
instance:Inhabited StpD:=⟨dT⟩
instance:Inhabited RolD:=⟨dR⟩
theorem Tryz.cellsStr:Tryz.prog.cellsOf 9=1:=by kernel_rfl
theorem Tryz.cellsBool:Tryz.prog.cellsOf 4=1:=by kernel_rfl
theorem Tryz.cellsInt:Tryz.prog.cellsOf 3=1:=by kernel_rfl
theorem Tryz.cellsKnd:Tryz.prog.cellsOf 135=1:=by kernel_rfl
theorem Tryz.cellsCls:Tryz.prog.cellsOf 23=1:=by kernel_rfl
theorem Tryz.cellsSts:Tryz.prog.cellsOf 83=1:=by kernel_rfl
theorem Tryz.cellsCts:Tryz.prog.cellsOf 84=1:=by kernel_rfl
theorem Tryz.cellsStps:Tryz.prog.cellsOf 85=1:=by kernel_rfl
theorem Tryz.cellsRls:Tryz.prog.cellsOf 22=1:=by kernel_rfl
theorem Tryz.cellsSt:Tryz.prog.cellsOf 206=3:=by kernel_rfl
theorem Tryz.cellsCt:Tryz.prog.cellsOf 244=2:=by kernel_rfl
theorem Tryz.cellsStp:Tryz.prog.cellsOf 137=9:=by kernel_rfl
theorem Tryz.cellsRl:Tryz.prog.cellsOf 87=4:=by kernel_rfl
theorem Tryz.cellsSes:Tryz.prog.cellsOf 25=4:=by kernel_rfl
theorem list2 {α:Type} {cs:List α} (h:cs.length=2):∃ a b,cs=[a,b]:=by
 match cs,h with
 | [a,b],_=>exact⟨a,b,rfl⟩
theorem list3 {α:Type} {cs:List α} (h:cs.length=3):∃ a b c,cs=[a,b,c]:=by
 match cs,h with
 | [a,b,c],_=>exact⟨a,b,c,rfl⟩
theorem list4 {α:Type} {cs:List α} (h:cs.length=4):∃ a b c d,cs=[a,b,c,d]:=by
 match cs,h with
 | [a,b,c,d],_=>exact⟨a,b,c,d,rfl⟩
theorem list9 {α:Type} {cs:List α} (h:cs.length=9):∃ a b c d e f g i j,cs=[a,b,c,d,e,f,g,i,j]:=by
 match cs,h with
 | [a,b,c,d,e,f,g,i,j],_=>exact⟨a,b,c,d,e,f,g,i,j,rfl⟩
set_option maxRecDepth 10000 in
theorem open_st {b o n:Nat} {cs:List Value} {y:DataW H × List MemPlace} (hc:∀ i,i < 3→W.cell? ⟨b,o + i,none⟩=cs[i]?) (hl:cs.length=3) (hf:DataW.trod enc Tryz.prog W 0 (fun _=>true) true n 206 cs=some y):∃ x:StD,StAt W b o x∧True:=by
 obtain⟨c0,c1,c2,rfl⟩:=list3 hl
 obtain⟨y0,y1,y2,n',_,_,t0,t1,t2⟩:=trod_struct3 Tryz.underlying206 hf
 simp only[Tryz.cellsStr,Tryz.cellsBool,Tryz.cellsInt,List.drop,List.take] at t0 t1 t2
 obtain⟨s,e0,_⟩:=DataW.trod_string Tryz.underlying9 t0
 obtain⟨bb,e1,_⟩:=DataW.trod_bool Tryz.underlying4 t1
 obtain⟨i,e2,_⟩:=DataW.trod_int Tryz.underlying3 t2
 simp only[List.cons.injEq,and_true] at e0 e1 e2
 subst e0;subst e1;subst e2
 exact⟨⟨s,bb,i⟩,⟨hc 0 (by omega),hc 1 (by omega),hc 2 (by omega)⟩,trivial⟩
set_option maxRecDepth 10000 in
theorem open_ct {b o n:Nat} {cs:List Value} {y:DataW H × List MemPlace} (hc:∀ i,i < 2→W.cell? ⟨b,o + i,none⟩=cs[i]?) (hl:cs.length=2) (hf:DataW.trod enc Tryz.prog W 0 (fun _=>true) true n 244 cs=some y):∃ x:CtrD,CtAt W b o x∧True:=by
 obtain⟨c0,c1,rfl⟩:=list2 hl
 obtain⟨y0,y1,n',_,_,t0,t1⟩:=trod_struct2 Tryz.underlying244 hf
 simp only[Tryz.cellsStr,Tryz.cellsInt,List.drop,List.take] at t0 t1
 obtain⟨s,e0,_⟩:=DataW.trod_string Tryz.underlying9 t0
 obtain⟨i,e1,_⟩:=DataW.trod_int Tryz.underlying3 t1
 simp only[List.cons.injEq,and_true] at e0 e1
 subst e0;subst e1
 exact⟨⟨s,i⟩,⟨hc 0 (by omega),hc 1 (by omega)⟩,trivial⟩
set_option maxRecDepth 10000 in
theorem open_stp {b o n:Nat} {cs:List Value} {y:DataW H × List MemPlace} (hc:∀ i,i < 9→W.cell? ⟨b,o + i,none⟩=cs[i]?) (hl:cs.length=9) (hf:DataW.trod enc Tryz.prog W 0 (fun _=>true) true n 137 cs=some y):∃ x:StpD,SpAt W b o x∧wf64 x.kind:=by
 obtain⟨c0,c1,c2,c3,c4,c5,c6,c7,c8,rfl⟩:=list9 hl
 obtain⟨xs,n',_,_,_,hlen,hfs⟩:=DataW.trod_struct Tryz.underlying137 hf
 match xs,hlen with
 | [y0,y1,y2,y3,y4,y5,y6,y7,y8],_ =>
   have t0:=hfs 0 _ rfl
   have t1:=hfs 1 _ rfl
   have t2:=hfs 2 _ rfl
   have t3:=hfs 3 _ rfl
   have t4:=hfs 4 _ rfl
   have t5:=hfs 5 _ rfl
   have t6:=hfs 6 _ rfl
   have t7:=hfs 7 _ rfl
   have t8:=hfs 8 _ rfl
   simp only[List.getElem_toArray,List.getElem_cons_zero,List.getElem_cons_succ,Tryz.cellsStr,Tryz.cellsKnd,Tryz.cellsInt,List.drop,List.take,List.getElem?_cons_zero,List.getElem?_cons_succ] at t0 t1 t2 t3 t4 t5 t6 t7 t8
   obtain⟨s0,e0,_⟩:=DataW.trod_string Tryz.underlying9 t0
   obtain⟨s1,e1,_⟩:=DataW.trod_string Tryz.underlying9 t1
   obtain⟨i2,e2,_,hw⟩:=DataW.trod_int Tryz.underlying135 t2
   obtain⟨s3,e3,_⟩:=DataW.trod_string Tryz.underlying9 t3
   obtain⟨s4,e4,_⟩:=DataW.trod_string Tryz.underlying9 t4
   obtain⟨s5,e5,_⟩:=DataW.trod_string Tryz.underlying9 t5
   obtain⟨i6,e6,_⟩:=DataW.trod_int Tryz.underlying3 t6
   obtain⟨i7,e7,_⟩:=DataW.trod_int Tryz.underlying3 t7
   obtain⟨i8,e8,_⟩:=DataW.trod_int Tryz.underlying3 t8
   simp only[List.cons.injEq,and_true] at e0 e1 e2 e3 e4 e5 e6 e7 e8
   subst e0;subst e1;subst e2;subst e3;subst e4;subst e5;subst e6;subst e7;subst e8
   refine⟨⟨s0,s1,i2,s3,s4,s5,i6,i7,i8⟩,⟨hc 0 (by omega),hc 1 (by omega),hc 2 (by omega),hc 3 (by omega),hc 4 (by omega),hc 5 (by omega),hc 6 (by omega),hc 7 (by omega),hc 8 (by omega)⟩,?_⟩
   simp only[Lit.wf,show IntKind.i64.min=-9223372036854775808 from rfl,show IntKind.i64.max=9223372036854775807 from rfl,Bool.and_eq_true,decide_eq_true_eq] at hw
   exact hw
set_option maxRecDepth 10000 in
theorem open_rol {b o n:Nat} {cs:List Value} {y:DataW H × List MemPlace} (hc:∀ i,i < 4→W.cell? ⟨b,o + i,none⟩=cs[i]?) (hl:cs.length=4) (hf:DataW.trod enc Tryz.prog W 0 (fun _=>true) true n 87 cs=some y):∃ x:RolD,RlAt W b o x∧∀ t∈x.steps,wf64 t.kind:=by
 obtain⟨c0,c1,c2,c3,rfl⟩:=list4 hl
 obtain⟨y0,y1,y2,y3,n',_,_,t0,t1,t2,t3⟩:=Go.Joins.trod_struct4 Tryz.underlying87 hf
 simp only[Tryz.cellsStr,Tryz.cellsSts,Tryz.cellsCts,Tryz.cellsStps,List.drop,List.take] at t0 t1 t2 t3
 obtain⟨s,e0,_⟩:=DataW.trod_string Tryz.underlying9 t0
 simp only[List.cons.injEq,and_true] at e0
 subst e0
 obtain⟨l1,a1,-,-⟩:=open_arr (At:=StAt) (Q:=fun _=>True) Tryz.underlying83 Tryz.cellsSt (by omega) (fun b o cs n y h1 h2 h3=>open_st h1 h2 h3) t1
 obtain⟨l2,a2,-,-⟩:=open_arr (At:=CtAt) (Q:=fun _=>True) Tryz.underlying84 Tryz.cellsCt (by omega) (fun b o cs n y h1 h2 h3=>open_ct h1 h2 h3) t2
 obtain⟨l3,a3,q3,k3⟩:=open_arr (At:=SpAt) (Q:=fun t=>wf64 t.kind) Tryz.underlying85 Tryz.cellsStp (by omega) (fun b o cs n y h1 h2 h3=>open_stp h1 h2 h3) t3
 exact⟨⟨s,l1,l2,l3⟩,⟨_,_,_,hc 0 (by omega),hc 1 (by omega),hc 2 (by omega),hc 3 (by omega),a1,a2,a3,k3⟩,q3⟩
set_option maxRecDepth 10000 in
theorem open_ses {base:Nat} {v:Value} {d:DataW H} {p:List MemPlace} (hv:Value.okWide Tryz.prog W .any base 25 v) (h:DataW.Trod enc Tryz.prog W 0 (fun _=>true) true 25 v d p):∃ s,SesV W v s∧WfS s:=by
 obtain⟨cs,rfl,hsz⟩:=okWide_struct Tryz.underlying25 hv
 obtain⟨fuel,hf⟩:=h
 obtain⟨y0,y1,y2,y3,n,_,_,t0,t1,t2,t3⟩:=Go.Joins.trod_struct4 Tryz.underlying25 hf
 rw[Tryz.cellsSes] at hsz
 obtain⟨c0,c1,c2,c3,rfl⟩:=Go.Joins.array4 hsz
 simp only[Value.cells,Tryz.cellsStr,Tryz.cellsRls,Tryz.cellsCls,Tryz.cellsInt,List.drop,List.take] at t0 t1 t2 t3
 obtain⟨s,e0,_⟩:=DataW.trod_string Tryz.underlying9 t0
 obtain⟨i2,e2,_⟩:=DataW.trod_int Tryz.underlying23 t2
 obtain⟨i3,e3,_⟩:=DataW.trod_int Tryz.underlying3 t3
 simp only[List.cons.injEq,and_true] at e0 e2 e3
 subst e0;subst e2;subst e3
 obtain⟨l,a1,q1,-⟩:=open_arr (At:=RlAt) (Q:=fun r:RolD=>∀ t∈r.steps,wf64 t.kind) Tryz.underlying22 Tryz.cellsRl (by omega) (fun b o cs n y h1 h2 h3=>open_rol h1 h2 h3) t1
 exact⟨⟨s,l,i2,i3⟩,⟨c1,rfl,a1⟩,q1⟩
end
end Go.Proofs.YtohfkhjlnlahdaaGreat
namespace Go.Proofs.YtohfkhjlnlahdaaGreat
open Go.ChangeShapes Go.WideShapes Go.ChangeAt Go.RowKit
theorem Tryz.own:ownKnob Tryz.prog.godebug=none:=by kernel_rfl
theorem Tryz.laidOut:laidOutB Tryz.prog=true:=by kernel_rfl
end Go.Proofs.YtohfkhjlnlahdaaGreat
