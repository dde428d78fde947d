/- Part of the proof. -/
import Derived.Test.YtohfkhjlnlahdaaGreatV44
import Derived.Test.YtohfkhjlnlahdaaGreatV23
import Derived.Test.YtohfkhjlnlahdaaGreatV37
import Derived.Test.YtohfkhjlnlahdaaGreatV45
set_option linter.all false
namespace Go.Proofs.YtohfkhjlnlahdaaGreat
open Go.RowKit Go.BigFrame
abbrev suZ:Value:=.agg #[.int .i64 0,.int .i64 0,.string { data:=#[] }]
structure FsB (w:World) (r4 r5 r6 r7:Nat) (tv:Value) (A:Array Value) (b:Bool) (e:Int) (V:World):Prop where
 fr:Frm [] w V
 t:V.heap[r4]?=some (.cells #[tv] 31 (0,0))
 x:V.heap[r5]?=some (.cells A 33 (0,0))
 f:V.heap[r6]?=some (.cells #[.bool b] 4 (0,0))
 e:V.heap[r7]?=some (.cells #[.int .i64 e] 34 (0,0))
 l4:w.heap.size≤r4
 l5:w.heap.size≤r5
 l6:w.heap.size≤r6
 l7:w.heap.size≤r7
section
variable {w V V':World} {r4 r5 r6 r7:Nat} {tv:Value} {A:Array Value} {b:Bool} {e:Int}
theorem FsB.frm (h:FsB w r4 r5 r6 r7 tv A b e V) (hf:Frm [] V V'):FsB w r4 r5 r6 r7 tv A b e V':=
 ⟨h.fr.trans hf,hf.at h.t (by simp),hf.at h.x (by simp),hf.at h.f (by simp),hf.at h.e (by simp),h.l4,h.l5,h.l6,h.l7⟩
theorem FsB.bk {B:Nat} (h:FsB w r4 r5 r6 r7 tv A b e V) (hb:Bk B V V') (hB:w.heap.size≤B):FsB w r4 r5 r6 r7 tv A b e V':=
 ⟨hb.old h.fr hB,hb.at h.t rfl,hb.at h.x rfl,hb.at h.f rfl,hb.at h.e rfl,h.l4,h.l5,h.l6,h.l7⟩
theorem ty_ne {W:World} {a b:Nat} {c c':Array Value} {t t':TypeId} {fr fr':Nat × Nat} (h:W.heap[a]?=some (.cells c t fr)) (h':W.heap[b]?=some (.cells c' t' fr')) (ht:t≠t'):a≠b:=fun e=>by
 subst e
 rw[h] at h'
 cases h'
 exact ht rfl
theorem FsB.setT (h:FsB w r4 r5 r6 r7 tv A b e V) (u:Value):FsB w r4 r5 r6 r7 u A b e (V.setCell ⟨r4,0,none⟩ u):=
 ⟨h.fr.setCell _ (.inr h.l4) _,(block_setCell h.t 0 u).trans rfl,setCell_at h.x (ty_ne h.x h.t (by decide)) _,setCell_at h.f (ty_ne h.f h.t (by decide)) _,setCell_at h.e (ty_ne h.e h.t (by decide)) _,h.l4,h.l5,h.l6,h.l7⟩
theorem FsB.setF (h:FsB w r4 r5 r6 r7 tv A b e V) (u:Bool):FsB w r4 r5 r6 r7 tv A u e (V.setCell ⟨r6,0,none⟩ (.bool u)):=
 ⟨h.fr.setCell _ (.inr h.l6) _,setCell_at h.t (ty_ne h.t h.f (by decide)) _,setCell_at h.x (ty_ne h.x h.f (by decide)) _,(block_setCell h.f 0 _).trans rfl,setCell_at h.e (ty_ne h.e h.f (by decide)) _,h.l4,h.l5,h.l6,h.l7⟩
theorem FsB.setE (h:FsB w r4 r5 r6 r7 tv A b e V) (u:Int):FsB w r4 r5 r6 r7 tv A b u (V.setCell ⟨r7,0,none⟩ (.int .i64 u)):=
 ⟨h.fr.setCell _ (.inr h.l7) _,setCell_at h.t (ty_ne h.t h.e (by decide)) _,setCell_at h.x (ty_ne h.x h.e (by decide)) _,setCell_at h.f (ty_ne h.f h.e (by decide)) _,(block_setCell h.e 0 _).trans rfl,h.l4,h.l5,h.l6,h.l7⟩
theorem FsB.setX {A':Array Value} (h:FsB w r4 r5 r6 r7 tv A b e V) (hx:V'.heap[r5]?=some (.cells A' 33 (0,0))) (hf:Frm [r5] V V'):FsB w r4 r5 r6 r7 tv A' b e V':=by
 have ne:∀ {k:Nat} {c:Array Value} {t:TypeId} {fr:Nat × Nat},V.heap[k]?=some (.cells c t fr)→t≠33→k∉[r5]:=fun hk ht hm=>by
  rw[List.mem_singleton] at hm
  exact ty_ne hk h.x ht hm
 exact⟨h.fr.then hf (fun y hy=>.inr (by rw[List.mem_singleton] at hy;have:=h.l5;omega)),hf.at h.t (ne h.t (by decide)),hx,hf.at h.f (ne h.f (by decide)),hf.at h.e (ne h.e (by decide)),h.l4,h.l5,h.l6,h.l7⟩
end
theorem FsB.res {w V:World} {r4 r5 r6 r7:Nat} {tv:Value} {x y:Int} {z:ByteArray} {b:Bool} {e:Int} {fn:Func} {tmps:Array Value} (h:FsB w r4 r5 r6 r7 tv #[.int .i64 x,.int .i64 y,.string z] b e V) (hf:fn.results=#[.cell 4 31,.cell 5 33,.cell 6 4,.cell 7 34])
  (h4:tmps.getD 4 undef=.pointer (some ⟨r4,0,none⟩)) (h5:tmps.getD 5 undef=.pointer (some ⟨r5,0,none⟩)) (h6:tmps.getD 6 undef=.pointer (some ⟨r6,0,none⟩)) (h7:tmps.getD 7 undef=.pointer (some ⟨r7,0,none⟩)) :
  (results fn tmps).run Tryz.prog V=.ok (.tuple #[tv,.agg #[.int .i64 x,.int .i64 y,.string z],.bool b,.int .i64 e]) V:=by
 have h4':tmps[4]?.getD undef=.pointer (some ⟨r4,0,none⟩):=by simpa using h4
 have h5':tmps[5]?.getD undef=.pointer (some ⟨r5,0,none⟩):=by simpa using h5
 have h6':tmps[6]?.getD undef=.pointer (some ⟨r6,0,none⟩):=by simpa using h6
 have h7':tmps[7]?.getD undef=.pointer (some ⟨r7,0,none⟩):=by simpa using h7
 have c4:=cell_of h.t 0
 have c6:=cell_of h.f 0
 have c7:=cell_of h.e 0
 have c50:=cell_of h.x 0
 have c51:=cell_of h.x 1
 have c52:=cell_of h.x 2
 simp at c4 c6 c7 c50 c51 c52
 simp[results,hf,h4',h5',h6',h7',asAddr,c4,c6,c7,c50,c51,c52,go_sem]
theorem Bk.cell {B:Nat} {W W':World} {a:Addr} {v:Value} (h:Bk B W W') (hc:W.cell? a=some v):W'.cell? a=some v:=by
 have hl:=World.block_lt_of_cell? _ _ hc
 have hb:W.heap[a.block]?=some W.heap[a.block]:=Array.getElem?_eq_getElem hl
 have hn:isBook W.heap[a.block]=false:=by
  cases ho:W.heap[a.block] with
  | cells c t fr=>rfl
  | _=>first | rfl | (exfalso;rw[ho] at hb;simp[World.cell?,hb] at hc)
 rw[World.cell?_of_block (w:=W) ((h.block _ _ hb (.inr hn)).trans hb.symm)]
 exact hc
theorem MvAt.bk {B:Nat} {W W':World} {g o:Nat} {m:Mv} (h:MvAt W g o m) (hb:Bk B W W'):MvAt W' g o m:=⟨hb.cell h.1,hb.cell h.2,hb.cell h.3,hb.cell h.4⟩
theorem FsB.mv {w V V':World} {r4 r5 r6 r7:Nat} {ao:Option Addr} {n c:Nat} {x y:Int} {z:ByteArray} {b:Bool} {e:Int} {g o:Nat} {m:Mv} (h:FsB w r4 r5 r6 r7 (.slice ao n c) #[.int .i64 x,.int .i64 y,.string z] b e V) (hm:MvAt V g o m) (hf:Frm [r4,r5,r6,r7] V V'):MvAt V' g o m:=by
 have hg:g∉[r4,r5,r6,r7]:=fun hx=>by
  simp only[List.mem_cons,List.not_mem_nil,or_false] at hx
  rcases hx with rfl | rfl | rfl | rfl
  ·have:=hm.1;rw[cell_of h.t] at this
   cases o with
   | zero=>simp at this
   | succ o=>simp at this
  ·have:=hm.4;rw[cell_of h.x] at this
   simp at this
  ·have:=hm.1;rw[cell_of h.f] at this
   cases o with
   | zero=>simp at this
   | succ o=>simp at this
  ·have:=hm.2;rw[cell_of h.e] at this
   simp at this
 exact⟨hf.cellAt hm.1 hg,hf.cellAt hm.2 hg,hf.cellAt hm.3 hg,hf.cellAt hm.4 hg⟩
theorem setCell_same {w:World} {b o:Nat} {c:Array Value} {t:TypeId} {fr:Nat × Nat} {v:Value} (h:w.heap[b]?=some (.cells c t fr)) (hc:c[o]?=some v):w.setCell ⟨b,o,none⟩ v=w:=by
 have hlt:=lt_of_block h
 have hset:c.setIfInBounds o v=c:=by
  apply Array.ext_getElem?
  intro i
  by_cases hi:o=i
  ·subst hi
   have:o < c.size:=by
    rcases Nat.lt_or_ge o c.size with h1 | h1
    ·exact h1
    ·rw[Array.getElem?_eq_none h1] at hc;cases hc
   rw[Array.getElem?_setIfInBounds_self_of_lt this,hc]
  ·rw[Array.getElem?_setIfInBounds_ne hi]
 have:(w.setCell ⟨b,o,none⟩ v).heap=w.heap:=by
  apply Array.ext_getElem?
  intro i
  by_cases hi:i=b
  ·subst hi
   have h2:(w.setCell ⟨i,o,none⟩ v).heap[i]?=some (.cells (c.setIfInBounds o v) t fr):=block_setCell h o v
   rw[h2,h,hset]
  ·exact Below.heap_setCell _ _ _ _ hi
 show { w with heap:=_ }=w
 cases w
 simp only[World.setCell] at this ⊢
 rw[this]
theorem FsB.nes {w V:World} {r4 r5 r6 r7:Nat} {tv:Value} {A:Array Value} {b:Bool} {e:Int} (h:FsB w r4 r5 r6 r7 tv A b e V):r4≠r5∧r4≠r6∧r4≠r7∧r5≠r6∧r5≠r7∧r6≠r7:=
 ⟨ty_ne h.t h.x (by decide),ty_ne h.t h.f (by decide),ty_ne h.t h.e (by decide),ty_ne h.x h.f (by decide),ty_ne h.x h.e (by decide),ty_ne h.f h.e (by decide)⟩
theorem FsB.set3 {w V:World} {r4 r5 r6 r7:Nat} {tv:Value} {A:Array Value} {b:Bool} {e:Int} (h:FsB w r4 r5 r6 r7 tv A b e V) (hA:A.size=3) (x y z:Value) :
  FsB w r4 r5 r6 r7 tv #[x,y,z] b e (((V.setCell ⟨r5,0,none⟩ x).setCell ⟨r5,1,none⟩ y).setCell ⟨r5,2,none⟩ z)∧Frm [r5] V (((V.setCell ⟨r5,0,none⟩ x).setCell ⟨r5,1,none⟩ y).setCell ⟨r5,2,none⟩ z):=by
 have:=setCells_whole h.x #[x,y,z] (by rw[hA];rfl)
 exact⟨h.setX this.1 this.2,this.2⟩
theorem FsB.put {w V:World} {r4 r5 r6 r7:Nat} {tv:Value} {A:Array Value} {b:Bool} {e:Int} (h:FsB w r4 r5 r6 r7 tv A b e V) (hA:A.size=3) (t' x y z:Value) (b':Bool) (e':Int) {V':World}
  (hV:V'=((((((V.setCell ⟨r4,0,none⟩ t').setCell ⟨r5,0,none⟩ x).setCell ⟨r5,1,none⟩ y).setCell ⟨r5,2,none⟩ z).setCell ⟨r6,0,none⟩ (.bool b')).setCell ⟨r7,0,none⟩ (.int .i64 e')).drew) :
  FsB w r4 r5 r6 r7 t' #[x,y,z] b' e' V'∧Frm [r4,r5,r6,r7] V V':=by
 subst hV
 have h1:=h.setT t'
 obtain⟨h2,g2⟩:=h1.set3 hA x y z
 have h3:=h2.setF b'
 have h4:=h3.setE e'
 refine⟨h4.frm (Frm.refl [] _).drew,?_⟩
 have f1:Frm [r4,r5,r6,r7] V (V.setCell ⟨r4,0,none⟩ t'):=(Frm.refl _ _).setCell _ (.inl (by simp)) _
 have f2:=f1.trans (g2.mono (F':=[r4,r5,r6,r7]) fun q hq=>by rw[List.mem_singleton] at hq;subst hq;exact .inl (by simp))
 exact((f2.setCell ⟨r6,0,none⟩ (.inl (by simp)) _).setCell ⟨r7,0,none⟩ (.inl (by simp)) _).drew
theorem FsB.mark {w V V':World} {r4 r5 r6 r7 D:Nat} {tv:Value} {A:Array Value} {b:Bool} {e:Int} (h:FsB w r4 r5 r6 r7 tv A b e V) (hD:V.heap[D]?=some (.deferred (some []))) (hf:Frm [r4,r5,r6,r7] V V'):V'.heap[D]?=some (.deferred (some [])):=by
 refine hf.at hD fun hx=>?_
 simp only[List.mem_cons,List.not_mem_nil,or_false] at hx
 rcases hx with rfl | rfl | rfl | rfl
 ·rw[h.t] at hD;cases hD
 ·rw[h.x] at hD;cases hD
 ·rw[h.f] at hD;cases hD
 ·rw[h.e] at hD;cases hD
theorem Kc.one {B b:Nat} {c:Array Value} {t:TypeId} {fr:Nat × Nat} {W W':World} (hb:W.heap[b]?=some (.cells c t fr)) (hf:Frm [b] W W'):Kc anyT B W W':=
 ⟨hf.size,fun _ _ _ _ _ h=>(h trivial).elim,fun k o _ hk ho=>hf.at hk fun hm=>by
  rw[List.mem_singleton] at hm
  subst hm
  rw[hb] at hk
  cases hk
  cases ho⟩
def FstTo (w:World) (s:SesD) (lim:Nat) (v:Value) (w':World):Prop:=
 Frm [] w w'∧((allSp s (searchP s lim).1=[]∧v=.tuple #[.slice none 0 0,suZ,.bool false,.int .i64 (if (searchP s lim).2 then 0 else 7)]) ∨
  (∃ n u rest tv,allSp s (searchP s lim).1=(n,u) :: rest∧v=.tuple #[tv,suV u,.bool true,.int .i64 0]∧Arr 4 MvAt w' tv (traceP (searchP s lim).1 n)))
theorem fst_end {w V:World} {s:SesD} {lim:Nat} {r4 r5 r6 r7 D:Nat} {tv:Value} {x y:Int} {z:ByteArray} {b:Bool} {e:Int} {fn:Func} {tmps:Array Value} (h:FsB w r4 r5 r6 r7 tv #[.int .i64 x,.int .i64 y,.string z] b e V) (hD:V.heap[D]?=some (.deferred (some []))) (hl:w.heap.size≤D)
  (hf:fn.results=#[.cell 4 31,.cell 5 33,.cell 6 4,.cell 7 34]) (h4:tmps.getD 4 undef=.pointer (some ⟨r4,0,none⟩)) (h5:tmps.getD 5 undef=.pointer (some ⟨r5,0,none⟩)) (h6:tmps.getD 6 undef=.pointer (some ⟨r6,0,none⟩)) (h7:tmps.getD 7 undef=.pointer (some ⟨r7,0,none⟩))
  (hT:∀ V',Bk w.heap.size V V'→Frm [] w V'→FstTo w s lim (.tuple #[tv,.agg #[.int .i64 x,.int .i64 y,.string z],.bool b,.int .i64 e]) V') :
  LeavesInM Fence.wide 3 Tryz.prog fn tmps (RetV (FstTo w s lim)) [{ target:=.collected D,args:=#[] }] .returning V:=by
 have hb:Bk w.heap.size V (V.putObj D (.deferred none)):=Bk.putObj V _ hD rfl hl
 have h':=h.bk hb (Nat.le_refl _)
 exact leaves_mark hD ⟨_,h'.res hf h4 h5 h6 h7,_,rfl,hT _ hb h'.fr⟩
attribute [local go_sem] Oper.semAt_some
set_option maxHeartbeats 4000000 in
set_option maxRecDepth 100000 in
theorem xpFirst_any (s:SesD) (yb fb lim:Nat) (w:World) (h:SyR w s yb fb) (h1:1≤lim) (h2:lim≤200000):Calls Tryz.prog 16 #[.pointer (some ⟨yb,0,none⟩),.int .i64 lim] w (RetV (FstTo w s lim)):=by
 have HY:=Lib.hid h;have HL:=Lib.hid (⟨h1,h2⟩:1≤lim∧lim≤200000)
 obtain⟨W0,hW0⟩:∃ W0,(((w.alloc (.cells #[.slice none 0 0] 31)).alloc (.cells #[.int .i64 0,.int .i64 0,.string { data:=#[] }] 33)).alloc (.cells #[.bool false] 4)).alloc (.cells #[.int .i64 0] 34)=W0:=⟨_,rfl⟩
 obtain⟨r7,h7⟩:∃ b,w.heap.size + 1 + 1 + 1=b:=⟨_,rfl⟩
 obtain⟨r6,h6⟩:∃ b,w.heap.size + 1 + 1=b:=⟨_,rfl⟩
 obtain⟨r5,h5⟩:∃ b,w.heap.size + 1=b:=⟨_,rfl⟩
 obtain⟨r4,h4⟩:∃ b,w.heap.size=b:=⟨_,rfl⟩
 have HB0:Hid (FsB w r4 r5 r6 r7 (.slice none 0 0) #[.int .i64 0,.int .i64 0,.string { data:=#[] }] false 0 W0):=Lib.hid (by
  rw[← hW0,← h4,← h5,← h6,← h7]
  exact⟨((((Frm.refl _ _).alloc _).alloc _).alloc _).alloc _,alloc_at (alloc_at (alloc_at (heap_alloc_new _ _))),alloc_at (alloc_at (alloc_top (by simp))),alloc_at (alloc_top (by simp)),alloc_top (by simp),Nat.le_refl _,by omega,by omega,by omega⟩)
 have CS:=Lib.hid (xSearch_any s yb fb lim W0 (h.frm HB0.out.fr) h1 h2)
 have HE:=Lib.hid hW0;have H4:=Lib.hid h4;have H5:=Lib.hid h5;have H6:=Lib.hid h6;have H7:=Lib.hid h7
 clear h h1 h2 hW0 h4 h5 h6 h7
 refine calls_of_marks Tryz.func16 rfl ?_
 simp only[Tryz.ntmps16,List.size_toArray,List.length_cons,List.length_nil,Nat.reduceAdd,Nat.reduceSub,Array.replicate_succ,Array.replicate_zero,List.push_toArray,List.append_toArray,List.nil_append,List.cons_append]
 go_upto_region 1 with fail
 rw[HE.out,H7.out,H6.out,H5.out,H4.out]
 clear HE H7 H6 H5 H4
 have e7:=cell_of HB0.out.e 0
 have f7:=free_of HB0.out.e 0
 go_upto_region 2 with (first
  | (go_at_call 57;go_must (refine CS.out.mono ?_;rintro e w1 ⟨v,rfl,pb,N,rfl,hsp,hN,hf⟩;have HSP:=Lib.hid hsp;have HN:=Lib.hid hN;have HB1:=Lib.hid (HB0.out.frm hf);have HF1:=Lib.hid hf;clear hsp hN hf CS e7 f7;have e7:=cell_of (HB1.out.frm ((Frm.refl [] w1).alloc (.cells #[.pointer (some ⟨pb,0,none⟩)] 122))).e 0;have f7:=free_of (HB1.out.frm ((Frm.refl [] w1).alloc (.cells #[.pointer (some ⟨pb,0,none⟩)] 122))).e 0)))
 have hw2:(w1.alloc (.cells #[.pointer (some ⟨pb,0,none⟩)] 122)).setCell ⟨r7,0,none⟩ (.int .i64 0)=w1.alloc (.cells #[.pointer (some ⟨pb,0,none⟩)] 122):=setCell_same ((Frm.refl [] w1).alloc (.cells #[.pointer (some ⟨pb,0,none⟩)] 122) |>.at HB1.out.e (by simp)) rfl
 rw[hw2]
 obtain⟨W2,hW2⟩:∃ W,w1.alloc (.cells #[.pointer (some ⟨pb,0,none⟩)] 122)=W:=⟨_,rfl⟩
 obtain⟨r8,h8⟩:∃ b,w1.heap.size=b:=⟨_,rfl⟩
 have HF2:Hid (Frm [] w1 W2):=Lib.hid (by rw[← hW2];exact(Frm.refl _ _).alloc _)
 have HP:Hid (W2.heap[r8]?=some (.cells #[.pointer (some ⟨pb,0,none⟩)] 122 (0,0))):=Lib.hid (by rw[← hW2,← h8];exact heap_alloc_new _ _)
 rw[hW2,h8]
 clear hw2 hW2 h8 e7 f7
 have HB2:=Lib.hid (HB1.out.frm HF2.out)
 have HSP2:=Lib.hid (HSP.out.frm HF2.out)
 have CA:=Lib.hid (xpAll_any s yb fb lim W2 (HY.out.frm HB2.out.fr) HL.out.1 HL.out.2)
 have e7:=cell_of HB2.out.e 0
 go_upto_region 5 with (first
  | (go_at_call 36;go_must (refine CA.out.mono ?_;rintro e w3 ⟨v,rfl,B1,B2,pb2,ra,cp,N2,rfl,hal,hN2,hf⟩;have HAL:=Lib.hid hal;have HN2:=Lib.hid hN2;have HF3:=Lib.hid hf;clear hal hN2 hf CA e7)))
 have HB3:=Lib.hid (HB2.out.frm HF3.out)
 have HSP3:=Lib.hid (HSP2.out.frm HF3.out)
 have HP3:=Lib.hid (HF3.out.at HP.out (by simp))
 have HNN:Hid (N2.map Prod.fst=N.map Prod.fst):=Lib.hid (HN2.out.trans HN.out.symm)
 obtain⟨nn,hfo⟩:=search_ok (lim:=lim) HAL.out.sy.ok HL.out.1
 have HSI:Hid (SI s lim nn (N.map Prod.fst)):=Lib.hid (by rw[HN.out];exact hfo.toSI)
 have hlen:N.length≤lim:=by
  have:=HSI.out.top
  rw[List.length_map] at this
  omega
 have hlen2:N2.length=N.length:=by rw[← List.length_map (f:=Prod.fst),← List.length_map (f:=Prod.fst),HNN.out]
 have HLN:Hid (N.length≤200000):=Lib.hid (by have:=HL.out;omega)
 have HIT:=Lib.hid (al_iter (fun _=>False) id id id B1 B2 pb2 yb fb cp ra s (searchP s lim).2 N2 (by have:=HLN.out;omega))
 have HALN:Hid (allSp s (N2.map Prod.fst)=allSp s (searchP s lim).1):=Lib.hid (by rw[HN2.out])
 clear hfo hlen hlen2
 refine wp_rangeListT (T:=fun _=>False) rfl (enters_of Tryz.func94 (by kernel_rfl) rfl) HIT.out (fun _=>rfl)
  (fun pre V=>pre=[]∧Frm [] w3 V)
  (fun c _ V=>c=.ret∧∃ n u rest ta tn tc,allSp s (searchP s lim).1=(n,u) :: rest∧FsB w r4 r5 r6 r7 (.slice ta tn tc) #[.int .i64 u.role,.int .i64 u.peer,.string u.msg] true 0 V∧Arr 4 MvAt V (.slice ta tn tc) (traceP (searchP s lim).1 n))
  (fun _ _ _ h hb=>⟨h.1,hb.old h.2 (Nat.le_refl _)⟩)
  (fun _ _ _ _ h hb=>⟨h.1,by obtain⟨n,u,rest,ta,tn,tc,h1,h2,h3⟩:=h.2;exact⟨n,u,rest,ta,tn,tc,h1,h2.bk hb HB3.out.fr.size,h3.frm fun _ _ _ h=>h.bk hb⟩⟩)
  (fun _ V h=>HAL.out.frm h.2) ⟨rfl,Frm.refl _ _⟩ ?_ ?_ ?_
 ·intro l pre y rest Wr hxs hI hl hlr
  obtain⟨rfl,hfr⟩:=hI
  obtain⟨n,u⟩:=y
  have hmem:(n,u)∈allSp s (N.map Prod.fst):=by rw[← HNN.out,hxs];simp
  obtain⟨d0,hd0,-⟩:=mem_allSp.1 hmem
  have HLT:Hid (n < N.length):=Lib.hid (by have:=lt_of_some hd0;rwa [List.length_map] at this)
  have HXS:=Lib.hid hxs;have HFR:=Lib.hid hfr
  clear hmem hd0 hxs hfr hl hlr
  simp only[suV]
  gi_wp2
  refine⟨Kc.frm ((Frm.refl [] Wr).alloc _),fun Wq hbk _=>?_⟩
  have HFq:Hid (Frm [] w3 Wq):=Lib.hid (hbk.old (HFR.out.alloc _) (Nat.le_refl _))
  have H10:Hid (Wq.heap[Wr.heap.size]?=some (.cells #[.int .i64 u.role,.int .i64 u.peer,.string u.msg] 33 (0,0))):=Lib.hid (hbk.at (heap_alloc_new _ _) rfl)
  have HNE:Hid (Wr.heap.size≠r5):=Lib.hid (by have:=lt_of_block HB3.out.x;have:=HFR.out.size;omega)
  obtain⟨r10,h10⟩:∃ b,Wr.heap.size=b:=⟨_,rfl⟩
  rw[h10] at H10 HNE
  rw[h10]
  clear hbk h10
  have CT:=Lib.hid (xTrace_any (HSP3.out.frm HFq.out) HSI.out HLT.out HLN.out)
  have z8:=cell_of (HFq.out.at HP3.out (by simp)) 0
  gi_upto_region 8 with (refine⟨trivial,?_⟩;gi_at_call 58;go_must (refine(CallsIn.inRound l (callsIn_wide.2 CT.out)).mono ?_;rintro e w4 ⟨v,rfl,uu,rfl,harr,hf⟩;obtain⟨ta,tc,rfl⟩:=harr.shape;have HTA:=Lib.hid harr;have HF4:=Lib.hid hf;clear harr hf z8 CT))
  have HB4:=Lib.hid (HB3.out.frm (HFq.out.trans HF4.out))
  have H104:=Lib.hid (HF4.out.at H10.out (by simp))
  obtain⟨Tr,hTr⟩:∃ T,traceP (N.map Prod.fst) n=T:=⟨_,rfl⟩
  have HTr:Hid (traceP (searchP s lim).1 n=Tr):=Lib.hid (by rw[← HN.out];exact hTr)
  rw[hTr] at HTA ⊢
  have HWX:Hid (Kc anyT w3.heap.size Wq w4):=Lib.hid (Kc.frm HF4.out)
  clear hTr HFR H10
  refine wpIn_region_inv' (fun f=>{ tmps:=#[.pointer (some ⟨yb,0,none⟩),.int .i64 (lim:Int),undef,undef,.pointer (some ⟨r4,0,none⟩),.pointer (some ⟨r5,0,none⟩),.pointer (some ⟨r6,0,none⟩),.pointer (some ⟨r7,0,none⟩),.pointer (some ⟨r8,0,none⟩),.int .i64 (n:Int),.pointer (some ⟨r10,0,none⟩),.slice ta Tr.length tc,.int .i64 0,.tuple #[.pointer (some ⟨pb,0,none⟩),.int .i64 0],.pointer (some ⟨yb,0,none⟩),.int .i64 (lim:Int),.tuple #[.pointer (some ⟨pb,0,none⟩),.int .i64 0],.pointer (some ⟨pb,0,none⟩),.int .i64 0,.int .i64 0,.bool false,undef,undef,.pointer (some ⟨yb,0,none⟩),.int .i64 (lim:Int),.func (.func 94) #[] #[.pointer (some ⟨B1,0,none⟩),.pointer (some ⟨B2,0,none⟩)],.int .i64 (n:Int),.agg #[.int .i64 u.role,.int .i64 u.peer,.string u.msg],.tuple #[.slice ta Tr.length tc,.int .i64 0],.pointer (some ⟨pb,0,none⟩),.int .i64 (n:Int),.tuple #[.slice ta Tr.length tc,.int .i64 0],.slice ta Tr.length tc,.int .i64 0,f 0,f 1,undef,undef,undef,undef,undef],defers:=[] })
   (fun D f V=>∃ a k c A,FsB w r4 r5 r6 r7 (.slice a k c) #[.int .i64 A.role,.int .i64 A.peer,.string A.msg] (D 4) 0 V∧(D 2=true→Value.slice a k c=.slice ta Tr.length tc)∧(D 3=true→A=u)∧V.heap[r10]?=some (.cells #[.int .i64 u.role,.int .i64 u.peer,.string u.msg] 33 (0,0))∧Arr 4 MvAt V (.slice ta Tr.length tc) Tr∧(D 0=true→f 0=.slice ta Tr.length tc)∧(D 1=true→f 1=.agg #[.int .i64 u.role,.int .i64 u.peer,.string u.msg])∧Kc anyT w3.heap.size Wq V)
   (fun _=>undef) (by kernel_rfl) (by kernel_rfl) rfl ?_ ?_ ?_
  ·exact⟨none,0,0,⟨0,0,{ data:=#[] }⟩,HB4.out.frm (Frm.refl [] w4).drew,(fun h=>by cases h),(fun h=>by cases h),(Frm.refl [] w4).drew.at H104.out (by simp),HTA.out.frm fun _ _ _ h=>h.frm (Frm.refl [] w4).drew,(fun h=>by cases h),(fun h=>by cases h),HWX.out.trans (Kc.frm (Frm.refl [] w4).drew)⟩
  ·refine⟨?_,?_,?_,?_,?_,?_,trivial⟩
   ·intro D f V hI hDi hdep hcl
    refine⟨rfl,fun _=>rfl,fun K' hK'=>?_⟩
    obtain⟨a,k,c,A,q1,q2,q3,q4,q5,q6,q7,q8⟩:=hI
    refine⟨fun _ _=>trivial,?_⟩
    go_simp
    refine hK'.out _ _ (.slice ta Tr.length tc) rfl ?_
    exact⟨a,k,c,A,q1,q2,q3,q4,q5,(fun _=>rfl),q7,q8⟩
   ·intro D f V hI hDi hdep hcl
    refine⟨rfl,fun _=>rfl,fun K' hK'=>?_⟩
    obtain⟨a,k,c,A,q1,q2,q3,q4,q5,q6,q7,q8⟩:=hI
    have x0:=cell_of q4 0
    have x1:=cell_of q4 1
    have x2:=cell_of q4 2
    refine⟨fun _ _=>trivial,?_⟩
    go_simp
    refine hK'.out _ _ (.agg #[.int .i64 u.role,.int .i64 u.peer,.string u.msg]) rfl ?_
    exact⟨a,k,c,A,q1,q2,q3,q4,q5,q6,(fun _=>rfl),q8⟩
   ·intro D f V hI hDi hdep hcl
    refine⟨rfl,fun _=>rfl,fun K' hK'=>?_⟩
    obtain⟨a,k,c,A,q1,q2,q3,q4,q5,q6,q7,q8⟩:=hI
    have e0:=q6 (hdep ⟨0,Ground.data⟩ (by simp) rfl)
    have x0:=cell_of q1.t 0
    have f0:=free_of q1.t 0
    have hf:Frm [r4,r5,r6,r7] V (V.setCell ⟨r4,0,none⟩ (.slice ta Tr.length tc)):=(Frm.refl _ _).setCell _ (.inl (by simp)) _
    refine⟨fun _ _=>trivial,?_⟩
    go_simp
    refine hK'.out _ _ undef (by (try simp only[e0]) <;> rfl) ?_
    exact⟨ta,Tr.length,tc,A,q1.setT _,(fun _=>rfl),q3,setCell_at q4 (ty_ne q4 q1.t (by decide)) _,q5.frm fun _ _ _ hm=>q1.mv hm hf,q6,q7,q8.set q1.t trivial 0 _⟩
   ·intro D f V hI hDi hdep hcl
    refine⟨rfl,fun _=>rfl,fun K' hK'=>?_⟩
    obtain⟨a,k,c,A,q1,q2,q3,q4,q5,q6,q7,q8⟩:=hI
    have e1:=q7 (hdep ⟨1,Ground.data⟩ (by simp) rfl)
    have x0:=cell_of q1.x 0
    have x1:=cell_of q1.x 1
    have x2:=cell_of q1.x 2
    have f0:=free_of q1.x 0
    have f1:=free_of q1.x 1
    have f2:=free_of q1.x 2
    refine⟨fun _ _=>trivial,?_⟩
    go_simp
    refine hK'.out _ _ undef (by (try simp only[e1]) <;> rfl) ?_
    obtain⟨g1,g2⟩:=q1.set3 rfl (.int .i64 u.role) (.int .i64 u.peer) (.string u.msg)
    exact⟨a,k,c,u,g1,q2,(fun _=>rfl),g2.at q4 (by rw[List.mem_singleton];exact HNE.out),q5.frm fun _ _ _ hm=>q1.mv hm (g2.mono fun y hy=>by rw[List.mem_singleton] at hy;subst hy;exact .inl (by simp)),q6,q7,q8.trans (Kc.one q1.x g2)⟩
   ·intro D f V hI hDi hdep hcl
    refine⟨rfl,fun _=>rfl,fun K' hK'=>?_⟩
    obtain⟨a,k,c,A,q1,q2,q3,q4,q5,q6,q7,q8⟩:=hI
    have x0:=cell_of q1.f 0
    have f0:=free_of q1.f 0
    have hf:Frm [r4,r5,r6,r7] V (V.setCell ⟨r6,0,none⟩ (.bool true)):=(Frm.refl _ _).setCell _ (.inl (by simp)) _
    refine⟨fun _ _=>trivial,?_⟩
    go_simp
    refine hK'.out _ _ undef rfl ?_
    exact⟨a,k,c,A,q1.setF true,q2,q3,setCell_at q4 (ty_ne q4 q1.f (by decide)) _,q5.frm fun _ _ _ hm=>q1.mv hm hf,q6,q7,q8.set q1.f trivial 0 _⟩
   ·intro D f V hI hDi hdep hcl
    refine⟨rfl,fun _=>rfl,fun K' hK'=>?_⟩
    obtain⟨a,k,c,A,q1,q2,q3,q4,q5,q6,q7,q8⟩:=hI
    have x0:=cell_of q1.e 0
    have f0:=free_of q1.e 0
    have hf:Frm [r4,r5,r6,r7] V (V.setCell ⟨r7,0,none⟩ (.int .i64 0)):=(Frm.refl _ _).setCell _ (.inl (by simp)) _
    refine⟨fun _ _=>trivial,?_⟩
    go_simp
    refine hK'.out _ _ undef rfl ?_
    exact⟨a,k,c,A,q1.setE 0,q2,q3,setCell_at q4 (ty_ne q4 q1.e (by decide)) _,q5.frm fun _ _ _ hm=>q1.mv hm hf,q6,q7,q8.set q1.e trivial 0 _⟩
  ·intro D f V hD hI
   obtain⟨a,k,c,A,q1,q2,q3,q4,q5,q6,q7,q8⟩:=hI
   have e2:=q2 (hD 2 (by decide))
   have e3:=q3 (hD 3 (by decide))
   have e4:D 4=true:=hD 4 (by decide)
   rw[e2,e3,e4] at q1
   have HQ1:=Lib.hid q1;have HQ5:=Lib.hid q5;have HQ8:=Lib.hid q8
   clear q1 q2 q3 q4 q5 q6 q7 q8 e2 e3 e4
   gi_wp2
   exact⟨HQ8.out,rfl,n,u,rest,ta,Tr.length,tc,HALN.out.symm.trans HXS.out,HQ1.out,by rw[HTr.out];exact HQ5.out⟩
 ·intro D V hD hI hK
  have HFv:=Lib.hid hI.2
  have HKD:=Lib.hid hK
  have HNIL:Hid (allSp s (searchP s lim).1=[]):=Lib.hid (HALN.out.symm.trans hI.1)
  have HDB:Hid (w3.heap.size≤D):=Lib.hid hD
  clear hI hK hD
  have z8:=cell_of (HFv.out.at HP3.out (by simp)) 0
  have CW:=Lib.hid (xWhole_eq (HSP3.out.frm HFv.out))
  have HBv:=Lib.hid (HB3.out.frm HFv.out)
  obtain⟨wh,hwh⟩:∃ b,(searchP s lim).2=b:=⟨_,rfl⟩
  rw[hwh] at CW
  have HWH:=Lib.hid hwh
  clear hwh
  have HZ:Hid (∀ e9:Int,(if wh then (0:Int) else 7)=e9→∀ V',Frm [] w V'→FstTo w s lim (.tuple #[.slice none 0 0,.agg #[.int .i64 0,.int .i64 0,.string { data:=#[] }],.bool false,.int .i64 e9]) V'):=Lib.hid fun e9 he V' hV'=>⟨hV',.inl ⟨HNIL.out,by rw[HWH.out,he]⟩⟩
  have x4:=cell_of HBv.out.t 0
  have y4:=free_of HBv.out.t 0
  have x50:=cell_of HBv.out.x 0
  have x51:=cell_of HBv.out.x 1
  have x52:=cell_of HBv.out.x 2
  have y50:=free_of HBv.out.x 0
  have y51:=free_of HBv.out.x 1
  have y52:=free_of HBv.out.x 2
  have x6:=cell_of HBv.out.f 0
  have y6:=free_of HBv.out.f 0
  have x7:=cell_of HBv.out.e 0
  have y7:=free_of HBv.out.e 0
  obtain⟨n45,n46,n47,n56,n57,n67⟩:=HBv.out.nes
  have n54:=n45.symm
  have n64:=n46.symm
  have n74:=n47.symm
  have n65:=n56.symm
  have n75:=n57.symm
  have n76:=n67.symm
  cases wh with
  | true =>
    go_wp2_with (go_at_call 59;go_must (refine CW.out.mono ?_;rintro e w4 ⟨rfl,rfl⟩;clear CW z8))
    go_region
    obtain⟨Vf,hVf⟩:∃ Vf,Vf=((((((V.setCell ⟨r4,0,none⟩ (.slice none 0 0)).setCell ⟨r5,0,none⟩ (.int .i64 0)).setCell ⟨r5,1,none⟩ (.int .i64 0)).setCell ⟨r5,2,none⟩ (.string { data:=#[] })).setCell ⟨r6,0,none⟩ (.bool false)).setCell ⟨r7,0,none⟩ (.int .i64 0)).drew:=⟨_,rfl⟩
    obtain⟨g1,g2⟩:=HBv.out.put rfl _ _ _ _ _ _ hVf
    have HG1:=Lib.hid g1;have HGD:=Lib.hid (HBv.out.mark HKD.out g2)
    rw[← hVf]
    clear hVf g1 g2 x4 y4 x50 x51 x52 y50 y51 y52 x6 y6 x7 y7
    go_wp2
    exact fst_end HG1.out HGD.out (Nat.le_trans HB3.out.fr.size HDB.out) rfl rfl rfl rfl rfl (fun V' _ hV'=>HZ.out 0 rfl V' hV')
  | false =>
    go_wp2_with (go_at_call 59;go_must (refine CW.out.mono ?_;rintro e w4 ⟨rfl,rfl⟩;clear CW z8))
    go_region
    obtain⟨Vf,hVf⟩:∃ Vf,Vf=((((((V.setCell ⟨r4,0,none⟩ (.slice none 0 0)).setCell ⟨r5,0,none⟩ (.int .i64 0)).setCell ⟨r5,1,none⟩ (.int .i64 0)).setCell ⟨r5,2,none⟩ (.string { data:=#[] })).setCell ⟨r6,0,none⟩ (.bool false)).setCell ⟨r7,0,none⟩ (.int .i64 7)).drew:=⟨_,rfl⟩
    obtain⟨g1,g2⟩:=HBv.out.put rfl _ _ _ _ _ _ hVf
    have HG1:=Lib.hid g1;have HGD:=Lib.hid (HBv.out.mark HKD.out g2)
    rw[← hVf]
    clear hVf g1 g2 x4 y4 x50 x51 x52 y50 y51 y52 x6 y6 x7 y7
    go_wp2
    exact fst_end HG1.out HGD.out (Nat.le_trans HB3.out.fr.size HDB.out) rfl rfl rfl rfl rfl (fun V' _ hV'=>HZ.out 7 rfl V' hV')
 ·intro D c pre x rest V hxs hD hX hK
  obtain⟨rfl,n,u,rest9,ta,tn,tc,g1,g2,g3⟩:=hX
  have HG1:=Lib.hid g1;have HG2:=Lib.hid g2;have HG3:=Lib.hid g3;have HKD:=Lib.hid hK
  have HDB:Hid (w3.heap.size≤D):=Lib.hid hD
  clear g1 g2 g3 hK hD hxs
  go_wp2
  exact fst_end HG2.out HKD.out (Nat.le_trans HB3.out.fr.size HDB.out) rfl rfl rfl rfl rfl (fun V' hb hV'=>⟨hV',.inr ⟨n,u,rest9,_,HG1.out,rfl,HG3.out.frm fun _ _ _ h=>h.bk hb⟩⟩)
end Go.Proofs.YtohfkhjlnlahdaaGreat
