/- Part of the proof. -/
import Derived.Test.YtohfkhjlnlahdaaGreatW14
import Derived.Test.YtohfkhjlnlahdaaGreatW13
set_option linter.all false
namespace Go.Proofs.YtohfkhjlnlahdaaGreat
open Go.RowKit Go.BigFrame
def Agree (B:Nat) (W V:World):Prop:=∀ k,B≤k→k < W.heap.size→V.heap[k]?=W.heap[k]?
theorem Agree.refl (B:Nat) (W:World):Agree B W W:=fun _ _ _=>rfl
theorem Agree.low {B B':Nat} {W V:World} (h:Agree B W V) (hb:B≤B'):Agree B' W V:=fun k h1 h2=>h k (by omega) h2
theorem Agree.old {F:List Nat} {B:Nat} {W W' V:World} (h:Agree B W' V) (hf:Frm F W W') (hF:∀ x∈F,x < B):Agree B W V:=fun k h1 h2=>by
 have hs:=hf.size
 rw[h k h1 (by omega)]
 exact hf.block k h2 (fun hx=>by have:=hF k hx;omega)
theorem Fr.stb {α:Type} {k:Nat} {e:TypeId} {At:World→Nat→Nat→α→Prop} {w w':World} {xs:List α} {v:Value} (h:Fr k e At w xs v w') (hA:∀ (W V:World) b o x,At W b o x→V.heap[b]?=W.heap[b]?→At V b o x) :
  ∃ ao c,v=.slice ao xs.length c∧∀ (W V:World),Agree w.heap.size w' W→Agree w.heap.size w' V→Arr k At V v xs:=by
 obtain⟨ao,c,rfl⟩:=h.arr.shape
 refine⟨ao,c,rfl,fun _ V _ hV=>?_⟩
 rcases h.own with rfl | ⟨news,ho⟩
 ·exact Arr.nil _ _ _
 ·refine⟨ao,c,rfl,fun i x hx=>?_⟩
  have hn:xs.length≠0:=by have:=lt_of_some hx;omega
  obtain⟨g,cap,cur,e,hg,hc⟩:=own_block ho hn
  cases e
  obtain⟨b,o,e,ha⟩:=h.arr.get hx
  cases e
  exact⟨g,0,rfl,hA _ _ _ _ _ ha (hV g hg (lt_of_block hc))⟩
theorem cell_eq {W V:World} {b o:Nat} {v:Value} (h:W.cell? ⟨b,o,none⟩=some v) (e:V.heap[b]?=W.heap[b]?):V.cell? ⟨b,o,none⟩=some v:=(World.cell?_of_block (w:=W) e).trans h
theorem StAt.leaf (W V:World) (b o:Nat) (x:StD) (h:StAt W b o x) (e:V.heap[b]?=W.heap[b]?):StAt V b o x:=⟨cell_eq h.1 e,cell_eq h.2.1 e,cell_eq h.2.2 e⟩
theorem CtAt.leaf (W V:World) (b o:Nat) (x:CtrD) (h:CtAt W b o x) (e:V.heap[b]?=W.heap[b]?):CtAt V b o x:=⟨cell_eq h.1 e,cell_eq h.2 e⟩
theorem SpAt.leaf (W V:World) (b o:Nat) (x:StpD) (h:SpAt W b o x) (e:V.heap[b]?=W.heap[b]?):SpAt V b o x:=
 ⟨cell_eq h.c0 e,cell_eq h.c1 e,cell_eq h.c2 e,cell_eq h.c3 e,cell_eq h.c4 e,cell_eq h.c5 e,cell_eq h.c6 e,cell_eq h.c7 e,cell_eq h.c8 e⟩
def AgX (B g b:Nat) (W V:World):Prop:=∀ k,B≤k→k≠g→k≠b→k < W.heap.size→V.heap[k]?=W.heap[k]?
theorem AgX.old {B g b:Nat} {W W' V:World} {F:List Nat} (h:AgX B g b W' V) (hf:Frm F W W') (hF:∀ x∈F,x=g∨x=b):AgX B g b W V:=fun k h1 h2 h3 h4=>by
 have hs:=hf.size
 rw[h k h1 h2 h3 (by omega)]
 exact hf.block k h4 (fun hx=>by rcases hF k hx with e | e <;> omega)
def OwR (B g b o:Nat) (r:RolD) (W:World):Prop:=
 ∃ sv cv tv,W.cell? ⟨g,o,none⟩=some (.string r.name)∧W.cell? ⟨g,o + 1,none⟩=some sv∧W.cell? ⟨g,o + 2,none⟩=some cv∧W.cell? ⟨g,o + 3,none⟩=some tv∧∀ V,AgX B g b W V→Rl3 V sv cv tv r
theorem RoAt.of {w:World} {v:Value} {l:List RolD} (h:Rls w v l):Arr 4 (RoAt w) w v l:=by
 obtain⟨ao,cap,e,hx⟩:=h
 refine⟨ao,cap,e,fun i x hi=>?_⟩
 obtain⟨b,o,e2,sv,cv,tv,h1⟩:=hx i x hi
 exact⟨b,o,e2,sv,cv,tv,h1⟩
structure OwI (w:World) (s:SesD) (b1 b2 g cap i:Nat) (W:World):Prop where
 fr:Frm [] w W
 l1:w.heap.size≤b1
 l2:w.heap.size≤b2
 lg:w.heap.size≤g
 n12:b1≠b2
 h1:W.heap[b1]?=some (.cells #[.string s.name,.slice (some ⟨g,0,none⟩) s.roles.length cap,.int .i64 s.cls,.int .i64 s.cap] 25 (0,0))
 h2:W.heap[b2]?=some (.cells #[.string { data:=#[] },.slice none 0 0,.int .i64 0,.int .i64 0] 25 (0,0))
 hg:∃ cur,W.heap[g]?=some (.cells cur 87 (0,0))
 done:∀ (j:Nat) r,j < i→s.roles[j]?=some r→OwR w.heap.size g b2 (j * 4) r W
 rest:∀ (j:Nat) r,i≤j→s.roles[j]?=some r→RoAt w W g (j * 4) r
theorem OwI.ne {w W:World} {s:SesD} {b1 b2 g cap i:Nat} (h:OwI w s b1 b2 g cap i W):b1≠g∧b2≠g:=by
 obtain⟨cur,hg⟩:=h.hg
 refine⟨fun e=>?_,fun e=>?_⟩
 ·subst e;rw[h.h1] at hg;cases hg
 ·subst e;rw[h.h2] at hg;cases hg
structure Cl3 (w0:World) (sv cv tv:Value) (r:RolD) (W:World):Prop where
 frm:Frm [] w0 W
 sts:∀ V,Agree w0.heap.size W V→Arr 3 StAt V sv r.sts
 ctrs:∀ V,Agree w0.heap.size W V→Arr 2 CtAt V cv r.ctrs
 steps:∀ V,Agree w0.heap.size W V→Arr 9 SpAt V tv r.steps
 cap:∀ ao n c,tv=.slice ao n c→n≤c
theorem OwI.step {w W W':World} {s:SesD} {b1 b2 g cap i:Nat} (h:OwI w s b1 b2 g cap i W) {r:RolD} (hr:s.roles[i]?=some r) {sv cv tv:Value} (hc:Cl3 W sv cv tv r W') :
  OwI w s b1 b2 g cap (i + 1) (((W'.setCell ⟨g,i * 4 + 1,none⟩ sv).setCell ⟨g,i * 4 + 2,none⟩ cv).setCell ⟨g,i * 4 + 3,none⟩ tv):=by
 obtain⟨n1,n2⟩:=h.ne
 obtain⟨cur,hg⟩:=h.hg
 have hg':=hc.frm.at hg (by simp)
 have e1:=block_setCell hg' (i * 4 + 1) sv
 have e2:=block_setCell e1 (i * 4 + 2) cv
 have e3:=block_setCell e2 (i * 4 + 3) tv
 have hF:Frm [g] W' (((W'.setCell ⟨g,i * 4 + 1,none⟩ sv).setCell ⟨g,i * 4 + 2,none⟩ cv).setCell ⟨g,i * 4 + 3,none⟩ tv):=(((Frm.refl [g] W').setCell _ (.inl (by simp)) _).setCell _ (.inl (by simp)) _).setCell _ (.inl (by simp)) _
 obtain⟨W2,hW2⟩:∃ W2,(((W'.setCell ⟨g,i * 4 + 1,none⟩ sv).setCell ⟨g,i * 4 + 2,none⟩ cv).setCell ⟨g,i * 4 + 3,none⟩ tv)=W2:=⟨_,rfl⟩
 rw[hW2] at e3 hF ⊢
 have hFW:Frm [g] W W2:=(hc.frm.mono (by simp)).trans hF
 have hsz:w.heap.size≤W.heap.size:=h.fr.size
 have hrr:=h.rest i r (Nat.le_refl _) hr
 obtain⟨sv0,cv0,tv0,q0,q1,q2,q3,-⟩:=hrr
 rw[cell_of hg] at q0 q1 q2 q3
 have hlt:i * 4 + 3 < cur.size:=(Array.getElem?_eq_some_iff.1 q3).1
 have hcell:∀ o,(o≠i * 4 + 1→o≠i * 4 + 2→o≠i * 4 + 3→W2.cell? ⟨g,o,none⟩=W.cell? ⟨g,o,none⟩):=fun o h1 h2 h3=>by
  rw[cell_of e3,cell_of hg,Array.getElem?_setIfInBounds_ne (by omega),Array.getElem?_setIfInBounds_ne (by omega),Array.getElem?_setIfInBounds_ne (by omega)]
 refine⟨h.fr.then hFW (by intro x hx;simp at hx;subst hx;exact .inr h.lg),h.l1,h.l2,h.lg,h.n12,hFW.at h.h1 (by simpa using n1),hFW.at h.h2 (by simpa using n2),⟨_,e3⟩,fun j a hj ha=>?_,fun j a hj ha=>?_⟩
 ·by_cases e:j=i
  ·subst e
   rw[hr] at ha;cases ha
   refine⟨sv,cv,tv,?_,?_,?_,?_,fun V hV=>?_⟩
   ·rw[hcell _ (by omega) (by omega) (by omega),cell_of hg];exact q0
   ·rw[cell_of e3,Array.getElem?_setIfInBounds_ne (by omega),Array.getElem?_setIfInBounds_ne (by omega),Array.getElem?_setIfInBounds_self_of_lt (by omega)]
   ·rw[cell_of e3,Array.getElem?_setIfInBounds_ne (by omega),Array.getElem?_setIfInBounds_self_of_lt (by simp;omega)]
   ·rw[cell_of e3,Array.getElem?_setIfInBounds_self_of_lt (by simp;omega)]
   ·have hgl:=lt_of_block hg
    have hbl:=lt_of_block h.h2
    have hV':Agree W.heap.size W' V:=fun k h1 h2=>(hV.old hF (by simp)) k (by omega) (by omega) (by omega) h2
    exact⟨hc.sts V hV',hc.ctrs V hV',hc.steps V hV',hc.cap⟩
  ·obtain⟨sv1,cv1,tv1,p0,p1,p2,p3,p4⟩:=h.done j a (by omega) ha
   refine⟨sv1,cv1,tv1,?_,?_,?_,?_,fun V hV=>?_⟩
   ·rw[hcell _ (by omega) (by omega) (by omega)];exact p0
   ·rw[hcell _ (by omega) (by omega) (by omega)];exact p1
   ·rw[hcell _ (by omega) (by omega) (by omega)];exact p2
   ·rw[hcell _ (by omega) (by omega) (by omega)];exact p3
   ·exact p4 V (hV.old hFW (by simp))
 ·obtain⟨sv1,cv1,tv1,p0,p1,p2,p3,p4⟩:=h.rest j a (by omega) ha
  refine⟨sv1,cv1,tv1,?_,?_,?_,?_,p4⟩
  ·rw[hcell _ (by omega) (by omega) (by omega)];exact p0
  ·rw[hcell _ (by omega) (by omega) (by omega)];exact p1
  ·rw[hcell _ (by omega) (by omega) (by omega)];exact p2
  ·rw[hcell _ (by omega) (by omega) (by omega)];exact p3
theorem results_c1 {fn:Func} {p:Tmp} {ty:TypeId} (h:fn.results=#[.cell p ty]) {tmps:Array Value} {w:World} {g:Nat} {A:Array Value} {t:TypeId} {d:TypeDesc} (hp:tmps.getD p undef=.pointer (some ⟨g,0,none⟩)) (hg:w.heap[g]?=some (.cells A t (0,0)))
  (hd:(match d with | .struct _ | .array _ _=>true | _=>false)=true) (hu:Tryz.prog.underlying ty=some d) (hi:(Tryz.prog.info? ty).map (·.size)=some A.size):(results fn tmps).run Tryz.prog w=.ok (.agg A) w:=by
 have hp':tmps[p]?.getD undef=.pointer (some ⟨g,0,none⟩):=by simpa using hp
 have hr:=run_loadVar_row w g t ty A (0,0) d hg hu (by cases d <;> first | rfl | (exact hd) | (cases hd)) hi
 simp[results,h,hp',asAddr,hr]
structure OwTo (w:World) (s:SesD) (v:Value) (w':World):Prop where
 shape:∃ g cap,v=.agg #[.string s.name,.slice (some ⟨g,0,none⟩) s.roles.length cap,.int .i64 s.cls,.int .i64 s.cap]
 frm:Frm [] w w'
 ses:∀ V,Agree w.heap.size w' V→SesV V v s
theorem OwI.frm {w W W':World} {s:SesD} {b1 b2 g cap i:Nat} (h:OwI w s b1 b2 g cap i W) (hf:Frm [] W W'):OwI w s b1 b2 g cap i W':=by
 obtain⟨cur,hg⟩:=h.hg
 refine⟨h.fr.trans hf,h.l1,h.l2,h.lg,h.n12,hf.at h.h1 (by simp),hf.at h.h2 (by simp),⟨cur,hf.at hg (by simp)⟩,fun j r hj hr=>?_,fun j r hj hr=>?_⟩
 ·obtain⟨sv1,cv1,tv1,p0,p1,p2,p3,p4⟩:=h.done j r hj hr
  exact⟨sv1,cv1,tv1,hf.keep p0,hf.keep p1,hf.keep p2,hf.keep p3,fun V hV=>p4 V (hV.old hf (by simp))⟩
 ·obtain⟨sv1,cv1,tv1,p0,p1,p2,p3,p4⟩:=h.rest j r hj hr
  exact⟨sv1,cv1,tv1,hf.keep p0,hf.keep p1,hf.keep p2,hf.keep p3,p4⟩
theorem OwI.ses {w W w2 V:World} {s:SesD} {b1 b2 g cap:Nat} (h:OwI w s b1 b2 g cap s.roles.length W) (hf:Frm [b2] W w2) (hV:Agree w.heap.size w2 V):SesV V (.agg #[.string s.name,.slice (some ⟨g,0,none⟩) s.roles.length cap,.int .i64 s.cls,.int .i64 s.cap]) s:=by
 refine⟨_,rfl,_,cap,rfl,fun i r hr=>⟨g,0,rfl,?_⟩⟩
 obtain⟨cur,hg⟩:=h.hg
 have hs:=hf.size
 have hgl:=lt_of_block hg
 have e:V.heap[g]?=W.heap[g]?:=(hV g h.lg (by omega)).trans (hf.block g hgl (by simpa using h.ne.2.symm))
 obtain⟨sv1,cv1,tv1,p0,p1,p2,p3,p4⟩:=h.done i r (lt_of_some hr) hr
 rw[Nat.zero_add]
 exact⟨sv1,cv1,tv1,cell_eq p0 e,cell_eq p1 e,cell_eq p2 e,cell_eq p3 e,p4 V fun k h1 _ h3 h4=>(hV k h1 (by omega)).trans (hf.block k h4 (by simpa using h3))⟩
theorem Fr.cap {α:Type} {k:Nat} {e:TypeId} {At:World→Nat→Nat→α→Prop} {w w':World} {xs:List α} {v:Value} (h:Fr k e At w xs v w'):∀ ao n c,v=.slice ao n c→n≤c:=by
 rintro ao n c rfl
 rcases h.own with rfl | ⟨news,ho⟩
 ·obtain⟨a,c',e⟩:=h.arr.shape
  cases e;exact Nat.zero_le _
 ·rcases ho.2 with ⟨hv,hn⟩ | ⟨g,c',cur,hv,-,-,h1,-⟩
  ·cases hv;omega
  ·cases hv;exact h1
theorem OwI.start {w w0 w1:World} {s:SesD} {b1 b2 c0:Nat} {ao:Option Addr} {v:Value} (hf:Frm [] w w0) (h1:w0.heap[b1]?=some (.cells #[.string s.name,.slice ao s.roles.length c0,.int .i64 s.cls,.int .i64 s.cap] 25 (0,0)))
  (h2:w0.heap[b2]?=some (.cells #[.string { data:=#[] },.slice none 0 0,.int .i64 0,.int .i64 0] 25 (0,0))) (l1:w.heap.size≤b1) (l2:w.heap.size≤b2) (hne:b1≠b2) (hr:Fr 4 87 (RoAt w) w0 s.roles v w1) (hn:1≤s.roles.length) :
  ∃ g cap,v=.slice (some ⟨g,0,none⟩) s.roles.length cap∧OwI w s b1 b2 g cap 0 (w1.setCell ⟨b1,1,none⟩ v):=by
 rcases hr.own with e | ⟨news,ho⟩
 ·rw[e] at hn;simp at hn
 obtain⟨g,cap,cur,rfl,hg,hc⟩:=own_block ho (by omega)
 have g1:=hr.frm.at h1 (by simp)
 have g2:=hr.frm.at h2 (by simp)
 have hs:=hf.size
 have n1:g≠b1:=fun e=>by have:=lt_of_block h1;omega
 have hF:Frm [b1] w1 (w1.setCell ⟨b1,1,none⟩ (.slice (some ⟨g,0,none⟩) s.roles.length cap)):=(Frm.refl _ _).setCell _ (.inl (by simp)) _
 refine⟨g,cap,rfl,(hf.trans hr.frm).then hF (by intro x hx;simp at hx;subst hx;exact .inr l1),l1,l2,by omega,hne,(block_setCell g1 1 _).trans rfl,hF.at g2 (by simpa using hne.symm),⟨cur,hF.at hc (by simpa using n1)⟩,fun j r hj=>by omega,fun j r _ hj=>?_⟩
 obtain⟨b,o,e,a0⟩:=hr.arr.get hj
 cases e
 obtain⟨sv,cv,tv,p0,p1,p2,p3,p4⟩:=a0
 rw[Nat.zero_add] at p0 p1 p2 p3
 have hng:g∉[b1]:=by simpa using n1
 exact⟨sv,cv,tv,hF.cellAt p0 hng,hF.cellAt p1 hng,hF.cellAt p2 hng,hF.cellAt p3 hng,p4⟩
set_option maxHeartbeats 4000000 in
set_option maxRecDepth 100000 in
theorem pOwn_any (s:SesD) (v:Value) (w:World) (h:SesV w v s) (h1:1≤s.roles.length) (h4:s.roles.length≤4) (hb:∀ r∈s.roles,r.sts.length≤1000∧r.ctrs.length≤1000∧r.steps.length≤1000):Calls Tryz.prog 112 #[v] w (RetV (OwTo w s)):=by
 obtain⟨rv,rfl,hr⟩:=h
 obtain⟨ao,cap,rfl⟩:=hr.shape
 obtain⟨n,hn⟩:∃ n,s.roles.length=n:=⟨_,rfl⟩
 have HR:=Lib.hid hr
 have HF0:Hid (Frm [] w ((w.alloc (.cells #[.string s.name,.slice ao n cap,.int .i64 s.cls,.int .i64 s.cap] 25)).alloc (.cells #[.string { data:=#[] },.slice none 0 0,.int .i64 0,.int .i64 0] 25))):=Lib.hid (((Frm.refl [] w).alloc _).alloc _)
 have CR:=Lib.hid (clRoleAt_any w (.slice ao s.roles.length cap) s.roles _ ((RoAt.of hr).frm fun _ _ _ h=>h.frm HF0.out) (by omega))
 have HB:=Lib.hid hb
 rw[hn] at CR HR
 rw[hn] at h1 h4
 have HN:=Lib.hid hn
 have B1:Hid (((w.alloc (.cells #[.string s.name,.slice ao n cap,.int .i64 s.cls,.int .i64 s.cap] 25)).alloc (.cells #[.string { data:=#[] },.slice none 0 0,.int .i64 0,.int .i64 0] 25)).heap[w.heap.size]?=some (.cells #[.string s.name,.slice ao n cap,.int .i64 s.cls,.int .i64 s.cap] 25 (0,0))):=Lib.hid (alloc_at (heap_alloc_new _ _))
 have B2:Hid (((w.alloc (.cells #[.string s.name,.slice ao n cap,.int .i64 s.cls,.int .i64 s.cap] 25)).alloc (.cells #[.string { data:=#[] },.slice none 0 0,.int .i64 0,.int .i64 0] 25)).heap[w.heap.size + 1]?=some (.cells #[.string { data:=#[] },.slice none 0 0,.int .i64 0,.int .i64 0] 25 (0,0))):=Lib.hid (alloc_top (by simp))
 rw[hn]
 clear hr hn hb
 go_enter Tryz.func112,Tryz.ntmps112
 go_wp2_with (first
  | (go_at_call 170;go_must (refine CR.out.mono ?_;rintro e w1 ⟨u,rfl,hr⟩;have hi:=OwI.start (b1:=w.heap.size) (b2:=w.heap.size + 1) (c0:=cap) (ao:=ao) HF0.out (by rw[HN.out];exact B1.out) B2.out (Nat.le_refl _) (by omega) (by omega) hr (by rw[HN.out];exact h1);rw[HN.out] at hi;obtain⟨g,c1,rfl,hoi⟩:=hi;have HI:=Lib.hid hoi;have b1:=hr.frm.at B1.out (by simp);have d1:=cell_of b1 1;have f1:=free_of b1 1;have e1:=cell_of hoi.h1 1;rw[HN.out] at e1;clear hr b1 hoi)))
 go_loopw [12] (fun s12 wr=>∃ i:Nat,s12=.int .i64 i∧i≤n∧OwI w s w.heap.size (w.heap.size + 1) g c1 i wr) (fun s12 _=>n - (intOf s12).toNat)
 case atStart=>exact⟨0,rfl,Nat.zero_le _,HI.out⟩
 case round =>
  obtain⟨i,rfl,hi,ho⟩:=hrel
  have HO:=Lib.hid ho
  clear ho d1 f1 e1
  by_cases hlt:i < n
  ·have hlt':(i:Int) < (n:Int):=by omega
   obtain⟨r,hr⟩:∃ r,s.roles[i]?=some r:=⟨_,List.getElem?_eq_getElem (by rw[HN.out];exact hlt)⟩
   obtain⟨sv,cv,tv,p0,p1,p2,p3,p4⟩:=HO.out.rest i r (Nat.le_refl _) hr
   have HRR:=Lib.hid hr;have HP:=Lib.hid p4
   have c1':=cell_of HO.out.h1 1
   rw[HN.out] at c1'
   have hgl:=cell_lt p0
   have hbr:=HB.out r (List.mem_of_getElem? hr)
   obtain⟨aS,cS,rfl⟩:=p4.sts.shape
   obtain⟨aC,cC,rfl⟩:=p4.ctrs.shape
   obtain⟨aT,cT,rfl⟩:=p4.steps.shape
   have CS:Hid (∀ V,Frm [] w V→Calls Tryz.prog 171 #[.slice aS r.sts.length cS] V (RetV (Fr 3 206 StAt V r.sts))):=Lib.hid fun V hV=>clState_any _ r.sts V ((p4.frm hV).sts) (by omega)
   have CC:Hid (∀ V,Frm [] w V→Calls Tryz.prog 172 #[.slice aC r.ctrs.length cC] V (RetV (Fr 2 244 CtAt V r.ctrs))):=Lib.hid fun V hV=>clCtr_any _ r.ctrs V ((p4.frm hV).ctrs) (by omega)
   have CT:Hid (∀ V,Frm [] w V→Calls Tryz.prog 173 #[.slice aT r.steps.length cT] V (RetV (Fr 9 137 SpAt V r.steps))):=Lib.hid fun V hV=>clStep_any _ r.steps V ((p4.frm hV).steps) (by omega)
   clear hr p4 hbr
   obtain⟨nS,hnS⟩:∃ m,r.sts.length=m:=⟨_,rfl⟩
   obtain⟨nC,hnC⟩:∃ m,r.ctrs.length=m:=⟨_,rfl⟩
   obtain⟨nT,hnT⟩:∃ m,r.steps.length=m:=⟨_,rfl⟩
   have HLS:=Lib.hid hnS;have HLC:=Lib.hid hnC;have HLT:=Lib.hid hnT
   rw[hnS] at CS p1
   rw[hnC] at CC p2
   rw[hnT] at CT p3
   clear hnS hnC hnT
   go_upto_region 5 with fail
   obtain⟨W4,hW4⟩:∃ W4,wr.alloc (.cells #[.string r.name,.slice aS nS cS,.slice aC nC cC,.slice aT nT cT] 87)=W4:=⟨_,rfl⟩
   have hf4:Frm [] wr W4:=by rw[← hW4];exact(Frm.refl _ _).alloc _
   have hq4:W4.heap[wr.heap.size]?=some (.cells #[.string r.name,.slice aS nS cS,.slice aC nC cC,.slice aT nT cT] 87 (0,0)):=by rw[← hW4];exact heap_alloc_new _ _
   rw[hW4]
   have HF4:=Lib.hid hf4
   have HO4:=Lib.hid (HO.out.frm hf4)
   have HS:Hid (∀ V,Frm [g] W4 V→V.cell? ⟨w.heap.size,1,none⟩=some (.slice (some ⟨g,0,none⟩) n c1)∧V.cell? ⟨wr.heap.size,1,none⟩=some (.slice aS nS cS)∧V.cell? ⟨wr.heap.size,2,none⟩=some (.slice aC nC cC)∧V.cell? ⟨wr.heap.size,3,none⟩=some (.slice aT nT cT)):=Lib.hid fun V hV=>by
    have n1:=HO4.out.ne.1
    have h1:=hV.at HO4.out.h1 (by simpa using n1)
    rw[HN.out] at h1
    have h2:=hV.at hq4 (by simp;omega)
    exact⟨cell_of h1 1,cell_of h2 1,cell_of h2 2,cell_of h2 3⟩
   clear hf4 hq4 hW4 p0 p1 p2 p3 c1'
   go_region_held3 (fun V=>V.cell? ⟨w.heap.size,1,none⟩=some (.slice (some ⟨g,0,none⟩) n c1)∧V.cell? ⟨wr.heap.size,1,none⟩=some (.slice aS nS cS)∧V.cell? ⟨wr.heap.size,2,none⟩=some (.slice aC nC cC)∧V.cell? ⟨wr.heap.size,3,none⟩=some (.slice aT nT cT))
    (first
     | exact HS.out _ ((Frm.refl [g] W4).drew)
     | exact HS.out _ F5.out
     | exact HS.out _ F6.out
     | exact HS.out _ F7.out
     | exact HS.out _ (F7.out.setCell _ (.inl (by simp)) _)
     | exact HS.out _ ((F7.out.setCell _ (.inl (by simp)) _).setCell _ (.inl (by simp)) _)
     | exact HS.out _ (((F7.out.setCell _ (.inl (by simp)) _).setCell _ (.inl (by simp)) _).setCell _ (.inl (by simp)) _))
    (first
     | (go_at_call 171;go_must (refine(CS.out _ (HO4.out.fr.drew)).mono ?_;rintro e w5 ⟨u,rfl,hr⟩;have F5:Hid (Frm [g] W4 w5):=Lib.hid (((Frm.refl [g] W4).drew).trans (hr.frm.mono (by simp)));have G5:Hid (Frm [] w w5):=Lib.hid (HO4.out.fr.drew.trans hr.frm);have K5:Hid (Frm [] W4 w5):=Lib.hid ((Frm.refl [] W4).drew.trans hr.frm);have hst:=hr.stb StAt.leaf;rw[HLS.out] at hst;obtain⟨a5,k5,rfl,hst⟩:=hst;have HT5:=Lib.hid hst;clear hst hr))
     | (go_at_call 172;go_must (refine(CC.out _ G5.out).mono ?_;rintro e w6 ⟨u,rfl,hr⟩;have F6:Hid (Frm [g] W4 w6):=Lib.hid (F5.out.trans (hr.frm.mono (by simp)));have G6:Hid (Frm [] w w6):=Lib.hid (G5.out.trans hr.frm);have E6:=Lib.hid hr.frm;have K6:Hid (Frm [] W4 w6):=Lib.hid (K5.out.trans hr.frm);have hst:=hr.stb CtAt.leaf;rw[HLC.out] at hst;obtain⟨a6,k6,rfl,hst⟩:=hst;have HT6:=Lib.hid hst;clear hst hr))
     | (go_at_call 173;go_must (refine(CT.out _ G6.out).mono ?_;rintro e w7 ⟨u,rfl,hr⟩;have F7:Hid (Frm [g] W4 w7):=Lib.hid (F6.out.trans (hr.frm.mono (by simp)));have E7:=Lib.hid hr.frm;have K7:Hid (Frm [] W4 w7):=Lib.hid (K6.out.trans hr.frm);have h7:=HO4.out.frm K7.out;obtain⟨v1,v2,v3,-,z1,z2,z3,-⟩:=h7.rest i r (Nat.le_refl _) HRR.out;obtain⟨cur,hgc⟩:=h7.hg;have y1:=free_of hgc (i * 4 + 1);have y2:=free_of hgc (i * 4 + 2);have y3:=free_of hgc (i * 4 + 3);clear hgc h7;have hcp:=hr.cap;have HCP:=Lib.hid hcp;clear hcp;have hst:=hr.stb SpAt.leaf;rw[HLT.out] at hst;obtain⟨a7,k7,rfl,hst⟩:=hst;have HT7:=Lib.hid hst;clear hst hr)))
   have HC3:Hid (Cl3 W4 (.slice a5 nS k5) (.slice a6 nC k6) (.slice a7 nT k7) r w7):=Lib.hid (by
    have s5:=K5.out.size;have s6:=K6.out.size;have e6:=E6.out.size
    have e56:=E6.out.trans E7.out
    refine⟨K7.out,fun V hV=>?_,fun V hV=>?_,fun V hV=>?_,HCP.out⟩
    ·have:=HT5.out V V (hV.old e56 (by simp)) (hV.old e56 (by simp))
     rw[← HLS.out] at this ⊢;exact this
    ·have h8:=(hV.old E7.out (by simp)).low s5
     have:=HT6.out V V h8 h8
     rw[← HLC.out] at this ⊢;exact this
    ·have h8:=hV.low s6
     have:=HT7.out V V h8 h8
     rw[← HLT.out] at this ⊢;exact this)
   go_wp2
   exact⟨⟨i + 1,congrArg (Value.int .i64) (by omega),hlt,HO4.out.step HRR.out HC3.out⟩,by simp[intOf];omega⟩
  ·obtain rfl:i=n:=by omega
   have hge:¬ (i:Int) < (i:Int):=by omega
   have hc1:=HO.out.h1
   rw[HN.out] at hc1
   have HC2:=Lib.hid HO.out.h2
   have x0:=cell_of hc1 0
   have x1:=cell_of hc1 1
   have x2:=cell_of hc1 2
   have x3:=cell_of hc1 3
   clear hc1
   go_wp2_with (first
    | (refine wpList_store_row rfl 25 _ _ rfl _ _ _ 25 rfl rfl HC2.out rfl (by kernel_rfl) (by simp[Value.oneCell']) ?_;intro w2 hb2 hf2))
   refine bodyPost_ret (results_c1 (d:=_) (Tryz.results112) rfl hb2 rfl Tryz.underlying25 (by kernel_rfl)) rfl ⟨_,rfl,?_⟩
   have hoi:=HO.out
   rw[← HN.out] at hoi
   exact⟨⟨g,c1,by rw[HN.out]⟩,hoi.fr.then hf2 (by intro x hx;simp at hx;subst hx;right;omega),fun V hV=>by have:=hoi.ses hf2 hV;rwa [HN.out] at this⟩
end Go.Proofs.YtohfkhjlnlahdaaGreat
