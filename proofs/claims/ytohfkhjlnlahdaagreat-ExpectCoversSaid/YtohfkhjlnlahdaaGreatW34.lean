/- Part of the proof. -/
import Derived.Test.YtohfkhjlnlahdaaGreatW28
import Derived.Test.YtohfkhjlnlahdaaGreatW17
import Derived.Test.YtohfkhjlnlahdaaGreatW29
import Derived.Maps.OwnSet
import Derived.Maps.OwnOps
import Derived.WalkMore
import Derived.Test.YtohfkhjlnlahdaaGreatW13
import Derived.Test.YtohfkhjlnlahdaaGreatW14
import Derived.Shelf.SortM.Plain
import Derived.Shelf.SortM.SortNone
import Derived.Sort.CutIn
import Derived.OrdersIn
import Derived.Laws.StructEq
import Derived.Laws.OwnMore
import Derived.Test.YtohfkhjlnlahdaaGreatW20
import Derived.Lib.AppendStr
import Derived.Test.YtohfkhjlnlahdaaGreatW24
set_option linter.all false
namespace Go.Proofs.YtohfkhjlnlahdaaGreat
open Go.RowKit Go.BigFrame
theorem chlK_length (cls:Int) (L:List ByteArray):∀ n,(chlK cls L n).length≤n
 | 0=>by simp[chlK]
 | n + 1=>by
   have:=chlK_length cls L n
   rw[chlK]
   split <;> simp <;> omega
theorem cat_len {α:Type} {f:Nat→List α} {c:Nat}:∀ {n:Nat},(∀ k,k < n→(f k).length≤c)→(cat f n).length≤n * c
 | 0,_=>by simp[cat]
 | n + 1,h=>by
   have h1:=cat_len (n:=n) (fun k hk=>h k (by omega))
   have h2:=h n (by omega)
   rw[cat,List.length_append,Nat.add_mul];omega
section
variable {s:SesD} {x:PS}
theorem stepMv_len (hs:SesOk s) (hx:PSok s x) {i k:Nat} (hi:i < s.roles.length) (hk:k < (s.rol i).steps.length):(stepMv s x i k).length≤4:=by
 unfold stepMv
 split
 ·simp
 ·split
  ·rename_i h2
   obtain⟨-,hp,-⟩:=hs.peer hi hk (by omega)
   have h1:=(hx.wb _ i hp hi).1
   have h3:=chlK_length s.cls (x.way (peerN s ((s.rol i).stp k)) i) (x.way (peerN s ((s.rol i).stp k)) i).length
   have h4:=hits_len (m:=((s.rol i).stp k).msg) (i:=i) (k:=k) (chlK s.cls (x.way (peerN s ((s.rol i).stp k)) i) (x.way (peerN s ((s.rol i).stp k)) i).length)
   have:=hs.k4
   omega
  ·split <;> simp
theorem loseMv_len (i k:Nat):(loseMv s x i k).length≤1:=by unfold loseMv;split <;> simp
theorem roleMv_len (hs:SesOk s) (hx:PSok s x) {i:Nat} (hi:i < s.roles.length) {n:Nat} (hn:n≤(s.rol i).steps.length):(cat (fun k=>stepMv s x i k) n).length≤320:=by
 have h1:=cat_len (n:=n) (f:=fun k=>stepMv s x i k) (c:=4) (fun k hk=>stepMv_len hs hx hi (by omega))
 have:=(hs.at hi).t80
 omega
theorem stepsMv_len (hs:SesOk s) (hx:PSok s x) {n:Nat} (hn:n≤s.roles.length):(cat (fun i=>cat (fun k=>stepMv s x i k) (s.rol i).steps.length) n).length≤1280:=by
 have h1:=cat_len (n:=n) (f:=fun i=>cat (fun k=>stepMv s x i k) (s.rol i).steps.length) (c:=320) (fun i hi=>roleMv_len hs hx (by omega) (Nat.le_refl _))
 have:=hs.n4
 omega
theorem losesMv_len (hs:SesOk s) {n:Nat} (hn:n≤s.roles.length):(cat (fun i=>cat (fun k=>loseMv s x i k) s.roles.length) n).length≤16:=by
 have h0:∀ i,(cat (fun k=>loseMv s x i k) s.roles.length).length≤s.roles.length * 1:=fun i=>cat_len (fun k _=>loseMv_len i k)
 have h1:=cat_len (n:=n) (f:=fun i=>cat (fun k=>loseMv s x i k) s.roles.length) (c:=4) (fun i _=>by have:=h0 i;have:=hs.n4;omega)
 have:=hs.n4
 omega
end
abbrev rMv (s:SesD) (x:PS) (i:Nat):List Mv:=cat (fun i=>cat (fun k=>stepMv s x i k) (s.rol i).steps.length) i
abbrev lMv (s:SesD) (x:PS) (i:Nat):List Mv:=cat (fun i=>cat (fun k=>loseMv s x i k) s.roles.length) i
theorem meas_up {m k:Nat} (hk:k < m) (h:wrap64 ((k:Int) + 1)=((k + 1:Nat):Int)):m - (intOf (.int .i64 (wrap64 ((k:Int) + 1)))).toNat < m - (intOf (.int .i64 (k:Int))).toNat:=by
 rw[h]
 simp only[intOf,Int.toNat_natCast]
 omega
theorem mv_end {w W:World} {ob cp:Nat} {ds:List Nat} {L M:List Mv} {ao:Option Addr} {fn:Func} {tmps:Array Value} (hf:Frm [] w W) (hn:w.heap.size≤ob) (h1:W.heap[ob]?=some (.cells #[.slice ao L.length cp] 31 (0,0)))
  (h2:W.ownsRow w.heap.size 44 4 (.slice ao L.length cp) L.length (mvC L)) (hm:Ms w ds W) (hr:∀ V:World,V.cell? ⟨ob,0,none⟩=some (.slice ao L.length cp)→(results fn tmps).run Tryz.prog V=.ok (.slice ao L.length cp) V) (hL:L=M) :
  LeavesInM Fence.wide 3 Tryz.prog fn tmps (RetV fun v w'=>w'.ownsRow w.heap.size 44 4 v M.length (mvC M)∧Frm [] w w') (marks ds) .returning (W.setCell ⟨ob,0,none⟩ (.slice ao L.length cp)):=by
 subst hL
 have hk:Kt mvT W (W.setCell ⟨ob,0,none⟩ (.slice ao L.length cp)):=(Kt.refl _ W).set h1 (by decide) _
 have hm2:=hm.kt hk
 have hb:=(block_setCell h1 0 (.slice ao L.length cp)).trans rfl
 obtain⟨W2,hW2⟩:∃ W2,W.setCell ⟨ob,0,none⟩ (.slice ao L.length cp)=W2:=⟨_,rfl⟩
 have ho:W2.ownsRow w.heap.size 44 4 (.slice ao L.length cp) L.length (mvC L):=by
  rw[← hW2]
  refine ownsRow_setCell_other h2 (fun e'=>?_) _
  obtain⟨c,hc⟩:=ownBlock_type h2 e'
  rw[h1] at hc;cases hc
 have hfw:Frm [] w W2:=by rw[← hW2];exact hf.setCell _ (.inr hn) _
 rw[hW2] at hm2 hb ⊢
 have hu:=unmark_frm ds W2
 have hno:∀ (k:Nat) c t fr,W2.heap[k]?=some (.cells c t fr)→k∉ds:=fun k c t fr hk hd=>by
  rw[(hm2.dl k hd).2] at hk;cases hk
 have hbu:=hu.at hb (hno _ _ _ _ hb)
 refine leaves_many ds W2 hm2.nd (fun D hD=>(hm2.dl D hD).2) ⟨_,hr _ (cell_of hbu 0),_,rfl,hu.owns ho (fun k hk=>?_),hfw.then hu (fun D hD=>.inr (hm2.dl D hD).1)⟩
 obtain⟨c,hc⟩:=ownBlock_type ho hk
 exact hno _ _ _ _ hc
attribute [local go_sem] Oper.semAt_some
set_option maxHeartbeats 8000000 in
set_option maxRecDepth 100000 in
theorem pmoves_own (s:SesD) (yb fb sb:Nat) (x:PS) (w:World) (h:SyR w s yb fb) (hx:StR w s yb sb x) :
  Calls Tryz.prog 63 #[.pointer (some ⟨yb,0,none⟩),.pointer (some ⟨sb,0,none⟩)] w (RetV fun v w'=>w'.ownsRow w.heap.size 44 4 v (movesP s x).length (mvC (movesP s x))∧Frm [] w w'):=by
 have HSY:=Lib.hid h;have HST:=Lib.hid hx
 obtain⟨rv,h1,h2⟩:=h.out
 obtain⟨ra,rc,rfl⟩:=h2.shape
 have hb:=h.first
 obtain⟨n,hn⟩:∃ n,s.roles.length=n:=⟨_,rfl⟩
 have y1:=cell_of h1 1
 have hl0:=lt_of_block h1
 rw[hn] at y1
 have HY1:Hid (∀ V,Frm [] w V→V.cell? ⟨yb,1,none⟩=some (.slice ra n rc)∧V.cell? ⟨yb,2,none⟩=some (.int .i64 s.cls)∧V.cell? ⟨yb,3,none⟩=some (.int .i64 s.cap)):=Lib.hid fun V hV=>⟨hV.keep y1,hV.keep (cell_of h1 2),hV.keep (cell_of h1 3)⟩
 have HN:=Lib.hid hn
 have hn4:n≤4:=by rw[← hn];exact h.ok.n4
 have HWI:Hid (∀ i:Nat,i < n→wrap64 ((i:Int) + 1)=((i + 1:Nat):Int)):=Lib.hid fun i hi=>by unfold wrap64;omega
 clear h h1 h2 hx hb hn hn4
 refine calls_of_marks Tryz.func63 rfl ?_
 simp only[Tryz.ntmps63,List.size_toArray,List.length_cons,List.length_nil,Nat.reduceAdd,Nat.reduceSub,Array.replicate_succ,Array.replicate_zero,List.push_toArray,List.append_toArray,List.nil_append,List.cons_append]
 go_wp2
 have HM0:Hid (MB w w.heap.size [] (w.alloc (.cells #[.slice none 0 0] 31))):=Lib.hid (BO.made w _ _ _ ((Frm.refl [] w).alloc _) (Nat.le_refl _) (heap_alloc_new _ _))
 clear y1
 refine wp_loop (fun a' w'=>∃ ds,∃ u5 u6 u7 u8 u9 u10 u19 u20 u21 u22 u23 u24 u25 u26 u27 u28 u29 u30 u31 u32 u33 u34 u35 u36 u37 u38 u39 u40 u41 u42 u43 u44 u45 u46 u47 u48 u49 u50 u51 u52 u53 u54 u55 u56 u57 u58 u59 u60 u61 u62 u63 u64 u65 u66 u67 u68 u69 u70 u71 u72 u73 u74 u75 u76 u77 u78 u79 u80 u81 u82 u83 u84 u85 u86 u87 u88 u89 u90 u91 u92 u93 u94 u95 u96 u97 u98 u99 u100 u101 u102 u103:Value,(fun ds u19 w'=>∃ i:Nat,u19=.int .i64 (i:Int)∧i≤n∧MB w w.heap.size (rMv s x i) w'∧Ms w ds w') ds u19 w'∧a'={ tmps:=#[.pointer (some ⟨yb,0,none⟩),.pointer (some ⟨sb,0,none⟩),undef,undef,.pointer (some ⟨w.heap.size,0,none⟩),u5,u6,u7,u8,u9,u10,undef,undef,.pointer (some ⟨yb,0,none⟩),.pointer (some ⟨yb,0,none⟩),.pointer (some ⟨yb,0,none⟩),.pointer (some ⟨yb,1,none⟩),.slice ra n rc,.int .i64 (n:Int),u19,u20,u21,u22,u23,u24,u25,u26,u27,u28,u29,u30,u31,u32,u33,u34,u35,u36,u37,u38,u39,u40,u41,u42,u43,u44,u45,u46,u47,u48,u49,u50,u51,u52,u53,u54,u55,u56,u57,u58,u59,u60,u61,u62,u63,u64,u65,u66,u67,u68,u69,u70,u71,u72,u73,u74,u75,u76,u77,u78,u79,u80,u81,u82,u83,u84,u85,u86,u87,u88,u89,u90,u91,u92,u93,u94,u95,u96,u97,u98,u99,u100,u101,u102,u103,undef,undef,undef,undef,undef,undef,undef,undef,undef,undef,undef,undef,undef,undef,undef,undef,undef,undef,undef,undef,undef,undef,undef,undef,undef,undef,undef,undef,undef,undef,undef,undef,undef,undef,undef,undef,undef,undef,undef,undef,undef,undef,undef,undef,undef,undef,undef],defers:=marks ds }) (fun a' _=>n - (intOf (a'.tmps.getD 19 undef)).toNat) ?_ ?_
 ·refine⟨[],?_⟩
  (repeat apply Exists.intro)
  exact⟨⟨0,rfl,Nat.zero_le _,HM0.out,Ms.nil _ _⟩,rfl⟩
 intro a' wr hinv
 obtain⟨ds,hinv⟩:=hinv
 obtain⟨u5,hinv⟩:=hinv
 obtain⟨u6,hinv⟩:=hinv
 obtain⟨u7,hinv⟩:=hinv
 obtain⟨u8,hinv⟩:=hinv
 obtain⟨u9,hinv⟩:=hinv
 obtain⟨u10,hinv⟩:=hinv
 obtain⟨u19,hinv⟩:=hinv
 obtain⟨u20,hinv⟩:=hinv
 obtain⟨u21,hinv⟩:=hinv
 obtain⟨u22,hinv⟩:=hinv
 obtain⟨u23,hinv⟩:=hinv
 obtain⟨u24,hinv⟩:=hinv
 obtain⟨u25,hinv⟩:=hinv
 obtain⟨u26,hinv⟩:=hinv
 obtain⟨u27,hinv⟩:=hinv
 obtain⟨u28,hinv⟩:=hinv
 obtain⟨u29,hinv⟩:=hinv
 obtain⟨u30,hinv⟩:=hinv
 obtain⟨u31,hinv⟩:=hinv
 obtain⟨u32,hinv⟩:=hinv
 obtain⟨u33,hinv⟩:=hinv
 obtain⟨u34,hinv⟩:=hinv
 obtain⟨u35,hinv⟩:=hinv
 obtain⟨u36,hinv⟩:=hinv
 obtain⟨u37,hinv⟩:=hinv
 obtain⟨u38,hinv⟩:=hinv
 obtain⟨u39,hinv⟩:=hinv
 obtain⟨u40,hinv⟩:=hinv
 obtain⟨u41,hinv⟩:=hinv
 obtain⟨u42,hinv⟩:=hinv
 obtain⟨u43,hinv⟩:=hinv
 obtain⟨u44,hinv⟩:=hinv
 obtain⟨u45,hinv⟩:=hinv
 obtain⟨u46,hinv⟩:=hinv
 obtain⟨u47,hinv⟩:=hinv
 obtain⟨u48,hinv⟩:=hinv
 obtain⟨u49,hinv⟩:=hinv
 obtain⟨u50,hinv⟩:=hinv
 obtain⟨u51,hinv⟩:=hinv
 obtain⟨u52,hinv⟩:=hinv
 obtain⟨u53,hinv⟩:=hinv
 obtain⟨u54,hinv⟩:=hinv
 obtain⟨u55,hinv⟩:=hinv
 obtain⟨u56,hinv⟩:=hinv
 obtain⟨u57,hinv⟩:=hinv
 obtain⟨u58,hinv⟩:=hinv
 obtain⟨u59,hinv⟩:=hinv
 obtain⟨u60,hinv⟩:=hinv
 obtain⟨u61,hinv⟩:=hinv
 obtain⟨u62,hinv⟩:=hinv
 obtain⟨u63,hinv⟩:=hinv
 obtain⟨u64,hinv⟩:=hinv
 obtain⟨u65,hinv⟩:=hinv
 obtain⟨u66,hinv⟩:=hinv
 obtain⟨u67,hinv⟩:=hinv
 obtain⟨u68,hinv⟩:=hinv
 obtain⟨u69,hinv⟩:=hinv
 obtain⟨u70,hinv⟩:=hinv
 obtain⟨u71,hinv⟩:=hinv
 obtain⟨u72,hinv⟩:=hinv
 obtain⟨u73,hinv⟩:=hinv
 obtain⟨u74,hinv⟩:=hinv
 obtain⟨u75,hinv⟩:=hinv
 obtain⟨u76,hinv⟩:=hinv
 obtain⟨u77,hinv⟩:=hinv
 obtain⟨u78,hinv⟩:=hinv
 obtain⟨u79,hinv⟩:=hinv
 obtain⟨u80,hinv⟩:=hinv
 obtain⟨u81,hinv⟩:=hinv
 obtain⟨u82,hinv⟩:=hinv
 obtain⟨u83,hinv⟩:=hinv
 obtain⟨u84,hinv⟩:=hinv
 obtain⟨u85,hinv⟩:=hinv
 obtain⟨u86,hinv⟩:=hinv
 obtain⟨u87,hinv⟩:=hinv
 obtain⟨u88,hinv⟩:=hinv
 obtain⟨u89,hinv⟩:=hinv
 obtain⟨u90,hinv⟩:=hinv
 obtain⟨u91,hinv⟩:=hinv
 obtain⟨u92,hinv⟩:=hinv
 obtain⟨u93,hinv⟩:=hinv
 obtain⟨u94,hinv⟩:=hinv
 obtain⟨u95,hinv⟩:=hinv
 obtain⟨u96,hinv⟩:=hinv
 obtain⟨u97,hinv⟩:=hinv
 obtain⟨u98,hinv⟩:=hinv
 obtain⟨u99,hinv⟩:=hinv
 obtain⟨u100,hinv⟩:=hinv
 obtain⟨u101,hinv⟩:=hinv
 obtain⟨u102,hinv⟩:=hinv
 obtain⟨u103,hinv⟩:=hinv
 obtain⟨hrel,ha⟩:=hinv
 subst ha
 try dsimp only
 clear HM0
 obtain⟨i,rfl,hi,hmb,hms⟩:=hrel
 have HM:=Lib.hid hmb;have HMS:=Lib.hid hms
 clear hmb hms
 by_cases hlt:i < n
 ·have hlt':(i:Int) < (n:Int):=by omega
  have hin:i < s.roles.length:=by rw[HN.out];exact hlt
  obtain⟨rb,ro,rc',sv,cv,tv,y1,hr⟩:=HSY.out.rol hin
  have HIN:=Lib.hid hin
  obtain⟨r,hrr⟩:∃ r,s.rol i=r:=⟨_,rfl⟩
  rw[hrr] at hr
  rw[HN.out] at y1
  have y1':=(HY1.out w (Frm.refl _ _)).1
  rw[y1] at y1'
  simp only[Option.some.injEq,Value.slice.injEq,true_and] at y1'
  obtain⟨rfl,rfl⟩:=y1'
  obtain⟨aT,cT,rfl⟩:=hr.r3.steps.shape
  have HR3:=Lib.hid hr.r3
  obtain⟨m,hm⟩:∃ m,r.steps.length=m:=⟨_,rfl⟩
  obtain⟨d0,d1,d2,d3,-⟩:=hr
  rw[hm] at d3 HR3
  have HWK:Hid (∀ k:Nat,k < m→wrap64 ((k:Int) + 1)=((k + 1:Nat):Int)):=Lib.hid fun k hk=>by
   have:=(HSY.out.ok.at hin).t80
   rw[hrr,hm] at this
   unfold wrap64;omega
  have HMm:=Lib.hid hm;have HRR:=Lib.hid hrr
  replace d0:=HM.out.fr.keep d0;replace d1:=HM.out.fr.keep d1;replace d2:=HM.out.fr.keep d2;replace d3:=HM.out.fr.keep d3;replace y1:=HM.out.fr.keep y1
  have hrl:=cell_lt d0
  clear hrr hm hin
  obtain⟨aS,cS,rfl⟩:=HR3.out.sts.shape
  obtain⟨aC,cC,rfl⟩:=HR3.out.ctrs.shape
  go_wp2
  obtain⟨V0,hV0⟩:∃ V0,(wr.alloc (.cells #[.int .i64 i] 3)).alloc (.cells #[.string r.name,.slice aS r.sts.length cS,.slice aC r.ctrs.length cC,.slice aT m cT] 87)=V0:=⟨_,rfl⟩
  have F0:Hid (Frm [] wr V0):=Lib.hid (by rw[← hV0];exact((Frm.refl [] wr).alloc _).alloc _)
  have Q5:Hid (V0.heap[wr.heap.size]?=some (.cells #[.int .i64 i] 3 (0,0))):=Lib.hid (by rw[← hV0];exact alloc_at (heap_alloc_new _ _))
  have Q6:Hid (V0.heap[wr.heap.size + 1]?=some (.cells #[.string r.name,.slice aS r.sts.length cS,.slice aC r.ctrs.length cC,.slice aT m cT] 87 (0,0))):=Lib.hid (by rw[← hV0];exact alloc_top (by simp))
  try rw[hV0]
  clear hV0
  have HM0:Hid (MB w w.heap.size (rMv s x i ++ cat (fun k=>stepMv s x i k) 0) V0):=Lib.hid (by rw[show cat (fun k=>stepMv s x i k) 0=[] from rfl,List.append_nil];exact HM.out.frm F0.out)
  have HMS0:=Lib.hid (HMS.out.frm F0.out)
  refine wp_loop (fun a' w'=>∃ ds,∃ u7 u8 u9 u10 u27 u28 u29 u30 u31 u32 u33 u34 u35 u36 u37 u38 u39 u40 u41 u42 u43 u44 u45 u46 u47 u48 u49 u50 u51 u52 u53 u54 u55 u56 u57 u58 u59 u60 u61 u62 u63 u64 u65 u66 u67 u68 u69 u70 u71 u72 u73 u74 u75 u76 u77 u78 u79 u80 u81 u82 u83 u84 u85 u86 u87 u88 u89 u90 u91 u92 u93 u94 u95 u96 u97 u98 u99 u100 u101 u102:Value,(fun ds u27 w'=>∃ k:Nat,u27=.int .i64 (k:Int)∧k≤m∧MB w w.heap.size (rMv s x i ++ cat (fun k=>stepMv s x i k) k) w'∧Ms w ds w'∧Kt mvT V0 w') ds u27 w'∧a'={ tmps:=#[.pointer (some ⟨yb,0,none⟩),.pointer (some ⟨sb,0,none⟩),undef,undef,.pointer (some ⟨w.heap.size,0,none⟩),.pointer (some ⟨wr.heap.size,0,none⟩),.pointer (some ⟨wr.heap.size + 1,0,none⟩),u7,u8,u9,u10,undef,undef,.pointer (some ⟨yb,0,none⟩),.pointer (some ⟨yb,0,none⟩),.pointer (some ⟨yb,0,none⟩),.pointer (some ⟨yb,1,none⟩),.slice (some ⟨rb,ro,none⟩) n rc',.int .i64 (n:Int),.int .i64 (i:Int),.bool true,.int .i64 (i:Int),.pointer (some ⟨rb,ro + i * 4,none⟩),.agg #[.string r.name,.slice aS r.sts.length cS,.slice aC r.ctrs.length cC,.slice aT m cT],.pointer (some ⟨wr.heap.size + 1,3,none⟩),.slice aT m cT,.int .i64 (m:Int),u27,u28,u29,u30,u31,u32,u33,u34,u35,u36,u37,u38,u39,u40,u41,u42,u43,u44,u45,u46,u47,u48,u49,u50,u51,u52,u53,u54,u55,u56,u57,u58,u59,u60,u61,u62,u63,u64,u65,u66,u67,u68,u69,u70,u71,u72,u73,u74,u75,u76,u77,u78,u79,u80,u81,u82,u83,u84,u85,u86,u87,u88,u89,u90,u91,u92,u93,u94,u95,u96,u97,u98,u99,u100,u101,u102,u103,undef,undef,undef,undef,undef,undef,undef,undef,undef,undef,undef,undef,undef,undef,undef,undef,undef,undef,undef,undef,undef,undef,undef,undef,undef,undef,undef,undef,undef,undef,undef,undef,undef,undef,undef,undef,undef,undef,undef,undef,undef,undef,undef,undef,undef,undef,undef],defers:=marks ds }) (fun a' _=>m - (intOf (a'.tmps.getD 27 undef)).toNat) ?_ ?_
  ·refine⟨ds,?_⟩
   (repeat apply Exists.intro)
   exact⟨⟨0,rfl,Nat.zero_le _,HM0.out,HMS0.out,Kt.refl _ _⟩,rfl⟩
  intro a' wq hinv
  obtain⟨ds,hinv⟩:=hinv
  obtain⟨u7,hinv⟩:=hinv
  obtain⟨u8,hinv⟩:=hinv
  obtain⟨u9,hinv⟩:=hinv
  obtain⟨u10,hinv⟩:=hinv
  obtain⟨u27,hinv⟩:=hinv
  obtain⟨u28,hinv⟩:=hinv
  obtain⟨u29,hinv⟩:=hinv
  obtain⟨u30,hinv⟩:=hinv
  obtain⟨u31,hinv⟩:=hinv
  obtain⟨u32,hinv⟩:=hinv
  obtain⟨u33,hinv⟩:=hinv
  obtain⟨u34,hinv⟩:=hinv
  obtain⟨u35,hinv⟩:=hinv
  obtain⟨u36,hinv⟩:=hinv
  obtain⟨u37,hinv⟩:=hinv
  obtain⟨u38,hinv⟩:=hinv
  obtain⟨u39,hinv⟩:=hinv
  obtain⟨u40,hinv⟩:=hinv
  obtain⟨u41,hinv⟩:=hinv
  obtain⟨u42,hinv⟩:=hinv
  obtain⟨u43,hinv⟩:=hinv
  obtain⟨u44,hinv⟩:=hinv
  obtain⟨u45,hinv⟩:=hinv
  obtain⟨u46,hinv⟩:=hinv
  obtain⟨u47,hinv⟩:=hinv
  obtain⟨u48,hinv⟩:=hinv
  obtain⟨u49,hinv⟩:=hinv
  obtain⟨u50,hinv⟩:=hinv
  obtain⟨u51,hinv⟩:=hinv
  obtain⟨u52,hinv⟩:=hinv
  obtain⟨u53,hinv⟩:=hinv
  obtain⟨u54,hinv⟩:=hinv
  obtain⟨u55,hinv⟩:=hinv
  obtain⟨u56,hinv⟩:=hinv
  obtain⟨u57,hinv⟩:=hinv
  obtain⟨u58,hinv⟩:=hinv
  obtain⟨u59,hinv⟩:=hinv
  obtain⟨u60,hinv⟩:=hinv
  obtain⟨u61,hinv⟩:=hinv
  obtain⟨u62,hinv⟩:=hinv
  obtain⟨u63,hinv⟩:=hinv
  obtain⟨u64,hinv⟩:=hinv
  obtain⟨u65,hinv⟩:=hinv
  obtain⟨u66,hinv⟩:=hinv
  obtain⟨u67,hinv⟩:=hinv
  obtain⟨u68,hinv⟩:=hinv
  obtain⟨u69,hinv⟩:=hinv
  obtain⟨u70,hinv⟩:=hinv
  obtain⟨u71,hinv⟩:=hinv
  obtain⟨u72,hinv⟩:=hinv
  obtain⟨u73,hinv⟩:=hinv
  obtain⟨u74,hinv⟩:=hinv
  obtain⟨u75,hinv⟩:=hinv
  obtain⟨u76,hinv⟩:=hinv
  obtain⟨u77,hinv⟩:=hinv
  obtain⟨u78,hinv⟩:=hinv
  obtain⟨u79,hinv⟩:=hinv
  obtain⟨u80,hinv⟩:=hinv
  obtain⟨u81,hinv⟩:=hinv
  obtain⟨u82,hinv⟩:=hinv
  obtain⟨u83,hinv⟩:=hinv
  obtain⟨u84,hinv⟩:=hinv
  obtain⟨u85,hinv⟩:=hinv
  obtain⟨u86,hinv⟩:=hinv
  obtain⟨u87,hinv⟩:=hinv
  obtain⟨u88,hinv⟩:=hinv
  obtain⟨u89,hinv⟩:=hinv
  obtain⟨u90,hinv⟩:=hinv
  obtain⟨u91,hinv⟩:=hinv
  obtain⟨u92,hinv⟩:=hinv
  obtain⟨u93,hinv⟩:=hinv
  obtain⟨u94,hinv⟩:=hinv
  obtain⟨u95,hinv⟩:=hinv
  obtain⟨u96,hinv⟩:=hinv
  obtain⟨u97,hinv⟩:=hinv
  obtain⟨u98,hinv⟩:=hinv
  obtain⟨u99,hinv⟩:=hinv
  obtain⟨u100,hinv⟩:=hinv
  obtain⟨u101,hinv⟩:=hinv
  obtain⟨u102,hinv⟩:=hinv
  obtain⟨hrel,ha⟩:=hinv
  subst ha
  try dsimp only
  clear HM0 HMS0 HMS
  obtain⟨k,rfl,hk,hmb,hms,hkt⟩:=hrel
  have HMq:=Lib.hid hmb;have HMSq:=Lib.hid hms;have HKT:=Lib.hid hkt
  clear hmb hms hkt d0 d1 d2 d3 hrl y1
  by_cases hltk:k < m
  ·have hltk':(k:Int) < (m:Int):=by omega
   have hkk:k < (s.rol i).steps.length:=by rw[HRR.out,HMm.out];exact hltk
   obtain⟨t,ht⟩:∃ t,r.steps[k]?=some t:=⟨_,List.getElem?_eq_getElem (by rw[HMm.out];exact hltk)⟩
   have htk:(s.rol i).stp k=t:=by rw[HRR.out];exact getD_some ht
   obtain⟨tb,tq,rfl,k0,k1,k2,k3,k4,k5,k6,k7,k8⟩:=HR3.out.steps.get ht
   replace k0:=HMq.out.fr.keep k0;replace k1:=HMq.out.fr.keep k1;replace k2:=HMq.out.fr.keep k2;replace k3:=HMq.out.fr.keep k3;replace k4:=HMq.out.fr.keep k4
   replace k5:=HMq.out.fr.keep k5;replace k6:=HMq.out.fr.keep k6;replace k7:=HMq.out.fr.keep k7;replace k8:=HMq.out.fr.keep k8
   have hkl:=cell_lt k0
   have HTK:=Lib.hid htk;have HKK:=Lib.hid hkk
   clear ht htk hkk
   obtain⟨V1,hV1⟩:∃ V1,(wq.alloc (.cells #[.int .i64 k] 3)).alloc (.cells #[.string t.frm,.string t.to,.int .i64 t.kind,.string t.msg,.string t.peer,.string t.ctr,.int .i64 t.low,.int .i64 t.high,.int .i64 t.add] 137)=V1:=⟨_,rfl⟩
   have F1:Hid (Frm [] wq V1):=Lib.hid (by rw[← hV1];exact((Frm.refl [] wq).alloc _).alloc _)
   have B5:Hid (V1.heap[wr.heap.size]?=some (.cells #[.int .i64 i] 3 (0,0))):=Lib.hid (F1.out.at (HKT.out.cells Q5.out (by decide)) (by simp))
   have B7:Hid (V1.heap[wq.heap.size]?=some (.cells #[.int .i64 k] 3 (0,0))):=Lib.hid (by rw[← hV1];exact alloc_at (heap_alloc_new _ _))
   have B8:Hid (V1.heap[wq.heap.size + 1]?=some (.cells #[.string t.frm,.string t.to,.int .i64 t.kind,.string t.msg,.string t.peer,.string t.ctr,.int .i64 t.low,.int .i64 t.high,.int .i64 t.add] 137 (0,0))):=Lib.hid (by rw[← hV1];exact alloc_top (by simp))
   have HV1:=Lib.hid hV1
   have M1:=Lib.hid (HMq.out.frm F1.out)
   have MS1:=Lib.hid (HMSq.out.frm F1.out)
   have KT1:Hid (Kt mvT V0 V1):=Lib.hid (HKT.out.trans (Kt.frm F1.out))
   have CP:=Lib.hid (pPossible_any s yb fb sb i k x V1 (HSY.out.frm M1.out.fr) (HST.out.frm M1.out.fr) HIN.out HKK.out)
   have HE:Hid (rMv s x i ++ cat (fun k=>stepMv s x i k) (k + 1)=(rMv s x i ++ cat (fun k=>stepMv s x i k) k) ++ stepMv s x i k):=Lib.hid (by rw[List.append_assoc];rfl)
   obtain⟨L0,hL0⟩:∃ L0,rMv s x i ++ cat (fun k=>stepMv s x i k) k=L0:=⟨_,rfl⟩
   have hLen:L0.length≤1600:=by
    rw[← hL0,List.length_append]
    have a1:=stepsMv_len HSY.out.ok HST.out.ok (show i≤s.roles.length by have:=HIN.out;omega)
    have a2:=roleMv_len HSY.out.ok HST.out.ok HIN.out (show k≤(s.rol i).steps.length by have:=HKK.out;omega)
    exact Nat.le_trans (Nat.add_le_add a1 a2) (by decide)
   rw[hL0] at M1 HE
   have HLen:=Lib.hid hLen
   clear hL0 hV1 HKT HMSq HMq hLen
   go_upto_region 7 with fail
   rw[HV1.out]
   clear k0 k1 k2 k3 k4 k5 k6 k7 k8 hkl
   have c5:=cell_of B5.out 0
   have c7:=cell_of B7.out 0
   cases hpb:possB s x i k with
   | false =>
     rw[hpb] at CP
     have HSM:Hid (stepMv s x i k=[]):=Lib.hid (by unfold stepMv;rw[if_pos hpb])
     clear hpb
     go_wp2_with (first
      | (go_at_call 122;go_must (refine CP.out.mono ?_;rintro e w2 ⟨rfl,hf2⟩;have HF2:=Lib.hid hf2;clear hf2)))
     go_wp2
     refine⟨⟨ds,?_⟩,?_⟩
     ·(repeat apply Exists.intro)
      exact⟨⟨k + 1,congrArg (Value.int .i64) (HWK.out k hltk),hltk,by rw[HE.out,HSM.out,List.append_nil];exact M1.out.frm HF2.out,MS1.out.frm HF2.out,KT1.out.trans (Kt.frm HF2.out)⟩,rfl⟩
     ·exact meas_up hltk (HWK.out k hltk)
   | true =>
     rw[hpb] at CP
     have HPB:=Lib.hid hpb
     clear hpb
     go_upto_region 8 with (first
      | (go_at_call 122;go_must (refine CP.out.mono ?_;rintro e w2 ⟨rfl,hf2⟩;have HF2:=Lib.hid hf2;clear hf2)))
     have M2:=Lib.hid (M1.out.frm HF2.out)
     have MS2:=Lib.hid (MS1.out.frm HF2.out)
     have KT2:Hid (Kt mvT V0 w2):=Lib.hid (KT1.out.trans (Kt.frm HF2.out))
     have D5:=Lib.hid (HF2.out.at B5.out (by simp))
     have D7:=Lib.hid (HF2.out.at B7.out (by simp))
     have D8:=Lib.hid (HF2.out.at B8.out (by simp))
     have e2:=cell_of D8.out 2
     have KP:=Lib.hid (HSY.out.ok.stp HIN.out HKK.out)
     rw[HTK.out] at KP
     clear c5 c7 CP B5 B7 B8 M1 MS1 KT1
     by_cases kk2:t.kind=2
     ·have b2:(t.kind == 2)=true:=by simpa using kk2
      have hpe:=HSY.out.ok.peer HIN.out HKK.out (by rw[HTK.out];omega)
      rw[HTK.out] at hpe
      obtain⟨p1,p2,p3⟩:=hpe
      obtain⟨p,hp⟩:∃ p,peerN s t=p:=⟨_,rfl⟩
      rw[hp] at p1 p2 p3
      obtain⟨gb,go',cw,rb2,ro2,c2,cb,x2,hw⟩:=HST.out.way p2 HIN.out
      obtain⟨g0,g1,F,hch⟩:=hw
      have HSM:Hid (stepMv s x i k=hits t.msg i k (chlK s.cls (x.way p i) (x.way p i).length)):=Lib.hid (by
       unfold stepMv
       rw[HTK.out,if_neg (by rw[HPB.out];decide),if_pos kk2,hp])
      have hLw:=(HST.out.ok.wb p i p2 HIN.out).1
      have hk4:=HSY.out.ok.k4
      have CNm:Hid (∀ V,Frm [] w V→Calls Tryz.prog 66 #[.pointer (some ⟨yb,0,none⟩),.string t.peer] V (Ret (.int .i64 (p:Int)) (Frm [] V))):=Lib.hid fun V hV=>by
       rw[← p1]
       obtain⟨rv',q1,q2⟩:=(HSY.out.frm hV).out
       exact pNumber_any yb s rv' t.peer V (cell_of q1 1) q2 (by have:=HSY.out.ok.n4;omega)
      obtain⟨LL,hLL⟩:∃ LL,x.way p i=LL:=⟨_,rfl⟩
      rw[hLL] at HSM hLw hch
      rw[HN.out] at x2 g0
      have HWY:Hid (∀ V,Frm [] w V→V.cell? ⟨sb,2,none⟩=some (.slice (some ⟨gb,go',none⟩) n cw)∧V.cell? ⟨gb,go' + p,none⟩=some (.slice (some ⟨rb2,ro2,none⟩) n c2)∧V.cell? ⟨rb2,ro2 + i,none⟩=some (.pointer (some ⟨cb,0,none⟩))∧Chn V cb s.cls s.cap LL F):=
       Lib.hid fun V hV=>⟨hV.keep x2,hV.keep g0,hV.keep g1,hch.frm hV (by simp)⟩
      have HBX:Hid (∀ V,Frm [] w2 V→V.cell? ⟨wq.heap.size + 1,4,none⟩=some (.string t.peer)∧V.cell? ⟨wr.heap.size,0,none⟩=some (.int .i64 i)):=Lib.hid fun V hV=>⟨hV.keep (cell_of D8.out 4),hV.keep (cell_of D5.out 0)⟩
      have hpn:(p:Int) < (n:Int):=by rw[HN.out] at p2;omega
      have HLW:Hid (LL.length≤4):=Lib.hid (by omega)
      clear kk2 p1 p2 p3 hp x2 g0 g1 hch hLL hLw hk4
      go_upto_region 9 with fail
      clear e2
      refine wp_region_cqt 13 (by kernel_rfl) (by kernel_rfl) ?_
      simp only[List.take_succ_cons,List.take_zero,List.drop_succ_cons,List.drop_zero]
      repeat (first
       | go_big_quiet_skip
       | (refine wpQuiet_want (by rfl) (fun K hK=>?_)
          first
           | (refine quiet_move _ (by rfl) (hK _ ?_))
           | (refine quiet_assign _ (by rfl) (hK _ ?_))
           | (refine cq_call (.int .i64 (p:Int)) 66 #[.pointer (some ⟨yb,0,none⟩),.string t.peer] (fun w' hC=>?_) (fun w' hC=>Ret.cq (CNm.out w' (M2.out.fr.trans hC)) (fun w'' h=>hC.trans h)) (hK _ ?_)
              ·go_simp)
           | (apply Exists.intro
              refine⟨fun w' hC=>?_,hK _ ?_⟩
              ·(unfold Oper.quietAt
                obtain⟨z1,z2,z3,-⟩:=HWY.out w' (M2.out.fr.trans hC);obtain⟨z4,z5⟩:=HBX.out w' hC
                clear hC
                go_simp
                try exact⟨rfl,rfl⟩
                try rfl))
          clear hK K
          try simp only[nrm,Act.eval,nrq]))
      refine wpQuiet_nil ?_
      intro w4 hf4
      have M4:=Lib.hid (M2.out.frm hf4)
      have MS4:=Lib.hid (MS2.out.frm hf4)
      have KT4:Hid (Kt mvT V0 w4):=Lib.hid (KT2.out.trans (Kt.frm hf4))
      have D54:=Lib.hid (hf4.at D5.out (by simp))
      have D74:=Lib.hid (hf4.at D7.out (by simp))
      have D84:=Lib.hid (hf4.at D8.out (by simp))
      have HCH:=Lib.hid (HWY.out w4 M4.out.fr).2.2.2
      have CCh:=Lib.hid (choose_any cb s.cls s.cap LL F w4 HCH.out)
      clear hf4 hpn CNm HWY HBX
      go_wp2_with (first
       | (go_at_call 123;go_must (refine CCh.out.mono ?_;rintro e w5 ⟨v,rfl,⟨bl,bc,sv5,rfl,hcr⟩⟩;have HCR:=Lib.hid hcr;clear hcr)))
      have f5:=HCR.out.2.1
      have hit:=chc_iter bl bc cb s.cls sv5 LL HSY.out.ok.c1 HSY.out.ok.c3 (by have:=HLW.out;omega)
      have HCH5:=Lib.hid (HCH.out.frm f5 (by simp))
      have M5:=Lib.hid (M4.out.frm f5)
      have MS5:=Lib.hid (MS4.out.frm f5)
      have KT5:Hid (Kt mvT V0 w5):=Lib.hid (KT4.out.trans (Kt.frm f5))
      have D55:=Lib.hid (f5.at D54.out (by simp))
      have D75:=Lib.hid (f5.at D74.out (by simp))
      have D85:=Lib.hid (f5.at D84.out (by simp))
      clear f5 CCh
      refine wp_rangeList rfl (enters_of Tryz.func178 (by kernel_rfl) rfl) hit (fun _=>rfl) (fun pre W=>MB w w.heap.size (L0 ++ hits t.msg i k pre) W∧Kt mvT w5 W) (fun _ _ _=>False) (fun _ _ _ h hb=>⟨h.1.bk hb M5.out.fr.size,h.2.bk hb⟩) (fun _ _ _ _ h _=>h) (fun _ W h=>HCR.out.1.kt h.2 HCH5.out) ⟨by rw[show hits t.msg i k []=[] from rfl,List.append_nil];exact M5.out,Kt.refl _ _⟩ ?_ ?_ (fun _ _ _ _ _ _ _ _ h=>h.elim)
      ·intro l0 pre y rest Wr hxs hI hl hlr
       have hpl:pre.length < 4:=by
        have h1:=chlK_length s.cls LL LL.length
        rw[hxs,List.length_append,List.length_cons] at h1
        have:=HLW.out;omega
       have HI:=Lib.hid hI
       clear hI hlr hl hxs
       obtain⟨yi,ym⟩:=y
       simp only[encC]
       gi_wp2
       refine⟨KB.refl _,fun Wq hbk _=>?_⟩
       have HI2:=Lib.hid (⟨HI.out.1.bk hbk M5.out.fr.size,HI.out.2.bk hbk⟩:MB w w.heap.size (L0 ++ hits t.msg i k pre) Wq∧Kt mvT w5 Wq)
       have z8:=cell_of (HI2.out.2.cells D85.out (by decide)) 3
       have z5:=cell_of (HI2.out.2.cells D55.out (by decide)) 0
       have z7:=cell_of (HI2.out.2.cells D75.out (by decide)) 0
       clear hbk
       by_cases hm:ym=t.msg
       ·have hq:(ym.toList == t.msg.toList)=true:=by rw[str_beq,decide_eq_true hm]
        have HSN:=Lib.hid (hits_snoc (m:=t.msg) (i:=i) (k:=k) pre (yi,ym))
        rw[if_pos hm] at HSN
        have hlen:(L0 ++ hits t.msg i k pre).length≤1700:=by
         have:=hits_len (m:=t.msg) (i:=i) (k:=k) pre
         have:=HLen.out
         rw[List.length_append];omega
        obtain⟨L1,hL1⟩:∃ L1,L0 ++ hits t.msg i k pre=L1:=⟨_,rfl⟩
        rw[hL1] at HI2 hlen
        have HL1:=Lib.hid hL1
        obtain⟨ao,cp,hb1,hb2⟩:=HI2.out.1.bx
        have cx:=cell_of hb1 0
        have HB1:=Lib.hid hb1;have HB2:=Lib.hid hb2
        obtain⟨i0,hi0,hz0,hz1,hz2⟩:=info_parts Tryz.infoMv
        have hsz:w.heap.size≤(Wq.alloc (.cells #[.int .i64 1,.int .i64 i,.int .i64 k,.int .i64 yi] 44)).heap.size:=by have:=HI2.out.1.fr.size;simp;omega
        clear hm hb1 hb2 hL1
        gi_wp2_with (gi_at_builtin;refine wpListIn_append_own _ rfl _ _ 31 rfl w.heap.size 44 i0 (.agg #[.int .i64 0,.int .i64 0,.int .i64 0,.int .i64 0]) 4 32 Tryz.underlying31 hi0 hz0 hz1 hz2 rfl (by decide) (.slice ao L1.length cp) L1.length (mvC L1) rfl (HB2.out.alloc _) ⟨Wq.heap.size,0,none⟩ 1 1 (mvC1 ⟨1,i,k,yi⟩) rfl rfl (new_row _ _ _) (by simp[mvC1,Value.oneCell']) (by unfold maxLen;omega) (by omega) hsz ?_;intro v' w6 hown' hgrow _;obtain⟨ao',cp',rfl⟩:=own_shape hown';have hbx:=BO.facts HB1.out HB2.out (by decide) hgrow;have cx6:=cell_of hbx 0;have fx6:=free_of hbx 0;have HG:=Lib.hid hgrow;have HO:=Lib.hid hown';clear hgrow hown' hbx cx)
        have h9:=MB.add ⟨1,i,k,yi⟩ HI2.out.1 HB1.out HB2.out HG.out HO.out
        refine⟨h9.2.kb,?_⟩
        show MB w w.heap.size (L0 ++ hits t.msg i k (pre ++ [(yi,ym)])) _∧Kt mvT w5 _
        rw[HSN.out,← List.append_assoc,HL1.out]
        exact⟨h9.1,HI2.out.2.trans h9.2⟩
       ·have hq:(ym.toList == t.msg.toList)=false:=by rw[str_beq,decide_eq_false hm]
        have HSN:=Lib.hid (hits_snoc (m:=t.msg) (i:=i) (k:=k) pre (yi,ym))
        rw[if_neg hm] at HSN
        clear hm
        gi_wp2
        refine⟨KB.refl _,?_⟩
        show MB w w.heap.size (L0 ++ hits t.msg i k (pre ++ [(yi,ym)])) _∧Kt mvT w5 _
        rw[HSN.out]
        exact HI2.out
      ·intro D W hD hI hK
       have HID:=Lib.hid hI;have HKD:=Lib.hid hK;have HDD:=Lib.hid hD
       clear hI hK hD hit
       go_wp2
       refine⟨⟨D :: ds,?_⟩,?_⟩
       ·(repeat apply Exists.intro)
        exact⟨⟨k + 1,congrArg (Value.int .i64) (HWK.out k hltk),hltk,by rw[HE.out,HSM.out];exact HID.out.1,MS5.out.more M5.out.fr.size HID.out.2 HDD.out HKD.out,KT5.out.trans HID.out.2⟩,rfl⟩
       ·exact meas_up hltk (HWK.out k hltk)
     ·have b2:(t.kind == 2)=false:=by simpa using kk2
      by_cases kk1:t.kind=1
      ·have b1:(t.kind != 1)=false:=by simpa using kk1
       have hpe:=HSY.out.ok.peer HIN.out HKK.out (by rw[HTK.out];omega)
       rw[HTK.out] at hpe
       obtain⟨p1,p2,p3⟩:=hpe
       obtain⟨p,hp⟩:∃ p,peerN s t=p:=⟨_,rfl⟩
       rw[hp] at p1 p2 p3
       obtain⟨gb,go',cw,rb2,ro2,c2,cb,x2,hw⟩:=HST.out.way HIN.out p2
       obtain⟨g0,g1,F,hch⟩:=hw
       have HSM0:Hid (stepMv s x i k=if s.cap≤((x.way i p).length:Int) then [] else [⟨1,i,k,0⟩]):=Lib.hid (by
        unfold stepMv
        rw[HTK.out,if_neg (by rw[HPB.out];decide),if_neg kk2,hp]
        simp[kk1])
       have CNm:Hid (∀ V,Frm [] w V→Calls Tryz.prog 66 #[.pointer (some ⟨yb,0,none⟩),.string t.peer] V (Ret (.int .i64 (p:Int)) (Frm [] V))):=Lib.hid fun V hV=>by
        rw[← p1]
        obtain⟨rv',q1,q2⟩:=(HSY.out.frm hV).out
        exact pNumber_any yb s rv' t.peer V (cell_of q1 1) q2 (by have:=HSY.out.ok.n4;omega)
       obtain⟨LL,hLL⟩:∃ LL,x.way i p=LL:=⟨_,rfl⟩
       rw[hLL] at HSM0 hch
       rw[HN.out] at x2 g0
       have CLn:Hid (∀ V,Frm [] w V→Calls Tryz.prog 103 #[.pointer (some ⟨cb,0,none⟩)] V (Ret (.int .i64 (LL.length:Int)) (Frm [] V))):=Lib.hid fun V hV=>len_any (hch.frm hV (by simp))
       have HWY:Hid (∀ V,Frm [] w V→V.cell? ⟨sb,2,none⟩=some (.slice (some ⟨gb,go',none⟩) n cw)∧V.cell? ⟨gb,go' + i,none⟩=some (.slice (some ⟨rb2,ro2,none⟩) n c2)∧V.cell? ⟨rb2,ro2 + p,none⟩=some (.pointer (some ⟨cb,0,none⟩))):=
        Lib.hid fun V hV=>⟨hV.keep x2,hV.keep g0,hV.keep g1⟩
       have HBX:Hid (∀ V,Frm [] w2 V→V.cell? ⟨wq.heap.size + 1,4,none⟩=some (.string t.peer)∧V.cell? ⟨wq.heap.size + 1,2,none⟩=some (.int .i64 t.kind)∧V.cell? ⟨wr.heap.size,0,none⟩=some (.int .i64 i)):=Lib.hid fun V hV=>⟨hV.keep (cell_of D8.out 4),hV.keep (cell_of D8.out 2),hV.keep (cell_of D5.out 0)⟩
       have hpn:(p:Int) < (n:Int):=by rw[HN.out] at p2;omega
       clear kk2 kk1 p1 p2 p3 hp x2 g0 g1 hch hLL
       by_cases hroom:(LL.length:Int) < s.cap
       ·have HSM:Hid (stepMv s x i k=[⟨1,i,k,0⟩]):=Lib.hid (by rw[HSM0.out,if_neg (by omega)])
        have hlv:=hroom
        clear hroom
        go_upto_region 14 with fail
        clear e2
        refine wp_region_cq (by kernel_rfl) (by kernel_rfl) ?_
        repeat (first
         | go_big_quiet_skip
         | (refine wpQuiet_want (by rfl) (fun K hK=>?_)
            first
             | (refine quiet_move _ (by rfl) (hK _ ?_))
             | (refine quiet_assign _ (by rfl) (hK _ ?_))
             | (refine cq_call (.int .i64 (p:Int)) 66 #[.pointer (some ⟨yb,0,none⟩),.string t.peer] (fun w' hC=>?_) (fun w' hC=>Ret.cq (CNm.out w' (M2.out.fr.trans hC)) (fun w'' h=>hC.trans h)) (hK _ ?_)
                ·go_simp)
             | (refine cq_call (.int .i64 (LL.length:Int)) 103 #[.pointer (some ⟨cb,0,none⟩)] (fun w' hC=>?_) (fun w' hC=>Ret.cq (CLn.out w' (M2.out.fr.trans hC)) (fun w'' h=>hC.trans h)) (hK _ ?_)
                ·go_simp)
             | (apply Exists.intro
                refine⟨fun w' hC=>?_,hK _ ?_⟩
                ·(unfold Oper.quietAt
                  obtain⟨z1,z2,z3⟩:=HWY.out w' (M2.out.fr.trans hC);obtain⟨z4,z6,z5⟩:=HBX.out w' hC;obtain⟨-,-,z9⟩:=HY1.out w' (M2.out.fr.trans hC)
                  clear hC
                  go_simp
                  try exact⟨rfl,rfl⟩
                  try rfl))
            clear hK K
            try simp only[nrm,Act.eval,nrq]))
        refine wpQuiet_nil ?_
        intro w4 hf4
        clear hlv hpn CNm CLn HWY HBX HSM0
        have M4:=Lib.hid (M2.out.frm hf4)
        have MS4:=Lib.hid (MS2.out.frm hf4)
        have KT4:Hid (Kt mvT V0 w4):=Lib.hid (KT2.out.trans (Kt.frm hf4))
        have z5:=cell_of (hf4.at D5.out (by simp)) 0
        have z7:=cell_of (hf4.at D7.out (by simp)) 0
        obtain⟨ao,cp,hb1,hb2⟩:=M4.out.bx
        have cx:=cell_of hb1 0
        have HB1:=Lib.hid hb1;have HB2:=Lib.hid hb2
        obtain⟨i0,hi0,hz0,hz1,hz2⟩:=info_parts Tryz.infoMv
        have hsz:w.heap.size≤(w4.alloc (.cells #[.int .i64 1,.int .i64 i,.int .i64 k,.int .i64 0] 44)).heap.size:=by have:=M4.out.fr.size;simp;omega
        have hlen:=HLen.out
        clear hb1 hb2 hf4
        go_wp2_with (at_builtin;refine wpList_append_own_at _ rfl _ _ 31 rfl w.heap.size 44 i0 (.agg #[.int .i64 0,.int .i64 0,.int .i64 0,.int .i64 0]) 4 32 Tryz.underlying31 hi0 hz0 hz1 hz2 rfl (by decide) (.slice ao L0.length cp) L0.length (mvC L0) rfl (HB2.out.alloc _) ⟨w4.heap.size,0,none⟩ 1 1 (mvC1 ⟨1,i,k,0⟩) rfl rfl (new_row _ _ _) (by simp[mvC1,Value.oneCell']) (by unfold maxLen;omega) (by omega) hsz ?_;intro v' w6 hown' hgrow _ _;obtain⟨ao',cp',rfl⟩:=own_shape hown';have hbx:=BO.facts HB1.out HB2.out (by decide) hgrow;have cx6:=cell_of hbx 0;have fx6:=free_of hbx 0;have HG:=Lib.hid hgrow;have HO:=Lib.hid hown';clear hgrow hown' hbx cx)
        have h9:=MB.add ⟨1,i,k,0⟩ M4.out HB1.out HB2.out HG.out HO.out
        refine⟨⟨ds,?_⟩,?_⟩
        ·(repeat apply Exists.intro)
         exact⟨⟨k + 1,congrArg (Value.int .i64) (HWK.out k hltk),hltk,by rw[HE.out,HSM.out];exact h9.1,MS4.out.kt h9.2,KT4.out.trans h9.2⟩,rfl⟩
        ·exact meas_up hltk (HWK.out k hltk)
       ·have HSM:Hid (stepMv s x i k=[]):=Lib.hid (by rw[HSM0.out,if_pos (by omega)])
        have hlv:¬ (LL.length:Int) < s.cap:=hroom
        clear hroom
        go_upto_region 14 with fail
        clear e2
        refine wp_region_cq (by kernel_rfl) (by kernel_rfl) ?_
        repeat (first
         | go_big_quiet_skip
         | (refine wpQuiet_want (by rfl) (fun K hK=>?_)
            first
             | (refine quiet_move _ (by rfl) (hK _ ?_))
             | (refine quiet_assign _ (by rfl) (hK _ ?_))
             | (refine cq_call (.int .i64 (p:Int)) 66 #[.pointer (some ⟨yb,0,none⟩),.string t.peer] (fun w' hC=>?_) (fun w' hC=>Ret.cq (CNm.out w' (M2.out.fr.trans hC)) (fun w'' h=>hC.trans h)) (hK _ ?_)
                ·go_simp)
             | (refine cq_call (.int .i64 (LL.length:Int)) 103 #[.pointer (some ⟨cb,0,none⟩)] (fun w' hC=>?_) (fun w' hC=>Ret.cq (CLn.out w' (M2.out.fr.trans hC)) (fun w'' h=>hC.trans h)) (hK _ ?_)
                ·go_simp)
             | (apply Exists.intro
                refine⟨fun w' hC=>?_,hK _ ?_⟩
                ·(unfold Oper.quietAt
                  obtain⟨z1,z2,z3⟩:=HWY.out w' (M2.out.fr.trans hC);obtain⟨z4,z6,z5⟩:=HBX.out w' hC;obtain⟨-,-,z9⟩:=HY1.out w' (M2.out.fr.trans hC)
                  clear hC
                  go_simp
                  try exact⟨rfl,rfl⟩
                  try rfl))
            clear hK K
            try simp only[nrm,Act.eval,nrq]))
        refine wpQuiet_nil ?_
        intro w4 hf4
        have HF4:=Lib.hid hf4
        clear hf4 hlv hpn CNm CLn HWY HBX HSM0
        go_wp2
        refine⟨⟨ds,?_⟩,?_⟩
        ·(repeat apply Exists.intro)
         exact⟨⟨k + 1,congrArg (Value.int .i64) (HWK.out k hltk),hltk,by rw[HE.out,HSM.out,List.append_nil];exact M2.out.frm HF4.out,MS2.out.frm HF4.out,KT2.out.trans (Kt.frm HF4.out)⟩,rfl⟩
        ·exact meas_up hltk (HWK.out k hltk)
      ·have b1:(t.kind != 1)=true:=by simpa using kk1
       have HSM:Hid (stepMv s x i k=[⟨1,i,k,0⟩]):=Lib.hid (by
        unfold stepMv
        rw[HTK.out,if_neg (by rw[HPB.out];decide),if_neg kk2,if_neg (by simp[kk1])])
       have HBX:Hid (∀ V,Frm [] w2 V→V.cell? ⟨wq.heap.size + 1,2,none⟩=some (.int .i64 t.kind)):=Lib.hid fun V hV=>hV.keep (cell_of D8.out 2)
       clear kk2 kk1
       go_upto_region 14 with fail
       clear e2
       refine wp_region_cq (by kernel_rfl) (by kernel_rfl) ?_
       repeat (first
        | go_big_quiet_skip
        | (refine wpQuiet_want (by rfl) (fun K hK=>?_)
           first
            | (refine quiet_move _ (by rfl) (hK _ ?_))
            | (refine quiet_assign _ (by rfl) (hK _ ?_))
            | (apply Exists.intro
               refine⟨fun w' hC=>?_,hK _ ?_⟩
               ·(unfold Oper.quietAt
                 obtain⟨z4,-⟩:_∧True:=⟨HBX.out w' hC,trivial⟩
                 clear hC
                 go_simp
                 try exact⟨rfl,rfl⟩
                 try rfl))
           clear hK K
           try simp only[nrm,Act.eval,nrq]))
       refine wpQuiet_nil ?_
       intro w4 hf4
       clear HBX
       have M4:=Lib.hid (M2.out.frm hf4)
       have MS4:=Lib.hid (MS2.out.frm hf4)
       have KT4:Hid (Kt mvT V0 w4):=Lib.hid (KT2.out.trans (Kt.frm hf4))
       have z5:=cell_of (hf4.at D5.out (by simp)) 0
       have z7:=cell_of (hf4.at D7.out (by simp)) 0
       obtain⟨ao,cp,hb1,hb2⟩:=M4.out.bx
       have cx:=cell_of hb1 0
       have HB1:=Lib.hid hb1;have HB2:=Lib.hid hb2
       obtain⟨i0,hi0,hz0,hz1,hz2⟩:=info_parts Tryz.infoMv
       have hsz:w.heap.size≤(w4.alloc (.cells #[.int .i64 1,.int .i64 i,.int .i64 k,.int .i64 0] 44)).heap.size:=by have:=M4.out.fr.size;simp;omega
       have hlen:=HLen.out
       clear hb1 hb2 hf4
       go_wp2_with (at_builtin;refine wpList_append_own_at _ rfl _ _ 31 rfl w.heap.size 44 i0 (.agg #[.int .i64 0,.int .i64 0,.int .i64 0,.int .i64 0]) 4 32 Tryz.underlying31 hi0 hz0 hz1 hz2 rfl (by decide) (.slice ao L0.length cp) L0.length (mvC L0) rfl (HB2.out.alloc _) ⟨w4.heap.size,0,none⟩ 1 1 (mvC1 ⟨1,i,k,0⟩) rfl rfl (new_row _ _ _) (by simp[mvC1,Value.oneCell']) (by unfold maxLen;omega) (by omega) hsz ?_;intro v' w6 hown' hgrow _ _;obtain⟨ao',cp',rfl⟩:=own_shape hown';have hbx:=BO.facts HB1.out HB2.out (by decide) hgrow;have cx6:=cell_of hbx 0;have fx6:=free_of hbx 0;have HG:=Lib.hid hgrow;have HO:=Lib.hid hown';clear hgrow hown' hbx cx)
       have h9:=MB.add ⟨1,i,k,0⟩ M4.out HB1.out HB2.out HG.out HO.out
       refine⟨⟨ds,?_⟩,?_⟩
       ·(repeat apply Exists.intro)
        exact⟨⟨k + 1,congrArg (Value.int .i64) (HWK.out k hltk),hltk,by rw[HE.out,HSM.out];exact h9.1,MS4.out.kt h9.2,KT4.out.trans h9.2⟩,rfl⟩
       ·exact meas_up hltk (HWK.out k hltk)
  ·obtain rfl:k=m:=by omega
   have hgk:¬ (k:Int) < (k:Int):=by omega
   go_wp2
   refine⟨⟨ds,?_⟩,?_⟩
   ·(repeat apply Exists.intro)
    refine⟨⟨i + 1,congrArg (Value.int .i64) (HWI.out i hlt),hlt,?_,HMSq.out⟩,rfl⟩
    have:=HMq.out
    rw[← HMm.out,← HRR.out] at this
    exact this
   ·exact meas_up hlt (HWI.out i hlt)
 ·obtain rfl:i=n:=by omega
  have hge:¬ (i:Int) < (i:Int):=by omega
  have hn4:i≤4:=by have:=HSY.out.ok.n4;rw[HN.out] at this;exact this
  obtain⟨y1,y2,y3⟩:=HY1.out wr HM.out.fr
  have HM0:Hid (MB w w.heap.size (rMv s x i ++ lMv s x 0) wr):=Lib.hid (by rw[show lMv s x 0=[] from rfl,List.append_nil];exact HM.out)
  go_wp2
  clear y1 y2 y3
  go_loopw [110] (fun s110 wl=>∃ a:Nat,s110=.int .i64 a∧a≤i∧MB w w.heap.size (rMv s x i ++ lMv s x a) wl∧Ms w ds wl) (fun s110 _=>i - (intOf s110).toNat)
  case atStart=>exact⟨0,rfl,Nat.zero_le _,HM0.out,HMS.out⟩
  case round =>
   clear HM0 HM HMS
   obtain⟨a,rfl,ha,hmb,hms⟩:=hrel
   have HM:=Lib.hid hmb;have HMS:=Lib.hid hms
   clear hmb hms
   obtain⟨w1,hw1⟩:∃ w1,w1=wr:=⟨_,rfl⟩
   subst hw1
   by_cases hlta:a < i
   ·have hlta':(a:Int) < (i:Int):=by omega
    have hia:a < s.roles.length:=by rw[HN.out];exact hlta
    have HIA:=Lib.hid hia
    clear hia
    obtain⟨y1,y2,y3⟩:=HY1.out w1 HM.out.fr
    have HM0:Hid (MB w w.heap.size (rMv s x i ++ (lMv s x a ++ cat (fun k=>loseMv s x a k) 0)) w1):=Lib.hid (by rw[show cat (fun k=>loseMv s x a k) 0=[] from rfl,List.append_nil];exact HM.out)
    have HE:Hid (lMv s x (a + 1)=lMv s x a ++ cat (fun k=>loseMv s x a k) i):=Lib.hid (by rw[← HN.out];rfl)
    go_wp2
    clear y1 y2 y3
    go_loopw [119] (fun s119 wl=>∃ c:Nat,s119=.int .i64 c∧c≤i∧MB w w.heap.size (rMv s x i ++ (lMv s x a ++ cat (fun k=>loseMv s x a k) c)) wl∧Ms w ds wl) (fun s119 _=>i - (intOf s119).toNat)
    case atStart=>exact⟨0,rfl,Nat.zero_le _,HM0.out,HMS.out⟩
    case round =>
     clear HM0 HM HMS
     obtain⟨c,rfl,hc,hmb,hms⟩:=hrel
     have HM:=Lib.hid hmb;have HMS:=Lib.hid hms
     clear hmb hms
     by_cases hltc:c < i
     ·have hltc':(c:Int) < (i:Int):=by omega
      have hic:c < s.roles.length:=by rw[HN.out];exact hltc
      have HEC:Hid (rMv s x i ++ (lMv s x a ++ cat (fun k=>loseMv s x a k) (c + 1))=(rMv s x i ++ (lMv s x a ++ cat (fun k=>loseMv s x a k) c)) ++ loseMv s x a c):=Lib.hid (by
       rw[show cat (fun k=>loseMv s x a k) (c + 1)=cat (fun k=>loseMv s x a k) c ++ loseMv s x a c from rfl]
       simp only[List.append_assoc])
      have hLen:(rMv s x i ++ (lMv s x a ++ cat (fun k=>loseMv s x a k) c)).length≤1600:=by
       have a1:=stepsMv_len HSY.out.ok HST.out.ok (show i≤s.roles.length by rw[HN.out];exact Nat.le_refl _)
       have a2:=losesMv_len (x:=x) HSY.out.ok (show a≤s.roles.length by rw[HN.out];omega)
       have a3:=cat_len (n:=c) (f:=fun k=>loseMv s x a k) (c:=1) (fun k _=>loseMv_len a k)
       rw[List.length_append,List.length_append]
       have a4:=Nat.add_le_add a1 (Nat.add_le_add a2 a3)
       exact Nat.le_trans a4 (by omega)
      obtain⟨L0,hL0⟩:∃ L0,rMv s x i ++ (lMv s x a ++ cat (fun k=>loseMv s x a k) c)=L0:=⟨_,rfl⟩
      rw[hL0] at HM HEC hLen
      have HLen:=Lib.hid hLen
      clear hL0 hLen
      obtain⟨y1,y2,y3⟩:=HY1.out wr HM.out.fr
      by_cases h3:s.cls=3
      ·have q3:(s.cls == 3)=true:=by simpa using h3
       obtain⟨gb,go',cw,rb2,ro2,c2,cb,x2,hw⟩:=HST.out.way HIA.out hic
       obtain⟨g0,g1,F,hch⟩:=hw
       have HSM0:Hid (loseMv s x a c=if 0 < (x.way a c).length then [⟨2,a,c,0⟩] else []):=Lib.hid (by unfold loseMv;simp[h3])
       obtain⟨LL,hLL⟩:∃ LL,x.way a c=LL:=⟨_,rfl⟩
       rw[hLL] at HSM0 hch
       rw[HN.out] at x2 g0
       have CLn:=Lib.hid (len_any (hch.frm HM.out.fr (by simp)))
       replace x2:=HM.out.fr.keep x2;replace g0:=HM.out.fr.keep g0;replace g1:=HM.out.fr.keep g1
       clear hch hLL hic h3
       by_cases hpos:0 < LL.length
       ·have hp':(0:Int) < (LL.length:Int):=by omega
        have HSM:Hid (loseMv s x a c=[⟨2,a,c,0⟩]):=Lib.hid (by rw[HSM0.out,if_pos hpos])
        clear hpos
        go_upto_region 25 with (first
         | (go_at_call 103;go_must (refine CLn.out.mono ?_;rintro e w4 ⟨rfl,hf4⟩;have HF4:=Lib.hid hf4;clear hf4)))
        have M4:=Lib.hid (HM.out.frm HF4.out)
        have MS4:=Lib.hid (HMS.out.frm HF4.out)
        obtain⟨ao,cp,hb1,hb2⟩:=M4.out.bx
        have cx:=cell_of hb1 0
        have HB1:=Lib.hid hb1;have HB2:=Lib.hid hb2
        obtain⟨i0,hi0,hz0,hz1,hz2⟩:=info_parts Tryz.infoMv
        have hsz:w.heap.size≤(w4.alloc (.cells #[.int .i64 2,.int .i64 a,.int .i64 c,.int .i64 0] 44)).heap.size:=by have:=M4.out.fr.size;simp;omega
        have hlen:=HLen.out
        clear hb1 hb2 x2 g0 g1 y1 y2 y3 q3 hp'
        go_wp2_with (at_builtin;refine wpList_append_own_at _ rfl _ _ 31 rfl w.heap.size 44 i0 (.agg #[.int .i64 0,.int .i64 0,.int .i64 0,.int .i64 0]) 4 32 Tryz.underlying31 hi0 hz0 hz1 hz2 rfl (by decide) (.slice ao L0.length cp) L0.length (mvC L0) rfl (HB2.out.alloc _) ⟨w4.heap.size,0,none⟩ 1 1 (mvC1 ⟨2,a,c,0⟩) rfl rfl (new_row _ _ _) (by simp[mvC1,Value.oneCell']) (by unfold maxLen;omega) (by omega) hsz ?_;intro v' w6 hown' hgrow _ _;obtain⟨ao',cp',rfl⟩:=own_shape hown';have hbx:=BO.facts HB1.out HB2.out (by decide) hgrow;have cx6:=cell_of hbx 0;have fx6:=free_of hbx 0;have HG:=Lib.hid hgrow;have HO:=Lib.hid hown';clear hgrow hown' hbx cx)
        have h9:=MB.add ⟨2,a,c,0⟩ M4.out HB1.out HB2.out HG.out HO.out
        exact⟨⟨c + 1,congrArg (Value.int .i64) (by omega),hltc,by rw[HEC.out,HSM.out];exact h9.1,MS4.out.kt h9.2⟩,by simp[intOf];omega⟩
       ·have hp':¬ (0:Int) < (LL.length:Int):=by omega
        have HSM:Hid (loseMv s x a c=[]):=Lib.hid (by rw[HSM0.out,if_neg hpos])
        clear hpos
        go_wp2_with (first
         | (go_at_call 103;go_must (refine CLn.out.mono ?_;rintro e w4 ⟨rfl,hf4⟩;have HF4:=Lib.hid hf4;clear hf4)))
        exact⟨⟨c + 1,congrArg (Value.int .i64) (by omega),hltc,by rw[HEC.out,HSM.out,List.append_nil];exact HM.out.frm HF4.out,HMS.out.frm HF4.out⟩,by simp[intOf];omega⟩
      ·have q3:(s.cls == 3)=false:=by simpa using h3
       have HSM:Hid (loseMv s x a c=[]):=Lib.hid (by unfold loseMv;simp[h3])
       clear h3
       go_wp2
       exact⟨⟨c + 1,congrArg (Value.int .i64) (by omega),hltc,by rw[HEC.out,HSM.out,List.append_nil];exact HM.out,HMS.out⟩,by simp[intOf];omega⟩
     ·obtain rfl:c=i:=by omega
      go_wp2
      exact⟨⟨a + 1,congrArg (Value.int .i64) (by omega),hlta,by rw[HE.out];exact HM.out,HMS.out⟩,by simp[intOf];omega⟩
   ·obtain rfl:a=i:=by omega
    obtain⟨L,hL⟩:∃ L,rMv s x a ++ lMv s x a=L:=⟨_,rfl⟩
    have HLM:Hid (L=movesP s x):=Lib.hid (by rw[← hL,← HN.out];rfl)
    rw[hL] at HM
    obtain⟨ao,cp,hb1,hb2⟩:=HM.out.bx
    have cx:=cell_of hb1 0
    have fx:=free_of hb1 0
    have HB1:=Lib.hid hb1;have HB2:=Lib.hid hb2
    clear hb1 hb2 hL
    go_wp2
    exact mv_end HM.out.fr (Nat.le_refl _) HB1.out HB2.out HMS.out (fun W hc=>by simp[results,Tryz.results63,go_sem,hc]) HLM.out
theorem pmoves_any (s:SesD) (yb fb sb:Nat) (x:PS) (w:World) (h:SyR w s yb fb) (hx:StR w s yb sb x) :
  Calls Tryz.prog 63 #[.pointer (some ⟨yb,0,none⟩),.pointer (some ⟨sb,0,none⟩)] w (RetV fun v w'=>Arr 4 MvAt w' v (movesP s x)∧Frm [] w w'):=
 (pmoves_own s yb fb sb x w h hx).mono fun e w' h=>by
  obtain⟨v,rfl,h1,h2⟩:=h
  exact⟨v,rfl,mv_arr h1,h2⟩
end Go.Proofs.YtohfkhjlnlahdaaGreat
namespace Go.Proofs.YtohfkhjlnlahdaaGreat
open Go.RowKit Go.BigFrame Go.Maps
theorem ctV_val (l:List (CtrD × Int)) (n:ByteArray):∃ a e,ctV l n=.tuple #[.int .i64 a,.int .i64 e]:=by
 unfold ctV
 split
 ·split
  ·exact⟨_,_,rfl⟩
  ·exact⟨_,_,rfl⟩
 ·exact⟨_,_,rfl⟩
theorem guard_val {s:SesD} {x:PS} (hs:SesOk s) (hx:PSok s x) {i:Nat} (hi:i < s.roles.length) {t:StpD} (ht:t∈(s.rol i).steps) {a e:Int} (hv:ctV (x.ctr s i) t.ctr=.tuple #[.int .i64 a,.int .i64 e]) :
  bankOk (s.rol i).ctrs (x.bank i) t=(decide (t.ctr=emptyS) || (decide (t.low≤a) && decide (a≤t.high))):=by
 have hst:=(hs.at hi).stp t ht
 have hvb:=hx.vb i hi
 rw[bank_guard hst hvb]
 by_cases he:t.ctr=emptyS
 ·rw[decide_eq_true he];rfl
 ·obtain⟨k,c,h1,h2,-⟩:=hst.ctr he
  have h3:ctV (x.ctr s i) t.ctr=.tuple #[.int .i64 ((x.bank i).getD k 0),.int .i64 0]:=by
   unfold ctV PS.ctr
   rw[cnIx_zip hvb.1,h1,Int.toNat_natCast,zip_at hvb.1 h2]
   simp only
   rw[if_pos (by omega)]
  rw[h3] at hv
  injection hv with hv
  have h4:(x.bank i).getD k 0=a:=by
   have:=congrArg (fun A:Array Value=>A.getD 0 undef) hv
   simp at this
   simpa using this
  rw[h1,Int.toNat_natCast,h4]
set_option maxHeartbeats 2000000 in
set_option maxRecDepth 100000 in
theorem xpGrd_any (s:SesD) (yb fb sb i:Nat) (x:PS) (t:StpD) (w:World) (h:SyR w s yb fb) (hx:StR w s yb sb x) (hi:i < s.roles.length) (ht:t∈(s.rol i).steps) :
  Calls Tryz.prog 145 #[.pointer (some ⟨sb,0,none⟩),.int .i64 i,stpV t] w (Ret (.bool (bankOk (s.rol i).ctrs (x.bank i) t)) (Frm [] w)):=by
 obtain⟨a,e,hv⟩:=ctV_val (x.ctr s i) t.ctr
 rw[guard_val h.ok hx.ok hi ht hv]
 obtain⟨W0,hW0⟩:∃ W0,w.alloc (.cells #[.string t.frm,.string t.to,.int .i64 t.kind,.string t.msg,.string t.peer,.string t.ctr,.int .i64 t.low,.int .i64 t.high,.int .i64 t.add] 137)=W0:=⟨_,rfl⟩
 have hf0:Frm [] w W0:=by rw[← hW0];exact(Frm.refl _ _).alloc _
 have CC:=Lib.hid (pCounter_ok s yb fb sb i x t.ctr W0 (h.frm hf0) (hx.frm hf0) hi)
 rw[hv] at CC
 have HB:Hid (∀ V,Frm [] W0 V→V.cell? ⟨w.heap.size,5,none⟩=some (.string t.ctr)∧V.cell? ⟨w.heap.size,6,none⟩=some (.int .i64 t.low)∧V.cell? ⟨w.heap.size,7,none⟩=some (.int .i64 t.high)):=Lib.hid fun V hV=>by
  have hb:=hV.at (show W0.heap[w.heap.size]?=_ by rw[← hW0];exact heap_alloc_new _ _) (by simp)
  exact⟨cell_of hb 5,cell_of hb 6,cell_of hb 7⟩
 have HF0:=Lib.hid hf0;have HE:=Lib.hid hW0
 clear hi ht hx h hf0 hW0 hv
 go_enter Tryz.func145,Tryz.ntmps145
 go_upto_region 1 with (first | (refine wpList_box_row rfl 137 _ rfl _ rfl ?_;rw[HE.out]))
 clear HE
 obtain⟨x5,x6,x7⟩:=HB.out _ (Frm.refl _ _)
 go_upto_region 2 with (first
  | (go_at_call 190;go_must (refine CC.out.mono ?_;rintro e w1 ⟨rfl,hf1⟩;have HF1:=Lib.hid hf1;clear hf1 x5 x6 x7 CC)))
 obtain⟨x5,x6,x7⟩:=HB.out _ HF1.out
 have HFE:=Lib.hid (HF0.out.trans HF1.out)
 clear HB HF0 HF1
 by_cases he:t.ctr=emptyS
 ·have hq:t.ctr.toList.isEmpty=true:=emp_yes he
  have HD:Hid (decide (t.ctr=emptyS)=true):=Lib.hid (decide_eq_true he)
  clear he
  go_wp2
  go_ret
  exact⟨by rw[HD.out];rfl,HFE.out⟩
 ·have hq:t.ctr.toList.isEmpty=false:=emp_no he
  have HD:Hid (decide (t.ctr=emptyS)=false):=Lib.hid (decide_eq_false he)
  clear he
  by_cases h1:t.low≤a
  ·have HL:Hid (decide (t.low≤a)=true):=Lib.hid (decide_eq_true h1)
   have h1':=HL.out
   go_wp2
   go_ret
   refine⟨?_,HFE.out⟩
   rw[HD.out,HL.out]
   simp
  ·have HL:Hid (decide (t.low≤a)=false):=Lib.hid (decide_eq_false h1)
   have h1':=HL.out
   go_wp2
   go_ret
   exact⟨by rw[HD.out];rfl,HFE.out⟩
def ArrTo (w:World) (cls:Int) (L:List ByteArray) (v:Value) (w':World):Prop:=∃ bl bc cb sv,v=.func (.func 178) #[] #[.pointer (some ⟨bl,0,none⟩),.pointer (some ⟨bc,0,none⟩)]∧ChR bl bc cb cls sv L w'∧(∃ F,Chn w' cb cls 64 L F)∧Frm [] w w'
set_option maxHeartbeats 2000000 in
set_option maxRecDepth 100000 in
theorem xpArr_any (s:SesD) (yb sb i p:Nat) (x:PS) (w:World) (hs:SesOk s) (hx:StR w s yb sb x) (hi:i < s.roles.length) (hp:p < s.roles.length) (hne:p≠i) :
  Calls Tryz.prog 143 #[.pointer (some ⟨sb,0,none⟩),.int .i64 s.cls,.int .i64 i,.int .i64 p] w (RetV (ArrTo w s.cls (x.way p i))):=by
 have CC:=Lib.hid (pChannel_ok s yb sb p i x w hx hp hi hne)
 have hwb:=hx.ok.wb p i hp hi
 have hk4:=hs.k4
 obtain⟨L,hL⟩:∃ L,x.way p i=L:=⟨_,rfl⟩
 rw[hL] at CC hwb ⊢
 obtain⟨m,hm⟩:∃ m,L.length=m:=⟨_,rfl⟩
 have HN:=Lib.hid hm
 have HM:Hid (m≤4∧∀ b∈L,1≤b.size∧b.size≤32):=Lib.hid ⟨by omega,hwb.2⟩
 have CN:Hid (∀ V,Calls Tryz.prog 113 #[.int .i64 s.cls,.int .i64 64] V (Ret (.tuple #[.pointer (some ⟨V.heap.size,0,none⟩),.int .i64 0]) (fun w'=>Frm [] V w'∧Chn w' V.heap.size s.cls 64 [] [V.heap.size]))):=Lib.hid fun V=>new_ok s.cls 64 V (by unfold okC;exact decide_eq_true ⟨hs.c1,hs.c3,by omega,by omega⟩)
 clear hx hi hp hne hs hL hwb hk4 hm
 go_enter Tryz.func143,Tryz.ntmps143
 go_upto_region 4 with (first
  | (go_at_call 188;go_must (refine CC.out.mono ?_;rintro e w1 ⟨v,rfl,u,rfl,hfr⟩;obtain⟨ao,cp,rfl,-,hcs⟩:=hfr.1.shape;have HFR:=Lib.hid hfr;have HCS:=Lib.hid hcs;rw[HN.out];clear hfr hcs CC))
  | (go_at_call 113;go_must (refine(CN.out _).mono ?_;rintro e w2 ⟨rfl,hf,hch⟩;have HF2:=Lib.hid hf;have HCH:=Lib.hid hch;clear hf hch CN)))
 have HF02:Hid (Frm [] w w2):=Lib.hid (HFR.out.2.1.trans HF2.out)
 obtain⟨cb,hcb⟩:∃ cb,w1.heap.size=cb:=⟨_,rfl⟩
 have HCB:Hid (w.heap.size≤cb):=Lib.hid (by rw[← hcb];exact HFR.out.2.1.size)
 rw[hcb] at HCH ⊢
 have HB1:=Lib.hid hcb
 clear hcb
 go_loopw [29] (fun s29 wr=>∃ (k:Nat) (F:List Nat),s29=.int .i64 k∧k≤m∧Chn wr cb s.cls 64 (L.take k) F∧Frm [] w1 wr∧∀ y∈F,cb≤y) (fun s29 _=>m - (intOf s29).toNat)
 case atStart=>exact⟨0,_,rfl,Nat.zero_le _,HCH.out,HF2.out,by simp⟩
 case round =>
  obtain⟨k,F,rfl,hk,hch,hf,hF⟩:=hrel
  have HC:=Lib.hid hch;have HF:=Lib.hid hf;have HFy:=Lib.hid hF
  clear hch hf hF
  by_cases hlt:k < m
  ·obtain⟨b,hb⟩:∃ b,L[k]?=some b:=⟨_,List.getElem?_eq_getElem (by rw[HN.out];exact hlt)⟩
   obtain⟨g,hg,cg⟩:=HCS.out k b hb
   subst hg
   have cg1:=HF.out.keep cg
   have hsz:=HM.out.2 b (List.mem_of_getElem? hb)
   have CP:=Lib.hid (put_any cb s.cls 64 (L.take k) F b wr HC.out hsz.1 hsz.2 (by rw[List.length_take];have:=HM.out.1;omega))
   rw[(take_snoc' hb).1.symm] at CP
   have hlt':(k:Int) < (m:Int):=by omega
   have hm4:=HM.out.1
   clear hb cg hsz
   go_wp2_with (first
    | (go_at_call 67;go_must (refine CP.out.mono ?_;rintro e w3 ⟨rfl,F',hc,hf,hF⟩;have HC3:=Lib.hid hc;have HF3:=Lib.hid hf;have HFy3:=Lib.hid hF;clear hc hf hF CP)))
   go_roundw
   case rel =>
    refine⟨k + 1,F',by go_num,hlt,HC3.out,HF.out.then HF3.out (fun y hy=>.inr ?_),fun y hy=>?_⟩
    ·have:=HFy.out y hy;have:=HB1.out;omega
    ·rcases HFy3.out y hy with h | h
     ·exact HFy.out y h
     ·have:=HF.out.size;have:=HB1.out;omega
   case measure=>simp[intOf];omega
  ·obtain rfl:k=m:=by omega
   have hge:¬ (k:Int) < (k:Int):=by omega
   have HC9:Hid (Chn wr cb s.cls 64 L F):=Lib.hid (by have:=HC.out;rwa [List.take_of_length_le (by rw[HN.out];exact Nat.le_refl _)] at this)
   have CH:=Lib.hid (choose_any cb s.cls 64 L F wr HC9.out)
   go_wp2_with (first
    | (go_at_call 123;go_must (refine CH.out.mono ?_;rintro e w4 ⟨v,rfl,bl,bc,sv,rfl,hcr,hf,-⟩;have HCR:=Lib.hid hcr;have HF4:=Lib.hid hf;clear hcr hf CH)))
   go_ret
   exact⟨_,rfl,bl,bc,cb,sv,rfl,HCR.out,⟨F,HC9.out.frm HF4.out (by simp)⟩,HFR.out.2.1.trans (HF.out.trans HF4.out)⟩
end Go.Proofs.YtohfkhjlnlahdaaGreat
namespace Go.Proofs.YtohfkhjlnlahdaaGreat
open Go.RowKit Go.BigFrame Go.Maps
def ndC1 (d:Nd × Nat):List Value:=[.pointer (some ⟨d.2,0,none⟩),.int .i64 d.1.par,.int .i64 d.1.mv.kind,.int .i64 d.1.mv.role,.int .i64 d.1.mv.step,.int .i64 d.1.mv.place,.int .i64 d.1.lvl]
abbrev ndV (d:Nd × Nat):Value:=.agg #[.pointer (some ⟨d.2,0,none⟩),.int .i64 d.1.par,.int .i64 d.1.mv.kind,.int .i64 d.1.mv.role,.int .i64 d.1.mv.step,.int .i64 d.1.mv.place,.int .i64 d.1.lvl]
def ndC (N:List (Nd × Nat)):List Value:=N.flatMap ndC1
theorem ndC_length (N:List (Nd × Nat)):(ndC N).length=N.length * 7:=by
 induction N with
 | nil=>rfl
 | cons d N ih=>unfold ndC at ih ⊢;rw[List.flatMap_cons,List.length_append,ih];simp[ndC1];omega
theorem ndC_append (A B:List (Nd × Nat)):ndC (A ++ B)=ndC A ++ ndC B:=by unfold ndC;rw[List.flatMap_append]
theorem ndC_one (d:Nd × Nat):ndC [d]=ndC1 d:=by unfold ndC;simp
theorem ndC_at {N:List (Nd × Nat)}:∀ {i:Nat} {d:Nd × Nat},N[i]?=some d→∀ j,j < 7→(ndC N)[i * 7 + j]?=(ndC1 d)[j]?:=by
 induction N with
 | nil=>intro i d h;simp at h
 | cons a N ih =>
   intro i d h j hj
   have e:ndC (a :: N)=ndC1 a ++ ndC N:=rfl
   have h7:(ndC1 a).length=7:=rfl
   rw[e]
   cases i with
   | zero=>simp at h;subst h;rw[List.getElem?_append_left (by omega)];congr 1;omega
   | succ i=>rw[List.getElem?_append_right (by omega),h7,show (i + 1) * 7 + j - 7=i * 7 + j by omega];exact ih (by simpa using h) j hj
structure NdAt (W:World) (b o:Nat) (d:Nd × Nat):Prop where
 c0:W.cell? ⟨b,o,none⟩=some (.pointer (some ⟨d.2,0,none⟩))
 c1:W.cell? ⟨b,o + 1,none⟩=some (.int .i64 d.1.par)
 c2:W.cell? ⟨b,o + 2,none⟩=some (.int .i64 d.1.mv.kind)
 c3:W.cell? ⟨b,o + 3,none⟩=some (.int .i64 d.1.mv.role)
 c4:W.cell? ⟨b,o + 4,none⟩=some (.int .i64 d.1.mv.step)
 c5:W.cell? ⟨b,o + 5,none⟩=some (.int .i64 d.1.mv.place)
 c6:W.cell? ⟨b,o + 6,none⟩=some (.int .i64 d.1.lvl)
theorem NdAt.frm {W V:World} {b o:Nat} {d:Nd × Nat} (h:NdAt W b o d) (hf:Frm [] W V):NdAt V b o d:=⟨hf.keep h.c0,hf.keep h.c1,hf.keep h.c2,hf.keep h.c3,hf.keep h.c4,hf.keep h.c5,hf.keep h.c6⟩
theorem nd_arr {W:World} {base:Nat} {v:Value} {N:List (Nd × Nat)} (h:W.ownsRow base 216 7 v N.length (ndC N)):Arr 7 NdAt W v N:=by
 obtain⟨ao,cap,rfl⟩:=own_shape h
 refine⟨ao,cap,rfl,fun i d hd=>?_⟩
 have hl:=lt_of_some hd
 obtain⟨g,c,cur,e,-,-⟩:=own_block h (by omega)
 cases e
 have hc:=fun j hj=>World.ownsRow.cellAt h j hj
 have a:=ndC_at hd
 have hlen:=ndC_length N
 refine⟨g,0,rfl,?_⟩
 rw[Nat.zero_add]
 have k:∀ j u,j < 7→(ndC1 d)[j]?=some u→W.cell? ⟨g,i * 7 + j,none⟩=some u:=fun j u hj hu=>(hc _ (by omega)).trans ((a j hj).trans hu)
 exact⟨k 0 _ (by omega) rfl,k 1 _ (by omega) rfl,k 2 _ (by omega) rfl,k 3 _ (by omega) rfl,k 4 _ (by omega) rfl,k 5 _ (by omega) rfl,k 6 _ (by omega) rfl⟩
def findP (s:SesD) (N:List Nd) (k:List UInt8):Option Nat:=N.findIdx? fun d=>decide (keyP s d.st=k)
def keyF (s:SesD) (N:List Nd):Lit→Option Value
 | .string k=>(findP s N k).map fun i=>.int .i64 (i:Nat)
 | _=>none
theorem findP_none {s:SesD} {N:List Nd} {k:List UInt8}:(findP s N k).isSome=hasK s N k:=by
 unfold findP hasK
 rw[List.findIdx?_isSome]
theorem keyF_nil (s:SesD):keyF s []=fun _=>none:=by
 funext k
 cases k <;> rfl
theorem keyF_snoc {s:SesD} {N:List Nd} {d:Nd} (h:hasK s N (keyP s d.st)=false):keyF s (N ++ [d])=updL (keyF s N) (.string (keyP s d.st)) (some (.int .i64 (N.length:Nat))):=by
 funext k
 by_cases e:k=.string (keyP s d.st)
 ·subst e
  rw[updL_same]
  have h0:findP s N (keyP s d.st)=none:=by rw[← Option.not_isSome_iff_eq_none,findP_none,h];simp
  unfold findP at h0
  simp only[keyF,findP,List.findIdx?_append,h0]
  simp[List.findIdx?_cons]
 ·rw[updL_other _ _ e]
  cases k with
  | string b =>
    have hne:¬ keyP s d.st=b:=fun e'=>e (by rw[e'])
    simp only[keyF,findP,List.findIdx?_append]
    simp[List.findIdx?_cons,hne]
  | _=>rfl
def NdG (W:World) (u:Value):Prop:=(∀ x,u≠.string x)∧(∀ a n c,u≠.slice a n c)∧∀ p,u=.pointer (some ⟨p,0,none⟩)→Ty W p 147
theorem NdG.frm {W V:World} {F:List Nat} {u:Value} (h:NdG W u) (hf:Frm F W V) (hn:∀ p,Ty W p 147→p∉F):NdG V u:=⟨h.1,h.2.1,fun p e=>(h.2.2 p e).frm hf (hn p (h.2.2 p e))⟩
structure SpR (w:World) (s:SesD) (yb:Nat) (lim:Int) (whole:Bool) (qb mb:Nat) (N:List (Nd × Nat)) (W:World):Prop where
 fr:Frm [] w W
 lq:w.heap.size≤qb
 lm:w.heap.size≤mb
 bx:∃ ao cap,W.heap[qb]?=some (.cells #[.int .i64 lim,.bool whole,.slice ao N.length cap,.map (some mb)] 214 (0,0))∧W.ownsRow w.heap.size 216 7 (.slice ao N.length cap) N.length (ndC N)∧RowG (NdG W) 216 (.slice ao N.length cap) W
 mp:MapAt Tryz.prog 9 W (some mb) N.length (keyF s (N.map Prod.fst)) N.length
 st:∀ d∈N,StR W s yb d.2 d.1.st
structure SpO (W:World) (s:SesD) (yb:Nat) (whole:Bool) (pb:Nat) (N:List (Nd × Nat)):Prop where
 out:∃ qb mb lim ao cap,W.heap[pb]?=some (.cells #[.pointer (some ⟨qb,0,none⟩)] 219 (0,0))∧W.heap[qb]?=some (.cells #[.int .i64 lim,.bool whole,.slice ao N.length cap,.map (some mb)] 214 (0,0)) ∧
  Arr 7 NdAt W (.slice ao N.length cap) N∧MapAt Tryz.prog 9 W (some mb) N.length (keyF s (N.map Prod.fst)) N.length
 st:∀ d∈N,StR W s yb d.2 d.1.st
def RowOf (W:World) (qb k:Nat):Prop:=∃ a b v m,W.heap[qb]?=some (.cells #[a,b,v,m] 214 (0,0))∧v.ownBlock=some k
def SpB (W:World) (qb b:Nat):Prop:=FgB W b∧((∃ es c,W.heap[b]?=some (.map es c))∨Ty W b 214∨(Ty W b 216∧RowOf W qb b))
theorem cell_map {W:World} {b o:Nat} {es:Array MapEntry} {c:Nat} (h:W.heap[b]?=some (.map es c)):W.cell? ⟨b,o,none⟩=none:=by simp[World.cell?,h]
section
variable {w W V:World} {s:SesD} {yb qb mb pb:Nat} {lim:Int} {whole:Bool} {N:List (Nd × Nat)}
theorem SpR.frm (h:SpR w s yb lim whole qb mb N W) (hf:Frm [] W V):SpR w s yb lim whole qb mb N V:=by
 obtain⟨ao,cap,h1,h2,h3⟩:=h.bx
 refine⟨h.fr.trans hf,h.lq,h.lm,⟨ao,cap,hf.at h1 (by simp),hf.owns h2 (by simp),fun g cur hg hc u hu=>?_⟩,h.mp.frm hf (by simp),fun d hd=>(h.st d hd).frm hf⟩
 obtain⟨c,hc'⟩:=ownBlock_type h2 hg
 have:=hf.at hc' (by simp)
 rw[this] at hc
 cases hc
 exact(h3 g _ hg hc' u hu).frm hf (by simp)
theorem SpO.frm (h:SpO W s yb whole pb N) (hf:Frm [] W V):SpO V s yb whole pb N:=by
 obtain⟨qb,mb,lim,ao,cap,h1,h2,h3,h4⟩:=h.out
 exact⟨⟨qb,mb,lim,ao,cap,hf.at h1 (by simp),hf.at h2 (by simp),h3.frm fun _ _ _ h=>h.frm hf,h4.frm hf (by simp)⟩,fun d hd=>(h.st d hd).frm hf⟩
theorem SpR.done (h:SpR w s yb lim whole qb mb N W) (hp:W.heap[pb]?=some (.cells #[.pointer (some ⟨qb,0,none⟩)] 219 (0,0))):SpO W s yb whole pb N:=by
 obtain⟨ao,cap,h1,h2,h3⟩:=h.bx
 exact⟨⟨qb,mb,lim,ao,cap,hp,h1,nd_arr h2,h.mp⟩,h.st⟩
theorem SpR.fgm (h:SpR w s yb lim whole qb mb N W):SpB W qb mb:=by
 obtain⟨es,c,hb⟩:=h.mp.block rfl
 exact⟨⟨fun C t e=>(by rw[hb] at e;cases e),fun o x e=>(by rw[cell_map hb] at e;cases e),fun o p e=>(by rw[cell_map hb] at e;cases e),fun o g o' p n c e=>(by rw[cell_map hb] at e;cases e)⟩,.inl ⟨_,_,hb⟩⟩
theorem SpR.fgq (h:SpR w s yb lim whole qb mb N W):SpB W qb qb:=by
 obtain⟨ao,cap,h1,h2,h3⟩:=h.bx
 have c:=fun o=>cell_of h1 o
 refine⟨⟨fun C t e=>?_,fun o x e=>?_,fun o p e=>?_,fun o g o' p n c' e e2=>?_⟩,.inr (.inl ⟨_,h1⟩)⟩
 ·rw[h1] at e;cases e;decide
 ·rw[c] at e
  match o,e with
  | 0,e=>cases e
  | 1,e=>cases e
  | 2,e=>cases e
  | 3,e=>cases e
  | o + 4,e=>simp at e
 ·rw[c] at e
  match o,e with
  | 0,e=>cases e
  | 1,e=>cases e
  | 2,e=>cases e
  | 3,e=>cases e
  | o + 4,e=>simp at e
 ·rw[c] at e
  match o,e with
  | 0,e=>cases e
  | 1,e=>cases e
  | 2,e =>
    cases e
    obtain⟨cu,hcu⟩:=ownBlock_type h2 rfl
    have hu:∃ u∈cu,u=Value.pointer (some ⟨p,0,none⟩):=by
     rw[cell_of hcu] at e2
     exact⟨_,Array.mem_of_getElem? e2,rfl⟩
    obtain⟨u,hu,rfl⟩:=hu
    obtain⟨d,hd⟩:=(h3 g _ rfl hcu _ hu).2.2 p rfl
    intro C t e3
    rw[hd] at e3;cases e3
    decide
  | 3,e=>cases e
  | o + 4,e=>simp at e
theorem SpR.fgr {ao:Option Addr} {cap g:Nat} (h1:W.heap[qb]?=some (.cells #[.int .i64 lim,.bool whole,.slice ao N.length cap,.map (some mb)] 214 (0,0))) (h2:W.ownsRow w.heap.size 216 7 (.slice ao N.length cap) N.length (ndC N)) (h3:RowG (NdG W) 216 (.slice ao N.length cap) W) (hg:(Value.slice ao N.length cap).ownBlock=some g):SpB W qb g:=by
 obtain⟨cu,hcu⟩:=ownBlock_type h2 hg
 have k:∀ o u,W.cell? ⟨g,o,none⟩=some u→NdG W u:=fun o u e=>by
  rw[cell_of hcu] at e
  exact h3 g _ hg hcu u (Array.mem_of_getElem? e)
 refine⟨⟨fun C t e=>?_,fun o x e=>(k o _ e).1 x rfl,fun o p e C t e2=>?_,fun o g o' p n c e=>absurd rfl ((k o _ e).2.1 _ _ _)⟩,.inr (.inr ⟨⟨_,hcu⟩,_,_,_,_,h1,hg⟩)⟩
 ·rw[hcu] at e;cases e;decide
 ·obtain⟨D,hD⟩:=(k o _ e).2.2 p rfl
  rw[hD] at e2;cases e2
  exact⟨by decide,by decide⟩
theorem SpB.at {F:List Nat} (hb:∀ b∈F,SpB W qb b) (hf:Frm F W V) {k:Nat} {C:Array Value} {t:TypeId} (hk:W.heap[k]?=some (.cells C t (0,0))) (h1:t≠214) (h2:t≠216∨¬ RowOf W qb k):V.heap[k]?=some (.cells C t (0,0)):=
 hf.at hk fun hm=>by
  rcases (hb k hm).2 with ⟨es,c,e⟩ | ⟨D,e⟩ | ⟨⟨D,e⟩,e2⟩ <;> rw[hk] at e <;> cases e
  ·exact h1 rfl
  ·rcases h2 with h2 | h2
   ·exact h2 rfl
   ·exact h2 e2
theorem SpB.fg {F:List Nat} (hb:∀ b∈F,SpB W qb b):∀ b∈F,FgB W b:=fun b hm=>(hb b hm).1
theorem SpR.spB {ao:Option Addr} {cap:Nat} (h:SpR w s yb lim whole qb mb N W) (b1:W.heap[qb]?=some (.cells #[.int .i64 lim,.bool whole,.slice ao N.length cap,.map (some mb)] 214 (0,0))) (b2:W.ownsRow w.heap.size 216 7 (.slice ao N.length cap) N.length (ndC N)) (b3:RowG (NdG W) 216 (.slice ao N.length cap) W):∀ b∈mb :: qb :: (Value.slice ao N.length cap).ownBlock.toList,SpB W qb b:=fun b hb=>by
 rcases List.mem_cons.1 hb with rfl | hb
 ·exact h.fgm
 rcases List.mem_cons.1 hb with rfl | hb
 ·exact h.fgq
 rw[Option.mem_toList] at hb
 exact SpR.fgr b1 b2 b3 hb
theorem SpR.add {W1 W2 W3:World} {d:Nd} {sb:Nat} {ao:Option Addr} {cap:Nat} {v':Value} (h:SpR w s yb lim whole qb mb N W) (hs:0 < s.roles.length) (hd:StR W s yb sb d.st) (hk:hasK s (N.map Prod.fst) (keyP s d.st)=false)
  (b1:W.heap[qb]?=some (.cells #[.int .i64 lim,.bool whole,.slice ao N.length cap,.map (some mb)] 214 (0,0))) (b2:W.ownsRow w.heap.size 216 7 (.slice ao N.length cap) N.length (ndC N)) (b3:RowG (NdG W) 216 (.slice ao N.length cap) W)
  (hm:MapAt Tryz.prog 9 W1 (some mb) (N.length + 1) (updL (keyF s (N.map Prod.fst)) (.string (keyP s d.st)) (some (.int .i64 (N.length:Nat)))) (N.length + 1)) (f1:Frm [mb] W W1) (f2:Frm [] W1 W2)
  (hg:W2.grownBy W3 (Value.slice ao N.length cap).ownBlock) (ho:W3.ownsRow w.heap.size 216 7 v' (N.length + 1) (ndC N ++ ndC1 (d,sb))) (hG:RowG (NdG W2) 216 v' W3) :
  SpR w s yb lim whole qb mb (N ++ [(d,sb)]) (W3.setCell ⟨qb,2,none⟩ v')∧Frm (mb :: qb :: (Value.slice ao N.length cap).ownBlock.toList) W (W3.setCell ⟨qb,2,none⟩ v')∧(W3.setCell ⟨qb,2,none⟩ v').heap[qb]?=some (.cells #[.int .i64 lim,.bool whole,v',.map (some mb)] 214 (0,0)):=by
 obtain⟨F,hF⟩:∃ F,F=mb :: qb :: (Value.slice ao N.length cap).ownBlock.toList:=⟨_,rfl⟩
 have hB:∀ b∈F,SpB W qb b:=fun b hb=>h.spB b1 b2 b3 b (by rwa [hF] at hb)
 obtain⟨es,c,hmb⟩:=h.mp.block rfl
 have hne:qb≠mb:=fun e=>by subst e;rw[b1] at hmb;cases hmb
 have hrq:(Value.slice ao N.length cap).ownBlock≠some qb:=fun e=>by
  obtain⟨c,hc⟩:=ownBlock_type b2 e
  rw[b1] at hc;cases hc
 have g1:W2.heap[qb]?=some (.cells #[.int .i64 lim,.bool whole,.slice ao N.length cap,.map (some mb)] 214 (0,0)):=f2.at (f1.at b1 (by simpa using hne)) (by simp)
 have g2:=grown_at hg g1 hrq
 have hv:v'.ownBlock≠some qb:=fun e=>by
  obtain⟨c,hc⟩:=ownBlock_type ho e
  rw[g2] at hc;cases hc
 obtain⟨ao',cap',rfl⟩:=own_shape ho
 obtain⟨W4,hW4⟩:∃ W4,W3.setCell ⟨qb,2,none⟩ (.slice ao' (N.length + 1) cap')=W4:=⟨_,rfl⟩
 have f3:Frm F W W3:=((f1.mono (F':=F) (by rw[hF];simp)).then f2 (by simp)).grown hg fun k hk=>.inl (by rw[hF];simp[hk])
 have f4:Frm F W W4:=by rw[← hW4];exact f3.setCell _ (.inl (by rw[hF];simp)) _
 have hfg:=SpB.fg hB
 have hps:∀ {X:World},Frm F W X→∀ p,Ty W p 147→Ty X p 147:=fun hf p hp=>hp.frm hf fun hm=>by
  obtain⟨D,hD⟩:=hp
  exact FgB.ne hfg hD (by simp[sysT]) hm
 have f34:Frm [qb] W3 W4:=by rw[← hW4];exact(Frm.refl _ _).setCell _ (.inl (by simp)) _
 have g4:W4.heap[qb]?=some (.cells #[.int .i64 lim,.bool whole,.slice ao' (N.length + 1) cap',.map (some mb)] 214 (0,0)):=by rw[← hW4];exact(block_setCell g2 2 _).trans rfl
 have hlen:(N ++ [(d,sb)]).length=N.length + 1:=by simp
 have f2w:Frm F W W2:=(f1.mono (F':=F) (by rw[hF];simp)).then f2 (by simp)
 have hfr0:Frm [] w W4:=h.fr.then f4 fun x hx=>.inr (by
  rw[hF] at hx
  rcases List.mem_cons.1 hx with rfl | hx
  ·exact h.lm
  rcases List.mem_cons.1 hx with rfl | hx
  ·exact h.lq
  rw[Option.mem_toList] at hx
  exact ownBlock_ge b2 hx)
 rw[hW4]
 refine⟨⟨hfr0,h.lq,h.lm,⟨ao',cap',?_,?_,?_⟩,?_,fun e he=>?_⟩,by rw[← hF];exact f4,g4⟩
 ·rw[hlen];exact g4
 ·rw[hlen,ndC_append,ndC_one];exact f34.owns ho (by intro k hk hm;simp at hm;subst hm;exact hv hk)
 ·rw[hlen]
  intro g cur hgk hc u hu
  have hgq:g≠qb:=fun e=>hv (by rw[← e];exact hgk)
  obtain⟨cu,hcu⟩:=ownBlock_type ho hgk
  have hcu4:=f34.at hcu (by simpa using hgq)
  rw[hcu4] at hc
  cases hc
  have hu':=hG g _ hgk hcu u hu
  refine⟨hu'.1,hu'.2.1,fun p e=>?_⟩
  have h2:=hu'.2.2 p e
  by_cases hp:p < W.heap.size
  ·have:Ty W p 147:=by
    obtain⟨D,hD⟩:=h2
    by_cases hpm:p∈F
    ·exfalso
     have hD3:=hD
     rcases (hB p hpm).2 with ⟨es,c,e⟩ | ⟨D',e⟩ | ⟨⟨D',e⟩,-⟩
     ·have hpmb:p=mb:=by
       rw[hF] at hpm
       rcases List.mem_cons.1 hpm with rfl | hpm
       ·rfl
       rcases List.mem_cons.1 hpm with rfl | hpm
       ·rw[b1] at e;cases e
       rw[Option.mem_toList] at hpm
       obtain⟨c,hc⟩:=ownBlock_type b2 hpm
       rw[hc] at e;cases e
      subst hpmb
      obtain⟨es',c',e'⟩:=(hm.frm f2 (by simp)).block rfl
      rw[e'] at hD3;cases hD3
     ·have hpq:p≠mb:=fun e'=>by subst e';rw[hmb] at e;cases e
      rw[f2.at (f1.at e (by simpa using hpq)) (by simp)] at hD3
      cases hD3
     ·have hpq:p≠mb:=fun e'=>by subst e';rw[hmb] at e;cases e
      rw[f2.at (f1.at e (by simpa using hpq)) (by simp)] at hD3
      cases hD3
    ·have:=f2w.block p hp hpm
     rw[this] at hD
     exact⟨D,hD⟩
   exact hps f4 p this
  ·obtain⟨D,hD⟩:=h2
   have hpr:(Value.slice ao N.length cap).ownBlock≠some p:=fun e=>by
    have:=ownBlock_lt b2 e;omega
   have hD3:=grown_at hg hD hpr
   have hpq:p≠qb:=fun e=>by subst e;rw[g2] at hD3;cases hD3
   exact⟨D,f34.at hD3 (by simpa using hpq)⟩
 ·rw[hlen,List.map_append,List.map_cons,List.map_nil,keyF_snoc hk,List.length_map]
  refine hm.frm (F:=qb :: (Value.slice ao N.length cap).ownBlock.toList) ?_ ?_
  ·rw[← hW4]
   exact((f2.mono (F':=qb :: (Value.slice ao N.length cap).ownBlock.toList) (by simp)).grown hg fun k hk=>.inl (by simp[hk])).setCell _ (.inl (by simp)) _
  ·intro b hb hm'
   cases hb
   rcases List.mem_cons.1 hm' with e | hm'
   ·exact hne e.symm
   ·rw[Option.mem_toList] at hm'
    obtain⟨c,hc⟩:=ownBlock_type b2 hm'
    rw[hmb] at hc;cases hc
 ·rcases List.mem_append.1 he with he | he
  ·exact(h.st e he).fg hs hfg f4
  ·rw[List.mem_singleton] at he;subst he
   exact hd.fg hs hfg f4
end
end Go.Proofs.YtohfkhjlnlahdaaGreat
namespace Go.Proofs.YtohfkhjlnlahdaaGreat
open Go.RowKit Go.BigFrame Go.Maps
abbrev ndZ:Value:=.agg #[.pointer none,.int .i64 0,.int .i64 0,.int .i64 0,.int .i64 0,.int .i64 0,.int .i64 0]
section
variable {W V:World} {s:SesD} {yb pb:Nat} {whole:Bool} {N:List (Nd × Nat)} {po:Option Addr}
theorem xNone_any (h:SpO W s yb whole pb N):Calls Tryz.prog 120 #[.pointer (some ⟨pb,0,none⟩)] W (Ret (.bool false) (W=·)):=by
 obtain⟨qb,mb,lim,ao,cap,h1,-⟩:=h.out
 have c0:=cell_of h1 0
 clear h1 h
 go_enter Tryz.func120,Tryz.ntmps120
 go_wp2
 go_ret
 exact⟨rfl,rfl⟩
set_option maxRecDepth 100000 in
theorem xLen_any (h:SpO W s yb whole pb N):Calls Tryz.prog 95 #[.pointer (some ⟨pb,0,none⟩)] W (Ret (.int .i64 (N.length:Nat)) (Frm [] W)):=by
 have C1:=Lib.hid (xNone_any h)
 obtain⟨qb,mb,lim,ao,cap,h1,h2,-⟩:=h.out
 have c0:=cell_of h1 0
 have c2:=cell_of h2 2
 clear h1 h2 h
 go_enter Tryz.func95,Tryz.ntmps95
 go_wp2_with (first
  | (go_at_call 120;go_must (refine C1.out.mono ?_;rintro e w' ⟨rfl,rfl⟩)))
 go_ret
 exact⟨rfl,Frm.refl _ _⟩
theorem one_nd (p:Option Addr) (a b c d e f:Int):(#[.pointer p,.int .i64 a,.int .i64 b,.int .i64 c,.int .i64 d,.int .i64 e,.int .i64 f]:Array Value).all (·.oneCell')=true:=by
 rw[← Array.all_toList];rfl
theorem Tryz.infoNode:(Tryz.prog.info? 216).map (·.size)=some 7:=by kernel_rfl
set_option maxRecDepth 100000 in
theorem xNode_in (h:SpO W s yb whole pb N) {i:Nat} {d:Nd × Nat} (hd:N[i]?=some d) (h5:N.length≤1000000):Calls Tryz.prog 118 #[.pointer (some ⟨pb,0,none⟩),.int .i64 i] W (Ret (.tuple #[ndV d,.int .i64 0]) (Frm [] W)):=by
 have C1:Hid (∀ V,Frm [] W V→Calls Tryz.prog 120 #[.pointer (some ⟨pb,0,none⟩)] V (Ret (.bool false) (V=·))):=Lib.hid fun V hV=>xNone_any (h.frm hV)
 obtain⟨qb,mb,lim,ao,cap,h1,h2,h3,-⟩:=h.out
 obtain⟨b,o,rfl,hn⟩:=h3.get hd
 have hl:=lt_of_some hd
 have hl':(i:Int) < (N.length:Int):=by omega
 have hge:decide ((N.length:Int)≤(i:Int))=false:=decide_eq_false (by omega)
 have c0:=cell_of h1 0
 have c2:=cell_of h2 2
 have f0:=(Frm.refl [] W).alloc (.cells #[.pointer none,.int .i64 0,.int .i64 0,.int .i64 0,.int .i64 0,.int .i64 0,.int .i64 0] 216)
 have HA:=Lib.hid (heap_alloc_new W (.cells #[.pointer none,.int .i64 0,.int .i64 0,.int .i64 0,.int .i64 0,.int .i64 0,.int .i64 0] 216))
 obtain⟨W0,hW0⟩:∃ W0,W.alloc (.cells #[.pointer none,.int .i64 0,.int .i64 0,.int .i64 0,.int .i64 0,.int .i64 0,.int .i64 0] 216)=W0:=⟨_,rfl⟩
 rw[hW0] at f0 HA
 have C2:=Lib.hid (C1.out _ f0)
 have d0:W0.cell? ⟨pb,0,none⟩=some (.pointer (some ⟨qb,0,none⟩)):=f0.keep c0
 have d2:W0.cell? ⟨qb,2,none⟩=some (.slice (some ⟨b,o,none⟩) N.length cap):=f0.keep c2
 obtain⟨n0,n1,n2,n3,n4,n5,n6⟩:=hn.frm f0
 have HE:=Lib.hid hW0;have HF0:=Lib.hid f0
 clear h1 h2 h3 h hd c0 c2 C1 f0 hW0
 go_enter Tryz.func118,Tryz.ntmps118
 go_upto_region 1 with fail
 rw[HE.out]
 go_upto_region 5 with (first
  | (go_at_call 120;go_must (refine C2.out.mono ?_;rintro e w' ⟨rfl,rfl⟩)))
 go_wp2_with (first
  | (refine wpList_store_row rfl 216 _ _ rfl _ _ _ 216 rfl rfl HA.out rfl Tryz.infoNode (one_nd _ _ _ _ _ _ _) ?_;intro w2 hb2 hf2;have HB2:=Lib.hid hb2;have HF2:=Lib.hid hf2;clear hb2 hf2 n0 n1 n2 n3 n4 n5 n6;have r0:=cell_of HB2.out 0;have r1:=cell_of HB2.out 1;have r2:=cell_of HB2.out 2;have r3:=cell_of HB2.out 3;have r4:=cell_of HB2.out 4;have r5:=cell_of HB2.out 5;have r6:=cell_of HB2.out 6))
 refine bodyPost_ret (v:=.tuple #[ndV d,.int .i64 0]) (by simp[results,Tryz.results118,go_sem,r0,r1,r2,r3,r4,r5,r6]) rfl ?_
 exact⟨rfl,HF0.out.then HF2.out (by intro k hk;simp at hk;subst hk;exact .inr (Nat.le_refl _))⟩
theorem Tryz.zeroInt (w:World):(zeroValue 3).run Tryz.prog w=.ok (.int .i64 0) w:=
 (zero_of_info (show (Tryz.prog.info? 3).map (fun i=>(i.zero,i.size))=some (some (.int .i64 0),1) by kernel_rfl)).1 w
theorem Tryz.keyedS:Keyed Tryz.prog 9:=string_keyed Tryz.underlying9
theorem keyF_get (s:SesD) (N:List Nd) (k:List UInt8):(keyF s N (.string k)).getD (.int .i64 0)=.int .i64 ((findP s N k).getD 0:Nat)∧(keyF s N (.string k)).isSome=(findP s N k).isSome:=by
 have e:keyF s N (.string k)=(findP s N k).map fun i=>.int .i64 (i:Nat):=rfl
 rw[e]
 cases findP s N k <;> exact⟨rfl,rfl⟩
theorem SpO.look {W V:World} {mb:Nat} {n:Nat} (h4:MapAt Tryz.prog 9 W (some mb) n (keyF s (N.map Prod.fst)) n) (hf:Frm [] W V) (k:ByteArray) (hk:k.size≤maxLen) :
  (Instr.lookup 211 (.map (some mb)) (.string k) true).run Tryz.prog V=.ok (.tuple #[.int .i64 ((findP s (N.map Prod.fst) k.data.toList).getD 0:Nat),.bool (findP s (N.map Prod.fst) k.data.toList).isSome]) V:=by
 have h:=(h4.frm hf (by simp)).look_ok Tryz.keyedS Tryz.underlying211 (Tryz.zeroInt V) (WideMaps.keyOf_string_mk Tryz.underlying9 hk)
 obtain⟨e1,e2⟩:=keyF_get s (N.map Prod.fst) k.data.toList
 rw[e1,e2] at h
 exact h
end
end Go.Proofs.YtohfkhjlnlahdaaGreat
namespace Go.Proofs.YtohfkhjlnlahdaaGreat
open Go.RowKit Go.BigFrame Go.Maps
section
variable {F:Fence} {n:Nat} {P:Program} {b:Frame} {a:Act} {k:List Item} {cs:List Frame} {w:World} {Q:Exit→Act→World→Prop}
theorem stepR_scope {c:Code}:step P (lone (b.atR a (.code (.scope c) :: k)) cs w)=.next (lone (b.atR a (.code c :: .inScope c :: k)) cs w):=
 step_lone_go (by simp[stepG,stepG.exec,Frame.atR])
theorem stepR_inScope {c:Code}:step P (lone (b.atR a (.inScope c :: k)) cs w)=.next (lone (b.atR a k) cs w):=
 step_lone_go (by simp[stepG,stepG.exec,Frame.atR])
theorem wpIn_scope_straight {c:Code} (h:c.wpIn F n P (Exit.noGoto Q) a w):(Code.scope c).wpIn F n P Q a w:=by
 intro b k cs hro hb hr
 have h0:(lone (b.atR a (.code (.scope c) :: k)) cs w).fenced P F:=fenced_calm hb hr rfl
 obtain⟨e,a₁,w₁,hq,harr⟩:=h b (.inScope c :: k) cs hro hb hr
 cases e with
 | normal=>exact⟨.normal,a₁,w₁,hq,.head h0 stepR_scope (StepsIn.trans harr (.one (fenced_calm hb hr rfl) stepR_inScope))⟩
 | exit id =>
   have hx:exitTo id (.inScope c :: k)=exitTo id k:=by simp[exitTo]
   exact⟨_,a₁,w₁,hq,fun k' hk=>.head h0 stepR_scope (harr.1 k' (by rw[hx];exact hk)),
    fun hr' hk=>let ⟨k₁,h1,h2⟩:=harr.2 hr' (by rw[hx];exact hk);⟨k₁,h1,.head h0 stepR_scope h2⟩⟩
 | goto l=>exact hq.elim
 | ret=>exact⟨_,a₁,w₁,hq,.of_steps (.one h0 stepR_scope) harr⟩
 | panic ch=>exact⟨_,a₁,w₁,hq,.of_steps (.one h0 stepR_scope) harr⟩
 | outgrown=>exact⟨_,a₁,w₁,hq,.of_steps (.one h0 stepR_scope) harr⟩
end
def StsTo (w:World) (po:Option Addr) (v:Value) (w':World):Prop:=∃ bx,v=.func (.func 151) #[] #[.pointer (some ⟨bx,0,none⟩)]∧w'.heap[bx]?=some (.cells #[.pointer po] 122 (0,0))∧Frm [] w w'
theorem xStates_any (po:Option Addr) (w:World):Calls Tryz.prog 91 #[.pointer po] w (RetV (StsTo w po)):=by
 go_enter Tryz.func91,Tryz.ntmps91
 go_wp2
 go_ret
 exact⟨_,rfl,_,rfl,heap_alloc_new _ _,(Frm.refl _ _).alloc _⟩
structure StI (B:Nat) (s:SesD) (yb pb:Nat) (whole:Bool) (N:List (Nd × Nat)) (W:World):Prop where
 b:W.heap[B]?=some (.cells #[.pointer (some ⟨pb,0,none⟩)] 122 (0,0))
 sp:SpO W s yb whole pb N
set_option maxHeartbeats 2000000 in
set_option maxRecDepth 100000 in
theorem st_iter (B yb pb:Nat) (s:SesD) (whole:Bool) (N:List (Nd × Nat)) (hL:N.length≤1000000) :
  Iter Fence.wide 2 Tryz.prog 151 #[.pointer (some ⟨B,0,none⟩)] (fun e:Nat × Nat=>#[.int .i64 e.1,.pointer (some ⟨e.2,0,none⟩)]) (StI B s yb pb whole N) (numL (N.map Prod.snd)):=by
 intro l J Jx sJ sJx hJR hY W h0
 have HJ:=Lib.hid sJ;have HJR:=Lib.hid hJR;have HY:=Lib.hid hY
 clear sJ sJx hJR hY
 have hr:=HJR.out _ _ h0
 have c0:=cell_of hr.b 0
 have CL:=Lib.hid (xLen_any hr.sp)
 have H0:=Lib.hid h0
 have HNL:Hid ((numL (N.map Prod.snd)).length=N.length):=Lib.hid (by rw[numL_length,List.length_map])
 clear hr h0
 refine callsIn_of_wp Tryz.func151 rfl trivial ?_ rfl
 simp only[Tryz.ntmps151,List.size_toArray,List.length_cons,List.length_nil,Nat.reduceAdd,Nat.reduceSub,Array.replicate_succ,Array.replicate_zero,List.push_toArray,List.append_toArray,List.nil_append,List.cons_append]
 refine wpIn_scope_straight (wpIn_seq (wpIn_label ?_))
 gi_wp2_with (refine⟨trivial,?_⟩;gi_at_call 95;go_must (refine(callsIn_wide.2 CL.out).mono ?_;rintro e w1 ⟨rfl,hf⟩;have HF1:=Lib.hid hf;clear hf CL))
 gi_loopw [6] (fun s wr=>∃ k:Nat,s=.int .i64 k∧k≤N.length∧J ((numL (N.map Prod.snd)).take k) wr) (fun s _=>N.length - (intOf s).toNat)
 case atStart=>exact⟨0,rfl,Nat.zero_le _,HJ.out _ _ _ H0.out HF1.out⟩
 case round =>
  obtain⟨k,rfl,hk,hj⟩:=hrel
  have HJ1:=Lib.hid hj
  clear hj H0 c0
  by_cases hlt:k < N.length
  ·obtain⟨x,hx⟩:∃ x,N[k]?=some x:=⟨_,List.getElem?_eq_getElem hlt⟩
   have hr:=HJR.out _ _ HJ1.out
   have c0:=cell_of hr.b 0
   obtain⟨qb,mb,lim,ao,cap,q1,q2,q3,-⟩:=hr.sp.out
   have p0:=cell_of q1 0
   have p2:=cell_of q2 2
   obtain⟨b,o,rfl,hn⟩:=q3.get hx
   have n0:=hn.c0
   have hnx:(numL (N.map Prod.snd))[k]?=some (k,x.2):=by rw[numL_at,List.getElem?_map,hx];rfl
   have HX:=Lib.hid hnx
   have hJ':=HJ1.out
   clear hr hx hnx q1 q2 q3 hn
   obtain⟨fn,tmps,assign,body,hy,hR⟩:=HY.out ((numL (N.map Prod.snd)).take k) (k,x.2) ((numL (N.map Prod.snd)).drop (k + 1)) _ (take_snoc' HX.out).2 hJ'
   have HRR:=Lib.hid hR
   clear hJ' hR
   have hlt':(k:Int) < N.length:=by omega
   gi_wp2
   refine HRR.out.mono ?_
   rintro e W3 (⟨rfl,hJ3⟩ | ⟨rfl,hJx3⟩)
   ·have HJ3:=Lib.hid hJ3
    clear hJ3
    gi_wp2
    go_roundw
    case rel=>exact⟨k + 1,by go_num,hlt,by rw[(take_snoc' HX.out).1];exact HJ3.out⟩
    case measure=>simp[intOf];omega
   ·have HJ3:=Lib.hid hJx3
    clear hJx3
    gi_wp2
    rw[Exit.noGoto_normal]
    change bodyPost Tryz.prog Tryz.f151 (fun e W'=>(∃ v,e=Ending.returned v)∧(J (numL (N.map Prod.snd)) W'∨∃ pre x rest,numL (N.map Prod.snd)=pre ++ x :: rest∧Jx (pre ++ [x]) W')) Exit.normal _ _
    go_end0
    exact⟨⟨_,rfl⟩,.inr ⟨_,_,_,(take_snoc' HX.out).2,HJ3.out⟩⟩
  ·have hge:¬ (k:Int) < N.length:=by omega
   gi_wp2
   try rw[Exit.noGoto_normal]
   go_end0
   refine⟨⟨_,rfl⟩,.inl ?_⟩
   have:=HJ1.out
   rwa [List.take_of_length_le (by rw[HNL.out];omega)] at this
end Go.Proofs.YtohfkhjlnlahdaaGreat
namespace Go.Proofs.YtohfkhjlnlahdaaGreat
open Go.RowKit Go.BigFrame Go.Maps
def fromL (L:List StpD) (st:ByteArray):List (Nat × StpD):=(numL L).filter fun e=>decide (e.2.frm=st)
def fromK (L:List StpD) (st:ByteArray) (k:Nat):List (Nat × StpD):=((numL L).take k).filter fun e=>decide (e.2.frm=st)
section
variable {L:List StpD} {st:ByteArray} {k:Nat} {x:StpD}
theorem fromK_yes (h:L[k]?=some x) (hx:x.frm=st):fromK L st (k + 1)=fromK L st k ++ [(k,x)]∧∃ rest,fromL L st=fromK L st k ++ (k,x) :: rest:=by
 have hn:(numL L)[k]?=some (k,x):=by rw[numL_at,h];rfl
 obtain⟨h1,h2⟩:=take_snoc' hn
 have hd:decide (x.frm=st)=true:=decide_eq_true hx
 refine⟨?_,((numL L).drop (k + 1)).filter fun e=>decide (e.2.frm=st),?_⟩
 ·unfold fromK;rw[h1,List.filter_append];simp[hd]
 ·unfold fromL fromK
  conv=>lhs;rw[h2]
  rw[List.filter_append];simp[hd]
theorem fromK_no (h:L[k]?=some x) (hx:x.frm≠st):fromK L st (k + 1)=fromK L st k:=by
 have hn:(numL L)[k]?=some (k,x):=by rw[numL_at,h];rfl
 obtain⟨h1,-⟩:=take_snoc' hn
 have hd:decide (x.frm=st)=false:=decide_eq_false hx
 unfold fromK;rw[h1,List.filter_append];simp[hd]
theorem fromK_all:fromK L st L.length=fromL L st:=by unfold fromK fromL;rw[List.take_of_length_le (by rw[numL_length];exact Nat.le_refl _)]
theorem mem_fromL {i:Nat}:(i,x)∈fromL L st↔L[i]?=some x∧x.frm=st:=by
 unfold fromL
 rw[List.mem_filter]
 constructor
 ·rintro⟨h1,h2⟩
  obtain⟨j,hj⟩:=List.getElem?_of_mem h1
  rw[numL_at] at hj
  cases hz:L[j]? with
  | none=>rw[hz] at hj;simp at hj
  | some z =>
    rw[hz] at hj
    simp at hj
    obtain⟨rfl,rfl⟩:=hj
    exact⟨hz,of_decide_eq_true h2⟩
 ·rintro⟨h1,h2⟩
  exact⟨List.mem_of_getElem? (i:=i) (by rw[numL_at,h1];rfl),decide_eq_true h2⟩
end
structure FrI (B1 B2:Nat) (v:Value) (L:List StpD) (st:ByteArray) (W:World):Prop where
 b1:W.heap[B1]?=some (.cells #[v] 85 (0,0))
 b2:W.heap[B2]?=some (.cells #[.string st] 9 (0,0))
 a:Arr 9 SpAt W v L
set_option maxHeartbeats 2000000 in
set_option maxRecDepth 100000 in
theorem from_iter (B1 B2:Nat) (v:Value) (L:List StpD) (st:ByteArray) (hL:L.length≤1000000) :
  Iter Fence.wide 2 Tryz.prog 189 #[.pointer (some ⟨B1,0,none⟩),.pointer (some ⟨B2,0,none⟩)] (fun e:Nat × StpD=>#[.int .i64 e.1,stpV e.2]) (FrI B1 B2 v L st) (fromL L st):=by
 intro l J Jx sJ sJx hJR hY W h0
 have HJ:=Lib.hid sJ;have HJR:=Lib.hid hJR;have HY:=Lib.hid hY
 clear sJ sJx hJR hY
 have hr:=HJR.out _ _ h0
 have c0:=cell_of hr.b1 0
 obtain⟨ao,cap,rfl⟩:=hr.a.shape
 have H0:=Lib.hid h0
 clear hr h0
 refine callsIn_of_wp Tryz.func189 rfl trivial ?_ rfl
 simp only[Tryz.ntmps189,List.size_toArray,List.length_cons,List.length_nil,Nat.reduceAdd,Nat.reduceSub,Array.replicate_succ,Array.replicate_zero,List.push_toArray,List.append_toArray,List.nil_append,List.cons_append]
 refine wpIn_scope_straight (wpIn_seq (wpIn_label ?_))
 gi_wp2
 gi_loopw [8] (fun s wr=>∃ k:Nat,s=.int .i64 k∧k≤L.length∧J (fromK L st k) wr) (fun s _=>L.length - (intOf s).toNat)
 case atStart=>exact⟨0,rfl,Nat.zero_le _,H0.out⟩
 case round =>
  obtain⟨k,rfl,hk,hj⟩:=hrel
  have HJ1:=Lib.hid hj
  clear hj H0 c0
  by_cases hlt:k < L.length
  ·obtain⟨x,hx⟩:∃ x,L[k]?=some x:=⟨_,List.getElem?_eq_getElem hlt⟩
   have hr:=HJR.out _ _ HJ1.out
   obtain⟨b,o,c',e,hsp⟩:=hr.a.at hx
   cases e
   obtain⟨g0,g1,g2,g3,g4,g5,g6,g7,g8⟩:=hsp
   have HX:=Lib.hid hx
   have hst:wr.cell? ⟨B2,0,none⟩=some (.string st):=cell_of hr.b2 0
   have hlt':(k:Int) < L.length:=by omega
   have HF1:Hid (Frm [] wr (wr.alloc (.cells #[.string x.frm,.string x.to,.int .i64 x.kind,.string x.msg,.string x.peer,.string x.ctr,.int .i64 x.low,.int .i64 x.high,.int .i64 x.add] 137))):=Lib.hid ((Frm.refl _ _).alloc _)
   have hst1:=HF1.out.keep hst
   clear hr hx
   by_cases hm:x.frm=st
   ·obtain⟨rest,hsp⟩:=(fromK_yes HX.out hm).2
    obtain⟨fn,tmps,assign,body,hy,hR⟩:=HY.out _ _ _ _ hsp (HJ.out _ _ _ HJ1.out HF1.out)
    have HRR:=Lib.hid hR;have HSP:=Lib.hid hsp;have HM:=Lib.hid hm
    have hbe:(x.frm.toList == st.toList)=true:=by rw[hm];simp
    clear hR hsp hm
    gi_wp2
    refine HRR.out.mono ?_
    rintro e W3 (⟨rfl,hJ3⟩ | ⟨rfl,hJx3⟩)
    ·have HJ3:=Lib.hid hJ3
     clear hJ3
     gi_wp2
     go_roundw
     case rel=>exact⟨k + 1,by go_num,hlt,by rw[(fromK_yes HX.out HM.out).1];exact HJ3.out⟩
     case measure=>simp[intOf];omega
    ·have HJ3:=Lib.hid hJx3
     clear hJx3
     gi_wp2
     rw[Exit.noGoto_normal]
     change bodyPost Tryz.prog Tryz.f189 (fun e W'=>(∃ v,e=Ending.returned v)∧(J (fromL L st) W'∨∃ pre x rest,fromL L st=pre ++ x :: rest∧Jx (pre ++ [x]) W')) Exit.normal _ _
     go_end0
     exact⟨⟨_,rfl⟩,.inr ⟨_,_,_,HSP.out,HJ3.out⟩⟩
   ·have hbe:(x.frm.toList == st.toList)=false:=str_ne hm
    have HJ2:Hid (J (fromK L st (k + 1)) (wr.alloc (.cells #[.string x.frm,.string x.to,.int .i64 x.kind,.string x.msg,.string x.peer,.string x.ctr,.int .i64 x.low,.int .i64 x.high,.int .i64 x.add] 137))):=Lib.hid (by
     rw[fromK_no HX.out hm]
     exact HJ.out _ _ _ HJ1.out HF1.out)
    clear hm
    gi_wp2
    refine⟨(fun f hf=>by cases hf),?_⟩
    gi_wp2
    go_roundw
    case rel=>exact⟨k + 1,by go_num,hlt,HJ2.out⟩
    case measure=>simp[intOf];omega
  ·obtain rfl:k=L.length:=by omega
   have hge:¬ (L.length:Int) < L.length:=by omega
   gi_wp2
   try rw[Exit.noGoto_normal]
   go_end0
   exact⟨⟨_,rfl⟩,.inl (by have:=HJ1.out;rwa [fromK_all] at this)⟩
theorem rFrom_any (r:RolD) (st:ByteArray) (a b c d:Value) (w:World) (h:Arr 9 SpAt w d r.steps) (hl:r.steps.length≤100000):Calls Tryz.prog 144 #[.agg #[a,b,c,d],.string st] w (RetV fun u w'=>∃ B1 B2 sv,u=.func (.func 189) #[] #[.pointer (some ⟨B1,0,none⟩),.pointer (some ⟨B2,0,none⟩)]∧FrI B1 B2 sv r.steps st w'∧Frm [] w w'):=by
 obtain⟨ao,cap,rfl⟩:=h.shape
 have HA:=Lib.hid h
 obtain⟨n,hn⟩:∃ n,r.steps.length=n:=⟨_,rfl⟩
 have HN:=Lib.hid hn
 rw[hn] at HA ⊢
 have hf0:Frm [] w ((w.alloc (.cells #[a,b,c,.slice ao n cap] 87)).alloc (.cells #[.string st] 9)):=((Frm.refl _ _).alloc _).alloc _
 obtain⟨W1,hW1⟩:∃ W,((w.alloc (.cells #[a,b,c,.slice ao n cap] 87)).alloc (.cells #[.string st] 9))=W:=⟨_,rfl⟩
 have hb1:W1.heap[w.heap.size]?=some (.cells #[a,b,c,.slice ao n cap] 87 (0,0)):=by rw[← hW1];exact alloc_at (heap_alloc_new _ _)
 have hb2:W1.heap[w.heap.size + 1]?=some (.cells #[.string st] 9 (0,0)):=by rw[← hW1];exact alloc_top (by simp)
 rw[hW1] at hf0
 have HF0:=Lib.hid hf0;have HB2:=Lib.hid hb2;have HE:=Lib.hid hW1
 have CC:=Lib.hid (clStep_any (.slice ao n cap) r.steps W1 (HA.out.frm fun _ _ _ h=>h.frm hf0) hl)
 have c3:=cell_of hb1 3
 clear h hn hb1 hb2 hf0 hW1
 go_enter Tryz.func144,Tryz.ntmps144
 go_upto_region 1 with (first | (refine wpList_box_row rfl 87 _ rfl _ rfl ?_))
 rw[HE.out]
 clear HE
 go_wp2_with (first
  | (go_at_call 173;go_must (refine CC.out.mono ?_;rintro e w2 ⟨v,rfl,hfr⟩;obtain⟨a5,c5,rfl⟩:=hfr.arr.shape;have HFR:=Lib.hid hfr;clear hfr CC)))
 go_ret
 have hf2:Frm [] W1 (w2.alloc (.cells #[.slice a5 r.steps.length c5] 85)):=HFR.out.frm.alloc _
 exact⟨_,rfl,_,_,_,rfl,⟨heap_alloc_new _ _,hf2.at HB2.out (by simp),HFR.out.arr.frm fun _ _ _ h=>h.frm ((Frm.refl [] w2).alloc _)⟩,HF0.out.trans hf2⟩
end Go.Proofs.YtohfkhjlnlahdaaGreat
namespace Go.Proofs.YtohfkhjlnlahdaaGreat
open Go.RowKit Go.BigFrame
def suC1 (u:Sp):List Value:=[.int .i64 u.role,.int .i64 u.peer,.string u.msg]
def suC (L:List Sp):List Value:=L.flatMap suC1
structure SuAt (w:World) (b o:Nat) (u:Sp):Prop where
 c0:w.cell? ⟨b,o,none⟩=some (.int .i64 u.role)
 c1:w.cell? ⟨b,o + 1,none⟩=some (.int .i64 u.peer)
 c2:w.cell? ⟨b,o + 2,none⟩=some (.string u.msg)
theorem SuAt.frm {w w':World} {b o:Nat} {u:Sp} (h:SuAt w b o u) (hf:Frm [] w w'):SuAt w' b o u:=⟨hf.keep h.c0,hf.keep h.c1,hf.keep h.c2⟩
abbrev suV (u:Sp):Value:=.agg #[.int .i64 u.role,.int .i64 u.peer,.string u.msg]
theorem suC_append (A B:List Sp):suC (A ++ B)=suC A ++ suC B:=by unfold suC;rw[List.flatMap_append]
theorem suC_at {L:List Sp}:∀ {i:Nat} {m:Sp},L[i]?=some m→(suC L)[i * 3]?=some (.int .i64 m.role)∧(suC L)[i * 3 + 1]?=some (.int .i64 m.peer)∧(suC L)[i * 3 + 2]?=some (.string m.msg):=by
 induction L with
 | nil=>intro i m h;simp at h
 | cons a L ih =>
   intro i m h
   have e:suC (a :: L)=suC1 a ++ suC L:=rfl
   cases i with
   | zero=>simp at h;subst h;rw[e];exact⟨rfl,rfl,rfl⟩
   | succ i =>
     have:=ih (i:=i) (m:=m) (by simpa using h)
     have hl:(suC1 a).length=3:=rfl
     rw[e,List.getElem?_append_right (by omega),List.getElem?_append_right (by omega),List.getElem?_append_right (by omega),hl]
     rw[show (i + 1) * 3 - 3=i * 3 by omega,show (i + 1) * 3 + 1 - 3=i * 3 + 1 by omega,show (i + 1) * 3 + 2 - 3=i * 3 + 2 by omega]
     exact this
theorem su_arr {W:World} {base:Nat} {v:Value} {L:List Sp} (h:W.ownsRow base 33 3 v L.length (suC L)):Arr 3 SuAt W v L:=by
 obtain⟨ao,cap,rfl⟩:=own_shape h
 refine⟨ao,cap,rfl,fun i m hm=>?_⟩
 have hl:=lt_of_some hm
 obtain⟨g,c,cur,e,-,-⟩:=own_block h (by omega)
 cases e
 have hc:=fun j hj=>World.ownsRow.cellAt h j hj
 obtain⟨h0,h1,h2⟩:=suC_at hm
 exact⟨g,0,rfl,by rw[Nat.zero_add,hc _ (by omega)];exact h0,by rw[Nat.zero_add,hc _ (by omega)];exact h1,by rw[Nat.zero_add,hc _ (by omega)];exact h2⟩
abbrev SB (w:World) (ob:Nat) (L:List Sp) (W:World):Prop:=BO 45 33 3 w ob L.length (suC L) W
abbrev suT:List TypeId:=[45,33,4]
theorem Tryz.infoSu:(Tryz.prog.info? 33).map (fun i=>(i.zero,i.size,i.bytes))=some (some (.agg #[.int .i64 0,.int .i64 0,.string { data:=#[] }]),3,32):=by kernel_rfl
theorem Kt.sub {T T':List TypeId} {W W':World} (h:Kt T W W') (hs:∀ t∈T,t∈T'):Kt T' W W':=⟨h.os,h.tape,h.output,h.size,fun k o hk ho=>h.at' k o hk fun c t fr e ht=>ho c t fr e (hs t ht)⟩
theorem SB.add {w W w1:World} {ob:Nat} {L:List Sp} {ao:Option Addr} {cap:Nat} {o:Obj} {v':Value} (m:Sp) (h:SB w ob L W) (h1:W.heap[ob]?=some (.cells #[.slice ao L.length cap] 45 (0,0))) (h2:W.ownsRow w.heap.size 33 3 (.slice ao L.length cap) L.length (suC L))
  (hg:(W.alloc o).grownBy w1 (Value.slice ao L.length cap).ownBlock) (ho:w1.ownsRow w.heap.size 33 3 v' (L.length + 1) (suC L ++ suC1 m)) :
  SB w ob (L ++ [m]) (w1.setCell ⟨ob,0,none⟩ v')∧Kt suT W (w1.setCell ⟨ob,0,none⟩ v'):=by
 have:=h.step h1 h2 (by decide) hg ho
 unfold SB
 rw[suC_append,List.length_append]
 exact⟨by simpa[suC] using this.1,this.2.sub (by decide)⟩
theorem FrI.turn {B1 B2 eb:Nat} {v:Value} {L:List StpD} {st:ByteArray} {b:Bool} {W W':World} (h:FrI B1 B2 v L st W) (hb:W.heap[eb]?=some (.cells #[.bool b] 4 (0,0))) (hf:Frm [eb] W W'):FrI B1 B2 v L st W':=by
 have ne:∀ {k:Nat} {c:Array Value} {t:TypeId} {fr:Nat × Nat},W.heap[k]?=some (.cells c t fr)→t≠4→k∉[eb]:=fun hk ht hm=>by
  rw[List.mem_singleton] at hm
  subst hm
  rw[hb] at hk
  cases hk
  exact ht rfl
 refine⟨hf.at h.b1 (ne h.b1 (by decide)),hf.at h.b2 (ne h.b2 (by decide)),h.a.frm fun g o t ht=>?_⟩
 have hg:g∉[eb]:=fun hm=>by
  rw[List.mem_singleton] at hm
  subst hm
  have:=ht.c0
  rw[cell_of hb] at this
  cases o with
  | zero=>simp at this
  | succ o=>simp at this
 exact⟨hf.cellAt ht.c0 hg,hf.cellAt ht.c1 hg,hf.cellAt ht.c2 hg,hf.cellAt ht.c3 hg,hf.cellAt ht.c4 hg,hf.cellAt ht.c5 hg,hf.cellAt ht.c6 hg,hf.cellAt ht.c7 hg,hf.cellAt ht.c8 hg⟩
theorem Kt.turn {eb:Nat} {b:Bool} {W W':World} (hb:W.heap[eb]?=some (.cells #[.bool b] 4 (0,0))) (hf:Frm [eb] W W'):Kt suT W W':=
 ⟨hf.os,hf.tape,hf.output,hf.size,fun k o hk ho=>hf.at hk fun hm=>by
  rw[List.mem_singleton] at hm
  subst hm
  rw[hb] at hk
  cases hk
  exact ho _ _ _ rfl (by decide)⟩
theorem ChR.ktS {bl bc cb:Nat} {cls cap:Int} {sv:Value} {L L':List ByteArray} {F:List Nat} {W W':World} (h:ChR bl bc cb cls sv L W) (hk:Kt suT W W') (hc:Chn W cb cls cap L' F):ChR bl bc cb cls sv L W':=by
 obtain⟨sv',hc1,-⟩:=hc
 exact⟨hk.cells h.1 (by decide),hk.row h.2.1 (by decide),hk.cells h.2.2.1 (by decide),cell_of (hk.cells hc1 (by decide)) 0⟩
theorem Bk.oldG {F:List Nat} {B:Nat} {w0 w w':World} (h:Bk B w w') (h0:Frm F w0 w) (hB:w0.heap.size≤B):Frm F w0 w':=
 ⟨h.os.trans h0.os,h.tape.trans h0.tape,h.output.trans h0.output,Nat.le_trans h0.size h.size,fun k hk hn=>by
  have e:=h0.block k hk hn
  have hk':w0.heap[k]?=some (w0.heap[k]):=Array.getElem?_eq_getElem hk
  rw[hk'] at e ⊢
  exact h.block k _ e (.inl (by omega))⟩
theorem eb_set {w W:World} {eb:Nat} {b:Bool} (hf:Frm [eb] w W) (hb:W.heap[eb]?=some (.cells #[.bool b] 4 (0,0))) (b':Bool) :
  KB W (W.setCell ⟨eb,0,none⟩ (.bool b'))∧Frm [eb] w (W.setCell ⟨eb,0,none⟩ (.bool b'))∧(W.setCell ⟨eb,0,none⟩ (.bool b')).heap[eb]?=some (.cells #[.bool b'] 4 (0,0)):=by
 have h0:Frm [eb] W (W.setCell ⟨eb,0,none⟩ (.bool b')):=(Frm.refl _ _).setCell _ (.inl (by simp)) _
 refine⟨KB.frm h0 fun y hy=>?_,hf.trans h0,(block_setCell hb 0 _).trans rfl⟩
 rw[List.mem_singleton] at hy
 subst hy
 exact not_books hb rfl
theorem su_end {w W:World} {ob cp:Nat} {ds:List Nat} {L M:List Sp} {ao:Option Addr} {fn:Func} {tmps:Array Value} (hf:Frm [] w W) (hn:w.heap.size≤ob) (h1:W.heap[ob]?=some (.cells #[.slice ao L.length cp] 45 (0,0)))
  (h2:W.ownsRow w.heap.size 33 3 (.slice ao L.length cp) L.length (suC L)) (hm:Ms w ds W) (hr:∀ V:World,V.cell? ⟨ob,0,none⟩=some (.slice ao L.length cp)→(results fn tmps).run Tryz.prog V=.ok (.slice ao L.length cp) V) (hL:L=M) :
  LeavesInM Fence.wide 3 Tryz.prog fn tmps (RetV fun v w'=>w'.ownsRow w.heap.size 33 3 v M.length (suC M)∧Frm [] w w') (marks ds) .returning (W.setCell ⟨ob,0,none⟩ (.slice ao L.length cp)):=by
 subst hL
 have hk:Kt suT W (W.setCell ⟨ob,0,none⟩ (.slice ao L.length cp)):=(Kt.refl _ W).set h1 (by decide) _
 have hm2:=hm.kt hk
 have hb:=(block_setCell h1 0 (.slice ao L.length cp)).trans rfl
 obtain⟨W2,hW2⟩:∃ W2,W.setCell ⟨ob,0,none⟩ (.slice ao L.length cp)=W2:=⟨_,rfl⟩
 have ho:W2.ownsRow w.heap.size 33 3 (.slice ao L.length cp) L.length (suC L):=by
  rw[← hW2]
  refine ownsRow_setCell_other h2 (fun e'=>?_) _
  obtain⟨c,hc⟩:=ownBlock_type h2 e'
  rw[h1] at hc;cases hc
 have hfw:Frm [] w W2:=by rw[← hW2];exact hf.setCell _ (.inr hn) _
 rw[hW2] at hm2 hb ⊢
 have hu:=unmark_frm ds W2
 have hno:∀ (k:Nat) c t fr,W2.heap[k]?=some (.cells c t fr)→k∉ds:=fun k c t fr hk hd=>by
  rw[(hm2.dl k hd).2] at hk;cases hk
 have hbu:=hu.at hb (hno _ _ _ _ hb)
 refine leaves_many ds W2 hm2.nd (fun D hD=>(hm2.dl D hD).2) ⟨_,hr _ (cell_of hbu 0),_,rfl,hu.owns ho (fun k hk=>?_),hfw.then hu (fun D hD=>.inr (hm2.dl D hD).1)⟩
 obtain⟨c,hc⟩:=ownBlock_type ho hk
 exact hno _ _ _ _ hc
section
variable {s:SesD} {x:PS}
theorem spOf_snoc (i p:Nat) (pre:List (Nat × ByteArray)) (e:Nat × ByteArray):spOf s x i p (pre ++ [e])=if expB s x i p e.2 then spOf s x i p pre else spOf s x i p pre ++ [⟨i,p,e.2⟩]:=by
 unfold spOf
 rw[List.filterMap_append,List.filterMap_cons]
 split
 ·rename_i h
  split at h
  ·rename_i h2;rw[if_pos h2];simp
  ·cases h
 ·rename_i b h
  split at h
  ·cases h
  ·rename_i h2;cases h;rw[if_neg h2];simp
theorem spAt_self (hx:PSok s x) (i:Nat):spAt s x i i=[]:=by
 unfold spAt
 have:x.way i i=[]:=hx.wd i
 rw[this];rfl
theorem spOf_len (i p:Nat) (l:List (Nat × ByteArray)):(spOf s x i p l).length≤l.length:=by
 unfold spOf
 exact List.length_filterMap_le _ _
theorem spAt_len (hs:SesOk s) (hx:PSok s x) {i p:Nat} (hi:i < s.roles.length) (hp:p < s.roles.length):(spAt s x i p).length≤4:=by
 unfold spAt
 have h1:=spOf_len (s:=s) (x:=x) i p (chlK s.cls (x.way p i) (x.way p i).length)
 have h2:=chlK_length s.cls (x.way p i) (x.way p i).length
 have h3:=(hx.wb p i hp hi).1
 have:=hs.k4
 omega
theorem spRole_len (hs:SesOk s) (hx:PSok s x) {i n:Nat} (hi:i < s.roles.length) (hn:n≤s.roles.length):(cat (fun p=>spAt s x i p) n).length≤16:=by
 have h1:=cat_len (n:=n) (f:=fun p=>spAt s x i p) (c:=4) (fun p hp=>spAt_len hs hx hi (by omega))
 have:=hs.n4
 omega
theorem of_len (hs:SesOk s) (hx:PSok s x) {n:Nat} (hn:n≤s.roles.length):(cat (fun i=>cat (fun p=>spAt s x i p) s.roles.length) n).length≤64:=by
 have h1:=cat_len (n:=n) (f:=fun i=>cat (fun p=>spAt s x i p) s.roles.length) (c:=16) (fun i hi=>spRole_len hs hx (by omega) (Nat.le_refl _))
 have:=hs.n4
 omega
def expK (s:SesD) (x:PS) (i p:Nat) (m:ByteArray) (l:List (Nat × StpD)):Bool:=l.any fun e=>hearB s x i p m e.2
theorem expK_snoc (i p:Nat) (m:ByteArray) (pre:List (Nat × StpD)) (e:Nat × StpD):expK s x i p m (pre ++ [e])=(expK s x i p m pre || hearB s x i p m e.2):=by
 unfold expK
 rw[List.any_append]
 simp
theorem expK_all (i p:Nat) (m:ByteArray):expK s x i p m (fromL (s.rol i).steps (hereN s x i))=expB s x i p m:=by
 unfold expK expB
 rw[Bool.eq_iff_iff,List.any_eq_true,List.any_eq_true]
 constructor
 ·rintro⟨⟨k,t⟩,h1,h2⟩
  exact⟨t,List.mem_of_getElem? (mem_fromL.1 h1).1,h2⟩
 ·rintro⟨t,h1,h2⟩
  obtain⟨k,hk⟩:=List.getElem?_of_mem h1
  refine⟨(k,t),mem_fromL.2 ⟨hk,?_⟩,h2⟩
  unfold hearB at h2
  simp only[Bool.and_eq_true,decide_eq_true_eq] at h2
  exact h2.1.2
end
end Go.Proofs.YtohfkhjlnlahdaaGreat
namespace Go.Proofs.YtohfkhjlnlahdaaGreat
open Go.RowKit Go.BigFrame
attribute [local go_sem] Oper.semAt_some
set_option maxHeartbeats 8000000 in
set_option maxRecDepth 100000 in
theorem xpSps_any (s:SesD) (yb fb sb:Nat) (x:PS) (v:Value) (w:World) (h:SyR w s yb fb) (hx:StR w s yb sb x) (hv:SesV w v s) :
  Calls Tryz.prog 73 #[v,.pointer (some ⟨sb,0,none⟩)] w (RetV fun u w'=>w'.ownsRow w.heap.size 33 3 u (ofP s x).length (suC (ofP s x))∧Frm [] w w'):=by
 have HSY:=Lib.hid h;have HST:=Lib.hid hx
 obtain⟨rv,rfl,hr⟩:=hv
 obtain⟨ra,rc,rfl⟩:=hr.shape
 obtain⟨n,hn⟩:∃ n,s.roles.length=n:=⟨_,rfl⟩
 have HR:=Lib.hid hr;have HN:=Lib.hid hn
 have hn4:n≤4:=by rw[← hn];exact h.ok.n4
 have HWI:Hid (∀ i:Nat,i < n→wrap64 ((i:Int) + 1)=((i + 1:Nat):Int)):=Lib.hid fun i hi=>by unfold wrap64;omega
 rw[hn] at HR ⊢
 obtain⟨W0,hW0⟩:∃ W0,((w.alloc (.cells #[.string s.name,.slice ra n rc,.int .i64 s.cls,.int .i64 s.cap] 25)).alloc (.cells #[.pointer (some ⟨sb,0,none⟩)] 38)).alloc (.cells #[.slice none 0 0] 45)=W0:=⟨_,rfl⟩
 have HF0:Hid (Frm [] w W0):=Lib.hid (by rw[← hW0];exact(((Frm.refl _ _).alloc _).alloc _).alloc _)
 have HB0:Hid (W0.heap[w.heap.size]?=some (.cells #[.string s.name,.slice ra n rc,.int .i64 s.cls,.int .i64 s.cap] 25 (0,0))):=Lib.hid (by rw[← hW0];exact alloc_at (alloc_at (heap_alloc_new _ _)))
 have HB1:Hid (W0.heap[w.heap.size + 1]?=some (.cells #[.pointer (some ⟨sb,0,none⟩)] 38 (0,0))):=Lib.hid (by rw[← hW0];exact alloc_at (alloc_top (by simp)))
 obtain⟨ob,hob⟩:∃ ob,w.heap.size + 1 + 1=ob:=⟨_,rfl⟩
 have hb2:W0.heap[ob]?=some (.cells #[.slice none 0 0] 45 (0,0)):=by rw[← hW0,← hob];exact alloc_top (by simp)
 have HM0:Hid (SB w ob [] W0):=Lib.hid (BO.made w _ _ _ HF0.out (by omega) hb2)
 have HOB:=Lib.hid hob
 have HE:=Lib.hid hW0
 clear h hx hr hn hn4 hW0 hb2 hob
 refine calls_of_marks Tryz.func73 rfl ?_
 simp only[Tryz.ntmps73,List.size_toArray,List.length_cons,List.length_nil,Nat.reduceAdd,Nat.reduceSub,Array.replicate_succ,Array.replicate_zero,List.push_toArray,List.append_toArray,List.nil_append,List.cons_append]
 go_upto_region 1 with (first | (refine wpList_box_row rfl 25 _ rfl _ rfl ?_))
 rw[HE.out,HOB.out]
 clear HE HOB
 have z1:=cell_of HB0.out 1
 go_upto_region 2 with fail
 clear z1
 refine wp_loop (fun a' w'=>∃ ds,∃ u5 u6 u7 u8 u9 u10 u12 u13 u15 u19 u20 u21 u22 u23 u24 u25 u26 u27 u28 u29 u30 u31 u32 u33 u34 u35 u36 u37 u38 u39 u40 u41 u42 u43 u44 u45 u46 u47 u48 u49 u50 u51 u52 u53 u54 u55 u56 u57 u58 u59 u60 u61 u62 u63 u64 u65 u66 u67 u68 u69 u70 u71 u72 u73 u74 u75 u76 u77 u78 u79 u80 u81 u82 u83 u84 u85 u86 u87 u88 u89:Value,(fun ds u19 w'=>∃ i:Nat,u19=.int .i64 (i:Int)∧i≤n∧SB w ob (cat (fun i=>cat (fun p=>spAt s x i p) s.roles.length) i) w'∧Ms w ds w'∧Kt suT W0 w') ds u19 w'∧a'={ tmps:=#[.agg #[.string s.name,.slice ra n rc,.int .i64 s.cls,.int .i64 s.cap],.pointer (some ⟨sb,0,none⟩),.pointer (some ⟨w.heap.size,0,none⟩),.pointer (some ⟨w.heap.size + 1,0,none⟩),.pointer (some ⟨ob,0,none⟩),u5,u6,u7,u8,u9,u10,undef,u12,u13,undef,u15,.pointer (some ⟨w.heap.size,1,none⟩),.slice ra n rc,.int .i64 (n:Int),u19,u20,u21,u22,u23,u24,u25,u26,u27,u28,u29,u30,u31,u32,u33,u34,u35,u36,u37,u38,u39,u40,u41,u42,u43,u44,u45,u46,u47,u48,u49,u50,u51,u52,u53,u54,u55,u56,u57,u58,u59,u60,u61,u62,u63,u64,u65,u66,u67,u68,u69,u70,u71,u72,u73,u74,u75,u76,u77,u78,u79,u80,u81,u82,u83,u84,u85,u86,u87,u88,u89,undef],defers:=marks ds }) (fun a' _=>n - (intOf (a'.tmps.getD 19 undef)).toNat) ?_ ?_
 ·refine⟨[],?_⟩
  (repeat apply Exists.intro)
  exact⟨⟨0,rfl,Nat.zero_le _,HM0.out,Ms.nil _ _,Kt.refl _ _⟩,rfl⟩
 intro a' wr hinv
 obtain⟨ds,hinv⟩:=hinv
 obtain⟨u5,hinv⟩:=hinv
 obtain⟨u6,hinv⟩:=hinv
 obtain⟨u7,hinv⟩:=hinv
 obtain⟨u8,hinv⟩:=hinv
 obtain⟨u9,hinv⟩:=hinv
 obtain⟨u10,hinv⟩:=hinv
 obtain⟨u12,hinv⟩:=hinv
 obtain⟨u13,hinv⟩:=hinv
 obtain⟨u15,hinv⟩:=hinv
 obtain⟨u19,hinv⟩:=hinv
 obtain⟨u20,hinv⟩:=hinv
 obtain⟨u21,hinv⟩:=hinv
 obtain⟨u22,hinv⟩:=hinv
 obtain⟨u23,hinv⟩:=hinv
 obtain⟨u24,hinv⟩:=hinv
 obtain⟨u25,hinv⟩:=hinv
 obtain⟨u26,hinv⟩:=hinv
 obtain⟨u27,hinv⟩:=hinv
 obtain⟨u28,hinv⟩:=hinv
 obtain⟨u29,hinv⟩:=hinv
 obtain⟨u30,hinv⟩:=hinv
 obtain⟨u31,hinv⟩:=hinv
 obtain⟨u32,hinv⟩:=hinv
 obtain⟨u33,hinv⟩:=hinv
 obtain⟨u34,hinv⟩:=hinv
 obtain⟨u35,hinv⟩:=hinv
 obtain⟨u36,hinv⟩:=hinv
 obtain⟨u37,hinv⟩:=hinv
 obtain⟨u38,hinv⟩:=hinv
 obtain⟨u39,hinv⟩:=hinv
 obtain⟨u40,hinv⟩:=hinv
 obtain⟨u41,hinv⟩:=hinv
 obtain⟨u42,hinv⟩:=hinv
 obtain⟨u43,hinv⟩:=hinv
 obtain⟨u44,hinv⟩:=hinv
 obtain⟨u45,hinv⟩:=hinv
 obtain⟨u46,hinv⟩:=hinv
 obtain⟨u47,hinv⟩:=hinv
 obtain⟨u48,hinv⟩:=hinv
 obtain⟨u49,hinv⟩:=hinv
 obtain⟨u50,hinv⟩:=hinv
 obtain⟨u51,hinv⟩:=hinv
 obtain⟨u52,hinv⟩:=hinv
 obtain⟨u53,hinv⟩:=hinv
 obtain⟨u54,hinv⟩:=hinv
 obtain⟨u55,hinv⟩:=hinv
 obtain⟨u56,hinv⟩:=hinv
 obtain⟨u57,hinv⟩:=hinv
 obtain⟨u58,hinv⟩:=hinv
 obtain⟨u59,hinv⟩:=hinv
 obtain⟨u60,hinv⟩:=hinv
 obtain⟨u61,hinv⟩:=hinv
 obtain⟨u62,hinv⟩:=hinv
 obtain⟨u63,hinv⟩:=hinv
 obtain⟨u64,hinv⟩:=hinv
 obtain⟨u65,hinv⟩:=hinv
 obtain⟨u66,hinv⟩:=hinv
 obtain⟨u67,hinv⟩:=hinv
 obtain⟨u68,hinv⟩:=hinv
 obtain⟨u69,hinv⟩:=hinv
 obtain⟨u70,hinv⟩:=hinv
 obtain⟨u71,hinv⟩:=hinv
 obtain⟨u72,hinv⟩:=hinv
 obtain⟨u73,hinv⟩:=hinv
 obtain⟨u74,hinv⟩:=hinv
 obtain⟨u75,hinv⟩:=hinv
 obtain⟨u76,hinv⟩:=hinv
 obtain⟨u77,hinv⟩:=hinv
 obtain⟨u78,hinv⟩:=hinv
 obtain⟨u79,hinv⟩:=hinv
 obtain⟨u80,hinv⟩:=hinv
 obtain⟨u81,hinv⟩:=hinv
 obtain⟨u82,hinv⟩:=hinv
 obtain⟨u83,hinv⟩:=hinv
 obtain⟨u84,hinv⟩:=hinv
 obtain⟨u85,hinv⟩:=hinv
 obtain⟨u86,hinv⟩:=hinv
 obtain⟨u87,hinv⟩:=hinv
 obtain⟨u88,hinv⟩:=hinv
 obtain⟨u89,hinv⟩:=hinv
 obtain⟨hrel,ha⟩:=hinv
 subst ha
 try dsimp only
 clear HM0
 obtain⟨i,rfl,hi,hmb,hms,hkt⟩:=hrel
 have HM:=Lib.hid hmb;have HMS:=Lib.hid hms;have HKT:=Lib.hid hkt
 clear hmb hms hkt
 by_cases hlt:i < n
 ·have hlt':(i:Int) < (n:Int):=by omega
  have hin:i < s.roles.length:=by rw[HN.out];exact hlt
  obtain⟨rb,ro,e1,sv,cv,tv,d0,d1,d2,d3,hr3⟩:=HR.out.get (SesD.rol_some hin)
  subst e1
  obtain⟨r,hrr⟩:∃ r,s.rol i=r:=⟨_,rfl⟩
  rw[hrr] at d0 hr3
  obtain⟨aS,cS,rfl⟩:=hr3.sts.shape
  obtain⟨aC,cC,rfl⟩:=hr3.ctrs.shape
  obtain⟨aT,cT,rfl⟩:=hr3.steps.shape
  have HR3:=Lib.hid hr3;have HIN:=Lib.hid hin;have HRR:=Lib.hid hrr
  replace d0:=HM.out.fr.keep d0;replace d1:=HM.out.fr.keep d1;replace d2:=HM.out.fr.keep d2;replace d3:=HM.out.fr.keep d3
  have hrl:=cell_lt d0
  clear hr3 hin hrr
  go_upto_region 4 with fail
  clear d0 d1 d2 d3 hrl
  obtain⟨V0,hV0⟩:∃ V0,(wr.alloc (.cells #[.int .i64 i] 3)).alloc (.cells #[.string r.name,.slice aS r.sts.length cS,.slice aC r.ctrs.length cC,.slice aT r.steps.length cT] 87)=V0:=⟨_,rfl⟩
  have F0:Hid (Frm [] wr V0):=Lib.hid (by rw[← hV0];exact((Frm.refl [] wr).alloc _).alloc _)
  have Q5:Hid (V0.heap[wr.heap.size]?=some (.cells #[.int .i64 i] 3 (0,0))):=Lib.hid (by rw[← hV0];exact alloc_at (heap_alloc_new _ _))
  have Q6:Hid (V0.heap[wr.heap.size + 1]?=some (.cells #[.string r.name,.slice aS r.sts.length cS,.slice aC r.ctrs.length cC,.slice aT r.steps.length cT] 87 (0,0))):=Lib.hid (by rw[← hV0];exact alloc_top (by simp))
  rw[hV0]
  clear hV0
  have M0:=Lib.hid (HM.out.frm F0.out)
  have KT0:Hid (Kt suT W0 V0):=Lib.hid (HKT.out.trans (Kt.frm F0.out))
  have CA:=Lib.hid (pAt_ok s yb fb sb i x V0 (HSY.out.frm M0.out.fr) (HST.out.frm M0.out.fr) HIN.out)
  rw[show ((s.rol i).sts.getD (x.at i) dS).name=hereN s x i from rfl] at CA
  have z3:=cell_of (KT0.out.cells HB1.out (by decide)) 0
  have z5:=cell_of Q5.out 0
  go_upto_region 5 with (first
   | (go_at_call 142;go_must (refine CA.out.mono ?_;rintro e w1 ⟨rfl,hf1⟩;have HF1:=Lib.hid hf1;clear hf1 CA z3 z5)))
  obtain⟨V1,hV1⟩:∃ V1,w1.alloc (.cells #[.string (hereN s x i)] 9)=V1:=⟨_,rfl⟩
  have F1:Hid (Frm [] V0 V1):=Lib.hid (by rw[← hV1];exact HF1.out.alloc _)
  have Q7:Hid (V1.heap[w1.heap.size]?=some (.cells #[.string (hereN s x i)] 9 (0,0))):=Lib.hid (by rw[← hV1];exact heap_alloc_new _ _)
  obtain⟨hb7,h7⟩:∃ b,w1.heap.size=b:=⟨_,rfl⟩
  rw[h7] at Q7
  rw[hV1,h7]
  have Q5':=Lib.hid (F1.out.at Q5.out (by simp));have Q6':=Lib.hid (F1.out.at Q6.out (by simp))
  have KT1:Hid (Kt suT W0 V1):=Lib.hid (KT0.out.trans (Kt.frm F1.out))
  have HM1:Hid (SB w ob (cat (fun i=>cat (fun p=>spAt s x i p) s.roles.length) i ++ cat (fun p=>spAt s x i p) 0) V1):=Lib.hid (by rw[show cat (fun p=>spAt s x i p) 0=[] from rfl,List.append_nil];exact M0.out.frm F1.out)
  have HMS1:=Lib.hid (HMS.out.frm (F0.out.trans F1.out))
  have z1:=cell_of (KT1.out.cells HB0.out (by decide)) 1
  clear hV1 h7 Q5 Q6 KT0 M0 HF1 F1
  go_upto_region 6 with fail
  clear z1
  refine wp_loop (fun a' w'=>∃ ds,∃ u9 u10 u12 u13 u15 u33 u34 u35 u36 u37 u38 u39 u40 u41 u42 u43 u44 u45 u46 u47 u48 u49 u50 u51 u52 u53 u54 u55 u56 u57 u58 u59 u60 u61 u62 u63 u64 u65 u66 u67 u68 u69 u70 u71 u72 u73 u74 u75 u76 u77 u78 u79 u80 u81 u82 u83 u84 u85 u86 u87 u88:Value,(fun ds u33 w'=>∃ p:Nat,u33=.int .i64 (p:Int)∧p≤n∧SB w ob (cat (fun i=>cat (fun p=>spAt s x i p) s.roles.length) i ++ cat (fun p=>spAt s x i p) p) w'∧Ms w ds w'∧Kt suT V1 w') ds u33 w'∧a'={ tmps:=#[.agg #[.string s.name,.slice (some ⟨rb,ro,none⟩) n rc,.int .i64 s.cls,.int .i64 s.cap],.pointer (some ⟨sb,0,none⟩),.pointer (some ⟨w.heap.size,0,none⟩),.pointer (some ⟨w.heap.size + 1,0,none⟩),.pointer (some ⟨ob,0,none⟩),.pointer (some ⟨wr.heap.size,0,none⟩),.pointer (some ⟨wr.heap.size + 1,0,none⟩),.pointer (some ⟨hb7,0,none⟩),.int .i64 0,u9,u10,undef,u12,u13,undef,u15,.pointer (some ⟨w.heap.size,1,none⟩),.slice (some ⟨rb,ro,none⟩) n rc,.int .i64 (n:Int),.int .i64 (i:Int),.bool true,.int .i64 (i:Int),.pointer (some ⟨rb,ro + i * 4,none⟩),.agg #[.string r.name,.slice aS r.sts.length cS,.slice aC r.ctrs.length cC,.slice aT r.steps.length cT],.tuple #[.string (hereN s x i),.int .i64 0],.pointer (some ⟨sb,0,none⟩),.int .i64 (i:Int),.tuple #[.string (hereN s x i),.int .i64 0],.string (hereN s x i),.int .i64 0,.pointer (some ⟨w.heap.size,1,none⟩),.slice (some ⟨rb,ro,none⟩) n rc,.int .i64 (n:Int),u33,u34,u35,u36,u37,u38,u39,u40,u41,u42,u43,u44,u45,u46,u47,u48,u49,u50,u51,u52,u53,u54,u55,u56,u57,u58,u59,u60,u61,u62,u63,u64,u65,u66,u67,u68,u69,u70,u71,u72,u73,u74,u75,u76,u77,u78,u79,u80,u81,u82,u83,u84,u85,u86,u87,u88,u89,undef],defers:=marks ds }) (fun a' _=>n - (intOf (a'.tmps.getD 33 undef)).toNat) ?_ ?_
  ·refine⟨ds,?_⟩
   (repeat apply Exists.intro)
   exact⟨⟨0,rfl,Nat.zero_le _,HM1.out,HMS1.out,Kt.refl _ _⟩,rfl⟩
  intro a' wq hinv
  obtain⟨ds,hinv⟩:=hinv
  obtain⟨u9,hinv⟩:=hinv
  obtain⟨u10,hinv⟩:=hinv
  obtain⟨u12,hinv⟩:=hinv
  obtain⟨u13,hinv⟩:=hinv
  obtain⟨u15,hinv⟩:=hinv
  obtain⟨u33,hinv⟩:=hinv
  obtain⟨u34,hinv⟩:=hinv
  obtain⟨u35,hinv⟩:=hinv
  obtain⟨u36,hinv⟩:=hinv
  obtain⟨u37,hinv⟩:=hinv
  obtain⟨u38,hinv⟩:=hinv
  obtain⟨u39,hinv⟩:=hinv
  obtain⟨u40,hinv⟩:=hinv
  obtain⟨u41,hinv⟩:=hinv
  obtain⟨u42,hinv⟩:=hinv
  obtain⟨u43,hinv⟩:=hinv
  obtain⟨u44,hinv⟩:=hinv
  obtain⟨u45,hinv⟩:=hinv
  obtain⟨u46,hinv⟩:=hinv
  obtain⟨u47,hinv⟩:=hinv
  obtain⟨u48,hinv⟩:=hinv
  obtain⟨u49,hinv⟩:=hinv
  obtain⟨u50,hinv⟩:=hinv
  obtain⟨u51,hinv⟩:=hinv
  obtain⟨u52,hinv⟩:=hinv
  obtain⟨u53,hinv⟩:=hinv
  obtain⟨u54,hinv⟩:=hinv
  obtain⟨u55,hinv⟩:=hinv
  obtain⟨u56,hinv⟩:=hinv
  obtain⟨u57,hinv⟩:=hinv
  obtain⟨u58,hinv⟩:=hinv
  obtain⟨u59,hinv⟩:=hinv
  obtain⟨u60,hinv⟩:=hinv
  obtain⟨u61,hinv⟩:=hinv
  obtain⟨u62,hinv⟩:=hinv
  obtain⟨u63,hinv⟩:=hinv
  obtain⟨u64,hinv⟩:=hinv
  obtain⟨u65,hinv⟩:=hinv
  obtain⟨u66,hinv⟩:=hinv
  obtain⟨u67,hinv⟩:=hinv
  obtain⟨u68,hinv⟩:=hinv
  obtain⟨u69,hinv⟩:=hinv
  obtain⟨u70,hinv⟩:=hinv
  obtain⟨u71,hinv⟩:=hinv
  obtain⟨u72,hinv⟩:=hinv
  obtain⟨u73,hinv⟩:=hinv
  obtain⟨u74,hinv⟩:=hinv
  obtain⟨u75,hinv⟩:=hinv
  obtain⟨u76,hinv⟩:=hinv
  obtain⟨u77,hinv⟩:=hinv
  obtain⟨u78,hinv⟩:=hinv
  obtain⟨u79,hinv⟩:=hinv
  obtain⟨u80,hinv⟩:=hinv
  obtain⟨u81,hinv⟩:=hinv
  obtain⟨u82,hinv⟩:=hinv
  obtain⟨u83,hinv⟩:=hinv
  obtain⟨u84,hinv⟩:=hinv
  obtain⟨u85,hinv⟩:=hinv
  obtain⟨u86,hinv⟩:=hinv
  obtain⟨u87,hinv⟩:=hinv
  obtain⟨u88,hinv⟩:=hinv
  obtain⟨hrel,ha⟩:=hinv
  subst ha
  try dsimp only
  clear HM1 HMS1 HMS HM
  obtain⟨p,rfl,hp,hmb,hms,hkt⟩:=hrel
  have HMq:=Lib.hid hmb;have HMSq:=Lib.hid hms;have HKTq:=Lib.hid hkt
  clear hmb hms hkt
  by_cases hltp:p < n
  ·have hltp':(p:Int) < (n:Int):=by omega
   have hpn:p < s.roles.length:=by rw[HN.out];exact hltp
   obtain⟨rb',ro',e1',sv',cv',tv',d0,d1,d2,d3,hr3'⟩:=HR.out.get (SesD.rol_some hpn)
   cases e1'
   obtain⟨o,hoo⟩:∃ o,s.rol p=o:=⟨_,rfl⟩
   rw[hoo] at d0 hr3'
   obtain⟨aS',cS',rfl⟩:=hr3'.sts.shape
   obtain⟨aC',cC',rfl⟩:=hr3'.ctrs.shape
   obtain⟨aT',cT',rfl⟩:=hr3'.steps.shape
   have HPN:=Lib.hid hpn;have HOO:=Lib.hid hoo
   replace d0:=HMq.out.fr.keep d0;replace d1:=HMq.out.fr.keep d1;replace d2:=HMq.out.fr.keep d2;replace d3:=HMq.out.fr.keep d3
   have hrl:=cell_lt d0
   clear hr3' hpn hoo
   go_upto_region 8 with fail
   clear d0 d1 d2 d3 hrl
   obtain⟨V2,hV2⟩:∃ V2,(wq.alloc (.cells #[.int .i64 p] 3)).alloc (.cells #[.string o.name,.slice aS' o.sts.length cS',.slice aC' o.ctrs.length cC',.slice aT' o.steps.length cT'] 87)=V2:=⟨_,rfl⟩
   have F2:Hid (Frm [] wq V2):=Lib.hid (by rw[← hV2];exact((Frm.refl [] wq).alloc _).alloc _)
   have Q9:Hid (V2.heap[wq.heap.size]?=some (.cells #[.int .i64 p] 3 (0,0))):=Lib.hid (by rw[← hV2];exact alloc_at (heap_alloc_new _ _))
   have Q10:Hid (V2.heap[wq.heap.size + 1]?=some (.cells #[.string o.name,.slice aS' o.sts.length cS',.slice aC' o.ctrs.length cC',.slice aT' o.steps.length cT'] 87 (0,0))):=Lib.hid (by rw[← hV2];exact alloc_top (by simp))
   rw[hV2]
   clear hV2
   have HE:Hid (cat (fun i=>cat (fun p=>spAt s x i p) s.roles.length) i ++ cat (fun p=>spAt s x i p) (p + 1)=(cat (fun i=>cat (fun p=>spAt s x i p) s.roles.length) i ++ cat (fun p=>spAt s x i p) p) ++ spAt s x i p):=Lib.hid (by rw[List.append_assoc];rfl)
   have M2:=Lib.hid (HMq.out.frm F2.out)
   have MS2:=Lib.hid (HMSq.out.frm F2.out)
   have KT2:Hid (Kt suT V1 V2):=Lib.hid (HKTq.out.trans (Kt.frm F2.out))
   obtain⟨L0,hL0⟩:∃ L0,cat (fun i=>cat (fun p=>spAt s x i p) s.roles.length) i ++ cat (fun p=>spAt s x i p) p=L0:=⟨_,rfl⟩
   have hLen:L0.length≤80:=by
    rw[← hL0,List.length_append]
    have a1:=of_len HSY.out.ok HST.out.ok (show i≤s.roles.length by have:=HIN.out;omega)
    have a2:=spRole_len HSY.out.ok HST.out.ok HIN.out (show p≤s.roles.length by have:=HPN.out;omega)
    exact Nat.le_trans (Nat.add_le_add a1 a2) (by decide)
   rw[hL0] at M2 HE
   have HLen:=Lib.hid hLen
   clear hL0 hLen HMq HMSq HKTq
   have z5:=cell_of (KT2.out.cells Q5'.out (by decide)) 0
   have z9:=cell_of Q9.out 0
   by_cases hip:p=i
   ·have hq:((p:Int) == (i:Int))=true:=by rw[hip];simp
    have HSM:Hid (spAt s x i p=[]):=Lib.hid (by rw[hip];exact spAt_self HST.out.ok i)
    clear hip
    go_wp2
    refine⟨⟨ds,?_⟩,?_⟩
    ·(repeat apply Exists.intro)
     exact⟨⟨p + 1,congrArg (Value.int .i64) (HWI.out p hltp),hltp,by rw[HE.out,HSM.out,List.append_nil];exact M2.out,MS2.out,KT2.out⟩,rfl⟩
    ·exact meas_up hltp (HWI.out p hltp)
   ·have hq:((p:Int) == (i:Int))=false:=by rw[beq_eq_false_iff_ne];omega
    have CAr:=Lib.hid (xpArr_any s yb sb i p x V2 HSY.out.ok (HST.out.frm M2.out.fr) HIN.out HPN.out hip)
    have HLW:Hid ((x.way p i).length≤4):=Lib.hid (by have:=(HST.out.ok.wb p i HPN.out HIN.out).1;have:=HSY.out.ok.k4;omega)
    have HSM:Hid (spAt s x i p=spOf s x i p (chlK s.cls (x.way p i) (x.way p i).length)):=Lib.hid rfl
    obtain⟨LL,hLL⟩:∃ LL,x.way p i=LL:=⟨_,rfl⟩
    rw[hLL] at CAr HLW HSM
    have z3:=cell_of ((KT1.out.trans KT2.out).cells HB1.out (by decide)) 0
    have z2:=cell_of ((KT1.out.trans KT2.out).cells HB0.out (by decide)) 2
    clear hip hLL
    go_wp2_with (first
     | (go_at_call 143;go_must (refine CAr.out.mono ?_;rintro e w5 ⟨v,rfl,⟨bl,bc,cb,sv5,rfl,hcr,⟨F5,hch⟩,hf⟩⟩;have HCR:=Lib.hid hcr;have HCH:=Lib.hid hch;have HF5:=Lib.hid hf;clear hcr hch hf CAr z3 z2 z5 z9)))
    have hit:=chc_iter bl bc cb s.cls sv5 LL HSY.out.ok.c1 HSY.out.ok.c3 (by have:=HLW.out;omega)
    have M5:=Lib.hid (M2.out.frm HF5.out)
    have MS5:=Lib.hid (MS2.out.frm HF5.out)
    have KT5:Hid (Kt suT V1 w5):=Lib.hid (KT2.out.trans (Kt.frm HF5.out))
    have D9:=Lib.hid (HF5.out.at Q9.out (by simp))
    have D10:=Lib.hid (HF5.out.at Q10.out (by simp))
    clear M2 MS2 KT2 Q9 Q10 HF5
    refine wp_rangeList rfl (enters_of Tryz.func178 (by kernel_rfl) rfl) hit (fun _=>rfl) (fun pre W=>SB w ob (L0 ++ spOf s x i p pre) W∧Kt suT w5 W) (fun _ _ _=>False) (fun _ _ _ h hb=>⟨h.1.bk hb M5.out.fr.size,h.2.bk hb⟩) (fun _ _ _ _ h _=>h) (fun _ W h=>HCR.out.ktS h.2 HCH.out) ⟨by rw[show spOf s x i p []=[] from rfl,List.append_nil];exact M5.out,Kt.refl _ _⟩ ?_ ?_ (fun _ _ _ _ _ _ _ _ h=>h.elim)
    ·intro l0 pre y rest Wr hxs hI hl hlr
     have hpl:pre.length < 4:=by
      have h1:=chlK_length s.cls LL LL.length
      rw[hxs,List.length_append,List.length_cons] at h1
      have:=HLW.out;omega
     have HI:=Lib.hid hI
     clear hI hlr hl hxs
     obtain⟨yi,ym⟩:=y
     simp only[encC]
     gi_wp2
     refine⟨KB.frm0 ((Frm.refl [] Wr).alloc _),fun Wq hbk hlq=>?_⟩
     have HI2:=Lib.hid (⟨(HI.out.1.frm ((Frm.refl [] Wr).alloc (.cells #[.string ym] 9))).bk hbk M5.out.fr.size,(HI.out.2.alloc _).bk hbk⟩:SB w ob (L0 ++ spOf s x i p pre) Wq∧Kt suT w5 Wq)
     have C12:Hid (Wq.heap[Wr.heap.size]?=some (.cells #[.string ym] 9 (0,0))):=Lib.hid (hbk.at (heap_alloc_new _ _) rfl)
     obtain⟨b12,h12⟩:∃ b,Wr.heap.size=b:=⟨_,rfl⟩
     rw[h12] at C12
     rw[h12]
     have HLQ:=Lib.hid hlq
     clear hbk h12 hlq HI
     gi_upto_region 12 with fail
     obtain⟨Wb,hWb⟩:∃ W,Wq.alloc (.cells #[.bool false] 4)=W:=⟨_,rfl⟩
     obtain⟨eb,heb⟩:∃ b,Wq.heap.size=b:=⟨_,rfl⟩
     have FB:Hid (Frm [] Wq Wb):=Lib.hid (by rw[← hWb];exact(Frm.refl _ _).alloc _)
     have EB:Hid (Wb.heap[eb]?=some (.cells #[.bool false] 4 (0,0))):=Lib.hid (by rw[← hWb,← heb];exact heap_alloc_new _ _)
     have HEB:Hid (Wq.heap.size≤eb):=Lib.hid (by omega)
     rw[hWb,heb]
     clear hWb heb
     have KB5:Hid (Kt suT V1 Wb):=Lib.hid (KT5.out.trans (HI2.out.2.trans (Kt.frm FB.out)))
     have z6:=KB5.out.cells Q6'.out (by decide)
     have z60:=cell_of z6 0
     have z61:=cell_of z6 1
     have z62:=cell_of z6 2
     have z63:=cell_of z6 3
     have z7:=cell_of (KB5.out.cells Q7.out (by decide)) 0
     have HFw:Hid (Frm [] w Wb):=Lib.hid (HI2.out.1.fr.trans FB.out)
     have ht80:r.steps.length≤80:=by have:=(HSY.out.ok.at HIN.out).t80;rw[HRR.out] at this;exact this
     have CF:=Lib.hid (rFrom_any r (hereN s x i) (.string r.name) (.slice aS r.sts.length cS) (.slice aC r.ctrs.length cC) (.slice aT r.steps.length cT) Wb (HR3.out.steps.frm fun _ _ _ h=>h.frm HFw.out) (by omega))
     have HT80:=Lib.hid ht80
     clear z6 ht80
     gi_wp2_with (refine⟨trivial,?_⟩;gi_at_call 144;go_must (refine(CallsIn.inRound l0 (callsIn_wide.2 CF.out)).mono ?_;rintro e w6 ⟨v,rfl,B1,B2,sv6,rfl,hfi,hf6⟩;have HFI:=Lib.hid hfi;have HF6:=Lib.hid hf6;clear hfi hf6 CF z60 z61 z62 z63 z7))
     have EB6:=Lib.hid (HF6.out.at EB.out (by simp))
     have HFw6:Hid (Frm [] w w6):=Lib.hid (HFw.out.trans HF6.out)
     have HWe:Hid (w.heap.size≤eb):=Lib.hid (by have:=HI2.out.1.fr.size;have:=HEB.out;omega)
     have hl6:∃ r,w6.heap[l0]?=some (.loop r):=by
      obtain⟨r0,hr0⟩:=HLQ.out
      exact⟨r0,HF6.out.at (FB.out.at hr0 (by simp)) (by simp)⟩
     have KT6:Hid (Kt suT V1 w6):=Lib.hid (KB5.out.trans (Kt.frm HF6.out))
     have C126:Hid (w6.heap[b12]?=some (.cells #[.string ym] 9 (0,0))):=Lib.hid (HF6.out.at (FB.out.at C12.out (by simp)) (by simp))
     have D106:Hid (w6.heap[wq.heap.size + 1]?=some (.cells #[.string o.name,.slice aS' o.sts.length cS',.slice aC' o.ctrs.length cC',.slice aT' o.steps.length cT'] 87 (0,0))):=Lib.hid (HF6.out.at (FB.out.at (HI2.out.2.cells D10.out (by decide)) (by simp)) (by simp))
     refine wpIn_rangeListN hl6 rfl (enters_of Tryz.func189 (by kernel_rfl) rfl) (from_iter B1 B2 sv6 r.steps (hereN s x i) (by have:=HT80.out;omega)) (fun _=>rfl)
      (fun pre2 W=>Frm [eb] w6 W∧W.heap[eb]?=some (.cells #[.bool (expK s x i p ym pre2)] 4 (0,0))) (fun _ _ _=>False) (fun _ _ _ h hb=>⟨hb.oldG h.1 (Nat.le_refl _),hb.at h.2 rfl⟩) (fun _ _ _ _ h _=>h.elim) (fun _ W h=>HFI.out.turn EB6.out h.1)
      ⟨Frm.refl _ _,EB6.out⟩ ?_ ?_ (fun _ _ _ _ _ _ h=>h.elim)
     ·intro l1 pre2 y2 rest2 Wi hxs2 hI3 hl2 hlr2
      obtain⟨k,t⟩:=y2
      have hmem:(k,t)∈fromL r.steps (hereN s x i):=by rw[hxs2];simp
      obtain⟨hrk,hfrm⟩:=mem_fromL.1 hmem
      have HTM:Hid (t∈(s.rol i).steps):=Lib.hid (by rw[HRR.out];exact List.mem_of_getElem? hrk)
      have HFM:=Lib.hid hfrm
      have HI3:=Lib.hid hI3
      clear hI3 hl2 hlr2 hxs2 hmem hrk hfrm hl6
      simp only[stpV]
      gi_wp2
      refine⟨KB.frm0 ((Frm.refl [] Wi).alloc _),fun Wj hbk2 _=>?_⟩
      have HI4:=Lib.hid (⟨hbk2.oldG (HI3.out.1.alloc (.cells #[.string t.frm,.string t.to,.int .i64 t.kind,.string t.msg,.string t.peer,.string t.ctr,.int .i64 t.low,.int .i64 t.high,.int .i64 t.add] 137)) (Nat.le_refl _),hbk2.at (alloc_at HI3.out.2) rfl⟩:Frm [eb] w6 Wj∧Wj.heap[eb]?=some (.cells #[.bool (expK s x i p ym pre2)] 4 (0,0)))
      have C15:Hid (Wj.heap[Wi.heap.size]?=some (.cells #[.string t.frm,.string t.to,.int .i64 t.kind,.string t.msg,.string t.peer,.string t.ctr,.int .i64 t.low,.int .i64 t.high,.int .i64 t.add] 137 (0,0))):=Lib.hid (hbk2.at (heap_alloc_new _ _) rfl)
      obtain⟨b15,h15⟩:∃ b,Wi.heap.size=b:=⟨_,rfl⟩
      rw[h15] at C15
      rw[h15]
      have HKj:Hid (Kt suT w6 Wj):=Lib.hid (Kt.turn EB6.out HI4.out.1)
      have HFwj:Hid (Frm [] w Wj):=Lib.hid (HFw6.out.then HI4.out.1 (fun y hy=>.inr (by rw[List.mem_singleton] at hy;have:=HWe.out;omega)))
      have c13:=cell_of HI4.out.2 0
      have f13:=free_of HI4.out.2 0
      have CG:=Lib.hid (xpGrd_any s yb fb sb i x t Wj (HSY.out.frm HFwj.out) (HST.out.frm HFwj.out) HIN.out HTM.out)
      have HXS:=Lib.hid (expK_snoc (s:=s) (x:=x) i p ym pre2 (k,t))
      clear hbk2 h15 HI3
      obtain⟨b,hb⟩:∃ b,expK s x i p ym pre2=b:=⟨_,rfl⟩
      rw[hb] at c13 HXS HI4
      clear hb
      have q2:=cell_of C15.out 2
      have q3:=cell_of C15.out 3
      have q4:=cell_of C15.out 4
      have m0:=cell_of (HKj.out.cells C126.out (by decide)) 0
      have o0:=cell_of (HKj.out.cells D106.out (by decide)) 0
      cases b with
      | true =>
        have HV:Hid (expK s x i p ym (pre2 ++ [(k,t)])=true):=Lib.hid (by rw[HXS.out];rfl)
        gi_wp2_with (refine⟨trivial,?_⟩)
        obtain⟨g1,g2,g3⟩:=eb_set HI4.out.1 HI4.out.2 true
        exact⟨g1,g2,by rw[HV.out];exact g3⟩
      | false =>
        by_cases hk2:t.kind=2
        ·have b2:(t.kind == 2)=true:=by simpa using hk2
         by_cases hm:t.msg=ym
         ·have b3:(t.msg.toList == ym.toList)=true:=by rw[str_beq,decide_eq_true hm]
          by_cases hpe:t.peer=o.name
          ·have b4:(t.peer.toList == o.name.toList)=true:=by rw[str_beq,decide_eq_true hpe]
           have z3:=cell_of (((KT1.out.trans KT6.out).trans HKj.out).cells HB1.out (by decide)) 0
           have z5:=cell_of ((KT6.out.trans HKj.out).cells Q5'.out (by decide)) 0
           have q0:=cell_of C15.out 0
           have q1:=cell_of C15.out 1
           have q5:=cell_of C15.out 5
           have q6:=cell_of C15.out 6
           have q7:=cell_of C15.out 7
           have q8:=cell_of C15.out 8
           obtain⟨bk,hbk⟩:∃ bk,bankOk (s.rol i).ctrs (x.bank i) t=bk:=⟨_,rfl⟩
           have HV:Hid (expK s x i p ym (pre2 ++ [(k,t)])=bk):=Lib.hid (by
            rw[HXS.out]
            unfold hearB
            rw[decide_eq_true hk2,decide_eq_true hm,decide_eq_true (show t.peer=(s.rol p).name by rw[HOO.out];exact hpe),decide_eq_true HFM.out,hbk]
            simp)
           rw[hbk] at CG
           clear hk2 hm hpe hbk
           gi_wp2_with (refine⟨trivial,?_⟩;gi_at_call 145;go_must (refine(CallsIn.inRound l1 (callsIn_wide.2 CG.out)).mono ?_;rintro e w7 ⟨rfl,hf7⟩;have HF7:=Lib.hid hf7;have HE7:=Lib.hid (hf7.at HI4.out.2 (by simp));have c13':=cell_of HE7.out 0;have f13':=free_of HE7.out 0;clear hf7))
           obtain⟨g1,g2,g3⟩:=eb_set (HI4.out.1.then HF7.out (by simp)) HE7.out bk
           exact⟨(KB.frm0 HF7.out).trans g1,g2,by rw[HV.out];exact g3⟩
          ·have b4:(t.peer.toList == o.name.toList)=false:=by rw[str_beq,decide_eq_false hpe]
           have HV:Hid (expK s x i p ym (pre2 ++ [(k,t)])=false):=Lib.hid (by
            rw[HXS.out]
            unfold hearB
            rw[decide_eq_false (show ¬ t.peer=(s.rol p).name by rw[HOO.out];exact hpe)]
            simp)
           clear hk2 hm hpe
           gi_wp2_with (refine⟨trivial,?_⟩)
           obtain⟨g1,g2,g3⟩:=eb_set HI4.out.1 HI4.out.2 false
           exact⟨g1,g2,by rw[HV.out];exact g3⟩
         ·have b3:(t.msg.toList == ym.toList)=false:=by rw[str_beq,decide_eq_false hm]
          have HV:Hid (expK s x i p ym (pre2 ++ [(k,t)])=false):=Lib.hid (by
           rw[HXS.out]
           unfold hearB
           rw[decide_eq_false hm]
           simp)
          clear hk2 hm
          gi_wp2_with (refine⟨trivial,?_⟩)
          obtain⟨g1,g2,g3⟩:=eb_set HI4.out.1 HI4.out.2 false
          exact⟨g1,g2,by rw[HV.out];exact g3⟩
        ·have b2:(t.kind == 2)=false:=by simpa using hk2
         have HV:Hid (expK s x i p ym (pre2 ++ [(k,t)])=false):=Lib.hid (by
          rw[HXS.out]
          unfold hearB
          rw[decide_eq_false hk2]
          simp)
         clear hk2
         gi_wp2_with (refine⟨trivial,?_⟩)
         obtain⟨g1,g2,g3⟩:=eb_set HI4.out.1 HI4.out.2 false
         exact⟨g1,g2,by rw[HV.out];exact g3⟩
     ·intro W hI
      have hall:=expK_all (s:=s) (x:=x) i p ym
      rw[HRR.out] at hall
      have HFW:Hid (Frm [] Wq W):=Lib.hid ((FB.out.trans HF6.out).then hI.1 (fun y hy=>.inr (by rw[List.mem_singleton] at hy;have:=HEB.out;omega)))
      obtain⟨b,hb⟩:∃ b,expB s x i p ym=b:=⟨_,rfl⟩
      rw[hb] at hall
      have hEW:=hI.2
      rw[hall] at hEW
      have c13:=cell_of hEW 0
      have HSN:=Lib.hid (spOf_snoc (s:=s) (x:=x) i p pre (yi,ym))
      rw[hb] at HSN
      have HMw:=Lib.hid (HI2.out.1.frm HFW.out)
      have HKw:Hid (Kt suT w5 W):=Lib.hid (HI2.out.2.trans (Kt.frm HFW.out))
      have C12w:=Lib.hid (HFW.out.at C12.out (by simp))
      clear hI hall hb hEW hl6
      cases b with
      | true =>
        gi_wp2
        refine⟨KB.frm0 HFW.out,?_⟩
        show SB w ob (L0 ++ spOf s x i p (pre ++ [(yi,ym)])) _∧Kt suT w5 _
        rw[HSN.out,if_pos trivial]
        exact⟨HMw.out,HKw.out⟩
      | false =>
        have z5:=cell_of ((KT5.out.trans HKw.out).cells Q5'.out (by decide)) 0
        have z9:=cell_of (HKw.out.cells D9.out (by decide)) 0
        have z12:=cell_of C12w.out 0
        have hlen:(L0 ++ spOf s x i p pre).length≤90:=by
         have:=spOf_len (s:=s) (x:=x) i p pre
         have:=HLen.out
         rw[List.length_append];omega
        obtain⟨L1,hL1⟩:∃ L1,L0 ++ spOf s x i p pre=L1:=⟨_,rfl⟩
        rw[hL1] at HMw hlen
        have HL1:=Lib.hid hL1
        obtain⟨ao,cp,hb1,hb2⟩:=HMw.out.bx
        have cx:=cell_of hb1 0
        have HB1':=Lib.hid hb1;have HB2':=Lib.hid hb2
        obtain⟨i0,hi0,hz0,hz1,hz2⟩:=info_parts Tryz.infoSu
        have hsz:w.heap.size≤(W.alloc (.cells #[.int .i64 i,.int .i64 p,.string ym] 33)).heap.size:=by have:=HMw.out.fr.size;simp;omega
        clear hb1 hb2 hL1
        gi_wp2_with (gi_at_builtin;refine wpListIn_append_own _ rfl _ _ 45 rfl w.heap.size 33 i0 (.agg #[.int .i64 0,.int .i64 0,.string { data:=#[] }]) 3 32 Tryz.underlying45 hi0 hz0 hz1 hz2 rfl (by decide) (.slice ao L1.length cp) L1.length (suC L1) rfl (HB2'.out.alloc _) ⟨W.heap.size,0,none⟩ 1 1 (suC1 ⟨i,p,ym⟩) rfl rfl (new_row _ _ _) (by simp[suC1,Value.oneCell']) (by unfold maxLen;omega) (by omega) hsz ?_;intro v' w9 hown' hgrow _;obtain⟨ao',cp',rfl⟩:=own_shape hown';have hbx:=BO.facts HB1'.out HB2'.out (by decide) hgrow;have cx6:=cell_of hbx 0;have fx6:=free_of hbx 0;have HG:=Lib.hid hgrow;have HO:=Lib.hid hown';clear hgrow hown' hbx cx)
        have h9:=SB.add ⟨i,p,ym⟩ HMw.out HB1'.out HB2'.out HG.out HO.out
        refine⟨(KB.frm0 HFW.out).trans h9.2.kb,?_⟩
        show SB w ob (L0 ++ spOf s x i p (pre ++ [(yi,ym)])) _∧Kt suT w5 _
        rw[HSN.out,if_neg (by decide),← List.append_assoc,HL1.out]
        exact⟨h9.1,HKw.out.trans h9.2⟩
    ·intro D W hD hI hK
     have HID:=Lib.hid hI;have HKD:=Lib.hid hK;have HDD:=Lib.hid hD
     clear hI hK hD hit
     go_wp2
     refine⟨⟨D :: ds,?_⟩,?_⟩
     ·(repeat apply Exists.intro)
      exact⟨⟨p + 1,congrArg (Value.int .i64) (HWI.out p hltp),hltp,by rw[HE.out,HSM.out];exact HID.out.1,MS5.out.more M5.out.fr.size HID.out.2 HDD.out HKD.out,KT5.out.trans HID.out.2⟩,rfl⟩
     ·exact meas_up hltp (HWI.out p hltp)
  ·obtain rfl:n=p:=by omega
   have hge:¬ (n:Int) < (n:Int):=by omega
   go_wp2
   refine⟨⟨ds,?_⟩,?_⟩
   ·(repeat apply Exists.intro)
    exact⟨⟨i + 1,congrArg (Value.int .i64) (HWI.out i hlt),hlt,by have:=HMq.out;rw[← HN.out] at this;exact this,HMSq.out,KT1.out.trans HKTq.out⟩,rfl⟩
   ·exact meas_up hlt (HWI.out i hlt)
 ·obtain rfl:n=i:=by omega
  have hge:¬ (n:Int) < (n:Int):=by omega
  obtain⟨ao,cp,hb1,hb2⟩:=HM.out.bx
  have cx:=cell_of hb1 0
  have fx:=free_of hb1 0
  have HB1':=Lib.hid hb1;have HB2':=Lib.hid hb2
  clear hb1 hb2
  go_wp2
  exact su_end HM.out.fr HM.out.new HB1'.out HB2'.out HMS.out (fun V hc=>by simp[results,go_sem,hc]) (by rw[← HN.out];rfl)
end Go.Proofs.YtohfkhjlnlahdaaGreat
namespace Go.Proofs.YtohfkhjlnlahdaaGreat
open Go.RowKit Go.BigFrame
theorem numL_snd {α:Type} (L:List α):(numL L).map Prod.snd=L:=by
 refine List.ext_getElem? fun i=>?_
 rw[List.getElem?_map,numL_at]
 cases L[i]? <;> rfl
theorem numL_pre {α:Type} {L:List α} {pre rest:List (Nat × α)} {y:Nat × α} (h:numL L=pre ++ y :: rest):y.1=pre.length∧pre.length < L.length:=by
 have h1:(numL L)[pre.length]?=some y:=by rw[h,List.getElem?_append_right (Nat.le_refl _),Nat.sub_self];rfl
 rw[numL_at,Option.map_eq_some_iff] at h1
 obtain⟨m,hm,rfl⟩:=h1
 exact⟨rfl,lt_of_some hm⟩
attribute [local go_sem] Oper.semAt_some
end Go.Proofs.YtohfkhjlnlahdaaGreat
namespace Go.Proofs.YtohfkhjlnlahdaaGreat
open Go.RowKit Go.BigFrame
theorem Tryz.call_pFinal1 (args:Array Value) (w:World):(callFunc 141 args).run Tryz.prog w=.ok (.enter 141 args) w:=by kernel_rfl
set_option maxRecDepth 100000 in
theorem pFinal1_any (cb:Nat) (cls cap:Int) (L:List ByteArray) (F:List Nat) (w:World) (h:Chn w cb cls cap L F):Calls Tryz.prog 141 #[.pointer (some ⟨cb,0,none⟩)] w (Ret (.bool (decide (0 < L.length))) (Frm [] w)):=by
 have CL:=Lib.hid (len_any h)
 have e:decide (0 < L.length)=decide ((0:Int) < (L.length:Int)):=by rw[decide_eq_decide];omega
 rw[e]
 clear h e
 go_enter Tryz.func141,Tryz.ntmps141
 go_wp2_with (go_at_call 103;go_must (refine CL.out.mono ?_;rintro e w1 ⟨rfl,hf⟩;have HF:=Lib.hid hf;clear hf))
 go_ret
 exact⟨by simp,HF.out⟩
def busyB (Ls:List (List ByteArray)):Bool:=Ls.any fun l=>decide (0 < l.length)
theorem busy_ixf (Ls:List (List ByteArray)):decide (0≤ixf (fun l=>decide (0 < l.length)) Ls)=busyB Ls:=by
 unfold busyB
 rw[Bool.eq_iff_iff,decide_eq_true_eq,List.any_eq_true]
 constructor
 ·intro h
  obtain⟨i,hi,-⟩:=ixf_nat h
  obtain⟨x,h1,h2,-⟩:=ixf_at hi
  exact⟨x,List.mem_of_getElem? h1,h2⟩
 ·rintro⟨x,h1,h2⟩
  exact ixf_ex h1 h2
set_option maxRecDepth 100000 in
theorem cfChan_any (cls cap:Int) (v:Value) (Ls:List (List ByteArray)) (w:World) (h:RowV cls cap w v Ls) (hl:Ls.length≤1000):Calls Tryz.prog 140 #[v,.func (.func 141) #[] #[]] w (Ret (.bool (busyB Ls)) (Frm [] w)):=by
 have CI:=Lib.hid (ifChan_any cls cap 141 #[] (fun l=>decide (0 < l.length)) v Ls w h hl Tryz.call_pFinal1 (fun W x cb F _ _ hc=>pFinal1_any cb cls cap x F W hc))
 obtain⟨ao,cq,rfl⟩:=Arr.shape h
 rw[← busy_ixf]
 obtain⟨q,hq⟩:∃ q,ixf (fun l:List ByteArray=>decide (0 < l.length)) Ls=q:=⟨_,rfl⟩
 rw[hq] at CI ⊢
 clear h hl hq
 go_enter Tryz.func140,Tryz.ntmps140
 go_wp2_with (go_at_call 186;go_must (refine CI.out.mono ?_;rintro e w1 ⟨rfl,hf⟩;have HF:=Lib.hid hf;clear hf))
 go_ret
 exact⟨rfl,HF.out⟩
def endB (s:SesD) (x:PS) (i:Nat):Bool:=(x.ways.getD i []).all (fun l=>l.isEmpty) && ((s.rol i).sts.getD (x.at i) dS).fin
theorem busy_all (Ls:List (List ByteArray)):(Ls.all fun l=>l.isEmpty)=!busyB Ls:=by
 unfold busyB
 rw[Bool.eq_iff_iff,List.all_eq_true,Bool.not_eq_true',List.any_eq_false]
 constructor
 ·intro h x hx
  have:=h x hx
  rw[List.isEmpty_iff] at this
  simp[this]
 ·intro h x hx
  have:=h x hx
  rw[decide_eq_true_eq] at this
  rw[List.isEmpty_iff,← List.length_eq_zero_iff];omega
set_option maxHeartbeats 2000000 in
set_option maxRecDepth 100000 in
theorem pFinal_any (s:SesD) (yb fb sb:Nat) (x:PS) (w:World) (h:SyR w s yb fb) (hx:StR w s yb sb x):Calls Tryz.prog 72 #[.pointer (some ⟨yb,0,none⟩),.pointer (some ⟨sb,0,none⟩)] w (Ret (.tuple #[.bool (finalB s x),.int .i64 0]) (Frm [] w)):=by
 have HSY:=Lib.hid h;have HST:=Lib.hid hx
 have C1:=Lib.hid (pCheck_any s yb fb sb x w h hx)
 obtain⟨av,wv,h1,h2,h3⟩:=hx.out
 obtain⟨aa,ca,rfl⟩:=h2.shape
 obtain⟨aw,cw,rfl⟩:=h3.shape
 rw[actsP_len,hx.ok.wl] at h1
 obtain⟨n,hn⟩:∃ n,s.roles.length=n:=⟨_,rfl⟩
 rw[hn] at h1
 have x1:=cell_of h1 1
 have HX1:=Lib.hid x1
 have HN:=Lib.hid hn
 have HFB:Hid (finalB s x=(List.range n).all fun i=>endB s x i):=Lib.hid (by rw[← hn];rfl)
 obtain⟨fb',hfb⟩:∃ b,finalB s x=b:=⟨_,rfl⟩
 rw[hfb] at HFB ⊢
 have hn4:n≤4:=by rw[← hn];exact h.ok.n4
 clear h hx h1 h2 h3 hn hfb
 go_enter Tryz.func72,Tryz.ntmps72
 go_wp2_with (first
  | (go_at_call 61;go_must (refine C1.out.mono ?_;rintro e w' ⟨rfl,rfl⟩)))
 clear x1 C1
 go_loopw [21] (fun s21 wr=>∃ i:Nat,s21=.int .i64 i∧i≤n∧Frm [] w wr∧∀ j,j < i→endB s x j=true) (fun s21 _=>n - (intOf s21).toNat)
 case atStart=>exact⟨0,rfl,Nat.zero_le _,Frm.refl _ _,fun j hj=>by omega⟩
 case round =>
  obtain⟨i,rfl,hi,hf,hno⟩:=hrel
  have HF:=Lib.hid hf;have HNO:=Lib.hid hno
  clear hf hno
  by_cases hlt:i < n
  ·have hlt':(i:Int) < (n:Int):=by omega
   have hin:i < s.roles.length:=by rw[HN.out];exact hlt
   obtain⟨gb,go',cw',rv,y1,y2,y3⟩:=HST.out.row hin
   obtain⟨ab,ao,ac,bb,y4,ha⟩:=HST.out.act hin
   obtain⟨rb,ro,rc,sv,cv,tv,y5,hr⟩:=HSY.out.rol hin
   have hst:(s.rol i).sts[x.at i]?=some ((s.rol i).sts.getD (x.at i) dS):=some_getD (HST.out.ok.pb i hin)
   have hpb:=HST.out.ok.pb i hin
   have hwr:=HST.out.ok.wr i hin
   obtain⟨aS,cS,rfl⟩:=hr.r3.sts.shape
   obtain⟨b1,o1,rfl,-,g1,-⟩:=hr.r3.sts.get hst
   obtain⟨-,d1,-,-,-⟩:=hr
   obtain⟨e0,e1,-⟩:=ha
   rw[HN.out] at y1 y4 y5
   have q:=Option.some.inj (HX1.out.symm.trans y4)
   cases q
   have HEB:Hid (endB s x i=(!busyB (x.ways.getD i []) && ((s.rol i).sts.getD (x.at i) dS).fin)):=Lib.hid (by unfold endB;rw[busy_all])
   obtain⟨Ls,hLs⟩:∃ Ls,x.ways.getD i []=Ls:=⟨_,rfl⟩
   obtain⟨p,hp⟩:∃ p,x.at i=p:=⟨_,rfl⟩
   obtain⟨m,hm⟩:∃ m,(s.rol i).sts.length=m:=⟨_,rfl⟩
   obtain⟨fin,hfi⟩:∃ f,((s.rol i).sts.getD (x.at i) dS).fin=f:=⟨_,rfl⟩
   rw[hfi] at g1 HEB
   rw[hLs] at y3 HEB hwr
   rw[hp] at e0 g1 hpb
   rw[hm] at d1 hpb
   have hpm:(p:Int) < (m:Int):=by omega
   have CF:Hid (∀ V,Frm [] w V→Calls Tryz.prog 140 #[rv,.func (.func 141) #[] #[]] V (Ret (.bool (busyB Ls)) (Frm [] V))):=Lib.hid fun V hV=>cfChan_any s.cls s.cap rv Ls V (y3.frm hV) (by rw[hwr,HN.out];omega)
   obtain⟨bz,hbz⟩:∃ b,busyB Ls=b:=⟨_,rfl⟩
   rw[hbz] at CF HEB
   have HU:Hid (∀ V,Frm [] w V→V.cell? ⟨yb,1,none⟩=some (.slice (some ⟨rb,ro,none⟩) n rc)∧V.cell? ⟨rb,ro + i * 4 + 1,none⟩=some (.slice (some ⟨b1,o1,none⟩) m cS)∧V.cell? ⟨b1,o1 + p * 3 + 1,none⟩=some (.bool fin)):=Lib.hid fun V hV=>⟨hV.keep y5,hV.keep d1,hV.keep g1⟩
   replace y1:=HF.out.keep y1;replace y2:=HF.out.keep y2;replace y4:=HF.out.keep y4;replace e0:=HF.out.keep e0;replace e1:=HF.out.keep e1
   have hl1:=cell_lt y1
   have hl2:=cell_lt y2
   clear hst hwr y3 y5 d1 g1 hLs hp hm hfi hbz hin hpb
   go_upto_region 8 with (first
    | (go_at_call 140;go_must (refine(CF.out _ (HF.out.alloc _)).mono ?_;rintro e w1 ⟨rfl,hf1⟩;have HQ:=Lib.hid (hf1.at (heap_alloc_new wr (.cells #[.int .i64 p,.pointer (some ⟨bb,0,none⟩)] 143)) (by simp));have HF1:Hid (Frm [] w w1):=Lib.hid ((HF.out.alloc _).trans hf1);clear hf1)))
   have HU1:Hid (∀ V,Frm [] w1 V→(V.cell? ⟨yb,1,none⟩=some (.slice (some ⟨rb,ro,none⟩) n rc)∧V.cell? ⟨rb,ro + i * 4 + 1,none⟩=some (.slice (some ⟨b1,o1,none⟩) m cS)∧V.cell? ⟨b1,o1 + p * 3 + 1,none⟩=some (.bool fin))∧V.cell? ⟨wr.heap.size,0,none⟩=some (.int .i64 p)):=Lib.hid fun V hV=>⟨HU.out V (HF1.out.trans hV),hV.keep (cell_of HQ.out 0)⟩
   clear y1 y2 y4 e0 e1 CF hl1 hl2
   have hfalse:endB s x i=false→fb'=false:=fun h=>by
    rw[HFB.out,List.all_eq_false]
    exact⟨i,by simpa using hlt,by rw[h];decide⟩
   have HFA:=Lib.hid hfalse
   clear hfalse
   cases bz with
   | true =>
     have HR:=Lib.hid (HFA.out (by rw[HEB.out];rfl))
     clear HFA
     refine wp_region_cq (by kernel_rfl) (by kernel_rfl) ?_
     repeat (first
      | go_big_quiet_skip
      | (refine wpQuiet_want (by rfl) (fun K hK=>?_)
         first
          | (refine quiet_move _ (by rfl) (hK _ ?_))
          | (refine quiet_assign _ (by rfl) (hK _ ?_))
          | (apply Exists.intro
             refine⟨fun w' hC=>?_,hK _ ?_⟩
             ·(unfold Oper.quietAt
               obtain⟨⟨z1,z2,z3⟩,z4⟩:=HU1.out w' hC
               clear hC
               go_simp
               try exact⟨rfl,rfl⟩
               try rfl))
         clear hK K
         try simp only[nrm,Act.eval,nrq]))
     refine wpQuiet_nil ?_
     intro w2 hf2
     go_wp2
     go_ret2
     exact⟨by rw[HR.out];rfl,HF1.out.trans hf2⟩
   | false =>
     cases fin with
     | false =>
       have HR:=Lib.hid (HFA.out (by rw[HEB.out];rfl))
       clear HFA
       refine wp_region_cq (by kernel_rfl) (by kernel_rfl) ?_
       repeat (first
        | go_big_quiet_skip
        | (refine wpQuiet_want (by rfl) (fun K hK=>?_)
           first
            | (refine quiet_move _ (by rfl) (hK _ ?_))
            | (refine quiet_assign _ (by rfl) (hK _ ?_))
            | (apply Exists.intro
               refine⟨fun w' hC=>?_,hK _ ?_⟩
               ·(unfold Oper.quietAt
                 obtain⟨⟨z1,z2,z3⟩,z4⟩:=HU1.out w' hC
                 clear hC
                 go_simp
                 try exact⟨rfl,rfl⟩
                 try rfl))
           clear hK K
           try simp only[nrm,Act.eval,nrq]))
       refine wpQuiet_nil ?_
       intro w2 hf2
       go_wp2
       go_ret2
       exact⟨by rw[HR.out];rfl,HF1.out.trans hf2⟩
     | true =>
       clear HFA
       refine wp_region_cq (by kernel_rfl) (by kernel_rfl) ?_
       repeat (first
        | go_big_quiet_skip
        | (refine wpQuiet_want (by rfl) (fun K hK=>?_)
           first
            | (refine quiet_move _ (by rfl) (hK _ ?_))
            | (refine quiet_assign _ (by rfl) (hK _ ?_))
            | (apply Exists.intro
               refine⟨fun w' hC=>?_,hK _ ?_⟩
               ·(unfold Oper.quietAt
                 obtain⟨⟨z1,z2,z3⟩,z4⟩:=HU1.out w' hC
                 clear hC
                 go_simp
                 try exact⟨rfl,rfl⟩
                 try rfl))
           clear hK K
           try simp only[nrm,Act.eval,nrq]))
       refine wpQuiet_nil ?_
       intro w2 hf2
       have HF2:=Lib.hid (HF1.out.trans hf2)
       clear hf2
       go_wp2
       refine⟨⟨i + 1,congrArg (Value.int .i64) (by omega),hlt,HF2.out,fun j hj=>?_⟩,by simp[intOf];omega⟩
       by_cases e:j=i
       ·subst e;rw[HEB.out];rfl
       ·exact HNO.out j (by omega)
  ·have hge:¬ (i:Int) < (n:Int):=by omega
   have HR:Hid (fb'=true):=Lib.hid (by
    rw[HFB.out,List.all_eq_true]
    intro j hj
    exact HNO.out j (by rw[List.mem_range] at hj;omega))
   go_wp2
   go_ret2
   exact⟨by rw[HR.out];rfl,HF.out⟩
end Go.Proofs.YtohfkhjlnlahdaaGreat
namespace Go.Proofs.YtohfkhjlnlahdaaGreat
open Go.RowKit Go.BigFrame
abbrev encU (m:Sp):Array Value:=#[.int .i64 m.role,.int .i64 m.peer,.string m.msg]
theorem Tryz.undSp:Tryz.prog.underlying 33=some (.struct (Tryz.prog.fieldsOf 33)):=by kernel_rfl
theorem txt_iff {a b:ByteArray}:a.toList=b.toList↔a=b:=by
 constructor
 ·intro h
  by_cases hab:a=b
  ·exact hab
  ·have:=str_ne hab
   rw[h] at this
   simp at this
 ·rintro rfl;rfl
theorem sp_ext {a b:Sp}:a=b↔(a.role:Int)=(b.role:Int)∧(a.peer:Int)=(b.peer:Int)∧a.msg=b.msg:=by
 obtain⟨a1,a2,a3⟩:=a
 obtain⟨b1,b2,b3⟩:=b
 simp only[Sp.mk.injEq]
 constructor
 ·rintro⟨rfl,rfl,rfl⟩
  exact⟨rfl,rfl,rfl⟩
 ·rintro⟨h1,h2,h3⟩
  exact⟨Int.ofNat.inj h1,Int.ofNat.inj h2,h3⟩
set_option maxHeartbeats 1000000 in
set_option maxRecDepth 100000 in
theorem eql_sp (a b:Sp) (w:World):(binOp .eql 33 (.agg (encU a)) (.agg (encU b))).run Tryz.prog w=.ok (.bool (decide (a=b))) w:=by
 have h:(Op.equalIn (9999 + 1) 33 (.agg (encU a)) (.agg (encU b))).run Tryz.prog w=.ok (decide (a=b)) w:=by
  rw[run_equalIn_struct w 9999 33 _ _ Tryz.undSp (by kernel_rfl)]
  have hd:decide (a=b)=decide ((a.role:Int)=(b.role:Int)∧(a.peer:Int)=(b.peer:Int)∧a.msg=b.msg):=decide_eq_decide.2 sp_ext
  rw[hd]
  simp[go_sem,encU,Tryz.underlying33]
  obtain⟨a1,a2,a3⟩:=a
  obtain⟨b1,b2,b3⟩:=b
  simp only[txt_iff]
  clear hd
  repeat' split
  all_goals simp[*]
 simp only[binOp]
 simp[show Op.equal 33 (.agg (encU a)) (.agg (encU b))=Op.equalIn (9999 + 1) 33 (.agg (encU a)) (.agg (encU b)) from rfl,h]
set_option maxHeartbeats 1000000 in
theorem inSp_any (v:Value) (xs:List Sp) (y:Sp) (w:World) (h:Arr 3 SuAt w v xs) (hl:xs.length≤5000) :
  Calls Tryz.prog 148 #[v,.agg (encU y)] w (Ret (.int .i64 (ixf (fun x=>decide (y=x)) xs)) (Frm [] w)):=by
 obtain⟨ao,cap,rfl,hx⟩:=h
 have HX:=Lib.hid hx
 obtain⟨n,hn⟩:∃ n,xs.length=n:=⟨_,rfl⟩
 rw[hn] at hl ⊢
 have HN:=Lib.hid hn
 obtain⟨W0,hW0⟩:∃ W0,w.alloc (.cells (encU y) 33)=W0:=⟨_,rfl⟩
 have HW0:Hid (Frm [] w W0):=Lib.hid (by rw[← hW0];exact(Frm.refl _ _).alloc _)
 have HB:Hid (W0.heap[w.heap.size]?=some (.cells (encU y) 33 (0,0))):=Lib.hid (by rw[← hW0];exact heap_alloc_new w _)
 have HE:=Lib.hid hW0
 clear hx hn hW0
 go_enter Tryz.func148,Tryz.ntmps148
 go_wp2_with (refine wpList_box_row rfl 33 _ rfl (encU y) rfl ?_;rw[HE.out])
 clear HE
 go_loopw [8,5] (fun s8 s5 wr=>∃ i:Nat,s8=.int .i64 i∧i≤n∧Frm [] W0 wr∧∀ j x,j < i→xs[j]?=some x→decide (y=x)=false) (fun s8 _ _=>n - (intOf s8).toNat)
 case atStart=>exact⟨0,rfl,Nat.zero_le _,Frm.refl _ _,fun j x hj=>by omega⟩
 case round =>
  obtain⟨i,rfl,hi,hf,hno⟩:=hrel
  have HF:=Lib.hid hf;have HNO:=Lib.hid hno
  clear hf hno
  by_cases hlt:i < n
  ·have hlt':(i:Int) < (n:Int):=by omega
   obtain⟨x,hx⟩:∃ x,xs[i]?=some x:=⟨_,List.getElem?_eq_getElem (by rw[HN.out];exact hlt)⟩
   obtain⟨b,o,rfl,hat⟩:=HX.out i x hx
   obtain⟨c0,c1,c2⟩:=hat.frm (HW0.out.trans HF.out)
   have hbb:=HF.out.at HB.out (by simp)
   have d0:wr.cell? ⟨w.heap.size,0,none⟩=some (.int .i64 y.role):=cell_of hbb 0
   have d1:wr.cell? ⟨w.heap.size,1,none⟩=some (.int .i64 y.peer):=cell_of hbb 1
   have d2:wr.cell? ⟨w.heap.size,2,none⟩=some (.string y.msg):=cell_of hbb 2
   have hq:∀ V,(binOp .eql 33 (suV y) (suV x)).run Tryz.prog V=.ok (.bool (decide (y=x))) V:=fun V=>eql_sp y x V
   have HXI:=Lib.hid hx
   clear hat hx hbb
   cases hpx:decide (y=x) with
   | true =>
     rw[hpx] at hq
     have HPX:=Lib.hid hpx
     clear hpx
     go_wp2
     go_quiet (fail)
     go_wp2
     go_ret
     exact⟨by rw[ixf_some HXI.out HPX.out HNO.out];rfl,HW0.out.trans (HF.out.drewN _)⟩
   | false =>
     rw[hpx] at hq
     have HPX:=Lib.hid hpx
     clear hpx
     go_wp2
     go_quiet (fail)
     go_wp2
     refine⟨⟨i + 1,by simp,hlt,HF.out.drewN _,fun j z hj hz=>?_⟩,by simp[intOf];omega⟩
     by_cases e:j=i
     ·subst e;rw[HXI.out] at hz;cases hz;exact HPX.out
     ·exact HNO.out j z (by omega) hz
  ·have hge:¬ (i:Int) < (n:Int):=by omega
   go_wp2
   go_ret
   refine⟨?_,HW0.out.trans HF.out⟩
   have e:=ixf_none (p:=fun x=>decide (y=x)) (l:=xs) fun x hx=>by
    obtain⟨j,hj⟩:=List.getElem?_of_mem hx
    exact HNO.out j x (by have:=lt_of_some hj;rw[HN.out] at this;omega) hj
   rw[e];rfl
theorem mem_ixu {xs:List Sp} {y:Sp}:decide (0≤ixf (fun x=>decide (y=x)) xs)=decide (y∈xs):=by
 by_cases h:y∈xs
 ·rw[decide_eq_true (ixf_ex (p:=fun x=>decide (y=x)) h (by simp)),decide_eq_true h]
 ·rw[decide_eq_false h,decide_eq_false]
  intro h2
  obtain⟨i,hi,-⟩:=ixf_nat h2
  obtain⟨x,h3,h4,-⟩:=ixf_at hi
  rw[decide_eq_true_eq] at h4
  subst h4
  exact h (List.mem_of_getElem? h3)
set_option maxHeartbeats 1000000 in
theorem coSp_any (v:Value) (xs:List Sp) (y:Sp) (w:World) (h:Arr 3 SuAt w v xs) (hl:xs.length≤5000) :
  Calls Tryz.prog 78 #[v,.agg (encU y)] w (Ret (.bool (decide (y∈xs))) (Frm [] w)):=by
 obtain⟨ao,cap,e,-⟩:=id h
 subst e
 have hf0:Frm [] w (w.alloc (.cells (encU y) 33)):=(Frm.refl _ _).alloc _
 have C1:=Lib.hid (inSp_any (.slice ao xs.length cap) xs y (w.alloc (.cells (encU y) 33)) (h.frm fun _ _ _ h=>h.frm hf0) hl)
 have HF0:=Lib.hid hf0
 rw[← mem_ixu]
 obtain⟨q,hq⟩:∃ q,ixf (fun x=>decide (y=x)) xs=q:=⟨_,rfl⟩
 rw[hq] at C1 ⊢
 have hb:(w.alloc (.cells (encU y) 33)).heap[w.heap.size]?=some (.cells (encU y) 33 (0,0)):=heap_alloc_new w _
 obtain⟨W0,hW0⟩:∃ W0,w.alloc (.cells (encU y) 33)=W0:=⟨_,rfl⟩
 rw[hW0] at C1 HF0 hb
 have HB:=Lib.hid hb
 have HW:=Lib.hid hW0
 clear h hf0 hq hW0 hb
 go_enter Tryz.func78,Tryz.ntmps78
 go_wp2_with (first
  | (refine wpList_box_row rfl 33 _ rfl (encU y) rfl ?_;rw[HW.out])
  | (refine wpList_load_whole rfl 33 _ rfl _ rfl _ 33 HB.out _ Tryz.underlying33 rfl (by kernel_rfl) ?_)
  | (go_at_call 148;go_must (refine C1.out.mono ?_;rintro e w1 ⟨rfl,hf1⟩;have HF1:=Lib.hid hf1;clear hf1)))
 go_ret
 exact⟨rfl,HF0.out.trans HF1.out⟩
theorem ixf_anyS (p:StpD→Bool) (l:List StpD):decide (0≤ixf p l)=l.any p:=by
 rw[Bool.eq_iff_iff,decide_eq_true_eq,List.any_eq_true]
 constructor
 ·intro h
  obtain⟨i,hi,-⟩:=ixf_nat h
  obtain⟨x,h1,h2,-⟩:=ixf_at hi
  exact⟨x,List.mem_of_getElem? h1,h2⟩
 ·rintro⟨x,h1,h2⟩
  exact ixf_ex h1 h2
set_option maxRecDepth 100000 in
theorem cfStep_any (K:FuncId) (caps:Array Value) (p:StpD→Bool) (v:Value) (xs:List StpD) (w:World) (h:Arr 9 SpAt w v xs) (hl:xs.length≤1000) (hK:∀ args w,(callFunc K args).run Tryz.prog w=.ok (.enter K args) w)
  (hp:∀ W x,Frm [] w W→x∈xs→Calls Tryz.prog K (#[stpV x] ++ caps) W (Ret (.bool (p x)) (Frm [] W))) :
  Calls Tryz.prog 76 #[v,.func (.func K) #[] caps] w (Ret (.bool (xs.any p)) (Frm [] w)):=by
 have CI:=Lib.hid (ifStep_any K caps p v xs w h hl hK hp)
 obtain⟨ao,cq,rfl⟩:=Arr.shape h
 rw[← ixf_anyS]
 obtain⟨q,hq⟩:∃ q,ixf p xs=q:=⟨_,rfl⟩
 rw[hq] at CI ⊢
 clear h hl hq hp
 go_enter Tryz.func76,Tryz.ntmps76
 go_wp2_with (go_at_call 147;go_must (refine CI.out.mono ?_;rintro e w1 ⟨rfl,hf⟩;have HF:=Lib.hid hf;clear hf))
 go_ret
 exact⟨rfl,HF.out⟩
end Go.Proofs.YtohfkhjlnlahdaaGreat
namespace Go.Proofs.YtohfkhjlnlahdaaGreat
open Go.RowKit Go.BigFrame
set_option maxRecDepth 100000 in
theorem Tryz.call_xpNever1 (args:Array Value) (w:World):(callFunc 77 args).run Tryz.prog w=.ok (.enter 77 args) w:=by kernel_rfl
def recvB (m pn:ByteArray) (x:StpD):Bool:=decide (x.kind=2) && decide (x.msg=m) && decide (x.peer=pn)
set_option maxHeartbeats 2000000 in
set_option maxRecDepth 100000 in
theorem xpNever1_any (bt bo:Nat) (m pn:ByteArray) (x:StpD) (w:World) (h1:w.cell? ⟨bt,3,none⟩=some (.string m)) (h2:w.cell? ⟨bo,0,none⟩=some (.string pn)) :
  Calls Tryz.prog 77 #[stpV x,.pointer (some ⟨bt,0,none⟩),.pointer (some ⟨bo,0,none⟩)] w (Ret (.bool (recvB m pn x)) (Frm [] w)):=by
 obtain⟨W0,hW0⟩:∃ W0,w.alloc (.cells #[.string x.frm,.string x.to,.int .i64 x.kind,.string x.msg,.string x.peer,.string x.ctr,.int .i64 x.low,.int .i64 x.high,.int .i64 x.add] 137)=W0:=⟨_,rfl⟩
 have hf0:Frm [] w W0:=by rw[← hW0];exact(Frm.refl _ _).alloc _
 have hb:W0.heap[w.heap.size]?=some (.cells #[.string x.frm,.string x.to,.int .i64 x.kind,.string x.msg,.string x.peer,.string x.ctr,.int .i64 x.low,.int .i64 x.high,.int .i64 x.add] 137 (0,0)):=by rw[← hW0];exact heap_alloc_new _ _
 have x2:=cell_of hb 2
 have x3:=cell_of hb 3
 have x4:=cell_of hb 4
 have y1:=hf0.keep h1
 have y2:=hf0.keep h2
 have HF0:=Lib.hid hf0;have HE:=Lib.hid hW0
 clear h1 h2 hf0 hW0 hb
 go_enter Tryz.func77,Tryz.ntmps77
 go_upto_region 1 with (first | (refine wpList_box_row rfl 137 _ rfl _ rfl ?_;rw[HE.out]))
 clear HE
 by_cases hk:x.kind=2
 ·have b2:(x.kind == 2)=true:=by simpa using hk
  have HK:Hid (decide (x.kind=2)=true):=Lib.hid (decide_eq_true hk)
  clear hk
  by_cases hm:x.msg=m
  ·have b3:(x.msg.toList == m.toList)=true:=by rw[str_beq,decide_eq_true hm]
   have HM:Hid (decide (x.msg=m)=true):=Lib.hid (decide_eq_true hm)
   have b4:(x.peer.toList == pn.toList)=decide (x.peer=pn):=str_beq ..
   clear hm
   go_wp2
   go_ret
   refine⟨?_,HF0.out⟩
   unfold recvB
   rw[HK.out,HM.out]
   simp
  ·have b3:(x.msg.toList == m.toList)=false:=by rw[str_beq,decide_eq_false hm]
   have HM:Hid (decide (x.msg=m)=false):=Lib.hid (decide_eq_false hm)
   clear hm
   go_wp2
   go_ret
   refine⟨?_,HF0.out⟩
   unfold recvB
   rw[HK.out,HM.out]
   simp
 ·have b2:(x.kind == 2)=false:=by simpa using hk
  have HK:Hid (decide (x.kind=2)=false):=Lib.hid (decide_eq_false hk)
  clear hk
  go_wp2
  go_ret
  refine⟨?_,HF0.out⟩
  unfold recvB
  rw[HK.out]
  simp
section
variable {s:SesD}
theorem nevStep_len (i p k:Nat) (out:List Sp):(nevStep s i p k out).length≤out.length + 1:=by
 unfold nevStep addNew
 split
 ·split <;> simp
 ·omega
theorem nevSteps_len (i p:Nat) (out:List Sp):∀ n,(nevSteps s i p out n).length≤out.length + n
 | 0=>Nat.le_refl _
 | n + 1=>by
   rw[nevSteps]
   have h1:=nevStep_len (s:=s) i p n (nevSteps s i p out n)
   have h2:=nevSteps_len i p out n
   omega
theorem nevPeers_len (hb:∀ r∈s.roles,r.steps.length≤12) (i:Nat) (out:List Sp):∀ n,n≤s.roles.length→(nevPeers s i out n).length≤out.length + n * 12
 | 0,_=>by simp[nevPeers]
 | n + 1,h=>by
   rw[nevPeers]
   have h1:=nevSteps_len (s:=s) i n (nevPeers s i out n) (s.rol n).steps.length
   have h2:=nevPeers_len hb i out n (by omega)
   have h3:=hb (s.rol n) (List.mem_of_getElem? (SesD.rol_some (by omega)))
   omega
theorem nevRoles_len (hb:∀ r∈s.roles,r.steps.length≤12) (h4:s.roles.length≤4):∀ n,n≤s.roles.length→(nevRoles s n).length≤n * 48
 | 0,_=>by simp[nevRoles]
 | n + 1,h=>by
   rw[nevRoles]
   have h1:=nevPeers_len hb n (nevRoles s n) s.roles.length (Nat.le_refl _)
   have h2:=nevRoles_len hb h4 n (by omega)
   omega
end
structure NvI (w W1:World) (L:List Sp) (v:Value) (W:World):Prop where
 fr:Frm [] w W
 row:W.ownsRow w.heap.size 33 3 v L.length (suC L)
 kt:Kt [33] W1 W
set_option maxHeartbeats 8000000 in
set_option maxRecDepth 100000 in
theorem xpNever_any (s:SesD) (v:Value) (w:World) (hv:SesV w v s) (h4:s.roles.length≤4) (hb:∀ r∈s.roles,r.steps.length≤12) :
  Calls Tryz.prog 24 #[v] w (RetV fun u w'=>w'.ownsRow w.heap.size 33 3 u (neverP s).length (suC (neverP s))∧Frm [] w w'):=by
 obtain⟨rv,rfl,hr⟩:=hv
 obtain⟨ra,rc,rfl⟩:=hr.shape
 obtain⟨n,hn⟩:∃ n,s.roles.length=n:=⟨_,rfl⟩
 have HR:=Lib.hid hr;have HN:=Lib.hid hn;have H4:=Lib.hid h4;have HBs:=Lib.hid hb
 have HWI:Hid (∀ i:Nat,i < n→wrap64 ((i:Int) + 1)=((i + 1:Nat):Int)):=Lib.hid fun i hi=>by unfold wrap64;omega
 rw[hn] at HR ⊢
 obtain⟨W0,hW0⟩:∃ W0,w.alloc (.cells #[.string s.name,.slice ra n rc,.int .i64 s.cls,.int .i64 s.cap] 25)=W0:=⟨_,rfl⟩
 have HF0:Hid (Frm [] w W0):=Lib.hid (by rw[← hW0];exact(Frm.refl _ _).alloc _)
 have HB0:Hid (W0.heap[w.heap.size]?=some (.cells #[.string s.name,.slice ra n rc,.int .i64 s.cls,.int .i64 s.cap] 25 (0,0))):=Lib.hid (by rw[← hW0];exact heap_alloc_new _ _)
 have HE:=Lib.hid hW0
 clear hr hn h4 hb hW0
 go_enter Tryz.func24,Tryz.ntmps24
 go_upto_region 1 with (first | (refine wpList_box_row rfl 25 _ rfl _ rfl ?_;rw[HE.out]))
 clear HE
 have z1:=cell_of HB0.out 1
 go_upto_region 2 with fail
 clear z1
 go_loopw [14,2] (fun s14 s2 wr=>∃ i:Nat,s14=.int .i64 i∧i≤n∧NvI w W0 (nevRoles s i) s2 wr) (fun s14 _ _=>n - (intOf s14).toNat)
 case atStart=>exact⟨0,rfl,Nat.zero_le _,HF0.out,World.ownsRow_nil _ _ _ _,Kt.refl _ _⟩
 case round =>
  obtain⟨i,rfl,hi,hnv⟩:=hrel
  obtain⟨av,cv',hsh⟩:=own_shape hnv.row
  subst hsh
  have HI:=Lib.hid hnv
  clear hnv
  obtain⟨wa,hwa⟩:∃ wa,wa=wr:=⟨_,rfl⟩
  subst hwa
  by_cases hlt:i < n
  ·have hlt':(i:Int) < (n:Int):=by omega
   have hin:i < s.roles.length:=by rw[HN.out];exact hlt
   obtain⟨rb,ro,e1,sv,cv,tv,d0,d1,d2,d3,hr3⟩:=HR.out.get (SesD.rol_some hin)
   subst e1
   obtain⟨r,hrr⟩:∃ r,s.rol i=r:=⟨_,rfl⟩
   rw[hrr] at d0 hr3
   obtain⟨aS,cS,rfl⟩:=hr3.sts.shape
   obtain⟨aC,cC,rfl⟩:=hr3.ctrs.shape
   obtain⟨aT,cT,rfl⟩:=hr3.steps.shape
   have HR3:=Lib.hid hr3;have HIN:=Lib.hid hin;have HRR:=Lib.hid hrr
   have HRL:Hid (r.steps.length≤12):=Lib.hid (by rw[← hrr];exact HBs.out _ (List.mem_of_getElem? (SesD.rol_some hin)))
   replace d0:=HI.out.fr.keep d0;replace d1:=HI.out.fr.keep d1;replace d2:=HI.out.fr.keep d2;replace d3:=HI.out.fr.keep d3
   have hrl:=cell_lt d0
   clear hr3 hin hrr
   go_upto_region 4 with fail
   clear d0 d1 d2 d3 hrl
   obtain⟨V0,hV0⟩:∃ V0,wa.alloc (.cells #[.string r.name,.slice aS r.sts.length cS,.slice aC r.ctrs.length cC,.slice aT r.steps.length cT] 87)=V0:=⟨_,rfl⟩
   obtain⟨b4,hb4⟩:∃ b,wa.heap.size=b:=⟨_,rfl⟩
   have F0:Hid (Frm [] wa V0):=Lib.hid (by rw[← hV0];exact(Frm.refl [] wa).alloc _)
   have Q4:Hid (V0.heap[b4]?=some (.cells #[.string r.name,.slice aS r.sts.length cS,.slice aC r.ctrs.length cC,.slice aT r.steps.length cT] 87 (0,0))):=Lib.hid (by rw[← hV0,← hb4];exact heap_alloc_new _ _)
   rw[hV0,hb4]
   clear hV0 hb4
   have HI0:Hid (NvI w V0 (nevPeers s i (nevRoles s i) 0) (.slice av (nevRoles s i).length cv') V0):=Lib.hid ⟨HI.out.fr.trans F0.out,F0.out.owns HI.out.row (by simp),Kt.refl _ _⟩
   have KT0:Hid (Kt [33] W0 V0):=Lib.hid (HI.out.kt.trans (Kt.frm F0.out))
   have z1:=cell_of (KT0.out.cells HB0.out (by decide)) 1
   go_upto_region 5 with fail
   clear z1
   go_loopw [22,2] (fun s22 s2 wr=>∃ p:Nat,s22=.int .i64 p∧p≤n∧NvI w V0 (nevPeers s i (nevRoles s i) p) s2 wr) (fun s22 _ _=>n - (intOf s22).toNat)
   case atStart=>exact⟨0,rfl,Nat.zero_le _,HI0.out⟩
   case round =>
    obtain⟨p,rfl,hp,hnv⟩:=hrel
    obtain⟨av1,cv1,hsh⟩:=own_shape hnv.row
    subst hsh
    have HJ:=Lib.hid hnv
    clear hnv
    obtain⟨wb,hwb⟩:∃ wb,wb=wr:=⟨_,rfl⟩
    subst hwb
    by_cases hltp:p < n
    ·have hltp':(p:Int) < (n:Int):=by omega
     have hpn:p < s.roles.length:=by rw[HN.out];exact hltp
     obtain⟨rb',ro',e1',sv',cv2,tv',d0,d1,d2,d3,hr3'⟩:=HR.out.get (SesD.rol_some hpn)
     cases e1'
     obtain⟨o,hoo⟩:∃ o,s.rol p=o:=⟨_,rfl⟩
     rw[hoo] at d0 hr3'
     obtain⟨aS',cS',rfl⟩:=hr3'.sts.shape
     obtain⟨aC',cC',rfl⟩:=hr3'.ctrs.shape
     obtain⟨aT',cT',rfl⟩:=hr3'.steps.shape
     have HR3':=Lib.hid hr3';have HPN:=Lib.hid hpn;have HOO:=Lib.hid hoo
     have HOL:Hid (o.steps.length≤12):=Lib.hid (by rw[← hoo];exact HBs.out _ (List.mem_of_getElem? (SesD.rol_some hpn)))
     replace d0:=HJ.out.fr.keep d0;replace d1:=HJ.out.fr.keep d1;replace d2:=HJ.out.fr.keep d2;replace d3:=HJ.out.fr.keep d3
     have hrl:=cell_lt d0
     clear hr3' hpn hoo
     go_upto_region 7 with fail
     clear d0 d1 d2 d3 hrl
     obtain⟨V1,hV1⟩:∃ V1,wb.alloc (.cells #[.string o.name,.slice aS' o.sts.length cS',.slice aC' o.ctrs.length cC',.slice aT' o.steps.length cT'] 87)=V1:=⟨_,rfl⟩
     obtain⟨b6,hb6⟩:∃ b,wb.heap.size=b:=⟨_,rfl⟩
     have F1:Hid (Frm [] wb V1):=Lib.hid (by rw[← hV1];exact(Frm.refl [] wb).alloc _)
     have Q6:Hid (V1.heap[b6]?=some (.cells #[.string o.name,.slice aS' o.sts.length cS',.slice aC' o.ctrs.length cC',.slice aT' o.steps.length cT'] 87 (0,0))):=Lib.hid (by rw[← hV1,← hb6];exact heap_alloc_new _ _)
     rw[hV1,hb6]
     clear hV1 hb6
     have HJ1:Hid (NvI w V1 (nevSteps s i p (nevPeers s i (nevRoles s i) p) 0) (.slice av1 (nevPeers s i (nevRoles s i) p).length cv1) V1):=Lib.hid ⟨HJ.out.fr.trans F1.out,F1.out.owns HJ.out.row (by simp),Kt.refl _ _⟩
     have KT1:Hid (Kt [33] V0 V1):=Lib.hid (HJ.out.kt.trans (Kt.frm F1.out))
     have Q41:=Lib.hid (KT1.out.cells Q4.out (by decide))
     have z3:=cell_of Q6.out 3
     obtain⟨m,hm⟩:∃ m,o.steps.length=m:=⟨_,rfl⟩
     have HMm:=Lib.hid hm
     rw[hm] at Q6 z3 ⊢
     have HWK:Hid (∀ k:Nat,k < m→wrap64 ((k:Int) + 1)=((k + 1:Nat):Int)):=Lib.hid fun k hk=>by
      have:=HOL.out
      unfold wrap64;omega
     clear hm
     go_upto_region 8 with fail
     clear z3
     go_loopw [30,2] (fun s30 s2 wr=>∃ k:Nat,s30=.int .i64 k∧k≤m∧NvI w V1 (nevSteps s i p (nevPeers s i (nevRoles s i) p) k) s2 wr) (fun s30 _ _=>m - (intOf s30).toNat)
     case atStart=>exact⟨0,rfl,Nat.zero_le _,HJ1.out⟩
     case round =>
      obtain⟨k,rfl,hk,hnv⟩:=hrel
      obtain⟨av2,cv3,hsh⟩:=own_shape hnv.row
      subst hsh
      have HK:=Lib.hid hnv
      clear hnv
      obtain⟨wc,hwc⟩:∃ wc,wc=wr:=⟨_,rfl⟩
      subst hwc
      by_cases hltk:k < m
      ·have hltk':(k:Int) < (m:Int):=by omega
       obtain⟨t,ht⟩:∃ t,o.steps[k]?=some t:=⟨_,List.getElem?_eq_getElem (by rw[HMm.out];exact hltk)⟩
       have htk:(s.rol p).stp k=t:=by rw[HOO.out];exact getD_some ht
       obtain⟨tb,tq,etb,k0,k1,k2,k3,k4,k5,k6,k7,k8⟩:=HR3'.out.steps.get ht
       subst etb
       replace k0:=HK.out.fr.keep k0;replace k1:=HK.out.fr.keep k1;replace k2:=HK.out.fr.keep k2;replace k3:=HK.out.fr.keep k3;replace k4:=HK.out.fr.keep k4
       replace k5:=HK.out.fr.keep k5;replace k6:=HK.out.fr.keep k6;replace k7:=HK.out.fr.keep k7;replace k8:=HK.out.fr.keep k8
       have hkl:=cell_lt k0
       have HTK:=Lib.hid htk
       obtain⟨L,hL⟩:∃ L,nevSteps s i p (nevPeers s i (nevRoles s i) p) k=L:=⟨_,rfl⟩
       have HLL:Hid (L.length≤300):=Lib.hid (by
        rw[← hL]
        have a1:=nevSteps_len (s:=s) i p (nevPeers s i (nevRoles s i) p) k
        have a2:=nevPeers_len HBs.out i (nevRoles s i) p (by have:=HPN.out;omega)
        have a3:=nevRoles_len HBs.out H4.out i (by have:=HIN.out;omega)
        have:=H4.out;have:=HN.out;have:=HOL.out;have:=HMm.out
        omega)
       have HSN:Hid (nevSteps s i p (nevPeers s i (nevRoles s i) p) (k + 1)=if nevT s i p t then addNew L ⟨i,p,t.msg⟩ else L):=Lib.hid (by
        rw[nevSteps,hL]
        unfold nevStep
        rw[htk])
       rw[hL] at HK ⊢
       clear ht htk hL
       go_upto_region 11 with fail
       clear k0 k1 k2 k3 k4 k5 k6 k7 k8 hkl
       obtain⟨V3,hV3⟩:∃ V,(wc.alloc (.cells #[.string t.frm,.string t.to,.int .i64 t.kind,.string t.msg,.string t.peer,.string t.ctr,.int .i64 t.low,.int .i64 t.high,.int .i64 t.add] 137)).alloc (.cells #[.int .i64 i,.int .i64 p,.string t.msg] 33)=V:=⟨_,rfl⟩
       obtain⟨b9,hb9⟩:∃ b,wc.heap.size + 1=b:=⟨_,rfl⟩
       obtain⟨b8,hb8⟩:∃ b,wc.heap.size=b:=⟨_,rfl⟩
       have F3:Hid (Frm [] wc V3):=Lib.hid (by rw[← hV3];exact((Frm.refl [] wc).alloc _).alloc _)
       have Q8:Hid (V3.heap[b8]?=some (.cells #[.string t.frm,.string t.to,.int .i64 t.kind,.string t.msg,.string t.peer,.string t.ctr,.int .i64 t.low,.int .i64 t.high,.int .i64 t.add] 137 (0,0))):=Lib.hid (by rw[← hV3,← hb8];exact alloc_at (heap_alloc_new _ _))
       have Q9:Hid (V3.heap[b9]?=some (.cells #[.int .i64 i,.int .i64 p,.string t.msg] 33 (0,0))):=Lib.hid (by rw[← hV3,← hb9];exact alloc_top (by simp))
       rw[hV3,hb9,hb8]
       clear hV3 hb8 hb9
       have HK3:Hid (NvI w V1 L (.slice av2 L.length cv3) V3):=Lib.hid ⟨HK.out.fr.trans F3.out,F3.out.owns HK.out.row (by simp),HK.out.kt.trans (Kt.frm F3.out)⟩
       have Q43:=Lib.hid (HK3.out.kt.cells Q41.out (by decide))
       have Q63:=Lib.hid (HK3.out.kt.cells Q6.out (by decide))
       have CF:=Lib.hid (cfStep_any 77 #[.pointer (some ⟨b8,0,none⟩),.pointer (some ⟨b6,0,none⟩)] (recvB t.msg o.name) (.slice aT r.steps.length cT) r.steps V3 (HR3.out.steps.frm fun _ _ _ h=>h.frm HK3.out.fr) (by have:=HRL.out;omega) Tryz.call_xpNever1
        (fun W x hW _=>xpNever1_any b8 b6 t.msg o.name x W (hW.keep (cell_of Q8.out 3)) (hW.keep (cell_of Q63.out 0))))
       have HHD:Hid (r.steps.any (recvB t.msg o.name)=heardB s i p t.msg):=Lib.hid (by rw[← HRR.out,← HOO.out];rfl)
       obtain⟨hd,hhd⟩:∃ b,r.steps.any (recvB t.msg o.name)=b:=⟨_,rfl⟩
       rw[hhd] at CF HHD
       have z4:=cell_of Q43.out 3
       clear hhd
       go_upto_region 12 with (first
        | (go_at_call 76;go_must (refine CF.out.mono ?_;rintro e w4 ⟨rfl,hf4⟩;have HF4:=Lib.hid hf4;clear hf4 CF z4)))
       have HK4:Hid (NvI w V1 L (.slice av2 L.length cv3) w4):=Lib.hid ⟨HK3.out.fr.trans HF4.out,HF4.out.owns HK3.out.row (by simp),HK3.out.kt.trans (Kt.frm HF4.out)⟩
       have Q84:=Lib.hid (HF4.out.at Q8.out (by simp))
       have Q94:=Lib.hid (HF4.out.at Q9.out (by simp))
       have Q44:=Lib.hid (HF4.out.at Q43.out (by simp))
       have e2:=cell_of Q84.out 2
       have e4:=cell_of Q84.out 4
       have r0:=cell_of Q44.out 0
       have u0:=cell_of Q94.out 0
       have u1:=cell_of Q94.out 1
       have u2:=cell_of Q94.out 2
       have HNT:Hid (nevT s i p t=(decide (i≠p) && decide (t.kind=1) && decide (t.peer=r.name) && !hd)):=Lib.hid (by unfold nevT;rw[← HHD.out,HRR.out])
       by_cases hip:i=p
       ·have q1:((i:Int) != (p:Int))=false:=by rw[hip];simp
        have HS2:Hid (nevSteps s i p (nevPeers s i (nevRoles s i) p) (k + 1)=L):=Lib.hid (by rw[HSN.out,HNT.out,decide_eq_false (by simp[hip])];rfl)
        clear hip
        go_wp2
        exact⟨⟨k + 1,congrArg (Value.int .i64) (HWK.out k hltk),hltk,by rw[HS2.out];exact HK4.out⟩,meas_up hltk (HWK.out k hltk)⟩
       ·have q1:((i:Int) != (p:Int))=true:=by simp;omega
        have HIP:Hid (decide (i≠p)=true):=Lib.hid (decide_eq_true hip)
        by_cases hk1:t.kind=1
        ·have q2:(t.kind == 1)=true:=by simpa using hk1
         have HK1:Hid (decide (t.kind=1)=true):=Lib.hid (decide_eq_true hk1)
         by_cases hpe:t.peer=r.name
         ·have q3:(t.peer.toList == r.name.toList)=true:=by rw[str_beq,decide_eq_true hpe]
          have HPE:Hid (decide (t.peer=r.name)=true):=Lib.hid (decide_eq_true hpe)
          clear hip hk1 hpe
          cases hd with
          | true =>
            have HS2:Hid (nevSteps s i p (nevPeers s i (nevRoles s i) p) (k + 1)=L):=Lib.hid (by rw[HSN.out,HNT.out];simp)
            go_wp2
            exact⟨⟨k + 1,congrArg (Value.int .i64) (HWK.out k hltk),hltk,by rw[HS2.out];exact HK4.out⟩,meas_up hltk (HWK.out k hltk)⟩
          | false =>
            have HS1:Hid (nevSteps s i p (nevPeers s i (nevRoles s i) p) (k + 1)=addNew L ⟨i,p,t.msg⟩):=Lib.hid (by rw[HSN.out,HNT.out,HIP.out,HK1.out,HPE.out];rfl)
            have CC:=Lib.hid (coSp_any (.slice av2 L.length cv3) L ⟨i,p,t.msg⟩ w4 (su_arr HK4.out.row) (by have:=HLL.out;omega))
            by_cases hmem:(⟨i,p,t.msg⟩:Sp)∈L
            ·have HS2:Hid (nevSteps s i p (nevPeers s i (nevRoles s i) p) (k + 1)=L):=Lib.hid (by rw[HS1.out];unfold addNew;rw[if_pos hmem])
             rw[decide_eq_true hmem] at CC
             clear hmem
             go_wp2_with (first
              | (go_at_call 78;go_must (refine CC.out.mono ?_;rintro e w5 ⟨rfl,hf5⟩;have HF5:=Lib.hid hf5;clear hf5 CC)))
             exact⟨⟨k + 1,congrArg (Value.int .i64) (HWK.out k hltk),hltk,by rw[HS2.out];exact⟨HK4.out.fr.trans HF5.out,HF5.out.owns HK4.out.row (by simp),HK4.out.kt.trans (Kt.frm HF5.out)⟩⟩,meas_up hltk (HWK.out k hltk)⟩
            ·have HS2:Hid (nevSteps s i p (nevPeers s i (nevRoles s i) p) (k + 1)=L ++ [⟨i,p,t.msg⟩]):=Lib.hid (by rw[HS1.out];unfold addNew;rw[if_neg hmem])
             rw[decide_eq_false hmem] at CC
             clear hmem
             go_upto_region 13 with (first
              | (go_at_call 78;go_must (refine CC.out.mono ?_;rintro e w5 ⟨rfl,hf5⟩;have HF5:=Lib.hid hf5;clear hf5 CC)))
             clear e2 e4 r0 u0 u1 u2
             have HK5:Hid (NvI w V1 L (.slice av2 L.length cv3) w5):=Lib.hid ⟨HK4.out.fr.trans HF5.out,HF5.out.owns HK4.out.row (by simp),HK4.out.kt.trans (Kt.frm HF5.out)⟩
             have hu:=HF5.out.at Q94.out (by simp)
             have u0:=cell_of hu 0
             have u1:=cell_of hu 1
             have u2:=cell_of hu 2
             obtain⟨i0,hi0,hz0,hz1,hz2⟩:=info_parts Tryz.infoSu
             have hsz:w.heap.size≤(w5.alloc (.cells #[.int .i64 i,.int .i64 p,.string t.msg] 33)).heap.size:=by have:=HK5.out.fr.size;simp;omega
             have hLL:=HLL.out
             clear hu
             go_wp2_with (at_builtin;refine wpList_append_own_at _ rfl _ _ 45 rfl w.heap.size 33 i0 (.agg #[.int .i64 0,.int .i64 0,.string { data:=#[] }]) 3 32 Tryz.underlying45 hi0 hz0 hz1 hz2 rfl (by decide) (.slice av2 L.length cv3) L.length (suC L) rfl (HK5.out.row.alloc _) ⟨w5.heap.size,0,none⟩ 1 1 (suC1 ⟨i,p,t.msg⟩) rfl rfl (new_row _ _ _) (by simp[suC1,Value.oneCell']) (by unfold maxLen;omega) (by omega) hsz ?_;intro v' w6 hown' hgrow _ _;obtain⟨ao',cp',rfl⟩:=own_shape hown';have HG:=Lib.hid hgrow;have HO:=Lib.hid hown';clear hgrow hown')
             have hge:∀ q,(Value.slice av2 L.length cv3).ownBlock=some q→w.heap.size≤q:=fun q hq=>ownBlock_ge HK5.out.row hq
             have HK6:Hid (NvI w V1 (L ++ [⟨i,p,t.msg⟩]) (.slice ao' (L.length + 1) cp') w6):=Lib.hid ⟨(HK5.out.fr.alloc _).grown HG.out (fun q hq=>.inr (hge q hq)),by rw[suC_append,List.length_append];exact HO.out,(HK5.out.kt.alloc _).grown HG.out (fun q hq=>by
              obtain⟨c,hc⟩:=ownBlock_type HK5.out.row hq
              exact⟨c,33,(0,0),alloc_at hc,by simp⟩)⟩
             exact⟨⟨k + 1,congrArg (Value.int .i64) (HWK.out k hltk),hltk,by rw[HS2.out];exact HK6.out⟩,meas_up hltk (HWK.out k hltk)⟩
         ·have q3:(t.peer.toList == r.name.toList)=false:=by rw[str_beq,decide_eq_false hpe]
          have HS2:Hid (nevSteps s i p (nevPeers s i (nevRoles s i) p) (k + 1)=L):=Lib.hid (by rw[HSN.out,HNT.out,decide_eq_false hpe];simp)
          clear hip hk1 hpe
          go_wp2
          exact⟨⟨k + 1,congrArg (Value.int .i64) (HWK.out k hltk),hltk,by rw[HS2.out];exact HK4.out⟩,meas_up hltk (HWK.out k hltk)⟩
        ·have q2:(t.kind == 1)=false:=by simpa using hk1
         have HS2:Hid (nevSteps s i p (nevPeers s i (nevRoles s i) p) (k + 1)=L):=Lib.hid (by rw[HSN.out,HNT.out,decide_eq_false hk1];simp)
         clear hip hk1
         go_wp2
         exact⟨⟨k + 1,congrArg (Value.int .i64) (HWK.out k hltk),hltk,by rw[HS2.out];exact HK4.out⟩,meas_up hltk (HWK.out k hltk)⟩
      ·obtain rfl:m=k:=by omega
       have hge:¬ (m:Int) < (m:Int):=by omega
       have HP1:Hid (NvI w V0 (nevPeers s i (nevRoles s i) (p + 1)) (.slice av2 (nevSteps s i p (nevPeers s i (nevRoles s i) p) m).length cv3) wc):=Lib.hid (by
        rw[nevPeers,HOO.out,HMm.out]
        exact⟨HK.out.fr,HK.out.row,KT1.out.trans HK.out.kt⟩)
       go_wp2
       exact⟨⟨p + 1,congrArg (Value.int .i64) (HWI.out p hltp),hltp,HP1.out⟩,meas_up hltp (HWI.out p hltp)⟩
    ·obtain rfl:n=p:=by omega
     have hge:¬ (n:Int) < (n:Int):=by omega
     have HR1:Hid (NvI w W0 (nevRoles s (i + 1)) (.slice av1 (nevPeers s i (nevRoles s i) n).length cv1) wb):=Lib.hid (by
      rw[nevRoles,HN.out]
      exact⟨HJ.out.fr,HJ.out.row,KT0.out.trans HJ.out.kt⟩)
     go_wp2
     exact⟨⟨i + 1,congrArg (Value.int .i64) (HWI.out i hlt),hlt,HR1.out⟩,meas_up hlt (HWI.out i hlt)⟩
  ·obtain rfl:n=i:=by omega
   have hge:¬ (n:Int) < (n:Int):=by omega
   go_wp2
   go_ret
   exact⟨_,rfl,by have:=HI.out.row;unfold neverP;rw[HN.out];exact this,HI.out.fr⟩
end Go.Proofs.YtohfkhjlnlahdaaGreat
namespace Go.Proofs.YtohfkhjlnlahdaaGreat
open Go.RowKit Go.BigFrame
theorem setCells_at:∀ (vs:List Value) (o:Nat) (w:World) (b:Nat) (c:Array Value) (t:TypeId),w.heap[b]?=some (.cells c t (0,0))→o + vs.length≤c.size →
  ∃ c',(w.setCells b o vs).heap[b]?=some (.cells c' t (0,0))∧c'.size=c.size∧(∀ j,j < o∨o + vs.length≤j→c'[j]?=c[j]?)∧(∀ j v,vs[j]?=some v→c'[o + j]?=some v)∧Frm [b] w (w.setCells b o vs)
 | [],o,w,b,c,t,h,_=>⟨c,h,rfl,fun _ _=>rfl,fun j v h=>by simp at h,Frm.refl _ _⟩
 | v :: vs,o,w,b,c,t,h,hl=>by
   have hb:=block_setCell h o v
   simp only[List.length_cons] at hl
   obtain⟨c',h1,h2,h3,h4,h5⟩:=setCells_at vs (o + 1) (w.setCell ⟨b,o,none⟩ v) b _ t hb (by simp;omega)
   refine⟨c',h1,by simpa using h2,fun j hj=>?_,fun j u hu=>?_,((Frm.refl _ _).setCell _ (.inl (by simp)) _).trans h5⟩
   ·simp only[List.length_cons] at hj
    rw[h3 j (by omega),Array.getElem?_setIfInBounds_ne (by omega)]
   ·cases j with
    | zero =>
      simp at hu;subst hu
      rw[Nat.add_zero,h3 o (by omega),Array.getElem?_setIfInBounds_self_of_lt (by omega)]
    | succ j =>
      rw[show o + (j + 1)=o + 1 + j by omega]
      exact h4 j u (by simpa using hu)
def mv00:Mv:=⟨0,0,0,0⟩
def RvR (W:World) (g n:Nat) (M:Nat→Mv):Prop:=∃ cur,W.heap[g]?=some (.cells cur 44 (0,0))∧n * 4≤cur.size ∧
 ∀ k,k < n→cur[k * 4]?=some (.int .i64 (M k).kind)∧cur[k * 4 + 1]?=some (.int .i64 (M k).role)∧cur[k * 4 + 2]?=some (.int .i64 (M k).step)∧cur[k * 4 + 3]?=some (.int .i64 (M k).place)
theorem RvR.frm {W V:World} {g n:Nat} {M:Nat→Mv} (h:RvR W g n M) (hf:Frm [] W V):RvR V g n M:=by
 obtain⟨cur,h1,h2⟩:=h
 exact⟨cur,hf.at h1 (by simp),h2⟩
theorem RvR.at {W:World} {g n k:Nat} {M:Nat→Mv} (h:RvR W g n M) (hk:k < n):MvAt W g (k * 4) (M k):=by
 obtain⟨cur,h1,h2,h3⟩:=h
 obtain⟨a,b,c,d⟩:=h3 k hk
 exact⟨(cell_of h1 _).trans a,(cell_of h1 _).trans b,(cell_of h1 _).trans c,(cell_of h1 _).trans d⟩
theorem RvR.set {W:World} {g n i:Nat} {M:Nat→Mv} (h:RvR W g n M) (hi:i < n) (m:Mv):RvR (W.setCells g (i * 4) (mvC1 m)) g n (fun k=>if k=i then m else M k)∧Frm [g] W (W.setCells g (i * 4) (mvC1 m)):=by
 obtain⟨cur,h1,h2,h3⟩:=h
 obtain⟨c',g1,g2,g3,g4,g5⟩:=setCells_at (mvC1 m) (i * 4) W g cur _ h1 (by simp[mvC1];omega)
 refine⟨⟨c',g1,by omega,fun k hk=>?_⟩,g5⟩
 by_cases e:k=i
 ·subst e
  simp only[if_true]
  exact⟨g4 0 _ rfl,g4 1 _ rfl,g4 2 _ rfl,g4 3 _ rfl⟩
 ·simp only[if_neg e]
  have hl:(mvC1 m).length=4:=rfl
  obtain⟨a,b,c,d⟩:=h3 k hk
  refine⟨(g3 _ ?_).trans a,(g3 _ ?_).trans b,(g3 _ ?_).trans c,(g3 _ ?_).trans d⟩ <;> rw[hl] <;> omega
theorem RvR.there {W:World} {g n i:Nat} {M:Nat→Mv} (h:RvR W g n M) (hi:i < n):W.there g (i * 4) 4:=by
 obtain⟨cur,h1,h2,h3⟩:=h
 intro j hj
 refine⟨?_,free_of h1 _⟩
 rw[cell_of h1,Array.getElem?_eq_getElem (by omega)]
 rfl
theorem mv_rv {W:World} {base:Nat} {v:Value} {L:List Mv} (h:W.ownsRow base 44 4 v L.length (mvC L)) (hn:L.length≠0):∃ g cap,v=.slice (some ⟨g,0,none⟩) L.length cap∧RvR W g L.length (fun k=>L.getD k mv00):=by
 obtain⟨-,⟨-,h2⟩ | ⟨g,cap,cur,rfl,-,hh,hc,-,hs,ht⟩⟩:=h
 ·exact absurd h2 hn
 ·refine⟨g,cap,rfl,cur,hh,by rw[hs];exact Nat.mul_le_mul_right _ hc,fun k hk=>?_⟩
  obtain⟨a,b,c,d⟩:=mvC_at (some_getD (d:=mv00) hk)
  have e:∀ j,j < L.length * 4→cur[j]?=(mvC L)[j]?:=fun j hj=>by
   rw[← ht,List.getElem?_take_of_lt hj,Array.getElem?_toList]
  exact⟨(e _ (by omega)).trans a,(e _ (by omega)).trans b,(e _ (by omega)).trans c,(e _ (by omega)).trans d⟩
theorem rv_arr {W:World} {g n cap:Nat} {M:Nat→Mv} {L:List Mv} (h:RvR W g n M) (hn:L.length=n) (hM:∀ k m,L[k]?=some m→M k=m):Arr 4 MvAt W (.slice (some ⟨g,0,none⟩) n cap) L:=
 ⟨_,_,by rw[hn],fun i m hm=>⟨g,0,rfl,by
  have:=h.at (k:=i) (by rw[← hn];exact lt_of_some hm)
  rw[hM i m hm] at this
  rwa [Nat.zero_add]⟩⟩
def revM (L:List Mv) (i k:Nat):Mv:=if k < i∨L.length≤k + i then L.getD (L.length - 1 - k) mv00 else L.getD k mv00
theorem revM_step {L:List Mv} {i j:Nat} (hj:L.length=i + j + 1) (hij:i < j) (k:Nat):(if k=j then revM L i i else if k=i then revM L i j else revM L i k)=revM L (i + 1) k:=by
 unfold revM
 by_cases h1:k=j
 ·subst h1
  rw[if_pos rfl,if_neg (by omega),if_pos (by omega),show L.length - 1 - k=i by omega]
 rw[if_neg h1]
 by_cases h2:k=i
 ·subst h2
  rw[if_pos rfl,if_neg (by omega),if_pos (by omega),show L.length - 1 - k=j by omega]
 rw[if_neg h2]
 by_cases h3:k < i∨L.length≤k + i
 ·rw[if_pos h3,if_pos (by omega)]
 ·rw[if_neg h3,if_neg (by omega)]
theorem revM_end {L:List Mv} {i:Nat} (h:L.length≤i + i + 1) {k:Nat} {m:Mv} (hm:L.reverse[k]?=some m):revM L i k=m:=by
 have hk:k < L.length:=by have:=lt_of_some hm;simpa using this
 rw[List.getElem?_reverse hk] at hm
 have h2:=getD_some (d:=mv00) hm
 unfold revM
 by_cases h3:k < i∨L.length≤k + i
 ·rw[if_pos h3];exact h2
 ·rw[if_neg h3,show k=L.length - 1 - k by omega];exact h2
theorem Tryz.infoMvS:(Tryz.prog.info? 44).map (·.size)=some 4:=by kernel_rfl
theorem one_mv (a b c d:Int):(#[.int .i64 a,.int .i64 b,.int .i64 c,.int .i64 d]:Array Value).all (·.oneCell')=true:=by
 rw[← Array.all_toList];rfl
theorem wp_store_mv {op:Oper} {a:Act} {w:World} {K:Act→World→Prop} {Q:Exit→Act→World→Prop} {g n i:Nat} {M:Nat→Mv} (x y:Operand) (m:Mv) (ho:op.op=.store 44 x y) (hx:a.eval x=.pointer (some ⟨g,i * 4,none⟩)) (hy:a.eval y=mvV m)
  (hR:RvR w g n M) (hi:i < n) (h:∀ w',RvR w' g n (fun k=>if k=i then m else M k)→Frm [g] w w'→K (a.put op.dst undef) w'):op.wp Tryz.prog a w K Q:=
 wp_store_mid 44 x y ho g (i * 4) #[.int .i64 m.kind,.int .i64 m.role,.int .i64 m.step,.int .i64 m.place] hx hy (hR.there hi) Tryz.infoMvS (one_mv _ _ _ _) (h _ (hR.set hi m).1 (hR.set hi m).2)
set_option maxHeartbeats 4000000 in
set_option maxRecDepth 100000 in
theorem rvMove_any (g n cap:Nat) (L:List Mv) (w:World) (hn:L.length=n) (h1:1≤n) (h5:n≤1000000) (h:RvR w g n (fun k=>L.getD k mv00)) :
  Calls Tryz.prog 177 #[.slice (some ⟨g,0,none⟩) n cap] w (RetV fun _ w'=>Arr 4 MvAt w' (.slice (some ⟨g,0,none⟩) n cap) L.reverse∧Frm [g] w w'):=by
 have HN:=Lib.hid hn
 have h0:RvR w g n (revM L 0):=by
  obtain⟨cur,g1,g2,g3⟩:=h
  refine⟨cur,g1,g2,fun k hk=>?_⟩
  have e:revM L 0 k=L.getD k mv00:=by unfold revM;rw[if_neg (by omega)]
  rw[e]
  exact g3 k hk
 have H0:=Lib.hid h0
 have hw:wrap64 ((n:Int) - 1)=((n - 1:Nat):Int):=by unfold wrap64;omega
 clear h hn
 go_enter Tryz.func177,Tryz.ntmps177
 go_wp2
 go_loopw [2,3] (fun s2 s3 wr=>∃ i:Nat,(s2=.int .i64 i∧s3=.int .i64 ((n - 1 - i:Nat):Int))∧2 * i≤n∧i < n∧RvR wr g n (revM L i)∧Frm [g] w wr) (fun s2 _ _=>n - (intOf s2).toNat)
 case atStart=>exact⟨0,⟨rfl,by congr 1;omega⟩,by omega,by omega,H0.out,Frm.refl _ _⟩
 case round =>
  obtain⟨i,⟨rfl,rfl⟩,hi2,hi,hr,hf⟩:=hrel
  obtain⟨j,hj⟩:∃ j,n - 1 - i=j:=⟨_,rfl⟩
  rw[hj]
  have HJ:=Lib.hid hj;have HR:=Lib.hid hr;have HF:=Lib.hid hf
  obtain⟨wq,hwq⟩:∃ wq,wq=wr:=⟨_,rfl⟩
  subst hwq
  clear hr hf hw
  by_cases hlt:i < j
  ·have hlt':(i:Int) < (j:Int):=by omega
   have hjn:j < n:=by omega
   go_upto_region 3 with (fail)
   generalize hQQ:Exit.inBlock _ _=QQ
   refine wp_mono (Q:=fun e a' w'=>match e with | .normal=>QQ .normal a' w' | _=>False) ?_ (fun e a' w' h=>by cases e <;> first | exact h | exact h.elim)
   have HCT:Hid (∀ V,Frm [] wq V→MvAt V g (j * 4) (revM L i j)∧MvAt V g (i * 4) (revM L i i)):=Lib.hid fun V hV=>⟨(HR.out.frm hV).at hjn,(HR.out.frm hV).at hi⟩
   refine heldL_start [] (wrFrom 13) (by kernel_rfl) ?_
   refine cnt 2 ?_
   iterate 2
    refine hcP ?_ ?_ ?_
    rotate_left
    ·intro w'
     go_simp
     try rfl
    try simp only[nrm,Nat.reduceAdd]
   refine tcn ?_
   refine cnt 0 ?_
   iterate 2
    refine hcL ?_ ?_ ?_
    rotate_left
    ·intro w' hC
     obtain⟨⟨x0,x1,x2,x3⟩,⟨y0,y1,y2,y3⟩⟩:=HCT.out w' ((Frm.refl [] wq).drew.trans hC)
     clear hC
     go_simp
     try rfl
    try simp only[nrm,Nat.reduceAdd]
   refine tcn ?_
   refine cnt 4 ?_
   iterate 9
    refine hcL ?_ ?_ ?_
    rotate_left
    ·intro w' hC
     obtain⟨⟨x0,x1,x2,x3⟩,⟨y0,y1,y2,y3⟩⟩:=HCT.out w' ((Frm.refl [] wq).drew.trans hC)
     clear hC
     go_simp
     try rfl
    try simp only[nrm,Nat.reduceAdd]
   refine tcn ?_
   refine honL 13 ?_
   refine heldL_write (i:=13) rfl (by rfl) (by rfl) (fun K' hK'=>?_)
   refine wp_store_mv (g:=g) (n:=n) (i:=i) (M:=revM L i) _ _ (revM L i j) rfl rfl rfl (HR.out.frm ((Frm.refl _ _).drew)) hi ?_
   intro wa hra hfa
   have HRA:=Lib.hid hra
   have HFA:Hid (Frm [g] wq wa):=Lib.hid ((((Frm.refl [] wq).drew).mono (by simp)).trans hfa)
   clear hra hfa
   refine hK'.out _ _ ?_
   clear hK' K'
   try simp only[nrm]
   refine honL 14 ?_
   refine heldL_write (i:=14) rfl (by rfl) (by rfl) (fun K' hK'=>?_)
   go_simp
   (skip)
   refine hK'.out _ _ ?_
   clear hK' K'
   try simp only[nrm]
   refine honL 15 ?_
   refine heldL_write (i:=15) rfl (by rfl) (by rfl) (fun K' hK'=>?_)
   refine wp_store_mv (g:=g) (n:=n) (i:=j) (M:=fun k=>if k=i then revM L i j else revM L i k) _ _ (revM L i i) rfl rfl rfl HRA.out hjn ?_
   intro wb hrb hfb
   have HRB:=Lib.hid hrb
   have HFB:Hid (Frm [g] wq wb):=Lib.hid (HFA.out.trans hfb)
   clear hrb hfb
   refine hK'.out _ _ ?_
   clear hK' K'
   try simp only[nrm]
   refine heldL_done (by kernel_rfl) ?_ _
   subst hQQ
   have hn9:=HN.out
   have hr9:RvR wb g n (revM L (i + 1)):=by
    have:=HRB.out
    rwa [show (fun k=>if k=j then revM L i i else if k=i then revM L i j else revM L i k)=revM L (i + 1) from funext fun k=>revM_step (by omega) hlt k] at this
   have HR9:=Lib.hid hr9
   clear hr9
   go_wp2
   exact⟨⟨i + 1,⟨rfl,by congr 1;omega⟩,by omega,by omega,HR9.out,HF.out.trans HFB.out⟩,by simp[intOf];omega⟩
  ·have hlt':¬ (i:Int) < (j:Int):=by omega
   go_wp2
   refine bodyPost_ret (results_none rfl _ _ _) rfl ?_
   exact⟨_,rfl,rv_arr HR.out (by simpa using HN.out) (fun k m hm=>revM_end (by have:=HN.out;omega) hm),HF.out⟩
end Go.Proofs.YtohfkhjlnlahdaaGreat
namespace Go.Proofs.YtohfkhjlnlahdaaGreat
open Go.RowKit Go.BigFrame Go.Maps
set_option maxRecDepth 100000 in
theorem rvMove_nil (ao:Option Addr) (cap:Nat) (w:World):Calls Tryz.prog 177 #[.slice ao 0 cap] w (RetV fun _ w'=>w=w'):=by
 go_enter Tryz.func177,Tryz.ntmps177
 go_wp2
 go_loopw [2,3] (fun s2 s3 wr=>(s2=.int .i64 0∧s3=.int .i64 (-1))∧w=wr) (fun _ _ _=>0)
 case atStart=>exact⟨⟨rfl,rfl⟩,rfl⟩
 case round =>
  obtain⟨⟨rfl,rfl⟩,rfl⟩:=hrel
  go_wp2
  refine bodyPost_ret (results_none rfl _ _ _) rfl ?_
  exact⟨_,rfl,rfl⟩
set_option maxRecDepth 100000 in
theorem xTurned_any {L:List Mv} {base:Nat} {v:Value} {w:World} (h:w.ownsRow base 44 4 v L.length (mvC L)) (h5:L.length≤1000000) :
  Calls Tryz.prog 119 #[v] w (RetV fun u w'=>u=v∧Arr 4 MvAt w' v L.reverse∧Frm v.ownBlock.toList w w'):=by
 by_cases h0:L.length=0
 ·obtain⟨ao,cap,rfl⟩:=own_shape h
  have hL:L=[]:=List.length_eq_zero_iff.1 h0
  subst hL
  have C1:=Lib.hid (rvMove_nil ao cap w)
  have hA:Hid (Arr 4 MvAt w (.slice ao 0 cap) (List.reverse [])):=Lib.hid ⟨_,_,rfl,fun i m hm=>by simp at hm⟩
  clear h
  simp only[List.length_nil]
  go_enter Tryz.func119,Tryz.ntmps119
  go_wp2_with (first
   | (go_at_call 177;go_must (refine C1.out.mono ?_;rintro e w' ⟨v,rfl,rfl⟩)))
  go_ret
  exact⟨_,rfl,rfl,hA.out,Frm.refl _ _⟩
 ·obtain⟨g,cap,rfl,hr⟩:=mv_rv h h0
  have C1:=Lib.hid (rvMove_any g L.length cap L w rfl (by omega) h5 hr)
  clear h hr
  go_enter Tryz.func119,Tryz.ntmps119
  go_wp2_with (first
   | (go_at_call 177;go_must (refine C1.out.mono ?_;rintro e w' ⟨v,rfl,h1,h2⟩;have H1:=Lib.hid h1;have H2:=Lib.hid h2;clear h1 h2)))
  go_ret
  exact⟨_,rfl,rfl,H1.out,H2.out⟩
def parOf (nb:Nat) (w:World):Nat:=(intOf ((w.cell? ⟨nb,1,none⟩).getD undef) + 1).toNat
abbrev ndA (d:Nd × Nat):Array Value:=#[.pointer (some ⟨d.2,0,none⟩),.int .i64 d.1.par,.int .i64 d.1.mv.kind,.int .i64 d.1.mv.role,.int .i64 d.1.mv.step,.int .i64 d.1.mv.place,.int .i64 d.1.lvl]
theorem parOf_at {nb:Nat} {w:World} {d:Nd × Nat} {t:TypeId} (h:w.heap[nb]?=some (.cells (ndA d) t (0,0))):parOf nb w=(d.1.par + 1).toNat:=by
 have h2:w.cell? ⟨nb,1,none⟩=some (.int .i64 d.1.par):=cell_of h 1
 unfold parOf
 rw[h2]
 rfl
set_option maxHeartbeats 4000000 in
set_option maxRecDepth 100000 in
theorem xTrace_any {W:World} {s:SesD} {yb pb lim nn i:Nat} {whole:Bool} {N:List (Nd × Nat)} (h:SpO W s yb whole pb N) (hi:SI s lim nn (N.map Prod.fst)) (hlt:i < N.length) (h5:N.length≤200000) :
  Calls Tryz.prog 58 #[.pointer (some ⟨pb,0,none⟩),.int .i64 i] W (RetV fun v w'=>∃ u,v=.tuple #[u,.int .i64 0]∧Arr 4 MvAt w' u (traceP (N.map Prod.fst) i)∧Frm [] W w'):=by
 have HS:=Lib.hid h;have HI:=Lib.hid hi
 obtain⟨d,hd⟩:∃ d,N[i]?=some d:=⟨_,List.getElem?_eq_getElem hlt⟩
 have C1:=Lib.hid (xNode_in h hd (by omega))
 have HD:=Lib.hid hd
 clear h hi hd
 go_enter Tryz.func58,Tryz.ntmps58
 go_wp2_with (first
  | (go_at_call 118;go_must (refine C1.out.mono ?_;rintro e w1 ⟨rfl,hf⟩;have HF:=Lib.hid hf;clear hf)))
 have hnb0:=heap_alloc_new w1 (.cells (ndA d) 216)
 have hf0:Frm [] W (w1.alloc (.cells (ndA d) 216)):=HF.out.alloc _
 have hle:W.heap.size≤w1.heap.size:=HF.out.size
 obtain⟨nb,hnb⟩:∃ nb,w1.heap.size=nb:=⟨_,rfl⟩
 rw[hnb] at hnb0 hle ⊢
 have HN0:=Lib.hid hnb0;have HF0:=Lib.hid hf0;have HLE:=Lib.hid hle
 clear hnb0 hf0 hle HF C1
 go_loopw [4,5] (fun s4 s5 wr=>∃ (c:Nat) (e:Nd × Nat) (R:List Mv) (ao:Option Addr) (cp:Nat),(s4=.slice ao R.length cp∧s5=.int .i64 0)∧N[c]?=some e∧R.length + c≤i∧traceP (N.map Prod.fst) i=traceP (N.map Prod.fst) c ++ R.reverse∧wr.ownsRow W.heap.size 44 4 (.slice ao R.length cp) R.length (mvC R)∧wr.heap[nb]?=some (.cells (ndA e) 216 (0,0))∧Frm [] W wr) (fun _ _ w=>parOf nb w)
 case atStart=>exact⟨i,d,[],none,0,⟨rfl,rfl⟩,HD.out,by simp,by simp,World.ownsRow_nil _ _ _ _,HN0.out,HF0.out⟩
 case round =>
  obtain⟨c,e,R,ao,cp,⟨rfl,rfl⟩,he,hRc,htr,ho,hn,hf⟩:=hrel
  obtain⟨wq,hwq⟩:∃ wq,wq=wr:=⟨_,rfl⟩
  subst hwq
  have HTR:=Lib.hid htr;have HO:=Lib.hid ho;have HNB:=Lib.hid hn;have HFQ:=Lib.hid hf
  have hm:(N.map Prod.fst)[c]?=some e.1:=by rw[List.getElem?_map,he];rfl
  have n1:wq.cell? ⟨nb,1,none⟩=some (.int .i64 e.1.par):=cell_of hn 1
  by_cases hp:0≤e.1.par
  ·have hc0:0 < c:=by
    rcases Nat.eq_zero_or_pos c with h0 | h0
    ·subst h0
     rw[HI.out.one] at hm
     rw[← Option.some.inj hm] at hp
     exact absurd hp (show ¬ (0:Int)≤-1 by decide)
    ·exact h0
   obtain⟨p,b,hpar,hpc,hb,-⟩:=HI.out.par c e.1 hm hc0
   have hcl:=lt_of_some he
   obtain⟨e',he'⟩:∃ e',N[p]?=some e':=⟨_,List.getElem?_eq_getElem (by omega)⟩
   have hm':(N.map Prod.fst)[p]?=some e'.1:=by rw[List.getElem?_map,he'];rfl
   have hlow:e'.1.par < p:=by
    rcases Nat.eq_zero_or_pos p with h0 | h0
    ·subst h0
     rw[HI.out.one] at hm'
     rw[← Option.some.inj hm']
     exact(show (-1:Int) < 0 by decide)
    ·obtain⟨p2,b2,h1,h2,-⟩:=HI.out.par p e'.1 hm' h0
     rw[h1];omega
   have HST:=Lib.hid (trace_step HI.out hm hpar hpc)
   have n2:wq.cell? ⟨nb,2,none⟩=some (.int .i64 e.1.mv.kind):=cell_of hn 2
   have n3:wq.cell? ⟨nb,3,none⟩=some (.int .i64 e.1.mv.role):=cell_of hn 3
   have n4:wq.cell? ⟨nb,4,none⟩=some (.int .i64 e.1.mv.step):=cell_of hn 4
   have n5:wq.cell? ⟨nb,5,none⟩=some (.int .i64 e.1.mv.place):=cell_of hn 5
   rw[hpar] at n1
   have hpz:(0:Int)≤(p:Int):=by omega
   have HE':=Lib.hid he';have HPAR:=Lib.hid hpar;have HLOW:=Lib.hid hlow
   obtain⟨i0,hi0,hz0,hz1,hz2⟩:=info_parts Tryz.infoMv
   have hsz:W.heap.size≤(wq.alloc (.cells #[.int .i64 e.1.mv.kind,.int .i64 e.1.mv.role,.int .i64 e.1.mv.step,.int .i64 e.1.mv.place] 44)).heap.size:=by have:=hf.size;simp;omega
   have hne:(Value.slice ao R.length cp).ownBlock≠some nb:=fun h=>by
    obtain⟨cu,hcu⟩:=ownBlock_type ho h
    rw[hn] at hcu;cases hcu
   have HNE:=Lib.hid hne
   clear htr ho hn hf hm hm' hp hpar hb he he' hlow hne
   go_wp2_with (first
    | (at_builtin;refine wpList_append_own_at _ rfl _ _ 31 rfl W.heap.size 44 i0 (.agg #[.int .i64 0,.int .i64 0,.int .i64 0,.int .i64 0]) 4 32 Tryz.underlying31 hi0 hz0 hz1 hz2 rfl (by decide) (.slice ao R.length cp) R.length (mvC R) rfl (HO.out.alloc _) ⟨wq.heap.size,0,none⟩ 1 1 (mvC1 e.1.mv) rfl rfl (new_row _ _ _) (by simp[mvC1,Value.oneCell']) (by unfold maxLen;omega) (by omega) hsz ?_;intro v' w6 hown' hgrow _ _;obtain⟨ao',cp',rfl⟩:=own_shape hown';have hf6:Frm [] W w6:=(HFQ.out.alloc _).grown hgrow (fun k hk=>.inr (ownBlock_ge HO.out hk));have h6:=grown_at hgrow (alloc_at HNB.out) HNE.out;have HF6:=Lib.hid hf6;have HNB6:=Lib.hid h6;have HO6:=Lib.hid hown';have m1:w6.cell? ⟨nb,1,none⟩=some (.int .i64 (p:Int)):=by { rw[← HPAR.out];exact cell_of h6 1 };clear hgrow hown' h6 hf6 n1 n2 n3 n4 n5)
    | (go_at_call 118;go_must (refine(xNode_in (HS.out.frm HF6.out) HE'.out (by omega)).mono ?_;rintro en w7 ⟨rfl,hf7⟩;have HF7:=Lib.hid hf7;have HNB7:=Lib.hid (hf7.at HNB6.out (by simp));clear hf7 m1))
    | (refine wpList_store_row rfl 216 _ _ rfl _ _ _ 216 rfl rfl HNB7.out rfl Tryz.infoNode (one_nd _ _ _ _ _ _ _) ?_;intro w8 hb8 hf8;have HB8:=Lib.hid hb8;have HF8:=Lib.hid hf8;clear hb8 hf8))
   have hm1:parOf nb w8 < parOf nb wq:=by
    rw[parOf_at (d:=e') HB8.out,parOf_at HNB.out,HPAR.out]
    have:=HLOW.out
    omega
   have hlen:(R ++ [e.1.mv]).length=R.length + 1:=by simp
   have hO8:w8.ownsRow W.heap.size 44 4 (.slice ao' (R.length + 1) cp') (R.length + 1) (mvC (R ++ [e.1.mv])):=by
    have h0:(Value.slice ao' (R.length + 1) cp').ownBlock≠some nb:=fun h=>by
     obtain⟨cu,hcu⟩:=ownBlock_type HO6.out h
     rw[HNB6.out] at hcu;cases hcu
    have e9:mvC (R ++ [e.1.mv])=mvC R ++ mvC1 e.1.mv:=by rw[mvC_append];simp[mvC]
    rw[e9]
    exact HF8.out.owns (HF7.out.owns HO6.out (by simp)) (fun k hk hm=>by
     rw[List.mem_singleton] at hm
     rw[hm] at hk
     exact h0 hk)
   refine⟨⟨p,e',R ++ [e.1.mv],ao',cp',⟨by rw[hlen],rfl⟩,HE'.out,by rw[hlen];omega,?_,by rw[hlen];exact hO8,HB8.out,(HF6.out.trans HF7.out).then HF8.out (fun k hk=>?_)⟩,hm1⟩
   ·rw[HTR.out,HST.out,List.reverse_append,List.append_assoc];rfl
   ·rw[List.mem_singleton] at hk
    subst hk
    exact .inr HLE.out
  ·have hp':¬ (0:Int)≤e.1.par:=hp
   have hc0:c=0:=by
    rcases Nat.eq_zero_or_pos c with h0 | h0
    ·exact h0
    ·obtain⟨p,b,hpar,-⟩:=HI.out.par c e.1 hm h0
     omega
   subst hc0
   have hz:=trace_zero HI.out
   have CT:=Lib.hid (xTurned_any ho (by omega))
   have HZ:=Lib.hid hz
   clear htr ho hn hf hm hz
   go_wp2_with (first
    | (go_at_call 119;go_must (refine CT.out.mono ?_;rintro en w7 ⟨v,rfl,rfl,h1,h2⟩;have H1:=Lib.hid h1;have H2:=Lib.hid h2;clear h1 h2)))
   go_ret2
   refine⟨_,rfl,_,rfl,?_,HFQ.out.then H2.out (fun k hk=>?_)⟩
   ·rw[HTR.out,HZ.out,List.nil_append];exact H1.out
   ·rw[Option.mem_toList] at hk;exact .inr (ownBlock_ge HO.out hk)
end Go.Proofs.YtohfkhjlnlahdaaGreat
