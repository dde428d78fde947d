/- Part of the proof. -/
import Derived.Test.YtohfkhjlnlahdaaGreatV33
import Derived.Test.YtohfkhjlnlahdaaGreatV17
import Derived.Test.YtohfkhjlnlahdaaGreatV29
set_option linter.all false
namespace Go.Proofs.YtohfkhjlnlahdaaGreat
open Go.RowKit Go.BigFrame
theorem chlK_length (cls:Int) (L:List ByteArray):∀ n,(chlK cls L n).length≤n
 | 0=>by simp[chlK]
 | n + 1=>by
   have:=chlK_length cls L n
   rw[chlK]
   split <;> simp <;> omega
theorem cat_len {α:Type} {f:Nat→List α} {c:Nat}:∀ {n:Nat},(∀ k,k < n→(f k).length≤c)→(cat f n).length≤n * c
 | 0,_=>by simp[cat]
 | n + 1,h=>by
   have h1:=cat_len (n:=n) (fun k hk=>h k (by omega))
   have h2:=h n (by omega)
   rw[cat,List.length_append,Nat.add_mul];omega
section
variable {s:SesD} {x:PS}
theorem stepMv_len (hs:SesOk s) (hx:PSok s x) {i k:Nat} (hi:i < s.roles.length) (hk:k < (s.rol i).steps.length):(stepMv s x i k).length≤4:=by
 unfold stepMv
 split
 ·simp
 ·split
  ·rename_i h2
   obtain⟨-,hp,-⟩:=hs.peer hi hk (by omega)
   have h1:=(hx.wb _ i hp hi).1
   have h3:=chlK_length s.cls (x.way (peerN s ((s.rol i).stp k)) i) (x.way (peerN s ((s.rol i).stp k)) i).length
   have h4:=hits_len (m:=((s.rol i).stp k).msg) (i:=i) (k:=k) (chlK s.cls (x.way (peerN s ((s.rol i).stp k)) i) (x.way (peerN s ((s.rol i).stp k)) i).length)
   have:=hs.k4
   omega
  ·split <;> simp
theorem loseMv_len (i k:Nat):(loseMv s x i k).length≤1:=by unfold loseMv;split <;> simp
theorem roleMv_len (hs:SesOk s) (hx:PSok s x) {i:Nat} (hi:i < s.roles.length) {n:Nat} (hn:n≤(s.rol i).steps.length):(cat (fun k=>stepMv s x i k) n).length≤320:=by
 have h1:=cat_len (n:=n) (f:=fun k=>stepMv s x i k) (c:=4) (fun k hk=>stepMv_len hs hx hi (by omega))
 have:=(hs.at hi).t80
 omega
theorem stepsMv_len (hs:SesOk s) (hx:PSok s x) {n:Nat} (hn:n≤s.roles.length):(cat (fun i=>cat (fun k=>stepMv s x i k) (s.rol i).steps.length) n).length≤1280:=by
 have h1:=cat_len (n:=n) (f:=fun i=>cat (fun k=>stepMv s x i k) (s.rol i).steps.length) (c:=320) (fun i hi=>roleMv_len hs hx (by omega) (Nat.le_refl _))
 have:=hs.n4
 omega
theorem losesMv_len (hs:SesOk s) {n:Nat} (hn:n≤s.roles.length):(cat (fun i=>cat (fun k=>loseMv s x i k) s.roles.length) n).length≤16:=by
 have h0:∀ i,(cat (fun k=>loseMv s x i k) s.roles.length).length≤s.roles.length * 1:=fun i=>cat_len (fun k _=>loseMv_len i k)
 have h1:=cat_len (n:=n) (f:=fun i=>cat (fun k=>loseMv s x i k) s.roles.length) (c:=4) (fun i _=>by have:=h0 i;have:=hs.n4;omega)
 have:=hs.n4
 omega
end
abbrev rMv (s:SesD) (x:PS) (i:Nat):List Mv:=cat (fun i=>cat (fun k=>stepMv s x i k) (s.rol i).steps.length) i
abbrev lMv (s:SesD) (x:PS) (i:Nat):List Mv:=cat (fun i=>cat (fun k=>loseMv s x i k) s.roles.length) i
theorem meas_up {m k:Nat} (hk:k < m) (h:wrap64 ((k:Int) + 1)=((k + 1:Nat):Int)):m - (intOf (.int .i64 (wrap64 ((k:Int) + 1)))).toNat < m - (intOf (.int .i64 (k:Int))).toNat:=by
 rw[h]
 simp only[intOf,Int.toNat_natCast]
 omega
theorem mv_end {w W:World} {ob cp:Nat} {ds:List Nat} {L M:List Mv} {ao:Option Addr} {fn:Func} {tmps:Array Value} (hf:Frm [] w W) (hn:w.heap.size≤ob) (h1:W.heap[ob]?=some (.cells #[.slice ao L.length cp] 31 (0,0)))
  (h2:W.ownsRow w.heap.size 44 4 (.slice ao L.length cp) L.length (mvC L)) (hm:Ms w ds W) (hr:∀ V:World,V.cell? ⟨ob,0,none⟩=some (.slice ao L.length cp)→(results fn tmps).run Tryz.prog V=.ok (.slice ao L.length cp) V) (hL:L=M) :
  LeavesInM Fence.wide 3 Tryz.prog fn tmps (RetV fun v w'=>w'.ownsRow w.heap.size 44 4 v M.length (mvC M)∧Frm [] w w') (marks ds) .returning (W.setCell ⟨ob,0,none⟩ (.slice ao L.length cp)):=by
 subst hL
 have hk:Kt mvT W (W.setCell ⟨ob,0,none⟩ (.slice ao L.length cp)):=(Kt.refl _ W).set h1 (by decide) _
 have hm2:=hm.kt hk
 have hb:=(block_setCell h1 0 (.slice ao L.length cp)).trans rfl
 obtain⟨W2,hW2⟩:∃ W2,W.setCell ⟨ob,0,none⟩ (.slice ao L.length cp)=W2:=⟨_,rfl⟩
 have ho:W2.ownsRow w.heap.size 44 4 (.slice ao L.length cp) L.length (mvC L):=by
  rw[← hW2]
  refine ownsRow_setCell_other h2 (fun e'=>?_) _
  obtain⟨c,hc⟩:=ownBlock_type h2 e'
  rw[h1] at hc;cases hc
 have hfw:Frm [] w W2:=by rw[← hW2];exact hf.setCell _ (.inr hn) _
 rw[hW2] at hm2 hb ⊢
 have hu:=unmark_frm ds W2
 have hno:∀ (k:Nat) c t fr,W2.heap[k]?=some (.cells c t fr)→k∉ds:=fun k c t fr hk hd=>by
  rw[(hm2.dl k hd).2] at hk;cases hk
 have hbu:=hu.at hb (hno _ _ _ _ hb)
 refine leaves_many ds W2 hm2.nd (fun D hD=>(hm2.dl D hD).2) ⟨_,hr _ (cell_of hbu 0),_,rfl,hu.owns ho (fun k hk=>?_),hfw.then hu (fun D hD=>.inr (hm2.dl D hD).1)⟩
 obtain⟨c,hc⟩:=ownBlock_type ho hk
 exact hno _ _ _ _ hc
attribute [local go_sem] Oper.semAt_some
set_option maxHeartbeats 8000000 in
set_option maxRecDepth 100000 in
theorem pmoves_own (s:SesD) (yb fb sb:Nat) (x:PS) (w:World) (h:SyR w s yb fb) (hx:StR w s yb sb x) :
  Calls Tryz.prog 63 #[.pointer (some ⟨yb,0,none⟩),.pointer (some ⟨sb,0,none⟩)] w (RetV fun v w'=>w'.ownsRow w.heap.size 44 4 v (movesP s x).length (mvC (movesP s x))∧Frm [] w w'):=by
 have HSY:=Lib.hid h;have HST:=Lib.hid hx
 obtain⟨rv,h1,h2⟩:=h.out
 obtain⟨ra,rc,rfl⟩:=h2.shape
 have hb:=h.first
 obtain⟨n,hn⟩:∃ n,s.roles.length=n:=⟨_,rfl⟩
 have y1:=cell_of h1 1
 have hl0:=lt_of_block h1
 rw[hn] at y1
 have HY1:Hid (∀ V,Frm [] w V→V.cell? ⟨yb,1,none⟩=some (.slice ra n rc)∧V.cell? ⟨yb,2,none⟩=some (.int .i64 s.cls)∧V.cell? ⟨yb,3,none⟩=some (.int .i64 s.cap)):=Lib.hid fun V hV=>⟨hV.keep y1,hV.keep (cell_of h1 2),hV.keep (cell_of h1 3)⟩
 have HN:=Lib.hid hn
 have hn4:n≤4:=by rw[← hn];exact h.ok.n4
 have HWI:Hid (∀ i:Nat,i < n→wrap64 ((i:Int) + 1)=((i + 1:Nat):Int)):=Lib.hid fun i hi=>by unfold wrap64;omega
 clear h h1 h2 hx hb hn hn4
 refine calls_of_marks Tryz.func63 rfl ?_
 simp only[Tryz.ntmps63,List.size_toArray,List.length_cons,List.length_nil,Nat.reduceAdd,Nat.reduceSub,Array.replicate_succ,Array.replicate_zero,List.push_toArray,List.append_toArray,List.nil_append,List.cons_append]
 go_wp2
 have HM0:Hid (MB w w.heap.size [] (w.alloc (.cells #[.slice none 0 0] 31))):=Lib.hid (BO.made w _ _ _ ((Frm.refl [] w).alloc _) (Nat.le_refl _) (heap_alloc_new _ _))
 clear y1
 refine wp_loop (fun a' w'=>∃ ds,∃ u5 u6 u7 u8 u9 u10 u19 u20 u21 u22 u23 u24 u25 u26 u27 u28 u29 u30 u31 u32 u33 u34 u35 u36 u37 u38 u39 u40 u41 u42 u43 u44 u45 u46 u47 u48 u49 u50 u51 u52 u53 u54 u55 u56 u57 u58 u59 u60 u61 u62 u63 u64 u65 u66 u67 u68 u69 u70 u71 u72 u73 u74 u75 u76 u77 u78 u79 u80 u81 u82 u83 u84 u85 u86 u87 u88 u89 u90 u91 u92 u93 u94 u95 u96 u97 u98 u99 u100 u101 u102 u103:Value,(fun ds u19 w'=>∃ i:Nat,u19=.int .i64 (i:Int)∧i≤n∧MB w w.heap.size (rMv s x i) w'∧Ms w ds w') ds u19 w'∧a'={ tmps:=#[.pointer (some ⟨yb,0,none⟩),.pointer (some ⟨sb,0,none⟩),undef,undef,.pointer (some ⟨w.heap.size,0,none⟩),u5,u6,u7,u8,u9,u10,undef,undef,.pointer (some ⟨yb,0,none⟩),.pointer (some ⟨yb,0,none⟩),.pointer (some ⟨yb,0,none⟩),.pointer (some ⟨yb,1,none⟩),.slice ra n rc,.int .i64 (n:Int),u19,u20,u21,u22,u23,u24,u25,u26,u27,u28,u29,u30,u31,u32,u33,u34,u35,u36,u37,u38,u39,u40,u41,u42,u43,u44,u45,u46,u47,u48,u49,u50,u51,u52,u53,u54,u55,u56,u57,u58,u59,u60,u61,u62,u63,u64,u65,u66,u67,u68,u69,u70,u71,u72,u73,u74,u75,u76,u77,u78,u79,u80,u81,u82,u83,u84,u85,u86,u87,u88,u89,u90,u91,u92,u93,u94,u95,u96,u97,u98,u99,u100,u101,u102,u103,undef,undef,undef,undef,undef,undef,undef,undef,undef,undef,undef,undef,undef,undef,undef,undef,undef,undef,undef,undef,undef,undef,undef,undef,undef,undef,undef,undef,undef,undef,undef,undef,undef,undef,undef,undef,undef,undef,undef,undef,undef,undef,undef,undef,undef,undef,undef],defers:=marks ds }) (fun a' _=>n - (intOf (a'.tmps.getD 19 undef)).toNat) ?_ ?_
 ·refine⟨[],?_⟩
  (repeat apply Exists.intro)
  exact⟨⟨0,rfl,Nat.zero_le _,HM0.out,Ms.nil _ _⟩,rfl⟩
 intro a' wr hinv
 obtain⟨ds,hinv⟩:=hinv
 obtain⟨u5,hinv⟩:=hinv
 obtain⟨u6,hinv⟩:=hinv
 obtain⟨u7,hinv⟩:=hinv
 obtain⟨u8,hinv⟩:=hinv
 obtain⟨u9,hinv⟩:=hinv
 obtain⟨u10,hinv⟩:=hinv
 obtain⟨u19,hinv⟩:=hinv
 obtain⟨u20,hinv⟩:=hinv
 obtain⟨u21,hinv⟩:=hinv
 obtain⟨u22,hinv⟩:=hinv
 obtain⟨u23,hinv⟩:=hinv
 obtain⟨u24,hinv⟩:=hinv
 obtain⟨u25,hinv⟩:=hinv
 obtain⟨u26,hinv⟩:=hinv
 obtain⟨u27,hinv⟩:=hinv
 obtain⟨u28,hinv⟩:=hinv
 obtain⟨u29,hinv⟩:=hinv
 obtain⟨u30,hinv⟩:=hinv
 obtain⟨u31,hinv⟩:=hinv
 obtain⟨u32,hinv⟩:=hinv
 obtain⟨u33,hinv⟩:=hinv
 obtain⟨u34,hinv⟩:=hinv
 obtain⟨u35,hinv⟩:=hinv
 obtain⟨u36,hinv⟩:=hinv
 obtain⟨u37,hinv⟩:=hinv
 obtain⟨u38,hinv⟩:=hinv
 obtain⟨u39,hinv⟩:=hinv
 obtain⟨u40,hinv⟩:=hinv
 obtain⟨u41,hinv⟩:=hinv
 obtain⟨u42,hinv⟩:=hinv
 obtain⟨u43,hinv⟩:=hinv
 obtain⟨u44,hinv⟩:=hinv
 obtain⟨u45,hinv⟩:=hinv
 obtain⟨u46,hinv⟩:=hinv
 obtain⟨u47,hinv⟩:=hinv
 obtain⟨u48,hinv⟩:=hinv
 obtain⟨u49,hinv⟩:=hinv
 obtain⟨u50,hinv⟩:=hinv
 obtain⟨u51,hinv⟩:=hinv
 obtain⟨u52,hinv⟩:=hinv
 obtain⟨u53,hinv⟩:=hinv
 obtain⟨u54,hinv⟩:=hinv
 obtain⟨u55,hinv⟩:=hinv
 obtain⟨u56,hinv⟩:=hinv
 obtain⟨u57,hinv⟩:=hinv
 obtain⟨u58,hinv⟩:=hinv
 obtain⟨u59,hinv⟩:=hinv
 obtain⟨u60,hinv⟩:=hinv
 obtain⟨u61,hinv⟩:=hinv
 obtain⟨u62,hinv⟩:=hinv
 obtain⟨u63,hinv⟩:=hinv
 obtain⟨u64,hinv⟩:=hinv
 obtain⟨u65,hinv⟩:=hinv
 obtain⟨u66,hinv⟩:=hinv
 obtain⟨u67,hinv⟩:=hinv
 obtain⟨u68,hinv⟩:=hinv
 obtain⟨u69,hinv⟩:=hinv
 obtain⟨u70,hinv⟩:=hinv
 obtain⟨u71,hinv⟩:=hinv
 obtain⟨u72,hinv⟩:=hinv
 obtain⟨u73,hinv⟩:=hinv
 obtain⟨u74,hinv⟩:=hinv
 obtain⟨u75,hinv⟩:=hinv
 obtain⟨u76,hinv⟩:=hinv
 obtain⟨u77,hinv⟩:=hinv
 obtain⟨u78,hinv⟩:=hinv
 obtain⟨u79,hinv⟩:=hinv
 obtain⟨u80,hinv⟩:=hinv
 obtain⟨u81,hinv⟩:=hinv
 obtain⟨u82,hinv⟩:=hinv
 obtain⟨u83,hinv⟩:=hinv
 obtain⟨u84,hinv⟩:=hinv
 obtain⟨u85,hinv⟩:=hinv
 obtain⟨u86,hinv⟩:=hinv
 obtain⟨u87,hinv⟩:=hinv
 obtain⟨u88,hinv⟩:=hinv
 obtain⟨u89,hinv⟩:=hinv
 obtain⟨u90,hinv⟩:=hinv
 obtain⟨u91,hinv⟩:=hinv
 obtain⟨u92,hinv⟩:=hinv
 obtain⟨u93,hinv⟩:=hinv
 obtain⟨u94,hinv⟩:=hinv
 obtain⟨u95,hinv⟩:=hinv
 obtain⟨u96,hinv⟩:=hinv
 obtain⟨u97,hinv⟩:=hinv
 obtain⟨u98,hinv⟩:=hinv
 obtain⟨u99,hinv⟩:=hinv
 obtain⟨u100,hinv⟩:=hinv
 obtain⟨u101,hinv⟩:=hinv
 obtain⟨u102,hinv⟩:=hinv
 obtain⟨u103,hinv⟩:=hinv
 obtain⟨hrel,ha⟩:=hinv
 subst ha
 try dsimp only
 clear HM0
 obtain⟨i,rfl,hi,hmb,hms⟩:=hrel
 have HM:=Lib.hid hmb;have HMS:=Lib.hid hms
 clear hmb hms
 by_cases hlt:i < n
 ·have hlt':(i:Int) < (n:Int):=by omega
  have hin:i < s.roles.length:=by rw[HN.out];exact hlt
  obtain⟨rb,ro,rc',sv,cv,tv,y1,hr⟩:=HSY.out.rol hin
  have HIN:=Lib.hid hin
  obtain⟨r,hrr⟩:∃ r,s.rol i=r:=⟨_,rfl⟩
  rw[hrr] at hr
  rw[HN.out] at y1
  have y1':=(HY1.out w (Frm.refl _ _)).1
  rw[y1] at y1'
  simp only[Option.some.injEq,Value.slice.injEq,true_and] at y1'
  obtain⟨rfl,rfl⟩:=y1'
  obtain⟨aT,cT,rfl⟩:=hr.r3.steps.shape
  have HR3:=Lib.hid hr.r3
  obtain⟨m,hm⟩:∃ m,r.steps.length=m:=⟨_,rfl⟩
  obtain⟨d0,d1,d2,d3,-⟩:=hr
  rw[hm] at d3 HR3
  have HWK:Hid (∀ k:Nat,k < m→wrap64 ((k:Int) + 1)=((k + 1:Nat):Int)):=Lib.hid fun k hk=>by
   have:=(HSY.out.ok.at hin).t80
   rw[hrr,hm] at this
   unfold wrap64;omega
  have HMm:=Lib.hid hm;have HRR:=Lib.hid hrr
  replace d0:=HM.out.fr.keep d0;replace d1:=HM.out.fr.keep d1;replace d2:=HM.out.fr.keep d2;replace d3:=HM.out.fr.keep d3;replace y1:=HM.out.fr.keep y1
  have hrl:=cell_lt d0
  clear hrr hm hin
  obtain⟨aS,cS,rfl⟩:=HR3.out.sts.shape
  obtain⟨aC,cC,rfl⟩:=HR3.out.ctrs.shape
  go_wp2
  obtain⟨V0,hV0⟩:∃ V0,(wr.alloc (.cells #[.int .i64 i] 3)).alloc (.cells #[.string r.name,.slice aS r.sts.length cS,.slice aC r.ctrs.length cC,.slice aT m cT] 87)=V0:=⟨_,rfl⟩
  have F0:Hid (Frm [] wr V0):=Lib.hid (by rw[← hV0];exact((Frm.refl [] wr).alloc _).alloc _)
  have Q5:Hid (V0.heap[wr.heap.size]?=some (.cells #[.int .i64 i] 3 (0,0))):=Lib.hid (by rw[← hV0];exact alloc_at (heap_alloc_new _ _))
  have Q6:Hid (V0.heap[wr.heap.size + 1]?=some (.cells #[.string r.name,.slice aS r.sts.length cS,.slice aC r.ctrs.length cC,.slice aT m cT] 87 (0,0))):=Lib.hid (by rw[← hV0];exact alloc_top (by simp))
  try rw[hV0]
  clear hV0
  have HM0:Hid (MB w w.heap.size (rMv s x i ++ cat (fun k=>stepMv s x i k) 0) V0):=Lib.hid (by rw[show cat (fun k=>stepMv s x i k) 0=[] from rfl,List.append_nil];exact HM.out.frm F0.out)
  have HMS0:=Lib.hid (HMS.out.frm F0.out)
  refine wp_loop (fun a' w'=>∃ ds,∃ u7 u8 u9 u10 u27 u28 u29 u30 u31 u32 u33 u34 u35 u36 u37 u38 u39 u40 u41 u42 u43 u44 u45 u46 u47 u48 u49 u50 u51 u52 u53 u54 u55 u56 u57 u58 u59 u60 u61 u62 u63 u64 u65 u66 u67 u68 u69 u70 u71 u72 u73 u74 u75 u76 u77 u78 u79 u80 u81 u82 u83 u84 u85 u86 u87 u88 u89 u90 u91 u92 u93 u94 u95 u96 u97 u98 u99 u100 u101 u102:Value,(fun ds u27 w'=>∃ k:Nat,u27=.int .i64 (k:Int)∧k≤m∧MB w w.heap.size (rMv s x i ++ cat (fun k=>stepMv s x i k) k) w'∧Ms w ds w'∧Kt mvT V0 w') ds u27 w'∧a'={ tmps:=#[.pointer (some ⟨yb,0,none⟩),.pointer (some ⟨sb,0,none⟩),undef,undef,.pointer (some ⟨w.heap.size,0,none⟩),.pointer (some ⟨wr.heap.size,0,none⟩),.pointer (some ⟨wr.heap.size + 1,0,none⟩),u7,u8,u9,u10,undef,undef,.pointer (some ⟨yb,0,none⟩),.pointer (some ⟨yb,0,none⟩),.pointer (some ⟨yb,0,none⟩),.pointer (some ⟨yb,1,none⟩),.slice (some ⟨rb,ro,none⟩) n rc',.int .i64 (n:Int),.int .i64 (i:Int),.bool true,.int .i64 (i:Int),.pointer (some ⟨rb,ro + i * 4,none⟩),.agg #[.string r.name,.slice aS r.sts.length cS,.slice aC r.ctrs.length cC,.slice aT m cT],.pointer (some ⟨wr.heap.size + 1,3,none⟩),.slice aT m cT,.int .i64 (m:Int),u27,u28,u29,u30,u31,u32,u33,u34,u35,u36,u37,u38,u39,u40,u41,u42,u43,u44,u45,u46,u47,u48,u49,u50,u51,u52,u53,u54,u55,u56,u57,u58,u59,u60,u61,u62,u63,u64,u65,u66,u67,u68,u69,u70,u71,u72,u73,u74,u75,u76,u77,u78,u79,u80,u81,u82,u83,u84,u85,u86,u87,u88,u89,u90,u91,u92,u93,u94,u95,u96,u97,u98,u99,u100,u101,u102,u103,undef,undef,undef,undef,undef,undef,undef,undef,undef,undef,undef,undef,undef,undef,undef,undef,undef,undef,undef,undef,undef,undef,undef,undef,undef,undef,undef,undef,undef,undef,undef,undef,undef,undef,undef,undef,undef,undef,undef,undef,undef,undef,undef,undef,undef,undef,undef],defers:=marks ds }) (fun a' _=>m - (intOf (a'.tmps.getD 27 undef)).toNat) ?_ ?_
  ·refine⟨ds,?_⟩
   (repeat apply Exists.intro)
   exact⟨⟨0,rfl,Nat.zero_le _,HM0.out,HMS0.out,Kt.refl _ _⟩,rfl⟩
  intro a' wq hinv
  obtain⟨ds,hinv⟩:=hinv
  obtain⟨u7,hinv⟩:=hinv
  obtain⟨u8,hinv⟩:=hinv
  obtain⟨u9,hinv⟩:=hinv
  obtain⟨u10,hinv⟩:=hinv
  obtain⟨u27,hinv⟩:=hinv
  obtain⟨u28,hinv⟩:=hinv
  obtain⟨u29,hinv⟩:=hinv
  obtain⟨u30,hinv⟩:=hinv
  obtain⟨u31,hinv⟩:=hinv
  obtain⟨u32,hinv⟩:=hinv
  obtain⟨u33,hinv⟩:=hinv
  obtain⟨u34,hinv⟩:=hinv
  obtain⟨u35,hinv⟩:=hinv
  obtain⟨u36,hinv⟩:=hinv
  obtain⟨u37,hinv⟩:=hinv
  obtain⟨u38,hinv⟩:=hinv
  obtain⟨u39,hinv⟩:=hinv
  obtain⟨u40,hinv⟩:=hinv
  obtain⟨u41,hinv⟩:=hinv
  obtain⟨u42,hinv⟩:=hinv
  obtain⟨u43,hinv⟩:=hinv
  obtain⟨u44,hinv⟩:=hinv
  obtain⟨u45,hinv⟩:=hinv
  obtain⟨u46,hinv⟩:=hinv
  obtain⟨u47,hinv⟩:=hinv
  obtain⟨u48,hinv⟩:=hinv
  obtain⟨u49,hinv⟩:=hinv
  obtain⟨u50,hinv⟩:=hinv
  obtain⟨u51,hinv⟩:=hinv
  obtain⟨u52,hinv⟩:=hinv
  obtain⟨u53,hinv⟩:=hinv
  obtain⟨u54,hinv⟩:=hinv
  obtain⟨u55,hinv⟩:=hinv
  obtain⟨u56,hinv⟩:=hinv
  obtain⟨u57,hinv⟩:=hinv
  obtain⟨u58,hinv⟩:=hinv
  obtain⟨u59,hinv⟩:=hinv
  obtain⟨u60,hinv⟩:=hinv
  obtain⟨u61,hinv⟩:=hinv
  obtain⟨u62,hinv⟩:=hinv
  obtain⟨u63,hinv⟩:=hinv
  obtain⟨u64,hinv⟩:=hinv
  obtain⟨u65,hinv⟩:=hinv
  obtain⟨u66,hinv⟩:=hinv
  obtain⟨u67,hinv⟩:=hinv
  obtain⟨u68,hinv⟩:=hinv
  obtain⟨u69,hinv⟩:=hinv
  obtain⟨u70,hinv⟩:=hinv
  obtain⟨u71,hinv⟩:=hinv
  obtain⟨u72,hinv⟩:=hinv
  obtain⟨u73,hinv⟩:=hinv
  obtain⟨u74,hinv⟩:=hinv
  obtain⟨u75,hinv⟩:=hinv
  obtain⟨u76,hinv⟩:=hinv
  obtain⟨u77,hinv⟩:=hinv
  obtain⟨u78,hinv⟩:=hinv
  obtain⟨u79,hinv⟩:=hinv
  obtain⟨u80,hinv⟩:=hinv
  obtain⟨u81,hinv⟩:=hinv
  obtain⟨u82,hinv⟩:=hinv
  obtain⟨u83,hinv⟩:=hinv
  obtain⟨u84,hinv⟩:=hinv
  obtain⟨u85,hinv⟩:=hinv
  obtain⟨u86,hinv⟩:=hinv
  obtain⟨u87,hinv⟩:=hinv
  obtain⟨u88,hinv⟩:=hinv
  obtain⟨u89,hinv⟩:=hinv
  obtain⟨u90,hinv⟩:=hinv
  obtain⟨u91,hinv⟩:=hinv
  obtain⟨u92,hinv⟩:=hinv
  obtain⟨u93,hinv⟩:=hinv
  obtain⟨u94,hinv⟩:=hinv
  obtain⟨u95,hinv⟩:=hinv
  obtain⟨u96,hinv⟩:=hinv
  obtain⟨u97,hinv⟩:=hinv
  obtain⟨u98,hinv⟩:=hinv
  obtain⟨u99,hinv⟩:=hinv
  obtain⟨u100,hinv⟩:=hinv
  obtain⟨u101,hinv⟩:=hinv
  obtain⟨u102,hinv⟩:=hinv
  obtain⟨hrel,ha⟩:=hinv
  subst ha
  try dsimp only
  clear HM0 HMS0 HMS
  obtain⟨k,rfl,hk,hmb,hms,hkt⟩:=hrel
  have HMq:=Lib.hid hmb;have HMSq:=Lib.hid hms;have HKT:=Lib.hid hkt
  clear hmb hms hkt d0 d1 d2 d3 hrl y1
  by_cases hltk:k < m
  ·have hltk':(k:Int) < (m:Int):=by omega
   have hkk:k < (s.rol i).steps.length:=by rw[HRR.out,HMm.out];exact hltk
   obtain⟨t,ht⟩:∃ t,r.steps[k]?=some t:=⟨_,List.getElem?_eq_getElem (by rw[HMm.out];exact hltk)⟩
   have htk:(s.rol i).stp k=t:=by rw[HRR.out];exact getD_some ht
   obtain⟨tb,tq,rfl,k0,k1,k2,k3,k4,k5,k6,k7,k8⟩:=HR3.out.steps.get ht
   replace k0:=HMq.out.fr.keep k0;replace k1:=HMq.out.fr.keep k1;replace k2:=HMq.out.fr.keep k2;replace k3:=HMq.out.fr.keep k3;replace k4:=HMq.out.fr.keep k4
   replace k5:=HMq.out.fr.keep k5;replace k6:=HMq.out.fr.keep k6;replace k7:=HMq.out.fr.keep k7;replace k8:=HMq.out.fr.keep k8
   have hkl:=cell_lt k0
   have HTK:=Lib.hid htk;have HKK:=Lib.hid hkk
   clear ht htk hkk
   obtain⟨V1,hV1⟩:∃ V1,(wq.alloc (.cells #[.int .i64 k] 3)).alloc (.cells #[.string t.frm,.string t.to,.int .i64 t.kind,.string t.msg,.string t.peer,.string t.ctr,.int .i64 t.low,.int .i64 t.high,.int .i64 t.add] 137)=V1:=⟨_,rfl⟩
   have F1:Hid (Frm [] wq V1):=Lib.hid (by rw[← hV1];exact((Frm.refl [] wq).alloc _).alloc _)
   have B5:Hid (V1.heap[wr.heap.size]?=some (.cells #[.int .i64 i] 3 (0,0))):=Lib.hid (F1.out.at (HKT.out.cells Q5.out (by decide)) (by simp))
   have B7:Hid (V1.heap[wq.heap.size]?=some (.cells #[.int .i64 k] 3 (0,0))):=Lib.hid (by rw[← hV1];exact alloc_at (heap_alloc_new _ _))
   have B8:Hid (V1.heap[wq.heap.size + 1]?=some (.cells #[.string t.frm,.string t.to,.int .i64 t.kind,.string t.msg,.string t.peer,.string t.ctr,.int .i64 t.low,.int .i64 t.high,.int .i64 t.add] 137 (0,0))):=Lib.hid (by rw[← hV1];exact alloc_top (by simp))
   have HV1:=Lib.hid hV1
   have M1:=Lib.hid (HMq.out.frm F1.out)
   have MS1:=Lib.hid (HMSq.out.frm F1.out)
   have KT1:Hid (Kt mvT V0 V1):=Lib.hid (HKT.out.trans (Kt.frm F1.out))
   have CP:=Lib.hid (pPossible_any s yb fb sb i k x V1 (HSY.out.frm M1.out.fr) (HST.out.frm M1.out.fr) HIN.out HKK.out)
   have HE:Hid (rMv s x i ++ cat (fun k=>stepMv s x i k) (k + 1)=(rMv s x i ++ cat (fun k=>stepMv s x i k) k) ++ stepMv s x i k):=Lib.hid (by rw[List.append_assoc];rfl)
   obtain⟨L0,hL0⟩:∃ L0,rMv s x i ++ cat (fun k=>stepMv s x i k) k=L0:=⟨_,rfl⟩
   have hLen:L0.length≤1600:=by
    rw[← hL0,List.length_append]
    have a1:=stepsMv_len HSY.out.ok HST.out.ok (show i≤s.roles.length by have:=HIN.out;omega)
    have a2:=roleMv_len HSY.out.ok HST.out.ok HIN.out (show k≤(s.rol i).steps.length by have:=HKK.out;omega)
    exact Nat.le_trans (Nat.add_le_add a1 a2) (by decide)
   rw[hL0] at M1 HE
   have HLen:=Lib.hid hLen
   clear hL0 hV1 HKT HMSq HMq hLen
   go_upto_region 7 with fail
   rw[HV1.out]
   clear k0 k1 k2 k3 k4 k5 k6 k7 k8 hkl
   have c5:=cell_of B5.out 0
   have c7:=cell_of B7.out 0
   cases hpb:possB s x i k with
   | false =>
     rw[hpb] at CP
     have HSM:Hid (stepMv s x i k=[]):=Lib.hid (by unfold stepMv;rw[if_pos hpb])
     clear hpb
     go_wp2_with (first
      | (go_at_call 122;go_must (refine CP.out.mono ?_;rintro e w2 ⟨rfl,hf2⟩;have HF2:=Lib.hid hf2;clear hf2)))
     go_wp2
     refine⟨⟨ds,?_⟩,?_⟩
     ·(repeat apply Exists.intro)
      exact⟨⟨k + 1,congrArg (Value.int .i64) (HWK.out k hltk),hltk,by rw[HE.out,HSM.out,List.append_nil];exact M1.out.frm HF2.out,MS1.out.frm HF2.out,KT1.out.trans (Kt.frm HF2.out)⟩,rfl⟩
     ·exact meas_up hltk (HWK.out k hltk)
   | true =>
     rw[hpb] at CP
     have HPB:=Lib.hid hpb
     clear hpb
     go_upto_region 8 with (first
      | (go_at_call 122;go_must (refine CP.out.mono ?_;rintro e w2 ⟨rfl,hf2⟩;have HF2:=Lib.hid hf2;clear hf2)))
     have M2:=Lib.hid (M1.out.frm HF2.out)
     have MS2:=Lib.hid (MS1.out.frm HF2.out)
     have KT2:Hid (Kt mvT V0 w2):=Lib.hid (KT1.out.trans (Kt.frm HF2.out))
     have D5:=Lib.hid (HF2.out.at B5.out (by simp))
     have D7:=Lib.hid (HF2.out.at B7.out (by simp))
     have D8:=Lib.hid (HF2.out.at B8.out (by simp))
     have e2:=cell_of D8.out 2
     have KP:=Lib.hid (HSY.out.ok.stp HIN.out HKK.out)
     rw[HTK.out] at KP
     clear c5 c7 CP B5 B7 B8 M1 MS1 KT1
     by_cases kk2:t.kind=2
     ·have b2:(t.kind == 2)=true:=by simpa using kk2
      have hpe:=HSY.out.ok.peer HIN.out HKK.out (by rw[HTK.out];omega)
      rw[HTK.out] at hpe
      obtain⟨p1,p2,p3⟩:=hpe
      obtain⟨p,hp⟩:∃ p,peerN s t=p:=⟨_,rfl⟩
      rw[hp] at p1 p2 p3
      obtain⟨gb,go',cw,rb2,ro2,c2,cb,x2,hw⟩:=HST.out.way p2 HIN.out
      obtain⟨g0,g1,F,hch⟩:=hw
      have HSM:Hid (stepMv s x i k=hits t.msg i k (chlK s.cls (x.way p i) (x.way p i).length)):=Lib.hid (by
       unfold stepMv
       rw[HTK.out,if_neg (by rw[HPB.out];decide),if_pos kk2,hp])
      have hLw:=(HST.out.ok.wb p i p2 HIN.out).1
      have hk4:=HSY.out.ok.k4
      have CNm:Hid (∀ V,Frm [] w V→Calls Tryz.prog 66 #[.pointer (some ⟨yb,0,none⟩),.string t.peer] V (Ret (.int .i64 (p:Int)) (Frm [] V))):=Lib.hid fun V hV=>by
       rw[← p1]
       obtain⟨rv',q1,q2⟩:=(HSY.out.frm hV).out
       exact pNumber_any yb s rv' t.peer V (cell_of q1 1) q2 (by have:=HSY.out.ok.n4;omega)
      obtain⟨LL,hLL⟩:∃ LL,x.way p i=LL:=⟨_,rfl⟩
      rw[hLL] at HSM hLw hch
      rw[HN.out] at x2 g0
      have HWY:Hid (∀ V,Frm [] w V→V.cell? ⟨sb,2,none⟩=some (.slice (some ⟨gb,go',none⟩) n cw)∧V.cell? ⟨gb,go' + p,none⟩=some (.slice (some ⟨rb2,ro2,none⟩) n c2)∧V.cell? ⟨rb2,ro2 + i,none⟩=some (.pointer (some ⟨cb,0,none⟩))∧Chn V cb s.cls s.cap LL F):=
       Lib.hid fun V hV=>⟨hV.keep x2,hV.keep g0,hV.keep g1,hch.frm hV (by simp)⟩
      have HBX:Hid (∀ V,Frm [] w2 V→V.cell? ⟨wq.heap.size + 1,4,none⟩=some (.string t.peer)∧V.cell? ⟨wr.heap.size,0,none⟩=some (.int .i64 i)):=Lib.hid fun V hV=>⟨hV.keep (cell_of D8.out 4),hV.keep (cell_of D5.out 0)⟩
      have hpn:(p:Int) < (n:Int):=by rw[HN.out] at p2;omega
      have HLW:Hid (LL.length≤4):=Lib.hid (by omega)
      clear kk2 p1 p2 p3 hp x2 g0 g1 hch hLL hLw hk4
      go_upto_region 9 with fail
      clear e2
      refine wp_region_cqt 13 (by kernel_rfl) (by kernel_rfl) ?_
      simp only[List.take_succ_cons,List.take_zero,List.drop_succ_cons,List.drop_zero]
      repeat (first
       | go_big_quiet_skip
       | (refine wpQuiet_want (by rfl) (fun K hK=>?_)
          first
           | (refine quiet_move _ (by rfl) (hK _ ?_))
           | (refine quiet_assign _ (by rfl) (hK _ ?_))
           | (refine cq_call (.int .i64 (p:Int)) 66 #[.pointer (some ⟨yb,0,none⟩),.string t.peer] (fun w' hC=>?_) (fun w' hC=>Ret.cq (CNm.out w' (M2.out.fr.trans hC)) (fun w'' h=>hC.trans h)) (hK _ ?_)
              ·go_simp)
           | (apply Exists.intro
              refine⟨fun w' hC=>?_,hK _ ?_⟩
              ·(unfold Oper.quietAt
                obtain⟨z1,z2,z3,-⟩:=HWY.out w' (M2.out.fr.trans hC);obtain⟨z4,z5⟩:=HBX.out w' hC
                clear hC
                go_simp
                try exact⟨rfl,rfl⟩
                try rfl))
          clear hK K
          try simp only[nrm,Act.eval,nrq]))
      refine wpQuiet_nil ?_
      intro w4 hf4
      have M4:=Lib.hid (M2.out.frm hf4)
      have MS4:=Lib.hid (MS2.out.frm hf4)
      have KT4:Hid (Kt mvT V0 w4):=Lib.hid (KT2.out.trans (Kt.frm hf4))
      have D54:=Lib.hid (hf4.at D5.out (by simp))
      have D74:=Lib.hid (hf4.at D7.out (by simp))
      have D84:=Lib.hid (hf4.at D8.out (by simp))
      have HCH:=Lib.hid (HWY.out w4 M4.out.fr).2.2.2
      have CCh:=Lib.hid (choose_any cb s.cls s.cap LL F w4 HCH.out)
      clear hf4 hpn CNm HWY HBX
      go_wp2_with (first
       | (go_at_call 123;go_must (refine CCh.out.mono ?_;rintro e w5 ⟨v,rfl,⟨bl,bc,sv5,rfl,hcr⟩⟩;have HCR:=Lib.hid hcr;clear hcr)))
      have f5:=HCR.out.2.1
      have hit:=chc_iter bl bc cb s.cls sv5 LL HSY.out.ok.c1 HSY.out.ok.c3 (by have:=HLW.out;omega)
      have HCH5:=Lib.hid (HCH.out.frm f5 (by simp))
      have M5:=Lib.hid (M4.out.frm f5)
      have MS5:=Lib.hid (MS4.out.frm f5)
      have KT5:Hid (Kt mvT V0 w5):=Lib.hid (KT4.out.trans (Kt.frm f5))
      have D55:=Lib.hid (f5.at D54.out (by simp))
      have D75:=Lib.hid (f5.at D74.out (by simp))
      have D85:=Lib.hid (f5.at D84.out (by simp))
      clear f5 CCh
      refine wp_rangeList rfl (enters_of Tryz.func178 (by kernel_rfl) rfl) hit (fun _=>rfl) (fun pre W=>MB w w.heap.size (L0 ++ hits t.msg i k pre) W∧Kt mvT w5 W) (fun _ _ _=>False) (fun _ _ _ h hb=>⟨h.1.bk hb M5.out.fr.size,h.2.bk hb⟩) (fun _ _ _ _ h _=>h) (fun _ W h=>HCR.out.1.kt h.2 HCH5.out) ⟨by rw[show hits t.msg i k []=[] from rfl,List.append_nil];exact M5.out,Kt.refl _ _⟩ ?_ ?_ (fun _ _ _ _ _ _ _ _ h=>h.elim)
      ·intro l0 pre y rest Wr hxs hI hl hlr
       have hpl:pre.length < 4:=by
        have h1:=chlK_length s.cls LL LL.length
        rw[hxs,List.length_append,List.length_cons] at h1
        have:=HLW.out;omega
       have HI:=Lib.hid hI
       clear hI hlr hl hxs
       obtain⟨yi,ym⟩:=y
       simp only[encC]
       gi_wp2
       refine⟨KB.refl _,fun Wq hbk _=>?_⟩
       have HI2:=Lib.hid (⟨HI.out.1.bk hbk M5.out.fr.size,HI.out.2.bk hbk⟩:MB w w.heap.size (L0 ++ hits t.msg i k pre) Wq∧Kt mvT w5 Wq)
       have z8:=cell_of (HI2.out.2.cells D85.out (by decide)) 3
       have z5:=cell_of (HI2.out.2.cells D55.out (by decide)) 0
       have z7:=cell_of (HI2.out.2.cells D75.out (by decide)) 0
       clear hbk
       by_cases hm:ym=t.msg
       ·have hq:(ym.toList == t.msg.toList)=true:=by rw[str_beq,decide_eq_true hm]
        have HSN:=Lib.hid (hits_snoc (m:=t.msg) (i:=i) (k:=k) pre (yi,ym))
        rw[if_pos hm] at HSN
        have hlen:(L0 ++ hits t.msg i k pre).length≤1700:=by
         have:=hits_len (m:=t.msg) (i:=i) (k:=k) pre
         have:=HLen.out
         rw[List.length_append];omega
        obtain⟨L1,hL1⟩:∃ L1,L0 ++ hits t.msg i k pre=L1:=⟨_,rfl⟩
        rw[hL1] at HI2 hlen
        have HL1:=Lib.hid hL1
        obtain⟨ao,cp,hb1,hb2⟩:=HI2.out.1.bx
        have cx:=cell_of hb1 0
        have HB1:=Lib.hid hb1;have HB2:=Lib.hid hb2
        obtain⟨i0,hi0,hz0,hz1,hz2⟩:=info_parts Tryz.infoMv
        have hsz:w.heap.size≤(Wq.alloc (.cells #[.int .i64 1,.int .i64 i,.int .i64 k,.int .i64 yi] 44)).heap.size:=by have:=HI2.out.1.fr.size;simp;omega
        clear hm hb1 hb2 hL1
        gi_wp2_with (gi_at_builtin;refine wpListIn_append_own _ rfl _ _ 31 rfl w.heap.size 44 i0 (.agg #[.int .i64 0,.int .i64 0,.int .i64 0,.int .i64 0]) 4 32 Tryz.underlying31 hi0 hz0 hz1 hz2 rfl (by decide) (.slice ao L1.length cp) L1.length (mvC L1) rfl (HB2.out.alloc _) ⟨Wq.heap.size,0,none⟩ 1 1 (mvC1 ⟨1,i,k,yi⟩) rfl rfl (new_row _ _ _) (by simp[mvC1,Value.oneCell']) (by unfold maxLen;omega) (by omega) hsz ?_;intro v' w6 hown' hgrow _;obtain⟨ao',cp',rfl⟩:=own_shape hown';have hbx:=BO.facts HB1.out HB2.out (by decide) hgrow;have cx6:=cell_of hbx 0;have fx6:=free_of hbx 0;have HG:=Lib.hid hgrow;have HO:=Lib.hid hown';clear hgrow hown' hbx cx)
        have h9:=MB.add ⟨1,i,k,yi⟩ HI2.out.1 HB1.out HB2.out HG.out HO.out
        refine⟨h9.2.kb,?_⟩
        show MB w w.heap.size (L0 ++ hits t.msg i k (pre ++ [(yi,ym)])) _∧Kt mvT w5 _
        rw[HSN.out,← List.append_assoc,HL1.out]
        exact⟨h9.1,HI2.out.2.trans h9.2⟩
       ·have hq:(ym.toList == t.msg.toList)=false:=by rw[str_beq,decide_eq_false hm]
        have HSN:=Lib.hid (hits_snoc (m:=t.msg) (i:=i) (k:=k) pre (yi,ym))
        rw[if_neg hm] at HSN
        clear hm
        gi_wp2
        refine⟨KB.refl _,?_⟩
        show MB w w.heap.size (L0 ++ hits t.msg i k (pre ++ [(yi,ym)])) _∧Kt mvT w5 _
        rw[HSN.out]
        exact HI2.out
      ·intro D W hD hI hK
       have HID:=Lib.hid hI;have HKD:=Lib.hid hK;have HDD:=Lib.hid hD
       clear hI hK hD hit
       go_wp2
       refine⟨⟨D :: ds,?_⟩,?_⟩
       ·(repeat apply Exists.intro)
        exact⟨⟨k + 1,congrArg (Value.int .i64) (HWK.out k hltk),hltk,by rw[HE.out,HSM.out];exact HID.out.1,MS5.out.more M5.out.fr.size HID.out.2 HDD.out HKD.out,KT5.out.trans HID.out.2⟩,rfl⟩
       ·exact meas_up hltk (HWK.out k hltk)
     ·have b2:(t.kind == 2)=false:=by simpa using kk2
      by_cases kk1:t.kind=1
      ·have b1:(t.kind != 1)=false:=by simpa using kk1
       have hpe:=HSY.out.ok.peer HIN.out HKK.out (by rw[HTK.out];omega)
       rw[HTK.out] at hpe
       obtain⟨p1,p2,p3⟩:=hpe
       obtain⟨p,hp⟩:∃ p,peerN s t=p:=⟨_,rfl⟩
       rw[hp] at p1 p2 p3
       obtain⟨gb,go',cw,rb2,ro2,c2,cb,x2,hw⟩:=HST.out.way HIN.out p2
       obtain⟨g0,g1,F,hch⟩:=hw
       have HSM0:Hid (stepMv s x i k=if s.cap≤((x.way i p).length:Int) then [] else [⟨1,i,k,0⟩]):=Lib.hid (by
        unfold stepMv
        rw[HTK.out,if_neg (by rw[HPB.out];decide),if_neg kk2,hp]
        simp[kk1])
       have CNm:Hid (∀ V,Frm [] w V→Calls Tryz.prog 66 #[.pointer (some ⟨yb,0,none⟩),.string t.peer] V (Ret (.int .i64 (p:Int)) (Frm [] V))):=Lib.hid fun V hV=>by
        rw[← p1]
        obtain⟨rv',q1,q2⟩:=(HSY.out.frm hV).out
        exact pNumber_any yb s rv' t.peer V (cell_of q1 1) q2 (by have:=HSY.out.ok.n4;omega)
       obtain⟨LL,hLL⟩:∃ LL,x.way i p=LL:=⟨_,rfl⟩
       rw[hLL] at HSM0 hch
       rw[HN.out] at x2 g0
       have CLn:Hid (∀ V,Frm [] w V→Calls Tryz.prog 103 #[.pointer (some ⟨cb,0,none⟩)] V (Ret (.int .i64 (LL.length:Int)) (Frm [] V))):=Lib.hid fun V hV=>len_any (hch.frm hV (by simp))
       have HWY:Hid (∀ V,Frm [] w V→V.cell? ⟨sb,2,none⟩=some (.slice (some ⟨gb,go',none⟩) n cw)∧V.cell? ⟨gb,go' + i,none⟩=some (.slice (some ⟨rb2,ro2,none⟩) n c2)∧V.cell? ⟨rb2,ro2 + p,none⟩=some (.pointer (some ⟨cb,0,none⟩))):=
        Lib.hid fun V hV=>⟨hV.keep x2,hV.keep g0,hV.keep g1⟩
       have HBX:Hid (∀ V,Frm [] w2 V→V.cell? ⟨wq.heap.size + 1,4,none⟩=some (.string t.peer)∧V.cell? ⟨wq.heap.size + 1,2,none⟩=some (.int .i64 t.kind)∧V.cell? ⟨wr.heap.size,0,none⟩=some (.int .i64 i)):=Lib.hid fun V hV=>⟨hV.keep (cell_of D8.out 4),hV.keep (cell_of D8.out 2),hV.keep (cell_of D5.out 0)⟩
       have hpn:(p:Int) < (n:Int):=by rw[HN.out] at p2;omega
       clear kk2 kk1 p1 p2 p3 hp x2 g0 g1 hch hLL
       by_cases hroom:(LL.length:Int) < s.cap
       ·have HSM:Hid (stepMv s x i k=[⟨1,i,k,0⟩]):=Lib.hid (by rw[HSM0.out,if_neg (by omega)])
        have hlv:=hroom
        clear hroom
        go_upto_region 14 with fail
        clear e2
        refine wp_region_cq (by kernel_rfl) (by kernel_rfl) ?_
        repeat (first
         | go_big_quiet_skip
         | (refine wpQuiet_want (by rfl) (fun K hK=>?_)
            first
             | (refine quiet_move _ (by rfl) (hK _ ?_))
             | (refine quiet_assign _ (by rfl) (hK _ ?_))
             | (refine cq_call (.int .i64 (p:Int)) 66 #[.pointer (some ⟨yb,0,none⟩),.string t.peer] (fun w' hC=>?_) (fun w' hC=>Ret.cq (CNm.out w' (M2.out.fr.trans hC)) (fun w'' h=>hC.trans h)) (hK _ ?_)
                ·go_simp)
             | (refine cq_call (.int .i64 (LL.length:Int)) 103 #[.pointer (some ⟨cb,0,none⟩)] (fun w' hC=>?_) (fun w' hC=>Ret.cq (CLn.out w' (M2.out.fr.trans hC)) (fun w'' h=>hC.trans h)) (hK _ ?_)
                ·go_simp)
             | (apply Exists.intro
                refine⟨fun w' hC=>?_,hK _ ?_⟩
                ·(unfold Oper.quietAt
                  obtain⟨z1,z2,z3⟩:=HWY.out w' (M2.out.fr.trans hC);obtain⟨z4,z6,z5⟩:=HBX.out w' hC;obtain⟨-,-,z9⟩:=HY1.out w' (M2.out.fr.trans hC)
                  clear hC
                  go_simp
                  try exact⟨rfl,rfl⟩
                  try rfl))
            clear hK K
            try simp only[nrm,Act.eval,nrq]))
        refine wpQuiet_nil ?_
        intro w4 hf4
        clear hlv hpn CNm CLn HWY HBX HSM0
        have M4:=Lib.hid (M2.out.frm hf4)
        have MS4:=Lib.hid (MS2.out.frm hf4)
        have KT4:Hid (Kt mvT V0 w4):=Lib.hid (KT2.out.trans (Kt.frm hf4))
        have z5:=cell_of (hf4.at D5.out (by simp)) 0
        have z7:=cell_of (hf4.at D7.out (by simp)) 0
        obtain⟨ao,cp,hb1,hb2⟩:=M4.out.bx
        have cx:=cell_of hb1 0
        have HB1:=Lib.hid hb1;have HB2:=Lib.hid hb2
        obtain⟨i0,hi0,hz0,hz1,hz2⟩:=info_parts Tryz.infoMv
        have hsz:w.heap.size≤(w4.alloc (.cells #[.int .i64 1,.int .i64 i,.int .i64 k,.int .i64 0] 44)).heap.size:=by have:=M4.out.fr.size;simp;omega
        have hlen:=HLen.out
        clear hb1 hb2 hf4
        go_wp2_with (at_builtin;refine wpList_append_own_at _ rfl _ _ 31 rfl w.heap.size 44 i0 (.agg #[.int .i64 0,.int .i64 0,.int .i64 0,.int .i64 0]) 4 32 Tryz.underlying31 hi0 hz0 hz1 hz2 rfl (by decide) (.slice ao L0.length cp) L0.length (mvC L0) rfl (HB2.out.alloc _) ⟨w4.heap.size,0,none⟩ 1 1 (mvC1 ⟨1,i,k,0⟩) rfl rfl (new_row _ _ _) (by simp[mvC1,Value.oneCell']) (by unfold maxLen;omega) (by omega) hsz ?_;intro v' w6 hown' hgrow _ _;obtain⟨ao',cp',rfl⟩:=own_shape hown';have hbx:=BO.facts HB1.out HB2.out (by decide) hgrow;have cx6:=cell_of hbx 0;have fx6:=free_of hbx 0;have HG:=Lib.hid hgrow;have HO:=Lib.hid hown';clear hgrow hown' hbx cx)
        have h9:=MB.add ⟨1,i,k,0⟩ M4.out HB1.out HB2.out HG.out HO.out
        refine⟨⟨ds,?_⟩,?_⟩
        ·(repeat apply Exists.intro)
         exact⟨⟨k + 1,congrArg (Value.int .i64) (HWK.out k hltk),hltk,by rw[HE.out,HSM.out];exact h9.1,MS4.out.kt h9.2,KT4.out.trans h9.2⟩,rfl⟩
        ·exact meas_up hltk (HWK.out k hltk)
       ·have HSM:Hid (stepMv s x i k=[]):=Lib.hid (by rw[HSM0.out,if_pos (by omega)])
        have hlv:¬ (LL.length:Int) < s.cap:=hroom
        clear hroom
        go_upto_region 14 with fail
        clear e2
        refine wp_region_cq (by kernel_rfl) (by kernel_rfl) ?_
        repeat (first
         | go_big_quiet_skip
         | (refine wpQuiet_want (by rfl) (fun K hK=>?_)
            first
             | (refine quiet_move _ (by rfl) (hK _ ?_))
             | (refine quiet_assign _ (by rfl) (hK _ ?_))
             | (refine cq_call (.int .i64 (p:Int)) 66 #[.pointer (some ⟨yb,0,none⟩),.string t.peer] (fun w' hC=>?_) (fun w' hC=>Ret.cq (CNm.out w' (M2.out.fr.trans hC)) (fun w'' h=>hC.trans h)) (hK _ ?_)
                ·go_simp)
             | (refine cq_call (.int .i64 (LL.length:Int)) 103 #[.pointer (some ⟨cb,0,none⟩)] (fun w' hC=>?_) (fun w' hC=>Ret.cq (CLn.out w' (M2.out.fr.trans hC)) (fun w'' h=>hC.trans h)) (hK _ ?_)
                ·go_simp)
             | (apply Exists.intro
                refine⟨fun w' hC=>?_,hK _ ?_⟩
                ·(unfold Oper.quietAt
                  obtain⟨z1,z2,z3⟩:=HWY.out w' (M2.out.fr.trans hC);obtain⟨z4,z6,z5⟩:=HBX.out w' hC;obtain⟨-,-,z9⟩:=HY1.out w' (M2.out.fr.trans hC)
                  clear hC
                  go_simp
                  try exact⟨rfl,rfl⟩
                  try rfl))
            clear hK K
            try simp only[nrm,Act.eval,nrq]))
        refine wpQuiet_nil ?_
        intro w4 hf4
        have HF4:=Lib.hid hf4
        clear hf4 hlv hpn CNm CLn HWY HBX HSM0
        go_wp2
        refine⟨⟨ds,?_⟩,?_⟩
        ·(repeat apply Exists.intro)
         exact⟨⟨k + 1,congrArg (Value.int .i64) (HWK.out k hltk),hltk,by rw[HE.out,HSM.out,List.append_nil];exact M2.out.frm HF4.out,MS2.out.frm HF4.out,KT2.out.trans (Kt.frm HF4.out)⟩,rfl⟩
        ·exact meas_up hltk (HWK.out k hltk)
      ·have b1:(t.kind != 1)=true:=by simpa using kk1
       have HSM:Hid (stepMv s x i k=[⟨1,i,k,0⟩]):=Lib.hid (by
        unfold stepMv
        rw[HTK.out,if_neg (by rw[HPB.out];decide),if_neg kk2,if_neg (by simp[kk1])])
       have HBX:Hid (∀ V,Frm [] w2 V→V.cell? ⟨wq.heap.size + 1,2,none⟩=some (.int .i64 t.kind)):=Lib.hid fun V hV=>hV.keep (cell_of D8.out 2)
       clear kk2 kk1
       go_upto_region 14 with fail
       clear e2
       refine wp_region_cq (by kernel_rfl) (by kernel_rfl) ?_
       repeat (first
        | go_big_quiet_skip
        | (refine wpQuiet_want (by rfl) (fun K hK=>?_)
           first
            | (refine quiet_move _ (by rfl) (hK _ ?_))
            | (refine quiet_assign _ (by rfl) (hK _ ?_))
            | (apply Exists.intro
               refine⟨fun w' hC=>?_,hK _ ?_⟩
               ·(unfold Oper.quietAt
                 obtain⟨z4,-⟩:_∧True:=⟨HBX.out w' hC,trivial⟩
                 clear hC
                 go_simp
                 try exact⟨rfl,rfl⟩
                 try rfl))
           clear hK K
           try simp only[nrm,Act.eval,nrq]))
       refine wpQuiet_nil ?_
       intro w4 hf4
       clear HBX
       have M4:=Lib.hid (M2.out.frm hf4)
       have MS4:=Lib.hid (MS2.out.frm hf4)
       have KT4:Hid (Kt mvT V0 w4):=Lib.hid (KT2.out.trans (Kt.frm hf4))
       have z5:=cell_of (hf4.at D5.out (by simp)) 0
       have z7:=cell_of (hf4.at D7.out (by simp)) 0
       obtain⟨ao,cp,hb1,hb2⟩:=M4.out.bx
       have cx:=cell_of hb1 0
       have HB1:=Lib.hid hb1;have HB2:=Lib.hid hb2
       obtain⟨i0,hi0,hz0,hz1,hz2⟩:=info_parts Tryz.infoMv
       have hsz:w.heap.size≤(w4.alloc (.cells #[.int .i64 1,.int .i64 i,.int .i64 k,.int .i64 0] 44)).heap.size:=by have:=M4.out.fr.size;simp;omega
       have hlen:=HLen.out
       clear hb1 hb2 hf4
       go_wp2_with (at_builtin;refine wpList_append_own_at _ rfl _ _ 31 rfl w.heap.size 44 i0 (.agg #[.int .i64 0,.int .i64 0,.int .i64 0,.int .i64 0]) 4 32 Tryz.underlying31 hi0 hz0 hz1 hz2 rfl (by decide) (.slice ao L0.length cp) L0.length (mvC L0) rfl (HB2.out.alloc _) ⟨w4.heap.size,0,none⟩ 1 1 (mvC1 ⟨1,i,k,0⟩) rfl rfl (new_row _ _ _) (by simp[mvC1,Value.oneCell']) (by unfold maxLen;omega) (by omega) hsz ?_;intro v' w6 hown' hgrow _ _;obtain⟨ao',cp',rfl⟩:=own_shape hown';have hbx:=BO.facts HB1.out HB2.out (by decide) hgrow;have cx6:=cell_of hbx 0;have fx6:=free_of hbx 0;have HG:=Lib.hid hgrow;have HO:=Lib.hid hown';clear hgrow hown' hbx cx)
       have h9:=MB.add ⟨1,i,k,0⟩ M4.out HB1.out HB2.out HG.out HO.out
       refine⟨⟨ds,?_⟩,?_⟩
       ·(repeat apply Exists.intro)
        exact⟨⟨k + 1,congrArg (Value.int .i64) (HWK.out k hltk),hltk,by rw[HE.out,HSM.out];exact h9.1,MS4.out.kt h9.2,KT4.out.trans h9.2⟩,rfl⟩
       ·exact meas_up hltk (HWK.out k hltk)
  ·obtain rfl:k=m:=by omega
   have hgk:¬ (k:Int) < (k:Int):=by omega
   go_wp2
   refine⟨⟨ds,?_⟩,?_⟩
   ·(repeat apply Exists.intro)
    refine⟨⟨i + 1,congrArg (Value.int .i64) (HWI.out i hlt),hlt,?_,HMSq.out⟩,rfl⟩
    have:=HMq.out
    rw[← HMm.out,← HRR.out] at this
    exact this
   ·exact meas_up hlt (HWI.out i hlt)
 ·obtain rfl:i=n:=by omega
  have hge:¬ (i:Int) < (i:Int):=by omega
  have hn4:i≤4:=by have:=HSY.out.ok.n4;rw[HN.out] at this;exact this
  obtain⟨y1,y2,y3⟩:=HY1.out wr HM.out.fr
  have HM0:Hid (MB w w.heap.size (rMv s x i ++ lMv s x 0) wr):=Lib.hid (by rw[show lMv s x 0=[] from rfl,List.append_nil];exact HM.out)
  go_wp2
  clear y1 y2 y3
  go_loopw [110] (fun s110 wl=>∃ a:Nat,s110=.int .i64 a∧a≤i∧MB w w.heap.size (rMv s x i ++ lMv s x a) wl∧Ms w ds wl) (fun s110 _=>i - (intOf s110).toNat)
  case atStart=>exact⟨0,rfl,Nat.zero_le _,HM0.out,HMS.out⟩
  case round =>
   clear HM0 HM HMS
   obtain⟨a,rfl,ha,hmb,hms⟩:=hrel
   have HM:=Lib.hid hmb;have HMS:=Lib.hid hms
   clear hmb hms
   obtain⟨w1,hw1⟩:∃ w1,w1=wr:=⟨_,rfl⟩
   subst hw1
   by_cases hlta:a < i
   ·have hlta':(a:Int) < (i:Int):=by omega
    have hia:a < s.roles.length:=by rw[HN.out];exact hlta
    have HIA:=Lib.hid hia
    clear hia
    obtain⟨y1,y2,y3⟩:=HY1.out w1 HM.out.fr
    have HM0:Hid (MB w w.heap.size (rMv s x i ++ (lMv s x a ++ cat (fun k=>loseMv s x a k) 0)) w1):=Lib.hid (by rw[show cat (fun k=>loseMv s x a k) 0=[] from rfl,List.append_nil];exact HM.out)
    have HE:Hid (lMv s x (a + 1)=lMv s x a ++ cat (fun k=>loseMv s x a k) i):=Lib.hid (by rw[← HN.out];rfl)
    go_wp2
    clear y1 y2 y3
    go_loopw [119] (fun s119 wl=>∃ c:Nat,s119=.int .i64 c∧c≤i∧MB w w.heap.size (rMv s x i ++ (lMv s x a ++ cat (fun k=>loseMv s x a k) c)) wl∧Ms w ds wl) (fun s119 _=>i - (intOf s119).toNat)
    case atStart=>exact⟨0,rfl,Nat.zero_le _,HM0.out,HMS.out⟩
    case round =>
     clear HM0 HM HMS
     obtain⟨c,rfl,hc,hmb,hms⟩:=hrel
     have HM:=Lib.hid hmb;have HMS:=Lib.hid hms
     clear hmb hms
     by_cases hltc:c < i
     ·have hltc':(c:Int) < (i:Int):=by omega
      have hic:c < s.roles.length:=by rw[HN.out];exact hltc
      have HEC:Hid (rMv s x i ++ (lMv s x a ++ cat (fun k=>loseMv s x a k) (c + 1))=(rMv s x i ++ (lMv s x a ++ cat (fun k=>loseMv s x a k) c)) ++ loseMv s x a c):=Lib.hid (by
       rw[show cat (fun k=>loseMv s x a k) (c + 1)=cat (fun k=>loseMv s x a k) c ++ loseMv s x a c from rfl]
       simp only[List.append_assoc])
      have hLen:(rMv s x i ++ (lMv s x a ++ cat (fun k=>loseMv s x a k) c)).length≤1600:=by
       have a1:=stepsMv_len HSY.out.ok HST.out.ok (show i≤s.roles.length by rw[HN.out];exact Nat.le_refl _)
       have a2:=losesMv_len (x:=x) HSY.out.ok (show a≤s.roles.length by rw[HN.out];omega)
       have a3:=cat_len (n:=c) (f:=fun k=>loseMv s x a k) (c:=1) (fun k _=>loseMv_len a k)
       rw[List.length_append,List.length_append]
       have a4:=Nat.add_le_add a1 (Nat.add_le_add a2 a3)
       exact Nat.le_trans a4 (by omega)
      obtain⟨L0,hL0⟩:∃ L0,rMv s x i ++ (lMv s x a ++ cat (fun k=>loseMv s x a k) c)=L0:=⟨_,rfl⟩
      rw[hL0] at HM HEC hLen
      have HLen:=Lib.hid hLen
      clear hL0 hLen
      obtain⟨y1,y2,y3⟩:=HY1.out wr HM.out.fr
      by_cases h3:s.cls=3
      ·have q3:(s.cls == 3)=true:=by simpa using h3
       obtain⟨gb,go',cw,rb2,ro2,c2,cb,x2,hw⟩:=HST.out.way HIA.out hic
       obtain⟨g0,g1,F,hch⟩:=hw
       have HSM0:Hid (loseMv s x a c=if 0 < (x.way a c).length then [⟨2,a,c,0⟩] else []):=Lib.hid (by unfold loseMv;simp[h3])
       obtain⟨LL,hLL⟩:∃ LL,x.way a c=LL:=⟨_,rfl⟩
       rw[hLL] at HSM0 hch
       rw[HN.out] at x2 g0
       have CLn:=Lib.hid (len_any (hch.frm HM.out.fr (by simp)))
       replace x2:=HM.out.fr.keep x2;replace g0:=HM.out.fr.keep g0;replace g1:=HM.out.fr.keep g1
       clear hch hLL hic h3
       by_cases hpos:0 < LL.length
       ·have hp':(0:Int) < (LL.length:Int):=by omega
        have HSM:Hid (loseMv s x a c=[⟨2,a,c,0⟩]):=Lib.hid (by rw[HSM0.out,if_pos hpos])
        clear hpos
        go_upto_region 25 with (first
         | (go_at_call 103;go_must (refine CLn.out.mono ?_;rintro e w4 ⟨rfl,hf4⟩;have HF4:=Lib.hid hf4;clear hf4)))
        have M4:=Lib.hid (HM.out.frm HF4.out)
        have MS4:=Lib.hid (HMS.out.frm HF4.out)
        obtain⟨ao,cp,hb1,hb2⟩:=M4.out.bx
        have cx:=cell_of hb1 0
        have HB1:=Lib.hid hb1;have HB2:=Lib.hid hb2
        obtain⟨i0,hi0,hz0,hz1,hz2⟩:=info_parts Tryz.infoMv
        have hsz:w.heap.size≤(w4.alloc (.cells #[.int .i64 2,.int .i64 a,.int .i64 c,.int .i64 0] 44)).heap.size:=by have:=M4.out.fr.size;simp;omega
        have hlen:=HLen.out
        clear hb1 hb2 x2 g0 g1 y1 y2 y3 q3 hp'
        go_wp2_with (at_builtin;refine wpList_append_own_at _ rfl _ _ 31 rfl w.heap.size 44 i0 (.agg #[.int .i64 0,.int .i64 0,.int .i64 0,.int .i64 0]) 4 32 Tryz.underlying31 hi0 hz0 hz1 hz2 rfl (by decide) (.slice ao L0.length cp) L0.length (mvC L0) rfl (HB2.out.alloc _) ⟨w4.heap.size,0,none⟩ 1 1 (mvC1 ⟨2,a,c,0⟩) rfl rfl (new_row _ _ _) (by simp[mvC1,Value.oneCell']) (by unfold maxLen;omega) (by omega) hsz ?_;intro v' w6 hown' hgrow _ _;obtain⟨ao',cp',rfl⟩:=own_shape hown';have hbx:=BO.facts HB1.out HB2.out (by decide) hgrow;have cx6:=cell_of hbx 0;have fx6:=free_of hbx 0;have HG:=Lib.hid hgrow;have HO:=Lib.hid hown';clear hgrow hown' hbx cx)
        have h9:=MB.add ⟨2,a,c,0⟩ M4.out HB1.out HB2.out HG.out HO.out
        exact⟨⟨c + 1,congrArg (Value.int .i64) (by omega),hltc,by rw[HEC.out,HSM.out];exact h9.1,MS4.out.kt h9.2⟩,by simp[intOf];omega⟩
       ·have hp':¬ (0:Int) < (LL.length:Int):=by omega
        have HSM:Hid (loseMv s x a c=[]):=Lib.hid (by rw[HSM0.out,if_neg hpos])
        clear hpos
        go_wp2_with (first
         | (go_at_call 103;go_must (refine CLn.out.mono ?_;rintro e w4 ⟨rfl,hf4⟩;have HF4:=Lib.hid hf4;clear hf4)))
        exact⟨⟨c + 1,congrArg (Value.int .i64) (by omega),hltc,by rw[HEC.out,HSM.out,List.append_nil];exact HM.out.frm HF4.out,HMS.out.frm HF4.out⟩,by simp[intOf];omega⟩
      ·have q3:(s.cls == 3)=false:=by simpa using h3
       have HSM:Hid (loseMv s x a c=[]):=Lib.hid (by unfold loseMv;simp[h3])
       clear h3
       go_wp2
       exact⟨⟨c + 1,congrArg (Value.int .i64) (by omega),hltc,by rw[HEC.out,HSM.out,List.append_nil];exact HM.out,HMS.out⟩,by simp[intOf];omega⟩
     ·obtain rfl:c=i:=by omega
      go_wp2
      exact⟨⟨a + 1,congrArg (Value.int .i64) (by omega),hlta,by rw[HE.out];exact HM.out,HMS.out⟩,by simp[intOf];omega⟩
   ·obtain rfl:a=i:=by omega
    obtain⟨L,hL⟩:∃ L,rMv s x a ++ lMv s x a=L:=⟨_,rfl⟩
    have HLM:Hid (L=movesP s x):=Lib.hid (by rw[← hL,← HN.out];rfl)
    rw[hL] at HM
    obtain⟨ao,cp,hb1,hb2⟩:=HM.out.bx
    have cx:=cell_of hb1 0
    have fx:=free_of hb1 0
    have HB1:=Lib.hid hb1;have HB2:=Lib.hid hb2
    clear hb1 hb2 hL
    go_wp2
    exact mv_end HM.out.fr (Nat.le_refl _) HB1.out HB2.out HMS.out (fun W hc=>by simp[results,Tryz.results63,go_sem,hc]) HLM.out
theorem pmoves_any (s:SesD) (yb fb sb:Nat) (x:PS) (w:World) (h:SyR w s yb fb) (hx:StR w s yb sb x) :
  Calls Tryz.prog 63 #[.pointer (some ⟨yb,0,none⟩),.pointer (some ⟨sb,0,none⟩)] w (RetV fun v w'=>Arr 4 MvAt w' v (movesP s x)∧Frm [] w w'):=
 (pmoves_own s yb fb sb x w h hx).mono fun e w' h=>by
  obtain⟨v,rfl,h1,h2⟩:=h
  exact⟨v,rfl,mv_arr h1,h2⟩
end Go.Proofs.YtohfkhjlnlahdaaGreat
