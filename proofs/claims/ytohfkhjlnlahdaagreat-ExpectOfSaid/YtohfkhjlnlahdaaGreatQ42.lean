/- Part of the proof. -/
import Derived.Test.YtohfkhjlnlahdaaGreatQ04
import Derived.Test.YtohfkhjlnlahdaaGreatQ41
import Derived.Test.YtohfkhjlnlahdaaGreatQ19
import Derived.Test.YtohfkhjlnlahdaaGreatQ40
import Derived.Test.YtohfkhjlnlahdaaGreatQ27
import Derived.Test.YtohfkhjlnlahdaaGreatQ25
set_option linter.all false
namespace Go.Proofs.YtohfkhjlnlahdaaGreat
open Go.RowKit Go.BigFrame
theorem dz (cls:Int) (L:List ByteArray):∀ n,(cX cls L n).length≤n
 | 0=>by simp[cX]
 | n+1=>by
   have:=dz cls L n
   rw[cX]
   split <;> simp <;> omega
theorem cP {α:Type} {f:Nat→List α} {c:Nat}:∀ {n:Nat},(∀ k,k<n→(f k).length≤c)→(cat f n).length≤n*c
 | 0,_=>by simp[cat]
 | n+1,h=>by
   have a:=cP (n:=n) (fun k E=>h k (by omega))
   have A:=h n (by omega)
   rw[cat,List.length_append,Nat.add_mul];omega
section
variable {s:SesD} {x:PS}
theorem oV (h:SesOk s) (G:PSok s x) {i k:Nat} (a:i<s.roles.length) (A:k<(s.rol i).steps.length):(be s x i k).length≤4:=by
 unfold be
 split
 ·simp
 ·split
  ·rename_i I
   obtain⟨-,E,-⟩:=h.peer a A (by omega)
   have H:=(G.wb _ i E a).1
   have J:=dz s.cls (x.way (bd s ((s.rol i).stp k)) i) (x.way (bd s ((s.rol i).stp k)) i).length
   have K:=mz (m:=((s.rol i).stp k).msg) (i:=i) (k:=k) (cX s.cls (x.way (bd s ((s.rol i).stp k)) i) (x.way (bd s ((s.rol i).stp k)) i).length)
   have:=h.k4
   omega
  ·split <;> simp
theorem jN (i k:Nat):(bP s x i k).length≤1:=by unfold bP;split <;> simp
theorem jO (h:SesOk s) (A:PSok s x) {i:Nat} (a:i<s.roles.length) {n:Nat} (H:n≤(s.rol i).steps.length):(cat (fun k=>be s x i k) n).length≤320:=by
 have E:=cP (n:=n) (f:=fun k=>be s x i k) (c:=4) (fun k G=>oV h A a (by omega))
 have:=(h.at a).t80
 omega
theorem fW (a:SesOk s) (h:PSok s x) {n:Nat} (G:n≤s.roles.length):(cat (fun i=>cat (fun k=>be s x i k) (s.rol i).steps.length) n).length≤1280:=by
 have A:=cP (n:=n) (f:=fun i=>cat (fun k=>be s x i k) (s.rol i).steps.length) (c:=320) (fun i E=>jO a h (by omega) (Nat.le_refl _))
 have:=a.n4
 omega
theorem iK (a:SesOk s) {n:Nat} (E:n≤s.roles.length):(cat (fun i=>cat (fun k=>bP s x i k) s.roles.length) n).length≤16:=by
 have h:∀ i,(cat (fun k=>bP s x i k) s.roles.length).length≤s.roles.length*1:=fun i=>cP (fun k _=>jN i k)
 have A:=cP (n:=n) (f:=fun i=>cat (fun k=>bP s x i k) s.roles.length) (c:=4) (fun i _=>by have:=h i;have:=a.n4;omega)
 have:=a.n4
 omega
end
abbrev rMv (s:SesD) (x:PS) (i:Nat):List Mv:=cat (fun i=>cat (fun k=>be s x i k) (s.rol i).steps.length) i
abbrev lMv (s:SesD) (x:PS) (i:Nat):List Mv:=cat (fun i=>cat (fun k=>bP s x i k) s.roles.length) i
theorem bD {m k:Nat} (h:k<m) (a:wrap64 ((k:Int)+1)=((k+1:Nat):Int)):m - (intOf (.int .i64 (wrap64 ((k:Int)+1)))).toNat<m - (intOf (.int .i64 (k:Int))).toNat:=by
 rw[a]
 simp only[intOf,Int.toNat_natCast]
 omega
theorem uF {w a:World} {G h:Nat} {ds:List Nat} {L M:List Mv} {ao:Option Addr} {fn:Func} {tmps:Array Value} (ad:Frm [] w a) (ah:w.heap.size≤G) (K:a.heap[G]?=some (.cells #[.slice ao L.length h] 31 (0,0)))
  (U:a.ownsRow w.heap.size 44 4 (.slice ao L.length h) L.length (mvC L)) (ag:Ms w ds a) (ai:∀ J:World,J.cell? ⟨G,0,none⟩=some (.slice ao L.length h)→(results fn tmps).run Tryz.prog J=.ok (.slice ao L.length h) J) (Y:L=M) :
  LeavesInM Fence.wide 3 Tryz.prog fn tmps (aU fun v w'=>w'.ownsRow w.heap.size 44 4 v M.length (mvC M)∧Frm [] w w') (fK ds) .returning (a.setCell ⟨G,0,none⟩ (.slice ao L.length h)):=by
 subst Y
 have E:Kt mvT a (a.setCell ⟨G,0,none⟩ (.slice ao L.length h)):=(Kt.refl _ a).set K (by decide) _
 have H:=ag.kt E
 have hb:=(ap K 0 (.slice ao L.length h)).trans rfl
 obtain⟨A,O⟩:∃ A,a.setCell ⟨G,0,none⟩ (.slice ao L.length h)=A:=⟨_,rfl⟩
 have W:A.ownsRow w.heap.size 44 4 (.slice ao L.length h) L.length (mvC L):=by
  rw[← O]
  refine ownsRow_setCell_other U (fun X=>?_) _
  obtain⟨c,I⟩:=ak U X
  rw[K] at I;cases I
 have af:Frm [] w A:=by rw[← O];exact ad.setCell _ (.inr ah) _
 rw[O] at H hb ⊢
 have R:=eA ds A
 have V:∀ (k:Nat) c t S,A.heap[k]?=some (.cells c t S)→k∉ds:=fun k c t S E ab=>by
  rw[(H.dl k ab).2] at E;cases E
 have aa:=R.at hb (V _ _ _ _ hb)
 refine dY ds A H.nd (fun D N=>(H.dl D N).2) ⟨_,ai _ (ae aa 0),_,rfl,R.owns W (fun k E=>?_),af.then R (fun D N=>.inr (H.dl D N).1)⟩
 obtain⟨c,I⟩:=ak W E
 exact V _ _ _ _ I
attribute [local go_sem] Oper.semAt_some
set_option maxHeartbeats 8000000 in
set_option maxRecDepth 100000 in
theorem jI (s:SesD) (K dd sb:Nat) (x:PS) (w:World) (J:SyR w s K dd) (dt:StR w s K sb x) :
  Calls Tryz.prog 63 #[.pointer (some ⟨K,0,none⟩),.pointer (some ⟨sb,0,none⟩)] w (aU fun v w'=>w'.ownsRow w.heap.size 44 4 v (aN s x).length (mvC (aN s x))∧Frm [] w w'):=by
 have S:=vi J;have aR:=vi dt
 obtain⟨es,a8,de⟩:=J.out
 obtain⟨dw,dx,rfl⟩:=de.shape
 have hb:=J.first
 obtain⟨n,cc⟩:∃ n,s.roles.length=n:=⟨_,rfl⟩
 have ab:=ae a8 1
 have em:=lt_of_block a8
 rw[cc] at ab
 have bm:Hid (∀ a,Frm [] w a→a.cell? ⟨K,1,none⟩=some (.slice dw n dx)∧a.cell? ⟨K,2,none⟩=some (.int .i64 s.cls)∧a.cell? ⟨K,3,none⟩=some (.int .i64 s.cap)):=vi fun a I=>⟨I.keep ab,I.keep (ae a8 2),I.keep (ae a8 3)⟩
 have ad:=vi cc
 have dp:n≤4:=by rw[← cc];exact J.ok.n4
 have dc:Hid (∀ i:Nat,i<n→wrap64 ((i:Int)+1)=((i+1:Nat):Int)):=vi fun i d3=>by unfold wrap64;omega
 clear J a8 de dt hb cc dp
 refine cf Tryz.func63 rfl ?_
 simp only[Tryz.ntmps63,List.size_toArray,List.length_cons,List.length_nil,Nat.reduceAdd,Nat.reduceSub,Array.replicate_succ,Array.replicate_zero,List.push_toArray,List.append_toArray,List.nil_append,List.cons_append]
 go_wp2
 have aw:Hid (MB w w.heap.size [] (w.alloc (.cells #[.slice none 0 0] 31))):=vi (BO.made w _ _ _ ((Frm.refl [] w).alloc _) (Nat.le_refl _) (heap_alloc_new _ _))
 clear ab
 refine wp_loop (fun a' w'=>∃ ds,∃ u5 u6 u7 u8 u9 u10 u19 u20 u21 u22 u23 u24 u25 u26 u27 u28 u29 u30 u31 u32 u33 u34 u35 u36 u37 u38 u39 u40 u41 u42 u43 u44 u45 u46 u47 u48 u49 u50 u51 u52 u53 u54 u55 u56 u57 u58 u59 u60 u61 u62 u63 u64 u65 u66 u67 u68 u69 u70 u71 u72 u73 u74 u75 u76 u77 u78 u79 u80 u81 u82 u83 u84 u85 u86 u87 u88 u89 u90 u91 u92 u93 u94 u95 u96 u97 u98 u99 u100 u101 u102 u103:Value,(fun ds u19 w'=>∃ i:Nat,u19=.int .i64 (i:Int)∧i≤n∧MB w w.heap.size (rMv s x i) w'∧Ms w ds w') ds u19 w'∧a'={ tmps:=#[.pointer (some ⟨K,0,none⟩),.pointer (some ⟨sb,0,none⟩),undef,undef,.pointer (some ⟨w.heap.size,0,none⟩),u5,u6,u7,u8,u9,u10,undef,undef,.pointer (some ⟨K,0,none⟩),.pointer (some ⟨K,0,none⟩),.pointer (some ⟨K,0,none⟩),.pointer (some ⟨K,1,none⟩),.slice dw n dx,.int .i64 (n:Int),u19,u20,u21,u22,u23,u24,u25,u26,u27,u28,u29,u30,u31,u32,u33,u34,u35,u36,u37,u38,u39,u40,u41,u42,u43,u44,u45,u46,u47,u48,u49,u50,u51,u52,u53,u54,u55,u56,u57,u58,u59,u60,u61,u62,u63,u64,u65,u66,u67,u68,u69,u70,u71,u72,u73,u74,u75,u76,u77,u78,u79,u80,u81,u82,u83,u84,u85,u86,u87,u88,u89,u90,u91,u92,u93,u94,u95,u96,u97,u98,u99,u100,u101,u102,u103,undef,undef,undef,undef,undef,undef,undef,undef,undef,undef,undef,undef,undef,undef,undef,undef,undef,undef,undef,undef,undef,undef,undef,undef,undef,undef,undef,undef,undef,undef,undef,undef,undef,undef,undef,undef,undef,undef,undef,undef,undef,undef,undef,undef,undef,undef,undef],defers:=fK ds }) (fun a' _=>n - (intOf (a'.tmps.getD 19 undef)).toNat) ?_ ?_
 ·refine⟨[],?_⟩
  (repeat apply Exists.intro)
  exact⟨⟨0,rfl,Nat.zero_le _,aw.out,Ms.nil _ _⟩,rfl⟩
 intro a' wr hinv
 obtain⟨ds,hinv⟩:=hinv
 obtain⟨u5,hinv⟩:=hinv
 obtain⟨u6,hinv⟩:=hinv
 obtain⟨u7,hinv⟩:=hinv
 obtain⟨u8,hinv⟩:=hinv
 obtain⟨u9,hinv⟩:=hinv
 obtain⟨u10,hinv⟩:=hinv
 obtain⟨u19,hinv⟩:=hinv
 obtain⟨u20,hinv⟩:=hinv
 obtain⟨u21,hinv⟩:=hinv
 obtain⟨u22,hinv⟩:=hinv
 obtain⟨u23,hinv⟩:=hinv
 obtain⟨u24,hinv⟩:=hinv
 obtain⟨u25,hinv⟩:=hinv
 obtain⟨u26,hinv⟩:=hinv
 obtain⟨u27,hinv⟩:=hinv
 obtain⟨u28,hinv⟩:=hinv
 obtain⟨u29,hinv⟩:=hinv
 obtain⟨u30,hinv⟩:=hinv
 obtain⟨u31,hinv⟩:=hinv
 obtain⟨u32,hinv⟩:=hinv
 obtain⟨u33,hinv⟩:=hinv
 obtain⟨u34,hinv⟩:=hinv
 obtain⟨u35,hinv⟩:=hinv
 obtain⟨u36,hinv⟩:=hinv
 obtain⟨u37,hinv⟩:=hinv
 obtain⟨u38,hinv⟩:=hinv
 obtain⟨u39,hinv⟩:=hinv
 obtain⟨u40,hinv⟩:=hinv
 obtain⟨u41,hinv⟩:=hinv
 obtain⟨u42,hinv⟩:=hinv
 obtain⟨u43,hinv⟩:=hinv
 obtain⟨u44,hinv⟩:=hinv
 obtain⟨u45,hinv⟩:=hinv
 obtain⟨u46,hinv⟩:=hinv
 obtain⟨u47,hinv⟩:=hinv
 obtain⟨u48,hinv⟩:=hinv
 obtain⟨u49,hinv⟩:=hinv
 obtain⟨u50,hinv⟩:=hinv
 obtain⟨u51,hinv⟩:=hinv
 obtain⟨u52,hinv⟩:=hinv
 obtain⟨u53,hinv⟩:=hinv
 obtain⟨u54,hinv⟩:=hinv
 obtain⟨u55,hinv⟩:=hinv
 obtain⟨u56,hinv⟩:=hinv
 obtain⟨u57,hinv⟩:=hinv
 obtain⟨u58,hinv⟩:=hinv
 obtain⟨u59,hinv⟩:=hinv
 obtain⟨u60,hinv⟩:=hinv
 obtain⟨u61,hinv⟩:=hinv
 obtain⟨u62,hinv⟩:=hinv
 obtain⟨u63,hinv⟩:=hinv
 obtain⟨u64,hinv⟩:=hinv
 obtain⟨u65,hinv⟩:=hinv
 obtain⟨u66,hinv⟩:=hinv
 obtain⟨u67,hinv⟩:=hinv
 obtain⟨u68,hinv⟩:=hinv
 obtain⟨u69,hinv⟩:=hinv
 obtain⟨u70,hinv⟩:=hinv
 obtain⟨u71,hinv⟩:=hinv
 obtain⟨u72,hinv⟩:=hinv
 obtain⟨u73,hinv⟩:=hinv
 obtain⟨u74,hinv⟩:=hinv
 obtain⟨u75,hinv⟩:=hinv
 obtain⟨u76,hinv⟩:=hinv
 obtain⟨u77,hinv⟩:=hinv
 obtain⟨u78,hinv⟩:=hinv
 obtain⟨u79,hinv⟩:=hinv
 obtain⟨u80,hinv⟩:=hinv
 obtain⟨u81,hinv⟩:=hinv
 obtain⟨u82,hinv⟩:=hinv
 obtain⟨u83,hinv⟩:=hinv
 obtain⟨u84,hinv⟩:=hinv
 obtain⟨u85,hinv⟩:=hinv
 obtain⟨u86,hinv⟩:=hinv
 obtain⟨u87,hinv⟩:=hinv
 obtain⟨u88,hinv⟩:=hinv
 obtain⟨u89,hinv⟩:=hinv
 obtain⟨u90,hinv⟩:=hinv
 obtain⟨u91,hinv⟩:=hinv
 obtain⟨u92,hinv⟩:=hinv
 obtain⟨u93,hinv⟩:=hinv
 obtain⟨u94,hinv⟩:=hinv
 obtain⟨u95,hinv⟩:=hinv
 obtain⟨u96,hinv⟩:=hinv
 obtain⟨u97,hinv⟩:=hinv
 obtain⟨u98,hinv⟩:=hinv
 obtain⟨u99,hinv⟩:=hinv
 obtain⟨u100,hinv⟩:=hinv
 obtain⟨u101,hinv⟩:=hinv
 obtain⟨u102,hinv⟩:=hinv
 obtain⟨u103,hinv⟩:=hinv
 obtain⟨hrel,b8⟩:=hinv
 subst b8
 try dsimp only
 clear aw
 obtain⟨i,rfl,d3,aA,aB⟩:=hrel
 have G:=vi aA;have am:=vi aB
 clear aA aB
 by_cases hlt:i<n
 ·have en:(i:Int)<(n:Int):=by omega
  have b9:i<s.roles.length:=by rw[ad.out];exact hlt
  obtain⟨rb,dy,ec,et,ei,ew,ab,ce⟩:=S.out.rol b9
  have aL:=vi b9
  obtain⟨r,cg⟩:∃ r,s.rol i=r:=⟨_,rfl⟩
  rw[cg] at ce
  rw[ad.out] at ab
  have c2:=(bm.out w (Frm.refl _ _)).1
  rw[ab] at c2
  simp only[Option.some.injEq,Value.slice.injEq,true_and] at c2
  obtain⟨rfl,rfl⟩:=c2
  obtain⟨bZ,b3,rfl⟩:=ce.r3.steps.shape
  have bU:=vi ce.r3
  obtain⟨m,az⟩:∃ m,r.steps.length=m:=⟨_,rfl⟩
  obtain⟨b5,cF,cG,b6,-⟩:=ce
  rw[az] at b6 bU
  have aF:Hid (∀ k:Nat,k<m→wrap64 ((k:Int)+1)=((k+1:Nat):Int)):=vi fun k d4=>by
   have:=(S.out.ok.at b9).t80
   rw[cg,az] at this
   unfold wrap64;omega
  have cq:=vi az;have cs:=vi cg
  replace b5:=G.out.fr.keep b5;replace cF:=G.out.fr.keep cF;replace cG:=G.out.fr.keep cG;replace b6:=G.out.fr.keep b6;replace ab:=G.out.fr.keep ab
  have ea:=aI b5
  clear cg az b9
  obtain⟨cy,cC,rfl⟩:=bU.out.sts.shape
  obtain⟨cx,cB,rfl⟩:=bU.out.ctrs.shape
  go_wp2
  obtain⟨ap,bF⟩:∃ ap,(wr.alloc (.cells #[.int .i64 i] 3)).alloc (.cells #[.string r.name,.slice cy r.sts.length cC,.slice cx r.ctrs.length cB,.slice bZ m b3] 87)=ap:=⟨_,rfl⟩
  have c6:Hid (Frm [] wr ap):=vi (by rw[← bF];exact((Frm.refl [] wr).alloc _).alloc _)
  have dW:Hid (ap.heap[wr.heap.size]?=some (.cells #[.int .i64 i] 3 (0,0))):=vi (by rw[← bF];exact ah (heap_alloc_new _ _))
  have eg:Hid (ap.heap[wr.heap.size+1]?=some (.cells #[.string r.name,.slice cy r.sts.length cC,.slice cx r.ctrs.length cB,.slice bZ m b3] 87 (0,0))):=vi (by rw[← bF];exact aq (by simp))
  try rw[bF]
  clear bF
  have aw:Hid (MB w w.heap.size (rMv s x i++cat (fun k=>be s x i k) 0) ap):=vi (by rw[show cat (fun k=>be s x i k) 0=[] from rfl,List.append_nil];exact G.out.frm c6.out)
  have db:=vi (am.out.frm c6.out)
  refine wp_loop (fun a' w'=>∃ ds,∃ u7 u8 u9 u10 u27 u28 u29 u30 u31 u32 u33 u34 u35 u36 u37 u38 u39 u40 u41 u42 u43 u44 u45 u46 u47 u48 u49 u50 u51 u52 u53 u54 u55 u56 u57 u58 u59 u60 u61 u62 u63 u64 u65 u66 u67 u68 u69 u70 u71 u72 u73 u74 u75 u76 u77 u78 u79 u80 u81 u82 u83 u84 u85 u86 u87 u88 u89 u90 u91 u92 u93 u94 u95 u96 u97 u98 u99 u100 u101 u102:Value,(fun ds u27 w'=>∃ k:Nat,u27=.int .i64 (k:Int)∧k≤m∧MB w w.heap.size (rMv s x i++cat (fun k=>be s x i k) k) w'∧Ms w ds w'∧Kt mvT ap w') ds u27 w'∧a'={ tmps:=#[.pointer (some ⟨K,0,none⟩),.pointer (some ⟨sb,0,none⟩),undef,undef,.pointer (some ⟨w.heap.size,0,none⟩),.pointer (some ⟨wr.heap.size,0,none⟩),.pointer (some ⟨wr.heap.size+1,0,none⟩),u7,u8,u9,u10,undef,undef,.pointer (some ⟨K,0,none⟩),.pointer (some ⟨K,0,none⟩),.pointer (some ⟨K,0,none⟩),.pointer (some ⟨K,1,none⟩),.slice (some ⟨rb,dy,none⟩) n ec,.int .i64 (n:Int),.int .i64 (i:Int),.bool true,.int .i64 (i:Int),.pointer (some ⟨rb,dy+i*4,none⟩),.agg #[.string r.name,.slice cy r.sts.length cC,.slice cx r.ctrs.length cB,.slice bZ m b3],.pointer (some ⟨wr.heap.size+1,3,none⟩),.slice bZ m b3,.int .i64 (m:Int),u27,u28,u29,u30,u31,u32,u33,u34,u35,u36,u37,u38,u39,u40,u41,u42,u43,u44,u45,u46,u47,u48,u49,u50,u51,u52,u53,u54,u55,u56,u57,u58,u59,u60,u61,u62,u63,u64,u65,u66,u67,u68,u69,u70,u71,u72,u73,u74,u75,u76,u77,u78,u79,u80,u81,u82,u83,u84,u85,u86,u87,u88,u89,u90,u91,u92,u93,u94,u95,u96,u97,u98,u99,u100,u101,u102,u103,undef,undef,undef,undef,undef,undef,undef,undef,undef,undef,undef,undef,undef,undef,undef,undef,undef,undef,undef,undef,undef,undef,undef,undef,undef,undef,undef,undef,undef,undef,undef,undef,undef,undef,undef,undef,undef,undef,undef,undef,undef,undef,undef,undef,undef,undef,undef],defers:=fK ds }) (fun a' _=>m - (intOf (a'.tmps.getD 27 undef)).toNat) ?_ ?_
  ·refine⟨ds,?_⟩
   (repeat apply Exists.intro)
   exact⟨⟨0,rfl,Nat.zero_le _,aw.out,db.out,Kt.refl _ _⟩,rfl⟩
  intro a' aP hinv
  obtain⟨ds,hinv⟩:=hinv
  obtain⟨u7,hinv⟩:=hinv
  obtain⟨u8,hinv⟩:=hinv
  obtain⟨u9,hinv⟩:=hinv
  obtain⟨u10,hinv⟩:=hinv
  obtain⟨u27,hinv⟩:=hinv
  obtain⟨u28,hinv⟩:=hinv
  obtain⟨u29,hinv⟩:=hinv
  obtain⟨u30,hinv⟩:=hinv
  obtain⟨u31,hinv⟩:=hinv
  obtain⟨u32,hinv⟩:=hinv
  obtain⟨u33,hinv⟩:=hinv
  obtain⟨u34,hinv⟩:=hinv
  obtain⟨u35,hinv⟩:=hinv
  obtain⟨u36,hinv⟩:=hinv
  obtain⟨u37,hinv⟩:=hinv
  obtain⟨u38,hinv⟩:=hinv
  obtain⟨u39,hinv⟩:=hinv
  obtain⟨u40,hinv⟩:=hinv
  obtain⟨u41,hinv⟩:=hinv
  obtain⟨u42,hinv⟩:=hinv
  obtain⟨u43,hinv⟩:=hinv
  obtain⟨u44,hinv⟩:=hinv
  obtain⟨u45,hinv⟩:=hinv
  obtain⟨u46,hinv⟩:=hinv
  obtain⟨u47,hinv⟩:=hinv
  obtain⟨u48,hinv⟩:=hinv
  obtain⟨u49,hinv⟩:=hinv
  obtain⟨u50,hinv⟩:=hinv
  obtain⟨u51,hinv⟩:=hinv
  obtain⟨u52,hinv⟩:=hinv
  obtain⟨u53,hinv⟩:=hinv
  obtain⟨u54,hinv⟩:=hinv
  obtain⟨u55,hinv⟩:=hinv
  obtain⟨u56,hinv⟩:=hinv
  obtain⟨u57,hinv⟩:=hinv
  obtain⟨u58,hinv⟩:=hinv
  obtain⟨u59,hinv⟩:=hinv
  obtain⟨u60,hinv⟩:=hinv
  obtain⟨u61,hinv⟩:=hinv
  obtain⟨u62,hinv⟩:=hinv
  obtain⟨u63,hinv⟩:=hinv
  obtain⟨u64,hinv⟩:=hinv
  obtain⟨u65,hinv⟩:=hinv
  obtain⟨u66,hinv⟩:=hinv
  obtain⟨u67,hinv⟩:=hinv
  obtain⟨u68,hinv⟩:=hinv
  obtain⟨u69,hinv⟩:=hinv
  obtain⟨u70,hinv⟩:=hinv
  obtain⟨u71,hinv⟩:=hinv
  obtain⟨u72,hinv⟩:=hinv
  obtain⟨u73,hinv⟩:=hinv
  obtain⟨u74,hinv⟩:=hinv
  obtain⟨u75,hinv⟩:=hinv
  obtain⟨u76,hinv⟩:=hinv
  obtain⟨u77,hinv⟩:=hinv
  obtain⟨u78,hinv⟩:=hinv
  obtain⟨u79,hinv⟩:=hinv
  obtain⟨u80,hinv⟩:=hinv
  obtain⟨u81,hinv⟩:=hinv
  obtain⟨u82,hinv⟩:=hinv
  obtain⟨u83,hinv⟩:=hinv
  obtain⟨u84,hinv⟩:=hinv
  obtain⟨u85,hinv⟩:=hinv
  obtain⟨u86,hinv⟩:=hinv
  obtain⟨u87,hinv⟩:=hinv
  obtain⟨u88,hinv⟩:=hinv
  obtain⟨u89,hinv⟩:=hinv
  obtain⟨u90,hinv⟩:=hinv
  obtain⟨u91,hinv⟩:=hinv
  obtain⟨u92,hinv⟩:=hinv
  obtain⟨u93,hinv⟩:=hinv
  obtain⟨u94,hinv⟩:=hinv
  obtain⟨u95,hinv⟩:=hinv
  obtain⟨u96,hinv⟩:=hinv
  obtain⟨u97,hinv⟩:=hinv
  obtain⟨u98,hinv⟩:=hinv
  obtain⟨u99,hinv⟩:=hinv
  obtain⟨u100,hinv⟩:=hinv
  obtain⟨u101,hinv⟩:=hinv
  obtain⟨u102,hinv⟩:=hinv
  obtain⟨hrel,b8⟩:=hinv
  subst b8
  try dsimp only
  clear aw db am
  obtain⟨k,rfl,d4,aA,aB,dn⟩:=hrel
  have ar:=vi aA;have cp:=vi aB;have co:=vi dn
  clear aA aB dn b5 cF cG b6 ea ab
  by_cases hltk:k<m
  ·have eq:(k:Int)<(m:Int):=by omega
   have dm:k<(s.rol i).steps.length:=by rw[cs.out,cq.out];exact hltk
   obtain⟨t,cM⟩:∃ t,r.steps[k]?=some t:=⟨_,List.getElem?_eq_getElem (by rw[cq.out];exact hltk)⟩
   have dr:(s.rol i).stp k=t:=by rw[cs.out];exact aW cM
   obtain⟨eu,ev,rfl,ch,cN,cO,cQ,cR,cS,cT,cU,cV⟩:=bU.out.steps.get cM
   replace ch:=ar.out.fr.keep ch;replace cN:=ar.out.fr.keep cN;replace cO:=ar.out.fr.keep cO;replace cQ:=ar.out.fr.keep cQ;replace cR:=ar.out.fr.keep cR
   replace cS:=ar.out.fr.keep cS;replace cT:=ar.out.fr.keep cT;replace cU:=ar.out.fr.keep cU;replace cV:=ar.out.fr.keep cV
   have d6:=aI ch
   have aS:=vi dr;have bw:=vi dm
   clear cM dr dm
   obtain⟨aX,bG⟩:∃ aX,(aP.alloc (.cells #[.int .i64 k] 3)).alloc (.cells #[.string t.frm,.string t.to,.int .i64 t.kind,.string t.msg,.string t.peer,.string t.ctr,.int .i64 t.low,.int .i64 t.high,.int .i64 t.add] 137)=aX:=⟨_,rfl⟩
   have F1:Hid (Frm [] aP aX):=vi (by rw[← bG];exact((Frm.refl [] aP).alloc _).alloc _)
   have ck:Hid (aX.heap[wr.heap.size]?=some (.cells #[.int .i64 i] 3 (0,0))):=vi (F1.out.at (co.out.cells dW.out (by decide)) (by simp))
   have cl:Hid (aX.heap[aP.heap.size]?=some (.cells #[.int .i64 k] 3 (0,0))):=vi (by rw[← bG];exact ah (heap_alloc_new _ _))
   have c4:Hid (aX.heap[aP.heap.size+1]?=some (.cells #[.string t.frm,.string t.to,.int .i64 t.kind,.string t.msg,.string t.peer,.string t.ctr,.int .i64 t.low,.int .i64 t.high,.int .i64 t.add] 137 (0,0))):=vi (by rw[← bG];exact aq (by simp))
   have dS:=vi bG
   have bn:=vi (ar.out.frm F1.out)
   have cu:=vi (cp.out.frm F1.out)
   have ct:Hid (Kt mvT ap aX):=vi (co.out.trans (Kt.frm F1.out))
   have bu:=vi (jX s K dd sb i k x aX (S.out.frm bn.out.fr) (aR.out.frm bn.out.fr) aL.out bw.out)
   have aQ:Hid (rMv s x i++cat (fun k=>be s x i k) (k+1)=(rMv s x i++cat (fun k=>be s x i k) k)++be s x i k):=vi (by rw[List.append_assoc];rfl)
   obtain⟨O,bq⟩:∃ O,rMv s x i++cat (fun k=>be s x i k) k=O:=⟨_,rfl⟩
   have br:O.length≤1600:=by
    rw[← bq,List.length_append]
    have cv:=fW S.out.ok aR.out.ok (show i≤s.roles.length by have:=aL.out;omega)
    have cw:=jO S.out.ok aR.out.ok aL.out (show k≤(s.rol i).steps.length by have:=bw.out;omega)
    exact Nat.le_trans (Nat.add_le_add cv cw) (by decide)
   rw[bq] at bn aQ
   have bx:=vi br
   clear bq bG co cp ar br
   go_upto_region 7 with fail
   rw[dS.out]
   clear ch cN cO cQ cR cS cT cU cV d6
   have d1:=ae ck.out 0
   have d2:=ae cl.out 0
   cases hpb:dL s x i k with
   | false =>
     rw[hpb] at bu
     have V:Hid (be s x i k=[]):=vi (by unfold be;rw[if_pos hpb])
     clear hpb
     go_wp2_with (first
      | (go_at_call 122;go_must (refine bu.out.mono ?_;rintro e bL ⟨rfl,bH⟩;have aE:=vi bH;clear bH)))
     go_wp2
     refine⟨⟨ds,?_⟩,?_⟩
     ·(repeat apply Exists.intro)
      exact⟨⟨k+1,congrArg (Value.int .i64) (aF.out k hltk),hltk,by rw[aQ.out,V.out,List.append_nil];exact bn.out.frm aE.out,cu.out.frm aE.out,ct.out.trans (Kt.frm aE.out)⟩,rfl⟩
     ·exact bD hltk (aF.out k hltk)
   | true =>
     rw[hpb] at bu
     have cr:=vi hpb
     clear hpb
     go_upto_region 8 with (first
      | (go_at_call 122;go_must (refine bu.out.mono ?_;rintro e bL ⟨rfl,bH⟩;have aE:=vi bH;clear bH)))
     have af:=vi (bn.out.frm aE.out)
     have bX:=vi (cu.out.frm aE.out)
     have bV:Hid (Kt mvT ap bL):=vi (ct.out.trans (Kt.frm aE.out))
     have bv:=vi (aE.out.at ck.out (by simp))
     have cm:=vi (aE.out.at cl.out (by simp))
     have bl:=vi (aE.out.at c4.out (by simp))
     have b7:=ae bl.out 2
     have dT:=vi (S.out.ok.stp aL.out bw.out)
     rw[aS.out] at dT
     clear d1 d2 bu ck cl c4 bn cu ct
     by_cases kk2:t.kind=2
     ·have b2:(t.kind == 2)=true:=by simpa using kk2
      have bI:=S.out.ok.peer aL.out bw.out (by rw[aS.out];omega)
      rw[aS.out] at bI
      obtain⟨bi,aG,bK⟩:=bI
      obtain⟨p,ba⟩:∃ p,bd s t=p:=⟨_,rfl⟩
      rw[ba] at bi aG bK
      obtain⟨bo,bp,b4,bs,bt,b0,cb,av,bJ⟩:=aR.out.way aG aL.out
      obtain⟨au,aO,F,ax⟩:=bJ
      have V:Hid (be s x i k=eI t.msg i k (cX s.cls (x.way p i) (x.way p i).length)):=vi (by
       unfold be
       rw[aS.out,if_neg (by rw[cr.out];decide),if_pos kk2,ba])
      have dg:=(aR.out.ok.wb p i aG aL.out).1
      have d5:=S.out.ok.k4
      have a3:Hid (∀ a,Frm [] w a→Calls Tryz.prog 66 #[.pointer (some ⟨K,0,none⟩),.string t.peer] a (Ret (.int .i64 (p:Int)) (Frm [] a))):=vi fun a I=>by
       rw[← bi]
       obtain⟨cZ,cW,cY⟩:=(S.out.frm I).out
       exact eU K s cZ t.peer a (ae cW 1) cY (by have:=S.out.ok.n4;omega)
      obtain⟨N,a1⟩:∃ N,x.way p i=N:=⟨_,rfl⟩
      rw[a1] at V dg ax
      rw[ad.out] at av au
      have aT:Hid (∀ a,Frm [] w a→a.cell? ⟨sb,2,none⟩=some (.slice (some ⟨bo,bp,none⟩) n b4)∧a.cell? ⟨bo,bp+p,none⟩=some (.slice (some ⟨bs,bt,none⟩) n b0)∧a.cell? ⟨bs,bt+i,none⟩=some (.pointer (some ⟨cb,0,none⟩))∧Chn a cb s.cls s.cap N F):=
       vi fun a I=>⟨I.keep av,I.keep au,I.keep aO,ax.frm I (by simp)⟩
      have aD:Hid (∀ a,Frm [] bL a→a.cell? ⟨aP.heap.size+1,4,none⟩=some (.string t.peer)∧a.cell? ⟨wr.heap.size,0,none⟩=some (.int .i64 i)):=vi fun a I=>⟨I.keep (ae bl.out 4),I.keep (ae bv.out 0)⟩
      have cd:(p:Int)<(n:Int):=by rw[ad.out] at aG;omega
      have da:Hid (N.length≤4):=vi (by omega)
      clear kk2 bi aG bK ba av au aO ax a1 dg d5
      go_upto_region 9 with fail
      clear b7
      refine bQ 13 (by kernel_rfl) (by kernel_rfl) ?_
      simp only[List.take_succ_cons,List.take_zero,List.drop_succ_cons,List.drop_zero]
      repeat (first
       | go_big_quiet_skip
       | (refine wpQuiet_want (by rfl) (fun a6 H=>?_)
          first
           | (refine quiet_move _ (by rfl) (H _ ?_))
           | (refine quiet_assign _ (by rfl) (H _ ?_))
           | (refine aV (.int .i64 (p:Int)) 66 #[.pointer (some ⟨K,0,none⟩),.string t.peer] (fun w' A=>?_) (fun w' A=>Ret.cq (a3.out w' (af.out.fr.trans A)) (fun ci J=>A.trans J)) (H _ ?_)
              ·go_simp)
           | (apply Exists.intro
              refine⟨fun w' A=>?_,H _ ?_⟩
              ·(unfold Oper.quietAt
                obtain⟨dA,dB,dC,-⟩:=aT.out w' (af.out.fr.trans A);obtain⟨c3,bS⟩:=aD.out w' A
                clear A
                go_simp
                try exact⟨rfl,rfl⟩
                try rfl))
          clear H a6
          try simp only[nrm,Act.eval,nrq]))
      refine wpQuiet_nil ?_
      intro W E
      have ag:=vi (af.out.frm E)
      have a7:=vi (bX.out.frm E)
      have bA:Hid (Kt mvT ap W):=vi (bV.out.trans (Kt.frm E))
      have dF:=vi (E.at bv.out (by simp))
      have dH:=vi (E.at cm.out (by simp))
      have dJ:=vi (E.at bl.out (by simp))
      have c7:=vi (aT.out W ag.out.fr).2.2.2
      have c5:=vi (i9 cb s.cls s.cap N F W c7.out)
      clear E cd a3 aT aD
      go_wp2_with (first
       | (go_at_call 123;go_must (refine c5.out.mono ?_;rintro e bM ⟨v,rfl,⟨d0,dZ,ed,rfl,di⟩⟩;have c8:=vi di;clear di)))
      have a0:=c8.out.2.1
      have dl:=mO d0 dZ cb s.cls ed N S.out.ok.c1 S.out.ok.c3 (by have:=da.out;omega)
      have dM:=vi (c7.out.frm a0 (by simp))
      have bW:=vi (ag.out.frm a0)
      have dV:=vi (a7.out.frm a0)
      have dU:Hid (Kt mvT ap bM):=vi (bA.out.trans (Kt.frm a0))
      have dG:=vi (a0.at dF.out (by simp))
      have dI:=vi (a0.at dH.out (by simp))
      have dK:=vi (a0.at dJ.out (by simp))
      clear a0 c5
      refine dE rfl (enters_of Tryz.func178 (by kernel_rfl) rfl) dl (fun _=>rfl) (fun aC bC=>MB w w.heap.size (O++eI t.msg i k aC) bC∧Kt mvT bM bC) (fun _ _ _=>False) (fun _ _ _ J hb=>⟨J.1.bk hb bW.out.fr.size,J.2.bk hb⟩) (fun _ _ _ _ J _=>J) (fun _ bC J=>c8.out.1.kt J.2 dM.out) ⟨by rw[show eI t.msg i k []=[] from rfl,List.append_nil];exact bW.out,Kt.refl _ _⟩ ?_ ?_ (fun _ _ _ _ _ _ _ _ J=>J.elim)
      ·intro l0 aC y rest eh du bE d7 d8
       have er:aC.length<4:=by
        have a8:=dz s.cls N N.length
        rw[du,List.length_append,List.length_cons] at a8
        have:=da.out;omega
       have c9:=vi bE
       clear bE d8 d7 du
       obtain⟨bj,bk⟩:=y
       simp only[tH]
       gi_wp2
       refine⟨KB.refl _,fun bY cK _=>?_⟩
       have aJ:=vi (⟨c9.out.1.bk cK bW.out.fr.size,c9.out.2.bk cK⟩:MB w w.heap.size (O++eI t.msg i k aC) bY∧Kt mvT bM bY)
       have ex:=ae (aJ.out.2.cells dK.out (by decide)) 3
       have bS:=ae (aJ.out.2.cells dG.out (by decide)) 0
       have dD:=ae (aJ.out.2.cells dI.out (by decide)) 0
       clear cK
       by_cases az:bk=t.msg
       ·have d9:(bk.toList == t.msg.toList)=true:=by rw[aK,decide_eq_true az]
        have bz:=vi (ku (m:=t.msg) (i:=i) (k:=k) aC (bj,bk))
        rw[if_pos az] at bz
        have ca:(O++eI t.msg i k aC).length≤1700:=by
         have:=mz (m:=t.msg) (i:=i) (k:=k) aC
         have:=bx.out
         rw[List.length_append];omega
        obtain⟨bB,cJ⟩:∃ bB,O++eI t.msg i k aC=bB:=⟨_,rfl⟩
        rw[cJ] at aJ ca
        have dQ:=vi cJ
        obtain⟨ao,aY,R,ak⟩:=aJ.out.1.bx
        have aZ:=ae R 0
        have al:=vi R;have U:=vi ak
        obtain⟨bh,a9,bc,bf,bg⟩:=info_parts Tryz.infoMv
        have bb:w.heap.size≤(bY.alloc (.cells #[.int .i64 1,.int .i64 i,.int .i64 k,.int .i64 bj] 44)).heap.size:=by have:=aJ.out.1.fr.size;simp;omega
        clear az R ak cJ
        gi_wp2_with (gi_at_builtin;refine wpListIn_append_own _ rfl _ _ 31 rfl w.heap.size 44 bh (.agg #[.int .i64 0,.int .i64 0,.int .i64 0,.int .i64 0]) 4 32 Tryz.underlying31 a9 bc bf bg rfl (by decide) (.slice ao bB.length aY) bB.length (mvC bB) rfl (U.out.alloc _) ⟨bY.heap.size,0,none⟩ 1 1 (eQ ⟨1,i,k,bj⟩) rfl rfl (cA _ _ _) (by simp[eQ,Value.oneCell']) (by unfold maxLen;omega) (by omega) bb ?_;intro v' c1 aa Y _;obtain⟨cz,cD,rfl⟩:=an aa;have X:=BO.facts al.out U.out (by decide) Y;have cE:=ae X 0;have cH:=aj X 0;have a4:=vi Y;have a5:=vi aa;clear Y aa X aZ)
        have ai:=MB.add ⟨1,i,k,bj⟩ aJ.out.1 al.out U.out a4.out a5.out
        refine⟨ai.2.kb,?_⟩
        show MB w w.heap.size (O++eI t.msg i k (aC++[(bj,bk)])) _∧Kt mvT bM _
        rw[bz.out,← List.append_assoc,dQ.out]
        exact⟨ai.1,aJ.out.2.trans ai.2⟩
       ·have d9:(bk.toList == t.msg.toList)=false:=by rw[aK,decide_eq_false az]
        have bz:=vi (ku (m:=t.msg) (i:=i) (k:=k) aC (bj,bk))
        rw[if_neg az] at bz
        clear az
        gi_wp2
        refine⟨KB.refl _,?_⟩
        show MB w w.heap.size (O++eI t.msg i k (aC++[(bj,bk)])) _∧Kt mvT bM _
        rw[bz.out]
        exact aJ.out
      ·intro D bC df bE H
       have cn:=vi bE;have dP:=vi H;have dN:=vi df
       clear bE H df dl
       go_wp2
       refine⟨⟨D :: ds,?_⟩,?_⟩
       ·(repeat apply Exists.intro)
        exact⟨⟨k+1,congrArg (Value.int .i64) (aF.out k hltk),hltk,by rw[aQ.out,V.out];exact cn.out.1,dV.out.more bW.out.fr.size cn.out.2 dN.out dP.out,dU.out.trans cn.out.2⟩,rfl⟩
       ·exact bD hltk (aF.out k hltk)
     ·have b2:(t.kind == 2)=false:=by simpa using kk2
      by_cases kk1:t.kind=1
      ·have b1:(t.kind != 1)=false:=by simpa using kk1
       have bI:=S.out.ok.peer aL.out bw.out (by rw[aS.out];omega)
       rw[aS.out] at bI
       obtain⟨bi,aG,bK⟩:=bI
       obtain⟨p,ba⟩:∃ p,bd s t=p:=⟨_,rfl⟩
       rw[ba] at bi aG bK
       obtain⟨bo,bp,b4,bs,bt,b0,cb,av,bJ⟩:=aR.out.way aL.out aG
       obtain⟨au,aO,F,ax⟩:=bJ
       have aM:Hid (be s x i k=if s.cap≤((x.way i p).length:Int) then [] else [⟨1,i,k,0⟩]):=vi (by
        unfold be
        rw[aS.out,if_neg (by rw[cr.out];decide),if_neg kk2,ba]
        simp[kk1])
       have a3:Hid (∀ a,Frm [] w a→Calls Tryz.prog 66 #[.pointer (some ⟨K,0,none⟩),.string t.peer] a (Ret (.int .i64 (p:Int)) (Frm [] a))):=vi fun a I=>by
        rw[← bi]
        obtain⟨cZ,cW,cY⟩:=(S.out.frm I).out
        exact eU K s cZ t.peer a (ae cW 1) cY (by have:=S.out.ok.n4;omega)
       obtain⟨N,a1⟩:∃ N,x.way i p=N:=⟨_,rfl⟩
       rw[a1] at aM ax
       rw[ad.out] at av au
       have a2:Hid (∀ a,Frm [] w a→Calls Tryz.prog 103 #[.pointer (some ⟨cb,0,none⟩)] a (Ret (.int .i64 (N.length:Int)) (Frm [] a))):=vi fun a I=>iT (ax.frm I (by simp))
       have aT:Hid (∀ a,Frm [] w a→a.cell? ⟨sb,2,none⟩=some (.slice (some ⟨bo,bp,none⟩) n b4)∧a.cell? ⟨bo,bp+i,none⟩=some (.slice (some ⟨bs,bt,none⟩) n b0)∧a.cell? ⟨bs,bt+p,none⟩=some (.pointer (some ⟨cb,0,none⟩))):=
        vi fun a I=>⟨I.keep av,I.keep au,I.keep aO⟩
       have aD:Hid (∀ a,Frm [] bL a→a.cell? ⟨aP.heap.size+1,4,none⟩=some (.string t.peer)∧a.cell? ⟨aP.heap.size+1,2,none⟩=some (.int .i64 t.kind)∧a.cell? ⟨wr.heap.size,0,none⟩=some (.int .i64 i)):=vi fun a I=>⟨I.keep (ae bl.out 4),I.keep (ae bl.out 2),I.keep (ae bv.out 0)⟩
       have cd:(p:Int)<(n:Int):=by rw[ad.out] at aG;omega
       clear kk2 kk1 bi aG bK ba av au aO ax a1
       by_cases hroom:(N.length:Int)<s.cap
       ·have V:Hid (be s x i k=[⟨1,i,k,0⟩]):=vi (by rw[aM.out,if_neg (by omega)])
        have cL:=hroom
        clear hroom
        go_upto_region 14 with fail
        clear b7
        refine ay (by kernel_rfl) (by kernel_rfl) ?_
        repeat (first
         | go_big_quiet_skip
         | (refine wpQuiet_want (by rfl) (fun a6 H=>?_)
            first
             | (refine quiet_move _ (by rfl) (H _ ?_))
             | (refine quiet_assign _ (by rfl) (H _ ?_))
             | (refine aV (.int .i64 (p:Int)) 66 #[.pointer (some ⟨K,0,none⟩),.string t.peer] (fun w' A=>?_) (fun w' A=>Ret.cq (a3.out w' (af.out.fr.trans A)) (fun ci J=>A.trans J)) (H _ ?_)
                ·go_simp)
             | (refine aV (.int .i64 (N.length:Int)) 103 #[.pointer (some ⟨cb,0,none⟩)] (fun w' A=>?_) (fun w' A=>Ret.cq (a2.out w' (af.out.fr.trans A)) (fun ci J=>A.trans J)) (H _ ?_)
                ·go_simp)
             | (apply Exists.intro
                refine⟨fun w' A=>?_,H _ ?_⟩
                ·(unfold Oper.quietAt
                  obtain⟨dA,dB,dC⟩:=aT.out w' (af.out.fr.trans A);obtain⟨c3,ee,bS⟩:=aD.out w' A;obtain⟨-,-,ef⟩:=bm.out w' (af.out.fr.trans A)
                  clear A
                  go_simp
                  try exact⟨rfl,rfl⟩
                  try rfl))
            clear H a6
            try simp only[nrm,Act.eval,nrq]))
        refine wpQuiet_nil ?_
        intro W E
        clear cL cd a3 a2 aT aD aM
        have ag:=vi (af.out.frm E)
        have a7:=vi (bX.out.frm E)
        have bA:Hid (Kt mvT ap W):=vi (bV.out.trans (Kt.frm E))
        have bS:=ae (E.at bv.out (by simp)) 0
        have dD:=ae (E.at cm.out (by simp)) 0
        obtain⟨ao,aY,R,ak⟩:=ag.out.bx
        have aZ:=ae R 0
        have al:=vi R;have U:=vi ak
        obtain⟨bh,a9,bc,bf,bg⟩:=info_parts Tryz.infoMv
        have bb:w.heap.size≤(W.alloc (.cells #[.int .i64 1,.int .i64 i,.int .i64 k,.int .i64 0] 44)).heap.size:=by have:=ag.out.fr.size;simp;omega
        have ca:=bx.out
        clear R ak E
        go_wp2_with (at_builtin;refine wpList_append_own_at _ rfl _ _ 31 rfl w.heap.size 44 bh (.agg #[.int .i64 0,.int .i64 0,.int .i64 0,.int .i64 0]) 4 32 Tryz.underlying31 a9 bc bf bg rfl (by decide) (.slice ao O.length aY) O.length (mvC O) rfl (U.out.alloc _) ⟨W.heap.size,0,none⟩ 1 1 (eQ ⟨1,i,k,0⟩) rfl rfl (cA _ _ _) (by simp[eQ,Value.oneCell']) (by unfold maxLen;omega) (by omega) bb ?_;intro v' c1 aa Y _ _;obtain⟨cz,cD,rfl⟩:=an aa;have X:=BO.facts al.out U.out (by decide) Y;have cE:=ae X 0;have cH:=aj X 0;have a4:=vi Y;have a5:=vi aa;clear Y aa X aZ)
        have ai:=MB.add ⟨1,i,k,0⟩ ag.out al.out U.out a4.out a5.out
        refine⟨⟨ds,?_⟩,?_⟩
        ·(repeat apply Exists.intro)
         exact⟨⟨k+1,congrArg (Value.int .i64) (aF.out k hltk),hltk,by rw[aQ.out,V.out];exact ai.1,a7.out.kt ai.2,bA.out.trans ai.2⟩,rfl⟩
        ·exact bD hltk (aF.out k hltk)
       ·have V:Hid (be s x i k=[]):=vi (by rw[aM.out,if_pos (by omega)])
        have cL:¬ (N.length:Int)<s.cap:=hroom
        clear hroom
        go_upto_region 14 with fail
        clear b7
        refine ay (by kernel_rfl) (by kernel_rfl) ?_
        repeat (first
         | go_big_quiet_skip
         | (refine wpQuiet_want (by rfl) (fun a6 H=>?_)
            first
             | (refine quiet_move _ (by rfl) (H _ ?_))
             | (refine quiet_assign _ (by rfl) (H _ ?_))
             | (refine aV (.int .i64 (p:Int)) 66 #[.pointer (some ⟨K,0,none⟩),.string t.peer] (fun w' A=>?_) (fun w' A=>Ret.cq (a3.out w' (af.out.fr.trans A)) (fun ci J=>A.trans J)) (H _ ?_)
                ·go_simp)
             | (refine aV (.int .i64 (N.length:Int)) 103 #[.pointer (some ⟨cb,0,none⟩)] (fun w' A=>?_) (fun w' A=>Ret.cq (a2.out w' (af.out.fr.trans A)) (fun ci J=>A.trans J)) (H _ ?_)
                ·go_simp)
             | (apply Exists.intro
                refine⟨fun w' A=>?_,H _ ?_⟩
                ·(unfold Oper.quietAt
                  obtain⟨dA,dB,dC⟩:=aT.out w' (af.out.fr.trans A);obtain⟨c3,ee,bS⟩:=aD.out w' A;obtain⟨-,-,ef⟩:=bm.out w' (af.out.fr.trans A)
                  clear A
                  go_simp
                  try exact⟨rfl,rfl⟩
                  try rfl))
            clear H a6
            try simp only[nrm,Act.eval,nrq]))
        refine wpQuiet_nil ?_
        intro W E
        have aH:=vi E
        clear E cL cd a3 a2 aT aD aM
        go_wp2
        refine⟨⟨ds,?_⟩,?_⟩
        ·(repeat apply Exists.intro)
         exact⟨⟨k+1,congrArg (Value.int .i64) (aF.out k hltk),hltk,by rw[aQ.out,V.out,List.append_nil];exact af.out.frm aH.out,bX.out.frm aH.out,bV.out.trans (Kt.frm aH.out)⟩,rfl⟩
        ·exact bD hltk (aF.out k hltk)
      ·have b1:(t.kind != 1)=true:=by simpa using kk1
       have V:Hid (be s x i k=[⟨1,i,k,0⟩]):=vi (by
        unfold be
        rw[aS.out,if_neg (by rw[cr.out];decide),if_neg kk2,if_neg (by simp[kk1])])
       have aD:Hid (∀ a,Frm [] bL a→a.cell? ⟨aP.heap.size+1,2,none⟩=some (.int .i64 t.kind)):=vi fun a I=>I.keep (ae bl.out 2)
       clear kk2 kk1
       go_upto_region 14 with fail
       clear b7
       refine ay (by kernel_rfl) (by kernel_rfl) ?_
       repeat (first
        | go_big_quiet_skip
        | (refine wpQuiet_want (by rfl) (fun a6 H=>?_)
           first
            | (refine quiet_move _ (by rfl) (H _ ?_))
            | (refine quiet_assign _ (by rfl) (H _ ?_))
            | (apply Exists.intro
               refine⟨fun w' A=>?_,H _ ?_⟩
               ·(unfold Oper.quietAt
                 obtain⟨c3,-⟩:_∧True:=⟨aD.out w' A,trivial⟩
                 clear A
                 go_simp
                 try exact⟨rfl,rfl⟩
                 try rfl))
           clear H a6
           try simp only[nrm,Act.eval,nrq]))
       refine wpQuiet_nil ?_
       intro W E
       clear aD
       have ag:=vi (af.out.frm E)
       have a7:=vi (bX.out.frm E)
       have bA:Hid (Kt mvT ap W):=vi (bV.out.trans (Kt.frm E))
       have bS:=ae (E.at bv.out (by simp)) 0
       have dD:=ae (E.at cm.out (by simp)) 0
       obtain⟨ao,aY,R,ak⟩:=ag.out.bx
       have aZ:=ae R 0
       have al:=vi R;have U:=vi ak
       obtain⟨bh,a9,bc,bf,bg⟩:=info_parts Tryz.infoMv
       have bb:w.heap.size≤(W.alloc (.cells #[.int .i64 1,.int .i64 i,.int .i64 k,.int .i64 0] 44)).heap.size:=by have:=ag.out.fr.size;simp;omega
       have ca:=bx.out
       clear R ak E
       go_wp2_with (at_builtin;refine wpList_append_own_at _ rfl _ _ 31 rfl w.heap.size 44 bh (.agg #[.int .i64 0,.int .i64 0,.int .i64 0,.int .i64 0]) 4 32 Tryz.underlying31 a9 bc bf bg rfl (by decide) (.slice ao O.length aY) O.length (mvC O) rfl (U.out.alloc _) ⟨W.heap.size,0,none⟩ 1 1 (eQ ⟨1,i,k,0⟩) rfl rfl (cA _ _ _) (by simp[eQ,Value.oneCell']) (by unfold maxLen;omega) (by omega) bb ?_;intro v' c1 aa Y _ _;obtain⟨cz,cD,rfl⟩:=an aa;have X:=BO.facts al.out U.out (by decide) Y;have cE:=ae X 0;have cH:=aj X 0;have a4:=vi Y;have a5:=vi aa;clear Y aa X aZ)
       have ai:=MB.add ⟨1,i,k,0⟩ ag.out al.out U.out a4.out a5.out
       refine⟨⟨ds,?_⟩,?_⟩
       ·(repeat apply Exists.intro)
        exact⟨⟨k+1,congrArg (Value.int .i64) (aF.out k hltk),hltk,by rw[aQ.out,V.out];exact ai.1,a7.out.kt ai.2,bA.out.trans ai.2⟩,rfl⟩
       ·exact bD hltk (aF.out k hltk)
  ·obtain rfl:k=m:=by omega
   have el:¬ (k:Int)<(k:Int):=by omega
   go_wp2
   refine⟨⟨ds,?_⟩,?_⟩
   ·(repeat apply Exists.intro)
    refine⟨⟨i+1,congrArg (Value.int .i64) (dc.out i hlt),hlt,?_,cp.out⟩,rfl⟩
    have:=ar.out
    rw[← cq.out,← cs.out] at this
    exact this
   ·exact bD hlt (dc.out i hlt)
 ·obtain rfl:i=n:=by omega
  have ek:¬ (i:Int)<(i:Int):=by omega
  have dp:i≤4:=by have:=S.out.ok.n4;rw[ad.out] at this;exact this
  obtain⟨ab,bO,bR⟩:=bm.out wr G.out.fr
  have aw:Hid (MB w w.heap.size (rMv s x i++lMv s x 0) wr):=vi (by rw[show lMv s x 0=[] from rfl,List.append_nil];exact G.out)
  go_wp2
  clear ab bO bR
  go_loopw [110] (fun s110 bN=>∃ h:Nat,s110=.int .i64 h∧h≤i∧MB w w.heap.size (rMv s x i++lMv s x h) bN∧Ms w ds bN) (fun s110 _=>i - (intOf s110).toNat)
  case atStart=>exact⟨0,rfl,Nat.zero_le _,aw.out,am.out⟩
  case round =>
   clear aw G am
   obtain⟨h,rfl,b8,aA,aB⟩:=hrel
   have G:=vi aA;have am:=vi aB
   clear aA aB
   obtain⟨cj,eb⟩:∃ cj,cj=wr:=⟨_,rfl⟩
   subst eb
   by_cases hlta:h<i
   ·have eo:(h:Int)<(i:Int):=by omega
    have dj:h<s.roles.length:=by rw[ad.out];exact hlta
    have dO:=vi dj
    clear dj
    obtain⟨ab,bO,bR⟩:=bm.out cj G.out.fr
    have aw:Hid (MB w w.heap.size (rMv s x i++(lMv s x h++cat (fun k=>bP s x h k) 0)) cj):=vi (by rw[show cat (fun k=>bP s x h k) 0=[] from rfl,List.append_nil];exact G.out)
    have aQ:Hid (lMv s x (h+1)=lMv s x h++cat (fun k=>bP s x h k) i):=vi (by rw[← ad.out];rfl)
    go_wp2
    clear ab bO bR
    go_loopw [119] (fun s119 bN=>∃ c:Nat,s119=.int .i64 c∧c≤i∧MB w w.heap.size (rMv s x i++(lMv s x h++cat (fun k=>bP s x h k) c)) bN∧Ms w ds bN) (fun s119 _=>i - (intOf s119).toNat)
    case atStart=>exact⟨0,rfl,Nat.zero_le _,aw.out,am.out⟩
    case round =>
     clear aw G am
     obtain⟨c,rfl,dh,aA,aB⟩:=hrel
     have G:=vi aA;have am:=vi aB
     clear aA aB
     by_cases hltc:c<i
     ·have ep:(c:Int)<(i:Int):=by omega
      have dk:c<s.roles.length:=by rw[ad.out];exact hltc
      have bT:Hid (rMv s x i++(lMv s x h++cat (fun k=>bP s x h k) (c+1))=(rMv s x i++(lMv s x h++cat (fun k=>bP s x h k) c))++bP s x h c):=vi (by
       rw[show cat (fun k=>bP s x h k) (c+1)=cat (fun k=>bP s x h k) c++bP s x h c from rfl]
       simp only[List.append_assoc])
      have br:(rMv s x i++(lMv s x h++cat (fun k=>bP s x h k) c)).length≤1600:=by
       have cv:=fW S.out.ok aR.out.ok (show i≤s.roles.length by rw[ad.out];exact Nat.le_refl _)
       have cw:=iK (x:=x) S.out.ok (show h≤s.roles.length by rw[ad.out];omega)
       have dX:=cP (n:=c) (f:=fun k=>bP s x h k) (c:=1) (fun k _=>jN h k)
       rw[List.length_append,List.length_append]
       have dY:=Nat.add_le_add cv (Nat.add_le_add cw dX)
       exact Nat.le_trans dY (by omega)
      obtain⟨O,bq⟩:∃ O,rMv s x i++(lMv s x h++cat (fun k=>bP s x h k) c)=O:=⟨_,rfl⟩
      rw[bq] at G bT br
      have bx:=vi br
      clear bq br
      obtain⟨ab,bO,bR⟩:=bm.out wr G.out.fr
      by_cases h3:s.cls=3
      ·have dv:(s.cls == 3)=true:=by simpa using h3
       obtain⟨bo,bp,b4,bs,bt,b0,cb,av,bJ⟩:=aR.out.way dO.out dk
       obtain⟨au,aO,F,ax⟩:=bJ
       have aM:Hid (bP s x h c=if 0<(x.way h c).length then [⟨2,h,c,0⟩] else []):=vi (by unfold bP;simp[h3])
       obtain⟨N,a1⟩:∃ N,x.way h c=N:=⟨_,rfl⟩
       rw[a1] at aM ax
       rw[ad.out] at av au
       have a2:=vi (iT (ax.frm G.out.fr (by simp)))
       replace av:=G.out.fr.keep av;replace au:=G.out.fr.keep au;replace aO:=G.out.fr.keep aO
       clear ax a1 dk h3
       by_cases hpos:0<N.length
       ·have dq:(0:Int)<(N.length:Int):=by omega
        have V:Hid (bP s x h c=[⟨2,h,c,0⟩]):=vi (by rw[aM.out,if_pos hpos])
        clear hpos
        go_upto_region 25 with (first
         | (go_at_call 103;go_must (refine a2.out.mono ?_;rintro e W ⟨rfl,E⟩;have aH:=vi E;clear E)))
        have ag:=vi (G.out.frm aH.out)
        have a7:=vi (am.out.frm aH.out)
        obtain⟨ao,aY,R,ak⟩:=ag.out.bx
        have aZ:=ae R 0
        have al:=vi R;have U:=vi ak
        obtain⟨bh,a9,bc,bf,bg⟩:=info_parts Tryz.infoMv
        have bb:w.heap.size≤(W.alloc (.cells #[.int .i64 2,.int .i64 h,.int .i64 c,.int .i64 0] 44)).heap.size:=by have:=ag.out.fr.size;simp;omega
        have ca:=bx.out
        clear R ak av au aO ab bO bR dv dq
        go_wp2_with (at_builtin;refine wpList_append_own_at _ rfl _ _ 31 rfl w.heap.size 44 bh (.agg #[.int .i64 0,.int .i64 0,.int .i64 0,.int .i64 0]) 4 32 Tryz.underlying31 a9 bc bf bg rfl (by decide) (.slice ao O.length aY) O.length (mvC O) rfl (U.out.alloc _) ⟨W.heap.size,0,none⟩ 1 1 (eQ ⟨2,h,c,0⟩) rfl rfl (cA _ _ _) (by simp[eQ,Value.oneCell']) (by unfold maxLen;omega) (by omega) bb ?_;intro v' c1 aa Y _ _;obtain⟨cz,cD,rfl⟩:=an aa;have X:=BO.facts al.out U.out (by decide) Y;have cE:=ae X 0;have cH:=aj X 0;have a4:=vi Y;have a5:=vi aa;clear Y aa X aZ)
        have ai:=MB.add ⟨2,h,c,0⟩ ag.out al.out U.out a4.out a5.out
        exact⟨⟨c+1,congrArg (Value.int .i64) (by omega),hltc,by rw[bT.out,V.out];exact ai.1,a7.out.kt ai.2⟩,by simp[intOf];omega⟩
       ·have dq:¬ (0:Int)<(N.length:Int):=by omega
        have V:Hid (bP s x h c=[]):=vi (by rw[aM.out,if_neg hpos])
        clear hpos
        go_wp2_with (first
         | (go_at_call 103;go_must (refine a2.out.mono ?_;rintro e W ⟨rfl,E⟩;have aH:=vi E;clear E)))
        exact⟨⟨c+1,congrArg (Value.int .i64) (by omega),hltc,by rw[bT.out,V.out,List.append_nil];exact G.out.frm aH.out,am.out.frm aH.out⟩,by simp[intOf];omega⟩
      ·have dv:(s.cls == 3)=false:=by simpa using h3
       have V:Hid (bP s x h c=[]):=vi (by unfold bP;simp[h3])
       clear h3
       go_wp2
       exact⟨⟨c+1,congrArg (Value.int .i64) (by omega),hltc,by rw[bT.out,V.out,List.append_nil];exact G.out,am.out⟩,by simp[intOf];omega⟩
     ·obtain rfl:c=i:=by omega
      go_wp2
      exact⟨⟨h+1,congrArg (Value.int .i64) (by omega),hlta,by rw[aQ.out];exact G.out,am.out⟩,by simp[intOf];omega⟩
   ·obtain rfl:h=i:=by omega
    obtain⟨L,cI⟩:∃ L,rMv s x h++lMv s x h=L:=⟨_,rfl⟩
    have dR:Hid (L=aN s x):=vi (by rw[← cI,← ad.out];rfl)
    rw[cI] at G
    obtain⟨ao,aY,R,ak⟩:=G.out.bx
    have aZ:=ae R 0
    have ej:=aj R 0
    have al:=vi R;have U:=vi ak
    clear R ak cI
    go_wp2
    exact uF G.out.fr (Nat.le_refl _) al.out U.out am.out (fun bC dh=>by simp[results,Tryz.results63,go_sem,dh]) dR.out
theorem gB (s:SesD) (a A sb:Nat) (x:PS) (w:World) (h:SyR w s a A) (H:StR w s a sb x) :
  Calls Tryz.prog 63 #[.pointer (some ⟨a,0,none⟩),.pointer (some ⟨sb,0,none⟩)] w (aU fun v w'=>Arr 4 MvAt w' v (aN s x)∧Frm [] w w'):=
 (jI s a A sb x w h H).mono fun e w' h=>by
  obtain⟨v,rfl,E,G⟩:=h
  exact⟨v,rfl,nZ E,G⟩
end Go.Proofs.YtohfkhjlnlahdaaGreat
namespace Go.Proofs.YtohfkhjlnlahdaaGreat
open Go.RowKit Go.BigFrame
abbrev kR (s:SesD) (x:PS) (i:Nat):List UInt8:=cat (cW x) i
theorem sY (l:List Int):(l.flatMap two).length=l.length*2:=by
 induction l with
 | nil=>rfl
 | cons v l ih=>rw[List.flatMap_cons,List.length_append,ih];simp[two];omega
theorem rd {s:SesD} {x:PS} (a:SesOk s) (A:PSok s x) {i:Nat} (G:i≤s.roles.length):(kR s x i).length≤100:=by
 have h:=cP (n:=i) (f:=cW x) (c:=9) (fun k H=>by
  have h:=(A.vb k (by omega)).1
  have E:=(a.at (show k<s.roles.length by omega)).c4
  unfold cW
  rw[List.length_cons,sY];omega)
 have:=a.n4
 show (cat (cW x) i).length≤100
 omega
def ctB (l:List (CtrD × Int)):List UInt8:=l.flatMap fun c=>two c.2
theorem sZ {s:SesD} {x:PS} (G:PSok s x) {i:Nat} (E:i<s.roles.length):cW x i=UInt8.ofNat (x.at i) :: ctB (x.ctr s i):=by
 unfold cW ctB PS.ctr
 have A:=(G.vb i E).1
 have:∀ (a:List CtrD) (B:List Int),B.length=a.length→B.flatMap two=(a.zip B).flatMap fun c=>two c.2:=by
  intro a
  induction a with
  | nil=>intro B h;rw[List.length_eq_zero_iff.1 h];rfl
  | cons H a ih =>
    intro B h
    cases B with
    | nil=>simp at h
    | cons b B=>rw[List.zip_cons_cons,List.flatMap_cons,List.flatMap_cons,ih B (by simpa using h)]
 rw[this _ _ A]
theorem rf (l:List (CtrD × Int)) (c:CtrD × Int):ctB (l++[c])=ctB l++two c.2:=by unfold ctB;rw[List.flatMap_append];simp
theorem td (l:List (CtrD × Int)):(ctB l).length=l.length*2:=by
 induction l with
 | nil=>rfl
 | cons v l ih=>show (two v.2++ctB l).length=_;rw[List.length_append,ih];simp[two];omega
theorem rg {s:SesD} {x:PS} (G:SesOk s) (H:PSok s x) {i:Nat} (A:i<s.roles.length):∀ c∈x.ctr s i,0≤c.2∧c.2≤1000:=by
 intro c E
 obtain⟨k,a⟩:=List.getElem?_of_mem E
 unfold PS.ctr at a
 rw[List.getElem?_zip_eq_some] at a
 have h:=(H.vb i A).2 k _ a.1
 have I:=(G.at A).cN _ (List.mem_of_getElem? a.1)
 rw[List.getD_eq_getElem?_getD,a.2] at h
 simp only[Option.getD_some] at h
 omega
abbrev iM (s:SesD) (x:PS) (a:Nat):List UInt8:=cat (bU s x a) s.roles.length
abbrev uL (l:List UInt8):List Value:=l.map u8
theorem uc {v:Int} (a:0≤v) (h:v≤65535):(two v).map u8=[.int .u8 (v / 256),.int .u8 (v % 256)]:=by
 have:=rh a h
 unfold two
 rw[List.map_cons,List.map_cons,List.map_nil,this.1,this.2]
theorem u8c (n:Nat) (a:n<256):[Value.int .u8 (n:Int)]=[UInt8.ofNat n].map u8:=by rw[List.map_cons,te a];rfl
theorem uLc (n:Nat) (a:n<256):uL [UInt8.ofNat n]=[Value.int .u8 (n:Int)]:=(u8c n a).symm
theorem ud {s:SesD} {x:PS} (J:SesOk s) (K:PSok s x) {a c:Nat} (G:a<s.roles.length) (H:c<s.roles.length):(bU s x a c).length≤133:=by
 unfold bU
 split
 ·simp
 ·have h:=K.wb a c G H
  have A:=ey (dj s.cls (x.way a c)) (fun m I=>(h.2 m (gO I)).2)
  rw[eR] at A
  have E:(byt (dV (dj s.cls (x.way a c)))).length=(dV (dj s.cls (x.way a c))).size:=by unfold byt;simp
  have:=J.k4
  rw[List.length_cons,E];omega
theorem mn {s:SesD} {x:PS} (h:SesOk s) (E:PSok s x) {a c:Nat} (A:a<s.roles.length) (H:c≤s.roles.length):(cat (bU s x a) c).length≤532:=by
 have G:=cP (n:=c) (f:=bU s x a) (c:=133) (fun k I=>ud h E A (by omega))
 have:=h.n4
 omega
theorem p6 {s:SesD} {x:PS} (h:SesOk s) (A:PSok s x) {a:Nat} (G:a≤s.roles.length):(cat (fun a=>cat (bU s x a) s.roles.length) a).length≤2128:=by
 have E:=cP (n:=a) (f:=fun a=>cat (bU s x a) s.roles.length) (c:=532) (fun k H=>mn h A (by omega) (Nat.le_refl _))
 have:=h.n4
 omega
theorem tf {w a:World} {ds:List Nat} {b:ByteArray} {fn:Func} {tmps:Array Value} (G:Frm [] w a) (A:Ms w ds a) (H:∀ E:World,(results fn tmps).run Tryz.prog E=.ok (.string b) E) :
  LeavesInM Fence.wide 3 Tryz.prog fn tmps (aU fun v w'=>v=.string b∧Frm [] w w') (fK ds) .returning a:=
 dY ds a A.nd (fun D h=>(A.dl D h).2) ⟨_,H _,_,rfl,rfl,G.then (eA ds a) (fun D h=>.inr (A.dl D h).1)⟩
attribute [local go_sem] Oper.semAt_some
set_option maxHeartbeats 8000000 in
set_option maxRecDepth 100000 in
theorem jt (s:SesD) (bC cK sb:Nat) (x:PS) (w:World) (G:SyR w s bC cK) (aK:StR w s bC sb x) :
  Calls Tryz.prog 48 #[.pointer (some ⟨sb,0,none⟩)] w (aU fun v w'=>v=.string ⟨(cY s x).toArray⟩∧Frm [] w w'):=by
 have V:=vi G;have O:=vi aK
 have ck:=vi (fl s bC sb x w aK)
 obtain⟨n,a7⟩:∃ n,s.roles.length=n:=⟨_,rfl⟩
 obtain⟨dd,dP,W,a1,bX⟩:=aK.out
 obtain⟨cg,ch,rfl⟩:=a1.shape
 obtain⟨c6,c5,rfl⟩:=bX.shape
 rw[cB,aK.ok.wl,a7] at W
 have ap:=ae W 1
 have dB:=lt_of_block W
 have aW:Hid (∀ h,Frm [] w h→h.cell? ⟨sb,1,none⟩=some (.slice cg n ch)∧h.cell? ⟨sb,2,none⟩=some (.slice c6 n c5)):=vi fun h X=>⟨X.keep ap,X.keep (ae W 2)⟩
 have H:=vi a7
 have cd:n≤4:=by rw[← a7];exact G.ok.n4
 have bL:Hid (∀ i:Nat,i<n→wrap64 ((i:Int)+1)=((i+1:Nat):Int)):=vi fun i cP=>by unfold wrap64;omega
 clear G W a1 bX aK a7 cd
 refine cf Tryz.func48 rfl ?_
 simp only[Tryz.ntmps48,List.size_toArray,List.length_cons,List.length_nil,Nat.reduceAdd,Nat.reduceSub,Array.replicate_succ,Array.replicate_zero,List.push_toArray,List.append_toArray,List.nil_append,List.cons_append]
 go_wp2_with (go_at_call 101;go_must (refine ck.out.mono ?_;rintro e w' ⟨rfl,rfl⟩))
 have ab:Hid (YB w w.heap.size [] (w.alloc (.cells #[.slice none 0 0] 26))):=vi (BO.made w _ _ _ ((Frm.refl [] w).alloc _) (Nat.le_refl _) (heap_alloc_new _ _))
 clear ap
 refine wp_loop (fun a' w'=>∃ ds,∃ u5 u6 u7 u19 u20 u21 u22 u23 u24 u25 u26 u27 u28 u29 u30 u31 u32 u33 u34 u35 u36 u37 u38 u39 u40 u41 u42:Value,(fun ds u19 w'=>∃ i:Nat,u19=.int .i64 (i:Int)∧i≤n∧YB w w.heap.size (kR s x i) w'∧Ms w ds w') ds u19 w'∧a'={ tmps:=#[.pointer (some ⟨sb,0,none⟩),undef,.string ⟨#[]⟩,.pointer (some ⟨w.heap.size,0,none⟩),undef,u5,u6,u7,undef,undef,undef,undef,.pointer (some ⟨sb,0,none⟩),.bool false,.pointer (some ⟨sb,0,none⟩),.pointer (some ⟨sb,0,none⟩),.pointer (some ⟨sb,1,none⟩),.slice cg n ch,.int .i64 (n:Int),u19,u20,u21,u22,u23,u24,u25,u26,u27,u28,u29,u30,u31,u32,u33,u34,u35,u36,u37,u38,u39,u40,u41,u42,undef,undef,undef,undef,undef,undef,undef,undef,undef,undef,undef,undef,undef,undef,undef,undef,undef,undef,undef,undef,undef,undef,undef,undef,undef,undef,undef,undef,undef,undef,undef,undef,undef],defers:=fK ds }) (fun a' _=>n - (intOf (a'.tmps.getD 19 undef)).toNat) ?_ ?_
 ·refine⟨[],?_⟩
  (repeat apply Exists.intro)
  exact⟨⟨0,rfl,Nat.zero_le _,ab.out,Ms.nil _ _⟩,rfl⟩
 intro a' wr hinv
 obtain⟨ds,hinv⟩:=hinv
 obtain⟨u5,hinv⟩:=hinv
 obtain⟨u6,hinv⟩:=hinv
 obtain⟨u7,hinv⟩:=hinv
 obtain⟨u19,hinv⟩:=hinv
 obtain⟨u20,hinv⟩:=hinv
 obtain⟨u21,hinv⟩:=hinv
 obtain⟨u22,hinv⟩:=hinv
 obtain⟨u23,hinv⟩:=hinv
 obtain⟨u24,hinv⟩:=hinv
 obtain⟨u25,hinv⟩:=hinv
 obtain⟨u26,hinv⟩:=hinv
 obtain⟨u27,hinv⟩:=hinv
 obtain⟨u28,hinv⟩:=hinv
 obtain⟨u29,hinv⟩:=hinv
 obtain⟨u30,hinv⟩:=hinv
 obtain⟨u31,hinv⟩:=hinv
 obtain⟨u32,hinv⟩:=hinv
 obtain⟨u33,hinv⟩:=hinv
 obtain⟨u34,hinv⟩:=hinv
 obtain⟨u35,hinv⟩:=hinv
 obtain⟨u36,hinv⟩:=hinv
 obtain⟨u37,hinv⟩:=hinv
 obtain⟨u38,hinv⟩:=hinv
 obtain⟨u39,hinv⟩:=hinv
 obtain⟨u40,hinv⟩:=hinv
 obtain⟨u41,hinv⟩:=hinv
 obtain⟨u42,hinv⟩:=hinv
 obtain⟨hrel,b4⟩:=hinv
 subst b4
 try dsimp only
 clear ab
 obtain⟨i,rfl,cP,ai,ak⟩:=hrel
 have A:=vi ai;have U:=vi ak
 clear ai ak
 by_cases hlt:i<n
 ·have dC:(i:Int)<(n:Int):=by omega
  have Y:i<s.roles.length:=by rw[H.out];exact hlt
  obtain⟨db,ao,cap,a0,ap,ah⟩:=O.out.act Y
  have c8:=vi Y
  rw[H.out] at ap
  have ay:=(aW.out w (Frm.refl _ _)).1
  rw[ap] at ay
  simp only[Option.some.injEq,Value.slice.injEq,true_and] at ay
  obtain⟨rfl,rfl⟩:=ay
  have aQ:=vi (ah.frm A.out.fr)
  obtain⟨p,bu⟩:∃ p,x.at i=p:=⟨_,rfl⟩
  have dG:p<24:=by have:=O.out.ok.pb i Y;have:=(V.out.ok.at Y).s24;omega
  rw[bu] at aQ
  have dp:=aQ.out.c0
  have dq:=aQ.out.c1
  obtain⟨E,ag⟩:∃ E,kR s x i=E:=⟨_,rfl⟩
  rw[ag] at A
  have c9:=vi ag
  have a5:E.length≤100:=by rw[← ag];exact rd V.out.ok O.out.ok (by omega)
  obtain⟨aG,aH,I,S⟩:=A.out.bx
  have af:=ae I 0
  have aB:=vi I;have ar:=vi S
  have c1:IntKind.u8.wrap (p:Int)=(p:Int):=fz (by omega) (by omega)
  have cO:=O.out.act Y
  have ba:Hid (∀ h,Frm [] w h→Bnk h a0 (x.ctr s i)):=vi fun h X=>ah.bnk.frm X
  obtain⟨l,aw⟩:∃ l,x.ctr s i=l:=⟨_,rfl⟩
  have b9:l.length≤4:=by
   rw[← aw]
   have W:=(V.out.ok.at Y).c4
   unfold PS.ctr
   rw[List.length_zip];omega
  have cl:Hid (∀ c∈l,0≤c.2∧c.2≤1000):=vi (by rw[← aw];exact rg V.out.ok O.out.ok Y)
  have cr:Hid (kR s x (i+1)=E++([UInt8.ofNat p]++ctB l)):=vi (by
   show cat (cW x) i++cW x i=_
   rw[sZ O.out.ok Y,bu,aw,← ag];rfl)
  rw[aw] at ba
  have bf:=vi b9
  clear Y ah cO bu ag I S ap aw aQ b9
  obtain⟨az,b0⟩:∃ az,wr.alloc (.cells #[.int .i64 (p:Int),.pointer (some ⟨a0,0,none⟩)] 143)=az:=⟨_,rfl⟩
  have aA:Hid (Frm [] wr az):=vi (by rw[← b0];exact(Frm.refl [] wr).alloc _)
  have bO:Hid (az.heap[wr.heap.size]?=some (.cells #[.int .i64 (p:Int),.pointer (some ⟨a0,0,none⟩)] 143 (0,0))):=vi (by rw[← b0];exact aq rfl)
  have bi:=vi (A.out.frm aA.out)
  have bN:=vi (U.out.frm aA.out)
  obtain⟨aO,aJ,aL,aM,aN⟩:=info_parts Tryz.info5
  replace af:=aA.out.keep af
  have dI:=ae bO.out 0
  have a9:=vi (aA.out.at aB.out (by simp))
  have aR:=vi (aA.out.owns ar.out (by simp))
  have a8:w.heap.size≤(az.alloc (.cells #[.int .u8 (p:Int)] 5)).heap.size:=by have:=bi.out.fr.size;simp;omega
  have cX:p<256:=by omega
  go_upto_region 8 with (at_builtin;refine wpList_append_own_at _ rfl _ _ 26 rfl w.heap.size 5 aO (.int .u8 0) 1 1 Tryz.underlying26 aJ aL aM aN rfl (by decide) (.slice aG E.length aH) E.length (E.map u8) rfl (aR.out.alloc _) ⟨az.heap.size,0,none⟩ 1 1 ([UInt8.ofNat p].map u8) rfl rfl (by rw[← u8c p cX];exact cA _ _ _) (by simp[u8,Value.oneCell']) (by unfold maxLen;omega) (by omega) a8 ?_;intro v' bz J N _ _;obtain⟨bP,bR,rfl⟩:=an J;have av:=BO.facts a9.out aR.out (by decide) N;have bS:=ae av 0;have bT:=aj av 0;have aS:=vi N;have aT:=vi J;clear N J av af)
  have K:=YB.add (M:=[UInt8.ofNat p]) bi.out a9.out aR.out aS.out rfl aT.out
  obtain⟨aY,b3⟩:∃ aY,bz.setCell ⟨w.heap.size,0,none⟩ (.slice bP (E.length+1) bR)=aY:=⟨_,rfl⟩
  try rw[b3] at K ⊢
  have bM:=vi K.1
  have cC:=vi (bN.out.kt K.2)
  have cD:=vi (K.2.cells bO.out (by decide))
  have c4:=ae cD.out 1
  have bE:=vi (jU a0 l aY (ba.out aY bM.out.fr) (by have:=bf.out;omega))
  clear K b3 aS aT aB ar a9 aR bi bN bS bT ba c1 a8
  go_wp2_with (first
   | (go_at_call 102;go_must (refine bE.out.mono ?_;rintro e ax ⟨v,rfl,⟨B,c3,rfl,b5⟩⟩;have bH:=vi b5;clear b5)))
  have bl:=bH.out.2.1
  have b8:=sT B c3 l (by have:=bf.out;omega)
  have aF:=vi (bM.out.frm bl)
  have cz:=vi (cC.out.frm bl)
  clear bl bE c4
  obtain⟨ad,a3⟩:∃ ad,E++[UInt8.ofNat p]=ad:=⟨_,rfl⟩
  rw[a3] at aF
  have ca:ad.length≤101:=by rw[← a3,List.length_append];simp;omega
  have cw:=vi ca;have cs:=vi a3
  clear ca a3 a5
  refine dE rfl (enters_of Tryz.func153 (by kernel_rfl) rfl) b8 (fun _=>rfl) (fun am aX=>YB w w.heap.size (ad++ctB am) aX∧Kt byT ax aX) (fun _ _ _=>False) (fun _ _ _ G hb=>⟨G.1.bk hb aF.out.fr.size,G.2.bk hb⟩) (fun _ _ _ _ G _=>G) (fun _ aX G=>bH.out.1.kt G.2) ⟨by rw[show ctB []=[] from rfl,List.append_nil];exact aF.out,Kt.refl _ _⟩ ?_ ?_ (fun _ _ _ _ _ _ _ _ G=>G.elim)
  ·intro l0 am y rest da bw aI aw cS
   have dH:am.length<4:=by
    have W:=bf.out
    rw[bw,List.length_append,List.length_cons] at W;omega
   have ce:=cl.out y (by rw[bw];simp)
   have bI:=vi aI
   clear aI cS aw bw
   obtain⟨ci,aa⟩:=y
   simp only at ce
   gi_wp2
   refine⟨KB.refl _,fun aZ bp _=>?_⟩
   have aC:=vi (⟨bI.out.1.bk bp aF.out.fr.size,bI.out.2.bk bp⟩:YB w w.heap.size (ad++ctB am) aZ∧Kt byT ax aZ)
   have cy:=vi (rf am (ci,aa))
   have a5:(ad++ctB am).length≤200:=by
    have:=cw.out
    rw[List.length_append,td];omega
   obtain⟨aE,bn⟩:∃ aE,ad++ctB am=aE:=⟨_,rfl⟩
   rw[bn] at aC a5
   have ct:=vi bn
   obtain⟨ao,bQ,I,S⟩:=aC.out.1.bx
   have af:=ae I 0
   have aB:=vi I;have ar:=vi S
   clear bp I S bn
   obtain⟨aO,aJ,aL,aM,aN⟩:=info_parts Tryz.info5
   have cM:(two aa).map u8=[.int .u8 (aa / 256),.int .u8 (aa % 256)]:=uc ce.1 (by omega)
   have a8:w.heap.size≤(aZ.alloc (.cells #[.int .u8 (aa / 256),.int .u8 (aa % 256)] 5)).heap.size:=by have:=aC.out.1.fr.size;simp;omega
   gi_wp2_with (gi_at_builtin;refine wpListIn_append_own _ rfl _ _ 26 rfl w.heap.size 5 aO (.int .u8 0) 1 1 Tryz.underlying26 aJ aL aM aN rfl (by decide) (.slice ao aE.length bQ) aE.length (aE.map u8) rfl (ar.out.alloc _) ⟨aZ.heap.size,0,none⟩ 2 2 ((two aa).map u8) rfl rfl (by rw[cM];exact cA _ _ _) (by intro u bv;obtain⟨x,-,rfl⟩:=List.mem_map.1 bv;rfl) (by unfold maxLen;omega) (by omega) a8 ?_;intro v' bz J N _;obtain⟨bP,bR,rfl⟩:=an J;have av:=BO.facts aB.out ar.out (by decide) N;have bS:=ae av 0;have bT:=aj av 0;have aS:=vi N;have aT:=vi J;clear N J av af)
   have K:=YB.add (M:=two aa) aC.out.1 aB.out ar.out aS.out rfl aT.out
   refine⟨K.2.kb,?_⟩
   show YB w w.heap.size (ad++ctB (am++[(ci,aa)])) _∧Kt byT ax _
   rw[cy.out,← List.append_assoc,ct.out]
   exact⟨K.1,aC.out.2.trans K.2⟩
  ·intro D aX bY aI bZ
   have bJ:=vi aI;have cq:=vi bZ;have cm:=vi bY
   clear aI bZ bY b8
   go_wp2
   refine⟨⟨D :: ds,?_⟩,?_⟩
   ·(repeat apply Exists.intro)
    exact⟨⟨i+1,congrArg (Value.int .i64) (bL.out i hlt),hlt,by rw[cr.out,← List.append_assoc,cs.out];exact bJ.out.1,cz.out.more aF.out.fr.size bJ.out.2 cm.out cq.out⟩,rfl⟩
   ·exact bD hlt (bL.out i hlt)
 ·obtain rfl:i=n:=by omega
  have dA:¬ (i:Int)<(i:Int):=by omega
  have cd:i≤4:=by have:=V.out.ok.n4;rw[H.out] at this;exact this
  obtain⟨ap,c7⟩:=aW.out wr A.out.fr
  have ab:Hid (YB w w.heap.size (kR s x i++cat (iM s x) 0) wr):=vi (by rw[show cat (iM s x) 0=[] from rfl,List.append_nil];exact A.out)
  go_wp2
  clear ap c7
  go_loopw [48] (fun s48 aP=>∃ a:Nat,s48=.int .i64 a∧a≤i∧YB w w.heap.size (kR s x i++cat (iM s x) a) aP∧Ms w ds aP) (fun s48 _=>i - (intOf s48).toNat)
  case atStart=>exact⟨0,rfl,Nat.zero_le _,ab.out,U.out⟩
  case round =>
   clear ab A U
   obtain⟨a,rfl,b4,ai,ak⟩:=hrel
   have A:=vi ai;have U:=vi ak
   clear ai ak
   obtain⟨bx,cZ⟩:∃ bx,bx=wr:=⟨_,rfl⟩
   subst cZ
   by_cases hlta:a<i
   ·have dD:(a:Int)<(i:Int):=by omega
    have br:a<s.roles.length:=by rw[H.out];exact hlta
    have be:=vi br
    have bW:0<s.roles.length:=by omega
    obtain⟨du,dw,di,rb,dL,de,dg,bA,al⟩:=O.out.way br bW
    clear br bW
    rw[H.out] at bA
    have ay:=(aW.out w (Frm.refl _ _)).2
    rw[bA] at ay
    simp only[Option.some.injEq,Value.slice.injEq,true_and] at ay
    obtain⟨rfl,rfl⟩:=ay
    have bV:=A.out.fr.keep al.c0
    rw[H.out] at bV
    have co:=vi al.c0
    clear bA al
    have ab:Hid (YB w w.heap.size (kR s x i++(cat (iM s x) a++cat (bU s x a) 0)) bx):=vi (by rw[show cat (bU s x a) 0=[] from rfl,List.append_nil];exact A.out)
    have cn:Hid (cat (iM s x) (a+1)=cat (iM s x) a++cat (bU s x a) i):=vi (by rw[← H.out];rfl)
    go_wp2
    clear bV
    go_loopw [55] (fun s55 aP=>∃ c:Nat,s55=.int .i64 c∧c≤i∧YB w w.heap.size (kR s x i++(cat (iM s x) a++cat (bU s x a) c)) aP∧Ms w ds aP) (fun s55 _=>i - (intOf s55).toNat)
    case atStart=>exact⟨0,rfl,Nat.zero_le _,ab.out,U.out⟩
    case round =>
     clear ab A U
     obtain⟨c,rfl,dy,ai,ak⟩:=hrel
     have A:=vi ai;have U:=vi ak
     clear ai ak
     by_cases hltc:c<i
     ·have dF:(c:Int)<(i:Int):=by omega
      have bs:c<s.roles.length:=by rw[H.out];exact hltc
      have bd:Hid (kR s x i++(cat (iM s x) a++cat (bU s x a) (c+1))=(kR s x i++(cat (iM s x) a++cat (bU s x a) c))++bU s x a c):=vi (by
       rw[show cat (bU s x a) (c+1)=cat (bU s x a) c++bU s x a c from rfl]
       simp only[List.append_assoc])
      have bo:(kR s x i++(cat (iM s x) a++cat (bU s x a) c)).length≤100000:=by
       have cE:=rd V.out.ok O.out.ok (show i≤s.roles.length by rw[H.out];exact Nat.le_refl _)
       have cF:=p6 V.out.ok O.out.ok (show a≤s.roles.length by rw[H.out];omega)
       have cG:=mn V.out.ok O.out.ok be.out (show c≤s.roles.length by rw[H.out];omega)
       rw[List.length_append,List.length_append]
       exact Nat.le_trans (Nat.add_le_add cE (Nat.add_le_add cF cG)) (by decide)
      obtain⟨E,ag⟩:∃ E,kR s x i++(cat (iM s x) a++cat (bU s x a) c)=E:=⟨_,rfl⟩
      rw[ag] at A bd bo
      have cv:=vi bo
      clear ag bo
      obtain⟨dv,dx,dk,dK,dM,df,cb,bB,al⟩:=O.out.way be.out bs
      have bj:=(aW.out w (Frm.refl _ _)).2
      rw[H.out] at bB
      rw[bB] at bj
      simp only[Option.some.injEq,Value.slice.injEq,Addr.mk.injEq,true_and,and_true] at bj
      obtain⟨⟨rfl,rfl⟩,rfl⟩:=bj
      have bk:=co.out
      rw[al.c0] at bk
      simp only[Option.some.injEq,Value.slice.injEq,Addr.mk.injEq,true_and,and_true] at bk
      obtain⟨⟨rfl,rfl⟩,rfl⟩:=bk
      obtain⟨F,bq⟩:=al.chn
      have dt:=A.out.fr.keep al.c1
      have bb:=vi (bq.frm A.out.fr (by simp))
      have bc:Hid (∀ h,Frm [] w h→Chn h cb s.cls s.cap (x.way a c) F):=vi fun h X=>bq.frm X (by simp)
      have cp:=vi bs
      clear bq al bB bs
      by_cases ah:a=c
      ·have aD:Hid (bU s x a c=[]):=vi (by unfold bU;rw[if_pos ah])
       subst ah
       go_wp2
       exact⟨⟨a+1,congrArg (Value.int .i64) (by omega),hltc,by rw[bd.out,aD.out,List.append_nil];exact A.out,U.out⟩,by simp[intOf];omega⟩
      ·obtain⟨R,a4⟩:∃ R,x.way a c=R:=⟨_,rfl⟩
       have aD:Hid (bU s x a c=[UInt8.ofNat R.length]++byt (dV (dj s.cls R))):=vi (by unfold bU;rw[if_neg ah,a4];rfl)
       rw[a4] at bb bc
       have cN:¬ (a:Int)=(c:Int):=by omega
       have dJ:((a:Int) == (c:Int))=false:=by simpa using cN
       clear ah
       obtain⟨aG,aH,I,S⟩:=A.out.bx
       have af:=ae I 0
       have cx:Hid (YP w wr w.heap.size (.slice aG E.length aH) (.slice aG E.length aH) E wr):=vi ⟨A.out.fr,I,S,Kt.refl _ _⟩
       have bt:=(O.out.ok.wb a c be.out cp.out)
       rw[a4] at bt
       have cQ:=V.out.ok.k4
       have cc:R.length≤4:=by omega
       have cR:(dV (dj s.cls R)).size≤200:=by
        have W:=ey (dj s.cls R) (fun m a6=>(bt.2 m (gO a6)).2)
        rw[eR] at W;omega
       have c2:IntKind.u8.wrap (R.length:Int)=(R.length:Int):=fz (by omega) (by omega)
       obtain⟨au,bm⟩:∃ au,dV (dj s.cls R)=au:=⟨_,rfl⟩
       rw[bm] at aD cR
       have bF:Hid (∀ h,Frm [] wr h→Calls Tryz.prog 103 #[.pointer (some ⟨cb,0,none⟩)] h (Ret (.int .i64 R.length) (Frm [] h))):=vi fun h X=>iT (bb.out.frm X (by simp))
       have cj:Hid (∀ h,Frm [] w h→Calls Tryz.prog 104 #[.pointer (some ⟨cb,0,none⟩)] h (Ret (.string au) (Frm [] h))):=vi fun h X=>by rw[← bm];exact th _ _ _ _ _ _ (bc.out h X)
       obtain⟨m,a6⟩:∃ m,R.length=m:=⟨_,rfl⟩
       rw[a6] at c2 aD bF cc
       have cT:m<256:=by omega
       obtain⟨aO,aJ,aL,aM,aN⟩:=info_parts Tryz.info5
       have a5:=cv.out
       clear bt cQ a4 bm a6 cc I S bb bc
       go_upto_region 19 with fail
       generalize cL:Exit.inBlock _ _=QQ
       refine wp_mono (Q:=fun e a' w'=>match e with | .normal=>QQ .normal a' w' | _=>False) ?_ (fun e a' w' G=>by cases e <;> first | exact G | exact G.elim)
       go_region_law (first
        | (go_simp;go_at_call 103;go_must (refine(bF.out _ (Frm.refl [] wr).drew).mono ?_;rintro e ax ⟨rfl,b6⟩;have bG:Hid (Frm [] wr ax):=vi ((Frm.refl [] wr).drew.trans b6);have dl:=bG.out.keep af;have aV:=vi ((cx.out.frm bG.out).frm ((Frm.refl [] ax).alloc (.cells #[.int .u8 (m:Int)] 5)));have dm:=ae aV.out.b 0;clear b6))
        | (go_simp;go_at_call 104;go_must (refine(cj.out _ bK.out.f).mono ?_;rintro e dN ⟨rfl,b7⟩;have bg:=vi (bK.out.frm b7);clear b7))
        | (refine cV rfl _ _ 26 rfl w.heap.size 5 aO (.int .u8 0) 1 1 Tryz.underlying26 aJ aL aM aN rfl (by decide) (.slice aG E.length aH) E.length (uL E) ?_ aV.out.o ⟨ax.heap.size,0,none⟩ 1 1 (uL [UInt8.ofNat m]) ?_ rfl (by rw[uLc m cT];exact cA _ _ _) ?_ ?_ ?_ ?_ ?_;(focus (go_simp;done));(focus (go_simp;done));(focus (intro u bv;obtain⟨x,-,rfl⟩:=List.mem_map.1 bv;rfl));(focus (unfold maxLen;omega));(focus omega);(focus exact aV.out.f.size);intro v' bz J N;obtain⟨cH,cI,rfl⟩:=an J;have bK:=vi (aV.out.grow (l:=[UInt8.ofNat m]) N (by rw[List.length_append,List.map_append];exact J));clear J N)
        | (refine kU rfl _ _ rfl w.heap.size (.slice cH (E.length+1) cI) au ?_ ?_ (E++[UInt8.ofNat m]) bg.out.o ?_ bg.out.f.size ?_;(focus (go_simp;done));(focus (go_simp;done));(focus (rw[List.length_append];simp;omega));intro dc dh dO J N;have bh:=vi (bg.out.grow (l:=byt au) N J);have dn:=ae bh.out.b 0;have dr:=aj bh.out.b 0;clear J N))
       all_goals
        subst cL
        go_wp2
        have K:=bh.out.fin A.out.new
        have cJ:((E++[UInt8.ofNat m])++byt au).length=E.length+((byt au).length+1):=by simp
        rw[cJ] at K
        exact⟨⟨c+1,congrArg (Value.int .i64) (by omega),hltc,by rw[bd.out,aD.out,← List.append_assoc];exact K.1,U.out.kt K.2⟩,by simp[intOf];omega⟩
     ·obtain rfl:c=i:=by omega
      go_wp2
      exact⟨⟨a+1,congrArg (Value.int .i64) (by omega),hlta,by rw[cn.out];exact A.out,U.out⟩,by simp[intOf];omega⟩
   ·obtain rfl:a=i:=by omega
    obtain⟨L,a2⟩:∃ L,kR s x a++cat (iM s x) a=L:=⟨_,rfl⟩
    have cu:Hid (cY s x=L):=vi (by rw[← a2,← H.out];rfl)
    rw[a2] at A
    obtain⟨ao,bQ,I,S⟩:=A.out.bx
    have af:=ae I 0
    have ar:=vi S
    have cU:L.length≠0:=by
     have a1:=V.out.ok.n2
     rw[H.out] at a1
     obtain⟨m,rfl⟩:∃ m,a=m+1:=⟨a - 1,by omega⟩
     rw[← a2,List.length_append,show kR s x (m+1)=kR s x m++cW x m from rfl,List.length_append]
     unfold cW
     rw[List.length_cons]
     omega
    have dz:=ri S cU
    clear I S a2
    go_wp2
    rw[cu.out]
    exact tf A.out.fr U.out (fun h=>by simp[results,Tryz.results48,go_sem])
end Go.Proofs.YtohfkhjlnlahdaaGreat
namespace Go.Proofs.YtohfkhjlnlahdaaGreat
open Go.RowKit Go.BigFrame Go.Maps
def eO (s:SesD) (x:PS):ByteArray:=⟨(cY s x).toArray⟩
theorem gc (s:SesD) (x:PS):(eO s x).data.toList=cY s x:=by unfold eO;simp
def AdTo (w:World) (s:SesD) (yb:Nat) (lim:Int) (whole:Bool) (qb mb:Nat) (N:List (Nd × Nat)) (W a:World):Prop:=SpR w s yb lim whole qb mb N a∧(∃ F,Frm F W a∧∀ b∈F,SpB W qb b)∧∀ k,k<W.heap.size→RowOf a qb k→RowOf W qb k
theorem rY (W:World):∀ u∈ndZ.cells,NdG W u:=by
 intro u a
 have:u=.pointer none∨u=.int .i64 0:=by
  simp[Value.cells] at a
  rcases a with rfl | rfl
  ·exact .inl rfl
  ·exact .inr rfl
 rcases this with rfl | rfl
 ·exact⟨fun _=>by simp,fun _ _ _=>by simp,fun _=>by simp⟩
 ·exact⟨fun _=>by simp,fun _ _ _=>by simp,fun _=>by simp⟩
theorem tB {W:World} {d:Nd} {sb:Nat} (h:Ty W sb 147):∀ u∈im (d,sb),NdG W u:=by
 intro u a
 simp only[im,List.mem_cons,List.not_mem_nil,or_false] at a
 rcases a with rfl | rfl | rfl | rfl | rfl | rfl | rfl
 ·exact⟨fun _=>by simp,fun _ _ _=>by simp,fun p e=>by cases e;exact h⟩
 all_goals exact⟨fun _=>by simp,fun _ _ _=>by simp,fun _=>by simp⟩
theorem Tryz.infoNd:(Tryz.prog.info? 216).map (fun i=>(i.zero,i.size,i.bytes))=some (some ndZ,7,56):=by kernel_rfl
section
variable {w W:World} {s:SesD} {yb fb sb qb mb cb:Nat} {lim:Int} {whole:Bool} {N:List (Nd × Nat)} {d:Nd}
set_option maxHeartbeats 4000000 in
set_option maxRecDepth 100000 in
theorem qB (h:SpR w s yb lim whole qb mb N W) (X:SyR W s yb fb) (R:StR W s yb sb d.st) (O:W.heap[cb]?=some (.cells #[.pointer (some ⟨qb,0,none⟩)] 208 (0,0))) (V:eP s (N.map Prod.fst) (cY s d.st)=true) (Y:(eO s d.st).size≤maxLen) :
  Calls Tryz.prog 117 #[ndV (d,sb),.pointer (some ⟨cb,0,none⟩)] W (Ret (.bool true) (Frm [] W)):=by
 obtain⟨a,E⟩:∃ a,W.alloc (.cells #[.pointer (some ⟨sb,0,none⟩),.int .i64 d.par,.int .i64 d.mv.kind,.int .i64 d.mv.role,.int .i64 d.mv.step,.int .i64 d.mv.place,.int .i64 d.lvl] 216)=a:=⟨_,rfl⟩
 have G:Frm [] W a:=by rw[← E];exact(Frm.refl _ _).alloc _
 have K:a.heap[W.heap.size]?=some (.cells #[.pointer (some ⟨sb,0,none⟩),.int .i64 d.par,.int .i64 d.mv.kind,.int .i64 d.mv.role,.int .i64 d.mv.step,.int .i64 d.mv.place,.int .i64 d.lvl] 216 (0,0)):=by rw[← E];exact heap_alloc_new _ _
 have aa:Hid (Calls Tryz.prog 48 #[.pointer (some ⟨sb,0,none⟩)] a (Ret (.string (eO s d.st)) (Frm [] a))):=vi ((jt s yb fb sb d.st a (X.frm G) (R.frm G)).mono fun e w' h=>by
  obtain⟨v,rfl,rfl,h⟩:=h
  exact⟨rfl,h⟩)
 have c0:=ae K 0
 obtain⟨ao,cap,J,ag,-⟩:=h.bx
 have U:(dH s (N.map Prod.fst) (eO s d.st).data.toList).isSome=true:=by rw[gc,eL];exact V
 have af:Hid (∀ A,Frm [] W A→(A.cell? ⟨cb,0,none⟩=some (.pointer (some ⟨qb,0,none⟩))∧A.cell? ⟨qb,3,none⟩=some (.map (some mb))) ∧
   (Instr.lookup 211 (.map (some mb)) (.string (eO s d.st)) true).run Tryz.prog A=.ok (.tuple #[.int .i64 ((dH s (N.map Prod.fst) (eO s d.st).data.toList).getD 0:Nat),.bool true]) A):=vi fun A H=>by
  refine⟨⟨ae (H.at O (by simp)) 0,ae (H.at J (by simp)) 3⟩,?_⟩
  have:=SpO.look h.mp H _ Y
  rwa [U] at this
 have ad:=vi G;have ab:=vi E
 clear h X R O V Y G K J ag E U
 go_enter Tryz.func117,Tryz.ntmps117
 go_upto_region 1 with fail
 rw[ab.out]
 go_wp2_with (first
  | (go_at_call 48;go_must (refine aa.out.mono ?_;rintro e ah ⟨rfl,S⟩;have I:=vi (ad.out.trans S);clear S;obtain⟨⟨ai,aj⟩,ak⟩:=af.out ah I.out)))
 go_ret
 exact⟨rfl,I.out⟩
set_option maxHeartbeats 4000000 in
set_option maxRecDepth 100000 in
theorem pI (A:SpR w s yb lim whole qb mb N W) (Y:SyR W s yb fb) (R:StR W s yb sb d.st) (O:W.heap[cb]?=some (.cells #[.pointer (some ⟨qb,0,none⟩)] 208 (0,0))) (V:eP s (N.map Prod.fst) (cY s d.st)=false) (aa:(eO s d.st).size≤maxLen) (X:(N.length:Int)=lim) :
  Calls Tryz.prog 117 #[ndV (d,sb),.pointer (some ⟨cb,0,none⟩)] W (Ret (.bool false) (Frm [] W)):=by
 obtain⟨h,H⟩:∃ h,W.alloc (.cells #[.pointer (some ⟨sb,0,none⟩),.int .i64 d.par,.int .i64 d.mv.kind,.int .i64 d.mv.role,.int .i64 d.mv.step,.int .i64 d.mv.place,.int .i64 d.lvl] 216)=h:=⟨_,rfl⟩
 have I:Frm [] W h:=by rw[← H];exact(Frm.refl _ _).alloc _
 have K:h.heap[W.heap.size]?=some (.cells #[.pointer (some ⟨sb,0,none⟩),.int .i64 d.par,.int .i64 d.mv.kind,.int .i64 d.mv.role,.int .i64 d.mv.step,.int .i64 d.mv.place,.int .i64 d.lvl] 216 (0,0)):=by rw[← H];exact heap_alloc_new _ _
 have ab:Hid (Calls Tryz.prog 48 #[.pointer (some ⟨sb,0,none⟩)] h (Ret (.string (eO s d.st)) (Frm [] h))):=vi ((jt s yb fb sb d.st h (Y.frm I) (R.frm I)).mono fun e w' A=>by
  obtain⟨v,rfl,rfl,A⟩:=A
  exact⟨rfl,A⟩)
 have c0:=ae K 0
 obtain⟨ao,cap,G,ah,-⟩:=A.bx
 have U:(dH s (N.map Prod.fst) (eO s d.st).data.toList).isSome=false:=by rw[gc,eL];exact V
 have ag:Hid (∀ a,Frm [] W a→(a.cell? ⟨cb,0,none⟩=some (.pointer (some ⟨qb,0,none⟩))∧a.cell? ⟨qb,3,none⟩=some (.map (some mb))∧a.cell? ⟨qb,0,none⟩=some (.int .i64 lim)∧a.cell? ⟨qb,2,none⟩=some (.slice ao N.length cap)) ∧
   (Instr.lookup 211 (.map (some mb)) (.string (eO s d.st)) true).run Tryz.prog a=.ok (.tuple #[.int .i64 ((dH s (N.map Prod.fst) (eO s d.st).data.toList).getD 0:Nat),.bool false]) a):=vi fun a E=>by
  refine⟨⟨ae (E.at O (by simp)) 0,ae (E.at G (by simp)) 3,ae (E.at G (by simp)) 0,ae (E.at G (by simp)) 2⟩,?_⟩
  have:=SpO.look A.mp E _ aa
  rwa [U] at this
 have af:=vi I;have ad:=vi H
 have aj:((N.length:Int) == lim)=true:=by simpa using X
 clear A Y R O V aa I K G ah H U X
 go_enter Tryz.func117,Tryz.ntmps117
 go_upto_region 1 with fail
 rw[ad.out]
 go_upto_region 5 with (first
  | (go_at_call 48;go_must (refine ab.out.mono ?_;rintro e ai ⟨rfl,S⟩;have J:=vi (af.out.trans S);clear S;obtain⟨⟨ak,al,am,an⟩,ap⟩:=ag.out ai J.out)))
 go_quiet (fail)
 go_wp2
 go_ret
 exact⟨rfl,J.out.drewN _⟩
set_option maxHeartbeats 4000000 in
set_option maxRecDepth 100000 in
theorem lH (J:SpR w s yb lim whole qb mb N W) (bo:SyR W s yb fb) (aK:StR W s yb sb d.st) (R:W.heap[cb]?=some (.cells #[.pointer (some ⟨qb,0,none⟩)] 208 (0,0))) (A:eP s (N.map Prod.fst) (cY s d.st)=false) (aS:(eO s d.st).size≤maxLen) (bi:(N.length:Int)≠lim) (bm:0<s.roles.length) (bj:N.length≤1000000) :
   Calls Tryz.prog 117 #[ndV (d,sb),.pointer (some ⟨cb,0,none⟩)] W (Ret (.bool true) (AdTo w s yb lim whole qb mb (N++[(d,sb)]) W)):=by
 obtain⟨I,au⟩:∃ I,W.alloc (.cells #[.pointer (some ⟨sb,0,none⟩),.int .i64 d.par,.int .i64 d.mv.kind,.int .i64 d.mv.role,.int .i64 d.mv.step,.int .i64 d.mv.place,.int .i64 d.lvl] 216)=I:=⟨_,rfl⟩
 have av:Frm [] W I:=by rw[← au];exact(Frm.refl _ _).alloc _
 have aI:I.heap[W.heap.size]?=some (.cells #[.pointer (some ⟨sb,0,none⟩),.int .i64 d.par,.int .i64 d.mv.kind,.int .i64 d.mv.role,.int .i64 d.mv.step,.int .i64 d.mv.place,.int .i64 d.lvl] 216 (0,0)):=by rw[← au];exact heap_alloc_new _ _
 have aT:Hid (Calls Tryz.prog 48 #[.pointer (some ⟨sb,0,none⟩)] I (Ret (.string (eO s d.st)) (Frm [] I))):=vi ((jt s yb fb sb d.st I (bo.frm av) (aK.frm av)).mono fun e w' J=>by
  obtain⟨v,rfl,rfl,J⟩:=J
  exact⟨rfl,J⟩)
 have c0:=ae aI 0
 have bv:=vi aI
 clear aI
 obtain⟨ao,cap,am,a8,a9⟩:=J.bx
 have bg:(dH s (N.map Prod.fst) (eO s d.st).data.toList).isSome=false:=by rw[gc,eL];exact A
 have ap:Hid (∀ a,Frm [] W a→(a.cell? ⟨cb,0,none⟩=some (.pointer (some ⟨qb,0,none⟩))∧a.cell? ⟨qb,3,none⟩=some (.map (some mb))∧a.cell? ⟨qb,0,none⟩=some (.int .i64 lim)∧a.cell? ⟨qb,2,none⟩=some (.slice ao N.length cap)) ∧
   (Instr.lookup 211 (.map (some mb)) (.string (eO s d.st)) true).run Tryz.prog a=.ok (.tuple #[.int .i64 ((dH s (N.map Prod.fst) (eO s d.st).data.toList).getD 0:Nat),.bool false]) a):=vi fun a h=>by
  refine⟨⟨ae (h.at R (by simp)) 0,ae (h.at am (by simp)) 3,ae (h.at am (by simp)) 0,ae (h.at am (by simp)) 2⟩,?_⟩
  have:=SpO.look J.mp h _ aS
  rwa [bg] at this
 have bB:=vi av;have aX:=vi au
 have b5:((N.length:Int) == lim)=false:=by simpa using bi
 have aU:=vi am;have aV:=vi a8;have bw:=vi a9
 have a4:=vi J;have bz:=vi R;have a1:=vi A;have aW:=vi aK;have bX:=vi aS;have bU:=vi bm;have aC:=vi bj
 clear J bo aK R A aS av am a8 a9 au bg bi bm bj
 go_enter Tryz.func117,Tryz.ntmps117
 go_upto_region 1 with fail
 rw[aX.out]
 go_upto_region 5 with (first
  | (go_at_call 48;go_must (refine aT.out.mono ?_;rintro e br ⟨rfl,aL⟩;have aY:=vi (bB.out.trans aL);have bF:=vi aL;clear aL;obtain⟨⟨cf,cg,ch,ci⟩,cj⟩:=ap.out br aY.out)))
 go_quiet (fail)
 go_upto_region 7 with fail
 obtain⟨aB,ay⟩:∃ aB,br.drewN nq=aB:=⟨_,rfl⟩
 have aZ:Hid (Frm [] W aB):=vi (by rw[← ay];exact aY.out.drewN _)
 have bJ:Hid (Frm [] I aB):=vi (by rw[← ay];exact bF.out.drewN _)
 rw[ay]
 clear ay cf cg ch ci cj
 refine bQ 10 (by kernel_rfl) (by kernel_rfl) ?_
 simp only[List.take_succ_cons,List.take_zero,List.drop_succ_cons,List.drop_zero]
 repeat (first
  | go_big_quiet_skip
  | (refine wpQuiet_want (by rfl) (fun bY ar=>?_)
     first
      | (refine quiet_move _ (by rfl) (ar _ ?_))
      | (refine quiet_assign _ (by rfl) (ar _ ?_))
      | (apply Exists.intro
         refine⟨fun w' X=>?_,ar _ ?_⟩
         ·(unfold Oper.quietAt
           obtain⟨⟨cu,cv,cw,cx⟩,cy⟩:=ap.out w' (aZ.out.trans X)
           clear X
           go_simp
           try exact⟨rfl,rfl⟩
           try rfl))
     clear ar bY
     try simp only[nrm,Act.eval,nrq]))
 refine wpQuiet_nil ?_
 intro bs aM
 have S:=vi (aZ.out.trans aM);have bK:=vi (bJ.out.trans aM)
 have H:=vi (a4.out.frm S.out)
 obtain⟨G,b9,aw,be⟩:=H.out.mp.store Tryz.keyedS Tryz.underlying211 (by have:=aC.out;unfold maxLen;omega) (WideMaps.keyOf_string_mk Tryz.underlying9 bX.out) (by trivial) (.int .i64 (N.length:Nat))
 rw[(ma s (N.map Prod.fst) (eO s d.st).data.toList).2,gc,eL,a1.out] at aw
 simp only[Bool.false_eq_true,if_false] at aw
 have bO:=vi aw;have ad:=vi be
 clear aM aw be
 go_upto_region 8 with fail
 obtain⟨U,V,ai,al,aF⟩:=H.out.bx
 have b0:U=ao∧V=cap:=by
  have e:=(ae ai 2).symm.trans (ap.out bs S.out).1.2.2.2
  simp at e
  exact e
 obtain⟨rfl,rfl⟩:=b0
 have ct:qb≠mb:=fun e=>by
  obtain⟨aE,c,hb⟩:=H.out.mp.block rfl
  rw[← e,ai] at hb;cases hb
 have ag:∀ {k:Nat} {C:Array Value} {t:TypeId},bs.heap[k]?=some (.cells C t (0,0))→G.heap[k]?=some (.cells C t (0,0)):=fun {k C t} A=>ad.out.at A (by
  intro E
  simp only[List.mem_singleton] at E
  obtain⟨aE,c,hb⟩:=H.out.mp.block rfl
  rw[← E,A] at hb;cases hb)
 have bu:=ag (S.out.at bz.out (by simp))
 have bp:=ag ai
 have a6:=ag (bK.out.at bv.out (by simp))
 have bq:G.ownsRow w.heap.size 216 7 (.slice U N.length V) N.length (ndC N):=ad.out.owns al (by
  intro k A E
  simp only[List.mem_singleton] at E
  obtain⟨c,R⟩:=ak al A
  obtain⟨aE,bZ,hb⟩:=H.out.mp.block rfl
  rw[← E,R] at hb;cases hb)
 have bD:=vi ai;have bG:=vi al;have bI:=vi aF;have a5:=vi bu;have bx:=vi a6;have a2:=vi bp;have a3:=vi bq
 have bn:Ty G sb 147:=by
  obtain⟨cp,cz,hb,-⟩:=aW.out.out
  exact⟨_,ag (S.out.at hb (by simp))⟩
 have bW:=vi bn
 have ba:∀ a,Frm [] G a→jQ (NdG a) 216 (.slice U N.length V) a:=fun a h g cur bh R u b8=>by
  obtain⟨c,bd⟩:=ak al bh
  have b3:=h.at (ag bd) (by simp)
  rw[b3] at R
  cases R
  exact(((aF g _ bh bd u b8).frm (F:=[mb]) ad.out (fun p b6 E=>by
   simp only[List.mem_singleton] at E
   obtain⟨D,Y⟩:=b6
   obtain⟨aE,bZ,hb⟩:=H.out.mp.block rfl
   rw[← E,Y] at hb;cases hb)).frm h (by simp))
 have bL:=vi ba
 obtain⟨ce,b4,ca,cc,cd⟩:=info_parts Tryz.infoNd
 clear ai al aF bu bp a6 bq ag bn ba b9 c0 b5 aT ap aX
 obtain⟨F,aG⟩:∃ F,(Value.slice U N.length V).ownBlock.toList=F:=⟨_,rfl⟩
 have aq:∀ k∈F,Ty G k 216∧k<W.heap.size:=fun k A=>by
  rw[← aG,Option.mem_toList] at A
  exact⟨ak a3.out A,bV aV.out A⟩
 have bc:∀ a,Frm F G a→a.heap[cb]?=some (.cells #[.pointer (some ⟨qb,0,none⟩)] 208 (0,0)):=fun a h=>h.at a5.out (fun E=>by
  obtain⟨D,Y⟩:=(aq _ E).1
  rw[a5.out] at Y;cases Y)
 have aH:∀ a,Frm F G a→a.heap[qb]?=some (.cells #[.int .i64 lim,.bool whole,.slice U N.length V,.map (some mb)] 214 (0,0)):=fun a h=>h.at a2.out (fun E=>by
  obtain⟨D,Y⟩:=(aq _ E).1
  rw[a2.out] at Y;cases Y)
 have K:∀ a,Frm F G a→a.heap[W.heap.size]?=some (.cells #[.pointer (some ⟨sb,0,none⟩),.int .i64 d.par,.int .i64 d.mv.kind,.int .i64 d.mv.role,.int .i64 d.mv.step,.int .i64 d.mv.place,.int .i64 d.lvl] 216 (0,0)):=fun a h=>h.at bx.out (fun E=>by
  have:=(aq _ E).2;omega)
 have bA:Hid (∀ a,Frm F G a→(a.cell? ⟨cb,0,none⟩=some (.pointer (some ⟨qb,0,none⟩))∧a.cell? ⟨qb,2,none⟩=some (.slice U N.length V))∧a.cell? ⟨W.heap.size,0,none⟩=some (.pointer (some ⟨sb,0,none⟩))∧a.cell? ⟨W.heap.size,1,none⟩=some (.int .i64 d.par) ∧
   a.cell? ⟨W.heap.size,2,none⟩=some (.int .i64 d.mv.kind)∧a.cell? ⟨W.heap.size,3,none⟩=some (.int .i64 d.mv.role)∧a.cell? ⟨W.heap.size,4,none⟩=some (.int .i64 d.mv.step)∧a.cell? ⟨W.heap.size,5,none⟩=some (.int .i64 d.mv.place)∧a.cell? ⟨W.heap.size,6,none⟩=some (.int .i64 d.lvl)):=vi fun a h =>
  ⟨⟨ae (bc a h) 0,ae (aH a h) 2⟩,ae (K a h) 0,ae (K a h) 1,ae (K a h) 2,ae (K a h) 3,ae (K a h) 4,ae (K a h) 5,ae (K a h) 6⟩
 have bT:=vi aH
 have bC:=vi aG
 clear bc aH K aq aG
 refine bH F (fk 10) (by kernel_rfl) ?_
 refine cnt 0 ?_
 iterate 6
  refine hcL ?_ ?_ ?_
  rotate_left
  ·intro w' X
   obtain⟨⟨cB,cC⟩,cD,cE,cF,cG,cH,cI,cJ⟩:=bA.out w' ((Frm.refl F G).drew.trans X)
   clear X
   go_simp
   try rfl
  try simp only[nrm,Nat.reduceAdd]
 refine tcn ?_
 obtain⟨ab,aQ⟩:∃ ab,G.drew=ab:=⟨_,rfl⟩
 have aN:Frm [] G ab:=by rw[← aQ];exact(Frm.refl _ _).drew
 rw[aQ]
 clear aQ
 have a0:=vi (bL.out _ (aN.alloc (.cells #[.pointer (some ⟨sb,0,none⟩),.int .i64 d.par,.int .i64 d.mv.kind,.int .i64 d.mv.role,.int .i64 d.mv.step,.int .i64 d.mv.place,.int .i64 d.lvl] 216)))
 refine bE 6 ?_
 refine ax (i:=6) rfl rfl (by rfl) (fun ah O=>?_)
 go_simp
 (skip)
 refine O.out _ _ ((Frm.refl _ _).alloc _) ?_
 clear O ah
 try simp only[nrm]
 obtain⟨aa,aA⟩:∃ aa,ab.alloc (.cells #[.pointer (some ⟨sb,0,none⟩),.int .i64 d.par,.int .i64 d.mv.kind,.int .i64 d.mv.role,.int .i64 d.mv.step,.int .i64 d.mv.place,.int .i64 d.lvl] 216)=aa:=⟨_,rfl⟩
 have af:Hid (Frm [] G aa):=vi (by rw[← aA];exact aN.alloc _)
 have bk:∀ j u,(im (d,sb))[j]?=some u→aa.cell? ((⟨ab.heap.size,0,none⟩:Addr).add j)=some u:=by rw[← aA];exact cA ab _ _
 rw[aA] at a0 ⊢
 have b7:w.heap.size≤aa.heap.size:=by have:=H.out.fr.size;have:=ad.out.size;have:=af.out.size;omega
 have bP:=vi bk
 clear aA bk aN
 refine bE 7 ?_
 refine ax (i:=7) rfl rfl (by rfl) (fun ah O=>?_)
 refine jR (NdG aa) _ _ 212 rfl w.heap.size 216 ce ndZ 7 56 Tryz.underlying212 b4 ca cc cd rfl (by decide) (.slice U N.length V) N.length (ndC N) ?_ (af.out.owns a3.out (by simp)) ⟨ab.heap.size,0,none⟩ 1 1 (im (d,sb)) ?_ rfl bP.out (by simp[Value.oneCell',im]) (by have:=aC.out;unfold maxLen;omega) (by have:=aC.out;omega) b7 (by omega) a0.out (rY _) (tB (bW.out.frm af.out (by simp))) ?_;(focus (go_simp;done));(focus (go_simp;done));intro v' bt aP aO bb bl;have bS:=vi bl;have bR:=vi aP;have bN:=vi aO;have bM:=vi bb;have bf:Frm F aa bt:=(Frm.refl _ _).grown aO (fun k A=>.inl (by rw[← bC.out];simp[A]));have aJ:=bT.out bt ((af.out.mono (by simp)).trans bf);have cr:=ae aJ 2;have cs:=aj aJ 2;obtain⟨co,cq,rfl⟩:=an aP;clear aP aO bb aJ bl
 refine O.out _ _ bf ?_
 clear O ah
 try simp only[nrm]
 refine cnt 8 ?_
 iterate 2
  refine hcL ?_ ?_ ?_
  rotate_left
  ·intro w' X
   clear X
   go_simp
   try rfl
  try simp only[nrm,Nat.reduceAdd]
 refine tcn ?_
 refine bE 10 ?_
 refine az (i:=10) rfl (by rfl) (by rfl) (fun ah O=>?_)
 go_simp
 (skip)
 refine O.out _ _ ?_
 clear O ah
 try simp only[nrm]
 refine aR (by kernel_rfl) ?_ _
 go_wp2
 go_ret
 refine⟨rfl,?_⟩
 obtain⟨ck,cl,cm⟩:=H.out.add bU.out (aW.out.frm S.out) a1.out bD.out bG.out bI.out bO.out ad.out af.out bN.out bR.out bM.out
 refine⟨ck,⟨_,(S.out.mono (by simp)).trans cl,a4.out.spB aU.out aV.out bw.out⟩,fun k A=>?_⟩
 rintro⟨cn,b,v,m,a7,aD⟩
 rw[cm] at a7
 cases a7
 rcases bS.out with e | e
 ·exact⟨_,_,_,_,aU.out,e ▸ aD⟩
 ·rw[e] at aD
  cases aD
  have:=S.out.size
  have:=ad.out.size
  have:=af.out.size
  omega
end
end Go.Proofs.YtohfkhjlnlahdaaGreat
