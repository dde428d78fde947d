/- Part of the proof. -/
import Derived.Test.YtohfkhjlnlahdaaGreatW35
import Derived.Test.YtohfkhjlnlahdaaGreatW32
import Derived.Test.YtohfkhjlnlahdaaGreatW29
import Derived.Test.YtohfkhjlnlahdaaGreatW30
import Derived.Sort.CutIn
import Derived.OrdersIn
import Derived.Lib.Builder
import Derived.Shelf.SortM.Plain
import Derived.Shelf.SortM.SortNone
import Derived.Lib.AppendStr
import Derived.Laws.OwnMore
import Derived.LaidEql
import Derived.Test.YtohfkhjlnlahdaaGreatW34
import Derived.Sort.BigQuietIn
import Derived.Laws.StructEq
import Derived.Laws.EntriesVeiled
import Derived.Test.YtohfkhjlnlahdaaGreatW38
import Derived.Deep.OwnRows
set_option linter.all false
namespace Go.Proofs.YtohfkhjlnlahdaaGreat
open Go.RowKit Go.BigFrame
theorem pDo_yes (s:SesD) (yb fb sb:Nat) (x:PS) (m:Mv) (w:World) (h:SyR w s yb fb) (hx:StR w s yb sb x) (hm:m∈movesP s x) :
  Calls Tryz.prog 19 #[.pointer (some ⟨yb,0,none⟩),.pointer (some ⟨sb,0,none⟩),mvV m] w (RetV (StTo w s yb (nextP s x m))):=by
 rcases mem_movesP.1 hm with ⟨i,k,hi,hk,h2⟩ | ⟨i,k,hi,hk,h2⟩
 ·exact pDo_step s yb fb sb i k x m w h hx hm hi hk h2
 ·exact pDo_lose s yb fb sb i k x m w h hx hm hi hk (mem_loseMv.1 h2).1
def MvsTo (w:World) (L:List Mv) (v:Value) (w':World):Prop:=∃ B u,v=.func (.func 146) #[] #[.pointer (some ⟨B,0,none⟩)]∧MvI B u L w'∧Frm [] w w'∧w.heap.size≤B
set_option maxHeartbeats 2000000 in
set_option maxRecDepth 100000 in
theorem pMoves_any (s:SesD) (yb fb sb:Nat) (x:PS) (w:World) (h:SyR w s yb fb) (hx:StR w s yb sb x):Calls Tryz.prog 21 #[.pointer (some ⟨yb,0,none⟩),.pointer (some ⟨sb,0,none⟩)] w (RetV (MvsTo w (movesP s x))):=by
 have C1:=Lib.hid (pCheck_any s yb fb sb x w h hx)
 have C2:=Lib.hid (pmoves_any s yb fb sb x w h hx)
 clear h hx
 go_enter Tryz.func21,Tryz.ntmps21
 go_wp2_with (first
  | (go_at_call 61;go_must (refine C1.out.mono ?_;rintro e w' ⟨rfl,rfl⟩))
  | (go_at_call 63;go_must (refine C2.out.mono ?_;rintro e w1 ⟨v,rfl,ha,hf⟩;obtain⟨ao,cq,rfl⟩:=ha.shape;have HA:=Lib.hid ha;have HF:=Lib.hid hf;have C3:=Lib.hid (alMove_any _ (movesP s x) w1 ha);clear ha hf))
  | (go_at_call 75;go_must (refine C3.out.mono ?_;rintro e w2 ⟨v,rfl,rfl,ha,hf⟩;have HB:=Lib.hid ha;have HG:=Lib.hid hf;clear ha hf)))
 go_ret
 exact⟨_,rfl,_,_,rfl,HB.out,HF.out.trans HG.out,HF.out.size⟩
set_option maxHeartbeats 2000000 in
set_option maxRecDepth 100000 in
theorem pSession_any (s:SesD) (yb fb:Nat) (w:World) (h:SyR w s yb fb):Calls Tryz.prog 74 #[.pointer (some ⟨yb,0,none⟩)] w (RetV (OwTo w s)):=by
 have hf0:Frm [] w (w.alloc (.cells #[.string { data:=#[] },.slice none 0 0,.int .i64 0,.int .i64 0] 25)):=(Frm.refl [] w).alloc _
 have C1:=Lib.hid (pNone_any s yb fb _ (h.frm hf0))
 have hok:=h.ok
 obtain⟨rv,h1,h2⟩:=h.out
 have CO:=Lib.hid (pOwn_any s (.agg #[.string s.name,rv,.int .i64 s.cls,.int .i64 s.cap]) _ ⟨rv,rfl,h2.frm hf0⟩ (by have:=hok.n2;omega) hok.n4 (fun r hr=>⟨by have:=(hok.rol r hr).s24;omega,by have:=(hok.rol r hr).c4;omega,by have:=(hok.rol r hr).t80;omega⟩))
 have HF0:=Lib.hid hf0
 have B0:=Lib.hid (heap_alloc_new w (.cells #[.string { data:=#[] },.slice none 0 0,.int .i64 0,.int .i64 0] 25))
 have hl:=lt_of_block h1
 have c0:=cell_of h1 0
 have c1:=cell_of h1 1
 have c2:=cell_of h1 2
 have c3:=cell_of h1 3
 clear h h1 h2 hf0 hok
 go_enter Tryz.func74,Tryz.ntmps74
 go_wp2_with (first
  | (go_at_call 60;go_must (refine C1.out.mono ?_;rintro e w' ⟨rfl,rfl⟩))
  | (go_at_call 112;go_must (refine CO.out.mono ?_;rintro e w1 ⟨v,rfl,ho⟩;obtain⟨g,cg,rfl⟩:=ho.shape;have HO:=Lib.hid ho;have B1:=Lib.hid (ho.frm.at B0.out (by simp));clear ho))
  | (refine wpList_store_row rfl 25 _ _ rfl _ _ _ 25 rfl rfl B1.out rfl (by kernel_rfl) (by simp[Value.oneCell']) ?_;intro w2 hb2 hf2))
 refine bodyPost_ret (results_c1 (d:=_) (Tryz.results74) rfl hb2 rfl Tryz.underlying25 (by kernel_rfl)) rfl ⟨_,rfl,⟨g,cg,rfl⟩,(HF0.out.trans HO.out.frm).then hf2 (by intro y hy;simp at hy;right;omega),fun V hV=>HO.out.ses V ?_⟩
 have hs:=hf2.size
 intro k h1 h2
 rw[hV k (by simp at h1;omega) (by omega)]
 exact hf2.block k h2 (by simp at h1 ⊢;omega)
end Go.Proofs.YtohfkhjlnlahdaaGreat
namespace Go.Proofs.YtohfkhjlnlahdaaGreat
open Go.RowKit Go.BigFrame
def rolBig6 (r:RolD):Bool:=(decide (4 < r.ctrs.length) || decide (6 < r.sts.length) || decide (12 < r.steps.length) || decide (60 < r.name.size)) || r.steps.any stepBig
def large6B (s:SesD):Bool:=(decide (4 < s.roles.length) || decide (60 < s.name.size)) || s.roles.any rolBig6
def gvB (s:SesD):Bool:=!large6B s && decide (ckSes s=0)
theorem rolBig6_ways (r:RolD):((4 < (r.ctrs.length:Int))∧rolBig6 r=true)∨(¬ 4 < (r.ctrs.length:Int)∧(6 < (r.sts.length:Int))∧rolBig6 r=true)∨(¬ 4 < (r.ctrs.length:Int)∧¬ 6 < (r.sts.length:Int)∧12 < (r.steps.length:Int)∧rolBig6 r=true) ∨
  (¬ 4 < (r.ctrs.length:Int)∧¬ 6 < (r.sts.length:Int)∧¬ 12 < (r.steps.length:Int)∧60 < (r.name.size:Int)∧rolBig6 r=true)∨(¬ 4 < (r.ctrs.length:Int)∧¬ 6 < (r.sts.length:Int)∧¬ 12 < (r.steps.length:Int)∧¬ 60 < (r.name.size:Int)∧rolBig6 r=r.steps.any stepBig):=by
 unfold rolBig6
 by_cases h1:4 < r.ctrs.length
 ·left;exact⟨by omega,by simp[h1]⟩
 by_cases h2:6 < r.sts.length
 ·right;left;exact⟨by omega,by omega,by simp[h2]⟩
 by_cases h3:12 < r.steps.length
 ·right;right;left;exact⟨by omega,by omega,by omega,by simp[h3]⟩
 by_cases h4:60 < r.name.size
 ·right;right;right;left;exact⟨by omega,by omega,by omega,by omega,by simp[h4]⟩
 right;right;right;right
 refine⟨by omega,by omega,by omega,by omega,?_⟩
 rw[decide_eq_false h1,decide_eq_false h2,decide_eq_false h3,decide_eq_false h4];rfl
theorem sm_of6 {s:SesD} (h:WfS s) (hl:large6B s=false):SmS s:=by
 unfold large6B at hl
 simp only[Bool.or_eq_false_iff,decide_eq_false_iff_not,List.any_eq_false] at hl
 obtain⟨⟨h1,-⟩,h3⟩:=hl
 refine⟨by omega,fun r hr=>?_⟩
 have hb:=h3 r hr
 unfold rolBig6 at hb
 simp only[Bool.or_eq_true,decide_eq_true_eq,List.any_eq_true,not_or,not_exists,not_and] at hb
 obtain⟨⟨⟨⟨b1,b2⟩,b3⟩,b4⟩,b5⟩:=hb
 refine⟨by omega,by omega,by omega,h r hr,fun x hx=>?_⟩
 have:=b5 x hx
 unfold stepBig at this
 simp only[Bool.or_eq_true,decide_eq_true_eq,not_or] at this
 omega
def GvTo (w:World) (s:SesD) (v:Value) (w':World):Prop:=Frm [] w w'∧((gvB s=false∧v=.tuple #[.pointer none,.bool false])∨(gvB s=true∧∃ yb fb,v=.tuple #[.pointer (some ⟨yb,0,none⟩),.bool true]∧SyR w' s yb fb))
end Go.Proofs.YtohfkhjlnlahdaaGreat
namespace Go.Proofs.YtohfkhjlnlahdaaGreat
open Go.RowKit Go.BigFrame Go.Maps
theorem gv_ok {s:SesD} (h:gvB s=true):SesOk s:=by
 unfold gvB at h
 rw[Bool.and_eq_true] at h
 exact ses_ok (of_decide_eq_true h.2)
section
variable {W:World} {s:SesD} {yb pb:Nat} {whole:Bool} {N:List (Nd × Nat)}
theorem xWhole_eq (h:SpO W s yb whole pb N):Calls Tryz.prog 59 #[.pointer (some ⟨pb,0,none⟩)] W (Ret (.bool whole) (W=·)):=by
 have C1:=Lib.hid (xNone_any h)
 obtain⟨qb,mb,lim,ao,cap,h1,h2,-⟩:=h.out
 have c0:=cell_of h1 0
 have c1:=cell_of h2 1
 clear h1 h2 h
 go_enter Tryz.func59,Tryz.ntmps59
 go_wp2_with (first
  | (go_at_call 120;go_must (refine C1.out.mono ?_;rintro e w' ⟨rfl,rfl⟩)))
 go_ret
 exact⟨rfl,rfl⟩
end
theorem some_map {α β:Type} {f:α→β} {L:List α} {i:Nat} {y:β} (h:(L.map f)[i]?=some y):∃ x,L[i]?=some x∧f x=y:=by
 rw[List.getElem?_map] at h
 cases hz:L[i]? with
 | none=>rw[hz] at h;cases h
 | some z=>rw[hz] at h;exact⟨z,rfl,Option.some.inj h⟩
theorem trc_len {N:List Nd}:∀ (f n:Nat),(trc N f n).length≤f
 | 0,_=>Nat.le_refl _
 | f + 1,n=>by
   unfold trc
   split
   ·exact Nat.zero_le _
   ·split
    ·exact Nat.zero_le _
    ·rw[List.length_append,List.length_singleton]
     have:=trc_len (N:=N) f
     exact Nat.succ_le_succ (this _)
end Go.Proofs.YtohfkhjlnlahdaaGreat
namespace Go.Proofs.YtohfkhjlnlahdaaGreat
open Go.RowKit Go.BigFrame Go.Maps
theorem cat_le {α:Type} {f:Nat→List α} {b:Nat}:∀ {n:Nat},(∀ k,k < n→(f k).length≤b)→(cat f n).length≤n * b
 | 0,_=>by simp[cat]
 | n + 1,h=>by
   rw[cat,List.length_append]
   have h1:=cat_le (n:=n) fun k hk=>h k (by omega)
   have h2:=h n (by omega)
   rw[Nat.add_mul,Nat.one_mul]
   omega
theorem flatMap_len {α β:Type} {f:α→List β} {b:Nat} (h:∀ x,(f x).length≤b):∀ l:List α,(l.flatMap f).length≤l.length * b
 | []=>by simp
 | x :: l=>by
   rw[List.flatMap_cons,List.length_append,List.length_cons,Nat.add_mul,Nat.one_mul]
   have:=flatMap_len h l
   have:=h x
   omega
theorem keyS_size {s:SesD} {x:PS} (hs:SesOk s) (hx:PSok s x):(keyS s x).size≤3000:=by
 have h4:=hs.n4
 have hr:∀ i,i < s.roles.length→(keyRole x i).length≤9:=fun i hi=>by
  unfold keyRole
  rw[List.length_cons]
  have h1:=flatMap_len (f:=two) (b:=2) (fun v=>by simp[two]) (x.bank i)
  have h2:=(hx.vb i hi).1
  have h3:=(hs.at hi).c4
  omega
 have hw:∀ i k,i < s.roles.length→k < s.roles.length→(keyWay s x i k).length≤140:=fun i k hi hk=>by
  unfold keyWay
  split
  ·simp
  ·rw[List.length_cons]
   obtain⟨h1,h2⟩:=hx.wb i k hi hk
   have h3:=keyB_size (keyL s.cls (x.way i k)) fun m hm=>(h2 m (keyL_mem hm)).2
   rw[keyL_length] at h3
   have h5:=hs.k4
   have h6:(byt (keyB (keyL s.cls (x.way i k)))).length=(keyB (keyL s.cls (x.way i k))).size:=byt_length _
   omega
 have e:(keyS s x).size=(keyP s x).length:=by
  unfold keyS
  exact List.size_toArray
 rw[e]
 unfold keyP
 rw[List.length_append]
 have h1:=cat_le (f:=keyRole x) (n:=s.roles.length) hr
 have h2:=cat_le (f:=fun i=>cat (keyWay s x i) s.roles.length) (n:=s.roles.length) (b:=4 * 140) fun i hi=>Nat.le_trans (cat_le fun k hk=>hw i k hi hk) (Nat.mul_le_mul_right _ h4)
 have h3:s.roles.length * 9≤4 * 9:=Nat.mul_le_mul_right _ h4
 have h5:s.roles.length * (4 * 140)≤4 * (4 * 140):=Nat.mul_le_mul_right _ h4
 omega
theorem addMv_snoc {s:SesD} {lim:Nat} {x:PS} {n lvl:Nat} {m:Mv}:∀ {ms:List Mv} {N N':List Nd},addMv s lim x n lvl N ms=(N',true)→addMv s lim x n lvl N (ms ++ [m])=addMv s lim x n lvl N' [m]
 | [],N,N',h=>by cases h;rfl
 | a :: ms,N,N',h=>by
   rw[List.cons_append,addMv]
   rw[addMv] at h
   split at h
   ·rename_i hk;rw[if_pos hk];exact addMv_snoc h
   ·rename_i hk
    rw[if_neg hk]
    split at h
    ·cases h
    ·rename_i hl;rw[if_neg hl];exact addMv_snoc h
theorem addMv_stop {s:SesD} {lim:Nat} {x:PS} {n lvl:Nat}:∀ {ms ks:List Mv} {N N':List Nd},addMv s lim x n lvl N ms=(N',false)→addMv s lim x n lvl N (ms ++ ks)=(N',false)
 | [],ks,N,N',h=>by cases h
 | a :: ms,ks,N,N',h=>by
   rw[List.cons_append,addMv]
   rw[addMv] at h
   split at h
   ·rename_i hk;rw[if_pos hk];exact addMv_stop h
   ·rename_i hk
    rw[if_neg hk]
    split at h
    ·rename_i hl;rw[if_pos hl];exact h
    ·rename_i hl;rw[if_neg hl];exact addMv_stop h
theorem addMv_one {s:SesD} {lim:Nat} {x:PS} {n lvl:Nat} {m:Mv} {N:List Nd}:addMv s lim x n lvl N [m]=if hasK s N (keyP s (nextP s x m)) then (N,true) else if N.length=lim then (N,false) else (N ++ [⟨nextP s x m,n,m,lvl + 1⟩],true):=by
 rw[addMv,addMv,addMv]
theorem wp_store_row {P:Program} {op:Oper} {a:Act} {w:World} {K:Act→World→Prop} {Q:Exit→Act→World→Prop} (ty:TypeId) (x y:Operand) (ho:op.op=.store ty x y) (b:Nat) (A C:Array Value) (t:TypeId) (hx:a.eval x=.pointer (some ⟨b,0,none⟩)) (hy:a.eval y=.agg A)
  (hb:w.heap[b]?=some (.cells C t (0,0))) (hs:A.size=C.size) (hi:(P.info? ty).map (·.size)=some A.size) (h1:A.all (·.oneCell')=true)
  (h:∀ w',w'.heap[b]?=some (.cells A t (0,0))→Frm [b] w w'→K (a.put op.dst undef) w'):op.wp P a w K Q:=by
 have hw:=setCells_whole hb A hs
 refine wp_store_mid ty x y ho b 0 A hx hy (fun j hj=>⟨?_,?_⟩) hi h1 (h _ hw.1 hw.2)
 ·rw[Nat.zero_add,cell_of hb];simp[show j < C.size by omega]
 ·rw[Nat.zero_add];exact free_of hb j
structure SeS (w:World) (s:SesD) (yb fb:Nat) (lim:Int) (whole:Bool) (qb mb yB cb ab:Nat) (N:List (Nd × Nat)) (W:World):Prop where
 sp:SpR w s yb lim whole qb mb N W
 y:W.heap[yB]?=some (.cells #[.pointer (some ⟨yb,0,none⟩)] 27 (0,0))
 c:W.heap[cb]?=some (.cells #[.pointer (some ⟨qb,0,none⟩)] 208 (0,0))
 a:W.heap[ab]?=some (.cells #[.func (.func 117) #[] #[.pointer (some ⟨cb,0,none⟩)]] 217 (0,0))
 sy:SyR W s yb fb
theorem book_fg {W:World}:∀ b∈books W,FgB W b:=fun b hb=>by
 obtain⟨o,ho,hi⟩:=mem_books.1 hb
 have hn:∀ C t fr,o≠.cells C t fr:=fun C t fr e=>by subst e;cases hi
 have hc:∀ x,W.cell? ⟨b,x,none⟩=none:=fun x=>by
  unfold World.cell?
  rw[ho]
  cases o with
  | cells C t fr=>exact absurd rfl (hn _ _ _)
  | _=>rfl
 exact⟨fun C t e=>(by rw[ho] at e;cases e;exact absurd rfl (hn _ _ _)),fun o' x e=>(by rw[hc] at e;cases e),fun o' p e=>(by rw[hc] at e;cases e),fun o' g o'' p n c e=>(by rw[hc] at e;cases e)⟩
section
variable {w W V:World} {s:SesD} {yb fb qb mb yB cb ab:Nat} {lim:Int} {whole:Bool} {N N':List (Nd × Nat)}
theorem SpR.bk (h:SpR w s yb lim whole qb mb N W) (hs:0 < s.roles.length) {B:Nat} (hb:Bk B W V) (hB:w.heap.size≤B):SpR w s yb lim whole qb mb N V:=by
 obtain⟨ao,cap,h1,h2,h3⟩:=h.bx
 have hf:=hb.frm
 have hnb:∀ {k:Nat} {C:Array Value} {t:TypeId},W.heap[k]?=some (.cells C t (0,0))→k∉books W:=fun hk=>not_books hk rfl
 refine⟨hb.old h.fr hB,h.lq,h.lm,⟨ao,cap,hb.at h1 rfl,hf.owns h2 fun k hk=>?_,fun g cur hg hc u hu=>?_⟩,h.mp.frm hf fun b e=>?_,fun d hd=>(h.st d hd).fg hs book_fg hf⟩
 ·obtain⟨c,hc⟩:=ownBlock_type h2 hk
  exact hnb hc
 ·obtain⟨c,hc'⟩:=ownBlock_type h2 hg
  have:=hb.at hc' rfl
  rw[this] at hc
  cases hc
  exact(h3 g _ hg hc' u hu).frm hf fun p hp=>by
   obtain⟨D,hD⟩:=hp
   exact hnb hD
 ·cases e
  obtain⟨es,c,hm⟩:=h.mp.block rfl
  exact not_books hm rfl
theorem SyR.bk (h:SyR W s yb fb) {B:Nat} (hb:Bk B W V):SyR V s yb fb:=h.fg book_fg hb.frm
theorem SeS.bk (h:SeS w s yb fb lim whole qb mb yB cb ab N W) {B:Nat} (hb:Bk B W V) (hB:w.heap.size≤B):SeS w s yb fb lim whole qb mb yB cb ab N V:=
 ⟨h.sp.bk (by have:=h.sy.ok.n2;omega) hb hB,hb.at h.y rfl,hb.at h.c rfl,hb.at h.a rfl,h.sy.bk hb⟩
theorem SeS.frm (h:SeS w s yb fb lim whole qb mb yB cb ab N W) (hf:Frm [] W V):SeS w s yb fb lim whole qb mb yB cb ab N V:=
 ⟨h.sp.frm hf,hf.at h.y (by simp),hf.at h.c (by simp),hf.at h.a (by simp),h.sy.frm hf⟩
theorem SeS.to (h:SeS w s yb fb lim whole qb mb yB cb ab N W) (ha:AdTo w s yb lim whole qb mb N' W V):SeS w s yb fb lim whole qb mb yB cb ab N' V:=by
 obtain⟨h1,⟨F,hf,hF⟩,-⟩:=ha
 exact⟨h1,SpB.at hF hf h.y (by decide) (.inl (by decide)),SpB.at hF hf h.c (by decide) (.inl (by decide)),SpB.at hF hf h.a (by decide) (.inl (by decide)),h.sy.fg (SpB.fg hF) hf⟩
theorem SpR.part (h:SpR w s yb lim whole qb mb N W) (hs:0 < s.roles.length):SpR w s yb lim false qb mb N (W.setCell ⟨qb,1,none⟩ (.bool false)):=by
 obtain⟨ao,cap,h1,h2,h3⟩:=h.bx
 have hfg:∀ b∈[qb],FgB W b:=fun b hb=>by rw[List.mem_singleton] at hb;subst hb;exact h.fgq.1
 obtain⟨V,hV⟩:∃ V,W.setCell ⟨qb,1,none⟩ (.bool false)=V:=⟨_,rfl⟩
 have hf:Frm [qb] W V:=by rw[← hV];exact(Frm.refl _ _).setCell _ (.inl (by simp)) _
 have b1:V.heap[qb]?=some (.cells #[.int .i64 lim,.bool false,.slice ao N.length cap,.map (some mb)] 214 (0,0)):=by rw[← hV];exact(block_setCell h1 1 _).trans rfl
 have hr:∀ k,(Value.slice ao N.length cap).ownBlock=some k→k∉[qb]:=fun k hk hm=>by
  rw[List.mem_singleton] at hm
  subst hm
  obtain⟨c,hc⟩:=ownBlock_type h2 hk
  rw[h1] at hc;cases hc
 rw[hV]
 refine⟨h.fr.then hf (by intro k hk;simp at hk;subst hk;exact .inr h.lq),h.lq,h.lm,⟨ao,cap,b1,hf.owns h2 hr,fun g cur hg hc u hu=>?_⟩,h.mp.frm hf fun b e hm=>?_,fun d hd=>(h.st d hd).fg hs hfg hf⟩
 ·obtain⟨c,hc'⟩:=ownBlock_type h2 hg
  have:=hf.at hc' (hr g hg)
  rw[this] at hc
  cases hc
  exact(h3 g _ hg hc' u hu).frm hf fun p hp hm=>by
   obtain⟨D,hD⟩:=hp
   exact FgB.ne hfg hD (by simp[sysT]) hm
 ·cases e
  rw[List.mem_singleton] at hm
  subst hm
  obtain⟨es,c,hm⟩:=h.mp.block rfl
  rw[h1] at hm;cases hm
theorem SeS.part (h:SeS w s yb fb lim whole qb mb yB cb ab N W):SeS w s yb fb lim false qb mb yB cb ab N (W.setCell ⟨qb,1,none⟩ (.bool false))∧KB W (W.setCell ⟨qb,1,none⟩ (.bool false)):=by
 have hn:0 < s.roles.length:=by have:=h.sy.ok.n2;omega
 obtain⟨ao,cap,h1,h2,h3⟩:=h.sp.bx
 have hfg:∀ b∈[qb],FgB W b:=fun b hb=>by rw[List.mem_singleton] at hb;subst hb;exact h.sp.fgq.1
 have hf:Frm [qb] W (W.setCell ⟨qb,1,none⟩ (.bool false)):=(Frm.refl _ _).setCell _ (.inl (by simp)) _
 have ht:∀ {k:Nat} {C:Array Value} {t:TypeId},W.heap[k]?=some (.cells C t (0,0))→t≠214→k∉[qb]:=fun hk ht hm=>by
  rw[List.mem_singleton] at hm
  subst hm
  rw[h1] at hk;cases hk
  exact ht rfl
 refine⟨⟨h.sp.part hn,hf.at h.y (ht h.y (by decide)),hf.at h.c (ht h.c (by decide)),hf.at h.a (ht h.a (by decide)),h.sy.fg hfg hf⟩,KB.frm hf fun k hk hb=>?_⟩
 rw[List.mem_singleton] at hk
 subst hk
 exact not_books h1 rfl hb
structure SrS (w:World) (s:SesD) (yb fb:Nat) (lim:Int) (whole:Bool) (qb mb yB cb ab nb xb n:Nat) (d:Nd × Nat) (B:Nat) (u:Value) (L:List Mv) (N:List (Nd × Nat)) (W:World):Prop where
 se:SeS w s yb fb lim whole qb mb yB cb ab N W
 hn:W.heap[nb]?=some (.cells #[.int .i64 n] 3 (0,0))
 hx:W.heap[xb]?=some (.cells #[.pointer (some ⟨d.2,0,none⟩),.int .i64 d.1.par,.int .i64 d.1.mv.kind,.int .i64 d.1.mv.role,.int .i64 d.1.mv.step,.int .i64 d.1.mv.place,.int .i64 d.1.lvl] 216 (0,0))
 xr:¬ RowOf W qb xb
 hb:W.heap[B]?=some (.cells #[u] 31 (0,0))
 hu:W.ownsRow w.heap.size 44 4 u L.length (mvC L)
 at':N[n]?=some d
variable {nb xb n B:Nat} {d:Nd × Nat} {u:Value} {L:List Mv}
theorem SrS.mvs (h:SrS w s yb fb lim whole qb mb yB cb ab nb xb n d B u L N W):MvI B u L W:=⟨h.hb,mv_arr h.hu⟩
theorem RowOf.back {F:List Nat} {k:Nat} (hf:Frm F W V) (hq:qb∉F) (hl:qb < W.heap.size) (h:RowOf V qb k):RowOf W qb k:=by
 obtain⟨a,b,v,m,e1,e2⟩:=h
 exact⟨a,b,v,m,(hf.block qb hl hq).symm.trans e1,e2⟩
theorem SpR.lt (h:SpR w s yb lim whole qb mb N W):qb < W.heap.size:=by
 obtain⟨ao,cap,h1,-⟩:=h.bx
 exact lt_of_block h1
theorem SrS.frm (h:SrS w s yb fb lim whole qb mb yB cb ab nb xb n d B u L N W) (hf:Frm [] W V):SrS w s yb fb lim whole qb mb yB cb ab nb xb n d B u L N V:=
 ⟨h.se.frm hf,hf.at h.hn (by simp),hf.at h.hx (by simp),fun hr=>h.xr (hr.back hf (by simp) h.se.sp.lt),hf.at h.hb (by simp),hf.owns h.hu (by simp),h.at'⟩
theorem SrS.bk (h:SrS w s yb fb lim whole qb mb yB cb ab nb xb n d B u L N W) {D:Nat} (hb:Bk D W V) (hD:w.heap.size≤D):SrS w s yb fb lim whole qb mb yB cb ab nb xb n d B u L N V:=by
 refine⟨h.se.bk hb hD,hb.at h.hn rfl,hb.at h.hx rfl,fun hr=>h.xr ?_,hb.at h.hb rfl,hb.frm.owns h.hu fun k hk=>?_,h.at'⟩
 ·obtain⟨ao,cap,h1,-⟩:=h.se.sp.bx
  exact hr.back hb.frm (not_books h1 rfl) (lt_of_block h1)
 ·obtain⟨c,hc⟩:=ownBlock_type h.hu hk
  exact not_books hc rfl
theorem SrS.to (h:SrS w s yb fb lim whole qb mb yB cb ab nb xb n d B u L N W) (ha:AdTo w s yb lim whole qb mb N' W V) (hn:N'[n]?=some d):SrS w s yb fb lim whole qb mb yB cb ab nb xb n d B u L N' V:=by
 have h0:=h.se.to ha
 obtain⟨h1,⟨F,hf,hF⟩,hr⟩:=ha
 refine⟨h0,SpB.at hF hf h.hn (by decide) (.inl (by decide)),SpB.at hF hf h.hx (by decide) (.inr h.xr),fun e=>h.xr (hr _ (lt_of_block h.hx) e),SpB.at hF hf h.hb (by decide) (.inl (by decide)),hf.owns h.hu fun k hk hm=>?_,hn⟩
 obtain⟨c,hc⟩:=ownBlock_type h.hu hk
 have:=SpB.at hF hf hc (by decide) (.inl (by decide))
 rcases (hF k hm).2 with ⟨es,c',e⟩ | ⟨D,e⟩ | ⟨⟨D,e⟩,-⟩ <;> rw[hc] at e <;> cases e
theorem AdTo.kb (ha:AdTo w s yb lim whole qb mb N' W V):KB W V:=by
 obtain⟨h1,⟨F,hf,hF⟩,-⟩:=ha
 refine KB.frm hf fun k hk hb=>?_
 obtain⟨o,ho,hi⟩:=mem_books.1 hb
 rcases (hF k hk).2 with ⟨es,c',e⟩ | ⟨D,e⟩ | ⟨⟨D,e⟩,-⟩ <;> rw[ho] at e <;> cases e <;> cases hi
end
def SrI (w:World) (s:SesD) (yb fb lim qb mb yB cb ab nb xb n:Nat) (d:Nd × Nat) (B:Nat) (u:Value) (L:List Mv) (N0:List Nd) (ds:List Nat) (pre:List (Nat × Mv)) (W:World):Prop:=
 ∃ N,SrS w s yb fb lim true qb mb yB cb ab nb xb n d B u L N W∧addMv s lim d.1.st n d.1.lvl N0 (pre.map Prod.snd)=(N.map Prod.fst,true)∧(N.length≤lim∧∀ e∈N,e.1.lvl≤N.length)∧Ms w ds W
def SrX (c:Code) (w:World) (s:SesD) (yb fb lim qb mb yB cb ab n:Nat) (d:Nd × Nat) (N0:List Nd) (ds:List Nat) (c':Code) (pre:List (Nat × Mv)) (W:World):Prop:=
 c'=c∧∃ N,SeS w s yb fb lim false qb mb yB cb ab N W∧addMv s lim d.1.st n d.1.lvl N0 (pre.map Prod.snd)=(N.map Prod.fst,false)∧Ms w ds W
section
variable {w W V:World} {s:SesD} {yb fb lim qb mb yB cb ab nb xb n B D:Nat} {d:Nd × Nat} {u:Value} {L:List Mv} {N0:List Nd} {ds:List Nat} {pre:List (Nat × Mv)} {c c':Code}
theorem Ms.bk (h:Ms w ds W) (hb:Bk D W V) (hds:∀ E∈ds,E < D):Ms w ds V:=⟨h.nd,fun E hE=>⟨(h.dl E hE).1,hb.block E _ (h.dl E hE).2 (.inl (hds E hE))⟩⟩
theorem Ms.kb (h:Ms w ds W) (hk:KB W V):Ms w ds V:=⟨h.nd,fun E hE=>⟨(h.dl E hE).1,hk E _ (h.dl E hE).2 rfl⟩⟩
theorem SrI.bk (h:SrI w s yb fb lim qb mb yB cb ab nb xb n d B u L N0 ds pre W) (hb:Bk D W V) (hD:w.heap.size≤D) (hds:∀ E∈ds,E < D):SrI w s yb fb lim qb mb yB cb ab nb xb n d B u L N0 ds pre V:=by
 obtain⟨N,h1,h2,h3,h4⟩:=h
 exact⟨N,h1.bk hb hD,h2,h3,h4.bk hb hds⟩
theorem SrX.bk (h:SrX c w s yb fb lim qb mb yB cb ab n d N0 ds c' pre W) (hb:Bk D W V) (hD:w.heap.size≤D) (hds:∀ E∈ds,E < D):SrX c w s yb fb lim qb mb yB cb ab n d N0 ds c' pre V:=by
 obtain⟨h0,N,h1,h2,h4⟩:=h
 exact⟨h0,N,h1.bk hb hD,h2,h4.bk hb hds⟩
end
theorem numL_some {α:Type} {L:List α} {pre rest:List (Nat × α)} {y:Nat × α} (h:numL L=pre ++ y :: rest):L[pre.length]?=some y.2:=by
 have h1:(numL L)[pre.length]?=some y:=by rw[h,List.getElem?_append_right (Nat.le_refl _),Nat.sub_self];rfl
 rw[numL_at,Option.map_eq_some_iff] at h1
 obtain⟨m,hm,rfl⟩:=h1
 exact hm
theorem bfs_step {s:SesD} {lim f n:Nat} {N N':List Nd} {d:Nd} (h:N[n]?=some d) (h2:addMv s lim d.st n d.lvl N (movesP s d.st)=(N',true)):bfs s lim (f + 1) n N=bfs s lim f (n + 1) N':=by
 rw[bfs,h]
 simp only[h2]
theorem bfs_stop {s:SesD} {lim f n:Nat} {N N':List Nd} {d:Nd} (h:N[n]?=some d) (h2:addMv s lim d.st n d.lvl N (movesP s d.st)=(N',false)):bfs s lim (f + 1) n N=(N',false):=by
 rw[bfs,h]
 simp only[h2]
theorem bfs_end {s:SesD} {lim f n:Nat} {N:List Nd} (h:N[n]?=none):bfs s lim (f + 1) n N=(N,true):=by
 rw[bfs,h]
theorem Ms.unmark {w W:World} {ds:List Nat} (h:Ms w ds W):Bk w.heap.size W (unmark ds W):=by
 have hf:=unmark_frm ds W
 refine⟨hf.os,hf.tape,hf.output,hf.size,fun k o hk ho=>hf.at hk fun hm=>?_⟩
 obtain⟨h1,h2⟩:=h.dl k hm
 rw[hk] at h2
 cases h2
 rcases ho with ho | ho
 ·omega
 ·cases ho
set_option maxHeartbeats 2000000 in
set_option maxRecDepth 100000 in
theorem pMvs_own (s:SesD) (yb fb sb:Nat) (x:PS) (w:World) (h:SyR w s yb fb) (hx:StR w s yb sb x):Calls Tryz.prog 21 #[.pointer (some ⟨yb,0,none⟩),.pointer (some ⟨sb,0,none⟩)] w
  (RetV fun v w'=>∃ B u,v=.func (.func 146) #[] #[.pointer (some ⟨B,0,none⟩)]∧w'.heap[B]?=some (.cells #[u] 31 (0,0))∧w'.ownsRow w.heap.size 44 4 u (movesP s x).length (mvC (movesP s x))∧Frm [] w w'):=by
 have C1:=Lib.hid (pCheck_any s yb fb sb x w h hx)
 have C2:=Lib.hid (pmoves_own s yb fb sb x w h hx)
 clear h hx
 go_enter Tryz.func21,Tryz.ntmps21
 go_wp2_with (first
  | (go_at_call 61;go_must (refine C1.out.mono ?_;rintro e w' ⟨rfl,rfl⟩))
  | (go_at_call 63;go_must (refine C2.out.mono ?_;rintro e w1 ⟨v,rfl,ha,hf⟩;obtain⟨ao,cq,rfl⟩:=own_shape ha;have HA:=Lib.hid ha;have HF:=Lib.hid hf;have C3:=Lib.hid (alMove_any _ (movesP s x) w1 (mv_arr ha));clear ha hf))
  | (go_at_call 75;go_must (refine C3.out.mono ?_;rintro e w2 ⟨v,rfl,rfl,ha,hf⟩;have HB:=Lib.hid ha;have HG:=Lib.hid hf;clear ha hf)))
 go_ret
 exact⟨_,rfl,_,_,rfl,HB.out.b,HG.out.owns HA.out (by simp),HF.out.trans HG.out⟩
end Go.Proofs.YtohfkhjlnlahdaaGreat
namespace Go.Proofs.YtohfkhjlnlahdaaGreat
open Go.RowKit Go.BigFrame
theorem cat_part {α:Type} {f:Nat→List α} {k j:Nat} {y:α} (hj:(f k)[j]?=some y):∀ {n:Nat},k < n→∃ rest,cat f n=(cat f k ++ (f k).take j) ++ y :: rest
 | 0,h=>by omega
 | n + 1,h=>by
   rcases Nat.lt_or_ge k n with h1 | h1
   ·obtain⟨rest,e⟩:=cat_part hj h1
    exact⟨rest ++ f n,by rw[cat,e];simp⟩
   ·obtain rfl:k=n:=by omega
    obtain⟨-,h2⟩:=take_snoc' hj
    refine⟨(f k).drop (j + 1),?_⟩
    rw[cat]
    conv=>lhs;rw[h2]
    simp
def spN (s:SesD) (M:List Nd) (n:Nat):List (Nat × Sp):=(ofP s ((M.map Nd.st).getD n ⟨[],[],[]⟩)).map fun u=>(n,u)
theorem allSp_cat (s:SesD) (M:List Nd):allSp s M=cat (spN s M) M.length:=rfl
theorem spN_at {s:SesD} {N:List (Nd × Nat)} {k:Nat} {d:Nd × Nat} (h:N[k]?=some d):spN s (N.map Prod.fst) k=(ofP s d.1.st).map fun u=>(k,u):=by
 unfold spN
 rw[List.getD_eq_getElem?_getD,List.map_map,List.getElem?_map,h]
 rfl
structure AlI (B1 B2 pb:Nat) (ra:Option Addr) (cp:Nat) (s:SesD) (yb fb:Nat) (wh:Bool) (N:List (Nd × Nat)) (W:World):Prop where
 b1:W.heap[B1]?=some (.cells #[.pointer (some ⟨pb,0,none⟩)] 122 (0,0))
 b2:W.heap[B2]?=some (.cells #[.string s.name,.slice ra s.roles.length cp,.int .i64 s.cls,.int .i64 s.cap] 25 (0,0))
 ses:SesV W (.agg #[.string s.name,.slice ra s.roles.length cp,.int .i64 s.cls,.int .i64 s.cap]) s
 sp:SpO W s yb wh pb N
 sy:SyR W s yb fb
theorem AlI.frm {B1 B2 pb yb fb cp:Nat} {ra:Option Addr} {s:SesD} {wh:Bool} {N:List (Nd × Nat)} {W W':World} (h:AlI B1 B2 pb ra cp s yb fb wh N W) (hf:Frm [] W W'):AlI B1 B2 pb ra cp s yb fb wh N W':=
 ⟨hf.at h.b1 (by simp),hf.at h.b2 (by simp),h.ses.frm hf,h.sp.frm hf,h.sy.frm hf⟩
theorem Kc.row {T:TypeId→Prop} {B base e size n:Nat} {W W':World} {v:Value} {xs:List Value} (h:Kc T B W W') (ho:W.ownsRow base e size v n xs) (he:¬ T e):W'.ownsRow base e size v n xs:=by
 obtain⟨h1,h2⟩:=ho
 refine⟨h1,?_⟩
 rcases h2 with h2 | ⟨g,cap,cur,hv,hg,hh,r⟩
 ·exact .inl h2
 ·exact .inr ⟨g,cap,cur,hv,hg,h.cells _ _ _ _ hh he,r⟩
attribute [local go_sem] Oper.semAt_some
set_option maxHeartbeats 8000000 in
set_option maxRecDepth 100000 in
theorem al_iter (T:TypeId→Prop) (hT1:¬ T 33) (hT2:¬ T 179) (hT3:¬ T 122) (B1 B2 pb yb fb cp:Nat) (ra:Option Addr) (s:SesD) (wh:Bool) (N:List (Nd × Nat)) (hN:N.length≤200000) :
  IterT T Fence.wide 2 Tryz.prog 94 #[.pointer (some ⟨B1,0,none⟩),.pointer (some ⟨B2,0,none⟩)] (fun e:Nat × Sp=>#[.int .i64 e.1,suV e.2]) (AlI B1 B2 pb ra cp s yb fb wh N) (allSp s (N.map Prod.fst)):=by
 intro B l J Jx sJ sJx hJR hY W hB h0
 have HJ:=Lib.hid sJ;have HJx:=Lib.hid sJx;have HJR:=Lib.hid hJR;have HY:=Lib.hid hY;have H0:=Lib.hid h0;have HBW:=Lib.hid hB
 have HNL:=Lib.hid hN
 clear sJ sJx hJR hY h0 hB hN
 refine callsIn_wide.2 ?_
 refine calls_of_marks Tryz.func94 rfl ?_
 simp only[Tryz.ntmps94,List.size_toArray,List.length_cons,List.length_nil,Nat.reduceAdd,Nat.reduceSub,Array.replicate_succ,Array.replicate_zero,List.push_toArray,List.append_toArray,List.nil_append,List.cons_append]
 go_upto_region 1 with fail
 obtain⟨W1,hW1⟩:∃ W1,W.alloc (.cells #[.func (.yield l) #[] #[]] 179)=W1:=⟨_,rfl⟩
 obtain⟨yq,hyq⟩:∃ b,W.heap.size=b:=⟨_,rfl⟩
 have HF1:Hid (Frm [] W W1):=Lib.hid (by rw[← hW1];exact(Frm.refl _ _).alloc _)
 have HQ1:Hid (W1.heap[yq]?=some (.cells #[.func (.yield l) #[] #[]] 179 (0,0))):=Lib.hid (by rw[← hW1,← hyq];exact heap_alloc_new _ _)
 rw[hW1,hyq]
 clear hW1 hyq
 have HJ1:Hid (J [] W1):=Lib.hid (HJ.out _ _ _ H0.out (HF1.out.bk _))
 have c1:=cell_of (HJR.out _ _ HJ1.out).b1 0
 go_wp2_with (first
  | (go_at_call 91;go_must (refine(xStates_any _ _).mono ?_;rintro e w2 ⟨u,rfl,bx,rfl,hbx,hf⟩;have HBX:=Lib.hid hbx;have HF2:=Lib.hid hf;clear hbx hf c1)))
 have HJ2:Hid (J [] w2):=Lib.hid (HJ.out _ _ _ HJ1.out (HF2.out.bk _))
 have HQ2:=Lib.hid (HF2.out.at HQ1.out (by simp))
 have HB2:Hid (B≤w2.heap.size):=Lib.hid (by have:=HBW.out;have:=HF1.out.size;have:=HF2.out.size;omega)
 refine wp_rangeListT (T:=fun _=>True) rfl (enters_of Tryz.func151 (by kernel_rfl) rfl) (Iter.toT (st_iter bx yb pb s wh N (by have:=HNL.out;omega))) (fun _=>rfl)
  (fun pre V=>J (cat (spN s (N.map Prod.fst)) pre.length) V∧V.heap[yq]?=some (.cells #[.func (.yield l) #[] #[]] 179 (0,0))∧V.heap[bx]?=some (.cells #[.pointer (some ⟨pb,0,none⟩)] 122 (0,0)))
  (fun c _ V=>c=.ret∧∃ p x rest,allSp s (N.map Prod.fst)=p ++ x :: rest∧Jx (p ++ [x]) V)
  (fun _ _ _ h hb=>⟨HJ.out _ _ _ h.1 (hb.weak HB2.out),hb.at h.2.1 rfl,hb.at h.2.2 rfl⟩)
  (fun _ _ _ _ h hb=>⟨h.1,by obtain⟨p,x,rest,h1,h2⟩:=h.2;exact⟨p,x,rest,h1,HJx.out _ _ _ h2 (hb.weak HB2.out)⟩⟩)
  (fun _ V h=>⟨h.2.2,(HJR.out _ _ h.1).sp⟩) ⟨HJ2.out,HQ2.out,HBX.out⟩ ?_ ?_ ?_
 ·intro l1 pre y rest Wr hxs hI hl hlr
  obtain⟨hy,hpl⟩:=numL_pre hxs
  have hLk:=numL_some hxs
  obtain⟨yi,ym⟩:=y
  simp only at hy hLk
  subst hy
  have HI:=Lib.hid hI
  have hlq:l1 < Wr.heap.size:=by obtain⟨r0,hr0⟩:=hlr;exact lt_of_block hr0
  have HLQ:=Lib.hid hlq;have HL1:=Lib.hid hl
  clear hI hl hlr hxs hlq
  gi_wp2
  refine⟨Kc.refl _ _ _,fun Wq hbk _=>?_⟩
  have hsq:w2.heap.size≤Wq.heap.size:=by have:=HLQ.out;have:=HL1.out;have:=hbk.size;omega
  have HI2:Hid (J (cat (spN s (N.map Prod.fst)) pre.length) Wq∧Wq.heap[yq]?=some (.cells #[.func (.yield l) #[] #[]] 179 (0,0))∧Wq.heap[bx]?=some (.cells #[.pointer (some ⟨pb,0,none⟩)] 122 (0,0))):=
   Lib.hid ⟨HJ.out _ _ _ HI.out.1 (hbk.weak HB2.out),hbk.at HI.out.2.1 rfl,hbk.at HI.out.2.2 rfl⟩
  have HSQ:Hid (w2.heap.size≤Wq.heap.size):=Lib.hid hsq
  clear hbk HI hsq
  obtain⟨d,hd,rfl⟩:=some_map hLk
  have HSP:=Lib.hid (spN_at (s:=s) hd)
  have HAI:=Lib.hid (HJR.out _ _ HI2.out.1)
  have HST:Hid (StR Wq s yb d.2 d.1.st):=Lib.hid (HAI.out.sp.st d (List.mem_of_getElem? hd))
  have CF:=Lib.hid (xpSps_any s yb fb d.2 d.1.st (.agg #[.string s.name,.slice ra s.roles.length cp,.int .i64 s.cls,.int .i64 s.cap]) Wq HAI.out.sy HST.out HAI.out.ses)
  have HLT:Hid (pre.length < N.length):=Lib.hid (lt_of_some hd)
  have z0:=cell_of HAI.out.b2 0
  have z1:=cell_of HAI.out.b2 1
  have z2:=cell_of HAI.out.b2 2
  have z3:=cell_of HAI.out.b2 3
  have hof:=of_len HAI.out.sy.ok HST.out.ok (Nat.le_refl s.roles.length)
  obtain⟨L,hL⟩:∃ L,ofP s d.1.st=L:=⟨_,rfl⟩
  have hL64:L.length≤64:=by rw[← hL];exact hof
  rw[hL] at CF HSP
  have HL64:=Lib.hid hL64
  obtain⟨n,hn⟩:∃ n,L.length=n:=⟨_,rfl⟩
  have HN:=Lib.hid hn
  rw[hn] at CF
  obtain⟨k,hk⟩:∃ k,pre.length=k:=⟨_,rfl⟩
  have HK:=Lib.hid hk
  rw[hk] at HI2 HSP HLT ⊢
  clear hd hof hL hL64 hn hLk hpl hk
  gi_upto_region 5 with (refine⟨trivial,?_⟩;gi_at_call 73;go_must (refine(CallsIn.inRound l1 (callsIn_wide.2 CF.out)).mono ?_;rintro e w3 ⟨u,rfl,ho,hf⟩;obtain⟨au,cu,rfl⟩:=own_shape ho;have HO:=Lib.hid ho;have HF3:=Lib.hid hf;clear ho hf CF z0 z1 z2 z3))
  have HJ3:Hid (J (cat (spN s (N.map Prod.fst)) k ++ (spN s (N.map Prod.fst) k).take 0) w3):=Lib.hid (by rw[List.take_zero,List.append_nil];exact HJ.out _ _ _ HI2.out.1 (HF3.out.bk _))
  have HKC3:Hid (Kc (fun _=>True) w2.heap.size Wq w3):=Lib.hid (Kc.frm HF3.out)
  gi_loopw [16] (fun s16 wr=>∃ j:Nat,s16=.int .i64 j∧j≤n∧J (cat (spN s (N.map Prod.fst)) k ++ (spN s (N.map Prod.fst) k).take j) wr∧Kc (fun _=>True) w2.heap.size Wq wr∧wr.ownsRow Wq.heap.size 33 3 (.slice au n cu) n (suC L)∧wr.heap[yq]?=some (.cells #[.func (.yield l) #[] #[]] 179 (0,0))∧wr.heap[bx]?=some (.cells #[.pointer (some ⟨pb,0,none⟩)] 122 (0,0))) (fun s16 _=>n - (intOf s16).toNat)
  case atStart=>exact⟨0,rfl,Nat.zero_le _,HJ3.out,HKC3.out,HO.out,HF3.out.at HI2.out.2.1 (by simp),HF3.out.at HI2.out.2.2 (by simp)⟩
  case round =>
   obtain⟨j,rfl,hj,hjj,hkc,how,hq,hbx⟩:=hrel
   have HJ4:=Lib.hid hjj;have HKC4:=Lib.hid hkc;have HOW:=Lib.hid how;have HQ4:=Lib.hid hq;have HBX4:=Lib.hid hbx
   clear hjj hkc how hq hbx
   by_cases hlt:j < n
   ·have hlt':(j:Int) < (n:Int):=by omega
    obtain⟨x,hx⟩:∃ x,L[j]?=some x:=⟨_,List.getElem?_eq_getElem (by rw[HN.out];exact hlt)⟩
    have hown:wr.ownsRow Wq.heap.size 33 3 (.slice au L.length cu) L.length (suC L):=by rw[HN.out];exact HOW.out
    obtain⟨g,o,cu',eg,hsu⟩:=(su_arr hown).at hx
    cases eg
    obtain⟨x0,x1,x2⟩:=hsu
    have hspj:(spN s (N.map Prod.fst) k)[j]?=some (k,x):=by rw[HSP.out,List.getElem?_map,hx];rfl
    obtain⟨rest9,hsplit⟩:=cat_part hspj (n:=N.length) HLT.out
    have hsplit':allSp s (N.map Prod.fst)=(cat (spN s (N.map Prod.fst)) k ++ (spN s (N.map Prod.fst) k).take j) ++ (k,x) :: rest9:=by
     rw[allSp_cat,List.length_map];exact hsplit
    have HSPL:=Lib.hid hsplit'
    have HSN:=Lib.hid (take_snoc' hspj).1
    have HFA:Hid (Frm [] wr (wr.alloc (.cells #[.int .i64 x.role,.int .i64 x.peer,.string x.msg] 33))):=Lib.hid ((Frm.refl _ _).alloc _)
    have hB4:B≤(wr.alloc (.cells #[.int .i64 x.role,.int .i64 x.peer,.string x.msg] 33)).heap.size:=by
     have:=HFA.out.size;have:=HKC4.out.size;have:=HSQ.out;have:=HB2.out;omega
    obtain⟨fn,tmps,assign,body,hy,hR⟩:=yieldAt_fwd (l0:=l1) (n:=1 - 1) (HY.out _ _ _ _ hB4 hsplit' (HJ.out _ _ _ HJ4.out (HFA.out.bk _)))
    have HRR:=Lib.hid hR
    have yc:=cell_of HQ4.out 0
    have yc2:=HFA.out.keep yc
    simp only[suV] at hy
    have hn64:n≤64:=by rw[← HN.out];exact HL64.out
    clear hx hown hspj hsplit hsplit' hR hB4
    gi_wp2
    refine HRR.out.mono ?_
    rintro e W3 (⟨rfl,hkc3,hJ3⟩ | ⟨rfl,hkc3,hJ3⟩)
    ·have HKW:Hid (Kc (fun _=>True) w2.heap.size Wq W3):=Lib.hid ((HKC4.out.trans (Kc.frm HFA.out)).trans ((hkc3.sub fun _ _=>trivial).low HB2.out))
     have HR3:=Lib.hid (hkc3.row (HFA.out.owns HOW.out (by simp)) hT1)
     have HQ3:=Lib.hid (hkc3.cells _ _ _ _ (HFA.out.at HQ4.out (by simp)) hT2)
     have HX3:=Lib.hid (hkc3.cells _ _ _ _ (HFA.out.at HBX4.out (by simp)) hT3)
     have HJ5:=Lib.hid hJ3
     clear hJ3 hkc3
     gi_wp2
     go_roundw
     case rel=>exact⟨j + 1,by go_num,hlt,by rw[HSN.out,← List.append_assoc];exact HJ5.out,HKW.out,HR3.out,HQ3.out,HX3.out⟩
     case measure=>simp[intOf];omega
    ·have HKW:Hid (Kc (fun _=>True) w2.heap.size Wq W3):=Lib.hid ((HKC4.out.trans (Kc.frm HFA.out)).trans (hkc3.low HB2.out))
     have HJ5:=Lib.hid hJ3
     clear hJ3 hkc3
     gi_wp2
     exact⟨HKW.out,rfl,_,_,_,HSPL.out,HJ5.out⟩
   ·obtain rfl:n=j:=by omega
    have hge:¬ (n:Int) < (n:Int):=by omega
    have HJ5:Hid (J (cat (spN s (N.map Prod.fst)) (pre ++ [(k,d.2)]).length) wr):=Lib.hid (by
     have h1:=HJ4.out
     rw[List.take_of_length_le (by rw[HSP.out,List.length_map,HN.out];exact Nat.le_refl _)] at h1
     rw[List.length_append,HK.out]
     exact h1)
    gi_wp2
    exact⟨HKC4.out,HJ5.out,HQ4.out,HBX4.out⟩
 ·intro D V hD hI hK
  have HJ5:Hid (J (allSp s (N.map Prod.fst)) V):=Lib.hid (by
   have h1:=hI.1
   rw[numL_length,List.length_map] at h1
   rw[allSp_cat,List.length_map]
   exact h1)
  have HKD:=Lib.hid hK
  have HDB:Hid (B≤D):=Lib.hid (by have:=HB2.out;omega)
  clear hI hK hD
  go_wp2
  exact leaves_mark HKD.out ⟨.tuple #[],results_none rfl _ _ _,⟨_,rfl⟩,.inl (HJ.out _ _ _ HJ5.out (Bk.putObj V _ HKD.out rfl HDB.out))⟩
 ·intro D c pre x rest V hxs hD hX hK
  obtain⟨rfl,p9,x9,rest9,h9,hj9⟩:=hX
  have HKD:=Lib.hid hK;have HJ9:=Lib.hid hj9;have HS9:=Lib.hid h9
  have HDB:Hid (B≤D):=Lib.hid (by have:=HB2.out;omega)
  clear hK hD hj9 h9 hxs
  go_wp2
  exact leaves_mark HKD.out ⟨.tuple #[],results_none rfl _ _ _,⟨_,rfl⟩,.inr ⟨p9,x9,rest9,HS9.out,HJx.out _ _ _ HJ9.out (Bk.putObj V _ HKD.out rfl HDB.out)⟩⟩
end Go.Proofs.YtohfkhjlnlahdaaGreat
namespace Go.Proofs.YtohfkhjlnlahdaaGreat
open Go.RowKit Go.BigFrame Go.Maps
def SchTo (w:World) (s:SesD) (yb lim:Nat) (v:Value) (w':World):Prop:=
 ∃ pb N,v=.tuple #[.pointer (some ⟨pb,0,none⟩),.int .i64 0]∧SpO w' s yb (searchP s lim).2 pb N∧N.map Prod.fst=(searchP s lim).1∧Frm [] w w'
def boxOf (v:Value) (w:World):Nat:=match v with | .pointer (some a)=>(intOf ((w.cell? a).getD undef)).toNat | _=>0
theorem sch_end {w W:World} {s:SesD} {yb fb lim qb mb yB cb ab pb:Nat} {whole:Bool} {N:List (Nd × Nat)} {ds:List Nat} {fn:Func} {tmps:Array Value} (h:SeS w s yb fb lim whole qb mb yB cb ab N W)
  (hp:W.heap[pb]?=some (.cells #[.pointer (some ⟨qb,0,none⟩)] 219 (0,0))) (hm:Ms w ds W) (hN:searchP s lim=(N.map Prod.fst,whole)) (hr:∀ V:World,(results fn tmps).run Tryz.prog V=.ok (.tuple #[.pointer (some ⟨pb,0,none⟩),.int .i64 0]) V) :
  LeavesInM Fence.wide 3 Tryz.prog fn tmps (RetV (SchTo w s yb lim)) (marks ds) .returning W:=by
 have hb:=hm.unmark
 have h2:=h.sp.bk (by have:=h.sy.ok.n2;omega) hb (Nat.le_refl _)
 refine leaves_many ds W hm.nd (fun D hD=>(hm.dl D hD).2) ⟨_,hr _,_,rfl,pb,N,rfl,?_,by rw[hN],h2.fr⟩
 rw[hN]
 exact h2.done (hb.at hp rfl)
theorem boxOf_at {W:World} {b:Nat} {i:Int} (h:W.heap[b]?=some (.cells #[.int .i64 i] 3 (0,0))):boxOf (.pointer (some ⟨b,0,none⟩)) W=i.toNat:=by
 have h2:W.cell? ⟨b,0,none⟩=some (.int .i64 i):=cell_of h 0
 unfold boxOf
 simp only[h2,Option.getD_some]
 rfl
theorem Ms.cons {w W:World} {ds:List Nat} {D:Nat} (h:Ms w ds W) (hds:∀ E∈ds,E < D) (hD:w.heap.size≤D) (hk:W.heap[D]?=some (.deferred (some []))):Ms w (D :: ds) W:=by
 refine⟨List.nodup_cons.2 ⟨fun hx=>by have:=hds D hx;omega,h.nd⟩,fun E hE=>?_⟩
 rcases List.mem_cons.1 hE with rfl | hE
 ·exact⟨hD,hk⟩
 ·exact h.dl E hE
attribute [local go_sem] Oper.semAt_some
set_option maxHeartbeats 8000000 in
set_option maxRecDepth 100000 in
theorem xSearch_any (s:SesD) (yb fb lim:Nat) (w:World) (h:SyR w s yb fb) (h1:1≤lim) (h2:lim≤200000) :
  Calls Tryz.prog 57 #[.pointer (some ⟨yb,0,none⟩),.int .i64 lim] w (RetV (SchTo w s yb lim)):=by
 obtain⟨w0,hw0⟩:∃ w0,w.alloc (.cells #[.pointer (some ⟨yb,0,none⟩)] 27)=w0:=⟨_,rfl⟩
 have hf0:Frm [] w w0:=by rw[← hw0];exact(Frm.refl _ _).alloc _
 have hb0:w0.heap[w.heap.size]?=some (.cells #[.pointer (some ⟨yb,0,none⟩)] 27 (0,0)):=by rw[← hw0];exact heap_alloc_new _ _
 have CF:=Lib.hid (pFirst_any s yb fb w0 (h.frm hf0))
 have y0:=cell_of hb0 0
 have hl1:¬ ((lim:Int) < 1):=by omega
 have hl2:¬ (200000 < (lim:Int)):=by omega
 have HSY:=Lib.hid h;have HF0:=Lib.hid hf0;have HB0:=Lib.hid hb0;have HE:=Lib.hid hw0;have HL1:=Lib.hid h1;have HL2:=Lib.hid h2
 clear h hf0 hb0 hw0 h1 h2
 have hmm:=@run_makeMap Tryz.prog
 refine calls_of_marks Tryz.func57 rfl ?_
 simp only[Tryz.ntmps57,List.size_toArray,List.length_cons,List.length_nil,Nat.reduceAdd,Nat.reduceSub,Array.replicate_succ,Array.replicate_zero,List.push_toArray,List.append_toArray,List.nil_append,List.cons_append]
 go_upto_region 1 with fail
 rw[HE.out]
 refine wp_scope_straight ?_
 obtain⟨W4,hW4⟩:∃ W4,(((w0.alloc (.map #[] 0)).alloc (.cells #[.int .i64 lim,.bool true,.slice none 0 0,.map (some w0.heap.size)] 214)).alloc (.cells #[.pointer (some ⟨w0.heap.size + 1,0,none⟩)] 208)).alloc (.cells #[.func (.func 117) #[] #[.pointer (some ⟨w0.heap.size + 1 + 1,0,none⟩)]] 217)=W4:=⟨_,rfl⟩
 have hf4:Frm [] w0 W4:=by rw[← hW4];exact((((Frm.refl _ _).alloc _).alloc _).alloc _).alloc _
 have hq4:W4.heap[w0.heap.size + 1]?=some (.cells #[.int .i64 lim,.bool true,.slice none 0 0,.map (some w0.heap.size)] 214 (0,0)):=by
  rw[← hW4]
  exact alloc_at (alloc_at (alloc_top (by simp)))
 have hc4:W4.heap[w0.heap.size + 1 + 1]?=some (.cells #[.pointer (some ⟨w0.heap.size + 1,0,none⟩)] 208 (0,0)):=by
  rw[← hW4]
  exact alloc_at (alloc_top (by simp))
 have ha4:W4.heap[w0.heap.size + 1 + 1 + 1]?=some (.cells #[.func (.func 117) #[] #[.pointer (some ⟨w0.heap.size + 1 + 1,0,none⟩)]] 217 (0,0)):=by
  rw[← hW4]
  exact alloc_top (by simp)
 have hm4:MapAt Tryz.prog 9 W4 (some w0.heap.size) 0 (keyF s []) 0:=by
  rw[keyF_nil]
  refine(MapAt.made Tryz.prog 9 w0).frm (F:=[]) ?_ (by simp)
  rw[← hW4]
  exact(((Frm.refl _ _).alloc _).alloc _).alloc _
 have hsz:w.heap.size≤w0.heap.size:=HF0.out.size
 have hSE:SeS w s yb fb lim true (w0.heap.size + 1) w0.heap.size w.heap.size (w0.heap.size + 1 + 1) (w0.heap.size + 1 + 1 + 1) [] W4:=
  ⟨⟨HF0.out.trans hf4,by omega,by omega,⟨none,0,hq4,World.ownsRow_nil _ _ _ _,fun g cur hg=>by cases hg⟩,hm4,fun d hd=>by simp at hd⟩,hf4.at HB0.out (by simp),hc4,ha4,HSY.out.frm (HF0.out.trans hf4)⟩
 have a0:=cell_of ha4 0
 have CA:Hid (Calls Tryz.prog 117 #[ndV (nd0 s,fb),.pointer (some ⟨w0.heap.size + 1 + 1,0,none⟩)] W4 (Ret (.bool true) (AdTo w s yb lim true (w0.heap.size + 1) w0.heap.size [(nd0 s,fb)] W4))):=
  Lib.hid (xAdd_new (d:=nd0 s) hSE.sp hSE.sy hSE.sy.first hc4 rfl (by have:=keyS_size HSY.out.ok (first_ok HSY.out.ok);unfold maxLen;exact Nat.le_trans this (by omega)) (by simp;have:=HL1.out;omega) (by have:=HSY.out.ok.n2;omega) (by simp))
 have HSE:=Lib.hid hSE;have HE4:=Lib.hid hW4
 clear hf4 hq4 hc4 hm4 ha4 hSE hW4
 go_upto_region 8 with (first
  | (go_at_call 18;go_must (refine CF.out.mono ?_;rintro e w' ⟨rfl,rfl⟩)))
 rw[HE4.out]
 go_wp2_with (first
  | (go_at_call 117;go_must (refine CA.out.mono ?_;rintro e w5 ⟨rfl,ha⟩;have HAT:=Lib.hid ha;clear ha)))
 clear CF CA hmm hsz a0 y0
 refine wp_label ?_
 go_wp2
 have HM0:Hid (SeS w s yb fb lim true (w0.heap.size + 1) w0.heap.size w.heap.size (w0.heap.size + 1 + 1) (w0.heap.size + 1 + 1 + 1) [(nd0 s,fb)] (w5.alloc (.cells #[.int .i64 0] 3))):=Lib.hid ((HSE.out.to HAT.out).frm ((Frm.refl _ _).alloc _))
 have HN0:Hid ((w5.alloc (.cells #[.int .i64 0] 3)).heap[w5.heap.size]?=some (.cells #[.int .i64 ((0:Nat):Int)] 3 (0,0))):=Lib.hid (heap_alloc_new _ _)
 obtain⟨qb,hqb⟩:∃ q,w0.heap.size + 1=q:=⟨_,rfl⟩
 obtain⟨mb,hmb⟩:∃ q,w0.heap.size=q:=⟨_,rfl⟩
 rw[hqb] at HM0 ⊢
 rw[hmb] at HM0 ⊢
 clear HSE HAT HE4 HE hqb hmb HB0
 refine wp_loop (fun a' w'=>∃ ds,∃ u9 u10 u11 u12 u13 u14 u37 u38 u39 u40 u41 u42 u43 u44 u45 u46 u47 u48 u49 u50 u51 u52 u53 u54 u55 u56 u57 u58 u59 u60 u61 u62 u63 u64 u65 u66 u67 u68 u69 u70 u71 u72 u73 u74 u75 u76 u77 u78 u79 u80 u81:Value,(fun ds u9 w'=>∃ (n nb:Nat) (N:List (Nd × Nat)) (f:Nat),(∀ e∈N,e.1.lvl≤N.length)∧u9=.pointer (some ⟨nb,0,none⟩)∧SeS w s yb fb lim true qb mb w.heap.size (qb + 1) (qb + 1 + 1) N w'∧w'.heap[nb]?=some (.cells #[.int .i64 (n:Nat)] 3 (0,0))∧bfs s lim f n (N.map Prod.fst)=searchP s lim∧lim + 1≤n + f∧n≤N.length∧N.length≤lim∧Ms w ds w') ds u9 w'∧a'={ tmps:=#[.pointer (some ⟨yb,0,none⟩),.int .i64 lim,.pointer (some ⟨w.heap.size,0,none⟩),undef,.pointer none,.int .i64 0,.pointer (some ⟨fb,0,none⟩),.pointer (some ⟨qb + 1,0,none⟩),.pointer (some ⟨qb + 1 + 1,0,none⟩),u9,u10,u11,u12,u13,u14,.pointer (some ⟨yb,0,none⟩),.pointer (some ⟨fb,0,none⟩),.bool false,.pointer (some ⟨fb,0,none⟩),.bool false,.bool (decide ((lim:Int) < 1) || decide (200000 < (lim:Int))),.int .i64 lim,.bool (decide ((lim:Int) < 1)),.bool (decide ((lim:Int) < 1)),.int .i64 lim,.bool (decide (200000 < (lim:Int))),.bool (decide ((lim:Int) < 1) || decide (200000 < (lim:Int))),.int .i64 lim,.agg #[.int .i64 lim,.bool true],.map (some mb),.agg #[.int .i64 lim,.bool true,.slice none 0 0,.map (some mb)],.pointer (some ⟨qb,0,none⟩),.func (.func 117) #[] #[.pointer (some ⟨qb + 1,0,none⟩)],.func (.func 117) #[] #[.pointer (some ⟨qb + 1,0,none⟩)],.pointer (some ⟨fb,0,none⟩),.agg #[.pointer (some ⟨fb,0,none⟩),.int .i64 (-1),.int .i64 0,.int .i64 0,.int .i64 0,.int .i64 0,.int .i64 0],.bool true,u37,u38,u39,u40,u41,u42,u43,u44,u45,u46,u47,u48,u49,u50,u51,u52,u53,u54,u55,u56,u57,u58,u59,u60,u61,u62,u63,u64,u65,u66,u67,u68,u69,u70,u71,u72,u73,u74,u75,u76,u77,u78,u79,u80,u81,undef,undef,undef],defers:=marks ds }) (fun a' w'=>lim + 1 - boxOf (a'.tmps.getD 9 undef) w') ?_ ?_
 ·refine⟨[],?_⟩
  (repeat apply Exists.intro)
  exact⟨⟨0,_,_,lim + 1,by simp[nd0],rfl,HM0.out,HN0.out,rfl,by omega,by simp,by simpa using HL1.out,Ms.nil _ _⟩,rfl⟩
 intro a' wr hinv
 obtain⟨ds,hinv⟩:=hinv
 obtain⟨u9,hinv⟩:=hinv
 obtain⟨u10,hinv⟩:=hinv
 obtain⟨u11,hinv⟩:=hinv
 obtain⟨u12,hinv⟩:=hinv
 obtain⟨u13,hinv⟩:=hinv
 obtain⟨u14,hinv⟩:=hinv
 obtain⟨u37,hinv⟩:=hinv
 obtain⟨u38,hinv⟩:=hinv
 obtain⟨u39,hinv⟩:=hinv
 obtain⟨u40,hinv⟩:=hinv
 obtain⟨u41,hinv⟩:=hinv
 obtain⟨u42,hinv⟩:=hinv
 obtain⟨u43,hinv⟩:=hinv
 obtain⟨u44,hinv⟩:=hinv
 obtain⟨u45,hinv⟩:=hinv
 obtain⟨u46,hinv⟩:=hinv
 obtain⟨u47,hinv⟩:=hinv
 obtain⟨u48,hinv⟩:=hinv
 obtain⟨u49,hinv⟩:=hinv
 obtain⟨u50,hinv⟩:=hinv
 obtain⟨u51,hinv⟩:=hinv
 obtain⟨u52,hinv⟩:=hinv
 obtain⟨u53,hinv⟩:=hinv
 obtain⟨u54,hinv⟩:=hinv
 obtain⟨u55,hinv⟩:=hinv
 obtain⟨u56,hinv⟩:=hinv
 obtain⟨u57,hinv⟩:=hinv
 obtain⟨u58,hinv⟩:=hinv
 obtain⟨u59,hinv⟩:=hinv
 obtain⟨u60,hinv⟩:=hinv
 obtain⟨u61,hinv⟩:=hinv
 obtain⟨u62,hinv⟩:=hinv
 obtain⟨u63,hinv⟩:=hinv
 obtain⟨u64,hinv⟩:=hinv
 obtain⟨u65,hinv⟩:=hinv
 obtain⟨u66,hinv⟩:=hinv
 obtain⟨u67,hinv⟩:=hinv
 obtain⟨u68,hinv⟩:=hinv
 obtain⟨u69,hinv⟩:=hinv
 obtain⟨u70,hinv⟩:=hinv
 obtain⟨u71,hinv⟩:=hinv
 obtain⟨u72,hinv⟩:=hinv
 obtain⟨u73,hinv⟩:=hinv
 obtain⟨u74,hinv⟩:=hinv
 obtain⟨u75,hinv⟩:=hinv
 obtain⟨u76,hinv⟩:=hinv
 obtain⟨u77,hinv⟩:=hinv
 obtain⟨u78,hinv⟩:=hinv
 obtain⟨u79,hinv⟩:=hinv
 obtain⟨u80,hinv⟩:=hinv
 obtain⟨u81,hinv⟩:=hinv
 obtain⟨hrel,ha⟩:=hinv
 subst ha
 try dsimp only
 clear HM0 HN0
 obtain⟨n,nb,N,f,hlv,rfl,hse,hnb,hbf,hf,hn,hN,hms⟩:=hrel
 obtain⟨wq,hwq⟩:∃ wq,wq=wr:=⟨_,rfl⟩
 subst hwq
 obtain⟨ao,cap,b1,b2,b3⟩:=hse.sp.bx
 have n0:wq.cell? ⟨nb,0,none⟩=some (.int .i64 (n:Nat)):=cell_of hnb 0
 have c0:wq.cell? ⟨qb + 1,0,none⟩=some (.pointer (some ⟨qb,0,none⟩)):=cell_of hse.c 0
 have q2:wq.cell? ⟨qb,2,none⟩=some (.slice ao N.length cap):=cell_of b1 2
 have hna:=nd_arr b2
 have HSE:=Lib.hid hse;have HNB:=Lib.hid hnb;have HMS:=Lib.hid hms;have HB1:=Lib.hid b1;have HBF:=Lib.hid hbf;have HB2:=Lib.hid b2;have HLV:=Lib.hid hlv
 have ln:=lt_of_block hnb
 have lc:=lt_of_block hse.c
 have lq:=lt_of_block b1
 clear hse hnb hms b1 b2 b3 hbf hlv
 by_cases hlt:n < N.length
 ·have hlt':(n:Int) < (N.length:Int):=by omega
  obtain⟨d,hd⟩:∃ d,N[n]?=some d:=⟨_,List.getElem?_eq_getElem hlt⟩
  obtain⟨g,o,rfl,n7⟩:=hna.get hd
  obtain⟨d0,d1,d2,d3,d4,d5,d6⟩:=n7
  have lg:=cell_lt d0
  have HD:=Lib.hid hd
  clear hna hd
  go_upto_region 12 with (go_quiet (fail))
  obtain⟨wa,hwa⟩:∃ wa,wq.drewN nq=wa:=⟨_,rfl⟩
  have hfa:Frm [] wq wa:=by rw[← hwa];exact(Frm.refl _ _).drewN _
  rw[hwa]
  have HCT:Hid (∀ V,Frm [] wa V→(V.cell? ⟨nb,0,none⟩=some (.int .i64 (n:Nat))∧V.cell? ⟨qb + 1,0,none⟩=some (.pointer (some ⟨qb,0,none⟩))∧V.cell? ⟨qb,2,none⟩=some (.slice (some ⟨g,o,none⟩) N.length cap))∧NdAt V g (o + n * 7) d):=Lib.hid fun V hV =>
   ⟨⟨(hfa.trans hV).keep n0,(hfa.trans hV).keep c0,(hfa.trans hV).keep q2⟩,NdAt.frm ⟨d0,d1,d2,d3,d4,d5,d6⟩ (hfa.trans hV)⟩
  have HFA:=Lib.hid hfa
  clear hwa hfa n0 c0 q2 d0 d1 d2 d3 d4 d5 d6 lg ln lc lq
  generalize hQQ:Exit.then _ _=QQ
  refine wp_mono (Q:=fun e a' w'=>match e with | .normal=>QQ .normal a' w' | _=>False) ?_ (fun e a' w' h=>by cases e <;> first | exact h | exact h.elim)
  refine heldL_start [] (wrFrom 8) (by kernel_rfl) ?_
  refine cnt 0 ?_
  iterate 7
   refine hcL ?_ ?_ ?_
   rotate_left
   ·intro w' hC
    obtain⟨⟨x0,x1,x2⟩,⟨y0,y1,y2,y3,y4,y5,y6⟩⟩:=HCT.out w' ((Frm.refl [] wa).drew.trans hC)
    clear hC
    go_simp
    try rfl
   try simp only[nrm,Nat.reduceAdd]
  refine tcn ?_
  obtain⟨wd,hwd⟩:∃ wd,wa.drew=wd:=⟨_,rfl⟩
  have HFD:Hid (Frm [] wq wd):=Lib.hid (by rw[← hwd];exact HFA.out.drew)
  rw[hwd]
  clear hwd
  refine honL 7 ?_
  refine heldL_step (i:=7) rfl rfl (by rfl) (fun K' hK'=>?_)
  go_simp
  (skip)
  refine hK'.out _ _ ((Frm.refl _ _).alloc _) ?_
  clear hK' K'
  try simp only[nrm]
  obtain⟨we,hwe⟩:∃ we,wd.alloc (.cells #[.pointer none,.int .i64 0,.int .i64 0,.int .i64 0,.int .i64 0,.int .i64 0,.int .i64 0] 216)=we:=⟨_,rfl⟩
  have HXB:Hid (we.heap[wd.heap.size]?=some (.cells #[.pointer none,.int .i64 0,.int .i64 0,.int .i64 0,.int .i64 0,.int .i64 0,.int .i64 0] 216 (0,0))):=Lib.hid (by rw[← hwe];exact heap_alloc_new _ _)
  have HFE:Hid (Frm [] wd we):=Lib.hid (by rw[← hwe];exact(Frm.refl _ _).alloc _)
  rw[hwe]
  clear hwe
  obtain⟨xb,hxb⟩:∃ xb,wd.heap.size=xb:=⟨_,rfl⟩
  have HXL:=Lib.hid hxb
  rw[hxb] at HXB ⊢
  clear hxb
  refine honL 8 ?_
  refine heldL_write (i:=8) rfl (by rfl) (by rfl) (fun K' hK'=>?_)
  refine wp_store_row 216 _ _ rfl xb _ _ 216 rfl rfl HXB.out rfl Tryz.infoNode (one_nd _ _ _ _ _ _ _) ?_
  intro wf hbf hff
  have HXF:=Lib.hid hbf
  have HFF:Hid (Frm [] wd wf):=Lib.hid (HFE.out.then hff (by intro k hk;simp at hk;subst hk;rw[← HXL.out];exact .inr (Nat.le_refl _)))
  clear hbf hff
  refine hK'.out _ _ ?_
  clear hK' K'
  try simp only[nrm]
  refine heldL_done (by kernel_rfl) ?_ _
  subst hQQ
  have HWF:Hid (Frm [] wq wf):=Lib.hid (HFD.out.trans HFF.out)
  have HSF:=Lib.hid (HSE.out.frm HWF.out)
  have HDM:=List.mem_of_getElem? HD.out
  have HST:=Lib.hid (HSF.out.sp.st d HDM)
  have CM:=Lib.hid (pMvs_own s yb fb d.2 d.1.st wf HSF.out.sy HST.out)
  have y0:wf.cell? ⟨w.heap.size,0,none⟩=some (.pointer (some ⟨yb,0,none⟩)):=cell_of HSF.out.y 0
  have x0:wf.cell? ⟨xb,0,none⟩=some (.pointer (some ⟨d.2,0,none⟩)):=cell_of HXF.out 0
  go_wp2_with (first
   | (go_at_call 21;go_must (refine CM.out.mono ?_;rintro e wg ⟨v,rfl,B,u,rfl,hb,hu,hf⟩;have HBG:=Lib.hid hb;have HUG:=Lib.hid hu;have HFG:=Lib.hid hf;clear hb hu hf)))
  have hSR:SrI w s yb fb lim qb mb w.heap.size (qb + 1) (qb + 1 + 1) nb xb n d B u (movesP s d.1.st) (N.map Prod.fst) ds [] wg:=by
   have f1:=HWF.out.trans HFG.out
   refine⟨N,⟨HSE.out.frm f1,f1.at HNB.out (by simp),HFG.out.at HXF.out (by simp),fun hr=>?_,HBG.out,own_low HUG.out (by have:=HSF.out.sp.fr.size;omega),HD.out⟩,rfl,⟨hN,HLV.out⟩,HMS.out.frm f1⟩
   obtain⟨a,b,v,m,e1,e2⟩:=hr.back f1 (by simp) (lt_of_block HB1.out)
   rw[HB1.out] at e1
   cases e1
   have h1:=ownBlock_lt HB2.out e2
   have h2:=HFD.out.size
   have h3:=HXL.out
   omega
  have HSR:=Lib.hid hSR
  have HDS:Hid (∀ E∈ds,E < wg.heap.size):=Lib.hid fun E hE=>lt_of_block ((HMS.out.frm (HWF.out.trans HFG.out)).dl E hE).2
  have hW:w.heap.size≤wg.heap.size:=by have:=HSF.out.sp.fr.size;have:=HFG.out.size;omega
  have HWS:=Lib.hid hW
  have hit:=mv_iter B u (movesP s d.1.st) (by have:=moves_len HSY.out.ok HST.out.ok;omega)
  clear hSR hW y0 x0 CM
  refine wp_rangeList rfl (enters_of Tryz.func146 (by kernel_rfl) rfl) hit (fun _=>rfl) (SrI w s yb fb lim qb mb w.heap.size (qb + 1) (qb + 1 + 1) nb xb n d B u (movesP s d.1.st) (N.map Prod.fst) ds) (SrX (.exit 1) w s yb fb lim qb mb w.heap.size (qb + 1) (qb + 1 + 1) n d (N.map Prod.fst) ds)
   (fun _ _ _ h hb=>h.bk hb HWS.out HDS.out) (fun _ _ _ _ h hb=>h.bk hb HWS.out HDS.out) (fun _ _ h=>by obtain⟨N',h,-⟩:=h;exact h.mvs) HSR.out ?_ ?_ ?_
  ·intro l pre y rest W hxs hI hl hlr
   obtain⟨hy,hpl⟩:=numL_pre hxs
   have hLk:=numL_some hxs
   obtain⟨yi,ym⟩:=y
   simp only at hy hLk
   subst hy
   have hmem:=List.mem_of_getElem? hLk
   obtain⟨N',i1,i2,⟨i3,i4⟩,i5⟩:=hI
   have HI:=Lib.hid i1;have HAD:=Lib.hid i2;have HN3:=Lib.hid i3;have HL4:=Lib.hid i4;have HMM:=Lib.hid i5;have HMEM:=Lib.hid hmem
   clear i1 i2 i3 i4 i5 hl hlr hxs hit hpl hLk hmem
   gi_wp2
   refine⟨KB.frm0 ((Frm.refl [] W).alloc _),fun Wq hbk _=>?_⟩
   have hcv:Wq.heap[W.heap.size]?=some (.cells #[.int .i64 ym.kind,.int .i64 ym.role,.int .i64 ym.step,.int .i64 ym.place] 44 (0,0)):=hbk.at (heap_alloc_new W _) rfl
   have hi2:=(HI.out.frm ((Frm.refl [] W).alloc (.cells #[.int .i64 ym.kind,.int .i64 ym.role,.int .i64 ym.step,.int .i64 ym.place] 44))).bk hbk HWS.out
   have hm2:=(HMM.out.frm ((Frm.refl [] W).alloc (.cells #[.int .i64 ym.kind,.int .i64 ym.role,.int .i64 ym.step,.int .i64 ym.place] 44))).bk hbk HDS.out
   have HI2:=Lib.hid hi2;have HM2:=Lib.hid hm2;have HCV:=Lib.hid hcv
   have CD:=Lib.hid (pDo_yes s yb fb d.2 d.1.st ym Wq hi2.se.sy (hi2.se.sp.st d (List.mem_of_getElem? hi2.at')) HMEM.out)
   have y0:Wq.cell? ⟨w.heap.size,0,none⟩=some (.pointer (some ⟨yb,0,none⟩)):=cell_of hi2.se.y 0
   have x0:Wq.cell? ⟨xb,0,none⟩=some (.pointer (some ⟨d.2,0,none⟩)):=cell_of hi2.hx 0
   have m0:Wq.cell? ⟨W.heap.size,0,none⟩=some (.int .i64 ym.kind):=cell_of hcv 0
   have m1:Wq.cell? ⟨W.heap.size,1,none⟩=some (.int .i64 ym.role):=cell_of hcv 1
   have m2:Wq.cell? ⟨W.heap.size,2,none⟩=some (.int .i64 ym.step):=cell_of hcv 2
   have m3:Wq.cell? ⟨W.heap.size,3,none⟩=some (.int .i64 ym.place):=cell_of hcv 3
   clear hbk hi2 hm2 hcv HI HMM
   gi_upto_region 16 with (first
    | (refine⟨trivial,?_⟩;gi_at_call 19;go_must (refine(CallsIn.inRound l (callsIn_wide.2 CD.out)).mono ?_;rintro e wh ⟨v,rfl,sb,rfl,hst,hfh⟩;have HST2:=Lib.hid hst;have HFH:=Lib.hid hfh;clear hst hfh m0 m1 m2 m3 x0 y0)))
   have hi3:=HI2.out.frm HFH.out
   have HI3:=Lib.hid hi3
   have HM3:=Lib.hid (HM2.out.frm HFH.out)
   have hcv3:=HFH.out.at HCV.out (by simp)
   have a0:wh.cell? ⟨qb + 1 + 1,0,none⟩=some (.func (.func 117) #[] #[.pointer (some ⟨qb + 1,0,none⟩)]):=cell_of hi3.se.a 0
   have n0:wh.cell? ⟨nb,0,none⟩=some (.int .i64 (n:Nat)):=cell_of hi3.hn 0
   have m0:wh.cell? ⟨W.heap.size,0,none⟩=some (.int .i64 ym.kind):=cell_of hcv3 0
   have m1:wh.cell? ⟨W.heap.size,1,none⟩=some (.int .i64 ym.role):=cell_of hcv3 1
   have m2:wh.cell? ⟨W.heap.size,2,none⟩=some (.int .i64 ym.step):=cell_of hcv3 2
   have m3:wh.cell? ⟨W.heap.size,3,none⟩=some (.int .i64 ym.place):=cell_of hcv3 3
   have x6:wh.cell? ⟨xb,6,none⟩=some (.int .i64 d.1.lvl):=cell_of hi3.hx 6
   have hlvl:=HL4.out d (List.mem_of_getElem? hi3.at')
   have hN3:=HN3.out
   have hL2:=HL2.out
   have hw:wrap64 ((d.1.lvl:Int) + 1)=((d.1.lvl + 1:Nat):Int):=by unfold wrap64;omega
   have hz:(keyS s (nextP s d.1.st ym)).size≤maxLen:=by
    have:=keyS_size HSY.out.ok HST2.out.ok
    unfold maxLen
    exact Nat.le_trans this (by omega)
   have hsn:((pre ++ [(pre.length,ym)]).map Prod.snd)=pre.map Prod.snd ++ [ym]:=by rw[List.map_append];rfl
   have HSN:=Lib.hid hsn;have HZ:=Lib.hid hz;have HLV2:=Lib.hid hlvl
   clear hi3 hcv3 hlvl hN3 hL2 hz hsn
   by_cases hk:hasK s (N'.map Prod.fst) (keyP s (nextP s d.1.st ym))=true
   ·have CA:=Lib.hid (xAdd_has (d:=⟨nextP s d.1.st ym,n,ym,d.1.lvl + 1⟩) (sb:=sb) HI3.out.se.sp HI3.out.se.sy HST2.out HI3.out.se.c hk HZ.out)
    have HK:=Lib.hid hk
    clear hk
    gi_wp2_with (first
     | (refine⟨trivial,?_⟩;gi_at_call 117;go_must (refine(CallsIn.inRound l (callsIn_wide.2 CA.out)).mono ?_;rintro e wi ⟨rfl,hfi⟩;have HFI:=Lib.hid hfi;clear hfi)))
    refine⟨KB.frm0 (HFH.out.trans HFI.out),N',HI3.out.frm HFI.out,?_,⟨HN3.out,HL4.out⟩,HM3.out.frm HFI.out⟩
    rw[HSN.out,addMv_snoc HAD.out,addMv_one,if_pos HK.out]
   ·have hk':hasK s (N'.map Prod.fst) (keyP s (nextP s d.1.st ym))=false:=by simpa using hk
    have HK:=Lib.hid hk'
    clear hk hk'
    by_cases hl:N'.length=lim
    ·have CA:=Lib.hid (xAdd_full (d:=⟨nextP s d.1.st ym,n,ym,d.1.lvl + 1⟩) (sb:=sb) HI3.out.se.sp HI3.out.se.sy HST2.out HI3.out.se.c HK.out HZ.out (by omega))
     have HL:=Lib.hid hl
     clear hl
     gi_wp2_with (first
      | (refine⟨trivial,?_⟩;gi_at_call 117;go_must (refine(CallsIn.inRound l (callsIn_wide.2 CA.out)).mono ?_;rintro e wi ⟨rfl,hfi⟩;have HFI:=Lib.hid hfi;have hsi:=(HI3.out.frm hfi).se;have HSI:=Lib.hid hsi;have c0:wi.cell? ⟨qb + 1,0,none⟩=some (.pointer (some ⟨qb,0,none⟩)):=cell_of hsi.c 0;obtain⟨ao9,cap9,b9,-⟩:=hsi.sp.bx;have q1:wi.cell? ⟨qb,1,none⟩=some (.bool true):=cell_of b9 1;have f1:=free_of b9 1;clear hfi hsi b9 a0 n0 m0 m1 m2 m3 x6)))
     obtain⟨p1,p2⟩:=HSI.out.part
     refine⟨(KB.frm0 (HFH.out.trans HFI.out)).trans p2,rfl,N',p1,?_,(HM3.out.frm HFI.out).kb p2⟩
     rw[HSN.out,addMv_snoc HAD.out,addMv_one,HK.out,if_neg (by simp),if_pos (by rw[List.length_map,HL.out])]
    ·have CA:=Lib.hid (xAdd_new (d:=⟨nextP s d.1.st ym,n,ym,d.1.lvl + 1⟩) (sb:=sb) HI3.out.se.sp HI3.out.se.sy HST2.out HI3.out.se.c HK.out HZ.out (by omega) (by have:=HSY.out.ok.n2;omega) (by have:=HN3.out;have:=HL2.out;omega))
     have HL:=Lib.hid hl
     clear hl
     gi_wp2_with (first
      | (refine⟨trivial,?_⟩;gi_at_call 117;go_must (refine(CallsIn.inRound l (callsIn_wide.2 CA.out)).mono ?_;rintro e wi ⟨rfl,hat⟩;have HAT:=Lib.hid hat;clear hat)))
     have hln:(N' ++ [((⟨nextP s d.1.st ym,n,ym,d.1.lvl + 1⟩:Nd),sb)]).length=N'.length + 1:=by simp
     refine⟨(KB.frm0 HFH.out).trans HAT.out.kb,N' ++ [(⟨nextP s d.1.st ym,n,ym,d.1.lvl + 1⟩,sb)],HI3.out.to HAT.out ?_,?_,⟨?_,fun e he=>?_⟩,HM3.out.kb HAT.out.kb⟩
     ·rw[List.getElem?_append_left (lt_of_some HI3.out.at')];exact HI3.out.at'
     ·rw[HSN.out,addMv_snoc HAD.out,addMv_one,HK.out,if_neg (by simp),if_neg (by rw[List.length_map];exact HL.out),List.map_append]
      rfl
     ·have:=HN3.out
      have:=HL.out
      rw[hln];omega
     ·rw[hln]
      rcases List.mem_append.1 he with he | he
      ·have:=HL4.out e he;omega
      ·rw[List.mem_singleton] at he
       subst he
       have:=HLV2.out
       simp only
       omega
  ·intro D W hD hI hK
   obtain⟨N',i1,i2,⟨i3,i4⟩,i5⟩:=hI
   rw[numL_snd] at i2
   have n0:W.cell? ⟨nb,0,none⟩=some (.int .i64 (n:Nat)):=cell_of i1.hn 0
   have HI:=Lib.hid i1;have HAD:=Lib.hid i2;have HN3:=Lib.hid i3;have HL4:=Lib.hid i4;have HMM:=Lib.hid i5;have HKD:=Lib.hid hK;have HDL:=Lib.hid hD
   have hL2:=HL2.out
   obtain⟨f',rfl⟩:∃ f',f=f' + 1:=⟨f - 1,by omega⟩
   have hw:wrap64 ((n:Int) + 1)=((n + 1:Nat):Int):=by unfold wrap64;omega
   have hb9:bfs s lim f' (n + 1) (N'.map Prod.fst)=searchP s lim:=by
    rw[← HBF.out]
    exact(bfs_step (by rw[List.getElem?_map,HD.out];rfl) i2).symm
   have hln:n + 1≤N'.length:=by
    have:=lt_of_some i1.at'
    omega
   have hm9:=i5.cons (D:=D) (fun E hE=>by have:=HDS.out E hE;omega) (by have:=HWS.out;omega) hK
   have HB9:=Lib.hid hb9;have HLN:=Lib.hid hln;have HM9:=Lib.hid hm9
   clear i1 i2 i3 i4 i5 hK hD hit hb9 hln hm9
   go_wp2
   have hnew:(W.alloc (.cells #[.int .i64 ((n:Int) + 1)] 3)).heap[W.heap.size]?=some (.cells #[.int .i64 ((n + 1:Nat):Int)] 3 (0,0)):=heap_alloc_new _ _
   have hfr:Frm [] W (W.alloc (.cells #[.int .i64 ((n:Int) + 1)] 3)):=(Frm.refl _ _).alloc _
   have hmm:lim + 1 - boxOf (.pointer (some ⟨W.heap.size,0,none⟩)) (W.alloc (.cells #[.int .i64 ((n:Int) + 1)] 3)) < lim + 1 - boxOf (.pointer (some ⟨nb,0,none⟩)) wq:=by
    rw[boxOf_at hnew,boxOf_at HNB.out]
    omega
   refine⟨⟨D :: ds,?_⟩,hmm⟩
   (repeat apply Exists.intro)
   exact⟨⟨n + 1,W.heap.size,N',f',HL4.out,rfl,HI.out.se.frm hfr,hnew,HB9.out,by omega,HLN.out,HN3.out,HM9.out.frm hfr⟩,rfl⟩
  ·intro D c pre y rest W hxs hD hI hK
   obtain⟨rfl,N',i1,i2,i3⟩:=hI
   have h9:=addMv_stop (ks:=rest.map Prod.snd) i2
   rw[← List.map_append,List.append_assoc,List.singleton_append,← hxs,numL_snd] at h9
   obtain⟨f',rfl⟩:∃ f',f=f' + 1:=⟨f - 1,by omega⟩
   have h10:searchP s lim=(N'.map Prod.fst,false):=by
    rw[← HBF.out]
    exact bfs_stop (by rw[List.getElem?_map,HD.out];rfl) h9
   have c0:W.cell? ⟨qb + 1,0,none⟩=some (.pointer (some ⟨qb,0,none⟩)):=cell_of i1.c 0
   have HI:=Lib.hid i1;have HSE2:=Lib.hid h10;have HMM:=Lib.hid i3;have HKD:=Lib.hid hK;have HDL:=Lib.hid hD
   have hm9:=i3.cons (D:=D) (fun E hE=>by have:=HDS.out E hE;omega) (by have:=HWS.out;omega) hK
   have HM9:=Lib.hid hm9
   clear i1 i2 i3 hK hD hit hxs h9 h10 hm9
   go_wp2
   rw[Exit.noGoto_ret]
   exact sch_end (ds:=D :: ds) (HI.out.frm ((Frm.refl _ _).alloc _)) (heap_alloc_new _ _) (HM9.out.frm ((Frm.refl _ _).alloc _)) HSE2.out (fun V=>by simp[results,Tryz.results57,go_sem])
 ·obtain rfl:n=N.length:=by omega
  have hge:¬ ((N.length:Int) < (N.length:Int)):=by omega
  obtain⟨f',rfl⟩:∃ f',f=f' + 1:=⟨f - 1,by omega⟩
  have h10:searchP s lim=(N.map Prod.fst,true):=by
   rw[← HBF.out]
   exact bfs_end (by rw[List.getElem?_map,List.getElem?_eq_none (Nat.le_refl _)];rfl)
  have HSE2:=Lib.hid h10
  clear hna h10
  go_wp2_with (go_quiet (fail))
  try rw[Exit.noGoto_ret]
  have hfr:Frm [] wq (wq.drewN nq):=(Frm.refl _ _).drewN _
  exact sch_end (HSE.out.frm (hfr.alloc _)) (heap_alloc_new _ _) (HMS.out.frm (hfr.alloc _)) HSE2.out (fun V=>by simp[results,Tryz.results57,go_sem])
end Go.Proofs.YtohfkhjlnlahdaaGreat
namespace Go.Proofs.YtohfkhjlnlahdaaGreat
open Go.RowKit Go.BigFrame
def AllTo (w:World) (s:SesD) (yb fb lim:Nat) (u:Value) (w':World):Prop:=
 ∃ B1 B2 pb ra cp N,u=.func (.func 94) #[] #[.pointer (some ⟨B1,0,none⟩),.pointer (some ⟨B2,0,none⟩)]∧AlI B1 B2 pb ra cp s yb fb (searchP s lim).2 N w'∧N.map Prod.fst=(searchP s lim).1∧Frm [] w w'
set_option maxHeartbeats 2000000 in
set_option maxRecDepth 100000 in
theorem xpAll_any (s:SesD) (yb fb lim:Nat) (w:World) (h:SyR w s yb fb) (h1:1≤lim) (h2:lim≤200000):Calls Tryz.prog 36 #[.pointer (some ⟨yb,0,none⟩),.int .i64 lim] w (RetV (AllTo w s yb fb lim)):=by
 have CS:=Lib.hid (xSearch_any s yb fb lim w h h1 h2)
 have HY:=Lib.hid h
 clear h h1 h2
 go_enter Tryz.func36,Tryz.ntmps36
 go_upto_region 2 with (first
  | (go_at_call 57;go_must (refine CS.out.mono ?_;rintro e w1 ⟨v,rfl,pb,N,rfl,hsp,hN,hf⟩;have HSP:=Lib.hid hsp;have HN:=Lib.hid hN;have HF1:=Lib.hid hf;clear hsp hN hf CS)))
 obtain⟨W1,hW1⟩:∃ W1,w1.alloc (.cells #[.pointer (some ⟨pb,0,none⟩)] 122)=W1:=⟨_,rfl⟩
 obtain⟨B1,hB1⟩:∃ b,w1.heap.size=b:=⟨_,rfl⟩
 have HFa:Hid (Frm [] w1 W1):=Lib.hid (by rw[← hW1];exact(Frm.refl _ _).alloc _)
 have HB1:Hid (W1.heap[B1]?=some (.cells #[.pointer (some ⟨pb,0,none⟩)] 122 (0,0))):=Lib.hid (by rw[← hW1,← hB1];exact heap_alloc_new _ _)
 rw[hW1,hB1]
 clear hW1 hB1
 have CSe:=Lib.hid (pSession_any s yb fb W1 (HY.out.frm (HF1.out.trans HFa.out)))
 go_wp2_with (first
  | (go_at_call 74;go_must (refine CSe.out.mono ?_;rintro e w2 ⟨v,rfl,ho⟩;obtain⟨⟨g2,c2,rfl⟩,hf2,hses⟩:=ho;have HF2:=Lib.hid hf2;have HSS:=Lib.hid (hses w2 (Agree.refl _ _));clear hf2 hses CSe)))
 go_ret
 have HF24:Hid (Frm [] w2 (w2.alloc (.cells #[.string s.name,.slice (some ⟨g2,0,none⟩) s.roles.length c2,.int .i64 s.cls,.int .i64 s.cap] 25))):=Lib.hid ((Frm.refl _ _).alloc _)
 have HF14:=Lib.hid (HF2.out.trans HF24.out)
 exact⟨_,rfl,B1,_,pb,_,c2,N,rfl,⟨HF14.out.at HB1.out (by simp),heap_alloc_new _ _,HSS.out.frm HF24.out,HSP.out.frm (HFa.out.trans HF14.out),HY.out.frm (HF1.out.trans (HFa.out.trans HF14.out))⟩,HN.out,HF1.out.trans (HFa.out.trans HF14.out)⟩
set_option maxHeartbeats 2000000 in
set_option maxRecDepth 100000 in
theorem xpOf_any (s:SesD) (yb fb sb:Nat) (x:PS) (w:World) (h:SyR w s yb fb) (hx:StR w s yb sb x) :
  Calls Tryz.prog 20 #[.pointer (some ⟨yb,0,none⟩),.pointer (some ⟨sb,0,none⟩)] w (RetV fun v w'=>∃ u,v=.tuple #[u,.int .i64 0]∧w'.ownsRow w.heap.size 33 3 u (ofP s x).length (suC (ofP s x))∧Frm [] w w'):=by
 have CF:=Lib.hid (pFinal_any s yb fb sb x w h hx)
 have HY:=Lib.hid h;have HX:=Lib.hid hx
 clear h hx
 go_enter Tryz.func20,Tryz.ntmps20
 go_wp2_with (first
  | (go_at_call 72;go_must (refine CF.out.mono ?_;rintro e w1 ⟨rfl,hf⟩;have HF1:=Lib.hid hf;have CS:=Lib.hid (pSession_any s yb fb w1 (HY.out.frm hf));clear hf CF))
  | (go_at_call 74;go_must (refine CS.out.mono ?_;rintro e w2 ⟨v,rfl,ho⟩;obtain⟨⟨g2,c2,rfl⟩,hf2,hses⟩:=ho;have HF2:=Lib.hid (HF1.out.trans hf2);have CO:=Lib.hid (xpSps_any s yb fb sb x _ w2 (HY.out.frm (HF1.out.trans hf2)) (HX.out.frm (HF1.out.trans hf2)) (hses w2 (Agree.refl _ _)));clear hf2 hses CS))
  | (go_at_call 73;go_must (refine CO.out.mono ?_;rintro e w3 ⟨v,rfl,ho,hf⟩;obtain⟨ao,cp,hsh⟩:=own_shape ho;subst hsh;have HO:=Lib.hid ho;have HF3:=Lib.hid hf;clear ho hf CO)))
 go_ret2
 exact⟨_,rfl,_,rfl,own_low HO.out HF2.out.size,HF2.out.trans HF3.out⟩
attribute [local go_sem] Oper.semAt_some
end Go.Proofs.YtohfkhjlnlahdaaGreat
namespace Go.Proofs.YtohfkhjlnlahdaaGreat
open Go.RowKit Go.BigFrame
def insB (a:ByteArray):List ByteArray→List ByteArray
 | []=>[a]
 | b :: l=>if byt a≤byt b then a :: b :: l else b :: insB a l
def srtB:List ByteArray→List ByteArray
 | []=>[]
 | a :: l=>insB a (srtB l)
theorem insB_perm (a:ByteArray):∀ l,(insB a l).Perm (a :: l)
 | []=>List.Perm.refl _
 | b :: l=>by
   unfold insB
   split
   ·exact List.Perm.refl _
   ·exact((insB_perm a l).cons b).trans (List.Perm.swap a b l)
theorem srtB_perm:∀ l,(srtB l).Perm l
 | []=>List.Perm.refl _
 | a :: l=>(insB_perm a (srtB l)).trans ((srtB_perm l).cons a)
theorem insB_sorted (a:ByteArray):∀ l:List ByteArray,l.Pairwise (fun a b=>byt a≤byt b)→(insB a l).Pairwise fun a b=>byt a≤byt b
 | [],_=>by unfold insB;simp
 | b :: l,h=>by
   obtain⟨h1,h2⟩:=List.pairwise_cons.1 h
   unfold insB
   split
   ·rename_i hab
    refine List.pairwise_cons.2 ⟨fun x hx=>?_,h⟩
    rcases List.mem_cons.1 hx with rfl | hx
    ·exact hab
    ·exact le_tr hab (h1 x hx)
   ·rename_i hab
    refine List.pairwise_cons.2 ⟨fun x hx=>?_,insB_sorted a l h2⟩
    rcases List.mem_cons.1 ((insB_perm a l).mem_iff.1 hx) with rfl | hx
    ·exact(le_tot _ _).resolve_left hab
    ·exact h1 x hx
theorem srtB_sorted:∀ l,(srtB l).Pairwise fun a b=>byt a≤byt b
 | []=>List.Pairwise.nil
 | a :: l=>insB_sorted a _ (srtB_sorted l)
def keyLi (cls:Int) (L:List ByteArray):List ByteArray:=if cls=2 then srtB L else L
theorem keyL_i (cls:Int) (L:List ByteArray):keyL cls L=keyLi cls L:=by
 unfold keyLi
 split
 ·rename_i h
  rw[h]
  exact(key_unique (srtB_perm L) (srtB_sorted L)).symm
 ·rename_i h
  unfold keyL
  rw[if_neg h]
def keyWayI (s:SesD) (x:PS) (i k:Nat):List UInt8:=if i=k then [] else UInt8.ofNat (x.way i k).length :: byt (keyB (keyLi s.cls (x.way i k)))
theorem keyWay_i (s:SesD) (x:PS) (i:Nat):keyWay s x i=keyWayI s x i:=by
 funext k
 unfold keyWay keyWayI
 rw[keyL_i]
def keyPI (s:SesD) (x:PS):List UInt8:=cat (keyRole x) s.roles.length ++ cat (fun i=>cat (keyWayI s x i) s.roles.length) s.roles.length
theorem keyP_i (s:SesD) (x:PS):keyP s x=keyPI s x:=by
 unfold keyP keyPI
 simp only[keyWay_i]
def hasKI (s:SesD) (N:List Nd) (k:List UInt8):Bool:=N.any fun d=>decide (keyPI s d.st=k)
theorem hasK_i (s:SesD) (N:List Nd) (k:List UInt8):hasK s N k=hasKI s N k:=by
 unfold hasK hasKI
 simp only[keyP_i]
def addMvI (s:SesD) (lim:Nat) (x:PS) (n lvl:Nat):List Nd→List Mv→List Nd × Bool
 | N,[]=>(N,true)
 | N,m :: ms =>
   if hasKI s N (keyPI s (nextP s x m)) then addMvI s lim x n lvl N ms
   else if N.length=lim then (N,false)
   else addMvI s lim x n lvl (N ++ [⟨nextP s x m,n,m,lvl + 1⟩]) ms
theorem addMv_i (s:SesD) (lim:Nat) (x:PS) (n lvl:Nat):∀ (ms:List Mv) (N:List Nd),addMv s lim x n lvl N ms=addMvI s lim x n lvl N ms
 | [],N=>rfl
 | m :: ms,N=>by
   unfold addMv addMvI
   rw[hasK_i,keyP_i,addMv_i s lim x n lvl ms,addMv_i s lim x n lvl ms]
def bfsI (s:SesD) (lim:Nat):Nat→Nat→List Nd→List Nd × Bool
 | 0,_,N=>(N,true)
 | f + 1,n,N=>match N[n]? with
   | none=>(N,true)
   | some d=>match addMvI s lim d.st n d.lvl N (movesP s d.st) with
     | (N',true)=>bfsI s lim f (n + 1) N'
     | (N',false)=>(N',false)
theorem bfs_i (s:SesD) (lim:Nat):∀ (f n:Nat) (N:List Nd),bfs s lim f n N=bfsI s lim f n N
 | 0,_,_=>rfl
 | f + 1,n,N=>by
   unfold bfs bfsI
   cases N[n]? with
   | none=>rfl
   | some d =>
     simp only[addMv_i]
     obtain⟨⟨N',b⟩,hr⟩:∃ r,addMvI s lim d.st n d.lvl N (movesP s d.st)=r:=⟨_,rfl⟩
     rw[hr]
     cases b with
     | true=>exact bfs_i s lim f (n + 1) N'
     | false=>rfl
theorem search_i (s:SesD) (lim:Nat):searchP s lim=bfsI s lim (lim + 1) 0 [nd0 s]:=bfs_i s lim _ _ _
def bN:ByteArray:={ data:=#[110] }
def bR:ByteArray:={ data:=#[114] }
def smE:SesD:=⟨bS,[⟨bA,[⟨bX,true,0⟩],[],[⟨bX,bX,1,bM,bB,emptyS,0,0,0⟩,⟨bX,bX,1,bN,bB,emptyS,0,0,0⟩]⟩,⟨bB,[⟨bR,true,0⟩],[],[⟨bR,bR,2,bM,bA,emptyS,0,0,0⟩]⟩],2,2⟩
def km1:Mv:=⟨1,0,1,0⟩
def spE:Sp:=⟨1,0,bN⟩
theorem e_ck:ckSes smE=0:=by decide +kernel
theorem e_never:neverP smE=[spE]:=by decide +kernel
theorem e_whole:(searchP smE 100).2=true:=by rw[search_i];decide +kernel
theorem e_all:(allSp smE (searchP smE 100).1).map Prod.snd=[spE,spE,spE]:=by rw[search_i];decide +kernel
theorem e_first:((allSp smE (searchP smE 100).1).head?.map fun e=>traceP (searchP smE 100).1 e.1)=some [km1]:=by rw[search_i];decide +kernel
theorem e_used:((usedP smE (searchP smE 100).1 0 0 && usedP smE (searchP smE 100).1 0 1) && usedP smE (searchP smE 100).1 1 0)=true:=by rw[search_i];decide +kernel
theorem e_m0:km0∈movesP smE (firstP smE)∧km1∈movesP smE (nextP smE (firstP smE) km0)∧ofP smE (nextP smE (nextP smE (firstP smE) km0) km1)=[spE]:=by decide +kernel
theorem smE_sm:SmS smE:=by
 refine⟨by simp[smE],fun r hr=>?_⟩
 simp only[smE,List.mem_cons,List.not_mem_nil,or_false] at hr
 rcases hr with rfl | rfl
 all_goals
  refine⟨by simp,by simp,by simp,fun x hx=>?_,fun x hx=>?_⟩
  ·simp only[List.mem_cons,List.not_mem_nil,or_false] at hx
   first
    | (rcases hx with rfl | rfl <;> (unfold wf64;decide))
    | (subst hx;unfold wf64;decide)
  ·simp only[List.mem_cons,List.not_mem_nil,or_false] at hx
   first
    | (rcases hx with rfl | rfl <;> decide)
    | (subst hx;decide)
set_option maxHeartbeats 2000000 in
set_option maxRecDepth 100000 in
theorem sample36_any (w:World):Calls Tryz.prog 56 #[] w (RetV fun v w'=>SesV w' v smE∧Frm [] w w'):=by
 go_enter Tryz.func56,Tryz.ntmps56
 go_upto_region 3 with fail
 obtain⟨X,hX⟩:∃ X,(((((((w.alloc (.cells #[.string { data:=#[] },.slice none 0 0,.int .i64 0,.int .i64 0] 25)).alloc (.cells #[.string { data:=#[120] },.bool true,.int .i64 0] 206)).alloc (.cells #[.string { data:=#[120] },.string { data:=#[120] },.int .i64 1,.string { data:=#[109] },.string { data:=#[98] },.string { data:=#[] },.int .i64 0,.int .i64 0,.int .i64 0,.string { data:=#[120] },.string { data:=#[120] },.int .i64 1,.string { data:=#[110] },.string { data:=#[98] },.string { data:=#[] },.int .i64 0,.int .i64 0,.int .i64 0] 137)).alloc (.cells #[.string { data:=#[97] },.slice (some ⟨w.heap.size + 1,0,none⟩) 1 1,.slice none 0 0,.slice (some ⟨w.heap.size + 1 + 1,0,none⟩) 2 2] 87)).alloc (.cells #[.string { data:=#[114] },.bool true,.int .i64 0] 206)).alloc (.cells #[.string { data:=#[114] },.string { data:=#[114] },.int .i64 2,.string { data:=#[109] },.string { data:=#[97] },.string { data:=#[] },.int .i64 0,.int .i64 0,.int .i64 0] 137)).alloc (.cells #[.string { data:=#[98] },.slice (some ⟨w.heap.size + 1 + 1 + 1 + 1,0,none⟩) 1 1,.slice none 0 0,.slice (some ⟨w.heap.size + 1 + 1 + 1 + 1 + 1,0,none⟩) 1 1] 87))=X:=⟨_,rfl⟩
 have HF:Hid (Frm [] w X):=Lib.hid (by rw[← hX];exact(((((((Frm.refl [] w).alloc _).alloc _).alloc _).alloc _).alloc _).alloc _).alloc _)
 have H0:Hid (X.heap[w.heap.size]?=some (.cells #[.string { data:=#[] },.slice none 0 0,.int .i64 0,.int .i64 0] 25 (0,0))):=Lib.hid (by rw[← hX];exact alloc_at (alloc_at (alloc_at (alloc_at (alloc_at (alloc_at (alloc_top (by simp))))))))
 have H1:Hid (X.heap[w.heap.size + 1]?=some (.cells #[.string { data:=#[120] },.bool true,.int .i64 0] 206 (0,0))):=Lib.hid (by rw[← hX];exact alloc_at (alloc_at (alloc_at (alloc_at (alloc_at (alloc_top (by simp)))))))
 have H2:Hid (X.heap[w.heap.size + 1 + 1]?=some (.cells #[.string { data:=#[120] },.string { data:=#[120] },.int .i64 1,.string { data:=#[109] },.string { data:=#[98] },.string { data:=#[] },.int .i64 0,.int .i64 0,.int .i64 0,.string { data:=#[120] },.string { data:=#[120] },.int .i64 1,.string { data:=#[110] },.string { data:=#[98] },.string { data:=#[] },.int .i64 0,.int .i64 0,.int .i64 0] 137 (0,0))):=Lib.hid (by rw[← hX];exact alloc_at (alloc_at (alloc_at (alloc_at (alloc_top (by simp))))))
 have H3:Hid (X.heap[w.heap.size + 1 + 1 + 1]?=some (.cells #[.string { data:=#[97] },.slice (some ⟨w.heap.size + 1,0,none⟩) 1 1,.slice none 0 0,.slice (some ⟨w.heap.size + 1 + 1,0,none⟩) 2 2] 87 (0,0))):=Lib.hid (by rw[← hX];exact alloc_at (alloc_at (alloc_at (alloc_top (by simp)))))
 have H4:Hid (X.heap[w.heap.size + 1 + 1 + 1 + 1]?=some (.cells #[.string { data:=#[114] },.bool true,.int .i64 0] 206 (0,0))):=Lib.hid (by rw[← hX];exact alloc_at (alloc_at (alloc_top (by simp))))
 have H5:Hid (X.heap[w.heap.size + 1 + 1 + 1 + 1 + 1]?=some (.cells #[.string { data:=#[114] },.string { data:=#[114] },.int .i64 2,.string { data:=#[109] },.string { data:=#[97] },.string { data:=#[] },.int .i64 0,.int .i64 0,.int .i64 0] 137 (0,0))):=Lib.hid (by rw[← hX];exact alloc_at (alloc_top (by simp)))
 have H6:Hid (X.heap[w.heap.size + 1 + 1 + 1 + 1 + 1 + 1]?=some (.cells #[.string { data:=#[98] },.slice (some ⟨w.heap.size + 1 + 1 + 1 + 1,0,none⟩) 1 1,.slice none 0 0,.slice (some ⟨w.heap.size + 1 + 1 + 1 + 1 + 1,0,none⟩) 1 1] 87 (0,0))):=Lib.hid (by rw[← hX];exact alloc_top (by simp))
 rw[hX]
 have HB0:Hid ((X.alloc (.cells #[.string { data:=#[97] },.slice (some ⟨w.heap.size + 1,0,none⟩) 1 1,.slice none 0 0,.slice (some ⟨w.heap.size + 1 + 1,0,none⟩) 2 2,.string { data:=#[98] },.slice (some ⟨w.heap.size + 1 + 1 + 1 + 1,0,none⟩) 1 1,.slice none 0 0,.slice (some ⟨w.heap.size + 1 + 1 + 1 + 1 + 1,0,none⟩) 1 1] 87)).heap[w.heap.size]?=some (.cells #[.string { data:=#[] },.slice none 0 0,.int .i64 0,.int .i64 0] 25 (0,0))):=Lib.hid (alloc_at H0.out)
 clear hX
 go_wp2_with (first
  | (refine wpList_load_whole rfl 87 _ rfl _ rfl _ 87 H3.out _ Tryz.underlying87 rfl (by kernel_rfl) ?_)
  | (refine wpList_load_whole rfl 87 _ rfl _ rfl _ 87 H6.out _ Tryz.underlying87 rfl (by kernel_rfl) ?_)
  | (refine wpList_store_row rfl 25 _ _ rfl _ _ _ 25 rfl rfl HB0.out rfl (by kernel_rfl) (by simp[Value.oneCell']) ?_;intro w2 hb2 hf2))
 have hfX:Frm [w.heap.size] X w2:=((Frm.refl [] X).alloc _).mono (by simp) |>.trans hf2
 have hr:w2.heap[X.heap.size]?=some (.cells #[.string { data:=#[97] },.slice (some ⟨w.heap.size + 1,0,none⟩) 1 1,.slice none 0 0,.slice (some ⟨w.heap.size + 1 + 1,0,none⟩) 2 2,.string { data:=#[98] },.slice (some ⟨w.heap.size + 1 + 1 + 1 + 1,0,none⟩) 1 1,.slice none 0 0,.slice (some ⟨w.heap.size + 1 + 1 + 1 + 1 + 1,0,none⟩) 1 1] 87 (0,0)):=hf2.at (heap_alloc_new X _) (by have:=HF.out.size;have:=lt_of_block H0.out;simp;omega)
 have c1:=hfX.at H1.out (by simp <;> omega)
 have c2:=hfX.at H2.out (by simp <;> omega)
 have c4:=hfX.at H4.out (by simp <;> omega)
 have c5:=hfX.at H5.out (by simp <;> omega)
 refine bodyPost_ret (results_c1 (d:=_) (Tryz.results56) rfl hb2 rfl Tryz.underlying25 (by kernel_rfl)) rfl ⟨_,rfl,?_,HF.out.then hfX (by simp)⟩
 refine⟨_,rfl,_,2,rfl,fun i r hi=>?_⟩
 match i,hi with
 | 0,hi =>
   cases hi
   refine⟨X.heap.size,0,rfl,_,_,_,cell_of hr 0,cell_of hr 1,cell_of hr 2,cell_of hr 3,⟨⟨_,1,rfl,fun j x hj=>?_⟩,Arr.nil _ _ _,⟨_,2,rfl,fun j x hj=>?_⟩,fun _ _ _ e=>by cases e;exact Nat.le_refl _⟩⟩
   ·match j,hj with
    | 0,hj=>cases hj;exact⟨_,0,rfl,cell_of c1 0,cell_of c1 1,cell_of c1 2⟩
    | j + 1,hj=>simp at hj
   ·match j,hj with
    | 0,hj=>cases hj;exact⟨_,0,rfl,cell_of c2 0,cell_of c2 1,cell_of c2 2,cell_of c2 3,cell_of c2 4,cell_of c2 5,cell_of c2 6,cell_of c2 7,cell_of c2 8⟩
    | 1,hj=>cases hj;exact⟨_,0,rfl,cell_of c2 9,cell_of c2 10,cell_of c2 11,cell_of c2 12,cell_of c2 13,cell_of c2 14,cell_of c2 15,cell_of c2 16,cell_of c2 17⟩
    | j + 2,hj=>simp at hj
 | 1,hi =>
   cases hi
   refine⟨X.heap.size,0,rfl,_,_,_,cell_of hr 4,cell_of hr 5,cell_of hr 6,cell_of hr 7,⟨⟨_,1,rfl,fun j x hj=>?_⟩,Arr.nil _ _ _,⟨_,1,rfl,fun j x hj=>?_⟩,fun _ _ _ e=>by cases e;exact Nat.le_refl _⟩⟩
   ·match j,hj with
    | 0,hj=>cases hj;exact⟨_,0,rfl,cell_of c4 0,cell_of c4 1,cell_of c4 2⟩
    | j + 1,hj=>simp at hj
   ·match j,hj with
    | 0,hj=>cases hj;exact⟨_,0,rfl,cell_of c5 0,cell_of c5 1,cell_of c5 2,cell_of c5 3,cell_of c5 4,cell_of c5 5,cell_of c5 6,cell_of c5 7,cell_of c5 8⟩
    | j + 1,hj=>simp at hj
 | i + 2,hi=>simp[smE] at hi
end Go.Proofs.YtohfkhjlnlahdaaGreat
namespace Go.Proofs.YtohfkhjlnlahdaaGreat
open Go.RowKit Go.BigFrame
abbrev suZ:Value:=.agg #[.int .i64 0,.int .i64 0,.string { data:=#[] }]
structure FsB (w:World) (r4 r5 r6 r7:Nat) (tv:Value) (A:Array Value) (b:Bool) (e:Int) (V:World):Prop where
 fr:Frm [] w V
 t:V.heap[r4]?=some (.cells #[tv] 31 (0,0))
 x:V.heap[r5]?=some (.cells A 33 (0,0))
 f:V.heap[r6]?=some (.cells #[.bool b] 4 (0,0))
 e:V.heap[r7]?=some (.cells #[.int .i64 e] 34 (0,0))
 l4:w.heap.size≤r4
 l5:w.heap.size≤r5
 l6:w.heap.size≤r6
 l7:w.heap.size≤r7
section
variable {w V V':World} {r4 r5 r6 r7:Nat} {tv:Value} {A:Array Value} {b:Bool} {e:Int}
theorem FsB.frm (h:FsB w r4 r5 r6 r7 tv A b e V) (hf:Frm [] V V'):FsB w r4 r5 r6 r7 tv A b e V':=
 ⟨h.fr.trans hf,hf.at h.t (by simp),hf.at h.x (by simp),hf.at h.f (by simp),hf.at h.e (by simp),h.l4,h.l5,h.l6,h.l7⟩
theorem FsB.bk {B:Nat} (h:FsB w r4 r5 r6 r7 tv A b e V) (hb:Bk B V V') (hB:w.heap.size≤B):FsB w r4 r5 r6 r7 tv A b e V':=
 ⟨hb.old h.fr hB,hb.at h.t rfl,hb.at h.x rfl,hb.at h.f rfl,hb.at h.e rfl,h.l4,h.l5,h.l6,h.l7⟩
theorem ty_ne {W:World} {a b:Nat} {c c':Array Value} {t t':TypeId} {fr fr':Nat × Nat} (h:W.heap[a]?=some (.cells c t fr)) (h':W.heap[b]?=some (.cells c' t' fr')) (ht:t≠t'):a≠b:=fun e=>by
 subst e
 rw[h] at h'
 cases h'
 exact ht rfl
theorem FsB.setT (h:FsB w r4 r5 r6 r7 tv A b e V) (u:Value):FsB w r4 r5 r6 r7 u A b e (V.setCell ⟨r4,0,none⟩ u):=
 ⟨h.fr.setCell _ (.inr h.l4) _,(block_setCell h.t 0 u).trans rfl,setCell_at h.x (ty_ne h.x h.t (by decide)) _,setCell_at h.f (ty_ne h.f h.t (by decide)) _,setCell_at h.e (ty_ne h.e h.t (by decide)) _,h.l4,h.l5,h.l6,h.l7⟩
theorem FsB.setF (h:FsB w r4 r5 r6 r7 tv A b e V) (u:Bool):FsB w r4 r5 r6 r7 tv A u e (V.setCell ⟨r6,0,none⟩ (.bool u)):=
 ⟨h.fr.setCell _ (.inr h.l6) _,setCell_at h.t (ty_ne h.t h.f (by decide)) _,setCell_at h.x (ty_ne h.x h.f (by decide)) _,(block_setCell h.f 0 _).trans rfl,setCell_at h.e (ty_ne h.e h.f (by decide)) _,h.l4,h.l5,h.l6,h.l7⟩
theorem FsB.setE (h:FsB w r4 r5 r6 r7 tv A b e V) (u:Int):FsB w r4 r5 r6 r7 tv A b u (V.setCell ⟨r7,0,none⟩ (.int .i64 u)):=
 ⟨h.fr.setCell _ (.inr h.l7) _,setCell_at h.t (ty_ne h.t h.e (by decide)) _,setCell_at h.x (ty_ne h.x h.e (by decide)) _,setCell_at h.f (ty_ne h.f h.e (by decide)) _,(block_setCell h.e 0 _).trans rfl,h.l4,h.l5,h.l6,h.l7⟩
theorem FsB.setX {A':Array Value} (h:FsB w r4 r5 r6 r7 tv A b e V) (hx:V'.heap[r5]?=some (.cells A' 33 (0,0))) (hf:Frm [r5] V V'):FsB w r4 r5 r6 r7 tv A' b e V':=by
 have ne:∀ {k:Nat} {c:Array Value} {t:TypeId} {fr:Nat × Nat},V.heap[k]?=some (.cells c t fr)→t≠33→k∉[r5]:=fun hk ht hm=>by
  rw[List.mem_singleton] at hm
  exact ty_ne hk h.x ht hm
 exact⟨h.fr.then hf (fun y hy=>.inr (by rw[List.mem_singleton] at hy;have:=h.l5;omega)),hf.at h.t (ne h.t (by decide)),hx,hf.at h.f (ne h.f (by decide)),hf.at h.e (ne h.e (by decide)),h.l4,h.l5,h.l6,h.l7⟩
end
theorem FsB.res {w V:World} {r4 r5 r6 r7:Nat} {tv:Value} {x y:Int} {z:ByteArray} {b:Bool} {e:Int} {fn:Func} {tmps:Array Value} (h:FsB w r4 r5 r6 r7 tv #[.int .i64 x,.int .i64 y,.string z] b e V) (hf:fn.results=#[.cell 4 31,.cell 5 33,.cell 6 4,.cell 7 34])
  (h4:tmps.getD 4 undef=.pointer (some ⟨r4,0,none⟩)) (h5:tmps.getD 5 undef=.pointer (some ⟨r5,0,none⟩)) (h6:tmps.getD 6 undef=.pointer (some ⟨r6,0,none⟩)) (h7:tmps.getD 7 undef=.pointer (some ⟨r7,0,none⟩)) :
  (results fn tmps).run Tryz.prog V=.ok (.tuple #[tv,.agg #[.int .i64 x,.int .i64 y,.string z],.bool b,.int .i64 e]) V:=by
 have h4':tmps[4]?.getD undef=.pointer (some ⟨r4,0,none⟩):=by simpa using h4
 have h5':tmps[5]?.getD undef=.pointer (some ⟨r5,0,none⟩):=by simpa using h5
 have h6':tmps[6]?.getD undef=.pointer (some ⟨r6,0,none⟩):=by simpa using h6
 have h7':tmps[7]?.getD undef=.pointer (some ⟨r7,0,none⟩):=by simpa using h7
 have c4:=cell_of h.t 0
 have c6:=cell_of h.f 0
 have c7:=cell_of h.e 0
 have c50:=cell_of h.x 0
 have c51:=cell_of h.x 1
 have c52:=cell_of h.x 2
 simp at c4 c6 c7 c50 c51 c52
 simp[results,hf,h4',h5',h6',h7',asAddr,c4,c6,c7,c50,c51,c52,go_sem]
theorem Bk.cell {B:Nat} {W W':World} {a:Addr} {v:Value} (h:Bk B W W') (hc:W.cell? a=some v):W'.cell? a=some v:=by
 have hl:=World.block_lt_of_cell? _ _ hc
 have hb:W.heap[a.block]?=some W.heap[a.block]:=Array.getElem?_eq_getElem hl
 have hn:isBook W.heap[a.block]=false:=by
  cases ho:W.heap[a.block] with
  | cells c t fr=>rfl
  | _=>first | rfl | (exfalso;rw[ho] at hb;simp[World.cell?,hb] at hc)
 rw[World.cell?_of_block (w:=W) ((h.block _ _ hb (.inr hn)).trans hb.symm)]
 exact hc
theorem MvAt.bk {B:Nat} {W W':World} {g o:Nat} {m:Mv} (h:MvAt W g o m) (hb:Bk B W W'):MvAt W' g o m:=⟨hb.cell h.1,hb.cell h.2,hb.cell h.3,hb.cell h.4⟩
theorem FsB.mv {w V V':World} {r4 r5 r6 r7:Nat} {ao:Option Addr} {n c:Nat} {x y:Int} {z:ByteArray} {b:Bool} {e:Int} {g o:Nat} {m:Mv} (h:FsB w r4 r5 r6 r7 (.slice ao n c) #[.int .i64 x,.int .i64 y,.string z] b e V) (hm:MvAt V g o m) (hf:Frm [r4,r5,r6,r7] V V'):MvAt V' g o m:=by
 have hg:g∉[r4,r5,r6,r7]:=fun hx=>by
  simp only[List.mem_cons,List.not_mem_nil,or_false] at hx
  rcases hx with rfl | rfl | rfl | rfl
  ·have:=hm.1;rw[cell_of h.t] at this
   cases o with
   | zero=>simp at this
   | succ o=>simp at this
  ·have:=hm.4;rw[cell_of h.x] at this
   simp at this
  ·have:=hm.1;rw[cell_of h.f] at this
   cases o with
   | zero=>simp at this
   | succ o=>simp at this
  ·have:=hm.2;rw[cell_of h.e] at this
   simp at this
 exact⟨hf.cellAt hm.1 hg,hf.cellAt hm.2 hg,hf.cellAt hm.3 hg,hf.cellAt hm.4 hg⟩
theorem setCell_same {w:World} {b o:Nat} {c:Array Value} {t:TypeId} {fr:Nat × Nat} {v:Value} (h:w.heap[b]?=some (.cells c t fr)) (hc:c[o]?=some v):w.setCell ⟨b,o,none⟩ v=w:=by
 have hlt:=lt_of_block h
 have hset:c.setIfInBounds o v=c:=by
  apply Array.ext_getElem?
  intro i
  by_cases hi:o=i
  ·subst hi
   have:o < c.size:=by
    rcases Nat.lt_or_ge o c.size with h1 | h1
    ·exact h1
    ·rw[Array.getElem?_eq_none h1] at hc;cases hc
   rw[Array.getElem?_setIfInBounds_self_of_lt this,hc]
  ·rw[Array.getElem?_setIfInBounds_ne hi]
 have:(w.setCell ⟨b,o,none⟩ v).heap=w.heap:=by
  apply Array.ext_getElem?
  intro i
  by_cases hi:i=b
  ·subst hi
   have h2:(w.setCell ⟨i,o,none⟩ v).heap[i]?=some (.cells (c.setIfInBounds o v) t fr):=block_setCell h o v
   rw[h2,h,hset]
  ·exact Below.heap_setCell _ _ _ _ hi
 show { w with heap:=_ }=w
 cases w
 simp only[World.setCell] at this ⊢
 rw[this]
theorem FsB.nes {w V:World} {r4 r5 r6 r7:Nat} {tv:Value} {A:Array Value} {b:Bool} {e:Int} (h:FsB w r4 r5 r6 r7 tv A b e V):r4≠r5∧r4≠r6∧r4≠r7∧r5≠r6∧r5≠r7∧r6≠r7:=
 ⟨ty_ne h.t h.x (by decide),ty_ne h.t h.f (by decide),ty_ne h.t h.e (by decide),ty_ne h.x h.f (by decide),ty_ne h.x h.e (by decide),ty_ne h.f h.e (by decide)⟩
theorem FsB.set3 {w V:World} {r4 r5 r6 r7:Nat} {tv:Value} {A:Array Value} {b:Bool} {e:Int} (h:FsB w r4 r5 r6 r7 tv A b e V) (hA:A.size=3) (x y z:Value) :
  FsB w r4 r5 r6 r7 tv #[x,y,z] b e (((V.setCell ⟨r5,0,none⟩ x).setCell ⟨r5,1,none⟩ y).setCell ⟨r5,2,none⟩ z)∧Frm [r5] V (((V.setCell ⟨r5,0,none⟩ x).setCell ⟨r5,1,none⟩ y).setCell ⟨r5,2,none⟩ z):=by
 have:=setCells_whole h.x #[x,y,z] (by rw[hA];rfl)
 exact⟨h.setX this.1 this.2,this.2⟩
theorem FsB.put {w V:World} {r4 r5 r6 r7:Nat} {tv:Value} {A:Array Value} {b:Bool} {e:Int} (h:FsB w r4 r5 r6 r7 tv A b e V) (hA:A.size=3) (t' x y z:Value) (b':Bool) (e':Int) {V':World}
  (hV:V'=((((((V.setCell ⟨r4,0,none⟩ t').setCell ⟨r5,0,none⟩ x).setCell ⟨r5,1,none⟩ y).setCell ⟨r5,2,none⟩ z).setCell ⟨r6,0,none⟩ (.bool b')).setCell ⟨r7,0,none⟩ (.int .i64 e')).drew) :
  FsB w r4 r5 r6 r7 t' #[x,y,z] b' e' V'∧Frm [r4,r5,r6,r7] V V':=by
 subst hV
 have h1:=h.setT t'
 obtain⟨h2,g2⟩:=h1.set3 hA x y z
 have h3:=h2.setF b'
 have h4:=h3.setE e'
 refine⟨h4.frm (Frm.refl [] _).drew,?_⟩
 have f1:Frm [r4,r5,r6,r7] V (V.setCell ⟨r4,0,none⟩ t'):=(Frm.refl _ _).setCell _ (.inl (by simp)) _
 have f2:=f1.trans (g2.mono (F':=[r4,r5,r6,r7]) fun q hq=>by rw[List.mem_singleton] at hq;subst hq;exact .inl (by simp))
 exact((f2.setCell ⟨r6,0,none⟩ (.inl (by simp)) _).setCell ⟨r7,0,none⟩ (.inl (by simp)) _).drew
theorem FsB.mark {w V V':World} {r4 r5 r6 r7 D:Nat} {tv:Value} {A:Array Value} {b:Bool} {e:Int} (h:FsB w r4 r5 r6 r7 tv A b e V) (hD:V.heap[D]?=some (.deferred (some []))) (hf:Frm [r4,r5,r6,r7] V V'):V'.heap[D]?=some (.deferred (some [])):=by
 refine hf.at hD fun hx=>?_
 simp only[List.mem_cons,List.not_mem_nil,or_false] at hx
 rcases hx with rfl | rfl | rfl | rfl
 ·rw[h.t] at hD;cases hD
 ·rw[h.x] at hD;cases hD
 ·rw[h.f] at hD;cases hD
 ·rw[h.e] at hD;cases hD
theorem Kc.one {B b:Nat} {c:Array Value} {t:TypeId} {fr:Nat × Nat} {W W':World} (hb:W.heap[b]?=some (.cells c t fr)) (hf:Frm [b] W W'):Kc anyT B W W':=
 ⟨hf.size,fun _ _ _ _ _ h=>(h trivial).elim,fun k o _ hk ho=>hf.at hk fun hm=>by
  rw[List.mem_singleton] at hm
  subst hm
  rw[hb] at hk
  cases hk
  cases ho⟩
def FstTo (w:World) (s:SesD) (lim:Nat) (v:Value) (w':World):Prop:=
 Frm [] w w'∧((allSp s (searchP s lim).1=[]∧v=.tuple #[.slice none 0 0,suZ,.bool false,.int .i64 (if (searchP s lim).2 then 0 else 7)]) ∨
  (∃ n u rest tv,allSp s (searchP s lim).1=(n,u) :: rest∧v=.tuple #[tv,suV u,.bool true,.int .i64 0]∧Arr 4 MvAt w' tv (traceP (searchP s lim).1 n)))
theorem fst_end {w V:World} {s:SesD} {lim:Nat} {r4 r5 r6 r7 D:Nat} {tv:Value} {x y:Int} {z:ByteArray} {b:Bool} {e:Int} {fn:Func} {tmps:Array Value} (h:FsB w r4 r5 r6 r7 tv #[.int .i64 x,.int .i64 y,.string z] b e V) (hD:V.heap[D]?=some (.deferred (some []))) (hl:w.heap.size≤D)
  (hf:fn.results=#[.cell 4 31,.cell 5 33,.cell 6 4,.cell 7 34]) (h4:tmps.getD 4 undef=.pointer (some ⟨r4,0,none⟩)) (h5:tmps.getD 5 undef=.pointer (some ⟨r5,0,none⟩)) (h6:tmps.getD 6 undef=.pointer (some ⟨r6,0,none⟩)) (h7:tmps.getD 7 undef=.pointer (some ⟨r7,0,none⟩))
  (hT:∀ V',Bk w.heap.size V V'→Frm [] w V'→FstTo w s lim (.tuple #[tv,.agg #[.int .i64 x,.int .i64 y,.string z],.bool b,.int .i64 e]) V') :
  LeavesInM Fence.wide 3 Tryz.prog fn tmps (RetV (FstTo w s lim)) [{ target:=.collected D,args:=#[] }] .returning V:=by
 have hb:Bk w.heap.size V (V.putObj D (.deferred none)):=Bk.putObj V _ hD rfl hl
 have h':=h.bk hb (Nat.le_refl _)
 exact leaves_mark hD ⟨_,h'.res hf h4 h5 h6 h7,_,rfl,hT _ hb h'.fr⟩
attribute [local go_sem] Oper.semAt_some
set_option maxHeartbeats 4000000 in
set_option maxRecDepth 100000 in
theorem xpFirst_any (s:SesD) (yb fb lim:Nat) (w:World) (h:SyR w s yb fb) (h1:1≤lim) (h2:lim≤200000):Calls Tryz.prog 16 #[.pointer (some ⟨yb,0,none⟩),.int .i64 lim] w (RetV (FstTo w s lim)):=by
 have HY:=Lib.hid h;have HL:=Lib.hid (⟨h1,h2⟩:1≤lim∧lim≤200000)
 obtain⟨W0,hW0⟩:∃ W0,(((w.alloc (.cells #[.slice none 0 0] 31)).alloc (.cells #[.int .i64 0,.int .i64 0,.string { data:=#[] }] 33)).alloc (.cells #[.bool false] 4)).alloc (.cells #[.int .i64 0] 34)=W0:=⟨_,rfl⟩
 obtain⟨r7,h7⟩:∃ b,w.heap.size + 1 + 1 + 1=b:=⟨_,rfl⟩
 obtain⟨r6,h6⟩:∃ b,w.heap.size + 1 + 1=b:=⟨_,rfl⟩
 obtain⟨r5,h5⟩:∃ b,w.heap.size + 1=b:=⟨_,rfl⟩
 obtain⟨r4,h4⟩:∃ b,w.heap.size=b:=⟨_,rfl⟩
 have HB0:Hid (FsB w r4 r5 r6 r7 (.slice none 0 0) #[.int .i64 0,.int .i64 0,.string { data:=#[] }] false 0 W0):=Lib.hid (by
  rw[← hW0,← h4,← h5,← h6,← h7]
  exact⟨((((Frm.refl _ _).alloc _).alloc _).alloc _).alloc _,alloc_at (alloc_at (alloc_at (heap_alloc_new _ _))),alloc_at (alloc_at (alloc_top (by simp))),alloc_at (alloc_top (by simp)),alloc_top (by simp),Nat.le_refl _,by omega,by omega,by omega⟩)
 have CS:=Lib.hid (xSearch_any s yb fb lim W0 (h.frm HB0.out.fr) h1 h2)
 have HE:=Lib.hid hW0;have H4:=Lib.hid h4;have H5:=Lib.hid h5;have H6:=Lib.hid h6;have H7:=Lib.hid h7
 clear h h1 h2 hW0 h4 h5 h6 h7
 refine calls_of_marks Tryz.func16 rfl ?_
 simp only[Tryz.ntmps16,List.size_toArray,List.length_cons,List.length_nil,Nat.reduceAdd,Nat.reduceSub,Array.replicate_succ,Array.replicate_zero,List.push_toArray,List.append_toArray,List.nil_append,List.cons_append]
 go_upto_region 1 with fail
 rw[HE.out,H7.out,H6.out,H5.out,H4.out]
 clear HE H7 H6 H5 H4
 have e7:=cell_of HB0.out.e 0
 have f7:=free_of HB0.out.e 0
 go_upto_region 2 with (first
  | (go_at_call 57;go_must (refine CS.out.mono ?_;rintro e w1 ⟨v,rfl,pb,N,rfl,hsp,hN,hf⟩;have HSP:=Lib.hid hsp;have HN:=Lib.hid hN;have HB1:=Lib.hid (HB0.out.frm hf);have HF1:=Lib.hid hf;clear hsp hN hf CS e7 f7;have e7:=cell_of (HB1.out.frm ((Frm.refl [] w1).alloc (.cells #[.pointer (some ⟨pb,0,none⟩)] 122))).e 0;have f7:=free_of (HB1.out.frm ((Frm.refl [] w1).alloc (.cells #[.pointer (some ⟨pb,0,none⟩)] 122))).e 0)))
 have hw2:(w1.alloc (.cells #[.pointer (some ⟨pb,0,none⟩)] 122)).setCell ⟨r7,0,none⟩ (.int .i64 0)=w1.alloc (.cells #[.pointer (some ⟨pb,0,none⟩)] 122):=setCell_same ((Frm.refl [] w1).alloc (.cells #[.pointer (some ⟨pb,0,none⟩)] 122) |>.at HB1.out.e (by simp)) rfl
 rw[hw2]
 obtain⟨W2,hW2⟩:∃ W,w1.alloc (.cells #[.pointer (some ⟨pb,0,none⟩)] 122)=W:=⟨_,rfl⟩
 obtain⟨r8,h8⟩:∃ b,w1.heap.size=b:=⟨_,rfl⟩
 have HF2:Hid (Frm [] w1 W2):=Lib.hid (by rw[← hW2];exact(Frm.refl _ _).alloc _)
 have HP:Hid (W2.heap[r8]?=some (.cells #[.pointer (some ⟨pb,0,none⟩)] 122 (0,0))):=Lib.hid (by rw[← hW2,← h8];exact heap_alloc_new _ _)
 rw[hW2,h8]
 clear hw2 hW2 h8 e7 f7
 have HB2:=Lib.hid (HB1.out.frm HF2.out)
 have HSP2:=Lib.hid (HSP.out.frm HF2.out)
 have CA:=Lib.hid (xpAll_any s yb fb lim W2 (HY.out.frm HB2.out.fr) HL.out.1 HL.out.2)
 have e7:=cell_of HB2.out.e 0
 go_upto_region 5 with (first
  | (go_at_call 36;go_must (refine CA.out.mono ?_;rintro e w3 ⟨v,rfl,B1,B2,pb2,ra,cp,N2,rfl,hal,hN2,hf⟩;have HAL:=Lib.hid hal;have HN2:=Lib.hid hN2;have HF3:=Lib.hid hf;clear hal hN2 hf CA e7)))
 have HB3:=Lib.hid (HB2.out.frm HF3.out)
 have HSP3:=Lib.hid (HSP2.out.frm HF3.out)
 have HP3:=Lib.hid (HF3.out.at HP.out (by simp))
 have HNN:Hid (N2.map Prod.fst=N.map Prod.fst):=Lib.hid (HN2.out.trans HN.out.symm)
 obtain⟨nn,hfo⟩:=search_ok (lim:=lim) HAL.out.sy.ok HL.out.1
 have HSI:Hid (SI s lim nn (N.map Prod.fst)):=Lib.hid (by rw[HN.out];exact hfo.toSI)
 have hlen:N.length≤lim:=by
  have:=HSI.out.top
  rw[List.length_map] at this
  omega
 have hlen2:N2.length=N.length:=by rw[← List.length_map (f:=Prod.fst),← List.length_map (f:=Prod.fst),HNN.out]
 have HLN:Hid (N.length≤200000):=Lib.hid (by have:=HL.out;omega)
 have HIT:=Lib.hid (al_iter (fun _=>False) id id id B1 B2 pb2 yb fb cp ra s (searchP s lim).2 N2 (by have:=HLN.out;omega))
 have HALN:Hid (allSp s (N2.map Prod.fst)=allSp s (searchP s lim).1):=Lib.hid (by rw[HN2.out])
 clear hfo hlen hlen2
 refine wp_rangeListT (T:=fun _=>False) rfl (enters_of Tryz.func94 (by kernel_rfl) rfl) HIT.out (fun _=>rfl)
  (fun pre V=>pre=[]∧Frm [] w3 V)
  (fun c _ V=>c=.ret∧∃ n u rest ta tn tc,allSp s (searchP s lim).1=(n,u) :: rest∧FsB w r4 r5 r6 r7 (.slice ta tn tc) #[.int .i64 u.role,.int .i64 u.peer,.string u.msg] true 0 V∧Arr 4 MvAt V (.slice ta tn tc) (traceP (searchP s lim).1 n))
  (fun _ _ _ h hb=>⟨h.1,hb.old h.2 (Nat.le_refl _)⟩)
  (fun _ _ _ _ h hb=>⟨h.1,by obtain⟨n,u,rest,ta,tn,tc,h1,h2,h3⟩:=h.2;exact⟨n,u,rest,ta,tn,tc,h1,h2.bk hb HB3.out.fr.size,h3.frm fun _ _ _ h=>h.bk hb⟩⟩)
  (fun _ V h=>HAL.out.frm h.2) ⟨rfl,Frm.refl _ _⟩ ?_ ?_ ?_
 ·intro l pre y rest Wr hxs hI hl hlr
  obtain⟨rfl,hfr⟩:=hI
  obtain⟨n,u⟩:=y
  have hmem:(n,u)∈allSp s (N.map Prod.fst):=by rw[← HNN.out,hxs];simp
  obtain⟨d0,hd0,-⟩:=mem_allSp.1 hmem
  have HLT:Hid (n < N.length):=Lib.hid (by have:=lt_of_some hd0;rwa [List.length_map] at this)
  have HXS:=Lib.hid hxs;have HFR:=Lib.hid hfr
  clear hmem hd0 hxs hfr hl hlr
  simp only[suV]
  gi_wp2
  refine⟨Kc.frm ((Frm.refl [] Wr).alloc _),fun Wq hbk _=>?_⟩
  have HFq:Hid (Frm [] w3 Wq):=Lib.hid (hbk.old (HFR.out.alloc _) (Nat.le_refl _))
  have H10:Hid (Wq.heap[Wr.heap.size]?=some (.cells #[.int .i64 u.role,.int .i64 u.peer,.string u.msg] 33 (0,0))):=Lib.hid (hbk.at (heap_alloc_new _ _) rfl)
  have HNE:Hid (Wr.heap.size≠r5):=Lib.hid (by have:=lt_of_block HB3.out.x;have:=HFR.out.size;omega)
  obtain⟨r10,h10⟩:∃ b,Wr.heap.size=b:=⟨_,rfl⟩
  rw[h10] at H10 HNE
  rw[h10]
  clear hbk h10
  have CT:=Lib.hid (xTrace_any (HSP3.out.frm HFq.out) HSI.out HLT.out HLN.out)
  have z8:=cell_of (HFq.out.at HP3.out (by simp)) 0
  gi_upto_region 8 with (refine⟨trivial,?_⟩;gi_at_call 58;go_must (refine(CallsIn.inRound l (callsIn_wide.2 CT.out)).mono ?_;rintro e w4 ⟨v,rfl,uu,rfl,harr,hf⟩;obtain⟨ta,tc,rfl⟩:=harr.shape;have HTA:=Lib.hid harr;have HF4:=Lib.hid hf;clear harr hf z8 CT))
  have HB4:=Lib.hid (HB3.out.frm (HFq.out.trans HF4.out))
  have H104:=Lib.hid (HF4.out.at H10.out (by simp))
  obtain⟨Tr,hTr⟩:∃ T,traceP (N.map Prod.fst) n=T:=⟨_,rfl⟩
  have HTr:Hid (traceP (searchP s lim).1 n=Tr):=Lib.hid (by rw[← HN.out];exact hTr)
  rw[hTr] at HTA ⊢
  have HWX:Hid (Kc anyT w3.heap.size Wq w4):=Lib.hid (Kc.frm HF4.out)
  clear hTr HFR H10
  refine wpIn_region_inv' (fun f=>{ tmps:=#[.pointer (some ⟨yb,0,none⟩),.int .i64 (lim:Int),undef,undef,.pointer (some ⟨r4,0,none⟩),.pointer (some ⟨r5,0,none⟩),.pointer (some ⟨r6,0,none⟩),.pointer (some ⟨r7,0,none⟩),.pointer (some ⟨r8,0,none⟩),.int .i64 (n:Int),.pointer (some ⟨r10,0,none⟩),.slice ta Tr.length tc,.int .i64 0,.tuple #[.pointer (some ⟨pb,0,none⟩),.int .i64 0],.pointer (some ⟨yb,0,none⟩),.int .i64 (lim:Int),.tuple #[.pointer (some ⟨pb,0,none⟩),.int .i64 0],.pointer (some ⟨pb,0,none⟩),.int .i64 0,.int .i64 0,.bool false,undef,undef,.pointer (some ⟨yb,0,none⟩),.int .i64 (lim:Int),.func (.func 94) #[] #[.pointer (some ⟨B1,0,none⟩),.pointer (some ⟨B2,0,none⟩)],.int .i64 (n:Int),.agg #[.int .i64 u.role,.int .i64 u.peer,.string u.msg],.tuple #[.slice ta Tr.length tc,.int .i64 0],.pointer (some ⟨pb,0,none⟩),.int .i64 (n:Int),.tuple #[.slice ta Tr.length tc,.int .i64 0],.slice ta Tr.length tc,.int .i64 0,f 0,f 1,undef,undef,undef,undef,undef],defers:=[] })
   (fun D f V=>∃ a k c A,FsB w r4 r5 r6 r7 (.slice a k c) #[.int .i64 A.role,.int .i64 A.peer,.string A.msg] (D 4) 0 V∧(D 2=true→Value.slice a k c=.slice ta Tr.length tc)∧(D 3=true→A=u)∧V.heap[r10]?=some (.cells #[.int .i64 u.role,.int .i64 u.peer,.string u.msg] 33 (0,0))∧Arr 4 MvAt V (.slice ta Tr.length tc) Tr∧(D 0=true→f 0=.slice ta Tr.length tc)∧(D 1=true→f 1=.agg #[.int .i64 u.role,.int .i64 u.peer,.string u.msg])∧Kc anyT w3.heap.size Wq V)
   (fun _=>undef) (by kernel_rfl) (by kernel_rfl) rfl ?_ ?_ ?_
  ·exact⟨none,0,0,⟨0,0,{ data:=#[] }⟩,HB4.out.frm (Frm.refl [] w4).drew,(fun h=>by cases h),(fun h=>by cases h),(Frm.refl [] w4).drew.at H104.out (by simp),HTA.out.frm fun _ _ _ h=>h.frm (Frm.refl [] w4).drew,(fun h=>by cases h),(fun h=>by cases h),HWX.out.trans (Kc.frm (Frm.refl [] w4).drew)⟩
  ·refine⟨?_,?_,?_,?_,?_,?_,trivial⟩
   ·intro D f V hI hDi hdep hcl
    refine⟨rfl,fun _=>rfl,fun K' hK'=>?_⟩
    obtain⟨a,k,c,A,q1,q2,q3,q4,q5,q6,q7,q8⟩:=hI
    refine⟨fun _ _=>trivial,?_⟩
    go_simp
    refine hK'.out _ _ (.slice ta Tr.length tc) rfl ?_
    exact⟨a,k,c,A,q1,q2,q3,q4,q5,(fun _=>rfl),q7,q8⟩
   ·intro D f V hI hDi hdep hcl
    refine⟨rfl,fun _=>rfl,fun K' hK'=>?_⟩
    obtain⟨a,k,c,A,q1,q2,q3,q4,q5,q6,q7,q8⟩:=hI
    have x0:=cell_of q4 0
    have x1:=cell_of q4 1
    have x2:=cell_of q4 2
    refine⟨fun _ _=>trivial,?_⟩
    go_simp
    refine hK'.out _ _ (.agg #[.int .i64 u.role,.int .i64 u.peer,.string u.msg]) rfl ?_
    exact⟨a,k,c,A,q1,q2,q3,q4,q5,q6,(fun _=>rfl),q8⟩
   ·intro D f V hI hDi hdep hcl
    refine⟨rfl,fun _=>rfl,fun K' hK'=>?_⟩
    obtain⟨a,k,c,A,q1,q2,q3,q4,q5,q6,q7,q8⟩:=hI
    have e0:=q6 (hdep ⟨0,Ground.data⟩ (by simp) rfl)
    have x0:=cell_of q1.t 0
    have f0:=free_of q1.t 0
    have hf:Frm [r4,r5,r6,r7] V (V.setCell ⟨r4,0,none⟩ (.slice ta Tr.length tc)):=(Frm.refl _ _).setCell _ (.inl (by simp)) _
    refine⟨fun _ _=>trivial,?_⟩
    go_simp
    refine hK'.out _ _ undef (by (try simp only[e0]) <;> rfl) ?_
    exact⟨ta,Tr.length,tc,A,q1.setT _,(fun _=>rfl),q3,setCell_at q4 (ty_ne q4 q1.t (by decide)) _,q5.frm fun _ _ _ hm=>q1.mv hm hf,q6,q7,q8.set q1.t trivial 0 _⟩
   ·intro D f V hI hDi hdep hcl
    refine⟨rfl,fun _=>rfl,fun K' hK'=>?_⟩
    obtain⟨a,k,c,A,q1,q2,q3,q4,q5,q6,q7,q8⟩:=hI
    have e1:=q7 (hdep ⟨1,Ground.data⟩ (by simp) rfl)
    have x0:=cell_of q1.x 0
    have x1:=cell_of q1.x 1
    have x2:=cell_of q1.x 2
    have f0:=free_of q1.x 0
    have f1:=free_of q1.x 1
    have f2:=free_of q1.x 2
    refine⟨fun _ _=>trivial,?_⟩
    go_simp
    refine hK'.out _ _ undef (by (try simp only[e1]) <;> rfl) ?_
    obtain⟨g1,g2⟩:=q1.set3 rfl (.int .i64 u.role) (.int .i64 u.peer) (.string u.msg)
    exact⟨a,k,c,u,g1,q2,(fun _=>rfl),g2.at q4 (by rw[List.mem_singleton];exact HNE.out),q5.frm fun _ _ _ hm=>q1.mv hm (g2.mono fun y hy=>by rw[List.mem_singleton] at hy;subst hy;exact .inl (by simp)),q6,q7,q8.trans (Kc.one q1.x g2)⟩
   ·intro D f V hI hDi hdep hcl
    refine⟨rfl,fun _=>rfl,fun K' hK'=>?_⟩
    obtain⟨a,k,c,A,q1,q2,q3,q4,q5,q6,q7,q8⟩:=hI
    have x0:=cell_of q1.f 0
    have f0:=free_of q1.f 0
    have hf:Frm [r4,r5,r6,r7] V (V.setCell ⟨r6,0,none⟩ (.bool true)):=(Frm.refl _ _).setCell _ (.inl (by simp)) _
    refine⟨fun _ _=>trivial,?_⟩
    go_simp
    refine hK'.out _ _ undef rfl ?_
    exact⟨a,k,c,A,q1.setF true,q2,q3,setCell_at q4 (ty_ne q4 q1.f (by decide)) _,q5.frm fun _ _ _ hm=>q1.mv hm hf,q6,q7,q8.set q1.f trivial 0 _⟩
   ·intro D f V hI hDi hdep hcl
    refine⟨rfl,fun _=>rfl,fun K' hK'=>?_⟩
    obtain⟨a,k,c,A,q1,q2,q3,q4,q5,q6,q7,q8⟩:=hI
    have x0:=cell_of q1.e 0
    have f0:=free_of q1.e 0
    have hf:Frm [r4,r5,r6,r7] V (V.setCell ⟨r7,0,none⟩ (.int .i64 0)):=(Frm.refl _ _).setCell _ (.inl (by simp)) _
    refine⟨fun _ _=>trivial,?_⟩
    go_simp
    refine hK'.out _ _ undef rfl ?_
    exact⟨a,k,c,A,q1.setE 0,q2,q3,setCell_at q4 (ty_ne q4 q1.e (by decide)) _,q5.frm fun _ _ _ hm=>q1.mv hm hf,q6,q7,q8.set q1.e trivial 0 _⟩
  ·intro D f V hD hI
   obtain⟨a,k,c,A,q1,q2,q3,q4,q5,q6,q7,q8⟩:=hI
   have e2:=q2 (hD 2 (by decide))
   have e3:=q3 (hD 3 (by decide))
   have e4:D 4=true:=hD 4 (by decide)
   rw[e2,e3,e4] at q1
   have HQ1:=Lib.hid q1;have HQ5:=Lib.hid q5;have HQ8:=Lib.hid q8
   clear q1 q2 q3 q4 q5 q6 q7 q8 e2 e3 e4
   gi_wp2
   exact⟨HQ8.out,rfl,n,u,rest,ta,Tr.length,tc,HALN.out.symm.trans HXS.out,HQ1.out,by rw[HTr.out];exact HQ5.out⟩
 ·intro D V hD hI hK
  have HFv:=Lib.hid hI.2
  have HKD:=Lib.hid hK
  have HNIL:Hid (allSp s (searchP s lim).1=[]):=Lib.hid (HALN.out.symm.trans hI.1)
  have HDB:Hid (w3.heap.size≤D):=Lib.hid hD
  clear hI hK hD
  have z8:=cell_of (HFv.out.at HP3.out (by simp)) 0
  have CW:=Lib.hid (xWhole_eq (HSP3.out.frm HFv.out))
  have HBv:=Lib.hid (HB3.out.frm HFv.out)
  obtain⟨wh,hwh⟩:∃ b,(searchP s lim).2=b:=⟨_,rfl⟩
  rw[hwh] at CW
  have HWH:=Lib.hid hwh
  clear hwh
  have HZ:Hid (∀ e9:Int,(if wh then (0:Int) else 7)=e9→∀ V',Frm [] w V'→FstTo w s lim (.tuple #[.slice none 0 0,.agg #[.int .i64 0,.int .i64 0,.string { data:=#[] }],.bool false,.int .i64 e9]) V'):=Lib.hid fun e9 he V' hV'=>⟨hV',.inl ⟨HNIL.out,by rw[HWH.out,he]⟩⟩
  have x4:=cell_of HBv.out.t 0
  have y4:=free_of HBv.out.t 0
  have x50:=cell_of HBv.out.x 0
  have x51:=cell_of HBv.out.x 1
  have x52:=cell_of HBv.out.x 2
  have y50:=free_of HBv.out.x 0
  have y51:=free_of HBv.out.x 1
  have y52:=free_of HBv.out.x 2
  have x6:=cell_of HBv.out.f 0
  have y6:=free_of HBv.out.f 0
  have x7:=cell_of HBv.out.e 0
  have y7:=free_of HBv.out.e 0
  obtain⟨n45,n46,n47,n56,n57,n67⟩:=HBv.out.nes
  have n54:=n45.symm
  have n64:=n46.symm
  have n74:=n47.symm
  have n65:=n56.symm
  have n75:=n57.symm
  have n76:=n67.symm
  cases wh with
  | true =>
    go_wp2_with (go_at_call 59;go_must (refine CW.out.mono ?_;rintro e w4 ⟨rfl,rfl⟩;clear CW z8))
    go_region
    obtain⟨Vf,hVf⟩:∃ Vf,Vf=((((((V.setCell ⟨r4,0,none⟩ (.slice none 0 0)).setCell ⟨r5,0,none⟩ (.int .i64 0)).setCell ⟨r5,1,none⟩ (.int .i64 0)).setCell ⟨r5,2,none⟩ (.string { data:=#[] })).setCell ⟨r6,0,none⟩ (.bool false)).setCell ⟨r7,0,none⟩ (.int .i64 0)).drew:=⟨_,rfl⟩
    obtain⟨g1,g2⟩:=HBv.out.put rfl _ _ _ _ _ _ hVf
    have HG1:=Lib.hid g1;have HGD:=Lib.hid (HBv.out.mark HKD.out g2)
    rw[← hVf]
    clear hVf g1 g2 x4 y4 x50 x51 x52 y50 y51 y52 x6 y6 x7 y7
    go_wp2
    exact fst_end HG1.out HGD.out (Nat.le_trans HB3.out.fr.size HDB.out) rfl rfl rfl rfl rfl (fun V' _ hV'=>HZ.out 0 rfl V' hV')
  | false =>
    go_wp2_with (go_at_call 59;go_must (refine CW.out.mono ?_;rintro e w4 ⟨rfl,rfl⟩;clear CW z8))
    go_region
    obtain⟨Vf,hVf⟩:∃ Vf,Vf=((((((V.setCell ⟨r4,0,none⟩ (.slice none 0 0)).setCell ⟨r5,0,none⟩ (.int .i64 0)).setCell ⟨r5,1,none⟩ (.int .i64 0)).setCell ⟨r5,2,none⟩ (.string { data:=#[] })).setCell ⟨r6,0,none⟩ (.bool false)).setCell ⟨r7,0,none⟩ (.int .i64 7)).drew:=⟨_,rfl⟩
    obtain⟨g1,g2⟩:=HBv.out.put rfl _ _ _ _ _ _ hVf
    have HG1:=Lib.hid g1;have HGD:=Lib.hid (HBv.out.mark HKD.out g2)
    rw[← hVf]
    clear hVf g1 g2 x4 y4 x50 x51 x52 y50 y51 y52 x6 y6 x7 y7
    go_wp2
    exact fst_end HG1.out HGD.out (Nat.le_trans HB3.out.fr.size HDB.out) rfl rfl rfl rfl rfl (fun V' _ hV'=>HZ.out 7 rfl V' hV')
 ·intro D c pre x rest V hxs hD hX hK
  obtain⟨rfl,n,u,rest9,ta,tn,tc,g1,g2,g3⟩:=hX
  have HG1:=Lib.hid g1;have HG2:=Lib.hid g2;have HG3:=Lib.hid g3;have HKD:=Lib.hid hK
  have HDB:Hid (w3.heap.size≤D):=Lib.hid hD
  clear g1 g2 g3 hK hD hxs
  go_wp2
  exact fst_end HG2.out HKD.out (Nat.le_trans HB3.out.fr.size HDB.out) rfl rfl rfl rfl rfl (fun V' hb hV'=>⟨hV',.inr ⟨n,u,rest9,_,HG1.out,rfl,HG3.out.frm fun _ _ _ h=>h.bk hb⟩⟩)
end Go.Proofs.YtohfkhjlnlahdaaGreat
namespace Go.Proofs.YtohfkhjlnlahdaaGreat
open Go.RowKit Go.BigFrame
theorem fg_res {W:World} {ob:Nat} (h:W.heap[ob]?=some (.cells #[.slice none 0 0] 71 (0,0))):∀ b∈[ob],FgB W b:=by
 intro b hb
 rw[List.mem_singleton] at hb
 subst hb
 have c:=fun o=>cell_of h o
 refine⟨fun C t e=>?_,fun o x e=>?_,fun o p e=>?_,fun o g o' p n c' e e2=>?_⟩
 ·rw[h] at e;cases e;decide
 ·rw[c] at e
  cases o with
  | zero=>cases e
  | succ o=>simp at e
 ·rw[c] at e
  cases o with
  | zero=>cases e
  | succ o=>simp at e
 ·rw[c] at e
  cases o with
  | zero=>cases e
  | succ o=>simp at e
theorem SpO.box {W V:World} {s:SesD} {yb pb ob:Nat} {whole:Bool} {N:List (Nd × Nat)} (h:SpO W s yb whole pb N) (hs:0 < s.roles.length) (ho:W.heap[ob]?=some (.cells #[.slice none 0 0] 71 (0,0))) (hf:Frm [ob] W V):SpO V s yb whole pb N:=by
 obtain⟨qb,mb,lim,ao,cap,h1,h2,h3,h4⟩:=h.out
 have hb:=fg_res ho
 refine⟨⟨qb,mb,lim,ao,cap,hf.at h1 ?_,hf.at h2 ?_,h3.frm fun g o d hd=>?_,h4.frm hf fun b e hm=>?_⟩,fun d hd=>(h.st d hd).fg hs hb hf⟩
 ·rw[List.mem_singleton];exact ty_ne h1 ho (by decide)
 ·rw[List.mem_singleton];exact ty_ne h2 ho (by decide)
 ·have hg:g∉[ob]:=fun hm=>by
   rw[List.mem_singleton] at hm
   subst hm
   have:=hd.c0
   rw[cell_of ho] at this
   cases o with
   | zero=>cases this
   | succ o=>simp at this
  exact⟨hf.cellAt hd.c0 hg,hf.cellAt hd.c1 hg,hf.cellAt hd.c2 hg,hf.cellAt hd.c3 hg,hf.cellAt hd.c4 hg,hf.cellAt hd.c5 hg,hf.cellAt hd.c6 hg⟩
 ·obtain⟨es,c,h9⟩:=h4.block e
  rw[List.mem_singleton] at hm
  subst hm
  rw[ho] at h9
  cases h9
theorem Tryz.infoBs:(Tryz.prog.info? 82).map (fun i=>(i.zero,i.size,i.bytes))=some (some (.slice none 0 0),1,24):=by kernel_rfl
theorem Tryz.infoB4:(Tryz.prog.info? 4).map (fun i=>(i.zero,i.size,i.bytes))=some (some (.bool false),1,1):=by kernel_rfl
def usRow (s:SesD) (f:Nat→Nat→Bool):List (List Bool):=(List.range s.roles.length).map fun i=>(List.range (s.rol i).steps.length).map (f i)
theorem usRow_at {s:SesD} {f:Nat→Nat→Bool} {i:Nat} (h:i < s.roles.length):(usRow s f)[i]?=some ((List.range (s.rol i).steps.length).map (f i)):=by
 unfold usRow
 rw[List.getElem?_map,List.getElem?_range h]
 rfl
def usC (L:List (Nat × List Bool)):List Value:=L.map fun e=>.slice (some ⟨e.1,0,none⟩) e.2.length e.2.length
structure UsO (w1:World) (ob:Nat) (L:List (Nat × List Bool)) (v:Value) (V:World):Prop where
 fr:Frm [ob] w1 V
 lt:ob < w1.heap.size
 box:V.heap[ob]?=some (.cells #[v] 71 (0,0))
 row:V.ownsRow w1.heap.size 82 1 v L.length (usC L)
 at':∀ (j:Nat) (e:Nat × List Bool),L[j]?=some e→w1.heap.size≤e.1∧V.heap[e.1]?=some (.cells (e.2.map Value.bool).toArray 4 (0,0))
 nd:∀ (i j:Nat) (a b:Nat × List Bool),L[i]?=some a→L[j]?=some b→a.1=b.1→i=j
section
variable {w1 V V':World} {ob:Nat} {L:List (Nat × List Bool)} {v:Value}
theorem UsO.keep {F:List Nat} (h:UsO w1 ob L v V) (hf:Frm F V V') (hn:∀ k c t fr,V.heap[k]?=some (.cells c t fr)→t=71∨t=82∨t=4→k∉F) (hF:∀ k∈F,k∈[ob]∨w1.heap.size≤k):UsO w1 ob L v V':=
 ⟨h.fr.then hf hF,h.lt,hf.at h.box (hn _ _ _ _ h.box (.inl rfl)),hf.owns h.row (fun k hk=>by
  obtain⟨c,hc⟩:=ownBlock_type h.row hk
  exact hn _ _ _ _ hc (.inr (.inl rfl))),fun j e he=>⟨(h.at' j e he).1,hf.at (h.at' j e he).2 (hn _ _ _ _ (h.at' j e he).2 (.inr (.inr rfl)))⟩,h.nd⟩
theorem UsO.frm (h:UsO w1 ob L v V) (hf:Frm [] V V'):UsO w1 ob L v V':=h.keep hf (by simp) (by simp)
theorem UsO.bk {B:Nat} (h:UsO w1 ob L v V) (hb:Bk B V V') (hB:w1.heap.size≤B):UsO w1 ob L v V':=by
 refine⟨hb.oldG h.fr hB,h.lt,hb.at h.box rfl,?_,fun j e he=>⟨(h.at' j e he).1,hb.at (h.at' j e he).2 rfl⟩,h.nd⟩
 obtain⟨h1,h2⟩:=h.row
 refine⟨h1,?_⟩
 rcases h2 with h2 | ⟨g,cap,cur,hv,hg,hh,r⟩
 ·exact .inl h2
 ·exact .inr ⟨g,cap,cur,hv,hg,hb.at hh rfl,r⟩
theorem UsO.grown (h:UsO w1 ob L v V) (hg:V.grownBy V' v.ownBlock):V'.heap[ob]?=some (.cells #[v] 71 (0,0)):=by
 have f2:Frm v.ownBlock.toList V V':=(Frm.refl _ _).grown hg fun q hq=>.inl (by rw[hq];simp)
 refine f2.at h.box fun hm=>?_
 rw[Option.mem_toList] at hm
 obtain⟨c,hc⟩:=ownBlock_type h.row hm
 exact ty_ne h.box hc (by decide) rfl
theorem UsO.add (h:UsO w1 ob L v V) {n:Nat} {o:Obj} {v':Value} {W2:World}
  (hg:((V.alloc (.cells (madeCells #[.bool false] n) 4)).alloc o).grownBy W2 v.ownBlock) (ho:W2.ownsRow w1.heap.size 82 1 v' (L.length + 1) (usC L ++ [.slice (some ⟨V.heap.size,0,none⟩) n n])) :
  UsO w1 ob (L ++ [(V.heap.size,List.replicate n false)]) v' (W2.setCell ⟨ob,0,none⟩ v'):=by
 have f1:Frm [] V ((V.alloc (.cells (madeCells #[.bool false] n) 4)).alloc o):=((Frm.refl [] V).alloc _).alloc _
 have h1:=h.frm f1
 have hnew:((V.alloc (.cells (madeCells #[.bool false] n) 4)).alloc o).heap[V.heap.size]?=some (.cells (madeCells #[.bool false] n) 4 (0,0)):=alloc_at (heap_alloc_new _ _)
 have hty:∀ q,v.ownBlock=some q→∃ c,((V.alloc (.cells (madeCells #[.bool false] n) 4)).alloc o).heap[q]?=some (.cells c 82 (0,0)):=fun q hq=>ownBlock_type h1.row hq
 have f2:Frm v.ownBlock.toList ((V.alloc (.cells (madeCells #[.bool false] n) 4)).alloc o) W2:=(Frm.refl _ _).grown hg fun q hq=>.inl (by rw[hq];simp)
 have ne:∀ {k:Nat} {c:Array Value} {t:TypeId} {fr:Nat × Nat},((V.alloc (.cells (madeCells #[.bool false] n) 4)).alloc o).heap[k]?=some (.cells c t fr)→t≠82→k∉v.ownBlock.toList:=fun hk ht hm=>by
  rw[Option.mem_toList] at hm
  obtain⟨c,hc⟩:=hty _ hm
  exact ty_ne hk hc ht rfl
 have b2:=f2.at h1.box (ne h1.box (by decide))
 have f3:Frm [ob] W2 (W2.setCell ⟨ob,0,none⟩ v'):=(Frm.refl _ _).setCell _ (.inl (by simp)) _
 refine⟨((h1.fr.then f2 fun q hq=>.inr ?_)).trans f3,h.lt,(block_setCell b2 0 v').trans rfl,?_,fun j e he=>?_,fun i j a b ha hb hab=>?_⟩
 ·rw[Option.mem_toList] at hq
  exact ownBlock_ge h1.row hq
 ·have h9:=f3.owns ho fun k hk=>by
   obtain⟨c,hc⟩:=ownBlock_type ho hk
   rw[List.mem_singleton]
   exact ty_ne hc b2 (by decide)
  have e9:usC (L ++ [(V.heap.size,List.replicate n false)])=usC L ++ [.slice (some ⟨V.heap.size,0,none⟩) n n]:=by
   unfold usC
   rw[List.map_append]
   simp
  rw[e9,List.length_append]
  exact h9
 ·rcases Nat.lt_or_ge j L.length with hj | hj
  ·rw[List.getElem?_append_left hj] at he
   have h9:=h1.at' j e he
   exact⟨h9.1,f3.at (f2.at h9.2 (ne h9.2 (by decide))) (by rw[List.mem_singleton];exact ty_ne h9.2 h1.box (by decide))⟩
  ·rw[List.getElem?_append_right hj] at he
   obtain⟨hj0,hj1⟩:j - L.length=0∧e=(V.heap.size,List.replicate n false):=by
    cases hz:j - L.length with
    | zero=>rw[hz] at he;exact⟨rfl,by simpa using he.symm⟩
    | succ k=>rw[hz] at he;simp at he
   subst hj1
   have hm:((List.replicate n false).map Value.bool).toArray=madeCells #[.bool false] n:=by
    rw[List.map_replicate,← toList_madeCells_one]
   rw[hm]
   exact⟨h.fr.size,f3.at (f2.at hnew (ne hnew (by decide))) (by rw[List.mem_singleton];exact ty_ne hnew h1.box (by decide))⟩
 ·have lt9:∀ (k:Nat) (e:Nat × List Bool),L[k]?=some e→e.1 < V.heap.size:=fun k e he=>lt_of_block (h.at' k e he).2
  have hc:∀ (k:Nat) (e:Nat × List Bool),(L ++ [(V.heap.size,List.replicate n false)])[k]?=some e→(k < L.length∧L[k]?=some e)∨(k=L.length∧e.1=V.heap.size):=fun k e he=>by
   rcases Nat.lt_or_ge k L.length with hj | hj
   ·rw[List.getElem?_append_left hj] at he;exact .inl ⟨hj,he⟩
   ·rw[List.getElem?_append_right hj] at he
    cases hz:k - L.length with
    | zero =>
      rw[hz] at he
      exact .inr ⟨by omega,by simp at he;rw[← he]⟩
    | succ k=>rw[hz] at he;simp at he
  rcases hc i a ha with ⟨-,ha⟩ | ⟨hi,ha⟩ <;> rcases hc j b hb with ⟨-,hb⟩ | ⟨hj,hb⟩
  ·exact h.nd i j a b ha hb hab
  ·have:=lt9 i a ha;omega
  ·have:=lt9 j b hb;omega
  ·omega
theorem UsO.put (h:UsO w1 ob L v V) {i k b:Nat} {r:List Bool} (hi:L[i]?=some (b,r)):UsO w1 ob (L.set i (b,r.set k true)) v (V.setCell ⟨b,k,none⟩ (.bool true)):=by
 have hb:=h.at' i _ hi
 have hl:=lt_of_some hi
 have f3:Frm [b] V (V.setCell ⟨b,k,none⟩ (.bool true)):=(Frm.refl _ _).setCell _ (.inl (by simp)) _
 refine⟨h.fr.then f3 fun q hq=>.inr (by rw[List.mem_singleton] at hq;subst hq;exact hb.1),h.lt,f3.at h.box (by rw[List.mem_singleton];exact ty_ne h.box hb.2 (by decide)),?_,fun j e he=>?_,fun p q x y hx hy hxy=>?_⟩
 ·have h9:=f3.owns h.row fun k hk=>by
   obtain⟨c,hc⟩:=ownBlock_type h.row hk
   rw[List.mem_singleton]
   exact ty_ne hc hb.2 (by decide)
  have e9:usC (L.set i (b,r.set k true))=usC L:=by
   unfold usC
   apply List.ext_getElem?
   intro j
   rw[List.getElem?_map,List.getElem?_map]
   by_cases hj:i=j
   ·subst hj
    rw[List.getElem?_set_self hl,hi]
    simp
   ·rw[List.getElem?_set_ne hj]
  rw[e9,List.length_set]
  exact h9
 ·by_cases hj:i=j
  ·subst hj
   rw[List.getElem?_set_self hl] at he
   cases he
   refine⟨hb.1,(block_setCell hb.2 k _).trans ?_⟩
   congr 2
   apply Array.ext_getElem?
   intro q
   simp[List.map_set]
  ·rw[List.getElem?_set_ne hj] at he
   have h9:=h.at' j e he
   exact⟨h9.1,f3.at h9.2 (by rw[List.mem_singleton];exact fun e9=>hj (h.nd i j _ _ hi he e9.symm))⟩
 ·have hc:∀ (q:Nat) (x:Nat × List Bool),(L.set i (b,r.set k true))[q]?=some x→∃ x',L[q]?=some x'∧x'.1=x.1:=fun q x hx=>by
   by_cases hj:i=q
   ·subst hj
    rw[List.getElem?_set_self hl] at hx
    cases hx
    exact⟨_,hi,rfl⟩
   ·rw[List.getElem?_set_ne hj] at hx
    exact⟨x,hx,rfl⟩
  obtain⟨x',hx',e1⟩:=hc p x hx
  obtain⟨y',hy',e2⟩:=hc q y hy
  exact h.nd p q x' y' hx' hy' (by rw[e1,e2,hxy])
theorem UsO.get (h:UsO w1 ob L v V) {i b:Nat} {r:List Bool} (hi:L[i]?=some (b,r)):∃ g n' c,v=.slice (some ⟨g,0,none⟩) n' c∧V.cell? ⟨g,i,none⟩=some (.slice (some ⟨b,0,none⟩) r.length r.length):=by
 have hl:=lt_of_some hi
 obtain⟨g,c,cur,rfl,-,-⟩:=own_block h.row (by omega)
 refine⟨g,_,c,rfl,(World.ownsRow.cellAt h.row i (by omega)).trans ?_⟩
 unfold usC
 rw[List.getElem?_map,hi]
 rfl
end
def usdB (i k:Nat) (m:Mv):Bool:=decide (m.kind=1) && decide (m.role=(i:Int)) && decide (m.step=(k:Int))
def usF (s:SesD) (N:List Nd) (ms:List Mv) (i k:Nat):Bool:=usedP s N i k || ms.any (usdB i k)
theorem usF_nil (s:SesD) (N:List Nd):usF s N []=usedP s N:=by
 funext i k
 unfold usF
 simp
theorem usF_snoc {s:SesD} {N:List Nd} {d:Nd} {ms:List Mv} (h:movesP s d.st=ms):usF s N ms=usedP s (N ++ [d]):=by
 funext i k
 unfold usF usedP
 have e:usdB i k=fun m=>decide (m.kind=1) && decide (m.role=(i:Int)) && decide (m.step=(k:Int)):=rfl
 rw[List.any_append,← h,e]
 simp
theorem usF_step (s:SesD) (N:List Nd) (ms:List Mv) (m:Mv) (i k:Nat):usF s N (ms ++ [m]) i k=(usF s N ms i k || usdB i k m):=by
 unfold usF
 rw[List.any_append,Bool.or_assoc]
 simp
theorem usRow_same {s:SesD} {f g:Nat→Nat→Bool} (h:∀ i k,f i k=g i k):usRow s f=usRow s g:=by
 have:f=g:=by funext i k;exact h i k
 rw[this]
theorem usRow_put {s:SesD} {f:Nat→Nat→Bool} {i k:Nat}:(usRow s f).set i (((List.range (s.rol i).steps.length).map (f i)).set k true)=usRow s (fun p q=>f p q || (decide (p=i) && decide (q=k))):=by
 unfold usRow
 apply List.ext_getElem?
 intro p
 by_cases hp:i=p
 ·subst hp
  rcases Nat.lt_or_ge i s.roles.length with hl | hl
  ·rw[List.getElem?_set_self (by simpa using hl),List.getElem?_map,List.getElem?_range hl]
   simp only[Option.map_some,Option.some.injEq]
   apply List.ext_getElem?
   intro q
   by_cases hq:k=q
   ·subst hq
    rcases Nat.lt_or_ge k (s.rol i).steps.length with h2 | h2
    ·rw[List.getElem?_set_self (by simpa using h2),List.getElem?_map,List.getElem?_range h2]
     simp
    ·rw[List.getElem?_eq_none (by simpa using h2),List.getElem?_eq_none (by simpa using h2)]
   ·rw[List.getElem?_set_ne hq,List.getElem?_map,List.getElem?_map]
    rcases Nat.lt_or_ge q (s.rol i).steps.length with h2 | h2
    ·rw[List.getElem?_range h2]
     simp[Ne.symm hq]
    ·rw[List.getElem?_eq_none (by simpa using h2)]
     rfl
  ·rw[List.getElem?_eq_none (by simpa using hl),List.getElem?_eq_none (by simpa using hl)]
 ·rw[List.getElem?_set_ne hp,List.getElem?_map,List.getElem?_map]
  rcases Nat.lt_or_ge p s.roles.length with h2 | h2
  ·rw[List.getElem?_range h2]
   simp[Ne.symm hp]
  ·rw[List.getElem?_eq_none (by simpa using h2)]
   rfl
theorem usRow_no {s:SesD}:usRow s (usedP s [])=(List.range s.roles.length).map fun j=>List.replicate (s.rol j).steps.length false:=by
 unfold usRow
 apply List.map_congr_left
 intro i _
 have e:usedP s [] i=fun _=>false:=by funext k;rfl
 rw[e,List.map_const',List.length_range]
theorem mv_bounds {s:SesD} {x:PS} {m:Mv} (hm:m∈movesP s x) (hk:m.kind=1):∃ a b:Nat,m.role=a∧m.step=b∧a < s.roles.length∧b < (s.rol a).steps.length:=by
 rcases mem_movesP.1 hm with ⟨a,b,h1,h2,hm2⟩ | ⟨a,b,-,-,hm2⟩
 ·obtain⟨-,e2,e3,-⟩:=mem_stepMv hm2
  exact⟨a,b,e2,e3,h1,h2⟩
 ·have:=(mem_loseMv.1 hm2).1
  rw[this] at hk
  cases hk
theorem KB.bk {B:Nat} {W V V':World} (h:KB W V) (hb:Bk B V V') (hB:W.heap.size≤B):KB W V':=fun k o hk ho=>hb.block k o (h k o hk ho) (.inl (by have:=lt_of_block hk;omega))
theorem MvI.bk {B B':Nat} {v:Value} {L:List Mv} {W W':World} (h:MvI B v L W) (hb:Bk B' W W'):MvI B v L W':=⟨hb.at h.b rfl,h.a.frm fun _ _ _ h=>h.bk hb⟩
theorem MvI.box {B b:Nat} {u:Value} {L:List Mv} {W V:World} {r:List Bool} (h:MvI B u L W) (hb:W.heap[b]?=some (.cells (r.map Value.bool).toArray 4 (0,0))) (hf:Frm [b] W V):MvI B u L V:=
 ⟨hf.at h.b (by rw[List.mem_singleton];exact ty_ne h.b hb (by decide)),h.a.frm fun g o m hm=>by
  have hg:g∉[b]:=fun hx=>by
   rw[List.mem_singleton] at hx
   subst hx
   have:=hm.1
   rw[cell_of hb] at this
   simp at this
  exact⟨hf.cellAt hm.1 hg,hf.cellAt hm.2 hg,hf.cellAt hm.3 hg,hf.cellAt hm.4 hg⟩⟩
def usEx (g n cv b12 a bb q b:Nat):Nat→Value
 | 0=>.slice (some ⟨g,0,none⟩) n cv
 | 1=>.pointer (some ⟨b12,1,none⟩)
 | 2=>.int .i64 (a:Int)
 | 3=>.pointer (some ⟨g,a,none⟩)
 | 4=>.slice (some ⟨bb,0,none⟩) q q
 | 5=>.pointer (some ⟨b12,2,none⟩)
 | 6=>.int .i64 (b:Int)
 | 7=>.pointer (some ⟨bb,b,none⟩)
 | _=>undef
theorem upd_ok {D:Nat→Bool} {f ex:Nat→Value} {i:Nat} {v:Value} (h:∀ j,D j=true→f j=ex j) (e:v=ex i):∀ j,updD D i j=true→updV f i v j=ex j:=fun j hj=>by
 unfold updD at hj
 unfold updV
 split
 ·rename_i h1
  rw[h1]
  exact e
 ·rename_i h1
  rw[if_neg h1] at hj
  exact h j hj
def BsAt (W:World) (g o:Nat) (r:List Bool):Prop:=∃ b,W.cell? ⟨g,o,none⟩=some (.slice (some ⟨b,0,none⟩) r.length r.length)∧W.heap[b]?=some (.cells (r.map Value.bool).toArray 4 (0,0))
theorem UsO.arr {w1 V:World} {ob:Nat} {L:List (Nat × List Bool)} {v:Value} (h:UsO w1 ob L v V):Arr 1 BsAt V v (L.map Prod.snd):=by
 obtain⟨ao,cap,rfl⟩:=own_shape h.row
 refine⟨ao,cap,by rw[List.length_map],fun i r hr=>?_⟩
 obtain⟨⟨b,r'⟩,he,rfl⟩:=some_map hr
 obtain⟨g,n',c,e1,e2⟩:=h.get he
 cases e1
 refine⟨g,0,rfl,b,?_,(h.at' i _ he).2⟩
 rw[Nat.zero_add,Nat.mul_one]
 exact e2
theorem us_res {V:World} {ob n c:Nat} {ao:Option Addr} {fn:Func} {tmps:Array Value} (h:V.heap[ob]?=some (.cells #[.slice ao n c] 71 (0,0))) (hf:fn.results=#[.cell 4 71,.tmp 5])
  (h4:tmps.getD 4 undef=.pointer (some ⟨ob,0,none⟩)) (h5:tmps.getD 5 undef=.int .i64 0):(results fn tmps).run Tryz.prog V=.ok (.tuple #[.slice ao n c,.int .i64 0]) V:=by
 have h4':tmps[4]?.getD undef=.pointer (some ⟨ob,0,none⟩):=by simpa using h4
 have h5':tmps[5]?.getD undef=.int .i64 0:=by simpa using h5
 have c4:=cell_of h 0
 simp at c4
 simp[results,hf,h4',h5',asAddr,c4,go_sem]
def UsdTo (w:World) (s:SesD) (lim:Nat) (v:Value) (w':World):Prop:=
 Frm [] w w'∧∃ u,v=.tuple #[u,.int .i64 0]∧Arr 1 BsAt w' u (usRow s (usedP s (searchP s lim).1))
theorem field_roles (a:ByteArray) (ao:Option Addr) (n c:Nat) (x y:Int) (W:World):(Instr.field 25 (.agg #[.string a,.slice ao n c,.int .i64 x,.int .i64 y]) 1).run Tryz.prog W=.ok (.slice ao n c) W:=by
 simp[Instr.field,go_sem,Tryz.underlying25,asAgg,part]
attribute [local go_sem] Oper.semAt_some
set_option maxHeartbeats 4000000 in
set_option maxRecDepth 100000 in
theorem xpUsed_any (s:SesD) (yb fb lim:Nat) (w:World) (h:SyR w s yb fb) (h1:1≤lim) (h2:lim≤200000) (hwh:(searchP s lim).2=true):Calls Tryz.prog 30 #[.pointer (some ⟨yb,0,none⟩),.int .i64 lim] w (RetV (UsdTo w s lim)):=by
 have HY:=Lib.hid h;have HL:=Lib.hid (⟨h1,h2⟩:1≤lim∧lim≤200000)
 obtain⟨W0,hW0⟩:∃ W0,(w.alloc (.cells #[.pointer (some ⟨yb,0,none⟩)] 27)).alloc (.cells #[.slice none 0 0] 71)=W0:=⟨_,rfl⟩
 obtain⟨r4,h4⟩:∃ b,w.heap.size + 1=b:=⟨_,rfl⟩
 obtain⟨r2,h3⟩:∃ b,w.heap.size=b:=⟨_,rfl⟩
 have HF0:Hid (Frm [] w W0):=Lib.hid (by rw[← hW0];exact((Frm.refl _ _).alloc _).alloc _)
 have HQ2:Hid (W0.heap[r2]?=some (.cells #[.pointer (some ⟨yb,0,none⟩)] 27 (0,0))):=Lib.hid (by rw[← hW0,← h3];exact alloc_at (heap_alloc_new _ _))
 have HQ4:Hid (W0.heap[r4]?=some (.cells #[.slice none 0 0] 71 (0,0))):=Lib.hid (by rw[← hW0,← h4];exact alloc_top (by simp))
 have HR4:Hid (w.heap.size≤r4):=Lib.hid (by omega)
 have CS:=Lib.hid (xSearch_any s yb fb lim W0 (h.frm HF0.out) h1 h2)
 have HE:=Lib.hid hW0;have H4:=Lib.hid h4;have H3:=Lib.hid h3;have HWH:=Lib.hid hwh
 clear h h1 h2 hW0 h4 h3 hwh
 refine calls_of_marks Tryz.func30 rfl ?_
 simp only[Tryz.ntmps30,List.size_toArray,List.length_cons,List.length_nil,Nat.reduceAdd,Nat.reduceSub,Array.replicate_succ,Array.replicate_zero,List.push_toArray,List.append_toArray,List.nil_append,List.cons_append]
 go_upto_region 1 with fail
 rw[HE.out,H4.out,H3.out]
 clear HE H4 H3
 have c2:=cell_of HQ2.out 0
 go_upto_region 2 with (first
  | (go_at_call 57;go_must (refine CS.out.mono ?_;rintro e w1 ⟨v,rfl,pb,N,rfl,hsp,hN,hf⟩;have HSP:=Lib.hid hsp;have HN:=Lib.hid hN;have HF1:=Lib.hid hf;clear hsp hN hf CS c2)))
 have CW:=Lib.hid (xWhole_eq HSP.out)
 rw[HWH.out] at CW
 have CSe:=Lib.hid (pSession_any s yb fb w1 (HY.out.frm (HF0.out.trans HF1.out)))
 have q2:=cell_of (HF1.out.at HQ2.out (by simp)) 0
 have hfd:=field_roles s.name
 go_upto_region 7 with (first
  | (go_at_call 59;go_must (refine CW.out.mono ?_;rintro e w4 ⟨rfl,rfl⟩;clear CW))
  | (go_at_call 74;go_must (refine CSe.out.mono ?_;rintro e w2 ⟨v,rfl,ho⟩;obtain⟨⟨g2,c2,rfl⟩,hf2,hses⟩:=ho;have HF2:=Lib.hid hf2;have HSS:=Lib.hid (hses w2 (Agree.refl _ _));clear hf2 hses CSe q2)))
 clear hfd
 obtain⟨rv,hrv,hrl⟩:=HSS.out
 cases hrv
 obtain⟨n,hn⟩:∃ n,s.roles.length=n:=⟨_,rfl⟩
 have HRL:=Lib.hid hrl;have HNn:=Lib.hid hn
 rw[hn] at HRL ⊢
 have HSY:Hid (SyR w2 s yb fb):=Lib.hid (HY.out.frm (HF0.out.trans (HF1.out.trans HF2.out)))
 have HN4:Hid (n≤4):=Lib.hid (by rw[← hn];exact HY.out.ok.n4)
 have HN2:Hid (2≤n):=Lib.hid (by rw[← hn];exact HY.out.ok.n2)
 have HWI:Hid (∀ i:Nat,i < n→wrap64 ((i:Int) + 1)=((i + 1:Nat):Int)):=Lib.hid fun i hi=>by have:=HN4.out;unfold wrap64;omega
 have HOB:Hid (w2.heap[r4]?=some (.cells #[.slice none 0 0] 71 (0,0))):=Lib.hid (HF2.out.at (HF1.out.at HQ4.out (by simp)) (by simp))
 have HSP2:=Lib.hid (HSP.out.frm HF2.out)
 have HU0:Hid (UsO w2 r4 [] (.slice none 0 0) w2):=Lib.hid ⟨Frm.refl _ _,lt_of_block HOB.out,HOB.out,World.ownsRow_nil _ _ _ _,fun j e he=>by simp at he,fun i j a b ha=>by simp at ha⟩
 have HF02:Hid (Frm [] w w2):=Lib.hid (HF0.out.trans (HF1.out.trans HF2.out))
 clear hn hrl HSS HSP HQ4
 go_loopw [31] (fun s31 wr=>∃ i:Nat,s31=.int .i64 i∧i≤n∧∃ L v,L.length=i∧L.map Prod.snd=(List.range i).map (fun j=>List.replicate (s.rol j).steps.length false)∧UsO w2 r4 L v wr) (fun s31 _=>n - (intOf s31).toNat)
 case atStart=>exact⟨0,rfl,Nat.zero_le _,[],_,rfl,rfl,HU0.out⟩
 case round =>
  obtain⟨i,rfl,hi,L,v,hLi,hLm,hus⟩:=hrel
  obtain⟨av,cv,rfl⟩:=own_shape hus.row
  have HU:=Lib.hid hus;have HLI:=Lib.hid hLi;have HLM:=Lib.hid hLm
  clear hus hLi hLm
  obtain⟨wa,hwa⟩:∃ wa,wa=wr:=⟨_,rfl⟩
  subst hwa
  by_cases hlt:i < n
  ·have hlt':(i:Int) < (n:Int):=by omega
   have hin:i < s.roles.length:=by rw[HNn.out];exact hlt
   have hrl:Rls wa (.slice (some ⟨g2,0,none⟩) n c2) s.roles:=HRL.out.fg (fg_res HOB.out) HU.out.fr
   obtain⟨rb,ro,e1,sv,cv',tv,d0,d1,d2,d3,hr3⟩:=hrl.get (SesD.rol_some hin)
   cases e1
   obtain⟨r,hrr⟩:∃ r,s.rol i=r:=⟨_,rfl⟩
   rw[hrr] at d0 hr3
   obtain⟨aS,cS,rfl⟩:=hr3.sts.shape
   obtain⟨aC,cC,rfl⟩:=hr3.ctrs.shape
   obtain⟨aT,cT,rfl⟩:=hr3.steps.shape
   have hgl:=cell_lt d0
   obtain⟨m,hm⟩:∃ m,r.steps.length=m:=⟨_,rfl⟩
   have HMm:Hid ((s.rol i).steps.length=m):=Lib.hid (by rw[hrr];exact hm)
   have HM80:Hid (m≤1000):=Lib.hid (by rw[← HMm.out];have:=(HY.out.ok.rol _ (List.mem_of_getElem? (SesD.rol_some hin))).t80;omega)
   rw[hm] at d3
   simp only[Nat.zero_add] at d0 d1 d2 d3
   clear hr3 hin hrr hm hrl
   go_upto_region 9 with fail
   clear d0 d1 d2 d3 hgl
   obtain⟨V0,hV0⟩:∃ V0,wa.alloc (.cells #[.string r.name,.slice aS r.sts.length cS,.slice aC r.ctrs.length cC,.slice aT m cT] 87)=V0:=⟨_,rfl⟩
   obtain⟨b8,hb8⟩:∃ b,wa.heap.size=b:=⟨_,rfl⟩
   have F0:Hid (Frm [] wa V0):=Lib.hid (by rw[← hV0];exact(Frm.refl [] wa).alloc _)
   have Q8:Hid (V0.heap[b8]?=some (.cells #[.string r.name,.slice aS r.sts.length cS,.slice aC r.ctrs.length cC,.slice aT m cT] 87 (0,0))):=Lib.hid (by rw[← hV0,← hb8];exact heap_alloc_new _ _)
   rw[hV0,hb8]
   clear hV0 hb8
   have HU1:=Lib.hid (HU.out.frm F0.out)
   have HCT:Hid (∀ V,Frm [] V0 V→V.cell? ⟨r4,0,none⟩=some (.slice av L.length cv)∧V.cell? ⟨b8,3,none⟩=some (.slice aT m cT)):=Lib.hid fun V hV=>⟨cell_of (hV.at HU1.out.box (by simp)) 0,cell_of (hV.at Q8.out (by simp)) 3⟩
   have hmk:=run_make_row' (P:=Tryz.prog) 82 4 (.bool false) 1 Tryz.underlying82 Tryz.infoB4 rfl .i64 .i64 m (by have:=HM80.out;omega) (by have:=HM80.out;omega)
   obtain⟨i0,hi0,hz0,hz1,hz2⟩:=info_parts Tryz.infoBs
   have HL4:Hid (L.length≤4):=Lib.hid (by rw[HLI.out];have:=HN4.out;omega)
   generalize hQQ:Exit.inBlock _ _=QQ
   refine wp_mono (Q:=fun e a' w'=>match e with | .normal=>QQ .normal a' w' | _=>False) ?_ (fun e a' w' h=>by cases e <;> first | exact h | exact h.elim)
   refine heldL_start [] (wrFrom 6) (by kernel_rfl) ?_
   refine htP 1 ?_ ?_ ?_
   rotate_left
   ·intro w'
    go_simp
    try rfl
   try simp only[nrm]
   refine htL 0 ?_ ?_ ?_
   rotate_left
   ·intro w' hC
    obtain⟨x0,x1⟩:=HCT.out w' ((Frm.refl [] V0).drew.trans hC)
    clear hC
    go_simp
    try rfl
   try simp only[nrm]
   refine cnt 2 ?_
   iterate 2
    refine hcL ?_ ?_ ?_
    rotate_left
    ·intro w' hC
     obtain⟨x0,x1⟩:=HCT.out w' ((Frm.refl [] V0).drew.trans hC)
     clear hC
     go_simp
     try rfl
    try simp only[nrm,Nat.reduceAdd]
   refine tcn ?_
   obtain⟨wd,hwd⟩:∃ wd,V0.drew=wd:=⟨_,rfl⟩
   have HUd:Hid (UsO w2 r4 L (.slice av L.length cv) wd):=Lib.hid (by rw[← hwd];exact HU1.out.frm (Frm.refl [] V0).drew)
   rw[hwd]
   clear hwd
   refine honL 4 ?_
   refine heldL_step (i:=4) rfl rfl (by rfl) (fun K' hK'=>?_)
   go_simp
   (skip)
   refine hK'.out _ _ ((Frm.refl _ _).alloc _) ?_
   clear hK' K'
   try simp only[nrm]
   refine honL 5 ?_
   refine heldL_step (i:=5) rfl rfl (by rfl) (fun K' hK'=>?_)
   go_simp
   (skip)
   refine hK'.out _ _ ((Frm.refl _ _).alloc _) ?_
   clear hK' K'
   try simp only[nrm]
   have hr9:((wd.alloc (.cells (madeCells #[.bool false] m) 4)).alloc (.cells #[.slice (some ⟨wd.heap.size,0,none⟩) m m] 82)).heap[wd.heap.size + 1]?=some (.cells #[.slice (some ⟨wd.heap.size,0,none⟩) m m] 82 (0,0)):=alloc_top (by simp)
   refine honL 6 ?_
   refine heldL_write (i:=6) rfl (by rfl) (by rfl) (fun K' hK'=>?_)
   refine wp_own_step _ _ 71 rfl w2.heap.size 82 Tryz.underlying71 hi0 hz0 hz1 hz2 rfl (by decide) (.slice av L.length cv) L.length (usC L) rfl (HUd.out.frm (((Frm.refl [] wd).alloc _).alloc _)).row _ 1 1 [.slice (some ⟨wd.heap.size,0,none⟩) m m] rfl rfl (by have:=row_cells hr9;simpa using this) (by simp[Value.oneCell']) (by have:=HL4.out;unfold maxLen;omega) (by have:=HL4.out;omega) (by have:=HUd.out.fr.size;simp;omega) ?_
   intro v' w3 h9 hg;have HO9:=Lib.hid h9;have HG9:=Lib.hid hg;obtain⟨a9,c9,hsh9⟩:=own_shape h9;subst hsh9;clear h9 hg
   have hb3:=(HUd.out.frm (((Frm.refl [] wd).alloc _).alloc _)).grown HG9.out
   have x3:=cell_of hb3 0
   have y3:=free_of hb3 0
   refine hK'.out _ _ ?_
   clear hK' K'
   try simp only[nrm]
   refine honL 7 ?_
   refine heldL_write (i:=7) rfl (by rfl) (by rfl) (fun K' hK'=>?_)
   go_simp
   (skip)
   refine hK'.out _ _ ?_
   clear hK' K'
   try simp only[nrm]
   refine heldL_done (by kernel_rfl) ?_ _
   have HU9:=Lib.hid (HUd.out.add HG9.out HO9.out)
   subst hQQ
   obtain⟨w9,hw9⟩:∃ w9,w3.setCell ⟨r4,0,none⟩ (.slice a9 (L.length + 1) c9)=w9:=⟨_,rfl⟩
   rw[hw9] at HU9 ⊢
   clear hw9 hr9 hb3 x3 y3 hmk hi0 hz0 hz1 hz2
   go_wp2
   refine⟨⟨i + 1,congrArg (Value.int .i64) (HWI.out i hlt),hlt,_,_,?_,?_,HU9.out⟩,meas_up hlt (HWI.out i hlt)⟩
   ·rw[List.length_append,HLI.out];rfl
   ·rw[List.map_append,HLM.out,List.range_succ,List.map_append,← HMm.out];rfl
  ·obtain rfl:n=i:=by omega
   have hge:¬ (n:Int) < (n:Int):=by omega
   have HSPa:=Lib.hid (HSP2.out.box (by have:=HN2.out;have:=HNn.out;omega) HOB.out HU.out.fr)
   go_upto_region 12 with (first
    | (go_at_call 91;go_must (refine(xStates_any _ _).mono ?_;rintro e w3 ⟨u,rfl,bx,rfl,hbx,hf⟩;have HBX:=Lib.hid hbx;have HF3:=Lib.hid hf;clear hbx hf)))
   have HU3:Hid (UsO w2 r4 L (.slice av n cv) w3):=Lib.hid (by
    have h9:=HU.out.frm HF3.out
    rw[HLI.out] at h9
    exact h9)
   obtain⟨nn,hfo⟩:=search_ok (lim:=lim) HY.out.ok HL.out.1
   have hsi:SI s lim nn (N.map Prod.fst):=by rw[HN.out];exact hfo.toSI
   have HLN:Hid (N.length≤200000):=Lib.hid (by
    have:=hsi.top
    rw[List.length_map] at this
    have:=HL.out
    omega)
   have HN0:Hid (0 < s.roles.length):=Lib.hid (by have:=HN2.out;have:=HNn.out;omega)
   have HW23:Hid (w2.heap.size≤w3.heap.size):=Lib.hid HU3.out.fr.size
   clear hfo hsi hge hlt hi HU
   refine wp_rangeList (P:=Tryz.prog) rfl (enters_of Tryz.func151 (by kernel_rfl) rfl) (st_iter bx yb pb s (searchP s lim).2 N (by have:=HLN.out;omega)) (fun _=>rfl)
    (fun pre V=>(∃ L',L'.map Prod.snd=usRow s (usedP s ((N.map Prod.fst).take pre.length))∧UsO w2 r4 L' (.slice av n cv) V)∧V.heap[bx]?=some (.cells #[.pointer (some ⟨pb,0,none⟩)] 122 (0,0)))
    (fun _ _ _=>False)
    (fun _ _ _ h hb=>⟨by obtain⟨⟨L',h1,h2⟩,-⟩:=h;exact⟨L',h1,h2.bk hb HW23.out⟩,hb.at h.2 rfl⟩)
    (fun _ _ _ _ h _=>h)
    (fun _ V h=>⟨h.2,by obtain⟨⟨L',h1,h2⟩,-⟩:=h;exact HSP2.out.box HN0.out HOB.out h2.fr⟩)
    ⟨⟨L,by rw[List.length_nil,List.take_zero,usRow_no,HNn.out];exact HLM.out,HU3.out⟩,HBX.out⟩ ?_ ?_ (fun _ _ _ _ _ _ _ _ h _=>h.elim)
   ·intro l1 pre y rest Wr hxs hI hl hlr
    obtain⟨hy,hpl⟩:=numL_pre hxs
    have hLk:=numL_some hxs
    obtain⟨yi,ym⟩:=y
    simp only at hy hLk
    subst hy
    have HI:=Lib.hid hI
    have HLQ:=Lib.hid hlr;have HL1:=Lib.hid hl
    clear hI hl hlr hxs
    gi_wp2
    refine⟨KB.refl _,fun Wq hbk hlr=>?_⟩
    have HI2:Hid ((∃ L',L'.map Prod.snd=usRow s (usedP s ((N.map Prod.fst).take pre.length))∧UsO w2 r4 L' (.slice av n cv) Wq)∧Wq.heap[bx]?=some (.cells #[.pointer (some ⟨pb,0,none⟩)] 122 (0,0))):=Lib.hid ⟨by obtain⟨⟨L',h1,h2⟩,-⟩:=HI.out;exact⟨L',h1,h2.bk hbk HW23.out⟩,hbk.at HI.out.2 rfl⟩
    have HLR:=Lib.hid hlr
    clear hbk HI hlr
    obtain⟨d,hd,rfl⟩:=some_map hLk
    obtain⟨k,hk⟩:∃ k,pre.length=k:=⟨_,rfl⟩
    have HK:=Lib.hid hk
    rw[hk] at HI2 hd hpl ⊢
    have hfr:Frm [r4] w2 Wq:=by obtain⟨⟨L',h1,h2⟩,-⟩:=HI2.out;exact h2.fr
    have HST:Hid (StR Wq s yb d.2 d.1.st):=Lib.hid ((HSP2.out.box HN0.out HOB.out hfr).st d (List.mem_of_getElem? hd))
    have HMd:Hid ((N.map Prod.fst).take (k + 1)=(N.map Prod.fst).take k ++ [d.1]):=Lib.hid (take_snoc' (by rw[List.getElem?_map,hd];rfl)).1
    have HSYq:Hid (SyR Wq s yb fb):=Lib.hid (HSY.out.fg (fg_res HOB.out) hfr)
    have CM:=Lib.hid (pMoves_any s yb fb d.2 d.1.st Wq HSYq.out HST.out)
    have c2q:Wq.cell? ⟨r2,0,none⟩=some (.pointer (some ⟨yb,0,none⟩)):=cell_of (hfr.at (HF2.out.at (HF1.out.at HQ2.out (by simp)) (by simp)) (by rw[List.mem_singleton];exact ty_ne (HF2.out.at (HF1.out.at HQ2.out (by simp)) (by simp)) HOB.out (by decide))) 0
    have HMB:Hid (∀ m∈movesP s d.1.st,m.kind=1→∃ a b:Nat,m.role=a∧m.step=b∧a < s.roles.length∧b < (s.rol a).steps.length):=Lib.hid fun m hm=>mv_bounds hm
    have HML:Hid ((movesP s d.1.st).length≤1000000):=Lib.hid (by have:=moves_len HSYq.out.ok HST.out.ok;omega)
    obtain⟨ms,hms⟩:∃ ms,movesP s d.1.st=ms:=⟨_,rfl⟩
    have HMS:=Lib.hid hms
    rw[hms] at CM HMB HML
    clear hd hfr hLk hpl hk hms
    gi_upto_region 14 with (refine⟨trivial,?_⟩;gi_at_call 21;go_must (refine(CallsIn.inRound l1 (callsIn_wide.2 CM.out)).mono ?_;rintro e w4 ⟨v,rfl,B,u,rfl,hmi,hf,hB⟩;have HMI:=Lib.hid hmi;have HF4:=Lib.hid hf;clear hmi hf hB CM c2q))
    have HU4:Hid ((∃ L',L'.map Prod.snd=usRow s (usedP s ((N.map Prod.fst).take k))∧UsO w2 r4 L' (.slice av n cv) w4)∧w4.heap[bx]?=some (.cells #[.pointer (some ⟨pb,0,none⟩)] 122 (0,0))):=Lib.hid ⟨by obtain⟨⟨L',h1,h2⟩,-⟩:=HI2.out;exact⟨L',h1,h2.frm HF4.out⟩,HF4.out.at HI2.out.2 (by simp)⟩
    have HLR4:Hid (∃ r,w4.heap[l1]?=some (.loop r)):=Lib.hid (by obtain⟨r,hr⟩:=HLR.out;exact⟨r,HF4.out.at hr (by simp)⟩)
    have HQ4s:Hid (Wq.heap.size≤w4.heap.size):=Lib.hid HF4.out.size
    have HW24:Hid (w2.heap.size≤w4.heap.size):=Lib.hid (by obtain⟨⟨L',h1,h2⟩,-⟩:=HU4.out;exact h2.fr.size)
    clear HI2
    refine wpIn_rangeListN (P:=Tryz.prog) HLR4.out rfl (enters_of Tryz.func146 (by kernel_rfl) rfl) (mv_iter B u ms HML.out) (fun _=>rfl)
     (fun pre V=>(∃ L',L'.map Prod.snd=usRow s (usF s ((N.map Prod.fst).take k) (ms.take pre.length))∧UsO w2 r4 L' (.slice av n cv) V)∧V.heap[bx]?=some (.cells #[.pointer (some ⟨pb,0,none⟩)] 122 (0,0))∧MvI B u ms V∧KB Wq V)
     (fun _ _ _=>False)
     (fun _ _ _ h hb=>⟨by obtain⟨⟨L',h1,h2⟩,-⟩:=h;exact⟨L',h1,h2.bk hb HW24.out⟩,hb.at h.2.1 rfl,h.2.2.1.bk hb,h.2.2.2.bk hb HQ4s.out⟩)
     (fun _ _ _ _ h _=>h)
     (fun _ V h=>h.2.2.1)
     ⟨by obtain⟨⟨L',h1,h2⟩,-⟩:=HU4.out;exact⟨L',by rw[List.length_nil,List.take_zero,usF_nil];exact h1,h2⟩,HU4.out.2,HMI.out,KB.frm0 HF4.out⟩ ?_ ?_ (fun _ _ _ _ _ _ h=>h.elim)
    ·intro l2 pre2 y rest2 Wr2 hxs hI hl hlr
     obtain⟨hy,hpl⟩:=numL_pre hxs
     have hLk:=numL_some hxs
     obtain⟨yi,m⟩:=y
     simp only at hy hLk
     subst hy
     have HJ:=Lib.hid hI
     have HL2:=Lib.hid hl
     clear hI hl hlr hxs
     gi_wp2
     refine⟨KB.frm0 ((Frm.refl [] Wr2).alloc _),fun Wz hbk _=>?_⟩
     obtain⟨⟨L1,hm1,hu1⟩,hb1,hv1,hk1⟩:=HJ.out
     have HU5:Hid (UsO w2 r4 L1 (.slice av n cv) Wz):=Lib.hid ((hu1.frm ((Frm.refl [] Wr2).alloc _)).bk hbk HW24.out)
     have HB5:Hid (Wz.heap[bx]?=some (.cells #[.pointer (some ⟨pb,0,none⟩)] 122 (0,0))):=Lib.hid (hbk.at (((Frm.refl [] Wr2).alloc _).at hb1 (by simp)) rfl)
     have HV5:Hid (MvI B u ms Wz):=Lib.hid ((hv1.frm ((Frm.refl [] Wr2).alloc _)).bk hbk)
     have HK5:Hid (KB Wq Wz):=Lib.hid ((hk1.trans (KB.frm0 ((Frm.refl [] Wr2).alloc _))).bk hbk HQ4s.out)
     have HM5:Hid (Wz.heap[Wr2.heap.size]?=some (.cells #[.int .i64 m.kind,.int .i64 m.role,.int .i64 m.step,.int .i64 m.place] 44 (0,0))):=Lib.hid (hbk.at (heap_alloc_new _ _) rfl)
     have HL1:=Lib.hid hm1
     obtain⟨b12,h12⟩:∃ b,Wr2.heap.size=b:=⟨_,rfl⟩
     rw[h12] at HM5 ⊢
     have HTK:=Lib.hid (take_snoc' hLk).1
     have HMM:=Lib.hid (List.mem_of_getElem? hLk)
     obtain⟨p2,hp2⟩:∃ p,pre2.length=p:=⟨_,rfl⟩
     have HP2:Hid ((pre2 ++ [(pre2.length,m)]).length=p2 + 1):=Lib.hid (by rw[List.length_append,hp2];rfl)
     rw[hp2] at HTK HL1 HP2 ⊢
     clear hbk hm1 hu1 hb1 hv1 hk1 h12 HJ hLk hpl hp2
     have k0:=cell_of HM5.out 0
     by_cases hk:m.kind=1
     ·have q2:(m.kind == 1)=true:=by simpa using hk
      obtain⟨a,b,ea,eb,hal,hbl⟩:=HMB.out m HMM.out hk
      have h9:(L1.map Prod.snd)[a]?=some ((List.range (s.rol a).steps.length).map (usF s ((N.map Prod.fst).take k) (ms.take p2) a)):=by rw[HL1.out];exact usRow_at hal
      obtain⟨⟨bb,rr⟩,hLa,hrr⟩:=some_map h9
      simp only at hrr
      obtain⟨g,n',c,e1,hc⟩:=HU5.out.get hLa
      cases e1
      obtain⟨q,hq⟩:∃ q,rr.length=q:=⟨_,rfl⟩
      have hbq:b < q:=by rw[← hq,hrr];simpa using hbl
      have han:a < n:=by rw[← HNn.out];exact hal
      have HLa:=Lib.hid hLa;have HQQ:=Lib.hid hq;have HBQ:=Lib.hid hbq;have HAN:=Lib.hid han;have HC:=Lib.hid hc;have HRR:=Lib.hid hrr;have HEA:=Lib.hid ea;have HEB:=Lib.hid eb;have HKK:=Lib.hid hk
      clear h9 hLa hrr hq hbq han hc ea eb hk hal hbl
      gi_upto_region 16 with fail
      clear k0
      have HM6:Hid (Wz.heap[b12]?=some (.cells #[.int .i64 m.kind,.int .i64 (a:Int),.int .i64 (b:Int),.int .i64 m.place] 44 (0,0))):=Lib.hid (by rw[HM5.out,HEA.out,HEB.out])
      have HGET:Hid (∀ (c:Bool) V,UsO w2 r4 (bif c then L1.set a (bb,rr.set b true) else L1) (.slice (some ⟨g,0,none⟩) n cv) V→V.cell? ⟨g,a,none⟩=some (.slice (some ⟨bb,0,none⟩) q q)):=Lib.hid fun c V hV=>by
       cases c with
       | true =>
         obtain⟨g',n',c',e1,hc⟩:=hV.get (i:=a) (b:=bb) (r:=rr.set b true) (by rw[cond_true,List.getElem?_set_self (lt_of_some HLa.out)])
         cases e1
         rw[List.length_set,HQQ.out] at hc
         exact hc
       | false =>
         obtain⟨g',n',c',e1,hc⟩:=hV.get (i:=a) (b:=bb) (r:=rr) HLa.out
         cases e1
         rw[HQQ.out] at hc
         exact hc
      refine wpIn_region_inv' (fun f=>{ tmps:=#[.pointer (some ⟨yb,0,none⟩),.int .i64 (lim:Int),.pointer (some ⟨r2,0,none⟩),undef,.pointer (some ⟨r4,0,none⟩),.int .i64 0,.pointer (some ⟨pb,0,none⟩),undef,u8,undef,.pointer (some ⟨d.snd,0,none⟩),undef,.pointer (some ⟨b12,0,none⟩),.tuple #[.pointer (some ⟨pb,0,none⟩),.int .i64 0],.pointer (some ⟨yb,0,none⟩),.int .i64 (lim:Int),.tuple #[.pointer (some ⟨pb,0,none⟩),.int .i64 0],.pointer (some ⟨pb,0,none⟩),.int .i64 0,.bool false,.int .i64 0,.bool false,undef,.bool false,.pointer (some ⟨pb,0,none⟩),.bool true,.bool false,.pointer (some ⟨yb,0,none⟩),.agg #[.string s.name,.slice (some ⟨g2,0,none⟩) n c2,.int .i64 s.cls,.int .i64 s.cap],.slice (some ⟨g2,0,none⟩) n c2,.int .i64 (n:Int),.int .i64 (n:Int),.bool false,u33,u34,u35,u36,u37,u38,u39,u40,u41,u42,.pointer (some ⟨pb,0,none⟩),.func (.func 151) #[] #[.pointer (some ⟨bx,0,none⟩)],.int .i64 (k:Int),.pointer (some ⟨d.snd,0,none⟩),.pointer (some ⟨yb,0,none⟩),.pointer (some ⟨d.snd,0,none⟩),.func (.func 146) #[] #[.pointer (some ⟨B,0,none⟩)],.int .i64 (p2:Int),mvV m,.pointer (some ⟨b12,0,none⟩),.int .i64 m.kind,.bool true,f 0,f 1,f 2,f 3,f 4,f 5,f 6,f 7,undef],defers:=[] })
       (fun D f V=>UsO w2 r4 (bif D 8 then L1.set a (bb,rr.set b true) else L1) (.slice (some ⟨g,0,none⟩) n cv) V∧(∀ j,D j=true→f j=usEx g n cv b12 a bb q b j)∧V.heap[b12]?=some (.cells #[.int .i64 m.kind,.int .i64 (a:Int),.int .i64 (b:Int),.int .i64 m.place] 44 (0,0))∧V.heap[bx]?=some (.cells #[.pointer (some ⟨pb,0,none⟩)] 122 (0,0))∧MvI B u ms V∧KB Wz V)
       (fun _=>undef) (by kernel_rfl) (by kernel_rfl) rfl ?_ ?_ ?_
      ·exact⟨HU5.out.frm (Frm.refl [] Wz).drew,(fun j h=>by cases h),(Frm.refl [] Wz).drew.at HM6.out (by simp),(Frm.refl [] Wz).drew.at HB5.out (by simp),HV5.out.frm (Frm.refl [] Wz).drew,KB.frm0 (Frm.refl [] Wz).drew⟩
      ·refine⟨?_,?_,?_,?_,?_,?_,?_,?_,?_,trivial⟩
       ·intro D f V hI hDi hdep hcl
        refine⟨rfl,fun _=>rfl,fun K' hK'=>?_⟩
        obtain⟨z1,z2,z3,z4⟩:=hI
        have x0:=cell_of z1.box 0
        refine⟨fun _ _=>trivial,?_⟩
        go_simp
        refine hK'.out _ _ (usEx g n cv b12 a bb q b 0) rfl ?_
        exact⟨z1,upd_ok z2 rfl,z3,z4⟩
       ·intro D f V hI hDi hdep hcl
        refine⟨rfl,fun _=>rfl,fun K' hK'=>?_⟩
        obtain⟨z1,z2,z3,z4⟩:=hI
        refine⟨fun _ _=>trivial,?_⟩
        go_simp
        refine hK'.out _ _ (usEx g n cv b12 a bb q b 1) rfl ?_
        exact⟨z1,upd_ok z2 rfl,z3,z4⟩
       ·intro D f V hI hDi hdep hcl
        refine⟨rfl,fun _=>rfl,fun K' hK'=>?_⟩
        obtain⟨z1,z2,z3,z4⟩:=hI
        have e1:f 1=.pointer (some ⟨b12,1,none⟩):=z2 1 (hdep ⟨1,Ground.data⟩ (by simp) rfl)
        have x0:=cell_of z3 1
        refine⟨fun _ _=>trivial,?_⟩
        go_simp
        refine hK'.out _ _ (usEx g n cv b12 a bb q b 2) (by (try simp only[e1]) <;> rfl) ?_
        exact⟨z1,upd_ok z2 rfl,z3,z4⟩
       ·intro D f V hI hDi hdep hcl
        refine⟨rfl,fun _=>rfl,fun K' hK'=>?_⟩
        obtain⟨z1,z2,z3,z4⟩:=hI
        have e0:f 0=.slice (some ⟨g,0,none⟩) n cv:=z2 0 (hdep ⟨0,Ground.data⟩ (by simp) rfl)
        have e2:f 2=.int .i64 (a:Int):=z2 2 (hdep ⟨2,Ground.data⟩ (by simp) rfl)
        have han:(a:Int) < (n:Int):=by have:=HAN.out;omega
        refine⟨fun _ _=>trivial,?_⟩
        go_simp
        refine hK'.out _ _ (usEx g n cv b12 a bb q b 3) (by (try simp only[e0,e2]) <;> rfl) ?_
        exact⟨z1,upd_ok z2 rfl,z3,z4⟩
       ·intro D f V hI hDi hdep hcl
        refine⟨rfl,fun _=>rfl,fun K' hK'=>?_⟩
        obtain⟨z1,z2,z3,z4⟩:=hI
        have e3:f 3=.pointer (some ⟨g,a,none⟩):=z2 3 (hdep ⟨3,Ground.data⟩ (by simp) rfl)
        have x0:=HGET.out _ _ z1
        refine⟨fun _ _=>trivial,?_⟩
        go_simp
        refine hK'.out _ _ (usEx g n cv b12 a bb q b 4) (by (try simp only[e3]) <;> rfl) ?_
        exact⟨z1,upd_ok z2 rfl,z3,z4⟩
       ·intro D f V hI hDi hdep hcl
        refine⟨rfl,fun _=>rfl,fun K' hK'=>?_⟩
        obtain⟨z1,z2,z3,z4⟩:=hI
        refine⟨fun _ _=>trivial,?_⟩
        go_simp
        refine hK'.out _ _ (usEx g n cv b12 a bb q b 5) rfl ?_
        exact⟨z1,upd_ok z2 rfl,z3,z4⟩
       ·intro D f V hI hDi hdep hcl
        refine⟨rfl,fun _=>rfl,fun K' hK'=>?_⟩
        obtain⟨z1,z2,z3,z4⟩:=hI
        have e5:f 5=.pointer (some ⟨b12,2,none⟩):=z2 5 (hdep ⟨5,Ground.data⟩ (by simp) rfl)
        have x0:=cell_of z3 2
        refine⟨fun _ _=>trivial,?_⟩
        go_simp
        refine hK'.out _ _ (usEx g n cv b12 a bb q b 6) (by (try simp only[e5]) <;> rfl) ?_
        exact⟨z1,upd_ok z2 rfl,z3,z4⟩
       ·intro D f V hI hDi hdep hcl
        refine⟨rfl,fun _=>rfl,fun K' hK'=>?_⟩
        obtain⟨z1,z2,z3,z4⟩:=hI
        have e4:f 4=.slice (some ⟨bb,0,none⟩) q q:=z2 4 (hdep ⟨4,Ground.data⟩ (by simp) rfl)
        have e6:f 6=.int .i64 (b:Int):=z2 6 (hdep ⟨6,Ground.data⟩ (by simp) rfl)
        have hbq:(b:Int) < (q:Int):=by have:=HBQ.out;omega
        refine⟨fun _ _=>trivial,?_⟩
        go_simp
        refine hK'.out _ _ (usEx g n cv b12 a bb q b 7) (by (try simp only[e4,e6]) <;> rfl) ?_
        exact⟨z1,upd_ok z2 rfl,z3,z4⟩
       ·intro D f V hI hDi hdep hcl
        refine⟨rfl,fun _=>rfl,fun K' hK'=>?_⟩
        obtain⟨z1,z2,z3,z4,z5,z6⟩:=hI
        have e7:f 7=.pointer (some ⟨bb,b,none⟩):=z2 7 (hdep ⟨7,Ground.data⟩ (by simp) rfl)
        rw[hDi] at z1
        have hbb:=(z1.at' a _ HLa.out).2
        have x0:V.cell? ⟨bb,b,none⟩=some (.bool (rr.getD b false)):=by
         rw[cell_of hbb]
         have:=HBQ.out
         have h9:b < rr.length:=by rw[HQQ.out];exact this
         simp[h9]
        have f0:=free_of hbb b
        have hf:Frm [bb] V (V.setCell ⟨bb,b,none⟩ (.bool true)):=(Frm.refl _ _).setCell _ (.inl (by simp)) _
        refine⟨fun _ _=>trivial,?_⟩
        go_simp
        refine hK'.out _ _ undef (by (try simp only[e7]) <;> rfl) ?_
        exact⟨z1.put HLa.out,upd_ok z2 rfl,setCell_at z3 (ty_ne z3 hbb (by decide)) _,setCell_at z4 (ty_ne z4 hbb (by decide)) _,z5.box hbb hf,z6.trans (KB.frm hf fun x hx=>by rw[List.mem_singleton] at hx;subst hx;exact not_books hbb rfl)⟩
      ·intro D f V hD hI
       obtain⟨z1,z2,z3,z4,z5,z6⟩:=hI
       rw[hD 8 (by decide)] at z1
       have HZ1:=Lib.hid z1;have HZ4:=Lib.hid z4;have HZ5:=Lib.hid z5;have HZ6:=Lib.hid z6
       clear z1 z2 z3 z4 z5 z6
       gi_wp2
       refine⟨HZ6.out,⟨_,?_,HZ1.out⟩,HZ4.out,HZ5.out,HK5.out.trans HZ6.out⟩
       rw[HP2.out,HTK.out,cond_true,List.map_set,HL1.out,HRR.out,usRow_put]
       refine usRow_same fun i k=>?_
       rw[usF_step]
       unfold usdB
       rw[decide_eq_true HKK.out,HEA.out,HEB.out,Bool.true_and]
       congr 1
       rw[Bool.eq_iff_iff]
       simp only[Bool.and_eq_true,decide_eq_true_eq]
       omega
     ·have q2:(m.kind == 1)=false:=by simpa using hk
      have HKK:=Lib.hid hk
      clear hk
      gi_wp2
      refine⟨KB.refl _,⟨L1,?_,HU5.out⟩,HB5.out,HV5.out,HK5.out⟩
      rw[HP2.out,HTK.out,HL1.out]
      refine usRow_same fun i k=>?_
      rw[usF_step]
      unfold usdB
      rw[decide_eq_false HKK.out]
      simp
    ·intro V hI
     obtain⟨⟨L1,hm1,hu1⟩,hb1,hv1,hk1⟩:=hI
     rw[numL_length,List.take_length,usF_snoc HMS.out,← HMd.out] at hm1
     have HM1:=Lib.hid hm1;have HU1:=Lib.hid hu1;have HB1:=Lib.hid hb1;have HK1:=Lib.hid hk1
     clear hm1 hu1 hb1 hv1 hk1
     gi_wp2
     refine⟨HK1.out,⟨L1,?_,HU1.out⟩,HB1.out⟩
     rw[List.length_append,HK.out]
     exact HM1.out
   ·intro D V hD hI hK
    obtain⟨⟨L1,hm1,hu1⟩,hb1⟩:=hI
    have e9:(numL (N.map Prod.snd)).length=(N.map Prod.fst).length:=by rw[numL_length,List.length_map,List.length_map]
    rw[e9,List.take_length,HN.out] at hm1
    have HM1:=Lib.hid hm1;have HU1:=Lib.hid hu1;have HKD:=Lib.hid hK;have HDD:=Lib.hid hD
    clear hm1 hu1 hb1 hK hD e9
    have x0:=cell_of HU1.out.box 0
    have f0:=free_of HU1.out.box 0
    have hsm:=setCell_same (w:=V) (b:=r4) (o:=0) (v:=.slice av n cv) HU1.out.box rfl
    go_wp2
    have hb:Bk w3.heap.size V (V.putObj D (.deferred none)):=Bk.putObj V _ HKD.out rfl HDD.out
    have hu9:=HU1.out.bk hb HW23.out
    refine leaves_mark HKD.out ⟨_,us_res hu9.box rfl rfl rfl,_,rfl,?_,_,rfl,?_⟩
    ·exact HF02.out.then hu9.fr fun q hq=>.inr (by rw[List.mem_singleton] at hq;subst hq;exact HR4.out)
    ·have h9:=hu9.arr
     rw[HM1.out] at h9
     exact h9
end Go.Proofs.YtohfkhjlnlahdaaGreat
