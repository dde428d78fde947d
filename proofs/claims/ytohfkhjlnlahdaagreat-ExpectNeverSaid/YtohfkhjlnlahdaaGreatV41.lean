/- Part of the proof. -/
import Derived.Test.YtohfkhjlnlahdaaGreatV40
import Derived.Laws.StructEq
set_option linter.all false
namespace Go.Proofs.YtohfkhjlnlahdaaGreat
open Go.RowKit Go.BigFrame Go.Maps
theorem cat_le {α:Type} {f:Nat→List α} {b:Nat}:∀ {n:Nat},(∀ k,k < n→(f k).length≤b)→(cat f n).length≤n * b
 | 0,_=>by simp[cat]
 | n + 1,h=>by
   rw[cat,List.length_append]
   have h1:=cat_le (n:=n) fun k hk=>h k (by omega)
   have h2:=h n (by omega)
   rw[Nat.add_mul,Nat.one_mul]
   omega
theorem flatMap_len {α β:Type} {f:α→List β} {b:Nat} (h:∀ x,(f x).length≤b):∀ l:List α,(l.flatMap f).length≤l.length * b
 | []=>by simp
 | x :: l=>by
   rw[List.flatMap_cons,List.length_append,List.length_cons,Nat.add_mul,Nat.one_mul]
   have:=flatMap_len h l
   have:=h x
   omega
theorem keyS_size {s:SesD} {x:PS} (hs:SesOk s) (hx:PSok s x):(keyS s x).size≤3000:=by
 have h4:=hs.n4
 have hr:∀ i,i < s.roles.length→(keyRole x i).length≤9:=fun i hi=>by
  unfold keyRole
  rw[List.length_cons]
  have h1:=flatMap_len (f:=two) (b:=2) (fun v=>by simp[two]) (x.bank i)
  have h2:=(hx.vb i hi).1
  have h3:=(hs.at hi).c4
  omega
 have hw:∀ i k,i < s.roles.length→k < s.roles.length→(keyWay s x i k).length≤140:=fun i k hi hk=>by
  unfold keyWay
  split
  ·simp
  ·rw[List.length_cons]
   obtain⟨h1,h2⟩:=hx.wb i k hi hk
   have h3:=keyB_size (keyL s.cls (x.way i k)) fun m hm=>(h2 m (keyL_mem hm)).2
   rw[keyL_length] at h3
   have h5:=hs.k4
   have h6:(byt (keyB (keyL s.cls (x.way i k)))).length=(keyB (keyL s.cls (x.way i k))).size:=byt_length _
   omega
 have e:(keyS s x).size=(keyP s x).length:=by
  unfold keyS
  exact List.size_toArray
 rw[e]
 unfold keyP
 rw[List.length_append]
 have h1:=cat_le (f:=keyRole x) (n:=s.roles.length) hr
 have h2:=cat_le (f:=fun i=>cat (keyWay s x i) s.roles.length) (n:=s.roles.length) (b:=4 * 140) fun i hi=>Nat.le_trans (cat_le fun k hk=>hw i k hi hk) (Nat.mul_le_mul_right _ h4)
 have h3:s.roles.length * 9≤4 * 9:=Nat.mul_le_mul_right _ h4
 have h5:s.roles.length * (4 * 140)≤4 * (4 * 140):=Nat.mul_le_mul_right _ h4
 omega
theorem addMv_snoc {s:SesD} {lim:Nat} {x:PS} {n lvl:Nat} {m:Mv}:∀ {ms:List Mv} {N N':List Nd},addMv s lim x n lvl N ms=(N',true)→addMv s lim x n lvl N (ms ++ [m])=addMv s lim x n lvl N' [m]
 | [],N,N',h=>by cases h;rfl
 | a :: ms,N,N',h=>by
   rw[List.cons_append,addMv]
   rw[addMv] at h
   split at h
   ·rename_i hk;rw[if_pos hk];exact addMv_snoc h
   ·rename_i hk
    rw[if_neg hk]
    split at h
    ·cases h
    ·rename_i hl;rw[if_neg hl];exact addMv_snoc h
theorem addMv_stop {s:SesD} {lim:Nat} {x:PS} {n lvl:Nat}:∀ {ms ks:List Mv} {N N':List Nd},addMv s lim x n lvl N ms=(N',false)→addMv s lim x n lvl N (ms ++ ks)=(N',false)
 | [],ks,N,N',h=>by cases h
 | a :: ms,ks,N,N',h=>by
   rw[List.cons_append,addMv]
   rw[addMv] at h
   split at h
   ·rename_i hk;rw[if_pos hk];exact addMv_stop h
   ·rename_i hk
    rw[if_neg hk]
    split at h
    ·rename_i hl;rw[if_pos hl];exact h
    ·rename_i hl;rw[if_neg hl];exact addMv_stop h
theorem addMv_one {s:SesD} {lim:Nat} {x:PS} {n lvl:Nat} {m:Mv} {N:List Nd}:addMv s lim x n lvl N [m]=if hasK s N (keyP s (nextP s x m)) then (N,true) else if N.length=lim then (N,false) else (N ++ [⟨nextP s x m,n,m,lvl + 1⟩],true):=by
 rw[addMv,addMv,addMv]
theorem wp_store_row {P:Program} {op:Oper} {a:Act} {w:World} {K:Act→World→Prop} {Q:Exit→Act→World→Prop} (ty:TypeId) (x y:Operand) (ho:op.op=.store ty x y) (b:Nat) (A C:Array Value) (t:TypeId) (hx:a.eval x=.pointer (some ⟨b,0,none⟩)) (hy:a.eval y=.agg A)
  (hb:w.heap[b]?=some (.cells C t (0,0))) (hs:A.size=C.size) (hi:(P.info? ty).map (·.size)=some A.size) (h1:A.all (·.oneCell')=true)
  (h:∀ w',w'.heap[b]?=some (.cells A t (0,0))→Frm [b] w w'→K (a.put op.dst undef) w'):op.wp P a w K Q:=by
 have hw:=setCells_whole hb A hs
 refine wp_store_mid ty x y ho b 0 A hx hy (fun j hj=>⟨?_,?_⟩) hi h1 (h _ hw.1 hw.2)
 ·rw[Nat.zero_add,cell_of hb];simp[show j < C.size by omega]
 ·rw[Nat.zero_add];exact free_of hb j
structure SeS (w:World) (s:SesD) (yb fb:Nat) (lim:Int) (whole:Bool) (qb mb yB cb ab:Nat) (N:List (Nd × Nat)) (W:World):Prop where
 sp:SpR w s yb lim whole qb mb N W
 y:W.heap[yB]?=some (.cells #[.pointer (some ⟨yb,0,none⟩)] 27 (0,0))
 c:W.heap[cb]?=some (.cells #[.pointer (some ⟨qb,0,none⟩)] 208 (0,0))
 a:W.heap[ab]?=some (.cells #[.func (.func 117) #[] #[.pointer (some ⟨cb,0,none⟩)]] 217 (0,0))
 sy:SyR W s yb fb
theorem book_fg {W:World}:∀ b∈books W,FgB W b:=fun b hb=>by
 obtain⟨o,ho,hi⟩:=mem_books.1 hb
 have hn:∀ C t fr,o≠.cells C t fr:=fun C t fr e=>by subst e;cases hi
 have hc:∀ x,W.cell? ⟨b,x,none⟩=none:=fun x=>by
  unfold World.cell?
  rw[ho]
  cases o with
  | cells C t fr=>exact absurd rfl (hn _ _ _)
  | _=>rfl
 exact⟨fun C t e=>(by rw[ho] at e;cases e;exact absurd rfl (hn _ _ _)),fun o' x e=>(by rw[hc] at e;cases e),fun o' p e=>(by rw[hc] at e;cases e),fun o' g o'' p n c e=>(by rw[hc] at e;cases e)⟩
section
variable {w W V:World} {s:SesD} {yb fb qb mb yB cb ab:Nat} {lim:Int} {whole:Bool} {N N':List (Nd × Nat)}
theorem SpR.bk (h:SpR w s yb lim whole qb mb N W) (hs:0 < s.roles.length) {B:Nat} (hb:Bk B W V) (hB:w.heap.size≤B):SpR w s yb lim whole qb mb N V:=by
 obtain⟨ao,cap,h1,h2,h3⟩:=h.bx
 have hf:=hb.frm
 have hnb:∀ {k:Nat} {C:Array Value} {t:TypeId},W.heap[k]?=some (.cells C t (0,0))→k∉books W:=fun hk=>not_books hk rfl
 refine⟨hb.old h.fr hB,h.lq,h.lm,⟨ao,cap,hb.at h1 rfl,hf.owns h2 fun k hk=>?_,fun g cur hg hc u hu=>?_⟩,h.mp.frm hf fun b e=>?_,fun d hd=>(h.st d hd).fg hs book_fg hf⟩
 ·obtain⟨c,hc⟩:=ownBlock_type h2 hk
  exact hnb hc
 ·obtain⟨c,hc'⟩:=ownBlock_type h2 hg
  have:=hb.at hc' rfl
  rw[this] at hc
  cases hc
  exact(h3 g _ hg hc' u hu).frm hf fun p hp=>by
   obtain⟨D,hD⟩:=hp
   exact hnb hD
 ·cases e
  obtain⟨es,c,hm⟩:=h.mp.block rfl
  exact not_books hm rfl
theorem SyR.bk (h:SyR W s yb fb) {B:Nat} (hb:Bk B W V):SyR V s yb fb:=h.fg book_fg hb.frm
theorem SeS.bk (h:SeS w s yb fb lim whole qb mb yB cb ab N W) {B:Nat} (hb:Bk B W V) (hB:w.heap.size≤B):SeS w s yb fb lim whole qb mb yB cb ab N V:=
 ⟨h.sp.bk (by have:=h.sy.ok.n2;omega) hb hB,hb.at h.y rfl,hb.at h.c rfl,hb.at h.a rfl,h.sy.bk hb⟩
theorem SeS.frm (h:SeS w s yb fb lim whole qb mb yB cb ab N W) (hf:Frm [] W V):SeS w s yb fb lim whole qb mb yB cb ab N V:=
 ⟨h.sp.frm hf,hf.at h.y (by simp),hf.at h.c (by simp),hf.at h.a (by simp),h.sy.frm hf⟩
theorem SeS.to (h:SeS w s yb fb lim whole qb mb yB cb ab N W) (ha:AdTo w s yb lim whole qb mb N' W V):SeS w s yb fb lim whole qb mb yB cb ab N' V:=by
 obtain⟨h1,⟨F,hf,hF⟩,-⟩:=ha
 exact⟨h1,SpB.at hF hf h.y (by decide) (.inl (by decide)),SpB.at hF hf h.c (by decide) (.inl (by decide)),SpB.at hF hf h.a (by decide) (.inl (by decide)),h.sy.fg (SpB.fg hF) hf⟩
theorem SpR.part (h:SpR w s yb lim whole qb mb N W) (hs:0 < s.roles.length):SpR w s yb lim false qb mb N (W.setCell ⟨qb,1,none⟩ (.bool false)):=by
 obtain⟨ao,cap,h1,h2,h3⟩:=h.bx
 have hfg:∀ b∈[qb],FgB W b:=fun b hb=>by rw[List.mem_singleton] at hb;subst hb;exact h.fgq.1
 obtain⟨V,hV⟩:∃ V,W.setCell ⟨qb,1,none⟩ (.bool false)=V:=⟨_,rfl⟩
 have hf:Frm [qb] W V:=by rw[← hV];exact(Frm.refl _ _).setCell _ (.inl (by simp)) _
 have b1:V.heap[qb]?=some (.cells #[.int .i64 lim,.bool false,.slice ao N.length cap,.map (some mb)] 214 (0,0)):=by rw[← hV];exact(block_setCell h1 1 _).trans rfl
 have hr:∀ k,(Value.slice ao N.length cap).ownBlock=some k→k∉[qb]:=fun k hk hm=>by
  rw[List.mem_singleton] at hm
  subst hm
  obtain⟨c,hc⟩:=ownBlock_type h2 hk
  rw[h1] at hc;cases hc
 rw[hV]
 refine⟨h.fr.then hf (by intro k hk;simp at hk;subst hk;exact .inr h.lq),h.lq,h.lm,⟨ao,cap,b1,hf.owns h2 hr,fun g cur hg hc u hu=>?_⟩,h.mp.frm hf fun b e hm=>?_,fun d hd=>(h.st d hd).fg hs hfg hf⟩
 ·obtain⟨c,hc'⟩:=ownBlock_type h2 hg
  have:=hf.at hc' (hr g hg)
  rw[this] at hc
  cases hc
  exact(h3 g _ hg hc' u hu).frm hf fun p hp hm=>by
   obtain⟨D,hD⟩:=hp
   exact FgB.ne hfg hD (by simp[sysT]) hm
 ·cases e
  rw[List.mem_singleton] at hm
  subst hm
  obtain⟨es,c,hm⟩:=h.mp.block rfl
  rw[h1] at hm;cases hm
theorem SeS.part (h:SeS w s yb fb lim whole qb mb yB cb ab N W):SeS w s yb fb lim false qb mb yB cb ab N (W.setCell ⟨qb,1,none⟩ (.bool false))∧KB W (W.setCell ⟨qb,1,none⟩ (.bool false)):=by
 have hn:0 < s.roles.length:=by have:=h.sy.ok.n2;omega
 obtain⟨ao,cap,h1,h2,h3⟩:=h.sp.bx
 have hfg:∀ b∈[qb],FgB W b:=fun b hb=>by rw[List.mem_singleton] at hb;subst hb;exact h.sp.fgq.1
 have hf:Frm [qb] W (W.setCell ⟨qb,1,none⟩ (.bool false)):=(Frm.refl _ _).setCell _ (.inl (by simp)) _
 have ht:∀ {k:Nat} {C:Array Value} {t:TypeId},W.heap[k]?=some (.cells C t (0,0))→t≠214→k∉[qb]:=fun hk ht hm=>by
  rw[List.mem_singleton] at hm
  subst hm
  rw[h1] at hk;cases hk
  exact ht rfl
 refine⟨⟨h.sp.part hn,hf.at h.y (ht h.y (by decide)),hf.at h.c (ht h.c (by decide)),hf.at h.a (ht h.a (by decide)),h.sy.fg hfg hf⟩,KB.frm hf fun k hk hb=>?_⟩
 rw[List.mem_singleton] at hk
 subst hk
 exact not_books h1 rfl hb
structure SrS (w:World) (s:SesD) (yb fb:Nat) (lim:Int) (whole:Bool) (qb mb yB cb ab nb xb n:Nat) (d:Nd × Nat) (B:Nat) (u:Value) (L:List Mv) (N:List (Nd × Nat)) (W:World):Prop where
 se:SeS w s yb fb lim whole qb mb yB cb ab N W
 hn:W.heap[nb]?=some (.cells #[.int .i64 n] 3 (0,0))
 hx:W.heap[xb]?=some (.cells #[.pointer (some ⟨d.2,0,none⟩),.int .i64 d.1.par,.int .i64 d.1.mv.kind,.int .i64 d.1.mv.role,.int .i64 d.1.mv.step,.int .i64 d.1.mv.place,.int .i64 d.1.lvl] 216 (0,0))
 xr:¬ RowOf W qb xb
 hb:W.heap[B]?=some (.cells #[u] 31 (0,0))
 hu:W.ownsRow w.heap.size 44 4 u L.length (mvC L)
 at':N[n]?=some d
variable {nb xb n B:Nat} {d:Nd × Nat} {u:Value} {L:List Mv}
theorem SrS.mvs (h:SrS w s yb fb lim whole qb mb yB cb ab nb xb n d B u L N W):MvI B u L W:=⟨h.hb,mv_arr h.hu⟩
theorem RowOf.back {F:List Nat} {k:Nat} (hf:Frm F W V) (hq:qb∉F) (hl:qb < W.heap.size) (h:RowOf V qb k):RowOf W qb k:=by
 obtain⟨a,b,v,m,e1,e2⟩:=h
 exact⟨a,b,v,m,(hf.block qb hl hq).symm.trans e1,e2⟩
theorem SpR.lt (h:SpR w s yb lim whole qb mb N W):qb < W.heap.size:=by
 obtain⟨ao,cap,h1,-⟩:=h.bx
 exact lt_of_block h1
theorem SrS.frm (h:SrS w s yb fb lim whole qb mb yB cb ab nb xb n d B u L N W) (hf:Frm [] W V):SrS w s yb fb lim whole qb mb yB cb ab nb xb n d B u L N V:=
 ⟨h.se.frm hf,hf.at h.hn (by simp),hf.at h.hx (by simp),fun hr=>h.xr (hr.back hf (by simp) h.se.sp.lt),hf.at h.hb (by simp),hf.owns h.hu (by simp),h.at'⟩
theorem SrS.bk (h:SrS w s yb fb lim whole qb mb yB cb ab nb xb n d B u L N W) {D:Nat} (hb:Bk D W V) (hD:w.heap.size≤D):SrS w s yb fb lim whole qb mb yB cb ab nb xb n d B u L N V:=by
 refine⟨h.se.bk hb hD,hb.at h.hn rfl,hb.at h.hx rfl,fun hr=>h.xr ?_,hb.at h.hb rfl,hb.frm.owns h.hu fun k hk=>?_,h.at'⟩
 ·obtain⟨ao,cap,h1,-⟩:=h.se.sp.bx
  exact hr.back hb.frm (not_books h1 rfl) (lt_of_block h1)
 ·obtain⟨c,hc⟩:=ownBlock_type h.hu hk
  exact not_books hc rfl
theorem SrS.to (h:SrS w s yb fb lim whole qb mb yB cb ab nb xb n d B u L N W) (ha:AdTo w s yb lim whole qb mb N' W V) (hn:N'[n]?=some d):SrS w s yb fb lim whole qb mb yB cb ab nb xb n d B u L N' V:=by
 have h0:=h.se.to ha
 obtain⟨h1,⟨F,hf,hF⟩,hr⟩:=ha
 refine⟨h0,SpB.at hF hf h.hn (by decide) (.inl (by decide)),SpB.at hF hf h.hx (by decide) (.inr h.xr),fun e=>h.xr (hr _ (lt_of_block h.hx) e),SpB.at hF hf h.hb (by decide) (.inl (by decide)),hf.owns h.hu fun k hk hm=>?_,hn⟩
 obtain⟨c,hc⟩:=ownBlock_type h.hu hk
 have:=SpB.at hF hf hc (by decide) (.inl (by decide))
 rcases (hF k hm).2 with ⟨es,c',e⟩ | ⟨D,e⟩ | ⟨⟨D,e⟩,-⟩ <;> rw[hc] at e <;> cases e
theorem AdTo.kb (ha:AdTo w s yb lim whole qb mb N' W V):KB W V:=by
 obtain⟨h1,⟨F,hf,hF⟩,-⟩:=ha
 refine KB.frm hf fun k hk hb=>?_
 obtain⟨o,ho,hi⟩:=mem_books.1 hb
 rcases (hF k hk).2 with ⟨es,c',e⟩ | ⟨D,e⟩ | ⟨⟨D,e⟩,-⟩ <;> rw[ho] at e <;> cases e <;> cases hi
end
def SrI (w:World) (s:SesD) (yb fb lim qb mb yB cb ab nb xb n:Nat) (d:Nd × Nat) (B:Nat) (u:Value) (L:List Mv) (N0:List Nd) (ds:List Nat) (pre:List (Nat × Mv)) (W:World):Prop:=
 ∃ N,SrS w s yb fb lim true qb mb yB cb ab nb xb n d B u L N W∧addMv s lim d.1.st n d.1.lvl N0 (pre.map Prod.snd)=(N.map Prod.fst,true)∧(N.length≤lim∧∀ e∈N,e.1.lvl≤N.length)∧Ms w ds W
def SrX (c:Code) (w:World) (s:SesD) (yb fb lim qb mb yB cb ab n:Nat) (d:Nd × Nat) (N0:List Nd) (ds:List Nat) (c':Code) (pre:List (Nat × Mv)) (W:World):Prop:=
 c'=c∧∃ N,SeS w s yb fb lim false qb mb yB cb ab N W∧addMv s lim d.1.st n d.1.lvl N0 (pre.map Prod.snd)=(N.map Prod.fst,false)∧Ms w ds W
section
variable {w W V:World} {s:SesD} {yb fb lim qb mb yB cb ab nb xb n B D:Nat} {d:Nd × Nat} {u:Value} {L:List Mv} {N0:List Nd} {ds:List Nat} {pre:List (Nat × Mv)} {c c':Code}
theorem Ms.bk (h:Ms w ds W) (hb:Bk D W V) (hds:∀ E∈ds,E < D):Ms w ds V:=⟨h.nd,fun E hE=>⟨(h.dl E hE).1,hb.block E _ (h.dl E hE).2 (.inl (hds E hE))⟩⟩
theorem Ms.kb (h:Ms w ds W) (hk:KB W V):Ms w ds V:=⟨h.nd,fun E hE=>⟨(h.dl E hE).1,hk E _ (h.dl E hE).2 rfl⟩⟩
theorem SrI.bk (h:SrI w s yb fb lim qb mb yB cb ab nb xb n d B u L N0 ds pre W) (hb:Bk D W V) (hD:w.heap.size≤D) (hds:∀ E∈ds,E < D):SrI w s yb fb lim qb mb yB cb ab nb xb n d B u L N0 ds pre V:=by
 obtain⟨N,h1,h2,h3,h4⟩:=h
 exact⟨N,h1.bk hb hD,h2,h3,h4.bk hb hds⟩
theorem SrX.bk (h:SrX c w s yb fb lim qb mb yB cb ab n d N0 ds c' pre W) (hb:Bk D W V) (hD:w.heap.size≤D) (hds:∀ E∈ds,E < D):SrX c w s yb fb lim qb mb yB cb ab n d N0 ds c' pre V:=by
 obtain⟨h0,N,h1,h2,h4⟩:=h
 exact⟨h0,N,h1.bk hb hD,h2,h4.bk hb hds⟩
end
theorem numL_some {α:Type} {L:List α} {pre rest:List (Nat × α)} {y:Nat × α} (h:numL L=pre ++ y :: rest):L[pre.length]?=some y.2:=by
 have h1:(numL L)[pre.length]?=some y:=by rw[h,List.getElem?_append_right (Nat.le_refl _),Nat.sub_self];rfl
 rw[numL_at,Option.map_eq_some_iff] at h1
 obtain⟨m,hm,rfl⟩:=h1
 exact hm
theorem bfs_step {s:SesD} {lim f n:Nat} {N N':List Nd} {d:Nd} (h:N[n]?=some d) (h2:addMv s lim d.st n d.lvl N (movesP s d.st)=(N',true)):bfs s lim (f + 1) n N=bfs s lim f (n + 1) N':=by
 rw[bfs,h]
 simp only[h2]
theorem bfs_stop {s:SesD} {lim f n:Nat} {N N':List Nd} {d:Nd} (h:N[n]?=some d) (h2:addMv s lim d.st n d.lvl N (movesP s d.st)=(N',false)):bfs s lim (f + 1) n N=(N',false):=by
 rw[bfs,h]
 simp only[h2]
theorem bfs_end {s:SesD} {lim f n:Nat} {N:List Nd} (h:N[n]?=none):bfs s lim (f + 1) n N=(N,true):=by
 rw[bfs,h]
theorem Ms.unmark {w W:World} {ds:List Nat} (h:Ms w ds W):Bk w.heap.size W (unmark ds W):=by
 have hf:=unmark_frm ds W
 refine⟨hf.os,hf.tape,hf.output,hf.size,fun k o hk ho=>hf.at hk fun hm=>?_⟩
 obtain⟨h1,h2⟩:=h.dl k hm
 rw[hk] at h2
 cases h2
 rcases ho with ho | ho
 ·omega
 ·cases ho
set_option maxHeartbeats 2000000 in
set_option maxRecDepth 100000 in
theorem pMvs_own (s:SesD) (yb fb sb:Nat) (x:PS) (w:World) (h:SyR w s yb fb) (hx:StR w s yb sb x):Calls Tryz.prog 21 #[.pointer (some ⟨yb,0,none⟩),.pointer (some ⟨sb,0,none⟩)] w
  (RetV fun v w'=>∃ B u,v=.func (.func 146) #[] #[.pointer (some ⟨B,0,none⟩)]∧w'.heap[B]?=some (.cells #[u] 31 (0,0))∧w'.ownsRow w.heap.size 44 4 u (movesP s x).length (mvC (movesP s x))∧Frm [] w w'):=by
 have C1:=Lib.hid (pCheck_any s yb fb sb x w h hx)
 have C2:=Lib.hid (pmoves_own s yb fb sb x w h hx)
 clear h hx
 go_enter Tryz.func21,Tryz.ntmps21
 go_wp2_with (first
  | (go_at_call 61;go_must (refine C1.out.mono ?_;rintro e w' ⟨rfl,rfl⟩))
  | (go_at_call 63;go_must (refine C2.out.mono ?_;rintro e w1 ⟨v,rfl,ha,hf⟩;obtain⟨ao,cq,rfl⟩:=own_shape ha;have HA:=Lib.hid ha;have HF:=Lib.hid hf;have C3:=Lib.hid (alMove_any _ (movesP s x) w1 (mv_arr ha));clear ha hf))
  | (go_at_call 75;go_must (refine C3.out.mono ?_;rintro e w2 ⟨v,rfl,rfl,ha,hf⟩;have HB:=Lib.hid ha;have HG:=Lib.hid hf;clear ha hf)))
 go_ret
 exact⟨_,rfl,_,_,rfl,HB.out.b,HG.out.owns HA.out (by simp),HF.out.trans HG.out⟩
end Go.Proofs.YtohfkhjlnlahdaaGreat
