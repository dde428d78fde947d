/- Part of the proof. -/
import Derived.Test.YtohfkhjlnlahdaaGreatQ04
import Derived.Test.YtohfkhjlnlahdaaGreatQ43
import Derived.Test.YtohfkhjlnlahdaaGreatQ29
import Derived.Test.YtohfkhjlnlahdaaGreatQ26
import Derived.Test.YtohfkhjlnlahdaaGreatQ38
import Derived.Sort.CutIn
import Derived.OrdersIn
import Derived.Lib.Builder
import Derived.Shelf.SortM.Plain
import Derived.Shelf.SortM.SortNone
import Derived.Lib.AppendStr
import Derived.Laws.OwnMore
import Derived.LaidEql
import Derived.Test.YtohfkhjlnlahdaaGreatQ40
import Derived.Sort.BigQuietIn
import Derived.Test.YtohfkhjlnlahdaaGreatQ42
import Derived.Laws.StructEq
import Derived.Laws.EntriesVeiled
import Derived.Test.YtohfkhjlnlahdaaGreatQ30
import Derived.Test.YtohfkhjlnlahdaaGreatQ34
import Derived.Test.YtohfkhjlnlahdaaGreatQ41
import Derived.Test.YtohfkhjlnlahdaaGreatQ33
import Derived.Deep.OwnRows
set_option linter.all false
namespace Go.Proofs.YtohfkhjlnlahdaaGreat
open Go.RowKit Go.BigFrame
theorem iP (s:SesD) (a h sb:Nat) (x:PS) (m:Mv) (w:World) (I:SyR w s a h) (J:StR w s a sb x) (H:m∈aN s x) :
  Calls Tryz.prog 19 #[.pointer (some ⟨a,0,none⟩),.pointer (some ⟨sb,0,none⟩),mvV m] w (aU (uq w s a (bh s x m))):=by
 rcases mem_movesP.1 H with ⟨i,k,E,G,A⟩ | ⟨i,k,E,G,A⟩
 ·exact rW s a h sb i k x m w I J H E G A
 ·exact rX s a h sb i k x m w I J H E G (mem_loseMv.1 A).1
def uR (w:World) (L:List Mv) (v:Value) (w':World):Prop:=∃ B u,v=.func (.func 146) #[] #[.pointer (some ⟨B,0,none⟩)]∧MvI B u L w'∧Frm [] w w'∧w.heap.size≤B
set_option maxHeartbeats 2000000 in
set_option maxRecDepth 100000 in
theorem oz (s:SesD) (A E sb:Nat) (x:PS) (w:World) (G:SyR w s A E) (H:StR w s A sb x):Calls Tryz.prog 21 #[.pointer (some ⟨A,0,none⟩),.pointer (some ⟨sb,0,none⟩)] w (aU (uR w (aN s x))):=by
 have J:=vi (eJ s A E sb x w G H)
 have K:=vi (gB s A E sb x w G H)
 clear G H
 go_enter Tryz.func21,Tryz.ntmps21
 go_wp2_with (first
  | (go_at_call 61;go_must (refine J.out.mono ?_;rintro e w' ⟨rfl,rfl⟩))
  | (go_at_call 63;go_must (refine K.out.mono ?_;rintro e S ⟨v,rfl,a,h⟩;obtain⟨ao,V,rfl⟩:=a.shape;have U:=vi a;have I:=vi h;have N:=vi (jc _ (aN s x) S a);clear a h))
  | (go_at_call 75;go_must (refine N.out.mono ?_;rintro e W ⟨v,rfl,rfl,a,h⟩;have O:=vi a;have R:=vi h;clear a h)))
 go_ret
 exact⟨_,rfl,_,_,rfl,O.out,I.out.trans R.out,I.out.size⟩
set_option maxHeartbeats 2000000 in
set_option maxRecDepth 100000 in
theorem fu (s:SesD) (K O:Nat) (w:World) (A:SyR w s K O):Calls Tryz.prog 74 #[.pointer (some ⟨K,0,none⟩)] w (aU (OwTo w s)):=by
 have G:Frm [] w (w.alloc (.cells #[.string { data:=#[] },.slice none 0 0,.int .i64 0,.int .i64 0] 25)):=(Frm.refl [] w).alloc _
 have V:=vi (ij s K O _ (A.frm G))
 have h:=A.ok
 obtain⟨R,a,E⟩:=A.out
 have W:=vi (mF s (.agg #[.string s.name,R,.int .i64 s.cls,.int .i64 s.cap]) _ ⟨R,rfl,E.frm G⟩ (by have:=h.n2;omega) h.n4 (fun r J=>⟨by have:=(h.rol r J).s24;omega,by have:=(h.rol r J).c4;omega,by have:=(h.rol r J).t80;omega⟩))
 have X:=vi G
 have S:=vi (heap_alloc_new w (.cells #[.string { data:=#[] },.slice none 0 0,.int .i64 0,.int .i64 0] 25))
 have aj:=lt_of_block a
 have c0:=ae a 0
 have ag:=ae a 1
 have ah:=ae a 2
 have ai:=ae a 3
 clear A a E G h
 go_enter Tryz.func74,Tryz.ntmps74
 go_wp2_with (first
  | (go_at_call 60;go_must (refine V.out.mono ?_;rintro e w' ⟨rfl,rfl⟩))
  | (go_at_call 112;go_must (refine W.out.mono ?_;rintro e al ⟨v,rfl,H⟩;obtain⟨g,aa,rfl⟩:=H.shape;have N:=vi H;have U:=vi (H.frm.at S.out (by simp));clear H))
  | (refine aD rfl 25 _ _ rfl _ _ _ 25 rfl rfl U.out rfl (by kernel_rfl) (by simp[Value.oneCell']) ?_;intro am ad I))
 refine bodyPost_ret (eH (d:=_) (Tryz.results74) rfl ad rfl Tryz.underlying25 (by kernel_rfl)) rfl ⟨_,rfl,⟨g,aa,rfl⟩,(X.out.trans N.out.frm).then I (by intro y af;simp at af;right;omega),fun Y ab=>N.out.ses Y ?_⟩
 have ak:=I.size
 intro k a E
 rw[ab k (by simp at a;omega) (by omega)]
 exact I.block k E (by simp at a ⊢;omega)
end Go.Proofs.YtohfkhjlnlahdaaGreat
namespace Go.Proofs.YtohfkhjlnlahdaaGreat
open Go.RowKit Go.BigFrame
def di (r:RolD):Bool:=(decide (4<r.ctrs.length) || decide (6<r.sts.length) || decide (12<r.steps.length) || decide (60<r.name.size)) || r.steps.any er
def eu (s:SesD):Bool:=(decide (4<s.roles.length) || decide (60<s.name.size)) || s.roles.any di
def gvB (s:SesD):Bool:=!eu s && decide (eo s=0)
theorem lf (r:RolD):((4<(r.ctrs.length:Int))∧di r=true)∨(¬ 4<(r.ctrs.length:Int)∧(6<(r.sts.length:Int))∧di r=true)∨(¬ 4<(r.ctrs.length:Int)∧¬ 6<(r.sts.length:Int)∧12<(r.steps.length:Int)∧di r=true) ∨
  (¬ 4<(r.ctrs.length:Int)∧¬ 6<(r.sts.length:Int)∧¬ 12<(r.steps.length:Int)∧60<(r.name.size:Int)∧di r=true)∨(¬ 4<(r.ctrs.length:Int)∧¬ 6<(r.sts.length:Int)∧¬ 12<(r.steps.length:Int)∧¬ 60<(r.name.size:Int)∧di r=r.steps.any er):=by
 unfold di
 by_cases h1:4<r.ctrs.length
 ·left;exact⟨by omega,by simp[h1]⟩
 by_cases h2:6<r.sts.length
 ·right;left;exact⟨by omega,by omega,by simp[h2]⟩
 by_cases h3:12<r.steps.length
 ·right;right;left;exact⟨by omega,by omega,by omega,by simp[h3]⟩
 by_cases h4:60<r.name.size
 ·right;right;right;left;exact⟨by omega,by omega,by omega,by omega,by simp[h4]⟩
 right;right;right;right
 refine⟨by omega,by omega,by omega,by omega,?_⟩
 rw[decide_eq_false h1,decide_eq_false h2,decide_eq_false h3,decide_eq_false h4];rfl
theorem uh {s:SesD} (E:WfS s) (a:eu s=false):SmS s:=by
 unfold eu at a
 simp only[Bool.or_eq_false_iff,decide_eq_false_iff_not,List.any_eq_false] at a
 obtain⟨⟨K,-⟩,G⟩:=a
 refine⟨by omega,fun r h=>?_⟩
 have hb:=G r h
 unfold di at hb
 simp only[Bool.or_eq_true,decide_eq_true_eq,List.any_eq_true,not_or,not_exists,not_and] at hb
 obtain⟨⟨⟨⟨b1,b2⟩,I⟩,J⟩,A⟩:=hb
 refine⟨by omega,by omega,by omega,E r h,fun x H=>?_⟩
 have:=A x H
 unfold er at this
 simp only[Bool.or_eq_true,decide_eq_true_eq,not_or] at this
 omega
def ve (w:World) (s:SesD) (v:Value) (w':World):Prop:=Frm [] w w'∧((gvB s=false∧v=.tuple #[.pointer none,.bool false])∨(gvB s=true∧∃ a h,v=.tuple #[.pointer (some ⟨a,0,none⟩),.bool true]∧SyR w' s a h))
end Go.Proofs.YtohfkhjlnlahdaaGreat
namespace Go.Proofs.YtohfkhjlnlahdaaGreat
open Go.RowKit Go.BigFrame Go.Maps
theorem uI {s:SesD} (a:gvB s=true):SesOk s:=by
 unfold gvB at a
 rw[Bool.and_eq_true] at a
 exact rH (of_decide_eq_true a.2)
section
variable {W:World} {s:SesD} {yb pb:Nat} {whole:Bool} {N:List (Nd × Nat)}
theorem kD (a:SpO W s yb whole pb N):Calls Tryz.prog 59 #[.pointer (some ⟨pb,0,none⟩)] W (Ret (.bool whole) (W=·)):=by
 have E:=vi (ib a)
 obtain⟨I,H,lim,ao,cap,h,A,-⟩:=a.out
 have c0:=ae h 0
 have G:=ae A 1
 clear h A a
 go_enter Tryz.func59,Tryz.ntmps59
 go_wp2_with (first
  | (go_at_call 120;go_must (refine E.out.mono ?_;rintro e w' ⟨rfl,rfl⟩)))
 go_ret
 exact⟨rfl,rfl⟩
end
theorem gQ {α h:Type} {f:α→h} {L:List α} {i:Nat} {y:h} (a:(L.map f)[i]?=some y):∃ x,L[i]?=some x∧f x=y:=by
 rw[List.getElem?_map] at a
 cases hz:L[i]? with
 | none=>rw[hz] at a;cases a
 | some z=>rw[hz] at a;exact⟨z,rfl,Option.some.inj a⟩
end Go.Proofs.YtohfkhjlnlahdaaGreat
namespace Go.Proofs.YtohfkhjlnlahdaaGreat
open Go.RowKit Go.BigFrame Go.Maps
theorem lz {α:Type} {f:Nat→List α} {b:Nat}:∀ {n:Nat},(∀ k,k<n→(f k).length≤b)→(cat f n).length≤n*b
 | 0,_=>by simp[cat]
 | n+1,h=>by
   rw[cat,List.length_append]
   have a:=lz (n:=n) fun k E=>h k (by omega)
   have A:=h n (by omega)
   rw[Nat.add_mul,Nat.one_mul]
   omega
theorem iJ {α h:Type} {f:α→List h} {b:Nat} (a:∀ x,(f x).length≤b):∀ l:List α,(l.flatMap f).length≤l.length*b
 | []=>by simp
 | x :: l=>by
   rw[List.flatMap_cons,List.length_append,List.length_cons,Nat.add_mul,Nat.one_mul]
   have:=iJ a l
   have:=a x
   omega
theorem j2 {s:SesD} {x:PS} (H:SesOk s) (J:PSok s x):(eO s x).size≤3000:=by
 have E:=H.n4
 have R:∀ i,i<s.roles.length→(cW x i).length≤9:=fun i a=>by
  unfold cW
  rw[List.length_cons]
  have I:=iJ (f:=two) (b:=2) (fun v=>by simp[two]) (x.bank i)
  have h:=(J.vb i a).1
  have A:=(H.at a).c4
  omega
 have S:∀ i k,i<s.roles.length→k<s.roles.length→(bU s x i k).length≤140:=fun i k a G=>by
  unfold bU
  split
  ·simp
  ·rw[List.length_cons]
   obtain⟨I,h⟩:=J.wb i k a G
   have A:=ey (dj s.cls (x.way i k)) fun m O=>(h m (gO O)).2
   rw[eR] at A
   have K:=H.k4
   have U:(byt (dV (dj s.cls (x.way i k)))).length=(dV (dj s.cls (x.way i k))).size:=oB _
   omega
 have e:(eO s x).size=(cY s x).length:=by
  unfold eO
  exact List.size_toArray
 rw[e]
 unfold cY
 rw[List.length_append]
 have I:=lz (f:=cW x) (n:=s.roles.length) R
 have h:=lz (f:=fun i=>cat (bU s x i) s.roles.length) (n:=s.roles.length) (b:=4*140) fun i a=>Nat.le_trans (lz fun k G=>S i k a G) (Nat.mul_le_mul_right _ E)
 have A:s.roles.length*9≤4*9:=Nat.mul_le_mul_right _ E
 have K:s.roles.length*(4*140)≤4*(4*140):=Nat.mul_le_mul_right _ E
 omega
theorem eB {s:SesD} {lim:Nat} {x:PS} {n E:Nat} {m:Mv}:∀ {G:List Mv} {N N':List Nd},cH s lim x n E N G=(N',true)→cH s lim x n E N (G++[m])=cH s lim x n E N' [m]
 | [],N,N',h=>by cases h;rfl
 | a :: G,N,N',h=>by
   rw[List.cons_append,cH]
   rw[cH] at h
   split at h
   ·rename_i A;rw[if_pos A];exact eB h
   ·rename_i A
    rw[if_neg A]
    split at h
    ·cases h
    ·rename_i H;rw[if_neg H];exact eB h
theorem gn {s:SesD} {lim:Nat} {x:PS} {n H:Nat}:∀ {G ks:List Mv} {N N':List Nd},cH s lim x n H N G=(N',false)→cH s lim x n H N (G++ks)=(N',false)
 | [],ks,N,N',h=>by cases h
 | a :: G,ks,N,N',h=>by
   rw[List.cons_append,cH]
   rw[cH] at h
   split at h
   ·rename_i A;rw[if_pos A];exact gn h
   ·rename_i A
    rw[if_neg A]
    split at h
    ·rename_i E;rw[if_pos E];exact h
    ·rename_i E;rw[if_neg E];exact gn h
theorem gY {s:SesD} {lim:Nat} {x:PS} {n a:Nat} {m:Mv} {N:List Nd}:cH s lim x n a N [m]=if eP s N (cY s (bh s x m)) then (N,true) else if N.length=lim then (N,false) else (N++[⟨bh s x m,n,m,a+1⟩],true):=by
 rw[cH,cH,cH]
theorem kF {P:Program} {A:Oper} {h:Act} {w:World} {E:Act→World→Prop} {Q:Exit→Act→World→Prop} (ty:TypeId) (x y:Operand) (K:A.op=.store ty x y) (b:Nat) (a C:Array Value) (t:TypeId) (R:h.eval x=.pointer (some ⟨b,0,none⟩)) (S:h.eval y=.agg a)
  (hb:w.heap[b]?=some (.cells C t (0,0))) (O:a.size=C.size) (J:(P.info? ty).map (·.size)=some a.size) (I:a.all (·.oneCell')=true)
  (H:∀ w',w'.heap[b]?=some (.cells a t (0,0))→Frm [b] w w'→E (h.put A.dst undef) w'):A.wp P h w E Q:=by
 have G:=dI hb a O
 refine wp_store_mid ty x y K b 0 a R S (fun j U=>⟨?_,?_⟩) J I (H _ G.1 G.2)
 ·rw[Nat.zero_add,ae hb];simp[show j<C.size by omega]
 ·rw[Nat.zero_add];exact aj hb j
structure SeS (w:World) (s:SesD) (yb fb:Nat) (lim:Int) (whole:Bool) (qb mb yB cb ab:Nat) (N:List (Nd × Nat)) (W:World):Prop where
 sp:SpR w s yb lim whole qb mb N W
 y:W.heap[yB]?=some (.cells #[.pointer (some ⟨yb,0,none⟩)] 27 (0,0))
 c:W.heap[cb]?=some (.cells #[.pointer (some ⟨qb,0,none⟩)] 208 (0,0))
 a:W.heap[ab]?=some (.cells #[.func (.func 117) #[] #[.pointer (some ⟨cb,0,none⟩)]] 217 (0,0))
 sy:SyR W s yb fb
theorem pD {W:World}:∀ b∈books W,FgB W b:=fun b hb=>by
 obtain⟨o,E,H⟩:=mem_books.1 hb
 have A:∀ C t a,o≠.cells C t a:=fun C t a e=>by subst e;cases H
 have h:∀ x,W.cell? ⟨b,x,none⟩=none:=fun x=>by
  unfold World.cell?
  rw[E]
  cases o with
  | cells C t a=>exact absurd rfl (A _ _ _)
  | _=>rfl
 exact⟨fun C t e=>(by rw[E] at e;cases e;exact absurd rfl (A _ _ _)),fun G x e=>(by rw[h] at e;cases e),fun G p e=>(by rw[h] at e;cases e),fun G g I p n c e=>(by rw[h] at e;cases e)⟩
section
variable {w W V:World} {s:SesD} {yb fb qb mb yB cb ab:Nat} {lim:Int} {whole:Bool} {N N':List (Nd × Nat)}
theorem SpR.bk (a:SpR w s yb lim whole qb mb N W) (aa:0<s.roles.length) {B:Nat} (hb:Bk B W V) (R:w.heap.size≤B):SpR w s yb lim whole qb mb N V:=by
 obtain⟨ao,cap,K,E,O⟩:=a.bx
 have A:=hb.frm
 have J:∀ {k:Nat} {C:Array Value} {t:TypeId},W.heap[k]?=some (.cells C t (0,0))→k∉books W:=fun G=>dQ G rfl
 refine⟨hb.old a.fr R,a.lq,a.lm,⟨ao,cap,hb.at K rfl,A.owns E fun k G=>?_,fun g cur I h u ad=>?_⟩,a.mp.frm A fun b e=>?_,fun d U=>(a.st d U).fg aa pD A⟩
 ·obtain⟨c,h⟩:=ak E G
  exact J h
 ·obtain⟨c,H⟩:=ak E I
  have:=hb.at H rfl
  rw[this] at h
  cases h
  exact(O g _ I H u ad).frm A fun p Y=>by
   obtain⟨D,S⟩:=Y
   exact J S
 ·cases e
  obtain⟨ae,c,X⟩:=a.mp.block rfl
  exact dQ X rfl
theorem SyR.bk (a:SyR W s yb fb) {B:Nat} (hb:Bk B W V):SyR V s yb fb:=a.fg pD hb.frm
theorem SeS.bk (a:SeS w s yb fb lim whole qb mb yB cb ab N W) {B:Nat} (hb:Bk B W V) (h:w.heap.size≤B):SeS w s yb fb lim whole qb mb yB cb ab N V:=
 ⟨a.sp.bk (by have:=a.sy.ok.n2;omega) hb h,hb.at a.y rfl,hb.at a.c rfl,hb.at a.a rfl,a.sy.bk hb⟩
theorem SeS.frm (a:SeS w s yb fb lim whole qb mb yB cb ab N W) (h:Frm [] W V):SeS w s yb fb lim whole qb mb yB cb ab N V:=
 ⟨a.sp.frm h,h.at a.y (by simp),h.at a.c (by simp),h.at a.a (by simp),a.sy.frm h⟩
theorem SeS.to (a:SeS w s yb fb lim whole qb mb yB cb ab N W) (G:AdTo w s yb lim whole qb mb N' W V):SeS w s yb fb lim whole qb mb yB cb ab N' V:=by
 obtain⟨E,⟨F,A,h⟩,-⟩:=G
 exact⟨E,SpB.at h A a.y (by decide) (.inl (by decide)),SpB.at h A a.c (by decide) (.inl (by decide)),SpB.at h A a.a (by decide) (.inl (by decide)),a.sy.fg (SpB.fg h) A⟩
theorem SpR.part (h:SpR w s yb lim whole qb mb N W) (ad:0<s.roles.length):SpR w s yb lim false qb mb N (W.setCell ⟨qb,1,none⟩ (.bool false)):=by
 obtain⟨ao,cap,H,I,U⟩:=h.bx
 have R:∀ b∈[qb],FgB W b:=fun b hb=>by rw[List.mem_singleton] at hb;subst hb;exact h.fgq.1
 obtain⟨V,J⟩:∃ V,W.setCell ⟨qb,1,none⟩ (.bool false)=V:=⟨_,rfl⟩
 have A:Frm [qb] W V:=by rw[← J];exact(Frm.refl _ _).setCell _ (.inl (by simp)) _
 have b1:V.heap[qb]?=some (.cells #[.int .i64 lim,.bool false,.slice ao N.length cap,.map (some mb)] 214 (0,0)):=by rw[← J];exact(ap H 1 _).trans rfl
 have S:∀ k,(Value.slice ao N.length cap).ownBlock=some k→k∉[qb]:=fun k G a=>by
  rw[List.mem_singleton] at a
  subst a
  obtain⟨c,E⟩:=ak I G
  rw[H] at E;cases E
 rw[J]
 refine⟨h.fr.then A (by intro k G;simp at G;subst G;exact .inr h.lq),h.lq,h.lm,⟨ao,cap,b1,A.owns I S,fun g cur K E u ae=>?_⟩,h.mp.frm A fun b e a=>?_,fun d Y=>(h.st d Y).fg ad R A⟩
 ·obtain⟨c,O⟩:=ak I K
  have:=A.at O (S g K)
  rw[this] at E
  cases E
  exact(U g _ K O u ae).frm A fun p aa a=>by
   obtain⟨D,X⟩:=aa
   exact FgB.ne R X (by simp[lA]) a
 ·cases e
  rw[List.mem_singleton] at a
  subst a
  obtain⟨af,c,a⟩:=h.mp.block rfl
  rw[H] at a;cases a
theorem SeS.part (a:SeS w s yb fb lim whole qb mb yB cb ab N W):SeS w s yb fb lim false qb mb yB cb ab N (W.setCell ⟨qb,1,none⟩ (.bool false))∧KB W (W.setCell ⟨qb,1,none⟩ (.bool false)):=by
 have J:0<s.roles.length:=by have:=a.sy.ok.n2;omega
 obtain⟨ao,cap,G,K,O⟩:=a.sp.bx
 have I:∀ b∈[qb],FgB W b:=fun b hb=>by rw[List.mem_singleton] at hb;subst hb;exact a.sp.fgq.1
 have h:Frm [qb] W (W.setCell ⟨qb,1,none⟩ (.bool false)):=(Frm.refl _ _).setCell _ (.inl (by simp)) _
 have E:∀ {k:Nat} {C:Array Value} {t:TypeId},W.heap[k]?=some (.cells C t (0,0))→t≠214→k∉[qb]:=fun A E H=>by
  rw[List.mem_singleton] at H
  subst H
  rw[G] at A;cases A
  exact E rfl
 refine⟨⟨a.sp.part J,h.at a.y (E a.y (by decide)),h.at a.c (E a.c (by decide)),h.at a.a (E a.a (by decide)),a.sy.fg I h⟩,KB.frm h fun k A hb=>?_⟩
 rw[List.mem_singleton] at A
 subst A
 exact dQ G rfl hb
structure SrS (w:World) (s:SesD) (yb fb:Nat) (lim:Int) (whole:Bool) (qb mb yB cb ab nb xb n:Nat) (d:Nd × Nat) (B:Nat) (u:Value) (L:List Mv) (N:List (Nd × Nat)) (W:World):Prop where
 se:SeS w s yb fb lim whole qb mb yB cb ab N W
 hn:W.heap[nb]?=some (.cells #[.int .i64 n] 3 (0,0))
 hx:W.heap[xb]?=some (.cells #[.pointer (some ⟨d.2,0,none⟩),.int .i64 d.1.par,.int .i64 d.1.mv.kind,.int .i64 d.1.mv.role,.int .i64 d.1.mv.step,.int .i64 d.1.mv.place,.int .i64 d.1.lvl] 216 (0,0))
 xr:¬ RowOf W qb xb
 hb:W.heap[B]?=some (.cells #[u] 31 (0,0))
 hu:W.ownsRow w.heap.size 44 4 u L.length (mvC L)
 at':N[n]?=some d
variable {nb xb n B:Nat} {d:Nd × Nat} {u:Value} {L:List Mv}
theorem SrS.mvs (a:SrS w s yb fb lim whole qb mb yB cb ab nb xb n d B u L N W):MvI B u L W:=⟨a.hb,nZ a.hu⟩
theorem RowOf.back {F:List Nat} {k:Nat} (G:Frm F W V) (I:qb∉F) (H:qb<W.heap.size) (E:RowOf V qb k):RowOf W qb k:=by
 obtain⟨a,b,v,m,h,A⟩:=E
 exact⟨a,b,v,m,(G.block qb H I).symm.trans h,A⟩
theorem SpR.lt (a:SpR w s yb lim whole qb mb N W):qb<W.heap.size:=by
 obtain⟨ao,cap,h,-⟩:=a.bx
 exact lt_of_block h
theorem SrS.frm (a:SrS w s yb fb lim whole qb mb yB cb ab nb xb n d B u L N W) (h:Frm [] W V):SrS w s yb fb lim whole qb mb yB cb ab nb xb n d B u L N V:=
 ⟨a.se.frm h,h.at a.hn (by simp),h.at a.hx (by simp),fun A=>a.xr (A.back h (by simp) a.se.sp.lt),h.at a.hb (by simp),h.owns a.hu (by simp),a.at'⟩
theorem SrS.bk (a:SrS w s yb fb lim whole qb mb yB cb ab nb xb n d B u L N W) {D:Nat} (hb:Bk D W V) (A:w.heap.size≤D):SrS w s yb fb lim whole qb mb yB cb ab nb xb n d B u L N V:=by
 refine⟨a.se.bk hb A,hb.at a.hn rfl,hb.at a.hx rfl,fun H=>a.xr ?_,hb.at a.hb rfl,hb.frm.owns a.hu fun k G=>?_,a.at'⟩
 ·obtain⟨ao,cap,h,-⟩:=a.se.sp.bx
  exact H.back hb.frm (dQ h rfl) (lt_of_block h)
 ·obtain⟨c,E⟩:=ak a.hu G
  exact dQ E rfl
theorem SrS.to (a:SrS w s yb fb lim whole qb mb yB cb ab nb xb n d B u L N W) (E:AdTo w s yb lim whole qb mb N' W V) (K:N'[n]?=some d):SrS w s yb fb lim whole qb mb yB cb ab nb xb n d B u L N' V:=by
 have H:=a.se.to E
 obtain⟨S,⟨F,A,h⟩,O⟩:=E
 refine⟨H,SpB.at h A a.hn (by decide) (.inl (by decide)),SpB.at h A a.hx (by decide) (.inr a.xr),fun e=>a.xr (O _ (lt_of_block a.hx) e),SpB.at h A a.hb (by decide) (.inl (by decide)),A.owns a.hu fun k I J=>?_,K⟩
 obtain⟨c,G⟩:=ak a.hu I
 have:=SpB.at h A G (by decide) (.inl (by decide))
 rcases (h k J).2 with ⟨R,c',e⟩ | ⟨D,e⟩ | ⟨⟨D,e⟩,-⟩ <;> rw[G] at e <;> cases e
theorem AdTo.kb (h:AdTo w s yb lim whole qb mb N' W V):KB W V:=by
 obtain⟨J,⟨F,A,a⟩,-⟩:=h
 refine KB.frm A fun k G hb=>?_
 obtain⟨o,H,E⟩:=mem_books.1 hb
 rcases (a k G).2 with ⟨I,c',e⟩ | ⟨D,e⟩ | ⟨⟨D,e⟩,-⟩ <;> rw[H] at e <;> cases e <;> cases E
end
def SrI (w:World) (s:SesD) (yb fb lim qb mb yB cb ab nb xb n:Nat) (d:Nd × Nat) (B:Nat) (u:Value) (L:List Mv) (N0:List Nd) (ds:List Nat) (pre:List (Nat × Mv)) (W:World):Prop:=
 ∃ N,SrS w s yb fb lim true qb mb yB cb ab nb xb n d B u L N W∧cH s lim d.1.st n d.1.lvl N0 (pre.map Prod.snd)=(N.map Prod.fst,true)∧(N.length≤lim∧∀ e∈N,e.1.lvl≤N.length)∧Ms w ds W
def SrX (c:Code) (w:World) (s:SesD) (yb fb lim qb mb yB cb ab n:Nat) (d:Nd × Nat) (N0:List Nd) (ds:List Nat) (c':Code) (pre:List (Nat × Mv)) (W:World):Prop:=
 c'=c∧∃ N,SeS w s yb fb lim false qb mb yB cb ab N W∧cH s lim d.1.st n d.1.lvl N0 (pre.map Prod.snd)=(N.map Prod.fst,false)∧Ms w ds W
section
variable {w W V:World} {s:SesD} {yb fb lim qb mb yB cb ab nb xb n B D:Nat} {d:Nd × Nat} {u:Value} {L:List Mv} {N0:List Nd} {ds:List Nat} {pre:List (Nat × Mv)} {c c':Code}
theorem Ms.bk (h:Ms w ds W) (hb:Bk D W V) (E:∀ a∈ds,a<D):Ms w ds V:=⟨h.nd,fun a A=>⟨(h.dl a A).1,hb.block a _ (h.dl a A).2 (.inl (E a A))⟩⟩
theorem Ms.kb (h:Ms w ds W) (E:KB W V):Ms w ds V:=⟨h.nd,fun a A=>⟨(h.dl a A).1,E a _ (h.dl a A).2 rfl⟩⟩
theorem SrI.bk (h:SrI w s yb fb lim qb mb yB cb ab nb xb n d B u L N0 ds pre W) (hb:Bk D W V) (I:w.heap.size≤D) (J:∀ a∈ds,a<D):SrI w s yb fb lim qb mb yB cb ab nb xb n d B u L N0 ds pre V:=by
 obtain⟨N,A,E,G,H⟩:=h
 exact⟨N,A.bk hb I,E,G,H.bk hb J⟩
theorem SrX.bk (h:SrX c w s yb fb lim qb mb yB cb ab n d N0 ds c' pre W) (hb:Bk D W V) (I:w.heap.size≤D) (J:∀ a∈ds,a<D):SrX c w s yb fb lim qb mb yB cb ab n d N0 ds c' pre V:=by
 obtain⟨A,N,E,G,H⟩:=h
 exact⟨A,N,E.bk hb I,G,H.bk hb J⟩
end
theorem fY {α:Type} {L:List α} {pre rest:List (Nat × α)} {y:Nat × α} (h:dD L=pre++y :: rest):L[pre.length]?=some y.2:=by
 have a:(dD L)[pre.length]?=some y:=by rw[h,List.getElem?_append_right (Nat.le_refl _),Nat.sub_self];rfl
 rw[ep,Option.map_eq_some_iff] at a
 obtain⟨m,A,rfl⟩:=a
 exact A
theorem qC {s:SesD} {lim f n:Nat} {N N':List Nd} {d:Nd} (a:N[n]?=some d) (h:cH s lim d.st n d.lvl N (aN s d.st)=(N',true)):bfs s lim (f+1) n N=bfs s lim f (n+1) N':=by
 rw[bfs,a]
 simp only[h]
theorem qD {s:SesD} {lim f n:Nat} {N N':List Nd} {d:Nd} (a:N[n]?=some d) (h:cH s lim d.st n d.lvl N (aN s d.st)=(N',false)):bfs s lim (f+1) n N=(N',false):=by
 rw[bfs,a]
 simp only[h]
theorem sC {s:SesD} {lim f n:Nat} {N:List Nd} (a:N[n]?=none):bfs s lim (f+1) n N=(N,true):=by
 rw[bfs,a]
theorem Ms.unmark {w W:World} {ds:List Nat} (G:Ms w ds W):Bk w.heap.size W (iY ds W):=by
 have a:=eA ds W
 refine⟨a.os,a.tape,a.output,a.size,fun k o E h=>a.at E fun H=>?_⟩
 obtain⟨I,A⟩:=G.dl k H
 rw[E] at A
 cases A
 rcases h with h | h
 ·omega
 ·cases h
set_option maxHeartbeats 2000000 in
set_option maxRecDepth 100000 in
theorem qA (s:SesD) (yb fb sb:Nat) (x:PS) (w:World) (A:SyR w s yb fb) (E:StR w s yb sb x):Calls Tryz.prog 21 #[.pointer (some ⟨yb,0,none⟩),.pointer (some ⟨sb,0,none⟩)] w
  (aU fun v w'=>∃ B u,v=.func (.func 146) #[] #[.pointer (some ⟨B,0,none⟩)]∧w'.heap[B]?=some (.cells #[u] 31 (0,0))∧w'.ownsRow w.heap.size 44 4 u (aN s x).length (mvC (aN s x))∧Frm [] w w'):=by
 have H:=vi (eJ s yb fb sb x w A E)
 have I:=vi (jI s yb fb sb x w A E)
 clear A E
 go_enter Tryz.func21,Tryz.ntmps21
 go_wp2_with (first
  | (go_at_call 61;go_must (refine H.out.mono ?_;rintro e w' ⟨rfl,rfl⟩))
  | (go_at_call 63;go_must (refine I.out.mono ?_;rintro e S ⟨v,rfl,a,h⟩;obtain⟨ao,U,rfl⟩:=an a;have K:=vi a;have R:=vi h;have J:=vi (jc _ (aN s x) S (nZ a));clear a h))
  | (go_at_call 75;go_must (refine J.out.mono ?_;rintro e X ⟨v,rfl,rfl,a,h⟩;have O:=vi a;have G:=vi h;clear a h)))
 go_ret
 exact⟨_,rfl,_,_,rfl,O.out.b,G.out.owns K.out (by simp),R.out.trans G.out⟩
end Go.Proofs.YtohfkhjlnlahdaaGreat
namespace Go.Proofs.YtohfkhjlnlahdaaGreat
open Go.RowKit Go.BigFrame
theorem mx {α:Type} {f:Nat→List α} {k j:Nat} {y:α} (A:(f k)[j]?=some y):∀ {n:Nat},k<n→∃ rest,cat f n=(cat f k++(f k).take j)++y :: rest
 | 0,h=>by omega
 | n+1,h=>by
   rcases Nat.lt_or_ge k n with a | a
   ·obtain⟨rest,e⟩:=mx A a
    exact⟨rest++f n,by rw[cat,e];simp⟩
   ·obtain rfl:k=n:=by omega
    obtain⟨-,E⟩:=bu A
    refine⟨(f k).drop (j+1),?_⟩
    rw[cat]
    conv=>lhs;rw[E]
    simp
def spN (s:SesD) (M:List Nd) (n:Nat):List (Nat × Sp):=(ofP s ((M.map Nd.st).getD n ⟨[],[],[]⟩)).map fun u=>(n,u)
theorem kq (s:SesD) (M:List Nd):dZ s M=cat (spN s M) M.length:=rfl
theorem ue {s:SesD} {a:List (Nd × Nat)} {k:Nat} {d:Nd × Nat} (h:a[k]?=some d):spN s (a.map Prod.fst) k=(ofP s d.1.st).map fun u=>(k,u):=by
 unfold spN
 rw[List.getD_eq_getElem?_getD,List.map_map,List.getElem?_map,h]
 rfl
structure AlI (B1 B2 pb:Nat) (ra:Option Addr) (cp:Nat) (s:SesD) (yb fb:Nat) (wh:Bool) (N:List (Nd × Nat)) (W:World):Prop where
 b1:W.heap[B1]?=some (.cells #[.pointer (some ⟨pb,0,none⟩)] 122 (0,0))
 b2:W.heap[B2]?=some (.cells #[.string s.name,.slice ra s.roles.length cp,.int .i64 s.cls,.int .i64 s.cap] 25 (0,0))
 ses:SesV W (.agg #[.string s.name,.slice ra s.roles.length cp,.int .i64 s.cls,.int .i64 s.cap]) s
 sp:SpO W s yb wh pb N
 sy:SyR W s yb fb
theorem AlI.frm {A E N S K J:Nat} {O:Option Addr} {s:SesD} {R:Bool} {G:List (Nd × Nat)} {H I:World} (a:AlI A E N O J s S K R G H) (h:Frm [] H I):AlI A E N O J s S K R G I:=
 ⟨h.at a.b1 (by simp),h.at a.b2 (by simp),a.ses.frm h,a.sp.frm h,a.sy.frm h⟩
theorem Kc.row {T:TypeId→Prop} {B base e E n:Nat} {h A:World} {v:Value} {G:List Value} (H:Kc T B h A) (O:h.ownsRow base e E v n G) (J:¬ T e):A.ownsRow base e E v n G:=by
 obtain⟨I,a⟩:=O
 refine⟨I,?_⟩
 rcases a with a | ⟨g,cap,cur,R,K,N,r⟩
 ·exact .inl a
 ·exact .inr ⟨g,cap,cur,R,K,H.cells _ _ _ _ N J,r⟩
attribute [local go_sem] Oper.semAt_some
set_option maxHeartbeats 8000000 in
set_option maxRecDepth 100000 in
theorem pg (T:TypeId→Prop) (b4:¬ T 33) (b5:¬ T 179) (b6:¬ T 122) (aS aT aj ay a6 a4:Nat) (bs:Option Addr) (s:SesD) (bx:Bool) (a:List (Nd × Nat)) (bd:a.length≤200000) :
  pf T Fence.wide 2 Tryz.prog 94 #[.pointer (some ⟨aS,0,none⟩),.pointer (some ⟨aT,0,none⟩)] (fun e:Nat × Sp=>#[.int .i64 e.1,suV e.2]) (AlI aS aT aj bs a4 s ay a6 bx a) (dZ s (a.map Prod.fst)):=by
 intro B l J bX bt bv bb bf aF a9 a7
 have O:=vi bt;have aY:=vi bv;have aC:=vi bb;have bW:=vi bf;have bz:=vi a7;have bA:=vi a9
 have bK:=vi bd
 clear bt bv bb bf a7 a9 bd
 refine callsIn_wide.2 ?_
 refine cf Tryz.func94 rfl ?_
 simp only[Tryz.ntmps94,List.size_toArray,List.length_cons,List.length_nil,Nat.reduceAdd,Nat.reduceSub,Array.replicate_succ,Array.replicate_zero,List.push_toArray,List.append_toArray,List.nil_append,List.cons_append]
 go_upto_region 1 with fail
 obtain⟨X,av⟩:∃ X,aF.alloc (.cells #[.func (.yield l) #[] #[]] 179)=X:=⟨_,rfl⟩
 obtain⟨az,aP⟩:∃ b,aF.heap.size=b:=⟨_,rfl⟩
 have aV:Hid (Frm [] aF X):=vi (by rw[← av];exact(Frm.refl _ _).alloc _)
 have bM:Hid (X.heap[az]?=some (.cells #[.func (.yield l) #[] #[]] 179 (0,0))):=vi (by rw[← av,← aP];exact heap_alloc_new _ _)
 rw[av,aP]
 clear av aP
 have aW:Hid (J [] X):=vi (O.out _ _ _ bz.out (aV.out.bk _))
 have bZ:=ae (aC.out _ _ aW.out).b1 0
 go_wp2_with (first
  | (go_at_call 91;go_must (refine(iz _ _).mono ?_;rintro e N ⟨u,rfl,au,rfl,af,ah⟩;have bB:=vi af;have aB:=vi ah;clear af ah bZ)))
 have bC:Hid (J [] N):=vi (O.out _ _ _ aW.out (aB.out.bk _))
 have bN:=vi (aB.out.at bM.out (by simp))
 have H:Hid (B≤N.heap.size):=vi (by have:=bA.out;have:=aV.out.size;have:=aB.out.size;omega)
 refine eX (T:=fun _=>True) rfl (enters_of Tryz.func151 (by kernel_rfl) rfl) (Iter.toT (ph au ay aj s bx a (by have:=bK.out;omega))) (fun _=>rfl)
  (fun U A=>J (cat (spN s (a.map Prod.fst)) U.length) A∧A.heap[az]?=some (.cells #[.func (.yield l) #[] #[]] 179 (0,0))∧A.heap[au]?=some (.cells #[.pointer (some ⟨aj,0,none⟩)] 122 (0,0)))
  (fun c _ A=>c=.ret∧∃ p x rest,dZ s (a.map Prod.fst)=p++x :: rest∧bX (p++[x]) A)
  (fun _ _ _ E hb=>⟨O.out _ _ _ E.1 (hb.weak H.out),hb.at E.2.1 rfl,hb.at E.2.2 rfl⟩)
  (fun _ _ _ _ E hb=>⟨E.1,by obtain⟨p,x,rest,S,b3⟩:=E.2;exact⟨p,x,rest,S,aY.out _ _ _ b3 (hb.weak H.out)⟩⟩)
  (fun _ A E=>⟨E.2.2,(aC.out _ _ E.1).sp⟩) ⟨bC.out,bN.out,bB.out⟩ ?_ ?_ ?_
 ·intro aQ U y rest bY ai Y bj bl
  obtain⟨ax,b8⟩:=gE ai
  have aI:=fY ai
  obtain⟨cu,cv⟩:=y
  simp only at ax aI
  subst ax
  have am:=vi Y
  have bk:aQ<bY.heap.size:=by obtain⟨cp,b9⟩:=bl;exact lt_of_block b9
  have bJ:=vi bk;have bH:=vi bj
  clear Y bj bl ai bk
  gi_wp2
  refine⟨Kc.refl _ _ _,fun h ad _=>?_⟩
  have br:N.heap.size≤h.heap.size:=by have:=bJ.out;have:=bH.out;have:=ad.size;omega
  have V:Hid (J (cat (spN s (a.map Prod.fst)) U.length) h∧h.heap[az]?=some (.cells #[.func (.yield l) #[] #[]] 179 (0,0))∧h.heap[au]?=some (.cells #[.pointer (some ⟨aj,0,none⟩)] 122 (0,0))):=
   vi ⟨O.out _ _ _ am.out.1 (ad.weak H.out),ad.at am.out.2.1 rfl,ad.at am.out.2.2 rfl⟩
  have bU:Hid (N.heap.size≤h.heap.size):=vi br
  clear ad am br
  obtain⟨d,aw,rfl⟩:=gQ aI
  have ar:=vi (ue (s:=s) aw)
  have G:=vi (aC.out _ _ V.out.1)
  have a1:Hid (StR h s ay d.2 d.1.st):=vi (G.out.sp.st d (List.mem_of_getElem? aw))
  have ak:=vi (kh s ay a6 d.2 d.1.st (.agg #[.string s.name,.slice bs s.roles.length a4,.int .i64 s.cls,.int .i64 s.cap]) h G.out.sy a1.out G.out.ses)
  have aZ:Hid (U.length<a.length):=vi (ag aw)
  have cg:=ae G.out.b2 0
  have ch:=ae G.out.b2 1
  have ci:=ae G.out.b2 2
  have cj:=ae G.out.b2 3
  have bm:=kN G.out.sy.ok a1.out.ok (Nat.le_refl s.roles.length)
  obtain⟨L,aH⟩:∃ L,ofP s d.1.st=L:=⟨_,rfl⟩
  have bc:L.length≤64:=by rw[← aH];exact bm
  rw[aH] at ak ar
  have bI:=vi bc
  obtain⟨n,aK⟩:∃ n,L.length=n:=⟨_,rfl⟩
  have aq:=vi aK
  rw[aK] at ak
  obtain⟨k,aJ⟩:∃ k,U.length=k:=⟨_,rfl⟩
  have bF:=vi aJ
  rw[aJ] at V ar aZ ⊢
  clear aw bm aH bc aK aI b8 aJ
  gi_upto_region 5 with (refine⟨trivial,?_⟩;gi_at_call 73;go_must (refine(CallsIn.inRound aQ (callsIn_wide.2 ak.out)).mono ?_;rintro e bw ⟨u,rfl,aL,ah⟩;obtain⟨a3,a5,rfl⟩:=an aL;have bL:=vi aL;have al:=vi ah;clear aL ah ak cg ch ci cj))
  have bD:Hid (J (cat (spN s (a.map Prod.fst)) k++(spN s (a.map Prod.fst) k).take 0) bw):=vi (by rw[List.take_zero,List.append_nil];exact O.out _ _ _ V.out.1 (al.out.bk _))
  have bG:Hid (Kc (fun _=>True) N.heap.size h bw):=vi (Kc.frm al.out)
  gi_loopw [16] (fun s16 wr=>∃ j:Nat,s16=.int .i64 j∧j≤n∧J (cat (spN s (a.map Prod.fst)) k++(spN s (a.map Prod.fst) k).take j) wr∧Kc (fun _=>True) N.heap.size h wr∧wr.ownsRow h.heap.size 33 3 (.slice a3 n a5) n (suC L)∧wr.heap[az]?=some (.cells #[.func (.yield l) #[] #[]] 179 (0,0))∧wr.heap[au]?=some (.cells #[.pointer (some ⟨aj,0,none⟩)] 122 (0,0))) (fun s16 _=>n - (intOf s16).toNat)
  case atStart=>exact⟨0,rfl,Nat.zero_le _,bD.out,bG.out,bL.out,al.out.at V.out.2.1 (by simp),al.out.at V.out.2.2 (by simp)⟩
  case round =>
   obtain⟨j,rfl,cm,bh,bi,bn,bp,af⟩:=hrel
   have aX:=vi bh;have ap:=vi bi;have a0:=vi bn;have aE:=vi bp;have aU:=vi af
   clear bh bi bn bp af
   by_cases hlt:j<n
   ·have cn:(j:Int)<(n:Int):=by omega
    obtain⟨x,aO⟩:∃ x,L[j]?=some x:=⟨_,List.getElem?_eq_getElem (by rw[aq.out];exact hlt)⟩
    have bo:wr.ownsRow h.heap.size 33 3 (.slice a3 L.length a5) L.length (suC L):=by rw[aq.out];exact a0.out
    obtain⟨g,o,ck,b0,ca⟩:=(jk bo).at aO
    cases b0
    obtain⟨cq,cr,cs⟩:=ca
    have aM:(spN s (a.map Prod.fst) k)[j]?=some (k,x):=by rw[ar.out,List.getElem?_map,aO];rfl
    obtain⟨aR,bq⟩:=mx aM (n:=a.length) aZ.out
    have aN:dZ s (a.map Prod.fst)=(cat (spN s (a.map Prod.fst)) k++(spN s (a.map Prod.fst) k).take j)++(k,x) :: aR:=by
     rw[kq,List.length_map];exact bq
    have bT:=vi aN
    have bS:=vi (bu aM).1
    have I:Hid (Frm [] wr (wr.alloc (.cells #[.int .i64 x.role,.int .i64 x.peer,.string x.msg] 33))):=vi ((Frm.refl _ _).alloc _)
    have ba:B≤(wr.alloc (.cells #[.int .i64 x.role,.int .i64 x.peer,.string x.msg] 33)).heap.size:=by
     have:=I.out.size;have:=ap.out.size;have:=bU.out;have:=H.out;omega
    obtain⟨fn,tmps,assign,body,ax,be⟩:=mw (l0:=aQ) (n:=1 - 1) (bW.out _ _ _ _ ba aN (O.out _ _ _ aX.out (I.out.bk _)))
    have bQ:=vi be
    have ce:=ae aE.out 0
    have ct:=I.out.keep ce
    simp only[suV] at ax
    have co:n≤64:=by rw[← aq.out];exact bI.out
    clear aO bo aM bq aN be ba
    gi_wp2
    refine bQ.out.mono ?_
    rintro e a2 (⟨rfl,K,aa⟩ | ⟨rfl,K,aa⟩)
    ·have aD:Hid (Kc (fun _=>True) N.heap.size h a2):=vi ((ap.out.trans (Kc.frm I.out)).trans ((K.sub fun _ _=>trivial).low H.out))
     have bP:=vi (K.row (I.out.owns a0.out (by simp)) b4)
     have bO:=vi (K.cells _ _ _ _ (I.out.at aE.out (by simp)) b5)
     have bV:=vi (K.cells _ _ _ _ (I.out.at aU.out (by simp)) b6)
     have R:=vi aa
     clear aa K
     gi_wp2
     go_roundw
     case rel=>exact⟨j+1,by go_num,hlt,by rw[bS.out,← List.append_assoc];exact R.out,aD.out,bP.out,bO.out,bV.out⟩
     case measure=>simp[intOf];omega
    ·have aD:Hid (Kc (fun _=>True) N.heap.size h a2):=vi ((ap.out.trans (Kc.frm I.out)).trans (K.low H.out))
     have R:=vi aa
     clear aa K
     gi_wp2
     exact⟨aD.out,rfl,_,_,_,bT.out,R.out⟩
   ·obtain rfl:n=j:=by omega
    have cl:¬ (n:Int)<(n:Int):=by omega
    have R:Hid (J (cat (spN s (a.map Prod.fst)) (U++[(k,d.2)]).length) wr):=vi (by
     have S:=aX.out
     rw[List.take_of_length_le (by rw[ar.out,List.length_map,aq.out];exact Nat.le_refl _)] at S
     rw[List.length_append,bF.out]
     exact S)
    gi_wp2
    exact⟨ap.out,R.out,aE.out,aU.out⟩
 ·intro D A aG Y ab
  have R:Hid (J (dZ s (a.map Prod.fst)) A):=vi (by
   have S:=Y.1
   rw[du,List.length_map] at S
   rw[kq,List.length_map]
   exact S)
  have W:=vi ab
  have aA:Hid (B≤D):=vi (by have:=H.out;omega)
  clear Y ab aG
  go_wp2
  exact ee W.out ⟨.tuple #[],results_none rfl _ _ _,⟨_,rfl⟩,.inl (O.out _ _ _ R.out (Bk.putObj A _ W.out rfl aA.out))⟩
 ·intro D c U x rest A ai aG b7 ab
  obtain⟨rfl,cc,cd,aR,a8,bg⟩:=b7
  have W:=vi ab;have bE:=vi bg;have bR:=vi a8
  have aA:Hid (B≤D):=vi (by have:=H.out;omega)
  clear ab aG bg a8 ai
  go_wp2
  exact ee W.out ⟨.tuple #[],results_none rfl _ _ _,⟨_,rfl⟩,.inr ⟨cc,cd,aR,bR.out,aY.out _ _ _ bE.out (Bk.putObj A _ W.out rfl aA.out)⟩⟩
end Go.Proofs.YtohfkhjlnlahdaaGreat
namespace Go.Proofs.YtohfkhjlnlahdaaGreat
open Go.RowKit Go.BigFrame Go.Maps
def tS (w:World) (s:SesD) (A lim:Nat) (v:Value) (w':World):Prop:=
 ∃ h a,v=.tuple #[.pointer (some ⟨h,0,none⟩),.int .i64 0]∧SpO w' s A (aQ s lim).2 h a∧a.map Prod.fst=(aQ s lim).1∧Frm [] w w'
def lF (v:Value) (w:World):Nat:=match v with | .pointer (some a)=>(intOf ((w.cell? a).getD undef)).toNat | _=>0
theorem oX {w a:World} {s:SesD} {O S lim K X Y cb R E:Nat} {N:Bool} {h:List (Nd × Nat)} {ds:List Nat} {fn:Func} {tmps:Array Value} (H:SeS w s O S lim N K X Y cb R h a)
  (V:a.heap[E]?=some (.cells #[.pointer (some ⟨K,0,none⟩)] 219 (0,0))) (A:Ms w ds a) (J:aQ s lim=(h.map Prod.fst,N)) (W:∀ G:World,(results fn tmps).run Tryz.prog G=.ok (.tuple #[.pointer (some ⟨E,0,none⟩),.int .i64 0]) G) :
  LeavesInM Fence.wide 3 Tryz.prog fn tmps (aU (tS w s O lim)) (fK ds) .returning a:=by
 have hb:=A.unmark
 have I:=H.sp.bk (by have:=H.sy.ok.n2;omega) hb (Nat.le_refl _)
 refine dY ds a A.nd (fun D U=>(A.dl D U).2) ⟨_,W _,_,rfl,E,h,rfl,?_,by rw[J],I.fr⟩
 rw[J]
 exact I.done (hb.at V rfl)
theorem lG {a:World} {b:Nat} {i:Int} (h:a.heap[b]?=some (.cells #[.int .i64 i] 3 (0,0))):lF (.pointer (some ⟨b,0,none⟩)) a=i.toNat:=by
 have A:a.cell? ⟨b,0,none⟩=some (.int .i64 i):=ae h 0
 unfold lF
 simp only[A,Option.getD_some]
 rfl
theorem Ms.cons {w h:World} {ds:List Nat} {D:Nat} (E:Ms w ds h) (H:∀ a∈ds,a<D) (G:w.heap.size≤D) (I:h.heap[D]?=some (.deferred (some []))):Ms w (D :: ds) h:=by
 refine⟨List.nodup_cons.2 ⟨fun J=>by have:=H D J;omega,E.nd⟩,fun a A=>?_⟩
 rcases List.mem_cons.1 A with rfl | A
 ·exact⟨G,I⟩
 ·exact E.dl a A
attribute [local go_sem] Oper.semAt_some
set_option maxHeartbeats 8000000 in
set_option maxRecDepth 100000 in
theorem fL (s:SesD) (G H lim:Nat) (w:World) (K:SyR w s G H) (bP:1≤lim) (bQ:lim≤200000) :
  Calls Tryz.prog 57 #[.pointer (some ⟨G,0,none⟩),.int .i64 lim] w (aU (tS w s G lim)):=by
 obtain⟨w0,bs⟩:∃ w0,w.alloc (.cells #[.pointer (some ⟨G,0,none⟩)] 27)=w0:=⟨_,rfl⟩
 have bY:Frm [] w w0:=by rw[← bs];exact(Frm.refl _ _).alloc _
 have bU:w0.heap[w.heap.size]?=some (.cells #[.pointer (some ⟨G,0,none⟩)] 27 (0,0)):=by rw[← bs];exact heap_alloc_new _ _
 have cd:=vi (gm s G H w0 (K.frm bY))
 have aO:=ae bU 0
 have dO:¬ ((lim:Int)<1):=by omega
 have dP:¬ (200000<(lim:Int)):=by omega
 have ak:=vi K;have bA:=vi bY;have cg:=vi bU;have ci:=vi bs;have cl:=vi bP;have bB:=vi bQ
 clear K bY bU bs bP bQ
 have bZ:=@run_makeMap Tryz.prog
 refine cf Tryz.func57 rfl ?_
 simp only[Tryz.ntmps57,List.size_toArray,List.length_cons,List.length_nil,Nat.reduceAdd,Nat.reduceSub,Array.replicate_succ,Array.replicate_zero,List.push_toArray,List.append_toArray,List.nil_append,List.cons_append]
 go_upto_region 1 with fail
 rw[ci.out]
 refine wp_scope_straight ?_
 obtain⟨R,am⟩:∃ R,(((w0.alloc (.map #[] 0)).alloc (.cells #[.int .i64 lim,.bool true,.slice none 0 0,.map (some w0.heap.size)] 214)).alloc (.cells #[.pointer (some ⟨w0.heap.size+1,0,none⟩)] 208)).alloc (.cells #[.func (.func 117) #[] #[.pointer (some ⟨w0.heap.size+1+1,0,none⟩)]] 217)=R:=⟨_,rfl⟩
 have bo:Frm [] w0 R:=by rw[← am];exact((((Frm.refl _ _).alloc _).alloc _).alloc _).alloc _
 have cQ:R.heap[w0.heap.size+1]?=some (.cells #[.int .i64 lim,.bool true,.slice none 0 0,.map (some w0.heap.size)] 214 (0,0)):=by
  rw[← am]
  exact ah (ah (aq (by simp)))
 have bW:R.heap[w0.heap.size+1+1]?=some (.cells #[.pointer (some ⟨w0.heap.size+1,0,none⟩)] 208 (0,0)):=by
  rw[← am]
  exact ah (aq (by simp))
 have bT:R.heap[w0.heap.size+1+1+1]?=some (.cells #[.func (.func 117) #[] #[.pointer (some ⟨w0.heap.size+1+1,0,none⟩)]] 217 (0,0)):=by
  rw[← am]
  exact aq (by simp)
 have cL:MapAt Tryz.prog 9 R (some w0.heap.size) 0 (gX s []) 0:=by
  rw[qy]
  refine(MapAt.made Tryz.prog 9 w0).frm (F:=[]) ?_ (by simp)
  rw[← am]
  exact(((Frm.refl _ _).alloc _).alloc _).alloc _
 have dy:w.heap.size≤w0.heap.size:=bA.out.size
 have a2:SeS w s G H lim true (w0.heap.size+1) w0.heap.size w.heap.size (w0.heap.size+1+1) (w0.heap.size+1+1+1) [] R:=
  ⟨⟨bA.out.trans bo,by omega,by omega,⟨none,0,cQ,World.ownsRow_nil _ _ _ _,fun g cur du=>by cases du⟩,cL,fun d a5=>by simp at a5⟩,bo.at cg.out (by simp),bW,bT,ak.out.frm (bA.out.trans bo)⟩
 have bM:=ae bT 0
 have X:Hid (Calls Tryz.prog 117 #[ndV (nd0 s,H),.pointer (some ⟨w0.heap.size+1+1,0,none⟩)] R (Ret (.bool true) (AdTo w s G lim true (w0.heap.size+1) w0.heap.size [(nd0 s,H)] R))):=
  vi (lH (d:=nd0 s) a2.sp a2.sy a2.sy.first bW rfl (by have:=j2 ak.out.ok (gF ak.out.ok);unfold maxLen;exact Nat.le_trans this (by omega)) (by simp;have:=cl.out;omega) (by have:=ak.out.ok.n2;omega) (by simp))
 have aB:=vi a2;have cj:=vi am
 clear bo cQ bW cL bT a2 am
 go_upto_region 8 with (first
  | (go_at_call 18;go_must (refine cd.out.mono ?_;rintro e w' ⟨rfl,rfl⟩)))
 rw[cj.out]
 go_wp2_with (first
  | (go_at_call 117;go_must (refine X.out.mono ?_;rintro e ca ⟨rfl,bm⟩;have ar:=vi bm;clear bm)))
 clear cd X bZ dy bM aO
 refine wp_label ?_
 go_wp2
 have bi:Hid (SeS w s G H lim true (w0.heap.size+1) w0.heap.size w.heap.size (w0.heap.size+1+1) (w0.heap.size+1+1+1) [(nd0 s,H)] (ca.alloc (.cells #[.int .i64 0] 3))):=vi ((aB.out.to ar.out).frm ((Frm.refl _ _).alloc _))
 have cm:Hid ((ca.alloc (.cells #[.int .i64 0] 3)).heap[ca.heap.size]?=some (.cells #[.int .i64 ((0:Nat):Int)] 3 (0,0))):=vi (heap_alloc_new _ _)
 obtain⟨h,cR⟩:∃ q,w0.heap.size+1=q:=⟨_,rfl⟩
 obtain⟨aL,cM⟩:∃ q,w0.heap.size=q:=⟨_,rfl⟩
 rw[cR] at bi ⊢
 rw[cM] at bi ⊢
 clear aB ar cj ci cR cM cg
 refine wp_loop (fun a' w'=>∃ ds,∃ u9 u10 u11 u12 u13 u14 u37 u38 u39 u40 u41 u42 u43 u44 u45 u46 u47 u48 u49 u50 u51 u52 u53 u54 u55 u56 u57 u58 u59 u60 u61 u62 u63 u64 u65 u66 u67 u68 u69 u70 u71 u72 u73 u74 u75 u76 u77 u78 u79 u80 u81:Value,(fun ds u9 w'=>∃ (n V:Nat) (E:List (Nd × Nat)) (f:Nat),(∀ e∈E,e.1.lvl≤E.length)∧u9=.pointer (some ⟨V,0,none⟩)∧SeS w s G H lim true h aL w.heap.size (h+1) (h+1+1) E w'∧w'.heap[V]?=some (.cells #[.int .i64 (n:Nat)] 3 (0,0))∧bfs s lim f n (E.map Prod.fst)=aQ s lim∧lim+1≤n+f∧n≤E.length∧E.length≤lim∧Ms w ds w') ds u9 w'∧a'={ tmps:=#[.pointer (some ⟨G,0,none⟩),.int .i64 lim,.pointer (some ⟨w.heap.size,0,none⟩),undef,.pointer none,.int .i64 0,.pointer (some ⟨H,0,none⟩),.pointer (some ⟨h+1,0,none⟩),.pointer (some ⟨h+1+1,0,none⟩),u9,u10,u11,u12,u13,u14,.pointer (some ⟨G,0,none⟩),.pointer (some ⟨H,0,none⟩),.bool false,.pointer (some ⟨H,0,none⟩),.bool false,.bool (decide ((lim:Int)<1) || decide (200000<(lim:Int))),.int .i64 lim,.bool (decide ((lim:Int)<1)),.bool (decide ((lim:Int)<1)),.int .i64 lim,.bool (decide (200000<(lim:Int))),.bool (decide ((lim:Int)<1) || decide (200000<(lim:Int))),.int .i64 lim,.agg #[.int .i64 lim,.bool true],.map (some aL),.agg #[.int .i64 lim,.bool true,.slice none 0 0,.map (some aL)],.pointer (some ⟨h,0,none⟩),.func (.func 117) #[] #[.pointer (some ⟨h+1,0,none⟩)],.func (.func 117) #[] #[.pointer (some ⟨h+1,0,none⟩)],.pointer (some ⟨H,0,none⟩),.agg #[.pointer (some ⟨H,0,none⟩),.int .i64 (-1),.int .i64 0,.int .i64 0,.int .i64 0,.int .i64 0,.int .i64 0],.bool true,u37,u38,u39,u40,u41,u42,u43,u44,u45,u46,u47,u48,u49,u50,u51,u52,u53,u54,u55,u56,u57,u58,u59,u60,u61,u62,u63,u64,u65,u66,u67,u68,u69,u70,u71,u72,u73,u74,u75,u76,u77,u78,u79,u80,u81,undef,undef,undef],defers:=fK ds }) (fun a' w'=>lim+1 - lF (a'.tmps.getD 9 undef) w') ?_ ?_
 ·refine⟨[],?_⟩
  (repeat apply Exists.intro)
  exact⟨⟨0,_,_,lim+1,by simp[nd0],rfl,bi.out,cm.out,rfl,by omega,by simp,by simpa using cl.out,Ms.nil _ _⟩,rfl⟩
 intro a' wr hinv
 obtain⟨ds,hinv⟩:=hinv
 obtain⟨u9,hinv⟩:=hinv
 obtain⟨u10,hinv⟩:=hinv
 obtain⟨u11,hinv⟩:=hinv
 obtain⟨u12,hinv⟩:=hinv
 obtain⟨u13,hinv⟩:=hinv
 obtain⟨u14,hinv⟩:=hinv
 obtain⟨u37,hinv⟩:=hinv
 obtain⟨u38,hinv⟩:=hinv
 obtain⟨u39,hinv⟩:=hinv
 obtain⟨u40,hinv⟩:=hinv
 obtain⟨u41,hinv⟩:=hinv
 obtain⟨u42,hinv⟩:=hinv
 obtain⟨u43,hinv⟩:=hinv
 obtain⟨u44,hinv⟩:=hinv
 obtain⟨u45,hinv⟩:=hinv
 obtain⟨u46,hinv⟩:=hinv
 obtain⟨u47,hinv⟩:=hinv
 obtain⟨u48,hinv⟩:=hinv
 obtain⟨u49,hinv⟩:=hinv
 obtain⟨u50,hinv⟩:=hinv
 obtain⟨u51,hinv⟩:=hinv
 obtain⟨u52,hinv⟩:=hinv
 obtain⟨u53,hinv⟩:=hinv
 obtain⟨u54,hinv⟩:=hinv
 obtain⟨u55,hinv⟩:=hinv
 obtain⟨u56,hinv⟩:=hinv
 obtain⟨u57,hinv⟩:=hinv
 obtain⟨u58,hinv⟩:=hinv
 obtain⟨u59,hinv⟩:=hinv
 obtain⟨u60,hinv⟩:=hinv
 obtain⟨u61,hinv⟩:=hinv
 obtain⟨u62,hinv⟩:=hinv
 obtain⟨u63,hinv⟩:=hinv
 obtain⟨u64,hinv⟩:=hinv
 obtain⟨u65,hinv⟩:=hinv
 obtain⟨u66,hinv⟩:=hinv
 obtain⟨u67,hinv⟩:=hinv
 obtain⟨u68,hinv⟩:=hinv
 obtain⟨u69,hinv⟩:=hinv
 obtain⟨u70,hinv⟩:=hinv
 obtain⟨u71,hinv⟩:=hinv
 obtain⟨u72,hinv⟩:=hinv
 obtain⟨u73,hinv⟩:=hinv
 obtain⟨u74,hinv⟩:=hinv
 obtain⟨u75,hinv⟩:=hinv
 obtain⟨u76,hinv⟩:=hinv
 obtain⟨u77,hinv⟩:=hinv
 obtain⟨u78,hinv⟩:=hinv
 obtain⟨u79,hinv⟩:=hinv
 obtain⟨u80,hinv⟩:=hinv
 obtain⟨u81,hinv⟩:=hinv
 obtain⟨hrel,bm⟩:=hinv
 subst bm
 try dsimp only
 clear bi cm
 obtain⟨n,V,E,f,cI,rfl,a9,bq,a3,bX,dR,dq,cO⟩:=hrel
 obtain⟨N,dA⟩:∃ N,N=wr:=⟨_,rfl⟩
 subst dA
 obtain⟨ao,cap,b1,b2,dn⟩:=a9.sp.bx
 have bb:N.cell? ⟨V,0,none⟩=some (.int .i64 (n:Nat)):=ae bq 0
 have c0:N.cell? ⟨h+1,0,none⟩=some (.pointer (some ⟨h,0,none⟩)):=ae a9.c 0
 have cZ:N.cell? ⟨h,2,none⟩=some (.slice ao E.length cap):=ae b1 2
 have b0:=qz b2
 have aB:=vi a9;have cn:=vi bq;have bF:=vi cO;have ch:=vi b1;have bz:=vi a3;have c2:=vi b2;have dg:=vi cI
 have dD:=lt_of_block bq
 have dB:=lt_of_block a9.c
 have dF:=lt_of_block b1
 clear a9 bq cO b1 b2 dn a3 cI
 by_cases hlt:n<E.length
 ·have dQ:(n:Int)<(E.length:Int):=by omega
  obtain⟨d,a5⟩:∃ d,E[n]?=some d:=⟨_,List.getElem?_eq_getElem hlt⟩
  obtain⟨g,o,rfl,dG⟩:=b0.get a5
  obtain⟨bO,cs,ct,cu,cv,cw,cx⟩:=dG
  have dC:=aI bO
  have be:=vi a5
  clear b0 a5
  go_upto_region 12 with (go_quiet (fail))
  obtain⟨aM,b3⟩:∃ aM,N.drewN nq=aM:=⟨_,rfl⟩
  have aE:Frm [] N aM:=by rw[← b3];exact(Frm.refl _ _).drewN _
  rw[b3]
  have c5:Hid (∀ Y,Frm [] aM Y→(Y.cell? ⟨V,0,none⟩=some (.int .i64 (n:Nat))∧Y.cell? ⟨h+1,0,none⟩=some (.pointer (some ⟨h,0,none⟩))∧Y.cell? ⟨h,2,none⟩=some (.slice (some ⟨g,o,none⟩) E.length cap))∧NdAt Y g (o+n*7) d):=vi fun Y bl =>
   ⟨⟨(aE.trans bl).keep bb,(aE.trans bl).keep c0,(aE.trans bl).keep cZ⟩,NdAt.frm ⟨bO,cs,ct,cu,cv,cw,cx⟩ (aE.trans bl)⟩
  have c9:=vi aE
  clear b3 aE bb c0 cZ bO cs ct cu cv cw cx dC dD dB dF
  generalize dt:Exit.then _ _=QQ
  refine wp_mono (Q:=fun e a' w'=>match e with | .normal=>QQ .normal a' w' | _=>False) ?_ (fun e a' w' K=>by cases e <;> first | exact K | exact K.elim)
  refine bH [] (fk 8) (by kernel_rfl) ?_
  refine cnt 0 ?_
  iterate 7
   refine hcL ?_ ?_ ?_
   rotate_left
   ·intro w' cz
    obtain⟨⟨bx,dT,dU⟩,⟨aO,dV,dW,dX,dY,dZ,d0⟩⟩:=c5.out w' ((Frm.refl [] aM).drew.trans cz)
    clear cz
    go_simp
    try rfl
   try simp only[nrm,Nat.reduceAdd]
  refine tcn ?_
  obtain⟨ad,b4⟩:∃ ad,aM.drew=ad:=⟨_,rfl⟩
  have ck:Hid (Frm [] N ad):=vi (by rw[← b4];exact c9.out.drew)
  rw[b4]
  clear b4
  refine bE 7 ?_
  refine ax (i:=7) rfl rfl (by rfl) (fun bL a1=>?_)
  go_simp
  (skip)
  refine a1.out _ _ ((Frm.refl _ _).alloc _) ?_
  clear a1 bL
  try simp only[nrm]
  obtain⟨bv,bt⟩:∃ bv,ad.alloc (.cells #[.pointer none,.int .i64 0,.int .i64 0,.int .i64 0,.int .i64 0,.int .i64 0,.int .i64 0] 216)=bv:=⟨_,rfl⟩
  have cp:Hid (bv.heap[ad.heap.size]?=some (.cells #[.pointer none,.int .i64 0,.int .i64 0,.int .i64 0,.int .i64 0,.int .i64 0,.int .i64 0] 216 (0,0))):=vi (by rw[← bt];exact heap_alloc_new _ _)
  have da:Hid (Frm [] ad bv):=vi (by rw[← bt];exact(Frm.refl _ _).alloc _)
  rw[bt]
  clear bt
  obtain⟨af,b5⟩:∃ af,ad.heap.size=af:=⟨_,rfl⟩
  have cr:=vi b5
  rw[b5] at cp ⊢
  clear b5
  refine bE 8 ?_
  refine az (i:=8) rfl (by rfl) (by rfl) (fun bL a1=>?_)
  refine kF 216 _ _ rfl af _ _ 216 rfl rfl cp.out rfl Tryz.infoNode (nk _ _ _ _ _ _ _) ?_
  intro bc a3 cF
  have cq:=vi a3
  have db:Hid (Frm [] ad bc):=vi (da.out.then cF (by intro k ab;simp at ab;subst ab;rw[← cr.out];exact .inr (Nat.le_refl _)))
  clear a3 cF
  refine a1.out _ _ ?_
  clear a1 bL
  try simp only[nrm]
  refine aR (by kernel_rfl) ?_ _
  subst dt
  have bJ:Hid (Frm [] N bc):=vi (ck.out.trans db.out)
  have aT:=vi (aB.out.frm bJ.out)
  have c8:=List.mem_of_getElem? be.out
  have co:=vi (aT.out.sp.st d c8)
  have ce:=vi (qA s G H d.2 d.1.st bc aT.out.sy co.out)
  have aO:bc.cell? ⟨w.heap.size,0,none⟩=some (.pointer (some ⟨G,0,none⟩)):=ae aT.out.y 0
  have bx:bc.cell? ⟨af,0,none⟩=some (.pointer (some ⟨d.2,0,none⟩)):=ae cq.out 0
  go_wp2_with (first
   | (go_at_call 21;go_must (refine ce.out.mono ?_;rintro e cc ⟨v,rfl,B,u,rfl,hb,cU,bX⟩;have c4:=vi hb;have dm:=vi cU;have bf:=vi bX;clear hb cU bX)))
  have cB:SrI w s G H lim h aL w.heap.size (h+1) (h+1+1) V af n d B u (aN s d.1.st) (E.map Prod.fst) ds [] cc:=by
   have aW:=bJ.out.trans bf.out
   refine⟨E,⟨aB.out.frm aW,aW.at cn.out (by simp),bf.out.at cq.out (by simp),fun dx=>?_,c4.out,df dm.out (by have:=aT.out.sp.fr.size;omega),be.out⟩,rfl,⟨dq,dg.out⟩,bF.out.frm aW⟩
   obtain⟨dJ,b,v,m,cy,dp⟩:=dx.back aW (by simp) (lt_of_block ch.out)
   rw[ch.out] at cy
   cases cy
   have bP:=bV c2.out dp
   have bQ:=ck.out.size
   have dM:=cr.out
   omega
  have dl:=vi cB
  have aP:Hid (∀ ai∈ds,ai<cc.heap.size):=vi fun ai aZ=>lt_of_block ((bF.out.frm (bJ.out.trans bf.out)).dl ai aZ).2
  have cC:w.heap.size≤cc.heap.size:=by have:=aT.out.sp.fr.size;have:=bf.out.size;omega
  have aV:=vi cC
  have bp:=oY B u (aN s d.1.st) (by have:=fX ak.out.ok co.out.ok;omega)
  clear cB cC aO bx ce
  refine dE rfl (enters_of Tryz.func146 (by kernel_rfl) rfl) bp (fun _=>rfl) (SrI w s G H lim h aL w.heap.size (h+1) (h+1+1) V af n d B u (aN s d.1.st) (E.map Prod.fst) ds) (SrX (.exit 1) w s G H lim h aL w.heap.size (h+1) (h+1+1) n d (E.map Prod.fst) ds)
   (fun _ _ _ K hb=>K.bk hb aV.out aP.out) (fun _ _ _ _ K hb=>K.bk hb aV.out aP.out) (fun _ _ K=>by obtain⟨I,K,-⟩:=K;exact K.mvs) dl.out ?_ ?_ ?_
  ·intro l bu y rest A aJ a0 aH dv
   obtain⟨cV,dw⟩:=gE aJ
   have bS:=fY aJ
   obtain⟨d1,a⟩:=y
   simp only at cV bS
   subst cV
   have cN:=List.mem_of_getElem? bS
   obtain⟨I,O,U,⟨W,ba⟩,aK⟩:=a0
   have aw:=vi O;have bd:=vi U;have aA:=vi W;have aS:=vi ba;have bj:=vi aK;have dj:=vi cN
   clear O U W ba aK aH dv aJ bp dw bS cN
   gi_wp2
   refine⟨KB.frm0 ((Frm.refl [] A).alloc _),fun aa bn _=>?_⟩
   have aC:aa.heap[A.heap.size]?=some (.cells #[.int .i64 a.kind,.int .i64 a.role,.int .i64 a.step,.int .i64 a.place] 44 (0,0)):=bn.at (heap_alloc_new A _) rfl
   have an:=(aw.out.frm ((Frm.refl [] A).alloc (.cells #[.int .i64 a.kind,.int .i64 a.role,.int .i64 a.step,.int .i64 a.place] 44))).bk bn aV.out
   have cK:=(bj.out.frm ((Frm.refl [] A).alloc (.cells #[.int .i64 a.kind,.int .i64 a.role,.int .i64 a.step,.int .i64 a.place] 44))).bk bn aP.out
   have dc:=vi an;have di:=vi cK;have c6:=vi aC
   have c1:=vi (iP s G H d.2 d.1.st a aa an.se.sy (an.se.sp.st d (List.mem_of_getElem? an.at')) dj.out)
   have aO:aa.cell? ⟨w.heap.size,0,none⟩=some (.pointer (some ⟨G,0,none⟩)):=ae an.se.y 0
   have bx:aa.cell? ⟨af,0,none⟩=some (.pointer (some ⟨d.2,0,none⟩)):=ae an.hx 0
   have b6:aa.cell? ⟨A.heap.size,0,none⟩=some (.int .i64 a.kind):=ae aC 0
   have b7:aa.cell? ⟨A.heap.size,1,none⟩=some (.int .i64 a.role):=ae aC 1
   have b8:aa.cell? ⟨A.heap.size,2,none⟩=some (.int .i64 a.step):=ae aC 2
   have b9:aa.cell? ⟨A.heap.size,3,none⟩=some (.int .i64 a.place):=ae aC 3
   clear bn an cK aC aw bj
   gi_upto_region 16 with (first
    | (refine⟨trivial,?_⟩;gi_at_call 19;go_must (refine(CallsIn.inRound l (callsIn_wide.2 c1.out)).mono ?_;rintro e ap ⟨v,rfl,sb,rfl,cT,cG⟩;have bk:=vi cT;have au:=vi cG;clear cT cG b6 b7 b8 b9 bx aO)))
   have aG:=dc.out.frm au.out
   have J:=vi aG
   have bC:=vi (di.out.frm au.out)
   have a4:=au.out.at c6.out (by simp)
   have bM:ap.cell? ⟨h+1+1,0,none⟩=some (.func (.func 117) #[] #[.pointer (some ⟨h+1,0,none⟩)]):=ae aG.se.a 0
   have bb:ap.cell? ⟨V,0,none⟩=some (.int .i64 (n:Nat)):=ae aG.hn 0
   have b6:ap.cell? ⟨A.heap.size,0,none⟩=some (.int .i64 a.kind):=ae a4 0
   have b7:ap.cell? ⟨A.heap.size,1,none⟩=some (.int .i64 a.role):=ae a4 1
   have b8:ap.cell? ⟨A.heap.size,2,none⟩=some (.int .i64 a.step):=ae a4 2
   have b9:ap.cell? ⟨A.heap.size,3,none⟩=some (.int .i64 a.place):=ae a4 3
   have dI:ap.cell? ⟨af,6,none⟩=some (.int .i64 d.1.lvl):=ae aG.hx 6
   have cJ:=aS.out d (List.mem_of_getElem? aG.at')
   have dr:=aA.out
   have cA:=bB.out
   have dz:wrap64 ((d.1.lvl:Int)+1)=((d.1.lvl+1:Nat):Int):=by unfold wrap64;omega
   have cW:(eO s (bh s d.1.st a)).size≤maxLen:=by
    have:=j2 ak.out.ok bk.out.ok
    unfold maxLen
    exact Nat.le_trans this (by omega)
   have cS:((bu++[(bu.length,a)]).map Prod.snd)=bu.map Prod.snd++[a]:=by rw[List.map_append];rfl
   have bI:=vi cS;have bK:=vi cW;have dh:=vi cJ
   clear aG a4 cJ dr cA cW cS
   by_cases ab:eP s (I.map Prod.fst) (cY s (bh s d.1.st a))=true
   ·have X:=vi (qB (d:=⟨bh s d.1.st a,n,a,d.1.lvl+1⟩) (sb:=sb) J.out.se.sp J.out.se.sy bk.out J.out.se.c ab bK.out)
    have ay:=vi ab
    clear ab
    gi_wp2_with (first
     | (refine⟨trivial,?_⟩;gi_at_call 117;go_must (refine(CallsIn.inRound l (callsIn_wide.2 X.out)).mono ?_;rintro e bw ⟨rfl,aF⟩;have av:=vi aF;clear aF)))
    refine⟨KB.frm0 (au.out.trans av.out),I,J.out.frm av.out,?_,⟨aA.out,aS.out⟩,bC.out.frm av.out⟩
    rw[bI.out,eB bd.out,gY,if_pos ay.out]
   ·have cH:eP s (I.map Prod.fst) (cY s (bh s d.1.st a))=false:=by simpa using ab
    have ay:=vi cH
    clear ab cH
    by_cases aH:I.length=lim
    ·have X:=vi (pI (d:=⟨bh s d.1.st a,n,a,d.1.lvl+1⟩) (sb:=sb) J.out.se.sp J.out.se.sy bk.out J.out.se.c ay.out bK.out (by omega))
     have bg:=vi aH
     clear aH
     gi_wp2_with (first
      | (refine⟨trivial,?_⟩;gi_at_call 117;go_must (refine(CallsIn.inRound l (callsIn_wide.2 X.out)).mono ?_;rintro e bw ⟨rfl,aF⟩;have av:=vi aF;have br:=(J.out.frm aF).se;have dk:=vi br;have c0:bw.cell? ⟨h+1,0,none⟩=some (.pointer (some ⟨h,0,none⟩)):=ae br.c 0;obtain⟨dK,dL,bN,-⟩:=br.sp.bx;have dS:bw.cell? ⟨h,1,none⟩=some (.bool true):=ae bN 1;have aW:=aj bN 1;clear aF br bN bM bb b6 b7 b8 b9 dI)))
     obtain⟨dH,cX⟩:=dk.out.part
     refine⟨(KB.frm0 (au.out.trans av.out)).trans cX,rfl,I,dH,?_,(bC.out.frm av.out).kb cX⟩
     rw[bI.out,eB bd.out,gY,ay.out,if_neg (by simp),if_pos (by rw[List.length_map,bg.out])]
    ·have X:=vi (lH (d:=⟨bh s d.1.st a,n,a,d.1.lvl+1⟩) (sb:=sb) J.out.se.sp J.out.se.sy bk.out J.out.se.c ay.out bK.out (by omega) (by have:=ak.out.ok.n2;omega) (by have:=aA.out;have:=bB.out;omega))
     have bg:=vi aH
     clear aH
     gi_wp2_with (first
      | (refine⟨trivial,?_⟩;gi_at_call 117;go_must (refine(CallsIn.inRound l (callsIn_wide.2 X.out)).mono ?_;rintro e bw ⟨rfl,cD⟩;have ar:=vi cD;clear cD)))
     have a7:(I++[((⟨bh s d.1.st a,n,a,d.1.lvl+1⟩:Nd),sb)]).length=I.length+1:=by simp
     refine⟨(KB.frm0 au.out).trans ar.out.kb,I++[(⟨bh s d.1.st a,n,a,d.1.lvl+1⟩,sb)],J.out.to ar.out ?_,?_,⟨?_,fun e aD=>?_⟩,bC.out.kb ar.out.kb⟩
     ·rw[List.getElem?_append_left (ag J.out.at')];exact J.out.at'
     ·rw[bI.out,eB bd.out,gY,ay.out,if_neg (by simp),if_neg (by rw[List.length_map];exact bg.out),List.map_append]
      rfl
     ·have:=aA.out
      have:=bg.out
      rw[a7];omega
     ·rw[a7]
      rcases List.mem_append.1 aD with aD | aD
      ·have:=aS.out e aD;omega
      ·rw[List.mem_singleton] at aD
       subst aD
       have:=dh.out
       simp only
       omega
  ·intro D A aY a0 al
   obtain⟨I,O,U,⟨W,ba⟩,aK⟩:=a0
   rw[lD] at U
   have bb:A.cell? ⟨V,0,none⟩=some (.int .i64 (n:Nat)):=ae O.hn 0
   have aw:=vi O;have bd:=vi U;have aA:=vi W;have aS:=vi ba;have bj:=vi aK;have dd:=vi al;have c7:=vi aY
   have cA:=bB.out
   obtain⟨S,rfl⟩:∃ S,f=S+1:=⟨f - 1,by omega⟩
   have dz:wrap64 ((n:Int)+1)=((n+1:Nat):Int):=by unfold wrap64;omega
   have cE:bfs s lim S (n+1) (I.map Prod.fst)=aQ s lim:=by
    rw[← bz.out]
    exact(qC (by rw[List.getElem?_map,be.out];rfl) U).symm
   have a7:n+1≤I.length:=by
    have:=ag O.at'
    omega
   have a8:=aK.cons (D:=D) (fun ai aZ=>by have:=aP.out ai aZ;omega) (by have:=aV.out;omega) al
   have c3:=vi cE;have de:=vi a7;have bD:=vi a8
   clear O U W ba aK al aY bp cE a7 a8
   go_wp2
   have cP:(A.alloc (.cells #[.int .i64 ((n:Int)+1)] 3)).heap[A.heap.size]?=some (.cells #[.int .i64 ((n+1:Nat):Int)] 3 (0,0)):=heap_alloc_new _ _
   have a6:Frm [] A (A.alloc (.cells #[.int .i64 ((n:Int)+1)] 3)):=(Frm.refl _ _).alloc _
   have bZ:lim+1 - lF (.pointer (some ⟨A.heap.size,0,none⟩)) (A.alloc (.cells #[.int .i64 ((n:Int)+1)] 3))<lim+1 - lF (.pointer (some ⟨V,0,none⟩)) N:=by
    rw[lG cP,lG cn.out]
    omega
   refine⟨⟨D :: ds,?_⟩,bZ⟩
   (repeat apply Exists.intro)
   exact⟨⟨n+1,A.heap.size,I,S,aS.out,rfl,aw.out.se.frm a6,cP,c3.out,by omega,de.out,aA.out,bD.out.frm a6⟩,rfl⟩
  ·intro D c bu y rest A aJ aY a0 al
   obtain⟨rfl,I,O,U,W⟩:=a0
   have bR:=gn (ks:=rest.map Prod.snd) U
   rw[← List.map_append,List.append_assoc,List.singleton_append,← aJ,lD] at bR
   obtain⟨S,rfl⟩:∃ S,f=S+1:=⟨f - 1,by omega⟩
   have aX:aQ s lim=(I.map Prod.fst,false):=by
    rw[← bz.out]
    exact qD (by rw[List.getElem?_map,be.out];rfl) bR
   have c0:A.cell? ⟨h+1,0,none⟩=some (.pointer (some ⟨h,0,none⟩)):=ae O.c 0
   have aw:=vi O;have bG:=vi aX;have bj:=vi W;have dd:=vi al;have c7:=vi aY
   have a8:=W.cons (D:=D) (fun ai aZ=>by have:=aP.out ai aZ;omega) (by have:=aV.out;omega) al
   have bD:=vi a8
   clear O U W al aY bp aJ bR aX a8
   go_wp2
   rw[Exit.noGoto_ret]
   exact oX (ds:=D :: ds) (aw.out.frm ((Frm.refl _ _).alloc _)) (heap_alloc_new _ _) (bD.out.frm ((Frm.refl _ _).alloc _)) bG.out (fun Y=>by simp[results,Tryz.results57,go_sem])
 ·obtain rfl:n=E.length:=by omega
  have dN:¬ ((E.length:Int)<(E.length:Int)):=by omega
  obtain⟨S,rfl⟩:∃ S,f=S+1:=⟨f - 1,by omega⟩
  have aX:aQ s lim=(E.map Prod.fst,true):=by
   rw[← bz.out]
   exact sC (by rw[List.getElem?_map,List.getElem?_eq_none (Nat.le_refl _)];rfl)
  have bG:=vi aX
  clear b0 aX
  go_wp2_with (go_quiet (fail))
  try rw[Exit.noGoto_ret]
  have a6:Frm [] N (N.drewN nq):=(Frm.refl _ _).drewN _
  exact oX (aB.out.frm (a6.alloc _)) (heap_alloc_new _ _) (bF.out.frm (a6.alloc _)) bG.out (fun Y=>by simp[results,Tryz.results57,go_sem])
end Go.Proofs.YtohfkhjlnlahdaaGreat
namespace Go.Proofs.YtohfkhjlnlahdaaGreat
open Go.RowKit Go.BigFrame
def uH (w:World) (s:SesD) (J G lim:Nat) (u:Value) (w':World):Prop:=
 ∃ a h H I E A,u=.func (.func 94) #[] #[.pointer (some ⟨a,0,none⟩),.pointer (some ⟨h,0,none⟩)]∧AlI a h H I E s J G (aQ s lim).2 A w'∧A.map Prod.fst=(aQ s lim).1∧Frm [] w w'
set_option maxHeartbeats 2000000 in
set_option maxRecDepth 100000 in
theorem ke (s:SesD) (h G lim:Nat) (w:World) (J:SyR w s h G) (aa:1≤lim) (ab:lim≤200000):Calls Tryz.prog 36 #[.pointer (some ⟨h,0,none⟩),.int .i64 lim] w (aU (uH w s h G lim)):=by
 have U:=vi (fL s h G lim w J aa ab)
 have X:=vi J
 clear J aa ab
 go_enter Tryz.func36,Tryz.ntmps36
 go_upto_region 2 with (first
  | (go_at_call 57;go_must (refine U.out.mono ?_;rintro e O ⟨v,rfl,N,an,rfl,ah,ad,ae⟩;have al:=vi ah;have ak:=vi ad;have I:=vi ae;clear ah ad ae U)))
 obtain⟨a,H⟩:∃ a,O.alloc (.cells #[.pointer (some ⟨N,0,none⟩)] 122)=a:=⟨_,rfl⟩
 obtain⟨S,K⟩:∃ b,O.heap.size=b:=⟨_,rfl⟩
 have E:Hid (Frm [] O a):=vi (by rw[← H];exact(Frm.refl _ _).alloc _)
 have ai:Hid (a.heap[S]?=some (.cells #[.pointer (some ⟨N,0,none⟩)] 122 (0,0))):=vi (by rw[← H,← K];exact heap_alloc_new _ _)
 rw[H,K]
 clear H K
 have V:=vi (fu s h G a (X.out.frm (I.out.trans E.out)))
 go_wp2_with (first
  | (go_at_call 74;go_must (refine V.out.mono ?_;rintro e R ⟨v,rfl,aq⟩;obtain⟨⟨ap,Y,rfl⟩,af,ag⟩:=aq;have aj:=vi af;have am:=vi (ag R (Agree.refl _ _));clear af ag V)))
 go_ret
 have W:Hid (Frm [] R (R.alloc (.cells #[.string s.name,.slice (some ⟨ap,0,none⟩) s.roles.length Y,.int .i64 s.cls,.int .i64 s.cap] 25))):=vi ((Frm.refl _ _).alloc _)
 have A:=vi (aj.out.trans W.out)
 exact⟨_,rfl,S,_,N,_,Y,an,rfl,⟨A.out.at ai.out (by simp),heap_alloc_new _ _,am.out.frm W.out,al.out.frm (E.out.trans A.out),X.out.frm (I.out.trans (E.out.trans A.out))⟩,ak.out,I.out.trans (E.out.trans A.out)⟩
set_option maxHeartbeats 2000000 in
set_option maxRecDepth 100000 in
theorem lZ (s:SesD) (h E sb:Nat) (x:PS) (w:World) (I:SyR w s h E) (J:StR w s h sb x) :
  Calls Tryz.prog 20 #[.pointer (some ⟨h,0,none⟩),.pointer (some ⟨sb,0,none⟩)] w (aU fun v w'=>∃ u,v=.tuple #[u,.int .i64 0]∧w'.ownsRow w.heap.size 33 3 u (ofP s x).length (suC (ofP s x))∧Frm [] w w'):=by
 have K:=vi (nN s h E sb x w I J)
 have S:=vi I;have Y:=vi J
 clear I J
 go_enter Tryz.func20,Tryz.ntmps20
 go_wp2_with (first
  | (go_at_call 72;go_must (refine K.out.mono ?_;rintro e ab ⟨rfl,a⟩;have H:=vi a;have O:=vi (fu s h E ab (S.out.frm a));clear a K))
  | (go_at_call 74;go_must (refine O.out.mono ?_;rintro e V ⟨v,rfl,A⟩;obtain⟨⟨af,ad,rfl⟩,G,U⟩:=A;have R:=vi (H.out.trans G);have N:=vi (kh s h E sb x _ V (S.out.frm (H.out.trans G)) (Y.out.frm (H.out.trans G)) (U V (Agree.refl _ _)));clear G U O))
  | (go_at_call 73;go_must (refine N.out.mono ?_;rintro e ag ⟨v,rfl,A,a⟩;obtain⟨ao,ae,aa⟩:=an A;subst aa;have X:=vi A;have W:=vi a;clear A a N)))
 go_ret2
 exact⟨_,rfl,_,rfl,df X.out R.out.size,R.out.trans W.out⟩
attribute [local go_sem] Oper.semAt_some
end Go.Proofs.YtohfkhjlnlahdaaGreat
namespace Go.Proofs.YtohfkhjlnlahdaaGreat
open Go.RowKit Go.BigFrame
structure NewTo (w:World) (s:SesD) (u:Value) (w':World):Prop where
 out:∃ yb fb,u=.tuple #[pv yb,.int .i64 0]∧w.heap.size≤yb∧∀ V,Agree w.heap.size w' V→SyR V s yb fb
 frm:Frm [] w w'
def emR (n:Nat):List (List ByteArray):=List.replicate n []
def emW (n i:Nat):List (List (List ByteArray)):=List.replicate i (emR n)
theorem rD (n:Nat):emR (n+1)=emR n++[[]]:=by unfold emR;rw[List.replicate_succ']
theorem rE (n i:Nat):emW n (i+1)=emW n i++[emR n]:=by unfold emW;rw[List.replicate_succ']
theorem qf (s:SesD):(bg s).ways=emW s.roles.length s.roles.length:=by
 unfold bg emW emR
 simp only[List.map_const']
def acF (s:SesD) (i:Nat):List (Int × List (CtrD × Int)):=(s.roles.take i).map fun r=>(0,dJ r.ctrs)
theorem rF {s:SesD} {i:Nat} (a:i<s.roles.length):acF s (i+1)=acF s i++[(0,dJ (s.rol i).ctrs)]:=by
 unfold acF
 rw[List.take_add_one,SesD.rol_some a,List.map_append];rfl
theorem rG (a:List CtrD):a.zip (a.map fun _=>(0:Int))=dJ a:=by
 unfold dJ
 induction a with
 | nil=>rfl
 | cons c l ih=>simp only[List.map_cons,List.zip_cons_cons,ih]
theorem qg (s:SesD):fD s (bg s)=acF s s.roles.length:=by
 refine List.ext_getElem? fun i=>?_
 by_cases hi:i<s.roles.length
 ·rw[fM hi]
  unfold acF
  rw[List.take_length,List.getElem?_map,SesD.rol_some hi]
  simp only[Option.map_some,Option.some.injEq,Prod.mk.injEq]
  have a:(bg s).at i=0:=by
   show ((s.roles.map fun _=>0).getD i 0)=0
   rw[List.getD_eq_getElem?_getD,List.getElem?_map,SesD.rol_some hi];rfl
  have hb:(bg s).bank i=(s.rol i).ctrs.map fun _=>(0:Int):=by
   show ((s.roles.map fun r=>r.ctrs.map fun _=>(0:Int)).getD i [])=_
   rw[List.getD_eq_getElem?_getD,List.getElem?_map,SesD.rol_some hi];rfl
  refine⟨by rw[a];rfl,?_⟩
  unfold PS.ctr
  rw[hb]
  exact rG _
 ·rw[List.getElem?_eq_none (by rw[cB];omega),List.getElem?_eq_none (by unfold acF;rw[List.length_map,List.take_length];omega)]
theorem jA {s:SesD} {r:RolD} (a:RolOk s r):DefsOk r.ctrs:=
 ⟨a.c4,fun c h e=>by
  have:=(a.cN c h).1
  rw[e] at this
  revert this;decide,fun c h=>(a.cN c h).2,a.cU⟩
theorem Tryz.infoPC:(Tryz.prog.info? 130).map (fun i=>(i.zero,i.size,i.bytes))=some (some (.pointer none),1,8):=by kernel_rfl
theorem Tryz.infoRw:(Tryz.prog.info? 191).map (fun i=>(i.zero,i.size,i.bytes))=some (some (.slice none 0 0),1,24):=by kernel_rfl
theorem Tryz.infoAc:(Tryz.prog.info? 143).map (fun i=>(i.zero,i.size,i.bytes))=some (some (.agg #[.int .i64 0,.pointer none]),2,16):=by kernel_rfl
structure N1 (w2:World) (s:SesD) (Y:Array Value) (n i:Nat) (W:World):Prop where
 out:∃ rs,GO 147 191 1 w2 (w2.heap.size+1) 2 #[pv w2.heap.size,.slice none 0 0,undef] i rs W∧WayC (w2.heap.size≤·) W s.cls s.cap rs (emW n i)
 y:W.heap[w2.heap.size]?=some (.cells Y 116 (0,0))
 fr:Frm [] w2 W
theorem N1.frm {H E A:World} {s:SesD} {G:Array Value} {n i:Nat} (h:N1 H s G n i E) (a:Frm [] E A):N1 H s G n i A:=by
 obtain⟨rs,I,J⟩:=h.out
 exact⟨⟨rs,I.frm a,J.kp (Kp.of_frm0 a) (by simp) (by simp) (by simp)⟩,a.at h.y (by simp),h.fr.trans a⟩
structure N2 (B:Nat) (wr:World) (s:SesD) (ao:Option Addr) (k cp:Nat) (W:World):Prop where
 out:∃ cells,W.ownsRow wr.heap.size 130 1 (.slice ao k cp) k cells∧RowC (B≤·) W s.cls s.cap cells (emR k)
 fr:Frm [] wr W
theorem N2.step {B:Nat} {wr h a A:World} {s:SesD} {ao J:Option Addr} {k K N cb:Nat} {E:List Value} (S:RowC (B≤·) h s.cls s.cap E (emR k)) (R:h.ownsRow wr.heap.size 130 1 (.slice ao k K) k E) (W:Frm [] wr h)
  (H:Frm [] h a) (G:ChO (B≤·) a cb s.cls s.cap []) (O:a.grownBy A (Value.slice ao k K).ownBlock) (V:A.ownsRow wr.heap.size 130 1 (.slice J (k+1) N) (k+1) (E++[pv cb])):N2 B wr s J (k+1) N A:=by
 have U:Kt [130] a A:=(Kt.refl _ a).grown O (fun q I=>by
  obtain⟨c,G⟩:=ak (H.owns R (by simp)) I
  exact⟨c,_,(0,0),G,by simp⟩)
 refine⟨⟨_,V,?_⟩,(W.trans H).grown O (fun q I=>.inr (aF R I))⟩
 rw[rD]
 exact((S.kp (Kp.of_frm0 H) (by simp) (by simp)).snoc G).kp (Kp.of_kt U) (by decide) (by decide)
structure N3 (w2:World) (s:SesD) (Y:Array Value) (wv:Value) (n i:Nat) (W:World):Prop where
 out:∃ cs,GO 147 143 2 w2 (w2.heap.size+1) 1 #[pv w2.heap.size,undef,wv] i cs W∧ActC (w2.heap.size≤·) W cs (acF s i)
 ways:WaysO (w2.heap.size≤·) W s.cls s.cap wv (emW n n)
 y:W.heap[w2.heap.size]?=some (.cells Y 116 (0,0))
 fr:Frm [] w2 W
theorem N3.frm {H E A:World} {s:SesD} {G:Array Value} {I:Value} {n i:Nat} (h:N3 H s G I n i E) (a:Frm [] E A):N3 H s G I n i A:=by
 obtain⟨rs,J,K⟩:=h.out
 exact⟨⟨rs,J.frm a,K.kp (Kp.of_frm0 a) (by simp) (by simp)⟩,h.ways.kp (Kp.of_frm0 a) (by simp) (by simp) (by simp) (by simp),a.at h.y (by simp),h.fr.trans a⟩
theorem ry {s:SesD} (a:SesOk s):okC s.cls s.cap=true:=by
 unfold okC
 rw[decide_eq_true_iff]
 exact⟨a.c1,a.c3,a.k1,by have:=a.k4;omega⟩
set_option maxHeartbeats 8000000 in
set_option maxRecDepth 100000 in
theorem pm (v:Value) (s:SesD) (w:World) (cg:SesV w v s) (X:SmS s) (be:eo s=0):Calls Tryz.prog 53 #[v] w (aU (NewTo w s)):=by
 have K:=vi (rH be)
 obtain⟨cv,rfl,aw⟩:=cg
 obtain⟨ao,cap,e,-⟩:=id aw
 subst e
 obtain⟨w0,aK⟩:∃ w0,w.alloc (.cells #[.string s.name,.slice ao s.roles.length cap,.int .i64 s.cls,.int .i64 s.cap] 25)=w0:=⟨_,rfl⟩
 have bh:Frm [] w w0:=by rw[← aK];exact(Frm.refl _ _).alloc _
 have aS:=vi (qT _ s w0 ⟨_,rfl,aw.frm bh⟩ X)
 have aT:Hid (w0.heap[w.heap.size]?=some (.cells #[.string s.name,.slice ao s.roles.length cap,.int .i64 s.cls,.int .i64 s.cap] 25 (0,0))):=vi (by rw[← aK];exact heap_alloc_new _ _)
 have bS:=vi bh
 have a9:=vi aw
 have a3:Hid (∀ A,Frm [] w A→Calls Tryz.prog 112 #[.agg #[.string s.name,.slice ao s.roles.length cap,.int .i64 s.cls,.int .i64 s.cap]] A (aU (OwTo A s))):=vi fun A V =>
  mF s _ A ⟨_,rfl,a9.out.frm V⟩ (by have:=K.out.n2;omega) K.out.n4 (fun r aw=>by have:=X.r r aw;exact⟨by have:=this.s;omega,by have:=this.c;omega,by have:=this.t;omega⟩)
 rw[be] at aS
 obtain⟨n,aZ⟩:∃ n,s.roles.length=n:=⟨_,rfl⟩
 rw[aZ] at aS aT a9 a3 aK
 rw[aZ]
 have ab:=vi aZ
 have bR:=vi aK
 clear aw X bh aZ be aK
 go_enter Tryz.func53,Tryz.ntmps53
 go_upto_region 6 with (first
  | (refine aH rfl 25 _ rfl _ rfl ?_;rw[bR.out])
  | (refine af rfl 25 _ rfl _ rfl _ 25 aT.out _ Tryz.underlying25 rfl (by kernel_rfl) ?_)
  | (refine af rfl 25 _ rfl _ rfl _ 25 U.out _ Tryz.underlying25 rfl (by kernel_rfl) ?_)
  | (go_at_call 111;go_must (refine aS.out.mono ?_;rintro e cJ ⟨u,rfl,i,rfl,bi⟩;have a4:=vi (bS.out.trans bi);have U:=vi (bi.at aT.out (by simp));clear bi aT))
  | (go_at_call 112;go_must (refine(a3.out _ a4.out).mono ?_;rintro e a ⟨u,rfl,aJ⟩;obtain⟨g,bb,rfl⟩:=aJ.shape;have bT:=vi aJ;have ax:=vi (a4.out.trans aJ.frm);have bO:=vi (aJ.frm.at U.out (by simp));clear aJ)))
 obtain⟨az,aE⟩:∃ az,(a.alloc (.cells #[.string s.name,.slice (some ⟨g,0,none⟩) s.roles.length bb,.int .i64 s.cls,.int .i64 s.cap,.pointer none] 116)).alloc (.cells #[pv a.heap.size,.slice none 0 0,.slice none 0 0] 147)=az:=⟨_,rfl⟩
 have bj:Frm [] a az:=by rw[← aE];exact((Frm.refl _ _).alloc _).alloc _
 have aX:Hid (N1 a s #[.string s.name,.slice (some ⟨g,0,none⟩) s.roles.length bb,.int .i64 s.cls,.int .i64 s.cap,.pointer none] n 0 az):=vi ⟨⟨[],GO.made bj (by omega) (by rw[← aE];exact aq (by simp)) rfl,WayC.nil⟩,by rw[← aE];exact ah (heap_alloc_new _ _),bj⟩
 have br:=vi aE
 obtain⟨aA,bf⟩:∃ aA:Array Value,#[.string s.name,.slice (some ⟨g,0,none⟩) s.roles.length bb,.int .i64 s.cls,.int .i64 s.cap,.pointer none]=aA:=⟨_,rfl⟩
 rw[bf] at aX
 have bY:=vi bf
 have aV:Hid (∀ A,Frm [] a A→A.cell? ⟨w.heap.size,1,none⟩=some (.slice ao n cap)∧A.cell? ⟨w.heap.size,2,none⟩=some (.int .i64 s.cls)∧A.cell? ⟨w.heap.size,3,none⟩=some (.int .i64 s.cap)):=vi fun A V=>by
  have hb:=V.at bO.out (by simp)
  exact⟨ae hb 1,ae hb 2,ae hb 3⟩
 clear bj aE bf aS a3 U
 rw[br.out]
 clear br
 obtain⟨ai,ak,al⟩:=aV.out az aX.out.fr
 have bn:wrap64 ((n:Int)+1)=(n:Int)+1:=by have:=K.out.n4;have:=ab.out;unfold wrap64;omega
 clear bn
 go_wp2
 clear ai ak al
 go_loopw [33] (fun s33 aR=>∃ i:Nat,s33=.int .i64 i∧i≤n∧N1 a s aA n i aR) (fun s33 _=>n - (intOf s33).toNat)
 case atStart=>exact⟨0,rfl,Nat.zero_le _,aX.out⟩
 case round =>
  obtain⟨i,rfl,cD,hrel⟩:=hrel
  have h:=vi hrel
  clear hrel aX
  obtain⟨Y,cp⟩:∃ Y,Y=wr:=⟨_,rfl⟩
  subst cp
  by_cases hlt:i<n
  ·have cm:(i:Int)<(n:Int):=by omega
   obtain⟨ai,ak,al⟩:=aV.out Y h.out.fr
   go_wp2
   clear ai ak al
   go_loopw [8,38] (fun s8 s38 aR=>∃ (k:Nat) (au:Option Addr) (av:Nat),s38=.int .i64 k∧k≤n∧s8=.slice au k av∧N2 a.heap.size Y s au k av aR) (fun _ s38 _=>n - (intOf s38).toNat)
   case atStart=>exact⟨0,none,0,rfl,Nat.zero_le _,rfl,⟨⟨[],World.ownsRow_nil _ _ _ _,RowC.nil⟩,Frm.refl _ _⟩⟩
   case round =>
    obtain⟨k,au,av,rfl,cj,rfl,hrel⟩:=hrel
    have aa:=vi hrel
    clear hrel
    by_cases hltk:k<n
    ·have cF:(k:Int)<(n:Int):=by omega
     obtain⟨ai,ak,al⟩:=aV.out wr (h.out.fr.trans aa.out.fr)
     have bp:=vi (qE s.cls s.cap wr (ry K.out))
     obtain⟨ba,bL,bK⟩:=aa.out.out
     have bs:=vi bL;have bU:=vi bK
     have cG:=(h.out.fr.trans aa.out.fr).size
     have ck:k≤4:=by have:=K.out.n4;have:=ab.out;omega
     obtain⟨aQ,aI,aN,aO,aP⟩:=info_parts Tryz.infoPC
     clear bL bK
     go_wp2_with (first
      | (go_at_call 113;go_must (refine bp.out.mono ?_;rintro e S ⟨rfl,bF,bE⟩;have ay:=vi bF;have bQ:Hid (ChO (a.heap.size≤·) S wr.heap.size s.cls s.cap []):=vi ⟨_,bE,by intro x cq;simp at cq;omega⟩;clear bF bE bp ai ak al))
      | (at_builtin;refine wpList_append_own_at _ rfl _ _ 191 rfl Y.heap.size 130 aQ (.pointer none) 1 8 Tryz.underlying191 aI aN aO aP rfl (by decide) (.slice au k av) k ba rfl ((ay.out.alloc _).owns bs.out (by simp)) ⟨S.heap.size,0,none⟩ 1 1 [pv wr.heap.size] rfl rfl (cA _ _ _) (by simp[Value.oneCell']) (by unfold maxLen;omega) (by omega) (by have:=aa.out.fr.size;have:=ay.out.size;simp;omega) ?_;intro v' a0 I R _ _;obtain⟨bZ,b5,rfl⟩:=an I;have bW:=vi (N2.step (cb:=wr.heap.size) bU.out bs.out aa.out.fr (ay.out.alloc _) (bQ.out.kp (Kp.of_frm0 ((Frm.refl [] S).alloc _)) (by simp) (by simp)) R I);clear I R))
     exact⟨⟨k+1,bZ,b5,congrArg (Value.int .i64) (by omega),hltk,rfl,bW.out⟩,by simp[intOf];omega⟩
    ·obtain rfl:k=n:=by omega
     have bl:¬ (k:Int)<(k:Int):=by omega
     have a8:=vi (h.out.frm aa.out.fr)
     have bV:Hid (RowO (a.heap.size≤·) wr s.cls s.cap (.slice au k av) (emR k)):=vi (by
      obtain⟨ba,bC,ch⟩:=aa.out.out
      have cl:(emR k).length=k:=by unfold emR;rw[List.length_replicate]
      exact⟨_,ba,by rw[cl];exact bC,fun q W=>Nat.le_trans h.out.fr.size (aF bC W),ch⟩)
     obtain⟨rs,E,aL⟩:=a8.out.out
     obtain⟨ag,cb,G,H⟩:=E.bx
     have O:wr.heap[a.heap.size+1]?=some (.cells #[pv a.heap.size,.slice none 0 0,.slice ag i cb] 147 (0,0)):=G
     have a6:=vi E;have bX:=vi aL;have U:=vi G;have ad:=vi H
     have bd:=ae O 2
     have ce:=aj O 2
     have ck:i≤4:=by have:=K.out.n4;have:=ab.out;omega
     obtain⟨aQ,aI,aN,aO,aP⟩:=info_parts Tryz.infoRw
     clear E aL G H O
     go_wp2_with (at_builtin;refine wpList_append_own_at _ rfl _ _ 145 rfl a.heap.size 191 aQ (.slice none 0 0) 1 24 Tryz.underlying145 aI aN aO aP rfl (by decide) (.slice ag i cb) i rs rfl (ad.out.alloc _) ⟨wr.heap.size,0,none⟩ 1 1 [.slice au k av] rfl rfl (cA _ _ _) (by simp[Value.oneCell']) (by unfold maxLen;omega) (by omega) (by have:=a8.out.fr.size;simp;omega) ?_;intro v' a0 I R _ _;obtain⟨b3,b6,rfl⟩:=an I;have X:=GO.step a6.out U.out ad.out (by decide) ((Frm.refl [] wr).alloc _) R I;have ar:a0.heap[a.heap.size+1]?=some (.cells #[pv a.heap.size,.slice none 0 0,.slice ag i cb] 147 (0,0)):=GO.facts U.out ad.out (by decide) ((Frm.refl [] wr).alloc _) R;have b9:=ae ar 2;have cf:=aj ar 2;have N:=vi X;clear X ar I R bd)
     refine⟨⟨i+1,congrArg (Value.int .i64) (by omega),hlt,?_⟩,by simp[intOf];omega⟩
     refine⟨⟨_,N.out.1,?_⟩,N.out.2.cells a8.out.y (by decide),N.out.1.fr⟩
     rw[rE]
     exact(bX.out.snoc bV.out).kp (Kp.of_kt N.out.2) (by decide) (by decide) (by decide)
  ·obtain rfl:i=n:=by omega
   have bl:¬ (i:Int)<(i:Int):=by omega
   obtain⟨ai,ak,al⟩:=aV.out Y h.out.fr
   go_wp2
   clear ai ak al
   obtain⟨rs,E,aL⟩:=h.out.out
   obtain⟨ag,cb,G,H⟩:=E.bx
   have O:Y.heap[a.heap.size+1]?=some (.cells #[pv a.heap.size,.slice none 0 0,.slice ag i cb] 147 (0,0)):=G
   have a7:Hid (N3 a s aA (.slice ag i cb) i 0 Y):=vi ⟨⟨[],GO.made h.out.fr (by omega) O rfl,ActC.nil⟩,⟨a.heap.size,rs,by unfold emW;rw[List.length_replicate];exact H,fun q W=>aF H W,aL⟩,h.out.y,h.out.fr⟩
   clear E aL G H O h bl
   obtain⟨a1,bo⟩:∃ v,Value.slice ag i cb=v:=⟨_,rfl⟩
   have cw:=vi bo
   rw[bo] at a7
   clear bo
   go_loopw [67] (fun s67 aR=>∃ k:Nat,s67=.int .i64 k∧k≤i∧N3 a s aA a1 i k aR) (fun s67 _=>i - (intOf s67).toNat)
   case atStart=>exact⟨0,rfl,Nat.zero_le _,a7.out⟩
   case round =>
    obtain⟨k,rfl,cj,hrel⟩:=hrel
    have h:=vi hrel
    clear hrel a7
    obtain⟨J,bn⟩:∃ J,J=wr:=⟨_,rfl⟩
    subst bn
    by_cases hlt:k<i
    ·have cm:(k:Int)<(i:Int):=by omega
     have aY:k<s.roles.length:=by rw[ab.out];exact hlt
     have aG:Frm [] w J:=ax.out.trans h.out.fr
     obtain⟨b,o,cH,cz,cI,rfl,⟨bx,bz,bA,bB⟩,aD⟩:=Rls.at (a9.out.frm aG) aY
     obtain⟨b0,b7,cc,-⟩:=id aD.sts
     obtain⟨ac,bw,ca,-⟩:=id aD.ctrs
     obtain⟨b4,b8,cd,-⟩:=id aD.steps
     subst cc;subst ca;subst cd
     have a2:Hid (∀ A,Frm [] J A→Calls Tryz.prog 114 #[.slice ac (s.rol k).ctrs.length bw] A (aU (uQ A (dJ (s.rol k).ctrs)))):=vi fun A V=>rI _ (s.rol k).ctrs A (aD.frm V).ctrs (jA (K.out.at aY))
     have bt:=vi (rF aY)
     have cx:=vi (fB (s.rol k).ctrs)
     obtain⟨L,bD⟩:∃ L,dJ (s.rol k).ctrs=L:=⟨_,rfl⟩
     rw[bD] at a2 bt
     obtain⟨cu,bJ⟩:∃ q,(s.rol k).name=q:=⟨_,rfl⟩
     obtain⟨cr,bG⟩:∃ q,(s.rol k).sts.length=q:=⟨_,rfl⟩
     obtain⟨cs,bH⟩:∃ q,(s.rol k).ctrs.length=q:=⟨_,rfl⟩
     obtain⟨ct,bI⟩:∃ q,(s.rol k).steps.length=q:=⟨_,rfl⟩
     rw[bJ] at bx;rw[bG] at bz;rw[bH] at a2 bA;rw[bI] at bB
     obtain⟨cy,E,am⟩:=h.out.out
     obtain⟨aB,aC,G,H⟩:=E.bx
     have bq:=vi am
     have cE:k≤4:=by have:=K.out.n4;omega
     obtain⟨aQ,aI,aN,aO,aP⟩:=info_parts Tryz.infoAc
     clear aD aY bD bJ bG bH bI E am G H aG
     have a5:Hid (Frm [] J (J.alloc (.cells #[.string cu,.slice b0 cr b7,.slice ac cs bw,.slice b4 ct b8] 87))):=vi ((Frm.refl _ _).alloc _)
     go_upto_region 20 with (first
      | (go_at_call 114;go_must (refine(a2.out _ a5.out).mono ?_;rintro e S ⟨u,rfl,bv,rfl,bk⟩;have ay:Hid (Frm [] J S):=vi (a5.out.trans bk.fr);have bP:Hid (BkO (a.heap.size≤·) S bv L):=vi (bk.bko (fun q W=>Nat.le_trans (h.out.fr.trans a5.out).size W));clear bk)))
     have aW:=vi (h.out.frm ay.out)
     obtain⟨bc,E,am⟩:=aW.out.out
     obtain⟨aB,aC,G,H⟩:=E.bx
     have O:S.heap[a.heap.size+1]?=some (.cells #[pv a.heap.size,.slice aB k aC,a1] 147 (0,0)):=G
     have a6:=vi E;have bq:=vi am;have U:=vi G;have ad:=vi H
     have bd:=ae O 1
     have ce:=aj O 1
     clear E am G H O bx bz bA bB
     go_wp2_with (at_builtin;refine wpList_append_own_at _ rfl _ _ 144 rfl a.heap.size 143 aQ (.agg #[.int .i64 0,.pointer none]) 2 16 Tryz.underlying144 aI aN aO aP rfl (by decide) (.slice aB k aC) k bc rfl (ad.out.alloc _) ⟨S.heap.size,0,none⟩ 1 1 [.int .i64 0,pv bv] rfl rfl (cA _ _ _) (by simp[Value.oneCell']) (by unfold maxLen;omega) (by omega) (by have:=aW.out.fr.size;simp;omega) ?_;intro v' a0 I R _ _;obtain⟨b3,b6,rfl⟩:=an I;have X:=GO.step a6.out U.out ad.out (by decide) ((Frm.refl [] S).alloc _) R I;have ar:a0.heap[a.heap.size+1]?=some (.cells #[pv a.heap.size,.slice aB k aC,a1] 147 (0,0)):=GO.facts U.out ad.out (by decide) ((Frm.refl [] S).alloc _) R;have b9:=ae ar 1;have cf:=aj ar 1;have N:=vi X;clear X ar I R bd)
     refine⟨⟨k+1,congrArg (Value.int .i64) (by omega),hlt,?_⟩,by simp[intOf];omega⟩
     refine⟨⟨_,N.out.1,?_⟩,aW.out.ways.kp (Kp.of_kt N.out.2) (by decide) (by decide) (by decide) (by decide),N.out.2.cells aW.out.y (by decide),N.out.1.fr⟩
     rw[bt.out]
     exact(bq.out.snoc bP.out).kp (Kp.of_kt N.out.2) (by decide) (by decide)
    ·obtain rfl:k=i:=by omega
     have bl:¬ (k:Int)<(k:Int):=by omega
     have aM:=h.out.y
     rw[← bY.out] at aM
     have bu:=vi aM
     have cB:=ae aM 4
     have cC:=aj aM 4
     clear aM
     go_wp2
     go_ret2
     refine⟨_,rfl,?_⟩
     obtain⟨bc,E,am⟩:=h.out.out
     obtain⟨aB,aC,G,H⟩:=E.bx
     have bm:Kt [116] J (J.setCell ⟨a.heap.size,4,none⟩ (pv (a.heap.size+1))):=(Kt.refl _ _).set bu.out (by simp) _
     have aG:Frm [] a (J.setCell ⟨a.heap.size,4,none⟩ (pv (a.heap.size+1))):=h.out.fr.setCell _ (.inr (Nat.le_refl _)) _
     refine⟨⟨a.heap.size,a.heap.size+1,rfl,ax.out.size,fun A V=>?_⟩,ax.out.trans aG⟩
     have ci:Agree w.heap.size a A:=V.old aG (by simp)
     obtain⟨cv,bM,cn⟩:=bT.out.ses A (ci.low a4.out.size)
     simp only[Value.agg.injEq,Array.mk.injEq,List.cons.injEq,true_and,and_true] at bM
     subst bM
     have co:StO (a.heap.size≤·) (J.setCell ⟨a.heap.size,4,none⟩ (pv (a.heap.size+1))) s a.heap.size (a.heap.size+1) (bg s):=by
      refine⟨⟨_,a1,bm.cells G (by decide),Nat.le_succ _,?_,?_⟩,gF K.out⟩
      ·rw[qg,ab.out]
       refine ActsO.kp ⟨a.heap.size,bc,?_,fun q W=>aF H W,am⟩ (Kp.of_kt bm) (by decide) (by decide) (by decide)
       rw[show (acF s k).length=k by unfold acF;rw[List.length_map,List.length_take,ab.out,Nat.min_self]]
       exact H
      ·rw[qf,ab.out]
       exact h.out.ways.kp (Kp.of_kt bm) (by decide) (by decide) (by decide) (by decide)
     refine⟨⟨_,?_,cn⟩,K.out,(co.kp (Kp.of_agree V (fun q W=>Nat.le_trans ax.out.size W))).str⟩
     have bN:=(ap bu.out 4 (pv (a.heap.size+1)))
     exact(V _ ax.out.size (lt_of_block bN)).trans bN
end Go.Proofs.YtohfkhjlnlahdaaGreat
namespace Go.Proofs.YtohfkhjlnlahdaaGreat
open Go.RowKit Go.BigFrame
abbrev suZ:Value:=.agg #[.int .i64 0,.int .i64 0,.string { data:=#[] }]
structure FsB (w:World) (r4 r5 r6 r7:Nat) (tv:Value) (A:Array Value) (b:Bool) (e:Int) (V:World):Prop where
 fr:Frm [] w V
 t:V.heap[r4]?=some (.cells #[tv] 31 (0,0))
 x:V.heap[r5]?=some (.cells A 33 (0,0))
 f:V.heap[r6]?=some (.cells #[.bool b] 4 (0,0))
 e:V.heap[r7]?=some (.cells #[.int .i64 e] 34 (0,0))
 l4:w.heap.size≤r4
 l5:w.heap.size≤r5
 l6:w.heap.size≤r6
 l7:w.heap.size≤r7
section
variable {w V V':World} {r4 r5 r6 r7:Nat} {tv:Value} {A:Array Value} {b:Bool} {e:Int}
theorem FsB.frm (a:FsB w r4 r5 r6 r7 tv A b e V) (h:Frm [] V V'):FsB w r4 r5 r6 r7 tv A b e V':=
 ⟨a.fr.trans h,h.at a.t (by simp),h.at a.x (by simp),h.at a.f (by simp),h.at a.e (by simp),a.l4,a.l5,a.l6,a.l7⟩
theorem FsB.bk {B:Nat} (a:FsB w r4 r5 r6 r7 tv A b e V) (hb:Bk B V V') (h:w.heap.size≤B):FsB w r4 r5 r6 r7 tv A b e V':=
 ⟨hb.old a.fr h,hb.at a.t rfl,hb.at a.x rfl,hb.at a.f rfl,hb.at a.e rfl,a.l4,a.l5,a.l6,a.l7⟩
theorem ce {a:World} {h b:Nat} {c H:Array Value} {t G:TypeId} {I J:Nat × Nat} (K:a.heap[h]?=some (.cells c t I)) (E:a.heap[b]?=some (.cells H G J)) (N:t≠G):h≠b:=fun e=>by
 subst e
 rw[K] at E
 cases E
 exact N rfl
theorem FsB.setT (a:FsB w r4 r5 r6 r7 tv A b e V) (u:Value):FsB w r4 r5 r6 r7 u A b e (V.setCell ⟨r4,0,none⟩ u):=
 ⟨a.fr.setCell _ (.inr a.l4) _,(ap a.t 0 u).trans rfl,bC a.x (ce a.x a.t (by decide)) _,bC a.f (ce a.f a.t (by decide)) _,bC a.e (ce a.e a.t (by decide)) _,a.l4,a.l5,a.l6,a.l7⟩
theorem FsB.setF (a:FsB w r4 r5 r6 r7 tv A b e V) (u:Bool):FsB w r4 r5 r6 r7 tv A u e (V.setCell ⟨r6,0,none⟩ (.bool u)):=
 ⟨a.fr.setCell _ (.inr a.l6) _,bC a.t (ce a.t a.f (by decide)) _,bC a.x (ce a.x a.f (by decide)) _,(ap a.f 0 _).trans rfl,bC a.e (ce a.e a.f (by decide)) _,a.l4,a.l5,a.l6,a.l7⟩
theorem FsB.setE (a:FsB w r4 r5 r6 r7 tv A b e V) (u:Int):FsB w r4 r5 r6 r7 tv A b u (V.setCell ⟨r7,0,none⟩ (.int .i64 u)):=
 ⟨a.fr.setCell _ (.inr a.l7) _,bC a.t (ce a.t a.e (by decide)) _,bC a.x (ce a.x a.e (by decide)) _,bC a.f (ce a.f a.e (by decide)) _,(ap a.e 0 _).trans rfl,a.l4,a.l5,a.l6,a.l7⟩
theorem FsB.setX {G:Array Value} (a:FsB w r4 r5 r6 r7 tv A b e V) (K:V'.heap[r5]?=some (.cells G 33 (0,0))) (h:Frm [r5] V V'):FsB w r4 r5 r6 r7 tv G b e V':=by
 have E:∀ {k:Nat} {c:Array Value} {t:TypeId} {fr:Nat × Nat},V.heap[k]?=some (.cells c t fr)→t≠33→k∉[r5]:=fun I J H=>by
  rw[List.mem_singleton] at H
  exact ce I a.x J H
 exact⟨a.fr.then h (fun y N=>.inr (by rw[List.mem_singleton] at N;have:=a.l5;omega)),h.at a.t (E a.t (by decide)),K,h.at a.f (E a.f (by decide)),h.at a.e (E a.e (by decide)),a.l4,a.l5,a.l6,a.l7⟩
end
theorem FsB.res {w V:World} {r4 r5 r6 r7:Nat} {tv:Value} {x y:Int} {z:ByteArray} {b:Bool} {e:Int} {fn:Func} {tmps:Array Value} (a:FsB w r4 r5 r6 r7 tv #[.int .i64 x,.int .i64 y,.string z] b e V) (Y:fn.results=#[.cell 4 31,.cell 5 33,.cell 6 4,.cell 7 34])
  (K:tmps.getD 4 undef=.pointer (some ⟨r4,0,none⟩)) (O:tmps.getD 5 undef=.pointer (some ⟨r5,0,none⟩)) (S:tmps.getD 6 undef=.pointer (some ⟨r6,0,none⟩)) (W:tmps.getD 7 undef=.pointer (some ⟨r7,0,none⟩)) :
  (results fn tmps).run Tryz.prog V=.ok (.tuple #[tv,.agg #[.int .i64 x,.int .i64 y,.string z],.bool b,.int .i64 e]) V:=by
 have N:tmps[4]?.getD undef=.pointer (some ⟨r4,0,none⟩):=by simpa using K
 have R:tmps[5]?.getD undef=.pointer (some ⟨r5,0,none⟩):=by simpa using O
 have U:tmps[6]?.getD undef=.pointer (some ⟨r6,0,none⟩):=by simpa using S
 have X:tmps[7]?.getD undef=.pointer (some ⟨r7,0,none⟩):=by simpa using W
 have h:=ae a.t 0
 have I:=ae a.f 0
 have J:=ae a.e 0
 have E:=ae a.x 0
 have G:=ae a.x 1
 have H:=ae a.x 2
 simp at h I J E G H
 simp[results,Y,N,R,U,X,asAddr,h,I,J,E,G,H,go_sem]
theorem Bk.cell {B:Nat} {a G:World} {h:Addr} {v:Value} (H:Bk B a G) (E:a.cell? h=some v):G.cell? h=some v:=by
 have I:=World.block_lt_of_cell? _ _ E
 have hb:a.heap[h.block]?=some a.heap[h.block]:=Array.getElem?_eq_getElem I
 have J:eG a.heap[h.block]=false:=by
  cases ho:a.heap[h.block] with
  | cells c t K=>rfl
  | _=>first | rfl | (exfalso;rw[ho] at hb;simp[World.cell?,hb] at E)
 rw[World.cell?_of_block (w:=a) ((H.block _ _ hb (.inr J)).trans hb.symm)]
 exact E
theorem MvAt.bk {B:Nat} {h E:World} {g o:Nat} {m:Mv} (a:MvAt h g o m) (hb:Bk B h E):MvAt E g o m:=⟨hb.cell a.1,hb.cell a.2,hb.cell a.3,hb.cell a.4⟩
theorem FsB.mv {w V V':World} {r4 r5 r6 r7:Nat} {ao:Option Addr} {n c:Nat} {x y:Int} {z:ByteArray} {b:Bool} {e:Int} {g o:Nat} {m:Mv} (h:FsB w r4 r5 r6 r7 (.slice ao n c) #[.int .i64 x,.int .i64 y,.string z] b e V) (a:MvAt V g o m) (E:Frm [r4,r5,r6,r7] V V'):MvAt V' g o m:=by
 have G:g∉[r4,r5,r6,r7]:=fun H=>by
  simp only[List.mem_cons,List.not_mem_nil,or_false] at H
  rcases H with rfl | rfl | rfl | rfl
  ·have:=a.1;rw[ae h.t] at this
   cases o with
   | zero=>simp at this
   | succ o=>simp at this
  ·have:=a.4;rw[ae h.x] at this
   simp at this
  ·have:=a.1;rw[ae h.f] at this
   cases o with
   | zero=>simp at this
   | succ o=>simp at this
  ·have:=a.2;rw[ae h.e] at this
   simp at this
 exact⟨E.cellAt a.1 G,E.cellAt a.2 G,E.cellAt a.3 G,E.cellAt a.4 G⟩
theorem gU {w:World} {b o:Nat} {c:Array Value} {t:TypeId} {G:Nat × Nat} {v:Value} (a:w.heap[b]?=some (.cells c t G)) (E:c[o]?=some v):w.setCell ⟨b,o,none⟩ v=w:=by
 have J:=lt_of_block a
 have I:c.setIfInBounds o v=c:=by
  apply Array.ext_getElem?
  intro i
  by_cases hi:o=i
  ·subst hi
   have:o<c.size:=by
    rcases Nat.lt_or_ge o c.size with h | h
    ·exact h
    ·rw[Array.getElem?_eq_none h] at E;cases E
   rw[Array.getElem?_setIfInBounds_self_of_lt this,E]
  ·rw[Array.getElem?_setIfInBounds_ne hi]
 have:(w.setCell ⟨b,o,none⟩ v).heap=w.heap:=by
  apply Array.ext_getElem?
  intro i
  by_cases hi:i=b
  ·subst hi
   have H:(w.setCell ⟨i,o,none⟩ v).heap[i]?=some (.cells (c.setIfInBounds o v) t G):=ap a o v
   rw[H,a,I]
  ·exact Below.heap_setCell _ _ _ _ hi
 show { w with heap:=_ }=w
 cases w
 simp only[World.setCell] at this ⊢
 rw[this]
theorem FsB.nes {w V:World} {r4 r5 r6 r7:Nat} {tv:Value} {A:Array Value} {b:Bool} {e:Int} (a:FsB w r4 r5 r6 r7 tv A b e V):r4≠r5∧r4≠r6∧r4≠r7∧r5≠r6∧r5≠r7∧r6≠r7:=
 ⟨ce a.t a.x (by decide),ce a.t a.f (by decide),ce a.t a.e (by decide),ce a.x a.f (by decide),ce a.x a.e (by decide),ce a.f a.e (by decide)⟩
theorem FsB.set3 {w V:World} {r4 r5 r6 r7:Nat} {tv:Value} {A:Array Value} {b:Bool} {e:Int} (a:FsB w r4 r5 r6 r7 tv A b e V) (h:A.size=3) (x y z:Value) :
  FsB w r4 r5 r6 r7 tv #[x,y,z] b e (((V.setCell ⟨r5,0,none⟩ x).setCell ⟨r5,1,none⟩ y).setCell ⟨r5,2,none⟩ z)∧Frm [r5] V (((V.setCell ⟨r5,0,none⟩ x).setCell ⟨r5,1,none⟩ y).setCell ⟨r5,2,none⟩ z):=by
 have:=dI a.x #[x,y,z] (by rw[h];rfl)
 exact⟨a.setX this.1 this.2,this.2⟩
theorem FsB.put {w V:World} {r4 r5 r6 r7:Nat} {tv:Value} {A:Array Value} {b:Bool} {e:Int} (K:FsB w r4 r5 r6 r7 tv A b e V) (U:A.size=3) (a x y z:Value) (h:Bool) (E:Int) {V':World}
  (W:V'=((((((V.setCell ⟨r4,0,none⟩ a).setCell ⟨r5,0,none⟩ x).setCell ⟨r5,1,none⟩ y).setCell ⟨r5,2,none⟩ z).setCell ⟨r6,0,none⟩ (.bool h)).setCell ⟨r7,0,none⟩ (.int .i64 E)).drew) :
  FsB w r4 r5 r6 r7 a #[x,y,z] h E V'∧Frm [r4,r5,r6,r7] V V':=by
 subst W
 have N:=K.setT a
 obtain⟨O,J⟩:=N.set3 U x y z
 have R:=O.setF h
 have S:=R.setE E
 refine⟨S.frm (Frm.refl [] _).drew,?_⟩
 have H:Frm [r4,r5,r6,r7] V (V.setCell ⟨r4,0,none⟩ a):=(Frm.refl _ _).setCell _ (.inl (by simp)) _
 have I:=H.trans (J.mono (F':=[r4,r5,r6,r7]) fun q G=>by rw[List.mem_singleton] at G;subst G;exact .inl (by simp))
 exact((I.setCell ⟨r6,0,none⟩ (.inl (by simp)) _).setCell ⟨r7,0,none⟩ (.inl (by simp)) _).drew
theorem FsB.mark {w V V':World} {r4 r5 r6 r7 D:Nat} {tv:Value} {A:Array Value} {b:Bool} {e:Int} (h:FsB w r4 r5 r6 r7 tv A b e V) (a:V.heap[D]?=some (.deferred (some []))) (G:Frm [r4,r5,r6,r7] V V'):V'.heap[D]?=some (.deferred (some [])):=by
 refine G.at a fun E=>?_
 simp only[List.mem_cons,List.not_mem_nil,or_false] at E
 rcases E with rfl | rfl | rfl | rfl
 ·rw[h.t] at a;cases a
 ·rw[h.x] at a;cases a
 ·rw[h.f] at a;cases a
 ·rw[h.e] at a;cases a
theorem Kc.one {B b:Nat} {c:Array Value} {t:TypeId} {I:Nat × Nat} {a E:World} (hb:a.heap[b]?=some (.cells c t I)) (G:Frm [b] a E):Kc jV B a E:=
 ⟨G.size,fun _ _ _ _ _ J=>(J trivial).elim,fun k o _ h K=>G.at h fun H=>by
  rw[List.mem_singleton] at H
  subst H
  rw[hb] at h
  cases h
  cases K⟩
def mP (w:World) (s:SesD) (lim:Nat) (v:Value) (w':World):Prop:=
 Frm [] w w'∧((dZ s (aQ s lim).1=[]∧v=.tuple #[.slice none 0 0,suZ,.bool false,.int .i64 (if (aQ s lim).2 then 0 else 7)]) ∨
  (∃ n u rest tv,dZ s (aQ s lim).1=(n,u) :: rest∧v=.tuple #[tv,suV u,.bool true,.int .i64 0]∧Arr 4 MvAt w' tv (dq (aQ s lim).1 n)))
theorem ly {w V:World} {s:SesD} {lim:Nat} {r4 r5 r6 r7 D:Nat} {tv:Value} {x y:Int} {z:ByteArray} {b:Bool} {e:Int} {fn:Func} {tmps:Array Value} (E:FsB w r4 r5 r6 r7 tv #[.int .i64 x,.int .i64 y,.string z] b e V) (h:V.heap[D]?=some (.deferred (some []))) (O:w.heap.size≤D)
  (N:fn.results=#[.cell 4 31,.cell 5 33,.cell 6 4,.cell 7 34]) (G:tmps.getD 4 undef=.pointer (some ⟨r4,0,none⟩)) (H:tmps.getD 5 undef=.pointer (some ⟨r5,0,none⟩)) (I:tmps.getD 6 undef=.pointer (some ⟨r6,0,none⟩)) (J:tmps.getD 7 undef=.pointer (some ⟨r7,0,none⟩))
  (K:∀ V',Bk w.heap.size V V'→Frm [] w V'→mP w s lim (.tuple #[tv,.agg #[.int .i64 x,.int .i64 y,.string z],.bool b,.int .i64 e]) V') :
  LeavesInM Fence.wide 3 Tryz.prog fn tmps (aU (mP w s lim)) [{ target:=.collected D,args:=#[] }] .returning V:=by
 have hb:Bk w.heap.size V (V.putObj D (.deferred none)):=Bk.putObj V _ h rfl O
 have a:=E.bk hb (Nat.le_refl _)
 exact ee h ⟨_,a.res N G H I J,_,rfl,K _ hb a.fr⟩
attribute [local go_sem] Oper.semAt_some
set_option maxHeartbeats 4000000 in
set_option maxRecDepth 100000 in
theorem mQ (s:SesD) (am aV lim:Nat) (w:World) (h:SyR w s am aV) (aD:1≤lim) (aE:lim≤200000):Calls Tryz.prog 16 #[.pointer (some ⟨am,0,none⟩),.int .i64 lim] w (aU (mP w s lim)):=by
 have cB:=vi h;have aO:=vi (⟨aD,aE⟩:1≤lim∧lim≤200000)
 obtain⟨aR,bj⟩:∃ aR,(((w.alloc (.cells #[.slice none 0 0] 31)).alloc (.cells #[.int .i64 0,.int .i64 0,.string { data:=#[] }] 33)).alloc (.cells #[.bool false] 4)).alloc (.cells #[.int .i64 0] 34)=aR:=⟨_,rfl⟩
 obtain⟨r7,bg⟩:∃ b,w.heap.size+1+1+1=b:=⟨_,rfl⟩
 obtain⟨r6,bf⟩:∃ b,w.heap.size+1+1=b:=⟨_,rfl⟩
 obtain⟨r5,be⟩:∃ b,w.heap.size+1=b:=⟨_,rfl⟩
 obtain⟨r4,bd⟩:∃ b,w.heap.size=b:=⟨_,rfl⟩
 have aK:Hid (FsB w r4 r5 r6 r7 (.slice none 0 0) #[.int .i64 0,.int .i64 0,.string { data:=#[] }] false 0 aR):=vi (by
  rw[← bj,← bd,← be,← bf,← bg]
  exact⟨((((Frm.refl _ _).alloc _).alloc _).alloc _).alloc _,ah (ah (ah (heap_alloc_new _ _))),ah (ah (aq (by simp))),ah (aq (by simp)),aq (by simp),Nat.le_refl _,by omega,by omega,by omega⟩)
 have br:=vi (fL s am aV lim aR (h.frm aK.out.fr) aD aE)
 have bA:=vi bj;have bt:=vi bd;have bu:=vi be;have bv:=vi bf;have bw:=vi bg
 clear h aD aE bj bd be bf bg
 refine cf Tryz.func16 rfl ?_
 simp only[Tryz.ntmps16,List.size_toArray,List.length_cons,List.length_nil,Nat.reduceAdd,Nat.reduceSub,Array.replicate_succ,Array.replicate_zero,List.push_toArray,List.append_toArray,List.nil_append,List.cons_append]
 go_upto_region 1 with fail
 rw[bA.out,bw.out,bv.out,bu.out,bt.out]
 clear bA bw bv bu bt
 have aC:=ae aK.out.e 0
 have bb:=aj aK.out.e 0
 go_upto_region 2 with (first
  | (go_at_call 57;go_must (refine br.out.mono ?_;rintro e al ⟨v,rfl,ad,ak,rfl,bX,bQ,K⟩;have cv:=vi bX;have a7:=vi bQ;have aL:=vi (aK.out.frm K);have cZ:=vi K;clear bX bQ K br aC bb;have aC:=ae (aL.out.frm ((Frm.refl [] al).alloc (.cells #[.pointer (some ⟨ad,0,none⟩)] 122))).e 0;have bb:=aj (aL.out.frm ((Frm.refl [] al).alloc (.cells #[.pointer (some ⟨ad,0,none⟩)] 122))).e 0)))
 have bY:(al.alloc (.cells #[.pointer (some ⟨ad,0,none⟩)] 122)).setCell ⟨r7,0,none⟩ (.int .i64 0)=al.alloc (.cells #[.pointer (some ⟨ad,0,none⟩)] 122):=gU ((Frm.refl [] al).alloc (.cells #[.pointer (some ⟨ad,0,none⟩)] 122) |>.at aL.out.e (by simp)) rfl
 rw[bY]
 obtain⟨a8,aW⟩:∃ cC,al.alloc (.cells #[.pointer (some ⟨ad,0,none⟩)] 122)=cC:=⟨_,rfl⟩
 obtain⟨b3,bh⟩:∃ b,al.heap.size=b:=⟨_,rfl⟩
 have bB:Hid (Frm [] al a8):=vi (by rw[← aW];exact(Frm.refl _ _).alloc _)
 have cr:Hid (a8.heap[b3]?=some (.cells #[.pointer (some ⟨ad,0,none⟩)] 122 (0,0))):=vi (by rw[← aW,← bh];exact heap_alloc_new _ _)
 rw[aW,bh]
 clear bY aW bh aC bb
 have a0:=vi (aL.out.frm bB.out)
 have cw:=vi (cv.out.frm bB.out)
 have bq:=vi (ke s am aV lim a8 (cB.out.frm a0.out.fr) aO.out.1 aO.out.2)
 have aC:=ae a0.out.e 0
 go_upto_region 5 with (first
  | (go_at_call 36;go_must (refine bq.out.mono ?_;rintro e ax ⟨v,rfl,bo,bp,cU,cV,cD,aP,rfl,bS,bR,K⟩;have bx:=vi bS;have bE:=vi bR;have a1:=vi K;clear bS bR K bq aC)))
 have an:=vi (a0.out.frm a1.out)
 have bJ:=vi (cw.out.frm a1.out)
 have bH:=vi (a1.out.at cr.out (by simp))
 have bG:Hid (aP.map Prod.fst=ak.map Prod.fst):=vi (bE.out.trans a7.out.symm)
 obtain⟨cT,bU⟩:=j4 (lim:=lim) bx.out.sy.ok aO.out.1
 have bI:Hid (SI s lim cT (ak.map Prod.fst)):=vi (by rw[a7.out];exact bU.toSI)
 have cK:ak.length≤lim:=by
  have:=bI.out.top
  rw[List.length_map] at this
  omega
 have cL:aP.length=ak.length:=by rw[← List.length_map (f:=Prod.fst),← List.length_map (f:=Prod.fst),bG.out]
 have bD:Hid (ak.length≤200000):=vi (by have:=aO.out;omega)
 have co:=vi (pg (fun _=>False) id id id bo bp cU am aV cD cV s (aQ s lim).2 aP (by have:=bD.out;omega))
 have bz:Hid (dZ s (aP.map Prod.fst)=dZ s (aQ s lim).1):=vi (by rw[bE.out])
 clear bU cK cL
 refine eX (T:=fun _=>False) rfl (enters_of Tryz.func94 (by kernel_rfl) rfl) co.out (fun _=>rfl)
  (fun bn V=>bn=[]∧Frm [] ax V)
  (fun c _ V=>c=.ret∧∃ n u rest I aJ J,dZ s (aQ s lim).1=(n,u) :: rest∧FsB w r4 r5 r6 r7 (.slice I aJ J) #[.int .i64 u.role,.int .i64 u.peer,.string u.msg] true 0 V∧Arr 4 MvAt V (.slice I aJ J) (dq (aQ s lim).1 n))
  (fun _ _ _ h hb=>⟨h.1,hb.old h.2 (Nat.le_refl _)⟩)
  (fun _ _ _ _ h hb=>⟨h.1,by obtain⟨n,u,rest,I,aJ,J,aD,aE,cG⟩:=h.2;exact⟨n,u,rest,I,aJ,J,aD,aE.bk hb an.out.fr.size,cG.frm fun _ _ _ h=>h.bk hb⟩⟩)
  (fun _ V h=>bx.out.frm h.2) ⟨rfl,Frm.refl _ _⟩ ?_ ?_ ?_
 ·intro l bn y rest aT aI E cJ cM
  obtain⟨rfl,bV⟩:=E
  obtain⟨n,u⟩:=y
  have bW:(n,u)∈dZ s (ak.map Prod.fst):=by rw[← bG.out,aI];simp
  obtain⟨c1,bT,-⟩:=mem_allSp.1 bW
  have cp:Hid (n<ak.length):=vi (by have:=ag bT;rwa [List.length_map] at this)
  have cA:=vi aI;have a3:=vi bV
  clear bW bT aI bV cJ cM
  simp only[suV]
  gi_wp2
  refine⟨Kc.frm ((Frm.refl [] aT).alloc _),fun aS bl _=>?_⟩
  have a4:Hid (Frm [] ax aS):=vi (bl.old (a3.out.alloc _) (Nat.le_refl _))
  have aZ:Hid (aS.heap[aT.heap.size]?=some (.cells #[.int .i64 u.role,.int .i64 u.peer,.string u.msg] 33 (0,0))):=vi (bl.at (heap_alloc_new _ _) rfl)
  have bF:Hid (aT.heap.size≠r5):=vi (by have:=lt_of_block an.out.x;have:=a3.out.size;omega)
  obtain⟨b0,bc⟩:∃ b,aT.heap.size=b:=⟨_,rfl⟩
  rw[bc] at aZ bF
  rw[bc]
  clear bl bc
  have bs:=vi (oF (bJ.out.frm a4.out) bI.out cp.out bD.out)
  have aY:=ae (a4.out.at bH.out (by simp)) 0
  gi_upto_region 8 with (refine⟨trivial,?_⟩;gi_at_call 58;go_must (refine(CallsIn.inRound l (callsIn_wide.2 bs.out)).mono ?_;rintro e aw ⟨v,rfl,da,rfl,bk,K⟩;obtain⟨I,J,rfl⟩:=bk.shape;have bK:=vi bk;have a2:=vi K;clear bk K aY bs))
  have cl:=vi (an.out.frm (a4.out.trans a2.out))
  have ck:=vi (a2.out.at aZ.out (by simp))
  obtain⟨S,bi⟩:∃ T,dq (ak.map Prod.fst) n=T:=⟨_,rfl⟩
  have cx:Hid (dq (aQ s lim).1 n=S):=vi (by rw[← a7.out];exact bi)
  rw[bi] at bK ⊢
  have cz:Hid (Kc jV ax.heap.size aS aw):=vi (Kc.frm a2.out)
  clear bi a3 aZ
  refine fh (fun f=>{ tmps:=#[.pointer (some ⟨am,0,none⟩),.int .i64 (lim:Int),undef,undef,.pointer (some ⟨r4,0,none⟩),.pointer (some ⟨r5,0,none⟩),.pointer (some ⟨r6,0,none⟩),.pointer (some ⟨r7,0,none⟩),.pointer (some ⟨b3,0,none⟩),.int .i64 (n:Int),.pointer (some ⟨b0,0,none⟩),.slice I S.length J,.int .i64 0,.tuple #[.pointer (some ⟨ad,0,none⟩),.int .i64 0],.pointer (some ⟨am,0,none⟩),.int .i64 (lim:Int),.tuple #[.pointer (some ⟨ad,0,none⟩),.int .i64 0],.pointer (some ⟨ad,0,none⟩),.int .i64 0,.int .i64 0,.bool false,undef,undef,.pointer (some ⟨am,0,none⟩),.int .i64 (lim:Int),.func (.func 94) #[] #[.pointer (some ⟨bo,0,none⟩),.pointer (some ⟨bp,0,none⟩)],.int .i64 (n:Int),.agg #[.int .i64 u.role,.int .i64 u.peer,.string u.msg],.tuple #[.slice I S.length J,.int .i64 0],.pointer (some ⟨ad,0,none⟩),.int .i64 (n:Int),.tuple #[.slice I S.length J,.int .i64 0],.slice I S.length J,.int .i64 0,f 0,f 1,undef,undef,undef,undef,undef],defers:=[] })
   (fun D f V=>∃ N k c A,FsB w r4 r5 r6 r7 (.slice N k c) #[.int .i64 A.role,.int .i64 A.peer,.string A.msg] (D 4) 0 V∧(D 2=true→Value.slice N k c=.slice I S.length J)∧(D 3=true→A=u)∧V.heap[b0]?=some (.cells #[.int .i64 u.role,.int .i64 u.peer,.string u.msg] 33 (0,0))∧Arr 4 MvAt V (.slice I S.length J) S∧(D 0=true→f 0=.slice I S.length J)∧(D 1=true→f 1=.agg #[.int .i64 u.role,.int .i64 u.peer,.string u.msg])∧Kc jV ax.heap.size aS V)
   (fun _=>undef) (by kernel_rfl) (by kernel_rfl) rfl ?_ ?_ ?_
  ·exact⟨none,0,0,⟨0,0,{ data:=#[] }⟩,cl.out.frm (Frm.refl [] aw).drew,(fun h=>by cases h),(fun h=>by cases h),(Frm.refl [] aw).drew.at ck.out (by simp),bK.out.frm fun _ _ _ h=>h.frm (Frm.refl [] aw).drew,(fun h=>by cases h),(fun h=>by cases h),cz.out.trans (Kc.frm (Frm.refl [] aw).drew)⟩
  ·refine⟨?_,?_,?_,?_,?_,?_,trivial⟩
   ·intro D f V E aF au aH
    refine⟨rfl,fun _=>rfl,fun aA ab=>?_⟩
    obtain⟨N,k,c,A,a,U,W,G,O,X,Y,R⟩:=E
    refine⟨fun _ _=>trivial,?_⟩
    go_simp
    refine ab.out _ _ (.slice I S.length J) rfl ?_
    exact⟨N,k,c,A,a,U,W,G,O,(fun _=>rfl),Y,R⟩
   ·intro D f V E aF au aH
    refine⟨rfl,fun _=>rfl,fun aA ab=>?_⟩
    obtain⟨N,k,c,A,a,U,W,G,O,X,Y,R⟩:=E
    have aX:=ae G 0
    have cX:=ae G 1
    have cY:=ae G 2
    refine⟨fun _ _=>trivial,?_⟩
    go_simp
    refine ab.out _ _ (.agg #[.int .i64 u.role,.int .i64 u.peer,.string u.msg]) rfl ?_
    exact⟨N,k,c,A,a,U,W,G,O,X,(fun _=>rfl),R⟩
   ·intro D f V E aF au aH
    refine⟨rfl,fun _=>rfl,fun aA ab=>?_⟩
    obtain⟨N,k,c,A,a,U,W,G,O,X,Y,R⟩:=E
    have cE:=X (au ⟨0,Ground.data⟩ (by simp) rfl)
    have aX:=ae a.t 0
    have ba:=aj a.t 0
    have K:Frm [r4,r5,r6,r7] V (V.setCell ⟨r4,0,none⟩ (.slice I S.length J)):=(Frm.refl _ _).setCell _ (.inl (by simp)) _
    refine⟨fun _ _=>trivial,?_⟩
    go_simp
    refine ab.out _ _ undef (by (try simp only[cE]) <;> rfl) ?_
    exact⟨I,S.length,J,A,a.setT _,(fun _=>rfl),W,bC G (ce G a.t (by decide)) _,O.frm fun _ _ _ av=>a.mv av K,X,Y,R.set a.t trivial 0 _⟩
   ·intro D f V E aF au aH
    refine⟨rfl,fun _=>rfl,fun aA ab=>?_⟩
    obtain⟨N,k,c,A,a,U,W,G,O,X,Y,R⟩:=E
    have cF:=Y (au ⟨1,Ground.data⟩ (by simp) rfl)
    have aX:=ae a.x 0
    have cX:=ae a.x 1
    have cY:=ae a.x 2
    have ba:=aj a.x 0
    have c2:=aj a.x 1
    have c3:=aj a.x 2
    refine⟨fun _ _=>trivial,?_⟩
    go_simp
    refine ab.out _ _ undef (by (try simp only[cF]) <;> rfl) ?_
    obtain⟨af,aa⟩:=a.set3 rfl (.int .i64 u.role) (.int .i64 u.peer) (.string u.msg)
    exact⟨N,k,c,u,af,U,(fun _=>rfl),aa.at G (by rw[List.mem_singleton];exact bF.out),O.frm fun _ _ _ av=>a.mv av (aa.mono fun y bZ=>by rw[List.mem_singleton] at bZ;subst bZ;exact .inl (by simp)),X,Y,R.trans (Kc.one a.x aa)⟩
   ·intro D f V E aF au aH
    refine⟨rfl,fun _=>rfl,fun aA ab=>?_⟩
    obtain⟨N,k,c,A,a,U,W,G,O,X,Y,R⟩:=E
    have aX:=ae a.f 0
    have ba:=aj a.f 0
    have K:Frm [r4,r5,r6,r7] V (V.setCell ⟨r6,0,none⟩ (.bool true)):=(Frm.refl _ _).setCell _ (.inl (by simp)) _
    refine⟨fun _ _=>trivial,?_⟩
    go_simp
    refine ab.out _ _ undef rfl ?_
    exact⟨N,k,c,A,a.setF true,U,W,bC G (ce G a.f (by decide)) _,O.frm fun _ _ _ av=>a.mv av K,X,Y,R.set a.f trivial 0 _⟩
   ·intro D f V E aF au aH
    refine⟨rfl,fun _=>rfl,fun aA ab=>?_⟩
    obtain⟨N,k,c,A,a,U,W,G,O,X,Y,R⟩:=E
    have aX:=ae a.e 0
    have ba:=aj a.e 0
    have K:Frm [r4,r5,r6,r7] V (V.setCell ⟨r7,0,none⟩ (.int .i64 0)):=(Frm.refl _ _).setCell _ (.inl (by simp)) _
    refine⟨fun _ _=>trivial,?_⟩
    go_simp
    refine ab.out _ _ undef rfl ?_
    exact⟨N,k,c,A,a.setE 0,U,W,bC G (ce G a.e (by decide)) _,O.frm fun _ _ _ av=>a.mv av K,X,Y,R.set a.e trivial 0 _⟩
  ·intro D f V ai E
   obtain⟨N,k,c,A,a,U,W,G,O,X,Y,R⟩:=E
   have bM:=U (ai 2 (by decide))
   have bN:=W (ai 3 (by decide))
   have bO:D 4=true:=ai 4 (by decide)
   rw[bM,bN,bO] at a
   have cs:=vi a;have ct:=vi O;have cu:=vi R
   clear a U W G O X Y R bM bN bO
   gi_wp2
   exact⟨cu.out,rfl,n,u,rest,I,S.length,J,bz.out.symm.trans cA.out,cs.out,by rw[cx.out];exact ct.out⟩
 ·intro D V ai E aG
  have a5:=vi E.2
  have aN:=vi aG
  have cq:Hid (dZ s (aQ s lim).1=[]):=vi (bz.out.symm.trans E.1)
  have aM:Hid (ax.heap.size≤D):=vi ai
  clear E aG ai
  have aY:=ae (a5.out.at bH.out (by simp)) 0
  have ay:=vi (kD (bJ.out.frm a5.out))
  have H:=vi (an.out.frm a5.out)
  obtain⟨b4,bm⟩:∃ b,(aQ s lim).2=b:=⟨_,rfl⟩
  rw[bm] at ay
  have cy:=vi bm
  clear bm
  have bL:Hid (∀ a9:Int,(if b4 then (0:Int) else 7)=a9→∀ V',Frm [] w V'→mP w s lim (.tuple #[.slice none 0 0,.agg #[.int .i64 0,.int .i64 0,.string { data:=#[] }],.bool false,.int .i64 a9]) V'):=vi fun a9 cI V' ap=>⟨ap,.inl ⟨cq.out,by rw[cy.out,cI]⟩⟩
  have b5:=ae H.out.t 0
  have cc:=aj H.out.t 0
  have b6:=ae H.out.x 0
  have b7:=ae H.out.x 1
  have b8:=ae H.out.x 2
  have cd:=aj H.out.x 0
  have cg:=aj H.out.x 1
  have ch:=aj H.out.x 2
  have b9:=ae H.out.f 0
  have ci:=aj H.out.f 0
  have ca:=ae H.out.e 0
  have cj:=aj H.out.e 0
  obtain⟨cN,cO,cP,cQ,cR,cS⟩:=H.out.nes
  have c4:=cN.symm
  have c5:=cO.symm
  have c7:=cP.symm
  have c6:=cQ.symm
  have c8:=cR.symm
  have c9:=cS.symm
  cases b4 with
  | true =>
    go_wp2_with (go_at_call 59;go_must (refine ay.out.mono ?_;rintro e aw ⟨rfl,rfl⟩;clear ay aY))
    go_region
    obtain⟨aB,ar⟩:∃ aB,aB=((((((V.setCell ⟨r4,0,none⟩ (.slice none 0 0)).setCell ⟨r5,0,none⟩ (.int .i64 0)).setCell ⟨r5,1,none⟩ (.int .i64 0)).setCell ⟨r5,2,none⟩ (.string { data:=#[] })).setCell ⟨r6,0,none⟩ (.bool false)).setCell ⟨r7,0,none⟩ (.int .i64 0)).drew:=⟨_,rfl⟩
    obtain⟨af,aa⟩:=H.out.put rfl _ _ _ _ _ _ ar
    have az:=vi af;have a6:=vi (H.out.mark aN.out aa)
    rw[← ar]
    clear ar af aa b5 cc b6 b7 b8 cd cg ch b9 ci ca cj
    go_wp2
    exact ly az.out a6.out (Nat.le_trans an.out.fr.size aM.out) rfl rfl rfl rfl rfl (fun V' _ ap=>bL.out 0 rfl V' ap)
  | false =>
    go_wp2_with (go_at_call 59;go_must (refine ay.out.mono ?_;rintro e aw ⟨rfl,rfl⟩;clear ay aY))
    go_region
    obtain⟨aB,ar⟩:∃ aB,aB=((((((V.setCell ⟨r4,0,none⟩ (.slice none 0 0)).setCell ⟨r5,0,none⟩ (.int .i64 0)).setCell ⟨r5,1,none⟩ (.int .i64 0)).setCell ⟨r5,2,none⟩ (.string { data:=#[] })).setCell ⟨r6,0,none⟩ (.bool false)).setCell ⟨r7,0,none⟩ (.int .i64 7)).drew:=⟨_,rfl⟩
    obtain⟨af,aa⟩:=H.out.put rfl _ _ _ _ _ _ ar
    have az:=vi af;have a6:=vi (H.out.mark aN.out aa)
    rw[← ar]
    clear ar af aa b5 cc b6 b7 b8 cd cg ch b9 ci ca cj
    go_wp2
    exact ly az.out a6.out (Nat.le_trans an.out.fr.size aM.out) rfl rfl rfl rfl rfl (fun V' _ ap=>bL.out 7 rfl V' ap)
 ·intro D c bn x rest V aI ai cH aG
  obtain⟨rfl,n,u,cW,I,aJ,J,af,aa,bP⟩:=cH
  have az:=vi af;have cm:=vi aa;have cn:=vi bP;have aN:=vi aG
  have aM:Hid (ax.heap.size≤D):=vi ai
  clear af aa bP aG ai aI
  go_wp2
  exact ly cm.out aN.out (Nat.le_trans an.out.fr.size aM.out) rfl rfl rfl rfl rfl (fun V' hb ap=>⟨ap,.inr ⟨n,u,cW,_,az.out,rfl,cn.out.frm fun _ _ _ h=>h.bk hb⟩⟩)
end Go.Proofs.YtohfkhjlnlahdaaGreat
namespace Go.Proofs.YtohfkhjlnlahdaaGreat
open Go.RowKit Go.BigFrame
def ow (a:ByteArray):List ByteArray→List ByteArray
 | []=>[a]
 | b :: l=>if byt a≤byt b then a :: b :: l else b :: ow a l
def rO:List ByteArray→List ByteArray
 | []=>[]
 | a :: l=>ow a (rO l)
theorem ik (a:ByteArray):∀ l,(ow a l).Perm (a :: l)
 | []=>List.Perm.refl _
 | b :: l=>by
   unfold ow
   split
   ·exact List.Perm.refl _
   ·exact((ik a l).cons b).trans (List.Perm.swap a b l)
theorem kx:∀ l,(rO l).Perm l
 | []=>List.Perm.refl _
 | a :: l=>(ik a (rO l)).trans ((kx l).cons a)
theorem iC (a:ByteArray):∀ l:List ByteArray,l.Pairwise (fun a b=>byt a≤byt b)→(ow a l).Pairwise fun a b=>byt a≤byt b
 | [],_=>by unfold ow;simp
 | b :: l,h=>by
   obtain⟨G,H⟩:=List.pairwise_cons.1 h
   unfold ow
   split
   ·rename_i E
    refine List.pairwise_cons.2 ⟨fun x A=>?_,h⟩
    rcases List.mem_cons.1 A with rfl | A
    ·exact E
    ·exact tT E (G x A)
   ·rename_i E
    refine List.pairwise_cons.2 ⟨fun x A=>?_,iC a l H⟩
    rcases List.mem_cons.1 ((ik a l).mem_iff.1 A) with rfl | A
    ·exact(rP _ _).resolve_left E
    ·exact G x A
theorem iD:∀ l,(rO l).Pairwise fun a b=>byt a≤byt b
 | []=>List.Pairwise.nil
 | a :: l=>iC a _ (iD l)
def rQ (cls:Int) (L:List ByteArray):List ByteArray:=if cls=2 then rO L else L
theorem uj (cls:Int) (L:List ByteArray):dj cls L=rQ cls L:=by
 unfold rQ
 split
 ·rename_i a
  rw[a]
  exact(ox (kx L) (iD L)).symm
 ·rename_i a
  unfold dj
  rw[if_neg a]
def ll (s:SesD) (x:PS) (i k:Nat):List UInt8:=if i=k then [] else UInt8.ofNat (x.way i k).length :: byt (dV (rQ s.cls (x.way i k)))
theorem rR (s:SesD) (x:PS) (i:Nat):bU s x i=ll s x i:=by
 funext k
 unfold bU ll
 rw[uj]
def pq (s:SesD) (x:PS):List UInt8:=cat (cW x) s.roles.length++cat (fun i=>cat (ll s x i) s.roles.length) s.roles.length
theorem rS (s:SesD) (x:PS):cY s x=pq s x:=by
 unfold cY pq
 simp only[rR]
def rT (s:SesD) (a:List Nd) (k:List UInt8):Bool:=a.any fun d=>decide (pq s d.st=k)
theorem uk (s:SesD) (a:List Nd) (k:List UInt8):eP s a k=rT s a k:=by
 unfold eP rT
 simp only[rS]
def il (s:SesD) (lim:Nat) (x:PS) (n a:Nat):List Nd→List Mv→List Nd × Bool
 | N,[]=>(N,true)
 | N,m :: ms =>
   if rT s N (pq s (bh s x m)) then il s lim x n a N ms
   else if N.length=lim then (N,false)
   else il s lim x n a (N++[⟨bh s x m,n,m,a+1⟩]) ms
theorem lp (s:SesD) (lim:Nat) (x:PS) (n A:Nat):∀ (a:List Mv) (h:List Nd),cH s lim x n A h a=il s lim x n A h a
 | [],h=>rfl
 | m :: a,h=>by
   unfold cH il
   rw[uk,rS,lp s lim x n A a,lp s lim x n A a]
def tu (s:SesD) (lim:Nat):Nat→Nat→List Nd→List Nd × Bool
 | 0,_,N=>(N,true)
 | f+1,n,N=>match N[n]? with
   | none=>(N,true)
   | some d=>match il s lim d.st n d.lvl N (aN s d.st) with
     | (N',true)=>tu s lim f (n+1) N'
     | (N',false)=>(N',false)
theorem tU (s:SesD) (lim:Nat):∀ (f n:Nat) (a:List Nd),bfs s lim f n a=tu s lim f n a
 | 0,_,_=>rfl
 | f+1,n,a=>by
   unfold bfs tu
   cases a[n]? with
   | none=>rfl
   | some d =>
     simp only[lp]
     obtain⟨⟨h,b⟩,A⟩:∃ r,il s lim d.st n d.lvl a (aN s d.st)=r:=⟨_,rfl⟩
     rw[A]
     cases b with
     | true=>exact tU s lim f (n+1) h
     | false=>rfl
theorem fU (s:SesD) (lim:Nat):aQ s lim=tu s lim (lim+1) 0 [nd0 s]:=tU s lim _ _ _
def bN:ByteArray:={ data:=#[110] }
def bR:ByteArray:={ data:=#[114] }
def smE:SesD:=⟨bS,[⟨bA,[⟨bX,true,0⟩],[],[⟨bX,bX,1,bM,bB,aG,0,0,0⟩,⟨bX,bX,1,bN,bB,aG,0,0,0⟩]⟩,⟨bB,[⟨bR,true,0⟩],[],[⟨bR,bR,2,bM,bA,aG,0,0,0⟩]⟩],2,2⟩
def km1:Mv:=⟨1,0,1,0⟩
def spE:Sp:=⟨1,0,bN⟩
theorem vg:eo smE=0:=by decide +kernel
theorem tx:kG smE=[spE]:=by decide +kernel
theorem tz:(aQ smE 100).2=true:=by rw[fU];decide +kernel
theorem rU:(dZ smE (aQ smE 100).1).map Prod.snd=[spE,spE,spE]:=by rw[fU];decide +kernel
theorem tA:((dZ smE (aQ smE 100).1).head?.map fun e=>dq (aQ smE 100).1 e.1)=some [km1]:=by rw[fU];decide +kernel
theorem ul:((d9 smE (aQ smE 100).1 0 0 && d9 smE (aQ smE 100).1 0 1) && d9 smE (aQ smE 100).1 1 0)=true:=by rw[fU];decide +kernel
theorem e_m0:km0∈aN smE (bg smE)∧km1∈aN smE (bh smE (bg smE) km0)∧ofP smE (bh smE (bh smE (bg smE) km0) km1)=[spE]:=by decide +kernel
theorem um:SmS smE:=by
 refine⟨by simp[smE],fun r h=>?_⟩
 simp only[smE,List.mem_cons,List.not_mem_nil,or_false] at h
 rcases h with rfl | rfl
 all_goals
  refine⟨by simp,by simp,by simp,fun x a=>?_,fun x a=>?_⟩
  ·simp only[List.mem_cons,List.not_mem_nil,or_false] at a
   first
    | (rcases a with rfl | rfl <;> (unfold gL;decide))
    | (subst a;unfold gL;decide)
  ·simp only[List.mem_cons,List.not_mem_nil,or_false] at a
   first
    | (rcases a with rfl | rfl <;> decide)
    | (subst a;decide)
set_option maxHeartbeats 2000000 in
set_option maxRecDepth 100000 in
theorem gT (w:World):Calls Tryz.prog 56 #[] w (aU fun v w'=>SesV w' v smE∧Frm [] w w'):=by
 go_enter Tryz.func56,Tryz.ntmps56
 go_upto_region 3 with fail
 obtain⟨A,E⟩:∃ A,(((((((w.alloc (.cells #[.string { data:=#[] },.slice none 0 0,.int .i64 0,.int .i64 0] 25)).alloc (.cells #[.string { data:=#[120] },.bool true,.int .i64 0] 206)).alloc (.cells #[.string { data:=#[120] },.string { data:=#[120] },.int .i64 1,.string { data:=#[109] },.string { data:=#[98] },.string { data:=#[] },.int .i64 0,.int .i64 0,.int .i64 0,.string { data:=#[120] },.string { data:=#[120] },.int .i64 1,.string { data:=#[110] },.string { data:=#[98] },.string { data:=#[] },.int .i64 0,.int .i64 0,.int .i64 0] 137)).alloc (.cells #[.string { data:=#[97] },.slice (some ⟨w.heap.size+1,0,none⟩) 1 1,.slice none 0 0,.slice (some ⟨w.heap.size+1+1,0,none⟩) 2 2] 87)).alloc (.cells #[.string { data:=#[114] },.bool true,.int .i64 0] 206)).alloc (.cells #[.string { data:=#[114] },.string { data:=#[114] },.int .i64 2,.string { data:=#[109] },.string { data:=#[97] },.string { data:=#[] },.int .i64 0,.int .i64 0,.int .i64 0] 137)).alloc (.cells #[.string { data:=#[98] },.slice (some ⟨w.heap.size+1+1+1+1,0,none⟩) 1 1,.slice none 0 0,.slice (some ⟨w.heap.size+1+1+1+1+1,0,none⟩) 1 1] 87))=A:=⟨_,rfl⟩
 have R:Hid (Frm [] w A):=vi (by rw[← E];exact(((((((Frm.refl [] w).alloc _).alloc _).alloc _).alloc _).alloc _).alloc _).alloc _)
 have O:Hid (A.heap[w.heap.size]?=some (.cells #[.string { data:=#[] },.slice none 0 0,.int .i64 0,.int .i64 0] 25 (0,0))):=vi (by rw[← E];exact ah (ah (ah (ah (ah (ah (aq (by simp))))))))
 have V:Hid (A.heap[w.heap.size+1]?=some (.cells #[.string { data:=#[120] },.bool true,.int .i64 0] 206 (0,0))):=vi (by rw[← E];exact ah (ah (ah (ah (ah (aq (by simp)))))))
 have W:Hid (A.heap[w.heap.size+1+1]?=some (.cells #[.string { data:=#[120] },.string { data:=#[120] },.int .i64 1,.string { data:=#[109] },.string { data:=#[98] },.string { data:=#[] },.int .i64 0,.int .i64 0,.int .i64 0,.string { data:=#[120] },.string { data:=#[120] },.int .i64 1,.string { data:=#[110] },.string { data:=#[98] },.string { data:=#[] },.int .i64 0,.int .i64 0,.int .i64 0] 137 (0,0))):=vi (by rw[← E];exact ah (ah (ah (ah (aq (by simp))))))
 have X:Hid (A.heap[w.heap.size+1+1+1]?=some (.cells #[.string { data:=#[97] },.slice (some ⟨w.heap.size+1,0,none⟩) 1 1,.slice none 0 0,.slice (some ⟨w.heap.size+1+1,0,none⟩) 2 2] 87 (0,0))):=vi (by rw[← E];exact ah (ah (ah (aq (by simp)))))
 have Y:Hid (A.heap[w.heap.size+1+1+1+1]?=some (.cells #[.string { data:=#[114] },.bool true,.int .i64 0] 206 (0,0))):=vi (by rw[← E];exact ah (ah (aq (by simp))))
 have aa:Hid (A.heap[w.heap.size+1+1+1+1+1]?=some (.cells #[.string { data:=#[114] },.string { data:=#[114] },.int .i64 2,.string { data:=#[109] },.string { data:=#[97] },.string { data:=#[] },.int .i64 0,.int .i64 0,.int .i64 0] 137 (0,0))):=vi (by rw[← E];exact ah (aq (by simp)))
 have ab:Hid (A.heap[w.heap.size+1+1+1+1+1+1]?=some (.cells #[.string { data:=#[98] },.slice (some ⟨w.heap.size+1+1+1+1,0,none⟩) 1 1,.slice none 0 0,.slice (some ⟨w.heap.size+1+1+1+1+1,0,none⟩) 1 1] 87 (0,0))):=vi (by rw[← E];exact aq (by simp))
 rw[E]
 have ad:Hid ((A.alloc (.cells #[.string { data:=#[97] },.slice (some ⟨w.heap.size+1,0,none⟩) 1 1,.slice none 0 0,.slice (some ⟨w.heap.size+1+1,0,none⟩) 2 2,.string { data:=#[98] },.slice (some ⟨w.heap.size+1+1+1+1,0,none⟩) 1 1,.slice none 0 0,.slice (some ⟨w.heap.size+1+1+1+1+1,0,none⟩) 1 1] 87)).heap[w.heap.size]?=some (.cells #[.string { data:=#[] },.slice none 0 0,.int .i64 0,.int .i64 0] 25 (0,0))):=vi (ah O.out)
 clear E
 go_wp2_with (first
  | (refine af rfl 87 _ rfl _ rfl _ 87 X.out _ Tryz.underlying87 rfl (by kernel_rfl) ?_)
  | (refine af rfl 87 _ rfl _ rfl _ 87 ab.out _ Tryz.underlying87 rfl (by kernel_rfl) ?_)
  | (refine aD rfl 25 _ _ rfl _ _ _ 25 rfl rfl ad.out rfl (by kernel_rfl) (by simp[Value.oneCell']) ?_;intro U ag S))
 have J:Frm [w.heap.size] A U:=((Frm.refl [] A).alloc _).mono (by simp) |>.trans S
 have H:U.heap[A.heap.size]?=some (.cells #[.string { data:=#[97] },.slice (some ⟨w.heap.size+1,0,none⟩) 1 1,.slice none 0 0,.slice (some ⟨w.heap.size+1+1,0,none⟩) 2 2,.string { data:=#[98] },.slice (some ⟨w.heap.size+1+1+1+1,0,none⟩) 1 1,.slice none 0 0,.slice (some ⟨w.heap.size+1+1+1+1+1,0,none⟩) 1 1] 87 (0,0)):=S.at (heap_alloc_new A _) (by have:=R.out.size;have:=lt_of_block O.out;simp;omega)
 have K:=J.at V.out (by simp <;> omega)
 have h:=J.at W.out (by simp <;> omega)
 have N:=J.at Y.out (by simp <;> omega)
 have G:=J.at aa.out (by simp <;> omega)
 refine bodyPost_ret (eH (d:=_) (Tryz.results56) rfl ag rfl Tryz.underlying25 (by kernel_rfl)) rfl ⟨_,rfl,?_,R.out.then J (by simp)⟩
 refine⟨_,rfl,_,2,rfl,fun i r I=>?_⟩
 match i,I with
 | 0,I =>
   cases I
   refine⟨A.heap.size,0,rfl,_,_,_,ae H 0,ae H 1,ae H 2,ae H 3,⟨⟨_,1,rfl,fun j x a=>?_⟩,Arr.nil _ _ _,⟨_,2,rfl,fun j x a=>?_⟩,fun _ _ _ e=>by cases e;exact Nat.le_refl _⟩⟩
   ·match j,a with
    | 0,a=>cases a;exact⟨_,0,rfl,ae K 0,ae K 1,ae K 2⟩
    | j+1,a=>simp at a
   ·match j,a with
    | 0,a=>cases a;exact⟨_,0,rfl,ae h 0,ae h 1,ae h 2,ae h 3,ae h 4,ae h 5,ae h 6,ae h 7,ae h 8⟩
    | 1,a=>cases a;exact⟨_,0,rfl,ae h 9,ae h 10,ae h 11,ae h 12,ae h 13,ae h 14,ae h 15,ae h 16,ae h 17⟩
    | j+2,a=>simp at a
 | 1,I =>
   cases I
   refine⟨A.heap.size,0,rfl,_,_,_,ae H 4,ae H 5,ae H 6,ae H 7,⟨⟨_,1,rfl,fun j x a=>?_⟩,Arr.nil _ _ _,⟨_,1,rfl,fun j x a=>?_⟩,fun _ _ _ e=>by cases e;exact Nat.le_refl _⟩⟩
   ·match j,a with
    | 0,a=>cases a;exact⟨_,0,rfl,ae N 0,ae N 1,ae N 2⟩
    | j+1,a=>simp at a
   ·match j,a with
    | 0,a=>cases a;exact⟨_,0,rfl,ae G 0,ae G 1,ae G 2,ae G 3,ae G 4,ae G 5,ae G 6,ae G 7,ae G 8⟩
    | j+1,a=>simp at a
 | i+2,I=>simp[smE] at I
end Go.Proofs.YtohfkhjlnlahdaaGreat
namespace Go.Proofs.YtohfkhjlnlahdaaGreat
open Go.RowKit Go.BigFrame
theorem oC {a:World} {ob:Nat} (h:a.heap[ob]?=some (.cells #[.slice none 0 0] 71 (0,0))):∀ b∈[ob],FgB a b:=by
 intro b hb
 rw[List.mem_singleton] at hb
 subst hb
 have c:=fun o=>ae h o
 refine⟨fun C t e=>?_,fun o x e=>?_,fun o p e=>?_,fun o g G p n A e E=>?_⟩
 ·rw[h] at e;cases e;decide
 ·rw[c] at e
  cases o with
  | zero=>cases e
  | succ o=>simp at e
 ·rw[c] at e
  cases o with
  | zero=>cases e
  | succ o=>simp at e
 ·rw[c] at e
  cases o with
  | zero=>cases e
  | succ o=>simp at e
theorem SpO.box {H V:World} {s:SesD} {W S ob:Nat} {U:Bool} {I:List (Nd × Nat)} (J:SpO H s W U S I) (Y:0<s.roles.length) (G:H.heap[ob]?=some (.cells #[.slice none 0 0] 71 (0,0))) (a:Frm [ob] H V):SpO V s W U S I:=by
 obtain⟨ab,aa,lim,ao,cap,K,N,X,O⟩:=J.out
 have hb:=oC G
 refine⟨⟨ab,aa,lim,ao,cap,a.at K ?_,a.at N ?_,X.frm fun g o d h=>?_,O.frm a fun b e E=>?_⟩,fun d h=>(J.st d h).fg Y hb a⟩
 ·rw[List.mem_singleton];exact ce K G (by decide)
 ·rw[List.mem_singleton];exact ce N G (by decide)
 ·have A:g∉[ob]:=fun E=>by
   rw[List.mem_singleton] at E
   subst E
   have:=h.c0
   rw[ae G] at this
   cases o with
   | zero=>cases this
   | succ o=>simp at this
  exact⟨a.cellAt h.c0 A,a.cellAt h.c1 A,a.cellAt h.c2 A,a.cellAt h.c3 A,a.cellAt h.c4 A,a.cellAt h.c5 A,a.cellAt h.c6 A⟩
 ·obtain⟨ad,c,R⟩:=O.block e
  rw[List.mem_singleton] at E
  subst E
  rw[G] at R
  cases R
theorem Tryz.infoBs:(Tryz.prog.info? 82).map (fun i=>(i.zero,i.size,i.bytes))=some (some (.slice none 0 0),1,24):=by kernel_rfl
theorem Tryz.infoB4:(Tryz.prog.info? 4).map (fun i=>(i.zero,i.size,i.bytes))=some (some (.bool false),1,1):=by kernel_rfl
def eM (s:SesD) (f:Nat→Nat→Bool):List (List Bool):=(List.range s.roles.length).map fun i=>(List.range (s.rol i).steps.length).map (f i)
theorem r9 {s:SesD} {f:Nat→Nat→Bool} {i:Nat} (a:i<s.roles.length):(eM s f)[i]?=some ((List.range (s.rol i).steps.length).map (f i)):=by
 unfold eM
 rw[List.getElem?_map,List.getElem?_range a]
 rfl
def usC (L:List (Nat × List Bool)):List Value:=L.map fun e=>.slice (some ⟨e.1,0,none⟩) e.2.length e.2.length
structure UsO (w1:World) (ob:Nat) (L:List (Nat × List Bool)) (v:Value) (V:World):Prop where
 fr:Frm [ob] w1 V
 lt:ob<w1.heap.size
 box:V.heap[ob]?=some (.cells #[v] 71 (0,0))
 row:V.ownsRow w1.heap.size 82 1 v L.length (usC L)
 at':∀ (j:Nat) (e:Nat × List Bool),L[j]?=some e→w1.heap.size≤e.1∧V.heap[e.1]?=some (.cells (e.2.map Value.bool).toArray 4 (0,0))
 nd:∀ (i j:Nat) (a b:Nat × List Bool),L[i]?=some a→L[j]?=some b→a.1=b.1→i=j
section
variable {w1 V V':World} {ob:Nat} {L:List (Nat × List Bool)} {v:Value}
theorem UsO.keep {F:List Nat} (a:UsO w1 ob L v V) (h:Frm F V V') (E:∀ k c t G,V.heap[k]?=some (.cells c t G)→t=71∨t=82∨t=4→k∉F) (H:∀ k∈F,k∈[ob]∨w1.heap.size≤k):UsO w1 ob L v V':=
 ⟨a.fr.then h H,a.lt,h.at a.box (E _ _ _ _ a.box (.inl rfl)),h.owns a.row (fun k J=>by
  obtain⟨c,I⟩:=ak a.row J
  exact E _ _ _ _ I (.inr (.inl rfl))),fun j e A=>⟨(a.at' j e A).1,h.at (a.at' j e A).2 (E _ _ _ _ (a.at' j e A).2 (.inr (.inr rfl)))⟩,a.nd⟩
theorem UsO.frm (a:UsO w1 ob L v V) (h:Frm [] V V'):UsO w1 ob L v V':=a.keep h (by simp) (by simp)
theorem UsO.bk {B:Nat} (a:UsO w1 ob L v V) (hb:Bk B V V') (G:w1.heap.size≤B):UsO w1 ob L v V':=by
 refine⟨hb.oldG a.fr G,a.lt,hb.at a.box rfl,?_,fun j e A=>⟨(a.at' j e A).1,hb.at (a.at' j e A).2 rfl⟩,a.nd⟩
 obtain⟨E,h⟩:=a.row
 refine⟨E,?_⟩
 rcases h with h | ⟨g,cap,cur,J,H,I,r⟩
 ·exact .inl h
 ·exact .inr ⟨g,cap,cur,J,H,hb.at I rfl,r⟩
theorem UsO.grown (a:UsO w1 ob L v V) (G:V.grownBy V' v.ownBlock):V'.heap[ob]?=some (.cells #[v] 71 (0,0)):=by
 have A:Frm v.ownBlock.toList V V':=(Frm.refl _ _).grown G fun q H=>.inl (by rw[H];simp)
 refine A.at a.box fun h=>?_
 rw[Option.mem_toList] at h
 obtain⟨c,E⟩:=ak a.row h
 exact ce a.box E (by decide) rfl
theorem UsO.add (J:UsO w1 ob L v V) {n:Nat} {o:Obj} {v':Value} {E:World}
  (af:((V.alloc (.cells (madeCells #[.bool false] n) 4)).alloc o).grownBy E v.ownBlock) (Y:E.ownsRow w1.heap.size 82 1 v' (L.length+1) (usC L++[.slice (some ⟨V.heap.size,0,none⟩) n n])) :
  UsO w1 ob (L++[(V.heap.size,List.replicate n false)]) v' (E.setCell ⟨ob,0,none⟩ v'):=by
 have ad:Frm [] V ((V.alloc (.cells (madeCells #[.bool false] n) 4)).alloc o):=((Frm.refl [] V).alloc _).alloc _
 have A:=J.frm ad
 have W:((V.alloc (.cells (madeCells #[.bool false] n) 4)).alloc o).heap[V.heap.size]?=some (.cells (madeCells #[.bool false] n) 4 (0,0)):=ah (heap_alloc_new _ _)
 have aj:∀ q,v.ownBlock=some q→∃ c,((V.alloc (.cells (madeCells #[.bool false] n) 4)).alloc o).heap[q]?=some (.cells c 82 (0,0)):=fun q I=>ak A.row I
 have N:Frm v.ownBlock.toList ((V.alloc (.cells (madeCells #[.bool false] n) 4)).alloc o) E:=(Frm.refl _ _).grown af fun q I=>.inl (by rw[I];simp)
 have X:∀ {k:Nat} {c:Array Value} {t:TypeId} {fr:Nat × Nat},((V.alloc (.cells (madeCells #[.bool false] n) 4)).alloc o).heap[k]?=some (.cells c t fr)→t≠82→k∉v.ownBlock.toList:=fun U ai R=>by
  rw[Option.mem_toList] at R
  obtain⟨c,H⟩:=aj _ R
  exact ce U H ai rfl
 have b2:=N.at A.box (X A.box (by decide))
 have O:Frm [ob] E (E.setCell ⟨ob,0,none⟩ v'):=(Frm.refl _ _).setCell _ (.inl (by simp)) _
 refine⟨((A.fr.then N fun q I=>.inr ?_)).trans O,J.lt,(ap b2 0 v').trans rfl,?_,fun j e a=>?_,fun i j S b K hb ae=>?_⟩
 ·rw[Option.mem_toList] at I
  exact aF A.row I
 ·have G:=O.owns Y fun k U=>by
   obtain⟨c,H⟩:=ak Y U
   rw[List.mem_singleton]
   exact ce H b2 (by decide)
  have ab:usC (L++[(V.heap.size,List.replicate n false)])=usC L++[.slice (some ⟨V.heap.size,0,none⟩) n n]:=by
   unfold usC
   rw[List.map_append]
   simp
  rw[ab,List.length_append]
  exact G
 ·rcases Nat.lt_or_ge j L.length with h | h
  ·rw[List.getElem?_append_left h] at a
   have G:=A.at' j e a
   exact⟨G.1,O.at (N.at G.2 (X G.2 (by decide))) (by rw[List.mem_singleton];exact ce G.2 A.box (by decide))⟩
  ·rw[List.getElem?_append_right h] at a
   obtain⟨am,ag⟩:j - L.length=0∧e=(V.heap.size,List.replicate n false):=by
    cases hz:j - L.length with
    | zero=>rw[hz] at a;exact⟨rfl,by simpa using a.symm⟩
    | succ k=>rw[hz] at a;simp at a
   subst ag
   have R:((List.replicate n false).map Value.bool).toArray=madeCells #[.bool false] n:=by
    rw[List.map_replicate,← toList_madeCells_one]
   rw[R]
   exact⟨J.fr.size,O.at (N.at W (X W (by decide))) (by rw[List.mem_singleton];exact ce W A.box (by decide))⟩
 ·have aa:∀ (k:Nat) (e:Nat × List Bool),L[k]?=some e→e.1<V.heap.size:=fun k e a=>lt_of_block (J.at' k e a).2
  have H:∀ (k:Nat) (e:Nat × List Bool),(L++[(V.heap.size,List.replicate n false)])[k]?=some e→(k<L.length∧L[k]?=some e)∨(k=L.length∧e.1=V.heap.size):=fun k e a=>by
   rcases Nat.lt_or_ge k L.length with h | h
   ·rw[List.getElem?_append_left h] at a;exact .inl ⟨h,a⟩
   ·rw[List.getElem?_append_right h] at a
    cases hz:k - L.length with
    | zero =>
      rw[hz] at a
      exact .inr ⟨by omega,by simp at a;rw[← a]⟩
    | succ k=>rw[hz] at a;simp at a
  rcases H i S K with ⟨-,K⟩ | ⟨al,K⟩ <;> rcases H j b hb with ⟨-,hb⟩ | ⟨h,hb⟩
  ·exact J.nd i j S b K hb ae
  ·have:=aa i S K;omega
  ·have:=aa j b hb;omega
  ·omega
theorem UsO.put (a:UsO w1 ob L v V) {i k b:Nat} {r:List Bool} (E:L[i]?=some (b,r)):UsO w1 ob (L.set i (b,r.set k true)) v (V.setCell ⟨b,k,none⟩ (.bool true)):=by
 have hb:=a.at' i _ E
 have N:=ag E
 have G:Frm [b] V (V.setCell ⟨b,k,none⟩ (.bool true)):=(Frm.refl _ _).setCell _ (.inl (by simp)) _
 refine⟨a.fr.then G fun q O=>.inr (by rw[List.mem_singleton] at O;subst O;exact hb.1),a.lt,G.at a.box (by rw[List.mem_singleton];exact ce a.box hb.2 (by decide)),?_,fun j e A=>?_,fun p q x y h Y X=>?_⟩
 ·have H:=G.owns a.row fun k U=>by
   obtain⟨c,I⟩:=ak a.row U
   rw[List.mem_singleton]
   exact ce I hb.2 (by decide)
  have K:usC (L.set i (b,r.set k true))=usC L:=by
   unfold usC
   apply List.ext_getElem?
   intro j
   rw[List.getElem?_map,List.getElem?_map]
   by_cases hj:i=j
   ·subst hj
    rw[List.getElem?_set_self N,E]
    simp
   ·rw[List.getElem?_set_ne hj]
  rw[K,List.length_set]
  exact H
 ·by_cases hj:i=j
  ·subst hj
   rw[List.getElem?_set_self N] at A
   cases A
   refine⟨hb.1,(ap hb.2 k _).trans ?_⟩
   congr 2
   apply Array.ext_getElem?
   intro q
   simp[List.map_set]
  ·rw[List.getElem?_set_ne hj] at A
   have H:=a.at' j e A
   exact⟨H.1,G.at H.2 (by rw[List.mem_singleton];exact fun K=>hj (a.nd i j _ _ E A K.symm))⟩
 ·have I:∀ (q:Nat) (x:Nat × List Bool),(L.set i (b,r.set k true))[q]?=some x→∃ J,L[q]?=some J∧J.1=x.1:=fun q x h=>by
   by_cases hj:i=q
   ·subst hj
    rw[List.getElem?_set_self N] at h
    cases h
    exact⟨_,E,rfl⟩
   ·rw[List.getElem?_set_ne hj] at h
    exact⟨x,h,rfl⟩
  obtain⟨J,W,R⟩:=I p x h
  obtain⟨ab,aa,S⟩:=I q y Y
  exact a.nd p q J ab W aa (by rw[R,S,X])
theorem UsO.get (a:UsO w1 ob L v V) {i b:Nat} {r:List Bool} (h:L[i]?=some (b,r)):∃ g A c,v=.slice (some ⟨g,0,none⟩) A c∧V.cell? ⟨g,i,none⟩=some (.slice (some ⟨b,0,none⟩) r.length r.length):=by
 have E:=ag h
 obtain⟨g,c,cur,rfl,-,-⟩:=aZ a.row (by omega)
 refine⟨g,_,c,rfl,(World.ownsRow.cellAt a.row i (by omega)).trans ?_⟩
 unfold usC
 rw[List.getElem?_map,h]
 rfl
end
def sa (i k:Nat) (m:Mv):Bool:=decide (m.kind=1) && decide (m.role=(i:Int)) && decide (m.step=(k:Int))
def usF (s:SesD) (a:List Nd) (h:List Mv) (i k:Nat):Bool:=d9 s a i k || h.any (sa i k)
theorem tE (s:SesD) (a:List Nd):usF s a []=d9 s a:=by
 funext i k
 unfold usF
 simp
theorem sc {s:SesD} {a:List Nd} {d:Nd} {h:List Mv} (A:aN s d.st=h):usF s a h=d9 s (a++[d]):=by
 funext i k
 unfold usF d9
 have e:sa i k=fun m=>decide (m.kind=1) && decide (m.role=(i:Int)) && decide (m.step=(k:Int)):=rfl
 rw[List.any_append,← A,e]
 simp
theorem mJ (s:SesD) (a:List Nd) (h:List Mv) (m:Mv) (i k:Nat):usF s a (h++[m]) i k=(usF s a h i k || sa i k m):=by
 unfold usF
 rw[List.any_append,Bool.or_assoc]
 simp
theorem jC {s:SesD} {f g:Nat→Nat→Bool} (a:∀ i k,f i k=g i k):eM s f=eM s g:=by
 have:f=g:=by funext i k;exact a i k
 rw[this]
theorem qi {s:SesD} {f:Nat→Nat→Bool} {i k:Nat}:(eM s f).set i (((List.range (s.rol i).steps.length).map (f i)).set k true)=eM s (fun p q=>f p q || (decide (p=i) && decide (q=k))):=by
 unfold eM
 apply List.ext_getElem?
 intro p
 by_cases hp:i=p
 ·subst hp
  rcases Nat.lt_or_ge i s.roles.length with h | h
  ·rw[List.getElem?_set_self (by simpa using h),List.getElem?_map,List.getElem?_range h]
   simp only[Option.map_some,Option.some.injEq]
   apply List.ext_getElem?
   intro q
   by_cases hq:k=q
   ·subst hq
    rcases Nat.lt_or_ge k (s.rol i).steps.length with a | a
    ·rw[List.getElem?_set_self (by simpa using a),List.getElem?_map,List.getElem?_range a]
     simp
    ·rw[List.getElem?_eq_none (by simpa using a),List.getElem?_eq_none (by simpa using a)]
   ·rw[List.getElem?_set_ne hq,List.getElem?_map,List.getElem?_map]
    rcases Nat.lt_or_ge q (s.rol i).steps.length with a | a
    ·rw[List.getElem?_range a]
     simp[Ne.symm hq]
    ·rw[List.getElem?_eq_none (by simpa using a)]
     rfl
  ·rw[List.getElem?_eq_none (by simpa using h),List.getElem?_eq_none (by simpa using h)]
 ·rw[List.getElem?_set_ne hp,List.getElem?_map,List.getElem?_map]
  rcases Nat.lt_or_ge p s.roles.length with a | a
  ·rw[List.getElem?_range a]
   simp[Ne.symm hp]
  ·rw[List.getElem?_eq_none (by simpa using a)]
   rfl
theorem sd {s:SesD}:eM s (d9 s [])=(List.range s.roles.length).map fun j=>List.replicate (s.rol j).steps.length false:=by
 unfold eM
 apply List.map_congr_left
 intro i _
 have e:d9 s [] i=fun _=>false:=by funext k;rfl
 rw[e,List.map_const',List.length_range]
theorem qj {s:SesD} {x:PS} {m:Mv} (J:m∈aN s x) (A:m.kind=1):∃ a b:Nat,m.role=a∧m.step=b∧a<s.roles.length∧b<(s.rol a).steps.length:=by
 rcases mem_movesP.1 J with ⟨a,b,H,I,h⟩ | ⟨a,b,-,-,h⟩
 ·obtain⟨-,E,G,-⟩:=dt h
  exact⟨a,b,E,G,H,I⟩
 ·have:=(mem_loseMv.1 h).1
  rw[this] at A
  cases A
theorem KB.bk {B:Nat} {a V V':World} (A:KB a V) (hb:Bk B V V') (G:a.heap.size≤B):KB a V':=fun k o h E=>hb.block k o (A k o h E) (.inl (by have:=lt_of_block h;omega))
theorem MvI.bk {B B':Nat} {v:Value} {L:List Mv} {h A:World} (a:MvI B v L h) (hb:Bk B' h A):MvI B v L A:=⟨hb.at a.b rfl,a.a.frm fun _ _ _ a=>a.bk hb⟩
theorem MvI.box {B b:Nat} {u:Value} {L:List Mv} {E V:World} {r:List Bool} (G:MvI B u L E) (hb:E.heap[b]?=some (.cells (r.map Value.bool).toArray 4 (0,0))) (a:Frm [b] E V):MvI B u L V:=
 ⟨a.at G.b (by rw[List.mem_singleton];exact ce G.b hb (by decide)),G.a.frm fun g o m h=>by
  have A:g∉[b]:=fun H=>by
   rw[List.mem_singleton] at H
   subst H
   have:=h.1
   rw[ae hb] at this
   simp at this
  exact⟨a.cellAt h.1 A,a.cellAt h.2 A,a.cellAt h.3 A,a.cellAt h.4 A⟩⟩
def lr (g n E h a A q b:Nat):Nat→Value
 | 0=>.slice (some ⟨g,0,none⟩) n E
 | 1=>.pointer (some ⟨h,1,none⟩)
 | 2=>.int .i64 (a:Int)
 | 3=>.pointer (some ⟨g,a,none⟩)
 | 4=>.slice (some ⟨A,0,none⟩) q q
 | 5=>.pointer (some ⟨h,2,none⟩)
 | 6=>.int .i64 (b:Int)
 | 7=>.pointer (some ⟨A,b,none⟩)
 | _=>undef
theorem fC {D:Nat→Bool} {f a:Nat→Value} {i:Nat} {v:Value} (E:∀ j,D j=true→f j=a j) (e:v=a i):∀ j,jZ D i j=true→ls f i v j=a j:=fun j A=>by
 unfold jZ at A
 unfold ls
 split
 ·rename_i h
  rw[h]
  exact e
 ·rename_i h
  rw[if_neg h] at A
  exact E j A
def uS (a:World) (g o:Nat) (r:List Bool):Prop:=∃ b,a.cell? ⟨g,o,none⟩=some (.slice (some ⟨b,0,none⟩) r.length r.length)∧a.heap[b]?=some (.cells (r.map Value.bool).toArray 4 (0,0))
theorem UsO.arr {w1 V:World} {ob:Nat} {L:List (Nat × List Bool)} {v:Value} (a:UsO w1 ob L v V):Arr 1 uS V v (L.map Prod.snd):=by
 obtain⟨ao,cap,rfl⟩:=an a.row
 refine⟨ao,cap,by rw[List.length_map],fun i r G=>?_⟩
 obtain⟨⟨b,I⟩,h,rfl⟩:=gQ G
 obtain⟨g,H,c,A,E⟩:=a.get h
 cases A
 refine⟨g,0,rfl,b,?_,(a.at' i _ h).2⟩
 rw[Nat.zero_add,Nat.mul_one]
 exact E
theorem ur {V:World} {ob n c:Nat} {ao:Option Addr} {fn:Func} {tmps:Array Value} (h:V.heap[ob]?=some (.cells #[.slice ao n c] 71 (0,0))) (I:fn.results=#[.cell 4 71,.tmp 5])
  (A:tmps.getD 4 undef=.pointer (some ⟨ob,0,none⟩)) (G:tmps.getD 5 undef=.int .i64 0):(results fn tmps).run Tryz.prog V=.ok (.tuple #[.slice ao n c,.int .i64 0]) V:=by
 have E:tmps[4]?.getD undef=.pointer (some ⟨ob,0,none⟩):=by simpa using A
 have H:tmps[5]?.getD undef=.int .i64 0:=by simpa using G
 have a:=ae h 0
 simp at a
 simp[results,I,E,H,asAddr,a,go_sem]
def tV (w:World) (s:SesD) (lim:Nat) (v:Value) (w':World):Prop:=
 Frm [] w w'∧∃ u,v=.tuple #[u,.int .i64 0]∧Arr 1 uS w' u (eM s (d9 s (aQ s lim).1))
theorem mK (h:ByteArray) (ao:Option Addr) (n c:Nat) (x y:Int) (a:World):(Instr.field 25 (.agg #[.string h,.slice ao n c,.int .i64 x,.int .i64 y]) 1).run Tryz.prog a=.ok (.slice ao n c) a:=by
 simp[Instr.field,go_sem,Tryz.underlying25,asAgg,part]
attribute [local go_sem] Oper.semAt_some
set_option maxHeartbeats 4000000 in
set_option maxRecDepth 100000 in
theorem oD (s:SesD) (Y a1 lim:Nat) (w:World) (h:SyR w s Y a1) (W:1≤lim) (R:lim≤200000) (dv:(aQ s lim).2=true):Calls Tryz.prog 30 #[.pointer (some ⟨Y,0,none⟩),.int .i64 lim] w (aU (tV w s lim)):=by
 have aZ:=vi h;have cB:=vi (⟨W,R⟩:1≤lim∧lim≤200000)
 obtain⟨a0,be⟩:∃ a0,(w.alloc (.cells #[.pointer (some ⟨Y,0,none⟩)] 27)).alloc (.cells #[.slice none 0 0] 71)=a0:=⟨_,rfl⟩
 obtain⟨S,b0⟩:∃ b,w.heap.size+1=b:=⟨_,rfl⟩
 obtain⟨cl,bZ⟩:∃ b,w.heap.size=b:=⟨_,rfl⟩
 have bn:Hid (Frm [] w a0):=vi (by rw[← be];exact((Frm.refl _ _).alloc _).alloc _)
 have bp:Hid (a0.heap[cl]?=some (.cells #[.pointer (some ⟨Y,0,none⟩)] 27 (0,0))):=vi (by rw[← be,← bZ];exact ah (heap_alloc_new _ _))
 have cN:Hid (a0.heap[S]?=some (.cells #[.slice none 0 0] 71 (0,0))):=vi (by rw[← be,← b0];exact aq (by simp))
 have dZ:Hid (w.heap.size≤S):=vi (by omega)
 have cm:=vi (fL s Y a1 lim a0 (h.frm bn.out) W R)
 have ct:=vi be;have cp:=vi b0;have co:=vi bZ;have d3:=vi dv
 clear h W R be b0 bZ dv
 refine cf Tryz.func30 rfl ?_
 simp only[Tryz.ntmps30,List.size_toArray,List.length_cons,List.length_nil,Nat.reduceAdd,Nat.reduceSub,Array.replicate_succ,Array.replicate_zero,List.push_toArray,List.append_toArray,List.nil_append,List.cons_append]
 go_upto_region 1 with fail
 rw[ct.out,cp.out,co.out]
 clear ct cp co
 have bb:=ae bp.out 0
 go_upto_region 2 with (first
  | (go_at_call 57;go_must (refine cm.out.mono ?_;rintro e w1 ⟨v,rfl,ad,af,rfl,dr,de,ak⟩;have bP:=vi dr;have cJ:=vi de;have aM:=vi ak;clear dr de ak cm bb)))
 have bG:=vi (kD bP.out)
 rw[d3.out] at bG
 have cn:=vi (fu s Y a1 w1 (aZ.out.frm (bn.out.trans aM.out)))
 have ck:=ae (aM.out.at bp.out (by simp)) 0
 have er:=mK s.name
 go_upto_region 7 with (first
  | (go_at_call 59;go_must (refine bG.out.mono ?_;rintro e a5 ⟨rfl,rfl⟩;clear bG))
  | (go_at_call 74;go_must (refine cn.out.mono ?_;rintro e N ⟨v,rfl,ev⟩;obtain⟨⟨bY,bb,rfl⟩,dh,dp⟩:=ev;have aY:=vi dh;have cQ:=vi (dp N (Agree.refl _ _));clear dh dp cn ck)))
 clear er
 obtain⟨eT,ex,bk⟩:=cQ.out
 cases ex
 obtain⟨n,bi⟩:∃ n,s.roles.length=n:=⟨_,rfl⟩
 have cP:=vi bk;have a9:=vi bi
 rw[bi] at cP ⊢
 have d1:Hid (SyR N s Y a1):=vi (aZ.out.frm (bn.out.trans (aM.out.trans aY.out)))
 have cM:Hid (n≤4):=vi (by rw[← bi];exact aZ.out.ok.n4)
 have cL:Hid (2≤n):=vi (by rw[← bi];exact aZ.out.ok.n2)
 have cX:Hid (∀ i:Nat,i<n→wrap64 ((i:Int)+1)=((i+1:Nat):Int)):=vi fun i dk=>by have:=cM.out;unfold wrap64;omega
 have aD:Hid (N.heap[S]?=some (.cells #[.slice none 0 0] 71 (0,0))):=vi (aY.out.at (aM.out.at cN.out (by simp)) (by simp))
 have bQ:=vi (bP.out.frm aY.out)
 have d2:Hid (UsO N S [] (.slice none 0 0) N):=vi ⟨Frm.refl _ _,lt_of_block aD.out,aD.out,World.ownsRow_nil _ _ _ _,fun j e eq=>by simp at eq,fun i j a b ep=>by simp at ep⟩
 have dK:Hid (Frm [] w N):=vi (bn.out.trans (aM.out.trans aY.out))
 clear bi bk cQ bP cN
 go_loopw [31] (fun s31 wr=>∃ i:Nat,s31=.int .i64 i∧i≤n∧∃ L v,L.length=i∧L.map Prod.snd=(List.range i).map (fun j=>List.replicate (s.rol j).steps.length false)∧UsO N S L v wr) (fun s31 _=>n - (intOf s31).toNat)
 case atStart=>exact⟨0,rfl,Nat.zero_le _,[],_,rfl,rfl,d2.out⟩
 case round =>
  obtain⟨i,rfl,dk,L,v,dc,dd,cg⟩:=hrel
  obtain⟨ar,I,rfl⟩:=an cg.row
  have ba:=vi cg;have bK:=vi dc;have cD:=vi dd
  clear cg dc dd
  obtain⟨aW,ez⟩:∃ aW,aW=wr:=⟨_,rfl⟩
  subst ez
  by_cases hlt:i<n
  ·have eN:(i:Int)<(n:Int):=by omega
   have b9:i<s.roles.length:=by rw[a9.out];exact hlt
   have bk:Rls aW (.slice (some ⟨bY,0,none⟩) n bb) s.roles:=cP.out.fg (oC aD.out) ba.out.fr
   obtain⟨rb,eS,aB,eU,eL,eV,br,c5,c6,bX,bj⟩:=bk.get (SesD.rol_some b9)
   cases aB
   obtain⟨r,aJ⟩:∃ r,s.rol i=r:=⟨_,rfl⟩
   rw[aJ] at br bj
   obtain⟨c1,c4,rfl⟩:=bj.sts.shape
   obtain⟨cZ,c3,rfl⟩:=bj.ctrs.shape
   obtain⟨bV,bW,rfl⟩:=bj.steps.shape
   have et:=aI br
   obtain⟨m,bh⟩:∃ m,r.steps.length=m:=⟨_,rfl⟩
   have cI:Hid ((s.rol i).steps.length=m):=vi (by rw[aJ];exact bh)
   have cF:Hid (m≤1000):=vi (by rw[← cI.out];have:=(aZ.out.ok.rol _ (List.mem_of_getElem? (SesD.rol_some b9))).t80;omega)
   rw[bh] at bX
   simp only[Nat.zero_add] at br c5 c6 bX
   clear bj b9 aJ bh bk
   go_upto_region 9 with fail
   clear br c5 c6 bX et
   obtain⟨aA,bt⟩:∃ aA,aW.alloc (.cells #[.string r.name,.slice c1 r.sts.length c4,.slice cZ r.ctrs.length c3,.slice bV m bW] 87)=aA:=⟨_,rfl⟩
   obtain⟨c2,b7⟩:∃ b,aW.heap.size=b:=⟨_,rfl⟩
   have dF:Hid (Frm [] aW aA):=vi (by rw[← bt];exact(Frm.refl [] aW).alloc _)
   have d7:Hid (aA.heap[c2]?=some (.cells #[.string r.name,.slice c1 r.sts.length c4,.slice cZ r.ctrs.length c3,.slice bV m bW] 87 (0,0))):=vi (by rw[← bt,← b7];exact heap_alloc_new _ _)
   rw[bt,b7]
   clear bt b7
   have ay:=vi (ba.out.frm dF.out)
   have cs:Hid (∀ V,Frm [] aA V→V.cell? ⟨S,0,none⟩=some (.slice ar L.length I)∧V.cell? ⟨c2,3,none⟩=some (.slice bV m bW)):=vi fun V bd=>⟨ae (bd.at ay.out.box (by simp)) 0,ae (bd.at d7.out (by simp)) 3⟩
   have eu:=run_make_row' (P:=Tryz.prog) 82 4 (.bool false) 1 Tryz.underlying82 Tryz.infoB4 rfl .i64 .i64 m (by have:=cF.out;omega) (by have:=cF.out;omega)
   obtain⟨eP,dl,dx,dy,dz⟩:=info_parts Tryz.infoBs
   have cC:Hid (L.length≤4):=vi (by rw[bK.out];have:=cM.out;omega)
   generalize eo:Exit.inBlock _ _=QQ
   refine wp_mono (Q:=fun e a' w'=>match e with | .normal=>QQ .normal a' w' | _=>False) ?_ (fun e a' w' h=>by cases e <;> first | exact h | exact h.elim)
   refine bH [] (fk 6) (by kernel_rfl) ?_
   refine htP 1 ?_ ?_ ?_
   rotate_left
   ·intro w'
    go_simp
    try rfl
   try simp only[nrm]
   refine htL 0 ?_ ?_ ?_
   rotate_left
   ·intro w' bc
    obtain⟨aX,eC⟩:=cs.out w' ((Frm.refl [] aA).drew.trans bc)
    clear bc
    go_simp
    try rfl
   try simp only[nrm]
   refine cnt 2 ?_
   iterate 2
    refine hcL ?_ ?_ ?_
    rotate_left
    ·intro w' bc
     obtain⟨aX,eC⟩:=cs.out w' ((Frm.refl [] aA).drew.trans bc)
     clear bc
     go_simp
     try rfl
    try simp only[nrm,Nat.reduceAdd]
   refine tcn ?_
   obtain⟨aw,ch⟩:∃ aw,aA.drew=aw:=⟨_,rfl⟩
   have bq:Hid (UsO N S L (.slice ar L.length I) aw):=vi (by rw[← ch];exact ay.out.frm (Frm.refl [] aA).drew)
   rw[ch]
   clear ch
   refine bE 4 ?_
   refine ax (i:=4) rfl rfl (by rfl) (fun U E=>?_)
   go_simp
   (skip)
   refine E.out _ _ ((Frm.refl _ _).alloc _) ?_
   clear E U
   try simp only[nrm]
   refine bE 5 ?_
   refine ax (i:=5) rfl rfl (by rfl) (fun U E=>?_)
   go_simp
   (skip)
   refine E.out _ _ ((Frm.refl _ _).alloc _) ?_
   clear E U
   try simp only[nrm]
   have dn:((aw.alloc (.cells (madeCells #[.bool false] m) 4)).alloc (.cells #[.slice (some ⟨aw.heap.size,0,none⟩) m m] 82)).heap[aw.heap.size+1]?=some (.cells #[.slice (some ⟨aw.heap.size,0,none⟩) m m] 82 (0,0)):=aq (by simp)
   refine bE 6 ?_
   refine az (i:=6) rfl (by rfl) (by rfl) (fun U E=>?_)
   refine cz _ _ 71 rfl N.heap.size 82 Tryz.underlying71 dl dx dy dz rfl (by decide) (.slice ar L.length I) L.length (usC L) rfl (bq.out.frm (((Frm.refl [] aw).alloc _).alloc _)).row _ 1 1 [.slice (some ⟨aw.heap.size,0,none⟩) m m] rfl rfl (by have:=cE dn;simpa using this) (by simp[Value.oneCell']) (by have:=cC.out;unfold maxLen;omega) (by have:=cC.out;omega) (by have:=bq.out.fr.size;simp;omega) ?_
   intro v' bm ab dj;have dY:=vi ab;have cw:=vi dj;obtain⟨d8,ec,ey⟩:=an ab;subst ey;clear ab dj
   have b6:=(bq.out.frm (((Frm.refl [] aw).alloc _).alloc _)).grown cw.out
   have eD:=ae b6 0
   have eE:=aj b6 0
   refine E.out _ _ ?_
   clear E U
   try simp only[nrm]
   refine bE 7 ?_
   refine az (i:=7) rfl (by rfl) (by rfl) (fun U E=>?_)
   go_simp
   (skip)
   refine E.out _ _ ?_
   clear E U
   try simp only[nrm]
   refine aR (by kernel_rfl) ?_ _
   have cU:=vi (bq.out.add cw.out dY.out)
   subst eo
   obtain⟨dC,dt⟩:∃ dC,bm.setCell ⟨S,0,none⟩ (.slice d8 (L.length+1) ec)=dC:=⟨_,rfl⟩
   rw[dt] at cU ⊢
   clear dt dn b6 eD eE eu dl dx dy dz
   go_wp2
   refine⟨⟨i+1,congrArg (Value.int .i64) (cX.out i hlt),hlt,_,_,?_,?_,cU.out⟩,bD hlt (cX.out i hlt)⟩
   ·rw[List.length_append,bK.out];rfl
   ·rw[List.map_append,cD.out,List.range_succ,List.map_append,← cI.out];rfl
  ·obtain rfl:n=i:=by omega
   have es:¬ (n:Int)<(n:Int):=by omega
   have eJ:=vi (bQ.out.box (by have:=cL.out;have:=a9.out;omega) aD.out ba.out.fr)
   go_upto_region 12 with (first
    | (go_at_call 91;go_must (refine(iz _ _).mono ?_;rintro e bm ⟨u,rfl,aE,rfl,dg,ak⟩;have dI:=vi dg;have dL:=vi ak;clear dg ak)))
   have cT:Hid (UsO N S L (.slice ar n I) bm):=vi (by
    have ab:=ba.out.frm dL.out
    rw[bK.out] at ab
    exact ab)
   obtain⟨eB,di⟩:=j4 (lim:=lim) aZ.out.ok cB.out.1
   have dq:SI s lim eB (af.map Prod.fst):=by rw[cJ.out];exact di.toSI
   have dP:Hid (af.length≤200000):=vi (by
    have:=dq.top
    rw[List.length_map] at this
    have:=cB.out
    omega)
   have cK:Hid (0<s.roles.length):=vi (by have:=cL.out;have:=a9.out;omega)
   have bU:Hid (N.heap.size≤bm.heap.size):=vi cT.out.fr.size
   clear di dq es hlt dk ba
   refine dE (P:=Tryz.prog) rfl (enters_of Tryz.func151 (by kernel_rfl) rfl) (ph aE Y ad s (aQ s lim).2 af (by have:=dP.out;omega)) (fun _=>rfl)
    (fun a4 V=>(∃ L',L'.map Prod.snd=eM s (d9 s ((af.map Prod.fst).take a4.length))∧UsO N S L' (.slice ar n I) V)∧V.heap[aE]?=some (.cells #[.pointer (some ⟨ad,0,none⟩)] 122 (0,0)))
    (fun _ _ _=>False)
    (fun _ _ _ h hb=>⟨by obtain⟨⟨L',W,R⟩,-⟩:=h;exact⟨L',W,R.bk hb bU.out⟩,hb.at h.2 rfl⟩)
    (fun _ _ _ _ h _=>h)
    (fun _ V h=>⟨h.2,by obtain⟨⟨L',W,R⟩,-⟩:=h;exact bQ.out.box cK.out aD.out R.fr⟩)
    ⟨⟨L,by rw[List.length_nil,List.take_zero,sd,a9.out];exact cD.out,cT.out⟩,dI.out⟩ ?_ ?_ (fun _ _ _ _ _ _ _ _ h _=>h.elim)
   ·intro dA a4 y rest eK aT A bg aS
    obtain⟨bl,bx⟩:=gE aT
    have aF:=fY aT
    obtain⟨eF,eW⟩:=y
    simp only at bl aF
    subst bl
    have bI:=vi A
    have eI:=vi aS;have a8:=vi bg
    clear A bg aS aT
    gi_wp2
    refine⟨KB.refl _,fun ap au aS=>?_⟩
    have a7:Hid ((∃ L',L'.map Prod.snd=eM s (d9 s ((af.map Prod.fst).take a4.length))∧UsO N S L' (.slice ar n I) ap)∧ap.heap[aE]?=some (.cells #[.pointer (some ⟨ad,0,none⟩)] 122 (0,0))):=vi ⟨by obtain⟨⟨L',W,R⟩,-⟩:=bI.out;exact⟨L',W,R.bk au bU.out⟩,au.at bI.out.2 rfl⟩
    have dR:=vi aS
    clear au bI aS
    obtain⟨d,bv,rfl⟩:=gQ aF
    obtain⟨k,al⟩:∃ k,a4.length=k:=⟨_,rfl⟩
    have dN:=vi al
    rw[al] at a7 bv bx ⊢
    have bw:Frm [S] N ap:=by obtain⟨⟨L',W,R⟩,-⟩:=a7.out;exact R.fr
    have cR:Hid (StR ap s Y d.2 d.1.st):=vi ((bQ.out.box cK.out aD.out bw).st d (List.mem_of_getElem? bv))
    have dX:Hid ((af.map Prod.fst).take (k+1)=(af.map Prod.fst).take k++[d.1]):=vi (bu (by rw[List.getElem?_map,bv];rfl)).1
    have cS:Hid (SyR ap s Y a1):=vi (d1.out.fg (oC aD.out) bw)
    have bF:=vi (oz s Y a1 d.2 d.1.st ap cS.out cR.out)
    have eb:ap.cell? ⟨cl,0,none⟩=some (.pointer (some ⟨Y,0,none⟩)):=ae (bw.at (aY.out.at (aM.out.at bp.out (by simp)) (by simp)) (by rw[List.mem_singleton];exact ce (aY.out.at (aM.out.at bp.out (by simp)) (by simp)) aD.out (by decide))) 0
    have cG:Hid (∀ m∈aN s d.1.st,m.kind=1→∃ a b:Nat,m.role=a∧m.step=b∧a<s.roles.length∧b<(s.rol a).steps.length):=vi fun m bh=>qj bh
    have cH:Hid ((aN s d.1.st).length≤1000000):=vi (by have:=fX cS.out.ok cR.out.ok;omega)
    obtain⟨aL,ca⟩:∃ aL,aN s d.1.st=aL:=⟨_,rfl⟩
    have dW:=vi ca
    rw[ca] at bF cG cH
    clear bv bw aF bx al ca
    gi_upto_region 14 with (refine⟨trivial,?_⟩;gi_at_call 21;go_must (refine(CallsIn.inRound dA (callsIn_wide.2 bF.out)).mono ?_;rintro e a5 ⟨v,rfl,B,u,rfl,dm,ak,en⟩;have dU:=vi dm;have a6:=vi ak;clear dm ak en bF eb))
    have bS:Hid ((∃ L',L'.map Prod.snd=eM s (d9 s ((af.map Prod.fst).take k))∧UsO N S L' (.slice ar n I) a5)∧a5.heap[aE]?=some (.cells #[.pointer (some ⟨ad,0,none⟩)] 122 (0,0))):=vi ⟨by obtain⟨⟨L',W,R⟩,-⟩:=a7.out;exact⟨L',W,R.frm a6.out⟩,a6.out.at a7.out.2 (by simp)⟩
    have dS:Hid (∃ r,a5.heap[dA]?=some (.loop r)):=vi (by obtain⟨r,ew⟩:=dR.out;exact⟨r,a6.out.at ew (by simp)⟩)
    have cO:Hid (ap.heap.size≤a5.heap.size):=vi a6.out.size
    have cW:Hid (N.heap.size≤a5.heap.size):=vi (by obtain⟨⟨L',W,R⟩,-⟩:=bS.out;exact R.fr.size)
    clear a7
    refine fH (P:=Tryz.prog) dS.out rfl (enters_of Tryz.func146 (by kernel_rfl) rfl) (oY B u aL cH.out) (fun _=>rfl)
     (fun a4 V=>(∃ L',L'.map Prod.snd=eM s (usF s ((af.map Prod.fst).take k) (aL.take a4.length))∧UsO N S L' (.slice ar n I) V)∧V.heap[aE]?=some (.cells #[.pointer (some ⟨ad,0,none⟩)] 122 (0,0))∧MvI B u aL V∧KB ap V)
     (fun _ _ _=>False)
     (fun _ _ _ h hb=>⟨by obtain⟨⟨L',W,R⟩,-⟩:=h;exact⟨L',W,R.bk hb cW.out⟩,hb.at h.2.1 rfl,h.2.2.1.bk hb,h.2.2.2.bk hb cO.out⟩)
     (fun _ _ _ _ h _=>h)
     (fun _ V h=>h.2.2.1)
     ⟨by obtain⟨⟨L',W,R⟩,-⟩:=bS.out;exact⟨L',by rw[List.length_nil,List.take_zero,tE];exact W,R⟩,bS.out.2,dU.out,KB.frm0 a6.out⟩ ?_ ?_ (fun _ _ _ _ _ _ h=>h.elim)
    ·intro eQ cj y eR aO aT A bg aS
     obtain⟨bl,bx⟩:=gE aT
     have aF:=fY aT
     obtain⟨eF,m⟩:=y
     simp only at bl aF
     subst bl
     have cx:=vi A
     have eH:=vi bg
     clear A bg aS aT
     gi_wp2
     refine⟨KB.frm0 ((Frm.refl [] aO).alloc _),fun ai au _=>?_⟩
     obtain⟨⟨am,av,aK⟩,aP,bz,bf⟩:=cx.out
     have bT:Hid (UsO N S am (.slice ar n I) ai):=vi ((aK.frm ((Frm.refl [] aO).alloc _)).bk au cW.out)
     have cq:Hid (ai.heap[aE]?=some (.cells #[.pointer (some ⟨ad,0,none⟩)] 122 (0,0))):=vi (au.at (((Frm.refl [] aO).alloc _).at aP (by simp)) rfl)
     have cV:Hid (MvI B u aL ai):=vi ((bz.frm ((Frm.refl [] aO).alloc _)).bk au)
     have cy:Hid (KB ap ai):=vi ((bf.trans (KB.frm0 ((Frm.refl [] aO).alloc _))).bk au cO.out)
     have bM:Hid (ai.heap[aO.heap.size]?=some (.cells #[.int .i64 m.kind,.int .i64 m.role,.int .i64 m.step,.int .i64 m.place] 44 (0,0))):=vi (au.at (heap_alloc_new _ _) rfl)
     have a8:=vi av
     obtain⟨aa,da⟩:∃ b,aO.heap.size=b:=⟨_,rfl⟩
     rw[da] at bM ⊢
     have bR:=vi (bu aF).1
     have dV:=vi (List.mem_of_getElem? aF)
     obtain⟨ci,cc⟩:∃ p,cj.length=p:=⟨_,rfl⟩
     have bN:Hid ((cj++[(cj.length,m)]).length=ci+1):=vi (by rw[List.length_append,cc];rfl)
     rw[cc] at bR a8 bN ⊢
     clear au av aK aP bz bf da cx aF bx cc
     have eA:=ae bM.out 0
     by_cases al:m.kind=1
     ·have ck:(m.kind == 1)=true:=by simpa using al
      obtain⟨a,b,c8,c9,b4,df⟩:=cG.out m dV.out al
      have ab:(am.map Prod.snd)[a]?=some ((List.range (s.rol a).steps.length).map (usF s ((af.map Prod.fst).take k) (aL.take ci) a)):=by rw[a8.out];exact r9 b4
      obtain⟨⟨O,aV⟩,b3,aJ⟩:=gQ ab
      simp only at aJ
      obtain⟨g,dB,c,aB,aG⟩:=bT.out.get b3
      cases aB
      obtain⟨q,a3⟩:∃ q,aV.length=q:=⟨_,rfl⟩
      have b8:b<q:=by rw[← a3,aJ];simpa using df
      have b5:a<n:=by rw[← a9.out];exact b4
      have bo:=vi b3;have bO:=vi a3;have cr:=vi b8;have dG:=vi b5;have eG:=vi aG;have d0:=vi aJ;have cu:=vi c8;have cv:=vi c9;have bJ:=vi al
      clear ab b3 aJ a3 b8 b5 aG c8 c9 al b4 df
      gi_upto_region 16 with fail
      clear eA
      have dT:Hid (ai.heap[aa]?=some (.cells #[.int .i64 m.kind,.int .i64 (a:Int),.int .i64 (b:Int),.int .i64 m.place] 44 (0,0))):=vi (by rw[bM.out,cu.out,cv.out])
      have dM:Hid (∀ (c:Bool) V,UsO N S (bif c then am.set a (O,aV.set b true) else am) (.slice (some ⟨g,0,none⟩) n I) V→V.cell? ⟨g,a,none⟩=some (.slice (some ⟨O,0,none⟩) q q)):=vi fun c V bd=>by
       cases c with
       | true =>
         obtain⟨em,dB,ea,aB,aG⟩:=bd.get (i:=a) (b:=O) (r:=aV.set b true) (by rw[cond_true,List.getElem?_set_self (ag bo.out)])
         cases aB
         rw[List.length_set,bO.out] at aG
         exact aG
       | false =>
         obtain⟨em,dB,ea,aB,aG⟩:=bd.get (i:=a) (b:=O) (r:=aV) bo.out
         cases aB
         rw[bO.out] at aG
         exact aG
      refine fh (fun f=>{ tmps:=#[.pointer (some ⟨Y,0,none⟩),.int .i64 (lim:Int),.pointer (some ⟨cl,0,none⟩),undef,.pointer (some ⟨S,0,none⟩),.int .i64 0,.pointer (some ⟨ad,0,none⟩),undef,u8,undef,.pointer (some ⟨d.snd,0,none⟩),undef,.pointer (some ⟨aa,0,none⟩),.tuple #[.pointer (some ⟨ad,0,none⟩),.int .i64 0],.pointer (some ⟨Y,0,none⟩),.int .i64 (lim:Int),.tuple #[.pointer (some ⟨ad,0,none⟩),.int .i64 0],.pointer (some ⟨ad,0,none⟩),.int .i64 0,.bool false,.int .i64 0,.bool false,undef,.bool false,.pointer (some ⟨ad,0,none⟩),.bool true,.bool false,.pointer (some ⟨Y,0,none⟩),.agg #[.string s.name,.slice (some ⟨bY,0,none⟩) n bb,.int .i64 s.cls,.int .i64 s.cap],.slice (some ⟨bY,0,none⟩) n bb,.int .i64 (n:Int),.int .i64 (n:Int),.bool false,u33,u34,u35,u36,u37,u38,u39,u40,u41,u42,.pointer (some ⟨ad,0,none⟩),.func (.func 151) #[] #[.pointer (some ⟨aE,0,none⟩)],.int .i64 (k:Int),.pointer (some ⟨d.snd,0,none⟩),.pointer (some ⟨Y,0,none⟩),.pointer (some ⟨d.snd,0,none⟩),.func (.func 146) #[] #[.pointer (some ⟨B,0,none⟩)],.int .i64 (ci:Int),mvV m,.pointer (some ⟨aa,0,none⟩),.int .i64 m.kind,.bool true,f 0,f 1,f 2,f 3,f 4,f 5,f 6,f 7,undef],defers:=[] })
       (fun D f V=>UsO N S (bif D 8 then am.set a (O,aV.set b true) else am) (.slice (some ⟨g,0,none⟩) n I) V∧(∀ j,D j=true→f j=lr g n I aa a O q b j)∧V.heap[aa]?=some (.cells #[.int .i64 m.kind,.int .i64 (a:Int),.int .i64 (b:Int),.int .i64 m.place] 44 (0,0))∧V.heap[aE]?=some (.cells #[.pointer (some ⟨ad,0,none⟩)] 122 (0,0))∧MvI B u aL V∧KB ai V)
       (fun _=>undef) (by kernel_rfl) (by kernel_rfl) rfl ?_ ?_ ?_
      ·exact⟨bT.out.frm (Frm.refl [] ai).drew,(fun j h=>by cases h),(Frm.refl [] ai).drew.at dT.out (by simp),(Frm.refl [] ai).drew.at cq.out (by simp),cV.out.frm (Frm.refl [] ai).drew,KB.frm0 (Frm.refl [] ai).drew⟩
      ·refine⟨?_,?_,?_,?_,?_,?_,?_,?_,?_,trivial⟩
       ·intro D f V A aC X aH
        refine⟨rfl,fun _=>rfl,fun U E=>?_⟩
        obtain⟨H,G,J,K⟩:=A
        have aX:=ae H.box 0
        refine⟨fun _ _=>trivial,?_⟩
        go_simp
        refine E.out _ _ (lr g n I aa a O q b 0) rfl ?_
        exact⟨H,fC G rfl,J,K⟩
       ·intro D f V A aC X aH
        refine⟨rfl,fun _=>rfl,fun U E=>?_⟩
        obtain⟨H,G,J,K⟩:=A
        refine⟨fun _ _=>trivial,?_⟩
        go_simp
        refine E.out _ _ (lr g n I aa a O q b 1) rfl ?_
        exact⟨H,fC G rfl,J,K⟩
       ·intro D f V A aC X aH
        refine⟨rfl,fun _=>rfl,fun U E=>?_⟩
        obtain⟨H,G,J,K⟩:=A
        have aB:f 1=.pointer (some ⟨aa,1,none⟩):=G 1 (X ⟨1,Ground.data⟩ (by simp) rfl)
        have aX:=ae J 1
        refine⟨fun _ _=>trivial,?_⟩
        go_simp
        refine E.out _ _ (lr g n I aa a O q b 2) (by (try simp only[aB]) <;> rfl) ?_
        exact⟨H,fC G rfl,J,K⟩
       ·intro D f V A aC X aH
        refine⟨rfl,fun _=>rfl,fun U E=>?_⟩
        obtain⟨H,G,J,K⟩:=A
        have ed:f 0=.slice (some ⟨g,0,none⟩) n I:=G 0 (X ⟨0,Ground.data⟩ (by simp) rfl)
        have ef:f 2=.int .i64 (a:Int):=G 2 (X ⟨2,Ground.data⟩ (by simp) rfl)
        have b5:(a:Int)<(n:Int):=by have:=dG.out;omega
        refine⟨fun _ _=>trivial,?_⟩
        go_simp
        refine E.out _ _ (lr g n I aa a O q b 3) (by (try simp only[ed,ef]) <;> rfl) ?_
        exact⟨H,fC G rfl,J,K⟩
       ·intro D f V A aC X aH
        refine⟨rfl,fun _=>rfl,fun U E=>?_⟩
        obtain⟨H,G,J,K⟩:=A
        have eg:f 3=.pointer (some ⟨g,a,none⟩):=G 3 (X ⟨3,Ground.data⟩ (by simp) rfl)
        have aX:=dM.out _ _ H
        refine⟨fun _ _=>trivial,?_⟩
        go_simp
        refine E.out _ _ (lr g n I aa a O q b 4) (by (try simp only[eg]) <;> rfl) ?_
        exact⟨H,fC G rfl,J,K⟩
       ·intro D f V A aC X aH
        refine⟨rfl,fun _=>rfl,fun U E=>?_⟩
        obtain⟨H,G,J,K⟩:=A
        refine⟨fun _ _=>trivial,?_⟩
        go_simp
        refine E.out _ _ (lr g n I aa a O q b 5) rfl ?_
        exact⟨H,fC G rfl,J,K⟩
       ·intro D f V A aC X aH
        refine⟨rfl,fun _=>rfl,fun U E=>?_⟩
        obtain⟨H,G,J,K⟩:=A
        have ei:f 5=.pointer (some ⟨aa,2,none⟩):=G 5 (X ⟨5,Ground.data⟩ (by simp) rfl)
        have aX:=ae J 2
        refine⟨fun _ _=>trivial,?_⟩
        go_simp
        refine E.out _ _ (lr g n I aa a O q b 6) (by (try simp only[ei]) <;> rfl) ?_
        exact⟨H,fC G rfl,J,K⟩
       ·intro D f V A aC X aH
        refine⟨rfl,fun _=>rfl,fun U E=>?_⟩
        obtain⟨H,G,J,K⟩:=A
        have eh:f 4=.slice (some ⟨O,0,none⟩) q q:=G 4 (X ⟨4,Ground.data⟩ (by simp) rfl)
        have ej:f 6=.int .i64 (b:Int):=G 6 (X ⟨6,Ground.data⟩ (by simp) rfl)
        have b8:(b:Int)<(q:Int):=by have:=cr.out;omega
        refine⟨fun _ _=>trivial,?_⟩
        go_simp
        refine E.out _ _ (lr g n I aa a O q b 7) (by (try simp only[eh,ej]) <;> rfl) ?_
        exact⟨H,fC G rfl,J,K⟩
       ·intro D f V A aC X aH
        refine⟨rfl,fun _=>rfl,fun U E=>?_⟩
        obtain⟨H,G,J,K,bA,bB⟩:=A
        have ek:f 7=.pointer (some ⟨O,b,none⟩):=G 7 (X ⟨7,Ground.data⟩ (by simp) rfl)
        rw[aC] at H
        have a2:=(H.at' a _ bo.out).2
        have aX:V.cell? ⟨O,b,none⟩=some (.bool (aV.getD b false)):=by
         rw[ae a2]
         have:=cr.out
         have ab:b<aV.length:=by rw[bO.out];exact this
         simp[ab]
        have el:=aj a2 b
        have ak:Frm [O] V (V.setCell ⟨O,b,none⟩ (.bool true)):=(Frm.refl _ _).setCell _ (.inl (by simp)) _
        refine⟨fun _ _=>trivial,?_⟩
        go_simp
        refine E.out _ _ undef (by (try simp only[ek]) <;> rfl) ?_
        exact⟨H.put bo.out,fC G rfl,bC J (ce J a2 (by decide)) _,bC K (ce K a2 (by decide)) _,bA.box a2 ak,bB.trans (KB.frm ak fun x dw=>by rw[List.mem_singleton] at dw;subst dw;exact dQ a2 rfl)⟩
      ·intro D f V bs A
       obtain⟨H,G,J,K,bA,bB⟩:=A
       rw[bs 8 (by decide)] at H
       have d4:=vi H;have d5:=vi K;have d6:=vi bA;have cY:=vi bB
       clear H G J K bA bB
       gi_wp2
       refine⟨cY.out,⟨_,?_,d4.out⟩,d5.out,d6.out,cy.out.trans cY.out⟩
       rw[bN.out,bR.out,cond_true,List.map_set,a8.out,d0.out,qi]
       refine jC fun i k=>?_
       rw[mJ]
       unfold sa
       rw[decide_eq_true bJ.out,cu.out,cv.out,Bool.true_and]
       congr 1
       rw[Bool.eq_iff_iff]
       simp only[Bool.and_eq_true,decide_eq_true_eq]
       omega
     ·have ck:(m.kind == 1)=false:=by simpa using al
      have bJ:=vi al
      clear al
      gi_wp2
      refine⟨KB.refl _,⟨am,?_,bT.out⟩,cq.out,cV.out,cy.out⟩
      rw[bN.out,bR.out,a8.out]
      refine jC fun i k=>?_
      rw[mJ]
      unfold sa
      rw[decide_eq_false bJ.out]
      simp
    ·intro V A
     obtain⟨⟨am,av,aK⟩,aP,bz,bf⟩:=A
     rw[du,List.take_length,sc dW.out,← dX.out] at av
     have bL:=vi av;have ay:=vi aK;have dH:=vi aP;have dO:=vi bf
     clear av aK aP bz bf
     gi_wp2
     refine⟨dO.out,⟨am,?_,ay.out⟩,dH.out⟩
     rw[List.length_append,dN.out]
     exact bL.out
   ·intro D V bs A db
    obtain⟨⟨am,av,aK⟩,aP⟩:=A
    have c7:(dD (af.map Prod.snd)).length=(af.map Prod.fst).length:=by rw[du,List.length_map,List.length_map]
    rw[c7,List.take_length,cJ.out] at av
    have bL:=vi av;have ay:=vi aK;have cA:=vi db;have dJ:=vi bs
    clear av aK aP db bs c7
    have aX:=ae ay.out.box 0
    have el:=aj ay.out.box 0
    have eO:=gU (w:=V) (b:=S) (o:=0) (v:=.slice ar n I) ay.out.box rfl
    go_wp2
    have hb:Bk bm.heap.size V (V.putObj D (.deferred none)):=Bk.putObj V _ cA.out rfl dJ.out
    have cd:=ay.out.bk hb bU.out
    refine ee cA.out ⟨_,ur cd.box rfl rfl rfl,_,rfl,?_,_,rfl,?_⟩
    ·exact dK.out.then cd.fr fun q a3=>.inr (by rw[List.mem_singleton] at a3;subst a3;exact dZ.out)
    ·have ab:=cd.arr
     rw[bL.out] at ab
     exact ab
end Go.Proofs.YtohfkhjlnlahdaaGreat
namespace Go.Proofs.YtohfkhjlnlahdaaGreat
open Go.RowKit Go.BigFrame
def chE (s:SesD):Nat→List Value
 | 0=>[]
 | k+1=>chE s k++[.int .i64 s.cls,.int .i64 s.cap,.slice none 0 0]
theorem pj (s:SesD):∀ k,(chE s k).length=k*3
 | 0=>rfl
 | k+1=>by rw[chE,List.length_append,pj s k,Nat.add_mul];rfl
theorem ru (s:SesD) {j:Nat}:∀ k,j<k→(chE s k)[j*3]?=some (.int .i64 s.cls)∧(chE s k)[j*3+1]?=some (.int .i64 s.cap)∧(chE s k)[j*3+2]?=some (.slice none 0 0)
 | 0,h=>by omega
 | k+1,h=>by
   have a:=pj s k
   rw[chE]
   by_cases e:j=k
   ·subst e
    rw[List.getElem?_append_right (by omega),List.getElem?_append_right (by omega),List.getElem?_append_right (by omega),a,Nat.sub_self,show j*3+1 - j*3=1 by omega,show j*3+2 - j*3=2 by omega]
    exact⟨rfl,rfl,rfl⟩
   ·rw[List.getElem?_append_left (by omega),List.getElem?_append_left (by omega),List.getElem?_append_left (by omega)]
    exact ru s k (by omega)
theorem tp {a:World} {s:SesD} {B g c i:Nat} (h:a.ownsRow B 164 3 (.slice (some ⟨g,0,none⟩) s.roles.length c) s.roles.length (chE s s.roles.length)):Arr 3 (RcAt s.cls s.cap a) a (.slice (some ⟨g,0,none⟩) s.roles.length c) (jo s (bg s) i):=by
 refine⟨_,c,by rw[jy],fun k y E=>⟨g,0,rfl,?_⟩⟩
 obtain⟨A,rfl⟩:=dh E
 obtain⟨G,H,I⟩:=ru s _ A
 rw[Nat.zero_add,ii]
 exact⟨_,eW h G,eW h H,eW h I,.inl (World.ownsRow_nil _ _ _ _)⟩
theorem Tryz.infoRb:(Tryz.prog.info? 159).map (fun i=>(i.zero,i.size,i.bytes))=some (some (.agg #[.slice none 0 0,.slice none 0 0]),2,48):=by kernel_rfl
theorem Tryz.infoRn:(Tryz.prog.info? 164).map (fun i=>(i.zero,i.size,i.bytes))=some (some (.agg #[.int .i64 0,.int .i64 0,.slice none 0 0]),3,40):=by kernel_rfl
set_option maxHeartbeats 16000000 in
set_option maxRecDepth 100000 in
theorem nO (s:SesD) (v:Value) (w:World) (V:SesV w v s) (bw:SesOk s):Calls Tryz.prog 26 #[v] w (aU fun u w'=>RSt w.heap.size w' s u (bg s)∧Frm [] w w'):=by
 obtain⟨d2,rfl,bZ⟩:=V
 obtain⟨ao,cap,rfl⟩:=bZ.shape
 obtain⟨n,aS⟩:∃ n,s.roles.length=n:=⟨_,rfl⟩
 have dO:2≤n:=aS ▸ bw.n2
 have dP:n≤4:=aS ▸ bw.n4
 obtain⟨H,a1⟩:∃ H,((w.alloc (.cells #[.string s.name,.slice ao s.roles.length cap,.int .i64 s.cls,.int .i64 s.cap] 25)).alloc (.cells #[.slice none 0 0,.slice none 0 0,.slice none 0 0] 61)).alloc (.cells #[.slice none 0 0,.slice none 0 0,.slice none 0 0] 61)=H:=⟨_,rfl⟩
 have bR:Frm [] w H:=by rw[← a1];exact(((Frm.refl _ _).alloc _).alloc _).alloc _
 have cy:H.heap[w.heap.size]?=some (.cells #[.string s.name,.slice ao s.roles.length cap,.int .i64 s.cls,.int .i64 s.cap] 25 (0,0)):=by rw[← a1];exact ah (ah (heap_alloc_new _ _))
 have I:H.heap[w.heap.size+1]?=some (.cells #[.slice none 0 0,.slice none 0 0,.slice none 0 0] 61 (0,0)):=by rw[← a1];exact ah (aq (by simp))
 have K:H.heap[w.heap.size+2]?=some (.cells #[.slice none 0 0,.slice none 0 0,.slice none 0 0] 61 (0,0)):=by rw[← a1];exact aq (by simp)
 have cP:=lt_of_block K
 have cj:Hid (QF w H s 0 0 H):=vi ⟨Frm.refl _ _,none,0,none,0,none,0,fun _=>0,[],K,World.ownsRow_nil _ _ _ _,World.ownsRow_nil _ _ _ _,fun j dt=>by omega,⟨[],World.ownsRow_nil _ _ _ _,fun j dt=>by omega⟩,RW.zero _ _ _ _ _⟩
 have c7:=vi bR;have bJ:=vi bw;have a8:=vi aS
 have ck:Hid (∀ G,Frm [] w G→Rls G (.slice ao s.roles.length cap) s.roles):=vi fun G aw=>bZ.frm aw
 have cm:Hid (∀ G,Frm [w.heap.size+2] H G→(G.cell? ⟨w.heap.size,1,none⟩=some (.slice ao n cap)∧G.cell? ⟨w.heap.size,2,none⟩=some (.int .i64 s.cls))∧G.cell? ⟨w.heap.size,3,none⟩=some (.int .i64 s.cap)):=vi fun G aw=>by
  have a6:=aw.at cy (by simp)
  exact⟨⟨(ae a6 1).trans (by rw[aS];rfl),ae a6 2⟩,ae a6 3⟩
 have c4:Hid (∀ G,Frm [w.heap.size+2] H G→G.heap[w.heap.size+1]?=some (.cells #[.slice none 0 0,.slice none 0 0,.slice none 0 0] 61 (0,0))):=vi fun G aw=>aw.at I (by simp)
 have dg:Hid (∀ G,Frm [w.heap.size+2] H G→Frm [] w G):=vi fun G aw=>bR.then aw (by intro k A;simp at A;subst A;exact .inr (by omega))
 have bB:=vi a1
 rw[aS] at bB ck
 rw[aS]
 have bv:w.heap.size+2<H.heap.size:=cP
 clear bZ aS bw a1 bR cy I K cP
 go_enter Tryz.func26,Tryz.ntmps26
 go_upto_region 2 with fail
 rw[bB.out]
 clear bB
 go_upto_region 3 with fail
 go_loopw [4] (fun s4 wr=>∃ i:Nat,s4=.int .i64 i∧i≤n∧QF w H s i i wr) (fun s4 _=>n - (intOf s4).toNat)
 case atStart=>exact⟨0,rfl,Nat.zero_le _,cj.out⟩
 case round =>
  clear cj
  obtain⟨i,rfl,dR,Y⟩:=hrel
  have aG:=vi Y
  clear Y
  obtain⟨ay,dv⟩:∃ ay,ay=wr:=⟨_,rfl⟩
  subst dv
  obtain⟨⟨bO,-⟩,-⟩:=cm.out ay aG.out.fr
  by_cases hlt:i<n
  ·have dU:(i:Int)<(n:Int):=by omega
   have bU:i<s.roles.length:=by rw[a8.out];exact hlt
   obtain⟨b,o,d3,dL,d4,rfl,⟨-,-,dj,-⟩,bP⟩:=Rls.at (ck.out ay (dg.out ay aG.out.fr)) bU
   obtain⟨ac,d0,dm⟩:=bP.ctrs.shape
   subst dm
   have ch:=vi (rx _ (s.rol i).ctrs ay bP.ctrs (jA (bJ.out.at bU)))
   clear bP
   go_upto_region 6 with (first
    | (go_at_call 80;go_must (refine ch.out.mono ?_;clear ch;rintro e cf ⟨u,rfl,dM,c1,rfl,bQ,b3,cF⟩;obtain⟨U,aa,rfl⟩:=an bQ;obtain⟨O,R,rfl⟩:=an b3;have bA:=vi bQ;have bn:=vi b3;have bj:=vi cF;clear bQ b3 cF))
    | (refine aD rfl 159 _ _ rfl _ _ _ _ rfl rfl (heap_alloc_new _ _) rfl (by kernel_rfl) (qS ..) ?_;intro ag I cG;have bh:=vi I;have bk:=vi cG;clear I cG))
   clear bO dj
   have bs:Frm [] ay ag:=(bj.out.alloc _).then bk.out (by intro k A;simp at A;subst A;exact .inr bj.out.size)
   have dp:∀ c1,Frm [cf.heap.size] (cf.alloc c1) ag→True:=fun _ _=>trivial
   obtain⟨a7,b0⟩:∃ a7,cf.heap.size=a7:=⟨_,rfl⟩
   have dV:ay.heap.size≤a7:=b0 ▸ bj.out.size
   rw[b0] at bh bk ⊢
   have bi:Hid (DfV ag (.slice U (s.rol i).ctrs.length aa) (s.rol i).ctrs):=vi (df ((bA.out.alloc _) |> fun V=>bk.out.owns V (fun k A aQ=>by have:=bV bA.out A;simp at aQ;omega)) (Nat.zero_le _))
   have bo:Hid (IvR ag (.slice O (s.rol i).ctrs.length R) ((bg s).bank i)):=vi (by
    rw[nR s bU]
    unfold IvR
    rw[List.length_replicate,List.map_replicate]
    exact df (bk.out.owns (bn.out.alloc _) (fun k A aQ=>by have:=bV bn.out A;simp at aQ;omega)) (Nat.zero_le _))
   have cn:Hid (∀ q,(Value.slice O (s.rol i).ctrs.length R).ownBlock=some q→ay.heap.size≤q):=vi fun q Y=>aF bn.out Y
   obtain⟨E,cQ⟩:∃ E,(s.rol i).ctrs.length=E:=⟨_,rfl⟩
   rw[cQ] at bi bo cn bh ⊢
   have bl:=vi (aG.out.frm bs)
   obtain⟨ab,ad,ai,av,br,bx,cq,bN,S,a3,a4,ba,cU,bc⟩:=bl.out.bx
   have aC:=vi S;have aN:=vi a3;have aO:=vi a4;have aW:=vi ba;have bp:=vi cU;have a0:=vi bc
   have bL:Hid (∀ q,(Value.slice O E R).ownBlock=some q→(Value.slice ab i ad).ownBlock≠some q):=vi fun q Y cC=>by
    obtain⟨di,dA,_,_,_,_,_,_,bX,bW,_⟩:=aG.out.bx
    have X:=bs.at bX (by simp)
    rw[S] at X
    injection X with X
    injection X with X
    have e:=congrArg Array.toList X
    injection e with e _
    rw[e] at cC
    have:=bV bW cC
    have:=cn.out q Y
    omega
   obtain⟨F,bt⟩:∃ F,(Value.slice ab i ad).ownBlock.toList++(Value.slice ai i av).ownBlock.toList=F:=⟨_,rfl⟩
   have bu:∀ k∈F,(Value.slice ab i ad).ownBlock=some k∨(Value.slice ai i av).ownBlock=some k:=fun k A=>by
    rw[← bt] at A
    rcases List.mem_append.1 A with A | A
    ·exact .inl (by simpa using A)
    ·exact .inr (by simpa using A)
   have bF:=vi bu
   have aX:Hid (∀ k,(Value.slice ab i ad).ownBlock=some k→k∈F):=vi fun k A=>by rw[← bt];simp[A]
   have aY:Hid (∀ k,(Value.slice ai i av).ownBlock=some k→k∈F):=vi fun k A=>by rw[← bt];simp[A]
   have cw:w.heap.size+2∉F:=fun aQ=>by
    rcases bu _ aQ with V | V
    ·obtain⟨c,bb⟩:=ak a3 V
     rw[S] at bb;cases bb
    ·obtain⟨c,bb⟩:=ak a4 V
     rw[S] at bb;cases bb
   have cx:a7∉F:=fun aQ=>by
    obtain⟨di,dA,dJ,dZ,_,_,_,_,bX,bW,du,_⟩:=aG.out.bx
    have X:=bs.at bX (by simp)
    rw[S] at X
    injection X with X
    injection X with X
    have e:=congrArg Array.toList X
    injection e with e e'
    injection e' with e' _
    rcases bu _ aQ with V | V
    ·rw[e] at V
     have:=bV bW V
     omega
    ·rw[e'] at V
     have:=bV du V
     omega
   have bz:Hid (∀ G,Frm F ag G→(G.cell? ⟨w.heap.size+2,0,none⟩=some (.slice ab i ad)∧G.cell? ⟨w.heap.size+2,1,none⟩=some (.slice ai i av))∧G.cell? ⟨a7,0,none⟩=some (.slice U E aa)∧G.cell? ⟨a7,1,none⟩=some (.slice O E R)):=vi fun G aw=>by
    have a6:=aw.at S cw
    have cV:=aw.at bh.out cx
    exact⟨⟨ae a6 0,ae a6 1⟩,ae cV 0,ae cV 1⟩
   obtain⟨dX,bS,cc,cd,ce⟩:=info_parts Tryz.infoIn
   obtain⟨dY,bT,b8,b9,ca⟩:=info_parts Tryz.infoRb
   have dQ:H.heap.size≤ag.heap.size:=bl.out.fr.size
   have cN:i<4:=by omega
   have bG:=vi bl.out.fr
   clear S a3 a4 ba cU bc bu cw cx bt bs dp b0 cQ bA bn bj
   go_upto_region 6 with fail
   go_cut [] (fun wc=>QF w H s (i+1) i wc)
   case first =>
    refine bH F (fk 10) (by kernel_rfl) ?_
    refine cnt 0 ?_
    iterate 2
     refine hcL ?_ ?_ ?_
     rotate_left
     ·intro w' al
      obtain⟨⟨dE,dF⟩,dG,dH⟩:=bz.out w' ((Frm.refl F ag).drew.trans al)
      clear al
      go_simp
      try rfl
     try simp only[nrm,Nat.reduceAdd]
    refine tcn ?_
    refine cnt 4 ?_
    iterate 3
     refine hcL ?_ ?_ ?_
     rotate_left
     ·intro w' al
      obtain⟨⟨dE,dF⟩,dG,dH⟩:=bz.out w' ((Frm.refl F ag).drew.trans al)
      clear al
      go_simp
      try rfl
     try simp only[nrm,Nat.reduceAdd]
    refine tcn ?_
    obtain⟨aV,b4⟩:∃ aV,ag.drew=aV:=⟨_,rfl⟩
    have a9:FB H.heap.size (w.heap.size+2) ag F (.slice ab i ad) (.slice ai i av) (.slice br i bx) (.slice ab i ad) (.slice ai i av) i i (List.replicate i (iv 0)) bN aV:=by rw[← b4];exact⟨(Frm.refl F ag).drew,Kt.frm ((Frm.refl [] ag).drew),aC.out,aN.out,aO.out,fun q Y=>.inl Y⟩
    rw[b4]
    clear b4
    refine aJ (rs:=[2,7]) (by kernel_rfl) (by simp) (aE ?_ (aE ?_ aM))
    ·skip
     refine ax (i:=2) rfl rfl (by rfl) (fun h a=>?_)
     go_simp
     (skip)
     refine a.out _ _ ((Frm.refl _ _).alloc _) ?_
     clear a h
     try simp only[nrm]
     have a5:=heap_alloc_new (aV) (.cells #[.int .i64 0] 3)
     have I:=FB.alloc a9 (.cells #[.int .i64 0] 3)
     refine aJ (rs:=[3,7]) (by kernel_rfl) (by simp) (aE ?_ (aE ?_ aM))
     ·skip
      refine ax (i:=3) rfl rfl (by rfl) (fun h a=>?_)
      refine fw _ _ 57 rfl H.heap.size 3 Tryz.underlying57 bS cc cd ce rfl (by decide) (.slice ab i ad) i _ rfl I.o1 _ 1 1 [.int .i64 0] rfl rfl (by have:=cE a5;simpa using this) (by simp[Value.oneCell']) (by unfold maxLen;omega) (by omega) (by have:=I.fr.size;omega) ?_
      intro ct bM ap W aK
      have K:=FB.app1 I aX.out W ap aK
      obtain⟨cX,cr,bd⟩:=an ap
      subst bd
      refine a.out _ _ ((Frm.refl F _).grown W (fun k A=>.inl (aX.out k A))) ?_
      clear a h
      try simp only[nrm]
      refine htL 9 ?_ ?_ ?_
      rotate_left
      ·intro w' al
       clear al
       go_simp
       try rfl
      try simp only[nrm]
      refine bE 7 ?_
      refine ax (i:=7) rfl rfl (by rfl) (fun h a=>?_)
      go_simp
      (skip)
      refine a.out _ _ ((Frm.refl _ _).alloc _) ?_
      clear a h
      try simp only[nrm]
      have au:=heap_alloc_new (bM) (.cells #[.slice U E aa,.slice O E R] 159)
      have N:=FB.alloc K (.cells #[.slice U E aa,.slice O E R] 159)
      refine aJ (rs:=[8]) (by kernel_rfl) (by simp) (aE ?_ aM)
      refine ax (i:=8) rfl rfl (by rfl) (fun h a=>?_)
      refine cz _ _ 58 rfl H.heap.size 159 Tryz.underlying58 bT b8 b9 ca rfl (by decide) (.slice ai i av) i _ rfl N.o2 _ 1 1 [.slice U E aa,.slice O E R] rfl rfl (by have:=cE au;simpa using this) (by simp[Value.oneCell']) (by unfold maxLen;omega) (by omega) (by have:=N.fr.size;omega) ?_
      intro cZ co ar am
      have aH:=FB.app2 N aY.out am ar
      obtain⟨cY,cs,be⟩:=an ar
      subst be
      refine a.out _ _ ((Frm.refl F _).grown am (fun k A=>.inl (aY.out k A))) ?_
      clear a h
      try simp only[nrm]
      have J:=vi aH
      have cu:=aj J.out.p 0
      have cv:=aj J.out.p 1
      have c2:=ae J.out.p 0
      have c3:=ae J.out.p 1
      clear I K N aH ap ar W am aK a9
      refine bE 10 ?_
      refine az (i:=10) rfl (by rfl) (by rfl) (fun h a=>?_)
      go_simp
      (skip)
      refine a.out _ _ ?_
      clear a h
      try simp only[nrm]
      refine bE 11 ?_
      refine az (i:=11) rfl (by rfl) (by rfl) (fun h a=>?_)
      go_simp
      (skip)
      refine a.out _ _ ?_
      clear a h
      try simp only[nrm]
      refine bE 12 ?_
      refine az (i:=12) rfl (by rfl) (by rfl) (fun h a=>?_)
      go_simp
      (skip)
      refine a.out _ _ ?_
      clear a h
      try simp only[nrm]
      refine aR (by kernel_rfl) ?_ _
      go_wp2
      go_meet
      exact QF.grow bG.out bv aN.out aO.out aW.out bp.out a0.out bi.out bo.out bL.out bF.out (by rw[List.replicate_succ'];exact J.out) rfl
     ·skip
      refine ax (i:=7) rfl rfl (by rfl) (fun h a=>?_)
      go_simp
      (skip)
      refine a.out _ _ ((Frm.refl _ _).alloc _) ?_
      clear a h
      try simp only[nrm]
      have a5:=ah (x:=.cells #[.slice U E aa,.slice O E R] 159) a5
      have au:=heap_alloc_new ((aV).alloc (.cells #[.int .i64 0] 3)) (.cells #[.slice U E aa,.slice O E R] 159)
      have N:=FB.alloc I (.cells #[.slice U E aa,.slice O E R] 159)
      refine aJ (rs:=[3]) (by kernel_rfl) (by simp) (aE ?_ aM)
      refine ax (i:=3) rfl rfl (by rfl) (fun h a=>?_)
      refine fw _ _ 57 rfl H.heap.size 3 Tryz.underlying57 bS cc cd ce rfl (by decide) (.slice ab i ad) i _ rfl N.o1 _ 1 1 [.int .i64 0] rfl rfl (by have:=cE a5;simpa using this) (by simp[Value.oneCell']) (by unfold maxLen;omega) (by omega) (by have:=N.fr.size;omega) ?_
      intro ct bM ap W aK
      have K:=FB.app1 N aX.out W ap aK
      replace au:=(Kt.own N.o1 W).cells au (by decide)
      obtain⟨cX,cr,bd⟩:=an ap
      subst bd
      refine a.out _ _ ((Frm.refl F _).grown W (fun k A=>.inl (aX.out k A))) ?_
      clear a h
      try simp only[nrm]
      refine htL 9 ?_ ?_ ?_
      rotate_left
      ·intro w' al
       clear al
       go_simp
       try rfl
      try simp only[nrm]
      refine aJ (rs:=[8]) (by kernel_rfl) (by simp) (aE ?_ aM)
      refine ax (i:=8) rfl rfl (by rfl) (fun h a=>?_)
      refine cz _ _ 58 rfl H.heap.size 159 Tryz.underlying58 bT b8 b9 ca rfl (by decide) (.slice ai i av) i _ rfl K.o2 _ 1 1 [.slice U E aa,.slice O E R] rfl rfl (by have:=cE au;simpa using this) (by simp[Value.oneCell']) (by unfold maxLen;omega) (by omega) (by have:=K.fr.size;omega) ?_
      intro cZ co ar am
      have aH:=FB.app2 K aY.out am ar
      obtain⟨cY,cs,be⟩:=an ar
      subst be
      refine a.out _ _ ((Frm.refl F _).grown am (fun k A=>.inl (aY.out k A))) ?_
      clear a h
      try simp only[nrm]
      have J:=vi aH
      have cu:=aj J.out.p 0
      have cv:=aj J.out.p 1
      have c2:=ae J.out.p 0
      have c3:=ae J.out.p 1
      clear I K N aH ap ar W am aK a9
      refine bE 10 ?_
      refine az (i:=10) rfl (by rfl) (by rfl) (fun h a=>?_)
      go_simp
      (skip)
      refine a.out _ _ ?_
      clear a h
      try simp only[nrm]
      refine bE 11 ?_
      refine az (i:=11) rfl (by rfl) (by rfl) (fun h a=>?_)
      go_simp
      (skip)
      refine a.out _ _ ?_
      clear a h
      try simp only[nrm]
      refine bE 12 ?_
      refine az (i:=12) rfl (by rfl) (by rfl) (fun h a=>?_)
      go_simp
      (skip)
      refine a.out _ _ ?_
      clear a h
      try simp only[nrm]
      refine aR (by kernel_rfl) ?_ _
      go_wp2
      go_meet
      exact QF.grow bG.out bv aN.out aO.out aW.out bp.out a0.out bi.out bo.out bL.out bF.out (by rw[List.replicate_succ'];exact J.out) rfl
    ·skip
     refine ax (i:=7) rfl rfl (by rfl) (fun h a=>?_)
     go_simp
     (skip)
     refine a.out _ _ ((Frm.refl _ _).alloc _) ?_
     clear a h
     try simp only[nrm]
     have au:=heap_alloc_new (aV) (.cells #[.slice U E aa,.slice O E R] 159)
     have N:=FB.alloc a9 (.cells #[.slice U E aa,.slice O E R] 159)
     refine bE 2 ?_
     refine ax (i:=2) rfl rfl (by rfl) (fun h a=>?_)
     go_simp
     (skip)
     refine a.out _ _ ((Frm.refl _ _).alloc _) ?_
     clear a h
     try simp only[nrm]
     have au:=ah (x:=.cells #[.int .i64 0] 3) au
     have a5:=heap_alloc_new ((aV).alloc (.cells #[.slice U E aa,.slice O E R] 159)) (.cells #[.int .i64 0] 3)
     have I:=FB.alloc N (.cells #[.int .i64 0] 3)
     refine aJ (rs:=[3]) (by kernel_rfl) (by simp) (aE ?_ aM)
     refine ax (i:=3) rfl rfl (by rfl) (fun h a=>?_)
     refine fw _ _ 57 rfl H.heap.size 3 Tryz.underlying57 bS cc cd ce rfl (by decide) (.slice ab i ad) i _ rfl I.o1 _ 1 1 [.int .i64 0] rfl rfl (by have:=cE a5;simpa using this) (by simp[Value.oneCell']) (by unfold maxLen;omega) (by omega) (by have:=I.fr.size;omega) ?_
     intro ct bM ap W aK
     have K:=FB.app1 I aX.out W ap aK
     replace au:=(Kt.own I.o1 W).cells au (by decide)
     obtain⟨cX,cr,bd⟩:=an ap
     subst bd
     refine a.out _ _ ((Frm.refl F _).grown W (fun k A=>.inl (aX.out k A))) ?_
     clear a h
     try simp only[nrm]
     refine htL 9 ?_ ?_ ?_
     rotate_left
     ·intro w' al
      clear al
      go_simp
      try rfl
     try simp only[nrm]
     refine aJ (rs:=[8]) (by kernel_rfl) (by simp) (aE ?_ aM)
     refine ax (i:=8) rfl rfl (by rfl) (fun h a=>?_)
     refine cz _ _ 58 rfl H.heap.size 159 Tryz.underlying58 bT b8 b9 ca rfl (by decide) (.slice ai i av) i _ rfl K.o2 _ 1 1 [.slice U E aa,.slice O E R] rfl rfl (by have:=cE au;simpa using this) (by simp[Value.oneCell']) (by unfold maxLen;omega) (by omega) (by have:=K.fr.size;omega) ?_
     intro cZ co ar am
     have aH:=FB.app2 K aY.out am ar
     obtain⟨cY,cs,be⟩:=an ar
     subst be
     refine a.out _ _ ((Frm.refl F _).grown am (fun k A=>.inl (aY.out k A))) ?_
     clear a h
     try simp only[nrm]
     have J:=vi aH
     have cu:=aj J.out.p 0
     have cv:=aj J.out.p 1
     have c2:=ae J.out.p 0
     have c3:=ae J.out.p 1
     clear I K N aH ap ar W am aK a9
     refine bE 10 ?_
     refine az (i:=10) rfl (by rfl) (by rfl) (fun h a=>?_)
     go_simp
     (skip)
     refine a.out _ _ ?_
     clear a h
     try simp only[nrm]
     refine bE 11 ?_
     refine az (i:=11) rfl (by rfl) (by rfl) (fun h a=>?_)
     go_simp
     (skip)
     refine a.out _ _ ?_
     clear a h
     try simp only[nrm]
     refine bE 12 ?_
     refine az (i:=12) rfl (by rfl) (by rfl) (fun h a=>?_)
     go_simp
     (skip)
     refine a.out _ _ ?_
     clear a h
     try simp only[nrm]
     refine aR (by kernel_rfl) ?_ _
     go_wp2
     go_meet
     exact QF.grow bG.out bv aN.out aO.out aW.out bp.out a0.out bi.out bo.out bL.out bF.out (by rw[List.replicate_succ'];exact J.out) rfl
   case rest =>
    have bm:=vi hcut
    clear hcut bl aC aN aO aW bp a0 bz bh
    obtain⟨bf,dx⟩:∃ bf,bf=wc:=⟨_,rfl⟩
    subst dx
    go_upto_region 9 with fail
    go_loopw [7,8] (fun s7 s8 aL=>∃ (k:Nat) (bq:Option Addr) (aB:Nat),s7=.slice bq k aB∧s8=.int .i64 k∧k≤n∧aL.ownsRow bf.heap.size 164 3 (.slice bq k aB) k (chE s k)∧Frm [] bf aL) (fun _ s8 _=>n - (intOf s8).toNat)
    case atStart=>exact⟨0,none,0,rfl,rfl,Nat.zero_le _,World.ownsRow_nil _ _ _ _,Frm.refl _ _⟩
    case round =>
     obtain⟨k,bq,aB,rfl,rfl,A,cR,cD⟩:=hrel
     have bI:=vi cR;have aA:=vi cD
     clear cR cD
     obtain⟨aL,dw⟩:∃ aL,aL=wr:=⟨_,rfl⟩
     subst dw
     obtain⟨⟨bO,dk⟩,dl⟩:=cm.out aL (bm.out.fr.trans (aA.out.mono (by simp)))
     by_cases hlk:k<n
     ·have dT:(k:Int)<(n:Int):=by omega
      have cg:=vi (p7 s.cls s.cap aL (ry bJ.out))
      obtain⟨dy,dr,b5,b6,b7⟩:=info_parts Tryz.infoRn
      go_upto_region 12 with (first
       | (go_at_call 81;go_must (refine cg.out.mono ?_;clear cg;rintro e d5 ⟨rfl,cH⟩;have bC:=vi cH;clear cH bO dk dl))
       | (refine aD rfl 164 _ _ rfl _ _ _ _ rfl rfl (heap_alloc_new _ _) rfl (by kernel_rfl) (pN ..) ?_;intro dB cB cJ;have c5:=vi cB;have bD:=vi ((bC.out.alloc _).then cJ (by intro q Y;simp at Y;subst Y;exact .inr bC.out.size));clear cB cJ))
      have ci:=vi (bD.out.owns bI.out (by simp))
      clear bC
      go_wp2_with (first
       | (refine af rfl 164 _ rfl _ rfl _ 164 c5.out _ Tryz.underlying164 rfl (by kernel_rfl) ?_)
       | (at_builtin;refine wpList_append_own_at _ rfl _ _ 162 rfl bf.heap.size 164 dy (.agg #[.int .i64 0,.int .i64 0,.slice none 0 0]) 3 40 Tryz.underlying162 dr b5 b6 b7 rfl (by decide) (.slice bq k aB) k _ rfl (ci.out.alloc _) ⟨dB.heap.size,0,none⟩ 1 1 [.int .i64 s.cls,.int .i64 s.cap,.slice none 0 0] rfl rfl (cA _ _ _) (by simp[Value.oneCell']) (by unfold maxLen;omega) (by omega) (by have:=aA.out.size;have:=bD.out.size;simp;omega) ?_;intro v' dC aT a2 _ _;obtain⟨cp,cW,rfl⟩:=an aT;have dd:=vi aT;have c8:=vi (((aA.out.trans bD.out).alloc (.cells #[.int .i64 s.cls,.int .i64 s.cap,.slice none 0 0] 164)).grown a2 (fun q Y=>.inr (aF ci.out Y)));clear aT a2))
      exact⟨⟨k+1,cp,cW,rfl,congrArg (Value.int .i64) (by omega),hlk,dd.out,c8.out⟩,by simp[intOf];omega⟩
     ·obtain rfl:n=k:=by omega
      have dq:¬ (n:Int)<(n:Int):=by omega
      obtain⟨g,d1,dK,dn,cL,cM⟩:=aZ bI.out (by omega)
      cases dn
      obtain⟨ab,ad,ai,av,br,bx,cq,bN,S,a3,a4,ba,⟨dD,cS,cT⟩,bc⟩:=bm.out.bx
      have aC:=vi S;have aN:=vi a3;have aO:=vi a4;have aW:=vi ba;have bK:=vi cS;have dh:=vi cT;have a0:=vi bc
      have da:=vi cL;have db:=vi cM
      have dI:=ae (aA.out.at S (by simp)) 2
      obtain⟨dz,cN,b5,b6,b7⟩:=info_parts Tryz.infoRc
      have dS:i<4:=by omega
      have dW:=aI dI
      clear S a3 a4 ba cS cT bc cL cM
      go_wp2_with (at_builtin;refine wpList_append_own_at _ rfl _ _ 59 rfl H.heap.size 162 dz (.slice none 0 0) 1 24 Tryz.underlying59 cN b5 b6 b7 rfl (by decide) (.slice br i bx) i dD rfl ((aA.out.alloc _).owns bK.out (by simp)) ⟨aL.heap.size,0,none⟩ 1 1 [.slice (some ⟨g,0,none⟩) n aB] rfl rfl (cA _ _ _) (by simp[Value.oneCell']) (by unfold maxLen;omega) (by omega) (by have:=bm.out.fr.size;have:=aA.out.size;simp;omega) ?_;intro v' dC aT a2 _ _;obtain⟨cp,cW,rfl⟩:=an aT;have bY:=(Kt.own ((aA.out.alloc (.cells #[.slice (some ⟨g,0,none⟩) n aB] 162)).owns bK.out (by simp)) a2).cells ((aA.out.alloc (.cells #[.slice (some ⟨g,0,none⟩) n aB] 162)).at aC.out (by simp)) (by decide);have d7:=ae bY 2;have dN:=aj bY 2;have de:=vi (fun Z=>QF.row (Z:=Z) bm.out.fr aC.out aN.out aO.out aW.out bK.out dh.out a0.out (aA.out.alloc (.cells #[.slice (some ⟨g,0,none⟩) n aB] 162)) da.out ⟨_,ah db.out⟩ (by have:=tp (i:=i) (a8.out.symm ▸ bI.out.alloc (.cells #[.slice (some ⟨g,0,none⟩) n aB] 162));rw[a8.out] at this ⊢;exact this) a2 (a8.out.symm ▸ aT));clear aT a2 bY)
      exact⟨⟨i+1,congrArg (Value.int .i64) (by omega),hlt,de.out _ rfl⟩,by simp[intOf];omega⟩
  ·obtain rfl:n=i:=by omega
   have dq:¬ (n:Int)<(n:Int):=by omega
   have cl:=vi (c4.out ay aG.out.fr)
   obtain⟨ab,ad,ai,av,br,bx,cq,bN,S,-⟩:=aG.out.bx
   have aC:=vi S
   clear S
   go_wp2_with (first
    | (refine af rfl 61 _ rfl _ rfl _ 61 aC.out _ Tryz.underlying61 rfl (by kernel_rfl) ?_)
    | (refine aP rfl 61 _ _ rfl _ _ _ _ rfl rfl cl.out rfl (by kernel_rfl) (cI ..) ?_;intro d6 N cK cO;have c6:=vi N;have c9:=vi cK;have dc:=vi cO;clear N cK cO))
   refine bodyPost_ret (eH rfl rfl c6.out rfl Tryz.underlying61 (by kernel_rfl)) rfl ⟨_,rfl,?_⟩
   exact QF.end a8.out aG.out c7.out bv (by omega) (gF bJ.out) cl.out c9.out dc.out aC.out
end Go.Proofs.YtohfkhjlnlahdaaGreat
