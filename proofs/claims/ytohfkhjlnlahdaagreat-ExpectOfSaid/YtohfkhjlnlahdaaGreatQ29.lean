/- Part of the proof. -/
import Derived.Test.YtohfkhjlnlahdaaGreatQ04
import Derived.Test.YtohfkhjlnlahdaaGreatQ17
import Derived.Test.YtohfkhjlnlahdaaGreatQ16
set_option linter.all false
namespace Go.Proofs.YtohfkhjlnlahdaaGreat
open Go.RowKit Go.BigFrame
def Agree (B:Nat) (a h:World):Prop:=∀ k,B≤k→k<a.heap.size→h.heap[k]?=a.heap[k]?
theorem Agree.refl (B:Nat) (a:World):Agree B a a:=fun _ _ _=>rfl
theorem Agree.low {B B':Nat} {h a:World} (A:Agree B h a) (hb:B≤B'):Agree B' h a:=fun k G E=>A k (by omega) E
theorem Agree.old {F:List Nat} {B:Nat} {h A a:World} (G:Agree B A a) (E:Frm F h A) (J:∀ x∈F,x<B):Agree B h a:=fun k H I=>by
 have N:=E.size
 rw[G k H (by omega)]
 exact E.block k I (fun K=>by have:=J k K;omega)
theorem Fr.stb {α:Type} {k:Nat} {e:TypeId} {At:World→Nat→Nat→α→Prop} {w w':World} {A:List α} {v:Value} (E:Fr k e At w A v w') (H:∀ (h a:World) b o x,At h b o x→a.heap[b]?=h.heap[b]?→At a b o x) :
  ∃ ao c,v=.slice ao A.length c∧∀ (h a:World),Agree w.heap.size w' h→Agree w.heap.size w' a→Arr k At a v A:=by
 obtain⟨ao,c,rfl⟩:=E.arr.shape
 refine⟨ao,c,rfl,fun _ a _ I=>?_⟩
 rcases E.own with rfl | ⟨S,R⟩
 ·exact Arr.nil _ _ _
 ·refine⟨ao,c,rfl,fun i x G=>?_⟩
  have O:A.length≠0:=by have:=ag G;omega
  obtain⟨g,cap,cur,e,N,K⟩:=aZ R O
  cases e
  obtain⟨b,o,e,J⟩:=E.arr.get G
  cases e
  exact⟨g,0,rfl,H _ _ _ _ _ J (I g N (lt_of_block K))⟩
theorem bF {a h:World} {b o:Nat} {v:Value} (A:a.cell? ⟨b,o,none⟩=some v) (e:h.heap[b]?=a.heap[b]?):h.cell? ⟨b,o,none⟩=some v:=(World.cell?_of_block (w:=a) e).trans A
theorem StAt.leaf (A h:World) (b o:Nat) (x:StD) (a:StAt A b o x) (e:h.heap[b]?=A.heap[b]?):StAt h b o x:=⟨bF a.1 e,bF a.2.1 e,bF a.2.2 e⟩
theorem CtAt.leaf (h a:World) (b o:Nat) (x:CtrD) (A:CtAt h b o x) (e:a.heap[b]?=h.heap[b]?):CtAt a b o x:=⟨bF A.1 e,bF A.2 e⟩
theorem SpAt.leaf (A h:World) (b o:Nat) (x:StpD) (a:SpAt A b o x) (e:h.heap[b]?=A.heap[b]?):SpAt h b o x:=
 ⟨bF a.c0 e,bF a.c1 e,bF a.c2 e,bF a.c3 e,bF a.c4 e,bF a.c5 e,bF a.c6 e,bF a.c7 e,bF a.c8 e⟩
def AgX (B g b:Nat) (a h:World):Prop:=∀ k,B≤k→k≠g→k≠b→k<a.heap.size→h.heap[k]?=a.heap[k]?
theorem AgX.old {B g b:Nat} {h A a:World} {F:List Nat} (G:AgX B g b A a) (E:Frm F h A) (N:∀ x∈F,x=g∨x=b):AgX B g b h a:=fun k H I J K=>by
 have R:=E.size
 rw[G k H I J (by omega)]
 exact E.block k K (fun O=>by rcases N k O with e | e <;> omega)
def OwR (B g b o:Nat) (r:RolD) (a:World):Prop:=
 ∃ E A G,a.cell? ⟨g,o,none⟩=some (.string r.name)∧a.cell? ⟨g,o+1,none⟩=some E∧a.cell? ⟨g,o+2,none⟩=some A∧a.cell? ⟨g,o+3,none⟩=some G∧∀ h,AgX B g b a h→Rl3 h E A G r
theorem RoAt.of {w:World} {v:Value} {l:List RolD} (A:Rls w v l):Arr 4 (RoAt w) w v l:=by
 obtain⟨ao,cap,e,H⟩:=A
 refine⟨ao,cap,e,fun i x G=>?_⟩
 obtain⟨b,o,h,I,a,J,E⟩:=H i x G
 exact⟨b,o,h,I,a,J,E⟩
structure OwI (w:World) (s:SesD) (b1 b2 g cap i:Nat) (W:World):Prop where
 fr:Frm [] w W
 l1:w.heap.size≤b1
 l2:w.heap.size≤b2
 lg:w.heap.size≤g
 n12:b1≠b2
 h1:W.heap[b1]?=some (.cells #[.string s.name,.slice (some ⟨g,0,none⟩) s.roles.length cap,.int .i64 s.cls,.int .i64 s.cap] 25 (0,0))
 h2:W.heap[b2]?=some (.cells #[.string { data:=#[] },.slice none 0 0,.int .i64 0,.int .i64 0] 25 (0,0))
 hg:∃ cur,W.heap[g]?=some (.cells cur 87 (0,0))
 done:∀ (j:Nat) r,j<i→s.roles[j]?=some r→OwR w.heap.size g b2 (j*4) r W
 rest:∀ (j:Nat) r,i≤j→s.roles[j]?=some r→RoAt w W g (j*4) r
theorem OwI.ne {w A:World} {s:SesD} {b1 b2 g cap i:Nat} (h:OwI w s b1 b2 g cap i A):b1≠g∧b2≠g:=by
 obtain⟨cur,a⟩:=h.hg
 refine⟨fun e=>?_,fun e=>?_⟩
 ·subst e;rw[h.h1] at a;cases a
 ·subst e;rw[h.h2] at a;cases a
structure Cl3 (w0:World) (sv cv tv:Value) (r:RolD) (W:World):Prop where
 frm:Frm [] w0 W
 sts:∀ V,Agree w0.heap.size W V→Arr 3 StAt V sv r.sts
 ctrs:∀ V,Agree w0.heap.size W V→Arr 2 CtAt V cv r.ctrs
 steps:∀ V,Agree w0.heap.size W V→Arr 9 SpAt V tv r.steps
 cap:∀ ao n c,tv=.slice ao n c→n≤c
theorem OwI.step {w G A:World} {s:SesD} {b1 b2 g cap i:Nat} (a:OwI w s b1 b2 g cap i G) {r:RolD} (al:s.roles[i]?=some r) {K H N:Value} (J:Cl3 G K H N r A) :
  OwI w s b1 b2 g cap (i+1) (((A.setCell ⟨g,i*4+1,none⟩ K).setCell ⟨g,i*4+2,none⟩ H).setCell ⟨g,i*4+3,none⟩ N):=by
 obtain⟨aA,aB⟩:=a.ne
 obtain⟨cur,R⟩:=a.hg
 have ax:=J.frm.at R (by simp)
 have ar:=ap ax (i*4+1) K
 have au:=ap ar (i*4+2) H
 have I:=ap au (i*4+3) N
 have X:Frm [g] A (((A.setCell ⟨g,i*4+1,none⟩ K).setCell ⟨g,i*4+2,none⟩ H).setCell ⟨g,i*4+3,none⟩ N):=(((Frm.refl [g] A).setCell _ (.inl (by simp)) _).setCell _ (.inl (by simp)) _).setCell _ (.inl (by simp)) _
 obtain⟨S,aw⟩:∃ S,(((A.setCell ⟨g,i*4+1,none⟩ K).setCell ⟨g,i*4+2,none⟩ H).setCell ⟨g,i*4+3,none⟩ N)=S:=⟨_,rfl⟩
 rw[aw] at I X ⊢
 have U:Frm [g] G S:=(J.frm.mono (by simp)).trans X
 have aJ:w.heap.size≤G.heap.size:=a.fr.size
 have az:=a.rest i r (Nat.le_refl _) al
 obtain⟨aK,aE,aL,an,aC,aD,aq,-⟩:=az
 rw[ae R] at an aC aD aq
 have aI:i*4+3<cur.size:=(Array.getElem?_eq_some_iff.1 aq).1
 have h:∀ o,(o≠i*4+1→o≠i*4+2→o≠i*4+3→S.cell? ⟨g,o,none⟩=G.cell? ⟨g,o,none⟩):=fun o av ak aF=>by
  rw[ae I,ae R,Array.getElem?_setIfInBounds_ne (by omega),Array.getElem?_setIfInBounds_ne (by omega),Array.getElem?_setIfInBounds_ne (by omega)]
 refine⟨a.fr.then U (by intro x am;simp at am;subst am;exact .inr a.lg),a.l1,a.l2,a.lg,a.n12,U.at a.h1 (by simpa using aA),U.at a.h2 (by simpa using aB),⟨_,I⟩,fun j V ay O=>?_,fun j V ay O=>?_⟩
 ·by_cases e:j=i
  ·subst e
   rw[al] at O;cases O
   refine⟨K,H,N,?_,?_,?_,?_,fun E Y=>?_⟩
   ·rw[h _ (by omega) (by omega) (by omega),ae R];exact an
   ·rw[ae I,Array.getElem?_setIfInBounds_ne (by omega),Array.getElem?_setIfInBounds_ne (by omega),Array.getElem?_setIfInBounds_self_of_lt (by omega)]
   ·rw[ae I,Array.getElem?_setIfInBounds_ne (by omega),Array.getElem?_setIfInBounds_self_of_lt (by simp;omega)]
   ·rw[ae I,Array.getElem?_setIfInBounds_self_of_lt (by simp;omega)]
   ·have aH:=lt_of_block R
    have aG:=lt_of_block a.h2
    have aa:Agree G.heap.size A E:=fun k av ak=>(Y.old X (by simp)) k (by omega) (by omega) (by omega) ak
    exact⟨J.sts E aa,J.ctrs E aa,J.steps E aa,J.cap⟩
  ·obtain⟨ai,W,aj,ab,ad,af,ag,ah⟩:=a.done j V (by omega) O
   refine⟨ai,W,aj,?_,?_,?_,?_,fun E Y=>?_⟩
   ·rw[h _ (by omega) (by omega) (by omega)];exact ab
   ·rw[h _ (by omega) (by omega) (by omega)];exact ad
   ·rw[h _ (by omega) (by omega) (by omega)];exact af
   ·rw[h _ (by omega) (by omega) (by omega)];exact ag
   ·exact ah E (Y.old U (by simp))
 ·obtain⟨ai,W,aj,ab,ad,af,ag,ah⟩:=a.rest j V (by omega) O
  refine⟨ai,W,aj,?_,?_,?_,?_,ah⟩
  ·rw[h _ (by omega) (by omega) (by omega)];exact ab
  ·rw[h _ (by omega) (by omega) (by omega)];exact ad
  ·rw[h _ (by omega) (by omega) (by omega)];exact af
  ·rw[h _ (by omega) (by omega) (by omega)];exact ag
theorem eH {fn:Func} {p:Tmp} {ty:TypeId} (A:fn.results=#[.cell p ty]) {tmps:Array Value} {w:World} {g:Nat} {a:Array Value} {t:TypeId} {d:TypeDesc} (H:tmps.getD p undef=.pointer (some ⟨g,0,none⟩)) (E:w.heap[g]?=some (.cells a t (0,0)))
  (h:(match d with | .struct _ | .array _ _=>true | _=>false)=true) (K:Tryz.prog.underlying ty=some d) (G:(Tryz.prog.info? ty).map (·.size)=some a.size):(results fn tmps).run Tryz.prog w=.ok (.agg a) w:=by
 have I:tmps[p]?.getD undef=.pointer (some ⟨g,0,none⟩):=by simpa using H
 have J:=run_loadVar_row w g t ty a (0,0) d E K (by cases d <;> first | rfl | (exact h) | (cases h)) G
 simp[results,A,I,asAddr,J]
structure OwTo (w:World) (s:SesD) (v:Value) (w':World):Prop where
 shape:∃ g cap,v=.agg #[.string s.name,.slice (some ⟨g,0,none⟩) s.roles.length cap,.int .i64 s.cls,.int .i64 s.cap]
 frm:Frm [] w w'
 ses:∀ V,Agree w.heap.size w' V→SesV V v s
theorem OwI.frm {w S U:World} {s:SesD} {b1 b2 g cap i:Nat} (h:OwI w s b1 b2 g cap i S) (a:Frm [] S U):OwI w s b1 b2 g cap i U:=by
 obtain⟨cur,X⟩:=h.hg
 refine⟨h.fr.trans a,h.l1,h.l2,h.lg,h.n12,a.at h.h1 (by simp),a.at h.h2 (by simp),⟨cur,a.at X (by simp)⟩,fun j r E G=>?_,fun j r E G=>?_⟩
 ·obtain⟨O,A,R,H,I,J,K,N⟩:=h.done j r E G
  exact⟨O,A,R,a.keep H,a.keep I,a.keep J,a.keep K,fun V W=>N V (W.old a (by simp))⟩
 ·obtain⟨O,A,R,H,I,J,K,N⟩:=h.rest j r E G
  exact⟨O,A,R,a.keep H,a.keep I,a.keep J,a.keep K,N⟩
theorem OwI.ses {w A I a:World} {s:SesD} {b1 b2 g cap:Nat} (h:OwI w s b1 b2 g cap s.roles.length A) (E:Frm [b2] A I) (G:Agree w.heap.size I a):SesV a (.agg #[.string s.name,.slice (some ⟨g,0,none⟩) s.roles.length cap,.int .i64 s.cls,.int .i64 s.cap]) s:=by
 refine⟨_,rfl,_,cap,rfl,fun i r H=>⟨g,0,rfl,?_⟩⟩
 obtain⟨cur,R⟩:=h.hg
 have ad:=E.size
 have S:=lt_of_block R
 have e:a.heap[g]?=A.heap[g]?:=(G g h.lg (by omega)).trans (E.block g S (by simpa using h.ne.2.symm))
 obtain⟨aa,J,ab,U,V,W,X,Y⟩:=h.done i r (ag H) H
 rw[Nat.zero_add]
 exact⟨aa,J,ab,bF U e,bF V e,bF W e,bF X e,Y a fun k K _ N O=>(G k K (by omega)).trans (E.block k O (by simpa using N))⟩
theorem Fr.cap {α:Type} {k:Nat} {e:TypeId} {At:World→Nat→Nat→α→Prop} {w w':World} {H:List α} {v:Value} (h:Fr k e At w H v w'):∀ ao n c,v=.slice ao n c→n≤c:=by
 rintro ao n c rfl
 rcases h.own with rfl | ⟨K,G⟩
 ·obtain⟨I,A,e⟩:=h.arr.shape
  cases e;exact Nat.zero_le _
 ·rcases G.2 with ⟨a,J⟩ | ⟨g,A,cur,a,-,-,E,-⟩
  ·cases a;omega
  ·cases a;exact E
theorem OwI.start {w w0 E:World} {s:SesD} {b1 b2 c0:Nat} {ao:Option Addr} {v:Value} (H:Frm [] w w0) (G:w0.heap[b1]?=some (.cells #[.string s.name,.slice ao s.roles.length c0,.int .i64 s.cls,.int .i64 s.cap] 25 (0,0)))
  (ad:w0.heap[b2]?=some (.cells #[.string { data:=#[] },.slice none 0 0,.int .i64 0,.int .i64 0] 25 (0,0))) (O:w.heap.size≤b1) (ag:w.heap.size≤b2) (K:b1≠b2) (h:Fr 4 87 (RoAt w) w0 s.roles v E) (J:1≤s.roles.length) :
  ∃ g cap,v=.slice (some ⟨g,0,none⟩) s.roles.length cap∧OwI w s b1 b2 g cap 0 (E.setCell ⟨b1,1,none⟩ v):=by
 rcases h.own with e | ⟨am,af⟩
 ·rw[e] at J;simp at J
 obtain⟨g,cap,cur,rfl,ak,ae⟩:=aZ af (by omega)
 have aa:=h.frm.at G (by simp)
 have ab:=h.frm.at ad (by simp)
 have al:=H.size
 have R:g≠b1:=fun e=>by have:=lt_of_block G;omega
 have a:Frm [b1] E (E.setCell ⟨b1,1,none⟩ (.slice (some ⟨g,0,none⟩) s.roles.length cap)):=(Frm.refl _ _).setCell _ (.inl (by simp)) _
 refine⟨g,cap,rfl,(H.trans h.frm).then a (by intro x N;simp at N;subst N;exact .inr O),O,ag,by omega,K,(ap aa 1 _).trans rfl,a.at ab (by simpa using K.symm),⟨cur,a.at ae (by simpa using R)⟩,fun j r I=>by omega,fun j r _ I=>?_⟩
 obtain⟨b,o,e,X⟩:=h.arr.get I
 cases e
 obtain⟨ai,Y,aj,S,U,V,W,ah⟩:=X
 rw[Nat.zero_add] at S U V W
 have A:g∉[b1]:=by simpa using R
 exact⟨ai,Y,aj,a.cellAt S A,a.cellAt U A,a.cellAt V A,a.cellAt W A,ah⟩
set_option maxHeartbeats 4000000 in
set_option maxRecDepth 100000 in
theorem mF (s:SesD) (v:Value) (w:World) (ap:SesV w v s) (aa:1≤s.roles.length) (bq:s.roles.length≤4) (hb:∀ r∈s.roles,r.sts.length≤1000∧r.ctrs.length≤1000∧r.steps.length≤1000):Calls Tryz.prog 112 #[v] w (aU (OwTo w s)):=by
 obtain⟨bF,rfl,h⟩:=ap
 obtain⟨ao,cap,rfl⟩:=h.shape
 obtain⟨n,ad⟩:∃ n,s.roles.length=n:=⟨_,rfl⟩
 have bh:=vi h
 have aP:Hid (Frm [] w ((w.alloc (.cells #[.string s.name,.slice ao n cap,.int .i64 s.cls,.int .i64 s.cap] 25)).alloc (.cells #[.string { data:=#[] },.slice none 0 0,.int .i64 0,.int .i64 0] 25))):=vi (((Frm.refl [] w).alloc _).alloc _)
 have aG:=vi (kL w (.slice ao s.roles.length cap) s.roles _ ((RoAt.of h).frm fun _ _ _ ap=>ap.frm aP.out) (by omega))
 have bc:=vi hb
 rw[ad] at aG bh
 rw[ad] at aa bq
 have H:=vi ad
 have aE:Hid (((w.alloc (.cells #[.string s.name,.slice ao n cap,.int .i64 s.cls,.int .i64 s.cap] 25)).alloc (.cells #[.string { data:=#[] },.slice none 0 0,.int .i64 0,.int .i64 0] 25)).heap[w.heap.size]?=some (.cells #[.string s.name,.slice ao n cap,.int .i64 s.cls,.int .i64 s.cap] 25 (0,0))):=vi (ah (heap_alloc_new _ _))
 have ba:Hid (((w.alloc (.cells #[.string s.name,.slice ao n cap,.int .i64 s.cls,.int .i64 s.cap] 25)).alloc (.cells #[.string { data:=#[] },.slice none 0 0,.int .i64 0,.int .i64 0] 25)).heap[w.heap.size+1]?=some (.cells #[.string { data:=#[] },.slice none 0 0,.int .i64 0,.int .i64 0] 25 (0,0))):=vi (aq (by simp))
 rw[ad]
 clear h ad hb
 go_enter Tryz.func112,Tryz.ntmps112
 go_wp2_with (first
  | (go_at_call 170;go_must (refine aG.out.mono ?_;rintro e bL ⟨u,rfl,h⟩;have aw:=OwI.start (b1:=w.heap.size) (b2:=w.heap.size+1) (c0:=cap) (ao:=ao) aP.out (by rw[H.out];exact aE.out) ba.out (Nat.le_refl _) (by omega) (by omega) h (by rw[H.out];exact aa);rw[H.out] at aw;obtain⟨g,al,rfl,K⟩:=aw;have bg:=vi K;have b1:=h.frm.at aE.out (by simp);have bo:=ae b1 1;have bp:=aj b1 1;have aZ:=ae K.h1 1;rw[H.out] at aZ;clear h b1 K)))
 go_loopw [12] (fun s12 wr=>∃ i:Nat,s12=.int .i64 i∧i≤n∧OwI w s w.heap.size (w.heap.size+1) g al i wr) (fun s12 _=>n - (intOf s12).toNat)
 case atStart=>exact⟨0,rfl,Nat.zero_le _,bg.out⟩
 case round =>
  obtain⟨i,rfl,aw,a3⟩:=hrel
  have N:=vi a3
  clear a3 bo bp aZ
  by_cases hlt:i<n
  ·have bE:(i:Int)<(n:Int):=by omega
   obtain⟨r,h⟩:∃ r,s.roles[i]?=some r:=⟨_,List.getElem?_eq_getElem (by rw[H.out];exact hlt)⟩
   obtain⟨bG,bA,bH,a6,a7,a8,a9,I⟩:=N.out.rest i r (Nat.le_refl _) h
   have aT:=vi h;have bz:=vi I
   have aY:=ae N.out.h1 1
   rw[H.out] at aY
   have bD:=aI a6
   have bs:=bc.out r (List.mem_of_getElem? h)
   obtain⟨U,X,rfl⟩:=I.sts.shape
   obtain⟨S,W,rfl⟩:=I.ctrs.shape
   obtain⟨V,Y,rfl⟩:=I.steps.shape
   have aH:Hid (∀ a,Frm [] w a→Calls Tryz.prog 171 #[.slice U r.sts.length X] a (aU (Fr 3 206 StAt a r.sts))):=vi fun a A=>lX _ r.sts a ((I.frm A).sts) (by omega)
   have aF:Hid (∀ a,Frm [] w a→Calls Tryz.prog 172 #[.slice S r.ctrs.length W] a (aU (Fr 2 244 CtAt a r.ctrs))):=vi fun a A=>pU _ r.ctrs a ((I.frm A).ctrs) (by omega)
   have aJ:Hid (∀ a,Frm [] w a→Calls Tryz.prog 173 #[.slice V r.steps.length Y] a (aU (Fr 9 137 SpAt a r.steps))):=vi fun a A=>jh _ r.steps a ((I.frm A).steps) (by omega)
   clear h I bs
   obtain⟨ag,ay⟩:∃ m,r.sts.length=m:=⟨_,rfl⟩
   obtain⟨af,ax⟩:∃ m,r.ctrs.length=m:=⟨_,rfl⟩
   obtain⟨ai,az⟩:∃ m,r.steps.length=m:=⟨_,rfl⟩
   have aR:=vi ay;have aQ:=vi ax;have aS:=vi az
   rw[ay] at aH a7
   rw[ax] at aF a8
   rw[az] at aJ a9
   clear ay ax az
   go_upto_region 5 with fail
   obtain⟨G,am⟩:∃ G,wr.alloc (.cells #[.string r.name,.slice U ag X,.slice S af W,.slice V ai Y] 87)=G:=⟨_,rfl⟩
   have av:Frm [] wr G:=by rw[← am];exact(Frm.refl _ _).alloc _
   have a4:G.heap[wr.heap.size]?=some (.cells #[.string r.name,.slice U ag X,.slice S af W,.slice V ai Y] 87 (0,0)):=by rw[← am];exact heap_alloc_new _ _
   rw[am]
   have bx:=vi av
   have O:=vi (N.out.frm av)
   have J:Hid (∀ a,Frm [g] G a→a.cell? ⟨w.heap.size,1,none⟩=some (.slice (some ⟨g,0,none⟩) n al)∧a.cell? ⟨wr.heap.size,1,none⟩=some (.slice U ag X)∧a.cell? ⟨wr.heap.size,2,none⟩=some (.slice S af W)∧a.cell? ⟨wr.heap.size,3,none⟩=some (.slice V ai Y)):=vi fun a A=>by
    have bw:=O.out.ne.1
    have aa:=A.at O.out.h1 (by simpa using bw)
    rw[H.out] at aa
    have ar:=A.at a4 (by simp;omega)
    exact⟨ae aa 1,ae ar 1,ae ar 2,ae ar 3⟩
   clear av a4 am a6 a7 a8 a9 aY
   go_region_held3 (fun a=>a.cell? ⟨w.heap.size,1,none⟩=some (.slice (some ⟨g,0,none⟩) n al)∧a.cell? ⟨wr.heap.size,1,none⟩=some (.slice U ag X)∧a.cell? ⟨wr.heap.size,2,none⟩=some (.slice S af W)∧a.cell? ⟨wr.heap.size,3,none⟩=some (.slice V ai Y))
    (first
     | exact J.out _ ((Frm.refl [g] G).drew)
     | exact J.out _ aM.out
     | exact J.out _ aN.out
     | exact J.out _ ak.out
     | exact J.out _ (ak.out.setCell _ (.inl (by simp)) _)
     | exact J.out _ ((ak.out.setCell _ (.inl (by simp)) _).setCell _ (.inl (by simp)) _)
     | exact J.out _ (((ak.out.setCell _ (.inl (by simp)) _).setCell _ (.inl (by simp)) _).setCell _ (.inl (by simp)) _))
    (first
     | (go_at_call 171;go_must (refine(aH.out _ (O.out.fr.drew)).mono ?_;rintro e aA ⟨u,rfl,h⟩;have aM:Hid (Frm [g] G aA):=vi (((Frm.refl [g] G).drew).trans (h.frm.mono (by simp)));have aO:Hid (Frm [] w aA):=vi (O.out.fr.drew.trans h.frm);have aV:Hid (Frm [] G aA):=vi ((Frm.refl [] G).drew.trans h.frm);have E:=h.stb StAt.leaf;rw[aR.out] at E;obtain⟨bl,bt,rfl,E⟩:=E;have bi:=vi E;clear E h))
     | (go_at_call 172;go_must (refine(aF.out _ aO.out).mono ?_;rintro e aB ⟨u,rfl,h⟩;have aN:Hid (Frm [g] G aB):=vi (aM.out.trans (h.frm.mono (by simp)));have bb:Hid (Frm [] w aB):=vi (aO.out.trans h.frm);have aK:=vi h.frm;have aW:Hid (Frm [] G aB):=vi (aV.out.trans h.frm);have E:=h.stb CtAt.leaf;rw[aQ.out] at E;obtain⟨bm,bu,rfl,E⟩:=E;have bj:=vi E;clear E h))
     | (go_at_call 173;go_must (refine(aJ.out _ bb.out).mono ?_;rintro e aC ⟨u,rfl,h⟩;have ak:Hid (Frm [g] G aC):=vi (aN.out.trans (h.frm.mono (by simp)));have aL:=vi h.frm;have aX:Hid (Frm [] G aC):=vi (aW.out.trans h.frm);have au:=O.out.frm aX.out;obtain⟨bI,bJ,bK,-,bU,bV,bW,-⟩:=au.rest i r (Nat.le_refl _) aT.out;obtain⟨cur,an⟩:=au.hg;have bR:=aj an (i*4+1);have bS:=aj an (i*4+2);have bT:=aj an (i*4+3);clear an au;have a1:=h.cap;have bf:=vi a1;clear a1;have E:=h.stb SpAt.leaf;rw[aS.out] at E;obtain⟨bn,bv,rfl,E⟩:=E;have bk:=vi E;clear E h)))
   have be:Hid (Cl3 G (.slice bl ag bt) (.slice bm af bu) (.slice bn ai bv) r aC):=vi (by
    have s5:=aV.out.size;have s6:=aW.out.size;have bB:=aK.out.size
    have a0:=aK.out.trans aL.out
    refine⟨aX.out,fun a A=>?_,fun a A=>?_,fun a A=>?_,bf.out⟩
    ·have:=bi.out a a (A.old a0 (by simp)) (A.old a0 (by simp))
     rw[← aR.out] at this ⊢;exact this
    ·have ab:=(A.old aL.out (by simp)).low s5
     have:=bj.out a a ab ab
     rw[← aQ.out] at this ⊢;exact this
    ·have ab:=A.low s6
     have:=bk.out a a ab ab
     rw[← aS.out] at this ⊢;exact this)
   go_wp2
   exact⟨⟨i+1,congrArg (Value.int .i64) (by omega),hlt,O.out.step aT.out be.out⟩,by simp[intOf];omega⟩
  ·obtain rfl:i=n:=by omega
   have bC:¬ (i:Int)<(i:Int):=by omega
   have R:=N.out.h1
   rw[H.out] at R
   have bd:=vi N.out.h2
   have bN:=ae R 0
   have bO:=ae R 1
   have bP:=ae R 2
   have bQ:=ae R 3
   clear R
   go_wp2_with (first
    | (refine aD rfl 25 _ _ rfl _ _ _ 25 rfl rfl bd.out rfl (by kernel_rfl) (by simp[Value.oneCell']) ?_;intro bM br a2))
   refine bodyPost_ret (eH (d:=_) (Tryz.results112) rfl br rfl Tryz.underlying25 (by kernel_rfl)) rfl ⟨_,rfl,?_⟩
   have K:=N.out
   rw[← H.out] at K
   exact⟨⟨g,al,by rw[H.out]⟩,K.fr.then a2 (by intro x a5;simp at a5;subst a5;right;omega),fun a A=>by have:=K.ses a2 A;rwa [H.out] at this⟩
end Go.Proofs.YtohfkhjlnlahdaaGreat
