/- Part of the proof. -/
import Derived.Test.YtohfkhjlnlahdaaGreatQ04
import Derived.Test.YtohfkhjlnlahdaaGreatQ32
import Derived.Test.YtohfkhjlnlahdaaGreatQ33
import Derived.Test.YtohfkhjlnlahdaaGreatQ34
import Derived.Test.YtohfkhjlnlahdaaGreatQ25
set_option linter.all false
namespace Go.Proofs.YtohfkhjlnlahdaaGreat
open Go.RowKit Go.BigFrame
theorem ig {α:Type} {k:Nat} {At:World→Nat→Nat→α→Prop} {t e:TypeId} {z:Value} {bytes:Nat} {o:Oper} {A:Act} {G:Act→World→Prop} {Q:Exit→Act→World→Prop} {w:World} (s x:Operand)
  (U:o.op=.call { callee:=.builtin .append,args:=#[s,x],argTypes:=#[t,t] }) {d:Nat} (W:A.eval s=.slice (some ⟨d,0,none⟩) 0 0) {ao:Option Addr} {n cap:Nat} (Y:A.eval x=.slice ao n cap)
  (X:Tryz.prog.underlying t=some (.slice e)) (N:(Tryz.prog.info? e).map (fun i=>(i.zero,i.size,i.bytes))=some (some z,k,bytes)) (aa:z.cells.size=k) (O:0<k) (hb:bytes≤1000) (J:cL k At) {E:List α} (S:E.length=n)
  (H:Arr k At w (.slice ao n cap) E) (R:n≤100000) (K:w.heap[d]?=some (.cells #[] e (0,0)))
  (I:∀ a h w',Arr k At w' (.slice a n h) E→Frm [] w w'→(∃ ab,w'.ownsRow d e k (.slice a n h) n ab)→G (A.put o.dst (.slice a n h)) w'):Oper.wp Tryz.prog o A w G Q:=by
 subst S
 obtain⟨a,h,w',V,ad,ae,af⟩:=pV (ty:=o.type) (d:=d) X N aa O hb J H R K
 unfold Oper.wp
 simp[execOp,U,resolve,invoke,builtin,W,Y,V,Result.andThen]
 exact I a h w' ad ae af
structure FrR {α:Type} (k:Nat) (e:TypeId) (At:World→Nat→Nat→α→Prop) (B:Nat) (n:Nat) (xs:List α) (v:Value) (X:World):Prop where
 arr:Arr k At X v xs
 own:∃ news,X.ownsRow B e k v n news
theorem FrR.frm {α:Type} {k:Nat} {e:TypeId} {At:World→Nat→Nat→α→Prop} {B n:Nat} {E:List α} {v:Value} {a h:World} (A:FrR k e At B n E v a) (G:∀ b o y,At a b o y→At h b o y) (H:Frm [] a h):FrR k e At B n E v h:=by
 obtain⟨J,I⟩:=A.own
 exact⟨A.arr.frm fun b o y=>G b o y,J,H.owns I (by simp)⟩
theorem FrR.kt {α:Type} {k:Nat} {e:TypeId} {At:World→Nat→Nat→α→Prop} {B n:Nat} {J:List α} {v:Value} {a h:World} {T:List TypeId} (A:FrR k e At B n J v a) (K:∀ b o y,v.ownBlock=some b→h.heap[b]?=a.heap[b]?→At a b o y→At h b o y) (H:Kt T a h) (G:e∉T):FrR k e At B n J v h:=by
 obtain⟨S,I⟩:=A.own
 refine⟨?_,S,H.row I G⟩
 obtain⟨ao,c,rfl,O⟩:=A.arr
 refine⟨ao,c,rfl,fun i y R=>?_⟩
 obtain⟨b,o,rfl,N⟩:=O i y R
 obtain⟨cur,E⟩:=ak I rfl
 exact⟨b,o,rfl,K _ _ _ rfl ((H.cells E G).trans E.symm) N⟩
theorem Tryz.infoRc:(Tryz.prog.info? 162).map (fun i=>(i.zero,i.size,i.bytes))=some (some (.slice none 0 0),1,24):=by kernel_rfl
theorem iA:∀ (a:List Value) (o:Nat) (w:World) (b:Nat) (c:Array Value) (t:TypeId),w.heap[b]?=some (.cells c t (0,0))→Kt [t] w (w.setCells b o a)
 | [],_,w,_,_,t,_=>Kt.refl [t] w
 | v :: a,o,w,b,c,t,h=>((Kt.refl [t] w).set h (by simp) v).trans (iA a (o+1) (w.setCell ⟨b,o,none⟩ v) b _ t (ap h o v))
theorem aP {P:Program} {E:Array Oper} {rest:List Oper} {o:Oper} {h:Act} {Q:Exit→Act→World→Prop} {w:World} (I:o.guard=none) (ty:TypeId) (x y:Operand) (K:o.op=.store ty x y) (b:Nat) (a C:Array Value) (t:TypeId) (O:h.eval x=.pointer (some ⟨b,0,none⟩)) (R:h.eval y=.agg a)
  (hb:w.heap[b]?=some (.cells C t (0,0))) (N:a.size=C.size) (J:(P.info? ty).map (·.size)=some a.size) (H:a.all (·.oneCell')=true)
  (G:∀ w',w'.heap[b]?=some (.cells a t (0,0))→Frm [b] w w'→Kt [t] w w'→wpList P E Q rest (h.put o.dst undef) w'):wpList P E Q (o :: rest) h w:=by
 have A:=dI hb a N
 refine wpList_store_mid I ty x y K b 0 a O R (fun j S=>⟨?_,?_⟩) J H (G _ A.1 A.2 (iA _ _ _ _ _ _ hb))
 ·rw[Nat.zero_add,ae hb];simp[show j<C.size by omega]
 ·rw[Nat.zero_add];exact aj hb j
theorem cI (a b c:Option Addr) (n m l p q r:Nat):(#[.slice a n p,.slice b m q,.slice c l r]:Array Value).all (·.oneCell')=true:=by
 rw[← Array.all_toList];rfl
structure QC (w W0:World) (s:SesD) (x:PS) (ob:Nat) (A Bv:Value) (i:Nat) (W:World):Prop where
 fr:Frm [] W0 W
 lo:W0.heap.size≤ob
 a:FrR 1 3 IAt W0.heap.size s.roles.length (kY s x) A W
 b:FrR 2 159 (RbAt w) W0.heap.size s.roles.length (jx s x) Bv W
 bx:∃ aw cw bi,W.heap[ob]?=some (.cells #[A,Bv,.slice aw i cw] 61 (0,0))∧WyR W0.heap.size i s.roles.length bi (.slice aw i cw) W∧RW W0.heap.size s x i bi W
theorem IAt.eq {a h:World} {b o:Nat} {y:Int} (A:IAt a b o y) (e:h.heap[b]?=a.heap[b]?):IAt h b o y:=bF A e
theorem RbAt.eq {w a h:World} {b o:Nat} {y:List CtrD × List Int} (E:RbAt w a b o y) (e:h.heap[b]?=a.heap[b]?):RbAt w h b o y:=by
 obtain⟨A,J,G,H,I⟩:=E
 exact⟨A,J,bF G e,bF H e,I⟩
theorem QC.start {w A a H:World} {s:SesD} {x:PS} {h:Nat} {E G:Value} (V:Frm [] A a) (R:A.heap.size≤h) (U:FrR 1 3 IAt A.heap.size s.roles.length (kY s x) E a) (hb:FrR 2 159 (RbAt w) A.heap.size s.roles.length (jx s x) G a)
  (K:a.heap[h]?=some (.cells #[.slice none 0 0,.slice none 0 0,.slice none 0 0] 61 (0,0))) (e:((a.setCell ⟨h,0,none⟩ E).setCell ⟨h,1,none⟩ G).setCell ⟨h,2,none⟩ (.slice none 0 0)=H):QC w A s x h E G 0 H:=by
 have b1:=ap K 0 E
 have b2:=ap b1 1 G
 have J:=ap b2 2 (.slice none 0 0)
 have S:Frm [h] a H:=by rw[← e];exact((bG a _ _ _).trans (bG _ _ _ _)).trans (bG _ _ _ _)
 have N:Kt [61] a H:=by rw[← e];exact(((Kt.refl _ a).set K (by simp) _).set b1 (by simp) _).set b2 (by simp) _
 rw[e] at J
 exact⟨V.then S (by intro k O;simp at O;subst O;exact .inr R),R,U.kt (fun _ _ _ _ e I=>I.eq e) N (by decide),hb.kt (fun _ _ _ _ e I=>I.eq e) N (by decide),none,0,fun _=>0,J,⟨[],World.ownsRow_nil _ _ _ _,fun j W=>by omega⟩,RW.zero _ _ _ _ _⟩
theorem RcAt.up {cls cap:Int} {w a h:World} {b o:Nat} {L:List ByteArray} (A:RcAt cls cap w h b o L) (J:Frm [] w a):RcAt cls cap a h b o L:=by
 obtain⟨K,E,G,H,I⟩:=A
 exact⟨K,E,G,H,I.frm J (by simp)⟩
theorem RcAt.eq {cls cap:Int} {w a h:World} {b o:Nat} {L:List ByteArray} (A:RcAt cls cap w a b o L) (e:h.heap[b]?=a.heap[b]?):RcAt cls cap w h b o L:=by
 obtain⟨J,E,G,H,I⟩:=A
 exact⟨J,bF E e,bF G e,bF H e,I⟩
theorem RbAt.up {w a h:World} {b o:Nat} {y:List CtrD × List Int} (G:RbAt w h b o y) (A:Frm [] w a):RbAt a h b o y:=by
 obtain⟨E,N,H,I,J,K⟩:=G
 exact⟨E,N,H,I,J.frm A (by simp),K.frm A (by simp)⟩
theorem QC.step {w h E G A Z:World} {s:SesD} {x:PS} {I i g c:Nat} {K N v':Value} {O:Option Addr} {R:Nat} {X:Nat→Nat} {W:List Value} (a:QC w h s x I K N i E) (az:Frm [] w h)
  (av:E.heap[I]?=some (.cells #[K,N,.slice O i R] 61 (0,0))) (V:E.ownsRow h.heap.size 162 1 (.slice O i R) i W) (aA:∀ j,j<i→∃ c,W[j]?=some (.slice (some ⟨X j,0,none⟩) s.roles.length c)) (aj:RW h.heap.size s x i X E)
  (H:Frm [] E G) (aw:E.heap.size≤g) (ak:Ty G g 164) (ay:Arr 3 (RcAt s.cls s.cap w) G (.slice (some ⟨g,0,none⟩) s.roles.length c) (jo s x i)) (af:G.grownBy A (Value.slice O i R).ownBlock)
  (ai:A.ownsRow h.heap.size 162 1 v' (i+1) (W++[.slice (some ⟨g,0,none⟩) s.roles.length c])) (e:A.setCell ⟨I,2,none⟩ v'=Z):QC w h s x I K N (i+1) Z:=by
 obtain⟨a',Y,rfl⟩:=an ai
 have aq:=H.at av (by simp)
 have ag:Kt [162] G A:=Kt.own (H.owns V (by simp)) af
 have ab:=ag.cells aq (by decide)
 have b1:=ap ab 2 (.slice a' (i+1) Y)
 have ah:Kt [61] A Z:=by rw[← e];exact(Kt.refl _ A).set ab (by simp) _
 have U:Kt [61,162] G Z:=(ag.mono (by simp)).trans (ah.mono (by simp))
 have S:Kt [61,162] E Z:=(Kt.frm H).trans U
 have am:Frm [I] A Z:=by rw[← e];exact bG _ _ _ _
 rw[e] at b1
 have ar:Frm [] h A:=(a.fr.trans H).grown af (fun k J=>.inr (aF V J))
 have ad:Frm [] h Z:=ar.then am (by intro k J;simp at J;subst J;exact .inr a.lo)
 have aE:=(a.fr.trans H).size
 refine⟨ad,a.lo,a.a.kt (fun _ _ _ _ e a=>a.eq e) S (by decide),a.b.kt (fun _ _ _ _ e a=>a.eq e) S (by decide),a',Y,_,b1,(WyR.add V aA ai).kt ah (by decide),(aj.kt S (by decide) (by decide)).add (n:=s.roles.length) (c:=c) (U.ty ak (by decide)) (Nat.le_trans a.fr.size aw) (fun j ax e=>by have:=(aj.ti j ax).1.lt;omega) ?_⟩
 obtain⟨ao,aD,al,aB⟩:=ay
 injection al with e2 e3 e4
 refine⟨_,_,congrArg (fun n=>Value.slice _ n _) e3,fun k y aC=>?_⟩
 obtain⟨b,o,aa,au⟩:=aB k y aC
 rw[← e2] at aa
 cases aa
 obtain⟨cur,ae⟩:=ak
 exact⟨g,0,rfl,(au.eq ((U.cells ae (by decide)).trans ae.symm)).up (az.trans ad)⟩
theorem QC.end {w H A Z:World} {s:SesD} {x:PS} {U rb:Nat} {E G:Value} {I:Option Addr} {J:Nat} {C:Array Value} (h:QC w H s x U E G s.roles.length A) (N:Frm [] w H) (ai:0<s.roles.length) (ak:PSok s x) (af:A.heap[U]?=some (.cells #[E,G,.slice I s.roles.length J] 61 (0,0)))
  (aB:A.heap[rb]?=some (.cells C 61 (0,0))) (al:w.heap.size≤rb) (ag:Frm [rb] A Z) (a:Kt [61] A Z):RSt w.heap.size Z s (.agg #[E,G,.slice I s.roles.length J]) x∧Frm [] w Z:=by
 have S:Frm [] w Z:=(N.trans h.fr).then ag (by intro k a;simp at a;subst a;exact .inr al)
 refine⟨?_,S⟩
 obtain⟨W,Y,au,b1,b2,X⟩:=h.bx
 rw[af] at b1
 injection b1 with b1
 injection b1 with b1
 have b1:Value.slice I s.roles.length J=Value.slice W s.roles.length Y:=by injection (congrArg Array.toList b1) with _ b1;injection b1 with _ b1;injection b1
 rw[← b1] at b2
 have O:=h.a.kt (fun _ _ _ _ e h=>h.eq e) a (by decide)
 have K:=h.b.kt (fun _ _ _ _ e h=>h.eq e) a (by decide)
 obtain⟨aC,ap⟩:=O.own
 obtain⟨aD,aq⟩:=K.own
 obtain⟨az,av,aw,rfl,aa,ab⟩:=aZ ap (by omega)
 obtain⟨aA,cb,ax,rfl,ad,ae⟩:=aZ aq (by omega)
 refine(RSt.mk' (B:=H.heap.size) ai ak O.arr (fun k a=>?_) ⟨_,_,rfl⟩ (K.arr.imp fun _ _ _ h=>h.up S) (fun k a=>?_) ⟨_,_,rfl⟩ (b2.kt a (by decide)) (X.kt a (by decide) (by decide)) ?_).low N.size
 ·simp[Value.ownBlock] at a;subst a;exact⟨aa,_,ab⟩
 ·simp[Value.ownBlock] at a;subst a;exact⟨ad,_,ae⟩
 ·intro i b o aG ah hb aj am k a R
  simp[Value.ownBlock] at hb R
  subst hb aj R
  have an:(jx s x)[i]?=some ((s.rol i).ctrs,x.bank i):=by unfold jx;rw[List.getElem?_map,List.getElem?_range ah];rfl
  obtain⟨b,o,e,ay,aH,aE,V,aF,ar⟩:=K.arr.get an
  cases e
  rw[Nat.zero_add,am] at V
  cases V
  have:=bV ar a
  have:=N.size
  omega
set_option maxHeartbeats 16000000 in
set_option maxRecDepth 100000 in
theorem dX (s:SesD) (v:Value) (x:PS) (B:Nat) (w:World) (h:RSt B w s v x) (a7:1≤s.roles.length) (K:s.roles.length≤4):Calls Tryz.prog 84 #[v] w (aU fun u w'=>RSt w.heap.size w' s u x∧Frm [] w w'):=by
 have bI:=h.ok
 obtain⟨bz,bA,ab,a4,a6,cb,aH,rfl,ar,-⟩:=h.out
 obtain⟨n,aa⟩:∃ n,s.roles.length=n:=⟨_,rfl⟩
 obtain⟨J,ay⟩:∃ J,(w.alloc (.cells #[.slice (some ⟨bz,0,none⟩) s.roles.length a6,.slice (some ⟨bA,0,none⟩) s.roles.length cb,.slice (some ⟨ab,0,none⟩) s.roles.length aH] 61)).alloc (.cells #[.slice none 0 0,.slice none 0 0,.slice none 0 0] 61)=J:=⟨_,rfl⟩
 have ai:Hid (Frm [] w J):=vi (by rw[← ay];exact((Frm.refl _ _).alloc _).alloc _)
 have aN:J.heap[w.heap.size]?=some (.cells #[.slice (some ⟨bz,0,none⟩) s.roles.length a6,.slice (some ⟨bA,0,none⟩) s.roles.length cb,.slice (some ⟨ab,0,none⟩) s.roles.length aH] 61 (0,0)):=by rw[← ay];exact ah (heap_alloc_new _ _)
 have bY:Hid (J.heap[w.heap.size+1]?=some (.cells #[.slice none 0 0,.slice none 0 0,.slice none 0 0] 61 (0,0))):=vi (by rw[← ay];exact aq (by simp))
 have bl:=ar.posA a6;have ba:=ar.bnkA cb
 have b5:Hid (∀ i,i<n→∃ c,w.cell? ⟨ab,i,none⟩=some (.slice (some ⟨a4 i,0,none⟩) n c)):=vi (by rw[← aa];exact ar.w)
 have aD:∀ i c,i<n→Arr 3 (RcAt s.cls s.cap w) w (.slice (some ⟨a4 i,0,none⟩) n c) (jo s x i):=fun i c bf=>by rw[← aa] at bf ⊢;exact ar.rowA bf c
 have bZ:=vi aD
 rw[aa] at a7 K aN bl ba
 have aV:=vi aN;have bv:=vi bl;have bq:=vi ba
 have X:=vi aa;have aW:=vi ay;have cw:=vi ar;have bX:=vi bI
 have bu:Hid ((kY s x).length=n):=vi (by rw[jp,aa])
 have bt:Hid ((jx s x).length=n):=vi (by rw[jq,aa])
 rw[aa]
 rw[aa] at aW
 have cN:w.heap.size<J.heap.size:=lt_of_block aN
 clear h ar aN bl ba aD aa ay bI
 go_enter Tryz.func84,Tryz.ntmps84
 go_upto_region 1 with fail
 rw[aW.out]
 clear aW
 go_cut [3] (fun s3 wc=>∃ (ro:Nat) (a2 a3:Option Addr) (bn bo:Nat),s3=.pointer (some ⟨ro,0,none⟩)∧QC w J s x ro (.slice a2 n bn) (.slice a3 n bo) 0 wc)
 case first =>
  refine bH [] (fk 10) (by kernel_rfl) ?_
  refine cnt 1 ?_
  iterate 2
   refine hcL ?_ ?_ ?_
   rotate_left
   ·intro w' N
    have ag:=(Frm.refl [] J).drew.trans N |>.at aV.out (by simp)
    have cu:=ae ag 0
    have cv:=ae ag 1
    clear ag
    clear N
    go_simp
    try rfl
   try simp only[nrm,Nat.reduceAdd]
  refine tcn ?_
  refine cnt 5 ?_
  iterate 2
   refine hcL ?_ ?_ ?_
   rotate_left
   ·intro w' N
    have ag:=(Frm.refl [] J).drew.trans N |>.at aV.out (by simp)
    have cu:=ae ag 0
    have cv:=ae ag 1
    clear ag
    clear N
    go_simp
    try rfl
   try simp only[nrm,Nat.reduceAdd]
  refine tcn ?_
  have I:Frm [] J J.drew:=(Frm.refl _ _).drew
  generalize J.drew=E at I ⊢
  repeat' (first
   | (refine htL 8 ?_ ?_ ?_ (hb:=by decide +kernel);rotate_left;(focus (intro w' N;clear N;go_simp;try rfl));try simp only[nrm])
   | refine aJ (rs:=[3,4,9]) (by decide +kernel) (by simp) (aE ?_ (aE ?_ (aE ?_ aM)))
   | refine aJ (rs:=[0,4,9]) (by decide +kernel) (by simp) (aE ?_ (aE ?_ (aE ?_ aM)))
   | refine aJ (rs:=[0,4]) (by decide +kernel) (by simp) (aE ?_ (aE ?_ aM))
   | refine aJ (rs:=[3,4]) (by decide +kernel) (by simp) (aE ?_ (aE ?_ aM))
   | refine aJ (rs:=[4,9]) (by decide +kernel) (by simp) (aE ?_ (aE ?_ aM))
   | refine aJ (rs:=[0,9]) (by decide +kernel) (by simp) (aE ?_ (aE ?_ aM))
   | refine aJ (rs:=[7,9]) (by decide +kernel) (by simp) (aE ?_ (aE ?_ aM))
   | refine aJ (rs:=[3,9]) (by decide +kernel) (by simp) (aE ?_ (aE ?_ aM))
   | refine aJ (rs:=[4]) (by decide +kernel) (by simp) (aE ?_ aM)
   | refine aJ (rs:=[7]) (by decide +kernel) (by simp) (aE ?_ aM)
   | refine aJ (rs:=[0]) (by decide +kernel) (by simp) (aE ?_ aM)
   | refine aJ (rs:=[3]) (by decide +kernel) (by simp) (aE ?_ aM)
   | refine aJ (rs:=[9]) (by decide +kernel) (by simp) (aE ?_ aM)
   | (refine ax (i:=0) rfl rfl (by rfl) (fun H A=>?_)
      go_simp
      refine A.out _ _ ((Frm.refl _ _).alloc _) ?_
      clear A H
      try simp only[nrm]
      have bg:=I.size
      have O:=heap_alloc_new E (.cells #[] 3)
      have a:Frm [] E (E.alloc (.cells #[] 3)):=(Frm.refl _ _).alloc _
      generalize E.alloc (.cells #[] 3)=W at O a ⊢
      generalize E.heap.size=ra at bg O ⊢
      try replace O:=a.at O (by simp)
      try replace K:=a.at K (by simp)
      try replace G:=a.at G (by simp)
      try replace U:=U.frm (fun _ _ _ h=>a.keep h) a
      try replace V:=V.frm (fun _ _ _ h=>RbAt.frm h a) a
      replace I:=I.trans a
      clear a
      obtain⟨E,e⟩:∃ q,q=W:=⟨_,rfl⟩
      subst e)
   | (refine ax (i:=4) rfl rfl (by rfl) (fun H A=>?_)
      go_simp
      refine A.out _ _ ((Frm.refl _ _).alloc _) ?_
      clear A H
      try simp only[nrm]
      have bh:=I.size
      have K:=heap_alloc_new E (.cells #[] 159)
      have a:Frm [] E (E.alloc (.cells #[] 159)):=(Frm.refl _ _).alloc _
      generalize E.alloc (.cells #[] 159)=W at K a ⊢
      generalize E.heap.size=rb at bh K ⊢
      try replace O:=a.at O (by simp)
      try replace K:=a.at K (by simp)
      try replace G:=a.at G (by simp)
      try replace U:=U.frm (fun _ _ _ h=>a.keep h) a
      try replace V:=V.frm (fun _ _ _ h=>RbAt.frm h a) a
      replace I:=I.trans a
      clear a
      obtain⟨E,e⟩:∃ q,q=W:=⟨_,rfl⟩
      subst e)
   | (refine ax (i:=9) rfl rfl (by rfl) (fun H A=>?_)
      go_simp
      refine A.out _ _ ((Frm.refl _ _).alloc _) ?_
      clear A H
      try simp only[nrm]
      have bi:=I.size
      have G:=heap_alloc_new E (.cells #[.slice none 0 0,.slice none 0 0,.slice none 0 0] 61)
      have a:Frm [] E (E.alloc (.cells #[.slice none 0 0,.slice none 0 0,.slice none 0 0] 61)):=(Frm.refl _ _).alloc _
      generalize E.alloc (.cells #[.slice none 0 0,.slice none 0 0,.slice none 0 0] 61)=W at G a ⊢
      generalize E.heap.size=ro at bi G ⊢
      try replace O:=a.at O (by simp)
      try replace K:=a.at K (by simp)
      try replace G:=a.at G (by simp)
      try replace U:=U.frm (fun _ _ _ h=>a.keep h) a
      try replace V:=V.frm (fun _ _ _ h=>RbAt.frm h a) a
      replace I:=I.trans a
      clear a
      obtain⟨E,e⟩:∃ q,q=W:=⟨_,rfl⟩
      subst e)
   | (refine ax (i:=3) rfl rfl (by rfl) (fun H A=>?_)
      refine ig (k:=1) (At:=IAt) (t:=57) (e:=3) (z:=.int .i64 0) (bytes:=8) _ _ rfl rfl rfl Tryz.underlying57 (by kernel_rfl) rfl (by decide) (by decide) IAt.mov bu.out (bv.out.frm fun _ _ _ h=>(ai.out.trans I).keep h) (by omega) O ?_
      intro b7 ca W aC a aA
      have U:FrR 1 3 IAt J.heap.size n _ (.slice b7 n ca) W:=⟨aC,aA.imp fun _ h=>df h bg⟩
      clear aC aA
      refine A.out _ _ a ?_
      clear A H
      try simp only[nrm]
      try replace O:=a.at O (by simp)
      try replace K:=a.at K (by simp)
      try replace G:=a.at G (by simp)
      try replace U:=U.frm (fun _ _ _ h=>a.keep h) a
      try replace V:=V.frm (fun _ _ _ h=>RbAt.frm h a) a
      replace I:=I.trans a
      clear a
      obtain⟨E,e⟩:∃ q,q=W:=⟨_,rfl⟩
      subst e)
   | (refine ax (i:=7) rfl rfl (by rfl) (fun H A=>?_)
      refine ig (k:=2) (At:=RbAt w) (t:=58) (e:=159) (z:=.agg #[.slice none 0 0,.slice none 0 0]) (bytes:=48) _ _ rfl rfl rfl Tryz.underlying58 (by kernel_rfl) rfl (by decide) (by decide) (RbAt.mov w) bt.out (bq.out.frm fun _ _ _ h=>RbAt.frm h (ai.out.trans I)) (by omega) K ?_
      intro b8 cc W aC a aA
      have V:FrR 2 159 (RbAt w) J.heap.size n _ (.slice b8 n cc) W:=⟨aC,aA.imp fun _ h=>df h bh⟩
      clear aC aA
      refine A.out _ _ a ?_
      clear A H
      try simp only[nrm]
      try replace O:=a.at O (by simp)
      try replace K:=a.at K (by simp)
      try replace G:=a.at G (by simp)
      try replace U:=U.frm (fun _ _ _ h=>a.keep h) a
      try replace V:=V.frm (fun _ _ _ h=>RbAt.frm h a) a
      replace I:=I.trans a
      clear a
      obtain⟨E,e⟩:∃ q,q=W:=⟨_,rfl⟩
      subst e))
  all_goals
   have cF:=aj G 0
   have cG:=aj G 1
   have cf:=aj G 2
   have cR:=ae G 0
   have cS:=ae G 1
   have ct:=ae G 2
   have bO:=vi U
   have bP:=vi V
   have bN:=vi G
   have bT:=vi I
   have bV:=vi bi
   have cL:=lt_of_block G
   clear U V G I O K bi bg bh
   skip
   refine bE 10 ?_
   refine az (i:=10) rfl (by rfl) (by rfl) (fun H A=>?_)
   go_simp
   (skip)
   refine A.out _ _ ?_
   clear A H
   try simp only[nrm]
   refine aR (by kernel_rfl) ?_ _
   go_wp2
   go_meet
   exact⟨ro,_,_,_,_,rfl,QC.start bT.out bV.out (X.out.symm ▸ bO.out) (X.out.symm ▸ bP.out) bN.out rfl⟩
 case rest =>
  obtain⟨bp,a2,a3,bn,bo,rfl,aB⟩:=hcut
  have S:=vi aB
  clear aB bv bq bu bt
  go_upto_region 3 with fail
  go_loopw [4] (fun s4 R=>∃ i:Nat,s4=.int .i64 i∧i≤n∧QC w J s x bp (.slice a2 n bn) (.slice a3 n bo) i R) (fun s4 _=>n - (intOf s4).toNat)
  case atStart=>exact⟨0,rfl,Nat.zero_le _,S.out⟩
  case round =>
   clear S
   obtain⟨i,rfl,bf,aB⟩:=hrel
   have S:=vi aB
   clear aB
   obtain⟨R,cl⟩:∃ R,R=wr:=⟨_,rfl⟩
   subst cl
   have br:=vi (S.out.fr.at aV.out (by simp))
   have cd:R.cell? ⟨w.heap.size,2,none⟩=some (.slice (some ⟨ab,0,none⟩) n aH):=ae br.out 2
   by_cases hlt:i<n
   ·have cM:(i:Int)<(n:Int):=by omega
    obtain⟨aw,aG,b9,ad,⟨cp,aT,bM⟩,bK⟩:=S.out.bx
    obtain⟨bB,bb⟩:=b5.out i hlt
    have aD:=bZ.out i bB hlt
    have au:=vi ad;have aX:=vi aT;have b6:=vi bM;have b3:=vi bK;have b0:=vi aD
    obtain⟨F,aL⟩:∃ F,(Value.slice aw i aG).ownBlock.toList=F:=⟨_,rfl⟩
    have bS:Hid (∀ k,(Value.slice aw i aG).ownBlock=some k→k∈F):=vi fun k am=>by rw[← aL];simp[am]
    have a8:∀ k∈F,J.heap.size≤k:=fun k am=>by
     rw[← aL] at am
     exact aF aT (by simpa using am)
    have cj:bp∉F:=fun ap=>by
     rw[← aL] at ap
     obtain⟨c,bD⟩:=ak aT (by simpa using ap)
     rw[ad] at bD
     cases bD
    have cH:=aI bb
    have bs:Hid (∀ av,Frm F R av→(av.cell? ⟨bp,2,none⟩=some (.slice aw i aG)∧av.cell? ⟨w.heap.size,2,none⟩=some (.slice (some ⟨ab,0,none⟩) n aH))∧av.cell? ⟨ab,i,none⟩=some (.slice (some ⟨a4 i,0,none⟩) n bB)):=vi fun av a9=>by
     have a7:w.heap.size∉F:=fun ap=>by have:=a8 _ ap;omega
     have aK:ab∉F:=fun ap=>by have:=a8 _ ap;omega
     exact⟨⟨ae (a9.at ad cj) 2,ae (a9.at br.out a7) 2⟩,a9.cellAt ((ai.out.trans S.out.fr).keep bb) aK⟩
    have bW:Hid ((jo s x i).length=n):=vi (by rw[jy,X.out])
    have cK:i≤4:=by omega
    obtain⟨cO,ci,cm,cn,co⟩:=info_parts Tryz.infoRc
    clear ad aT bM bK aD bb aL a8
    go_upto_region 5 with fail
    clear cd
    refine bH F (fk 12) (by kernel_rfl) ?_
    refine cnt 0 ?_
    iterate 2
     refine hcL ?_ ?_ ?_
     rotate_left
     ·intro w' N
      obtain⟨⟨cq,cr⟩,cs⟩:=bs.out w' ((Frm.refl F R).drew.trans N)
      clear N
      go_simp
      try rfl
     try simp only[nrm,Nat.reduceAdd]
    refine tcn ?_
    refine cnt 3 ?_
    iterate 5
     refine hcL ?_ ?_ ?_
     rotate_left
     ·intro w' N
      obtain⟨⟨cq,cr⟩,cs⟩:=bs.out w' ((Frm.refl F R).drew.trans N)
      clear N
      go_simp
      try rfl
     try simp only[nrm,Nat.reduceAdd]
    refine tcn ?_
    obtain⟨E,bm⟩:∃ E,R.drew=E:=⟨_,rfl⟩
    have be:Frm [] R E:=by rw[← bm];exact(Frm.refl _ _).drew
    rw[bm]
    clear bm
    refine bE 2 ?_
    refine ax (i:=2) rfl rfl (by rfl) (fun H A=>?_)
    go_simp
    (skip)
    refine A.out _ _ ((Frm.refl _ _).alloc _) ?_
    clear A H
    try simp only[nrm]
    obtain⟨bx,Y⟩:∃ aY,E.alloc (.cells #[] 164)=aY:=⟨_,rfl⟩
    have aK:bx.heap[E.heap.size]?=some (.cells #[] 164 (0,0)):=by rw[← Y];exact heap_alloc_new _ _
    have bc:Frm [] R bx:=by rw[← Y];exact be.alloc _
    rw[Y]
    clear Y
    refine aJ (rs:=[8]) (by kernel_rfl) (by simp) (aE ?_ aM)
    refine ax (i:=8) rfl rfl (by rfl) (fun H A=>?_)
    refine ig (k:=3) (At:=RcAt s.cls s.cap w) (t:=162) (e:=164) (z:=.agg #[.int .i64 0,.int .i64 0,.slice none 0 0]) (bytes:=40) _ _ rfl rfl rfl Tryz.underlying162 (by kernel_rfl) rfl (by decide) (by decide) (RcAt.mov _ _ w) bW.out (b0.out.frm fun _ _ _ h=>RcAt.frm h ((ai.out.trans S.out.fr).trans bc)) (by omega) aK ?_
    intro cA a5 a0 bJ bd aS
    refine A.out _ _ (bd.mono (by simp)) ?_
    clear A H
    try simp only[nrm]
    obtain⟨cP,aS⟩:=aS
    obtain⟨g,cC,cD,ce,cg,bL⟩:=aZ aS (by omega)
    cases ce
    have ch:R.heap.size≤g:=Nat.le_trans be.size cg
    refine bE 9 ?_
    refine ax (i:=9) rfl rfl (by rfl) (fun H A=>?_)
    go_simp
    (skip)
    refine A.out _ _ ((Frm.refl _ _).alloc _) ?_
    clear A H
    try simp only[nrm]
    obtain⟨a1,Y⟩:∃ aY,a0.alloc (.cells #[.slice (some ⟨g,0,none⟩) n a5] 162)=aY:=⟨_,rfl⟩
    have G:a1.heap[a0.heap.size]?=some (.cells #[.slice (some ⟨g,0,none⟩) n a5] 162 (0,0)):=by rw[← Y];exact heap_alloc_new _ _
    have aO:Frm [] a0 a1:=by rw[← Y];exact(Frm.refl _ _).alloc _
    have al:Frm [] R a1:=(bc.trans bd).trans aO
    rw[Y]
    clear Y
    refine aJ (rs:=[10]) (by kernel_rfl) (by simp) (aE ?_ aM)
    refine ax (i:=10) rfl rfl (by rfl) (fun H A=>?_)
    refine cz _ _ 59 rfl J.heap.size 162 Tryz.underlying59 ci cm cn co rfl (by decide) (.slice aw i aG) i cp rfl (al.owns aX.out (by simp)) _ 1 1 [.slice (some ⟨g,0,none⟩) n a5] rfl rfl (by have:=cE G;simpa using this) (by simp[Value.oneCell']) (by unfold maxLen;omega) (by omega) (S.out.fr.trans al).size ?_
    intro v' cx bj aQ
    obtain⟨cy,cB,ck⟩:=an bj
    subst ck
    have bk:=(Kt.own (al.owns aX.out (by simp)) aQ).cells (al.at au.out (by simp)) (by decide)
    refine A.out _ _ ((Frm.refl F _).grown aQ (fun k am=>.inl (bS.out k am))) ?_
    clear A H
    try simp only[nrm]
    refine htL 11 ?_ ?_ ?_
    rotate_left
    ·intro w' N
     clear N
     go_simp
     try rfl
    try simp only[nrm]
    have ct:=ae bk 2
    have cf:=aj bk 2
    have b4:=vi (fun Z=>QC.step (Z:=Z) S.out ai.out au.out aX.out (X.out.symm ▸ b6.out) b3.out al ch ⟨_,(aO.at bL (by simp))⟩ (X.out.symm ▸ (bJ.frm fun _ _ _ h=>RcAt.frm h aO)) aQ (X.out.symm ▸ bj))
    clear bc aK bJ bd aS bL G aO al aQ bj bk be
    refine bE 12 ?_
    refine az (i:=12) rfl (by rfl) (by rfl) (fun H A=>?_)
    go_simp
    (skip)
    refine A.out _ _ ?_
    clear A H
    try simp only[nrm]
    refine aR (by kernel_rfl) ?_ _
    go_wp2
    exact⟨⟨i+1,congrArg (Value.int .i64) (by omega),hlt,b4.out _ rfl⟩,by simp[intOf];omega⟩
   ·obtain rfl:n=i:=by omega
    have cJ:¬ (n:Int)<(n:Int):=by omega
    have bw:=vi (S.out.fr.at bY.out (by simp))
    obtain⟨aw,aG,b9,ad,-,-⟩:=S.out.bx
    have au:=vi ad
    clear ad
    go_wp2_with (first
     | (refine af rfl 61 _ rfl _ rfl _ 61 au.out _ Tryz.underlying61 rfl (by kernel_rfl) ?_)
     | (refine aP rfl 61 _ _ rfl _ _ _ _ rfl rfl bw.out rfl (by kernel_rfl) (cI ..) ?_;intro cQ bC bF bG;have bQ:=vi bC;have bR:=vi bF;have bU:=vi bG;clear bC bF bG))
    refine bodyPost_ret (eH rfl rfl bQ.out rfl Tryz.underlying61 (by kernel_rfl)) rfl ⟨_,rfl,?_⟩
    have:=QC.end (rb:=w.heap.size+1) (by rw[X.out];exact S.out) ai.out (by rw[X.out];omega) bX.out (by rw[X.out];exact au.out) bw.out (by omega) bR.out bU.out
    rw[X.out] at this
    exact this
end Go.Proofs.YtohfkhjlnlahdaaGreat
