/- Part of the proof. -/
import Derived.Test.YtohfkhjlnlahdaaGreatQ31
import Derived.Test.YtohfkhjlnlahdaaGreatQ04
import Derived.Test.YtohfkhjlnlahdaaGreatQ26
import Derived.Test.YtohfkhjlnlahdaaGreatQ24
import Derived.RangeFuncBound
import Derived.OwnWalkIn
import Derived.TacticsInMore
import Derived.LoopNIn
import Derived.LoopIn
import Derived.Sort.CutIn
import Derived.OrdersIn
import Derived.Shelf.SortM.Plain
import Derived.Shelf.SortM.SortNone
import Derived.Test.YtohfkhjlnlahdaaGreatQ40
import Derived.Maps.OwnSet
import Derived.Maps.OwnOps
import Derived.WalkMore
import Derived.Test.YtohfkhjlnlahdaaGreatQ16
import Derived.Test.YtohfkhjlnlahdaaGreatQ25
import Derived.LaidEql
import Derived.Test.YtohfkhjlnlahdaaGreatQ32
set_option linter.all false
namespace Go.Proofs.YtohfkhjlnlahdaaGreat
open Go.RowKit Go.BigFrame
def BxR (W:World) (b:Nat):Prop:=(∃ C,W.heap[b]?=some (.cells C 61 (0,0))) ∧
 ∀ (o:Nat) v,W.cell? ⟨b,o,none⟩=some v→∃ ao n c,v=.slice ao n c∧∀ (g o':Nat),ao=some ⟨g,o',none⟩→∀ p,W.cell? ⟨g,o',none⟩≠some (.pointer p)
section
variable {W V:World} {b:Nat}
theorem BxR.ne (h:BxR W b) {k:Nat} {C:Array Value} {t:TypeId} (A:W.heap[k]?=some (.cells C t (0,0))) (E:t≠61):k≠b:=by
 rintro rfl
 obtain⟨⟨D,a⟩,-⟩:=h
 rw[A] at a
 cases a
 exact E rfl
theorem BxR.cne (a:BxR W b) {k o:Nat} {u:Value} (A:W.cell? ⟨k,o,none⟩=some u) (h:∀ ao n c,u≠.slice ao n c):k≠b:=by
 rintro rfl
 obtain⟨ao,n,c,e,-⟩:=a.2 o u A
 exact h _ _ _ e
theorem BxR.cell (a:Frm [b] W V) {k o:Nat} {u:Value} (A:W.cell? ⟨k,o,none⟩=some u) (h:k≠b):V.cell? ⟨k,o,none⟩=some u:=a.cellAt A (by simpa using h)
theorem BxR.keep (h:BxR W b) (A:Frm [b] W V) {k o:Nat} {u:Value} (a:W.cell? ⟨k,o,none⟩=some u) (E:∀ ao n c,u≠.slice ao n c):V.cell? ⟨k,o,none⟩=some u:=BxR.cell A a (h.cne a E)
theorem BxR.str (a:BxR W b) (h:Frm [b] W V) {k o:Nat} {x:ByteArray} (A:W.cell? ⟨k,o,none⟩=some (.string x)):V.cell? ⟨k,o,none⟩=some (.string x):=a.keep h A (by simp)
theorem BxR.int (a:BxR W b) (h:Frm [b] W V) {k o:Nat} {x:Int} (A:W.cell? ⟨k,o,none⟩=some (.int .i64 x)):V.cell? ⟨k,o,none⟩=some (.int .i64 x):=a.keep h A (by simp)
theorem Chn.bx {cb:Nat} {cls cap:Int} {L:List ByteArray} {F:List Nat} (h:Chn W cb cls cap L F) (hb:BxR W b) (G:Frm [b] W V):Chn V cb cls cap L F:=h.frm G fun x H A=>by
 simp only[List.mem_singleton] at A
 subst A
 obtain⟨⟨C,E⟩,-⟩:=hb
 rcases h.ty x H with ⟨D,a⟩ | ⟨D,a⟩ <;> rw[E] at a <;> cases a
theorem StR.bx {s:SesD} {U sb:Nat} {x:PS} (A:StR W s U sb x) (az:0<s.roles.length) (hb:BxR W b) (a:Frm [b] W V):StR V s U sb x:=by
 obtain⟨ab,av,R,ai,aj⟩:=A.out
 refine⟨⟨ab,av,a.at R (by simpa using hb.ne R (by decide)),ai.frm fun k o y h=>?_,?_⟩,A.ok⟩
 ·obtain⟨ad,X,Y,aq,J,aa⟩:=h
  exact⟨ad,hb.int a X,hb.keep a Y (by simp),aq,a.at J (by simpa using hb.ne J (by decide)),aa.frm fun k o y h=>⟨hb.str a h.1,hb.int a h.2.1,hb.int a h.2.2⟩⟩
 ·obtain⟨ao,cap,e,ak⟩:=aj
  refine⟨ao,cap,e,fun i G I=>?_⟩
  obtain⟨g,o,ae,au,K,N⟩:=ak i G I
  have an:=ag I
  have ay:G.length=s.roles.length:=by
   have:=A.ok.wr i (by rw[← A.ok.wl];exact an)
   rwa [aW I] at this
  have am:g≠b:=by
   rintro rfl
   obtain⟨aw,n,c,af,ap⟩:=hb.2 _ _ K
   obtain⟨a',ax,O,al⟩:=N
   rw[af] at O
   cases O
   obtain⟨L,H⟩:∃ L,G[0]?=some L:=⟨_,List.getElem?_eq_getElem (by omega)⟩
   obtain⟨k,S,ah,cb,F,E,-⟩:=al 0 L H
   rw[Nat.zero_mul,Nat.add_zero] at E
   exact ap k S ah _ E
  refine⟨g,o,ae,au,BxR.cell a K am,Arr.frm (fun k S L H=>?_) N⟩
  obtain⟨cb,F,E,ar⟩:=H
  exact⟨cb,F,hb.keep a E (by simp),ar.bx hb a⟩
theorem Rls.bx {v:Value} {l:List RolD} (K:Rls W v l) (hb:BxR W b) (a:Frm [b] W V):Rls V v l:=Arr.frm (fun k o r N=>by
 obtain⟨O,J,R,c0,G,H,I,A⟩:=N
 have E:=hb.cne c0 (by simp)
 refine⟨O,J,R,BxR.cell a c0 E,BxR.cell a G E,BxR.cell a H E,BxR.cell a I E,⟨A.sts.frm fun g o y h=>?_,A.ctrs.frm fun g o y h=>?_,A.steps.frm fun g o y h=>?_,A.cap⟩⟩
 ·exact⟨hb.str a h.1,hb.keep a h.2.1 (by simp),hb.int a h.2.2⟩
 ·exact⟨hb.str a h.1,hb.int a h.2⟩
 ·exact⟨hb.str a h.c0,hb.str a h.c1,hb.int a h.c2,hb.str a h.c3,hb.str a h.c4,hb.str a h.c5,hb.int a h.c6,hb.int a h.c7,hb.int a h.c8⟩) K
theorem SyR.bx {s:SesD} {G A:Nat} (a:SyR W s G A) (hb:BxR W b) (h:Frm [b] W V):SyR V s G A:=by
 obtain⟨I,E,H⟩:=a.out
 exact⟨⟨I,h.at E (by simpa using hb.ne E (by decide)),H.bx hb h⟩,a.ok,a.first.bx (by have:=a.ok.n2;omega) hb h⟩
theorem RO.bx {s:SesD} {G H I N cb O:Nat} {K:Nat→Nat} {x:PS} (A:RO W s G H I K x) (E:0<s.roles.length) (hb:W.heap[b]?=some (.cells #[.slice (some ⟨G,0,none⟩) s.roles.length N,.slice (some ⟨H,0,none⟩) s.roles.length cb,.slice (some ⟨I,0,none⟩) s.roles.length O] 61 (0,0))):BxR W b:=by
 refine⟨⟨_,hb⟩,fun o v a=>?_⟩
 rw[ae hb] at a
 match o,a with
 | 0,a =>
   cases a
   refine⟨_,_,_,rfl,fun g J e p=>?_⟩
   cases e
   rw[A.a 0 E];simp
 | 1,a =>
   cases a
   refine⟨_,_,_,rfl,fun g J e p=>?_⟩
   cases e
   obtain⟨U,X,h,-,R,-⟩:=A.b 0 E
   obtain⟨S,c,rfl⟩:=an R
   rw[Nat.zero_mul] at h
   rw[h];simp
 | 2,a =>
   cases a
   refine⟨_,_,_,rfl,fun g J e p=>?_⟩
   cases e
   obtain⟨c,h⟩:=A.w 0 E
   rw[h];simp
 | o+3,a=>simp at a
end
end Go.Proofs.YtohfkhjlnlahdaaGreat
namespace Go.Proofs.YtohfkhjlnlahdaaGreat
open Go.RowKit Go.BigFrame
theorem via {T a:Prop} (main:T→a) (tail:T):a:=main tail
theorem tkI {F:Fence} {n:Nat} {P:Program} {a:Array Oper} {Q:Exit→Act→World→Prop} {md:Region.Mode} (i:Nat) {A:Oper} (v:Value) {G:Nat} {listed:Array Bool} {h:Act} {w:World}
  (E:wpAnyIn F n P md a Q G (listed.setIfInBounds i true) (h.put A.dst v) w) (H:F.round=none:=by rfl) (hi:a[i]?=some A:=by rfl) (hb:(Region.noSelect a && Region.free md a listed i && (Region.ready md a listed).contains i)=true:=by decide +kernel)
  (hQ:∀ c h w,Q (.panic c) (h.put A.dst v) w→Q (.panic c) h w:=by exact fun _ _ _ E=>E) (hy:YieldsFenced P a A v h:=by (refine⟨Or.inl ⟨?_,?_⟩,?_⟩;(focus rfl);(focus (intro w';go_simp;done));(exact fun _=>rfl))):wpAnyIn F n P md a Q (G+1) listed h w:=by
 simp only[Bool.and_eq_true] at hb
 exact wpAnyIn_take H hi hb.1.1 hb.1.2 hb.2 hQ hy E
theorem tkU {F:Fence} {n:Nat} {P:Program} {a:Array Oper} {Q:Exit→Act→World→Prop} {md:Region.Mode} (i:Nat) {A:Oper} {G:Nat} {listed:Array Bool} {h:Act} {w:World}
  (E:wpAnyIn F n P md a Q G (listed.setIfInBounds i true) (h.put A.dst undef) w) (H:F.round=none:=by rfl) (hi:a[i]?=some A:=by rfl) (hb:(Region.noSelect a && Region.free md a listed i && (Region.ready md a listed).contains i)=true:=by decide +kernel)
  (hQ:∀ c h w,Q (.panic c) (h.put A.dst undef) w→Q (.panic c) h w:=by exact fun _ _ _ E=>E) (hy:YieldsFenced P a A undef h:=by (refine⟨Or.inr ⟨?_,?_⟩,?_⟩;(focus rfl);(focus rfl);(exact fun _=>rfl))):wpAnyIn F n P md a Q (G+1) listed h w:=by
 simp only[Bool.and_eq_true] at hb
 exact wpAnyIn_take H hi hb.1.1 hb.1.2 hb.2 hQ hy E
theorem qs (cls:Int) (args:Array Value) (w:World):(callFunc (cfn cls) args).run Tryz.prog w=.ok (.enter (cfn cls) args) w:=by
 unfold cfn
 split <;> kernel_rfl
def ChR (E A cb:Nat) (cls:Int) (h:Value) (L:List ByteArray) (a:World):Prop:=
 a.heap[E]?=some (.cells #[h] 75 (0,0))∧Strs a h L∧a.heap[A]?=some (.cells #[.pointer (some ⟨cb,0,none⟩)] 130 (0,0))∧a.cell? ⟨cb,0,none⟩=some (.int .i64 cls)
def tH (e:Nat × ByteArray):Array Value:=#[.int .i64 e.1,.string e.2]
set_option maxHeartbeats 8000000 in
set_option maxRecDepth 100000 in
theorem mO (J I cb:Nat) (cls:Int) (aJ:Value) (L:List ByteArray) (ak:1≤cls) (al:cls≤3) (aS:L.length≤1000) :
  Iter Fence.wide 2 Tryz.prog 178 #[.pointer (some ⟨J,0,none⟩),.pointer (some ⟨I,0,none⟩)] tH (ChR J I cb cls aJ L) (cX cls L L.length):=by
 intro l S aN ax aI an aq aO V
 have ad:=vi ax;have O:=vi an;have ah:=vi aq
 clear ax aI an aq
 have A:=O.out _ _ V
 have c0:=ae A.1 0
 obtain⟨ao,cap,W,-,-⟩:=A.2.1.shape
 subst W
 have ab:=vi V
 clear A V
 refine callsIn_of_wp Tryz.func178 rfl trivial ?_ rfl
 simp only[Tryz.ntmps178,List.size_toArray,List.length_cons,List.length_nil,Nat.reduceAdd,Nat.reduceSub,Array.replicate_succ,Array.replicate_zero,List.push_toArray,List.append_toArray,List.nil_append,List.cons_append]
 gi_wp2
 gi_loopw [8] (fun s wr=>∃ k:Nat,s=.int .i64 k∧k≤L.length∧S (cX cls L k) wr) (fun s _=>L.length - (intOf s).toNat)
 case atStart=>exact⟨0,rfl,Nat.zero_le _,ab.out⟩
 case round =>
  obtain⟨k,rfl,aU,av⟩:=hrel
  have G:=vi av
  clear av ab c0
  by_cases hlt:k<L.length
  ·have A:=O.out _ _ G.out
   obtain⟨x,Y⟩:∃ x,L[k]?=some x:=⟨_,List.getElem?_eq_getElem hlt⟩
   obtain⟨aQ,aR,W,-,ar⟩:=A.2.1.shape
   cases W
   obtain⟨g,rfl,aE⟩:=ar k x Y
   have aj:wr.cell? ⟨J,0,none⟩=some (.slice (some ⟨g,0,none⟩) L.length cap):=ae A.1 0
   have ai:wr.cell? ⟨I,0,none⟩=some (.pointer (some ⟨cb,0,none⟩)):=ae A.2.2.1 0
   have U:=A.2.2.2
   have aV:(k:Int)<L.length:=by omega
   have ag:=vi A.2.1
   clear A ar
   gi_upto_region 3 with (fail)
   have N:Hid (Calls Tryz.prog (cfn cls) #[.slice (some ⟨g,0,none⟩) L.length cap,.int .i64 k] (wr.alloc ge).drew (Ret (.bool (chc cls L k)) ((wr.alloc ge).drew=·))):=
    vi (pF cls _ L k _ (ag.out.frm ((Frm.refl [] wr).alloc _).drew (by simp)) (by omega) hlt)
   have R:Hid (Frm [] wr (wr.alloc ge).drew):=vi ((Frm.refl [] wr).alloc _).drew
   obtain⟨q,aw,aW,X⟩:=uC ak al
   have aX:(q:Int)<4:=by omega
   rw[aw] at U
   have aL:(wr.drew.alloc ge).cell? ⟨wr.heap.size,q,none⟩=some (.func (.func (cfn cls)) #[] #[]):=(ae (heap_alloc_new wr.drew _) q).trans X
   have aM:(wr.alloc ge).cell? ⟨wr.heap.size,q,none⟩=some (.func (.func (cfn cls)) #[] #[]):=(ae (heap_alloc_new wr _) q).trans X
   clear aw ak al X
   focus
    refine wpIn_region_any (by kernel_rfl) ?_
    change wpAnyIn _ _ _ _ _ _ _ _ _ (World.drew _)
    have aD:(wr.alloc ge).cell? ⟨J,0,none⟩=some (.slice (some ⟨g,0,none⟩) L.length cap):=((Frm.refl [] wr).alloc _).keep aj
    have aB:(wr.alloc ge).cell? ⟨I,0,none⟩=some (.pointer (some ⟨cb,0,none⟩)):=((Frm.refl [] wr).alloc _).keep ai
    have aC:=((Frm.refl [] wr).alloc ge).keep U
    apply via
    case main =>
     intro tail
     repeat' (first
      | (refine tkI 8 (.int .i64 k) ?_;try simp only[nrm])
      | ((first | refine tkI 2 (.pointer (some ⟨cb,0,none⟩)) ?_ | refine tkI 3 (.pointer (some ⟨cb,0,none⟩)) ?_);try simp only[nrm])
      | (refine tkI 5 (.pointer (some ⟨wr.heap.size,q,none⟩)) ?_;try simp only[nrm])
      | ((first
          | refine wpAnyIn_ready (rs:=[0,1,7]) (by decide +kernel) (by simp) (AllReadyIn.cons rfl (fun h a=>?_) (AllReadyIn.cons rfl (fun h a=>?_) (AllReadyIn.cons rfl (fun h a=>?_) AllReadyIn.nil)))
          | refine wpAnyIn_ready (rs:=[0,1]) (by decide +kernel) (by simp) (AllReadyIn.cons rfl (fun h a=>?_) (AllReadyIn.cons rfl (fun h a=>?_) AllReadyIn.nil))
          | refine wpAnyIn_ready (rs:=[0,4,7]) (by decide +kernel) (by simp) (AllReadyIn.cons rfl (fun h a=>?_) (AllReadyIn.cons rfl (fun h a=>?_) (AllReadyIn.cons rfl (fun h a=>?_) AllReadyIn.nil)))
          | refine wpAnyIn_ready (rs:=[0,4]) (by decide +kernel) (by simp) (AllReadyIn.cons rfl (fun h a=>?_) (AllReadyIn.cons rfl (fun h a=>?_) AllReadyIn.nil))
          | refine wpAnyIn_ready (rs:=[0,7]) (by decide +kernel) (by simp) (AllReadyIn.cons rfl (fun h a=>?_) (AllReadyIn.cons rfl (fun h a=>?_) AllReadyIn.nil))
          | refine wpAnyIn_ready (rs:=[0]) (by decide +kernel) (by simp) (AllReadyIn.cons rfl (fun h a=>?_) AllReadyIn.nil)
          | refine wpAnyIn_ready (rs:=[1,7]) (by decide +kernel) (by simp) (AllReadyIn.cons rfl (fun h a=>?_) (AllReadyIn.cons rfl (fun h a=>?_) AllReadyIn.nil))
          | refine wpAnyIn_ready (rs:=[1]) (by decide +kernel) (by simp) (AllReadyIn.cons rfl (fun h a=>?_) AllReadyIn.nil)
          | refine wpAnyIn_ready (rs:=[4,7]) (by decide +kernel) (by simp) (AllReadyIn.cons rfl (fun h a=>?_) (AllReadyIn.cons rfl (fun h a=>?_) AllReadyIn.nil))
          | refine wpAnyIn_ready (rs:=[4]) (by decide +kernel) (by simp) (AllReadyIn.cons rfl (fun h a=>?_) AllReadyIn.nil)
          | refine wpAnyIn_ready (rs:=[6,7]) (by decide +kernel) (by simp) (AllReadyIn.cons rfl (fun h a=>?_) (AllReadyIn.cons rfl (fun h a=>?_) AllReadyIn.nil))
          | refine wpAnyIn_ready (rs:=[6]) (by decide +kernel) (by simp) (AllReadyIn.cons rfl (fun h a=>?_) AllReadyIn.nil)
          | refine wpAnyIn_ready (rs:=[7]) (by decide +kernel) (by simp) (AllReadyIn.cons rfl (fun h a=>?_) AllReadyIn.nil)
        ) <;> (rw[if_pos (by rfl)];go_simp;(try (refine⟨trivial,(callsIn_wide.2 (ix _)).mono ?_⟩;rintro e aK ⟨rfl,rfl⟩));refine a _ _ ?_;clear a h;try simp only[nrm]))
      | exact tail)
    case tail =>
     generalize (wr.alloc ge).drew=wz at N R ⊢
     clear aL aM aD aB aC
     have aH:=qs cls
     refine wpAnyIn_ready (rs:=[9]) (by kernel_rfl) (by simp) (AllReadyIn.cons rfl (fun h a=>?_) AllReadyIn.nil)
     rw[if_pos (by rfl)]
     go_simp
     refine⟨trivial,(callsIn_wide.2 N.out).mono ?_⟩
     rintro e aK ⟨rfl,rfl⟩
     refine a _ _ ?_
     clear a h N aH
     try simp only[nrm]
     cases hc:chc cls L k with
     | false =>
       have az:Hid (S (cX cls L (k+1)) wz):=by
        have aF:=ad.out _ _ _ G.out R.out
        have aG:S (cX cls L (k+1)) wz:=by simpa[cX,hc] using aF
        exact vi aG
       refine tkI 10 (.bool false) ?_
       try simp only[nrm]
       iterate 5
        first | refine tkU 11 ?_ | refine tkU 12 ?_ | refine tkU 13 ?_ | refine tkU 14 ?_ | refine tkU 15 ?_
        try simp only[nrm]
       refine wpAnyIn_ready (rs:=[16]) (by kernel_rfl) (by simp) (AllReadyIn.cons rfl (fun h a=>?_) AllReadyIn.nil)
       rw[if_pos (by rfl)]
       go_simp
       refine a _ _ ?_
       clear a h
       try simp only[nrm]
       refine wpAnyIn_done (by kernel_rfl) ?_ _
       clear hc ah O ag aj ai U aE Y
       gi_wp2
       go_roundw
       case rel=>exact⟨k+1,by go_num,hlt,az.out⟩
       case measure=>simp[intOf];omega
     | true =>
       obtain⟨rest,K⟩:=ky hlt hc
       have am:=ad.out _ _ _ G.out R.out
       have au:L.getD k ByteArray.empty=x:=by rw[List.getD_eq_getElem?_getD,Y];rfl
       rw[au] at K
       obtain⟨fn,tmps,assign,body,aa,ap⟩:=ah.out _ _ _ _ K am
       have af:=vi K
       have ay:Hid (cX cls L (k+1)=cX cls L k++[(k,x)]):=vi (by rw[cX,hc,if_pos rfl,au])
       have aA:=vi ap
       simp only[tH] at aa
       clear am ap K
       refine tkI 10 (.bool true) ?_
       try simp only[nrm]
       refine tkI 11 (.func (.yield l) #[] #[]) ?_
       try simp only[nrm]
       refine tkI 12 (.int .i64 k) ?_
       try simp only[nrm]
       refine tkI 13 (.string x) ?_
       try simp only[nrm]
       refine wpAnyIn_ready (rs:=[14]) (by kernel_rfl) (by simp) (AllReadyIn.cons rfl (fun h a=>?_) AllReadyIn.nil)
       rw[if_pos (by rfl)]
       go_simp
       refine aA.out.mono ?_
       rintro e aP (⟨rfl,E⟩ | ⟨rfl,E⟩)
       ·have H:=vi E
        clear E aa
        refine a _ _ ?_
        clear a h
        try simp only[nrm]
        refine tkI 15 (.bool false) ?_
        try simp only[nrm]
        refine tkI 16 (.bool false) ?_
        try simp only[nrm]
        refine wpAnyIn_done (by kernel_rfl) ?_ _
        gi_wp2
        go_roundw
        case rel=>exact⟨k+1,by go_num,hlt,by rw[ay.out];exact H.out⟩
        case measure=>simp[intOf];omega
       ·have H:=vi E
        clear E aa
        refine a _ _ ?_
        clear a h
        try simp only[nrm]
        refine tkI 15 (.bool true) ?_
        try simp only[nrm]
        refine tkI 16 (.bool true) ?_
        try simp only[nrm]
        refine wpAnyIn_done (by kernel_rfl) ?_ _
        gi_wp2
        refine bodyPost_ret (results_none rfl _ _ _) rfl ?_
        first | exact⟨⟨_,rfl⟩,.inr ⟨_,_,_,af.out,H.out⟩⟩ | exact⟨⟨_,rfl⟩,.inr ⟨_,_,⟨_,af.out⟩,H.out⟩⟩
  ·obtain rfl:k=L.length:=by omega
   have aT:¬ (L.length:Int)<L.length:=by omega
   gi_wp2
   go_end0
   exact⟨⟨_,rfl⟩,.inl G.out⟩
end Go.Proofs.YtohfkhjlnlahdaaGreat
namespace Go.Proofs.YtohfkhjlnlahdaaGreat
open Go.RowKit Go.BigFrame
def vd (w:World) (cb:Nat) (cls:Int) (L:List ByteArray) (v:Value) (w':World):Prop:=
 ∃ h a A,v=.func (.func 178) #[] #[.pointer (some ⟨h,0,none⟩),.pointer (some ⟨a,0,none⟩)]∧ChR h a cb cls A L w'∧Frm [] w w'∧w.heap.size≤h∧w.heap.size≤a∧∀ k,A.ownBlock=some k→w.heap.size≤k
theorem Chn.cell0 {w:World} {cb:Nat} {cls cap:Int} {L:List ByteArray} {F:List Nat} (h:Chn w cb cls cap L F):w.cell? ⟨cb,0,none⟩=some (.int .i64 cls):=by
 obtain⟨A,a,-,-,-⟩:=h;exact ae a 0
set_option maxHeartbeats 1000000 in
theorem i9 (cb:Nat) (cls cap:Int) (L:List ByteArray) (F:List Nat) (w:World) (A:Chn w cb cls cap L F) :
  Calls Tryz.prog 123 #[.pointer (some ⟨cb,0,none⟩)] w (aU (vd w cb cls L)):=by
 have K:=vi A
 have J:=vi (iQ (A.frm ((Frm.refl [] w).alloc (.cells #[.pointer (some ⟨cb,0,none⟩)] 130)) (by simp)))
 have h:(w.alloc (.cells #[.pointer (some ⟨cb,0,none⟩)] 130)).heap[w.heap.size]?=some (.cells #[.pointer (some ⟨cb,0,none⟩)] 130 (0,0)):=heap_alloc_new _ _
 have I:=vi h
 have c0:=ae h 0
 clear A h
 go_enter Tryz.func123,Tryz.ntmps123
 go_wp2_with (go_at_call 154;go_must (refine J.out.mono ?_;rintro e H ⟨v,rfl,G⟩;obtain⟨ao,O,rfl,-,-⟩:=G.1.shape;have a:=vi G;clear G))
 go_ret
 have E:Frm [] w H:=((Frm.refl [] w).alloc _).trans a.out.2.1
 refine⟨_,rfl,_,_,_,rfl,⟨heap_alloc_new _ _,a.out.1.frm ((Frm.refl [] _).alloc _) (by simp),((Frm.refl [] H).alloc _).at (a.out.2.1.at I.out (by simp)) (by simp),(E.alloc _).keep K.out.cell0⟩,E.alloc _,?_,Nat.le_refl _,fun k N=>?_⟩
 ·exact E.size
 ·have:=a.out.2.2 k N;simp at this;omega
end Go.Proofs.YtohfkhjlnlahdaaGreat
namespace Go.Proofs.YtohfkhjlnlahdaaGreat
open Go.RowKit Go.BigFrame
def eQ (m:Mv):List Value:=[.int .i64 m.kind,.int .i64 m.role,.int .i64 m.step,.int .i64 m.place]
def mvC (L:List Mv):List Value:=L.flatMap eQ
theorem gA (a B:List Mv):mvC (a++B)=mvC a++mvC B:=by unfold mvC;rw[List.flatMap_append]
theorem nY {L:List Mv}:∀ {i:Nat} {m:Mv},L[i]?=some m→(mvC L)[i*4]?=some (.int .i64 m.kind)∧(mvC L)[i*4+1]?=some (.int .i64 m.role)∧(mvC L)[i*4+2]?=some (.int .i64 m.step)∧(mvC L)[i*4+3]?=some (.int .i64 m.place):=by
 induction L with
 | nil=>intro i m a;simp at a
 | cons h L ih =>
   intro i m a
   have e:mvC (h :: L)=eQ h++mvC L:=rfl
   cases i with
   | zero=>simp at a;subst a;rw[e];exact⟨rfl,rfl,rfl,rfl⟩
   | succ i =>
     have:=ih (i:=i) (m:=m) (by simpa using a)
     have A:(eQ h).length=4:=rfl
     rw[e,List.getElem?_append_right (by omega),List.getElem?_append_right (by omega),List.getElem?_append_right (by omega),List.getElem?_append_right (by omega),A]
     rw[show (i+1)*4 - 4=i*4 by omega,show (i+1)*4+1 - 4=i*4+1 by omega,show (i+1)*4+2 - 4=i*4+2 by omega,show (i+1)*4+3 - 4=i*4+3 by omega]
     exact this
theorem nZ {A:World} {base:Nat} {v:Value} {L:List Mv} (h:A.ownsRow base 44 4 v L.length (mvC L)):Arr 4 MvAt A v L:=by
 obtain⟨ao,cap,rfl⟩:=an h
 refine⟨ao,cap,rfl,fun i m E=>?_⟩
 have N:=ag E
 obtain⟨g,c,cur,e,-,-⟩:=aZ h (by omega)
 cases e
 have a:=fun j K=>World.ownsRow.cellAt h j K
 obtain⟨G,H,I,J⟩:=nY E
 exact⟨g,0,rfl,by rw[Nat.zero_add,a _ (by omega)];exact G,by rw[Nat.zero_add,a _ (by omega)];exact H,by rw[Nat.zero_add,a _ (by omega)];exact I,by rw[Nat.zero_add,a _ (by omega)];exact J⟩
abbrev MB (w:World) (ob:Nat) (L:List Mv) (W:World):Prop:=BO 31 44 4 w ob L.length (mvC L) W
abbrev mvT:List TypeId:=[31,44]
theorem Tryz.infoMv:(Tryz.prog.info? 44).map (fun i=>(i.zero,i.size,i.bytes))=some (some (.agg #[.int .i64 0,.int .i64 0,.int .i64 0,.int .i64 0]),4,32):=by kernel_rfl
theorem MB.add {w a A:World} {h:Nat} {L:List Mv} {ao:Option Addr} {cap:Nat} {o:Obj} {v':Value} (m:Mv) (E:MB w h L a) (G:a.heap[h]?=some (.cells #[.slice ao L.length cap] 31 (0,0))) (H:a.ownsRow w.heap.size 44 4 (.slice ao L.length cap) L.length (mvC L))
  (I:(a.alloc o).grownBy A (Value.slice ao L.length cap).ownBlock) (J:A.ownsRow w.heap.size 44 4 v' (L.length+1) (mvC L++eQ m)) :
  MB w h (L++[m]) (A.setCell ⟨h,0,none⟩ v')∧Kt mvT a (A.setCell ⟨h,0,none⟩ v'):=by
 have:=E.step G H (by decide) I J
 unfold MB
 rw[gA,List.length_append]
 exact⟨by simpa[mvC] using this.1,this.2⟩
theorem ku {m:ByteArray} {i k:Nat} (A:List (Nat × ByteArray)) (e:Nat × ByteArray):eI m i k (A++[e])=if e.2=m then eI m i k A++[⟨1,i,k,e.1⟩] else eI m i k A:=by
 unfold eI
 rw[List.filterMap_append,List.filterMap_cons]
 split
 ·rename_i a
  split at a
  ·cases a
  ·rename_i h;rw[if_neg h];simp
 ·rename_i b a
  split at a
  ·rename_i h;cases a;rw[if_pos h];rfl
  ·cases a
theorem mz {m:ByteArray} {i k:Nat} (a:List (Nat × ByteArray)):(eI m i k a).length≤a.length:=List.length_filterMap_le _ _
theorem ChR.kt {H G cb:Nat} {cls cap:Int} {I:Value} {L L':List ByteArray} {F:List Nat} {h E:World} (A:ChR H G cb cls I L h) (a:Kt mvT h E) (J:Chn h cb cls cap L' F):ChR H G cb cls I L E:=by
 obtain⟨N,K,-⟩:=J
 exact⟨a.cells A.1 (by decide),a.row A.2.1 (by decide),a.cells A.2.2.1 (by decide),ae (a.cells K (by decide)) 0⟩
end Go.Proofs.YtohfkhjlnlahdaaGreat
namespace Go.Proofs.YtohfkhjlnlahdaaGreat
open Go.RowKit Go.BigFrame Go.Maps
theorem sD (l:List (CtrD × Int)) (n:ByteArray):∃ a e,ctV l n=.tuple #[.int .i64 a,.int .i64 e]:=by
 unfold ctV
 split
 ·split
  ·exact⟨_,_,rfl⟩
  ·exact⟨_,_,rfl⟩
 ·exact⟨_,_,rfl⟩
theorem pJ {s:SesD} {x:PS} (O:SesOk s) (S:PSok s x) {i:Nat} (H:i<s.roles.length) {t:StpD} (R:t∈(s.rol i).steps) {a e:Int} (h:ctV (x.ctr s i) t.ctr=.tuple #[.int .i64 a,.int .i64 e]) :
  bY (s.rol i).ctrs (x.bank i) t=(decide (t.ctr=aG) || (decide (t.low≤a) && decide (a≤t.high))):=by
 have I:=(O.at H).stp t R
 have E:=S.vb i H
 rw[nl I E]
 by_cases he:t.ctr=aG
 ·rw[decide_eq_true he];rfl
 ·obtain⟨k,c,G,J,-⟩:=I.ctr he
  have K:ctV (x.ctr s i) t.ctr=.tuple #[.int .i64 ((x.bank i).getD k 0),.int .i64 0]:=by
   unfold ctV PS.ctr
   rw[gG E.1,G,Int.toNat_natCast,iZ E.1 J]
   simp only
   rw[if_pos (by omega)]
  rw[K] at h
  injection h with h
  have N:(x.bank i).getD k 0=a:=by
   have:=congrArg (fun A:Array Value=>A.getD 0 undef) h
   simp at this
   simpa using this
  rw[G,Int.toNat_natCast,N]
set_option maxHeartbeats 2000000 in
set_option maxRecDepth 100000 in
theorem pK (s:SesD) (W aa sb i:Nat) (x:PS) (t:StpD) (w:World) (R:SyR w s W aa) (V:StR w s W sb x) (S:i<s.roles.length) (ad:t∈(s.rol i).steps) :
  Calls Tryz.prog 145 #[.pointer (some ⟨sb,0,none⟩),.int .i64 i,dN t] w (Ret (.bool (bY (s.rol i).ctrs (x.bank i) t)) (Frm [] w)):=by
 obtain⟨O,e,U⟩:=sD (x.ctr s i) t.ctr
 rw[pJ R.ok V.ok S ad U]
 obtain⟨a,G⟩:∃ a,w.alloc (.cells #[.string t.frm,.string t.to,.int .i64 t.kind,.string t.msg,.string t.peer,.string t.ctr,.int .i64 t.low,.int .i64 t.high,.int .i64 t.add] 137)=a:=⟨_,rfl⟩
 have H:Frm [] w a:=by rw[← G];exact(Frm.refl _ _).alloc _
 have I:=vi (lI s W aa sb i x t.ctr a (R.frm H) (V.frm H) S)
 rw[U] at I
 have J:Hid (∀ h,Frm [] a h→h.cell? ⟨w.heap.size,5,none⟩=some (.string t.ctr)∧h.cell? ⟨w.heap.size,6,none⟩=some (.int .i64 t.low)∧h.cell? ⟨w.heap.size,7,none⟩=some (.int .i64 t.high)):=vi fun h aj=>by
  have hb:=aj.at (show a.heap[w.heap.size]?=_ by rw[← G];exact heap_alloc_new _ _) (by simp)
  exact⟨ae hb 5,ae hb 6,ae hb 7⟩
 have Y:=vi H;have X:=vi G
 clear S ad V R H G U
 go_enter Tryz.func145,Tryz.ntmps145
 go_upto_region 1 with (first | (refine aH rfl 137 _ rfl _ rfl ?_;rw[X.out]))
 clear X
 obtain⟨af,ag,ah⟩:=J.out _ (Frm.refl _ _)
 go_upto_region 2 with (first
  | (go_at_call 190;go_must (refine I.out.mono ?_;rintro e al ⟨rfl,ab⟩;have K:=vi ab;clear ab af ag ah I)))
 obtain⟨af,ag,ah⟩:=J.out _ K.out
 have N:=vi (Y.out.trans K.out)
 clear J Y K
 by_cases he:t.ctr=aG
 ·have ak:t.ctr.toList.isEmpty=true:=dg he
  have A:Hid (decide (t.ctr=aG)=true):=vi (decide_eq_true he)
  clear he
  go_wp2
  go_ret
  exact⟨by rw[A.out];rfl,N.out⟩
 ·have ak:t.ctr.toList.isEmpty=false:=dF he
  have A:Hid (decide (t.ctr=aG)=false):=vi (decide_eq_false he)
  clear he
  by_cases h1:t.low≤O
  ·have E:Hid (decide (t.low≤O)=true):=vi (decide_eq_true h1)
   have ai:=E.out
   go_wp2
   go_ret
   refine⟨?_,N.out⟩
   rw[A.out,E.out]
   simp
  ·have E:Hid (decide (t.low≤O)=false):=vi (decide_eq_false h1)
   have ai:=E.out
   go_wp2
   go_ret
   exact⟨by rw[A.out];rfl,N.out⟩
def uG (w:World) (cls:Int) (L:List ByteArray) (v:Value) (w':World):Prop:=∃ h a cb A,v=.func (.func 178) #[] #[.pointer (some ⟨h,0,none⟩),.pointer (some ⟨a,0,none⟩)]∧ChR h a cb cls A L w'∧(∃ F,Chn w' cb cls 64 L F)∧Frm [] w w'
set_option maxHeartbeats 2000000 in
set_option maxRecDepth 100000 in
theorem pL (s:SesD) (ax sb i p:Nat) (x:PS) (w:World) (I:SesOk s) (Y:StR w s ax sb x) (U:i<s.roles.length) (V:p<s.roles.length) (av:p≠i) :
  Calls Tryz.prog 143 #[.pointer (some ⟨sb,0,none⟩),.int .i64 s.cls,.int .i64 i,.int .i64 p] w (aU (uG w s.cls (x.way p i))):=by
 have J:=vi (lJ s ax sb p i x w Y V U av)
 have X:=Y.ok.wb p i V U
 have aG:=I.k4
 obtain⟨L,an⟩:∃ L,x.way p i=L:=⟨_,rfl⟩
 rw[an] at J X ⊢
 obtain⟨m,au⟩:∃ m,L.length=m:=⟨_,rfl⟩
 have R:=vi au
 have O:Hid (m≤4∧∀ b∈L,1≤b.size∧b.size≤32):=vi ⟨by omega,X.2⟩
 have ad:Hid (∀ h,Calls Tryz.prog 113 #[.int .i64 s.cls,.int .i64 64] h (Ret (.tuple #[.pointer (some ⟨h.heap.size,0,none⟩),.int .i64 0]) (fun w'=>Frm [] h w'∧Chn w' h.heap.size s.cls 64 [] [h.heap.size]))):=vi fun h=>qE s.cls 64 h (by unfold okC;exact decide_eq_true ⟨I.c1,I.c3,by omega,by omega⟩)
 clear Y U V av I an X aG au
 go_enter Tryz.func143,Tryz.ntmps143
 go_upto_region 4 with (first
  | (go_at_call 188;go_must (refine J.out.mono ?_;rintro e aw ⟨v,rfl,u,rfl,S⟩;obtain⟨ao,aM,rfl,-,ar⟩:=S.1.shape;have N:=vi S;have aA:=vi ar;rw[R.out];clear S ar J))
  | (go_at_call 113;go_must (refine(ad.out _).mono ?_;rintro e aI ⟨rfl,a,E⟩;have ai:=vi a;have ah:=vi E;clear a E ad)))
 have aK:Hid (Frm [] w aI):=vi (N.out.2.1.trans ai.out)
 obtain⟨cb,H⟩:∃ cb,aw.heap.size=cb:=⟨_,rfl⟩
 have aJ:Hid (w.heap.size≤cb):=vi (by rw[← H];exact N.out.2.1.size)
 rw[H] at ah ⊢
 have ae:=vi H
 clear H
 go_loopw [29] (fun s29 wr=>∃ (k:Nat) (F:List Nat),s29=.int .i64 k∧k≤m∧Chn wr cb s.cls 64 (L.take k) F∧Frm [] aw wr∧∀ y∈F,cb≤y) (fun s29 _=>m - (intOf s29).toNat)
 case atStart=>exact⟨0,_,rfl,Nat.zero_le _,ah.out,ai.out,by simp⟩
 case round =>
  obtain⟨k,F,rfl,aO,E,a,A⟩:=hrel
  have af:=vi E;have G:=vi a;have ak:=vi A
  clear E a A
  by_cases hlt:k<m
  ·obtain⟨b,hb⟩:∃ b,L[k]?=some b:=⟨_,List.getElem?_eq_getElem (by rw[R.out];exact hlt)⟩
   obtain⟨g,aF,al⟩:=aA.out k b hb
   subst aF
   have aL:=G.out.keep al
   have W:=O.out.2 b (List.mem_of_getElem? hb)
   have K:=vi (oZ cb s.cls 64 (L.take k) F b wr af.out W.1 W.2 (by rw[List.length_take];have:=O.out.1;omega))
   rw[(bu hb).1.symm] at K
   have aP:(k:Int)<(m:Int):=by omega
   have aQ:=O.out.1
   clear hb al W
   go_wp2_with (first
    | (go_at_call 67;go_must (refine K.out.mono ?_;rintro e aR ⟨rfl,F',ap,a,A⟩;have ay:=vi ap;have aB:=vi a;have aC:=vi A;clear ap a A K)))
   go_roundw
   case rel =>
    refine⟨k+1,F',by go_num,hlt,ay.out,G.out.then aB.out (fun y aa=>.inr ?_),fun y aa=>?_⟩
    ·have:=ak.out y aa;have:=ae.out;omega
    ·rcases aC.out y aa with am | am
     ·exact ak.out y am
     ·have:=G.out.size;have:=ae.out;omega
   case measure=>simp[intOf];omega
  ·obtain rfl:k=m:=by omega
   have aN:¬ (k:Int)<(k:Int):=by omega
   have ag:Hid (Chn wr cb s.cls 64 L F):=vi (by have:=af.out;rwa [List.take_of_length_le (by rw[R.out];exact Nat.le_refl _)] at this)
   have ab:=vi (i9 cb s.cls 64 L F wr ag.out)
   go_wp2_with (first
    | (go_at_call 123;go_must (refine ab.out.mono ?_;rintro e aS ⟨v,rfl,aE,aD,aH,rfl,aq,a,-⟩;have az:=vi aq;have aj:=vi a;clear aq a ab)))
   go_ret
   exact⟨_,rfl,aE,aD,cb,aH,rfl,az.out,⟨F,ag.out.frm aj.out (by simp)⟩,N.out.2.1.trans (G.out.trans aj.out)⟩
end Go.Proofs.YtohfkhjlnlahdaaGreat
namespace Go.Proofs.YtohfkhjlnlahdaaGreat
open Go.RowKit Go.BigFrame
theorem iG:∀ (a:List Value) (o:Nat) (w:World) (b:Nat) (c:Array Value) (t:TypeId),w.heap[b]?=some (.cells c t (0,0))→o+a.length≤c.size →
  ∃ h,(w.setCells b o a).heap[b]?=some (.cells h t (0,0))∧h.size=c.size∧(∀ j,j<o∨o+a.length≤j→h[j]?=c[j]?)∧(∀ j v,a[j]?=some v→h[o+j]?=some v)∧Frm [b] w (w.setCells b o a)
 | [],o,w,b,c,t,A,_=>⟨c,A,rfl,fun _ _=>rfl,fun j v A=>by simp at A,Frm.refl _ _⟩
 | v :: a,o,w,b,c,t,A,hl=>by
   have hb:=ap A o v
   simp only[List.length_cons] at hl
   obtain⟨h,H,I,G,J,K⟩:=iG a (o+1) (w.setCell ⟨b,o,none⟩ v) b _ t hb (by simp;omega)
   refine⟨h,H,by simpa using I,fun j N=>?_,fun j u E=>?_,((Frm.refl _ _).setCell _ (.inl (by simp)) _).trans K⟩
   ·simp only[List.length_cons] at N
    rw[G j (by omega),Array.getElem?_setIfInBounds_ne (by omega)]
   ·cases j with
    | zero =>
      simp at E;subst E
      rw[Nat.add_zero,G o (by omega),Array.getElem?_setIfInBounds_self_of_lt (by omega)]
    | succ j =>
      rw[show o+(j+1)=o+1+j by omega]
      exact J j u (by simpa using E)
def oG:Mv:=⟨0,0,0,0⟩
def RvR (a:World) (g n:Nat) (M:Nat→Mv):Prop:=∃ cur,a.heap[g]?=some (.cells cur 44 (0,0))∧n*4≤cur.size ∧
 ∀ k,k<n→cur[k*4]?=some (.int .i64 (M k).kind)∧cur[k*4+1]?=some (.int .i64 (M k).role)∧cur[k*4+2]?=some (.int .i64 (M k).step)∧cur[k*4+3]?=some (.int .i64 (M k).place)
theorem RvR.frm {h a:World} {g n:Nat} {M:Nat→Mv} (A:RvR h g n M) (H:Frm [] h a):RvR a g n M:=by
 obtain⟨cur,E,G⟩:=A
 exact⟨cur,H.at E (by simp),G⟩
theorem RvR.at {h:World} {g n k:Nat} {M:Nat→Mv} (E:RvR h g n M) (H:k<n):MvAt h g (k*4) (M k):=by
 obtain⟨cur,a,I,G⟩:=E
 obtain⟨A,b,c,d⟩:=G k H
 exact⟨(ae a _).trans A,(ae a _).trans b,(ae a _).trans c,(ae a _).trans d⟩
theorem RvR.set {a:World} {g n i:Nat} {M:Nat→Mv} (J:RvR a g n M) (V:i<n) (m:Mv):RvR (a.setCells g (i*4) (eQ m)) g n (fun k=>if k=i then m else M k)∧Frm [g] a (a.setCells g (i*4) (eQ m)):=by
 obtain⟨cur,K,U,N⟩:=J
 obtain⟨G,H,S,h,A,I⟩:=iG (eQ m) (i*4) a g cur _ K (by simp[eQ];omega)
 refine⟨⟨G,H,by omega,fun k O=>?_⟩,I⟩
 by_cases e:k=i
 ·subst e
  simp only[if_true]
  exact⟨A 0 _ rfl,A 1 _ rfl,A 2 _ rfl,A 3 _ rfl⟩
 ·simp only[if_neg e]
  have R:(eQ m).length=4:=rfl
  obtain⟨E,b,c,d⟩:=N k O
  refine⟨(h _ ?_).trans E,(h _ ?_).trans b,(h _ ?_).trans c,(h _ ?_).trans d⟩ <;> rw[R] <;> omega
theorem RvR.there {a:World} {g n i:Nat} {M:Nat→Mv} (A:RvR a g n M) (H:i<n):a.there g (i*4) 4:=by
 obtain⟨cur,h,E,G⟩:=A
 intro j I
 refine⟨?_,aj h _⟩
 rw[ae h,Array.getElem?_eq_getElem (by omega)]
 rfl
theorem uT {a:World} {base:Nat} {v:Value} {L:List Mv} (A:a.ownsRow base 44 4 v L.length (mvC L)) (K:L.length≠0):∃ g cap,v=.slice (some ⟨g,0,none⟩) L.length cap∧RvR a g L.length (fun k=>L.getD k oG):=by
 obtain⟨-,⟨-,E⟩ | ⟨g,cap,cur,rfl,-,H,G,-,N,O⟩⟩:=A
 ·exact absurd E K
 ·refine⟨g,cap,rfl,cur,H,by rw[N];exact Nat.mul_le_mul_right _ G,fun k J=>?_⟩
  obtain⟨h,b,c,d⟩:=nY (bf (d:=oG) J)
  have e:∀ j,j<L.length*4→cur[j]?=(mvC L)[j]?:=fun j I=>by
   rw[← O,List.getElem?_take_of_lt I,Array.getElem?_toList]
  exact⟨(e _ (by omega)).trans h,(e _ (by omega)).trans b,(e _ (by omega)).trans c,(e _ (by omega)).trans d⟩
theorem uv {a:World} {g n cap:Nat} {M:Nat→Mv} {L:List Mv} (E:RvR a g n M) (A:L.length=n) (G:∀ k m,L[k]?=some m→M k=m):Arr 4 MvAt a (.slice (some ⟨g,0,none⟩) n cap) L:=
 ⟨_,_,by rw[A],fun i m h=>⟨g,0,rfl,by
  have:=E.at (k:=i) (by rw[← A];exact ag h)
  rw[G i m h] at this
  rwa [Nat.zero_add]⟩⟩
def eN (L:List Mv) (i k:Nat):Mv:=if k<i∨L.length≤k+i then L.getD (L.length - 1 - k) oG else L.getD k oG
theorem qm {L:List Mv} {i j:Nat} (h:L.length=i+j+1) (a:i<j) (k:Nat):(if k=j then eN L i i else if k=i then eN L i j else eN L i k)=eN L (i+1) k:=by
 unfold eN
 by_cases h1:k=j
 ·subst h1
  rw[if_pos rfl,if_neg (by omega),if_pos (by omega),show L.length - 1 - k=i by omega]
 rw[if_neg h1]
 by_cases h2:k=i
 ·subst h2
  rw[if_pos rfl,if_neg (by omega),if_pos (by omega),show L.length - 1 - k=j by omega]
 rw[if_neg h2]
 by_cases h3:k<i∨L.length≤k+i
 ·rw[if_pos h3,if_pos (by omega)]
 ·rw[if_neg h3,if_neg (by omega)]
theorem sh {L:List Mv} {i:Nat} (E:L.length≤i+i+1) {k:Nat} {m:Mv} (a:L.reverse[k]?=some m):eN L i k=m:=by
 have A:k<L.length:=by have:=ag a;simpa using this
 rw[List.getElem?_reverse A] at a
 have h:=aW (d:=oG) a
 unfold eN
 by_cases h3:k<i∨L.length≤k+i
 ·rw[if_pos h3];exact h
 ·rw[if_neg h3,show k=L.length - 1 - k by omega];exact h
theorem Tryz.infoMvS:(Tryz.prog.info? 44).map (·.size)=some 4:=by kernel_rfl
theorem uw (a b c d:Int):(#[.int .i64 a,.int .i64 b,.int .i64 c,.int .i64 d]:Array Value).all (·.oneCell')=true:=by
 rw[← Array.all_toList];rfl
theorem iH {E:Oper} {a:Act} {w:World} {G:Act→World→Prop} {Q:Exit→Act→World→Prop} {g n i:Nat} {M:Nat→Mv} (x y:Operand) (m:Mv) (I:E.op=.store 44 x y) (J:a.eval x=.pointer (some ⟨g,i*4,none⟩)) (K:a.eval y=mvV m)
  (h:RvR w g n M) (A:i<n) (H:∀ w',RvR w' g n (fun k=>if k=i then m else M k)→Frm [g] w w'→G (a.put E.dst undef) w'):E.wp Tryz.prog a w G Q:=
 wp_store_mid 44 x y I g (i*4) #[.int .i64 m.kind,.int .i64 m.role,.int .i64 m.step,.int .i64 m.place] J K (h.there A) Tryz.infoMvS (uw _ _ _ _) (H _ (h.set A m).1 (h.set A m).2)
set_option maxHeartbeats 4000000 in
set_option maxRecDepth 100000 in
theorem oH (g n cap:Nat) (L:List Mv) (w:World) (Y:L.length=n) (aK:1≤n) (aL:n≤1000000) (E:RvR w g n (fun k=>L.getD k oG)) :
  Calls Tryz.prog 177 #[.slice (some ⟨g,0,none⟩) n cap] w (aU fun _ w'=>Arr 4 MvAt w' (.slice (some ⟨g,0,none⟩) n cap) L.reverse∧Frm [g] w w'):=by
 have J:=vi Y
 have aq:RvR w g n (eN L 0):=by
  obtain⟨cur,am,an,ap⟩:=E
  refine⟨cur,am,an,fun k au=>?_⟩
  have e:eN L 0 k=L.getD k oG:=by unfold eN;rw[if_neg (by omega)]
  rw[e]
  exact ap k au
 have ag:=vi aq
 have ax:wrap64 ((n:Int) - 1)=((n - 1:Nat):Int):=by unfold wrap64;omega
 clear E Y
 go_enter Tryz.func177,Tryz.ntmps177
 go_wp2
 go_loopw [2,3] (fun s2 s3 wr=>∃ i:Nat,(s2=.int .i64 i∧s3=.int .i64 ((n - 1 - i:Nat):Int))∧2*i≤n∧i<n∧RvR wr g n (eN L i)∧Frm [g] w wr) (fun s2 _ _=>n - (intOf s2).toNat)
 case atStart=>exact⟨0,⟨rfl,by congr 1;omega⟩,by omega,by omega,ag.out,Frm.refl _ _⟩
 case round =>
  obtain⟨i,⟨rfl,rfl⟩,aM,V,aa,R⟩:=hrel
  obtain⟨j,W⟩:∃ j,n - 1 - i=j:=⟨_,rfl⟩
  rw[W]
  have aJ:=vi W;have H:=vi aa;have N:=vi R
  obtain⟨h,ay⟩:∃ h,h=wr:=⟨_,rfl⟩
  subst ay
  clear aa R ax
  by_cases hlt:i<j
  ·have av:(i:Int)<(j:Int):=by omega
   have X:j<n:=by omega
   go_upto_region 3 with (fail)
   generalize ar:Exit.inBlock _ _=QQ
   refine wp_mono (Q:=fun e a' w'=>match e with | .normal=>QQ .normal a' w' | _=>False) ?_ (fun e a' w' E=>by cases e <;> first | exact E | exact E.elim)
   have K:Hid (∀ I,Frm [] h I→MvAt I g (j*4) (eN L i j)∧MvAt I g (i*4) (eN L i i)):=vi fun I O=>⟨(H.out.frm O).at X,(H.out.frm O).at V⟩
   refine bH [] (fk 13) (by kernel_rfl) ?_
   refine cnt 2 ?_
   iterate 2
    refine hcP ?_ ?_ ?_
    rotate_left
    ·intro w'
     go_simp
     try rfl
    try simp only[nrm,Nat.reduceAdd]
   refine tcn ?_
   refine cnt 0 ?_
   iterate 2
    refine hcL ?_ ?_ ?_
    rotate_left
    ·intro w' G
     obtain⟨⟨aB,aC,aD,aE⟩,⟨aF,aG,aH,aI⟩⟩:=K.out w' ((Frm.refl [] h).drew.trans G)
     clear G
     go_simp
     try rfl
    try simp only[nrm,Nat.reduceAdd]
   refine tcn ?_
   refine cnt 4 ?_
   iterate 9
    refine hcL ?_ ?_ ?_
    rotate_left
    ·intro w' G
     obtain⟨⟨aB,aC,aD,aE⟩,⟨aF,aG,aH,aI⟩⟩:=K.out w' ((Frm.refl [] h).drew.trans G)
     clear G
     go_simp
     try rfl
    try simp only[nrm,Nat.reduceAdd]
   refine tcn ?_
   refine bE 13 ?_
   refine az (i:=13) rfl (by rfl) (by rfl) (fun A a=>?_)
   refine iH (g:=g) (n:=n) (i:=i) (M:=eN L i) _ _ (eN L i j) rfl rfl rfl (H.out.frm ((Frm.refl _ _).drew)) V ?_
   intro aA ad S
   have ak:=vi ad
   have ah:Hid (Frm [g] h aA):=vi ((((Frm.refl [] h).drew).mono (by simp)).trans S)
   clear ad S
   refine a.out _ _ ?_
   clear a A
   try simp only[nrm]
   refine bE 14 ?_
   refine az (i:=14) rfl (by rfl) (by rfl) (fun A a=>?_)
   go_simp
   (skip)
   refine a.out _ _ ?_
   clear a A
   try simp only[nrm]
   refine bE 15 ?_
   refine az (i:=15) rfl (by rfl) (by rfl) (fun A a=>?_)
   refine iH (g:=g) (n:=n) (i:=j) (M:=fun k=>if k=i then eN L i j else eN L i k) _ _ (eN L i i) rfl rfl rfl ak.out X ?_
   intro af ae U
   have al:=vi ae
   have ai:Hid (Frm [g] h af):=vi (ah.out.trans U)
   clear ae U
   refine a.out _ _ ?_
   clear a A
   try simp only[nrm]
   refine aR (by kernel_rfl) ?_ _
   subst ar
   have aN:=J.out
   have ab:RvR af g n (eN L (i+1)):=by
    have:=al.out
    rwa [show (fun k=>if k=j then eN L i i else if k=i then eN L i j else eN L i k)=eN L (i+1) from funext fun k=>qm (by omega) hlt k] at this
   have aj:=vi ab
   clear ab
   go_wp2
   exact⟨⟨i+1,⟨rfl,by congr 1;omega⟩,by omega,by omega,aj.out,N.out.trans ai.out⟩,by simp[intOf];omega⟩
  ·have av:¬ (i:Int)<(j:Int):=by omega
   go_wp2
   refine bodyPost_ret (results_none rfl _ _ _) rfl ?_
   exact⟨_,rfl,uv H.out (by simpa using J.out) (fun k m aw=>sh (by have:=J.out;omega) aw),N.out⟩
end Go.Proofs.YtohfkhjlnlahdaaGreat
namespace Go.Proofs.YtohfkhjlnlahdaaGreat
open Go.RowKit Go.BigFrame Go.Maps
set_option maxRecDepth 100000 in
theorem oJ (ao:Option Addr) (cap:Nat) (w:World):Calls Tryz.prog 177 #[.slice ao 0 cap] w (aU fun _ w'=>w=w'):=by
 go_enter Tryz.func177,Tryz.ntmps177
 go_wp2
 go_loopw [2,3] (fun s2 s3 wr=>(s2=.int .i64 0∧s3=.int .i64 (-1))∧w=wr) (fun _ _ _=>0)
 case atStart=>exact⟨⟨rfl,rfl⟩,rfl⟩
 case round =>
  obtain⟨⟨rfl,rfl⟩,rfl⟩:=hrel
  go_wp2
  refine bodyPost_ret (results_none rfl _ _ _) rfl ?_
  exact⟨_,rfl,rfl⟩
set_option maxRecDepth 100000 in
theorem mT {L:List Mv} {base:Nat} {v:Value} {w:World} (a:w.ownsRow base 44 4 v L.length (mvC L)) (J:L.length≤1000000) :
  Calls Tryz.prog 119 #[v] w (aU fun u w'=>u=v∧Arr 4 MvAt w' v L.reverse∧Frm v.ownBlock.toList w w'):=by
 by_cases h0:L.length=0
 ·obtain⟨ao,cap,rfl⟩:=an a
  have N:L=[]:=List.length_eq_zero_iff.1 h0
  subst N
  have h:=vi (oJ ao cap w)
  have K:Hid (Arr 4 MvAt w (.slice ao 0 cap) (List.reverse [])):=vi ⟨_,_,rfl,fun i m O=>by simp at O⟩
  clear a
  simp only[List.length_nil]
  go_enter Tryz.func119,Tryz.ntmps119
  go_wp2_with (first
   | (go_at_call 177;go_must (refine h.out.mono ?_;rintro e w' ⟨v,rfl,rfl⟩)))
  go_ret
  exact⟨_,rfl,rfl,K.out,Frm.refl _ _⟩
 ·obtain⟨g,cap,rfl,G⟩:=uT a h0
  have h:=vi (oH g L.length cap L w rfl (by omega) J G)
  clear a G
  go_enter Tryz.func119,Tryz.ntmps119
  go_wp2_with (first
   | (go_at_call 177;go_must (refine h.out.mono ?_;rintro e w' ⟨v,rfl,A,E⟩;have H:=vi A;have I:=vi E;clear A E)))
  go_ret
  exact⟨_,rfl,rfl,H.out,I.out⟩
def mU (a:Nat) (w:World):Nat:=(intOf ((w.cell? ⟨a,1,none⟩).getD undef)+1).toNat
abbrev ndA (d:Nd × Nat):Array Value:=#[.pointer (some ⟨d.2,0,none⟩),.int .i64 d.1.par,.int .i64 d.1.mv.kind,.int .i64 d.1.mv.role,.int .i64 d.1.mv.step,.int .i64 d.1.mv.place,.int .i64 d.1.lvl]
theorem mV {a:Nat} {w:World} {d:Nd × Nat} {t:TypeId} (h:w.heap[a]?=some (.cells (ndA d) t (0,0))):mU a w=(d.1.par+1).toNat:=by
 have A:w.cell? ⟨a,1,none⟩=some (.int .i64 d.1.par):=ae h 1
 unfold mU
 rw[A]
 rfl
set_option maxHeartbeats 4000000 in
set_option maxRecDepth 100000 in
theorem oF {G:World} {s:SesD} {bE a0 lim bB i:Nat} {bD:Bool} {E:List (Nd × Nat)} (R:SpO G s bE bD a0 E) (aV:SI s lim bB (E.map Prod.fst)) (bl:i<E.length) (bF:E.length≤200000) :
  Calls Tryz.prog 58 #[.pointer (some ⟨a0,0,none⟩),.int .i64 i] G (aU fun v w'=>∃ u,v=.tuple #[u,.int .i64 0]∧Arr 4 MvAt w' u (dq (E.map Prod.fst) i)∧Frm [] G w'):=by
 have bd:=vi R;have N:=vi aV
 obtain⟨d,aq⟩:∃ d,E[i]?=some d:=⟨_,List.getElem?_eq_getElem bl⟩
 have aC:=vi (l9 R aq (by omega))
 have a6:=vi aq
 clear R aV aq
 go_enter Tryz.func58,Tryz.ntmps58
 go_wp2_with (first
  | (go_at_call 118;go_must (refine aC.out.mono ?_;rintro e ab ⟨rfl,S⟩;have ad:=vi S;clear S)))
 have az:=heap_alloc_new ab (.cells (ndA d) 216)
 have aR:Frm [] G (ab.alloc (.cells (ndA d) 216)):=ad.out.alloc _
 have ax:G.heap.size≤ab.heap.size:=ad.out.size
 obtain⟨h,bn⟩:∃ h,ab.heap.size=h:=⟨_,rfl⟩
 rw[bn] at az ax ⊢
 have ba:=vi az;have a7:=vi aR;have a8:=vi ax
 clear az aR ax ad aC
 go_loopw [4,5] (fun s4 s5 wr=>∃ (c:Nat) (e:Nd × Nat) (a:List Mv) (ao:Option Addr) (U:Nat),(s4=.slice ao a.length U∧s5=.int .i64 0)∧E[c]?=some e∧a.length+c≤i∧dq (E.map Prod.fst) i=dq (E.map Prod.fst) c++a.reverse∧wr.ownsRow G.heap.size 44 4 (.slice ao a.length U) a.length (mvC a)∧wr.heap[h]?=some (.cells (ndA e) 216 (0,0))∧Frm [] G wr) (fun _ _ w=>mU h w)
 case atStart=>exact⟨i,d,[],none,0,⟨rfl,rfl⟩,a6.out,by simp,by simp,World.ownsRow_nil _ _ _ _,ba.out,a7.out⟩
 case round =>
  obtain⟨c,e,a,ao,U,⟨rfl,rfl⟩,ar,bG,aB,W,K,S⟩:=hrel
  obtain⟨J,bq⟩:∃ J,J=wr:=⟨_,rfl⟩
  subst bq
  have aP:=vi aB;have af:=vi W;have aL:=vi K;have aK:=vi S
  have I:(E.map Prod.fst)[c]?=some e.1:=by rw[List.getElem?_map,ar];rfl
  have aZ:J.cell? ⟨h,1,none⟩=some (.int .i64 e.1.par):=ae K 1
  by_cases hp:0≤e.1.par
  ·have ap:0<c:=by
    rcases Nat.eq_zero_or_pos c with A | A
    ·subst A
     rw[N.out.one] at I
     rw[← Option.some.inj I] at hp
     exact absurd hp (show ¬ (0:Int)≤-1 by decide)
    ·exact A
   obtain⟨p,b,X,bo,hb,-⟩:=N.out.par c e.1 I ap
   have bH:=ag ar
   obtain⟨O,au⟩:∃ O,E[p]?=some O:=⟨_,List.getElem?_eq_getElem (by omega)⟩
   have aa:(E.map Prod.fst)[p]?=some O.1:=by rw[List.getElem?_map,au];rfl
   have aW:O.1.par<p:=by
    rcases Nat.eq_zero_or_pos p with A | A
    ·subst A
     rw[N.out.one] at aa
     rw[← Option.some.inj aa]
     exact(show (-1:Int)<0 by decide)
    ·obtain⟨bL,b2,Y,al,-⟩:=N.out.par p O.1 aa A
     rw[Y];omega
   have be:=vi (nD N.out I X bo)
   have bw:J.cell? ⟨h,2,none⟩=some (.int .i64 e.1.mv.kind):=ae K 2
   have bx:J.cell? ⟨h,3,none⟩=some (.int .i64 e.1.mv.role):=ae K 3
   have bz:J.cell? ⟨h,4,none⟩=some (.int .i64 e.1.mv.step):=ae K 4
   have bA:J.cell? ⟨h,5,none⟩=some (.int .i64 e.1.mv.place):=ae K 5
   rw[X] at aZ
   have bK:(0:Int)≤(p:Int):=by omega
   have aG:=vi au;have aO:=vi X;have a9:=vi aW
   obtain⟨bu,bk,br,bs,bt⟩:=info_parts Tryz.infoMv
   have bp:G.heap.size≤(J.alloc (.cells #[.int .i64 e.1.mv.kind,.int .i64 e.1.mv.role,.int .i64 e.1.mv.step,.int .i64 e.1.mv.place] 44)).heap.size:=by have:=S.size;simp;omega
   have aX:(Value.slice ao a.length U).ownBlock≠some h:=fun R=>by
    obtain⟨bg,V⟩:=ak W R
    rw[K] at V;cases V
   have bc:=vi aX
   clear aB W K S I aa hp X hb ar au aW aX
   go_wp2_with (first
    | (at_builtin;refine wpList_append_own_at _ rfl _ _ 31 rfl G.heap.size 44 bu (.agg #[.int .i64 0,.int .i64 0,.int .i64 0,.int .i64 0]) 4 32 Tryz.underlying31 bk br bs bt rfl (by decide) (.slice ao a.length U) a.length (mvC a) rfl (af.out.alloc _) ⟨J.heap.size,0,none⟩ 1 1 (eQ e.1.mv) rfl rfl (cA _ _ _) (by simp[eQ,Value.oneCell']) (by unfold maxLen;omega) (by omega) bp ?_;intro v' a1 aA aw _ _;obtain⟨ai,aj,rfl⟩:=an aA;have aS:Frm [] G a1:=(aK.out.alloc _).grown aw (fun k H=>.inr (aF af.out H));have am:=bJ aw (ah aL.out) bc.out;have aH:=vi aS;have aM:=vi am;have aN:=vi aA;have bv:a1.cell? ⟨h,1,none⟩=some (.int .i64 (p:Int)):=by { rw[← aO.out];exact ae am 1 };clear aw aA am aS aZ bw bx bz bA)
    | (go_at_call 118;go_must (refine(l9 (bd.out.frm aH.out) aG.out (by omega)).mono ?_;rintro bi bC ⟨rfl,av⟩;have aI:=vi av;have bb:=vi (av.at aM.out (by simp));clear av bv))
    | (refine aD rfl 216 _ _ rfl _ _ _ 216 rfl rfl bb.out rfl Tryz.infoNode (nk _ _ _ _ _ _ _) ?_;intro a2 aQ aT;have aE:=vi aQ;have aJ:=vi aT;clear aQ aT))
   have bm:mU h a2<mU h J:=by
    rw[mV (d:=O) aE.out,mV aL.out,aO.out]
    have:=a9.out
    omega
   have ay:(a++[e.1.mv]).length=a.length+1:=by simp
   have bj:a2.ownsRow G.heap.size 44 4 (.slice ai (a.length+1) aj) (a.length+1) (mvC (a++[e.1.mv])):=by
    have A:(Value.slice ai (a.length+1) aj).ownBlock≠some h:=fun R=>by
     obtain⟨bg,V⟩:=ak aN.out R
     rw[aM.out] at V;cases V
    have bh:mvC (a++[e.1.mv])=mvC a++eQ e.1.mv:=by rw[gA];simp[mvC]
    rw[bh]
    exact aJ.out.owns (aI.out.owns aN.out (by simp)) (fun k H I=>by
     rw[List.mem_singleton] at I
     rw[I] at H
     exact A H)
   refine⟨⟨p,O,a++[e.1.mv],ai,aj,⟨by rw[ay],rfl⟩,aG.out,by rw[ay];omega,?_,by rw[ay];exact bj,aE.out,(aH.out.trans aI.out).then aJ.out (fun k H=>?_)⟩,bm⟩
   ·rw[aP.out,be.out,List.reverse_append,List.append_assoc];rfl
   ·rw[List.mem_singleton] at H
    subst H
    exact .inr a8.out
  ·have bI:¬ (0:Int)≤e.1.par:=hp
   have ap:c=0:=by
    rcases Nat.eq_zero_or_pos c with A | A
    ·exact A
    ·obtain⟨p,b,X,-⟩:=N.out.par c e.1 I A
     omega
   subst ap
   have aY:=nB N.out
   have a3:=vi (mT W (by omega))
   have bf:=vi aY
   clear aB W K S I aY
   go_wp2_with (first
    | (go_at_call 119;go_must (refine a3.out.mono ?_;rintro bi bC ⟨v,rfl,rfl,Y,al⟩;have a4:=vi Y;have a5:=vi al;clear Y al)))
   go_ret2
   refine⟨_,rfl,_,rfl,?_,aK.out.then a5.out (fun k H=>?_)⟩
   ·rw[aP.out,bf.out,List.nil_append];exact a4.out
   ·rw[Option.mem_toList] at H;exact .inr (aF af.out H)
end Go.Proofs.YtohfkhjlnlahdaaGreat
namespace Go.Proofs.YtohfkhjlnlahdaaGreat
open Go.RowKit Go.BigFrame
theorem BxR.zero {h:World} {b:Nat} (A:h.heap[b]?=some (.cells #[.slice none 0 0,.slice none 0 0,.slice none 0 0] 61 (0,0))):BxR h b:=by
 refine⟨⟨_,A⟩,fun o v a=>?_⟩
 rw[ae A] at a
 match o,a with
 | 0,a=>cases a;exact⟨_,_,_,rfl,fun g E e=>by cases e⟩
 | 1,a=>cases a;exact⟨_,_,_,rfl,fun g E e=>by cases e⟩
 | 2,a=>cases a;exact⟨_,_,_,rfl,fun g E e=>by cases e⟩
 | o+3,a=>simp at a
end Go.Proofs.YtohfkhjlnlahdaaGreat
namespace Go.Proofs.YtohfkhjlnlahdaaGreat
open Go.RowKit Go.BigFrame
structure PlS (w:World) (s:SesD) (ao:Option Addr) (cap yb fb b10 sb:Nat) (x:PS) (W:World):Prop where
 f:Frm [] w W
 b0:W.heap[w.heap.size]?=some (.cells #[.string s.name,.slice ao s.roles.length cap,.int .i64 s.cls,.int .i64 s.cap] 25 (0,0))
 sy:SyR W s yb fb
 st:StR W s yb sb x
 ok:PSok s x
 lo:w.heap.size<b10
 bx:∃ ba bb bw bi ca cb cw,W.heap[b10]?=some (.cells #[.slice (some ⟨ba,0,none⟩) s.roles.length ca,.slice (some ⟨bb,0,none⟩) s.roles.length cb,.slice (some ⟨bw,0,none⟩) s.roles.length cw] 61 (0,0))∧RO W s ba bb bw bi x ∧
  w.heap.size≤ba∧w.heap.size≤bb∧w.heap.size≤bw∧∀ i,i<s.roles.length→w.heap.size≤bi i
section
variable {w W V Z:World} {s:SesD} {ao:Option Addr} {cap yb fb b10 sb sb':Nat} {x y:PS}
theorem PlS.frm (a:PlS w s ao cap yb fb b10 sb x W) (h:Frm [] W V):PlS w s ao cap yb fb b10 sb x V:=by
 obtain⟨A,E,H,G,I,cb,J,K,N,O⟩:=a.bx
 exact⟨a.f.trans h,h.at a.b0 (by simp),a.sy.frm h,a.st.frm h,a.ok,a.lo,A,E,H,G,I,cb,J,h.at K (by simp),N.frm h,O⟩
theorem PlS.val (H:PlS w s ao cap yb fb b10 sb x W):∃ a h A E cb G,W.heap[b10]?=some (.cells #[.slice (some ⟨a,0,none⟩) s.roles.length E,.slice (some ⟨h,0,none⟩) s.roles.length cb,.slice (some ⟨A,0,none⟩) s.roles.length G] 61 (0,0)) ∧
  RSt w.heap.size W s (.agg #[.slice (some ⟨a,0,none⟩) s.roles.length E,.slice (some ⟨h,0,none⟩) s.roles.length cb,.slice (some ⟨A,0,none⟩) s.roles.length G]) x:=by
 obtain⟨a,h,A,I,E,cb,G,J,K,N⟩:=H.bx
 exact⟨a,h,A,E,cb,G,J,⟨a,h,A,I,E,cb,G,rfl,K,N⟩,H.ok⟩
theorem PlS.start (U:Frm [] w W) (S:W.heap[w.heap.size]?=some (.cells #[.string s.name,.slice ao s.roles.length cap,.int .i64 s.cls,.int .i64 s.cap] 25 (0,0))) (E:SyR W s yb fb) (Y:w.heap.size<b10)
  {h:Array Value} (A:RSt w.heap.size W s (.agg h) (bg s)) (aa:0<s.roles.length) (G:BxR W b10) (hb:Z.heap[b10]?=some (.cells h 61 (0,0))) (a:Frm [b10] W Z) (X:Kt [61] W Z):PlS w s ao cap yb fb b10 fb (bg s) Z:=by
 obtain⟨H,I,K,J,N,O,R,e,ad,ae⟩:=A.out
 cases e
 exact⟨U.then a (by intro q ab;simp at ab;omega),a.at S (by simp;omega),E.bx G a,E.first.bx aa G a,A.ok,Y,H,I,K,J,N,O,R,hb,
  ad.kt X (by decide) (by decide) (by decide) (by decide) (by decide) (by decide),ae⟩
theorem PlS.put (E:PlS w s ao cap yb fb b10 sb x W) (aa:Frm [] W V) (af:StR V s yb sb' y) {A:Array Value} (H:RSt w.heap.size V s (.agg A) y) (G:0<s.roles.length) (hb:Z.heap[b10]?=some (.cells A 61 (0,0))) (h:Frm [b10] V Z) (ab:Kt [61] V Z):PlS w s ao cap yb fb b10 sb' y Z:=by
 have a:=E.frm aa
 obtain⟨ai,aj,al,ak,am,cb,an,X,Y,ap⟩:=a.bx
 have I:=Y.bx G X
 have ad:=E.lo
 obtain⟨J,K,O,N,R,S,U,e,ag,ah⟩:=H.out
 cases e
 exact⟨a.f.then h (by intro q ae;simp at ae;omega),h.at a.b0 (by simp;omega),a.sy.bx I h,af.bx G I h,H.ok,ad,J,K,O,N,R,S,U,hb,
  ag.kt ab (by decide) (by decide) (by decide) (by decide) (by decide) (by decide),ah⟩
end
end Go.Proofs.YtohfkhjlnlahdaaGreat
