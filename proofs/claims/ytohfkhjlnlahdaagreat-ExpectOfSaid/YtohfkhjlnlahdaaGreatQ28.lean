/- Part of the proof. -/
import Derived.Test.YtohfkhjlnlahdaaGreatQ04
import Derived.Test.YtohfkhjlnlahdaaGreatQ24
import Derived.Test.YtohfkhjlnlahdaaGreatQ17
import Derived.Test.YtohfkhjlnlahdaaGreatQ27
set_option linter.all false
namespace Go.Proofs.YtohfkhjlnlahdaaGreat
open Go.RowKit Go.BigFrame
structure DefsOk (cs:List CtrD):Prop where
 n:cs.length≤4
 ne:∀ c∈cs,c.name≠aG
 lo:∀ c∈cs,1≤c.lim∧c.lim≤1000
 un:∀ (i j:Nat) (a b:CtrD),cs[i]?=some a→cs[j]?=some b→a.name=b.name→i=j
def dJ (a:List CtrD):List (CtrD × Int):=a.map fun c=>(c,0)
theorem fB (a:List CtrD):(dJ a).length=a.length:=by unfold dJ;rw[List.length_map]
theorem oO {a:List CtrD} {i:Nat} {c:CtrD} (h:a[i]?=some c):dJ (a.take (i+1))=dJ (a.take i)++[(c,0)]:=by
 unfold dJ
 rw[List.take_add_one,h,List.map_append];rfl
theorem qr {h:List CtrD} (E:DefsOk h) {i:Nat} {c:CtrD} (G:h[i]?=some c):fm (dJ (h.take i)) c.name=-1:=by
 refine cn fun x A=>?_
 unfold dJ at A
 rw[List.mem_map] at A
 obtain⟨d,H,rfl⟩:=A
 obtain⟨j,a⟩:=List.getElem?_of_mem H
 rw[List.getElem?_take] at a
 split at a
 ·rename_i I
  rw[decide_eq_false_iff_not]
  intro e
  have:=E.un j i d c a G e
  omega
 ·cases a
theorem Tryz.infoCn:(Tryz.prog.info? 246).map (fun i=>(i.zero,i.size,i.bytes))=some (some (.agg #[.string { data:=#[] },.int .i64 0,.int .i64 0]),3,32):=by kernel_rfl
def uQ (w:World) (l:List (CtrD × Int)) (u:Value) (w':World):Prop:=∃ a,u=.tuple #[.pointer (some ⟨a,0,none⟩),.int .i64 0]∧GO 248 246 3 w a 1 #[.bool true,undef] l.length (cnC l) w'
theorem GO.bnk {w a:World} {h:Nat} {l:List (CtrD × Int)} (A:GO 248 246 3 w h 1 #[.bool true,undef] l.length (cnC l) a):Bnk a h l:=by
 obtain⟨ao,cap,E,G⟩:=A.bx
 exact⟨_,E,uo G⟩
set_option maxHeartbeats 4000000 in
set_option maxRecDepth 100000 in
theorem rI (v:Value) (a:List CtrD) (w:World) (J:Arr 2 CtAt w v a) (ah:DefsOk a):Calls Tryz.prog 114 #[v] w (aU (uQ w (dJ a))):=by
 obtain⟨ao,cap,rfl,ay⟩:=J
 have aD:=vi ay
 have I:=vi ah
 obtain⟨n,af⟩:∃ n,a.length=n:=⟨_,rfl⟩
 have H:=vi af
 have aE:¬ 4<(n:Int):=by have:=ah.n;omega
 rw[af]
 obtain⟨U,K⟩:∃ U,w.alloc (.cells #[.bool true,.slice none 0 0] 248)=U:=⟨_,rfl⟩
 have ar:Hid (GO 248 246 3 w w.heap.size 1 #[.bool true,undef] 0 (cnC (dJ (a.take 0))) U):=vi (GO.made (by rw[← K];exact(Frm.refl _ _).alloc _) (Nat.le_refl _) (by rw[← K];exact heap_alloc_new _ _) rfl)
 have aq:=vi K
 clear ay ah af K
 go_enter Tryz.func114,Tryz.ntmps114
 go_wp2
 rw[aq.out]
 clear aq aE
 go_loopw [14] (fun s14 aS=>∃ i:Nat,s14=.int .i64 i∧i≤n∧GO 248 246 3 w w.heap.size 1 #[.bool true,undef] i (cnC (dJ (a.take i))) aS) (fun s14 _=>n - (intOf s14).toNat)
 case atStart=>exact⟨0,rfl,Nat.zero_le _,ar.out⟩
 case round =>
  obtain⟨i,rfl,a4,av⟩:=hrel
  have G:=vi av
  clear ar av
  by_cases hlt:i<n
  ·have a6:(i:Int)<(n:Int):=by omega
   obtain⟨c,E⟩:∃ c,a[i]?=some c:=⟨_,List.getElem?_eq_getElem (by rw[H.out];exact hlt)⟩
   have ad:=List.mem_of_getElem? E
   obtain⟨b,o,rfl,c0,W⟩:=aD.out i c E
   replace c0:=G.out.fr.keep c0
   replace W:=G.out.fr.keep W
   have aH:c.name.toList.isEmpty=false:=dF (I.out.ne c ad)
   obtain⟨aN,aP⟩:=I.out.lo c ad
   have aO:¬ c.lim<1:=by omega
   have aQ:¬ 1000<c.lim:=by omega
   have O:(dJ (a.take i)).length=i:=by rw[fB,List.length_take];have:=ag E;omega
   have ak:Hid (∀ A,Frm [] wr A→Calls Tryz.prog 137 #[.pointer (some ⟨w.heap.size,0,none⟩),.string c.name] A (Ret (.int .i64 (-1)) (Frm [] A))):=vi fun A aG=>by
    have hb:Bnk A w.heap.size (dJ (a.take i)):=GO.bnk (by rw[O];exact G.out.frm aG)
    have:=fe w.heap.size _ c.name A hb (by rw[O];have:=H.out;have:=I.out.n;omega)
    rwa [qr I.out E] at this
   have aB:=vi (oO E)
   have aT:=vi O
   clear E ad aN aP O
   obtain⟨aM,aI,aJ,aK,aL⟩:=info_parts Tryz.infoCn
   have ap:Hid ((wr.alloc (.cells #[.string c.name,.int .i64 c.lim] 244)).heap[wr.heap.size]?=some (.cells #[.string c.name,.int .i64 c.lim] 244 (0,0))):=vi (heap_alloc_new _ _)
   go_upto_region 9 with (first
    | (go_at_call 137;go_must (refine(ak.out _ ((Frm.refl [] wr).alloc _)).mono ?_;rintro e h ⟨rfl,aa⟩;have az:Hid (Frm [] wr h):=vi (((Frm.refl [] wr).alloc _).trans aa);have am:=vi (aa.at ap.out (by simp));clear aa)))
   clear c0 W aO aQ aH ak ap
   have R:=vi (G.out.frm az.out)
   obtain⟨V,cb,N,au⟩:=R.out.bx
   have X:h.heap[w.heap.size]?=some (.cells #[.bool true,.slice V i cb] 248 (0,0)):=N
   have al:=vi N;have S:=vi au
   have aX:=ae X 1
   have a1:=aj X 1
   have aZ:=ae am.out 0
   have a0:=ae am.out 1
   have a7:=lt_of_block N
   have a5:i<4:=by have:=I.out.n;have:=H.out;omega
   clear N au X
   generalize aF:Exit.inBlock _ _=QQ
   refine wp_mono (Q:=fun e a' w'=>match e with | .normal=>QQ .normal a' w' | _=>False) ?_ (fun e a' w' J=>by cases e <;> first | exact J | exact J.elim)
   go_region_law (first
    | (refine cV rfl _ _ 241 rfl w.heap.size 246 aM (.agg #[.string { data:=#[] },.int .i64 0,.int .i64 0]) 3 32 Tryz.underlying241 aI aJ aK aL rfl (by decide) (.slice V i cb) i (cnC (dJ (a.take i))) ?_ (((Frm.refl [] h).drew.alloc _).owns S.out (by simp)) ⟨h.heap.size,0,none⟩ 1 1 [.string c.name,.int .i64 c.lim,.int .i64 0] ?_ rfl (cA h.drew _ _) ?_ ?_ ?_ ?_ ?_;(focus (go_simp;done));(focus (go_simp;done));(focus (simp[Value.oneCell'];done));(focus (unfold maxLen;omega));(focus omega);(focus (have:=R.out.fr.size;simp;omega));intro v' aR ai ab;obtain⟨aV,aW,rfl⟩:=an ai;have aw:=GO.step R.out al.out S.out (by decide) ((Frm.refl [] h).drew.alloc _) ab ai;have Y:aR.heap[w.heap.size]?=some (.cells #[.bool true,.slice V i cb] 248 (0,0)):=GO.facts al.out S.out (by decide) ((Frm.refl [] h).drew.alloc _) ab;have aY:=ae Y 1;have a2:=aj Y 1;have aA:=vi aw.1;clear aw Y ai ab))
   all_goals
    subst aF
    go_wp2
    refine⟨⟨i+1,congrArg (Value.int .i64) (by omega),hlt,?_⟩,by simp[intOf];omega⟩
    rw[aB.out,oy]
    exact aA.out
  ·obtain rfl:i=n:=by omega
   have a3:¬ (i:Int)<(i:Int):=by omega
   have ax:a.take i=a:=by rw[← H.out,List.take_length]
   have aC:=vi ax
   clear ax
   go_wp2
   go_ret2
   refine⟨_,rfl,_,rfl,?_⟩
   have:=G.out
   rw[aC.out] at this
   rw[fB,H.out]
   exact this
end Go.Proofs.YtohfkhjlnlahdaaGreat
