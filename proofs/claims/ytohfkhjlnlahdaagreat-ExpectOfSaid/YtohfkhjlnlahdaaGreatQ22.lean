/- Part of the proof. -/
import Derived.Test.YtohfkhjlnlahdaaGreatQ04
import Derived.Test.YtohfkhjlnlahdaaGreatQ20
import Derived.Test.YtohfkhjlnlahdaaGreatQ21
import Derived.Test.YtohfkhjlnlahdaaGreatQ17
import Derived.Laws.EntriesVeiled
import Derived.Laws.Concat
set_option linter.all false
namespace Go.Proofs.YtohfkhjlnlahdaaGreat
open Go.RowKit Go.BigFrame
structure AlV (W0:World) (rb tb:Nat) (sv cv tv:Value) (r:RolD) (x:StpD) (W:World):Prop where
 r:RBox W rb sv cv tv r
 t:W.heap[tb]?=some (.cells (ed x) 137 (0,0))
 fr:Frm [] W0 W
theorem AlV.frm {G A E:World} {rb J:Nat} {I H K:Value} {r:RolD} {x:StpD} (a:AlV G rb J I H K r x A) (h:Frm [] A E):AlV G rb J I H K r x E:=⟨a.r.frm h,h.at a.t (by simp),a.fr.trans h⟩
theorem j7 (k:Int):kFn k=.nilFunc∨∃ a,kFn k=.func (.func a) #[] #[]:=by
 unfold kFn
 repeat' split
 all_goals first | exact .inl rfl | exact .inr ⟨_,rfl⟩
def iy (k:Int) (f:StD):Bool:=if k=3 then decide (0<f.wait) else true
set_option maxHeartbeats 1000000 in
theorem mj (f:StD) (w:World):Calls Tryz.prog 210 #[.agg #[.string f.name,.bool f.fin,.int .i64 f.wait]] w (Ret (.bool true) (Frm [] w)):=by
 go_enter Tryz.func210,Tryz.ntmps210
 go_wp2
 go_ret
 exact⟨rfl,(Frm.refl _ _).alloc _⟩
set_option maxHeartbeats 1000000 in
theorem ml (f:StD) (w:World):Calls Tryz.prog 211 #[.agg #[.string f.name,.bool f.fin,.int .i64 f.wait]] w (Ret (.bool (decide (0<f.wait))) (Frm [] w)):=by
 go_enter Tryz.func211,Tryz.ntmps211
 go_wp2
 go_ret
 exact⟨rfl,(Frm.refl _ _).alloc _⟩
theorem Tryz.call_rKinds1 (args:Array Value) (w:World):(callFunc 210 args).run Tryz.prog w=.ok (.enter 210 args) w:=by kernel_rfl
theorem Tryz.call_rKinds2 (args:Array Value) (w:World):(callFunc 211 args).run Tryz.prog w=.ok (.enter 211 args) w:=by kernel_rfl
theorem q9 (k:Int) (A:kOk k=true):∃ h,kFn k=.func (.func h) #[] #[]∧(∀ args w,(callFunc h args).run Tryz.prog w=.ok (.enter h args) w) ∧
  ∀ (a:World) (f:StD),Calls Tryz.prog h #[.agg #[.string f.name,.bool f.fin,.int .i64 f.wait]] a (Ret (.bool (iy k f)) (Frm [] a)):=by
 unfold kOk at A
 simp only[Bool.and_eq_true,decide_eq_true_eq] at A
 unfold kFn iy
 by_cases h3:k=3
 ·subst h3
  exact⟨211,rfl,Tryz.call_rKinds2,fun a f=>ml f a⟩
 ·simp only[if_neg h3]
  refine⟨210,?_,Tryz.call_rKinds1,fun a f=>mj f a⟩
  split
  ·rfl
  ·split
   ·rfl
   ·rw[if_pos (by omega)]
theorem pZ (r:RolD) (n:Nat) (x:StpD):(kOk x.kind=false∧aY r n x=false)∨(kOk x.kind=true∧bK r x.frm<0∧aY r n x=false) ∨
  ∃ (p:Nat) (f:StD),bK r x.frm=p∧r.sts[p]?=some f∧kOk x.kind=true ∧
    ((bK r x.to<0∧aY r n x=false)∨(0≤bK r x.to∧decide (x∈r.steps.take n)=true∧aY r n x=false) ∨
     (0≤bK r x.to∧decide (x∈r.steps.take n)=false∧iy x.kind f=false∧aY r n x=false) ∨
     (0≤bK r x.to∧decide (x∈r.steps.take n)=false∧iy x.kind f=true∧aY r n x=(bp r x && dp r x f))):=by
 have a:=eF (p:=fun s:StD=>decide (s.name=x.frm)) (l:=r.sts)
 unfold aY
 cases hk:kOk x.kind with
 | false =>
   left
   refine⟨rfl,?_⟩
   cases hf:r.sts.find? (fun s=>decide (s.name=x.frm)) with
   | none=>rfl
   | some f =>
     simp only
     have:dp r x f=false:=by
      unfold kOk at hk
      simp only[Bool.and_eq_false_iff,decide_eq_false_iff_not] at hk
      unfold dp
      rw[if_neg (by omega),if_neg (by omega),if_neg (by omega)]
     rw[this];simp
 | true =>
   right
   cases hf:r.sts.find? (fun s=>decide (s.name=x.frm)) with
   | none =>
     rw[hf] at a
     left
     refine⟨rfl,?_,rfl⟩
     show ixf _ _<0
     simp only at a
     omega
   | some f =>
     rw[hf] at a
     obtain⟨p,A,E,-⟩:=a
     right
     refine⟨p,f,A,E,rfl,?_⟩
     simp only
     have H:(r.steps.take n).contains x=decide (x∈r.steps.take n):=by
      rw[Bool.eq_iff_iff,List.contains_iff_mem,decide_eq_true_eq]
     rw[H]
     by_cases ht:bK r x.to<0
     ·left;exact⟨ht,by rw[decide_eq_false (p:=0≤bK r x.to) (by omega)];simp⟩
     ·right
      have h:0≤bK r x.to:=by omega
      rw[decide_eq_true h]
      cases hc:decide (x∈r.steps.take n) with
      | true=>left;exact⟨h,rfl,by simp⟩
      | false =>
        right
        cases hfr:iy x.kind f with
        | false =>
          left
          refine⟨h,rfl,rfl,?_⟩
          have:dp r x f=false:=by
           unfold iy at hfr
           split at hfr
           ·rename_i G
            unfold dp
            rw[if_neg (by omega),if_pos G,hfr,Bool.and_false]
           ·cases hfr
          rw[this];simp
        | true=>right;exact⟨h,rfl,rfl,by simp⟩
theorem Tryz.elem85:Tryz.prog.elem 85=137:=by kernel_rfl
theorem Tryz.under85:Tryz.prog.underlying 85=some (.slice (Tryz.prog.elem 85)):=by rw[Tryz.elem85];exact Tryz.underlying85
theorem p5 {b o n m cap:Nat} (h:n≤m) (A:m≤cap):∀ a,(Instr.sliceAt 85 (.slice (some ⟨b,o,none⟩) m cap) none (some (.int .i64 (n:Int))) none).run Tryz.prog a=.ok (.slice (some ⟨b,o,none⟩) n cap) a:=fun a=>by
 rw[run_sliceAt_slice a 85 _ _ _ _ Tryz.under85,run_slice_h a 85 (some ⟨b,o,none⟩) m cap Tryz.under85 .i64 (n:Int) (by omega) (by omega),Tryz.elem85,Tryz.sizeOf137]
 simp only[Result.andThen,sliced,Int.toNat_natCast,Nat.zero_mul,Nat.sub_zero,Option.map_some,WideShapes.add_plain,Nat.add_zero]
 split <;> rfl
def b6 (r:RolD) (x:StpD):Bool:=if cM x.kind then (!aL x.msg || !aL x.peer || decide (x.peer=r.name)) else !(decide (x.msg=aG) && decide (x.peer=aG))
theorem sV {r:RolD} {x:StpD} {f:StD} (h:kOk x.kind=true) (a:iy x.kind f=true):dp r x f=!b6 r x:=by
 unfold kOk at h
 simp only[Bool.and_eq_true,decide_eq_true_eq] at h
 unfold dp b6 cM
 unfold iy at a
 by_cases h12:x.kind=1∨x.kind=2
 ·rw[if_pos h12,if_pos (by simpa using h12)]
  cases aL x.msg <;> cases aL x.peer <;> simp
 ·have A:¬ (decide (x.kind=1) || decide (x.kind=2))=true:=by simpa using h12
  rw[if_neg h12,if_neg A]
  by_cases h3:x.kind=3
  ·rw[if_pos h3] at a ⊢
   rw[a];simp
  ·rw[if_neg h3,if_pos (by omega)];simp
theorem sW (r:RolD) (x:StpD):(cM x.kind=true∧aL x.msg=false∧b6 r x=true)∨(cM x.kind=true∧aL x.msg=true∧aL x.peer=false∧b6 r x=true) ∨
  (cM x.kind=true∧aL x.msg=true∧aL x.peer=true∧b6 r x=decide (x.peer=r.name))∨(cM x.kind=false∧b6 r x=!(decide (x.msg=aG) && decide (x.peer=aG))):=by
 unfold b6
 cases cM x.kind <;> cases aL x.msg <;> cases aL x.peer <;> simp
theorem sX (h b:ByteArray):(((h++b).toList == ({ data:=#[] }:ByteArray).toList))=(decide (h=aG) && decide (b=aG)):=by
 rw[aK,Bool.eq_iff_iff,Bool.and_eq_true,decide_eq_true_eq,decide_eq_true_eq,decide_eq_true_eq]
 have e:∀ c:ByteArray,c=aG↔c.size=0:=fun c=>⟨fun a=>by rw[a];rfl,fun a=>ByteArray.ext (Array.eq_empty_of_size_eq_zero a)⟩
 rw[show ({ data:=#[] }:ByteArray)=aG from rfl,e,e,e,ByteArray.size_append]
 omega
theorem js {r:RolD} {x:StpD} (a:x.ctr=aG):bp r x=(decide (x.low=0) && decide (x.high=0) && decide (x.add=0)):=by unfold bp;rw[if_pos a]
theorem nV {r:RolD} {x:StpD} (h:x.ctr≠aG):(bL r.ctrs x.ctr<0∧bp r x=false)∨∃ (p:Nat) (c:CtrD),bL r.ctrs x.ctr=p∧r.ctrs[p]?=some c ∧
  ((x.low<0∧bp r x=false)∨(0≤x.low∧x.high<x.low∧bp r x=false)∨(0≤x.low∧x.low≤x.high∧x.add < -1000∧bp r x=false)∨(0≤x.low∧x.low≤x.high∧-1000≤x.add∧1000<x.add∧bp r x=false) ∨
   (0≤x.low∧x.low≤x.high∧-1000≤x.add∧x.add≤1000∧((c.lim<x.high∧bp r x=false)∨(x.high≤c.lim∧x.low+x.add<0∧bp r x=false)∨(x.high≤c.lim∧0≤x.low+x.add∧c.lim<x.high+x.add∧bp r x=false) ∨
    (x.high≤c.lim∧0≤x.low+x.add∧x.high+x.add≤c.lim∧bp r x=true)))):=by
 have a:=eF (p:=fun c:CtrD=>decide (c.name=x.ctr)) (l:=r.ctrs)
 unfold bp
 rw[if_neg h]
 cases hf:r.ctrs.find? (fun c=>decide (c.name=x.ctr)) with
 | none =>
   rw[hf] at a
   left
   simp only at a
   refine⟨?_,rfl⟩
   show ixf _ _<0
   omega
 | some c =>
   rw[hf] at a
   obtain⟨p,A,E,-⟩:=a
   right
   refine⟨p,c,A,E,?_⟩
   simp only[Bool.and_eq_false_iff,Bool.and_eq_true,decide_eq_false_iff_not,decide_eq_true_eq]
   omega
set_option maxHeartbeats 4000000 in
set_option maxRecDepth 100000 in
theorem kQ (v:Value) (r:RolD) (n:Nat) (x:StpD) (w:World) (G:RlV w v r) (ce:r.steps[n]?=some x) (cd:gL x.kind) (c4:r.steps.length≤100∧r.sts.length≤100∧r.ctrs.length≤100) (cH:∀ c∈r.ctrs,1≤c.lim∧c.lim≤1000) (c7:x.msg.size≤1000∧x.peer.size≤1000) :
  Calls Tryz.prog 209 #[v,.int .i64 n] w (Ret (.bool (aY r n x)) (Frm [] w)):=by
 obtain⟨dm,cX,dn,rfl,am⟩:=G
 obtain⟨ao,cap,e,cf⟩:=am.steps
 subst e
 obtain⟨b,o,rfl,cD⟩:=cf n x ce
 obtain⟨c0,cn,co,cp,cq,cr,cs,ct,cu⟩:=cD
 have cE:=aI c0
 have cJ:(n:Int)<(r.steps.length:Int):=by have:=ag ce;omega
 obtain⟨m,bg⟩:∃ m,r.steps.length=m:=⟨_,rfl⟩
 rw[bg] at cJ
 have ci:=vi bg
 obtain⟨aH,Y,cy,cc⟩:=am.sts
 obtain⟨ac,W,cx,b7⟩:=am.ctrs
 subst cy
 subst cx
 have cT:=vi cc;have cS:=vi b7
 obtain⟨U,br⟩:∃ U,r.sts.length=U:=⟨_,rfl⟩
 obtain⟨R,bq⟩:∃ R,r.ctrs.length=R:=⟨_,rfl⟩
 have ck:=vi br;have cj:=vi bq
 rw[bg,br,bq] at am
 rw[bg,br,bq]
 clear cc b7 br bq
 obtain⟨K,be⟩:∃ K,(w.alloc (.cells #[.string r.name,.slice aH U Y,.slice ac R W,.slice (some ⟨b,o,none⟩) m cap] 87)).alloc (.cells #[.string x.frm,.string x.to,.int .i64 x.kind,.string x.msg,.string x.peer,.string x.ctr,.int .i64 x.low,.int .i64 x.high,.int .i64 x.add] 137)=K:=⟨_,rfl⟩
 have bs:Hid (AlV w w.heap.size (w.heap.size+1) (.slice aH U Y) (.slice ac R W) (.slice (some ⟨b,o,none⟩) m cap) r x K):=vi (by
  have N:Frm [] w K:=by rw[← be];exact((Frm.refl _ _).alloc _).alloc _
  exact⟨⟨by rw[← be];exact ah (heap_alloc_new w _),am.frm N⟩,by rw[← be];exact aq (by simp),N⟩)
 have bO:=vi be
 clear am cf bg be
 go_enter Tryz.func209,Tryz.ntmps209
 go_upto_region 2 with fail
 rw[bO.out]
 clear bO c0 cn co cp cq cr cs ct cu cE
 have bx:K.cell? ⟨w.heap.size+1,2,none⟩=some (.int .i64 x.kind):=ae bs.out.t 2
 have aM:=vi cd
 have bW:Hid (∀ a,Frm [] K a→a.cell? ⟨w.heap.size+1,2,none⟩=some (.int .i64 x.kind)):=vi fun a N=>N.keep bx
 have cI:=aI bx
 clear cd
 go_cut [6,7] (fun s6 s7 wc=>∃ ba:Nat,s6=.pointer (some ⟨ba,0,none⟩)∧s7=.bool (kOk x.kind)∧wc.heap[ba]?=some (.cells #[.string (jl x.kind),.bool (cM x.kind),kFn x.kind] 279 (0,0))∧Frm [] K wc)
 case first =>
  rcases j7 x.kind with bC | ⟨aa,bC⟩
  all_goals
   have bT:=vi bC
   clear bC
   go_region_with (first
    | (go_at_call 169;refine(gu _).mono ?_;rintro e bb ⟨v,rfl,dk,rfl,an,N⟩;have bt:Hid (Frm [] K bb):=vi (by first | exact(Frm.refl [] K).drew.trans N | exact((Frm.refl [] K).alloc _).drew.trans N | exact((Frm.refl [] K).drew.alloc _).trans N);have cv:=bW.out bb bt.out;have c5:=aI cv;have cF:=(an bb (Frm.refl _ _) _ aM.out).1;have cG:=(an (bb.alloc (.cells #[.string { data:=#[] },.bool false,.nilFunc] 279)) ((Frm.refl _ _).alloc _) _ aM.out).1;simp only[bT.out] at cF cG;(try (have aR:bb.heap[K.heap.size]?=some (.cells #[.string { data:=#[] },.bool false,.nilFunc] 279 (0,0)):=(by first | exact N.at (k:=K.heap.size) (show (K.alloc _).drew.heap[K.heap.size]?=_ from heap_alloc_new K _) (by simp) | exact N.at (k:=K.heap.size) (show (K.drew.alloc _).heap[K.heap.size]?=_ from heap_alloc_new K.drew _) (by simp));have dt:=ae aR 0;have du:=ae aR 1;have dv:=ae aR 2;have dp:=aj aR 0;have dq:=aj aR 1;have dr:=aj aR 2;have df:=lt_of_block aR;have cm:=vi aR;clear aR));clear an N))
   all_goals
    go_wp2
    go_meet
    refine⟨_,rfl,rfl,?_,?_⟩
    ·rw[bT.out]
     first
      | exact heap_alloc_new bb _
      | exact(ap (ap (ap cm.out 0 _) 1 _) 2 _).trans rfl
    ·first
      | exact bt.out.alloc _
      | exact((bt.out.setCell _ (.inr (Nat.le_refl _)) _).setCell _ (.inr (Nat.le_refl _)) _).setCell _ (.inr (Nat.le_refl _)) _
 case rest =>
  obtain⟨ba,rfl,rfl,b8,N⟩:=hcut
  have a1:Hid (AlV w w.heap.size (w.heap.size+1) (.slice aH U Y) (.slice ac R W) (.slice (some ⟨b,o,none⟩) m cap) r x wc):=vi (bs.out.frm N)
  have bR:=vi b8
  clear N b8 bx cI bW bs
  have V:Hid (∀ a,Frm [] wc a→(a.cell? ⟨w.heap.size,0,none⟩=some (.string r.name)∧a.cell? ⟨w.heap.size,1,none⟩=some (.slice aH U Y)∧a.cell? ⟨w.heap.size,2,none⟩=some (.slice ac R W)∧a.cell? ⟨w.heap.size,3,none⟩=some (.slice (some ⟨b,o,none⟩) m cap)) ∧
    (a.cell? ⟨w.heap.size+1,0,none⟩=some (.string x.frm)∧a.cell? ⟨w.heap.size+1,5,none⟩=some (.string x.ctr))):=vi fun a X =>
   ⟨(a1.out.r.frm X).cells,X.keep (ae a1.out.t 0),X.keep (ae a1.out.t 5)⟩
  have bM:Hid (∀ a,Frm [] wc a→Calls Tryz.prog 207 #[.agg #[.string r.name,.slice aH U Y,.slice ac R W,.slice (some ⟨b,o,none⟩) m cap],.string x.frm] a (Ret (.int .i64 (bK r x.frm)) (Frm [] a))):=vi fun a X=>gx _ r x.frm a (a1.out.r.frm X).val (by omega)
  have bN:Hid (∀ a,Frm [] wc a→Calls Tryz.prog 205 #[.agg #[.string r.name,.slice aH U Y,.slice ac R W,.slice (some ⟨b,o,none⟩) m cap],.string x.ctr] a (Ret (.int .i64 (bL r.ctrs x.ctr)) (Frm [] a))):=vi fun a X=>gM _ r x.ctr a (a1.out.r.frm X).val (by omega)
  go_upto_region 3 with fail
  refine ay (by kernel_rfl) (by kernel_rfl) ?_
  repeat (first
   | go_big_quiet_skip
   | (refine wpQuiet_want (by rfl) (fun aa A=>?_)
      first
       | (refine quiet_move _ (by rfl) (A _ ?_))
       | (refine quiet_assign _ (by rfl) (A _ ?_))
       | (refine aV (.int .i64 (bK r x.frm)) 207 #[.agg #[.string r.name,.slice aH U Y,.slice ac R W,.slice (some ⟨b,o,none⟩) m cap],.string x.frm] (fun w' h=>?_) (fun w' h=>Ret.cq (bM.out w' h) (fun aN G=>h.trans G)) (A _ ?_)
          ·go_simp)
       | (refine aV (.int .i64 (bL r.ctrs x.ctr)) 205 #[.agg #[.string r.name,.slice aH U Y,.slice ac R W,.slice (some ⟨b,o,none⟩) m cap],.string x.ctr] (fun w' h=>?_) (fun w' h=>Ret.cq (bN.out w' h) (fun aN G=>h.trans G)) (A _ ?_)
          ·go_simp)
       | (apply Exists.intro
          refine⟨fun w' h=>?_,A _ ?_⟩
          ·(unfold Oper.quietAt
            obtain⟨⟨af,ai,ak,al⟩,cY,cZ⟩:=V.out w' h
            clear h
            go_simp
            try exact⟨rfl,rfl⟩
            try rfl))
      clear A aa
      try simp only[nrm,Act.eval,nrq]))
  refine wpQuiet_nil ?_
  intro aO bB
  have H:Hid (AlV w w.heap.size (w.heap.size+1) (.slice aH U Y) (.slice ac R W) (.slice (some ⟨b,o,none⟩) m cap) r x aO):=vi (a1.out.frm bB)
  have bS:=vi (bB.at bR.out (by simp))
  clear V bM bN bB a1 bR
  have V:Hid (∀ a,Frm [] aO a→(a.cell? ⟨w.heap.size,0,none⟩=some (.string r.name)∧a.cell? ⟨w.heap.size,1,none⟩=some (.slice aH U Y)∧a.cell? ⟨w.heap.size,2,none⟩=some (.slice ac R W)∧a.cell? ⟨w.heap.size,3,none⟩=some (.slice (some ⟨b,o,none⟩) m cap)) ∧
    (a.cell? ⟨w.heap.size+1,0,none⟩=some (.string x.frm)∧a.cell? ⟨w.heap.size+1,1,none⟩=some (.string x.to)∧a.cell? ⟨w.heap.size+1,2,none⟩=some (.int .i64 x.kind)∧a.cell? ⟨w.heap.size+1,3,none⟩=some (.string x.msg)∧a.cell? ⟨w.heap.size+1,4,none⟩=some (.string x.peer) ∧
     a.cell? ⟨w.heap.size+1,5,none⟩=some (.string x.ctr)∧a.cell? ⟨w.heap.size+1,6,none⟩=some (.int .i64 x.low)∧a.cell? ⟨w.heap.size+1,7,none⟩=some (.int .i64 x.high)∧a.cell? ⟨w.heap.size+1,8,none⟩=some (.int .i64 x.add))):=vi fun a X=>by
   have aQ:=X.at H.out.t (by simp)
   exact⟨(H.out.r.frm X).cells,ae aQ 0,ae aQ 1,ae aQ 2,ae aQ 3,ae aQ 4,ae aQ 5,ae aQ 6,ae aQ 7,ae aQ 8⟩
  have a6:Hid (∀ a,Frm [] aO a→Calls Tryz.prog 207 #[.agg #[.string r.name,.slice aH U Y,.slice ac R W,.slice (some ⟨b,o,none⟩) m cap],.string x.to] a (Ret (.int .i64 (bK r x.to)) (Frm [] a))):=vi fun a X=>gx _ r x.to a (H.out.r.frm X).val (by omega)
  have a5:Hid (∀ a,Frm [] aO a→Calls Tryz.prog 222 #[.slice (some ⟨b,o,none⟩) n cap,.agg #[.string x.frm,.string x.to,.int .i64 x.kind,.string x.msg,.string x.peer,.string x.ctr,.int .i64 x.low,.int .i64 x.high,.int .i64 x.add]] a (Ret (.bool (decide (x∈r.steps.take n))) (Frm [] a))):=vi fun a X=>by
   refine nz _ (r.steps.take n) x a ?_ (by rw[List.length_take];omega)
   obtain⟨cU,cW,cw,cO⟩:=(H.out.r.frm X).h3.steps
   cases cw
   refine⟨_,cap,by rw[List.length_take,ci.out];congr 1;omega,fun j y bo=>?_⟩
   rw[List.getElem?_take] at bo
   split at bo
   ·exact cO j y bo
   ·cases bo
  have c8:(n:Int)≤(m:Int):=by omega
  have c6:(m:Int)≤(cap:Int):=by have:=H.out.r.h3.cap _ _ _ rfl;omega
  have cN:=p5 (b:=b) (o:=o) (n:=n) (m:=m) (cap:=cap) (by omega) (by omega)
  obtain⟨bj,bD⟩:∃ bj,bK r x.frm=bj:=⟨_,rfl⟩
  obtain⟨aW,bE⟩:∃ aW,bK r x.to=aW:=⟨_,rfl⟩
  obtain⟨bJ,bF⟩:∃ bJ,bL r.ctrs x.ctr=bJ:=⟨_,rfl⟩
  have bm:=vi (pZ r n x)
  have bU:=vi bD;have cl:=vi bE;have bV:=vi bF
  rw[bD,bF]
  rw[bE] at a6
  clear bD bE bF
  have aU:aO.cell? ⟨ba,2,none⟩=some (kFn x.kind):=ae bS.out 2
  have a9:aO.cell? ⟨ba,1,none⟩=some (.bool (cM x.kind)):=ae bS.out 1
  obtain⟨a3,bG⟩:∃ a3,cM x.kind=a3:=⟨_,rfl⟩
  rw[bG] at a9
  have bn:=vi bG
  clear bG
  have ch:=vi a9
  clear a9
  rcases bm.out with ⟨an,O⟩ | ⟨an,N,O⟩ | ⟨p,f,b9,N,an,ca⟩
  ·rw[an,O]
   have aF:=vi O
   clear O an bm aU
   go_upto_region 4 with fail
   refine ay (by kernel_rfl) (by kernel_rfl) ?_
   repeat (first
    | go_big_quiet_skip
    | (refine wpQuiet_want (by rfl) (fun aa A=>?_)
       first
        | (refine quiet_move _ (by rfl) (A _ ?_))
        | (refine quiet_assign _ (by rfl) (A _ ?_))
        | (apply Exists.intro
           refine⟨fun w' h=>?_,A _ ?_⟩
           ·(unfold Oper.quietAt
             obtain⟨⟨af,ai,ak,al⟩,av,aw,ax,az,aA,aB,aC,aD,aE⟩:=V.out w' h
             clear h
             go_simp
             try exact⟨rfl,rfl⟩
             try rfl))
       clear A aa
       try simp only[nrm,Act.eval,nrq]))
   refine wpQuiet_nil ?_
   intro a4 au
   go_wp2
   go_ret
   exact⟨by rw[aF.out];rfl,H.out.fr.trans au⟩
  ·rw[an,O]
   rw[bU.out] at N
   have aF:=vi O
   clear O an bm aU
   go_upto_region 4 with fail
   refine ay (by kernel_rfl) (by kernel_rfl) ?_
   repeat (first
    | go_big_quiet_skip
    | (refine wpQuiet_want (by rfl) (fun aa A=>?_)
       first
        | (refine quiet_move _ (by rfl) (A _ ?_))
        | (refine quiet_assign _ (by rfl) (A _ ?_))
        | (apply Exists.intro
           refine⟨fun w' h=>?_,A _ ?_⟩
           ·(unfold Oper.quietAt
             obtain⟨⟨af,ai,ak,al⟩,av,aw,ax,az,aA,aB,aC,aD,aE⟩:=V.out w' h
             clear h
             go_simp
             try exact⟨rfl,rfl⟩
             try rfl))
       clear A aa
       try simp only[nrm,Act.eval,nrq]))
   refine wpQuiet_nil ?_
   intro a4 au
   go_wp2
   go_ret
   exact⟨by rw[aF.out];rfl,H.out.fr.trans au⟩
  ·obtain rfl:bj=(p:Int):=by rw[← bU.out];exact b9
   rw[cl.out] at ca
   rw[an]
   have cK:¬ (p:Int)<0:=by omega
   have cL:(p:Int)<(U:Int):=by have:=ag N;have:=ck.out;omega
   obtain⟨bd,bi,rfl,bY,a2,I⟩:=H.out.r.h3.sts.get N
   have bQ:Hid (StAt aO bd (bi+p*3) f):=vi ⟨bY,a2,I⟩
   have bv:=vi an
   clear b9 N an bm bY a2 I
   rcases ca with ⟨aT,O⟩ | ⟨aT,ab,O⟩ | ⟨aT,ab,am,O⟩ | ⟨aT,ab,am,O⟩
   ·rw[O]
    have aF:=vi O
    clear O aU
    go_upto_region 4 with fail
    refine ay (by kernel_rfl) (by kernel_rfl) ?_
    repeat (first
     | go_big_quiet_skip
     | (refine wpQuiet_want (by rfl) (fun aa A=>?_)
        first
         | (refine quiet_move _ (by rfl) (A _ ?_))
         | (refine quiet_assign _ (by rfl) (A _ ?_))
         | (refine aV (.int .i64 aW) 207 #[.agg #[.string r.name,.slice (some ⟨bd,bi,none⟩) U Y,.slice ac R W,.slice (some ⟨b,o,none⟩) m cap],.string x.to] (fun w' h=>?_) (fun w' h=>Ret.cq (a6.out w' h) (fun aN G=>h.trans G)) (A _ ?_)
            ·go_simp)
         | (apply Exists.intro
            refine⟨fun w' h=>?_,A _ ?_⟩
            ·(unfold Oper.quietAt
              obtain⟨⟨af,ai,ak,al⟩,av,aw,ax,az,aA,aB,aC,aD,aE⟩:=V.out w' h
              clear h
              go_simp
              try exact⟨rfl,rfl⟩
              try rfl))
        clear A aa
        try simp only[nrm,Act.eval,nrq]))
    refine wpQuiet_nil ?_
    intro a4 au
    go_wp2
    go_ret
    exact⟨by rw[aF.out];rfl,H.out.fr.trans au⟩
   ·rw[O]
    have b3:¬ aW<0:=by omega
    rw[ab] at a5
    have aF:=vi O
    clear O aU ab
    go_upto_region 4 with fail
    refine ay (by kernel_rfl) (by kernel_rfl) ?_
    repeat (first
     | go_big_quiet_skip
     | (refine wpQuiet_want (by rfl) (fun aa A=>?_)
        first
         | (refine quiet_move _ (by rfl) (A _ ?_))
         | (refine quiet_assign _ (by rfl) (A _ ?_))
         | (refine aV (.int .i64 aW) 207 #[.agg #[.string r.name,.slice (some ⟨bd,bi,none⟩) U Y,.slice ac R W,.slice (some ⟨b,o,none⟩) m cap],.string x.to] (fun w' h=>?_) (fun w' h=>Ret.cq (a6.out w' h) (fun aN G=>h.trans G)) (A _ ?_)
            ·go_simp)
         | (refine aV (.bool true) 222 #[.slice (some ⟨b,o,none⟩) n cap,.agg #[.string x.frm,.string x.to,.int .i64 x.kind,.string x.msg,.string x.peer,.string x.ctr,.int .i64 x.low,.int .i64 x.high,.int .i64 x.add]] (fun w' h=>?_) (fun w' h=>Ret.cq (a5.out w' h) (fun aN G=>h.trans G)) (A _ ?_)
            ·go_simp)
         | (refine dO 137 _ rfl (w.heap.size+1) rfl #[.string x.frm,.string x.to,.int .i64 x.kind,.string x.msg,.string x.peer,.string x.ctr,.int .i64 x.low,.int .i64 x.high,.int .i64 x.add] 137 H.out.t _ Tryz.underlying137 rfl (by kernel_rfl) (A _ ?_))
         | (apply Exists.intro
            refine⟨fun w' h=>?_,A _ ?_⟩
            ·(unfold Oper.quietAt
              obtain⟨⟨af,ai,ak,al⟩,av,aw,ax,az,aA,aB,aC,aD,aE⟩:=V.out w' h
              clear h
              go_simp
              try exact⟨rfl,rfl⟩
              try rfl))
        clear A aa
        try simp only[nrm,Act.eval,nrq]))
    refine wpQuiet_nil ?_
    intro a4 au
    go_wp2
    go_ret
    exact⟨by rw[aF.out];rfl,H.out.fr.trans au⟩
   all_goals
    have b3:¬ aW<0:=by omega
    rw[ab] at a5
    obtain⟨bX,b4,cC,a8⟩:=q9 x.kind bv.out
    rw[b4] at aU
    have a8:=vi (fun bw=>a8 bw f)
    rw[am] at a8
    have bP:=vi am
    rw[O]
    have aF:=vi O
    clear O ab am b4
    go_upto_region 4 with fail
   ·refine ay (by kernel_rfl) (by kernel_rfl) ?_
    repeat (first
     | go_big_quiet_skip
     | (refine wpQuiet_want (by rfl) (fun aa A=>?_)
        first
         | (refine quiet_move _ (by rfl) (A _ ?_))
         | (refine quiet_assign _ (by rfl) (A _ ?_))
         | (refine aV (.int .i64 aW) 207 #[.agg #[.string r.name,.slice (some ⟨bd,bi,none⟩) U Y,.slice ac R W,.slice (some ⟨b,o,none⟩) m cap],.string x.to] (fun w' h=>?_) (fun w' h=>Ret.cq (a6.out w' h) (fun aN G=>h.trans G)) (A _ ?_)
            ·go_simp)
         | (refine aV (.bool false) 222 #[.slice (some ⟨b,o,none⟩) n cap,.agg #[.string x.frm,.string x.to,.int .i64 x.kind,.string x.msg,.string x.peer,.string x.ctr,.int .i64 x.low,.int .i64 x.high,.int .i64 x.add]] (fun w' h=>?_) (fun w' h=>Ret.cq (a5.out w' h) (fun aN G=>h.trans G)) (A _ ?_)
            ·go_simp)
         | (refine aV (.bool false) bX #[.agg #[.string f.name,.bool f.fin,.int .i64 f.wait]] (fun w' h=>?_) (fun w' h=>Ret.cq (a8.out w') (fun aN G=>h.trans G)) (A _ ?_)
            ·go_simp)
         | (refine dO 137 _ rfl (w.heap.size+1) rfl #[.string x.frm,.string x.to,.int .i64 x.kind,.string x.msg,.string x.peer,.string x.ctr,.int .i64 x.low,.int .i64 x.high,.int .i64 x.add] 137 H.out.t _ Tryz.underlying137 rfl (by kernel_rfl) (A _ ?_))
         | (apply Exists.intro
            refine⟨fun w' h=>?_,A _ ?_⟩
            ·(unfold Oper.quietAt
              obtain⟨⟨af,ai,ak,al⟩,av,aw,ax,az,aA,aB,aC,aD,aE⟩:=V.out w' h;obtain⟨u0,u1,u2⟩:=bQ.out.frm h;have cP:=h.keep aU
              clear h
              go_simp
              try exact⟨rfl,rfl⟩
              try rfl))
        clear A aa
        try simp only[nrm,Act.eval,nrq]))
    refine wpQuiet_nil ?_
    intro a4 au
    go_wp2
    go_ret
    exact⟨by rw[aF.out];rfl,H.out.fr.trans au⟩
   ·refine ay (by kernel_rfl) (by kernel_rfl) ?_
    repeat (first
     | go_big_quiet_skip
     | (refine wpQuiet_want (by rfl) (fun aa A=>?_)
        first
         | (refine quiet_move _ (by rfl) (A _ ?_))
         | (refine quiet_assign _ (by rfl) (A _ ?_))
         | (refine aV (.int .i64 aW) 207 #[.agg #[.string r.name,.slice (some ⟨bd,bi,none⟩) U Y,.slice ac R W,.slice (some ⟨b,o,none⟩) m cap],.string x.to] (fun w' h=>?_) (fun w' h=>Ret.cq (a6.out w' h) (fun aN G=>h.trans G)) (A _ ?_)
            ·go_simp)
         | (refine aV (.bool false) 222 #[.slice (some ⟨b,o,none⟩) n cap,.agg #[.string x.frm,.string x.to,.int .i64 x.kind,.string x.msg,.string x.peer,.string x.ctr,.int .i64 x.low,.int .i64 x.high,.int .i64 x.add]] (fun w' h=>?_) (fun w' h=>Ret.cq (a5.out w' h) (fun aN G=>h.trans G)) (A _ ?_)
            ·go_simp)
         | (refine aV (.bool true) bX #[.agg #[.string f.name,.bool f.fin,.int .i64 f.wait]] (fun w' h=>?_) (fun w' h=>Ret.cq (a8.out w') (fun aN G=>h.trans G)) (A _ ?_)
            ·go_simp)
         | (refine dO 137 _ rfl (w.heap.size+1) rfl #[.string x.frm,.string x.to,.int .i64 x.kind,.string x.msg,.string x.peer,.string x.ctr,.int .i64 x.low,.int .i64 x.high,.int .i64 x.add] 137 H.out.t _ Tryz.underlying137 rfl (by kernel_rfl) (A _ ?_))
         | (apply Exists.intro
            refine⟨fun w' h=>?_,A _ ?_⟩
            ·(unfold Oper.quietAt
              obtain⟨⟨af,ai,ak,al⟩,av,aw,ax,az,aA,aB,aC,aD,aE⟩:=V.out w' h;obtain⟨u0,u1,u2⟩:=bQ.out.frm h;have cP:=h.keep aU
              clear h
              go_simp
              try exact⟨rfl,rfl⟩
              try rfl))
        clear A aa
        try simp only[nrm,Act.eval,nrq]))
    refine wpQuiet_nil ?_
    intro a4 au
    have ad:=vi au
    have aJ:Hid (∀ a,Calls Tryz.prog 165 #[.string x.msg] a (Ret (.bool (aL x.msg)) (Frm [] a))):=vi fun a=>dy x.msg a
    have aZ:Hid (∀ a,Calls Tryz.prog 165 #[.string x.peer] a (Ret (.bool (aL x.peer)) (Frm [] a))):=vi fun a=>dy x.peer a
    have aM:=vi (sW r x)
    have ar:Hid (aY r n x=(bp r x && !b6 r x)):=vi (by rw[aF.out,sV bv.out bP.out])
    have a0:Hid (∀ a,Frm [] aO a→a.cell? ⟨ba,1,none⟩=some (.bool a3)):=vi fun a X=>X.keep ch.out
    have bf:∀ b:ByteArray,b.toList.isEmpty=decide (b=aG):=fun b=>by
     by_cases G:b=aG
     ·rw[decide_eq_true G];exact dg G
     ·rw[decide_eq_false G];exact dF G
    have a7:Hid ((x.msg++x.peer).toList.isEmpty=(decide (x.msg=aG) && decide (x.peer=aG))):=vi (by rw[bf,← sX,aK];rfl)
    have bl:=vi bf
    have bc:Hid (Arr 2 CtAt aO (.slice ac R W) r.ctrs):=vi H.out.r.h3.ctrs
    obtain⟨aS,b5⟩:∃ aS,b6 r x=aS:=⟨_,rfl⟩
    rw[b5] at aM ar
    clear au a6 a5 cC a8 aU aF b5 bf cN b3 cK cL bv bP
    go_upto_region 6 with fail
    go_cut [96] (fun s96 wc=>s96=.bool aS∧Frm [] aO wc)
    case first =>
     obtain⟨⟨af,ai,ak,al⟩,av,aw,ax,az,aA,aB,aC,aD,aE⟩:=V.out a4 ad.out
     have bh:=a0.out a4 ad.out
     rcases aM.out with ⟨s1,s2,s3⟩ | ⟨s1,s2,s3,s4⟩ | ⟨s1,s2,s3,s4⟩ | ⟨s1,s2⟩
     ·obtain rfl:a3=true:=by rw[← bn.out];exact s1
      rw[s2] at aJ
      subst s3
      clear aM ar s1 s2 a7 bl bc
      go_wp2_with (first
       | (go_at_call 165;go_must (refine(aJ.out _).mono ?_;clear aJ;rintro e aX ⟨rfl,S⟩;obtain⟨⟨af,ai,ak,al⟩,av,aw,ax,az,aA,aB,aC,aD,aE⟩:=V.out aX (ad.out.trans S);have bh:=a0.out aX (ad.out.trans S);have J:=vi (ad.out.trans S);clear S)))
      go_meet
      exact⟨rfl,J.out⟩
     ·obtain rfl:a3=true:=by rw[← bn.out];exact s1
      rw[s2] at aJ
      rw[s3] at aZ
      subst s4
      clear aM ar s1 s2 s3 a7 bl bc
      go_wp2_with (first
       | (go_at_call 165;go_must (first
        | (refine(aJ.out _).mono ?_;clear aJ;rintro e aX ⟨rfl,S⟩;obtain⟨⟨af,ai,ak,al⟩,av,aw,ax,az,aA,aB,aC,aD,aE⟩:=V.out aX (ad.out.trans S);have bh:=a0.out aX (ad.out.trans S);have J:=vi (ad.out.trans S);clear S)
        | (refine(aZ.out _).mono ?_;clear aZ;rintro e bk ⟨rfl,aP⟩;obtain⟨⟨af,ai,ak,al⟩,av,aw,ax,az,aA,aB,aC,aD,aE⟩:=V.out bk (J.out.trans aP);have bh:=a0.out bk (J.out.trans aP);have bu:=vi (J.out.trans aP);clear aP))))
      go_meet
      exact⟨rfl,bu.out⟩
     ·obtain rfl:a3=true:=by rw[← bn.out];exact s1
      rw[s2] at aJ
      rw[s3] at aZ
      have dc:(x.peer.toList == r.name.toList)=aS:=by rw[aK];exact s4.symm
      clear aM ar s1 s2 s3 s4 a7 bl bc
      cases aS
      all_goals
       go_wp2_with (first
        | (go_at_call 165;go_must (first
         | (refine(aJ.out _).mono ?_;clear aJ;rintro e aX ⟨rfl,S⟩;obtain⟨⟨af,ai,ak,al⟩,av,aw,ax,az,aA,aB,aC,aD,aE⟩:=V.out aX (ad.out.trans S);have bh:=a0.out aX (ad.out.trans S);have J:=vi (ad.out.trans S);clear S)
         | (refine(aZ.out _).mono ?_;clear aZ;rintro e bk ⟨rfl,aP⟩;obtain⟨⟨af,ai,ak,al⟩,av,aw,ax,az,aA,aB,aC,aD,aE⟩:=V.out bk (J.out.trans aP);have bh:=a0.out bk (J.out.trans aP);have bu:=vi (J.out.trans aP);clear aP))))
       go_meet
       exact⟨rfl,bu.out⟩
     ·obtain rfl:a3=false:=by rw[← bn.out];exact s1
      rw[← a7.out] at s2
      have c2:(x.msg++x.peer).toList.isEmpty=!aS:=by rw[s2];simp
      have db:=fun bw=>run_string_add (P:=Tryz.prog) (w:=bw) x.msg x.peer (by omega) (by omega)
      clear aM ar s1 s2 a7 bl bc
      cases aS
      all_goals
       go_wp2
       go_meet
       exact⟨rfl,ad.out⟩
    case rest =>
     obtain⟨rfl,S⟩:=hcut
     obtain⟨⟨af,ai,ak,al⟩,av,aw,ax,az,aA,aB,aC,aD,aE⟩:=V.out wc S
     have J:=vi S
     clear S aM ad a0 aJ aZ a7
     cases aS with
     | true =>
       have E:Hid (aY r n x=false):=vi (by rw[ar.out];simp)
       clear ar
       go_wp2
       go_ret
       exact⟨by rw[E.out];rfl,H.out.fr.trans J.out⟩
     | false =>
       by_cases he:x.ctr=aG
       ·have bf:x.ctr.toList.isEmpty=true:=dg he
        have E:Hid (aY r n x=(decide (x.low=0) && decide (x.high=0) && decide (x.add=0))):=vi (by rw[ar.out,js he];simp)
        clear ar he
        by_cases l0:x.low=0
        ·have cR:(x.low == 0)=true:=by simpa using l0
         by_cases l1:x.high=0
         ·have bj:(x.high == 0)=true:=by simpa using l1
          have E:Hid (aY r n x=(x.add == 0)):=vi (by rw[E.out,decide_eq_true l0,decide_eq_true l1,Bool.true_and,Bool.true_and];by_cases G:x.add=0 <;> simp[G])
          clear l0 l1
          go_wp2
          go_ret
          exact⟨by rw[E.out];rfl,H.out.fr.trans J.out⟩
         ·have bj:(x.high == 0)=false:=by simpa using l1
          have E:Hid (aY r n x=false):=vi (by rw[E.out,decide_eq_false l1];simp)
          clear l0 l1
          go_wp2
          go_ret
          exact⟨by rw[E.out];rfl,H.out.fr.trans J.out⟩
        ·have cR:(x.low == 0)=false:=by simpa using l0
         have E:Hid (aY r n x=false):=vi (by rw[E.out,decide_eq_false l0];simp)
         clear l0
         go_wp2
         go_ret
         exact⟨by rw[E.out];rfl,H.out.fr.trans J.out⟩
       ·have bf:x.ctr.toList.isEmpty=false:=dF he
        have E:Hid (aY r n x=bp r x):=vi (by rw[ar.out];simp)
        rcases nV (r:=r) he with ⟨aT,ab⟩ | ⟨bI,c,aT,ab,am⟩
        ·rw[bV.out] at aT
         have E:Hid (aY r n x=false):=vi (by rw[E.out,ab])
         clear ab he ar
         go_wp2
         go_ret
         exact⟨by rw[E.out];rfl,H.out.fr.trans J.out⟩
        ·obtain rfl:bJ=(bI:Int):=by rw[← bV.out];exact aT
         have da:¬ (bI:Int)<0:=by omega
         have c9:(bI:Int)<(R:Int):=by have:=ag ab;have:=cj.out;omega
         have c3:=cH c (List.mem_of_getElem? ab)
         obtain⟨cV,dl,rfl,-,a9⟩:=bc.out.get ab
         have a9:=J.out.keep a9
         clear aT ab he ar
         rcases am with ⟨a2,I⟩ | ⟨a2,bA,I⟩ | ⟨a2,bA,b0,I⟩ | ⟨a2,bA,b0,cA,I⟩ | ⟨a2,bA,b0,cA,cB⟩
         ·have E:Hid (aY r n x=false):=vi (by rw[E.out,I])
          clear I
          go_wp2
          go_ret
          exact⟨by rw[E.out];rfl,H.out.fr.trans J.out⟩
         ·have E:Hid (aY r n x=false):=vi (by rw[E.out,I])
          have bz:¬ x.low<0:=by omega
          clear I
          go_wp2
          go_ret
          exact⟨by rw[E.out];rfl,H.out.fr.trans J.out⟩
         ·have E:Hid (aY r n x=false):=vi (by rw[E.out,I])
          have bz:¬ x.low<0:=by omega
          have bZ:¬ x.high<x.low:=by omega
          clear I
          go_wp2
          go_ret
          exact⟨by rw[E.out];rfl,H.out.fr.trans J.out⟩
         ·have E:Hid (aY r n x=false):=vi (by rw[E.out,I])
          have bz:¬ x.low<0:=by omega
          have bZ:¬ x.high<x.low:=by omega
          have cz:¬ x.add < -1000:=by omega
          clear I
          go_wp2
          go_ret
          exact⟨by rw[E.out];rfl,H.out.fr.trans J.out⟩
         ·have bz:¬ x.low<0:=by omega
          have bZ:¬ x.high<x.low:=by omega
          have cz:¬ x.add < -1000:=by omega
          have c1:¬ 1000<x.add:=by omega
          rcases cB with ⟨bH,I⟩ | ⟨bH,cg,I⟩ | ⟨bH,cg,cQ,I⟩ | ⟨bH,cg,cQ,I⟩
          ·have dh:¬ x.high≤c.lim:=by omega
           have E:Hid (aY r n x=false):=vi (by rw[E.out,I])
           clear I
           go_wp2
           go_ret
           exact⟨by rw[E.out];rfl,H.out.fr.trans J.out⟩
          all_goals
           have dd:wrap64 (x.low+x.add)=x.low+x.add:=by unfold wrap64;omega
           have de:wrap64 (x.high+x.add)=x.high+x.add:=by unfold wrap64;omega
          ·have di:¬ 0≤x.low+x.add:=by omega
           have E:Hid (aY r n x=false):=vi (by rw[E.out,I])
           clear I
           go_wp2
           go_ret
           exact⟨by rw[E.out];rfl,H.out.fr.trans J.out⟩
          ·have dj:¬ x.high+x.add≤c.lim:=by omega
           have E:Hid (aY r n x=false):=vi (by rw[E.out,I])
           clear I
           go_wp2
           go_ret
           exact⟨by rw[E.out];rfl,H.out.fr.trans J.out⟩
          ·have E:Hid (aY r n x=true):=vi (by rw[E.out,I])
           clear I
           go_wp2
           go_ret
           exact⟨by rw[E.out];rfl,H.out.fr.trans J.out⟩
end Go.Proofs.YtohfkhjlnlahdaaGreat
