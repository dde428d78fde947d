/- Part of the proof. -/
import Derived.Test.YtohfkhjlnlahdaaGreatW22
set_option linter.all false
namespace Go.Proofs.YtohfkhjlnlahdaaGreat
open Go.RowKit Go.BigFrame
theorem lt_of_some' {α:Type} {l:List α} {k:Nat} {x:α} (h:l[k]?=some x):k < l.length:=(List.getElem?_eq_some_iff.1 h).1
theorem first_at {l:List Nat} {p:Nat} (h:p∈l):∃ j:Nat,l[j]?=some p∧∀ i:Nat,i < j→∀ x,l[i]?=some x→x≠p:=by
 induction l with
 | nil=>cases h
 | cons y l ih =>
   by_cases e:y=p
   ·subst e;exact⟨0,rfl,fun i hi=>by omega⟩
   ·obtain⟨j,h1,h2⟩:=ih (by rcases List.mem_cons.1 h with h | h;exact absurd h.symm e;exact h)
    refine⟨j + 1,by simpa using h1,fun i hi x hx=>?_⟩
    cases i with
    | zero=>simp at hx;subst hx;exact e
    | succ i=>exact h2 i (by omega) x (by simpa using hx)
theorem Ints.at {w:World} {ao:Option Addr} {cp n:Nat} {l:List Nat} (h:Ints w (.slice ao n cp) l) {i x:Nat} (hx:l[i]?=some x):∃ g,ao=some ⟨g,0,none⟩∧w.cell? ⟨g,i,none⟩=some (.int .i64 (x:Int)):=by
 have hi:=(List.getElem?_eq_some_iff.1 hx).1
 rcases h.2 with ⟨hv,hn⟩ | ⟨g,c,cur,hv,-,hb,-,-,-,ht⟩
 ·omega
 ·cases hv
  refine⟨g,rfl,?_⟩
  rw[cell_of hb]
  have h1:(cur.toList.take (l.length * 1))[i]?=some (.int .i64 (x:Int)):=by rw[ht];simp[hx]
  rw[List.getElem?_take_of_lt (by omega)] at h1
  simpa using h1
theorem step_append_src {ops:Array Oper} {o:Oper} {a:Act} {w:World} {K:Act→World→Prop} {Q:Exit→Act→World→Prop} {E:Prop} (hgd:o.guard=none) (s x:Operand) (ho:o.op=.call { callee:=.builtin .append,args:=#[s,x],argTypes:=#[75,75] })
  (b:Nat) (hs:a.eval s=.slice (some ⟨b,0,none⟩) 0 0) (hb:w.heap[b]?=some (.cells #[] 9 (0,0))) (sv:Value) (hx:a.eval x=sv) (n:Nat) (news:List Value) (hsrc:Src Tryz.prog 1 75 sv n news w)
  (hk:0 < n→∃ ad c,sv=.slice (some ad) n c∧∀ j u,news[j]?=some u→w.cell? (ad.add j)=some u) (hn:n≤1000000)
  (h:∀ ao cp w',w'.ownsRow b 9 1 (.slice ao n cp) n news→w.grownBy w' none→K (a.put o.dst (.slice ao n cp)) w'):if Region.wanted o (yielded ops a.tmps)=true then Oper.wp Tryz.prog o a w K Q else E:=by
 have hw:Region.wanted o (yielded ops a.tmps)=true:=by simp[Region.wanted,hgd]
 rw[if_pos hw]
 obtain⟨ao,cp,w',hrun,r1,r2⟩:=app_any b w hb sv n news hsrc hk hn
 have hrun':(Builtin.append_ #[75,75] o.type #[.slice (some ⟨b,0,none⟩) 0 0,sv]).run Tryz.prog w=.ok (.slice ao n cp) w':=hrun
 unfold Oper.wp
 simp[execOp,ho,resolve,invoke,builtin,hs,hx,hrun',Result.andThen]
 exact h ao cp w' r1 r2
theorem step_append_own_at {P:Program} {ops:Array Oper} {o:Oper} {a:Act} {w:World} {K:Act→World→Prop} {Q:Exit→Act→World→Prop} {E:Prop} (hgd:o.guard=none) (s x:Operand) (t:TypeId)
  (ho:o.op=.call { callee:=.builtin .append,args:=#[s,x],argTypes:=#[t,t] })
  (base:Nat) (e:TypeId) (i:TypeInfo) (z:Value) (size bytes:Nat) (ht:P.underlying t=some (.slice e)) (hi:P.info? e=some i) (hz:i.zero=some z)
  (hsize:i.size=size) (hby:i.bytes=bytes) (hzs:z.cells.size=size) (hsz:0 < size)
  (v:Value) (n:Nat) (xs:List Value) (hs:a.eval s=v) (hown:w.ownsRow base e size v n xs)
  (ad:Addr) (m c:Nat) (news:List Value) (hx:a.eval x=.slice (some ad) m c) (hl:news.length=m * size) (hnews:∀ j u,news[j]?=some u→w.cell? (ad.add j)=some u) (h1:∀ u∈news,u.oneCell'=true)
  (h63:n + m≤maxLen) (hbytes:(n + m) * bytes≤140737488355328) (hbase:base≤w.heap.size)
  (h:∀ v' w',w'.ownsRow base e size v' (n + m) (xs ++ news)→w.grownBy w' v.ownBlock→K (a.put o.dst v') w') :
  if Region.wanted o (yielded ops a.tmps)=true then Oper.wp P o a w K Q else E:=by
 have hw:Region.wanted o (yielded ops a.tmps)=true:=by simp[Region.wanted,hgd]
 rw[if_pos hw]
 obtain⟨v',w',hr,h2,h3,h4,h5⟩:=run_append_own_at (P:=P) w base t o.type e i z size bytes ht hi hz hsize hby hzs hsz v n xs hown ad m c news hl hnews h1 h63 hbytes hbase
 unfold Oper.wp execOp
 simp only[ho,resolve,invoke,builtin,Sem.run_bind,Sem.run_pure,Result.andThen_ok,List.map_toArray,List.map_cons,List.map_nil,hs,hx,hr]
 exact h v' w' h2 h3
structure TkE (w wr:World) (A:Array Value) (v':Value) (n:Nat) (L':List ByteArray) (wa:World):Prop where
 b:wa.heap[w.heap.size]?=some (.cells A 164 (0,0))
 z:wa.heap[w.heap.size + 1]?=some (.cells #[.int .i64 0,.int .i64 0,.slice none 0 0] 164 (0,0))
 f:Frm [] w wa
 o:wa.ownsRow wr.heap.size 9 1 v' n (L'.map Value.string)
 n:n=L'.length
theorem TkE.mk1 {w wr w1 wa:World} {A:Array Value} {v1 v':Value} {p:Nat} {L:List ByteArray} (hb:w1.heap[w.heap.size]?=some (.cells A 164 (0,0))) (hz:w1.heap[w.heap.size + 1]?=some (.cells #[.int .i64 0,.int .i64 0,.slice none 0 0] 164 (0,0))) (hf:Frm [] w w1)
  (ho:w1.ownsRow wr.heap.size 9 1 v1 p ((L.take p).map Value.string)) (_h1:w.heap.size < wr.heap.size) (h2:w.heap.size + 1 < wr.heap.size)
  (hown:wa.ownsRow wr.heap.size 9 1 v' (p + (L.length - (p + 1))) ((L.take p).map Value.string ++ (L.drop (p + 1)).map Value.string)) (hg:w1.grownBy wa v1.ownBlock) (hp:p < L.length):TkE w wr A v' (p + (L.length - (p + 1))) (L.eraseIdx p) wa:=by
 have hge:=fun k hk=>ownBlock_ge ho (k:=k) hk
 refine⟨grown_at hg hb (fun e=>?_),grown_at hg hz (fun e=>?_),hf.grown hg (fun k hk=>.inr (by have:=hge k hk;omega)),?_,?_⟩
 ·have:=hge _ e;omega
 ·have:=hge _ e;omega
 ·rw[List.eraseIdx_eq_take_drop_succ,List.map_append];exact hown
 ·rw[List.length_eraseIdx_of_lt hp];omega
theorem TkE.mk2 {w wr w1 wa:World} {A:Array Value} {v1 v':Value} {p:Nat} {L:List ByteArray} (hb:w1.heap[w.heap.size]?=some (.cells A 164 (0,0))) (hz:w1.heap[w.heap.size + 1]?=some (.cells #[.int .i64 0,.int .i64 0,.slice none 0 0] 164 (0,0))) (hf:Frm [] w w1)
  (ho:w1.ownsRow wr.heap.size 9 1 v1 p ((L.take p).map Value.string)) (h1:w.heap.size < wr.heap.size) (h2:w.heap.size + 1 < wr.heap.size)
  (hown:wa.ownsRow wr.heap.size 9 1 v' p ((L.take p).map Value.string)) (hg:w1.grownBy wa v1.ownBlock) (hp:p + 1=L.length):TkE w wr A v' p (L.eraseIdx p) wa:=by
 have e:p + (L.length - (p + 1))=p:=by omega
 have h:=TkE.mk1 (v':=v') (L:=L) hb hz hf ho h1 h2 (by rw[e,List.drop_of_length_le (by omega)];simpa using hown) hg (by omega)
 rwa [e] at h
set_option maxHeartbeats 2000000 in
set_option maxRecDepth 100000 in
theorem refTake_any (cls cap:Int) (lv:Value) (L:List ByteArray) (q:Int) (w:World) (h:Lf w lv L) (hL:L.length≤64) :
  Calls Tryz.prog 89 #[.agg #[.int .i64 cls,.int .i64 cap,lv],.int .i64 q] w (RetV (RfTo w cls cap lv (takeL cls L q) fun a=>.tuple #[a,.string (takeM cls L q),.int .i64 (takeE cls L q)])):=by
 obtain⟨ao,cp,rfl,hcs⟩:=h.shape
 have HL:=Lib.hid h
 have CC:=Lib.hid (fun w' (hf:Frm [] w w')=>refChoices_any cls cap _ L w' (h.frm hf (by simp)) hL)
 obtain⟨C,hC⟩:∃ C,chp cls L L.length=C:=⟨_,rfl⟩
 have hCl:C.length≤L.length:=by rw[← hC];exact chp_length _ _ _
 rw[hC] at CC
 clear h
 cases hok:takeOk cls L q with
 | false =>
   have e1:takeL cls L q=L:=by simp[takeL,hok]
   have e2:takeM cls L q={ data:=#[] }:=by simp[takeM,hok]
   have e3:takeE cls L q=9:=by simp[takeE,hok]
   rw[e1,e2,e3]
   have HN:Hid (∀ (i:Nat) (x:Nat),C[i]?=some x→((x:Int) == q)=false):=Lib.hid fun i x hix=>by
    have hx:=List.mem_of_getElem? hix
    rw[← hC] at hx
    obtain⟨h1,h2⟩:=(mem_chp _).1 hx
    rw[beq_eq_false_iff_ne]
    intro e
    have:takeOk cls L q=true:=by
     unfold takeOk
     rw[← e,Bool.and_eq_true,decide_eq_true_iff]
     exact⟨⟨by omega,by omega⟩,by simpa using h2⟩
    rw[hok] at this;cases this
   clear e1 e2 e3 hok hC
   go_enter Tryz.func89,Tryz.ntmps89
   go_wp2_with (first
    | (go_at_call 82;go_must (refine(CC.out _ (((Frm.refl [] w).alloc _).alloc _)).mono ?_;rintro e w1 ⟨v,rfl,hi,hf,hn⟩;obtain⟨ai,ci,rfl⟩:=own_shape hi;have HI:=Lib.hid hi;have HF:=Lib.hid ((((Frm.refl [] w).alloc _).alloc _).trans hf);have HB:=Lib.hid (hf.at (alloc_at (alloc_top (o:=.cells #[.int .i64 cls,.int .i64 cap,.slice ao L.length cp] 164) rfl)) (by simp));have HZ:=Lib.hid (hf.at (alloc_top (o:=.cells #[.int .i64 0,.int .i64 0,.slice none 0 0] 164) (n:=w.heap.size + 1) (by simp)) (by simp));clear hi hf hn)))
   clear CC
   go_loopw [8] (fun s8 wx=>∃ i:Nat,s8=.int .i64 i∧i≤C.length∧wx=w1) (fun s8 _=>C.length - (intOf s8).toNat)
   case atStart=>exact⟨0,rfl,Nat.zero_le _,rfl⟩
   case round =>
    obtain⟨i,rfl,hi,rfl⟩:=hrel
    by_cases hlt:i < C.length
    ·have hlt':(i:Int) < (C.length:Int):=by omega
     obtain⟨x,hx⟩:∃ x,C[i]?=some x:=⟨_,List.getElem?_eq_getElem hlt⟩
     obtain⟨g,rfl,cx⟩:=HI.out.at hx
     have hne:=HN.out i x hx
     clear hx
     go_wp2
     exact⟨⟨i + 1,by simp,by omega,trivial⟩,by simp[intOf];omega⟩
    ·have hlt':¬ (i:Int) < (C.length:Int):=by omega
     go_wp2_with (first
      | (refine wpList_load_whole rfl 164 _ rfl _ rfl _ 164 HB.out _ Tryz.underlying164 rfl Tryz.info164s ?_)
      | (refine wpList_store_row rfl 164 _ _ rfl _ _ _ 164 rfl rfl HZ.out rfl Tryz.info164s (one3 _ _ _ _ _) ?_;intro w2 hb2 hf2))
     exact bodyPost_ret (results_c3 rfl rfl rfl rfl hb2 rfl) rfl ⟨_,rfl,RfTo.same HL.out (HF.out.then hf2 (by intro y hy;simp at hy;right;omega))⟩
 | true =>
   have hok':=hok
   unfold takeOk at hok'
   rw[Bool.and_eq_true,decide_eq_true_iff] at hok'
   obtain⟨⟨h0,h1⟩,h2⟩:=hok'
   obtain⟨p,rfl⟩:=Int.eq_ofNat_of_zero_le h0
   have hp:p < L.length:=by omega
   obtain⟨mm,hmm⟩:∃ mm,L[p]?=some mm:=⟨_,List.getElem?_eq_getElem hp⟩
   have e1:takeL cls L (p:Int)=L.eraseIdx p:=by simp[takeL,hok]
   have e2:takeM cls L (p:Int)=mm:=by simp[takeM,hok,List.getD_eq_getElem?_getD,hmm]
   have e3:takeE cls L (p:Int)=0:=by simp[takeE,hok]
   rw[e1,e2,e3]
   have hmem:p∈C:=by rw[← hC];exact(mem_chp _).2 ⟨hp,by simpa using h2⟩
   obtain⟨j,hj1,hj2⟩:=first_at hmem
   have hjl:=(List.getElem?_eq_some_iff.1 hj1).1
   have HJ1:=Lib.hid hj1;have HJ2:=Lib.hid hj2
   obtain⟨g,rfl,hcp⟩:=hcs p mm hmm
   have HC2:Hid (∀ wr,Frm [] w wr→wr.cell? ⟨g,p,none⟩=some (.string mm)):=Lib.hid fun wr hf=>hf.keep hcp
   have hroom:=HL.out.room
   clear hcs hcp hmem hj1 hj2 e1 e2 e3 hok hC h0 h1 h2 hmm
   obtain⟨i0,hi0,hz0,hz1,hz2⟩:=info_parts Tryz.info9
   go_enter Tryz.func89,Tryz.ntmps89
   go_wp2_with (first
    | (go_at_call 82;go_must (refine(CC.out _ (((Frm.refl [] w).alloc _).alloc _)).mono ?_;rintro e w1 ⟨v,rfl,hi,hf,hn⟩;obtain⟨ai,ci,rfl⟩:=own_shape hi;have HI:=Lib.hid hi;have HF:=Lib.hid ((((Frm.refl [] w).alloc _).alloc _).trans hf);have HB:=Lib.hid (hf.at (alloc_at (alloc_top (o:=.cells #[.int .i64 cls,.int .i64 cap,.slice (some ⟨g,0,none⟩) L.length cp] 164) rfl)) (by simp));have HZ:=Lib.hid (hf.at (alloc_top (o:=.cells #[.int .i64 0,.int .i64 0,.slice none 0 0] 164) (n:=w.heap.size + 1) (by simp)) (by simp));clear hi hf hn)))
   clear CC
   go_loopw [8] (fun s8 wx=>∃ i:Nat,s8=.int .i64 i∧i≤j∧wx=w1) (fun s8 _=>j - (intOf s8).toNat)
   case atStart=>exact⟨0,rfl,Nat.zero_le _,rfl⟩
   case round =>
    obtain⟨i,rfl,hi,rfl⟩:=hrel
    have hlt':(i:Int) < (C.length:Int):=by omega
    by_cases hlt:i < j
    ·obtain⟨x,hx⟩:∃ x,C[i]?=some x:=⟨_,List.getElem?_eq_getElem (by omega)⟩
     obtain⟨g',rfl,cx⟩:=HI.out.at hx
     have hne:((x:Int) == (p:Int))=false:=by have:=HJ2.out i hlt x hx;simp;omega
     clear hx
     go_wp2
     exact⟨⟨i + 1,by simp,by omega,trivial⟩,by simp[intOf];omega⟩
    ·obtain rfl:i=j:=by omega
     obtain⟨g',rfl,cx⟩:=HI.out.at HJ1.out
     have hne:((p:Int) == (p:Int))=true:=by simp
     have cm:=HC2.out _ HF.out
     have cb:wr.cell? ⟨w.heap.size,2,none⟩=some (.slice (some ⟨g,0,none⟩) L.length cp):=cell_of HB.out 2
     have hk1:p≤cp:=by omega
     have hk2:p + 1≤cp:=by omega
     have hk3:p + 1≤L.length:=by omega
     have hkl:(p:Int) < (L.length:Int):=by omega
     have hwk:IntKind.i64.wrap ((p:Int) + 1)=(p:Int) + 1:=by simp[IntKind.wrap,show IntKind.i64.bits=64 from rfl,show IntKind.i64.signed=true from rfl];omega
     have htn:((p:Int) + 1).toNat=p + 1:=by omega
     have hin2:(p:Int) + 1≤(L.length:Int):=by omega
     have hin3:(0:Int)≤(p:Int) + 1:=by omega
     have cb1:(wr.alloc (.cells #[] 9)).cell? ⟨w.heap.size,2,none⟩=some (.slice (some ⟨g,0,none⟩) L.length cp):=cell_of (alloc_at HB.out) 2
     have HLx:Hid (∀ W,Frm [] w W→Lf W (.slice (some ⟨g,0,none⟩) L.length cp) L):=Lib.hid fun W hf=>HL.out.frm hf (by simp)
     have HA1:Hid (∀ (o:Obj) j u,((L.take p).map Value.string)[j]?=some u→(wr.alloc o).drew.cell? ((⟨g,0,none⟩:Addr).add j)=some u):=Lib.hid fun o j u hu=>(HLx.out _ ((HF.out.alloc o).drew)).cells _ rfl j u (by
      rw[List.map_take] at hu
      have hj:j < p:=by have:=lt_of_some' hu;simp at this;omega
      rwa [List.getElem?_take_of_lt hj] at hu)
     go_wp2
     by_cases hlc:cp=p + 1
     ·subst hlc
      have HPL:Hid (p + 1=L.length):=Lib.hid (by omega)
      have hk5:(p:Int)≤(p:Int) + 1:=by omega
      go_region_law (first
       | (refine step_append_src rfl _ _ rfl wr.heap.size ?_ ?_ (.slice (some ⟨g,0,none⟩) p (p + 1)) ?_ p ((L.take p).map Value.string) ?_ ?_ ?_ ?_;(focus (go_simp;done));(focus exact(show (wr.alloc (.cells #[] 9)).heap[wr.heap.size]?=some (.cells #[] 9 (0,0)) from alloc_top rfl));(focus (go_simp;done));(focus exact Src.ofSlice _ Tryz.underlying75 _ p (p + 1) _ (by simp;omega) (HA1.out _) (by intro u hu;obtain⟨x,-,rfl⟩:=List.mem_map.1 hu;rfl));(focus exact fun _=>⟨_,_,rfl,HA1.out _⟩);(focus omega);intro ao1 cp1 w1 ho1 hg1;have cb2:w1.cell? ⟨w.heap.size,2,none⟩=some (.slice (some ⟨g,0,none⟩) L.length (p + 1)):=cell_of (grown_at hg1 (alloc_at HB.out) (by simp)) 2;have HB1:=Lib.hid (grown_at hg1 (show (wr.alloc (.cells #[] 9)).drew.heap[w.heap.size]?=_ from alloc_at HB.out) (by simp));have HZ1:=Lib.hid (grown_at hg1 (show (wr.alloc (.cells #[] 9)).drew.heap[w.heap.size + 1]?=_ from alloc_at HZ.out) (by simp));have HF1:=Lib.hid (((HF.out.alloc (.cells #[] 9)).drew).grown hg1 (by simp));have HO1:=Lib.hid ho1;have HG1:=Lib.hid hg1;clear ho1 hg1)
       | (refine step_append_own_at rfl _ _ 75 rfl wr.heap.size 9 i0 (.string { data:=#[] }) 1 16 Tryz.underlying75 hi0 hz0 hz1 hz2 rfl (by decide) (.slice ao1 p cp1) p ((L.take p).map Value.string) ?_ HO1.out ⟨g,0,none⟩ 0 0 [] ?_ ?_ ?_ ?_ ?_ ?_ ?_ ?_;(focus (go_simp;done));(focus (go_simp;done));(focus simp);(focus exact(fun j u hu=>by simp at hu));(focus (intro u hu;simp at hu));(focus (unfold maxLen;omega));(focus omega);(focus (have:=HG1.out.size;simp at this;omega));intro v' wa hown' hgrow;rw[Nat.add_zero,List.append_nil] at hown';obtain⟨ao2,cp2,rfl⟩:=own_shape hown';have HE:=Lib.hid (TkE.mk2 HB1.out HZ1.out HF1.out HO1.out (lt_of_block HB.out) (lt_of_block HZ.out) hown' hgrow HPL.out);have ca2:wa.cell? ⟨w.heap.size,2,none⟩=some (.slice (some ⟨g,0,none⟩) L.length (p + 1)):=cell_of HE.out.b 2;have fa2:=free_of HE.out.b 2;clear hown' hgrow))
      all_goals
       have HB2:=Lib.hid (block_setCell HE.out.b 2 (.slice ao2 p cp2))
       have HZ2:Hid ((wa.setCell ⟨w.heap.size,2,none⟩ (.slice ao2 p cp2)).heap[w.heap.size + 1]?=some (.cells #[.int .i64 0,.int .i64 0,.slice none 0 0] 164 (0,0))):=Lib.hid (setCell_at HE.out.z (by simp) _)
       clear ca2 fa2 cb1 cb2 cb cm cx
       go_wp2_with (first
        | (refine wpList_load_whole rfl 164 _ rfl _ rfl _ 164 HB2.out _ Tryz.underlying164 rfl Tryz.info164s ?_)
        | (refine wpList_store_row rfl 164 _ _ rfl _ _ _ 164 rfl rfl HZ2.out rfl Tryz.info164s (one3 _ _ _ _ _) ?_;intro w2 hb2 hf2))
       exact bodyPost_ret (results_c3 rfl rfl rfl rfl hb2 rfl) rfl ⟨_,rfl,ref_end (w0:=w) (p:=w.heap.size) (q:=w.heap.size + 1) (b:=wr.heap.size) (L':=L.eraseIdx p) (Frm.refl [] w) (Nat.le_refl _) (by omega) (lt_of_block HB.out) (lt_of_block HZ.out) HE.out.f HE.out.o HE.out.n hf2⟩
     ·have HD1:Hid (∀ W,Frm [] w W→∀ j u,((L.drop (p + 1)).map Value.string)[j]?=some u→W.cell? ((⟨g,p + 1,none⟩:Addr).add j)=some u):=Lib.hid fun W hf j u hu=>by
       have e:(⟨g,p + 1,none⟩:Addr).add j=⟨g,p + 1 + j,none⟩:=by cases j <;> simp[Addr.add]
       rw[List.map_drop,List.getElem?_drop] at hu
       have h1:=(HLx.out W hf).cells _ rfl (p + 1 + j) u hu
       have e2:(⟨g,0,none⟩:Addr).add (p + 1 + j)=⟨g,p + 1 + j,none⟩:=by simp[Addr.add]
       rw[e];rwa [e2] at h1
      go_region_law (first
       | (refine step_append_src rfl _ _ rfl wr.heap.size ?_ ?_ (.slice (some ⟨g,0,none⟩) p cp) ?_ p ((L.take p).map Value.string) ?_ ?_ ?_ ?_;(focus (go_simp;done));(focus exact(show (wr.alloc (.cells #[] 9)).heap[wr.heap.size]?=some (.cells #[] 9 (0,0)) from alloc_top rfl));(focus (go_simp;done));(focus exact Src.ofSlice _ Tryz.underlying75 _ p cp _ (by simp;omega) (HA1.out _) (by intro u hu;obtain⟨x,-,rfl⟩:=List.mem_map.1 hu;rfl));(focus exact fun _=>⟨_,_,rfl,HA1.out _⟩);(focus omega);intro ao1 cp1 w1 ho1 hg1;have cb2:w1.cell? ⟨w.heap.size,2,none⟩=some (.slice (some ⟨g,0,none⟩) L.length cp):=cell_of (grown_at hg1 (alloc_at HB.out) (by simp)) 2;have HB1:=Lib.hid (grown_at hg1 (show (wr.alloc (.cells #[] 9)).drew.heap[w.heap.size]?=_ from alloc_at HB.out) (by simp));have HZ1:=Lib.hid (grown_at hg1 (show (wr.alloc (.cells #[] 9)).drew.heap[w.heap.size + 1]?=_ from alloc_at HZ.out) (by simp));have HF1:=Lib.hid (((HF.out.alloc (.cells #[] 9)).drew).grown hg1 (by simp));have HO1:=Lib.hid ho1;have HG1:=Lib.hid hg1;clear ho1 hg1)
       | (refine step_append_own_at rfl _ _ 75 rfl wr.heap.size 9 i0 (.string { data:=#[] }) 1 16 Tryz.underlying75 hi0 hz0 hz1 hz2 rfl (by decide) (.slice ao1 p cp1) p ((L.take p).map Value.string) ?_ HO1.out ⟨g,p + 1,none⟩ (L.length - (p + 1)) (cp - (p + 1)) ((L.drop (p + 1)).map Value.string) ?_ ?_ ?_ ?_ ?_ ?_ ?_ ?_;(focus (go_simp;done));(focus (go_simp;done));(focus simp);(focus exact(HD1.out _ HF1.out));(focus (intro u hu;obtain⟨x,-,rfl⟩:=List.mem_map.1 hu;rfl));(focus (unfold maxLen;omega));(focus omega);(focus (have:=HG1.out.size;simp at this;omega));intro v' wa hown' hgrow;obtain⟨ao2,cp2,rfl⟩:=own_shape hown';have HE:=Lib.hid (TkE.mk1 HB1.out HZ1.out HF1.out HO1.out (lt_of_block HB.out) (lt_of_block HZ.out) hown' hgrow hp);have ca2:wa.cell? ⟨w.heap.size,2,none⟩=some (.slice (some ⟨g,0,none⟩) L.length cp):=cell_of HE.out.b 2;have fa2:=free_of HE.out.b 2;clear hown' hgrow))
      all_goals
       have HB2:=Lib.hid (block_setCell HE.out.b 2 (.slice ao2 (p + (L.length - (p + 1))) cp2))
       have HZ2:Hid ((wa.setCell ⟨w.heap.size,2,none⟩ (.slice ao2 (p + (L.length - (p + 1))) cp2)).heap[w.heap.size + 1]?=some (.cells #[.int .i64 0,.int .i64 0,.slice none 0 0] 164 (0,0))):=Lib.hid (setCell_at HE.out.z (by simp) _)
       clear ca2 fa2 cb1 cb2 cb cm cx
       go_wp2_with (first
        | (refine wpList_load_whole rfl 164 _ rfl _ rfl _ 164 HB2.out _ Tryz.underlying164 rfl Tryz.info164s ?_)
        | (refine wpList_store_row rfl 164 _ _ rfl _ _ _ 164 rfl rfl HZ2.out rfl Tryz.info164s (one3 _ _ _ _ _) ?_;intro w2 hb2 hf2))
       exact bodyPost_ret (results_c3 rfl rfl rfl rfl hb2 rfl) rfl ⟨_,rfl,ref_end (w0:=w) (p:=w.heap.size) (q:=w.heap.size + 1) (b:=wr.heap.size) (L':=L.eraseIdx p) (Frm.refl [] w) (Nat.le_refl _) (by omega) (lt_of_block HB.out) (lt_of_block HZ.out) HE.out.f HE.out.o HE.out.n hf2⟩
set_option maxHeartbeats 2000000 in
set_option maxRecDepth 100000 in
theorem refLose_any (cls cap:Int) (lv:Value) (L:List ByteArray) (w:World) (h:Lf w lv L) (hL:L.length≤64) :
  Calls Tryz.prog 85 #[.agg #[.int .i64 cls,.int .i64 cap,lv]] w (RetV (RfTo w cls cap lv (loseL cls L) fun a=>.tuple #[a,.string (loseM cls L),.int .i64 (loseE cls L)])):=by
 obtain⟨ao,cp,rfl,hcs⟩:=h.shape
 have HL:=Lib.hid h
 have CC:=Lib.hid (fun w' (hf:Frm [] w w')=>refTake_any cls cap _ L 0 w' (h.frm hf (by simp)) hL)
 clear h hcs
 by_cases h3:cls=3
 ·have z3:(cls != 3)=false:=by simpa using h3
  rw[loseL,loseM,loseE,if_pos h3,if_pos h3,if_pos h3]
  clear h3
  go_enter Tryz.func85,Tryz.ntmps85
  go_wp2_with (first
   | (refine wpList_load_whole rfl 164 _ rfl _ rfl _ 164 (alloc_at (alloc_top (by simp))) _ Tryz.underlying164 rfl Tryz.info164s ?_)
   | (go_at_call 89;go_must (refine(CC.out _ (((Frm.refl [] w).alloc _).alloc _)).mono ?_;rintro e w1 ⟨v,rfl,lv',rfl,hl,hf,hn⟩;obtain⟨ao',cp',rfl,-⟩:=hl.shape;have HL1:=Lib.hid hl;have HF:=Lib.hid hf;have HN:=Lib.hid hn;have HZ:=Lib.hid (hf.at (alloc_top (o:=.cells #[.int .i64 0,.int .i64 0,.slice none 0 0] 164) (n:=w.heap.size + 1) (by simp)) (by simp));clear hf hl hn))
   | (refine wpList_store_row rfl 164 _ _ rfl _ _ _ 164 rfl rfl HZ.out rfl Tryz.info164s (one3 _ _ _ _ _) ?_;intro w2 hb2 hf2))
  obtain⟨hn1,hn2⟩:Frm [] w w1∧∀ k,(Value.slice ao' (takeL cls L 0).length cp').ownBlock=some k→(Value.slice ao L.length cp).ownBlock=some k∨w.heap.size + 2≤k:=
   ⟨(((Frm.refl [] w).alloc _).alloc _).trans HF.out,fun k hk=>by have:=HN.out k hk;simpa using this⟩
  exact bodyPost_ret (results_c3 rfl rfl rfl rfl hb2 rfl) rfl ⟨_,rfl,_,rfl,HL1.out.frm hf2 (fun k hk hm=>by
   have h1:=hn2 k hk
   simp at hm
   rcases h1 with h1 | h1
   ·have:=HL.out.lt h1;omega
   ·omega),hn1.then hf2 (by intro y hy;simp at hy;right;omega),fun k hk=>by
   rcases hn2 k hk with h1 | h1
   ·exact .inl h1
   ·exact .inr (by omega)⟩
 ·have z3:(cls != 3)=true:=by simpa using h3
  rw[loseL,loseM,loseE,if_neg h3,if_neg h3,if_neg h3]
  clear h3
  go_enter Tryz.func85,Tryz.ntmps85
  go_wp2_with (first
   | (refine wpList_load_whole rfl 164 _ rfl _ rfl _ 164 (alloc_at (alloc_top (by simp))) _ Tryz.underlying164 rfl Tryz.info164s ?_))
  exact bodyPost_ret (results_c3 rfl rfl rfl rfl (alloc_top (by simp)) rfl) rfl ⟨_,rfl,RfTo.same HL.out (((Frm.refl [] w).alloc _).alloc _)⟩
end Go.Proofs.YtohfkhjlnlahdaaGreat
