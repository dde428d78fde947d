/- Part of the proof. -/
import Derived.Test.YtohfkhjlnlahdaaGreatV34
import Derived.Test.YtohfkhjlnlahdaaGreatV22
import Derived.Test.YtohfkhjlnlahdaaGreatV37
import Derived.Test.YtohfkhjlnlahdaaGreatV23
import Derived.Laws.StructEq
set_option linter.all false
namespace Go.Proofs.YtohfkhjlnlahdaaGreat
open Go.RowKit Go.BigFrame
def suC1 (u:Sp):List Value:=[.int .i64 u.role,.int .i64 u.peer,.string u.msg]
def suC (L:List Sp):List Value:=L.flatMap suC1
structure SuAt (w:World) (b o:Nat) (u:Sp):Prop where
 c0:w.cell? ⟨b,o,none⟩=some (.int .i64 u.role)
 c1:w.cell? ⟨b,o + 1,none⟩=some (.int .i64 u.peer)
 c2:w.cell? ⟨b,o + 2,none⟩=some (.string u.msg)
theorem SuAt.frm {w w':World} {b o:Nat} {u:Sp} (h:SuAt w b o u) (hf:Frm [] w w'):SuAt w' b o u:=⟨hf.keep h.c0,hf.keep h.c1,hf.keep h.c2⟩
abbrev suV (u:Sp):Value:=.agg #[.int .i64 u.role,.int .i64 u.peer,.string u.msg]
theorem suC_append (A B:List Sp):suC (A ++ B)=suC A ++ suC B:=by unfold suC;rw[List.flatMap_append]
theorem suC_at {L:List Sp}:∀ {i:Nat} {m:Sp},L[i]?=some m→(suC L)[i * 3]?=some (.int .i64 m.role)∧(suC L)[i * 3 + 1]?=some (.int .i64 m.peer)∧(suC L)[i * 3 + 2]?=some (.string m.msg):=by
 induction L with
 | nil=>intro i m h;simp at h
 | cons a L ih =>
   intro i m h
   have e:suC (a :: L)=suC1 a ++ suC L:=rfl
   cases i with
   | zero=>simp at h;subst h;rw[e];exact⟨rfl,rfl,rfl⟩
   | succ i =>
     have:=ih (i:=i) (m:=m) (by simpa using h)
     have hl:(suC1 a).length=3:=rfl
     rw[e,List.getElem?_append_right (by omega),List.getElem?_append_right (by omega),List.getElem?_append_right (by omega),hl]
     rw[show (i + 1) * 3 - 3=i * 3 by omega,show (i + 1) * 3 + 1 - 3=i * 3 + 1 by omega,show (i + 1) * 3 + 2 - 3=i * 3 + 2 by omega]
     exact this
theorem su_arr {W:World} {base:Nat} {v:Value} {L:List Sp} (h:W.ownsRow base 33 3 v L.length (suC L)):Arr 3 SuAt W v L:=by
 obtain⟨ao,cap,rfl⟩:=own_shape h
 refine⟨ao,cap,rfl,fun i m hm=>?_⟩
 have hl:=lt_of_some hm
 obtain⟨g,c,cur,e,-,-⟩:=own_block h (by omega)
 cases e
 have hc:=fun j hj=>World.ownsRow.cellAt h j hj
 obtain⟨h0,h1,h2⟩:=suC_at hm
 exact⟨g,0,rfl,by rw[Nat.zero_add,hc _ (by omega)];exact h0,by rw[Nat.zero_add,hc _ (by omega)];exact h1,by rw[Nat.zero_add,hc _ (by omega)];exact h2⟩
abbrev SB (w:World) (ob:Nat) (L:List Sp) (W:World):Prop:=BO 45 33 3 w ob L.length (suC L) W
abbrev suT:List TypeId:=[45,33,4]
theorem Tryz.infoSu:(Tryz.prog.info? 33).map (fun i=>(i.zero,i.size,i.bytes))=some (some (.agg #[.int .i64 0,.int .i64 0,.string { data:=#[] }]),3,32):=by kernel_rfl
theorem Kt.sub {T T':List TypeId} {W W':World} (h:Kt T W W') (hs:∀ t∈T,t∈T'):Kt T' W W':=⟨h.os,h.tape,h.output,h.size,fun k o hk ho=>h.at' k o hk fun c t fr e ht=>ho c t fr e (hs t ht)⟩
theorem SB.add {w W w1:World} {ob:Nat} {L:List Sp} {ao:Option Addr} {cap:Nat} {o:Obj} {v':Value} (m:Sp) (h:SB w ob L W) (h1:W.heap[ob]?=some (.cells #[.slice ao L.length cap] 45 (0,0))) (h2:W.ownsRow w.heap.size 33 3 (.slice ao L.length cap) L.length (suC L))
  (hg:(W.alloc o).grownBy w1 (Value.slice ao L.length cap).ownBlock) (ho:w1.ownsRow w.heap.size 33 3 v' (L.length + 1) (suC L ++ suC1 m)) :
  SB w ob (L ++ [m]) (w1.setCell ⟨ob,0,none⟩ v')∧Kt suT W (w1.setCell ⟨ob,0,none⟩ v'):=by
 have:=h.step h1 h2 (by decide) hg ho
 unfold SB
 rw[suC_append,List.length_append]
 exact⟨by simpa[suC] using this.1,this.2.sub (by decide)⟩
theorem FrI.turn {B1 B2 eb:Nat} {v:Value} {L:List StpD} {st:ByteArray} {b:Bool} {W W':World} (h:FrI B1 B2 v L st W) (hb:W.heap[eb]?=some (.cells #[.bool b] 4 (0,0))) (hf:Frm [eb] W W'):FrI B1 B2 v L st W':=by
 have ne:∀ {k:Nat} {c:Array Value} {t:TypeId} {fr:Nat × Nat},W.heap[k]?=some (.cells c t fr)→t≠4→k∉[eb]:=fun hk ht hm=>by
  rw[List.mem_singleton] at hm
  subst hm
  rw[hb] at hk
  cases hk
  exact ht rfl
 refine⟨hf.at h.b1 (ne h.b1 (by decide)),hf.at h.b2 (ne h.b2 (by decide)),h.a.frm fun g o t ht=>?_⟩
 have hg:g∉[eb]:=fun hm=>by
  rw[List.mem_singleton] at hm
  subst hm
  have:=ht.c0
  rw[cell_of hb] at this
  cases o with
  | zero=>simp at this
  | succ o=>simp at this
 exact⟨hf.cellAt ht.c0 hg,hf.cellAt ht.c1 hg,hf.cellAt ht.c2 hg,hf.cellAt ht.c3 hg,hf.cellAt ht.c4 hg,hf.cellAt ht.c5 hg,hf.cellAt ht.c6 hg,hf.cellAt ht.c7 hg,hf.cellAt ht.c8 hg⟩
theorem Kt.turn {eb:Nat} {b:Bool} {W W':World} (hb:W.heap[eb]?=some (.cells #[.bool b] 4 (0,0))) (hf:Frm [eb] W W'):Kt suT W W':=
 ⟨hf.os,hf.tape,hf.output,hf.size,fun k o hk ho=>hf.at hk fun hm=>by
  rw[List.mem_singleton] at hm
  subst hm
  rw[hb] at hk
  cases hk
  exact ho _ _ _ rfl (by decide)⟩
theorem ChR.ktS {bl bc cb:Nat} {cls cap:Int} {sv:Value} {L L':List ByteArray} {F:List Nat} {W W':World} (h:ChR bl bc cb cls sv L W) (hk:Kt suT W W') (hc:Chn W cb cls cap L' F):ChR bl bc cb cls sv L W':=by
 obtain⟨sv',hc1,-⟩:=hc
 exact⟨hk.cells h.1 (by decide),hk.row h.2.1 (by decide),hk.cells h.2.2.1 (by decide),cell_of (hk.cells hc1 (by decide)) 0⟩
theorem Bk.oldG {F:List Nat} {B:Nat} {w0 w w':World} (h:Bk B w w') (h0:Frm F w0 w) (hB:w0.heap.size≤B):Frm F w0 w':=
 ⟨h.os.trans h0.os,h.tape.trans h0.tape,h.output.trans h0.output,Nat.le_trans h0.size h.size,fun k hk hn=>by
  have e:=h0.block k hk hn
  have hk':w0.heap[k]?=some (w0.heap[k]):=Array.getElem?_eq_getElem hk
  rw[hk'] at e ⊢
  exact h.block k _ e (.inl (by omega))⟩
theorem eb_set {w W:World} {eb:Nat} {b:Bool} (hf:Frm [eb] w W) (hb:W.heap[eb]?=some (.cells #[.bool b] 4 (0,0))) (b':Bool) :
  KB W (W.setCell ⟨eb,0,none⟩ (.bool b'))∧Frm [eb] w (W.setCell ⟨eb,0,none⟩ (.bool b'))∧(W.setCell ⟨eb,0,none⟩ (.bool b')).heap[eb]?=some (.cells #[.bool b'] 4 (0,0)):=by
 have h0:Frm [eb] W (W.setCell ⟨eb,0,none⟩ (.bool b')):=(Frm.refl _ _).setCell _ (.inl (by simp)) _
 refine⟨KB.frm h0 fun y hy=>?_,hf.trans h0,(block_setCell hb 0 _).trans rfl⟩
 rw[List.mem_singleton] at hy
 subst hy
 exact not_books hb rfl
theorem su_end {w W:World} {ob cp:Nat} {ds:List Nat} {L M:List Sp} {ao:Option Addr} {fn:Func} {tmps:Array Value} (hf:Frm [] w W) (hn:w.heap.size≤ob) (h1:W.heap[ob]?=some (.cells #[.slice ao L.length cp] 45 (0,0)))
  (h2:W.ownsRow w.heap.size 33 3 (.slice ao L.length cp) L.length (suC L)) (hm:Ms w ds W) (hr:∀ V:World,V.cell? ⟨ob,0,none⟩=some (.slice ao L.length cp)→(results fn tmps).run Tryz.prog V=.ok (.slice ao L.length cp) V) (hL:L=M) :
  LeavesInM Fence.wide 3 Tryz.prog fn tmps (RetV fun v w'=>w'.ownsRow w.heap.size 33 3 v M.length (suC M)∧Frm [] w w') (marks ds) .returning (W.setCell ⟨ob,0,none⟩ (.slice ao L.length cp)):=by
 subst hL
 have hk:Kt suT W (W.setCell ⟨ob,0,none⟩ (.slice ao L.length cp)):=(Kt.refl _ W).set h1 (by decide) _
 have hm2:=hm.kt hk
 have hb:=(block_setCell h1 0 (.slice ao L.length cp)).trans rfl
 obtain⟨W2,hW2⟩:∃ W2,W.setCell ⟨ob,0,none⟩ (.slice ao L.length cp)=W2:=⟨_,rfl⟩
 have ho:W2.ownsRow w.heap.size 33 3 (.slice ao L.length cp) L.length (suC L):=by
  rw[← hW2]
  refine ownsRow_setCell_other h2 (fun e'=>?_) _
  obtain⟨c,hc⟩:=ownBlock_type h2 e'
  rw[h1] at hc;cases hc
 have hfw:Frm [] w W2:=by rw[← hW2];exact hf.setCell _ (.inr hn) _
 rw[hW2] at hm2 hb ⊢
 have hu:=unmark_frm ds W2
 have hno:∀ (k:Nat) c t fr,W2.heap[k]?=some (.cells c t fr)→k∉ds:=fun k c t fr hk hd=>by
  rw[(hm2.dl k hd).2] at hk;cases hk
 have hbu:=hu.at hb (hno _ _ _ _ hb)
 refine leaves_many ds W2 hm2.nd (fun D hD=>(hm2.dl D hD).2) ⟨_,hr _ (cell_of hbu 0),_,rfl,hu.owns ho (fun k hk=>?_),hfw.then hu (fun D hD=>.inr (hm2.dl D hD).1)⟩
 obtain⟨c,hc⟩:=ownBlock_type ho hk
 exact hno _ _ _ _ hc
section
variable {s:SesD} {x:PS}
theorem spOf_snoc (i p:Nat) (pre:List (Nat × ByteArray)) (e:Nat × ByteArray):spOf s x i p (pre ++ [e])=if expB s x i p e.2 then spOf s x i p pre else spOf s x i p pre ++ [⟨i,p,e.2⟩]:=by
 unfold spOf
 rw[List.filterMap_append,List.filterMap_cons]
 split
 ·rename_i h
  split at h
  ·rename_i h2;rw[if_pos h2];simp
  ·cases h
 ·rename_i b h
  split at h
  ·cases h
  ·rename_i h2;cases h;rw[if_neg h2];simp
theorem spAt_self (hx:PSok s x) (i:Nat):spAt s x i i=[]:=by
 unfold spAt
 have:x.way i i=[]:=hx.wd i
 rw[this];rfl
theorem spOf_len (i p:Nat) (l:List (Nat × ByteArray)):(spOf s x i p l).length≤l.length:=by
 unfold spOf
 exact List.length_filterMap_le _ _
theorem spAt_len (hs:SesOk s) (hx:PSok s x) {i p:Nat} (hi:i < s.roles.length) (hp:p < s.roles.length):(spAt s x i p).length≤4:=by
 unfold spAt
 have h1:=spOf_len (s:=s) (x:=x) i p (chlK s.cls (x.way p i) (x.way p i).length)
 have h2:=chlK_length s.cls (x.way p i) (x.way p i).length
 have h3:=(hx.wb p i hp hi).1
 have:=hs.k4
 omega
theorem spRole_len (hs:SesOk s) (hx:PSok s x) {i n:Nat} (hi:i < s.roles.length) (hn:n≤s.roles.length):(cat (fun p=>spAt s x i p) n).length≤16:=by
 have h1:=cat_len (n:=n) (f:=fun p=>spAt s x i p) (c:=4) (fun p hp=>spAt_len hs hx hi (by omega))
 have:=hs.n4
 omega
theorem of_len (hs:SesOk s) (hx:PSok s x) {n:Nat} (hn:n≤s.roles.length):(cat (fun i=>cat (fun p=>spAt s x i p) s.roles.length) n).length≤64:=by
 have h1:=cat_len (n:=n) (f:=fun i=>cat (fun p=>spAt s x i p) s.roles.length) (c:=16) (fun i hi=>spRole_len hs hx (by omega) (Nat.le_refl _))
 have:=hs.n4
 omega
def expK (s:SesD) (x:PS) (i p:Nat) (m:ByteArray) (l:List (Nat × StpD)):Bool:=l.any fun e=>hearB s x i p m e.2
theorem expK_snoc (i p:Nat) (m:ByteArray) (pre:List (Nat × StpD)) (e:Nat × StpD):expK s x i p m (pre ++ [e])=(expK s x i p m pre || hearB s x i p m e.2):=by
 unfold expK
 rw[List.any_append]
 simp
theorem expK_all (i p:Nat) (m:ByteArray):expK s x i p m (fromL (s.rol i).steps (hereN s x i))=expB s x i p m:=by
 unfold expK expB
 rw[Bool.eq_iff_iff,List.any_eq_true,List.any_eq_true]
 constructor
 ·rintro⟨⟨k,t⟩,h1,h2⟩
  exact⟨t,List.mem_of_getElem? (mem_fromL.1 h1).1,h2⟩
 ·rintro⟨t,h1,h2⟩
  obtain⟨k,hk⟩:=List.getElem?_of_mem h1
  refine⟨(k,t),mem_fromL.2 ⟨hk,?_⟩,h2⟩
  unfold hearB at h2
  simp only[Bool.and_eq_true,decide_eq_true_eq] at h2
  exact h2.1.2
end
end Go.Proofs.YtohfkhjlnlahdaaGreat
namespace Go.Proofs.YtohfkhjlnlahdaaGreat
open Go.RowKit Go.BigFrame
attribute [local go_sem] Oper.semAt_some
set_option maxHeartbeats 8000000 in
set_option maxRecDepth 100000 in
theorem xpSps_any (s:SesD) (yb fb sb:Nat) (x:PS) (v:Value) (w:World) (h:SyR w s yb fb) (hx:StR w s yb sb x) (hv:SesV w v s) :
  Calls Tryz.prog 73 #[v,.pointer (some ⟨sb,0,none⟩)] w (RetV fun u w'=>w'.ownsRow w.heap.size 33 3 u (ofP s x).length (suC (ofP s x))∧Frm [] w w'):=by
 have HSY:=Lib.hid h;have HST:=Lib.hid hx
 obtain⟨rv,rfl,hr⟩:=hv
 obtain⟨ra,rc,rfl⟩:=hr.shape
 obtain⟨n,hn⟩:∃ n,s.roles.length=n:=⟨_,rfl⟩
 have HR:=Lib.hid hr;have HN:=Lib.hid hn
 have hn4:n≤4:=by rw[← hn];exact h.ok.n4
 have HWI:Hid (∀ i:Nat,i < n→wrap64 ((i:Int) + 1)=((i + 1:Nat):Int)):=Lib.hid fun i hi=>by unfold wrap64;omega
 rw[hn] at HR ⊢
 obtain⟨W0,hW0⟩:∃ W0,((w.alloc (.cells #[.string s.name,.slice ra n rc,.int .i64 s.cls,.int .i64 s.cap] 25)).alloc (.cells #[.pointer (some ⟨sb,0,none⟩)] 38)).alloc (.cells #[.slice none 0 0] 45)=W0:=⟨_,rfl⟩
 have HF0:Hid (Frm [] w W0):=Lib.hid (by rw[← hW0];exact(((Frm.refl _ _).alloc _).alloc _).alloc _)
 have HB0:Hid (W0.heap[w.heap.size]?=some (.cells #[.string s.name,.slice ra n rc,.int .i64 s.cls,.int .i64 s.cap] 25 (0,0))):=Lib.hid (by rw[← hW0];exact alloc_at (alloc_at (heap_alloc_new _ _)))
 have HB1:Hid (W0.heap[w.heap.size + 1]?=some (.cells #[.pointer (some ⟨sb,0,none⟩)] 38 (0,0))):=Lib.hid (by rw[← hW0];exact alloc_at (alloc_top (by simp)))
 obtain⟨ob,hob⟩:∃ ob,w.heap.size + 1 + 1=ob:=⟨_,rfl⟩
 have hb2:W0.heap[ob]?=some (.cells #[.slice none 0 0] 45 (0,0)):=by rw[← hW0,← hob];exact alloc_top (by simp)
 have HM0:Hid (SB w ob [] W0):=Lib.hid (BO.made w _ _ _ HF0.out (by omega) hb2)
 have HOB:=Lib.hid hob
 have HE:=Lib.hid hW0
 clear h hx hr hn hn4 hW0 hb2 hob
 refine calls_of_marks Tryz.func73 rfl ?_
 simp only[Tryz.ntmps73,List.size_toArray,List.length_cons,List.length_nil,Nat.reduceAdd,Nat.reduceSub,Array.replicate_succ,Array.replicate_zero,List.push_toArray,List.append_toArray,List.nil_append,List.cons_append]
 go_upto_region 1 with (first | (refine wpList_box_row rfl 25 _ rfl _ rfl ?_))
 rw[HE.out,HOB.out]
 clear HE HOB
 have z1:=cell_of HB0.out 1
 go_upto_region 2 with fail
 clear z1
 refine wp_loop (fun a' w'=>∃ ds,∃ u5 u6 u7 u8 u9 u10 u12 u13 u15 u19 u20 u21 u22 u23 u24 u25 u26 u27 u28 u29 u30 u31 u32 u33 u34 u35 u36 u37 u38 u39 u40 u41 u42 u43 u44 u45 u46 u47 u48 u49 u50 u51 u52 u53 u54 u55 u56 u57 u58 u59 u60 u61 u62 u63 u64 u65 u66 u67 u68 u69 u70 u71 u72 u73 u74 u75 u76 u77 u78 u79 u80 u81 u82 u83 u84 u85 u86 u87 u88 u89:Value,(fun ds u19 w'=>∃ i:Nat,u19=.int .i64 (i:Int)∧i≤n∧SB w ob (cat (fun i=>cat (fun p=>spAt s x i p) s.roles.length) i) w'∧Ms w ds w'∧Kt suT W0 w') ds u19 w'∧a'={ tmps:=#[.agg #[.string s.name,.slice ra n rc,.int .i64 s.cls,.int .i64 s.cap],.pointer (some ⟨sb,0,none⟩),.pointer (some ⟨w.heap.size,0,none⟩),.pointer (some ⟨w.heap.size + 1,0,none⟩),.pointer (some ⟨ob,0,none⟩),u5,u6,u7,u8,u9,u10,undef,u12,u13,undef,u15,.pointer (some ⟨w.heap.size,1,none⟩),.slice ra n rc,.int .i64 (n:Int),u19,u20,u21,u22,u23,u24,u25,u26,u27,u28,u29,u30,u31,u32,u33,u34,u35,u36,u37,u38,u39,u40,u41,u42,u43,u44,u45,u46,u47,u48,u49,u50,u51,u52,u53,u54,u55,u56,u57,u58,u59,u60,u61,u62,u63,u64,u65,u66,u67,u68,u69,u70,u71,u72,u73,u74,u75,u76,u77,u78,u79,u80,u81,u82,u83,u84,u85,u86,u87,u88,u89,undef],defers:=marks ds }) (fun a' _=>n - (intOf (a'.tmps.getD 19 undef)).toNat) ?_ ?_
 ·refine⟨[],?_⟩
  (repeat apply Exists.intro)
  exact⟨⟨0,rfl,Nat.zero_le _,HM0.out,Ms.nil _ _,Kt.refl _ _⟩,rfl⟩
 intro a' wr hinv
 obtain⟨ds,hinv⟩:=hinv
 obtain⟨u5,hinv⟩:=hinv
 obtain⟨u6,hinv⟩:=hinv
 obtain⟨u7,hinv⟩:=hinv
 obtain⟨u8,hinv⟩:=hinv
 obtain⟨u9,hinv⟩:=hinv
 obtain⟨u10,hinv⟩:=hinv
 obtain⟨u12,hinv⟩:=hinv
 obtain⟨u13,hinv⟩:=hinv
 obtain⟨u15,hinv⟩:=hinv
 obtain⟨u19,hinv⟩:=hinv
 obtain⟨u20,hinv⟩:=hinv
 obtain⟨u21,hinv⟩:=hinv
 obtain⟨u22,hinv⟩:=hinv
 obtain⟨u23,hinv⟩:=hinv
 obtain⟨u24,hinv⟩:=hinv
 obtain⟨u25,hinv⟩:=hinv
 obtain⟨u26,hinv⟩:=hinv
 obtain⟨u27,hinv⟩:=hinv
 obtain⟨u28,hinv⟩:=hinv
 obtain⟨u29,hinv⟩:=hinv
 obtain⟨u30,hinv⟩:=hinv
 obtain⟨u31,hinv⟩:=hinv
 obtain⟨u32,hinv⟩:=hinv
 obtain⟨u33,hinv⟩:=hinv
 obtain⟨u34,hinv⟩:=hinv
 obtain⟨u35,hinv⟩:=hinv
 obtain⟨u36,hinv⟩:=hinv
 obtain⟨u37,hinv⟩:=hinv
 obtain⟨u38,hinv⟩:=hinv
 obtain⟨u39,hinv⟩:=hinv
 obtain⟨u40,hinv⟩:=hinv
 obtain⟨u41,hinv⟩:=hinv
 obtain⟨u42,hinv⟩:=hinv
 obtain⟨u43,hinv⟩:=hinv
 obtain⟨u44,hinv⟩:=hinv
 obtain⟨u45,hinv⟩:=hinv
 obtain⟨u46,hinv⟩:=hinv
 obtain⟨u47,hinv⟩:=hinv
 obtain⟨u48,hinv⟩:=hinv
 obtain⟨u49,hinv⟩:=hinv
 obtain⟨u50,hinv⟩:=hinv
 obtain⟨u51,hinv⟩:=hinv
 obtain⟨u52,hinv⟩:=hinv
 obtain⟨u53,hinv⟩:=hinv
 obtain⟨u54,hinv⟩:=hinv
 obtain⟨u55,hinv⟩:=hinv
 obtain⟨u56,hinv⟩:=hinv
 obtain⟨u57,hinv⟩:=hinv
 obtain⟨u58,hinv⟩:=hinv
 obtain⟨u59,hinv⟩:=hinv
 obtain⟨u60,hinv⟩:=hinv
 obtain⟨u61,hinv⟩:=hinv
 obtain⟨u62,hinv⟩:=hinv
 obtain⟨u63,hinv⟩:=hinv
 obtain⟨u64,hinv⟩:=hinv
 obtain⟨u65,hinv⟩:=hinv
 obtain⟨u66,hinv⟩:=hinv
 obtain⟨u67,hinv⟩:=hinv
 obtain⟨u68,hinv⟩:=hinv
 obtain⟨u69,hinv⟩:=hinv
 obtain⟨u70,hinv⟩:=hinv
 obtain⟨u71,hinv⟩:=hinv
 obtain⟨u72,hinv⟩:=hinv
 obtain⟨u73,hinv⟩:=hinv
 obtain⟨u74,hinv⟩:=hinv
 obtain⟨u75,hinv⟩:=hinv
 obtain⟨u76,hinv⟩:=hinv
 obtain⟨u77,hinv⟩:=hinv
 obtain⟨u78,hinv⟩:=hinv
 obtain⟨u79,hinv⟩:=hinv
 obtain⟨u80,hinv⟩:=hinv
 obtain⟨u81,hinv⟩:=hinv
 obtain⟨u82,hinv⟩:=hinv
 obtain⟨u83,hinv⟩:=hinv
 obtain⟨u84,hinv⟩:=hinv
 obtain⟨u85,hinv⟩:=hinv
 obtain⟨u86,hinv⟩:=hinv
 obtain⟨u87,hinv⟩:=hinv
 obtain⟨u88,hinv⟩:=hinv
 obtain⟨u89,hinv⟩:=hinv
 obtain⟨hrel,ha⟩:=hinv
 subst ha
 try dsimp only
 clear HM0
 obtain⟨i,rfl,hi,hmb,hms,hkt⟩:=hrel
 have HM:=Lib.hid hmb;have HMS:=Lib.hid hms;have HKT:=Lib.hid hkt
 clear hmb hms hkt
 by_cases hlt:i < n
 ·have hlt':(i:Int) < (n:Int):=by omega
  have hin:i < s.roles.length:=by rw[HN.out];exact hlt
  obtain⟨rb,ro,e1,sv,cv,tv,d0,d1,d2,d3,hr3⟩:=HR.out.get (SesD.rol_some hin)
  subst e1
  obtain⟨r,hrr⟩:∃ r,s.rol i=r:=⟨_,rfl⟩
  rw[hrr] at d0 hr3
  obtain⟨aS,cS,rfl⟩:=hr3.sts.shape
  obtain⟨aC,cC,rfl⟩:=hr3.ctrs.shape
  obtain⟨aT,cT,rfl⟩:=hr3.steps.shape
  have HR3:=Lib.hid hr3;have HIN:=Lib.hid hin;have HRR:=Lib.hid hrr
  replace d0:=HM.out.fr.keep d0;replace d1:=HM.out.fr.keep d1;replace d2:=HM.out.fr.keep d2;replace d3:=HM.out.fr.keep d3
  have hrl:=cell_lt d0
  clear hr3 hin hrr
  go_upto_region 4 with fail
  clear d0 d1 d2 d3 hrl
  obtain⟨V0,hV0⟩:∃ V0,(wr.alloc (.cells #[.int .i64 i] 3)).alloc (.cells #[.string r.name,.slice aS r.sts.length cS,.slice aC r.ctrs.length cC,.slice aT r.steps.length cT] 87)=V0:=⟨_,rfl⟩
  have F0:Hid (Frm [] wr V0):=Lib.hid (by rw[← hV0];exact((Frm.refl [] wr).alloc _).alloc _)
  have Q5:Hid (V0.heap[wr.heap.size]?=some (.cells #[.int .i64 i] 3 (0,0))):=Lib.hid (by rw[← hV0];exact alloc_at (heap_alloc_new _ _))
  have Q6:Hid (V0.heap[wr.heap.size + 1]?=some (.cells #[.string r.name,.slice aS r.sts.length cS,.slice aC r.ctrs.length cC,.slice aT r.steps.length cT] 87 (0,0))):=Lib.hid (by rw[← hV0];exact alloc_top (by simp))
  rw[hV0]
  clear hV0
  have M0:=Lib.hid (HM.out.frm F0.out)
  have KT0:Hid (Kt suT W0 V0):=Lib.hid (HKT.out.trans (Kt.frm F0.out))
  have CA:=Lib.hid (pAt_ok s yb fb sb i x V0 (HSY.out.frm M0.out.fr) (HST.out.frm M0.out.fr) HIN.out)
  rw[show ((s.rol i).sts.getD (x.at i) dS).name=hereN s x i from rfl] at CA
  have z3:=cell_of (KT0.out.cells HB1.out (by decide)) 0
  have z5:=cell_of Q5.out 0
  go_upto_region 5 with (first
   | (go_at_call 142;go_must (refine CA.out.mono ?_;rintro e w1 ⟨rfl,hf1⟩;have HF1:=Lib.hid hf1;clear hf1 CA z3 z5)))
  obtain⟨V1,hV1⟩:∃ V1,w1.alloc (.cells #[.string (hereN s x i)] 9)=V1:=⟨_,rfl⟩
  have F1:Hid (Frm [] V0 V1):=Lib.hid (by rw[← hV1];exact HF1.out.alloc _)
  have Q7:Hid (V1.heap[w1.heap.size]?=some (.cells #[.string (hereN s x i)] 9 (0,0))):=Lib.hid (by rw[← hV1];exact heap_alloc_new _ _)
  obtain⟨hb7,h7⟩:∃ b,w1.heap.size=b:=⟨_,rfl⟩
  rw[h7] at Q7
  rw[hV1,h7]
  have Q5':=Lib.hid (F1.out.at Q5.out (by simp));have Q6':=Lib.hid (F1.out.at Q6.out (by simp))
  have KT1:Hid (Kt suT W0 V1):=Lib.hid (KT0.out.trans (Kt.frm F1.out))
  have HM1:Hid (SB w ob (cat (fun i=>cat (fun p=>spAt s x i p) s.roles.length) i ++ cat (fun p=>spAt s x i p) 0) V1):=Lib.hid (by rw[show cat (fun p=>spAt s x i p) 0=[] from rfl,List.append_nil];exact M0.out.frm F1.out)
  have HMS1:=Lib.hid (HMS.out.frm (F0.out.trans F1.out))
  have z1:=cell_of (KT1.out.cells HB0.out (by decide)) 1
  clear hV1 h7 Q5 Q6 KT0 M0 HF1 F1
  go_upto_region 6 with fail
  clear z1
  refine wp_loop (fun a' w'=>∃ ds,∃ u9 u10 u12 u13 u15 u33 u34 u35 u36 u37 u38 u39 u40 u41 u42 u43 u44 u45 u46 u47 u48 u49 u50 u51 u52 u53 u54 u55 u56 u57 u58 u59 u60 u61 u62 u63 u64 u65 u66 u67 u68 u69 u70 u71 u72 u73 u74 u75 u76 u77 u78 u79 u80 u81 u82 u83 u84 u85 u86 u87 u88:Value,(fun ds u33 w'=>∃ p:Nat,u33=.int .i64 (p:Int)∧p≤n∧SB w ob (cat (fun i=>cat (fun p=>spAt s x i p) s.roles.length) i ++ cat (fun p=>spAt s x i p) p) w'∧Ms w ds w'∧Kt suT V1 w') ds u33 w'∧a'={ tmps:=#[.agg #[.string s.name,.slice (some ⟨rb,ro,none⟩) n rc,.int .i64 s.cls,.int .i64 s.cap],.pointer (some ⟨sb,0,none⟩),.pointer (some ⟨w.heap.size,0,none⟩),.pointer (some ⟨w.heap.size + 1,0,none⟩),.pointer (some ⟨ob,0,none⟩),.pointer (some ⟨wr.heap.size,0,none⟩),.pointer (some ⟨wr.heap.size + 1,0,none⟩),.pointer (some ⟨hb7,0,none⟩),.int .i64 0,u9,u10,undef,u12,u13,undef,u15,.pointer (some ⟨w.heap.size,1,none⟩),.slice (some ⟨rb,ro,none⟩) n rc,.int .i64 (n:Int),.int .i64 (i:Int),.bool true,.int .i64 (i:Int),.pointer (some ⟨rb,ro + i * 4,none⟩),.agg #[.string r.name,.slice aS r.sts.length cS,.slice aC r.ctrs.length cC,.slice aT r.steps.length cT],.tuple #[.string (hereN s x i),.int .i64 0],.pointer (some ⟨sb,0,none⟩),.int .i64 (i:Int),.tuple #[.string (hereN s x i),.int .i64 0],.string (hereN s x i),.int .i64 0,.pointer (some ⟨w.heap.size,1,none⟩),.slice (some ⟨rb,ro,none⟩) n rc,.int .i64 (n:Int),u33,u34,u35,u36,u37,u38,u39,u40,u41,u42,u43,u44,u45,u46,u47,u48,u49,u50,u51,u52,u53,u54,u55,u56,u57,u58,u59,u60,u61,u62,u63,u64,u65,u66,u67,u68,u69,u70,u71,u72,u73,u74,u75,u76,u77,u78,u79,u80,u81,u82,u83,u84,u85,u86,u87,u88,u89,undef],defers:=marks ds }) (fun a' _=>n - (intOf (a'.tmps.getD 33 undef)).toNat) ?_ ?_
  ·refine⟨ds,?_⟩
   (repeat apply Exists.intro)
   exact⟨⟨0,rfl,Nat.zero_le _,HM1.out,HMS1.out,Kt.refl _ _⟩,rfl⟩
  intro a' wq hinv
  obtain⟨ds,hinv⟩:=hinv
  obtain⟨u9,hinv⟩:=hinv
  obtain⟨u10,hinv⟩:=hinv
  obtain⟨u12,hinv⟩:=hinv
  obtain⟨u13,hinv⟩:=hinv
  obtain⟨u15,hinv⟩:=hinv
  obtain⟨u33,hinv⟩:=hinv
  obtain⟨u34,hinv⟩:=hinv
  obtain⟨u35,hinv⟩:=hinv
  obtain⟨u36,hinv⟩:=hinv
  obtain⟨u37,hinv⟩:=hinv
  obtain⟨u38,hinv⟩:=hinv
  obtain⟨u39,hinv⟩:=hinv
  obtain⟨u40,hinv⟩:=hinv
  obtain⟨u41,hinv⟩:=hinv
  obtain⟨u42,hinv⟩:=hinv
  obtain⟨u43,hinv⟩:=hinv
  obtain⟨u44,hinv⟩:=hinv
  obtain⟨u45,hinv⟩:=hinv
  obtain⟨u46,hinv⟩:=hinv
  obtain⟨u47,hinv⟩:=hinv
  obtain⟨u48,hinv⟩:=hinv
  obtain⟨u49,hinv⟩:=hinv
  obtain⟨u50,hinv⟩:=hinv
  obtain⟨u51,hinv⟩:=hinv
  obtain⟨u52,hinv⟩:=hinv
  obtain⟨u53,hinv⟩:=hinv
  obtain⟨u54,hinv⟩:=hinv
  obtain⟨u55,hinv⟩:=hinv
  obtain⟨u56,hinv⟩:=hinv
  obtain⟨u57,hinv⟩:=hinv
  obtain⟨u58,hinv⟩:=hinv
  obtain⟨u59,hinv⟩:=hinv
  obtain⟨u60,hinv⟩:=hinv
  obtain⟨u61,hinv⟩:=hinv
  obtain⟨u62,hinv⟩:=hinv
  obtain⟨u63,hinv⟩:=hinv
  obtain⟨u64,hinv⟩:=hinv
  obtain⟨u65,hinv⟩:=hinv
  obtain⟨u66,hinv⟩:=hinv
  obtain⟨u67,hinv⟩:=hinv
  obtain⟨u68,hinv⟩:=hinv
  obtain⟨u69,hinv⟩:=hinv
  obtain⟨u70,hinv⟩:=hinv
  obtain⟨u71,hinv⟩:=hinv
  obtain⟨u72,hinv⟩:=hinv
  obtain⟨u73,hinv⟩:=hinv
  obtain⟨u74,hinv⟩:=hinv
  obtain⟨u75,hinv⟩:=hinv
  obtain⟨u76,hinv⟩:=hinv
  obtain⟨u77,hinv⟩:=hinv
  obtain⟨u78,hinv⟩:=hinv
  obtain⟨u79,hinv⟩:=hinv
  obtain⟨u80,hinv⟩:=hinv
  obtain⟨u81,hinv⟩:=hinv
  obtain⟨u82,hinv⟩:=hinv
  obtain⟨u83,hinv⟩:=hinv
  obtain⟨u84,hinv⟩:=hinv
  obtain⟨u85,hinv⟩:=hinv
  obtain⟨u86,hinv⟩:=hinv
  obtain⟨u87,hinv⟩:=hinv
  obtain⟨u88,hinv⟩:=hinv
  obtain⟨hrel,ha⟩:=hinv
  subst ha
  try dsimp only
  clear HM1 HMS1 HMS HM
  obtain⟨p,rfl,hp,hmb,hms,hkt⟩:=hrel
  have HMq:=Lib.hid hmb;have HMSq:=Lib.hid hms;have HKTq:=Lib.hid hkt
  clear hmb hms hkt
  by_cases hltp:p < n
  ·have hltp':(p:Int) < (n:Int):=by omega
   have hpn:p < s.roles.length:=by rw[HN.out];exact hltp
   obtain⟨rb',ro',e1',sv',cv',tv',d0,d1,d2,d3,hr3'⟩:=HR.out.get (SesD.rol_some hpn)
   cases e1'
   obtain⟨o,hoo⟩:∃ o,s.rol p=o:=⟨_,rfl⟩
   rw[hoo] at d0 hr3'
   obtain⟨aS',cS',rfl⟩:=hr3'.sts.shape
   obtain⟨aC',cC',rfl⟩:=hr3'.ctrs.shape
   obtain⟨aT',cT',rfl⟩:=hr3'.steps.shape
   have HPN:=Lib.hid hpn;have HOO:=Lib.hid hoo
   replace d0:=HMq.out.fr.keep d0;replace d1:=HMq.out.fr.keep d1;replace d2:=HMq.out.fr.keep d2;replace d3:=HMq.out.fr.keep d3
   have hrl:=cell_lt d0
   clear hr3' hpn hoo
   go_upto_region 8 with fail
   clear d0 d1 d2 d3 hrl
   obtain⟨V2,hV2⟩:∃ V2,(wq.alloc (.cells #[.int .i64 p] 3)).alloc (.cells #[.string o.name,.slice aS' o.sts.length cS',.slice aC' o.ctrs.length cC',.slice aT' o.steps.length cT'] 87)=V2:=⟨_,rfl⟩
   have F2:Hid (Frm [] wq V2):=Lib.hid (by rw[← hV2];exact((Frm.refl [] wq).alloc _).alloc _)
   have Q9:Hid (V2.heap[wq.heap.size]?=some (.cells #[.int .i64 p] 3 (0,0))):=Lib.hid (by rw[← hV2];exact alloc_at (heap_alloc_new _ _))
   have Q10:Hid (V2.heap[wq.heap.size + 1]?=some (.cells #[.string o.name,.slice aS' o.sts.length cS',.slice aC' o.ctrs.length cC',.slice aT' o.steps.length cT'] 87 (0,0))):=Lib.hid (by rw[← hV2];exact alloc_top (by simp))
   rw[hV2]
   clear hV2
   have HE:Hid (cat (fun i=>cat (fun p=>spAt s x i p) s.roles.length) i ++ cat (fun p=>spAt s x i p) (p + 1)=(cat (fun i=>cat (fun p=>spAt s x i p) s.roles.length) i ++ cat (fun p=>spAt s x i p) p) ++ spAt s x i p):=Lib.hid (by rw[List.append_assoc];rfl)
   have M2:=Lib.hid (HMq.out.frm F2.out)
   have MS2:=Lib.hid (HMSq.out.frm F2.out)
   have KT2:Hid (Kt suT V1 V2):=Lib.hid (HKTq.out.trans (Kt.frm F2.out))
   obtain⟨L0,hL0⟩:∃ L0,cat (fun i=>cat (fun p=>spAt s x i p) s.roles.length) i ++ cat (fun p=>spAt s x i p) p=L0:=⟨_,rfl⟩
   have hLen:L0.length≤80:=by
    rw[← hL0,List.length_append]
    have a1:=of_len HSY.out.ok HST.out.ok (show i≤s.roles.length by have:=HIN.out;omega)
    have a2:=spRole_len HSY.out.ok HST.out.ok HIN.out (show p≤s.roles.length by have:=HPN.out;omega)
    exact Nat.le_trans (Nat.add_le_add a1 a2) (by decide)
   rw[hL0] at M2 HE
   have HLen:=Lib.hid hLen
   clear hL0 hLen HMq HMSq HKTq
   have z5:=cell_of (KT2.out.cells Q5'.out (by decide)) 0
   have z9:=cell_of Q9.out 0
   by_cases hip:p=i
   ·have hq:((p:Int) == (i:Int))=true:=by rw[hip];simp
    have HSM:Hid (spAt s x i p=[]):=Lib.hid (by rw[hip];exact spAt_self HST.out.ok i)
    clear hip
    go_wp2
    refine⟨⟨ds,?_⟩,?_⟩
    ·(repeat apply Exists.intro)
     exact⟨⟨p + 1,congrArg (Value.int .i64) (HWI.out p hltp),hltp,by rw[HE.out,HSM.out,List.append_nil];exact M2.out,MS2.out,KT2.out⟩,rfl⟩
    ·exact meas_up hltp (HWI.out p hltp)
   ·have hq:((p:Int) == (i:Int))=false:=by rw[beq_eq_false_iff_ne];omega
    have CAr:=Lib.hid (xpArr_any s yb sb i p x V2 HSY.out.ok (HST.out.frm M2.out.fr) HIN.out HPN.out hip)
    have HLW:Hid ((x.way p i).length≤4):=Lib.hid (by have:=(HST.out.ok.wb p i HPN.out HIN.out).1;have:=HSY.out.ok.k4;omega)
    have HSM:Hid (spAt s x i p=spOf s x i p (chlK s.cls (x.way p i) (x.way p i).length)):=Lib.hid rfl
    obtain⟨LL,hLL⟩:∃ LL,x.way p i=LL:=⟨_,rfl⟩
    rw[hLL] at CAr HLW HSM
    have z3:=cell_of ((KT1.out.trans KT2.out).cells HB1.out (by decide)) 0
    have z2:=cell_of ((KT1.out.trans KT2.out).cells HB0.out (by decide)) 2
    clear hip hLL
    go_wp2_with (first
     | (go_at_call 143;go_must (refine CAr.out.mono ?_;rintro e w5 ⟨v,rfl,⟨bl,bc,cb,sv5,rfl,hcr,⟨F5,hch⟩,hf⟩⟩;have HCR:=Lib.hid hcr;have HCH:=Lib.hid hch;have HF5:=Lib.hid hf;clear hcr hch hf CAr z3 z2 z5 z9)))
    have hit:=chc_iter bl bc cb s.cls sv5 LL HSY.out.ok.c1 HSY.out.ok.c3 (by have:=HLW.out;omega)
    have M5:=Lib.hid (M2.out.frm HF5.out)
    have MS5:=Lib.hid (MS2.out.frm HF5.out)
    have KT5:Hid (Kt suT V1 w5):=Lib.hid (KT2.out.trans (Kt.frm HF5.out))
    have D9:=Lib.hid (HF5.out.at Q9.out (by simp))
    have D10:=Lib.hid (HF5.out.at Q10.out (by simp))
    clear M2 MS2 KT2 Q9 Q10 HF5
    refine wp_rangeList rfl (enters_of Tryz.func178 (by kernel_rfl) rfl) hit (fun _=>rfl) (fun pre W=>SB w ob (L0 ++ spOf s x i p pre) W∧Kt suT w5 W) (fun _ _ _=>False) (fun _ _ _ h hb=>⟨h.1.bk hb M5.out.fr.size,h.2.bk hb⟩) (fun _ _ _ _ h _=>h) (fun _ W h=>HCR.out.ktS h.2 HCH.out) ⟨by rw[show spOf s x i p []=[] from rfl,List.append_nil];exact M5.out,Kt.refl _ _⟩ ?_ ?_ (fun _ _ _ _ _ _ _ _ h=>h.elim)
    ·intro l0 pre y rest Wr hxs hI hl hlr
     have hpl:pre.length < 4:=by
      have h1:=chlK_length s.cls LL LL.length
      rw[hxs,List.length_append,List.length_cons] at h1
      have:=HLW.out;omega
     have HI:=Lib.hid hI
     clear hI hlr hl hxs
     obtain⟨yi,ym⟩:=y
     simp only[encC]
     gi_wp2
     refine⟨KB.frm0 ((Frm.refl [] Wr).alloc _),fun Wq hbk hlq=>?_⟩
     have HI2:=Lib.hid (⟨(HI.out.1.frm ((Frm.refl [] Wr).alloc (.cells #[.string ym] 9))).bk hbk M5.out.fr.size,(HI.out.2.alloc _).bk hbk⟩:SB w ob (L0 ++ spOf s x i p pre) Wq∧Kt suT w5 Wq)
     have C12:Hid (Wq.heap[Wr.heap.size]?=some (.cells #[.string ym] 9 (0,0))):=Lib.hid (hbk.at (heap_alloc_new _ _) rfl)
     obtain⟨b12,h12⟩:∃ b,Wr.heap.size=b:=⟨_,rfl⟩
     rw[h12] at C12
     rw[h12]
     have HLQ:=Lib.hid hlq
     clear hbk h12 hlq HI
     gi_upto_region 12 with fail
     obtain⟨Wb,hWb⟩:∃ W,Wq.alloc (.cells #[.bool false] 4)=W:=⟨_,rfl⟩
     obtain⟨eb,heb⟩:∃ b,Wq.heap.size=b:=⟨_,rfl⟩
     have FB:Hid (Frm [] Wq Wb):=Lib.hid (by rw[← hWb];exact(Frm.refl _ _).alloc _)
     have EB:Hid (Wb.heap[eb]?=some (.cells #[.bool false] 4 (0,0))):=Lib.hid (by rw[← hWb,← heb];exact heap_alloc_new _ _)
     have HEB:Hid (Wq.heap.size≤eb):=Lib.hid (by omega)
     rw[hWb,heb]
     clear hWb heb
     have KB5:Hid (Kt suT V1 Wb):=Lib.hid (KT5.out.trans (HI2.out.2.trans (Kt.frm FB.out)))
     have z6:=KB5.out.cells Q6'.out (by decide)
     have z60:=cell_of z6 0
     have z61:=cell_of z6 1
     have z62:=cell_of z6 2
     have z63:=cell_of z6 3
     have z7:=cell_of (KB5.out.cells Q7.out (by decide)) 0
     have HFw:Hid (Frm [] w Wb):=Lib.hid (HI2.out.1.fr.trans FB.out)
     have ht80:r.steps.length≤80:=by have:=(HSY.out.ok.at HIN.out).t80;rw[HRR.out] at this;exact this
     have CF:=Lib.hid (rFrom_any r (hereN s x i) (.string r.name) (.slice aS r.sts.length cS) (.slice aC r.ctrs.length cC) (.slice aT r.steps.length cT) Wb (HR3.out.steps.frm fun _ _ _ h=>h.frm HFw.out) (by omega))
     have HT80:=Lib.hid ht80
     clear z6 ht80
     gi_wp2_with (refine⟨trivial,?_⟩;gi_at_call 144;go_must (refine(CallsIn.inRound l0 (callsIn_wide.2 CF.out)).mono ?_;rintro e w6 ⟨v,rfl,B1,B2,sv6,rfl,hfi,hf6⟩;have HFI:=Lib.hid hfi;have HF6:=Lib.hid hf6;clear hfi hf6 CF z60 z61 z62 z63 z7))
     have EB6:=Lib.hid (HF6.out.at EB.out (by simp))
     have HFw6:Hid (Frm [] w w6):=Lib.hid (HFw.out.trans HF6.out)
     have HWe:Hid (w.heap.size≤eb):=Lib.hid (by have:=HI2.out.1.fr.size;have:=HEB.out;omega)
     have hl6:∃ r,w6.heap[l0]?=some (.loop r):=by
      obtain⟨r0,hr0⟩:=HLQ.out
      exact⟨r0,HF6.out.at (FB.out.at hr0 (by simp)) (by simp)⟩
     have KT6:Hid (Kt suT V1 w6):=Lib.hid (KB5.out.trans (Kt.frm HF6.out))
     have C126:Hid (w6.heap[b12]?=some (.cells #[.string ym] 9 (0,0))):=Lib.hid (HF6.out.at (FB.out.at C12.out (by simp)) (by simp))
     have D106:Hid (w6.heap[wq.heap.size + 1]?=some (.cells #[.string o.name,.slice aS' o.sts.length cS',.slice aC' o.ctrs.length cC',.slice aT' o.steps.length cT'] 87 (0,0))):=Lib.hid (HF6.out.at (FB.out.at (HI2.out.2.cells D10.out (by decide)) (by simp)) (by simp))
     refine wpIn_rangeListN hl6 rfl (enters_of Tryz.func189 (by kernel_rfl) rfl) (from_iter B1 B2 sv6 r.steps (hereN s x i) (by have:=HT80.out;omega)) (fun _=>rfl)
      (fun pre2 W=>Frm [eb] w6 W∧W.heap[eb]?=some (.cells #[.bool (expK s x i p ym pre2)] 4 (0,0))) (fun _ _ _=>False) (fun _ _ _ h hb=>⟨hb.oldG h.1 (Nat.le_refl _),hb.at h.2 rfl⟩) (fun _ _ _ _ h _=>h.elim) (fun _ W h=>HFI.out.turn EB6.out h.1)
      ⟨Frm.refl _ _,EB6.out⟩ ?_ ?_ (fun _ _ _ _ _ _ h=>h.elim)
     ·intro l1 pre2 y2 rest2 Wi hxs2 hI3 hl2 hlr2
      obtain⟨k,t⟩:=y2
      have hmem:(k,t)∈fromL r.steps (hereN s x i):=by rw[hxs2];simp
      obtain⟨hrk,hfrm⟩:=mem_fromL.1 hmem
      have HTM:Hid (t∈(s.rol i).steps):=Lib.hid (by rw[HRR.out];exact List.mem_of_getElem? hrk)
      have HFM:=Lib.hid hfrm
      have HI3:=Lib.hid hI3
      clear hI3 hl2 hlr2 hxs2 hmem hrk hfrm hl6
      simp only[stpV]
      gi_wp2
      refine⟨KB.frm0 ((Frm.refl [] Wi).alloc _),fun Wj hbk2 _=>?_⟩
      have HI4:=Lib.hid (⟨hbk2.oldG (HI3.out.1.alloc (.cells #[.string t.frm,.string t.to,.int .i64 t.kind,.string t.msg,.string t.peer,.string t.ctr,.int .i64 t.low,.int .i64 t.high,.int .i64 t.add] 137)) (Nat.le_refl _),hbk2.at (alloc_at HI3.out.2) rfl⟩:Frm [eb] w6 Wj∧Wj.heap[eb]?=some (.cells #[.bool (expK s x i p ym pre2)] 4 (0,0)))
      have C15:Hid (Wj.heap[Wi.heap.size]?=some (.cells #[.string t.frm,.string t.to,.int .i64 t.kind,.string t.msg,.string t.peer,.string t.ctr,.int .i64 t.low,.int .i64 t.high,.int .i64 t.add] 137 (0,0))):=Lib.hid (hbk2.at (heap_alloc_new _ _) rfl)
      obtain⟨b15,h15⟩:∃ b,Wi.heap.size=b:=⟨_,rfl⟩
      rw[h15] at C15
      rw[h15]
      have HKj:Hid (Kt suT w6 Wj):=Lib.hid (Kt.turn EB6.out HI4.out.1)
      have HFwj:Hid (Frm [] w Wj):=Lib.hid (HFw6.out.then HI4.out.1 (fun y hy=>.inr (by rw[List.mem_singleton] at hy;have:=HWe.out;omega)))
      have c13:=cell_of HI4.out.2 0
      have f13:=free_of HI4.out.2 0
      have CG:=Lib.hid (xpGrd_any s yb fb sb i x t Wj (HSY.out.frm HFwj.out) (HST.out.frm HFwj.out) HIN.out HTM.out)
      have HXS:=Lib.hid (expK_snoc (s:=s) (x:=x) i p ym pre2 (k,t))
      clear hbk2 h15 HI3
      obtain⟨b,hb⟩:∃ b,expK s x i p ym pre2=b:=⟨_,rfl⟩
      rw[hb] at c13 HXS HI4
      clear hb
      have q2:=cell_of C15.out 2
      have q3:=cell_of C15.out 3
      have q4:=cell_of C15.out 4
      have m0:=cell_of (HKj.out.cells C126.out (by decide)) 0
      have o0:=cell_of (HKj.out.cells D106.out (by decide)) 0
      cases b with
      | true =>
        have HV:Hid (expK s x i p ym (pre2 ++ [(k,t)])=true):=Lib.hid (by rw[HXS.out];rfl)
        gi_wp2_with (refine⟨trivial,?_⟩)
        obtain⟨g1,g2,g3⟩:=eb_set HI4.out.1 HI4.out.2 true
        exact⟨g1,g2,by rw[HV.out];exact g3⟩
      | false =>
        by_cases hk2:t.kind=2
        ·have b2:(t.kind == 2)=true:=by simpa using hk2
         by_cases hm:t.msg=ym
         ·have b3:(t.msg.toList == ym.toList)=true:=by rw[str_beq,decide_eq_true hm]
          by_cases hpe:t.peer=o.name
          ·have b4:(t.peer.toList == o.name.toList)=true:=by rw[str_beq,decide_eq_true hpe]
           have z3:=cell_of (((KT1.out.trans KT6.out).trans HKj.out).cells HB1.out (by decide)) 0
           have z5:=cell_of ((KT6.out.trans HKj.out).cells Q5'.out (by decide)) 0
           have q0:=cell_of C15.out 0
           have q1:=cell_of C15.out 1
           have q5:=cell_of C15.out 5
           have q6:=cell_of C15.out 6
           have q7:=cell_of C15.out 7
           have q8:=cell_of C15.out 8
           obtain⟨bk,hbk⟩:∃ bk,bankOk (s.rol i).ctrs (x.bank i) t=bk:=⟨_,rfl⟩
           have HV:Hid (expK s x i p ym (pre2 ++ [(k,t)])=bk):=Lib.hid (by
            rw[HXS.out]
            unfold hearB
            rw[decide_eq_true hk2,decide_eq_true hm,decide_eq_true (show t.peer=(s.rol p).name by rw[HOO.out];exact hpe),decide_eq_true HFM.out,hbk]
            simp)
           rw[hbk] at CG
           clear hk2 hm hpe hbk
           gi_wp2_with (refine⟨trivial,?_⟩;gi_at_call 145;go_must (refine(CallsIn.inRound l1 (callsIn_wide.2 CG.out)).mono ?_;rintro e w7 ⟨rfl,hf7⟩;have HF7:=Lib.hid hf7;have HE7:=Lib.hid (hf7.at HI4.out.2 (by simp));have c13':=cell_of HE7.out 0;have f13':=free_of HE7.out 0;clear hf7))
           obtain⟨g1,g2,g3⟩:=eb_set (HI4.out.1.then HF7.out (by simp)) HE7.out bk
           exact⟨(KB.frm0 HF7.out).trans g1,g2,by rw[HV.out];exact g3⟩
          ·have b4:(t.peer.toList == o.name.toList)=false:=by rw[str_beq,decide_eq_false hpe]
           have HV:Hid (expK s x i p ym (pre2 ++ [(k,t)])=false):=Lib.hid (by
            rw[HXS.out]
            unfold hearB
            rw[decide_eq_false (show ¬ t.peer=(s.rol p).name by rw[HOO.out];exact hpe)]
            simp)
           clear hk2 hm hpe
           gi_wp2_with (refine⟨trivial,?_⟩)
           obtain⟨g1,g2,g3⟩:=eb_set HI4.out.1 HI4.out.2 false
           exact⟨g1,g2,by rw[HV.out];exact g3⟩
         ·have b3:(t.msg.toList == ym.toList)=false:=by rw[str_beq,decide_eq_false hm]
          have HV:Hid (expK s x i p ym (pre2 ++ [(k,t)])=false):=Lib.hid (by
           rw[HXS.out]
           unfold hearB
           rw[decide_eq_false hm]
           simp)
          clear hk2 hm
          gi_wp2_with (refine⟨trivial,?_⟩)
          obtain⟨g1,g2,g3⟩:=eb_set HI4.out.1 HI4.out.2 false
          exact⟨g1,g2,by rw[HV.out];exact g3⟩
        ·have b2:(t.kind == 2)=false:=by simpa using hk2
         have HV:Hid (expK s x i p ym (pre2 ++ [(k,t)])=false):=Lib.hid (by
          rw[HXS.out]
          unfold hearB
          rw[decide_eq_false hk2]
          simp)
         clear hk2
         gi_wp2_with (refine⟨trivial,?_⟩)
         obtain⟨g1,g2,g3⟩:=eb_set HI4.out.1 HI4.out.2 false
         exact⟨g1,g2,by rw[HV.out];exact g3⟩
     ·intro W hI
      have hall:=expK_all (s:=s) (x:=x) i p ym
      rw[HRR.out] at hall
      have HFW:Hid (Frm [] Wq W):=Lib.hid ((FB.out.trans HF6.out).then hI.1 (fun y hy=>.inr (by rw[List.mem_singleton] at hy;have:=HEB.out;omega)))
      obtain⟨b,hb⟩:∃ b,expB s x i p ym=b:=⟨_,rfl⟩
      rw[hb] at hall
      have hEW:=hI.2
      rw[hall] at hEW
      have c13:=cell_of hEW 0
      have HSN:=Lib.hid (spOf_snoc (s:=s) (x:=x) i p pre (yi,ym))
      rw[hb] at HSN
      have HMw:=Lib.hid (HI2.out.1.frm HFW.out)
      have HKw:Hid (Kt suT w5 W):=Lib.hid (HI2.out.2.trans (Kt.frm HFW.out))
      have C12w:=Lib.hid (HFW.out.at C12.out (by simp))
      clear hI hall hb hEW hl6
      cases b with
      | true =>
        gi_wp2
        refine⟨KB.frm0 HFW.out,?_⟩
        show SB w ob (L0 ++ spOf s x i p (pre ++ [(yi,ym)])) _∧Kt suT w5 _
        rw[HSN.out,if_pos trivial]
        exact⟨HMw.out,HKw.out⟩
      | false =>
        have z5:=cell_of ((KT5.out.trans HKw.out).cells Q5'.out (by decide)) 0
        have z9:=cell_of (HKw.out.cells D9.out (by decide)) 0
        have z12:=cell_of C12w.out 0
        have hlen:(L0 ++ spOf s x i p pre).length≤90:=by
         have:=spOf_len (s:=s) (x:=x) i p pre
         have:=HLen.out
         rw[List.length_append];omega
        obtain⟨L1,hL1⟩:∃ L1,L0 ++ spOf s x i p pre=L1:=⟨_,rfl⟩
        rw[hL1] at HMw hlen
        have HL1:=Lib.hid hL1
        obtain⟨ao,cp,hb1,hb2⟩:=HMw.out.bx
        have cx:=cell_of hb1 0
        have HB1':=Lib.hid hb1;have HB2':=Lib.hid hb2
        obtain⟨i0,hi0,hz0,hz1,hz2⟩:=info_parts Tryz.infoSu
        have hsz:w.heap.size≤(W.alloc (.cells #[.int .i64 i,.int .i64 p,.string ym] 33)).heap.size:=by have:=HMw.out.fr.size;simp;omega
        clear hb1 hb2 hL1
        gi_wp2_with (gi_at_builtin;refine wpListIn_append_own _ rfl _ _ 45 rfl w.heap.size 33 i0 (.agg #[.int .i64 0,.int .i64 0,.string { data:=#[] }]) 3 32 Tryz.underlying45 hi0 hz0 hz1 hz2 rfl (by decide) (.slice ao L1.length cp) L1.length (suC L1) rfl (HB2'.out.alloc _) ⟨W.heap.size,0,none⟩ 1 1 (suC1 ⟨i,p,ym⟩) rfl rfl (new_row _ _ _) (by simp[suC1,Value.oneCell']) (by unfold maxLen;omega) (by omega) hsz ?_;intro v' w9 hown' hgrow _;obtain⟨ao',cp',rfl⟩:=own_shape hown';have hbx:=BO.facts HB1'.out HB2'.out (by decide) hgrow;have cx6:=cell_of hbx 0;have fx6:=free_of hbx 0;have HG:=Lib.hid hgrow;have HO:=Lib.hid hown';clear hgrow hown' hbx cx)
        have h9:=SB.add ⟨i,p,ym⟩ HMw.out HB1'.out HB2'.out HG.out HO.out
        refine⟨(KB.frm0 HFW.out).trans h9.2.kb,?_⟩
        show SB w ob (L0 ++ spOf s x i p (pre ++ [(yi,ym)])) _∧Kt suT w5 _
        rw[HSN.out,if_neg (by decide),← List.append_assoc,HL1.out]
        exact⟨h9.1,HKw.out.trans h9.2⟩
    ·intro D W hD hI hK
     have HID:=Lib.hid hI;have HKD:=Lib.hid hK;have HDD:=Lib.hid hD
     clear hI hK hD hit
     go_wp2
     refine⟨⟨D :: ds,?_⟩,?_⟩
     ·(repeat apply Exists.intro)
      exact⟨⟨p + 1,congrArg (Value.int .i64) (HWI.out p hltp),hltp,by rw[HE.out,HSM.out];exact HID.out.1,MS5.out.more M5.out.fr.size HID.out.2 HDD.out HKD.out,KT5.out.trans HID.out.2⟩,rfl⟩
     ·exact meas_up hltp (HWI.out p hltp)
  ·obtain rfl:n=p:=by omega
   have hge:¬ (n:Int) < (n:Int):=by omega
   go_wp2
   refine⟨⟨ds,?_⟩,?_⟩
   ·(repeat apply Exists.intro)
    exact⟨⟨i + 1,congrArg (Value.int .i64) (HWI.out i hlt),hlt,by have:=HMq.out;rw[← HN.out] at this;exact this,HMSq.out,KT1.out.trans HKTq.out⟩,rfl⟩
   ·exact meas_up hlt (HWI.out i hlt)
 ·obtain rfl:n=i:=by omega
  have hge:¬ (n:Int) < (n:Int):=by omega
  obtain⟨ao,cp,hb1,hb2⟩:=HM.out.bx
  have cx:=cell_of hb1 0
  have fx:=free_of hb1 0
  have HB1':=Lib.hid hb1;have HB2':=Lib.hid hb2
  clear hb1 hb2
  go_wp2
  exact su_end HM.out.fr HM.out.new HB1'.out HB2'.out HMS.out (fun V hc=>by simp[results,go_sem,hc]) (by rw[← HN.out];rfl)
end Go.Proofs.YtohfkhjlnlahdaaGreat
namespace Go.Proofs.YtohfkhjlnlahdaaGreat
open Go.RowKit Go.BigFrame
abbrev encU (m:Sp):Array Value:=#[.int .i64 m.role,.int .i64 m.peer,.string m.msg]
theorem Tryz.undSp:Tryz.prog.underlying 33=some (.struct (Tryz.prog.fieldsOf 33)):=by kernel_rfl
theorem txt_iff {a b:ByteArray}:a.toList=b.toList↔a=b:=by
 constructor
 ·intro h
  by_cases hab:a=b
  ·exact hab
  ·have:=str_ne hab
   rw[h] at this
   simp at this
 ·rintro rfl;rfl
theorem sp_ext {a b:Sp}:a=b↔(a.role:Int)=(b.role:Int)∧(a.peer:Int)=(b.peer:Int)∧a.msg=b.msg:=by
 obtain⟨a1,a2,a3⟩:=a
 obtain⟨b1,b2,b3⟩:=b
 simp only[Sp.mk.injEq]
 constructor
 ·rintro⟨rfl,rfl,rfl⟩
  exact⟨rfl,rfl,rfl⟩
 ·rintro⟨h1,h2,h3⟩
  exact⟨Int.ofNat.inj h1,Int.ofNat.inj h2,h3⟩
set_option maxHeartbeats 1000000 in
set_option maxRecDepth 100000 in
theorem eql_sp (a b:Sp) (w:World):(binOp .eql 33 (.agg (encU a)) (.agg (encU b))).run Tryz.prog w=.ok (.bool (decide (a=b))) w:=by
 have h:(Op.equalIn (9999 + 1) 33 (.agg (encU a)) (.agg (encU b))).run Tryz.prog w=.ok (decide (a=b)) w:=by
  rw[run_equalIn_struct w 9999 33 _ _ Tryz.undSp (by kernel_rfl)]
  have hd:decide (a=b)=decide ((a.role:Int)=(b.role:Int)∧(a.peer:Int)=(b.peer:Int)∧a.msg=b.msg):=decide_eq_decide.2 sp_ext
  rw[hd]
  simp[go_sem,encU,Tryz.underlying33]
  obtain⟨a1,a2,a3⟩:=a
  obtain⟨b1,b2,b3⟩:=b
  simp only[txt_iff]
  clear hd
  repeat' split
  all_goals simp[*]
 simp only[binOp]
 simp[show Op.equal 33 (.agg (encU a)) (.agg (encU b))=Op.equalIn (9999 + 1) 33 (.agg (encU a)) (.agg (encU b)) from rfl,h]
set_option maxHeartbeats 1000000 in
theorem inSp_any (v:Value) (xs:List Sp) (y:Sp) (w:World) (h:Arr 3 SuAt w v xs) (hl:xs.length≤5000) :
  Calls Tryz.prog 148 #[v,.agg (encU y)] w (Ret (.int .i64 (ixf (fun x=>decide (y=x)) xs)) (Frm [] w)):=by
 obtain⟨ao,cap,rfl,hx⟩:=h
 have HX:=Lib.hid hx
 obtain⟨n,hn⟩:∃ n,xs.length=n:=⟨_,rfl⟩
 rw[hn] at hl ⊢
 have HN:=Lib.hid hn
 obtain⟨W0,hW0⟩:∃ W0,w.alloc (.cells (encU y) 33)=W0:=⟨_,rfl⟩
 have HW0:Hid (Frm [] w W0):=Lib.hid (by rw[← hW0];exact(Frm.refl _ _).alloc _)
 have HB:Hid (W0.heap[w.heap.size]?=some (.cells (encU y) 33 (0,0))):=Lib.hid (by rw[← hW0];exact heap_alloc_new w _)
 have HE:=Lib.hid hW0
 clear hx hn hW0
 go_enter Tryz.func148,Tryz.ntmps148
 go_wp2_with (refine wpList_box_row rfl 33 _ rfl (encU y) rfl ?_;rw[HE.out])
 clear HE
 go_loopw [8,5] (fun s8 s5 wr=>∃ i:Nat,s8=.int .i64 i∧i≤n∧Frm [] W0 wr∧∀ j x,j < i→xs[j]?=some x→decide (y=x)=false) (fun s8 _ _=>n - (intOf s8).toNat)
 case atStart=>exact⟨0,rfl,Nat.zero_le _,Frm.refl _ _,fun j x hj=>by omega⟩
 case round =>
  obtain⟨i,rfl,hi,hf,hno⟩:=hrel
  have HF:=Lib.hid hf;have HNO:=Lib.hid hno
  clear hf hno
  by_cases hlt:i < n
  ·have hlt':(i:Int) < (n:Int):=by omega
   obtain⟨x,hx⟩:∃ x,xs[i]?=some x:=⟨_,List.getElem?_eq_getElem (by rw[HN.out];exact hlt)⟩
   obtain⟨b,o,rfl,hat⟩:=HX.out i x hx
   obtain⟨c0,c1,c2⟩:=hat.frm (HW0.out.trans HF.out)
   have hbb:=HF.out.at HB.out (by simp)
   have d0:wr.cell? ⟨w.heap.size,0,none⟩=some (.int .i64 y.role):=cell_of hbb 0
   have d1:wr.cell? ⟨w.heap.size,1,none⟩=some (.int .i64 y.peer):=cell_of hbb 1
   have d2:wr.cell? ⟨w.heap.size,2,none⟩=some (.string y.msg):=cell_of hbb 2
   have hq:∀ V,(binOp .eql 33 (suV y) (suV x)).run Tryz.prog V=.ok (.bool (decide (y=x))) V:=fun V=>eql_sp y x V
   have HXI:=Lib.hid hx
   clear hat hx hbb
   cases hpx:decide (y=x) with
   | true =>
     rw[hpx] at hq
     have HPX:=Lib.hid hpx
     clear hpx
     go_wp2
     go_quiet (fail)
     go_wp2
     go_ret
     exact⟨by rw[ixf_some HXI.out HPX.out HNO.out];rfl,HW0.out.trans (HF.out.drewN _)⟩
   | false =>
     rw[hpx] at hq
     have HPX:=Lib.hid hpx
     clear hpx
     go_wp2
     go_quiet (fail)
     go_wp2
     refine⟨⟨i + 1,by simp,hlt,HF.out.drewN _,fun j z hj hz=>?_⟩,by simp[intOf];omega⟩
     by_cases e:j=i
     ·subst e;rw[HXI.out] at hz;cases hz;exact HPX.out
     ·exact HNO.out j z (by omega) hz
  ·have hge:¬ (i:Int) < (n:Int):=by omega
   go_wp2
   go_ret
   refine⟨?_,HW0.out.trans HF.out⟩
   have e:=ixf_none (p:=fun x=>decide (y=x)) (l:=xs) fun x hx=>by
    obtain⟨j,hj⟩:=List.getElem?_of_mem hx
    exact HNO.out j x (by have:=lt_of_some hj;rw[HN.out] at this;omega) hj
   rw[e];rfl
theorem mem_ixu {xs:List Sp} {y:Sp}:decide (0≤ixf (fun x=>decide (y=x)) xs)=decide (y∈xs):=by
 by_cases h:y∈xs
 ·rw[decide_eq_true (ixf_ex (p:=fun x=>decide (y=x)) h (by simp)),decide_eq_true h]
 ·rw[decide_eq_false h,decide_eq_false]
  intro h2
  obtain⟨i,hi,-⟩:=ixf_nat h2
  obtain⟨x,h3,h4,-⟩:=ixf_at hi
  rw[decide_eq_true_eq] at h4
  subst h4
  exact h (List.mem_of_getElem? h3)
set_option maxHeartbeats 1000000 in
theorem coSp_any (v:Value) (xs:List Sp) (y:Sp) (w:World) (h:Arr 3 SuAt w v xs) (hl:xs.length≤5000) :
  Calls Tryz.prog 78 #[v,.agg (encU y)] w (Ret (.bool (decide (y∈xs))) (Frm [] w)):=by
 obtain⟨ao,cap,e,-⟩:=id h
 subst e
 have hf0:Frm [] w (w.alloc (.cells (encU y) 33)):=(Frm.refl _ _).alloc _
 have C1:=Lib.hid (inSp_any (.slice ao xs.length cap) xs y (w.alloc (.cells (encU y) 33)) (h.frm fun _ _ _ h=>h.frm hf0) hl)
 have HF0:=Lib.hid hf0
 rw[← mem_ixu]
 obtain⟨q,hq⟩:∃ q,ixf (fun x=>decide (y=x)) xs=q:=⟨_,rfl⟩
 rw[hq] at C1 ⊢
 have hb:(w.alloc (.cells (encU y) 33)).heap[w.heap.size]?=some (.cells (encU y) 33 (0,0)):=heap_alloc_new w _
 obtain⟨W0,hW0⟩:∃ W0,w.alloc (.cells (encU y) 33)=W0:=⟨_,rfl⟩
 rw[hW0] at C1 HF0 hb
 have HB:=Lib.hid hb
 have HW:=Lib.hid hW0
 clear h hf0 hq hW0 hb
 go_enter Tryz.func78,Tryz.ntmps78
 go_wp2_with (first
  | (refine wpList_box_row rfl 33 _ rfl (encU y) rfl ?_;rw[HW.out])
  | (refine wpList_load_whole rfl 33 _ rfl _ rfl _ 33 HB.out _ Tryz.underlying33 rfl (by kernel_rfl) ?_)
  | (go_at_call 148;go_must (refine C1.out.mono ?_;rintro e w1 ⟨rfl,hf1⟩;have HF1:=Lib.hid hf1;clear hf1)))
 go_ret
 exact⟨rfl,HF0.out.trans HF1.out⟩
theorem ixf_anyS (p:StpD→Bool) (l:List StpD):decide (0≤ixf p l)=l.any p:=by
 rw[Bool.eq_iff_iff,decide_eq_true_eq,List.any_eq_true]
 constructor
 ·intro h
  obtain⟨i,hi,-⟩:=ixf_nat h
  obtain⟨x,h1,h2,-⟩:=ixf_at hi
  exact⟨x,List.mem_of_getElem? h1,h2⟩
 ·rintro⟨x,h1,h2⟩
  exact ixf_ex h1 h2
set_option maxRecDepth 100000 in
theorem cfStep_any (K:FuncId) (caps:Array Value) (p:StpD→Bool) (v:Value) (xs:List StpD) (w:World) (h:Arr 9 SpAt w v xs) (hl:xs.length≤1000) (hK:∀ args w,(callFunc K args).run Tryz.prog w=.ok (.enter K args) w)
  (hp:∀ W x,Frm [] w W→x∈xs→Calls Tryz.prog K (#[stpV x] ++ caps) W (Ret (.bool (p x)) (Frm [] W))) :
  Calls Tryz.prog 76 #[v,.func (.func K) #[] caps] w (Ret (.bool (xs.any p)) (Frm [] w)):=by
 have CI:=Lib.hid (ifStep_any K caps p v xs w h hl hK hp)
 obtain⟨ao,cq,rfl⟩:=Arr.shape h
 rw[← ixf_anyS]
 obtain⟨q,hq⟩:∃ q,ixf p xs=q:=⟨_,rfl⟩
 rw[hq] at CI ⊢
 clear h hl hq hp
 go_enter Tryz.func76,Tryz.ntmps76
 go_wp2_with (go_at_call 147;go_must (refine CI.out.mono ?_;rintro e w1 ⟨rfl,hf⟩;have HF:=Lib.hid hf;clear hf))
 go_ret
 exact⟨rfl,HF.out⟩
end Go.Proofs.YtohfkhjlnlahdaaGreat
