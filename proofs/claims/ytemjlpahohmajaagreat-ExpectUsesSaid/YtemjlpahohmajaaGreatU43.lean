/- Part of the proof. -/
import Derived.Test.YtemjlpahohmajaaGreatU37
import Derived.Test.YtemjlpahohmajaaGreatU36
import Derived.Test.YtemjlpahohmajaaGreatU39
import Derived.Laws.StructEq
set_option linter.all false
namespace Go.Proofs.YtemjlpahohmajaaGreat
open Go.RowKit Go.BigFrame
abbrev kR (s:SesD) (x:PS) (i:Nat):List UInt8:=cat (keyRole x) i
theorem two_len (l:List Int):(l.flatMap two).length=l.length * 2:=by
 induction l with
 | nil=>rfl
 | cons v l ih=>rw[List.flatMap_cons,List.length_append,ih];simp[two];omega
theorem kR_len {s:SesD} {x:PS} (hs:SesOk s) (hx:PSok s x) {i:Nat} (hi:i≤s.roles.length):(kR s x i).length≤100:=by
 have h1:=cat_len (n:=i) (f:=keyRole x) (c:=9) (fun k hk=>by
  have h1:=(hx.vb k (by omega)).1
  have h2:=(hs.at (show k < s.roles.length by omega)).c4
  unfold keyRole
  rw[List.length_cons,two_len];omega)
 have:=hs.n4
 show (cat (keyRole x) i).length≤100
 omega
def ctB (l:List (CtrD × Int)):List UInt8:=l.flatMap fun c=>two c.2
theorem ctB_ctr {s:SesD} {x:PS} (hx:PSok s x) {i:Nat} (hi:i < s.roles.length):keyRole x i=UInt8.ofNat (x.at i) :: ctB (x.ctr s i):=by
 unfold keyRole ctB PS.ctr
 have h1:=(hx.vb i hi).1
 have:∀ (A:List CtrD) (B:List Int),B.length=A.length→B.flatMap two=(A.zip B).flatMap fun c=>two c.2:=by
  intro A
  induction A with
  | nil=>intro B h;rw[List.length_eq_zero_iff.1 h];rfl
  | cons a A ih =>
    intro B h
    cases B with
    | nil=>simp at h
    | cons b B=>rw[List.zip_cons_cons,List.flatMap_cons,List.flatMap_cons,ih B (by simpa using h)]
 rw[this _ _ h1]
theorem ctB_snoc (l:List (CtrD × Int)) (c:CtrD × Int):ctB (l ++ [c])=ctB l ++ two c.2:=by unfold ctB;rw[List.flatMap_append];simp
theorem ctB_len (l:List (CtrD × Int)):(ctB l).length=l.length * 2:=by
 induction l with
 | nil=>rfl
 | cons v l ih=>show (two v.2 ++ ctB l).length=_;rw[List.length_append,ih];simp[two];omega
theorem ctr_vals {s:SesD} {x:PS} (hs:SesOk s) (hx:PSok s x) {i:Nat} (hi:i < s.roles.length):∀ c∈x.ctr s i,0≤c.2∧c.2≤1000:=by
 intro c hc
 obtain⟨k,hk⟩:=List.getElem?_of_mem hc
 unfold PS.ctr at hk
 rw[List.getElem?_zip_eq_some] at hk
 have h1:=(hx.vb i hi).2 k _ hk.1
 have h2:=(hs.at hi).cN _ (List.mem_of_getElem? hk.1)
 rw[List.getD_eq_getElem?_getD,hk.2] at h1
 simp only[Option.getD_some] at h1
 omega
abbrev wRow (s:SesD) (x:PS) (a:Nat):List UInt8:=cat (keyWay s x a) s.roles.length
abbrev uL (l:List UInt8):List Value:=l.map u8
theorem two_u8 {v:Int} (h0:0≤v) (h1:v≤65535):(two v).map u8=[.int .u8 (v / 256),.int .u8 (v % 256)]:=by
 have:=two_wrap h0 h1
 unfold two
 rw[List.map_cons,List.map_cons,List.map_nil,this.1,this.2]
theorem u8c (n:Nat) (h:n < 256):[Value.int .u8 (n:Int)]=[UInt8.ofNat n].map u8:=by rw[List.map_cons,at_wrap h];rfl
theorem uLc (n:Nat) (h:n < 256):uL [UInt8.ofNat n]=[Value.int .u8 (n:Int)]:=(u8c n h).symm
theorem kW_len {s:SesD} {x:PS} (hs:SesOk s) (hx:PSok s x) {a c:Nat} (ha:a < s.roles.length) (hc:c < s.roles.length):(keyWay s x a c).length≤133:=by
 unfold keyWay
 split
 ·simp
 ·have h1:=hx.wb a c ha hc
  have h2:=keyB_size (keyL s.cls (x.way a c)) (fun m hm=>(h1.2 m (keyL_mem hm)).2)
  rw[keyL_length] at h2
  have h3:(byt (keyB (keyL s.cls (x.way a c)))).length=(keyB (keyL s.cls (x.way a c))).size:=by unfold byt;simp
  have:=hs.k4
  rw[List.length_cons,h3];omega
theorem kRow_len {s:SesD} {x:PS} (hs:SesOk s) (hx:PSok s x) {a c:Nat} (ha:a < s.roles.length) (hc:c≤s.roles.length):(cat (keyWay s x a) c).length≤532:=by
 have h1:=cat_len (n:=c) (f:=keyWay s x a) (c:=133) (fun k hk=>kW_len hs hx ha (by omega))
 have:=hs.n4
 omega
theorem kRows_len {s:SesD} {x:PS} (hs:SesOk s) (hx:PSok s x) {a:Nat} (ha:a≤s.roles.length):(cat (fun a=>cat (keyWay s x a) s.roles.length) a).length≤2128:=by
 have h1:=cat_len (n:=a) (f:=fun a=>cat (keyWay s x a) s.roles.length) (c:=532) (fun k hk=>kRow_len hs hx (by omega) (Nat.le_refl _))
 have:=hs.n4
 omega
theorem key_end {w W:World} {ds:List Nat} {b:ByteArray} {fn:Func} {tmps:Array Value} (hf:Frm [] w W) (hm:Ms w ds W) (hr:∀ V:World,(results fn tmps).run Tryz.prog V=.ok (.string b) V) :
  LeavesInM Fence.wide 3 Tryz.prog fn tmps (RetV fun v w'=>v=.string b∧Frm [] w w') (marks ds) .returning W:=
 leaves_many ds W hm.nd (fun D hD=>(hm.dl D hD).2) ⟨_,hr _,_,rfl,rfl,hf.then (unmark_frm ds W) (fun D hD=>.inr (hm.dl D hD).1)⟩
attribute [local go_sem] Oper.semAt_some
set_option maxHeartbeats 8000000 in
set_option maxRecDepth 100000 in
theorem pKey_any (s:SesD) (yb fb sb:Nat) (x:PS) (w:World) (h:SyR w s yb fb) (hx:StR w s yb sb x) :
  Calls Tryz.prog 22 #[.pointer (some ⟨sb,0,none⟩)] w (RetV fun v w'=>v=.string ⟨(keyP s x).toArray⟩∧Frm [] w w'):=by
 have HSY:=Lib.hid h;have HST:=Lib.hid hx
 have CN:=Lib.hid (pSnone_any s yb sb x w hx)
 obtain⟨n,hn⟩:∃ n,s.roles.length=n:=⟨_,rfl⟩
 obtain⟨av,wv,h1,h2,h3⟩:=hx.out
 obtain⟨ra,rc,rfl⟩:=h2.shape
 obtain⟨rwy,rcw,rfl⟩:=h3.shape
 rw[actsP_len,hx.ok.wl,hn] at h1
 have y1:=cell_of h1 1
 have hl0:=lt_of_block h1
 have HY1:Hid (∀ V,Frm [] w V→V.cell? ⟨sb,1,none⟩=some (.slice ra n rc)∧V.cell? ⟨sb,2,none⟩=some (.slice rwy n rcw)):=Lib.hid fun V hV=>⟨hV.keep y1,hV.keep (cell_of h1 2)⟩
 have HN:=Lib.hid hn
 have hn4:n≤4:=by rw[← hn];exact h.ok.n4
 have HWI:Hid (∀ i:Nat,i < n→wrap64 ((i:Int) + 1)=((i + 1:Nat):Int)):=Lib.hid fun i hi=>by unfold wrap64;omega
 clear h h1 h2 h3 hx hn hn4
 refine calls_of_marks Tryz.func22 rfl ?_
 simp only[Tryz.ntmps22,List.size_toArray,List.length_cons,List.length_nil,Nat.reduceAdd,Nat.reduceSub,Array.replicate_succ,Array.replicate_zero,List.push_toArray,List.append_toArray,List.nil_append,List.cons_append]
 go_wp2_with (go_at_call 54;go_must (refine CN.out.mono ?_;rintro e w' ⟨rfl,rfl⟩))
 have HM0:Hid (YB w w.heap.size [] (w.alloc (.cells #[.slice none 0 0] 61))):=Lib.hid (BO.made w _ _ _ ((Frm.refl [] w).alloc _) (Nat.le_refl _) (heap_alloc_new _ _))
 clear y1
 refine wp_loop (fun a' w'=>∃ ds,∃ u5 u6 u7 u19 u20 u21 u22 u23 u24 u25 u26 u27 u28 u29 u30 u31 u32 u33 u34 u35 u36 u37 u38 u39 u40 u41 u42:Value,(fun ds u19 w'=>∃ i:Nat,u19=.int .i64 (i:Int)∧i≤n∧YB w w.heap.size (kR s x i) w'∧Ms w ds w') ds u19 w'∧a'={ tmps:=#[.pointer (some ⟨sb,0,none⟩),undef,.string ⟨#[]⟩,.pointer (some ⟨w.heap.size,0,none⟩),undef,u5,u6,u7,undef,undef,undef,undef,.pointer (some ⟨sb,0,none⟩),.bool false,.pointer (some ⟨sb,0,none⟩),.pointer (some ⟨sb,0,none⟩),.pointer (some ⟨sb,1,none⟩),.slice ra n rc,.int .i64 (n:Int),u19,u20,u21,u22,u23,u24,u25,u26,u27,u28,u29,u30,u31,u32,u33,u34,u35,u36,u37,u38,u39,u40,u41,u42,undef,undef,undef,undef,undef,undef,undef,undef,undef,undef,undef,undef,undef,undef,undef,undef,undef,undef,undef,undef,undef,undef,undef,undef,undef,undef,undef,undef,undef,undef,undef,undef,undef],defers:=marks ds }) (fun a' _=>n - (intOf (a'.tmps.getD 19 undef)).toNat) ?_ ?_
 ·refine⟨[],?_⟩
  (repeat apply Exists.intro)
  exact⟨⟨0,rfl,Nat.zero_le _,HM0.out,Ms.nil _ _⟩,rfl⟩
 intro a' wr hinv
 obtain⟨ds,hinv⟩:=hinv
 obtain⟨u5,hinv⟩:=hinv
 obtain⟨u6,hinv⟩:=hinv
 obtain⟨u7,hinv⟩:=hinv
 obtain⟨u19,hinv⟩:=hinv
 obtain⟨u20,hinv⟩:=hinv
 obtain⟨u21,hinv⟩:=hinv
 obtain⟨u22,hinv⟩:=hinv
 obtain⟨u23,hinv⟩:=hinv
 obtain⟨u24,hinv⟩:=hinv
 obtain⟨u25,hinv⟩:=hinv
 obtain⟨u26,hinv⟩:=hinv
 obtain⟨u27,hinv⟩:=hinv
 obtain⟨u28,hinv⟩:=hinv
 obtain⟨u29,hinv⟩:=hinv
 obtain⟨u30,hinv⟩:=hinv
 obtain⟨u31,hinv⟩:=hinv
 obtain⟨u32,hinv⟩:=hinv
 obtain⟨u33,hinv⟩:=hinv
 obtain⟨u34,hinv⟩:=hinv
 obtain⟨u35,hinv⟩:=hinv
 obtain⟨u36,hinv⟩:=hinv
 obtain⟨u37,hinv⟩:=hinv
 obtain⟨u38,hinv⟩:=hinv
 obtain⟨u39,hinv⟩:=hinv
 obtain⟨u40,hinv⟩:=hinv
 obtain⟨u41,hinv⟩:=hinv
 obtain⟨u42,hinv⟩:=hinv
 obtain⟨hrel,ha⟩:=hinv
 subst ha
 try dsimp only
 clear HM0
 obtain⟨i,rfl,hi,hmb,hms⟩:=hrel
 have HM:=Lib.hid hmb;have HMS:=Lib.hid hms
 clear hmb hms
 by_cases hlt:i < n
 ·have hlt':(i:Int) < (n:Int):=by omega
  have hin:i < s.roles.length:=by rw[HN.out];exact hlt
  obtain⟨ab,ao,cap,bb,y1,hac⟩:=HST.out.act hin
  have HIN:=Lib.hid hin
  rw[HN.out] at y1
  have y1':=(HY1.out w (Frm.refl _ _)).1
  rw[y1] at y1'
  simp only[Option.some.injEq,Value.slice.injEq,true_and] at y1'
  obtain⟨rfl,rfl⟩:=y1'
  have HAC:=Lib.hid (hac.frm HM.out.fr)
  obtain⟨p,hp⟩:∃ p,x.at i=p:=⟨_,rfl⟩
  have hpb:p < 24:=by have:=HST.out.ok.pb i hin;have:=(HSY.out.ok.at hin).s24;omega
  rw[hp] at HAC
  have d0:=HAC.out.c0
  have d1:=HAC.out.c1
  obtain⟨L0,hL0⟩:∃ L0,kR s x i=L0:=⟨_,rfl⟩
  rw[hL0] at HM
  have HL0:=Lib.hid hL0
  have hlen:L0.length≤100:=by rw[← hL0];exact kR_len HSY.out.ok HST.out.ok (by omega)
  obtain⟨aob,cpb,hb1,hb2⟩:=HM.out.bx
  have cx:=cell_of hb1 0
  have HB1:=Lib.hid hb1;have HB2:=Lib.hid hb2
  have hw8:IntKind.u8.wrap (p:Int)=(p:Int):=wrap_small (by omega) (by omega)
  have hac0:=HST.out.act hin
  have HBK:Hid (∀ V,Frm [] w V→Bnk V bb (x.ctr s i)):=Lib.hid fun V hV=>hac.bnk.frm hV
  obtain⟨l,hl⟩:∃ l,x.ctr s i=l:=⟨_,rfl⟩
  have hl4:l.length≤4:=by
   rw[← hl]
   have h1:=(HSY.out.ok.at hin).c4
   unfold PS.ctr
   rw[List.length_zip];omega
  have HCV:Hid (∀ c∈l,0≤c.2∧c.2≤1000):=Lib.hid (by rw[← hl];exact ctr_vals HSY.out.ok HST.out.ok hin)
  have HKR:Hid (kR s x (i + 1)=L0 ++ ([UInt8.ofNat p] ++ ctB l)):=Lib.hid (by
   show cat (keyRole x) i ++ keyRole x i=_
   rw[ctB_ctr HST.out.ok hin,hp,hl,← hL0];rfl)
  rw[hl] at HBK
  have HL4:=Lib.hid hl4
  clear hin hac hac0 hp hL0 hb1 hb2 y1 hl HAC hl4
  obtain⟨V0,hV0⟩:∃ V0,wr.alloc (.cells #[.int .i64 (p:Int),.pointer (some ⟨bb,0,none⟩)] 143)=V0:=⟨_,rfl⟩
  have F0:Hid (Frm [] wr V0):=Lib.hid (by rw[← hV0];exact(Frm.refl [] wr).alloc _)
  have Q5:Hid (V0.heap[wr.heap.size]?=some (.cells #[.int .i64 (p:Int),.pointer (some ⟨bb,0,none⟩)] 143 (0,0))):=Lib.hid (by rw[← hV0];exact alloc_top rfl)
  have M0:=Lib.hid (HM.out.frm F0.out)
  have MS0:=Lib.hid (HMS.out.frm F0.out)
  obtain⟨i0,hi0,hz0,hz1,hz2⟩:=info_parts Tryz.info5
  replace cx:=F0.out.keep cx
  have q0:=cell_of Q5.out 0
  have HB1':=Lib.hid (F0.out.at HB1.out (by simp))
  have HB2':=Lib.hid (F0.out.owns HB2.out (by simp))
  have hsz:w.heap.size≤(V0.alloc (.cells #[.int .u8 (p:Int)] 5)).heap.size:=by have:=M0.out.fr.size;simp;omega
  have hpb':p < 256:=by omega
  go_upto_region 8 with (at_builtin;refine wpList_append_own_at _ rfl _ _ 61 rfl w.heap.size 5 i0 (.int .u8 0) 1 1 Tryz.underlying61 hi0 hz0 hz1 hz2 rfl (by decide) (.slice aob L0.length cpb) L0.length (L0.map u8) rfl (HB2'.out.alloc _) ⟨V0.heap.size,0,none⟩ 1 1 ([UInt8.ofNat p].map u8) rfl rfl (by rw[← u8c p hpb'];exact new_row _ _ _) (by simp[u8,Value.oneCell']) (by unfold maxLen;omega) (by omega) hsz ?_;intro v' w6 hown' hgrow _ _;obtain⟨ao',cp',rfl⟩:=own_shape hown';have hbx:=BO.facts HB1'.out HB2'.out (by decide) hgrow;have cx6:=cell_of hbx 0;have fx6:=free_of hbx 0;have HG:=Lib.hid hgrow;have HO:=Lib.hid hown';clear hgrow hown' hbx cx)
  have h9:=YB.add (M:=[UInt8.ofNat p]) M0.out HB1'.out HB2'.out HG.out rfl HO.out
  obtain⟨W6,hW6⟩:∃ W6,w6.setCell ⟨w.heap.size,0,none⟩ (.slice ao' (L0.length + 1) cp')=W6:=⟨_,rfl⟩
  try rw[hW6] at h9 ⊢
  have M6:=Lib.hid h9.1
  have MS6:=Lib.hid (MS0.out.kt h9.2)
  have Q56:=Lib.hid (h9.2.cells Q5.out (by decide))
  have q1:=cell_of Q56.out 1
  have CB:=Lib.hid (bCounters_any bb l W6 (HBK.out W6 M6.out.fr) (by have:=HL4.out;omega))
  clear h9 hW6 HG HO HB1 HB2 HB1' HB2' M0 MS0 cx6 fx6 HBK hw8 hsz
  go_wp2_with (first
   | (go_at_call 55;go_must (refine CB.out.mono ?_;rintro e w5 ⟨v,rfl,⟨B,lv,rfl,hcr⟩⟩;have HCR:=Lib.hid hcr;clear hcr)))
  have f5:=HCR.out.2.1
  have hit:=bc_iter B lv l (by have:=HL4.out;omega)
  have M5:=Lib.hid (M6.out.frm f5)
  have MS5:=Lib.hid (MS6.out.frm f5)
  clear f5 CB q1
  obtain⟨L1,hL1⟩:∃ L1,L0 ++ [UInt8.ofNat p]=L1:=⟨_,rfl⟩
  rw[hL1] at M5
  have hlen1:L1.length≤101:=by rw[← hL1,List.length_append];simp;omega
  have HLen1:=Lib.hid hlen1;have HL1:=Lib.hid hL1
  clear hlen1 hL1 hlen
  refine wp_rangeList rfl (enters_of Tryz.func100 (by kernel_rfl) rfl) hit (fun _=>rfl) (fun pre W=>YB w w.heap.size (L1 ++ ctB pre) W∧Kt byT w5 W) (fun _ _ _=>False) (fun _ _ _ h hb=>⟨h.1.bk hb M5.out.fr.size,h.2.bk hb⟩) (fun _ _ _ _ h _=>h) (fun _ W h=>HCR.out.1.kt h.2) ⟨by rw[show ctB []=[] from rfl,List.append_nil];exact M5.out,Kt.refl _ _⟩ ?_ ?_ (fun _ _ _ _ _ _ _ _ h=>h.elim)
  ·intro l0 pre y rest Wr hxs hI hl hlr
   have hpl:pre.length < 4:=by
    have h1:=HL4.out
    rw[hxs,List.length_append,List.length_cons] at h1;omega
   have hyv:=HCV.out y (by rw[hxs];simp)
   have HI:=Lib.hid hI
   clear hI hlr hl hxs
   obtain⟨yc,yv⟩:=y
   simp only at hyv
   gi_wp2
   refine⟨KB.refl _,fun Wq hbk _=>?_⟩
   have HI2:=Lib.hid (⟨HI.out.1.bk hbk M5.out.fr.size,HI.out.2.bk hbk⟩:YB w w.heap.size (L1 ++ ctB pre) Wq∧Kt byT w5 Wq)
   have HSN:=Lib.hid (ctB_snoc pre (yc,yv))
   have hlen:(L1 ++ ctB pre).length≤200:=by
    have:=HLen1.out
    rw[List.length_append,ctB_len];omega
   obtain⟨L2,hL2⟩:∃ L2,L1 ++ ctB pre=L2:=⟨_,rfl⟩
   rw[hL2] at HI2 hlen
   have HL2:=Lib.hid hL2
   obtain⟨ao,cp,hb1,hb2⟩:=HI2.out.1.bx
   have cx:=cell_of hb1 0
   have HB1:=Lib.hid hb1;have HB2:=Lib.hid hb2
   clear hbk hb1 hb2 hL2
   obtain⟨i0,hi0,hz0,hz1,hz2⟩:=info_parts Tryz.info5
   have hTW:(two yv).map u8=[.int .u8 (yv / 256),.int .u8 (yv % 256)]:=two_u8 hyv.1 (by omega)
   have hsz:w.heap.size≤(Wq.alloc (.cells #[.int .u8 (yv / 256),.int .u8 (yv % 256)] 5)).heap.size:=by have:=HI2.out.1.fr.size;simp;omega
   gi_wp2_with (gi_at_builtin;refine wpListIn_append_own _ rfl _ _ 61 rfl w.heap.size 5 i0 (.int .u8 0) 1 1 Tryz.underlying61 hi0 hz0 hz1 hz2 rfl (by decide) (.slice ao L2.length cp) L2.length (L2.map u8) rfl (HB2.out.alloc _) ⟨Wq.heap.size,0,none⟩ 2 2 ((two yv).map u8) rfl rfl (by rw[hTW];exact new_row _ _ _) (by intro u hu;obtain⟨x,-,rfl⟩:=List.mem_map.1 hu;rfl) (by unfold maxLen;omega) (by omega) hsz ?_;intro v' w6 hown' hgrow _;obtain⟨ao',cp',rfl⟩:=own_shape hown';have hbx:=BO.facts HB1.out HB2.out (by decide) hgrow;have cx6:=cell_of hbx 0;have fx6:=free_of hbx 0;have HG:=Lib.hid hgrow;have HO:=Lib.hid hown';clear hgrow hown' hbx cx)
   have h9:=YB.add (M:=two yv) HI2.out.1 HB1.out HB2.out HG.out rfl HO.out
   refine⟨h9.2.kb,?_⟩
   show YB w w.heap.size (L1 ++ ctB (pre ++ [(yc,yv)])) _∧Kt byT w5 _
   rw[HSN.out,← List.append_assoc,HL2.out]
   exact⟨h9.1,HI2.out.2.trans h9.2⟩
  ·intro D W hD hI hK
   have HID:=Lib.hid hI;have HKD:=Lib.hid hK;have HDD:=Lib.hid hD
   clear hI hK hD hit
   go_wp2
   refine⟨⟨D :: ds,?_⟩,?_⟩
   ·(repeat apply Exists.intro)
    exact⟨⟨i + 1,congrArg (Value.int .i64) (HWI.out i hlt),hlt,by rw[HKR.out,← List.append_assoc,HL1.out];exact HID.out.1,MS5.out.more M5.out.fr.size HID.out.2 HDD.out HKD.out⟩,rfl⟩
   ·exact meas_up hlt (HWI.out i hlt)
 ·obtain rfl:i=n:=by omega
  have hge:¬ (i:Int) < (i:Int):=by omega
  have hn4:i≤4:=by have:=HSY.out.ok.n4;rw[HN.out] at this;exact this
  obtain⟨y1,y2⟩:=HY1.out wr HM.out.fr
  have HM0:Hid (YB w w.heap.size (kR s x i ++ cat (wRow s x) 0) wr):=Lib.hid (by rw[show cat (wRow s x) 0=[] from rfl,List.append_nil];exact HM.out)
  go_wp2
  clear y1 y2
  go_loopw [48] (fun s48 wl=>∃ a:Nat,s48=.int .i64 a∧a≤i∧YB w w.heap.size (kR s x i ++ cat (wRow s x) a) wl∧Ms w ds wl) (fun s48 _=>i - (intOf s48).toNat)
  case atStart=>exact⟨0,rfl,Nat.zero_le _,HM0.out,HMS.out⟩
  case round =>
   clear HM0 HM HMS
   obtain⟨a,rfl,ha,hmb,hms⟩:=hrel
   have HM:=Lib.hid hmb;have HMS:=Lib.hid hms
   clear hmb hms
   obtain⟨w1,hw1⟩:∃ w1,w1=wr:=⟨_,rfl⟩
   subst hw1
   by_cases hlta:a < i
   ·have hlta':(a:Int) < (i:Int):=by omega
    have hia:a < s.roles.length:=by rw[HN.out];exact hlta
    have HIA:=Lib.hid hia
    have h0:0 < s.roles.length:=by omega
    obtain⟨gb,go',cw,rb,ro,c2,cb0,x2,hw⟩:=HST.out.way hia h0
    clear hia h0
    rw[HN.out] at x2
    have y1':=(HY1.out w (Frm.refl _ _)).2
    rw[x2] at y1'
    simp only[Option.some.injEq,Value.slice.injEq,true_and] at y1'
    obtain⟨rfl,rfl⟩:=y1'
    have g0:=HM.out.fr.keep hw.c0
    rw[HN.out] at g0
    have HG0:=Lib.hid hw.c0
    clear x2 hw
    have HM0:Hid (YB w w.heap.size (kR s x i ++ (cat (wRow s x) a ++ cat (keyWay s x a) 0)) w1):=Lib.hid (by rw[show cat (keyWay s x a) 0=[] from rfl,List.append_nil];exact HM.out)
    have HE:Hid (cat (wRow s x) (a + 1)=cat (wRow s x) a ++ cat (keyWay s x a) i):=Lib.hid (by rw[← HN.out];rfl)
    go_wp2
    clear g0
    go_loopw [55] (fun s55 wl=>∃ c:Nat,s55=.int .i64 c∧c≤i∧YB w w.heap.size (kR s x i ++ (cat (wRow s x) a ++ cat (keyWay s x a) c)) wl∧Ms w ds wl) (fun s55 _=>i - (intOf s55).toNat)
    case atStart=>exact⟨0,rfl,Nat.zero_le _,HM0.out,HMS.out⟩
    case round =>
     clear HM0 HM HMS
     obtain⟨c,rfl,hc,hmb,hms⟩:=hrel
     have HM:=Lib.hid hmb;have HMS:=Lib.hid hms
     clear hmb hms
     by_cases hltc:c < i
     ·have hltc':(c:Int) < (i:Int):=by omega
      have hic:c < s.roles.length:=by rw[HN.out];exact hltc
      have HEC:Hid (kR s x i ++ (cat (wRow s x) a ++ cat (keyWay s x a) (c + 1))=(kR s x i ++ (cat (wRow s x) a ++ cat (keyWay s x a) c)) ++ keyWay s x a c):=Lib.hid (by
       rw[show cat (keyWay s x a) (c + 1)=cat (keyWay s x a) c ++ keyWay s x a c from rfl]
       simp only[List.append_assoc])
      have hLen:(kR s x i ++ (cat (wRow s x) a ++ cat (keyWay s x a) c)).length≤100000:=by
       have a1:=kR_len HSY.out.ok HST.out.ok (show i≤s.roles.length by rw[HN.out];exact Nat.le_refl _)
       have a2:=kRows_len HSY.out.ok HST.out.ok (show a≤s.roles.length by rw[HN.out];omega)
       have a3:=kRow_len HSY.out.ok HST.out.ok HIA.out (show c≤s.roles.length by rw[HN.out];omega)
       rw[List.length_append,List.length_append]
       exact Nat.le_trans (Nat.add_le_add a1 (Nat.add_le_add a2 a3)) (by decide)
      obtain⟨L0,hL0⟩:∃ L0,kR s x i ++ (cat (wRow s x) a ++ cat (keyWay s x a) c)=L0:=⟨_,rfl⟩
      rw[hL0] at HM HEC hLen
      have HLen:=Lib.hid hLen
      clear hL0 hLen
      obtain⟨gb2,go2,cw2,rb2,ro2,c22,cb,x22,hw⟩:=HST.out.way HIA.out hic
      have e1:=(HY1.out w (Frm.refl _ _)).2
      rw[HN.out] at x22
      rw[x22] at e1
      simp only[Option.some.injEq,Value.slice.injEq,Addr.mk.injEq,true_and,and_true] at e1
      obtain⟨⟨rfl,rfl⟩,rfl⟩:=e1
      have e2:=HG0.out
      rw[hw.c0] at e2
      simp only[Option.some.injEq,Value.slice.injEq,Addr.mk.injEq,true_and,and_true] at e2
      obtain⟨⟨rfl,rfl⟩,rfl⟩:=e2
      obtain⟨F,hch⟩:=hw.chn
      have g1:=HM.out.fr.keep hw.c1
      have HCH:=Lib.hid (hch.frm HM.out.fr (by simp))
      have HCW:Hid (∀ V,Frm [] w V→Chn V cb s.cls s.cap (x.way a c) F):=Lib.hid fun V hV=>hch.frm hV (by simp)
      have HIC:=Lib.hid hic
      clear hch hw x22 hic
      by_cases hac:a=c
      ·have HSM:Hid (keyWay s x a c=[]):=Lib.hid (by unfold keyWay;rw[if_pos hac])
       subst hac
       go_wp2
       exact⟨⟨a + 1,congrArg (Value.int .i64) (by omega),hltc,by rw[HEC.out,HSM.out,List.append_nil];exact HM.out,HMS.out⟩,by simp[intOf];omega⟩
      ·obtain⟨LL,hLL⟩:∃ LL,x.way a c=LL:=⟨_,rfl⟩
       have HSM:Hid (keyWay s x a c=[UInt8.ofNat LL.length] ++ byt (keyB (keyL s.cls LL))):=Lib.hid (by unfold keyWay;rw[if_neg hac,hLL];rfl)
       rw[hLL] at HCH HCW
       have hac':¬ (a:Int)=(c:Int):=by omega
       have qne:((a:Int) == (c:Int))=false:=by simpa using hac'
       clear hac
       obtain⟨aob,cpb,hb1,hb2⟩:=HM.out.bx
       have cx:=cell_of hb1 0
       have HP0:Hid (YP w wr w.heap.size (.slice aob L0.length cpb) (.slice aob L0.length cpb) L0 wr):=Lib.hid ⟨HM.out.fr,hb1,hb2,Kt.refl _ _⟩
       have hll:=(HST.out.ok.wb a c HIA.out HIC.out)
       rw[hLL] at hll
       have hk4:=HSY.out.ok.k4
       have hll4:LL.length≤4:=by omega
       have hks:(keyB (keyL s.cls LL)).size≤200:=by
        have h1:=keyB_size (keyL s.cls LL) (fun m hm=>(hll.2 m (keyL_mem hm)).2)
        rw[keyL_length] at h1;omega
       have hwr:IntKind.u8.wrap (LL.length:Int)=(LL.length:Int):=wrap_small (by omega) (by omega)
       obtain⟨KB0,hKB⟩:∃ KB0,keyB (keyL s.cls LL)=KB0:=⟨_,rfl⟩
       rw[hKB] at HSM hks
       have CLn:Hid (∀ V,Frm [] wr V→Calls Tryz.prog 56 #[.pointer (some ⟨cb,0,none⟩)] V (Ret (.int .i64 LL.length) (Frm [] V))):=Lib.hid fun V hV=>len_any (HCH.out.frm hV (by simp))
       have CKy:Hid (∀ V,Frm [] w V→Calls Tryz.prog 57 #[.pointer (some ⟨cb,0,none⟩)] V (Ret (.string KB0) (Frm [] V))):=Lib.hid fun V hV=>by rw[← hKB];exact key_any _ _ _ _ _ _ (HCW.out V hV)
       obtain⟨m,hm⟩:∃ m,LL.length=m:=⟨_,rfl⟩
       rw[hm] at hwr HSM CLn hll4
       have hm256:m < 256:=by omega
       obtain⟨i0,hi0,hz0,hz1,hz2⟩:=info_parts Tryz.info5
       have hlen:=HLen.out
       clear hll hk4 hLL hKB hm hll4 hb1 hb2 HCH HCW
       go_upto_region 19 with fail
       generalize hQQ:Exit.inBlock _ _=QQ
       refine wp_mono (Q:=fun e a' w'=>match e with | .normal=>QQ .normal a' w' | _=>False) ?_ (fun e a' w' h=>by cases e <;> first | exact h | exact h.elim)
       go_region_law (first
        | (go_simp;go_at_call 56;go_must (refine(CLn.out _ (Frm.refl [] wr).drew).mono ?_;rintro e w5 ⟨rfl,hf5⟩;have F5:Hid (Frm [] wr w5):=Lib.hid ((Frm.refl [] wr).drew.trans hf5);have cx5:=F5.out.keep cx;have HP5:=Lib.hid ((HP0.out.frm F5.out).frm ((Frm.refl [] w5).alloc (.cells #[.int .u8 (m:Int)] 5)));have cx5b:=cell_of HP5.out.b 0;clear hf5))
        | (go_simp;go_at_call 57;go_must (refine(CKy.out _ HP6.out.f).mono ?_;rintro e w7 ⟨rfl,hf7⟩;have HP7:=Lib.hid (HP6.out.frm hf7);clear hf7))
        | (refine step_append_own_at rfl _ _ 61 rfl w.heap.size 5 i0 (.int .u8 0) 1 1 Tryz.underlying61 hi0 hz0 hz1 hz2 rfl (by decide) (.slice aob L0.length cpb) L0.length (uL L0) ?_ HP5.out.o ⟨w5.heap.size,0,none⟩ 1 1 (uL [UInt8.ofNat m]) ?_ rfl (by rw[uLc m hm256];exact new_row _ _ _) ?_ ?_ ?_ ?_ ?_;(focus (go_simp;done));(focus (go_simp;done));(focus (intro u hu;obtain⟨x,-,rfl⟩:=List.mem_map.1 hu;rfl));(focus (unfold maxLen;omega));(focus omega);(focus exact HP5.out.f.size);intro v' w6 hown' hgrow;obtain⟨ao6,cp6,rfl⟩:=own_shape hown';have HP6:=Lib.hid (HP5.out.grow (l:=[UInt8.ofNat m]) hgrow (by rw[List.length_append,List.map_append];exact hown'));clear hown' hgrow)
        | (refine step_app_str rfl _ _ rfl w.heap.size (.slice ao6 (L0.length + 1) cp6) KB0 ?_ ?_ (L0 ++ [UInt8.ofNat m]) HP7.out.o ?_ HP7.out.f.size ?_;(focus (go_simp;done));(focus (go_simp;done));(focus (rw[List.length_append];simp;omega));intro ao8 cp8 w8 hown' hgrow;have HP8:=Lib.hid (HP7.out.grow (l:=byt KB0) hgrow hown');have cx8:=cell_of HP8.out.b 0;have fx8:=free_of HP8.out.b 0;clear hown' hgrow))
       all_goals
        subst hQQ
        go_wp2
        have h9:=HP8.out.fin HM.out.new
        have e9:((L0 ++ [UInt8.ofNat m]) ++ byt KB0).length=L0.length + ((byt KB0).length + 1):=by simp
        rw[e9] at h9
        exact⟨⟨c + 1,congrArg (Value.int .i64) (by omega),hltc,by rw[HEC.out,HSM.out,← List.append_assoc];exact h9.1,HMS.out.kt h9.2⟩,by simp[intOf];omega⟩
     ·obtain rfl:c=i:=by omega
      go_wp2
      exact⟨⟨a + 1,congrArg (Value.int .i64) (by omega),hlta,by rw[HE.out];exact HM.out,HMS.out⟩,by simp[intOf];omega⟩
   ·obtain rfl:a=i:=by omega
    obtain⟨L,hL⟩:∃ L,kR s x a ++ cat (wRow s x) a=L:=⟨_,rfl⟩
    have HLM:Hid (keyP s x=L):=Lib.hid (by rw[← hL,← HN.out];rfl)
    rw[hL] at HM
    obtain⟨ao,cp,hb1,hb2⟩:=HM.out.bx
    have cx:=cell_of hb1 0
    have HB2:=Lib.hid hb2
    have hne:L.length≠0:=by
     have h2:=HSY.out.ok.n2
     rw[HN.out] at h2
     obtain⟨m,rfl⟩:∃ m,a=m + 1:=⟨a - 1,by omega⟩
     rw[← hL,List.length_append,show kR s x (m + 1)=kR s x m ++ keyRole x m from rfl,List.length_append]
     unfold keyRole
     rw[List.length_cons]
     omega
    have hconv:=conv_own hb2 hne
    clear hb1 hb2 hL
    go_wp2
    rw[HLM.out]
    exact key_end HM.out.fr HMS.out (fun V=>by simp[results,Tryz.results22,go_sem])
end Go.Proofs.YtemjlpahohmajaaGreat
namespace Go.Proofs.YtemjlpahohmajaaGreat
open Go.RowKit Go.BigFrame Go.Maps
def keyS (s:SesD) (x:PS):ByteArray:=⟨(keyP s x).toArray⟩
theorem keyS_list (s:SesD) (x:PS):(keyS s x).data.toList=keyP s x:=by unfold keyS;simp
def AdTo (w:World) (s:SesD) (yb:Nat) (lim:Int) (whole:Bool) (qb mb:Nat) (N:List (Nd × Nat)) (W W':World):Prop:=SpR w s yb lim whole qb mb N W'∧(∃ F,Frm F W W'∧∀ b∈F,SpB W qb b)∧∀ k,k < W.heap.size→RowOf W' qb k→RowOf W qb k
theorem ndG_zero (W:World):∀ u∈ndZ.cells,NdG W u:=by
 intro u hu
 have:u=.pointer none∨u=.int .i64 0:=by
  simp[Value.cells] at hu
  rcases hu with rfl | rfl
  ·exact .inl rfl
  ·exact .inr rfl
 rcases this with rfl | rfl
 ·exact⟨fun _=>by simp,fun _ _ _=>by simp,fun _=>by simp⟩
 ·exact⟨fun _=>by simp,fun _ _ _=>by simp,fun _=>by simp⟩
theorem ndG_one {W:World} {d:Nd} {sb:Nat} (h:Ty W sb 140):∀ u∈ndC1 (d,sb),NdG W u:=by
 intro u hu
 simp only[ndC1,List.mem_cons,List.not_mem_nil,or_false] at hu
 rcases hu with rfl | rfl | rfl | rfl | rfl | rfl | rfl
 ·exact⟨fun _=>by simp,fun _ _ _=>by simp,fun p e=>by cases e;exact h⟩
 all_goals exact⟨fun _=>by simp,fun _ _ _=>by simp,fun _=>by simp⟩
theorem Tryz.infoNd:(Tryz.prog.info? 117).map (fun i=>(i.zero,i.size,i.bytes))=some (some ndZ,7,56):=by kernel_rfl
section
variable {w W:World} {s:SesD} {yb fb sb qb mb cb:Nat} {lim:Int} {whole:Bool} {N:List (Nd × Nat)} {d:Nd}
set_option maxHeartbeats 4000000 in
set_option maxRecDepth 100000 in
theorem xAdd_has (h:SpR w s yb lim whole qb mb N W) (hy:SyR W s yb fb) (hd:StR W s yb sb d.st) (hc:W.heap[cb]?=some (.cells #[.pointer (some ⟨qb,0,none⟩)] 109 (0,0))) (hk:hasK s (N.map Prod.fst) (keyP s d.st)=true) (hz:(keyS s d.st).size≤maxLen) :
  Calls Tryz.prog 45 #[ndV (d,sb),.pointer (some ⟨cb,0,none⟩)] W (Ret (.bool true) (Frm [] W)):=by
 obtain⟨W0,hW0⟩:∃ W0,W.alloc (.cells #[.pointer (some ⟨sb,0,none⟩),.int .i64 d.par,.int .i64 d.mv.kind,.int .i64 d.mv.role,.int .i64 d.mv.step,.int .i64 d.mv.place,.int .i64 d.lvl] 117)=W0:=⟨_,rfl⟩
 have hf0:Frm [] W W0:=by rw[← hW0];exact(Frm.refl _ _).alloc _
 have hb0:W0.heap[W.heap.size]?=some (.cells #[.pointer (some ⟨sb,0,none⟩),.int .i64 d.par,.int .i64 d.mv.kind,.int .i64 d.mv.role,.int .i64 d.mv.step,.int .i64 d.mv.place,.int .i64 d.lvl] 117 (0,0)):=by rw[← hW0];exact heap_alloc_new _ _
 have CK:Hid (Calls Tryz.prog 22 #[.pointer (some ⟨sb,0,none⟩)] W0 (Ret (.string (keyS s d.st)) (Frm [] W0))):=Lib.hid ((pKey_any s yb fb sb d.st W0 (hy.frm hf0) (hd.frm hf0)).mono fun e w' h=>by
  obtain⟨v,rfl,rfl,h⟩:=h
  exact⟨rfl,h⟩)
 have c0:=cell_of hb0 0
 obtain⟨ao,cap,h1,h2,-⟩:=h.bx
 have hfs:(findP s (N.map Prod.fst) (keyS s d.st).data.toList).isSome=true:=by rw[keyS_list,findP_none];exact hk
 have HL:Hid (∀ V,Frm [] W V→(V.cell? ⟨cb,0,none⟩=some (.pointer (some ⟨qb,0,none⟩))∧V.cell? ⟨qb,3,none⟩=some (.map (some mb))) ∧
   (Instr.lookup 112 (.map (some mb)) (.string (keyS s d.st)) true).run Tryz.prog V=.ok (.tuple #[.int .i64 ((findP s (N.map Prod.fst) (keyS s d.st).data.toList).getD 0:Nat),.bool true]) V):=Lib.hid fun V hV=>by
  refine⟨⟨cell_of (hV.at hc (by simp)) 0,cell_of (hV.at h1 (by simp)) 3⟩,?_⟩
  have:=SpO.look h.mp hV _ hz
  rwa [hfs] at this
 have HF0:=Lib.hid hf0;have HE:=Lib.hid hW0
 clear h hy hd hc hk hz hf0 hb0 h1 h2 hW0 hfs
 go_enter Tryz.func45,Tryz.ntmps45
 go_upto_region 1 with fail
 rw[HE.out]
 go_wp2_with (first
  | (go_at_call 22;go_must (refine CK.out.mono ?_;rintro e w2 ⟨rfl,hf2⟩;have HF2:=Lib.hid (HF0.out.trans hf2);clear hf2;obtain⟨⟨q0,q1⟩,q2⟩:=HL.out w2 HF2.out)))
 go_ret
 exact⟨rfl,HF2.out⟩
set_option maxHeartbeats 4000000 in
set_option maxRecDepth 100000 in
theorem xAdd_full (h:SpR w s yb lim whole qb mb N W) (hy:SyR W s yb fb) (hd:StR W s yb sb d.st) (hc:W.heap[cb]?=some (.cells #[.pointer (some ⟨qb,0,none⟩)] 109 (0,0))) (hk:hasK s (N.map Prod.fst) (keyP s d.st)=false) (hz:(keyS s d.st).size≤maxLen) (hl:(N.length:Int)=lim) :
  Calls Tryz.prog 45 #[ndV (d,sb),.pointer (some ⟨cb,0,none⟩)] W (Ret (.bool false) (Frm [] W)):=by
 obtain⟨W0,hW0⟩:∃ W0,W.alloc (.cells #[.pointer (some ⟨sb,0,none⟩),.int .i64 d.par,.int .i64 d.mv.kind,.int .i64 d.mv.role,.int .i64 d.mv.step,.int .i64 d.mv.place,.int .i64 d.lvl] 117)=W0:=⟨_,rfl⟩
 have hf0:Frm [] W W0:=by rw[← hW0];exact(Frm.refl _ _).alloc _
 have hb0:W0.heap[W.heap.size]?=some (.cells #[.pointer (some ⟨sb,0,none⟩),.int .i64 d.par,.int .i64 d.mv.kind,.int .i64 d.mv.role,.int .i64 d.mv.step,.int .i64 d.mv.place,.int .i64 d.lvl] 117 (0,0)):=by rw[← hW0];exact heap_alloc_new _ _
 have CK:Hid (Calls Tryz.prog 22 #[.pointer (some ⟨sb,0,none⟩)] W0 (Ret (.string (keyS s d.st)) (Frm [] W0))):=Lib.hid ((pKey_any s yb fb sb d.st W0 (hy.frm hf0) (hd.frm hf0)).mono fun e w' h=>by
  obtain⟨v,rfl,rfl,h⟩:=h
  exact⟨rfl,h⟩)
 have c0:=cell_of hb0 0
 obtain⟨ao,cap,h1,h2,-⟩:=h.bx
 have hfs:(findP s (N.map Prod.fst) (keyS s d.st).data.toList).isSome=false:=by rw[keyS_list,findP_none];exact hk
 have HL:Hid (∀ V,Frm [] W V→(V.cell? ⟨cb,0,none⟩=some (.pointer (some ⟨qb,0,none⟩))∧V.cell? ⟨qb,3,none⟩=some (.map (some mb))∧V.cell? ⟨qb,0,none⟩=some (.int .i64 lim)∧V.cell? ⟨qb,2,none⟩=some (.slice ao N.length cap)) ∧
   (Instr.lookup 112 (.map (some mb)) (.string (keyS s d.st)) true).run Tryz.prog V=.ok (.tuple #[.int .i64 ((findP s (N.map Prod.fst) (keyS s d.st).data.toList).getD 0:Nat),.bool false]) V):=Lib.hid fun V hV=>by
  refine⟨⟨cell_of (hV.at hc (by simp)) 0,cell_of (hV.at h1 (by simp)) 3,cell_of (hV.at h1 (by simp)) 0,cell_of (hV.at h1 (by simp)) 2⟩,?_⟩
  have:=SpO.look h.mp hV _ hz
  rwa [hfs] at this
 have HF0:=Lib.hid hf0;have HE:=Lib.hid hW0
 have hle:((N.length:Int) == lim)=true:=by simpa using hl
 clear h hy hd hc hk hz hf0 hb0 h1 h2 hW0 hfs hl
 go_enter Tryz.func45,Tryz.ntmps45
 go_upto_region 1 with fail
 rw[HE.out]
 go_upto_region 5 with (first
  | (go_at_call 22;go_must (refine CK.out.mono ?_;rintro e w2 ⟨rfl,hf2⟩;have HF2:=Lib.hid (HF0.out.trans hf2);clear hf2;obtain⟨⟨q0,q1,q2,q3⟩,q4⟩:=HL.out w2 HF2.out)))
 go_quiet (fail)
 go_wp2
 go_ret
 exact⟨rfl,HF2.out.drewN _⟩
set_option maxHeartbeats 4000000 in
set_option maxRecDepth 100000 in
theorem xAdd_new (h:SpR w s yb lim whole qb mb N W) (hy:SyR W s yb fb) (hd:StR W s yb sb d.st) (hc:W.heap[cb]?=some (.cells #[.pointer (some ⟨qb,0,none⟩)] 109 (0,0))) (hk:hasK s (N.map Prod.fst) (keyP s d.st)=false) (hz:(keyS s d.st).size≤maxLen) (hl:(N.length:Int)≠lim) (hs:0 < s.roles.length) (hn:N.length≤1000000) :
   Calls Tryz.prog 45 #[ndV (d,sb),.pointer (some ⟨cb,0,none⟩)] W (Ret (.bool true) (AdTo w s yb lim whole qb mb (N ++ [(d,sb)]) W)):=by
 obtain⟨W0,hW0⟩:∃ W0,W.alloc (.cells #[.pointer (some ⟨sb,0,none⟩),.int .i64 d.par,.int .i64 d.mv.kind,.int .i64 d.mv.role,.int .i64 d.mv.step,.int .i64 d.mv.place,.int .i64 d.lvl] 117)=W0:=⟨_,rfl⟩
 have hf0:Frm [] W W0:=by rw[← hW0];exact(Frm.refl _ _).alloc _
 have hb0:W0.heap[W.heap.size]?=some (.cells #[.pointer (some ⟨sb,0,none⟩),.int .i64 d.par,.int .i64 d.mv.kind,.int .i64 d.mv.role,.int .i64 d.mv.step,.int .i64 d.mv.place,.int .i64 d.lvl] 117 (0,0)):=by rw[← hW0];exact heap_alloc_new _ _
 have CK:Hid (Calls Tryz.prog 22 #[.pointer (some ⟨sb,0,none⟩)] W0 (Ret (.string (keyS s d.st)) (Frm [] W0))):=Lib.hid ((pKey_any s yb fb sb d.st W0 (hy.frm hf0) (hd.frm hf0)).mono fun e w' h=>by
  obtain⟨v,rfl,rfl,h⟩:=h
  exact⟨rfl,h⟩)
 have c0:=cell_of hb0 0
 have HB0:=Lib.hid hb0
 clear hb0
 obtain⟨ao,cap,h1,h2,h3⟩:=h.bx
 have hfs:(findP s (N.map Prod.fst) (keyS s d.st).data.toList).isSome=false:=by rw[keyS_list,findP_none];exact hk
 have HL:Hid (∀ V,Frm [] W V→(V.cell? ⟨cb,0,none⟩=some (.pointer (some ⟨qb,0,none⟩))∧V.cell? ⟨qb,3,none⟩=some (.map (some mb))∧V.cell? ⟨qb,0,none⟩=some (.int .i64 lim)∧V.cell? ⟨qb,2,none⟩=some (.slice ao N.length cap)) ∧
   (Instr.lookup 112 (.map (some mb)) (.string (keyS s d.st)) true).run Tryz.prog V=.ok (.tuple #[.int .i64 ((findP s (N.map Prod.fst) (keyS s d.st).data.toList).getD 0:Nat),.bool false]) V):=Lib.hid fun V hV=>by
  refine⟨⟨cell_of (hV.at hc (by simp)) 0,cell_of (hV.at h1 (by simp)) 3,cell_of (hV.at h1 (by simp)) 0,cell_of (hV.at h1 (by simp)) 2⟩,?_⟩
  have:=SpO.look h.mp hV _ hz
  rwa [hfs] at this
 have HF0:=Lib.hid hf0;have HE:=Lib.hid hW0
 have hle:((N.length:Int) == lim)=false:=by simpa using hl
 have HB1:=Lib.hid h1;have HB2:=Lib.hid h2;have HB3:=Lib.hid h3
 have HSP:=Lib.hid h;have HC:=Lib.hid hc;have HK:=Lib.hid hk;have HD:=Lib.hid hd;have HZ:=Lib.hid hz;have HS:=Lib.hid hs;have HN:=Lib.hid hn
 clear h hy hd hc hk hz hf0 h1 h2 h3 hW0 hfs hl hs hn
 go_enter Tryz.func45,Tryz.ntmps45
 go_upto_region 1 with fail
 rw[HE.out]
 go_upto_region 5 with (first
  | (go_at_call 22;go_must (refine CK.out.mono ?_;rintro e w2 ⟨rfl,hf2⟩;have HF2:=Lib.hid (HF0.out.trans hf2);have HG2:=Lib.hid hf2;clear hf2;obtain⟨⟨q0,q1,q2,q3⟩,q4⟩:=HL.out w2 HF2.out)))
 go_quiet (fail)
 go_upto_region 7 with fail
 obtain⟨w5,hw5⟩:∃ w5,w2.drewN nq=w5:=⟨_,rfl⟩
 have HF5:Hid (Frm [] W w5):=Lib.hid (by rw[← hw5];exact HF2.out.drewN _)
 have HG5:Hid (Frm [] W0 w5):=Lib.hid (by rw[← hw5];exact HG2.out.drewN _)
 rw[hw5]
 clear hw5 q0 q1 q2 q3 q4
 refine wp_region_cqt 10 (by kernel_rfl) (by kernel_rfl) ?_
 simp only[List.take_succ_cons,List.take_zero,List.drop_succ_cons,List.drop_zero]
 repeat (first
  | go_big_quiet_skip
  | (refine wpQuiet_want (by rfl) (fun K hK=>?_)
     first
      | (refine quiet_move _ (by rfl) (hK _ ?_))
      | (refine quiet_assign _ (by rfl) (hK _ ?_))
      | (apply Exists.intro
         refine⟨fun w' hC=>?_,hK _ ?_⟩
         ·(unfold Oper.quietAt
           obtain⟨⟨p0,p1,p2,p3⟩,p4⟩:=HL.out w' (HF5.out.trans hC)
           clear hC
           go_simp
           try exact⟨rfl,rfl⟩
           try rfl))
     clear hK K
     try simp only[nrm,Act.eval,nrq]))
 refine wpQuiet_nil ?_
 intro w6 hf6
 have HF6:=Lib.hid (HF5.out.trans hf6);have HG6:=Lib.hid (HG5.out.trans hf6)
 have HS6:=Lib.hid (HSP.out.frm HF6.out)
 obtain⟨w7,hup,hm7,hf7⟩:=HS6.out.mp.store Tryz.keyedS Tryz.underlying112 (by have:=HN.out;unfold maxLen;omega) (WideMaps.keyOf_string_mk Tryz.underlying9 HZ.out) (by trivial) (.int .i64 (N.length:Nat))
 rw[(keyF_get s (N.map Prod.fst) (keyS s d.st).data.toList).2,keyS_list,findP_none,HK.out] at hm7
 simp only[Bool.false_eq_true,if_false] at hm7
 have HM7:=Lib.hid hm7;have HF7:=Lib.hid hf7
 clear hf6 hm7 hf7
 go_upto_region 8 with fail
 obtain⟨ao',cap',g1,g2,g3⟩:=HS6.out.bx
 have eao:ao'=ao∧cap'=cap:=by
  have e:=(cell_of g1 2).symm.trans (HL.out w6 HF6.out).1.2.2.2
  simp at e
  exact e
 obtain⟨rfl,rfl⟩:=eao
 have hne:qb≠mb:=fun e=>by
  obtain⟨es,c,hb⟩:=HS6.out.mp.block rfl
  rw[← e,g1] at hb;cases hb
 have hcm:∀ {k:Nat} {C:Array Value} {t:TypeId},w6.heap[k]?=some (.cells C t (0,0))→w7.heap[k]?=some (.cells C t (0,0)):=fun {k C t} hk=>HF7.out.at hk (by
  intro hm
  simp only[List.mem_singleton] at hm
  obtain⟨es,c,hb⟩:=HS6.out.mp.block rfl
  rw[← hm,hk] at hb;cases hb)
 have x7:=hcm (HF6.out.at HC.out (by simp))
 have q7:=hcm g1
 have b7:=hcm (HG6.out.at HB0.out (by simp))
 have row7:w7.ownsRow w.heap.size 117 7 (.slice ao' N.length cap') N.length (ndC N):=HF7.out.owns g2 (by
  intro k hk hm
  simp only[List.mem_singleton] at hm
  obtain⟨c,hc⟩:=ownBlock_type g2 hk
  obtain⟨es,c',hb⟩:=HS6.out.mp.block rfl
  rw[← hm,hc] at hb;cases hb)
 have HG1:=Lib.hid g1;have HG2':=Lib.hid g2;have HG3:=Lib.hid g3;have HX7:=Lib.hid x7;have HB7:=Lib.hid b7;have HQ7:=Lib.hid q7;have HR7:=Lib.hid row7
 have hty:Ty w7 sb 140:=by
  obtain⟨av,wv,hb,-⟩:=HD.out.out
  exact⟨_,hcm (HF6.out.at hb (by simp))⟩
 have HTY:=Lib.hid hty
 have hG7:∀ V,Frm [] w7 V→RowG (NdG V) 117 (.slice ao' N.length cap') V:=fun V hV g cur hg hc u hu=>by
  obtain⟨c,hc6⟩:=ownBlock_type g2 hg
  have h7:=hV.at (hcm hc6) (by simp)
  rw[h7] at hc
  cases hc
  exact(((g3 g _ hg hc6 u hu).frm (F:=[mb]) HF7.out (fun p hp hm=>by
   simp only[List.mem_singleton] at hm
   obtain⟨D,hD⟩:=hp
   obtain⟨es,c',hb⟩:=HS6.out.mp.block rfl
   rw[← hm,hD] at hb;cases hb)).frm hV (by simp))
 have HG7:=Lib.hid hG7
 obtain⟨i0,hi0,hz0,hz1,hz2⟩:=info_parts Tryz.infoNd
 clear g1 g2 g3 x7 q7 b7 row7 hcm hty hG7 hup c0 hle CK HL HE
 obtain⟨F,hFe⟩:∃ F,(Value.slice ao' N.length cap').ownBlock.toList=F:=⟨_,rfl⟩
 have hFn:∀ k∈F,Ty w7 k 117∧k < W.heap.size:=fun k hk=>by
  rw[← hFe,Option.mem_toList] at hk
  exact⟨ownBlock_type HR7.out hk,ownBlock_lt HB2.out hk⟩
 have hX:∀ V,Frm F w7 V→V.heap[cb]?=some (.cells #[.pointer (some ⟨qb,0,none⟩)] 109 (0,0)):=fun V hV=>hV.at HX7.out (fun hm=>by
  obtain⟨D,hD⟩:=(hFn _ hm).1
  rw[HX7.out] at hD;cases hD)
 have hQ:∀ V,Frm F w7 V→V.heap[qb]?=some (.cells #[.int .i64 lim,.bool whole,.slice ao' N.length cap',.map (some mb)] 115 (0,0)):=fun V hV=>hV.at HQ7.out (fun hm=>by
  obtain⟨D,hD⟩:=(hFn _ hm).1
  rw[HQ7.out] at hD;cases hD)
 have hB:∀ V,Frm F w7 V→V.heap[W.heap.size]?=some (.cells #[.pointer (some ⟨sb,0,none⟩),.int .i64 d.par,.int .i64 d.mv.kind,.int .i64 d.mv.role,.int .i64 d.mv.step,.int .i64 d.mv.place,.int .i64 d.lvl] 117 (0,0)):=fun V hV=>hV.at HB7.out (fun hm=>by
  have:=(hFn _ hm).2;omega)
 have HCT:Hid (∀ V,Frm F w7 V→(V.cell? ⟨cb,0,none⟩=some (.pointer (some ⟨qb,0,none⟩))∧V.cell? ⟨qb,2,none⟩=some (.slice ao' N.length cap'))∧V.cell? ⟨W.heap.size,0,none⟩=some (.pointer (some ⟨sb,0,none⟩))∧V.cell? ⟨W.heap.size,1,none⟩=some (.int .i64 d.par) ∧
   V.cell? ⟨W.heap.size,2,none⟩=some (.int .i64 d.mv.kind)∧V.cell? ⟨W.heap.size,3,none⟩=some (.int .i64 d.mv.role)∧V.cell? ⟨W.heap.size,4,none⟩=some (.int .i64 d.mv.step)∧V.cell? ⟨W.heap.size,5,none⟩=some (.int .i64 d.mv.place)∧V.cell? ⟨W.heap.size,6,none⟩=some (.int .i64 d.lvl)):=Lib.hid fun V hV =>
  ⟨⟨cell_of (hX V hV) 0,cell_of (hQ V hV) 2⟩,cell_of (hB V hV) 0,cell_of (hB V hV) 1,cell_of (hB V hV) 2,cell_of (hB V hV) 3,cell_of (hB V hV) 4,cell_of (hB V hV) 5,cell_of (hB V hV) 6⟩
 have HQF:=Lib.hid hQ
 have HFE:=Lib.hid hFe
 clear hX hQ hB hFn hFe
 refine heldL_start F (wrFrom 10) (by kernel_rfl) ?_
 refine cnt 0 ?_
 iterate 6
  refine hcL ?_ ?_ ?_
  rotate_left
  ·intro w' hC
   obtain⟨⟨x0,x1⟩,y0,y1,y2,y3,y4,y5,y6⟩:=HCT.out w' ((Frm.refl F w7).drew.trans hC)
   clear hC
   go_simp
   try rfl
  try simp only[nrm,Nat.reduceAdd]
 refine tcn ?_
 obtain⟨wd,hwd⟩:∃ wd,w7.drew=wd:=⟨_,rfl⟩
 have hfd:Frm [] w7 wd:=by rw[← hwd];exact(Frm.refl _ _).drew
 rw[hwd]
 clear hwd
 have HG8:=Lib.hid (HG7.out _ (hfd.alloc (.cells #[.pointer (some ⟨sb,0,none⟩),.int .i64 d.par,.int .i64 d.mv.kind,.int .i64 d.mv.role,.int .i64 d.mv.step,.int .i64 d.mv.place,.int .i64 d.lvl] 117)))
 refine honL 6 ?_
 refine heldL_step (i:=6) rfl rfl (by rfl) (fun K' hK'=>?_)
 go_simp
 (skip)
 refine hK'.out _ _ ((Frm.refl _ _).alloc _) ?_
 clear hK' K'
 try simp only[nrm]
 obtain⟨w8,hw8⟩:∃ w8,wd.alloc (.cells #[.pointer (some ⟨sb,0,none⟩),.int .i64 d.par,.int .i64 d.mv.kind,.int .i64 d.mv.role,.int .i64 d.mv.step,.int .i64 d.mv.place,.int .i64 d.lvl] 117)=w8:=⟨_,rfl⟩
 have HF8:Hid (Frm [] w7 w8):=Lib.hid (by rw[← hw8];exact hfd.alloc _)
 have hnews:∀ j u,(ndC1 (d,sb))[j]?=some u→w8.cell? ((⟨wd.heap.size,0,none⟩:Addr).add j)=some u:=by rw[← hw8];exact new_row wd _ _
 rw[hw8] at HG8 ⊢
 have hsz8:w.heap.size≤w8.heap.size:=by have:=HS6.out.fr.size;have:=HF7.out.size;have:=HF8.out.size;omega
 have HNW:=Lib.hid hnews
 clear hw8 hnews hfd
 refine honL 7 ?_
 refine heldL_step (i:=7) rfl rfl (by rfl) (fun K' hK'=>?_)
 refine wp_append_all (NdG w8) _ _ 113 rfl w.heap.size 117 i0 ndZ 7 56 Tryz.underlying113 hi0 hz0 hz1 hz2 rfl (by decide) (.slice ao' N.length cap') N.length (ndC N) ?_ (HF8.out.owns HR7.out (by simp)) ⟨wd.heap.size,0,none⟩ 1 1 (ndC1 (d,sb)) ?_ rfl HNW.out (by simp[Value.oneCell',ndC1]) (by have:=HN.out;unfold maxLen;omega) (by have:=HN.out;omega) hsz8 (by omega) HG8.out (ndG_zero _) (ndG_one (HTY.out.frm HF8.out (by simp))) ?_;(focus (go_simp;done));(focus (go_simp;done));intro v' w9 hown' hgrow hG9 hob;have HOB:=Lib.hid hob;have HO:=Lib.hid hown';have HGR:=Lib.hid hgrow;have HG9:=Lib.hid hG9;have hfg:Frm F w8 w9:=(Frm.refl _ _).grown hgrow (fun k hk=>.inl (by rw[← HFE.out];simp[hk]));have hbx:=HQF.out w9 ((HF8.out.mono (by simp)).trans hfg);have cx9:=cell_of hbx 2;have fx9:=free_of hbx 2;obtain⟨ao9,cp9,rfl⟩:=own_shape hown';clear hown' hgrow hG9 hbx hob
 refine hK'.out _ _ hfg ?_
 clear hK' K'
 try simp only[nrm]
 refine cnt 8 ?_
 iterate 2
  refine hcL ?_ ?_ ?_
  rotate_left
  ·intro w' hC
   clear hC
   go_simp
   try rfl
  try simp only[nrm,Nat.reduceAdd]
 refine tcn ?_
 refine honL 10 ?_
 refine heldL_write (i:=10) rfl (by rfl) (by rfl) (fun K' hK'=>?_)
 go_simp
 (skip)
 refine hK'.out _ _ ?_
 clear hK' K'
 try simp only[nrm]
 refine heldL_done (by kernel_rfl) ?_ _
 go_wp2
 go_ret
 refine⟨rfl,?_⟩
 obtain⟨r1,r2,r3⟩:=HS6.out.add HS.out (HD.out.frm HF6.out) HK.out HG1.out HG2'.out HG3.out HM7.out HF7.out HF8.out HGR.out HO.out HG9.out
 refine⟨r1,⟨_,(HF6.out.mono (by simp)).trans r2,HSP.out.spB HB1.out HB2.out HB3.out⟩,fun k hk=>?_⟩
 rintro⟨a,b,v,m,e1,e2⟩
 rw[r3] at e1
 cases e1
 rcases HOB.out with e | e
 ·exact⟨_,_,_,_,HB1.out,e ▸ e2⟩
 ·rw[e] at e2
  cases e2
  have:=HF6.out.size
  have:=HF7.out.size
  have:=HF8.out.size
  omega
end
end Go.Proofs.YtemjlpahohmajaaGreat
namespace Go.Proofs.YtemjlpahohmajaaGreat
open Go.RowKit Go.BigFrame Go.Maps
theorem cat_le {α:Type} {f:Nat→List α} {b:Nat}:∀ {n:Nat},(∀ k,k < n→(f k).length≤b)→(cat f n).length≤n * b
 | 0,_=>by simp[cat]
 | n + 1,h=>by
   rw[cat,List.length_append]
   have h1:=cat_le (n:=n) fun k hk=>h k (by omega)
   have h2:=h n (by omega)
   rw[Nat.add_mul,Nat.one_mul]
   omega
theorem flatMap_len {α β:Type} {f:α→List β} {b:Nat} (h:∀ x,(f x).length≤b):∀ l:List α,(l.flatMap f).length≤l.length * b
 | []=>by simp
 | x :: l=>by
   rw[List.flatMap_cons,List.length_append,List.length_cons,Nat.add_mul,Nat.one_mul]
   have:=flatMap_len h l
   have:=h x
   omega
theorem keyS_size {s:SesD} {x:PS} (hs:SesOk s) (hx:PSok s x):(keyS s x).size≤3000:=by
 have h4:=hs.n4
 have hr:∀ i,i < s.roles.length→(keyRole x i).length≤9:=fun i hi=>by
  unfold keyRole
  rw[List.length_cons]
  have h1:=flatMap_len (f:=two) (b:=2) (fun v=>by simp[two]) (x.bank i)
  have h2:=(hx.vb i hi).1
  have h3:=(hs.at hi).c4
  omega
 have hw:∀ i k,i < s.roles.length→k < s.roles.length→(keyWay s x i k).length≤140:=fun i k hi hk=>by
  unfold keyWay
  split
  ·simp
  ·rw[List.length_cons]
   obtain⟨h1,h2⟩:=hx.wb i k hi hk
   have h3:=keyB_size (keyL s.cls (x.way i k)) fun m hm=>(h2 m (keyL_mem hm)).2
   rw[keyL_length] at h3
   have h5:=hs.k4
   have h6:(byt (keyB (keyL s.cls (x.way i k)))).length=(keyB (keyL s.cls (x.way i k))).size:=byt_length _
   omega
 have e:(keyS s x).size=(keyP s x).length:=by
  unfold keyS
  exact List.size_toArray
 rw[e]
 unfold keyP
 rw[List.length_append]
 have h1:=cat_le (f:=keyRole x) (n:=s.roles.length) hr
 have h2:=cat_le (f:=fun i=>cat (keyWay s x i) s.roles.length) (n:=s.roles.length) (b:=4 * 140) fun i hi=>Nat.le_trans (cat_le fun k hk=>hw i k hi hk) (Nat.mul_le_mul_right _ h4)
 have h3:s.roles.length * 9≤4 * 9:=Nat.mul_le_mul_right _ h4
 have h5:s.roles.length * (4 * 140)≤4 * (4 * 140):=Nat.mul_le_mul_right _ h4
 omega
theorem addMv_snoc {s:SesD} {lim:Nat} {x:PS} {n lvl:Nat} {m:Mv}:∀ {ms:List Mv} {N N':List Nd},addMv s lim x n lvl N ms=(N',true)→addMv s lim x n lvl N (ms ++ [m])=addMv s lim x n lvl N' [m]
 | [],N,N',h=>by cases h;rfl
 | a :: ms,N,N',h=>by
   rw[List.cons_append,addMv]
   rw[addMv] at h
   split at h
   ·rename_i hk;rw[if_pos hk];exact addMv_snoc h
   ·rename_i hk
    rw[if_neg hk]
    split at h
    ·cases h
    ·rename_i hl;rw[if_neg hl];exact addMv_snoc h
theorem addMv_stop {s:SesD} {lim:Nat} {x:PS} {n lvl:Nat}:∀ {ms ks:List Mv} {N N':List Nd},addMv s lim x n lvl N ms=(N',false)→addMv s lim x n lvl N (ms ++ ks)=(N',false)
 | [],ks,N,N',h=>by cases h
 | a :: ms,ks,N,N',h=>by
   rw[List.cons_append,addMv]
   rw[addMv] at h
   split at h
   ·rename_i hk;rw[if_pos hk];exact addMv_stop h
   ·rename_i hk
    rw[if_neg hk]
    split at h
    ·rename_i hl;rw[if_pos hl];exact h
    ·rename_i hl;rw[if_neg hl];exact addMv_stop h
theorem addMv_one {s:SesD} {lim:Nat} {x:PS} {n lvl:Nat} {m:Mv} {N:List Nd}:addMv s lim x n lvl N [m]=if hasK s N (keyP s (nextP s x m)) then (N,true) else if N.length=lim then (N,false) else (N ++ [⟨nextP s x m,n,m,lvl + 1⟩],true):=by
 rw[addMv,addMv,addMv]
theorem wp_store_row {P:Program} {op:Oper} {a:Act} {w:World} {K:Act→World→Prop} {Q:Exit→Act→World→Prop} (ty:TypeId) (x y:Operand) (ho:op.op=.store ty x y) (b:Nat) (A C:Array Value) (t:TypeId) (hx:a.eval x=.pointer (some ⟨b,0,none⟩)) (hy:a.eval y=.agg A)
  (hb:w.heap[b]?=some (.cells C t (0,0))) (hs:A.size=C.size) (hi:(P.info? ty).map (·.size)=some A.size) (h1:A.all (·.oneCell')=true)
  (h:∀ w',w'.heap[b]?=some (.cells A t (0,0))→Frm [b] w w'→K (a.put op.dst undef) w'):op.wp P a w K Q:=by
 have hw:=setCells_whole hb A hs
 refine wp_store_mid ty x y ho b 0 A hx hy (fun j hj=>⟨?_,?_⟩) hi h1 (h _ hw.1 hw.2)
 ·rw[Nat.zero_add,cell_of hb];simp[show j < C.size by omega]
 ·rw[Nat.zero_add];exact free_of hb j
structure SeS (w:World) (s:SesD) (yb fb:Nat) (lim:Int) (whole:Bool) (qb mb yB cb ab:Nat) (N:List (Nd × Nat)) (W:World):Prop where
 sp:SpR w s yb lim whole qb mb N W
 y:W.heap[yB]?=some (.cells #[.pointer (some ⟨yb,0,none⟩)] 26 (0,0))
 c:W.heap[cb]?=some (.cells #[.pointer (some ⟨qb,0,none⟩)] 109 (0,0))
 a:W.heap[ab]?=some (.cells #[.func (.func 45) #[] #[.pointer (some ⟨cb,0,none⟩)]] 119 (0,0))
 sy:SyR W s yb fb
theorem book_fg {W:World}:∀ b∈books W,FgB W b:=fun b hb=>by
 obtain⟨o,ho,hi⟩:=mem_books.1 hb
 have hn:∀ C t fr,o≠.cells C t fr:=fun C t fr e=>by subst e;cases hi
 have hc:∀ x,W.cell? ⟨b,x,none⟩=none:=fun x=>by
  unfold World.cell?
  rw[ho]
  cases o with
  | cells C t fr=>exact absurd rfl (hn _ _ _)
  | _=>rfl
 exact⟨fun C t e=>(by rw[ho] at e;cases e;exact absurd rfl (hn _ _ _)),fun o' x e=>(by rw[hc] at e;cases e),fun o' p e=>(by rw[hc] at e;cases e),fun o' g o'' p n c e=>(by rw[hc] at e;cases e)⟩
section
variable {w W V:World} {s:SesD} {yb fb qb mb yB cb ab:Nat} {lim:Int} {whole:Bool} {N N':List (Nd × Nat)}
theorem SpR.bk (h:SpR w s yb lim whole qb mb N W) (hs:0 < s.roles.length) {B:Nat} (hb:Bk B W V) (hB:w.heap.size≤B):SpR w s yb lim whole qb mb N V:=by
 obtain⟨ao,cap,h1,h2,h3⟩:=h.bx
 have hf:=hb.frm
 have hnb:∀ {k:Nat} {C:Array Value} {t:TypeId},W.heap[k]?=some (.cells C t (0,0))→k∉books W:=fun hk=>not_books hk rfl
 refine⟨hb.old h.fr hB,h.lq,h.lm,⟨ao,cap,hb.at h1 rfl,hf.owns h2 fun k hk=>?_,fun g cur hg hc u hu=>?_⟩,h.mp.frm hf fun b e=>?_,fun d hd=>(h.st d hd).fg hs book_fg hf⟩
 ·obtain⟨c,hc⟩:=ownBlock_type h2 hk
  exact hnb hc
 ·obtain⟨c,hc'⟩:=ownBlock_type h2 hg
  have:=hb.at hc' rfl
  rw[this] at hc
  cases hc
  exact(h3 g _ hg hc' u hu).frm hf fun p hp=>by
   obtain⟨D,hD⟩:=hp
   exact hnb hD
 ·cases e
  obtain⟨es,c,hm⟩:=h.mp.block rfl
  exact not_books hm rfl
theorem SyR.bk (h:SyR W s yb fb) {B:Nat} (hb:Bk B W V):SyR V s yb fb:=h.fg book_fg hb.frm
theorem SeS.bk (h:SeS w s yb fb lim whole qb mb yB cb ab N W) {B:Nat} (hb:Bk B W V) (hB:w.heap.size≤B):SeS w s yb fb lim whole qb mb yB cb ab N V:=
 ⟨h.sp.bk (by have:=h.sy.ok.n2;omega) hb hB,hb.at h.y rfl,hb.at h.c rfl,hb.at h.a rfl,h.sy.bk hb⟩
theorem SeS.frm (h:SeS w s yb fb lim whole qb mb yB cb ab N W) (hf:Frm [] W V):SeS w s yb fb lim whole qb mb yB cb ab N V:=
 ⟨h.sp.frm hf,hf.at h.y (by simp),hf.at h.c (by simp),hf.at h.a (by simp),h.sy.frm hf⟩
theorem SeS.to (h:SeS w s yb fb lim whole qb mb yB cb ab N W) (ha:AdTo w s yb lim whole qb mb N' W V):SeS w s yb fb lim whole qb mb yB cb ab N' V:=by
 obtain⟨h1,⟨F,hf,hF⟩,-⟩:=ha
 exact⟨h1,SpB.at hF hf h.y (by decide) (.inl (by decide)),SpB.at hF hf h.c (by decide) (.inl (by decide)),SpB.at hF hf h.a (by decide) (.inl (by decide)),h.sy.fg (SpB.fg hF) hf⟩
theorem SpR.part (h:SpR w s yb lim whole qb mb N W) (hs:0 < s.roles.length):SpR w s yb lim false qb mb N (W.setCell ⟨qb,1,none⟩ (.bool false)):=by
 obtain⟨ao,cap,h1,h2,h3⟩:=h.bx
 have hfg:∀ b∈[qb],FgB W b:=fun b hb=>by rw[List.mem_singleton] at hb;subst hb;exact h.fgq.1
 obtain⟨V,hV⟩:∃ V,W.setCell ⟨qb,1,none⟩ (.bool false)=V:=⟨_,rfl⟩
 have hf:Frm [qb] W V:=by rw[← hV];exact(Frm.refl _ _).setCell _ (.inl (by simp)) _
 have b1:V.heap[qb]?=some (.cells #[.int .i64 lim,.bool false,.slice ao N.length cap,.map (some mb)] 115 (0,0)):=by rw[← hV];exact(block_setCell h1 1 _).trans rfl
 have hr:∀ k,(Value.slice ao N.length cap).ownBlock=some k→k∉[qb]:=fun k hk hm=>by
  rw[List.mem_singleton] at hm
  subst hm
  obtain⟨c,hc⟩:=ownBlock_type h2 hk
  rw[h1] at hc;cases hc
 rw[hV]
 refine⟨h.fr.then hf (by intro k hk;simp at hk;subst hk;exact .inr h.lq),h.lq,h.lm,⟨ao,cap,b1,hf.owns h2 hr,fun g cur hg hc u hu=>?_⟩,h.mp.frm hf fun b e hm=>?_,fun d hd=>(h.st d hd).fg hs hfg hf⟩
 ·obtain⟨c,hc'⟩:=ownBlock_type h2 hg
  have:=hf.at hc' (hr g hg)
  rw[this] at hc
  cases hc
  exact(h3 g _ hg hc' u hu).frm hf fun p hp hm=>by
   obtain⟨D,hD⟩:=hp
   exact FgB.ne hfg hD (by simp[sysT]) hm
 ·cases e
  rw[List.mem_singleton] at hm
  subst hm
  obtain⟨es,c,hm⟩:=h.mp.block rfl
  rw[h1] at hm;cases hm
theorem SeS.part (h:SeS w s yb fb lim whole qb mb yB cb ab N W):SeS w s yb fb lim false qb mb yB cb ab N (W.setCell ⟨qb,1,none⟩ (.bool false))∧KB W (W.setCell ⟨qb,1,none⟩ (.bool false)):=by
 have hn:0 < s.roles.length:=by have:=h.sy.ok.n2;omega
 obtain⟨ao,cap,h1,h2,h3⟩:=h.sp.bx
 have hfg:∀ b∈[qb],FgB W b:=fun b hb=>by rw[List.mem_singleton] at hb;subst hb;exact h.sp.fgq.1
 have hf:Frm [qb] W (W.setCell ⟨qb,1,none⟩ (.bool false)):=(Frm.refl _ _).setCell _ (.inl (by simp)) _
 have ht:∀ {k:Nat} {C:Array Value} {t:TypeId},W.heap[k]?=some (.cells C t (0,0))→t≠115→k∉[qb]:=fun hk ht hm=>by
  rw[List.mem_singleton] at hm
  subst hm
  rw[h1] at hk;cases hk
  exact ht rfl
 refine⟨⟨h.sp.part hn,hf.at h.y (ht h.y (by decide)),hf.at h.c (ht h.c (by decide)),hf.at h.a (ht h.a (by decide)),h.sy.fg hfg hf⟩,KB.frm hf fun k hk hb=>?_⟩
 rw[List.mem_singleton] at hk
 subst hk
 exact not_books h1 rfl hb
structure SrS (w:World) (s:SesD) (yb fb:Nat) (lim:Int) (whole:Bool) (qb mb yB cb ab nb xb n:Nat) (d:Nd × Nat) (B:Nat) (u:Value) (L:List Mv) (N:List (Nd × Nat)) (W:World):Prop where
 se:SeS w s yb fb lim whole qb mb yB cb ab N W
 hn:W.heap[nb]?=some (.cells #[.int .i64 n] 3 (0,0))
 hx:W.heap[xb]?=some (.cells #[.pointer (some ⟨d.2,0,none⟩),.int .i64 d.1.par,.int .i64 d.1.mv.kind,.int .i64 d.1.mv.role,.int .i64 d.1.mv.step,.int .i64 d.1.mv.place,.int .i64 d.1.lvl] 117 (0,0))
 xr:¬ RowOf W qb xb
 hb:W.heap[B]?=some (.cells #[u] 49 (0,0))
 hu:W.ownsRow w.heap.size 70 4 u L.length (mvC L)
 at':N[n]?=some d
variable {nb xb n B:Nat} {d:Nd × Nat} {u:Value} {L:List Mv}
theorem SrS.mvs (h:SrS w s yb fb lim whole qb mb yB cb ab nb xb n d B u L N W):MvI B u L W:=⟨h.hb,mv_arr h.hu⟩
theorem RowOf.back {F:List Nat} {k:Nat} (hf:Frm F W V) (hq:qb∉F) (hl:qb < W.heap.size) (h:RowOf V qb k):RowOf W qb k:=by
 obtain⟨a,b,v,m,e1,e2⟩:=h
 exact⟨a,b,v,m,(hf.block qb hl hq).symm.trans e1,e2⟩
theorem SpR.lt (h:SpR w s yb lim whole qb mb N W):qb < W.heap.size:=by
 obtain⟨ao,cap,h1,-⟩:=h.bx
 exact lt_of_block h1
theorem SrS.frm (h:SrS w s yb fb lim whole qb mb yB cb ab nb xb n d B u L N W) (hf:Frm [] W V):SrS w s yb fb lim whole qb mb yB cb ab nb xb n d B u L N V:=
 ⟨h.se.frm hf,hf.at h.hn (by simp),hf.at h.hx (by simp),fun hr=>h.xr (hr.back hf (by simp) h.se.sp.lt),hf.at h.hb (by simp),hf.owns h.hu (by simp),h.at'⟩
theorem SrS.bk (h:SrS w s yb fb lim whole qb mb yB cb ab nb xb n d B u L N W) {D:Nat} (hb:Bk D W V) (hD:w.heap.size≤D):SrS w s yb fb lim whole qb mb yB cb ab nb xb n d B u L N V:=by
 refine⟨h.se.bk hb hD,hb.at h.hn rfl,hb.at h.hx rfl,fun hr=>h.xr ?_,hb.at h.hb rfl,hb.frm.owns h.hu fun k hk=>?_,h.at'⟩
 ·obtain⟨ao,cap,h1,-⟩:=h.se.sp.bx
  exact hr.back hb.frm (not_books h1 rfl) (lt_of_block h1)
 ·obtain⟨c,hc⟩:=ownBlock_type h.hu hk
  exact not_books hc rfl
theorem SrS.to (h:SrS w s yb fb lim whole qb mb yB cb ab nb xb n d B u L N W) (ha:AdTo w s yb lim whole qb mb N' W V) (hn:N'[n]?=some d):SrS w s yb fb lim whole qb mb yB cb ab nb xb n d B u L N' V:=by
 have h0:=h.se.to ha
 obtain⟨h1,⟨F,hf,hF⟩,hr⟩:=ha
 refine⟨h0,SpB.at hF hf h.hn (by decide) (.inl (by decide)),SpB.at hF hf h.hx (by decide) (.inr h.xr),fun e=>h.xr (hr _ (lt_of_block h.hx) e),SpB.at hF hf h.hb (by decide) (.inl (by decide)),hf.owns h.hu fun k hk hm=>?_,hn⟩
 obtain⟨c,hc⟩:=ownBlock_type h.hu hk
 have:=SpB.at hF hf hc (by decide) (.inl (by decide))
 rcases (hF k hm).2 with ⟨es,c',e⟩ | ⟨D,e⟩ | ⟨⟨D,e⟩,-⟩ <;> rw[hc] at e <;> cases e
theorem AdTo.kb (ha:AdTo w s yb lim whole qb mb N' W V):KB W V:=by
 obtain⟨h1,⟨F,hf,hF⟩,-⟩:=ha
 refine KB.frm hf fun k hk hb=>?_
 obtain⟨o,ho,hi⟩:=mem_books.1 hb
 rcases (hF k hk).2 with ⟨es,c',e⟩ | ⟨D,e⟩ | ⟨⟨D,e⟩,-⟩ <;> rw[ho] at e <;> cases e <;> cases hi
end
def SrI (w:World) (s:SesD) (yb fb lim qb mb yB cb ab nb xb n:Nat) (d:Nd × Nat) (B:Nat) (u:Value) (L:List Mv) (N0:List Nd) (ds:List Nat) (pre:List (Nat × Mv)) (W:World):Prop:=
 ∃ N,SrS w s yb fb lim true qb mb yB cb ab nb xb n d B u L N W∧addMv s lim d.1.st n d.1.lvl N0 (pre.map Prod.snd)=(N.map Prod.fst,true)∧(N.length≤lim∧∀ e∈N,e.1.lvl≤N.length)∧Ms w ds W
def SrX (c:Code) (w:World) (s:SesD) (yb fb lim qb mb yB cb ab n:Nat) (d:Nd × Nat) (N0:List Nd) (ds:List Nat) (c':Code) (pre:List (Nat × Mv)) (W:World):Prop:=
 c'=c∧∃ N,SeS w s yb fb lim false qb mb yB cb ab N W∧addMv s lim d.1.st n d.1.lvl N0 (pre.map Prod.snd)=(N.map Prod.fst,false)∧Ms w ds W
section
variable {w W V:World} {s:SesD} {yb fb lim qb mb yB cb ab nb xb n B D:Nat} {d:Nd × Nat} {u:Value} {L:List Mv} {N0:List Nd} {ds:List Nat} {pre:List (Nat × Mv)} {c c':Code}
theorem Ms.bk (h:Ms w ds W) (hb:Bk D W V) (hds:∀ E∈ds,E < D):Ms w ds V:=⟨h.nd,fun E hE=>⟨(h.dl E hE).1,hb.block E _ (h.dl E hE).2 (.inl (hds E hE))⟩⟩
theorem Ms.kb (h:Ms w ds W) (hk:KB W V):Ms w ds V:=⟨h.nd,fun E hE=>⟨(h.dl E hE).1,hk E _ (h.dl E hE).2 rfl⟩⟩
theorem SrI.bk (h:SrI w s yb fb lim qb mb yB cb ab nb xb n d B u L N0 ds pre W) (hb:Bk D W V) (hD:w.heap.size≤D) (hds:∀ E∈ds,E < D):SrI w s yb fb lim qb mb yB cb ab nb xb n d B u L N0 ds pre V:=by
 obtain⟨N,h1,h2,h3,h4⟩:=h
 exact⟨N,h1.bk hb hD,h2,h3,h4.bk hb hds⟩
theorem SrX.bk (h:SrX c w s yb fb lim qb mb yB cb ab n d N0 ds c' pre W) (hb:Bk D W V) (hD:w.heap.size≤D) (hds:∀ E∈ds,E < D):SrX c w s yb fb lim qb mb yB cb ab n d N0 ds c' pre V:=by
 obtain⟨h0,N,h1,h2,h4⟩:=h
 exact⟨h0,N,h1.bk hb hD,h2,h4.bk hb hds⟩
end
theorem numL_some {α:Type} {L:List α} {pre rest:List (Nat × α)} {y:Nat × α} (h:numL L=pre ++ y :: rest):L[pre.length]?=some y.2:=by
 have h1:(numL L)[pre.length]?=some y:=by rw[h,List.getElem?_append_right (Nat.le_refl _),Nat.sub_self];rfl
 rw[numL_at,Option.map_eq_some_iff] at h1
 obtain⟨m,hm,rfl⟩:=h1
 exact hm
theorem bfs_step {s:SesD} {lim f n:Nat} {N N':List Nd} {d:Nd} (h:N[n]?=some d) (h2:addMv s lim d.st n d.lvl N (movesP s d.st)=(N',true)):bfs s lim (f + 1) n N=bfs s lim f (n + 1) N':=by
 rw[bfs,h]
 simp only[h2]
theorem bfs_stop {s:SesD} {lim f n:Nat} {N N':List Nd} {d:Nd} (h:N[n]?=some d) (h2:addMv s lim d.st n d.lvl N (movesP s d.st)=(N',false)):bfs s lim (f + 1) n N=(N',false):=by
 rw[bfs,h]
 simp only[h2]
theorem bfs_end {s:SesD} {lim f n:Nat} {N:List Nd} (h:N[n]?=none):bfs s lim (f + 1) n N=(N,true):=by
 rw[bfs,h]
theorem Ms.unmark {w W:World} {ds:List Nat} (h:Ms w ds W):Bk w.heap.size W (unmark ds W):=by
 have hf:=unmark_frm ds W
 refine⟨hf.os,hf.tape,hf.output,hf.size,fun k o hk ho=>hf.at hk fun hm=>?_⟩
 obtain⟨h1,h2⟩:=h.dl k hm
 rw[hk] at h2
 cases h2
 rcases ho with ho | ho
 ·omega
 ·cases ho
set_option maxHeartbeats 2000000 in
set_option maxRecDepth 100000 in
theorem pMvs_own (s:SesD) (yb fb sb:Nat) (x:PS) (w:World) (h:SyR w s yb fb) (hx:StR w s yb sb x):Calls Tryz.prog 33 #[.pointer (some ⟨yb,0,none⟩),.pointer (some ⟨sb,0,none⟩)] w
  (RetV fun v w'=>∃ B u,v=.func (.func 126) #[] #[.pointer (some ⟨B,0,none⟩)]∧w'.heap[B]?=some (.cells #[u] 49 (0,0))∧w'.ownsRow w.heap.size 70 4 u (movesP s x).length (mvC (movesP s x))∧Frm [] w w'):=by
 have C1:=Lib.hid (pCheck_any s yb fb sb x w h hx)
 have C2:=Lib.hid (pmoves_own s yb fb sb x w h hx)
 clear h hx
 go_enter Tryz.func33,Tryz.ntmps33
 go_wp2_with (first
  | (go_at_call 61;go_must (refine C1.out.mono ?_;rintro e w' ⟨rfl,rfl⟩))
  | (go_at_call 63;go_must (refine C2.out.mono ?_;rintro e w1 ⟨v,rfl,ha,hf⟩;obtain⟨ao,cq,rfl⟩:=own_shape ha;have HA:=Lib.hid ha;have HF:=Lib.hid hf;have C3:=Lib.hid (alMove_any _ (movesP s x) w1 (mv_arr ha));clear ha hf))
  | (go_at_call 75;go_must (refine C3.out.mono ?_;rintro e w2 ⟨v,rfl,rfl,ha,hf⟩;have HB:=Lib.hid ha;have HG:=Lib.hid hf;clear ha hf)))
 go_ret
 exact⟨_,rfl,_,_,rfl,HB.out.b,HG.out.owns HA.out (by simp),HF.out.trans HG.out⟩
end Go.Proofs.YtemjlpahohmajaaGreat
