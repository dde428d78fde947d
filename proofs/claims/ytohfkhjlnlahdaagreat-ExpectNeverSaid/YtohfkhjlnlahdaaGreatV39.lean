/- Part of the proof. -/
import Derived.Test.YtohfkhjlnlahdaaGreatV30
import Derived.Test.YtohfkhjlnlahdaaGreatV22
import Derived.Test.YtohfkhjlnlahdaaGreatV34
set_option linter.all false
namespace Go.Proofs.YtohfkhjlnlahdaaGreat
open Go.RowKit Go.BigFrame
abbrev kR (s:SesD) (x:PS) (i:Nat):List UInt8:=cat (keyRole x) i
theorem two_len (l:List Int):(l.flatMap two).length=l.length * 2:=by
 induction l with
 | nil=>rfl
 | cons v l ih=>rw[List.flatMap_cons,List.length_append,ih];simp[two];omega
theorem kR_len {s:SesD} {x:PS} (hs:SesOk s) (hx:PSok s x) {i:Nat} (hi:i≤s.roles.length):(kR s x i).length≤100:=by
 have h1:=cat_len (n:=i) (f:=keyRole x) (c:=9) (fun k hk=>by
  have h1:=(hx.vb k (by omega)).1
  have h2:=(hs.at (show k < s.roles.length by omega)).c4
  unfold keyRole
  rw[List.length_cons,two_len];omega)
 have:=hs.n4
 show (cat (keyRole x) i).length≤100
 omega
def ctB (l:List (CtrD × Int)):List UInt8:=l.flatMap fun c=>two c.2
theorem ctB_ctr {s:SesD} {x:PS} (hx:PSok s x) {i:Nat} (hi:i < s.roles.length):keyRole x i=UInt8.ofNat (x.at i) :: ctB (x.ctr s i):=by
 unfold keyRole ctB PS.ctr
 have h1:=(hx.vb i hi).1
 have:∀ (A:List CtrD) (B:List Int),B.length=A.length→B.flatMap two=(A.zip B).flatMap fun c=>two c.2:=by
  intro A
  induction A with
  | nil=>intro B h;rw[List.length_eq_zero_iff.1 h];rfl
  | cons a A ih =>
    intro B h
    cases B with
    | nil=>simp at h
    | cons b B=>rw[List.zip_cons_cons,List.flatMap_cons,List.flatMap_cons,ih B (by simpa using h)]
 rw[this _ _ h1]
theorem ctB_snoc (l:List (CtrD × Int)) (c:CtrD × Int):ctB (l ++ [c])=ctB l ++ two c.2:=by unfold ctB;rw[List.flatMap_append];simp
theorem ctB_len (l:List (CtrD × Int)):(ctB l).length=l.length * 2:=by
 induction l with
 | nil=>rfl
 | cons v l ih=>show (two v.2 ++ ctB l).length=_;rw[List.length_append,ih];simp[two];omega
theorem ctr_vals {s:SesD} {x:PS} (hs:SesOk s) (hx:PSok s x) {i:Nat} (hi:i < s.roles.length):∀ c∈x.ctr s i,0≤c.2∧c.2≤1000:=by
 intro c hc
 obtain⟨k,hk⟩:=List.getElem?_of_mem hc
 unfold PS.ctr at hk
 rw[List.getElem?_zip_eq_some] at hk
 have h1:=(hx.vb i hi).2 k _ hk.1
 have h2:=(hs.at hi).cN _ (List.mem_of_getElem? hk.1)
 rw[List.getD_eq_getElem?_getD,hk.2] at h1
 simp only[Option.getD_some] at h1
 omega
abbrev wRow (s:SesD) (x:PS) (a:Nat):List UInt8:=cat (keyWay s x a) s.roles.length
abbrev uL (l:List UInt8):List Value:=l.map u8
theorem two_u8 {v:Int} (h0:0≤v) (h1:v≤65535):(two v).map u8=[.int .u8 (v / 256),.int .u8 (v % 256)]:=by
 have:=two_wrap h0 h1
 unfold two
 rw[List.map_cons,List.map_cons,List.map_nil,this.1,this.2]
theorem u8c (n:Nat) (h:n < 256):[Value.int .u8 (n:Int)]=[UInt8.ofNat n].map u8:=by rw[List.map_cons,at_wrap h];rfl
theorem uLc (n:Nat) (h:n < 256):uL [UInt8.ofNat n]=[Value.int .u8 (n:Int)]:=(u8c n h).symm
theorem kW_len {s:SesD} {x:PS} (hs:SesOk s) (hx:PSok s x) {a c:Nat} (ha:a < s.roles.length) (hc:c < s.roles.length):(keyWay s x a c).length≤133:=by
 unfold keyWay
 split
 ·simp
 ·have h1:=hx.wb a c ha hc
  have h2:=keyB_size (keyL s.cls (x.way a c)) (fun m hm=>(h1.2 m (keyL_mem hm)).2)
  rw[keyL_length] at h2
  have h3:(byt (keyB (keyL s.cls (x.way a c)))).length=(keyB (keyL s.cls (x.way a c))).size:=by unfold byt;simp
  have:=hs.k4
  rw[List.length_cons,h3];omega
theorem kRow_len {s:SesD} {x:PS} (hs:SesOk s) (hx:PSok s x) {a c:Nat} (ha:a < s.roles.length) (hc:c≤s.roles.length):(cat (keyWay s x a) c).length≤532:=by
 have h1:=cat_len (n:=c) (f:=keyWay s x a) (c:=133) (fun k hk=>kW_len hs hx ha (by omega))
 have:=hs.n4
 omega
theorem kRows_len {s:SesD} {x:PS} (hs:SesOk s) (hx:PSok s x) {a:Nat} (ha:a≤s.roles.length):(cat (fun a=>cat (keyWay s x a) s.roles.length) a).length≤2128:=by
 have h1:=cat_len (n:=a) (f:=fun a=>cat (keyWay s x a) s.roles.length) (c:=532) (fun k hk=>kRow_len hs hx (by omega) (Nat.le_refl _))
 have:=hs.n4
 omega
theorem key_end {w W:World} {ds:List Nat} {b:ByteArray} {fn:Func} {tmps:Array Value} (hf:Frm [] w W) (hm:Ms w ds W) (hr:∀ V:World,(results fn tmps).run Tryz.prog V=.ok (.string b) V) :
  LeavesInM Fence.wide 3 Tryz.prog fn tmps (RetV fun v w'=>v=.string b∧Frm [] w w') (marks ds) .returning W:=
 leaves_many ds W hm.nd (fun D hD=>(hm.dl D hD).2) ⟨_,hr _,_,rfl,rfl,hf.then (unmark_frm ds W) (fun D hD=>.inr (hm.dl D hD).1)⟩
attribute [local go_sem] Oper.semAt_some
set_option maxHeartbeats 8000000 in
set_option maxRecDepth 100000 in
theorem pKey_any (s:SesD) (yb fb sb:Nat) (x:PS) (w:World) (h:SyR w s yb fb) (hx:StR w s yb sb x) :
  Calls Tryz.prog 48 #[.pointer (some ⟨sb,0,none⟩)] w (RetV fun v w'=>v=.string ⟨(keyP s x).toArray⟩∧Frm [] w w'):=by
 have HSY:=Lib.hid h;have HST:=Lib.hid hx
 have CN:=Lib.hid (pSnone_any s yb sb x w hx)
 obtain⟨n,hn⟩:∃ n,s.roles.length=n:=⟨_,rfl⟩
 obtain⟨av,wv,h1,h2,h3⟩:=hx.out
 obtain⟨ra,rc,rfl⟩:=h2.shape
 obtain⟨rwy,rcw,rfl⟩:=h3.shape
 rw[actsP_len,hx.ok.wl,hn] at h1
 have y1:=cell_of h1 1
 have hl0:=lt_of_block h1
 have HY1:Hid (∀ V,Frm [] w V→V.cell? ⟨sb,1,none⟩=some (.slice ra n rc)∧V.cell? ⟨sb,2,none⟩=some (.slice rwy n rcw)):=Lib.hid fun V hV=>⟨hV.keep y1,hV.keep (cell_of h1 2)⟩
 have HN:=Lib.hid hn
 have hn4:n≤4:=by rw[← hn];exact h.ok.n4
 have HWI:Hid (∀ i:Nat,i < n→wrap64 ((i:Int) + 1)=((i + 1:Nat):Int)):=Lib.hid fun i hi=>by unfold wrap64;omega
 clear h h1 h2 h3 hx hn hn4
 refine calls_of_marks Tryz.func48 rfl ?_
 simp only[Tryz.ntmps48,List.size_toArray,List.length_cons,List.length_nil,Nat.reduceAdd,Nat.reduceSub,Array.replicate_succ,Array.replicate_zero,List.push_toArray,List.append_toArray,List.nil_append,List.cons_append]
 go_wp2_with (go_at_call 101;go_must (refine CN.out.mono ?_;rintro e w' ⟨rfl,rfl⟩))
 have HM0:Hid (YB w w.heap.size [] (w.alloc (.cells #[.slice none 0 0] 26))):=Lib.hid (BO.made w _ _ _ ((Frm.refl [] w).alloc _) (Nat.le_refl _) (heap_alloc_new _ _))
 clear y1
 refine wp_loop (fun a' w'=>∃ ds,∃ u5 u6 u7 u19 u20 u21 u22 u23 u24 u25 u26 u27 u28 u29 u30 u31 u32 u33 u34 u35 u36 u37 u38 u39 u40 u41 u42:Value,(fun ds u19 w'=>∃ i:Nat,u19=.int .i64 (i:Int)∧i≤n∧YB w w.heap.size (kR s x i) w'∧Ms w ds w') ds u19 w'∧a'={ tmps:=#[.pointer (some ⟨sb,0,none⟩),undef,.string ⟨#[]⟩,.pointer (some ⟨w.heap.size,0,none⟩),undef,u5,u6,u7,undef,undef,undef,undef,.pointer (some ⟨sb,0,none⟩),.bool false,.pointer (some ⟨sb,0,none⟩),.pointer (some ⟨sb,0,none⟩),.pointer (some ⟨sb,1,none⟩),.slice ra n rc,.int .i64 (n:Int),u19,u20,u21,u22,u23,u24,u25,u26,u27,u28,u29,u30,u31,u32,u33,u34,u35,u36,u37,u38,u39,u40,u41,u42,undef,undef,undef,undef,undef,undef,undef,undef,undef,undef,undef,undef,undef,undef,undef,undef,undef,undef,undef,undef,undef,undef,undef,undef,undef,undef,undef,undef,undef,undef,undef,undef,undef],defers:=marks ds }) (fun a' _=>n - (intOf (a'.tmps.getD 19 undef)).toNat) ?_ ?_
 ·refine⟨[],?_⟩
  (repeat apply Exists.intro)
  exact⟨⟨0,rfl,Nat.zero_le _,HM0.out,Ms.nil _ _⟩,rfl⟩
 intro a' wr hinv
 obtain⟨ds,hinv⟩:=hinv
 obtain⟨u5,hinv⟩:=hinv
 obtain⟨u6,hinv⟩:=hinv
 obtain⟨u7,hinv⟩:=hinv
 obtain⟨u19,hinv⟩:=hinv
 obtain⟨u20,hinv⟩:=hinv
 obtain⟨u21,hinv⟩:=hinv
 obtain⟨u22,hinv⟩:=hinv
 obtain⟨u23,hinv⟩:=hinv
 obtain⟨u24,hinv⟩:=hinv
 obtain⟨u25,hinv⟩:=hinv
 obtain⟨u26,hinv⟩:=hinv
 obtain⟨u27,hinv⟩:=hinv
 obtain⟨u28,hinv⟩:=hinv
 obtain⟨u29,hinv⟩:=hinv
 obtain⟨u30,hinv⟩:=hinv
 obtain⟨u31,hinv⟩:=hinv
 obtain⟨u32,hinv⟩:=hinv
 obtain⟨u33,hinv⟩:=hinv
 obtain⟨u34,hinv⟩:=hinv
 obtain⟨u35,hinv⟩:=hinv
 obtain⟨u36,hinv⟩:=hinv
 obtain⟨u37,hinv⟩:=hinv
 obtain⟨u38,hinv⟩:=hinv
 obtain⟨u39,hinv⟩:=hinv
 obtain⟨u40,hinv⟩:=hinv
 obtain⟨u41,hinv⟩:=hinv
 obtain⟨u42,hinv⟩:=hinv
 obtain⟨hrel,ha⟩:=hinv
 subst ha
 try dsimp only
 clear HM0
 obtain⟨i,rfl,hi,hmb,hms⟩:=hrel
 have HM:=Lib.hid hmb;have HMS:=Lib.hid hms
 clear hmb hms
 by_cases hlt:i < n
 ·have hlt':(i:Int) < (n:Int):=by omega
  have hin:i < s.roles.length:=by rw[HN.out];exact hlt
  obtain⟨ab,ao,cap,bb,y1,hac⟩:=HST.out.act hin
  have HIN:=Lib.hid hin
  rw[HN.out] at y1
  have y1':=(HY1.out w (Frm.refl _ _)).1
  rw[y1] at y1'
  simp only[Option.some.injEq,Value.slice.injEq,true_and] at y1'
  obtain⟨rfl,rfl⟩:=y1'
  have HAC:=Lib.hid (hac.frm HM.out.fr)
  obtain⟨p,hp⟩:∃ p,x.at i=p:=⟨_,rfl⟩
  have hpb:p < 24:=by have:=HST.out.ok.pb i hin;have:=(HSY.out.ok.at hin).s24;omega
  rw[hp] at HAC
  have d0:=HAC.out.c0
  have d1:=HAC.out.c1
  obtain⟨L0,hL0⟩:∃ L0,kR s x i=L0:=⟨_,rfl⟩
  rw[hL0] at HM
  have HL0:=Lib.hid hL0
  have hlen:L0.length≤100:=by rw[← hL0];exact kR_len HSY.out.ok HST.out.ok (by omega)
  obtain⟨aob,cpb,hb1,hb2⟩:=HM.out.bx
  have cx:=cell_of hb1 0
  have HB1:=Lib.hid hb1;have HB2:=Lib.hid hb2
  have hw8:IntKind.u8.wrap (p:Int)=(p:Int):=wrap_small (by omega) (by omega)
  have hac0:=HST.out.act hin
  have HBK:Hid (∀ V,Frm [] w V→Bnk V bb (x.ctr s i)):=Lib.hid fun V hV=>hac.bnk.frm hV
  obtain⟨l,hl⟩:∃ l,x.ctr s i=l:=⟨_,rfl⟩
  have hl4:l.length≤4:=by
   rw[← hl]
   have h1:=(HSY.out.ok.at hin).c4
   unfold PS.ctr
   rw[List.length_zip];omega
  have HCV:Hid (∀ c∈l,0≤c.2∧c.2≤1000):=Lib.hid (by rw[← hl];exact ctr_vals HSY.out.ok HST.out.ok hin)
  have HKR:Hid (kR s x (i + 1)=L0 ++ ([UInt8.ofNat p] ++ ctB l)):=Lib.hid (by
   show cat (keyRole x) i ++ keyRole x i=_
   rw[ctB_ctr HST.out.ok hin,hp,hl,← hL0];rfl)
  rw[hl] at HBK
  have HL4:=Lib.hid hl4
  clear hin hac hac0 hp hL0 hb1 hb2 y1 hl HAC hl4
  obtain⟨V0,hV0⟩:∃ V0,wr.alloc (.cells #[.int .i64 (p:Int),.pointer (some ⟨bb,0,none⟩)] 143)=V0:=⟨_,rfl⟩
  have F0:Hid (Frm [] wr V0):=Lib.hid (by rw[← hV0];exact(Frm.refl [] wr).alloc _)
  have Q5:Hid (V0.heap[wr.heap.size]?=some (.cells #[.int .i64 (p:Int),.pointer (some ⟨bb,0,none⟩)] 143 (0,0))):=Lib.hid (by rw[← hV0];exact alloc_top rfl)
  have M0:=Lib.hid (HM.out.frm F0.out)
  have MS0:=Lib.hid (HMS.out.frm F0.out)
  obtain⟨i0,hi0,hz0,hz1,hz2⟩:=info_parts Tryz.info5
  replace cx:=F0.out.keep cx
  have q0:=cell_of Q5.out 0
  have HB1':=Lib.hid (F0.out.at HB1.out (by simp))
  have HB2':=Lib.hid (F0.out.owns HB2.out (by simp))
  have hsz:w.heap.size≤(V0.alloc (.cells #[.int .u8 (p:Int)] 5)).heap.size:=by have:=M0.out.fr.size;simp;omega
  have hpb':p < 256:=by omega
  go_upto_region 8 with (at_builtin;refine wpList_append_own_at _ rfl _ _ 26 rfl w.heap.size 5 i0 (.int .u8 0) 1 1 Tryz.underlying26 hi0 hz0 hz1 hz2 rfl (by decide) (.slice aob L0.length cpb) L0.length (L0.map u8) rfl (HB2'.out.alloc _) ⟨V0.heap.size,0,none⟩ 1 1 ([UInt8.ofNat p].map u8) rfl rfl (by rw[← u8c p hpb'];exact new_row _ _ _) (by simp[u8,Value.oneCell']) (by unfold maxLen;omega) (by omega) hsz ?_;intro v' w6 hown' hgrow _ _;obtain⟨ao',cp',rfl⟩:=own_shape hown';have hbx:=BO.facts HB1'.out HB2'.out (by decide) hgrow;have cx6:=cell_of hbx 0;have fx6:=free_of hbx 0;have HG:=Lib.hid hgrow;have HO:=Lib.hid hown';clear hgrow hown' hbx cx)
  have h9:=YB.add (M:=[UInt8.ofNat p]) M0.out HB1'.out HB2'.out HG.out rfl HO.out
  obtain⟨W6,hW6⟩:∃ W6,w6.setCell ⟨w.heap.size,0,none⟩ (.slice ao' (L0.length + 1) cp')=W6:=⟨_,rfl⟩
  try rw[hW6] at h9 ⊢
  have M6:=Lib.hid h9.1
  have MS6:=Lib.hid (MS0.out.kt h9.2)
  have Q56:=Lib.hid (h9.2.cells Q5.out (by decide))
  have q1:=cell_of Q56.out 1
  have CB:=Lib.hid (bCounters_any bb l W6 (HBK.out W6 M6.out.fr) (by have:=HL4.out;omega))
  clear h9 hW6 HG HO HB1 HB2 HB1' HB2' M0 MS0 cx6 fx6 HBK hw8 hsz
  go_wp2_with (first
   | (go_at_call 102;go_must (refine CB.out.mono ?_;rintro e w5 ⟨v,rfl,⟨B,lv,rfl,hcr⟩⟩;have HCR:=Lib.hid hcr;clear hcr)))
  have f5:=HCR.out.2.1
  have hit:=bc_iter B lv l (by have:=HL4.out;omega)
  have M5:=Lib.hid (M6.out.frm f5)
  have MS5:=Lib.hid (MS6.out.frm f5)
  clear f5 CB q1
  obtain⟨L1,hL1⟩:∃ L1,L0 ++ [UInt8.ofNat p]=L1:=⟨_,rfl⟩
  rw[hL1] at M5
  have hlen1:L1.length≤101:=by rw[← hL1,List.length_append];simp;omega
  have HLen1:=Lib.hid hlen1;have HL1:=Lib.hid hL1
  clear hlen1 hL1 hlen
  refine wp_rangeList rfl (enters_of Tryz.func153 (by kernel_rfl) rfl) hit (fun _=>rfl) (fun pre W=>YB w w.heap.size (L1 ++ ctB pre) W∧Kt byT w5 W) (fun _ _ _=>False) (fun _ _ _ h hb=>⟨h.1.bk hb M5.out.fr.size,h.2.bk hb⟩) (fun _ _ _ _ h _=>h) (fun _ W h=>HCR.out.1.kt h.2) ⟨by rw[show ctB []=[] from rfl,List.append_nil];exact M5.out,Kt.refl _ _⟩ ?_ ?_ (fun _ _ _ _ _ _ _ _ h=>h.elim)
  ·intro l0 pre y rest Wr hxs hI hl hlr
   have hpl:pre.length < 4:=by
    have h1:=HL4.out
    rw[hxs,List.length_append,List.length_cons] at h1;omega
   have hyv:=HCV.out y (by rw[hxs];simp)
   have HI:=Lib.hid hI
   clear hI hlr hl hxs
   obtain⟨yc,yv⟩:=y
   simp only at hyv
   gi_wp2
   refine⟨KB.refl _,fun Wq hbk _=>?_⟩
   have HI2:=Lib.hid (⟨HI.out.1.bk hbk M5.out.fr.size,HI.out.2.bk hbk⟩:YB w w.heap.size (L1 ++ ctB pre) Wq∧Kt byT w5 Wq)
   have HSN:=Lib.hid (ctB_snoc pre (yc,yv))
   have hlen:(L1 ++ ctB pre).length≤200:=by
    have:=HLen1.out
    rw[List.length_append,ctB_len];omega
   obtain⟨L2,hL2⟩:∃ L2,L1 ++ ctB pre=L2:=⟨_,rfl⟩
   rw[hL2] at HI2 hlen
   have HL2:=Lib.hid hL2
   obtain⟨ao,cp,hb1,hb2⟩:=HI2.out.1.bx
   have cx:=cell_of hb1 0
   have HB1:=Lib.hid hb1;have HB2:=Lib.hid hb2
   clear hbk hb1 hb2 hL2
   obtain⟨i0,hi0,hz0,hz1,hz2⟩:=info_parts Tryz.info5
   have hTW:(two yv).map u8=[.int .u8 (yv / 256),.int .u8 (yv % 256)]:=two_u8 hyv.1 (by omega)
   have hsz:w.heap.size≤(Wq.alloc (.cells #[.int .u8 (yv / 256),.int .u8 (yv % 256)] 5)).heap.size:=by have:=HI2.out.1.fr.size;simp;omega
   gi_wp2_with (gi_at_builtin;refine wpListIn_append_own _ rfl _ _ 26 rfl w.heap.size 5 i0 (.int .u8 0) 1 1 Tryz.underlying26 hi0 hz0 hz1 hz2 rfl (by decide) (.slice ao L2.length cp) L2.length (L2.map u8) rfl (HB2.out.alloc _) ⟨Wq.heap.size,0,none⟩ 2 2 ((two yv).map u8) rfl rfl (by rw[hTW];exact new_row _ _ _) (by intro u hu;obtain⟨x,-,rfl⟩:=List.mem_map.1 hu;rfl) (by unfold maxLen;omega) (by omega) hsz ?_;intro v' w6 hown' hgrow _;obtain⟨ao',cp',rfl⟩:=own_shape hown';have hbx:=BO.facts HB1.out HB2.out (by decide) hgrow;have cx6:=cell_of hbx 0;have fx6:=free_of hbx 0;have HG:=Lib.hid hgrow;have HO:=Lib.hid hown';clear hgrow hown' hbx cx)
   have h9:=YB.add (M:=two yv) HI2.out.1 HB1.out HB2.out HG.out rfl HO.out
   refine⟨h9.2.kb,?_⟩
   show YB w w.heap.size (L1 ++ ctB (pre ++ [(yc,yv)])) _∧Kt byT w5 _
   rw[HSN.out,← List.append_assoc,HL2.out]
   exact⟨h9.1,HI2.out.2.trans h9.2⟩
  ·intro D W hD hI hK
   have HID:=Lib.hid hI;have HKD:=Lib.hid hK;have HDD:=Lib.hid hD
   clear hI hK hD hit
   go_wp2
   refine⟨⟨D :: ds,?_⟩,?_⟩
   ·(repeat apply Exists.intro)
    exact⟨⟨i + 1,congrArg (Value.int .i64) (HWI.out i hlt),hlt,by rw[HKR.out,← List.append_assoc,HL1.out];exact HID.out.1,MS5.out.more M5.out.fr.size HID.out.2 HDD.out HKD.out⟩,rfl⟩
   ·exact meas_up hlt (HWI.out i hlt)
 ·obtain rfl:i=n:=by omega
  have hge:¬ (i:Int) < (i:Int):=by omega
  have hn4:i≤4:=by have:=HSY.out.ok.n4;rw[HN.out] at this;exact this
  obtain⟨y1,y2⟩:=HY1.out wr HM.out.fr
  have HM0:Hid (YB w w.heap.size (kR s x i ++ cat (wRow s x) 0) wr):=Lib.hid (by rw[show cat (wRow s x) 0=[] from rfl,List.append_nil];exact HM.out)
  go_wp2
  clear y1 y2
  go_loopw [48] (fun s48 wl=>∃ a:Nat,s48=.int .i64 a∧a≤i∧YB w w.heap.size (kR s x i ++ cat (wRow s x) a) wl∧Ms w ds wl) (fun s48 _=>i - (intOf s48).toNat)
  case atStart=>exact⟨0,rfl,Nat.zero_le _,HM0.out,HMS.out⟩
  case round =>
   clear HM0 HM HMS
   obtain⟨a,rfl,ha,hmb,hms⟩:=hrel
   have HM:=Lib.hid hmb;have HMS:=Lib.hid hms
   clear hmb hms
   obtain⟨w1,hw1⟩:∃ w1,w1=wr:=⟨_,rfl⟩
   subst hw1
   by_cases hlta:a < i
   ·have hlta':(a:Int) < (i:Int):=by omega
    have hia:a < s.roles.length:=by rw[HN.out];exact hlta
    have HIA:=Lib.hid hia
    have h0:0 < s.roles.length:=by omega
    obtain⟨gb,go',cw,rb,ro,c2,cb0,x2,hw⟩:=HST.out.way hia h0
    clear hia h0
    rw[HN.out] at x2
    have y1':=(HY1.out w (Frm.refl _ _)).2
    rw[x2] at y1'
    simp only[Option.some.injEq,Value.slice.injEq,true_and] at y1'
    obtain⟨rfl,rfl⟩:=y1'
    have g0:=HM.out.fr.keep hw.c0
    rw[HN.out] at g0
    have HG0:=Lib.hid hw.c0
    clear x2 hw
    have HM0:Hid (YB w w.heap.size (kR s x i ++ (cat (wRow s x) a ++ cat (keyWay s x a) 0)) w1):=Lib.hid (by rw[show cat (keyWay s x a) 0=[] from rfl,List.append_nil];exact HM.out)
    have HE:Hid (cat (wRow s x) (a + 1)=cat (wRow s x) a ++ cat (keyWay s x a) i):=Lib.hid (by rw[← HN.out];rfl)
    go_wp2
    clear g0
    go_loopw [55] (fun s55 wl=>∃ c:Nat,s55=.int .i64 c∧c≤i∧YB w w.heap.size (kR s x i ++ (cat (wRow s x) a ++ cat (keyWay s x a) c)) wl∧Ms w ds wl) (fun s55 _=>i - (intOf s55).toNat)
    case atStart=>exact⟨0,rfl,Nat.zero_le _,HM0.out,HMS.out⟩
    case round =>
     clear HM0 HM HMS
     obtain⟨c,rfl,hc,hmb,hms⟩:=hrel
     have HM:=Lib.hid hmb;have HMS:=Lib.hid hms
     clear hmb hms
     by_cases hltc:c < i
     ·have hltc':(c:Int) < (i:Int):=by omega
      have hic:c < s.roles.length:=by rw[HN.out];exact hltc
      have HEC:Hid (kR s x i ++ (cat (wRow s x) a ++ cat (keyWay s x a) (c + 1))=(kR s x i ++ (cat (wRow s x) a ++ cat (keyWay s x a) c)) ++ keyWay s x a c):=Lib.hid (by
       rw[show cat (keyWay s x a) (c + 1)=cat (keyWay s x a) c ++ keyWay s x a c from rfl]
       simp only[List.append_assoc])
      have hLen:(kR s x i ++ (cat (wRow s x) a ++ cat (keyWay s x a) c)).length≤100000:=by
       have a1:=kR_len HSY.out.ok HST.out.ok (show i≤s.roles.length by rw[HN.out];exact Nat.le_refl _)
       have a2:=kRows_len HSY.out.ok HST.out.ok (show a≤s.roles.length by rw[HN.out];omega)
       have a3:=kRow_len HSY.out.ok HST.out.ok HIA.out (show c≤s.roles.length by rw[HN.out];omega)
       rw[List.length_append,List.length_append]
       exact Nat.le_trans (Nat.add_le_add a1 (Nat.add_le_add a2 a3)) (by decide)
      obtain⟨L0,hL0⟩:∃ L0,kR s x i ++ (cat (wRow s x) a ++ cat (keyWay s x a) c)=L0:=⟨_,rfl⟩
      rw[hL0] at HM HEC hLen
      have HLen:=Lib.hid hLen
      clear hL0 hLen
      obtain⟨gb2,go2,cw2,rb2,ro2,c22,cb,x22,hw⟩:=HST.out.way HIA.out hic
      have e1:=(HY1.out w (Frm.refl _ _)).2
      rw[HN.out] at x22
      rw[x22] at e1
      simp only[Option.some.injEq,Value.slice.injEq,Addr.mk.injEq,true_and,and_true] at e1
      obtain⟨⟨rfl,rfl⟩,rfl⟩:=e1
      have e2:=HG0.out
      rw[hw.c0] at e2
      simp only[Option.some.injEq,Value.slice.injEq,Addr.mk.injEq,true_and,and_true] at e2
      obtain⟨⟨rfl,rfl⟩,rfl⟩:=e2
      obtain⟨F,hch⟩:=hw.chn
      have g1:=HM.out.fr.keep hw.c1
      have HCH:=Lib.hid (hch.frm HM.out.fr (by simp))
      have HCW:Hid (∀ V,Frm [] w V→Chn V cb s.cls s.cap (x.way a c) F):=Lib.hid fun V hV=>hch.frm hV (by simp)
      have HIC:=Lib.hid hic
      clear hch hw x22 hic
      by_cases hac:a=c
      ·have HSM:Hid (keyWay s x a c=[]):=Lib.hid (by unfold keyWay;rw[if_pos hac])
       subst hac
       go_wp2
       exact⟨⟨a + 1,congrArg (Value.int .i64) (by omega),hltc,by rw[HEC.out,HSM.out,List.append_nil];exact HM.out,HMS.out⟩,by simp[intOf];omega⟩
      ·obtain⟨LL,hLL⟩:∃ LL,x.way a c=LL:=⟨_,rfl⟩
       have HSM:Hid (keyWay s x a c=[UInt8.ofNat LL.length] ++ byt (keyB (keyL s.cls LL))):=Lib.hid (by unfold keyWay;rw[if_neg hac,hLL];rfl)
       rw[hLL] at HCH HCW
       have hac':¬ (a:Int)=(c:Int):=by omega
       have qne:((a:Int) == (c:Int))=false:=by simpa using hac'
       clear hac
       obtain⟨aob,cpb,hb1,hb2⟩:=HM.out.bx
       have cx:=cell_of hb1 0
       have HP0:Hid (YP w wr w.heap.size (.slice aob L0.length cpb) (.slice aob L0.length cpb) L0 wr):=Lib.hid ⟨HM.out.fr,hb1,hb2,Kt.refl _ _⟩
       have hll:=(HST.out.ok.wb a c HIA.out HIC.out)
       rw[hLL] at hll
       have hk4:=HSY.out.ok.k4
       have hll4:LL.length≤4:=by omega
       have hks:(keyB (keyL s.cls LL)).size≤200:=by
        have h1:=keyB_size (keyL s.cls LL) (fun m hm=>(hll.2 m (keyL_mem hm)).2)
        rw[keyL_length] at h1;omega
       have hwr:IntKind.u8.wrap (LL.length:Int)=(LL.length:Int):=wrap_small (by omega) (by omega)
       obtain⟨KB0,hKB⟩:∃ KB0,keyB (keyL s.cls LL)=KB0:=⟨_,rfl⟩
       rw[hKB] at HSM hks
       have CLn:Hid (∀ V,Frm [] wr V→Calls Tryz.prog 103 #[.pointer (some ⟨cb,0,none⟩)] V (Ret (.int .i64 LL.length) (Frm [] V))):=Lib.hid fun V hV=>len_any (HCH.out.frm hV (by simp))
       have CKy:Hid (∀ V,Frm [] w V→Calls Tryz.prog 104 #[.pointer (some ⟨cb,0,none⟩)] V (Ret (.string KB0) (Frm [] V))):=Lib.hid fun V hV=>by rw[← hKB];exact key_any _ _ _ _ _ _ (HCW.out V hV)
       obtain⟨m,hm⟩:∃ m,LL.length=m:=⟨_,rfl⟩
       rw[hm] at hwr HSM CLn hll4
       have hm256:m < 256:=by omega
       obtain⟨i0,hi0,hz0,hz1,hz2⟩:=info_parts Tryz.info5
       have hlen:=HLen.out
       clear hll hk4 hLL hKB hm hll4 hb1 hb2 HCH HCW
       go_upto_region 19 with fail
       generalize hQQ:Exit.inBlock _ _=QQ
       refine wp_mono (Q:=fun e a' w'=>match e with | .normal=>QQ .normal a' w' | _=>False) ?_ (fun e a' w' h=>by cases e <;> first | exact h | exact h.elim)
       go_region_law (first
        | (go_simp;go_at_call 103;go_must (refine(CLn.out _ (Frm.refl [] wr).drew).mono ?_;rintro e w5 ⟨rfl,hf5⟩;have F5:Hid (Frm [] wr w5):=Lib.hid ((Frm.refl [] wr).drew.trans hf5);have cx5:=F5.out.keep cx;have HP5:=Lib.hid ((HP0.out.frm F5.out).frm ((Frm.refl [] w5).alloc (.cells #[.int .u8 (m:Int)] 5)));have cx5b:=cell_of HP5.out.b 0;clear hf5))
        | (go_simp;go_at_call 104;go_must (refine(CKy.out _ HP6.out.f).mono ?_;rintro e w7 ⟨rfl,hf7⟩;have HP7:=Lib.hid (HP6.out.frm hf7);clear hf7))
        | (refine step_append_own_at rfl _ _ 26 rfl w.heap.size 5 i0 (.int .u8 0) 1 1 Tryz.underlying26 hi0 hz0 hz1 hz2 rfl (by decide) (.slice aob L0.length cpb) L0.length (uL L0) ?_ HP5.out.o ⟨w5.heap.size,0,none⟩ 1 1 (uL [UInt8.ofNat m]) ?_ rfl (by rw[uLc m hm256];exact new_row _ _ _) ?_ ?_ ?_ ?_ ?_;(focus (go_simp;done));(focus (go_simp;done));(focus (intro u hu;obtain⟨x,-,rfl⟩:=List.mem_map.1 hu;rfl));(focus (unfold maxLen;omega));(focus omega);(focus exact HP5.out.f.size);intro v' w6 hown' hgrow;obtain⟨ao6,cp6,rfl⟩:=own_shape hown';have HP6:=Lib.hid (HP5.out.grow (l:=[UInt8.ofNat m]) hgrow (by rw[List.length_append,List.map_append];exact hown'));clear hown' hgrow)
        | (refine step_app_str rfl _ _ rfl w.heap.size (.slice ao6 (L0.length + 1) cp6) KB0 ?_ ?_ (L0 ++ [UInt8.ofNat m]) HP7.out.o ?_ HP7.out.f.size ?_;(focus (go_simp;done));(focus (go_simp;done));(focus (rw[List.length_append];simp;omega));intro ao8 cp8 w8 hown' hgrow;have HP8:=Lib.hid (HP7.out.grow (l:=byt KB0) hgrow hown');have cx8:=cell_of HP8.out.b 0;have fx8:=free_of HP8.out.b 0;clear hown' hgrow))
       all_goals
        subst hQQ
        go_wp2
        have h9:=HP8.out.fin HM.out.new
        have e9:((L0 ++ [UInt8.ofNat m]) ++ byt KB0).length=L0.length + ((byt KB0).length + 1):=by simp
        rw[e9] at h9
        exact⟨⟨c + 1,congrArg (Value.int .i64) (by omega),hltc,by rw[HEC.out,HSM.out,← List.append_assoc];exact h9.1,HMS.out.kt h9.2⟩,by simp[intOf];omega⟩
     ·obtain rfl:c=i:=by omega
      go_wp2
      exact⟨⟨a + 1,congrArg (Value.int .i64) (by omega),hlta,by rw[HE.out];exact HM.out,HMS.out⟩,by simp[intOf];omega⟩
   ·obtain rfl:a=i:=by omega
    obtain⟨L,hL⟩:∃ L,kR s x a ++ cat (wRow s x) a=L:=⟨_,rfl⟩
    have HLM:Hid (keyP s x=L):=Lib.hid (by rw[← hL,← HN.out];rfl)
    rw[hL] at HM
    obtain⟨ao,cp,hb1,hb2⟩:=HM.out.bx
    have cx:=cell_of hb1 0
    have HB2:=Lib.hid hb2
    have hne:L.length≠0:=by
     have h2:=HSY.out.ok.n2
     rw[HN.out] at h2
     obtain⟨m,rfl⟩:∃ m,a=m + 1:=⟨a - 1,by omega⟩
     rw[← hL,List.length_append,show kR s x (m + 1)=kR s x m ++ keyRole x m from rfl,List.length_append]
     unfold keyRole
     rw[List.length_cons]
     omega
    have hconv:=conv_own hb2 hne
    clear hb1 hb2 hL
    go_wp2
    rw[HLM.out]
    exact key_end HM.out.fr HMS.out (fun V=>by simp[results,Tryz.results48,go_sem])
end Go.Proofs.YtohfkhjlnlahdaaGreat
