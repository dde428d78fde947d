/- Part of the proof. -/
import Derived.Test.YtemjlpahohmajaaGreatU51
import Derived.Test.YtemjlpahohmajaaGreatU48
import Derived.Test.YtemjlpahohmajaaGreatU38
set_option linter.all false
namespace Go.Proofs.YtemjlpahohmajaaGreat
open Go.RowKit Go.BigFrame
theorem given36_no {v:Value} {s:SesD} {w:World} (h:SesV w v s) (hs:WfS s) (hg:gvB s=false):Calls Tryz.prog 26 #[v] w (RetV fun u w'=>u=.tuple #[.pointer none,.bool false]∧Frm [] w w'):=
 (given36_any v s w h hs).mono (by
  rintro e w' ⟨u,rfl,hf,⟨-,rfl⟩ | ⟨h1,-⟩⟩
  ·exact⟨_,rfl,rfl,hf⟩
  ·rw[hg] at h1;cases h1)
theorem given36_yes {v:Value} {s:SesD} {w:World} (h:SesV w v s) (hs:WfS s) (hg:gvB s=true):Calls Tryz.prog 26 #[v] w (RetV fun u w'=>∃ yb fb,u=.tuple #[.pointer (some ⟨yb,0,none⟩),.bool true]∧SyR w' s yb fb∧Frm [] w w'):=
 (given36_any v s w h hs).mono (by
  rintro e w' ⟨u,rfl,hf,⟨h1,-⟩ | ⟨-,yb,fb,rfl,hy⟩⟩
  ·rw[hg] at h1;cases h1
  ·exact⟨_,rfl,yb,fb,rfl,hy,hf⟩)
theorem gv_12 {s:SesD} (h:large6B s=false):s.roles.length≤4∧∀ r∈s.roles,r.steps.length≤12:=by
 unfold large6B at h
 simp only[Bool.or_eq_false_iff,decide_eq_false_iff_not,List.any_eq_false] at h
 obtain⟨⟨h1,-⟩,h3⟩:=h
 refine⟨by omega,fun r hr=>?_⟩
 have hb:=h3 r hr
 unfold rolBig6 at hb
 simp only[Bool.or_eq_true,decide_eq_true_eq,List.any_eq_true,not_or,not_exists,not_and] at hb
 obtain⟨⟨⟨⟨b1,b2⟩,b3⟩,b4⟩,b5⟩:=hb
 omega
theorem gv_small {s:SesD} (h:gvB s=true):large6B s=false:=by
 unfold gvB at h
 rw[Bool.and_eq_true] at h
 simpa using h.1
theorem res_tmp4 {fn:Func} {tmps:Array Value} {V:World} {u:Value} (hf:fn.results=#[.tmp 4]) (h:tmps.getD 4 undef=u):(results fn tmps).run Tryz.prog V=.ok u V:=by
 have h':tmps[4]?.getD undef=u:=by simpa using h
 simp[results,hf,h',go_sem]
def sentC (s:SesD) (N:List Nd) (x:Sp) (k:Nat):Bool:=usedP s N x.peer k && (decide (((s.rol x.peer).stp k).kind=1) && (decide (((s.rol x.peer).stp k).msg=x.msg) && decide (((s.rol x.peer).stp k).peer=(s.rol x.role).name)))
def sentB (s:SesD) (N:List Nd) (x:Sp) (i:Nat):Bool:=(List.range i).any (sentC s N x)
theorem sentB_succ (s:SesD) (N:List Nd) (x:Sp) (i:Nat):sentB s N x (i + 1)=(sentB s N x i || sentC s N x i):=by
 unfold sentB
 rw[List.range_succ,List.any_append]
 simp
theorem sentB_found {s:SesD} {m nn:Nat} {x:Sp} (hs:SesOk s) (h:Found s m (searchP s m) nn) (hw:(searchP s m).2=true) (hc:s.cls=2∨s.cap=1) (hx:x∈neverP s) (hb:sentB s (searchP s m).1 x (s.rol x.peer).steps.length=true):(allSp s (searchP s m).1).any (fun e=>decide (e.2=x))=true:=by
 unfold sentB at hb
 rw[List.any_eq_true] at hb
 obtain⟨k,hk,hc9⟩:=hb
 unfold sentC at hc9
 simp only[Bool.and_eq_true,decide_eq_true_eq] at hc9
 obtain⟨j,hj⟩:=uses_found hs h hw hc hx (List.mem_range.1 hk) hc9.2.1 hc9.2.2.1 hc9.2.2.2 hc9.1
 rw[List.any_eq_true]
 exact⟨_,hj,by simp⟩
attribute [local go_sem] Oper.semAt_some
set_option maxHeartbeats 0 in
set_option maxRecDepth 100000 in
theorem euses_any (v:Value) (s:SesD) (lim:Int) (w:World) (h:SesV w v s) (hw:WfS s):Calls Tryz.prog 6 #[v,.int .i64 lim] w (Ret (.bool true) (Frm [] w)):=by
 have HSV:=Lib.hid h
 obtain⟨rv,rfl,hr⟩:=h
 obtain⟨ao,cap,rfl⟩:=hr.shape
 obtain⟨n,hn⟩:∃ n,s.roles.length=n:=⟨_,rfl⟩
 have HNn:=Lib.hid hn
 rw[hn] at HSV ⊢
 obtain⟨W0,hW0⟩:∃ W0,w.alloc (.cells #[.string s.name,.slice ao n cap,.int .i64 s.cls,.int .i64 s.cap] 25)=W0:=⟨_,rfl⟩
 have hf0:Frm [] w W0:=by rw[← hW0];exact(Frm.refl _ _).alloc _
 have HF0:=Lib.hid hf0
 have hb0:W0.heap[w.heap.size]?=some (.cells #[.string s.name,.slice ao n cap,.int .i64 s.cls,.int .i64 s.cap] 25 (0,0)):=by rw[← hW0];exact heap_alloc_new _ _
 have HB0:=Lib.hid (fun V (hV:Frm [] W0 V)=>hV.at hb0 (by simp))
 have CK:Hid (∀ V,Calls Tryz.prog 27 #[] V (Ret (.bool true) (Frm [] V))):=Lib.hid known36_any
 have HE:=Lib.hid hW0
 have HG:=Lib.hid (fun h1=>given36_no (HSV.out.frm hf0) hw h1)
 have HY:=Lib.hid (fun h1=>given36_yes (HSV.out.frm hf0) hw h1)
 clear hr hw hf0 hb0 hW0 hn
 refine calls_of_marks Tryz.func6 rfl ?_
 simp only[Tryz.ntmps6,List.size_toArray,List.length_cons,List.length_nil,Nat.reduceAdd,Nat.reduceSub,Array.replicate_succ,Array.replicate_zero,List.push_toArray,List.append_toArray,List.nil_append,List.cons_append]
 go_upto_region 1 with (first | (refine wpList_box_row rfl 25 _ rfl _ rfl ?_;rw[HE.out]))
 clear HE
 cases hg:gvB s with
 | false =>
   have CG:=Lib.hid (HG.out hg)
   clear hg HG HY
   go_upto_region 2 with (first
    | (refine wpList_load_whole rfl 25 _ rfl _ rfl _ 25 (HB0.out _ (Frm.refl _ _)) _ Tryz.underlying25 rfl (by kernel_rfl) ?_)
    | (go_at_call 26;go_must (refine CG.out.mono ?_;rintro e w1 ⟨u,rfl,rfl,hf1⟩;have HF1:=Lib.hid hf1;clear hf1 CG)))
   go_upto_region 3 with fail
   go_wp2_with (go_at_call 27;go_must (refine(CK.out _).mono ?_;rintro e wk ⟨rfl,hf'⟩;have HFK:Hid (Frm [] W0 wk):=Lib.hid (HF1.out.trans hf');clear hf'))
   exact leaves_none ⟨_,res_tmp4 rfl rfl,rfl,HF0.out.trans HFK.out⟩
 | true =>
   have CG:=Lib.hid (HY.out hg)
   have HOK:=Lib.hid (gv_ok hg)
   have HSM:=Lib.hid (gv_12 (gv_small hg))
   clear hg HG HY
   go_upto_region 2 with (first
    | (refine wpList_load_whole rfl 25 _ rfl _ rfl _ 25 (HB0.out _ (Frm.refl _ _)) _ Tryz.underlying25 rfl (by kernel_rfl) ?_)
    | (go_at_call 26;go_must (refine CG.out.mono ?_;rintro e w1 ⟨u,rfl,yb,fb,rfl,hsy,hf1⟩;have HF1:=Lib.hid hf1;have HSY1:=Lib.hid hsy;clear hf1 hsy CG)))
   by_cases hl:(lim < 1∨50 < lim)∨(s.cls≠2∧s.cap≠1)
   ·rcases Int.lt_or_le lim 1 with hl1 | hl1
    ·have hd1:decide (lim < 1)=true:=decide_eq_true hl1
     clear hl
     go_upto_region 3 with fail
     go_wp2_with (go_at_call 27;go_must (refine(CK.out _).mono ?_;rintro e wk ⟨rfl,hf'⟩;have HFK:Hid (Frm [] W0 wk):=Lib.hid (HF1.out.trans hf');clear hf'))
     exact leaves_none ⟨_,res_tmp4 rfl rfl,rfl,HF0.out.trans HFK.out⟩
    ·have hd1:decide (lim < 1)=false:=decide_eq_false (by omega)
     rcases Int.lt_or_le 50 lim with hl2 | hl2
     ·have hd2:decide (50 < lim)=true:=decide_eq_true hl2
      clear hl
      go_upto_region 3 with fail
      go_wp2_with (go_at_call 27;go_must (refine(CK.out _).mono ?_;rintro e wk ⟨rfl,hf'⟩;have HFK:Hid (Frm [] W0 wk):=Lib.hid (HF1.out.trans hf');clear hf'))
      exact leaves_none ⟨_,res_tmp4 rfl rfl,rfl,HF0.out.trans HFK.out⟩
     ·have hd2:decide (50 < lim)=false:=decide_eq_false (by omega)
      obtain⟨hc1,hc2⟩:=hl.resolve_left (by omega)
      have hq1:(s.cls != 2)=true:=by simpa using hc1
      have hq2:(s.cap != 1)=true:=by simpa using hc2
      clear hl hc1 hc2
      have z2:=cell_of (HB0.out _ HF1.out) 2
      have z3:=cell_of (HB0.out _ HF1.out) 3
      go_upto_region 3 with fail
      clear z2 z3
      go_wp2_with (go_at_call 27;go_must (refine(CK.out _).mono ?_;rintro e wk ⟨rfl,hf'⟩;have HFK:Hid (Frm [] W0 wk):=Lib.hid (HF1.out.trans hf');clear hf'))
      exact leaves_none ⟨_,res_tmp4 rfl rfl,rfl,HF0.out.trans HFK.out⟩
   ·obtain⟨m,rfl⟩:∃ m:Nat,lim=(m:Int):=⟨lim.toNat,by omega⟩
    have hd1:decide ((m:Int) < 1)=false:=decide_eq_false (by omega)
    have hd2:decide (50 < (m:Int))=false:=decide_eq_false (by omega)
    have HM:Hid (1≤m∧m≤50):=Lib.hid (by omega)
    have HC:Hid (s.cls=2∨s.cap=1):=Lib.hid (by omega)
    have hq:(s.cls != 2)=false∨((s.cls != 2)=true∧(s.cap != 1)=false):=by
     by_cases h2:s.cls=2
     ·left;simp[h2]
     ·right
      have h3:s.cap=1:=HC.out.resolve_left h2
      exact⟨by simpa using h2,by simp[h3]⟩
    clear hl
    have z2:=cell_of (HB0.out _ HF1.out) 2
    have z3:=cell_of (HB0.out _ HF1.out) 3
    go_cut [42] from 23 to 42 (fun s42 wc=>s42=.bool false∧wc=w1)
    case first =>
     rcases hq with hq1 | ⟨hq1,hq2⟩
     ·go_wp2
      go_meet
      exact⟨rfl,rfl⟩
     ·go_wp2
      go_meet
      exact⟨rfl,rfl⟩
    case rest =>
    obtain⟨rfl,rfl⟩:=hcut
    clear hq z2 z3 hd1 hd2
    cases hwh:(searchP s m).2 with
    | false =>
      have CU:=Lib.hid (xpUsed_part s yb fb m wc HSY1.out HM.out.1 (by have:=HM.out;omega) hwh)
      clear hwh
      go_upto_region 5 with (go_at_call 34;go_must (refine CU.out.mono ?_;rintro e w2 ⟨u,rfl,rfl,hf⟩;have HF2:=Lib.hid hf;clear hf CU))
      go_wp2_with (first
       | (go_at_call 29;go_must (refine(num36_any _ _).mono ?_;rintro e w' ⟨rfl,rfl⟩))
       | (go_at_call 27;go_must (refine(CK.out _).mono ?_;rintro e wk ⟨rfl,hf'⟩;have HFK:Hid (Frm [] W0 wk):=Lib.hid (HF1.out.trans (HF2.out.trans hf'));clear hf')))
      exact leaves_none ⟨_,res_tmp4 rfl rfl,rfl,HF0.out.trans HFK.out⟩
    | true =>
      have CU:=Lib.hid (xpUsed_any s yb fb m wc HSY1.out HM.out.1 (by have:=HM.out;omega) hwh)
      have HWH:=Lib.hid hwh
      clear hwh
      go_upto_region 5 with (go_at_call 34;go_must (refine CU.out.mono ?_;rintro e w2 ⟨u,rfl,hf,u,rfl,hu⟩;have HU:=Lib.hid hu;have HF2:=Lib.hid (HF1.out.trans hf);have HFC:=Lib.hid hf;clear hf hu CU))
      obtain⟨ua,uc,hue⟩:=HU.out.shape
      have hul:(usRow s (usedP s (searchP s m).1)).length=n:=by unfold usRow;rw[List.length_map,List.length_range,HNn.out]
      rw[hul] at hue
      subst hue
      clear hul
      have z1:=cell_of (HB0.out _ HF2.out) 1
      have CN:=Lib.hid (xpNever_any s (.agg #[.string s.name,.slice ao n cap,.int .i64 s.cls,.int .i64 s.cap]) w2 (HSV.out.frm (HF0.out.trans HF2.out)) HSM.out.1 HSM.out.2)
      go_upto_region 9 with (go_at_call 29;go_must (refine(num36_any _ _).mono ?_;rintro e w' ⟨rfl,rfl⟩))
      clear z1
      go_upto_region 10 with (first
       | (refine wpList_load_whole rfl 25 _ rfl _ rfl _ 25 (HB0.out _ HF2.out) _ Tryz.underlying25 rfl (by kernel_rfl) ?_)
       | (go_at_call 35;go_must (refine CN.out.mono ?_;rintro e w3 ⟨v,rfl,ho,hf⟩;obtain⟨na,nc,rfl⟩:=own_shape ho;have HO:=Lib.hid (su_arr ho);have HF23:=Lib.hid hf;clear ho hf CN)))
      obtain⟨NL,hNL⟩:∃ L,neverP s=L:=⟨_,rfl⟩
      obtain⟨K,hK⟩:∃ K,NL.length=K:=⟨_,rfl⟩
      have HNL:=Lib.hid hNL;have HKL:=Lib.hid hK
      rw[hNL] at HO ⊢
      rw[hK] at HO ⊢
      have HF3:Hid (Frm [] W0 w3):=Lib.hid (HF2.out.trans HF23.out)
      have HK2:Hid (K≤400):=Lib.hid (by
       rw[← hK,← hNL]
       have h9:=nevRoles_len (s:=s) HSM.out.2 HSM.out.1 s.roles.length (Nat.le_refl _)
       have h8:=HSM.out.1
       unfold neverP
       omega)
      clear hNL hK
      have HU3:=Lib.hid (fun V (hV:Frm [] w3 V)=>HU.out.frm (fun g o r (hr:BsAt w2 g o r)=>(show BsAt V g o r by obtain⟨b,h1,h2⟩:=hr;exact⟨b,(HF23.out.trans hV).keep h1,(HF23.out.trans hV).at h2 (by simp)⟩)))
      refine wp_loop (fun a' w'=>∃ ds,∃ u4 u10 u11 u12 u13 u14 u15 u17 u67 u68 u69 u70 u71 u72 u73 u74 u75 u76 u77 u78 u79 u80 u81 u82 u83 u84 u85 u86 u87 u88 u89 u90 u91 u92 u93 u94 u95 u96 u97 u98 u99 u100 u101 u102 u103 u104 u105 u106 u107 u108 u109 u110 u111 u112 u113 u114 u115 u116 u117 u118 u119 u120 u121 u122 u123 u124 u125 u126 u127 u128 u129 u130 u131 u132 u133 u134 u135 u136 u137 u138 u139 u140 u141 u142 u143 u144 u145 u146 u147 u148 u149 u150 u151 u152 u153 u154 u155 u156 u157:Value,(fun ds u67 w'=>∃ k:Nat,u67=.int .i64 (k:Int)∧k≤K∧Frm [] w3 w'∧Ms w ds w') ds u67 w'∧a'={ tmps:=#[.agg #[.string s.name,.slice ao n cap,.int .i64 s.cls,.int .i64 s.cap],.int .i64 (m:Int),.pointer (some ⟨w.heap.size,0,none⟩),undef,u4,.pointer (some ⟨yb,0,none⟩),.bool true,.slice ua n uc,.int .i64 0,undef,u10,u11,u12,u13,u14,u15,undef,u17,.tuple #[.pointer (some ⟨yb,0,none⟩),.bool true],.agg #[.string s.name,.slice ao n cap,.int .i64 s.cls,.int .i64 s.cap],.tuple #[.pointer (some ⟨yb,0,none⟩),.bool true],.pointer (some ⟨yb,0,none⟩),.bool true,u23,u24,u25,u26,u27,u28,u29,u30,u31,u32,u33,u34,u35,u36,u37,u38,u39,u40,u41,.bool false,undef,.tuple #[.slice ua n uc,.int .i64 0],.pointer (some ⟨yb,0,none⟩),.int .i64 (m:Int),.tuple #[.slice ua n uc,.int .i64 0],.slice ua n uc,.int .i64 0,.int .i64 0,.int .i64 0,.bool false,undef,undef,undef,undef,undef,.slice ua n uc,.int .i64 (n:Int),.pointer (some ⟨w.heap.size,1,none⟩),.slice ao n cap,.int .i64 (n:Int),.bool false,.agg #[.string s.name,.slice ao n cap,.int .i64 s.cls,.int .i64 s.cap],.slice na K nc,.int .i64 (K:Int),u67,u68,u69,u70,u71,u72,u73,u74,u75,u76,u77,u78,u79,u80,u81,u82,u83,u84,u85,u86,u87,u88,u89,u90,u91,u92,u93,u94,u95,u96,u97,u98,u99,u100,u101,u102,u103,u104,u105,u106,u107,u108,u109,u110,u111,u112,u113,u114,u115,u116,u117,u118,u119,u120,u121,u122,u123,u124,u125,u126,u127,u128,u129,u130,u131,u132,u133,u134,u135,u136,u137,u138,u139,u140,u141,u142,u143,u144,u145,u146,u147,u148,u149,u150,u151,u152,u153,u154,u155,u156,u157,undef],defers:=marks ds }) (fun a' _=>K - (intOf (a'.tmps.getD 67 undef)).toNat) ?_ ?_
      ·refine⟨[],?_⟩
       (repeat apply Exists.intro)
       exact⟨⟨0,rfl,Nat.zero_le _,Frm.refl _ _,Ms.nil _ _⟩,rfl⟩
      intro a' wr hinv
      obtain⟨ds,hinv⟩:=hinv
      obtain⟨u4,hinv⟩:=hinv
      obtain⟨u10,hinv⟩:=hinv
      obtain⟨u11,hinv⟩:=hinv
      obtain⟨u12,hinv⟩:=hinv
      obtain⟨u13,hinv⟩:=hinv
      obtain⟨u14,hinv⟩:=hinv
      obtain⟨u15,hinv⟩:=hinv
      obtain⟨u17,hinv⟩:=hinv
      obtain⟨u67,hinv⟩:=hinv
      obtain⟨u68,hinv⟩:=hinv
      obtain⟨u69,hinv⟩:=hinv
      obtain⟨u70,hinv⟩:=hinv
      obtain⟨u71,hinv⟩:=hinv
      obtain⟨u72,hinv⟩:=hinv
      obtain⟨u73,hinv⟩:=hinv
      obtain⟨u74,hinv⟩:=hinv
      obtain⟨u75,hinv⟩:=hinv
      obtain⟨u76,hinv⟩:=hinv
      obtain⟨u77,hinv⟩:=hinv
      obtain⟨u78,hinv⟩:=hinv
      obtain⟨u79,hinv⟩:=hinv
      obtain⟨u80,hinv⟩:=hinv
      obtain⟨u81,hinv⟩:=hinv
      obtain⟨u82,hinv⟩:=hinv
      obtain⟨u83,hinv⟩:=hinv
      obtain⟨u84,hinv⟩:=hinv
      obtain⟨u85,hinv⟩:=hinv
      obtain⟨u86,hinv⟩:=hinv
      obtain⟨u87,hinv⟩:=hinv
      obtain⟨u88,hinv⟩:=hinv
      obtain⟨u89,hinv⟩:=hinv
      obtain⟨u90,hinv⟩:=hinv
      obtain⟨u91,hinv⟩:=hinv
      obtain⟨u92,hinv⟩:=hinv
      obtain⟨u93,hinv⟩:=hinv
      obtain⟨u94,hinv⟩:=hinv
      obtain⟨u95,hinv⟩:=hinv
      obtain⟨u96,hinv⟩:=hinv
      obtain⟨u97,hinv⟩:=hinv
      obtain⟨u98,hinv⟩:=hinv
      obtain⟨u99,hinv⟩:=hinv
      obtain⟨u100,hinv⟩:=hinv
      obtain⟨u101,hinv⟩:=hinv
      obtain⟨u102,hinv⟩:=hinv
      obtain⟨u103,hinv⟩:=hinv
      obtain⟨u104,hinv⟩:=hinv
      obtain⟨u105,hinv⟩:=hinv
      obtain⟨u106,hinv⟩:=hinv
      obtain⟨u107,hinv⟩:=hinv
      obtain⟨u108,hinv⟩:=hinv
      obtain⟨u109,hinv⟩:=hinv
      obtain⟨u110,hinv⟩:=hinv
      obtain⟨u111,hinv⟩:=hinv
      obtain⟨u112,hinv⟩:=hinv
      obtain⟨u113,hinv⟩:=hinv
      obtain⟨u114,hinv⟩:=hinv
      obtain⟨u115,hinv⟩:=hinv
      obtain⟨u116,hinv⟩:=hinv
      obtain⟨u117,hinv⟩:=hinv
      obtain⟨u118,hinv⟩:=hinv
      obtain⟨u119,hinv⟩:=hinv
      obtain⟨u120,hinv⟩:=hinv
      obtain⟨u121,hinv⟩:=hinv
      obtain⟨u122,hinv⟩:=hinv
      obtain⟨u123,hinv⟩:=hinv
      obtain⟨u124,hinv⟩:=hinv
      obtain⟨u125,hinv⟩:=hinv
      obtain⟨u126,hinv⟩:=hinv
      obtain⟨u127,hinv⟩:=hinv
      obtain⟨u128,hinv⟩:=hinv
      obtain⟨u129,hinv⟩:=hinv
      obtain⟨u130,hinv⟩:=hinv
      obtain⟨u131,hinv⟩:=hinv
      obtain⟨u132,hinv⟩:=hinv
      obtain⟨u133,hinv⟩:=hinv
      obtain⟨u134,hinv⟩:=hinv
      obtain⟨u135,hinv⟩:=hinv
      obtain⟨u136,hinv⟩:=hinv
      obtain⟨u137,hinv⟩:=hinv
      obtain⟨u138,hinv⟩:=hinv
      obtain⟨u139,hinv⟩:=hinv
      obtain⟨u140,hinv⟩:=hinv
      obtain⟨u141,hinv⟩:=hinv
      obtain⟨u142,hinv⟩:=hinv
      obtain⟨u143,hinv⟩:=hinv
      obtain⟨u144,hinv⟩:=hinv
      obtain⟨u145,hinv⟩:=hinv
      obtain⟨u146,hinv⟩:=hinv
      obtain⟨u147,hinv⟩:=hinv
      obtain⟨u148,hinv⟩:=hinv
      obtain⟨u149,hinv⟩:=hinv
      obtain⟨u150,hinv⟩:=hinv
      obtain⟨u151,hinv⟩:=hinv
      obtain⟨u152,hinv⟩:=hinv
      obtain⟨u153,hinv⟩:=hinv
      obtain⟨u154,hinv⟩:=hinv
      obtain⟨u155,hinv⟩:=hinv
      obtain⟨u156,hinv⟩:=hinv
      obtain⟨u157,hinv⟩:=hinv
      obtain⟨hrel,ha⟩:=hinv
      subst ha
      try dsimp only
      obtain⟨k,rfl,hk,hf,hms⟩:=hrel
      have HF:=Lib.hid hf;have HMS:=Lib.hid hms
      clear hf hms
      obtain⟨wq,hwq⟩:∃ wq,wq=wr:=⟨_,rfl⟩
      subst hwq
      have HWK:Hid (∀ j:Nat,j < K→wrap64 ((j:Int) + 1)=((j + 1:Nat):Int)):=Lib.hid fun j hj=>by have:=HK2.out;unfold wrap64;omega
      by_cases hlt:k < K
      ·have hlt':(k:Int) < (K:Int):=by omega
       obtain⟨x,hx⟩:∃ x,NL[k]?=some x:=⟨_,List.getElem?_eq_getElem (by rw[HKL.out];exact hlt)⟩
       obtain⟨g,o,e1,c0,c1,c2⟩:=HO.out.get hx
       subst e1
       replace c0:=HF.out.keep c0;replace c1:=HF.out.keep c1;replace c2:=HF.out.keep c2
       have hgl:=cell_lt c0
       have hxm:x∈neverP s:=by rw[HNL.out];exact List.mem_of_getElem? hx
       have HXM:=Lib.hid hxm
       obtain⟨i0,p0,k0,hxr,hxp,-,-,he⟩:=mem_neverP.1 hxm
       have hxi:x.role < n∧x.peer < n:=by rw[he,← HNn.out];exact⟨hxr,hxp⟩
       have HXI:=Lib.hid hxi
       clear hx hxm hxr hxp he hxi
       go_upto_region 13 with fail
       clear c0 c1 c2 hgl
       obtain⟨V2,hV2⟩:∃ V,(wq.alloc (.cells #[.int .i64 x.role,.int .i64 x.peer,.string x.msg] 63)).alloc (.cells #[.bool false] 4)=V:=⟨_,rfl⟩
       obtain⟨r12,h12⟩:∃ b,wq.heap.size + 1=b:=⟨_,rfl⟩
       obtain⟨r10,h10⟩:∃ b,wq.heap.size=b:=⟨_,rfl⟩
       have FV2:Hid (Frm [] wq V2):=Lib.hid (by rw[← hV2];exact((Frm.refl _ _).alloc _).alloc _)
       have Q10:Hid (V2.heap[r10]?=some (.cells #[.int .i64 x.role,.int .i64 x.peer,.string x.msg] 63 (0,0))):=Lib.hid (by rw[← hV2,← h10];exact alloc_at (heap_alloc_new _ _))
       have Q12:Hid (V2.heap[r12]?=some (.cells #[.bool false] 4 (0,0))):=Lib.hid (by rw[← hV2,← h12];exact alloc_top (by simp))
       have HL12:Hid (wq.heap.size≤r12):=Lib.hid (by omega)
       rw[hV2,h12,h10]
       clear hV2 h12 h10
       have HFW:Hid (Frm [] w V2):=Lib.hid (HF0.out.trans (HF3.out.trans (HF.out.trans FV2.out)))
       obtain⟨rv9,hrv,hrls⟩:=HSV.out
       cases hrv
       have hxp:x.peer < s.roles.length:=by rw[HNn.out];exact HXI.out.2
       have hxr:x.role < s.roles.length:=by rw[HNn.out];exact HXI.out.1
       obtain⟨rb,ro,e1,sv,cv,tv,-,-,-,d3,hr3⟩:=(hrls.frm HFW.out).get (SesD.rol_some hxp)
       subst e1
       obtain⟨aT,cT,rfl⟩:=hr3.steps.shape
       obtain⟨rb',ro',e1,-,-,-,d0,-⟩:=(hrls.frm HFW.out).get (SesD.rol_some hxr)
       cases e1
       obtain⟨ug,uo,e1,bb,u0,u1⟩:=(HU3.out V2 (HF.out.trans FV2.out)).get (usRow_at (f:=usedP s (searchP s m).1) hxp)
       cases e1
       obtain⟨T,hT⟩:∃ T,(s.rol x.peer).steps.length=T:=⟨_,rfl⟩
       obtain⟨rn,hrn⟩:∃ r,(s.rol x.role).name=r:=⟨_,rfl⟩
       have HRN:=Lib.hid hrn;have HTT:=Lib.hid hT
       rw[hT] at d3
       rw[hrn] at d0
       have hul:((List.range (s.rol x.peer).steps.length).map (usedP s (searchP s m).1 x.peer)).length=T:=by rw[List.length_map,List.length_range,hT]
       rw[hul] at u0
       have HT12:Hid (T≤12):=Lib.hid (by rw[← hT];exact HSM.out.2 _ (List.mem_of_getElem? (SesD.rol_some hxp)))
       have HWT:Hid (∀ j:Nat,j < T→wrap64 ((j:Int) + 1)=((j + 1:Nat):Int)):=Lib.hid fun j hj=>by have:=HT12.out;unfold wrap64;omega
       have HSTP:=Lib.hid hr3.steps
       have HUB1:=Lib.hid u1
       have HD:Hid (∀ V,Frm [] V2 V→V.cell? ⟨r10,0,none⟩=some (.int .i64 x.role)∧V.cell? ⟨r10,1,none⟩=some (.int .i64 x.peer)∧V.cell? ⟨r10,2,none⟩=some (.string x.msg)∧V.cell? ⟨w.heap.size,1,none⟩=some (.slice (some ⟨rb,ro,none⟩) n cap) ∧
         V.cell? ⟨rb,ro + x.peer * 4 + 3,none⟩=some (.slice aT T cT)∧V.cell? ⟨rb,ro + x.role * 4,none⟩=some (.string rn)∧V.cell? ⟨ug,uo + x.peer,none⟩=some (.slice (some ⟨bb,0,none⟩) T T)):=Lib.hid fun V hV=>by
        have hq:=hV.at Q10.out (by simp)
        rw[Nat.mul_one] at u0
        exact⟨cell_of hq 0,cell_of hq 1,cell_of hq 2,cell_of (HB0.out V (HF3.out.trans (HF.out.trans (FV2.out.trans hV)))) 1,hV.keep d3,hV.keep d0,hV.keep u0⟩
       have hxp':(x.peer:Int) < (n:Int):=by have:=HXI.out.2;omega
       have hxr':(x.role:Int) < (n:Int):=by have:=HXI.out.1;omega
       clear hrls hxp hxr d3 d0 u0 u1 hr3 hT hrn hul
       go_upto_region 14 with fail
       go_loopw [13,11] (fun s13 s11 wr=>∃ i:Nat,s13=.int .i64 i∧i≤T∧s11=.bool (sentB s (searchP s m).1 x i)∧Frm [] V2 wr) (fun s13 _ _=>T - (intOf s13).toNat)
       case atStart=>exact⟨0,rfl,Nat.zero_le _,rfl,Frm.refl _ _⟩
       case round =>
        obtain⟨i,rfl,hi,rfl,hf⟩:=hrel
        have HFI:=Lib.hid hf
        clear hf
        obtain⟨wb,hwb⟩:∃ wb,wb=wr:=⟨_,rfl⟩
        subst hwb
        obtain⟨y0,y1,y2,y3,y4,y5,y6⟩:=HD.out wb HFI.out
        by_cases hlt2:i < T
        ·have hlt2':(i:Int) < (T:Int):=by omega
         obtain⟨t,ht⟩:∃ t,(s.rol x.peer).steps[i]?=some t:=⟨_,List.getElem?_eq_getElem (by rw[HTT.out];exact hlt2)⟩
         have HTK:Hid ((s.rol x.peer).stp i=t):=Lib.hid (getD_some ht)
         obtain⟨tb,tq,etb,k0,k1,k2,k3,k4,k5,k6,k7,k8⟩:=HSTP.out.get ht
         subst etb
         have hkl:tb < wb.heap.size:=Nat.lt_of_lt_of_le (cell_lt k0) HFI.out.size
         replace k0:=HFI.out.keep k0;replace k1:=HFI.out.keep k1;replace k2:=HFI.out.keep k2;replace k3:=HFI.out.keep k3;replace k4:=HFI.out.keep k4
         replace k5:=HFI.out.keep k5;replace k6:=HFI.out.keep k6;replace k7:=HFI.out.keep k7;replace k8:=HFI.out.keep k8
         clear ht
         go_upto_region 17 with fail
         clear k0 k1 k2 k3 k4 k5 k6 k7 k8 hkl y0 y1 y2 y3 y4 y5 y6
         obtain⟨Vs,hVs⟩:∃ V,wb.alloc (.cells #[.string t.frm,.string t.to,.int .i64 t.kind,.string t.msg,.string t.peer,.string t.ctr,.int .i64 t.low,.int .i64 t.high,.int .i64 t.add] 90)=V:=⟨_,rfl⟩
         obtain⟨r14,h14⟩:∃ b,wb.heap.size=b:=⟨_,rfl⟩
         have Q14:Hid (Vs.heap[r14]?=some (.cells #[.string t.frm,.string t.to,.int .i64 t.kind,.string t.msg,.string t.peer,.string t.ctr,.int .i64 t.low,.int .i64 t.high,.int .i64 t.add] 90 (0,0))):=Lib.hid (by rw[← hVs,← h14];exact heap_alloc_new _ _)
         have HFs:Hid (Frm [] V2 Vs):=Lib.hid (HFI.out.trans (by rw[← hVs];exact(Frm.refl _ _).alloc _))
         rw[hVs,h14]
         clear hVs h14
         have HCQ:Hid (∀ V,Frm [] Vs V→(V.cell? ⟨r10,0,none⟩=some (.int .i64 x.role)∧V.cell? ⟨r10,1,none⟩=some (.int .i64 x.peer)∧V.cell? ⟨r10,2,none⟩=some (.string x.msg)∧V.cell? ⟨w.heap.size,1,none⟩=some (.slice (some ⟨rb,ro,none⟩) n cap)) ∧
           V.cell? ⟨rb,ro + x.role * 4,none⟩=some (.string rn)∧V.cell? ⟨ug,uo + x.peer,none⟩=some (.slice (some ⟨bb,0,none⟩) T T)∧V.cell? ⟨bb,i,none⟩=some (.bool (usedP s (searchP s m).1 x.peer i))∧(V.cell? ⟨r14,2,none⟩=some (.int .i64 t.kind)∧V.cell? ⟨r14,3,none⟩=some (.string t.msg)∧V.cell? ⟨r14,4,none⟩=some (.string t.peer))):=Lib.hid fun V hV=>by
          obtain⟨y0,y1,y2,y3,y4,y5,y6⟩:=HD.out V (HFs.out.trans hV)
          have hq:=hV.at Q14.out (by simp)
          have hb:=(HFs.out.trans hV).at HUB1.out (by simp)
          refine⟨⟨y0,y1,y2,y3⟩,y5,y6,?_,cell_of hq 2,cell_of hq 3,cell_of hq 4⟩
          rw[cell_of hb]
          have:=HTT.out
          have h9:i < (s.rol x.peer).steps.length:=by omega
          simp[h9]
         cases hsb:sentB s (searchP s m).1 x i with
         | true =>
           have HSB:=Lib.hid hsb
           clear hsb
           refine wp_region_cq (by kernel_rfl) (by kernel_rfl) ?_
           repeat (first
            | go_big_quiet_skip
            | (refine wpQuiet_want (by rfl) (fun K hK=>?_)
               first
                | (refine quiet_move _ (by rfl) (hK _ ?_))
                | (refine quiet_assign _ (by rfl) (hK _ ?_))
                | (apply Exists.intro
                   refine⟨fun w' hC=>?_,hK _ ?_⟩
                   ·(unfold Oper.quietAt
                     obtain⟨⟨y0,y1,y2,y3⟩,y5,y6,y7,y8,y9,y10⟩:=HCQ.out w' hC
                     clear hC
                     go_simp
                     try exact⟨rfl,rfl⟩
                     try rfl))
               clear hK K
               try simp only[nrm,Act.eval,nrq]))
           refine wpQuiet_nil ?_
           intro wn hfn
           have HFn:=Lib.hid (HFs.out.trans hfn)
           clear hfn
           go_wp2
           exact⟨⟨i + 1,congrArg (Value.int .i64) (HWT.out i hlt2),hlt2,congrArg Value.bool (by rw[sentB_succ,HSB.out];rfl),HFn.out⟩,meas_up hlt2 (HWT.out i hlt2)⟩
         | false =>
           have HSB:=Lib.hid hsb
           clear hsb
           cases hub:usedP s (searchP s m).1 x.peer i with
           | false =>
             have HUB:=Lib.hid hub
             rw[hub] at HCQ
             clear hub
             refine wp_region_cq (by kernel_rfl) (by kernel_rfl) ?_
             repeat (first
              | go_big_quiet_skip
              | (refine wpQuiet_want (by rfl) (fun K hK=>?_)
                 first
                  | (refine quiet_move _ (by rfl) (hK _ ?_))
                  | (refine quiet_assign _ (by rfl) (hK _ ?_))
                  | (apply Exists.intro
                     refine⟨fun w' hC=>?_,hK _ ?_⟩
                     ·(unfold Oper.quietAt
                       obtain⟨⟨y0,y1,y2,y3⟩,y5,y6,y7,y8,y9,y10⟩:=HCQ.out w' hC
                       clear hC
                       go_simp
                       try exact⟨rfl,rfl⟩
                       try rfl))
                 clear hK K
                 try simp only[nrm,Act.eval,nrq]))
             refine wpQuiet_nil ?_
             intro wn hfn
             have HFn:=Lib.hid (HFs.out.trans hfn)
             clear hfn
             go_wp2
             exact⟨⟨i + 1,congrArg (Value.int .i64) (HWT.out i hlt2),hlt2,congrArg Value.bool (by rw[sentB_succ,HSB.out];unfold sentC;rw[HUB.out];rfl),HFn.out⟩,meas_up hlt2 (HWT.out i hlt2)⟩
           | true =>
             have HUB:=Lib.hid hub
             rw[hub] at HCQ
             clear hub
             by_cases hp:t.kind=1
             ·have q2:(t.kind == 1)=true:=by simpa using hp
              have HP1:Hid (decide (t.kind=1)=true):=Lib.hid (decide_eq_true hp)
              clear hp
              by_cases hp:t.msg=x.msg
              ·have q3:(t.msg.toList == x.msg.toList)=true:=by rw[str_beq,decide_eq_true hp]
               have HP2:Hid (decide (t.msg=x.msg)=true):=Lib.hid (decide_eq_true hp)
               clear hp
               by_cases hp:t.peer=rn
               ·have q4:(t.peer.toList == rn.toList)=true:=by rw[str_beq,decide_eq_true hp]
                have HP3:Hid (decide (t.peer=rn)=true):=Lib.hid (decide_eq_true hp)
                clear hp
                refine wp_region_cq (by kernel_rfl) (by kernel_rfl) ?_
                repeat (first
                 | go_big_quiet_skip
                 | (refine wpQuiet_want (by rfl) (fun K hK=>?_)
                    first
                     | (refine quiet_move _ (by rfl) (hK _ ?_))
                     | (refine quiet_assign _ (by rfl) (hK _ ?_))
                     | (apply Exists.intro
                        refine⟨fun w' hC=>?_,hK _ ?_⟩
                        ·(unfold Oper.quietAt
                          obtain⟨⟨y0,y1,y2,y3⟩,y5,y6,y7,y8,y9,y10⟩:=HCQ.out w' hC
                          clear hC
                          go_simp
                          try exact⟨rfl,rfl⟩
                          try rfl))
                    clear hK K
                    try simp only[nrm,Act.eval,nrq]))
                refine wpQuiet_nil ?_
                intro wn hfn
                have HFn:=Lib.hid (HFs.out.trans hfn)
                clear hfn
                go_wp2
                exact⟨⟨i + 1,congrArg (Value.int .i64) (HWT.out i hlt2),hlt2,congrArg Value.bool (by rw[sentB_succ,HSB.out];unfold sentC;rw[HTK.out,HRN.out,HUB.out,HP1.out,HP2.out,HP3.out];rfl),HFn.out⟩,meas_up hlt2 (HWT.out i hlt2)⟩
               ·have q4:(t.peer.toList == rn.toList)=false:=by rw[str_beq,decide_eq_false hp]
                have HP3:Hid (decide (t.peer=rn)=false):=Lib.hid (decide_eq_false hp)
                clear hp
                refine wp_region_cq (by kernel_rfl) (by kernel_rfl) ?_
                repeat (first
                 | go_big_quiet_skip
                 | (refine wpQuiet_want (by rfl) (fun K hK=>?_)
                    first
                     | (refine quiet_move _ (by rfl) (hK _ ?_))
                     | (refine quiet_assign _ (by rfl) (hK _ ?_))
                     | (apply Exists.intro
                        refine⟨fun w' hC=>?_,hK _ ?_⟩
                        ·(unfold Oper.quietAt
                          obtain⟨⟨y0,y1,y2,y3⟩,y5,y6,y7,y8,y9,y10⟩:=HCQ.out w' hC
                          clear hC
                          go_simp
                          try exact⟨rfl,rfl⟩
                          try rfl))
                    clear hK K
                    try simp only[nrm,Act.eval,nrq]))
                refine wpQuiet_nil ?_
                intro wn hfn
                have HFn:=Lib.hid (HFs.out.trans hfn)
                clear hfn
                go_wp2
                exact⟨⟨i + 1,congrArg (Value.int .i64) (HWT.out i hlt2),hlt2,congrArg Value.bool (by rw[sentB_succ,HSB.out];unfold sentC;rw[HTK.out,HRN.out,HP3.out];simp),HFn.out⟩,meas_up hlt2 (HWT.out i hlt2)⟩
              ·have q3:(t.msg.toList == x.msg.toList)=false:=by rw[str_beq,decide_eq_false hp]
               have HP2:Hid (decide (t.msg=x.msg)=false):=Lib.hid (decide_eq_false hp)
               clear hp
               refine wp_region_cq (by kernel_rfl) (by kernel_rfl) ?_
               repeat (first
                | go_big_quiet_skip
                | (refine wpQuiet_want (by rfl) (fun K hK=>?_)
                   first
                    | (refine quiet_move _ (by rfl) (hK _ ?_))
                    | (refine quiet_assign _ (by rfl) (hK _ ?_))
                    | (apply Exists.intro
                       refine⟨fun w' hC=>?_,hK _ ?_⟩
                       ·(unfold Oper.quietAt
                         obtain⟨⟨y0,y1,y2,y3⟩,y5,y6,y7,y8,y9,y10⟩:=HCQ.out w' hC
                         clear hC
                         go_simp
                         try exact⟨rfl,rfl⟩
                         try rfl))
                   clear hK K
                   try simp only[nrm,Act.eval,nrq]))
               refine wpQuiet_nil ?_
               intro wn hfn
               have HFn:=Lib.hid (HFs.out.trans hfn)
               clear hfn
               go_wp2
               exact⟨⟨i + 1,congrArg (Value.int .i64) (HWT.out i hlt2),hlt2,congrArg Value.bool (by rw[sentB_succ,HSB.out];unfold sentC;rw[HTK.out,HP2.out];simp),HFn.out⟩,meas_up hlt2 (HWT.out i hlt2)⟩
             ·have q2:(t.kind == 1)=false:=by simpa using hp
              have HP1:Hid (decide (t.kind=1)=false):=Lib.hid (decide_eq_false hp)
              clear hp
              refine wp_region_cq (by kernel_rfl) (by kernel_rfl) ?_
              repeat (first
               | go_big_quiet_skip
               | (refine wpQuiet_want (by rfl) (fun K hK=>?_)
                  first
                   | (refine quiet_move _ (by rfl) (hK _ ?_))
                   | (refine quiet_assign _ (by rfl) (hK _ ?_))
                   | (apply Exists.intro
                      refine⟨fun w' hC=>?_,hK _ ?_⟩
                      ·(unfold Oper.quietAt
                        obtain⟨⟨y0,y1,y2,y3⟩,y5,y6,y7,y8,y9,y10⟩:=HCQ.out w' hC
                        clear hC
                        go_simp
                        try exact⟨rfl,rfl⟩
                        try rfl))
                  clear hK K
                  try simp only[nrm,Act.eval,nrq]))
              refine wpQuiet_nil ?_
              intro wn hfn
              have HFn:=Lib.hid (HFs.out.trans hfn)
              clear hfn
              go_wp2
              exact⟨⟨i + 1,congrArg (Value.int .i64) (HWT.out i hlt2),hlt2,congrArg Value.bool (by rw[sentB_succ,HSB.out];unfold sentC;rw[HTK.out,HP1.out];simp),HFn.out⟩,meas_up hlt2 (HWT.out i hlt2)⟩
        ·obtain rfl:T=i:=by omega
         have hge2:¬ (T:Int) < (T:Int):=by omega
         have HSBT:Hid (sentB s (searchP s m).1 x T=true→(allSp s (searchP s m).1).any (fun e=>decide (e.2=x))=true):=Lib.hid fun hb=>by
          obtain⟨nn,hfo⟩:=search_ok (lim:=m) HOK.out HM.out.1
          exact sentB_found HOK.out hfo HWH.out HC.out HXM.out (by rw[HTT.out];exact hb)
         obtain⟨sb,hsb⟩:∃ b,sentB s (searchP s m).1 x T=b:=⟨_,rfl⟩
         rw[hsb] at HSBT ⊢
         clear hsb
         have HSYb:=Lib.hid (HSY1.out.frm (show Frm [] wc wb from HFC.out.trans (HF23.out.trans (HF.out.trans (FV2.out.trans HFI.out)))))
         have CA:=Lib.hid (xpAll_any s yb fb m wb HSYb.out HM.out.1 (by have:=HM.out;omega))
         have hnf:=fun W f lb=>run_eql_func (P:=Tryz.prog) W 92 #[172] #[] false f lb Tryz.underlying92
         go_upto_region 18 with fail
         clear y0 y1 y2 y3 y4 y5 y6
         go_upto_region 22 with (first
          | (go_at_call 36;go_must (refine CA.out.mono ?_;rintro e w5 ⟨v,rfl,B1,B2,pb,ra,cp,N,rfl,hal,hN,hf⟩;have HAL:=Lib.hid hal;have HN:=Lib.hid hN;have HFA:=Lib.hid hf;clear hal hN hf CA)))
         clear hnf
         have HNL2:Hid (N.length≤200000):=Lib.hid (by
          obtain⟨nn,hfo⟩:=search_ok (lim:=m) HOK.out HM.out.1
          have:=hfo.top
          rw[← HN.out,List.length_map] at this
          have:=HM.out
          omega)
         have HQ12:=Lib.hid ((HFI.out.trans HFA.out).at Q12.out (by simp))
         have HQ10:=Lib.hid ((HFI.out.trans HFA.out).at Q10.out (by simp))
         have HW5:Hid (Frm [] wq w5):=Lib.hid (FV2.out.trans (HFI.out.trans HFA.out))
         have HMG:Hid (Ms w ds w5):=Lib.hid (HMS.out.frm HW5.out)
         refine wp_rangeListT (T:=fun t=>t=4) rfl (enters_of Tryz.func79 (by kernel_rfl) rfl) (al_iter (fun t=>t=4) (by decide) (by decide) (by decide) B1 B2 pb yb fb cp ra s _ N HNL2.out) (fun _=>rfl)
          (fun pre V=>Frm [r12] w5 V∧V.heap[r12]?=some (.cells #[.bool (pre.any fun e=>decide (e.2=x))] 4 (0,0)))
          (fun _ _ _=>False)
          (fun _ _ _ h hb=>⟨hb.oldG h.1 (Nat.le_refl _),hb.at h.2 rfl⟩)
          (fun _ _ _ _ h _=>h)
          (fun _ V h=>HAL.out.sc HQ12.out (.inr ⟨_,rfl⟩) (.inr rfl) h.1) ⟨Frm.refl _ _,HQ12.out⟩ ?_ ?_ (fun _ _ _ _ _ _ _ _ h _=>h.elim)
         ·intro l pre y rest Wr hxs hI hl hlr
          obtain⟨yn,z⟩:=y
          have HFR:=Lib.hid hI.1;have HBR:=Lib.hid hI.2
          clear hI hl hlr hxs
          simp only[suV]
          gi_wp2
          refine⟨Kc.frm ((Frm.refl [] Wr).alloc _),fun Wq hbk _=>?_⟩
          have HFQ:Hid (Frm [r12] w5 Wq):=Lib.hid (hbk.oldG (HFR.out.alloc _) (Nat.le_refl _))
          have HBQ:Hid (Wq.heap[r12]?=some (.cells #[.bool (pre.any fun e=>decide (e.2=x))] 4 (0,0))):=Lib.hid (hbk.at (alloc_at HBR.out) rfl)
          have H17:Hid (Wq.heap[Wr.heap.size]?=some (.cells #[.int .i64 z.role,.int .i64 z.peer,.string z.msg] 63 (0,0))):=Lib.hid (hbk.at (heap_alloc_new _ _) rfl)
          have H10:Hid (Wq.heap[r10]?=some (.cells #[.int .i64 x.role,.int .i64 x.peer,.string x.msg] 63 (0,0))):=Lib.hid (HFQ.out.at HQ10.out (by rw[List.mem_singleton];exact ty_ne HQ10.out HQ12.out (by decide)))
          clear hbk HBR HFR
          have HPA:Hid ((pre ++ [(yn,z)]).any (fun e=>decide (e.2=x))=(pre.any (fun e=>decide (e.2=x)) || decide (z=x))):=Lib.hid (by rw[List.any_append];simp)
          obtain⟨fb2,hfb⟩:∃ b,(pre.any fun e=>decide (e.2=x))=b:=⟨_,rfl⟩
          rw[hfb] at HBQ HPA
          clear hfb
          have x0:=cell_of HBQ.out 0
          have f0:=free_of HBQ.out 0
          have a0:=cell_of H17.out 0
          have a1:=cell_of H17.out 1
          have a2:=cell_of H17.out 2
          have b0:=cell_of H10.out 0
          have b1:=cell_of H10.out 1
          have b2:=cell_of H10.out 2
          have hq:∀ V,(binOp .eql 63 (.agg #[.int .i64 z.role,.int .i64 z.peer,.string z.msg]) (.agg #[.int .i64 x.role,.int .i64 x.peer,.string x.msg])).run Tryz.prog V=.ok (.bool (decide (z=x))) V:=fun V=>eql_sp z x V
          cases fb2 with
          | true =>
            gi_wp2
            exact⟨Kc.set (T:=fun t=>t=4) (Kc.refl _ _ _) HBQ.out rfl 0 _,HFQ.out.setCell _ (.inl (by simp)) _,(block_setCell HBQ.out 0 _).trans (by rw[HPA.out];rfl)⟩
          | false =>
            gi_wp2
            exact⟨Kc.set (T:=fun t=>t=4) (Kc.refl _ _ _) HBQ.out rfl 0 _,HFQ.out.setCell _ (.inl (by simp)) _,(block_setCell HBQ.out 0 _).trans (by rw[HPA.out];rfl)⟩
         ·intro D V hD hI hK
          have HFR:=Lib.hid hI.1;have HBR:=Lib.hid hI.2
          have HMV:Hid (Ms w ds V):=Lib.hid ⟨HMG.out.nd,fun E hE=>⟨(HMG.out.dl E hE).1,HFR.out.at (HMG.out.dl E hE).2 (by
           rw[List.mem_singleton]
           intro e
           have h9:=(HMG.out.dl E hE).2
           rw[e,HQ12.out] at h9
           cases h9)⟩⟩
          have hm9:=HMV.out.cons (D:=D) (fun E hE=>by have:=lt_of_block (HMG.out.dl E hE).2;omega) (by have:=HFW.out.size;have:=FV2.out.size;have:=HFI.out.size;have:=HFA.out.size;omega) hK
          have HM9:=Lib.hid hm9
          have hw1:wrap64 ((k:Int) + 1)=((k + 1:Nat):Int):=HWK.out k hlt
          have HFV:Hid (Frm [] w3 V):=Lib.hid ((HF.out.trans HW5.out).then HFR.out fun q hq=>.inr (by rw[List.mem_singleton] at hq;subst hq;exact Nat.le_trans HF.out.size HL12.out))
          rw[HN.out] at HBR
          clear hI hK hm9
          have x0:=cell_of HBR.out 0
          cases sb with
          | true =>
            rw[HSBT.out rfl] at x0
            go_wp2
            refine⟨⟨D :: ds,?_⟩,meas_up hlt hw1⟩
            (repeat apply Exists.intro)
            exact⟨⟨k + 1,congrArg (Value.int .i64) hw1,hlt,HFV.out,HM9.out⟩,rfl⟩
          | false =>
            go_wp2
            refine⟨⟨D :: ds,?_⟩,meas_up hlt hw1⟩
            (repeat apply Exists.intro)
            exact⟨⟨k + 1,congrArg (Value.int .i64) hw1,hlt,HFV.out,HM9.out⟩,rfl⟩
      ·obtain rfl:K=k:=by omega
       have hge:¬ (K:Int) < (K:Int):=by omega
       go_wp2_with (go_at_call 27;go_must (refine(CK.out _).mono ?_;rintro e wk ⟨rfl,hf'⟩;have HFK:Hid (Frm [] wq wk):=Lib.hid hf';clear hf'))
       have HMK:Hid (Ms w ds wk):=Lib.hid (HMS.out.frm HFK.out)
       refine leaves_many ds _ HMK.out.nd (fun D hD=>(HMK.out.dl D hD).2) ⟨.bool true,res_tmp4 rfl rfl,rfl,(HF0.out.trans (HF3.out.trans (HF.out.trans HFK.out))).then (unmark_frm ds _) (fun D hD=>.inr (HMK.out.dl D hD).1)⟩
end Go.Proofs.YtemjlpahohmajaaGreat
