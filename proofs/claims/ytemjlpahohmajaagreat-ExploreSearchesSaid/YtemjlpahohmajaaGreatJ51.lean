/- Part of the proof. -/
import Derived.Test.YtemjlpahohmajaaGreatJ50
import Derived.Test.YtemjlpahohmajaaGreatJ37
import Derived.Test.YtemjlpahohmajaaGreatJ45
import Derived.Test.YtemjlpahohmajaaGreatJ36
set_option linter.all false
namespace Go.Proofs.YtemjlpahohmajaaGreat
open Go.RowKit Go.BigFrame
theorem Tryz.infoRsB:(Tryz.prog.info? 125).map (fun i=>(i.zero,i.size,i.bytes))=some (some (.agg #[.slice none 0 0,.slice none 0 0,.slice none 0 0]),3,72):=by kernel_rfl
theorem one5s (a0 a1 a2 a3:Option Addr) (n0 n1 n2 n3 c0 c1 c2 c3:Nat) (b:Bool):(#[.slice a0 n0 c0,.slice a1 n1 c1,.slice a2 n2 c2,.slice a3 n3 c3,.bool b]:Array Value).all (·.oneCell')=true:=by
 rw[← Array.all_toList];rfl
theorem Tryz.infoRSt:(Tryz.prog.info? 125).map (·.size)=some 3:=by kernel_rfl
set_option maxHeartbeats 0 in
set_option maxRecDepth 100000 in
theorem ySearch_any (s:SesD) (sv:Value) (lim:Nat) (w:World) (hsv:SesV w sv s) (hok:SesOk s) (h1:1≤lim) (h2:lim≤200) :
  Calls Tryz.prog 12 #[sv,.int .i64 lim] w (RetV fun u w'=>YsV w' s u (searchP s lim).1 (searchP s lim).2∧Frm [] w w'):=by
 have HSV:=Lib.hid hsv
 obtain⟨rv,rfl,hr⟩:=hsv
 obtain⟨ao,cap,rfl⟩:=hr.shape
 obtain⟨n,hn⟩:∃ n,s.roles.length=n:=⟨_,rfl⟩
 have HN:=Lib.hid hn
 rw[hn] at HSV ⊢
 obtain⟨W0,hW0⟩:∃ W0,(w.alloc (.cells #[.string s.name,.slice ao n cap,.int .i64 s.cls,.int .i64 s.cap] 25)).alloc (.cells #[.slice none 0 0,.slice none 0 0,.slice none 0 0,.slice none 0 0,.bool false] 39)=W0:=⟨_,rfl⟩
 have hf0:Frm [] w W0:=by rw[← hW0];exact((Frm.refl _ _).alloc _).alloc _
 have HF0:=Lib.hid hf0
 have hb0:W0.heap[w.heap.size]?=some (.cells #[.string s.name,.slice ao n cap,.int .i64 s.cls,.int .i64 s.cap] 25 (0,0)):=by rw[← hW0];exact alloc_at (heap_alloc_new _ _)
 have hb2:W0.heap[w.heap.size + 1]?=some (.cells #[.slice none 0 0,.slice none 0 0,.slice none 0 0,.slice none 0 0,.bool false] 39 (0,0)):=by rw[← hW0];exact alloc_top (by simp)
 have HB0:=Lib.hid hb0;have HB2:=Lib.hid hb2;have HOK:=Lib.hid hok;have HL1:=Lib.hid h1;have HL2:=Lib.hid h2
 have HE:=Lib.hid hW0
 have CF:=Lib.hid (qFirst_any s _ W0 (HSV.out.frm hf0) hok)
 clear hr hf0 hb0 hb2 hW0 hn hok h1 h2
 go_enter Tryz.func12,Tryz.ntmps12
 go_upto_region 1 with fail
 rw[HE.out]
 clear HE
 go_upto_region 2 with (first
  | (refine wpList_load_whole rfl 25 _ rfl _ rfl _ 25 HB0.out _ Tryz.underlying25 rfl (by kernel_rfl) ?_)
  | (go_at_call 46;go_must (refine CF.out.mono ?_;rintro e w1 ⟨u,rfl,hst,hf⟩;obtain⟨pa,pb',pw,pi,ka,kb,kw,rfl,-⟩:=id hst.out;have HST:=Lib.hid hst;have HF1:=Lib.hid hf;clear hst hf CF;rw[HN.out] at HST ⊢))
  | (refine wpList_store_row rfl 125 _ _ rfl _ _ _ _ rfl rfl (heap_alloc_new _ _) rfl (by kernel_rfl) (one3v ..) ?_;intro w2 hb3 hf3;have HB3:=Lib.hid hb3;have HF2:=Lib.hid (((Frm.refl [] w1).alloc _).then hf3 (by intro q hq;simp at hq;subst hq;exact .inr (Nat.le_refl _)));clear hb3 hf3))
 simp only[Act.put]
 obtain⟨b5,hb5⟩:∃ b,w1.heap.size=b:=⟨_,rfl⟩
 rw[hb5] at HB3 ⊢
 obtain⟨st,hst⟩:∃ st:V3,st=(.slice (some ⟨pa,0,none⟩) n ka,.slice (some ⟨pb',0,none⟩) n kb,.slice (some ⟨pw,0,none⟩) n kw):=⟨_,rfl⟩
 have hst1:a3 st=.agg #[.slice (some ⟨pa,0,none⟩) n ka,.slice (some ⟨pb',0,none⟩) n kb,.slice (some ⟨pw,0,none⟩) n kw]:=by rw[hst]
 have HST2:Hid (RSt 0 w2 s (a3 st) (firstP s)):=Lib.hid (by rw[hst1];exact(HST.out.frm HF2.out).low (Nat.zero_le _))
 have HC3:Hid (∀ V,Frm [] w2 V→V.cell? ⟨b5,0,none⟩=some st.1∧V.cell? ⟨b5,1,none⟩=some st.2.1∧V.cell? ⟨b5,2,none⟩=some st.2.2):=Lib.hid fun V hV=>by
  have hb:=hV.at HB3.out (by simp)
  rw[hst]
  exact⟨cell_of hb 0,cell_of hb 1,cell_of hb 2⟩
 rw[← hst1]
 have CK:Hid (∀ V,Frm [] w2 V→Calls Tryz.prog 47 #[a3 st] V (RetV fun v w'=>v=.string (keyS s (firstP s))∧Frm [] V w')):=Lib.hid fun V hV=>qKey_any s (a3 st) (firstP s) 0 V (HST2.out.frm hV) HOK.out
 clear HST HB3 hb5 hst hst1
 refine wp_region_inv' (fun f=>{ tmps:=#[.agg #[.string s.name,.slice ao n cap,.int .i64 s.cls,.int .i64 s.cap],.int .i64 (lim:Int),.pointer (some ⟨w.heap.size,0,none⟩),undef,.pointer (some ⟨w.heap.size + 1,0,none⟩),.pointer (some ⟨b5,0,none⟩),f 9,undef,undef,undef,undef,undef,undef,.agg #[.string s.name,.slice ao n cap,.int .i64 s.cls,.int .i64 s.cap],a3 st,f 0,f 1,f 2,f 3,f 4,f 5,f 6,f 7,f 8,undef,undef,undef,undef,undef,undef,undef,undef,undef,undef,undef,undef,undef,undef,undef,undef,undef,undef,undef,undef,undef,undef,undef,undef,undef,undef,undef,undef,undef,undef,undef,undef,undef,undef,undef,undef,undef,undef,undef,undef,undef,undef,undef,undef,undef,undef,undef,undef,undef,undef,undef,undef,undef,undef,undef,undef,undef,undef,undef,undef,undef,undef,undef,undef,undef,undef,undef,undef,undef,undef,undef,undef,undef,undef,undef],defers:=[] }) (R2 w2 st (keyS s (firstP s))) (fun _=>undef) (by kernel_rfl) (by kernel_rfl) rfl ?_ ?_ ?_
 ·exact⟨(Frm.refl [] w2).drew,(fun h=>by cases h),(fun h=>by cases h),(fun h=>by cases h),(fun h=>by cases h),(fun h=>by cases h),(fun h=>by cases h),(fun h=>by cases h),(fun h=>by cases h),(fun h=>by cases h),(fun h=>by cases h)⟩
 ·refine⟨?_,?_,?_,?_,?_,?_,?_,?_,?_,?_,?_,trivial⟩
  ·intro D f V hI hDi hdep hcl
   refine⟨rfl,fun _=>rfl,fun K' hK'=>?_⟩
   obtain⟨q0,q1,q2⟩:=HC3.out V hI.fr
   go_simp
   refine hK'.out _ _ (a3 st) rfl ?_
   have h':=hI
   exact⟨h'.fr,fun _=>rfl,h'.p1,h'.p2,h'.p3,h'.p4,h'.p5,h'.p6,h'.p7,h'.p8,h'.p9⟩
  ·intro D f V hI hDi hdep hcl
   refine⟨rfl,fun _=>rfl,fun K' hK'=>?_⟩
   have d0:D 0=true:=hdep ⟨0,Ground.data⟩ (by simp) rfl
   have e0:=hI.p0 d0
   go_simp
   refine hK'.out _ _ (.slice (some ⟨V.heap.size,0,none⟩) 1 1) (by (try simp only[e0]) <;> rfl) ?_
   have h':=hI.mono ((Frm.refl [] V).alloc (.cells #[st.1,st.2.1,st.2.2] 125))
   have d8:D 8=false:=by
    cases h8:D 8 with
    | false=>rfl
    | true =>
      have:=hcl 8 _ rfl h8 ⟨1,Ground.data⟩ (by simp) rfl
      rw[show D 1=false from hDi] at this
      cases this
   have d10:D 10=false:=by
    cases h10:D 10 with
    | false=>rfl
    | true =>
      have:=hcl 10 _ rfl h10 ⟨8,Ground.data⟩ (by simp) rfl
      rw[d8] at this
      cases this
   have p9n:=h'.p9n d10
   exact⟨h'.fr,h'.p0,fun _=>⟨_,rfl,hI.fr.size,heap_alloc_new _ _⟩,h'.p2,h'.p3,h'.p4,h'.p5,h'.p6,h'.p7,(fun h8=>by rw[show D 8=true from h8] at d8;cases d8),R2.p9k d10 p9n⟩
  ·intro D f V hI hDi hdep hcl
   refine⟨rfl,fun _=>rfl,fun K' hK'=>?_⟩
   obtain⟨q0,q1,q2⟩:=HC3.out V hI.fr
   go_simp
   refine hK'.out _ _ (a3 st) rfl ?_
   have h':=hI
   exact⟨h'.fr,h'.p0,h'.p1,fun _=>rfl,h'.p3,h'.p4,h'.p5,h'.p6,h'.p7,h'.p8,h'.p9⟩
  ·intro D f V hI hDi hdep hcl
   refine⟨rfl,fun _=>rfl,fun K' hK'=>?_⟩
   have d2:D 2=true:=hdep ⟨2,Ground.data⟩ (by simp) rfl
   have e2:=hI.p2 d2
   go_simp
   refine(CK.out V hI.fr).mono ?_
   rintro e w' ⟨u,rfl,rfl,hf⟩
   refine hK'.out _ _ (.string (keyS s (firstP s))) (by (try simp only[e2]) <;> rfl) ?_
   have h':=hI.mono hf
   exact⟨h'.fr,h'.p0,h'.p1,h'.p2,fun _=>rfl,h'.p4,h'.p5,h'.p6,h'.p7,h'.p8,h'.p9⟩
  ·intro D f V hI hDi hdep hcl
   refine⟨rfl,fun _=>rfl,fun K' hK'=>?_⟩
   have d3:D 3=true:=hdep ⟨3,Ground.data⟩ (by simp) rfl
   have e3:=hI.p3 d3
   go_simp
   refine hK'.out _ _ (.slice (some ⟨V.heap.size,0,none⟩) 1 1) (by (try simp only[e3]) <;> rfl) ?_
   have h':=hI.mono ((Frm.refl [] V).alloc (.cells #[.string (keyS s (firstP s))] 9))
   have d8:D 8=false:=by
    cases h8:D 8 with
    | false=>rfl
    | true =>
      have:=hcl 8 _ rfl h8 ⟨4,Ground.data⟩ (by simp) rfl
      rw[show D 4=false from hDi] at this
      cases this
   have d10:D 10=false:=by
    cases h10:D 10 with
    | false=>rfl
    | true =>
      have:=hcl 10 _ rfl h10 ⟨8,Ground.data⟩ (by simp) rfl
      rw[d8] at this
      cases this
   have p9n:=h'.p9n d10
   exact⟨h'.fr,h'.p0,h'.p1,h'.p2,h'.p3,fun _=>⟨_,rfl,hI.fr.size,heap_alloc_new _ _⟩,h'.p5,h'.p6,h'.p7,(fun h8=>by rw[show D 8=true from h8] at d8;cases d8),R2.p9k d10 p9n⟩
  ·intro D f V hI hDi hdep hcl
   refine⟨rfl,fun _=>rfl,fun K' hK'=>?_⟩
   go_simp
   refine hK'.out _ _ (.slice (some ⟨V.heap.size,0,none⟩) 1 1) rfl ?_
   have h':=hI.mono ((Frm.refl [] V).alloc (.cells #[.int .i64 (-1)] 3))
   have d8:D 8=false:=by
    cases h8:D 8 with
    | false=>rfl
    | true =>
      have:=hcl 8 _ rfl h8 ⟨5,Ground.data⟩ (by simp) rfl
      rw[show D 5=false from hDi] at this
      cases this
   have d10:D 10=false:=by
    cases h10:D 10 with
    | false=>rfl
    | true =>
      have:=hcl 10 _ rfl h10 ⟨8,Ground.data⟩ (by simp) rfl
      rw[d8] at this
      cases this
   have p9n:=h'.p9n d10
   exact⟨h'.fr,h'.p0,h'.p1,h'.p2,h'.p3,h'.p4,fun _=>⟨_,rfl,hI.fr.size,heap_alloc_new _ _⟩,h'.p6,h'.p7,(fun h8=>by rw[show D 8=true from h8] at d8;cases d8),R2.p9k d10 p9n⟩
  ·intro D f V hI hDi hdep hcl
   refine⟨rfl,fun _=>rfl,fun K' hK'=>?_⟩
   go_simp
   refine hK'.out _ _ zM rfl ?_
   have h':=hI
   exact⟨h'.fr,h'.p0,h'.p1,h'.p2,h'.p3,h'.p4,h'.p5,fun _=>rfl,h'.p7,h'.p8,h'.p9⟩
  ·intro D f V hI hDi hdep hcl
   refine⟨rfl,fun _=>rfl,fun K' hK'=>?_⟩
   have d6:D 6=true:=hdep ⟨6,Ground.data⟩ (by simp) rfl
   have e6:=hI.p6 d6
   go_simp
   refine hK'.out _ _ (.slice (some ⟨V.heap.size,0,none⟩) 1 1) (by (try simp only[e6]) <;> rfl) ?_
   have h':=hI.mono ((Frm.refl [] V).alloc (.cells #[.int .i64 0,.int .i64 0,.int .i64 0,.int .i64 0] 129))
   have d8:D 8=false:=by
    cases h8:D 8 with
    | false=>rfl
    | true =>
      have:=hcl 8 _ rfl h8 ⟨7,Ground.data⟩ (by simp) rfl
      rw[show D 7=false from hDi] at this
      cases this
   have d10:D 10=false:=by
    cases h10:D 10 with
    | false=>rfl
    | true =>
      have:=hcl 10 _ rfl h10 ⟨8,Ground.data⟩ (by simp) rfl
      rw[d8] at this
      cases this
   have p9n:=h'.p9n d10
   exact⟨h'.fr,h'.p0,h'.p1,h'.p2,h'.p3,h'.p4,h'.p5,h'.p6,fun _=>⟨_,rfl,hI.fr.size,heap_alloc_new _ _⟩,(fun h8=>by rw[show D 8=true from h8] at d8;cases d8),R2.p9k d10 p9n⟩
  ·intro D f V hI hDi hdep hcl
   refine⟨rfl,fun _=>rfl,fun K' hK'=>?_⟩
   have d1:D 1=true:=hdep ⟨1,Ground.data⟩ (by simp) rfl
   have d4:D 4=true:=hdep ⟨4,Ground.data⟩ (by simp) rfl
   have d5:D 5=true:=hdep ⟨5,Ground.data⟩ (by simp) rfl
   have d7:D 7=true:=hdep ⟨7,Ground.data⟩ (by simp) rfl
   obtain⟨b1,e1,-⟩:=hI.p1 d1
   obtain⟨b4,e4,-⟩:=hI.p4 d4
   obtain⟨b5,e5,-⟩:=hI.p5 d5
   obtain⟨b7,e7,-⟩:=hI.p7 d7
   go_simp
   refine hK'.out _ _ (.agg #[.slice (some ⟨b1,0,none⟩) 1 1,.slice (some ⟨b4,0,none⟩) 1 1,.slice (some ⟨b5,0,none⟩) 1 1,.slice (some ⟨b7,0,none⟩) 1 1,.bool true]) (by (try simp only[e1,e4,e5,e7]) <;> rfl) ?_
   have h':=hI
   exact⟨h'.fr,h'.p0,h'.p1,h'.p2,h'.p3,h'.p4,h'.p5,h'.p6,h'.p7,fun _=>by show _=Value.agg #[f 1,f 4,f 5,f 7,.bool true];rw[e1,e4,e5,e7];rfl,h'.p9⟩
  ·intro D f V hI hDi hdep hcl
   refine⟨rfl,fun _=>rfl,fun K' hK'=>?_⟩
   have d10:D 10=false:=by
    cases h10:D 10 with
    | false=>rfl
    | true =>
      have:=hcl 10 _ rfl h10 ⟨9,Ground.data⟩ (by simp) rfl
      rw[hDi] at this;cases this
   go_simp
   refine hK'.out _ _ (.pointer (some ⟨V.heap.size,0,none⟩)) rfl ?_
   have h':=hI.mono ((Frm.refl [] V).alloc (.cells zSp 39))
   exact⟨h'.fr,h'.p0,h'.p1,h'.p2,h'.p3,h'.p4,h'.p5,h'.p6,h'.p7,h'.p8,fun _=>⟨_,rfl,hI.fr.size,by show _=some (Obj.cells (if D 10=true then _ else _) _ _);rw[if_neg (by rw[d10];decide)];exact heap_alloc_new _ _⟩⟩
  ·intro D f V hI hDi hdep hcl
   refine⟨rfl,fun _=>rfl,fun K' hK'=>?_⟩
   have d8:D 8=true:=hdep ⟨8,Ground.data⟩ (by simp) rfl
   have d9:D 9=true:=hdep ⟨9,Ground.data⟩ (by simp) rfl
   have d1:D 1=true:=hcl 8 _ rfl d8 ⟨1,Ground.data⟩ (by simp) rfl
   have d4:D 4=true:=hcl 8 _ rfl d8 ⟨4,Ground.data⟩ (by simp) rfl
   have d5:D 5=true:=hcl 8 _ rfl d8 ⟨5,Ground.data⟩ (by simp) rfl
   have d7:D 7=true:=hcl 8 _ rfl d8 ⟨7,Ground.data⟩ (by simp) rfl
   obtain⟨b1,e1,l1,c1⟩:=hI.p1 d1
   obtain⟨b4,e4,l4,c4⟩:=hI.p4 d4
   obtain⟨b5,e5,l5,c5⟩:=hI.p5 d5
   obtain⟨b7,e7,l7,c7⟩:=hI.p7 d7
   obtain⟨b,e9,l9,c9⟩:=hI.p9 d9
   have e8:=hI.p8 d8
   rw[if_neg (by rw[hDi];decide)] at c9
   rw[e1,e4,e5,e7] at e8
   refine wp_store_row 39 _ _ rfl b _ _ 39 e9 e8 c9 rfl Tryz.infoRSp (by simp[Value.oneCell']) ?_
   intro V' hb' hf'
   refine hK'.out _ _ undef (by (try simp only[e1,e4,e5,e7,e9,e8]) <;> rfl) ?_
   have hty:∀ k∈[b],Ty V k 39:=fun k hk=>by rw[List.mem_singleton] at hk;subst hk;exact⟨_,c9⟩
   have hno:∀ e:TypeId,e≠39→∀ k∈[b],¬ Ty V k e:=fun e he k hk hk2=>hk2.ne (hty k hk) he rfl
   exact⟨hI.fr.then hf' (by intro k hk;simp at hk;subst hk;exact .inr l9),hI.p0,fun d=>(hI.p1 d).frm hf' (hno _ (by decide)),hI.p2,hI.p3,fun d=>(hI.p4 d).frm hf' (hno _ (by decide)),fun d=>(hI.p5 d).frm hf' (hno _ (by decide)),hI.p6,fun d=>(hI.p7 d).frm hf' (hno _ (by decide)),hI.p8,
    fun d=>⟨b,e9,l9,by show _=some (Obj.cells (if true=true then #[f 1,f 4,f 5,f 7,.bool true] else _) _ _);rw[if_pos rfl,e1,e4,e5,e7];exact hb'⟩⟩
 ·intro D f V hD hI
  dsimp only
  obtain⟨pb,g1,g4,g5,g7,e9,hyw⟩:=hI.made hD (HF1.out.trans HF2.out) HST2.out
  rw[e9]
  have HYW:=Lib.hid hyw
  clear hI hD hyw e9
  go_upto_region 4 with fail
  go_loopw [7] (fun s7 wr=>∃ (k f':Nat) (T:List V3) (N:List Nd) (vs vk vp vm:Value),s7=.int .i64 k∧YW W0 s pb T N vs vk vp vm wr∧bfs s lim f' k N=searchP s lim∧lim + 1≤k + f'∧k≤N.length∧1≤N.length∧N.length≤lim) (fun s7 _=>lim + 1 - (intOf s7).toNat)
  case atStart=>exact⟨0,lim + 1,_,_,_,_,_,_,rfl,HYW.out,rfl,by omega,by simp,by simp,by simpa using HL1.out⟩
  case round =>
   obtain⟨k,f',T,N,vs,vk,vp,vm,rfl,hyw,hbf,hkf,hk,hN1,hN2⟩:=hrel
   obtain⟨a0,c0,a1,c1,a2,c2,a3',c3',rfl,rfl,rfl,rfl⟩:=hyw.shape
   have HYW2:=Lib.hid hyw;have HBF:=Lib.hid hbf
   clear hyw hbf HYW HST2 HC3 CK HF1 HF2
   obtain⟨wq,hwq⟩:∃ wq,wq=wr:=⟨_,rfl⟩
   subst hwq
   have HBX:Hid (∀ V,Frm [] wq V→V.cell? ⟨pb,0,none⟩=some (.slice a0 N.length c0)):=Lib.hid fun V hV=>cell_of (hV.at HYW2.out.b (by simp)) 0
   have x0:=HBX.out wq (Frm.refl _ _)
   by_cases hlt:k < N.length
   ·have hlt':(k:Int) < (N.length:Int):=by omega
    obtain⟨d,hd⟩:∃ d,N[k]?=some d:=⟨_,List.getElem?_eq_getElem hlt⟩
    obtain⟨t0,gS0,cS0,e,hc,hrs⟩:=HYW2.out.state hd
    injection e with e ec1 ec2
    subst e
    have HRS:=Lib.hid hrs;have HD:=Lib.hid hd;have HCT:=Lib.hid hc
    have HS6:=Lib.hid (HYW2.out.r.fr.at HB0.out (by simp))
    clear hrs hd hc
    go_upto_region 6 with fail
    clear x0
    refine wp_region_cqt 6 (by kernel_rfl) (by kernel_rfl) ?_
    simp only[List.take_succ_cons,List.take_zero,List.drop_succ_cons,List.drop_zero]
    repeat (first
     | go_big_quiet_skip
     | (refine wpQuiet_want (by rfl) (fun K hK=>?_)
        first
         | (refine quiet_move _ (by rfl) (hK _ ?_))
         | (refine quiet_assign _ (by rfl) (hK _ ?_))
         | (refine cq_row 25 _ rfl w.heap.size rfl #[.string s.name,.slice ao n cap,.int .i64 s.cls,.int .i64 s.cap] 25 HS6.out _ Tryz.underlying25 rfl (by kernel_rfl) (hK _ ?_))
         | (apply Exists.intro
            refine⟨fun w' hC=>?_,hK _ ?_⟩
            ·(unfold Oper.quietAt
              obtain⟨q0,q1,q2⟩:=HCT.out w' hC;have x0:=HBX.out w' hC
              clear hC
              go_simp
              try exact⟨rfl,rfl⟩
              try rfl))
        clear hK K
        try simp only[nrm,Act.eval,nrq]))
    refine wpQuiet_nil ?_
    intro wm hfm
    have HFm:=Lib.hid hfm
    clear hfm
    have HW0m:Hid (Frm [] W0 wm):=Lib.hid (HYW2.out.r.fr.trans HFm.out)
    have CM:=Lib.hid (qMoves_own s _ (a3 t0) d.st 0 wm (HSV.out.frm (HF0.out.trans HW0m.out)) (HRS.out.frm HFm.out) HOK.out)
    have HDO:Hid (PSok s d.st):=Lib.hid HRS.out.ok
    go_upto_region 8 with (first
     | (go_at_call 48;go_must (refine CM.out.mono ?_;rintro e wn ⟨v,rfl,hro,hf⟩;obtain⟨aM,cM,rfl⟩:=own_shape hro;have HRO:=Lib.hid hro;have HFn:=Lib.hid hf;clear hro hf CM)))
    obtain⟨ms,hms⟩:∃ ms,movesP s d.st=ms:=⟨_,rfl⟩
    have HML:Hid (ms.length≤5000):=Lib.hid (by rw[← hms];exact moves_len HOK.out HDO.out)
    have HMM:Hid (∀ m∈ms,m∈movesP s d.st):=Lib.hid fun m hm=>by rw[hms];exact hm
    have HMS:=Lib.hid hms
    rw[hms] at HRO ⊢
    clear hms
    obtain⟨nm,hnm⟩:∃ nm,ms.length=nm:=⟨_,rfl⟩
    have HNM:=Lib.hid hnm
    have hro:wn.ownsRow wm.heap.size 129 4 (.slice aM ms.length cM) ms.length (mvC ms):=HRO.out
    rw[hnm] at hro HML ⊢
    have HROW:Hid (wn.ownsRow 0 129 4 (.slice aM nm cM) nm (mvC ms)):=Lib.hid (own_low hro (Nat.zero_le _))
    have HBM:Hid (∀ b,(Value.slice aM nm cM).ownBlock=some b→wm.heap.size≤b):=Lib.hid fun b hb=>ownBlock_ge hro hb
    have HYWn:=Lib.hid (HYW2.out.frm (HFm.out.trans HFn.out))
    have HDN:Hid (N≠[]):=Lib.hid fun e=>by rw[e] at hN1;simp at hN1
    have HLE:=Lib.hid hN2
    have HKF:=Lib.hid hkf
    have HLT:=Lib.hid hlt
    have HKL:=Lib.hid hk
    clear hnm hro HRO HS6 HBX HCT HRS hlt' hkf hk hN1 hN2 hlt
    go_loopw [9] (fun s9 wr=>∃ (i:Nat) (T':List V3) (N' M:List Nd) (vs vk vp vm:Value),s9=.int .i64 i∧YW W0 s pb T' N' vs vk vp vm wr∧N'=N ++ M∧addMv s lim d.st k d.lvl N (ms.take i)=(N',true)∧i≤nm∧N'.length≤lim ∧
     wr.ownsRow 0 129 4 (.slice aM nm cM) nm (mvC ms)∧(∀ b,(Value.slice aM nm cM).ownBlock=some b→vm.ownBlock≠some b)) (fun s9 _=>nm - (intOf s9).toNat)
    case atStart=>exact⟨0,T,N,[],_,_,_,_,rfl,HYWn.out,by simp,rfl,Nat.zero_le _,HLE.out,HROW.out,fun b hb hb2=>by
     have h1:=HBM.out b hb
     have h2:=(own_ty (HYW2.out.frm HFm.out).r.rm hb2).lt
     omega⟩
    case round =>
     obtain⟨i,T',N',M,vs,vk,vp,vm,rfl,hyw,hNM,had,hi,hNl,hrow,hsep⟩:=hrel
     obtain⟨a0,c0,a1,c1,a2,c2,a3',c3',rfl,rfl,rfl,rfl⟩:=hyw.shape
     have HYI:=Lib.hid hyw;have HNN:=Lib.hid hNM;have HAD:=Lib.hid had;have HRW:=Lib.hid hrow;have HSP:=Lib.hid hsep;have HIN:=Lib.hid hi;have HNL:=Lib.hid hNl
     clear hyw hNM had hrow hsep HROW HYWn
     obtain⟨wi,hwi⟩:∃ x,x=wr:=⟨_,rfl⟩
     subst hwi
     by_cases hlt:i < nm
     ·have hlt':(i:Int) < (nm:Int):=by omega
      obtain⟨m,hm⟩:∃ m,ms[i]?=some m:=⟨_,List.getElem?_eq_getElem (by rw[HNM.out];exact hlt)⟩
      have hmem:=HMM.out m (List.mem_of_getElem? hm)
      have hdN:N'[k]?=some d:=by rw[HNN.out,List.getElem?_append_left HLT.out];exact HD.out
      obtain⟨t,gS,cS,e,hc,hrs⟩:=HYI.out.state hdN
      injection e with e ec1 ec2
      subst e
      obtain⟨gM,cM',curM,e,-,-⟩:=own_block HRW.out (by omega)
      injection e with e ec3 ec4
      subst e
      obtain⟨v0,v1,v2,v3⟩:=mvC_at hm
      have hcl:=mvC_length ms
      have hcM:MvAt wi gM (i * 4) m:=⟨by rw[World.ownsRow.cellAt HRW.out _ (by have:=HNM.out;omega)];exact v0,by rw[World.ownsRow.cellAt HRW.out _ (by have:=HNM.out;omega)];exact v1,by rw[World.ownsRow.cellAt HRW.out _ (by have:=HNM.out;omega)];exact v2,by rw[World.ownsRow.cellAt HRW.out _ (by have:=HNM.out;omega)];exact v3⟩
      have HRS:=Lib.hid hrs;have HMEM:=Lib.hid hmem;have HI:=Lib.hid hm
      have HS6:Hid (∀ V,Frm [] wi V→V.heap[w.heap.size]?=some (.cells #[.string s.name,.slice ao n cap,.int .i64 s.cls,.int .i64 s.cap] 25 (0,0))):=Lib.hid fun V hV=>(HYI.out.r.fr.trans hV).at HB0.out (by simp)
      have HCT:Hid (∀ V,Frm [] wi V→(V.cell? ⟨gS,k * 3,none⟩=some t.1∧V.cell? ⟨gS,k * 3 + 1,none⟩=some t.2.1∧V.cell? ⟨gS,k * 3 + 2,none⟩=some t.2.2)∧MvAt V gM (i * 4) m∧V.cell? ⟨pb,0,none⟩=some (.slice (some ⟨gS,0,none⟩) N'.length c0)):=Lib.hid fun V hV =>
       ⟨hc V hV,hcM.frm hV,cell_of (hV.at HYI.out.b (by simp)) 0⟩
      have hkn:(k:Int) < (N'.length:Int):=by have:=lt_of_some hdN;omega
      clear hmem hrs hc hcM hm v0 v1 v2 v3 hcl ec1 ec2 ec3 ec4 hdN
      go_upto_region 10 with fail
      have HZ:Hid (∀ V,Frm [] wi V→V.cell? ⟨w.heap.size,0,none⟩=some (.string s.name)∧V.cell? ⟨w.heap.size,1,none⟩=some (.slice ao n cap)∧V.cell? ⟨w.heap.size,2,none⟩=some (.int .i64 s.cls)∧V.cell? ⟨w.heap.size,3,none⟩=some (.int .i64 s.cap)):=Lib.hid fun V hV =>
       ⟨cell_of (HS6.out V hV) 0,cell_of (HS6.out V hV) 1,cell_of (HS6.out V hV) 2,cell_of (HS6.out V hV) 3⟩
      have CD:=Lib.hid (fun V (hV:Frm [] wi V)=>qDo_yes s _ (a3 t) d.st 0 V m (HSV.out.frm (HF0.out.trans (HYI.out.r.fr.trans hV))) (HRS.out.frm hV) HOK.out HMEM.out HN.out)
      go_cut [10,11] from 44 to 57 (fun s10 s11 wc=>∃ (q:Nat) (t':V3),s10=.pointer (some ⟨q,0,none⟩)∧s11=.bool true∧wc.heap[q]?=some (.cells #[t'.1,t'.2.1,t'.2.2] 125 (0,0))∧wi.heap.size≤q∧RSt 0 wc s (a3 t') (nextP s d.st m)∧Frm [] wi wc)
      case first =>
       refine heldL_start [] (wrFrom 15) (by kernel_rfl) ?_
       refine cnt 0 ?_
       iterate 10
        refine hcL ?_ ?_ ?_
        rotate_left
        ·intro w' hC
         obtain⟨⟨q0,q1,q2⟩,⟨m0,m1,m2,m3⟩,x0⟩:=HCT.out w' ((Frm.refl [] wi).drew.trans hC)
         obtain⟨z0,z1,z2,z3⟩:=HZ.out w' ((Frm.refl [] wi).drew.trans hC)
         clear hC
         go_simp
         try rfl
        try simp only[nrm,Nat.reduceAdd]
       refine tcn ?_
       obtain⟨wd,hwd⟩:∃ wd,wi.drew=wd:=⟨_,rfl⟩
       have HFD:Hid (Frm [] wi wd):=Lib.hid (by rw[← hwd];exact(Frm.refl _ _).drew)
       rw[hwd]
       clear hwd
       refine heldL_all (rs:=[10,14]) (by kernel_rfl) (by simp) (allL_cons ?_ (allL_cons ?_ allL_nil))
       ·skip
        refine heldL_step (i:=10) rfl rfl (by rfl) (fun K' hK'=>?_)
        go_simp
        (refine(CD.out wd HFD.out).mono ?_;rintro e w1 ⟨u,rfl,hf,pa,pb2,pw,ka,kb,kc,rfl,hst⟩;have HST1:=Lib.hid hst;have HF1:=Lib.hid hf;clear hst)
        refine hK'.out _ _ (hf) ?_
        clear hK' K'
        try simp only[nrm]
        refine cnt 11 ?_
        iterate 3
         refine hcP ?_ ?_ ?_
         rotate_left
         ·intro w'
          go_simp
          try rfl
         try simp only[nrm,Nat.reduceAdd]
        refine tcn ?_
        refine honL 14 ?_
        refine heldL_step (i:=14) rfl rfl (by rfl) (fun K' hK'=>?_)
        go_simp
        (skip)
        refine hK'.out _ _ ((Frm.refl _ _).alloc _) ?_
        clear hK' K'
        try simp only[nrm]
        have hnew:=heap_alloc_new w1 (.cells #[.slice none 0 0,.slice none 0 0,.slice none 0 0] 125)
        have hge:wi.heap.size≤w1.heap.size:=(HFD.out.trans HF1.out).size
        refine honL 15 ?_
        refine heldL_write (i:=15) rfl (by rfl) (by rfl) (fun K' hK'=>?_)
        refine wp_store_row 125 _ _ rfl w1.heap.size _ _ 125 rfl rfl hnew rfl Tryz.infoRSt (one3v ..) ?_
        intro w4 hb4 hf4
        refine hK'.out _ _ ?_
        clear hK' K'
        try simp only[nrm]
        refine honL 16 ?_
        refine heldL_write (i:=16) rfl (by rfl) (by rfl) (fun K' hK'=>?_)
        go_simp
        (skip)
        refine hK'.out _ _ ?_
        clear hK' K'
        try simp only[nrm]
        refine heldL_done (by kernel_rfl) ?_ _
        go_wp2
        go_meet
        have hf9:Frm [] w1 w4:=((Frm.refl [] w1).alloc _).then hf4 (by intro k hk;simp at hk;subst hk;exact .inr (Nat.le_refl _))
        exact⟨_,(_,_,_),rfl,rfl,hb4,hge,(HST1.out.frm hf9).low (Nat.zero_le _),HFD.out.trans (HF1.out.trans hf9)⟩
       ·skip
        refine heldL_step (i:=14) rfl rfl (by rfl) (fun K' hK'=>?_)
        go_simp
        (skip)
        refine hK'.out _ _ ((Frm.refl _ _).alloc _) ?_
        clear hK' K'
        try simp only[nrm]
        have hnew0:=heap_alloc_new wd (.cells #[.slice none 0 0,.slice none 0 0,.slice none 0 0] 125)
        have hge:wi.heap.size≤wd.heap.size:=HFD.out.size
        obtain⟨we,hwe⟩:∃ we,wd.alloc (.cells #[.slice none 0 0,.slice none 0 0,.slice none 0 0] 125)=we:=⟨_,rfl⟩
        have HFE:Hid (Frm [] wd we):=Lib.hid (by rw[← hwe];exact(Frm.refl _ _).alloc _)
        rw[hwe] at hnew0 ⊢
        clear hwe
        refine honL 10 ?_
        refine heldL_step (i:=10) rfl rfl (by rfl) (fun K' hK'=>?_)
        go_simp
        (refine(CD.out we (HFD.out.trans HFE.out)).mono ?_;rintro e w1 ⟨u,rfl,hf,pa,pb2,pw,ka,kb,kc,rfl,hst⟩;have HST1:=Lib.hid hst;have HF1:=Lib.hid hf;clear hst)
        refine hK'.out _ _ (hf) ?_
        clear hK' K'
        try simp only[nrm]
        refine cnt 11 ?_
        iterate 3
         refine hcP ?_ ?_ ?_
         rotate_left
         ·intro w'
          go_simp
          try rfl
         try simp only[nrm,Nat.reduceAdd]
        refine tcn ?_
        have hnew:=HF1.out.at hnew0 (by simp)
        refine honL 15 ?_
        refine heldL_write (i:=15) rfl (by rfl) (by rfl) (fun K' hK'=>?_)
        refine wp_store_row 125 _ _ rfl wd.heap.size _ _ 125 rfl rfl hnew rfl Tryz.infoRSt (one3v ..) ?_
        intro w4 hb4 hf4
        refine hK'.out _ _ ?_
        clear hK' K'
        try simp only[nrm]
        refine honL 16 ?_
        refine heldL_write (i:=16) rfl (by rfl) (by rfl) (fun K' hK'=>?_)
        go_simp
        (skip)
        refine hK'.out _ _ ?_
        clear hK' K'
        try simp only[nrm]
        refine heldL_done (by kernel_rfl) ?_ _
        go_wp2
        go_meet
        have hst0:RSt 0 w1 s _ (nextP s d.st m):=HST1.out.low (Nat.zero_le _)
        have hf9:Frm [] wi w4:=(HFD.out.trans (HFE.out.trans HF1.out)).then hf4 (by intro k hk;simp at hk;subst hk;exact .inr hge)
        exact⟨_,(_,_,_),rfl,rfl,hb4,hge,hst0.ty hf4 (by intro k hk;simp at hk;subst hk;exact .inl ⟨_,hnew⟩),hf9⟩
      case rest =>
      obtain⟨q,t',rfl,rfl,hq,hql,hst',hfc⟩:=hcut
      obtain⟨nx,hnx⟩:∃ x,nextP s d.st m=x:=⟨_,rfl⟩
      have HNX:=Lib.hid hnx
      rw[hnx] at hst'
      have HQ:=Lib.hid hq;have HQL:=Lib.hid hql;have HST':=Lib.hid hst';have HFC:=Lib.hid hfc
      have HYC:=Lib.hid (HYI.out.frm hfc)
      have CK2:=Lib.hid (qKey_any s (a3 t') nx 0 wc hst' HOK.out)
      have CFi:Hid (∀ V,Frm [] wc V→Calls Tryz.prog 50 #[.agg #[.slice (some ⟨gS,0,none⟩) N'.length c0,.slice a1 N'.length c1,.slice a2 N'.length c2,.slice a3' N'.length c3',.bool true],.string (keyS s nx)] V (Ret (.int .i64 (fndI s N' (keyP s nx))) (Frm [] V))):=Lib.hid fun V hV=>by
       have:=yFind_any s _ N' true (keyS s nx) V ((HYC.out.frm hV).val true) (by have:=HNL.out;have:=HL2.out;omega)
       rwa [keyS_list] at this
      have HBC:Hid (∀ V,Frm [] wc V→V.heap[pb]?=some (.cells #[.slice (some ⟨gS,0,none⟩) N'.length c0,.slice a1 N'.length c1,.slice a2 N'.length c2,.slice a3' N'.length c3',.bool true] 39 (0,0))):=Lib.hid fun V hV=>(HYC.out.frm hV).b
      have hsn:addMv s lim d.st k d.lvl N (ms.take (i + 1))=addMv s lim d.st k d.lvl N' [m]:=by
       have e:ms.take (i + 1)=ms.take i ++ [m]:=by rw[List.take_add_one,HI.out];rfl
       rw[e]
       exact addMv_snoc HAD.out
      rw[addMv_one,HNX.out] at hsn
      have HSN:=Lib.hid hsn
      clear hnx hq hql hst' hfc hsn CD HZ HS6 hkn
      have hw1:wrap64 ((i:Int) + 1)=((i + 1:Nat):Int):=by have:=HML.out;unfold wrap64;omega
      have HW1:=Lib.hid hw1
      clear hw1
      cases hk:hasK s N' (keyP s nx) with
      | true =>
        obtain⟨j,hj⟩:=fnd_has hk
        have HK:=Lib.hid hk
        rw[hj] at CFi
        clear hk hj
        go_wp2_with (first
        | (refine wpList_load_whole rfl 125 _ rfl _ rfl _ 125 HQ.out _ Tryz.underlying125 rfl (by kernel_rfl) ?_)
        | (go_at_call 47;go_must (refine CK2.out.mono ?_;rintro e w5 ⟨v,rfl,rfl,hf⟩;have HF5:=Lib.hid hf;clear hf CK2))
        | (refine wpList_load_whole rfl 39 _ rfl _ rfl _ 39 (HBC.out _ HF5.out) _ Tryz.underlying39 rfl (by kernel_rfl) ?_)
        | (go_at_call 50;go_must (refine(CFi.out _ HF5.out).mono ?_;rintro e w6 ⟨rfl,hf⟩;have HF6:=Lib.hid (HF5.out.trans hf);clear hf)))
        refine⟨⟨i + 1,T',N',M,_,_,_,_,congrArg (Value.int .i64) HW1.out,HYC.out.frm HF6.out,HNN.out,by rw[HSN.out,HK.out];rfl,hlt,HNL.out,(HFC.out.trans HF6.out).owns HRW.out (by simp),HSP.out⟩,meas_up hlt HW1.out⟩
      | false =>
        have hfn:=fnd_no hk
        have HK:=Lib.hid hk
        rw[hfn] at CFi
        rw[hk] at HSN
        clear hk hfn
        go_upto_region 13 with (first
        | (refine wpList_load_whole rfl 125 _ rfl _ rfl _ 125 HQ.out _ Tryz.underlying125 rfl (by kernel_rfl) ?_)
        | (go_at_call 47;go_must (refine CK2.out.mono ?_;rintro e w5 ⟨v,rfl,rfl,hf⟩;have HF5:=Lib.hid hf;clear hf CK2))
        | (refine wpList_load_whole rfl 39 _ rfl _ rfl _ 39 (HBC.out _ HF5.out) _ Tryz.underlying39 rfl (by kernel_rfl) ?_)
        | (go_at_call 50;go_must (refine(CFi.out _ HF5.out).mono ?_;rintro e w6 ⟨rfl,hf⟩;have HF6:=Lib.hid (HF5.out.trans hf);clear hf)))
        have x0:=cell_of (HBC.out _ HF6.out) 0
        by_cases hfull:N'.length=lim
        ·have h9:searchP s lim=(N',false):=by
          rw[← HBF.out]
          have h8:=HSN.out
          rw[if_neg (by simp),if_pos hfull] at h8
          obtain⟨f'',hf''⟩:∃ f'',f'=f'' + 1:=⟨f' - 1,by have:=HKF.out;have:=HLT.out;have:=HLE.out;omega⟩
          rw[hf'']
          refine bfs_stop HD.out ?_
          have h7:=addMv_stop (ks:=ms.drop (i + 1)) h8
          rwa [List.take_append_drop,← HMS.out] at h7
         have H9:=Lib.hid h9
         have hfi:(N'.length:Int)=(lim:Int):=by omega
         have hdc:decide ((N'.length:Int)=(lim:Int))=true:=decide_eq_true hfi
         clear h9
         have hb6:=HBC.out _ HF6.out
         have c4:=cell_of hb6 4
         have f4:=free_of hb6 4
         have hb7:(w6.setCell ⟨pb,4,none⟩ (.bool false)).heap[pb]?=some (.cells #[.slice (some ⟨gS,0,none⟩) N'.length c0,.slice a1 N'.length c1,.slice a2 N'.length c2,.slice a3' N'.length c3',.bool false] 39 (0,0)):=(block_setCell hb6 4 (.bool false)).trans rfl
         have hpr:w.heap.size + 1≠pb:=by have h1:=HYC.out.lo;have h2:=lt_of_block HB2.out;omega
         have hr7:=(setFrm w6 pb 4 (.bool false)).at ((HYC.out.r.fr.trans HF6.out).at HB2.out (by simp)) (by simpa using hpr)
         have h6:=(HYC.out.frm HF6.out).r.low HF0.out
         have h7:=h6.box (pb:=pb) ⟨_,hb6⟩ (by have h1:=HYC.out.lo;have h2:=lt_of_block HB2.out;omega) (setFrm w6 pb 4 (.bool false))
         have HB7:=Lib.hid hb7;have HR7:=Lib.hid hr7;have H7:=Lib.hid h7
         clear hb6 hb7 hr7 h6 h7 hfull hpr
         go_wp2_with (first
          | (refine wpList_load_whole rfl 39 _ rfl _ rfl _ 39 HB7.out _ Tryz.underlying39 rfl (by kernel_rfl) ?_)
          | (refine wpList_store_row rfl 39 _ _ rfl _ _ _ 39 rfl rfl HR7.out rfl Tryz.infoRSp (one5s ..) ?_;intro w8 hb8 hf8;have HB8:=Lib.hid hb8;have HF8:=Lib.hid hf8;clear hb8 hf8))
         have h8:=H7.out.box (pb:=w.heap.size + 1) ⟨_,HR7.out⟩ (by omega) HF8.out
         refine bodyPost_ret (v:=_) (results_sp rfl rfl HB8.out rfl) rfl ?_
         exact⟨_,rfl,by rw[H9.out];exact h8.val false,h8.fr⟩
        ·have hfi:¬ (N'.length:Int)=(lim:Int):=by omega
         have hdc:decide ((N'.length:Int)=(lim:Int))=false:=decide_eq_false hfi
         have hdc2:decide (N'.length=lim)=false:=decide_eq_false hfull
         have HNF:=Lib.hid hfull
         have hsn:=HSN.out
         rw[if_neg (by simp),if_neg hfull] at hsn
         have HSN2:=Lib.hid hsn
         clear hfull hsn HSN
         go_upto_region 16 with fail
         clear hfi hdc hdc2 x0
         obtain⟨i0,hs0,hs1,hs2,hs3⟩:=info_parts Tryz.infoRsB
         obtain⟨i1,hk0,hk1,hk2,hk3⟩:=info_parts Tryz.info9
         obtain⟨i2,hp0,hp1,hp2,hp3⟩:=info_parts Tryz.info3
         obtain⟨i3,hm0,hm1,hm2,hm3⟩:=info_parts Tryz.infoRm
         have HS0:Hid (0 < s.roles.length):=Lib.hid (by have:=HOK.out.n2;omega)
         have HY6:=Lib.hid (HYC.out.frm HF6.out)
         have HONE:Hid (∀ u∈c3 t',u.oneCell'=true):=Lib.hid (by
          obtain⟨ba,bb,bw,bi,ka,kb,kw,e,-⟩:=HST'.out.out
          have e1:#[t'.1,t'.2.1,t'.2.2]=_:=Value.agg.inj e
          have e2:=congrArg Array.toList e1
          have e3:c3 t'=_:=e2
          rw[e3]
          simp[Value.oneCell'])
         have hlo:∀ b∈rowsF pb (.slice (some ⟨gS,0,none⟩) N'.length c0) (.slice a1 N'.length c1) (.slice a2 N'.length c2) (.slice a3' N'.length c3'),b < wi.heap.size:=fun b hb=>by
          rcases mem_rowsF.1 hb with rfl | h | h | h | h
          ·exact lt_of_block HYI.out.b
          ·exact(own_ty HYI.out.r.rs h).lt
          ·exact(HYI.out.r.rk.ty h).lt
          ·exact(HYI.out.r.rp.ty h).lt
          ·exact(own_ty HYI.out.r.rm h).lt
         have HQF:Hid (∀ V,Frm (rowsF pb (.slice (some ⟨gS,0,none⟩) N'.length c0) (.slice a1 N'.length c1) (.slice a2 N'.length c2) (.slice a3' N'.length c3')) w6 V→V.cell? ⟨q,0,none⟩=some t'.1∧V.cell? ⟨q,1,none⟩=some t'.2.1∧V.cell? ⟨q,2,none⟩=some t'.2.2):=Lib.hid fun V hV=>by
          have h:=hV.at (HF6.out.at HQ.out (by simp)) fun hm=>by have h1:=hlo q hm;have:=HQL.out;omega
          exact⟨cell_of h 0,cell_of h 1,cell_of h 2⟩
         have HGM:Hid (gM∉rowsF pb (.slice (some ⟨gS,0,none⟩) N'.length c0) (.slice a1 N'.length c1) (.slice a2 N'.length c2) (.slice a3' N'.length c3')):=Lib.hid fun hm=>by
          have hg:Ty wi gM 129:=own_ty HRW.out rfl
          rcases mem_rowsF.1 hm with h | h | h | h | h
          ·exact hg.ne ⟨_,HYI.out.b⟩ (by decide) h
          ·exact hg.ne (own_ty HYI.out.r.rs h) (by decide) rfl
          ·exact hg.ne (HYI.out.r.rk.ty h) (by decide) rfl
          ·exact hg.ne (HYI.out.r.rp.ty h) (by decide) rfl
          ·exact HSP.out gM rfl h
         have HMF:Hid (∀ V,Frm (rowsF pb (.slice (some ⟨gS,0,none⟩) N'.length c0) (.slice a1 N'.length c1) (.slice a2 N'.length c2) (.slice a3' N'.length c3')) w6 V→MvAt V gM (i * 4) m):=Lib.hid fun V hV=>by
          have h:=(HCT.out w6 (HFC.out.trans HF6.out)).2.1
          exact⟨hV.cellAt h.1 HGM.out,hV.cellAt h.2 HGM.out,hV.cellAt h.3 HGM.out,hV.cellAt h.4 HGM.out⟩
         clear hlo HCT HBC HBF HD HOK HSV
         obtain⟨b68,hb68⟩:∃ b,((N'.length:Int) == (lim:Int))=b:=⟨_,rfl⟩
         rw[hb68]
         clear hb68
         refine wp_region_inv' (fun g9=>{ tmps:=#[.agg #[.string s.name,.slice ao n cap,.int .i64 s.cls,.int .i64 s.cap],.int .i64 (lim:Int),.pointer (some ⟨w.heap.size,0,none⟩),undef,.pointer (some ⟨w.heap.size + 1,0,none⟩),.pointer (some ⟨b5,0,none⟩),.pointer (some ⟨pb,0,none⟩),.int .i64 (k:Int),.slice (some ⟨gM,0,none⟩) nm cM,.int .i64 (i:Int),.pointer (some ⟨q,0,none⟩),.bool true,.string { data:=(keyP s nx).toArray },.agg #[.string s.name,.slice ao n cap,.int .i64 s.cls,.int .i64 s.cap],a3 st,f 0,f 1,f 2,f 3,f 4,f 5,f 6,f 7,f 8,.int .i64 (k:Int),.pointer (some ⟨pb,0,none⟩),.slice (some ⟨gS0,0,none⟩) N.length cS0,.int .i64 (N.length:Int),.bool true,u29,u30,.agg #[.string s.name,.slice ao n cap,.int .i64 s.cls,.int .i64 s.cap],.pointer (some ⟨pb,0,none⟩),.slice (some ⟨gS0,0,none⟩) N.length cS0,.int .i64 (k:Int),.pointer (some ⟨gS0,k * 3,none⟩),.agg #[t0.fst,t0.snd.fst,t0.snd.snd],.slice (some ⟨gM,0,none⟩) nm cM,.int .i64 (i:Int),.slice (some ⟨gM,0,none⟩) nm cM,.int .i64 (nm:Int),.bool true,u42,u43,u44,u45,u46,u47,u48,u49,u50,u51,u52,u53,u54,u55,u56,u57,.agg #[t'.fst,t'.snd.fst,t'.snd.snd],.string { data:=(keyP s nx).toArray },.agg #[.slice (some ⟨gS,0,none⟩) N'.length c0,.slice a1 N'.length c1,.slice a2 N'.length c2,.slice a3' N'.length c3',.bool true],.string { data:=(keyP s nx).toArray },.int .i64 (-1),.bool false,.pointer (some ⟨pb,0,none⟩),.slice (some ⟨gS,0,none⟩) N'.length c0,.int .i64 (N'.length:Int),.int .i64 (lim:Int),.bool b68,u69,u70,g9 0,g9 1,g9 2,g9 3,g9 4,g9 5,g9 6,g9 7,g9 8,g9 9,g9 10,g9 11,g9 12,g9 13,g9 14,g9 15,g9 16,g9 17,g9 18,g9 19,g9 20,g9 21,g9 22,g9 23,g9 25,g9 27,g9 29,undef],defers:=[] }) (R16 W0 w6 s pb gM i k T' N' ⟨nx,k,m,d.lvl + 1⟩ t' m (Value.slice (some ⟨gS,0,none⟩) N'.length c0) (Value.slice a1 N'.length c1) (Value.slice a2 N'.length c2) (Value.slice a3' N'.length c3') (.slice (some ⟨gM,0,none⟩) nm cM)) (fun q=>match q with | 0=>u71 | 1=>u72 | 2=>u73 | 3=>u74 | 4=>u75 | 5=>u76 | 6=>u77 | 7=>u78 | 8=>u79 | 9=>u80 | 10=>u81 | 11=>u82 | 12=>u83 | 13=>u84 | 14=>u85 | 15=>u86 | 16=>u87 | 17=>u88 | 18=>u89 | 19=>u90 | 20=>u91 | 21=>u92 | 22=>u93 | 23=>u94 | 25=>u95 | 27=>u96 | 29=>u97 | _=>undef) (by kernel_rfl) (by kernel_rfl) rfl ?_ ?_ ?_
         ·exact R16.start HY6.out (HST'.out.frm HF6.out) _
         ·refine⟨?_,?_,?_,?_,?_,?_,?_,?_,?_,?_,?_,?_,?_,?_,?_,?_,?_,?_,?_,?_,?_,?_,?_,?_,?_,?_,?_,?_,?_,?_,?_,trivial⟩
          ·intro D f V hI hDi hdep hcl
           refine⟨rfl,fun _=>rfl,fun K' hK'=>?_⟩
           go_simp
           refine hK'.out _ _ (.pointer (some ⟨pb,0,none⟩)) rfl ?_
           exact⟨hI.yr,hI.fF,hI.om,hI.lo,(fun _=>rfl),hI.p1,hI.p2,hI.p3,hI.p5,hI.p6,hI.p7,hI.p8,hI.p10,hI.p11,hI.p12,hI.p13,hI.p15,hI.p16,hI.p17,hI.p18,hI.p19,hI.p20,hI.p21,hI.p23,hI.p25,hI.p27,hI.p29,hI.b0,hI.b1⟩
          ·intro D f V hI hDi hdep hcl
           refine⟨rfl,fun _=>rfl,fun K' hK'=>?_⟩
           have d0:D 0=true:=hdep ⟨0,Ground.data⟩ (by simp) rfl
           have e0:=hI.p0 d0
           have d24:D 24=false:=not_yet hcl (j:=24) (i:=1) (g:=.phase) rfl (by simp) rfl hDi
           have x0:=cell_of (hI.b0 d24) 0
           go_simp
           refine hK'.out _ _ (Value.slice (some ⟨gS,0,none⟩) N'.length c0) (by (try simp only[e0]) <;> rfl) ?_
           exact⟨hI.yr,hI.fF,hI.om,hI.lo,hI.p0,(fun _=>rfl),hI.p2,hI.p3,hI.p5,hI.p6,hI.p7,hI.p8,hI.p10,hI.p11,hI.p12,hI.p13,hI.p15,hI.p16,hI.p17,hI.p18,hI.p19,hI.p20,hI.p21,hI.p23,hI.p25,hI.p27,hI.p29,hI.b0,hI.b1⟩
          ·intro D f V hI hDi hdep hcl
           refine⟨rfl,fun _=>rfl,fun K' hK'=>?_⟩
           obtain⟨x0,x1,x2⟩:=HQF.out V hI.fF
           go_simp
           refine hK'.out _ _ (a3 t') rfl ?_
           exact⟨hI.yr,hI.fF,hI.om,hI.lo,hI.p0,hI.p1,(fun _=>rfl),hI.p3,hI.p5,hI.p6,hI.p7,hI.p8,hI.p10,hI.p11,hI.p12,hI.p13,hI.p15,hI.p16,hI.p17,hI.p18,hI.p19,hI.p20,hI.p21,hI.p23,hI.p25,hI.p27,hI.p29,hI.b0,hI.b1⟩
          ·intro D f V hI hDi hdep hcl
           refine⟨rfl,fun _=>rfl,fun K' hK'=>?_⟩
           have d2:D 2=true:=hdep ⟨2,Ground.data⟩ (by simp) rfl
           have e2:=hI.p2 d2
           go_simp
           refine hK'.out _ _ (.slice (some ⟨V.heap.size,0,none⟩) 1 1) (by (try simp only[e2]) <;> rfl) ?_
           have h':=hI.mono ((Frm.refl [] V).alloc (.cells #[t'.1,t'.2.1,t'.2.2] 125))
           exact⟨h'.yr,h'.fF,h'.om,h'.lo,h'.p0,h'.p1,h'.p2,(fun _ _=>⟨_,rfl,hI.fF.size,heap_alloc_new _ _⟩),h'.p5,h'.p6,h'.p7,h'.p8,h'.p10,h'.p11,h'.p12,h'.p13,h'.p15,h'.p16,h'.p17,h'.p18,h'.p19,h'.p20,h'.p21,h'.p23,h'.p25,h'.p27,h'.p29,h'.b0,h'.b1⟩
          ·intro D f V hI hDi hdep hcl
           refine⟨rfl,fun _=>rfl,fun K' hK'=>?_⟩
           have d1:D 1=true:=hdep ⟨1,Ground.data⟩ (by simp) rfl
           have d3:D 3=true:=hdep ⟨3,Ground.data⟩ (by simp) rfl
           have e1:=hI.p1 d1
           obtain⟨bt,et,lt,ct⟩:=hI.p3 d3 hDi
           have y:=hI.yr
           rw[show D 4=false from hDi] at y
           refine wp_own_step _ _ 34 rfl W0.heap.size 125 Tryz.underlying34 hs0 hs1 hs2 hs3 rfl (by decide) (Value.slice (some ⟨gS,0,none⟩) N'.length c0) N'.length _ e1 y.rs ⟨bt,0,none⟩ 1 1 (c3 t') et rfl (fun j u hu=>row_cells ct j u (by simpa using hu)) HONE.out (by have:=HNL.out;have:=HL2.out;unfold maxLen;omega) (by have:=HNL.out;have:=HL2.out;omega) y.fr.size ?_
           intro v' V' ho hg
           have d24:D 24=false:=not_yet hcl (j:=24) (i:=4) (g:=.data) rfl (by simp) rfl hDi
           have y2:=y.appS ⟨nx,k,m,d.lvl + 1⟩ t' hg ho
           have hF:Frm (Value.slice (some ⟨gS,0,none⟩) N'.length c0).ownBlock.toList V V':=(Frm.refl _ _).grown hg fun b hb=>.inl (by simp[hb])
           have hty:∀ b,(Value.slice (some ⟨gS,0,none⟩) N'.length c0).ownBlock=some b→Ty V b 125:=fun b hb=>own_ty y.rs hb
           have hpbF:pb∉(Value.slice (some ⟨gS,0,none⟩) N'.length c0).ownBlock.toList:=fun hm=>(hty pb (by rwa [Option.mem_toList] at hm)).ne ⟨_,hI.b0 d24⟩ (by decide) rfl
           refine hK'.out _ _ (v') rfl ?_
           exact⟨(y2),(hI.fF.grown hg fun b hb=>.inl (mem_rowsF.2 (.inr (.inl hb)))),hI.om,hI.lo,hI.p0,hI.p1,hI.p2,(fun _ h=>by simp[updD] at h),hI.p5,hI.p6,hI.p7,(fun a b=>(hI.p8 a b).own hF hty (by decide)),hI.p10,hI.p11,hI.p12,(fun a b=>(hI.p13 a b).own hF hty (by decide)),hI.p15,hI.p16,hI.p17,hI.p18,hI.p19,hI.p20,(fun a b=>(hI.p21 a b).own hF hty (by decide)),hI.p23,hI.p25,hI.p27,hI.p29,(fun a=>hF.at (hI.b0 a) hpbF),(fun a=>by rw[show D 24=true from a] at d24;cases d24)⟩
          ·intro D f V hI hDi hdep hcl
           refine⟨rfl,fun _=>rfl,fun K' hK'=>?_⟩
           go_simp
           refine hK'.out _ _ (.pointer (some ⟨pb,1,none⟩)) rfl ?_
           exact⟨hI.yr,hI.fF,hI.om,hI.lo,hI.p0,hI.p1,hI.p2,hI.p3,(fun _=>rfl),hI.p6,hI.p7,hI.p8,hI.p10,hI.p11,hI.p12,hI.p13,hI.p15,hI.p16,hI.p17,hI.p18,hI.p19,hI.p20,hI.p21,hI.p23,hI.p25,hI.p27,hI.p29,hI.b0,hI.b1⟩
          ·intro D f V hI hDi hdep hcl
           refine⟨rfl,fun _=>rfl,fun K' hK'=>?_⟩
           have d5:D 5=true:=hdep ⟨5,Ground.data⟩ (by simp) rfl
           have e5:=hI.p5 d5
           have d24:D 24=false:=not_yet hcl (j:=24) (i:=6) (g:=.phase) rfl (by simp) rfl hDi
           have x0:=cell_of (hI.b0 d24) 1
           go_simp
           refine hK'.out _ _ (Value.slice a1 N'.length c1) (by (try simp only[e5]) <;> rfl) ?_
           exact⟨hI.yr,hI.fF,hI.om,hI.lo,hI.p0,hI.p1,hI.p2,hI.p3,hI.p5,(fun _=>rfl),hI.p7,hI.p8,hI.p10,hI.p11,hI.p12,hI.p13,hI.p15,hI.p16,hI.p17,hI.p18,hI.p19,hI.p20,hI.p21,hI.p23,hI.p25,hI.p27,hI.p29,hI.b0,hI.b1⟩
          ·intro D f V hI hDi hdep hcl
           refine⟨rfl,fun _=>rfl,fun K' hK'=>?_⟩
           go_simp
           refine hK'.out _ _ (.string { data:=(keyP s nx).toArray }) rfl ?_
           exact⟨hI.yr,hI.fF,hI.om,hI.lo,hI.p0,hI.p1,hI.p2,hI.p3,hI.p5,hI.p6,(fun _=>rfl),hI.p8,hI.p10,hI.p11,hI.p12,hI.p13,hI.p15,hI.p16,hI.p17,hI.p18,hI.p19,hI.p20,hI.p21,hI.p23,hI.p25,hI.p27,hI.p29,hI.b0,hI.b1⟩
          ·intro D f V hI hDi hdep hcl
           refine⟨rfl,fun _=>rfl,fun K' hK'=>?_⟩
           have d7:D 7=true:=hdep ⟨7,Ground.data⟩ (by simp) rfl
           have e7:=hI.p7 d7
           go_simp
           refine hK'.out _ _ (.slice (some ⟨V.heap.size,0,none⟩) 1 1) (by (try simp only[e7]) <;> rfl) ?_
           have h':=hI.mono ((Frm.refl [] V).alloc (.cells #[kyV s ⟨nx,k,m,d.lvl + 1⟩] 9))
           exact⟨h'.yr,h'.fF,h'.om,h'.lo,h'.p0,h'.p1,h'.p2,h'.p3,h'.p5,h'.p6,h'.p7,(fun _ _=>⟨_,rfl,hI.fF.size,heap_alloc_new _ _⟩),h'.p10,h'.p11,h'.p12,h'.p13,h'.p15,h'.p16,h'.p17,h'.p18,h'.p19,h'.p20,h'.p21,h'.p23,h'.p25,h'.p27,h'.p29,h'.b0,h'.b1⟩
          ·intro D f V hI hDi hdep hcl
           refine⟨rfl,fun _=>rfl,fun K' hK'=>?_⟩
           have d6:D 6=true:=hdep ⟨6,Ground.data⟩ (by simp) rfl
           have d8:D 8=true:=hdep ⟨8,Ground.data⟩ (by simp) rfl
           have e6:=hI.p6 d6
           obtain⟨bt,et,lt,ct⟩:=hI.p8 d8 hDi
           have y:=hI.yr
           rw[show D 9=false from hDi] at y
           refine wp_z_step _ _ 35 rfl y.rk Tryz.underlying35 hk0 hk1 hk2 hk3 rfl e6 ⟨bt,0,none⟩ 1 (kyV s ⟨nx,k,m,d.lvl + 1⟩) et (row_cells ct 0 _ rfl) rfl (by rw[List.length_map];have:=HNL.out;have:=HL2.out;unfold maxLen;show N'.length + 1≤_;omega) (by rw[List.length_map];have:=HNL.out;have:=HL2.out;show (N'.length + 1) * _≤_;omega) y.fr.size ?_
           intro v' V' ho hc hown
           have d22:D 22=false:=not_yet hcl (j:=22) (i:=14) (g:=.chain) rfl (by simp) rfl (not_yet hcl (j:=14) (i:=9) (g:=.chain) rfl (by simp) rfl hDi)
           have d24:D 24=false:=not_yet hcl (j:=24) (i:=22) (g:=.chain) rfl (by simp) rfl d22
           have y2:=y.appK ⟨nx,k,m,d.lvl + 1⟩ ho hc
           have hF:Frm (Value.slice a1 N'.length c1).ownBlock.toList V V':=by
            rcases hc with h | ⟨g,hg,-,h⟩
            ·exact h.mono (by simp)
            ·have:=h.fr
             rw[show (Value.slice a1 N'.length c1).ownBlock=some g from hg]
             exact this
           have hmem:∀ b∈(Value.slice a1 N'.length c1).ownBlock.toList,b∈rowsF pb (Value.slice (some ⟨gS,0,none⟩) N'.length c0) (Value.slice a1 N'.length c1) (Value.slice a2 N'.length c2) (Value.slice a3' N'.length c3'):=fun b hb=>mem_rowsF.2 (.inr <| .inr <| .inl (by rwa [Option.mem_toList] at hb))
           have hty:∀ b,(Value.slice a1 N'.length c1).ownBlock=some b→Ty V b 9:=fun b hb=>y.rk.ty hb
           have hpbF:pb∉(Value.slice a1 N'.length c1).ownBlock.toList:=fun hm=>(hty pb (by rwa [Option.mem_toList] at hm)).ne ⟨_,hI.b0 d24⟩ (by decide) rfl
           refine hK'.out _ _ (v') rfl ?_
           exact⟨(y2),(hI.fF.trans (hF.mono fun b hb=>.inl (hmem b hb))),hI.om,hI.lo,hI.p0,hI.p1,hI.p2,(fun a b=>(hI.p3 a b).own hF hty (by decide)),hI.p5,hI.p6,hI.p7,(fun _ h=>by simp[updD] at h),hI.p10,hI.p11,hI.p12,(fun a b=>(hI.p13 a b).own hF hty (by decide)),hI.p15,hI.p16,hI.p17,hI.p18,hI.p19,hI.p20,(fun a b=>(hI.p21 a b).own hF hty (by decide)),hI.p23,hI.p25,hI.p27,hI.p29,(fun a=>hF.at (hI.b0 a) hpbF),(fun a=>by rw[show D 24=true from a] at d24;cases d24)⟩
          ·intro D f V hI hDi hdep hcl
           refine⟨rfl,fun _=>rfl,fun K' hK'=>?_⟩
           go_simp
           refine hK'.out _ _ (.pointer (some ⟨pb,2,none⟩)) rfl ?_
           exact⟨hI.yr,hI.fF,hI.om,hI.lo,hI.p0,hI.p1,hI.p2,hI.p3,hI.p5,hI.p6,hI.p7,hI.p8,(fun _=>rfl),hI.p11,hI.p12,hI.p13,hI.p15,hI.p16,hI.p17,hI.p18,hI.p19,hI.p20,hI.p21,hI.p23,hI.p25,hI.p27,hI.p29,hI.b0,hI.b1⟩
          ·intro D f V hI hDi hdep hcl
           refine⟨rfl,fun _=>rfl,fun K' hK'=>?_⟩
           have d10:D 10=true:=hdep ⟨10,Ground.data⟩ (by simp) rfl
           have e10:=hI.p10 d10
           have d24:D 24=false:=not_yet hcl (j:=24) (i:=11) (g:=.phase) rfl (by simp) rfl hDi
           have x0:=cell_of (hI.b0 d24) 2
           go_simp
           refine hK'.out _ _ (Value.slice a2 N'.length c2) (by (try simp only[e10]) <;> rfl) ?_
           exact⟨hI.yr,hI.fF,hI.om,hI.lo,hI.p0,hI.p1,hI.p2,hI.p3,hI.p5,hI.p6,hI.p7,hI.p8,hI.p10,(fun _=>rfl),hI.p12,hI.p13,hI.p15,hI.p16,hI.p17,hI.p18,hI.p19,hI.p20,hI.p21,hI.p23,hI.p25,hI.p27,hI.p29,hI.b0,hI.b1⟩
          ·intro D f V hI hDi hdep hcl
           refine⟨rfl,fun _=>rfl,fun K' hK'=>?_⟩
           go_simp
           refine hK'.out _ _ (.int .i64 (k:Int)) rfl ?_
           exact⟨hI.yr,hI.fF,hI.om,hI.lo,hI.p0,hI.p1,hI.p2,hI.p3,hI.p5,hI.p6,hI.p7,hI.p8,hI.p10,hI.p11,(fun _=>rfl),hI.p13,hI.p15,hI.p16,hI.p17,hI.p18,hI.p19,hI.p20,hI.p21,hI.p23,hI.p25,hI.p27,hI.p29,hI.b0,hI.b1⟩
          ·intro D f V hI hDi hdep hcl
           refine⟨rfl,fun _=>rfl,fun K' hK'=>?_⟩
           have d12:D 12=true:=hdep ⟨12,Ground.data⟩ (by simp) rfl
           have e12:=hI.p12 d12
           go_simp
           refine hK'.out _ _ (.slice (some ⟨V.heap.size,0,none⟩) 1 1) (by (try simp only[e12]) <;> rfl) ?_
           have h':=hI.mono ((Frm.refl [] V).alloc (.cells #[.int .i64 (k:Int)] 3))
           exact⟨h'.yr,h'.fF,h'.om,h'.lo,h'.p0,h'.p1,h'.p2,h'.p3,h'.p5,h'.p6,h'.p7,h'.p8,h'.p10,h'.p11,h'.p12,(fun _ _=>⟨_,rfl,hI.fF.size,heap_alloc_new _ _⟩),h'.p15,h'.p16,h'.p17,h'.p18,h'.p19,h'.p20,h'.p21,h'.p23,h'.p25,h'.p27,h'.p29,h'.b0,h'.b1⟩
          ·intro D f V hI hDi hdep hcl
           refine⟨rfl,fun _=>rfl,fun K' hK'=>?_⟩
           have d11:D 11=true:=hdep ⟨11,Ground.data⟩ (by simp) rfl
           have d13:D 13=true:=hdep ⟨13,Ground.data⟩ (by simp) rfl
           have e11:=hI.p11 d11
           obtain⟨bt,et,lt,ct⟩:=hI.p13 d13 hDi
           have y:=hI.yr
           rw[show D 14=false from hDi] at y
           refine wp_z_step _ _ 36 rfl y.rp Tryz.underlying36 hp0 hp1 hp2 hp3 rfl e11 ⟨bt,0,none⟩ 1 (.int .i64 (k:Int)) et (row_cells ct 0 _ rfl) rfl (by rw[List.length_map];have:=HNL.out;have:=HL2.out;unfold maxLen;show N'.length + 1≤_;omega) (by rw[List.length_map];have:=HNL.out;have:=HL2.out;show (N'.length + 1) * _≤_;omega) y.fr.size ?_
           intro v' V' ho hc hown
           have d22:D 22=false:=not_yet hcl (j:=22) (i:=14) (g:=.chain) rfl (by simp) rfl hDi
           have d24:D 24=false:=not_yet hcl (j:=24) (i:=22) (g:=.chain) rfl (by simp) rfl d22
           have y2:=y.appP HS0.out ⟨nx,k,m,d.lvl + 1⟩ ho hc
           have hF:Frm (Value.slice a2 N'.length c2).ownBlock.toList V V':=by
            rcases hc with h | ⟨g,hg,-,h⟩
            ·exact h.mono (by simp)
            ·have:=h.fr
             rw[show (Value.slice a2 N'.length c2).ownBlock=some g from hg]
             exact this
           have hmem:∀ b∈(Value.slice a2 N'.length c2).ownBlock.toList,b∈rowsF pb (Value.slice (some ⟨gS,0,none⟩) N'.length c0) (Value.slice a1 N'.length c1) (Value.slice a2 N'.length c2) (Value.slice a3' N'.length c3'):=fun b hb=>mem_rowsF.2 (.inr <| .inr <| .inr <| .inl (by rwa [Option.mem_toList] at hb))
           have hty:∀ b,(Value.slice a2 N'.length c2).ownBlock=some b→Ty V b 3:=fun b hb=>y.rp.ty hb
           have hpbF:pb∉(Value.slice a2 N'.length c2).ownBlock.toList:=fun hm=>(hty pb (by rwa [Option.mem_toList] at hm)).ne ⟨_,hI.b0 d24⟩ (by decide) rfl
           refine hK'.out _ _ (v') rfl ?_
           exact⟨(y2),(hI.fF.trans (hF.mono fun b hb=>.inl (hmem b hb))),hI.om,hI.lo,hI.p0,hI.p1,hI.p2,(fun a b=>(hI.p3 a b).own hF hty (by decide)),hI.p5,hI.p6,hI.p7,(fun a b=>(hI.p8 a b).own hF hty (by decide)),hI.p10,hI.p11,hI.p12,(fun _ h=>by simp[updD] at h),hI.p15,hI.p16,hI.p17,hI.p18,hI.p19,hI.p20,(fun a b=>(hI.p21 a b).own hF hty (by decide)),hI.p23,hI.p25,hI.p27,hI.p29,(fun a=>hF.at (hI.b0 a) hpbF),(fun a=>by rw[show D 24=true from a] at d24;cases d24)⟩
          ·intro D f V hI hDi hdep hcl
           refine⟨rfl,fun _=>rfl,fun K' hK'=>?_⟩
           go_simp
           refine hK'.out _ _ (.pointer (some ⟨pb,3,none⟩)) rfl ?_
           exact⟨hI.yr,hI.fF,hI.om,hI.lo,hI.p0,hI.p1,hI.p2,hI.p3,hI.p5,hI.p6,hI.p7,hI.p8,hI.p10,hI.p11,hI.p12,hI.p13,(fun _=>rfl),hI.p16,hI.p17,hI.p18,hI.p19,hI.p20,hI.p21,hI.p23,hI.p25,hI.p27,hI.p29,hI.b0,hI.b1⟩
          ·intro D f V hI hDi hdep hcl
           refine⟨rfl,fun _=>rfl,fun K' hK'=>?_⟩
           have d15:D 15=true:=hdep ⟨15,Ground.data⟩ (by simp) rfl
           have e15:=hI.p15 d15
           have d24:D 24=false:=not_yet hcl (j:=24) (i:=16) (g:=.phase) rfl (by simp) rfl hDi
           have x0:=cell_of (hI.b0 d24) 3
           go_simp
           refine hK'.out _ _ (Value.slice a3' N'.length c3') (by (try simp only[e15]) <;> rfl) ?_
           exact⟨hI.yr,hI.fF,hI.om,hI.lo,hI.p0,hI.p1,hI.p2,hI.p3,hI.p5,hI.p6,hI.p7,hI.p8,hI.p10,hI.p11,hI.p12,hI.p13,hI.p15,(fun _=>rfl),hI.p17,hI.p18,hI.p19,hI.p20,hI.p21,hI.p23,hI.p25,hI.p27,hI.p29,hI.b0,hI.b1⟩
          ·intro D f V hI hDi hdep hcl
           refine⟨rfl,fun _=>rfl,fun K' hK'=>?_⟩
           go_simp
           refine hK'.out _ _ (.slice (some ⟨gM,0,none⟩) nm cM) rfl ?_
           exact⟨hI.yr,hI.fF,hI.om,hI.lo,hI.p0,hI.p1,hI.p2,hI.p3,hI.p5,hI.p6,hI.p7,hI.p8,hI.p10,hI.p11,hI.p12,hI.p13,hI.p15,hI.p16,(fun _=>rfl),hI.p18,hI.p19,hI.p20,hI.p21,hI.p23,hI.p25,hI.p27,hI.p29,hI.b0,hI.b1⟩
          ·intro D f V hI hDi hdep hcl
           refine⟨rfl,fun _=>rfl,fun K' hK'=>?_⟩
           go_simp
           refine hK'.out _ _ (.int .i64 (i:Int)) rfl ?_
           exact⟨hI.yr,hI.fF,hI.om,hI.lo,hI.p0,hI.p1,hI.p2,hI.p3,hI.p5,hI.p6,hI.p7,hI.p8,hI.p10,hI.p11,hI.p12,hI.p13,hI.p15,hI.p16,hI.p17,(fun _=>rfl),hI.p19,hI.p20,hI.p21,hI.p23,hI.p25,hI.p27,hI.p29,hI.b0,hI.b1⟩
          ·intro D f V hI hDi hdep hcl
           refine⟨rfl,fun _=>rfl,fun K' hK'=>?_⟩
           have d17:D 17=true:=hdep ⟨17,Ground.data⟩ (by simp) rfl
           have d18:D 18=true:=hdep ⟨18,Ground.data⟩ (by simp) rfl
           have e17:=hI.p17 d17
           have e18:=hI.p18 d18
           go_simp
           refine hK'.out _ _ (.pointer (some ⟨gM,i * 4,none⟩)) (by (try simp only[e17,e18]) <;> rfl) ?_
           exact⟨hI.yr,hI.fF,hI.om,hI.lo,hI.p0,hI.p1,hI.p2,hI.p3,hI.p5,hI.p6,hI.p7,hI.p8,hI.p10,hI.p11,hI.p12,hI.p13,hI.p15,hI.p16,hI.p17,hI.p18,(fun _=>rfl),hI.p20,hI.p21,hI.p23,hI.p25,hI.p27,hI.p29,hI.b0,hI.b1⟩
          ·intro D f V hI hDi hdep hcl
           refine⟨rfl,fun _=>rfl,fun K' hK'=>?_⟩
           have d19:D 19=true:=hdep ⟨19,Ground.data⟩ (by simp) rfl
           have e19:=hI.p19 d19
           obtain⟨m0,m1,m2,m3⟩:=HMF.out V hI.fF
           go_simp
           refine hK'.out _ _ (mvV m) (by (try simp only[e19]) <;> rfl) ?_
           exact⟨hI.yr,hI.fF,hI.om,hI.lo,hI.p0,hI.p1,hI.p2,hI.p3,hI.p5,hI.p6,hI.p7,hI.p8,hI.p10,hI.p11,hI.p12,hI.p13,hI.p15,hI.p16,hI.p17,hI.p18,hI.p19,(fun _=>rfl),hI.p21,hI.p23,hI.p25,hI.p27,hI.p29,hI.b0,hI.b1⟩
          ·intro D f V hI hDi hdep hcl
           refine⟨rfl,fun _=>rfl,fun K' hK'=>?_⟩
           have d20:D 20=true:=hdep ⟨20,Ground.data⟩ (by simp) rfl
           have e20:=hI.p20 d20
           go_simp
           refine hK'.out _ _ (.slice (some ⟨V.heap.size,0,none⟩) 1 1) (by (try simp only[e20]) <;> rfl) ?_
           have h':=hI.mono ((Frm.refl [] V).alloc (.cells #[.int .i64 m.kind,.int .i64 m.role,.int .i64 m.step,.int .i64 m.place] 129))
           exact⟨h'.yr,h'.fF,h'.om,h'.lo,h'.p0,h'.p1,h'.p2,h'.p3,h'.p5,h'.p6,h'.p7,h'.p8,h'.p10,h'.p11,h'.p12,h'.p13,h'.p15,h'.p16,h'.p17,h'.p18,h'.p19,h'.p20,(fun _ _=>⟨_,rfl,hI.fF.size,heap_alloc_new _ _⟩),h'.p23,h'.p25,h'.p27,h'.p29,h'.b0,h'.b1⟩
          ·intro D f V hI hDi hdep hcl
           refine⟨rfl,fun _=>rfl,fun K' hK'=>?_⟩
           have d16:D 16=true:=hdep ⟨16,Ground.data⟩ (by simp) rfl
           have d21:D 21=true:=hdep ⟨21,Ground.data⟩ (by simp) rfl
           have e16:=hI.p16 d16
           obtain⟨bt,et,lt,ct⟩:=hI.p21 d21 hDi
           have y:=hI.yr
           have hom:=hI.om
           rw[show D 22=false from hDi] at y hom
           refine wp_own_stepL _ _ 37 rfl W0.heap.size 129 Tryz.underlying37 hm0 hm1 hm2 hm3 rfl (by decide) (Value.slice a3' N'.length c3') N'.length _ e16 y.rm ⟨bt,0,none⟩ 1 1 (mvC1 m) et rfl (fun j u hu=>row_cells ct j u (by simpa using hu)) (by simp[mvC1,Value.oneCell']) (by have:=HNL.out;have:=HL2.out;unfold maxLen;omega) (by have:=HNL.out;have:=HL2.out;omega) y.fr.size ?_
           intro v' V' ho hg hown
           have d24:D 24=false:=not_yet hcl (j:=24) (i:=22) (g:=.chain) rfl (by simp) rfl hDi
           have y2:=y.appM ⟨nx,k,m,d.lvl + 1⟩ hg ho
           have hF:Frm (Value.slice a3' N'.length c3').ownBlock.toList V V':=(Frm.refl _ _).grown hg fun b hb=>.inl (by simp[hb])
           have hty:∀ b,(Value.slice a3' N'.length c3').ownBlock=some b→Ty V b 129:=fun b hb=>own_ty y.rm hb
           have hpbF:pb∉(Value.slice a3' N'.length c3').ownBlock.toList:=fun hm=>(hty pb (by rwa [Option.mem_toList] at hm)).ne ⟨_,hI.b0 d24⟩ (by decide) rfl
           have hsz:=hI.fF.size
           refine hK'.out _ _ (v') rfl ?_
           exact⟨(y2),(hI.fF.grown hg fun b hb=>.inl (mem_rowsF.2 (.inr <| .inr <| .inr <| .inr hb))),(fun b (hb:v'.ownBlock=some b)=>by
            rcases hown with h | h
            ·exact .inl (by rw[← h];exact hb)
            ·rw[hb] at h;cases h;exact .inr hsz),hI.lo,hI.p0,hI.p1,hI.p2,(fun a b=>(hI.p3 a b).own hF hty (by decide)),hI.p5,hI.p6,hI.p7,(fun a b=>(hI.p8 a b).own hF hty (by decide)),hI.p10,hI.p11,hI.p12,(fun a b=>(hI.p13 a b).own hF hty (by decide)),hI.p15,hI.p16,hI.p17,hI.p18,hI.p19,hI.p20,(fun _ h=>by simp[updD] at h),hI.p23,hI.p25,hI.p27,hI.p29,(fun a=>hF.at (hI.b0 a) hpbF),(fun a=>by rw[show D 24=true from a] at d24;cases d24)⟩
          ·intro D f V hI hDi hdep hcl
           refine⟨rfl,fun _=>rfl,fun K' hK'=>?_⟩
           go_simp
           refine hK'.out _ _ (.pointer (some ⟨pb,0,none⟩)) rfl ?_
           exact⟨hI.yr,hI.fF,hI.om,hI.lo,hI.p0,hI.p1,hI.p2,hI.p3,hI.p5,hI.p6,hI.p7,hI.p8,hI.p10,hI.p11,hI.p12,hI.p13,hI.p15,hI.p16,hI.p17,hI.p18,hI.p19,hI.p20,hI.p21,(fun _=>rfl),hI.p25,hI.p27,hI.p29,hI.b0,hI.b1⟩
          ·intro D f V hI hDi hdep hcl
           refine⟨rfl,fun _=>rfl,fun K' hK'=>?_⟩
           have d22:D 22=true:=hdep ⟨22,.chain⟩ (by simp) rfl
           have d14:D 14=true:=hcl 22 _ rfl d22 ⟨14,.chain⟩ (by simp) rfl
           have d9:D 9=true:=hcl 14 _ rfl d14 ⟨9,.chain⟩ (by simp) rfl
           have d4:D 4=true:=hcl 9 _ rfl d9 ⟨4,.chain⟩ (by simp) rfl
           have d23:D 23=true:=hdep ⟨23,Ground.data⟩ (by simp) rfl
           have ea:=hI.p23 d23
           have y:=hI.yr
           have d26:D 26=false:=not_yet hcl (j:=26) (i:=24) (g:=.chain) rfl (by simp) rfl hDi
           have d28:D 28=false:=not_yet hcl (j:=28) (i:=26) (g:=.chain) rfl (by simp) rfl d26
           have d30:D 30=false:=not_yet hcl (j:=30) (i:=28) (g:=.chain) rfl (by simp) rfl d28
           have hb:=hI.b0 hDi
           obtain⟨ax,cx,ex⟩:∃ a c,f 4=.slice a (N'.length + 1) c:=by
            have h:=y.rs
            rw[d4] at h
            obtain⟨a,c,e⟩:=own_shape h
            exact⟨a,c,by rw[show f 4=_ from e];simp⟩
           have x0:=cell_of hb 0
           have x1:=free_of hb 0
           have y2:=y.box ⟨_,hb⟩ hI.lo (setFrm V pb 0 (Value.slice ax (N'.length + 1) cx))
           have hF9:=hI.fF.setCell ⟨pb,0,none⟩ (.inl (mem_rowsF.2 (.inl rfl))) (Value.slice ax (N'.length + 1) cx)
           have hbn:=block_setCell hb 0 (Value.slice ax (N'.length + 1) cx)
           have HY2:=Lib.hid y2;have HF9:=Lib.hid hF9;have HBN:=Lib.hid hbn
           clear y y2 hF9 hbn hb
           go_simp
           refine hK'.out _ _ (undef) (by (try simp only[ea,ex]) <;> rfl) ?_
           exact⟨(HY2.out),(HF9.out),hI.om,hI.lo,hI.p0,hI.p1,hI.p2,(fun _ h=>by rw[show D 4=false from h] at d4;cases d4),hI.p5,hI.p6,hI.p7,(fun _ h=>by rw[show D 9=false from h] at d9;cases d9),hI.p10,hI.p11,hI.p12,(fun _ h=>by rw[show D 14=false from h] at d14;cases d14),hI.p15,hI.p16,hI.p17,hI.p18,hI.p19,hI.p20,(fun _ h=>by rw[show D 22=false from h] at d22;cases d22),hI.p23,hI.p25,hI.p27,hI.p29,(fun h=>by simp[updD] at h),(fun _=>by
            show _=some (Obj.cells #[f 4,cur (D 26) (f 9) (Value.slice a1 N'.length c1),cur (D 28) (f 14) (Value.slice a2 N'.length c2),cur (D 30) (f 22) (Value.slice a3' N'.length c3'),.bool true] _ _)
            rw[d26,d28,d30,ex]
            exact HBN.out.trans rfl)⟩
          ·intro D f V hI hDi hdep hcl
           refine⟨rfl,fun _=>rfl,fun K' hK'=>?_⟩
           go_simp
           refine hK'.out _ _ (.pointer (some ⟨pb,1,none⟩)) rfl ?_
           exact⟨hI.yr,hI.fF,hI.om,hI.lo,hI.p0,hI.p1,hI.p2,hI.p3,hI.p5,hI.p6,hI.p7,hI.p8,hI.p10,hI.p11,hI.p12,hI.p13,hI.p15,hI.p16,hI.p17,hI.p18,hI.p19,hI.p20,hI.p21,hI.p23,(fun _=>rfl),hI.p27,hI.p29,hI.b0,hI.b1⟩
          ·intro D f V hI hDi hdep hcl
           refine⟨rfl,fun _=>rfl,fun K' hK'=>?_⟩
           have d22:D 22=true:=hcl 24 _ rfl (hdep ⟨24,.chain⟩ (by simp) rfl) ⟨22,.chain⟩ (by simp) rfl
           have d14:D 14=true:=hcl 22 _ rfl d22 ⟨14,.chain⟩ (by simp) rfl
           have d9:D 9=true:=hcl 14 _ rfl d14 ⟨9,.chain⟩ (by simp) rfl
           have d4:D 4=true:=hcl 9 _ rfl d9 ⟨4,.chain⟩ (by simp) rfl
           have d25:D 25=true:=hdep ⟨25,Ground.data⟩ (by simp) rfl
           have ea:=hI.p25 d25
           have y:=hI.yr
           have d24:D 24=true:=hdep ⟨24,.chain⟩ (by simp) rfl
           have d28:D 28=false:=not_yet hcl (j:=28) (i:=26) (g:=.chain) rfl (by simp) rfl hDi
           have d30:D 30=false:=not_yet hcl (j:=30) (i:=28) (g:=.chain) rfl (by simp) rfl d28
           have hb:=hI.b1 d24
           rw[show D 26=false from hDi,d28,d30] at hb
           obtain⟨ax,cx,ex⟩:∃ a c,f 9=.slice a (N'.length + 1) c:=by
            have h:=y.rk
            rw[d9] at h
            obtain⟨g,c,-,e,-⟩:=h
            exact⟨some ⟨g,0,none⟩,c,by rw[show f 9=_ from e];simp⟩
           have x0:=cell_of hb 1
           have x1:=free_of hb 1
           have y2:=y.box ⟨_,hb⟩ hI.lo (setFrm V pb 1 (Value.slice ax (N'.length + 1) cx))
           have hF9:=hI.fF.setCell ⟨pb,1,none⟩ (.inl (mem_rowsF.2 (.inl rfl))) (Value.slice ax (N'.length + 1) cx)
           have hbn:=block_setCell hb 1 (Value.slice ax (N'.length + 1) cx)
           have HY2:=Lib.hid y2;have HF9:=Lib.hid hF9;have HBN:=Lib.hid hbn
           clear y y2 hF9 hbn hb
           go_simp
           refine hK'.out _ _ (undef) (by (try simp only[ea,ex]) <;> rfl) ?_
           exact⟨(HY2.out),(HF9.out),hI.om,hI.lo,hI.p0,hI.p1,hI.p2,(fun _ h=>by rw[show D 4=false from h] at d4;cases d4),hI.p5,hI.p6,hI.p7,(fun _ h=>by rw[show D 9=false from h] at d9;cases d9),hI.p10,hI.p11,hI.p12,(fun _ h=>by rw[show D 14=false from h] at d14;cases d14),hI.p15,hI.p16,hI.p17,hI.p18,hI.p19,hI.p20,(fun _ h=>by rw[show D 22=false from h] at d22;cases d22),hI.p23,hI.p25,hI.p27,hI.p29,(fun h=>by rw[show D 24=false from h] at d24;cases d24),(fun _=>by
            show _=some (Obj.cells #[f 4,cur true (f 9) (Value.slice a1 N'.length c1),cur (D 28) (f 14) (Value.slice a2 N'.length c2),cur (D 30) (f 22) (Value.slice a3' N'.length c3'),.bool true] _ _)
            rw[d28,d30,ex]
            exact HBN.out.trans rfl)⟩
          ·intro D f V hI hDi hdep hcl
           refine⟨rfl,fun _=>rfl,fun K' hK'=>?_⟩
           go_simp
           refine hK'.out _ _ (.pointer (some ⟨pb,2,none⟩)) rfl ?_
           exact⟨hI.yr,hI.fF,hI.om,hI.lo,hI.p0,hI.p1,hI.p2,hI.p3,hI.p5,hI.p6,hI.p7,hI.p8,hI.p10,hI.p11,hI.p12,hI.p13,hI.p15,hI.p16,hI.p17,hI.p18,hI.p19,hI.p20,hI.p21,hI.p23,hI.p25,(fun _=>rfl),hI.p29,hI.b0,hI.b1⟩
          ·intro D f V hI hDi hdep hcl
           refine⟨rfl,fun _=>rfl,fun K' hK'=>?_⟩
           have d22:D 22=true:=hcl 24 _ rfl (hcl 26 _ rfl (hdep ⟨26,.chain⟩ (by simp) rfl) ⟨24,.chain⟩ (by simp) rfl) ⟨22,.chain⟩ (by simp) rfl
           have d14:D 14=true:=hcl 22 _ rfl d22 ⟨14,.chain⟩ (by simp) rfl
           have d9:D 9=true:=hcl 14 _ rfl d14 ⟨9,.chain⟩ (by simp) rfl
           have d4:D 4=true:=hcl 9 _ rfl d9 ⟨4,.chain⟩ (by simp) rfl
           have d27:D 27=true:=hdep ⟨27,Ground.data⟩ (by simp) rfl
           have ea:=hI.p27 d27
           have y:=hI.yr
           have d26:D 26=true:=hdep ⟨26,.chain⟩ (by simp) rfl
           have d24:D 24=true:=hcl 26 _ rfl d26 ⟨24,.chain⟩ (by simp) rfl
           have d30:D 30=false:=not_yet hcl (j:=30) (i:=28) (g:=.chain) rfl (by simp) rfl hDi
           have hb:=hI.b1 d24
           rw[d26,show D 28=false from hDi,d30] at hb
           obtain⟨ax,cx,ex⟩:∃ a c,f 14=.slice a (N'.length + 1) c:=by
            have h:=y.rp
            rw[d14] at h
            obtain⟨g,c,-,e,-⟩:=h
            exact⟨some ⟨g,0,none⟩,c,by rw[show f 14=_ from e];simp⟩
           have x0:=cell_of hb 2
           have x1:=free_of hb 2
           have y2:=y.box ⟨_,hb⟩ hI.lo (setFrm V pb 2 (Value.slice ax (N'.length + 1) cx))
           have hF9:=hI.fF.setCell ⟨pb,2,none⟩ (.inl (mem_rowsF.2 (.inl rfl))) (Value.slice ax (N'.length + 1) cx)
           have hbn:=block_setCell hb 2 (Value.slice ax (N'.length + 1) cx)
           have HY2:=Lib.hid y2;have HF9:=Lib.hid hF9;have HBN:=Lib.hid hbn
           clear y y2 hF9 hbn hb
           go_simp
           refine hK'.out _ _ (undef) (by (try simp only[ea,ex]) <;> rfl) ?_
           exact⟨(HY2.out),(HF9.out),hI.om,hI.lo,hI.p0,hI.p1,hI.p2,(fun _ h=>by rw[show D 4=false from h] at d4;cases d4),hI.p5,hI.p6,hI.p7,(fun _ h=>by rw[show D 9=false from h] at d9;cases d9),hI.p10,hI.p11,hI.p12,(fun _ h=>by rw[show D 14=false from h] at d14;cases d14),hI.p15,hI.p16,hI.p17,hI.p18,hI.p19,hI.p20,(fun _ h=>by rw[show D 22=false from h] at d22;cases d22),hI.p23,hI.p25,hI.p27,hI.p29,(fun h=>by rw[show D 24=false from h] at d24;cases d24),(fun _=>by
            show _=some (Obj.cells #[f 4,cur (D 26) (f 9) (Value.slice a1 N'.length c1),cur true (f 14) (Value.slice a2 N'.length c2),cur (D 30) (f 22) (Value.slice a3' N'.length c3'),.bool true] _ _)
            rw[d26,d30,ex]
            exact HBN.out.trans rfl)⟩
          ·intro D f V hI hDi hdep hcl
           refine⟨rfl,fun _=>rfl,fun K' hK'=>?_⟩
           go_simp
           refine hK'.out _ _ (.pointer (some ⟨pb,3,none⟩)) rfl ?_
           exact⟨hI.yr,hI.fF,hI.om,hI.lo,hI.p0,hI.p1,hI.p2,hI.p3,hI.p5,hI.p6,hI.p7,hI.p8,hI.p10,hI.p11,hI.p12,hI.p13,hI.p15,hI.p16,hI.p17,hI.p18,hI.p19,hI.p20,hI.p21,hI.p23,hI.p25,hI.p27,(fun _=>rfl),hI.b0,hI.b1⟩
          ·intro D f V hI hDi hdep hcl
           refine⟨rfl,fun _=>rfl,fun K' hK'=>?_⟩
           have d22:D 22=true:=hdep ⟨22,.data⟩ (by simp) rfl
           have d14:D 14=true:=hcl 22 _ rfl d22 ⟨14,.chain⟩ (by simp) rfl
           have d9:D 9=true:=hcl 14 _ rfl d14 ⟨9,.chain⟩ (by simp) rfl
           have d4:D 4=true:=hcl 9 _ rfl d9 ⟨4,.chain⟩ (by simp) rfl
           have d29:D 29=true:=hdep ⟨29,Ground.data⟩ (by simp) rfl
           have ea:=hI.p29 d29
           have y:=hI.yr
           have d28:D 28=true:=hdep ⟨28,.chain⟩ (by simp) rfl
           have d26:D 26=true:=hcl 28 _ rfl d28 ⟨26,.chain⟩ (by simp) rfl
           have d24:D 24=true:=hcl 26 _ rfl d26 ⟨24,.chain⟩ (by simp) rfl
           have hb:=hI.b1 d24
           rw[d26,d28,show D 30=false from hDi] at hb
           obtain⟨ax,cx,ex⟩:∃ a c,f 22=.slice a (N'.length + 1) c:=by
            have h:=y.rm
            rw[d22] at h
            obtain⟨a,c,e⟩:=own_shape h
            exact⟨a,c,by rw[show f 22=_ from e];simp⟩
           have x0:=cell_of hb 3
           have x1:=free_of hb 3
           have y2:=y.box ⟨_,hb⟩ hI.lo (setFrm V pb 3 (Value.slice ax (N'.length + 1) cx))
           have hF9:=hI.fF.setCell ⟨pb,3,none⟩ (.inl (mem_rowsF.2 (.inl rfl))) (Value.slice ax (N'.length + 1) cx)
           have hbn:=block_setCell hb 3 (Value.slice ax (N'.length + 1) cx)
           have HY2:=Lib.hid y2;have HF9:=Lib.hid hF9;have HBN:=Lib.hid hbn
           clear y y2 hF9 hbn hb
           go_simp
           refine hK'.out _ _ (undef) (by (try simp only[ea,ex]) <;> rfl) ?_
           exact⟨(HY2.out),(HF9.out),hI.om,hI.lo,hI.p0,hI.p1,hI.p2,(fun _ h=>by rw[show D 4=false from h] at d4;cases d4),hI.p5,hI.p6,hI.p7,(fun _ h=>by rw[show D 9=false from h] at d9;cases d9),hI.p10,hI.p11,hI.p12,(fun _ h=>by rw[show D 14=false from h] at d14;cases d14),hI.p15,hI.p16,hI.p17,hI.p18,hI.p19,hI.p20,(fun _ h=>by rw[show D 22=false from h] at d22;cases d22),hI.p23,hI.p25,hI.p27,hI.p29,(fun h=>by rw[show D 24=false from h] at d24;cases d24),(fun _=>by
            show _=some (Obj.cells #[f 4,cur (D 26) (f 9) (Value.slice a1 N'.length c1),cur (D 28) (f 14) (Value.slice a2 N'.length c2),cur true (f 22) (Value.slice a3' N'.length c3'),.bool true] _ _)
            rw[d26,d28,ex]
            exact HBN.out.trans rfl)⟩
         ·intro D f9 V hD hI
          dsimp only
          have y:=hI.yr
          have hb:=hI.b1 (hD 24 (by decide))
          have hom:=hI.om
          have hfF:=hI.fF
          rw[hD 4 (by decide),hD 9 (by decide),hD 14 (by decide),hD 22 (by decide)] at y
          rw[hD 26 (by decide),hD 28 (by decide),hD 30 (by decide)] at hb
          rw[hD 22 (by decide)] at hom
          have hyw:YW W0 s pb (T' ++ [t']) (N' ++ [⟨nx,k,m,d.lvl + 1⟩]) (f9 4) (f9 9) (f9 14) (f9 22) V:=⟨y,hb,hI.lo⟩
          have hrow:V.ownsRow 0 129 4 (.slice (some ⟨gM,0,none⟩) nm cM) nm (mvC ms):=hfF.owns ((HFC.out.trans HF6.out).owns HRW.out (by simp)) fun b hb2 hm=>by
           simp only[Value.ownBlock,Option.some.injEq] at hb2
           subst hb2
           exact HGM.out hm
          have hsep:∀ b,(Value.slice (some ⟨gM,0,none⟩) nm cM).ownBlock=some b→(f9 22).ownBlock≠some b:=fun b hb2 hb3=>by
           rcases hom b hb3 with h | h
           ·exact HSP.out b hb2 h
           ·have h1:=(own_ty ((HFC.out.trans HF6.out).owns HRW.out (by simp)) hb2).lt
            omega
          have HYV:=Lib.hid hyw;have HRV:=Lib.hid hrow;have HSV9:=Lib.hid hsep
          clear hI hD y hb hom hfF hyw hrow hsep
          go_wp2
          refine⟨⟨i + 1,T' ++ [t'],N' ++ [⟨nx,k,m,d.lvl + 1⟩],M ++ [⟨nx,k,m,d.lvl + 1⟩],_,_,_,_,congrArg (Value.int .i64) HW1.out,HYV.out,by rw[HNN.out,List.append_assoc],HSN2.out,hlt,?_,HRV.out,HSV9.out⟩,meas_up hlt HW1.out⟩
          rw[List.length_append,List.length_singleton]
          have:=HNL.out
          have:=HNF.out
          omega
     ·obtain rfl:i=nm:=by omega
      have hge:¬ (i:Int) < (i:Int):=by omega
      have hd0:decide ((i:Int) < (i:Int))=false:=decide_eq_false hge
      have htk:ms.take i=ms:=List.take_of_length_le (by rw[HNM.out];exact Nat.le_refl _)
      have had:=HAD.out
      rw[htk,← HMS.out] at had
      obtain⟨f'',hf''⟩:∃ f'',f'=f'' + 1:=⟨f' - 1,by have:=HKF.out;have:=HLT.out;have:=HLE.out;omega⟩
      have hb9:bfs s lim f'' (k + 1) N'=searchP s lim:=by
       rw[← HBF.out,hf'']
       exact(bfs_step HD.out had).symm
      have HB9:=Lib.hid hb9;have HF9:=Lib.hid hf''
      have hlen:N.length≤N'.length:=by rw[HNN.out,List.length_append];omega
      have HLN:=Lib.hid hlen
      have hw2:wrap64 ((k:Int) + 1)=((k + 1:Nat):Int):=by have:=HLT.out;have:=HLE.out;have:=HL2.out;unfold wrap64;omega
      have HW2:=Lib.hid hw2
      clear htk had hf'' hb9 hlen hw2
      go_wp2
      refine⟨⟨k + 1,f'',T',N',_,_,_,_,congrArg (Value.int .i64) HW2.out,HYI.out,HB9.out,by have:=HKF.out;have:=HF9.out;omega,by have:=HLT.out;have:=HLN.out;omega,by have:=HLT.out;have:=HLN.out;omega,HNL.out⟩,meas_up (by have:=HLT.out;have:=HLE.out;omega) HW2.out⟩
   ·obtain rfl:k=N.length:=by omega
    have hge:¬ (N.length:Int) < (N.length:Int):=by omega
    have hd0:decide ((N.length:Int) < (N.length:Int))=false:=decide_eq_false hge
    have h9:searchP s lim=(N,true):=by
     rw[← HBF.out]
     obtain⟨f'',hf''⟩:∃ f'',f'=f'' + 1:=⟨f' - 1,by omega⟩
     rw[hf'']
     exact bfs_end (by simp)
    have hb6:=HYW2.out.b
    have hr7:=HYW2.out.r.fr.at HB2.out (by simp)
    have h7:=HYW2.out.r.low HF0.out
    have H9:=Lib.hid h9;have HB7:=Lib.hid hb6;have HR7:=Lib.hid hr7;have H7:=Lib.hid h7
    clear hb6 hr7 h7 h9
    go_wp2_with (first
     | (refine wpList_load_whole rfl 39 _ rfl _ rfl _ 39 HB7.out _ Tryz.underlying39 rfl (by kernel_rfl) ?_)
     | (refine wpList_store_row rfl 39 _ _ rfl _ _ _ 39 rfl rfl HR7.out rfl Tryz.infoRSp (one5s ..) ?_;intro w8 hb8 hf8;have HB8:=Lib.hid hb8;have HF8:=Lib.hid hf8;clear hb8 hf8))
    have h8:=H7.out.box (pb:=w.heap.size + 1) ⟨_,HR7.out⟩ (by omega) HF8.out
    refine bodyPost_ret (v:=_) (results_sp rfl rfl HB8.out rfl) rfl ?_
    exact⟨_,rfl,by rw[H9.out];exact h8.val true,h8.fr⟩
end Go.Proofs.YtemjlpahohmajaaGreat
