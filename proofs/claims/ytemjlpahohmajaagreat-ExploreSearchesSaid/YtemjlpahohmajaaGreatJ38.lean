/- Part of the proof. -/
import Derived.Test.YtemjlpahohmajaaGreatJ32
import Derived.Test.YtemjlpahohmajaaGreatJ31
import Derived.Test.YtemjlpahohmajaaGreatJ33
set_option linter.all false
namespace Go.Proofs.YtemjlpahohmajaaGreat
open Go.RowKit Go.BigFrame
set_option maxHeartbeats 16000000 in
set_option maxRecDepth 100000 in
theorem qDo_out (s:SesD) (sv xv:Value) (x:PS) (B:Nat) (w:World) (hs:SesV w sv s) (hx:RSt B w s xv x) (hok:SesOk s) (kd ro st pl:Int) (hb:ro < 0∨(s.roles.length:Int)≤ro∨st < 0):Calls Tryz.prog 49 #[sv,xv,.agg #[.int .i64 kd,.int .i64 ro,.int .i64 st,.int .i64 pl]] w (RetV (DoTo w s x ⟨kd,ro,st,pl⟩)):=by
 have hd:doB s x ⟨kd,ro,st,pl⟩=false:=by unfold doB;rw[if_pos hb]
 obtain⟨rv,rfl,hr⟩:=hs
 obtain⟨ao,cap,rfl⟩:=hr.shape
 have hpok:=hx.ok
 have hxx:=hx
 obtain⟨ba,bb,bw,bi,ca,cb,cw,rfl,hro,-⟩:=hx.out
 obtain⟨n,hn⟩:∃ n,s.roles.length=n:=⟨_,rfl⟩
 have h2:2≤n:=hn ▸ hok.n2
 have h4:n≤4:=hn ▸ hok.n4
 obtain⟨W0,hW0⟩:∃ W0,(((w.alloc (.cells #[.string s.name,.slice ao s.roles.length cap,.int .i64 s.cls,.int .i64 s.cap] 25)).alloc (.cells #[.slice (some ⟨ba,0,none⟩) s.roles.length ca,.slice (some ⟨bb,0,none⟩) s.roles.length cb,.slice (some ⟨bw,0,none⟩) s.roles.length cw] 125)).alloc (.cells #[.int .i64 kd,.int .i64 ro,.int .i64 st,.int .i64 pl] 129)).alloc (.cells #[.slice none 0 0,.slice none 0 0,.slice none 0 0] 125)=W0:=⟨_,rfl⟩
 have hf0:Frm [] w W0:=by rw[← hW0];exact((((Frm.refl _ _).alloc _).alloc _).alloc _).alloc _
 have hdx:DoX w s ao s.roles.length cap ba bb bw ca cb cw ⟨kd,ro,st,pl⟩ W0:=by
  rw[← hW0]
  exact⟨alloc_at (alloc_at (alloc_at (heap_alloc_new _ _))),alloc_at (alloc_at (alloc_top (by simp))),alloc_at (alloc_top (by simp)),alloc_top (by simp)⟩
 have HW0:Hid (Frm [] w W0):=Lib.hid hf0
 have HN:=Lib.hid hn;have HOK:=Lib.hid hok;have HPK:=Lib.hid hpok;have HRO:=Lib.hid hro;have HRL:=Lib.hid hr
 rw[hn] at hdx HRL
 have HDX:=Lib.hid hdx
 have HE:=Lib.hid hW0
 have CQ0:=Lib.hid (fun V hV=>qCopied_any s _ x B V (hxx.frm hV) (by rw[hn];omega) (by rw[hn];exact h4))
 have hls:w.heap.size + 3 < W0.heap.size:=lt_of_block hdx.b3
 rw[hn] at HE CQ0
 rw[hn]
 have m0:=cell_of hdx.b2 0
 have m1:=cell_of hdx.b2 1
 have m2:=cell_of hdx.b2 2
 have m3:=cell_of hdx.b2 3
 have e1:=cell_of hdx.b0 1
 clear hr hn hok hpok hro hxx hW0 hf0 hdx hx
 rw[HN.out] at hb
 have hb':(decide (ro < 0)=true)∨(decide (ro < 0)=false∧decide ((n:Int)≤ro)=true)∨(decide (ro < 0)=false∧decide ((n:Int)≤ro)=false∧decide (st < 0)=true):=by
  by_cases h1:ro < 0
  ·exact .inl (decide_eq_true h1)
  ·by_cases h2:(n:Int)≤ro
   ·exact .inr (.inl ⟨decide_eq_false h1,decide_eq_true h2⟩)
   ·exact .inr (.inr ⟨decide_eq_false h1,decide_eq_false h2,decide_eq_true (by omega)⟩)
 have HD:=Lib.hid hd
 clear hb hd
 go_enter Tryz.func49,Tryz.ntmps49
 go_upto_region 1 with fail
 rw[HE.out]
 clear HE
 rcases hb' with h1 | ⟨h1,h3⟩ | ⟨h1,h3,h5⟩
 all_goals
  go_wp2_with (first
  | (refine wpList_load_whole rfl 125 _ rfl _ rfl _ 125 HDX.out.b1 _ Tryz.underlying125 rfl (by kernel_rfl) ?_)
  | (refine wpList_store_rowK rfl 125 _ _ rfl _ _ _ _ rfl rfl HDX.out.b3 rfl (by kernel_rfl) (one3v ..) ?_;intro w7 hb7 hf7 hk7;have HB7:=Lib.hid hb7;have HF7:=Lib.hid hf7;clear hb7 hf7 hk7))
  refine bodyPost_ret (results_s2 rfl rfl rfl HB7.out rfl) rfl ⟨_,rfl,HW0.out.then HF7.out (by intro k hk;simp at hk;omega),.inr ⟨?_,_,rfl,rfl,one3v ..⟩⟩
  exact HD.out
set_option maxHeartbeats 16000000 in
set_option maxRecDepth 100000 in
theorem qDo_lbad (s:SesD) (sv xv:Value) (x:PS) (B:Nat) (w:World) (hs:SesV w sv s) (hx:RSt B w s xv x) (hok:SesOk s) (i k:Nat) (pl:Int) (hi:i < s.roles.length) (hb:s.roles.length≤k∨k=i∨pl≠0):Calls Tryz.prog 49 #[sv,xv,.agg #[.int .i64 2,.int .i64 (i:Nat),.int .i64 (k:Nat),.int .i64 pl]] w (RetV (DoTo w s x ⟨2,(i:Nat),(k:Nat),pl⟩)):=by
 have hd:doB s x ⟨2,(i:Nat),(k:Nat),pl⟩=false:=by
  unfold doB
  rw[if_neg (by simp only;omega),if_pos rfl,if_pos (by simp only;omega)]
 obtain⟨rv,rfl,hr⟩:=hs
 obtain⟨ao,cap,rfl⟩:=hr.shape
 have hpok:=hx.ok
 have hxx:=hx
 obtain⟨ba,bb,bw,bi,ca,cb,cw,rfl,hro,-⟩:=hx.out
 obtain⟨n,hn⟩:∃ n,s.roles.length=n:=⟨_,rfl⟩
 have h2:2≤n:=hn ▸ hok.n2
 have h4:n≤4:=hn ▸ hok.n4
 obtain⟨W0,hW0⟩:∃ W0,(((w.alloc (.cells #[.string s.name,.slice ao s.roles.length cap,.int .i64 s.cls,.int .i64 s.cap] 25)).alloc (.cells #[.slice (some ⟨ba,0,none⟩) s.roles.length ca,.slice (some ⟨bb,0,none⟩) s.roles.length cb,.slice (some ⟨bw,0,none⟩) s.roles.length cw] 125)).alloc (.cells #[.int .i64 2,.int .i64 (i:Nat),.int .i64 (k:Nat),.int .i64 pl] 129)).alloc (.cells #[.slice none 0 0,.slice none 0 0,.slice none 0 0] 125)=W0:=⟨_,rfl⟩
 have hf0:Frm [] w W0:=by rw[← hW0];exact((((Frm.refl _ _).alloc _).alloc _).alloc _).alloc _
 have hdx:DoX w s ao s.roles.length cap ba bb bw ca cb cw ⟨2,(i:Nat),(k:Nat),pl⟩ W0:=by
  rw[← hW0]
  exact⟨alloc_at (alloc_at (alloc_at (heap_alloc_new _ _))),alloc_at (alloc_at (alloc_top (by simp))),alloc_at (alloc_top (by simp)),alloc_top (by simp)⟩
 have HW0:Hid (Frm [] w W0):=Lib.hid hf0
 have HN:=Lib.hid hn;have HOK:=Lib.hid hok;have HPK:=Lib.hid hpok;have HRO:=Lib.hid hro;have HRL:=Lib.hid hr
 rw[hn] at hdx HRL
 have HDX:=Lib.hid hdx
 have HE:=Lib.hid hW0
 have CQ0:=Lib.hid (fun V hV=>qCopied_any s _ x B V (hxx.frm hV) (by rw[hn];omega) (by rw[hn];exact h4))
 have hls:w.heap.size + 3 < W0.heap.size:=lt_of_block hdx.b3
 rw[hn] at HE CQ0
 rw[hn]
 have m0:=cell_of hdx.b2 0
 have m1:=cell_of hdx.b2 1
 have m2:=cell_of hdx.b2 2
 have m3:=cell_of hdx.b2 3
 have e1:=cell_of hdx.b0 1
 clear hr hn hok hpok hro hxx hW0 hf0 hdx hx
 have r1:decide ((i:Int) < 0)=false:=decide_eq_false (by omega)
 have r2:decide ((n:Int)≤(i:Int))=false:=decide_eq_false (by rw[HN.out] at hi;omega)
 have r3:decide ((k:Int) < 0)=false:=decide_eq_false (by omega)
 rw[HN.out] at hb hi
 have hb':n≤k∨(¬ n≤k∧k=i)∨(¬ n≤k∧k≠i∧pl≠0):=by omega
 have HD:=Lib.hid hd
 clear hb hd
 go_enter Tryz.func49,Tryz.ntmps49
 go_upto_region 1 with fail
 rw[HE.out]
 clear HE
 go_upto_region 4 with (first
  | (refine wpList_load_whole rfl 125 _ rfl _ rfl _ 125 HDX.out.b1 _ Tryz.underlying125 rfl (by kernel_rfl) ?_)
  | (go_at_call 90;go_must (refine(CQ0.out _ HW0.out).mono ?_;clear CQ0;rintro e w2 ⟨yv,rfl,hy,hf2⟩;obtain⟨ya,yb,yw,yi,za,zb,zw,rfl,hyo,yl1,yl2,yl3,yl4⟩:=hy.out;have HYO:=Lib.hid hyo;have HYL:=Lib.hid (And.intro yl1 (And.intro yl2 (And.intro yl3 yl4)));have HF2:=Lib.hid hf2;clear hy hyo hf2 yl1 yl2 yl3 yl4;rw[HN.out]))
  | (refine wpList_store_row rfl 125 _ _ rfl _ _ _ _ rfl rfl (heap_alloc_new _ _) rfl (by kernel_rfl) (one3v ..) ?_;intro w3 hb3 hf3;have HB3:=Lib.hid hb3;have HF3:=Lib.hid ((HF2.out.alloc _).then hf3 (by intro q hq;simp at hq;subst hq;exact .inr HF2.out.size));have HY3:=Lib.hid (HYO.out.frm (((Frm.refl [] w2).alloc _).then hf3 (by intro q hq;simp at hq;subst hq;exact .inr (Nat.le_refl _))));clear hb3 hf3))
 obtain⟨b8,hb8⟩:∃ b,w2.heap.size=b:=⟨_,rfl⟩
 have hl8:W0.heap.size≤b8:=hb8 ▸ HF2.out.size
 rw[hb8] at HB3 ⊢
 have HYS:Hid (YSt w s b8 x w3):=Lib.hid ⟨by omega,ya,yb,yw,yi,za,zb,zw,by rw[HN.out];exact HB3.out,HY3.out,by have:=HYL.out.1;omega,by have:=HYL.out.2.1;omega,by have:=HYL.out.2.2.1;omega,fun i hi=>by have:=HYL.out.2.2.2 i hi;omega⟩
 have HDX3:=Lib.hid (HDX.out.frm HF3.out (by simp))
 have HW3:Hid (Frm [] w w3):=Lib.hid (HW0.out.trans HF3.out)
 have hls3:w.heap.size + 3 < w3.heap.size:=lt_of_block HDX3.out.b3
 clear HYO HYL HF2 HY3 hb8 m0 m1 m2 m3 e1 HDX
 have m0:=cell_of HDX3.out.b2 0
 have m1:=cell_of HDX3.out.b2 1
 have m2:=cell_of HDX3.out.b2 2
 have m3:=cell_of HDX3.out.b2 3
 have e1:=cell_of HDX3.out.b0 1
 rcases hb' with h1 | ⟨h1,rfl⟩ | ⟨h1,h3,h5⟩
 ·have h1':(n:Int)≤(k:Int):=by omega
  have h1b:decide ((n:Int)≤(k:Int))=true:=decide_eq_true h1'
  go_wp2_with (first
  | (refine wpList_load_whole rfl 125 _ rfl _ rfl _ 125 HDX3.out.b1 _ Tryz.underlying125 rfl (by kernel_rfl) ?_)
  | (refine wpList_store_rowK rfl 125 _ _ rfl _ _ _ _ rfl rfl HDX3.out.b3 rfl (by kernel_rfl) (one3v ..) ?_;intro w7 hb7 hf7 hk7;have HB7:=Lib.hid hb7;have HF7:=Lib.hid hf7;clear hb7 hf7 hk7))
  refine bodyPost_ret (results_s2 rfl rfl rfl HB7.out rfl) rfl ⟨_,rfl,HW3.out.then HF7.out (by intro k hk;simp at hk;omega),.inr ⟨?_,_,rfl,rfl,one3v ..⟩⟩
  exact HD.out
 ·have h1':¬ (n:Int)≤(k:Int):=by omega
  have h1b:decide ((n:Int)≤(k:Int))=false:=decide_eq_false h1'
  go_wp2_with (first
  | (refine wpList_load_whole rfl 125 _ rfl _ rfl _ 125 HDX3.out.b1 _ Tryz.underlying125 rfl (by kernel_rfl) ?_)
  | (refine wpList_store_rowK rfl 125 _ _ rfl _ _ _ _ rfl rfl HDX3.out.b3 rfl (by kernel_rfl) (one3v ..) ?_;intro w7 hb7 hf7 hk7;have HB7:=Lib.hid hb7;have HF7:=Lib.hid hf7;clear hb7 hf7 hk7))
  refine bodyPost_ret (results_s2 rfl rfl rfl HB7.out rfl) rfl ⟨_,rfl,HW3.out.then HF7.out (by intro k hk;simp at hk;omega),.inr ⟨?_,_,rfl,rfl,one3v ..⟩⟩
  exact HD.out
 ·have h1':¬ (n:Int)≤(k:Int):=by omega
  have h1b:decide ((n:Int)≤(k:Int))=false:=decide_eq_false h1'
  have h3':((k:Int) == (i:Int))=false:=by rw[beq_eq_false_iff_ne];omega
  have h5b:(pl == 0)=false:=by rw[beq_eq_false_iff_ne];exact h5
  have h5c:(pl != 0)=true:=by rw[bne_iff_ne];exact h5
  go_wp2_with (first
  | (refine wpList_load_whole rfl 125 _ rfl _ rfl _ 125 HDX3.out.b1 _ Tryz.underlying125 rfl (by kernel_rfl) ?_)
  | (refine wpList_store_rowK rfl 125 _ _ rfl _ _ _ _ rfl rfl HDX3.out.b3 rfl (by kernel_rfl) (one3v ..) ?_;intro w7 hb7 hf7 hk7;have HB7:=Lib.hid hb7;have HF7:=Lib.hid hf7;clear hb7 hf7 hk7))
  refine bodyPost_ret (results_s2 rfl rfl rfl HB7.out rfl) rfl ⟨_,rfl,HW3.out.then HF7.out (by intro k hk;simp at hk;omega),.inr ⟨?_,_,rfl,rfl,one3v ..⟩⟩
  exact HD.out
theorem Lf.kt {T:List TypeId} {W V:World} {lv:Value} {L:List ByteArray} (hl:Lf W lv L) (h:Kt T W V) (h9:9∉T:=by decide):Lf V lv L:=h.strs hl h9
set_option maxHeartbeats 16000000 in
set_option maxRecDepth 100000 in
theorem qDo_lose (s:SesD) (sv xv:Value) (x:PS) (B:Nat) (w:World) (hs:SesV w sv s) (hx:RSt B w s xv x) (hok:SesOk s) (i k:Nat) (hi:i < s.roles.length) (hk:k < s.roles.length) (hne:k≠i):Calls Tryz.prog 49 #[sv,xv,.agg #[.int .i64 2,.int .i64 (i:Nat),.int .i64 (k:Nat),.int .i64 0]] w (RetV (DoTo w s x ⟨2,(i:Nat),(k:Nat),0⟩)):=by
 have hd:doB s x ⟨2,(i:Nat),(k:Nat),0⟩=decide (loseE s.cls (x.way i k)=0):=by
  unfold doB
  rw[if_neg (by simp only;omega),if_pos rfl,if_neg (by simp only;omega)]
  rfl
 have hnx:nextP s x ⟨2,(i:Nat),(k:Nat),0⟩={ x with ways:=setWay x.ways i k (loseL s.cls (x.way i k)) }:=next_lose s x i k 0
 obtain⟨rv,rfl,hr⟩:=hs
 obtain⟨ao,cap,rfl⟩:=hr.shape
 have hpok:=hx.ok
 have hxx:=hx
 obtain⟨ba,bb,bw,bi,ca,cb,cw,rfl,hro,-⟩:=hx.out
 obtain⟨n,hn⟩:∃ n,s.roles.length=n:=⟨_,rfl⟩
 have h2:2≤n:=hn ▸ hok.n2
 have h4:n≤4:=hn ▸ hok.n4
 obtain⟨W0,hW0⟩:∃ W0,(((w.alloc (.cells #[.string s.name,.slice ao s.roles.length cap,.int .i64 s.cls,.int .i64 s.cap] 25)).alloc (.cells #[.slice (some ⟨ba,0,none⟩) s.roles.length ca,.slice (some ⟨bb,0,none⟩) s.roles.length cb,.slice (some ⟨bw,0,none⟩) s.roles.length cw] 125)).alloc (.cells #[.int .i64 2,.int .i64 (i:Nat),.int .i64 (k:Nat),.int .i64 0] 129)).alloc (.cells #[.slice none 0 0,.slice none 0 0,.slice none 0 0] 125)=W0:=⟨_,rfl⟩
 have hf0:Frm [] w W0:=by rw[← hW0];exact((((Frm.refl _ _).alloc _).alloc _).alloc _).alloc _
 have hdx:DoX w s ao s.roles.length cap ba bb bw ca cb cw ⟨2,(i:Nat),(k:Nat),0⟩ W0:=by
  rw[← hW0]
  exact⟨alloc_at (alloc_at (alloc_at (heap_alloc_new _ _))),alloc_at (alloc_at (alloc_top (by simp))),alloc_at (alloc_top (by simp)),alloc_top (by simp)⟩
 have HW0:Hid (Frm [] w W0):=Lib.hid hf0
 have HN:=Lib.hid hn;have HOK:=Lib.hid hok;have HPK:=Lib.hid hpok;have HRO:=Lib.hid hro;have HRL:=Lib.hid hr
 rw[hn] at hdx HRL
 have HDX:=Lib.hid hdx
 have HE:=Lib.hid hW0
 have CQ0:=Lib.hid (fun V hV=>qCopied_any s _ x B V (hxx.frm hV) (by rw[hn];omega) (by rw[hn];exact h4))
 have hls:w.heap.size + 3 < W0.heap.size:=lt_of_block hdx.b3
 rw[hn] at HE CQ0
 rw[hn]
 have m0:=cell_of hdx.b2 0
 have m1:=cell_of hdx.b2 1
 have m2:=cell_of hdx.b2 2
 have m3:=cell_of hdx.b2 3
 have e1:=cell_of hdx.b0 1
 clear hr hn hok hpok hro hxx hW0 hf0 hdx hx
 have r1:decide ((i:Int) < 0)=false:=decide_eq_false (by omega)
 have r2:decide ((n:Int)≤(i:Int))=false:=decide_eq_false (by rw[HN.out] at hi;omega)
 have r3:decide ((k:Int) < 0)=false:=decide_eq_false (by omega)
 have q1:decide ((n:Int)≤(k:Int))=false:=decide_eq_false (by rw[HN.out] at hk;omega)
 have q2:((k:Int) == (i:Int))=false:=by rw[beq_eq_false_iff_ne];omega
 have hin:(i:Int) < (n:Int):=by rw[HN.out] at hi;omega
 have hkn:(k:Int) < (n:Int):=by rw[HN.out] at hk;omega
 have hlen:(x.way i k).length≤64:=by have:=(HPK.out.wb i k hi hk).1;have:=HOK.out.k4;omega
 obtain⟨ci,hci⟩:=HRO.out.w i hi
 obtain⟨lv,g0,g1,g2,g3⟩:=HRO.out.r i k hi hk
 have CL:=Lib.hid (fun V (hV:Frm [] w V)=>refLose_any s.cls s.cap lv (x.way i k) V (g3.frm hV (by simp)) hlen)
 obtain⟨lva,lvc,rfl,-⟩:=g3.shape
 obtain⟨LM,hLM⟩:∃ M,loseM s.cls (x.way i k)=M:=⟨_,rfl⟩
 obtain⟨LE,hLE⟩:∃ M,loseE s.cls (x.way i k)=M:=⟨_,rfl⟩
 obtain⟨LL,hLL⟩:∃ M,loseL s.cls (x.way i k)=M:=⟨_,rfl⟩
 obtain⟨ln,hln⟩:∃ M,LL.length=M:=⟨_,rfl⟩
 rw[hLM,hLE,hLL] at CL
 rw[hLE] at hd
 rw[hLL] at hnx
 have HLLe:=Lib.hid hLL
 have HLN:=Lib.hid hln
 have HD:=Lib.hid hd;have HNX:=Lib.hid hnx
 have HIK:=Lib.hid (And.intro hi (And.intro hk hne))
 rw[HN.out] at hci
 have HG:Hid (∀ V,Frm [] w V→(V.cell? ⟨bw,i,none⟩=some (.slice (some ⟨bi i,0,none⟩) n ci)∧V.cell? ⟨bi i,k * 3,none⟩=some (.int .i64 s.cls))∧V.cell? ⟨bi i,k * 3 + 1,none⟩=some (.int .i64 s.cap)∧V.cell? ⟨bi i,k * 3 + 2,none⟩=some (.slice lva (x.way i k).length lvc)):=Lib.hid fun V hV=>⟨⟨hV.keep hci,hV.keep g0⟩,hV.keep g1,hV.keep g2⟩
 clear hd hnx hLM hLE hLL hln hci g0 g1 g2 g3 hlen hi hk
 go_enter Tryz.func49,Tryz.ntmps49
 go_upto_region 1 with fail
 rw[HE.out]
 clear HE
 go_upto_region 4 with (first
  | (refine wpList_load_whole rfl 125 _ rfl _ rfl _ 125 HDX.out.b1 _ Tryz.underlying125 rfl (by kernel_rfl) ?_)
  | (go_at_call 90;go_must (refine(CQ0.out _ HW0.out).mono ?_;clear CQ0;rintro e w2 ⟨yv,rfl,hy,hf2⟩;obtain⟨ya,yb,yw,yi,za,zb,zw,rfl,hyo,yl1,yl2,yl3,yl4⟩:=hy.out;have HYO:=Lib.hid hyo;have HYL:=Lib.hid (And.intro yl1 (And.intro yl2 (And.intro yl3 yl4)));have HF2:=Lib.hid hf2;clear hy hyo hf2 yl1 yl2 yl3 yl4;rw[HN.out]))
  | (refine wpList_store_row rfl 125 _ _ rfl _ _ _ _ rfl rfl (heap_alloc_new _ _) rfl (by kernel_rfl) (one3v ..) ?_;intro w3 hb3 hf3;have HB3:=Lib.hid hb3;have HF3:=Lib.hid ((HF2.out.alloc _).then hf3 (by intro q hq;simp at hq;subst hq;exact .inr HF2.out.size));have HY3:=Lib.hid (HYO.out.frm (((Frm.refl [] w2).alloc _).then hf3 (by intro q hq;simp at hq;subst hq;exact .inr (Nat.le_refl _))));clear hb3 hf3))
 obtain⟨b8,hb8⟩:∃ b,w2.heap.size=b:=⟨_,rfl⟩
 have hl8:W0.heap.size≤b8:=hb8 ▸ HF2.out.size
 rw[hb8] at HB3 ⊢
 have HYS:Hid (YSt w s b8 x w3):=Lib.hid ⟨by omega,ya,yb,yw,yi,za,zb,zw,by rw[HN.out];exact HB3.out,HY3.out,by have:=HYL.out.1;omega,by have:=HYL.out.2.1;omega,by have:=HYL.out.2.2.1;omega,fun i hi=>by have:=HYL.out.2.2.2 i hi;omega⟩
 have HDX3:=Lib.hid (HDX.out.frm HF3.out (by simp))
 have HW3:Hid (Frm [] w w3):=Lib.hid (HW0.out.trans HF3.out)
 have hls3:w.heap.size + 3 < w3.heap.size:=lt_of_block HDX3.out.b3
 clear HYO HYL HF2 HY3 hb8 m0 m1 m2 m3 e1 HDX
 have m0:=cell_of HDX3.out.b2 0
 have m1:=cell_of HDX3.out.b2 1
 have m2:=cell_of HDX3.out.b2 2
 have m3:=cell_of HDX3.out.b2 3
 have e1:=cell_of HDX3.out.b0 1
 have HCX:Hid (∀ V,Frm [] w3 V→((V.cell? ⟨w.heap.size + 1,2,none⟩=some (.slice (some ⟨bw,0,none⟩) n cw)∧V.cell? ⟨w.heap.size + 2,1,none⟩=some (.int .i64 (i:Nat)))∧V.cell? ⟨w.heap.size + 2,2,none⟩=some (.int .i64 (k:Nat))∧V.cell? ⟨bw,i,none⟩=some (.slice (some ⟨bi i,0,none⟩) n ci))∧V.cell? ⟨bi i,k * 3,none⟩=some (.int .i64 s.cls)∧V.cell? ⟨bi i,k * 3 + 1,none⟩=some (.int .i64 s.cap)∧V.cell? ⟨bi i,k * 3 + 2,none⟩=some (.slice lva (x.way i k).length lvc)):=Lib.hid (fun V hV=>by
  obtain⟨⟨h1,h2⟩,h3,h4⟩:=HG.out V (HW3.out.trans hV)
  exact⟨⟨⟨cell_of (hV.at HDX3.out.b1 (by simp)) 2,cell_of (hV.at HDX3.out.b2 (by simp)) 1⟩,cell_of (hV.at HDX3.out.b2 (by simp)) 2,h1⟩,h2,h3,h4⟩)
 replace CL:=Lib.hid (fun V (hV:Frm [] w3 V)=>CL.out V (HW3.out.trans hV))
 go_upto_region 7 with fail
 clear m0 m1 m2 m3 e1
 go_upto_region 7 with fail
 try simp only[Act.put]
 go_cut [9,10,11] (fun s9 s10 s11 wc=>∃ (bq:Nat) (la:Option Addr) (lc:Nat),s9=.pointer (some ⟨bq,0,none⟩)∧s10=.string LM∧s11=.int .i64 LE∧wc.heap[bq]?=some (.cells #[.int .i64 s.cls,.int .i64 s.cap,.slice la ln lc] 190 (0,0))∧Lf wc (.slice la ln lc) LL∧Frm [] w3 wc∧w3.heap.size≤bq)
 case first =>
  refine heldL_start [] (wrSet [16,17,18]) (by kernel_rfl) ?_
  refine cnt 0 ?_
  iterate 10
   refine hcL ?_ ?_ ?_
   rotate_left
   ·intro w' hC
    obtain⟨⟨⟨x0,x1⟩,x2,x3⟩,x4,x5,x6⟩:=HCX.out w' ((Frm.refl [] w3).drew.trans hC)
    clear hC
    go_simp
    try rfl
   try simp only[nrm,Nat.reduceAdd]
  refine tcn ?_
  obtain⟨wd,hwd⟩:∃ wd,w3.drew=wd:=⟨_,rfl⟩
  have hfd:Frm [] w3 wd:=by rw[← hwd];exact(Frm.refl _ _).drew
  rw[hwd]
  clear hwd
  refine heldL_all (rs:=[10,15]) (by kernel_rfl) (by simp) (allL_cons ?_ (allL_cons ?_ allL_nil))
  ·skip
   refine heldL_step (i:=10) rfl rfl (by rfl) (fun K' hK'=>?_)
   go_simp
   (refine(CL.out _ hfd).mono ?_;rintro e w5 ⟨u,rfl,lv',rfl,hl',hf5,hown⟩;obtain⟨la,lc,rfl,-⟩:=hl'.shape;rw[HLN.out] at hl' ⊢)
   refine hK'.out _ _ (hf5) ?_
   clear hK' K'
   try simp only[nrm]
   refine cnt 11 ?_
   iterate 4
    refine hcP ?_ ?_ ?_
    rotate_left
    ·intro w'
     go_simp
     try rfl
    try simp only[nrm,Nat.reduceAdd]
   refine tcn ?_
   refine honL 15 ?_
   refine heldL_step (i:=15) rfl rfl (by rfl) (fun K' hK'=>?_)
   go_simp
   (skip)
   refine hK'.out _ _ ((Frm.refl _ _).alloc _) ?_
   clear hK' K'
   try simp only[nrm]
   obtain⟨bq,hbq⟩:∃ b,w5.heap.size=b:=⟨_,rfl⟩
   have hz:=heap_alloc_new w5 (.cells #[.int .i64 0,.int .i64 0,.slice none 0 0] 190)
   have hf6:Frm [] w3 (w5.alloc (.cells #[.int .i64 0,.int .i64 0,.slice none 0 0] 190)):=(hfd.trans hf5).alloc _
   have hl6:=hl'.frm ((Frm.refl [] w5).alloc (.cells #[.int .i64 0,.int .i64 0,.slice none 0 0] 190)) (by simp)
   obtain⟨w6,hw6⟩:∃ X,w5.alloc (.cells #[.int .i64 0,.int .i64 0,.slice none 0 0] 190)=X:=⟨_,rfl⟩
   rw[hw6,hbq] at hz ⊢
   rw[hw6] at hf6 hl6
   have hbl:w3.heap.size≤bq:=hbq ▸ (hfd.trans hf5).size
   clear hw6 hbq
   have y0:=cell_of hz 0
   have y1:=cell_of hz 1
   have y2:=cell_of hz 2
   have f0:=free_of hz 0
   have f1:=free_of hz 1
   have f2:=free_of hz 2
   have HP3:=Lib.hid (put3 (u:=.int .i64 s.cls) (v:=.int .i64 s.cap) (z:=.slice la ln lc) hz rfl)
   have HL6:=Lib.hid hl6
   have HF6:=Lib.hid hf6
   have HBL:=Lib.hid hbl
   clear hz hl6 hf6 hl' hf5 hfd hbl
   refine honL 16 ?_
   refine heldL_write (i:=16) rfl (by rfl) (by rfl) (fun K' hK'=>?_)
   go_simp
   (skip)
   refine hK'.out _ _ ?_
   clear hK' K'
   try simp only[nrm]
   refine honL 17 ?_
   refine heldL_write (i:=17) rfl (by rfl) (by rfl) (fun K' hK'=>?_)
   go_simp
   (skip)
   refine hK'.out _ _ ?_
   clear hK' K'
   try simp only[nrm]
   refine honL 18 ?_
   refine heldL_write (i:=18) rfl (by rfl) (by rfl) (fun K' hK'=>?_)
   go_simp
   (skip)
   refine hK'.out _ _ ?_
   clear hK' K'
   try simp only[nrm]
   refine heldL_done (by kernel_rfl) ?_ _
   go_wp2
   go_meet
   exact⟨bq,la,lc,rfl,rfl,rfl,HP3.out.1,HL6.out.kt HP3.out.2.2,HF6.out.then HP3.out.2.1 (by intro q hq;simp at hq;subst hq;exact .inr HBL.out),HBL.out⟩
  ·skip
   refine heldL_step (i:=15) rfl rfl (by rfl) (fun K' hK'=>?_)
   go_simp
   (skip)
   refine hK'.out _ _ ((Frm.refl _ _).alloc _) ?_
   clear hK' K'
   try simp only[nrm]
   obtain⟨bq,hbq⟩:∃ b,wd.heap.size=b:=⟨_,rfl⟩
   have hz0:=heap_alloc_new wd (.cells #[.int .i64 0,.int .i64 0,.slice none 0 0] 190)
   obtain⟨w4,hw4⟩:∃ X,wd.alloc (.cells #[.int .i64 0,.int .i64 0,.slice none 0 0] 190)=X:=⟨_,rfl⟩
   have hf4:Frm [] w3 w4:=by rw[← hw4];exact hfd.alloc _
   rw[hw4,hbq] at hz0 ⊢
   have hbl:w3.heap.size≤bq:=hbq ▸ hfd.size
   clear hw4 hbq
   refine honL 10 ?_
   refine heldL_step (i:=10) rfl rfl (by rfl) (fun K' hK'=>?_)
   go_simp
   (refine(CL.out _ hf4).mono ?_;rintro e w6 ⟨u,rfl,lv',rfl,hl',hf5,hown⟩;obtain⟨la,lc,rfl,-⟩:=hl'.shape;rw[HLN.out] at hl' ⊢)
   refine hK'.out _ _ (hf5) ?_
   clear hK' K'
   try simp only[nrm]
   refine cnt 11 ?_
   iterate 4
    refine hcP ?_ ?_ ?_
    rotate_left
    ·intro w'
     go_simp
     try rfl
    try simp only[nrm,Nat.reduceAdd]
   refine tcn ?_
   have hz:=hf5.at hz0 (by simp)
   have hf6:=hf4.trans hf5
   have hl6:=hl'
   have y0:=cell_of hz 0
   have y1:=cell_of hz 1
   have y2:=cell_of hz 2
   have f0:=free_of hz 0
   have f1:=free_of hz 1
   have f2:=free_of hz 2
   have HP3:=Lib.hid (put3 (u:=.int .i64 s.cls) (v:=.int .i64 s.cap) (z:=.slice la ln lc) hz rfl)
   have HL6:=Lib.hid hl6
   have HF6:=Lib.hid hf6
   have HBL:=Lib.hid hbl
   clear hz hl6 hf6 hl' hf5 hfd hbl
   refine honL 16 ?_
   refine heldL_write (i:=16) rfl (by rfl) (by rfl) (fun K' hK'=>?_)
   go_simp
   (skip)
   refine hK'.out _ _ ?_
   clear hK' K'
   try simp only[nrm]
   refine honL 17 ?_
   refine heldL_write (i:=17) rfl (by rfl) (by rfl) (fun K' hK'=>?_)
   go_simp
   (skip)
   refine hK'.out _ _ ?_
   clear hK' K'
   try simp only[nrm]
   refine honL 18 ?_
   refine heldL_write (i:=18) rfl (by rfl) (by rfl) (fun K' hK'=>?_)
   go_simp
   (skip)
   refine hK'.out _ _ ?_
   clear hK' K'
   try simp only[nrm]
   refine heldL_done (by kernel_rfl) ?_ _
   go_wp2
   go_meet
   exact⟨bq,la,lc,rfl,rfl,rfl,HP3.out.1,HL6.out.kt HP3.out.2.2,HF6.out.then HP3.out.2.1 (by intro q hq;simp at hq;subst hq;exact .inr HBL.out),HBL.out⟩
 case rest =>
  obtain⟨bq,la,lc,rfl,rfl,rfl,hbq,hlq,hfq,hlb⟩:=hcut
  have HBQ:=Lib.hid hbq;have HLQ:=Lib.hid hlq;have HFQ:=Lib.hid hfq
  clear hbq hlq hfq CL HCX HG
  obtain⟨hi,hk,hne⟩:=HIK.out
  obtain⟨ya',yb',yw',yi',za',zb',zw',hb8,hyo,l1,l2,l3,l4⟩:=HYS.out.out
  rw[HN.out] at hb8
  obtain⟨cy,hcy⟩:=hyo.w i hi
  rw[HN.out] at hcy
  have hyl:=(hyo.ti i hi).lt
  have hty:=hyo.ti i hi
  have hl4:=l4 i hi
  have n1:b8≠yi' i:=fun e=>by
   obtain⟨c,hc⟩:=hty
   rw[← e,hb8] at hc
   cases hc
  have n2:=(hyo.tw.ne hty (by decide))
  have n3:bq≠yi' i:=by omega
  have HYO:=Lib.hid hyo
  have HCY:Hid (∀ V,Frm [yi' i] wc V→(((V.cell? ⟨b8,2,none⟩=some (.slice (some ⟨yw',0,none⟩) n zw')∧V.cell? ⟨w.heap.size + 2,1,none⟩=some (.int .i64 (i:Nat)))∧V.cell? ⟨w.heap.size + 2,2,none⟩=some (.int .i64 (k:Nat))∧V.cell? ⟨yw',i,none⟩=some (.slice (some ⟨yi' i,0,none⟩) n cy))∧V.cell? ⟨bq,0,none⟩=some (.int .i64 s.cls)∧V.cell? ⟨bq,1,none⟩=some (.int .i64 s.cap)∧V.cell? ⟨bq,2,none⟩=some (.slice la ln lc))):=Lib.hid fun V hV=>by
   have g1:=hV.at (HFQ.out.at hb8 (by simp)) (by simpa using n1)
   have g2:=hV.at (HFQ.out.at HDX3.out.b2 (by simp)) (by simp;omega)
   have g3:=hV.cellAt (HFQ.out.keep hcy) (by simpa using n2)
   have g4:=hV.at HBQ.out (by simpa using n3)
   exact⟨⟨⟨cell_of g1 2,cell_of g2 1⟩,cell_of g2 2,g3⟩,cell_of g4 0,cell_of g4 1,cell_of g4 2⟩
  have HB8:=Lib.hid hb8
  clear hb8 hcy
  go_upto_region 8 with fail
  refine heldF_start (F:=[yi' i]) (by kernel_rfl) ?_
  obtain⟨wd,hwd⟩:∃ wd,wc.drew=wd:=⟨_,rfl⟩
  have hfd:Frm [] wc wd:=by rw[← hwd];exact(Frm.refl _ _).drew
  rw[hwd]
  clear hwd
  refine cnt 0 ?_
  iterate 9
   refine hcF ?_ ?_ ?_
   rotate_left
   ·intro w' hC
    obtain⟨⟨⟨x0,x1⟩,x2,x3⟩,x4,x5,x6⟩:=HCY.out w' ((hfd.mono (by simp)).trans hC)
    clear hC
    go_simp
    try rfl
   try simp only[nrm,Nat.reduceAdd]
  refine tcn ?_
  refine htF 9 ?_ ?_ ?_
  rotate_left
  ·intro w' hC
   clear hC
   go_simp
   try rfl
  try simp only[nrm]
  have hyd:=HYO.out.frm (HFQ.out.trans hfd)
  obtain⟨lv9,s0,s1,s2,-⟩:=hyd.r i k hi hk
  obtain⟨cu9,hu9⟩:=hyd.ti i hi
  have f0:=free_of hu9 (k * 3)
  have f1:=free_of hu9 (k * 3 + 1)
  have f2:=free_of hu9 (k * 3 + 2)
  have HSW:=Lib.hid (hyd.setWay hi hk (HLQ.out.frm hfd (by simp)) HPK.out.wl (HPK.out.wr i hi))
  have HF9:Hid (Frm [yi' i] wc _):=Lib.hid ((hfd.mono (by simp)).trans (((setFrm wd (yi' i) (k * 3) (.int .i64 s.cls)).trans (setFrm _ (yi' i) (k * 3 + 1) (.int .i64 s.cap))).trans (setFrm _ (yi' i) (k * 3 + 2) (.slice la ln lc))))
  clear hyd hu9
  refine hstF 10 (fun K' hK'=>?_)
  go_simp
  (skip)
  refine hK'.out _ _ ((((Frm.refl [yi' i] _).setCell _ (.inl (by simp)) _).setCell _ (.inl (by simp)) _).setCell _ (.inl (by simp)) _) ?_
  clear hK' K'
  try simp only[nrm]
  refine wpAnyH_done (by kernel_rfl) ?_ _
  obtain⟨w9,hw9⟩:∃ X,((wd.setCell ⟨yi' i,k * 3,none⟩ (.int .i64 s.cls)).setCell ⟨yi' i,k * 3 + 1,none⟩ (.int .i64 s.cap)).setCell ⟨yi' i,k * 3 + 2,none⟩ (.slice la ln lc)=X:=⟨_,rfl⟩
  rw[hw9] at HSW HF9 ⊢
  have HB9:=Lib.hid (HF9.out.at (HFQ.out.at HB8.out (by simp)) (by simpa using n1))
  have HR9:=Lib.hid (HF9.out.at (HFQ.out.at HDX3.out.b3 (by simp)) (by simp;omega))
  have HW9:Hid (Frm [] w w9):=Lib.hid ((HW3.out.trans HFQ.out).then HF9.out (by intro q hq;simp at hq;subst hq;exact .inr (by omega)))
  have HY9:Hid (YSt w s b8 _ w9):=Lib.hid ⟨HYS.out.lo,ya',yb',yw',yi',za',zb',zw',by rw[HN.out];exact HB9.out,HSW.out,l1,l2,l3,l4⟩
  clear hw9 HSW HCY hfd
  by_cases hz:LE=0
  ·have hnok:=next_ok HOK.out HPK.out ((do_iff HOK.out HPK.out _).1 (HD.out.trans (decide_eq_true hz)))
   rw[HNX.out] at hnok
   have HNO:=Lib.hid hnok
   clear hnok
   have hzb:(LE == 0)=true:=by rw[beq_iff_eq];exact hz
   have HZ:=Lib.hid hz
   clear hz
   go_wp2_with (first
    | (refine wpList_load_whole rfl 125 _ rfl _ rfl _ 125 HB9.out _ Tryz.underlying125 rfl (by kernel_rfl) ?_)
    | (refine wpList_store_rowK rfl 125 _ _ rfl _ _ _ _ rfl rfl HR9.out rfl (by kernel_rfl) (one3v ..) ?_;intro w7 hb7 hf7 hk7;have HB7:=Lib.hid hb7;have HF7:=Lib.hid hf7;have HK7:=Lib.hid hk7;clear hb7 hf7 hk7))
   refine bodyPost_ret (results_s2 rfl rfl rfl HB7.out rfl) rfl ⟨_,rfl,HW9.out.then HF7.out (by intro k hk;simp at hk;omega),.inl ⟨by rw[HD.out];exact decide_eq_true HZ.out,_,rfl,?_⟩⟩
   rw[HNX.out]
   have:=HY9.out.end HNO.out (by rw[HN.out];exact HB9.out) HK7.out
   rw[HN.out] at this
   exact this
  ·have hzb:(LE == 0)=false:=by rw[beq_eq_false_iff_ne];exact hz
   have HZ:=Lib.hid hz
   clear hz
   go_wp2_with (first
    | (refine wpList_load_whole rfl 125 _ rfl _ rfl _ 125 HB9.out _ Tryz.underlying125 rfl (by kernel_rfl) ?_)
    | (refine wpList_store_rowK rfl 125 _ _ rfl _ _ _ _ rfl rfl HR9.out rfl (by kernel_rfl) (one3v ..) ?_;intro w7 hb7 hf7 hk7;have HB7:=Lib.hid hb7;have HF7:=Lib.hid hf7;have HK7:=Lib.hid hk7;clear hb7 hf7 hk7))
   refine bodyPost_ret (results_s2 rfl rfl rfl HB7.out rfl) rfl ⟨_,rfl,HW9.out.then HF7.out (by intro k hk;simp at hk;omega),.inr ⟨by rw[HD.out];exact decide_eq_false HZ.out,_,rfl,rfl,one3v ..⟩⟩
end Go.Proofs.YtemjlpahohmajaaGreat
