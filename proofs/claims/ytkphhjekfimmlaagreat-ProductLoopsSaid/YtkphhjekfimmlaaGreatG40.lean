/- Part of the proof. -/
import Derived.Test.YtkphhjekfimmlaaGreatG30
import Derived.Test.YtkphhjekfimmlaaGreatG24
import Derived.Test.YtkphhjekfimmlaaGreatG38
import Derived.Test.YtkphhjekfimmlaaGreatG37
import Derived.Test.YtkphhjekfimmlaaGreatG39
set_option linter.all false
namespace Go.Proofs.YtkphhjekfimmlaaGreat
open Go.RowKit Go.BigFrame Go.Lib
structure YmW (w W0:World) (v:Value) (L:List UInt8) (W:World):Prop where
 o:W.ownsRow w.heap.size 5 1 v L.length (L.map u8)
 f:Frm [] w W
 k:Kt [5] W0 W
theorem YmW.frm {w W0 W V:World} {v:Value} {L:List UInt8} (h:YmW w W0 v L W) (hf:Frm [] W V):YmW w W0 v L V:=⟨hf.owns h.o (by simp),h.f.trans hf,h.k.trans (Kt.frm hf)⟩
theorem YmW.add {w W0 W V:World} {v v':Value} {L M:List UInt8} {m:Nat} (h:YmW w W0 v L W) (hg:W.grownBy V v.ownBlock) (hm:M.length=m) (ho:V.ownsRow w.heap.size 5 1 v' (L.length + m) (L.map u8 ++ M.map u8)):YmW w W0 v' (L ++ M) V:=
 ⟨by rw[List.map_append,List.length_append,hm];exact ho,h.f.grown hg (fun q hq=>.inr (ownBlock_ge h.o hq)),h.k.grown hg (fun q hq=>by
  obtain⟨c,hc⟩:=ownBlock_type h.o hq
  exact⟨c,_,(0,0),hc,by simp⟩)⟩
theorem YmW.keep {w W0 W V:World} {v:Value} {L:List UInt8} (h:YmW w W0 v L W) (hf:Frm v.ownBlock.toList W V):Frm [] w V∧Kt [5] W0 V:=
 ⟨h.f.then hf (fun k hk=>.inr (ownBlock_ge h.o (by simpa using hk))),h.k.trans ⟨hf.os,hf.tape,hf.output,hf.size,fun k o hk ho=>hf.at hk (fun hm=>by
  obtain⟨c,hc⟩:=ownBlock_type h.o (show v.ownBlock=some k by simpa using hm)
  rw[hk] at hc
  cases hc
  exact ho _ _ _ rfl (by simp))⟩⟩
def vB (l:List Int) (k:Nat):List UInt8:=(l.take k).flatMap two
theorem vB_succ {l:List Int} {k:Nat} {v:Int} (h:l[k]?=some v):vB l (k + 1)=vB l k ++ two v:=by
 unfold vB
 have hk:=lt_of_some h
 rw[List.take_succ_eq_append_getElem hk,List.flatMap_append,List.getElem?_eq_getElem hk] at *
 cases h
 simp
theorem vB_len (l:List Int) (k:Nat):(vB l k).length≤k * 2:=by
 unfold vB
 rw[two_len,List.length_take];omega
theorem quo_two {v:Int} (h0:0≤v) (h1:v≤1000):IntKind.u8.wrap (v / 256)=v / 256∧IntKind.u8.wrap (v % 256)=v % 256∧IntKind.i64.wrap (v.tdiv 256)=v / 256∧v.tmod 256=v % 256:=by
 exact⟨wrap_small (by omega) (by omega),wrap_small (by omega) (by omega),(by rw[Int.tdiv_eq_ediv_of_nonneg h0,IntKind.wrap_i64];omega),Int.tmod_eq_emod_of_nonneg h0⟩
set_option maxHeartbeats 8000000 in
set_option maxRecDepth 100000 in
theorem qKey_any (s:SesD) (xv:Value) (x:PS) (B:Nat) (w:World) (hx:RSt B w s xv x) (hok:SesOk s):Calls Tryz.prog 50 #[xv] w (RetV fun v w'=>v=.string ⟨(keyP s x).toArray⟩∧Frm [] w w'):=by
 have HOK:=Lib.hid hok;have HPK:=Lib.hid hx.ok
 obtain⟨ba,bb,bw,bi,ca,cb,cw,rfl,hro,-⟩:=hx.out
 obtain⟨n,hn⟩:∃ n,s.roles.length=n:=⟨_,rfl⟩
 have h4:n≤4:=hn ▸ hok.n4
 obtain⟨W0,hW0⟩:∃ W0,w.alloc (.cells #[.slice (some ⟨ba,0,none⟩) s.roles.length ca,.slice (some ⟨bb,0,none⟩) s.roles.length cb,.slice (some ⟨bw,0,none⟩) s.roles.length cw] 35)=W0:=⟨_,rfl⟩
 have hf0:Frm [] w W0:=by rw[← hW0];exact(Frm.refl _ _).alloc _
 have hb2:W0.heap[w.heap.size]?=some (.cells #[.slice (some ⟨ba,0,none⟩) s.roles.length ca,.slice (some ⟨bb,0,none⟩) s.roles.length cb,.slice (some ⟨bw,0,none⟩) s.roles.length cw] 35 (0,0)):=by rw[← hW0];exact heap_alloc_new _ _
 have HE:=Lib.hid hW0
 have HRO:=Lib.hid hro
 rw[hn] at hb2 HE ⊢
 have HN:=Lib.hid hn
 have HY0:Hid (YmW w W0 (.slice none ([]:List UInt8).length 0) [] W0):=Lib.hid ⟨World.ownsRow_nil _ _ _ _,hf0,Kt.refl _ _⟩
 have HS1:Hid (∀ V,Kt [5] W0 V→V.cell? ⟨w.heap.size,0,none⟩=some (.slice (some ⟨ba,0,none⟩) n ca)∧V.cell? ⟨w.heap.size,1,none⟩=some (.slice (some ⟨bb,0,none⟩) n cb)∧V.cell? ⟨w.heap.size,2,none⟩=some (.slice (some ⟨bw,0,none⟩) n cw)):=Lib.hid fun V hV=>by
  have hz:=hV.cells hb2 (by decide)
  exact⟨cell_of hz 0,cell_of hz 1,cell_of hz 2⟩
 have HKP:Hid (keyP s x=kR s x n ++ cat (wRow s x) n):=Lib.hid (by rw[← hn];rfl)
 obtain⟨i0,hi0,hz0,hz1,hz2⟩:=info_parts Tryz.info5
 clear hx hok hro hW0 hf0 hb2 hn
 go_enter Tryz.func50,Tryz.ntmps50
 go_upto_region 1 with fail
 rw[HE.out]
 clear HE
 go_upto_region 3 with fail
 go_loopw [3,4] (fun s3 s4 wr=>∃ (i:Nat) (L:List UInt8) (ar:Option Addr) (kr:Nat),Hid (L=kR s x i)∧s3=.slice ar L.length kr∧s4=.int .i64 i∧i≤n∧YmW w W0 (.slice ar L.length kr) L wr) (fun _ s4 _=>n - (intOf s4).toNat)
 case atStart=>exact⟨0,[],none,0,Lib.hid rfl,rfl,rfl,Nat.zero_le _,HY0.out⟩
 case round =>
  obtain⟨i,L,ar,kr,HL,rfl,rfl,hi,ho⟩:=hrel
  have HO:=Lib.hid ho
  clear ho
  obtain⟨wl,hwl⟩:∃ wl,wl=wr:=⟨_,rfl⟩
  subst hwl
  obtain⟨e0,-,-⟩:=HS1.out wl HO.out.k
  by_cases hlt:i < n
  ·have hlt':(i:Int) < (n:Int):=by omega
   have hin:i < s.roles.length:=by rw[HN.out];exact hlt
   have ga:=HO.out.f.keep (HRO.out.a i hin)
   obtain⟨dv,vv,-,gb,-,gv⟩:=HRO.out.b i hin
   obtain⟨av,kv,rfl⟩:=own_shape gv.1
   obtain⟨p,hp⟩:∃ p,x.at i=p:=⟨_,rfl⟩
   obtain⟨vs,hvs⟩:∃ vs,x.bank i=vs:=⟨_,rfl⟩
   have hpb:p < 24:=by have:=HPK.out.pb i hin;have:=(HOK.out.at hin).s24;omega
   rw[hp] at ga
   rw[hvs] at gb gv
   have HVB:Hid (∀ v∈vs,0≤v∧v≤1000):=Lib.hid (by rw[← hvs];exact bank_bound HOK.out HPK.out hin)
   have hvl:vs.length≤4:=by have:=(HPK.out.vb i hin).1;have:=(HOK.out.at hin).c4;rw[hvs] at *;omega
   have HKR:Hid (kR s x (i + 1)=kR s x i ++ ([UInt8.ofNat p] ++ vB vs vs.length)):=Lib.hid (by
    show cat (keyRole x) i ++ keyRole x i=_
    unfold keyRole vB
    rw[hp,hvs,List.take_length];rfl)
   have hLL:L.length≤100:=by rw[HL.out];exact kR_len HOK.out HPK.out (by omega)
   have hw8:IntKind.u8.wrap (p:Int)=(p:Int):=wrap_small (by omega) (by omega)
   have HVL:=Lib.hid hvl;have HGV:=Lib.hid gv;have HGB:=Lib.hid gb;have HLL:=Lib.hid hLL
   obtain⟨m,hm⟩:∃ m,vs.length=m:=⟨_,rfl⟩
   rw[hm] at HKR HGB hvl
   have HM:=Lib.hid hm
   have hpb':p < 256:=by omega
   have hsz:w.heap.size≤(wl.alloc (.cells #[.int .u8 (p:Int)] 5)).heap.size:=by have:=HO.out.f.size;simp;omega
   clear gv gb hp hvs hin hm
   go_upto_region 7 with (at_builtin;refine wpList_append_own_at _ rfl _ _ 26 rfl w.heap.size 5 i0 (.int .u8 0) 1 1 Tryz.underlying26 hi0 hz0 hz1 hz2 rfl (by decide) (.slice ar L.length kr) L.length (uL L) rfl (HO.out.o.alloc _) ⟨wl.heap.size,0,none⟩ 1 1 (uL [UInt8.ofNat p]) rfl rfl (by rw[uLc p hpb'];exact new_row _ _ _) (by intro u hu;obtain⟨x,-,rfl⟩:=List.mem_map.1 hu;rfl) (by unfold maxLen;omega) (by omega) hsz ?_;intro v' w6 hown' hgrow _ _;obtain⟨ao',cp',rfl⟩:=own_shape hown';have HO6:=Lib.hid ((HO.out.frm ((Frm.refl _ _).alloc _)).add hgrow rfl hown');clear hgrow hown')
   clear e0 ga hsz
   go_loopw [3,5] (fun s3 s5 wr=>∃ (k:Nat) (M:List UInt8) (ar:Option Addr) (kr:Nat),Hid (M=L ++ ([UInt8.ofNat p] ++ vB vs k))∧s3=.slice ar M.length kr∧s5=.int .i64 k∧k≤m∧YmW w W0 (.slice ar M.length kr) M wr) (fun _ s5 _=>m - (intOf s5).toNat)
   case atStart=>exact⟨0,L ++ [UInt8.ofNat p],ao',cp',Lib.hid (by unfold vB;simp),by rw[List.length_append];rfl,rfl,Nat.zero_le _,by rw[List.length_append];exact HO6.out⟩
   case round =>
    clear HO6
    obtain⟨k,M,ar,kr,HMM,rfl,rfl,hk,ho⟩:=hrel
    have HO:=Lib.hid ho
    clear ho
    obtain⟨wm,hwm⟩:∃ wm,wm=wr:=⟨_,rfl⟩
    subst hwm
    obtain⟨-,e1,-⟩:=HS1.out wm HO.out.k
    have e2:=HO.out.f.keep HGB.out
    by_cases hlk:k < m
    ·have hlk':(k:Int) < (m:Int):=by omega
     obtain⟨v,hv⟩:∃ v,vs[k]?=some v:=⟨_,List.getElem?_eq_getElem (by rw[HM.out];exact hlk)⟩
     obtain⟨v0,v1⟩:=HVB.out v (List.mem_of_getElem? hv)
     have HSU:=Lib.hid (vB_succ hv)
     obtain⟨g,kg,cug,eg,hgl,hgt⟩:=own_block HGV.out.1 (by rw[HM.out];omega)
     cases eg
     have e3:wm.cell? ⟨g,k,none⟩=some (.int .i64 v):=HO.out.f.keep (own_at HGV.out.1 (by rw[List.getElem?_map,hv];rfl))
     have hML:M.length≤200:=by
      have:=vB_len vs k
      have:=HLL.out
      rw[HMM.out,List.length_append,List.length_append];simp;omega
     obtain⟨q1,q2,q3,q4⟩:=quo_two v0 v1
     have HC3:=Lib.hid (own_at HGV.out.1 (j:=k) (u:=.int .i64 v) (by rw[List.getElem?_map,hv];rfl))
     clear hv hgl hgt
     have hTW:uL (two v)=[.int .u8 (v / 256),.int .u8 (v % 256)]:=two_u8 v0 (by omega)
     have hsz:w.heap.size≤(wm.alloc (.cells #[.int .u8 (v / 256),.int .u8 (v % 256)] 5)).heap.size:=by have:=HO.out.f.size;simp;omega
     obtain⟨F,hF⟩:∃ F,(Value.slice ar M.length kr).ownBlock.toList=F:=⟨_,rfl⟩
     have HCF:Hid (∀ V,Frm F wm V→V.cell? ⟨w.heap.size,1,none⟩=some (.slice (some ⟨bb,0,none⟩) n cb)∧V.cell? ⟨bb,i * 2 + 1,none⟩=some (.slice (some ⟨g,0,none⟩) m kv)∧V.cell? ⟨g,k,none⟩=some (.int .i64 v)):=Lib.hid fun V hV=>by
      obtain⟨k1,k2⟩:=HO.out.keep (by rw[hF];exact hV)
      obtain⟨-,k3,-⟩:=HS1.out V k2
      exact⟨k3,k1.keep HGB.out,k1.keep (HC3.out)⟩
     have HFE:=Lib.hid hF
     clear hF
     go_upto_region 9 with fail
     clear e1 e2 e3
     refine heldF_start (F:=F) (by kernel_rfl) ?_
     refine cnt 0 ?_
     iterate 23
      refine hcF ?_ ?_ ?_
      rotate_left
      ·intro w' hC
       obtain⟨x1,x2,x3⟩:=HCF.out w' ((Frm.refl F wm).drew.trans hC)
       clear hC
       go_simp
       try rfl
      try simp only[nrm,Nat.reduceAdd]
     refine tcn ?_
     obtain⟨wd,hwd⟩:∃ wd,wm.drew=wd:=⟨_,rfl⟩
     have hfd:Frm [] wm wd:=by rw[← hwd];exact(Frm.refl _ _).drew
     rw[hwd]
     have HOd:=Lib.hid (HO.out.frm hfd)
     clear hwd
     refine hstF 23 (fun K' hK'=>?_)
     go_simp
     (skip)
     refine hK'.out _ _ ((Frm.refl _ _).alloc _) ?_
     clear hK' K'
     try simp only[nrm]
     refine heldF_step (i:=24) rfl (by kernel_rfl) (by rfl) (fun K' hK'=>?_)
     refine wp_own_step _ _ 26 rfl w.heap.size 5 Tryz.underlying26 hi0 hz0 hz1 hz2 rfl (by decide) (.slice ar M.length kr) M.length (uL M) rfl (HOd.out.o.alloc _) ⟨wd.heap.size,0,none⟩ 2 2 (uL (two v)) rfl rfl (by rw[hTW];exact new_row _ _ _) (by intro u hu;obtain⟨x,-,rfl⟩:=List.mem_map.1 hu;rfl) (by unfold maxLen;omega) (by omega) (by have:=HOd.out.f.size;simp;omega) ?_;intro v' w6 hown' hgrow;obtain⟨a6,k6,rfl⟩:=own_shape hown'
     refine hK'.out _ _ (by rw[← HFE.out];exact(Frm.refl _ _).grown hgrow (fun q hq=>.inl (by rw[hq];simp))) ?_
     clear hK' K'
     try simp only[nrm]
     refine htF 25 ?_ ?_ ?_
     rotate_left
     ·intro w' hC
      clear hC
      go_simp
      try rfl
     try simp only[nrm]
     refine wpAnyH_done (by kernel_rfl) ?_ _
     go_wp2
     exact⟨⟨k + 1,M ++ two v,a6,k6,Lib.hid (by rw[HMM.out,HSU.out,List.append_assoc,List.append_assoc]),by rw[List.length_append];rfl,congrArg (Value.int .i64) (by omega),hlk,by rw[List.length_append];exact(HOd.out.frm ((Frm.refl _ _).alloc _)).add hgrow rfl hown'⟩,by simp[intOf];omega⟩
    ·obtain rfl:k=m:=by omega
     have hge:¬ (k:Int) < (k:Int):=by omega
     go_wp2
     exact⟨⟨i + 1,M,ar,kr,Lib.hid (by rw[HMM.out,HL.out,HKR.out]),rfl,congrArg (Value.int .i64) (by omega),hlt,HO.out⟩,by simp[intOf];omega⟩
  ·obtain rfl:i=n:=by omega
   have hge:¬ (i:Int) < (i:Int):=by omega
   go_upto_region 11 with fail
   clear e0
   have HLI:Hid (L.length≤100):=Lib.hid (by rw[HL.out];exact kR_len HOK.out HPK.out (by rw[HN.out];exact Nat.le_refl _))
   go_loopw [3,6] (fun s3 s6 wr=>∃ (a:Nat) (M:List UInt8) (ar:Option Addr) (kr:Nat),Hid (M=L ++ cat (wRow s x) a)∧s3=.slice ar M.length kr∧s6=.int .i64 a∧a≤i∧YmW w W0 (.slice ar M.length kr) M wr) (fun _ s6 _=>i - (intOf s6).toNat)
   case atStart=>exact⟨0,L,ar,kr,Lib.hid (List.append_nil L).symm,rfl,rfl,Nat.zero_le _,HO.out⟩
   case round =>
    clear HO
    obtain⟨a,M,ar,kr,HMM,rfl,rfl,ha,ho⟩:=hrel
    have HO:=Lib.hid ho
    clear ho
    obtain⟨wm,hwm⟩:∃ wm,wm=wr:=⟨_,rfl⟩
    subst hwm
    obtain⟨e0,-,-⟩:=HS1.out wm HO.out.k
    by_cases hla:a < i
    ·have hla':(a:Int) < (i:Int):=by omega
     have hian:a < s.roles.length:=by rw[HN.out];exact hla
     have HIA:=Lib.hid hian
     obtain⟨cwa,gw⟩:=HRO.out.w a hian
     rw[HN.out] at gw
     have HGW:=Lib.hid gw
     have HEA:Hid (cat (wRow s x) (a + 1)=cat (wRow s x) a ++ cat (keyWay s x a) i):=Lib.hid (by
      show cat (wRow s x) a ++ wRow s x a=_
      rw[show wRow s x a=cat (keyWay s x a) s.roles.length from rfl,HN.out])
     clear gw hian
     go_upto_region 14 with fail
     clear e0
     go_loopw [3,7] (fun s3 s7 wr=>∃ (c:Nat) (P:List UInt8) (ar:Option Addr) (kr:Nat),Hid (P=M ++ cat (keyWay s x a) c)∧s3=.slice ar P.length kr∧s7=.int .i64 c∧c≤i∧YmW w W0 (.slice ar P.length kr) P wr) (fun _ s7 _=>i - (intOf s7).toNat)
     case atStart=>exact⟨0,M,ar,kr,Lib.hid (List.append_nil M).symm,rfl,rfl,Nat.zero_le _,HO.out⟩
     case round =>
      clear HO
      obtain⟨c,P,ar,kr,HP,rfl,rfl,hc,ho⟩:=hrel
      have HO:=Lib.hid ho
      clear ho
      obtain⟨wp,hwp⟩:∃ wp,wp=wr:=⟨_,rfl⟩
      subst hwp
      obtain⟨e0,-,e2⟩:=HS1.out wp HO.out.k
      by_cases hlc:c < i
      ·have hlc':(c:Int) < (i:Int):=by omega
       have hicn:c < s.roles.length:=by rw[HN.out];exact hlc
       have HEC:Hid (cat (keyWay s x a) (c + 1)=cat (keyWay s x a) c ++ keyWay s x a c):=Lib.hid rfl
       by_cases hac:a=c
       ·have HSM:Hid (keyWay s x a c=[]):=Lib.hid (by unfold keyWay;rw[if_pos hac])
        have hb1:(((a:Int) == (c:Int)))=true:=by rw[hac];simp
        have hb2:(((a:Int) != (c:Int)))=false:=by rw[hac];simp
        have hb3:(a:Int)=(c:Int):=by rw[hac]
        clear hac
        go_wp2
        exact⟨⟨c + 1,P,ar,kr,Lib.hid (by rw[HP.out,HEC.out,HSM.out,List.append_nil]),rfl,congrArg (Value.int .i64) (by omega),hlc,HO.out⟩,by simp[intOf];omega⟩
       ·have hb3:¬ (a:Int)=(c:Int):=by omega
        have hb1:(((a:Int) == (c:Int)))=false:=by rw[beq_eq_false_iff_ne];exact hb3
        have hb2:(((a:Int) != (c:Int)))=true:=by rw[bne_iff_ne];exact hb3
        obtain⟨lv,r1,r2,r3,r4⟩:=HRO.out.r a c HIA.out hicn
        obtain⟨LL,hLL⟩:∃ LL,x.way a c=LL:=⟨_,rfl⟩
        have hll:=HPK.out.wb a c HIA.out hicn
        rw[hLL] at r4 hll
        obtain⟨al,kl,rfl,-⟩:=r4.shape
        have HSM:Hid (keyWay s x a c=[UInt8.ofNat LL.length] ++ byt (keyB (keyL s.cls LL))):=Lib.hid (by unfold keyWay;rw[if_neg hac,hLL];rfl)
        have hk4:=HOK.out.k4
        have hll4:LL.length≤4:=by omega
        have hks:(keyB (keyL s.cls LL)).size≤200:=by
         have h1:=keyB_size (keyL s.cls LL) (fun m hm=>(hll.2 m (keyL_mem hm)).2)
         rw[keyL_length] at h1;omega
        have hwr:IntKind.u8.wrap (LL.length:Int)=(LL.length:Int):=wrap_small (by omega) (by omega)
        have CKy:Hid (∀ V,Frm [] w V→Calls Tryz.prog 102 #[.agg #[.int .i64 s.cls,.int .i64 s.cap,.slice al LL.length kl]] V (RetV fun v w'=>v=.string (keyB (keyL s.cls LL))∧Frm [] V w')):=Lib.hid fun V hV=>refKey_all s.cls s.cap _ LL V (r4.frm hV (by simp)) (by omega) (fun m hm=>(hll.2 m hm).2)
        have hPL:P.length≤3000:=by
         have a1:=HLI.out
         have a2:=kRows_len HOK.out HPK.out (show a≤s.roles.length by have:=HIA.out;omega)
         have a3:=kRow_len HOK.out HPK.out HIA.out (show c≤s.roles.length by omega)
         rw[HP.out,HMM.out,List.length_append,List.length_append]
         have:(cat (wRow s x) a).length≤2128:=a2
         omega
        obtain⟨KB0,hKB⟩:∃ KB0,keyB (keyL s.cls LL)=KB0:=⟨_,rfl⟩
        rw[hKB] at CKy HSM hks
        have e3:=HO.out.f.keep HGW.out
        have e4:=HO.out.f.keep r3
        obtain⟨l,hl⟩:∃ l,LL.length=l:=⟨_,rfl⟩
        rw[hl] at e4 hwr hll4 CKy HSM
        have HR:Hid (∀ V,Frm [] w V→V.cell? ⟨bi a,c * 3,none⟩=some (.int .i64 s.cls)∧V.cell? ⟨bi a,c * 3 + 1,none⟩=some (.int .i64 s.cap)∧V.cell? ⟨bi a,c * 3 + 2,none⟩=some (.slice al l kl)):=Lib.hid fun V hV=>⟨hV.keep r1,hV.keep r2,by rw[← hl];exact hV.keep r3⟩
        have hbi:=cell_lt e4
        have hl256:l < 256:=by omega
        have hsz:w.heap.size≤(wp.alloc (.cells #[.int .u8 (l:Int)] 5)).heap.size:=by have:=HO.out.f.size;simp;omega
        clear r1 r2 r3 r4 hll hk4 hLL hKB hl hicn hac
        go_upto_region 18 with (at_builtin;refine wpList_append_own_at _ rfl _ _ 26 rfl w.heap.size 5 i0 (.int .u8 0) 1 1 Tryz.underlying26 hi0 hz0 hz1 hz2 rfl (by decide) (.slice ar P.length kr) P.length (uL P) rfl (HO.out.o.alloc _) ⟨wp.heap.size,0,none⟩ 1 1 (uL [UInt8.ofNat l]) rfl rfl (by rw[uLc l hl256];exact new_row _ _ _) (by intro u hu;obtain⟨x,-,rfl⟩:=List.mem_map.1 hu;rfl) (by unfold maxLen;omega) (by omega) hsz ?_;intro v' w6 hown' hgrow _ _;obtain⟨a6,k6,rfl⟩:=own_shape hown';have HO6:=Lib.hid ((HO.out.frm ((Frm.refl _ _).alloc _)).add hgrow rfl hown');clear hgrow hown')
        clear e0 e2 e3 e4 hsz
        obtain⟨-,-,e2⟩:=HS1.out w6 HO6.out.k
        have e3:=HO6.out.f.keep HGW.out
        obtain⟨r1,r2,r3⟩:=HR.out w6 HO6.out.f
        have CK6:=Lib.hid (CKy.out w6 HO6.out.f)
        have hbi6:=cell_lt r1
        have hPL6:(P ++ [UInt8.ofNat l]).length≤3001:=by rw[List.length_append];simp;omega
        go_wp2_with (first
         | (go_at_call 102;go_must (refine CK6.out.mono ?_;clear CK6;rintro e w7 ⟨v,rfl,rfl,hf7⟩;have HO7:=Lib.hid (HO6.out.frm hf7);clear hf7))
         | (at_builtin;refine wpList_append_own_string _ rfl _ _ 26 9 rfl w.heap.size 5 i0 Tryz.underlying26 Tryz.underlying9 hi0 hz0 hz1 hz2 (.slice a6 (P.length + 1) k6) (P ++ [UInt8.ofNat l]).length (uL (P ++ [UInt8.ofNat l])) rfl HO7.out.o KB0 rfl (by unfold maxLen;omega) (by omega) HO7.out.f.size ?_;intro v' w8 hown' hgrow _;obtain⟨a8,k8,rfl⟩:=own_shape hown';have HO8:=Lib.hid (HO7.out.add (M:=byt KB0) hgrow (byt_length _) hown');clear hgrow hown'))
        exact⟨⟨c + 1,(P ++ [UInt8.ofNat l]) ++ byt KB0,a8,k8,Lib.hid (by rw[HP.out,HEC.out,HSM.out];simp only[List.append_assoc]),by rw[List.length_append,byt_length,List.length_append];rfl,congrArg (Value.int .i64) (by omega),hlc,by rw[List.length_append,byt_length];exact HO8.out⟩,by simp[intOf];omega⟩
      ·obtain rfl:c=i:=by omega
       have hge:¬ (c:Int) < (c:Int):=by omega
       go_wp2
       exact⟨⟨a + 1,P,ar,kr,Lib.hid (by rw[HP.out,HMM.out,HEA.out,List.append_assoc]),rfl,congrArg (Value.int .i64) (by omega),hla,HO.out⟩,by simp[intOf];omega⟩
    ·obtain rfl:a=i:=by omega
     have hge:¬ (a:Int) < (a:Int):=by omega
     have hne:M.length≠0:=by
      have h2:=HOK.out.n2
      rw[HN.out] at h2
      obtain⟨m,rfl⟩:∃ m,a=m + 1:=⟨a - 1,by omega⟩
      rw[HMM.out,HL.out,List.length_append,show kR s x (m + 1)=kR s x m ++ keyRole x m from rfl,List.length_append]
      unfold keyRole
      rw[List.length_cons]
      omega
     have hconv:=conv_own HO.out.o hne
     go_wp2
     go_ret
     exact⟨_,rfl,by rw[HKP.out,← HL.out,← HMM.out];rfl,HO.out.f⟩
end Go.Proofs.YtkphhjekfimmlaaGreat
namespace Go.Proofs.YtkphhjekfimmlaaGreat
open Go.RowKit Go.BigFrame
set_option maxHeartbeats 16000000 in
set_option maxRecDepth 100000 in
theorem qDo_nstep (s:SesD) (sv xv:Value) (x:PS) (B:Nat) (w:World) (hs:SesV w sv s) (hx:RSt B w s xv x) (hok:SesOk s) (i:Nat) (kd st pl:Int) (hi:i < s.roles.length) (hst:0≤st) (h2':kd≠2) (hb:kd≠1∨((s.rol i).steps.length:Int)≤st):Calls Tryz.prog 27 #[sv,xv,.agg #[.int .i64 kd,.int .i64 (i:Nat),.int .i64 st,.int .i64 pl]] w (RetV (DoTo w s x ⟨kd,(i:Nat),st,pl⟩)):=by
 have hd:doB s x ⟨kd,(i:Nat),st,pl⟩=false:=by
  unfold doB
  rw[if_neg (by simp only;omega),if_neg h2',if_pos (by simpa using hb)]
 obtain⟨rv,rfl,hr⟩:=hs
 obtain⟨ao,cap,rfl⟩:=hr.shape
 have hpok:=hx.ok
 have hxx:=hx
 obtain⟨ba,bb,bw,bi,ca,cb,cw,rfl,hro,-⟩:=hx.out
 obtain⟨n,hn⟩:∃ n,s.roles.length=n:=⟨_,rfl⟩
 have h2:2≤n:=hn ▸ hok.n2
 have h4:n≤4:=hn ▸ hok.n4
 obtain⟨W0,hW0⟩:∃ W0,(((w.alloc (.cells #[.string s.name,.slice ao s.roles.length cap,.int .i64 s.cls,.int .i64 s.cap] 25)).alloc (.cells #[.slice (some ⟨ba,0,none⟩) s.roles.length ca,.slice (some ⟨bb,0,none⟩) s.roles.length cb,.slice (some ⟨bw,0,none⟩) s.roles.length cw] 35)).alloc (.cells #[.int .i64 kd,.int .i64 (i:Nat),.int .i64 st,.int .i64 pl] 47)).alloc (.cells #[.slice none 0 0,.slice none 0 0,.slice none 0 0] 35)=W0:=⟨_,rfl⟩
 have hf0:Frm [] w W0:=by rw[← hW0];exact((((Frm.refl _ _).alloc _).alloc _).alloc _).alloc _
 have hdx:DoX w s ao s.roles.length cap ba bb bw ca cb cw ⟨kd,(i:Nat),st,pl⟩ W0:=by
  rw[← hW0]
  exact⟨alloc_at (alloc_at (alloc_at (heap_alloc_new _ _))),alloc_at (alloc_at (alloc_top (by simp))),alloc_at (alloc_top (by simp)),alloc_top (by simp)⟩
 have HW0:Hid (Frm [] w W0):=Lib.hid hf0
 have HN:=Lib.hid hn;have HOK:=Lib.hid hok;have HPK:=Lib.hid hpok;have HRO:=Lib.hid hro;have HRL:=Lib.hid hr
 rw[hn] at hdx HRL
 have HDX:=Lib.hid hdx
 have HE:=Lib.hid hW0
 have CQ0:=Lib.hid (fun V hV=>qCopied_any s _ x B V (hxx.frm hV) (by rw[hn];omega) (by rw[hn];exact h4))
 have hls:w.heap.size + 3 < W0.heap.size:=lt_of_block hdx.b3
 rw[hn] at HE CQ0
 rw[hn]
 have m0:=cell_of hdx.b2 0
 have m1:=cell_of hdx.b2 1
 have m2:=cell_of hdx.b2 2
 have m3:=cell_of hdx.b2 3
 have e1:=cell_of hdx.b0 1
 clear hr hn hok hpok hro hxx hW0 hf0 hdx hx
 have r1:decide ((i:Int) < 0)=false:=decide_eq_false (by omega)
 have r2:decide ((n:Int)≤(i:Int))=false:=decide_eq_false (by rw[HN.out] at hi;omega)
 have hin:(i:Int) < (n:Int):=by rw[HN.out] at hi;omega
 have r3:decide (st < 0)=false:=decide_eq_false (by omega)
 have q2:(kd == 2)=false:=by rw[beq_eq_false_iff_ne];exact h2'
 obtain⟨rb,ro,sv,cv,tv,rfl,hrc,h3⟩:=Rls.at (HRL.out.frm HW0.out) hi
 obtain⟨aS,cS,eS⟩:=h3.sts.shape
 obtain⟨aC,cC,eC⟩:=h3.ctrs.shape
 obtain⟨aT,cT,eT⟩:=h3.steps.shape
 subst eS eC eT
 obtain⟨nS,hnS⟩:∃ q,(s.rol i).sts.length=q:=⟨_,rfl⟩
 obtain⟨nC,hnC⟩:∃ q,(s.rol i).ctrs.length=q:=⟨_,rfl⟩
 obtain⟨nT,hnT⟩:∃ q,(s.rol i).steps.length=q:=⟨_,rfl⟩
 have HR3:=Lib.hid h3
 rw[hnS,hnC,hnT] at hrc HR3
 have HNT:=Lib.hid hnT;have HNS:=Lib.hid hnS;have HNC:=Lib.hid hnC
 have HRC:Hid (∀ V,Frm [] W0 V→(V.cell? ⟨rb,ro + i * 4,none⟩=some (.string (s.rol i).name)∧V.cell? ⟨rb,ro + i * 4 + 1,none⟩=some (.slice aS nS cS))∧V.cell? ⟨rb,ro + i * 4 + 2,none⟩=some (.slice aC nC cC)∧V.cell? ⟨rb,ro + i * 4 + 3,none⟩=some (.slice aT nT cT)):=Lib.hid fun V hV=>by
  obtain⟨d0,d1,d2,d3⟩:=hrc
  exact⟨⟨hV.keep d0,hV.keep d1⟩,hV.keep d2,hV.keep d3⟩
 clear h3 hrc hnS hnC hnT
 rw[HNT.out] at hb
 have HD:=Lib.hid hd
 clear hd hst h2'
 go_enter Tryz.func27,Tryz.ntmps27
 go_upto_region 1 with fail
 rw[HE.out]
 clear HE
 go_upto_region 4 with (first
  | (refine wpList_load_whole rfl 35 _ rfl _ rfl _ 35 HDX.out.b1 _ Tryz.underlying35 rfl (by kernel_rfl) ?_)
  | (go_at_call 81;go_must (refine(CQ0.out _ HW0.out).mono ?_;clear CQ0;rintro e w2 ⟨yv,rfl,hy,hf2⟩;obtain⟨ya,yb,yw,yi,za,zb,zw,rfl,hyo,yl1,yl2,yl3,yl4⟩:=hy.out;have HYO:=Lib.hid hyo;have HYL:=Lib.hid (And.intro yl1 (And.intro yl2 (And.intro yl3 yl4)));have HF2:=Lib.hid hf2;clear hy hyo hf2 yl1 yl2 yl3 yl4;rw[HN.out]))
  | (refine wpList_store_row rfl 35 _ _ rfl _ _ _ _ rfl rfl (heap_alloc_new _ _) rfl (by kernel_rfl) (one3v ..) ?_;intro w3 hb3 hf3;have HB3:=Lib.hid hb3;have HF3:=Lib.hid ((HF2.out.alloc _).then hf3 (by intro q hq;simp at hq;subst hq;exact .inr HF2.out.size));have HY3:=Lib.hid (HYO.out.frm (((Frm.refl [] w2).alloc _).then hf3 (by intro q hq;simp at hq;subst hq;exact .inr (Nat.le_refl _))));clear hb3 hf3))
 obtain⟨b8,hb8⟩:∃ b,w2.heap.size=b:=⟨_,rfl⟩
 have hl8:W0.heap.size≤b8:=hb8 ▸ HF2.out.size
 rw[hb8] at HB3 ⊢
 have HYS:Hid (YSt w s b8 x w3):=Lib.hid ⟨by omega,ya,yb,yw,yi,za,zb,zw,by rw[HN.out];exact HB3.out,HY3.out,by have:=HYL.out.1;omega,by have:=HYL.out.2.1;omega,by have:=HYL.out.2.2.1;omega,fun i hi=>by have:=HYL.out.2.2.2 i hi;omega⟩
 have HDX3:=Lib.hid (HDX.out.frm HF3.out (by simp))
 have HW3:Hid (Frm [] w w3):=Lib.hid (HW0.out.trans HF3.out)
 have hls3:w.heap.size + 3 < w3.heap.size:=lt_of_block HDX3.out.b3
 clear HYO HYL HF2 HY3 hb8 m0 m1 m2 m3 e1 HDX
 have m0:=cell_of HDX3.out.b2 0
 have m1:=cell_of HDX3.out.b2 1
 have m2:=cell_of HDX3.out.b2 2
 have m3:=cell_of HDX3.out.b2 3
 have e1:=cell_of HDX3.out.b0 1
 obtain⟨⟨d0,d1⟩,d2,d3⟩:=HRC.out w3 HF3.out
 go_upto_region 11 with (first
  | (refine wpList_store_row rfl 53 _ _ rfl _ _ _ _ rfl rfl (heap_alloc_new _ _) rfl (by kernel_rfl) (by rw[← Array.all_toList];rfl) ?_;intro w4 hb4 hf4;have HB12:=Lib.hid hb4;have HF4:=Lib.hid (((Frm.refl [] w3).alloc _).then hf4 (by intro q hq;simp at hq;subst hq;exact .inr (Nat.le_refl _)));clear hb4 hf4))
 clear m0 m1 m2 m3 e1 d0 d1 d2 d3
 obtain⟨b12,hb12⟩:∃ b,w3.heap.size=b:=⟨_,rfl⟩
 rw[hb12] at HB12 ⊢
 have HDX4:=Lib.hid (HDX3.out.frm HF4.out (by simp))
 have hl12:w.heap.size + 3 < b12:=hb12 ▸ hls3
 clear hb12
 have m0:=cell_of HDX4.out.b2 0
 have m1:=cell_of HDX4.out.b2 1
 have m2:=cell_of HDX4.out.b2 2
 have m3:=cell_of HDX4.out.b2 3
 have p3:=cell_of HB12.out 3
 by_cases h1:kd=1
 ·have h3b:decide ((nT:Int)≤st)=true:=decide_eq_true (by omega)
  clear hb q2
  subst h1
  go_wp2_with (first
  | (refine wpList_load_whole rfl 35 _ rfl _ rfl _ 35 HDX4.out.b1 _ Tryz.underlying35 rfl (by kernel_rfl) ?_)
  | (refine wpList_store_rowK rfl 35 _ _ rfl _ _ _ _ rfl rfl HDX4.out.b3 rfl (by kernel_rfl) (one3v ..) ?_;intro w7 hb7 hf7 hk7;have HB7:=Lib.hid hb7;have HF7:=Lib.hid hf7;clear hb7 hf7 hk7))
  refine bodyPost_ret (results_s2 rfl rfl rfl HB7.out rfl) rfl ⟨_,rfl,(HW3.out.trans HF4.out).then HF7.out (by intro k hk;simp at hk;omega),.inr ⟨?_,_,rfl,rfl,one3v ..⟩⟩
  exact HD.out
 ·have h1b:(kd == 1)=false:=by rw[beq_eq_false_iff_ne];exact h1
  have h1c:(kd != 1)=true:=by rw[bne_iff_ne];exact h1
  clear hb
  go_wp2_with (first
  | (refine wpList_load_whole rfl 35 _ rfl _ rfl _ 35 HDX4.out.b1 _ Tryz.underlying35 rfl (by kernel_rfl) ?_)
  | (refine wpList_store_rowK rfl 35 _ _ rfl _ _ _ _ rfl rfl HDX4.out.b3 rfl (by kernel_rfl) (one3v ..) ?_;intro w7 hb7 hf7 hk7;have HB7:=Lib.hid hb7;have HF7:=Lib.hid hf7;clear hb7 hf7 hk7))
  refine bodyPost_ret (results_s2 rfl rfl rfl HB7.out rfl) rfl ⟨_,rfl,(HW3.out.trans HF4.out).then HF7.out (by intro k hk;simp at hk;omega),.inr ⟨?_,_,rfl,rfl,one3v ..⟩⟩
  exact HD.out
end Go.Proofs.YtkphhjekfimmlaaGreat
namespace Go.Proofs.YtkphhjekfimmlaaGreat
open Go.RowKit Go.BigFrame
theorem wp_own_stepL {P:Program} {o:Oper} {a:Act} {w:World} {K:Act→World→Prop} {Q:Exit→Act→World→Prop} (s x:Operand) (t:TypeId)
  (ho:o.op=.call { callee:=.builtin .append,args:=#[s,x],argTypes:=#[t,t] })
  (base:Nat) (e:TypeId) {i:TypeInfo} {z:Value} {size bytes:Nat} (ht:P.underlying t=some (.slice e)) (hi:P.info? e=some i) (hz:i.zero=some z)
  (hsize:i.size=size) (hby:i.bytes=bytes) (hzs:z.cells.size=size) (hsz:0 < size)
  (v:Value) (n:Nat) (xs:List Value) (hs:a.eval s=v) (hown:w.ownsRow base e size v n xs)
  (ad:Addr) (m c:Nat) (news:List Value) (hx:a.eval x=.slice (some ad) m c) (hl:news.length=m * size) (hnews:∀ (j:Nat) u,news[j]?=some u→w.cell? (ad.add j)=some u) (h1:∀ u∈news,u.oneCell'=true)
  (h63:n + m≤maxLen) (hbytes:(n + m) * bytes≤140737488355328) (hbase:base≤w.heap.size)
  (h:∀ v' w',w'.ownsRow base e size v' (n + m) (xs ++ news)→w.grownBy w' v.ownBlock→(v'.ownBlock=v.ownBlock∨v'.ownBlock=some w.heap.size)→K (a.put o.dst v') w'):Oper.wp P o a w K Q:=by
 obtain⟨v',w',hr,h2,h3,h4,h5⟩:=run_append_own_at (P:=P) w base t o.type e i z size bytes ht hi hz hsize hby hzs hsz v n xs hown ad m c news hl hnews h1 h63 hbytes hbase
 unfold Oper.wp execOp
 simp only[ho,resolve,invoke,builtin,Sem.run_bind,Sem.run_pure,Result.andThen_ok,List.map_toArray,List.map_cons,List.map_nil,hs,hx,hr]
 exact h v' w' h2 h3 h5
theorem firstP_at (s:SesD) (i:Nat):(firstP s).at i=0:=by
 unfold firstP PS.at
 simp only[List.getD_eq_getElem?_getD,List.getElem?_map]
 cases s.roles[i]? <;> rfl
theorem first_bank (s:SesD) {i:Nat} (hi:i < s.roles.length):(firstP s).bank i=List.replicate (s.rol i).ctrs.length 0:=by
 unfold firstP PS.bank
 simp only[List.getD_eq_getElem?_getD,List.getElem?_map,SesD.rol_some hi,Option.map_some,Option.getD_some,List.map_const']
structure QF (w W0:World) (s:SesD) (m i:Nat) (W:World):Prop where
 fr:Frm [w.heap.size + 2] W0 W
 bx:∃ aa ka ab kb aw kw bi bk,W.heap[w.heap.size + 2]?=some (.cells #[.slice aa m ka,.slice ab m kb,.slice aw i kw] 35 (0,0))∧W.ownsRow W0.heap.size 3 1 (.slice aa m ka) m (List.replicate m (iv 0))∧W.ownsRow W0.heap.size 173 2 (.slice ab m kb) m bk ∧
  (∀ j,j < m→∃ dv vv,bk[j * 2]?=some dv∧bk[j * 2 + 1]?=some vv∧DfV W dv (s.rol j).ctrs∧IvR W vv ((firstP s).bank j)∧∀ q,vv.ownBlock=some q→(Value.slice aa m ka).ownBlock≠some q)∧WyR W0.heap.size i s.roles.length bi (.slice aw i kw) W∧RW W0.heap.size s (firstP s) i bi W
theorem QF.frm {w W0 W V:World} {s:SesD} {m i:Nat} (h:QF w W0 s m i W) (hf:Frm [] W V):QF w W0 s m i V:=by
 obtain⟨aa,ka,ab,kb,aw,kw,bi,bk,h1,h2,h3,h4,h5,h6⟩:=h.bx
 refine⟨h.fr.then hf (by simp),aa,ka,ab,kb,aw,kw,bi,bk,hf.at h1 (by simp),hf.owns h2 (by simp),hf.owns h3 (by simp),fun j hj=>?_,h5.kt (T:=[]) (Kt.frm hf) (by simp),h6.kt (T:=[]) (Kt.frm hf) (by simp) (by simp)⟩
 obtain⟨dv,vv,b1,b2,b3,b4,b5⟩:=h4 j hj
 exact⟨dv,vv,b1,b2,b3.frm hf (by simp),b4.frm hf (by simp),b5⟩
structure FB (B p:Nat) (wl:World) (F:List Nat) (D V Wv:Value) (d v:Value) (n1 n2:Nat) (L1 L2:List Value) (X:World):Prop where
 fr:Frm F wl X
 kt:Kt [3,173] wl X
 p:X.heap[p]?=some (.cells #[D,V,Wv] 35 (0,0))
 o1:X.ownsRow B 3 1 d n1 L1
 o2:X.ownsRow B 173 2 v n2 L2
 hd:∀ q,d.ownBlock=some q→D.ownBlock=some q∨wl.heap.size≤q
section
variable {B p:Nat} {wl X Y:World} {F:List Nat} {D V Wv d v d' v':Value} {n1 n2 m1 m2:Nat} {L1 L2 M1 M2:List Value}
theorem FB.alloc (h:FB B p wl F D V Wv d v n1 n2 L1 L2 X) (o:Obj):FB B p wl F D V Wv d v n1 n2 L1 L2 (X.alloc o):=⟨h.fr.alloc _,h.kt.alloc _,alloc_at h.p,h.o1.alloc _,h.o2.alloc _,h.hd⟩
theorem FB.app1 (h:FB B p wl F D V Wv D v n1 n2 L1 L2 X) (hF:∀ k,D.ownBlock=some k→k∈F) (hg:X.grownBy Y D.ownBlock) (ho:Y.ownsRow B 3 1 d' m1 M1) (hd:d'.ownBlock=D.ownBlock∨d'.ownBlock=some X.heap.size):FB B p wl F D V Wv d' v m1 n2 M1 L2 Y:=
 ⟨h.fr.grown hg (fun k hk=>.inl (hF k hk)),h.kt.trans ((Kt.own h.o1 hg).mono (by simp)),(Kt.own h.o1 hg).cells h.p (by decide),ho,(Kt.own h.o1 hg).row h.o2 (by decide),fun q hq=>by
  rcases hd with e | e
  ·exact .inl (e ▸ hq)
  ·rw[e] at hq
   cases hq
   exact .inr h.fr.size⟩
theorem FB.app2 (h:FB B p wl F D V Wv d V n1 n2 L1 L2 X) (hF:∀ k,V.ownBlock=some k→k∈F) (hg:X.grownBy Y V.ownBlock) (ho:Y.ownsRow B 173 2 v' m2 M2):FB B p wl F D V Wv d v' n1 m2 L1 M2 Y:=
 ⟨h.fr.grown hg (fun k hk=>.inl (hF k hk)),h.kt.trans ((Kt.own h.o2 hg).mono (by simp)),(Kt.own h.o2 hg).cells h.p (by decide),(Kt.own h.o2 hg).row h.o1 (by decide),ho,h.hd⟩
end
theorem QF.grow {w W0 W Y Z:World} {s:SesD} {i ka kb kw:Nat} {aa ab aw:Option Addr} {bi:Nat→Nat} {bk:List Value} {d v dv vv:Value} {F:List Nat} (hW:Frm [w.heap.size + 2] W0 W) (h2':w.heap.size + 2 < W0.heap.size)
  (h2:W.ownsRow W0.heap.size 3 1 (.slice aa i ka) i (List.replicate i (iv 0))) (h3:W.ownsRow W0.heap.size 173 2 (.slice ab i kb) i bk)
  (h4:∀ j,j < i→∃ dv vv,bk[j * 2]?=some dv∧bk[j * 2 + 1]?=some vv∧DfV W dv (s.rol j).ctrs∧IvR W vv ((firstP s).bank j)∧∀ q,vv.ownBlock=some q→(Value.slice aa i ka).ownBlock≠some q) (h5:WyR W0.heap.size i s.roles.length bi (.slice aw i kw) W) (h6:RW W0.heap.size s (firstP s) i bi W)
  (hdv:DfV W dv (s.rol i).ctrs) (hvv:IvR W vv ((firstP s).bank i)) (hvn:∀ q,vv.ownBlock=some q→(Value.slice aa i ka).ownBlock≠some q) (hFe:∀ k∈F,(Value.slice aa i ka).ownBlock=some k∨(Value.slice ab i kb).ownBlock=some k)
  (hb:FB W0.heap.size (w.heap.size + 2) W F (.slice aa i ka) (.slice ab i kb) (.slice aw i kw) d v (i + 1) (i + 1) (List.replicate (i + 1) (iv 0)) (bk ++ [dv,vv]) Y)
  (e:(Y.setCell ⟨w.heap.size + 2,0,none⟩ d).setCell ⟨w.heap.size + 2,1,none⟩ v=Z):QF w W0 s (i + 1) i Z:=by
 obtain⟨a1,c1,rfl⟩:=own_shape hb.o1
 obtain⟨a2,c2,rfl⟩:=own_shape hb.o2
 have b1:=block_setCell hb.p 0 (.slice a1 (i + 1) c1)
 have b2:=block_setCell b1 1 (.slice a2 (i + 1) c2)
 have hF:Frm [w.heap.size + 2] Y Z:=by rw[← e];exact(setFrm _ _ _ _).trans (setFrm _ _ _ _)
 have hk:Kt [35] Y Z:=by rw[← e];exact((Kt.refl _ Y).set hb.p (by simp) _).set b1 (by simp) _
 have hK:Kt [3,173,35] W Z:=(hb.kt.mono (by simp)).trans (hk.mono (by simp))
 rw[e] at b2
 have hFge:∀ k∈F,W0.heap.size≤k:=fun k hk=>by
  rcases hFe k hk with h | h
  ·exact ownBlock_ge h2 h
  ·exact ownBlock_ge h3 h
 have hWZ:∀ vv l,IvR W vv l→(∀ q,vv.ownBlock=some q→(Value.slice aa i ka).ownBlock≠some q)→IvR Z vv l:=fun vv l hv hn=>by
  refine(hv.frm hb.fr fun q hq hm=>?_).frm hF fun q hq hm=>?_
  ·rcases hFe q hm with h | h
   ·exact hn q hq h
   ·obtain⟨c,hc⟩:=ownBlock_type h3 h
    obtain⟨c',hc'⟩:=ownBlock_type hv hq
    rw[hc] at hc'
    cases hc'
  ·simp at hm
   obtain⟨c',hc'⟩:=ownBlock_type (hv.frm hb.fr fun q hq hm=>by
    rcases hFe q hm with h | h
    ·exact hn q hq h
    ·obtain⟨c,hc⟩:=ownBlock_type h3 h
     obtain⟨c',hc'⟩:=ownBlock_type hv hq
     rw[hc] at hc'
     cases hc') hq
   rw[hm,hb.p] at hc'
   cases hc'
 have hnew:∀ vv l,IvR W vv l→(∀ q,vv.ownBlock=some q→(Value.slice aa i ka).ownBlock≠some q)→∀ q,vv.ownBlock=some q→(Value.slice a1 (i + 1) c1).ownBlock≠some q:=fun vv l hv hn q hq he=>by
  rcases hb.hd q he with h | h
  ·exact hn q hq h
  ·have:=ownBlock_lt hv hq
   omega
 have hbl:bk.length=i * 2:=h3.1
 refine⟨(hW.then hb.fr fun x hx=>.inr (hFge x hx)).trans hF,a1,c1,a2,c2,aw,kw,bi,_,b2,hk.row hb.o1 (by decide),hk.row hb.o2 (by decide),fun j hj=>?_,h5.kt hK (by decide),h6.kt hK (by decide) (by decide)⟩
 by_cases ej:j=i
 ·subst ej
  refine⟨dv,vv,?_,?_,hK.row hdv (by decide),hWZ vv _ hvv hvn,hnew vv _ hvv hvn⟩
  ·rw[List.getElem?_append_right (by omega),hbl,Nat.sub_self];rfl
  ·rw[List.getElem?_append_right (by omega),hbl,show j * 2 + 1 - j * 2=1 by omega];rfl
 ·obtain⟨dv',vv',q1,q2,q3,q4,q5⟩:=h4 j (by omega)
  refine⟨dv',vv',?_,?_,hK.row q3 (by decide),hWZ vv' _ q4 q5,hnew vv' _ q4 q5⟩
  ·rw[List.getElem?_append_left (lt_of_some q1)];exact q1
  ·rw[List.getElem?_append_left (lt_of_some q2)];exact q2
theorem QF.row {w W0 W X Y Z:World} {s:SesD} {i g c:Nat} {aa ab aw:Option Addr} {ka kb kw:Nat} {bi:Nat→Nat} {bk ws:List Value} {v':Value} (hW:Frm [w.heap.size + 2] W0 W) (h1:W.heap[w.heap.size + 2]?=some (.cells #[.slice aa (i + 1) ka,.slice ab (i + 1) kb,.slice aw i kw] 35 (0,0)))
  (h2:W.ownsRow W0.heap.size 3 1 (.slice aa (i + 1) ka) (i + 1) (List.replicate (i + 1) (iv 0))) (h3:W.ownsRow W0.heap.size 173 2 (.slice ab (i + 1) kb) (i + 1) bk)
  (h4:∀ j,j < i + 1→∃ dv vv,bk[j * 2]?=some dv∧bk[j * 2 + 1]?=some vv∧DfV W dv (s.rol j).ctrs∧IvR W vv ((firstP s).bank j)∧∀ q,vv.ownBlock=some q→(Value.slice aa (i + 1) ka).ownBlock≠some q)
  (how:W.ownsRow W0.heap.size 171 1 (.slice aw i kw) i ws) (hws:∀ j,j < i→∃ c,ws[j]?=some (.slice (some ⟨bi j,0,none⟩) s.roles.length c)) (h6:RW W0.heap.size s (firstP s) i bi W)
  (hf:Frm [] W X) (hg:W.heap.size≤g) (hty:Ty X g 168) (hrow:Arr 3 (RcAt s.cls s.cap X) X (.slice (some ⟨g,0,none⟩) s.roles.length c) (rowL s (firstP s) i)) (hgr:X.grownBy Y (Value.slice aw i kw).ownBlock)
  (ho:Y.ownsRow W0.heap.size 171 1 v' (i + 1) (ws ++ [.slice (some ⟨g,0,none⟩) s.roles.length c])) (e:Y.setCell ⟨w.heap.size + 2,2,none⟩ v'=Z):QF w W0 s (i + 1) (i + 1) Z:=by
 obtain⟨a',c',rfl⟩:=own_shape ho
 have hX:=hf.at h1 (by simp)
 have hk1:Kt [171] X Y:=Kt.own (hf.owns how (by simp)) hgr
 have hY:=hk1.cells hX (by decide)
 have b1:=block_setCell hY 2 (.slice a' (i + 1) c')
 have hk2:Kt [35] Y Z:=by rw[← e];exact(Kt.refl _ Y).set hY (by simp) _
 have hXZ:Kt [35,171] X Z:=(hk1.mono (by simp)).trans (hk2.mono (by simp))
 have hK:Kt [35,171] W Z:=(Kt.frm hf).trans hXZ
 have hF:Frm [w.heap.size + 2] Y Z:=by rw[← e];exact setFrm _ _ _ _
 rw[e] at b1
 refine⟨((hW.then hf (by simp)).grown hgr (fun k hk=>.inr (ownBlock_ge how hk))).trans hF,aa,ka,ab,kb,a',c',_,bk,b1,hK.row h2 (by decide),hK.row h3 (by decide),fun j hj=>?_,(WyR.add how hws ho).kt hk2 (by decide),(h6.kt hK (by decide) (by decide)).add (n:=s.roles.length) (c:=c) (hXZ.ty hty (by decide)) (Nat.le_trans hW.size hg) (fun j hj e=>by have:=(h6.ti j hj).1.lt;omega) ?_⟩
 ·obtain⟨dv,vv,q1,q2,q3,q4,q5⟩:=h4 j hj
  exact⟨dv,vv,q1,q2,hK.row q3 (by decide),hK.row q4 (by decide),q5⟩
 ·obtain⟨ao,cc,e1,hx⟩:=hrow
  injection e1 with e2 e3 e4
  refine⟨_,_,congrArg (fun n=>Value.slice _ n _) e3,fun k y hy=>?_⟩
  obtain⟨b,o,e5,ha⟩:=hx k y hy
  rw[← e2] at e5
  cases e5
  obtain⟨cur,hc⟩:=hty
  obtain⟨lv,r0,r1,r2,r3⟩:=ha.eq ((hXZ.cells hc (by decide)).trans hc.symm)
  exact⟨g,0,rfl,lv,r0,r1,r2,hXZ.strs r3 (by decide)⟩
theorem QF.end {w W0 W Z:World} {s:SesD} {n:Nat} (hn:s.roles.length=n) (h:QF w W0 s n n W) (hw0:Frm [] w W0) (h2':w.heap.size + 2 < W0.heap.size) (hpos:0 < n) (hok:PSok s (firstP s)) {C:Array Value} (hrb:W.heap[w.heap.size + 1]?=some (.cells C 35 (0,0))) (hf:Frm [w.heap.size + 1] W Z) (hk:Kt [35] W Z) {aa ab aw:Option Addr} {ka kb kw:Nat}
  (hbx:W.heap[w.heap.size + 2]?=some (.cells #[.slice aa n ka,.slice ab n kb,.slice aw n kw] 35 (0,0))):RSt w.heap.size Z s (.agg #[.slice aa n ka,.slice ab n kb,.slice aw n kw]) (firstP s)∧Frm [] w Z:=by
 subst hn
 have hwZ:Frm [] w Z:=(hw0.then h.fr (by intro k hk;simp at hk;subst hk;exact .inr (by omega))).then hf (by intro k hk;simp at hk;subst hk;exact .inr (by omega))
 refine⟨?_,hwZ⟩
 obtain⟨aa',ka',ab',kb',aw',kw',bi,bk,b1,g2,g3,g4,g5,g6⟩:=h.bx
 rw[hbx] at b1
 injection b1 with b1
 injection b1 with b1
 have e:=congrArg Array.toList b1
 injection e with e1 e
 injection e with e2 e
 injection e with e3 e
 rw[← e1] at g2 g4
 rw[← e2] at g3
 rw[← e3] at g5
 have G2:=hk.row g2 (by decide);have G3:=hk.row g3 (by decide)
 obtain⟨ga,ca,cua,ea,ga1,ga2⟩:=own_block G2 (by omega)
 obtain⟨gb,cb,cub,eb,gb1,gb2⟩:=own_block G3 (by omega)
 cases ea
 cases eb
 refine(RSt.mk' (B:=W0.heap.size) hpos hok ?_ (fun k hk=>?_) ⟨_,_,rfl⟩ ?_ (fun k hk=>?_) ⟨_,_,rfl⟩ (g5.kt hk (by decide)) (g6.kt hk (by decide) (by decide)) ?_).low hw0.size
 ·refine⟨_,_,by rw[posL_len],fun i y hy=>⟨ga,0,rfl,?_⟩⟩
  obtain⟨hi,rfl⟩:=range_map_at hy
  unfold IAt
  rw[Nat.zero_add,Nat.mul_one,firstP_at]
  exact own_at G2 (by rw[List.getElem?_replicate,if_pos hi];rfl)
 ·simp[Value.ownBlock] at hk;subst hk;exact⟨ga1,_,ga2⟩
 ·refine⟨_,_,by rw[bnkL_len],fun i y hy=>⟨gb,0,rfl,?_⟩⟩
  obtain⟨hi,rfl⟩:=range_map_at hy
  obtain⟨dv,vv,q1,q2,q3,q4,q5⟩:=g4 i hi
  rw[Nat.zero_add]
  exact⟨dv,vv,own_at G3 q1,own_at G3 q2,hk.row q3 (by decide),hk.row q4 (by decide)⟩
 ·simp[Value.ownBlock] at hk;subst hk;exact⟨gb1,_,gb2⟩
 ·intro i b o vv hi hb ho hv k hk' hka
  simp[Value.ownBlock] at hb hka
  subst hb ho hka
  obtain⟨dv,vv',q1,q2,q3,q4,q5⟩:=g4 i hi
  rw[own_at G3 q2] at hv
  cases hv
  exact q5 _ hk' rfl
end Go.Proofs.YtkphhjekfimmlaaGreat
namespace Go.Proofs.YtkphhjekfimmlaaGreat
open Go.RowKit Go.BigFrame
def chE (s:SesD):Nat→List Value
 | 0=>[]
 | k + 1=>chE s k ++ [.int .i64 s.cls,.int .i64 s.cap,.slice none 0 0]
theorem chE_len (s:SesD):∀ k,(chE s k).length=k * 3
 | 0=>rfl
 | k + 1=>by rw[chE,List.length_append,chE_len s k,Nat.add_mul];rfl
theorem chE_at (s:SesD) {j:Nat}:∀ k,j < k→(chE s k)[j * 3]?=some (.int .i64 s.cls)∧(chE s k)[j * 3 + 1]?=some (.int .i64 s.cap)∧(chE s k)[j * 3 + 2]?=some (.slice none 0 0)
 | 0,h=>by omega
 | k + 1,h=>by
   have hl:=chE_len s k
   rw[chE]
   by_cases e:j=k
   ·subst e
    rw[List.getElem?_append_right (by omega),List.getElem?_append_right (by omega),List.getElem?_append_right (by omega),hl,Nat.sub_self,show j * 3 + 1 - j * 3=1 by omega,show j * 3 + 2 - j * 3=2 by omega]
    exact⟨rfl,rfl,rfl⟩
   ·rw[List.getElem?_append_left (by omega),List.getElem?_append_left (by omega),List.getElem?_append_left (by omega)]
    exact chE_at s k (by omega)
theorem chE_row {X:World} {s:SesD} {B g c i:Nat} (ho:X.ownsRow B 168 3 (.slice (some ⟨g,0,none⟩) s.roles.length c) s.roles.length (chE s s.roles.length)):Arr 3 (RcAt s.cls s.cap X) X (.slice (some ⟨g,0,none⟩) s.roles.length c) (rowL s (firstP s) i):=by
 refine⟨_,c,by rw[rowL_len],fun k y hy=>⟨g,0,rfl,?_⟩⟩
 obtain⟨hk,rfl⟩:=range_map_at hy
 obtain⟨q0,q1,q2⟩:=chE_at s _ hk
 rw[Nat.zero_add,first_way]
 exact⟨_,own_at ho q0,own_at ho q1,own_at ho q2,.inl (World.ownsRow_nil _ _ _ _)⟩
theorem Tryz.infoRb:(Tryz.prog.info? 173).map (fun i=>(i.zero,i.size,i.bytes))=some (some (.agg #[.slice none 0 0,.slice none 0 0]),2,48):=by kernel_rfl
theorem Tryz.infoRn:(Tryz.prog.info? 168).map (fun i=>(i.zero,i.size,i.bytes))=some (some (.agg #[.int .i64 0,.int .i64 0,.slice none 0 0]),3,40):=by kernel_rfl
set_option maxHeartbeats 16000000 in
set_option maxRecDepth 100000 in
theorem qFirst_any (s:SesD) (v:Value) (w:World) (h:SesV w v s) (hok:SesOk s):Calls Tryz.prog 49 #[v] w (RetV fun u w'=>RSt w.heap.size w' s u (firstP s)∧Frm [] w w'):=by
 obtain⟨rv,rfl,hr⟩:=h
 obtain⟨ao,cap,rfl⟩:=hr.shape
 obtain⟨n,hn⟩:∃ n,s.roles.length=n:=⟨_,rfl⟩
 have h2:2≤n:=hn ▸ hok.n2
 have h4:n≤4:=hn ▸ hok.n4
 obtain⟨W0,hW0⟩:∃ W0,((w.alloc (.cells #[.string s.name,.slice ao s.roles.length cap,.int .i64 s.cls,.int .i64 s.cap] 25)).alloc (.cells #[.slice none 0 0,.slice none 0 0,.slice none 0 0] 35)).alloc (.cells #[.slice none 0 0,.slice none 0 0,.slice none 0 0] 35)=W0:=⟨_,rfl⟩
 have hf0:Frm [] w W0:=by rw[← hW0];exact(((Frm.refl _ _).alloc _).alloc _).alloc _
 have hb1:W0.heap[w.heap.size]?=some (.cells #[.string s.name,.slice ao s.roles.length cap,.int .i64 s.cls,.int .i64 s.cap] 25 (0,0)):=by rw[← hW0];exact alloc_at (alloc_at (heap_alloc_new _ _))
 have hb2:W0.heap[w.heap.size + 1]?=some (.cells #[.slice none 0 0,.slice none 0 0,.slice none 0 0] 35 (0,0)):=by rw[← hW0];exact alloc_at (alloc_top (by simp))
 have hb3:W0.heap[w.heap.size + 2]?=some (.cells #[.slice none 0 0,.slice none 0 0,.slice none 0 0] 35 (0,0)):=by rw[← hW0];exact alloc_top (by simp)
 have hl3:=lt_of_block hb3
 have HQ0:Hid (QF w W0 s 0 0 W0):=Lib.hid ⟨Frm.refl _ _,none,0,none,0,none,0,fun _=>0,[],hb3,World.ownsRow_nil _ _ _ _,World.ownsRow_nil _ _ _ _,fun j hj=>by omega,⟨[],World.ownsRow_nil _ _ _ _,fun j hj=>by omega⟩,RW.zero _ _ _ _ _⟩
 have HF0:=Lib.hid hf0;have HOK:=Lib.hid hok;have HN:=Lib.hid hn
 have HR:Hid (∀ V,Frm [] w V→Rls V (.slice ao s.roles.length cap) s.roles):=Lib.hid fun V hV=>hr.frm hV
 have HS1:Hid (∀ V,Frm [w.heap.size + 2] W0 V→(V.cell? ⟨w.heap.size,1,none⟩=some (.slice ao n cap)∧V.cell? ⟨w.heap.size,2,none⟩=some (.int .i64 s.cls))∧V.cell? ⟨w.heap.size,3,none⟩=some (.int .i64 s.cap)):=Lib.hid fun V hV=>by
  have hz:=hV.at hb1 (by simp)
  exact⟨⟨(cell_of hz 1).trans (by rw[hn];rfl),cell_of hz 2⟩,cell_of hz 3⟩
 have HB2:Hid (∀ V,Frm [w.heap.size + 2] W0 V→V.heap[w.heap.size + 1]?=some (.cells #[.slice none 0 0,.slice none 0 0,.slice none 0 0] 35 (0,0))):=Lib.hid fun V hV=>hV.at hb2 (by simp)
 have HW:Hid (∀ V,Frm [w.heap.size + 2] W0 V→Frm [] w V):=Lib.hid fun V hV=>hf0.then hV (by intro k hk;simp at hk;subst hk;exact .inr (by omega))
 have HE:=Lib.hid hW0
 rw[hn] at HE HR
 rw[hn]
 have hlw:w.heap.size + 2 < W0.heap.size:=hl3
 clear hr hn hok hW0 hf0 hb1 hb2 hb3 hl3
 go_enter Tryz.func49,Tryz.ntmps49
 go_upto_region 2 with fail
 rw[HE.out]
 clear HE
 go_upto_region 3 with fail
 go_loopw [4] (fun s4 wr=>∃ i:Nat,s4=.int .i64 i∧i≤n∧QF w W0 s i i wr) (fun s4 _=>n - (intOf s4).toNat)
 case atStart=>exact⟨0,rfl,Nat.zero_le _,HQ0.out⟩
 case round =>
  clear HQ0
  obtain⟨i,rfl,hi,hq⟩:=hrel
  have HQ:=Lib.hid hq
  clear hq
  obtain⟨wl,hwl⟩:∃ wl,wl=wr:=⟨_,rfl⟩
  subst hwl
  obtain⟨⟨e1,-⟩,-⟩:=HS1.out wl HQ.out.fr
  by_cases hlt:i < n
  ·have hlt':(i:Int) < (n:Int):=by omega
   have hin:i < s.roles.length:=by rw[HN.out];exact hlt
   obtain⟨b,o,sv,cv,tv,rfl,⟨-,-,d2,-⟩,h3⟩:=Rls.at (HR.out wl (HW.out wl HQ.out.fr)) hin
   obtain⟨ac,kc,ec⟩:=h3.ctrs.shape
   subst ec
   have CN:=Lib.hid (jNew_any _ (s.rol i).ctrs wl h3.ctrs (rolOk_defs (HOK.out.at hin)))
   clear h3
   go_upto_region 6 with (first
    | (go_at_call 100;go_must (refine CN.out.mono ?_;clear CN;rintro e w1 ⟨u,rfl,dv,vv,rfl,hd,hv,hf1⟩;obtain⟨a1,k1,rfl⟩:=own_shape hd;obtain⟨a2,k2,rfl⟩:=own_shape hv;have HD:=Lib.hid hd;have HV:=Lib.hid hv;have HF1:=Lib.hid hf1;clear hd hv hf1))
    | (refine wpList_store_row rfl 173 _ _ rfl _ _ _ _ rfl rfl (heap_alloc_new _ _) rfl (by kernel_rfl) (one2 ..) ?_;intro w2 hb2 hf2;have HBT:=Lib.hid hb2;have HF2:=Lib.hid hf2;clear hb2 hf2))
   clear e1 d2
   have hF12:Frm [] wl w2:=(HF1.out.alloc _).then HF2.out (by intro k hk;simp at hk;subst hk;exact .inr HF1.out.size)
   have hF1':∀ vv,Frm [w1.heap.size] (w1.alloc vv) w2→True:=fun _ _=>trivial
   obtain⟨tb,htb⟩:∃ tb,w1.heap.size=tb:=⟨_,rfl⟩
   have htl:wl.heap.size≤tb:=htb ▸ HF1.out.size
   rw[htb] at HBT HF2 ⊢
   have HDD:Hid (DfV w2 (.slice a1 (s.rol i).ctrs.length k1) (s.rol i).ctrs):=Lib.hid (own_low ((HD.out.alloc _) |> fun h=>HF2.out.owns h (fun k hk hm=>by have:=ownBlock_lt HD.out hk;simp at hm;omega)) (Nat.zero_le _))
   have HVV:Hid (IvR w2 (.slice a2 (s.rol i).ctrs.length k2) ((firstP s).bank i)):=Lib.hid (by
    rw[first_bank s hin]
    unfold IvR
    rw[List.length_replicate,List.map_replicate]
    exact own_low (HF2.out.owns (HV.out.alloc _) (fun k hk hm=>by have:=ownBlock_lt HV.out hk;simp at hm;omega)) (Nat.zero_le _))
   have HVG:Hid (∀ q,(Value.slice a2 (s.rol i).ctrs.length k2).ownBlock=some q→wl.heap.size≤q):=Lib.hid fun q hq=>ownBlock_ge HV.out hq
   obtain⟨nc,hnc⟩:∃ nc,(s.rol i).ctrs.length=nc:=⟨_,rfl⟩
   rw[hnc] at HDD HVV HVG HBT ⊢
   have HQ2:=Lib.hid (HQ.out.frm hF12)
   obtain⟨aa,ka,ab,kb,aw,kw,bi,bk,hp,ho1,ho2,hbk,hwy,hrw⟩:=HQ2.out.bx
   have HP:=Lib.hid hp;have HO1:=Lib.hid ho1;have HO2:=Lib.hid ho2;have HBK:=Lib.hid hbk;have HWY:=Lib.hid hwy;have HRW:=Lib.hid hrw
   have HVN:Hid (∀ q,(Value.slice a2 nc k2).ownBlock=some q→(Value.slice aa i ka).ownBlock≠some q):=Lib.hid fun q hq he=>by
    obtain⟨aa',ka',_,_,_,_,_,_,hp',ho1',_⟩:=HQ.out.bx
    have hp2:=hF12.at hp' (by simp)
    rw[hp] at hp2
    injection hp2 with hp2
    injection hp2 with hp2
    have e:=congrArg Array.toList hp2
    injection e with e _
    rw[e] at he
    have:=ownBlock_lt ho1' he
    have:=HVG.out q hq
    omega
   obtain⟨F,hFe⟩:∃ F,(Value.slice aa i ka).ownBlock.toList ++ (Value.slice ab i kb).ownBlock.toList=F:=⟨_,rfl⟩
   have hFor:∀ k∈F,(Value.slice aa i ka).ownBlock=some k∨(Value.slice ab i kb).ownBlock=some k:=fun k hk=>by
    rw[← hFe] at hk
    rcases List.mem_append.1 hk with hk | hk
    ·exact .inl (by simpa using hk)
    ·exact .inr (by simpa using hk)
   have HFOR:=Lib.hid hFor
   have HFA:Hid (∀ k,(Value.slice aa i ka).ownBlock=some k→k∈F):=Lib.hid fun k hk=>by rw[← hFe];simp[hk]
   have HFB:Hid (∀ k,(Value.slice ab i kb).ownBlock=some k→k∈F):=Lib.hid fun k hk=>by rw[← hFe];simp[hk]
   have hFp:w.heap.size + 2∉F:=fun hm=>by
    rcases hFor _ hm with h | h
    ·obtain⟨c,hc⟩:=ownBlock_type ho1 h
     rw[hp] at hc;cases hc
    ·obtain⟨c,hc⟩:=ownBlock_type ho2 h
     rw[hp] at hc;cases hc
   have hFt:tb∉F:=fun hm=>by
    obtain⟨aa',ka',ab',kb',_,_,_,_,hp',ho1',ho2',_⟩:=HQ.out.bx
    have hp2:=hF12.at hp' (by simp)
    rw[hp] at hp2
    injection hp2 with hp2
    injection hp2 with hp2
    have e:=congrArg Array.toList hp2
    injection e with e e'
    injection e' with e' _
    rcases hFor _ hm with h | h
    ·rw[e] at h
     have:=ownBlock_lt ho1' h
     omega
    ·rw[e'] at h
     have:=ownBlock_lt ho2' h
     omega
   have HCF:Hid (∀ V,Frm F w2 V→(V.cell? ⟨w.heap.size + 2,0,none⟩=some (.slice aa i ka)∧V.cell? ⟨w.heap.size + 2,1,none⟩=some (.slice ab i kb))∧V.cell? ⟨tb,0,none⟩=some (.slice a1 nc k1)∧V.cell? ⟨tb,1,none⟩=some (.slice a2 nc k2)):=Lib.hid fun V hV=>by
    have hz:=hV.at hp hFp
    have hy:=hV.at HBT.out hFt
    exact⟨⟨cell_of hz 0,cell_of hz 1⟩,cell_of hy 0,cell_of hy 1⟩
   obtain⟨i0,hi0,hz0,hz1,hz2⟩:=info_parts Tryz.infoIn
   obtain⟨i1,hi1,hy0,hy1,hy2⟩:=info_parts Tryz.infoRb
   have hB0:W0.heap.size≤w2.heap.size:=HQ2.out.fr.size
   have hi3:i < 4:=by omega
   have HFR2:=Lib.hid HQ2.out.fr
   clear hp ho1 ho2 hbk hwy hrw hFor hFp hFt hFe hF12 hF1' htb hnc HD HV HF1
   go_upto_region 6 with fail
   go_cut [] (fun wc=>QF w W0 s (i + 1) i wc)
   case first =>
    refine heldL_start F (wrFrom 10) (by kernel_rfl) ?_
    refine cnt 0 ?_
    iterate 2
     refine hcL ?_ ?_ ?_
     rotate_left
     ·intro w' hC
      obtain⟨⟨x0,x1⟩,x2,x3⟩:=HCF.out w' ((Frm.refl F w2).drew.trans hC)
      clear hC
      go_simp
      try rfl
     try simp only[nrm,Nat.reduceAdd]
    refine tcn ?_
    refine cnt 4 ?_
    iterate 3
     refine hcL ?_ ?_ ?_
     rotate_left
     ·intro w' hC
      obtain⟨⟨x0,x1⟩,x2,x3⟩:=HCF.out w' ((Frm.refl F w2).drew.trans hC)
      clear hC
      go_simp
      try rfl
     try simp only[nrm,Nat.reduceAdd]
    refine tcn ?_
    obtain⟨wd,hwd⟩:∃ wd,w2.drew=wd:=⟨_,rfl⟩
    have hbd:FB W0.heap.size (w.heap.size + 2) w2 F (.slice aa i ka) (.slice ab i kb) (.slice aw i kw) (.slice aa i ka) (.slice ab i kb) i i (List.replicate i (iv 0)) bk wd:=by rw[← hwd];exact⟨(Frm.refl F w2).drew,Kt.frm ((Frm.refl [] w2).drew),HP.out,HO1.out,HO2.out,fun q hq=>.inl hq⟩
    rw[hwd]
    clear hwd
    refine heldL_all (rs:=[2,7]) (by kernel_rfl) (by simp) (allL_cons ?_ (allL_cons ?_ allL_nil))
    ·skip
     refine heldL_step (i:=2) rfl rfl (by rfl) (fun K' hK'=>?_)
     go_simp
     (skip)
     refine hK'.out _ _ ((Frm.refl _ _).alloc _) ?_
     clear hK' K'
     try simp only[nrm]
     have hr2:=heap_alloc_new (wd) (.cells #[.int .i64 0] 3)
     have hb2:=FB.alloc hbd (.cells #[.int .i64 0] 3)
     refine heldL_all (rs:=[3,7]) (by kernel_rfl) (by simp) (allL_cons ?_ (allL_cons ?_ allL_nil))
     ·skip
      refine heldL_step (i:=3) rfl rfl (by rfl) (fun K' hK'=>?_)
      refine wp_own_stepL _ _ 31 rfl W0.heap.size 3 Tryz.underlying31 hi0 hz0 hz1 hz2 rfl (by decide) (.slice aa i ka) i _ rfl hb2.o1 _ 1 1 [.int .i64 0] rfl rfl (by have:=row_cells hr2;simpa using this) (by simp[Value.oneCell']) (by unfold maxLen;omega) (by omega) (by have:=hb2.fr.size;omega) ?_
      intro d1 X3 ho3 hg3 hd3
      have hb3:=FB.app1 hb2 HFA.out hg3 ho3 hd3
      obtain⟨q3,c3,hsh3⟩:=own_shape ho3
      subst hsh3
      refine hK'.out _ _ ((Frm.refl F _).grown hg3 (fun k hk=>.inl (HFA.out k hk))) ?_
      clear hK' K'
      try simp only[nrm]
      refine htL 9 ?_ ?_ ?_
      rotate_left
      ·intro w' hC
       clear hC
       go_simp
       try rfl
      try simp only[nrm]
      refine honL 7 ?_
      refine heldL_step (i:=7) rfl rfl (by rfl) (fun K' hK'=>?_)
      go_simp
      (skip)
      refine hK'.out _ _ ((Frm.refl _ _).alloc _) ?_
      clear hK' K'
      try simp only[nrm]
      have hr7:=heap_alloc_new (X3) (.cells #[.slice a1 nc k1,.slice a2 nc k2] 173)
      have hb7:=FB.alloc hb3 (.cells #[.slice a1 nc k1,.slice a2 nc k2] 173)
      refine heldL_all (rs:=[8]) (by kernel_rfl) (by simp) (allL_cons ?_ allL_nil)
      refine heldL_step (i:=8) rfl rfl (by rfl) (fun K' hK'=>?_)
      refine wp_own_step _ _ 32 rfl W0.heap.size 173 Tryz.underlying32 hi1 hy0 hy1 hy2 rfl (by decide) (.slice ab i kb) i _ rfl hb7.o2 _ 1 1 [.slice a1 nc k1,.slice a2 nc k2] rfl rfl (by have:=row_cells hr7;simpa using this) (by simp[Value.oneCell']) (by unfold maxLen;omega) (by omega) (by have:=hb7.fr.size;omega) ?_
      intro v1 X8 ho8 hg8
      have hb8:=FB.app2 hb7 HFB.out hg8 ho8
      obtain⟨q8,c8,hsh8⟩:=own_shape ho8
      subst hsh8
      refine hK'.out _ _ ((Frm.refl F _).grown hg8 (fun k hk=>.inl (HFB.out k hk))) ?_
      clear hK' K'
      try simp only[nrm]
      have HBE:=Lib.hid hb8
      have fp:=free_of HBE.out.p 0
      have fq:=free_of HBE.out.p 1
      have y0:=cell_of HBE.out.p 0
      have y1:=cell_of HBE.out.p 1
      clear hb2 hb3 hb7 hb8 ho3 ho8 hg3 hg8 hd3 hbd
      refine honL 10 ?_
      refine heldL_write (i:=10) rfl (by rfl) (by rfl) (fun K' hK'=>?_)
      go_simp
      (skip)
      refine hK'.out _ _ ?_
      clear hK' K'
      try simp only[nrm]
      refine honL 11 ?_
      refine heldL_write (i:=11) rfl (by rfl) (by rfl) (fun K' hK'=>?_)
      go_simp
      (skip)
      refine hK'.out _ _ ?_
      clear hK' K'
      try simp only[nrm]
      refine honL 12 ?_
      refine heldL_write (i:=12) rfl (by rfl) (by rfl) (fun K' hK'=>?_)
      go_simp
      (skip)
      refine hK'.out _ _ ?_
      clear hK' K'
      try simp only[nrm]
      refine heldL_done (by kernel_rfl) ?_ _
      go_wp2
      go_meet
      exact QF.grow HFR2.out hlw HO1.out HO2.out HBK.out HWY.out HRW.out HDD.out HVV.out HVN.out HFOR.out (by rw[List.replicate_succ'];exact HBE.out) rfl
     ·skip
      refine heldL_step (i:=7) rfl rfl (by rfl) (fun K' hK'=>?_)
      go_simp
      (skip)
      refine hK'.out _ _ ((Frm.refl _ _).alloc _) ?_
      clear hK' K'
      try simp only[nrm]
      have hr2:=alloc_at (x:=.cells #[.slice a1 nc k1,.slice a2 nc k2] 173) hr2
      have hr7:=heap_alloc_new ((wd).alloc (.cells #[.int .i64 0] 3)) (.cells #[.slice a1 nc k1,.slice a2 nc k2] 173)
      have hb7:=FB.alloc hb2 (.cells #[.slice a1 nc k1,.slice a2 nc k2] 173)
      refine heldL_all (rs:=[3]) (by kernel_rfl) (by simp) (allL_cons ?_ allL_nil)
      refine heldL_step (i:=3) rfl rfl (by rfl) (fun K' hK'=>?_)
      refine wp_own_stepL _ _ 31 rfl W0.heap.size 3 Tryz.underlying31 hi0 hz0 hz1 hz2 rfl (by decide) (.slice aa i ka) i _ rfl hb7.o1 _ 1 1 [.int .i64 0] rfl rfl (by have:=row_cells hr2;simpa using this) (by simp[Value.oneCell']) (by unfold maxLen;omega) (by omega) (by have:=hb7.fr.size;omega) ?_
      intro d1 X3 ho3 hg3 hd3
      have hb3:=FB.app1 hb7 HFA.out hg3 ho3 hd3
      replace hr7:=(Kt.own hb7.o1 hg3).cells hr7 (by decide)
      obtain⟨q3,c3,hsh3⟩:=own_shape ho3
      subst hsh3
      refine hK'.out _ _ ((Frm.refl F _).grown hg3 (fun k hk=>.inl (HFA.out k hk))) ?_
      clear hK' K'
      try simp only[nrm]
      refine htL 9 ?_ ?_ ?_
      rotate_left
      ·intro w' hC
       clear hC
       go_simp
       try rfl
      try simp only[nrm]
      refine heldL_all (rs:=[8]) (by kernel_rfl) (by simp) (allL_cons ?_ allL_nil)
      refine heldL_step (i:=8) rfl rfl (by rfl) (fun K' hK'=>?_)
      refine wp_own_step _ _ 32 rfl W0.heap.size 173 Tryz.underlying32 hi1 hy0 hy1 hy2 rfl (by decide) (.slice ab i kb) i _ rfl hb3.o2 _ 1 1 [.slice a1 nc k1,.slice a2 nc k2] rfl rfl (by have:=row_cells hr7;simpa using this) (by simp[Value.oneCell']) (by unfold maxLen;omega) (by omega) (by have:=hb3.fr.size;omega) ?_
      intro v1 X8 ho8 hg8
      have hb8:=FB.app2 hb3 HFB.out hg8 ho8
      obtain⟨q8,c8,hsh8⟩:=own_shape ho8
      subst hsh8
      refine hK'.out _ _ ((Frm.refl F _).grown hg8 (fun k hk=>.inl (HFB.out k hk))) ?_
      clear hK' K'
      try simp only[nrm]
      have HBE:=Lib.hid hb8
      have fp:=free_of HBE.out.p 0
      have fq:=free_of HBE.out.p 1
      have y0:=cell_of HBE.out.p 0
      have y1:=cell_of HBE.out.p 1
      clear hb2 hb3 hb7 hb8 ho3 ho8 hg3 hg8 hd3 hbd
      refine honL 10 ?_
      refine heldL_write (i:=10) rfl (by rfl) (by rfl) (fun K' hK'=>?_)
      go_simp
      (skip)
      refine hK'.out _ _ ?_
      clear hK' K'
      try simp only[nrm]
      refine honL 11 ?_
      refine heldL_write (i:=11) rfl (by rfl) (by rfl) (fun K' hK'=>?_)
      go_simp
      (skip)
      refine hK'.out _ _ ?_
      clear hK' K'
      try simp only[nrm]
      refine honL 12 ?_
      refine heldL_write (i:=12) rfl (by rfl) (by rfl) (fun K' hK'=>?_)
      go_simp
      (skip)
      refine hK'.out _ _ ?_
      clear hK' K'
      try simp only[nrm]
      refine heldL_done (by kernel_rfl) ?_ _
      go_wp2
      go_meet
      exact QF.grow HFR2.out hlw HO1.out HO2.out HBK.out HWY.out HRW.out HDD.out HVV.out HVN.out HFOR.out (by rw[List.replicate_succ'];exact HBE.out) rfl
    ·skip
     refine heldL_step (i:=7) rfl rfl (by rfl) (fun K' hK'=>?_)
     go_simp
     (skip)
     refine hK'.out _ _ ((Frm.refl _ _).alloc _) ?_
     clear hK' K'
     try simp only[nrm]
     have hr7:=heap_alloc_new (wd) (.cells #[.slice a1 nc k1,.slice a2 nc k2] 173)
     have hb7:=FB.alloc hbd (.cells #[.slice a1 nc k1,.slice a2 nc k2] 173)
     refine honL 2 ?_
     refine heldL_step (i:=2) rfl rfl (by rfl) (fun K' hK'=>?_)
     go_simp
     (skip)
     refine hK'.out _ _ ((Frm.refl _ _).alloc _) ?_
     clear hK' K'
     try simp only[nrm]
     have hr7:=alloc_at (x:=.cells #[.int .i64 0] 3) hr7
     have hr2:=heap_alloc_new ((wd).alloc (.cells #[.slice a1 nc k1,.slice a2 nc k2] 173)) (.cells #[.int .i64 0] 3)
     have hb2:=FB.alloc hb7 (.cells #[.int .i64 0] 3)
     refine heldL_all (rs:=[3]) (by kernel_rfl) (by simp) (allL_cons ?_ allL_nil)
     refine heldL_step (i:=3) rfl rfl (by rfl) (fun K' hK'=>?_)
     refine wp_own_stepL _ _ 31 rfl W0.heap.size 3 Tryz.underlying31 hi0 hz0 hz1 hz2 rfl (by decide) (.slice aa i ka) i _ rfl hb2.o1 _ 1 1 [.int .i64 0] rfl rfl (by have:=row_cells hr2;simpa using this) (by simp[Value.oneCell']) (by unfold maxLen;omega) (by omega) (by have:=hb2.fr.size;omega) ?_
     intro d1 X3 ho3 hg3 hd3
     have hb3:=FB.app1 hb2 HFA.out hg3 ho3 hd3
     replace hr7:=(Kt.own hb2.o1 hg3).cells hr7 (by decide)
     obtain⟨q3,c3,hsh3⟩:=own_shape ho3
     subst hsh3
     refine hK'.out _ _ ((Frm.refl F _).grown hg3 (fun k hk=>.inl (HFA.out k hk))) ?_
     clear hK' K'
     try simp only[nrm]
     refine htL 9 ?_ ?_ ?_
     rotate_left
     ·intro w' hC
      clear hC
      go_simp
      try rfl
     try simp only[nrm]
     refine heldL_all (rs:=[8]) (by kernel_rfl) (by simp) (allL_cons ?_ allL_nil)
     refine heldL_step (i:=8) rfl rfl (by rfl) (fun K' hK'=>?_)
     refine wp_own_step _ _ 32 rfl W0.heap.size 173 Tryz.underlying32 hi1 hy0 hy1 hy2 rfl (by decide) (.slice ab i kb) i _ rfl hb3.o2 _ 1 1 [.slice a1 nc k1,.slice a2 nc k2] rfl rfl (by have:=row_cells hr7;simpa using this) (by simp[Value.oneCell']) (by unfold maxLen;omega) (by omega) (by have:=hb3.fr.size;omega) ?_
     intro v1 X8 ho8 hg8
     have hb8:=FB.app2 hb3 HFB.out hg8 ho8
     obtain⟨q8,c8,hsh8⟩:=own_shape ho8
     subst hsh8
     refine hK'.out _ _ ((Frm.refl F _).grown hg8 (fun k hk=>.inl (HFB.out k hk))) ?_
     clear hK' K'
     try simp only[nrm]
     have HBE:=Lib.hid hb8
     have fp:=free_of HBE.out.p 0
     have fq:=free_of HBE.out.p 1
     have y0:=cell_of HBE.out.p 0
     have y1:=cell_of HBE.out.p 1
     clear hb2 hb3 hb7 hb8 ho3 ho8 hg3 hg8 hd3 hbd
     refine honL 10 ?_
     refine heldL_write (i:=10) rfl (by rfl) (by rfl) (fun K' hK'=>?_)
     go_simp
     (skip)
     refine hK'.out _ _ ?_
     clear hK' K'
     try simp only[nrm]
     refine honL 11 ?_
     refine heldL_write (i:=11) rfl (by rfl) (by rfl) (fun K' hK'=>?_)
     go_simp
     (skip)
     refine hK'.out _ _ ?_
     clear hK' K'
     try simp only[nrm]
     refine honL 12 ?_
     refine heldL_write (i:=12) rfl (by rfl) (by rfl) (fun K' hK'=>?_)
     go_simp
     (skip)
     refine hK'.out _ _ ?_
     clear hK' K'
     try simp only[nrm]
     refine heldL_done (by kernel_rfl) ?_ _
     go_wp2
     go_meet
     exact QF.grow HFR2.out hlw HO1.out HO2.out HBK.out HWY.out HRW.out HDD.out HVV.out HVN.out HFOR.out (by rw[List.replicate_succ'];exact HBE.out) rfl
   case rest =>
    have HQ3:=Lib.hid hcut
    clear hcut HQ2 HP HO1 HO2 HBK HWY HRW HCF HBT
    obtain⟨wz,hwz⟩:∃ wz,wz=wc:=⟨_,rfl⟩
    subst hwz
    go_upto_region 9 with fail
    go_loopw [7,8] (fun s7 s8 wv=>∃ (k:Nat) (ar:Option Addr) (kr:Nat),s7=.slice ar k kr∧s8=.int .i64 k∧k≤n∧wv.ownsRow wz.heap.size 168 3 (.slice ar k kr) k (chE s k)∧Frm [] wz wv) (fun _ s8 _=>n - (intOf s8).toNat)
    case atStart=>exact⟨0,none,0,rfl,rfl,Nat.zero_le _,World.ownsRow_nil _ _ _ _,Frm.refl _ _⟩
    case round =>
     obtain⟨k,ar,kr,rfl,rfl,hk,ho,hf⟩:=hrel
     have HO:=Lib.hid ho;have HF:=Lib.hid hf
     clear ho hf
     obtain⟨wv,hwv⟩:∃ wv,wv=wr:=⟨_,rfl⟩
     subst hwv
     obtain⟨⟨e1,e2⟩,e3⟩:=HS1.out wv (HQ3.out.fr.trans (HF.out.mono (by simp)))
     by_cases hlk:k < n
     ·have hlk':(k:Int) < (n:Int):=by omega
      have CC:=Lib.hid (refNew_ok s.cls s.cap wv (okC_of HOK.out))
      obtain⟨i2,hi2,hx0,hx1,hx2⟩:=info_parts Tryz.infoRn
      go_upto_region 12 with (first
       | (go_at_call 101;go_must (refine CC.out.mono ?_;clear CC;rintro e w4 ⟨rfl,hf4⟩;have HF4:=Lib.hid hf4;clear hf4 e1 e2 e3))
       | (refine wpList_store_row rfl 168 _ _ rfl _ _ _ _ rfl rfl (heap_alloc_new _ _) rfl (by kernel_rfl) (one3 ..) ?_;intro w5 hb5 hf5;have HB5:=Lib.hid hb5;have HF5:=Lib.hid ((HF4.out.alloc _).then hf5 (by intro q hq;simp at hq;subst hq;exact .inr HF4.out.size));clear hb5 hf5))
      have HO5:=Lib.hid (HF5.out.owns HO.out (by simp))
      clear HF4
      go_wp2_with (first
       | (refine wpList_load_whole rfl 168 _ rfl _ rfl _ 168 HB5.out _ Tryz.underlying168 rfl (by kernel_rfl) ?_)
       | (at_builtin;refine wpList_append_own_at _ rfl _ _ 171 rfl wz.heap.size 168 i2 (.agg #[.int .i64 0,.int .i64 0,.slice none 0 0]) 3 40 Tryz.underlying171 hi2 hx0 hx1 hx2 rfl (by decide) (.slice ar k kr) k _ rfl (HO5.out.alloc _) ⟨w5.heap.size,0,none⟩ 1 1 [.int .i64 s.cls,.int .i64 s.cap,.slice none 0 0] rfl rfl (new_row _ _ _) (by simp[Value.oneCell']) (by unfold maxLen;omega) (by omega) (by have:=HF.out.size;have:=HF5.out.size;simp;omega) ?_;intro v' w6 hown' hgrow _ _;obtain⟨a6,k6,rfl⟩:=own_shape hown';have HO6:=Lib.hid hown';have HF6:=Lib.hid (((HF.out.trans HF5.out).alloc (.cells #[.int .i64 s.cls,.int .i64 s.cap,.slice none 0 0] 168)).grown hgrow (fun q hq=>.inr (ownBlock_ge HO5.out hq)));clear hown' hgrow))
      exact⟨⟨k + 1,a6,k6,rfl,congrArg (Value.int .i64) (by omega),hlk,HO6.out,HF6.out⟩,by simp[intOf];omega⟩
     ·obtain rfl:n=k:=by omega
      have hge:¬ (n:Int) < (n:Int):=by omega
      obtain⟨g,kg,cug,eg,hgl,hgt⟩:=own_block HO.out (by omega)
      cases eg
      obtain⟨aa,ka,ab,kb,aw,kw,bi,bk,hp,ho1,ho2,hbk,⟨ws,how,hws⟩,hrw⟩:=HQ3.out.bx
      have HP:=Lib.hid hp;have HO1:=Lib.hid ho1;have HO2:=Lib.hid ho2;have HBK:=Lib.hid hbk;have HOW:=Lib.hid how;have HWS:=Lib.hid hws;have HRW:=Lib.hid hrw
      have HGL:=Lib.hid hgl;have HGT:=Lib.hid hgt
      have y2:=cell_of (HF.out.at hp (by simp)) 2
      obtain⟨i3,hi3,hx0,hx1,hx2⟩:=info_parts Tryz.infoRc
      have hi4:i < 4:=by omega
      have hyl:=cell_lt y2
      clear hp ho1 ho2 hbk how hws hrw hgl hgt
      go_wp2_with (at_builtin;refine wpList_append_own_at _ rfl _ _ 33 rfl W0.heap.size 171 i3 (.slice none 0 0) 1 24 Tryz.underlying33 hi3 hx0 hx1 hx2 rfl (by decide) (.slice aw i kw) i ws rfl ((HF.out.alloc _).owns HOW.out (by simp)) ⟨wv.heap.size,0,none⟩ 1 1 [.slice (some ⟨g,0,none⟩) n kr] rfl rfl (new_row _ _ _) (by simp[Value.oneCell']) (by unfold maxLen;omega) (by omega) (by have:=HQ3.out.fr.size;have:=HF.out.size;simp;omega) ?_;intro v' w6 hown' hgrow _ _;obtain⟨a6,k6,rfl⟩:=own_shape hown';have hp6:=(Kt.own ((HF.out.alloc (.cells #[.slice (some ⟨g,0,none⟩) n kr] 171)).owns HOW.out (by simp)) hgrow).cells ((HF.out.alloc (.cells #[.slice (some ⟨g,0,none⟩) n kr] 171)).at HP.out (by simp)) (by decide);have y6:=cell_of hp6 2;have f6:=free_of hp6 2;have HST:=Lib.hid (fun Z=>QF.row (Z:=Z) HQ3.out.fr HP.out HO1.out HO2.out HBK.out HOW.out HWS.out HRW.out (HF.out.alloc (.cells #[.slice (some ⟨g,0,none⟩) n kr] 171)) HGL.out ⟨_,alloc_at HGT.out⟩ (by have:=chE_row (i:=i) (HN.out.symm ▸ HO.out.alloc (.cells #[.slice (some ⟨g,0,none⟩) n kr] 171));rw[HN.out] at this ⊢;exact this) hgrow (HN.out.symm ▸ hown'));clear hown' hgrow hp6)
      exact⟨⟨i + 1,congrArg (Value.int .i64) (by omega),hlt,HST.out _ rfl⟩,by simp[intOf];omega⟩
  ·obtain rfl:n=i:=by omega
   have hge:¬ (n:Int) < (n:Int):=by omega
   have HR6:=Lib.hid (HB2.out wl HQ.out.fr)
   obtain⟨aa,ka,ab,kb,aw,kw,bi,bk,hp,-⟩:=HQ.out.bx
   have HP:=Lib.hid hp
   clear hp
   go_wp2_with (first
    | (refine wpList_load_whole rfl 35 _ rfl _ rfl _ 35 HP.out _ Tryz.underlying35 rfl (by kernel_rfl) ?_)
    | (refine wpList_store_rowK rfl 35 _ _ rfl _ _ _ _ rfl rfl HR6.out rfl (by kernel_rfl) (one3v ..) ?_;intro w7 hb7 hf7 hk7;have HB7:=Lib.hid hb7;have HF7:=Lib.hid hf7;have HK7:=Lib.hid hk7;clear hb7 hf7 hk7))
   refine bodyPost_ret (results_c1 rfl rfl HB7.out rfl Tryz.underlying35 (by kernel_rfl)) rfl ⟨_,rfl,?_⟩
   exact QF.end HN.out HQ.out HF0.out hlw (by omega) (first_ok HOK.out) HR6.out HF7.out HK7.out HP.out
end Go.Proofs.YtkphhjekfimmlaaGreat
