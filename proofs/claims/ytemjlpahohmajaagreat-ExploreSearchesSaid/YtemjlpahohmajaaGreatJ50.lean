/- Part of the proof. -/
import Derived.Test.YtemjlpahohmajaaGreatJ49
import Derived.Test.YtemjlpahohmajaaGreatJ31
set_option linter.all false
namespace Go.Proofs.YtemjlpahohmajaaGreat
open Go.RowKit Go.BigFrame
theorem wp_z_step {P:Program} {o:Oper} {a:Act} {w:World} {K:Act→World→Prop} {Q:Exit→Act→World→Prop} (s x:Operand) (t:TypeId)
  (ho:o.op=.call { callee:=.builtin .append,args:=#[s,x],argTypes:=#[t,t] }) {z:Value} {e:TypeId} {base:Nat} {v:Value} {xs:List Value} (h:RowZ z e base w v xs)
  {i:TypeInfo} {bytes:Nat} (ht:P.underlying t=some (.slice e)) (hi:P.info? e=some i) (hz:i.zero=some z) (hsize:i.size=1) (hby:i.bytes=bytes) (hzs:z.cells=#[z]) (hs:a.eval s=v)
  (ad:Addr) (c:Nat) (u:Value) (hx:a.eval x=.slice (some ad) 1 c) (hu:w.cell? (ad.add 0)=some u) (h1:u.oneCell'=true) (h63:xs.length + 1≤maxLen) (hbytes:(xs.length + 1) * bytes≤140737488355328) (hb:base≤w.heap.size)
  (hk:∀ v' V,RowZ z e base V v' (xs ++ [u])→(Frm [] w V∨∃ g,v.ownBlock=some g∧v'.ownBlock=some g∧Gr z e g xs w V)→(v'.ownBlock=v.ownBlock∨v'.ownBlock=some w.heap.size)→K (a.put o.dst v') V):Oper.wp P o a w K Q:=by
 obtain⟨v',V,hr,h2,h3,h4⟩:=h.append (P:=P) (t:=t) (ty:=o.type) ht hi hz hsize hby hzs ad c u hu h1 h63 hbytes hb
 unfold Oper.wp execOp
 simp only[ho,resolve,invoke,builtin,Sem.run_bind,Sem.run_pure,Result.andThen_ok,List.map_toArray,List.map_cons,List.map_nil,hs,hx,hr]
 exact hk v' V h2 h3 h4
abbrev cur {α:Type} (b:Bool) (x y:α):α:=bif b then x else y
def rowsF (pb:Nat) (vs vk vp vm:Value):List Nat:=pb :: (vs.ownBlock.toList ++ vk.ownBlock.toList ++ vp.ownBlock.toList ++ vm.ownBlock.toList)
theorem mem_rowsF {pb b:Nat} {vs vk vp vm:Value}:b∈rowsF pb vs vk vp vm↔b=pb∨vs.ownBlock=some b∨vk.ownBlock=some b∨vp.ownBlock=some b∨vm.ownBlock=some b:=by
 unfold rowsF
 simp[Option.mem_toList,or_assoc]
structure R16 (w W:World) (s:SesD) (pb gM i k:Nat) (T:List V3) (N:List Nd) (nd:Nd) (t':V3) (m:Mv) (vs vk vp vm lv:Value) (D:Nat→Bool) (f:Nat→Value) (V:World):Prop where
 yr:YR w s (cur (D 4) (T ++ [t']) T) (cur (D 4) (N ++ [nd]) N) (cur (D 9) (N ++ [nd]) N) (cur (D 14) (N ++ [nd]) N) (cur (D 22) (N ++ [nd]) N) ((T ++ [t']).zip ((N ++ [nd]).map Nd.st)) (cur (D 4) (f 4) vs) (cur (D 9) (f 9) vk) (cur (D 14) (f 14) vp) (cur (D 22) (f 22) vm) V
 fF:Frm (rowsF pb vs vk vp vm) W V
 om:∀ b,(cur (D 22) (f 22) vm).ownBlock=some b→vm.ownBlock=some b∨W.heap.size≤b
 lo:w.heap.size≤pb
 p0:D 0=true→f 0=.pointer (some ⟨pb,0,none⟩)
 p1:D 1=true→f 1=vs
 p2:D 2=true→f 2=a3 t'
 p3:D 3=true→D 4=false→Tm W.heap.size V (f 3) (c3 t') 125
 p5:D 5=true→f 5=.pointer (some ⟨pb,1,none⟩)
 p6:D 6=true→f 6=vk
 p7:D 7=true→f 7=kyV s nd
 p8:D 8=true→D 9=false→Tm W.heap.size V (f 8) [kyV s nd] 9
 p10:D 10=true→f 10=.pointer (some ⟨pb,2,none⟩)
 p11:D 11=true→f 11=vp
 p12:D 12=true→f 12=.int .i64 (k:Int)
 p13:D 13=true→D 14=false→Tm W.heap.size V (f 13) [.int .i64 (k:Int)] 3
 p15:D 15=true→f 15=.pointer (some ⟨pb,3,none⟩)
 p16:D 16=true→f 16=vm
 p17:D 17=true→f 17=lv
 p18:D 18=true→f 18=.int .i64 (i:Int)
 p19:D 19=true→f 19=.pointer (some ⟨gM,i * 4,none⟩)
 p20:D 20=true→f 20=mvV m
 p21:D 21=true→D 22=false→Tm W.heap.size V (f 21) (mvC1 m) 129
 p23:D 23=true→f 23=.pointer (some ⟨pb,0,none⟩)
 p25:D 25=true→f 25=.pointer (some ⟨pb,1,none⟩)
 p27:D 27=true→f 27=.pointer (some ⟨pb,2,none⟩)
 p29:D 29=true→f 29=.pointer (some ⟨pb,3,none⟩)
 b0:D 24=false→V.heap[pb]?=some (.cells #[vs,vk,vp,vm,.bool true] 39 (0,0))
 b1:D 24=true→V.heap[pb]?=some (.cells #[f 4,cur (D 26) (f 9) vk,cur (D 28) (f 14) vp,cur (D 30) (f 22) vm,.bool true] 39 (0,0))
section
variable {w W V V':World} {s:SesD} {pb gM i k:Nat} {T:List V3} {N:List Nd} {nd:Nd} {t':V3} {m:Mv} {vs vk vp vm lv:Value} {D:Nat→Bool} {f:Nat→Value}
theorem R16.mono (h:R16 w W s pb gM i k T N nd t' m vs vk vp vm lv D f V) (hf:Frm [] V V'):R16 w W s pb gM i k T N nd t' m vs vk vp vm lv D f V':=
 ⟨h.yr.frm hf,h.fF.then hf (by simp),h.om,h.lo,h.p0,h.p1,h.p2,fun a b=>(h.p3 a b).frm0 hf,h.p5,h.p6,h.p7,fun a b=>(h.p8 a b).frm0 hf,h.p10,h.p11,h.p12,fun a b=>(h.p13 a b).frm0 hf,h.p15,h.p16,h.p17,h.p18,h.p19,h.p20,
  fun a b=>(h.p21 a b).frm0 hf,h.p23,h.p25,h.p27,h.p29,fun a=>hf.at (h.b0 a) (by simp),fun a=>hf.at (h.b1 a) (by simp)⟩
theorem YR.plus (h:YR w s T N N N N (T.zip (N.map Nd.st)) vs vk vp vm V) (hn:RSt 0 V s (a3 t') nd.st):YR w s T N N N N ((T ++ [t']).zip ((N ++ [nd]).map Nd.st)) vs vk vp vm V:=
 ⟨h.fr,h.rs,h.tl,h.rk,h.rp,h.p0,h.rm,fun z hz=>by
  rw[List.map_append,List.zip_append (by rw[List.length_map,h.tl]),List.mem_append] at hz
  rcases hz with hz | hz
  ·exact h.st z hz
  ·have:z∈[(t',nd.st)]:=hz
   rw[List.mem_singleton] at this
   subst this
   exact hn⟩
theorem R16.start (h:YW w s pb T N vs vk vp vm V) (hn:RSt 0 V s (a3 t') nd.st) (f:Nat→Value):R16 w V s pb gM i k T N nd t' m vs vk vp vm lv (fun _=>false) f V.drew:=
 ⟨(h.r.plus hn).frm (Frm.refl _ _).drew,(Frm.refl _ _).drew,fun _ hb=>.inl hb,h.lo,(fun h=>by cases h),(fun h=>by cases h),(fun h=>by cases h),(fun h=>by cases h),(fun h=>by cases h),(fun h=>by cases h),(fun h=>by cases h),(fun h=>by cases h),(fun h=>by cases h),(fun h=>by cases h),(fun h=>by cases h),(fun h=>by cases h),(fun h=>by cases h),(fun h=>by cases h),(fun h=>by cases h),(fun h=>by cases h),(fun h=>by cases h),(fun h=>by cases h),(fun h=>by cases h),(fun h=>by cases h),(fun h=>by cases h),(fun h=>by cases h),(fun h=>by cases h),
   fun _=>((Frm.refl [] V).drew).at h.b (by simp),(fun h=>by cases h)⟩
theorem not_yet {ops:Array Oper} (hcl:ClosedD ops D) {j i:Nat} {o:Oper} {g:Ground} (ho:ops[j]?=some o) (he:(⟨i,g⟩:Edge)∈o.after) (hb:Region.binds .any ⟨i,g⟩=true) (hi:D i=false):D j=false:=by
 cases hj:D j with
 | false=>rfl
 | true =>
   have:=hcl j o ho hj _ he hb
   rw[hi] at this
   cases this
theorem Tm.own {B:Nat} {u v:Value} {C:List Value} {e:TypeId} (h:Tm B V u C e) (hf:Frm v.ownBlock.toList V V') {e':TypeId} (hv:∀ b,v.ownBlock=some b→Ty V b e') (hne:e'≠e):Tm B V' u C e:=
 h.frm hf fun b hb hb2=>(hv b (by rwa [Option.mem_toList] at hb)).ne hb2 hne rfl
end
end Go.Proofs.YtemjlpahohmajaaGreat
