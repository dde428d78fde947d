/- Part of the proof. -/
import Derived.Test.YtohfkhjlnlahdaaGreatW16
import Derived.Test.YtohfkhjlnlahdaaGreatW02
set_option linter.all false
namespace Go.Proofs.YtohfkhjlnlahdaaGreat
open Go.RowKit Go.BigFrame
set_option maxHeartbeats 1000000 in
theorem rState1_any (c:Nat) (n:ByteArray) (x:StD) (w:World) (h:w.cell? ⟨c,0,none⟩=some (.string n)):Calls Tryz.prog 221 #[.agg #[.string x.name,.bool x.fin,.int .i64 x.wait],.pointer (some ⟨c,0,none⟩)] w (Ret (.bool (decide (x.name=n))) (Frm [] w)):=by
 rw[← str_beq]
 have hlt:=cell_lt h
 go_enter Tryz.func221,Tryz.ntmps221
 go_wp2
 go_ret
 exact⟨rfl,(Frm.refl _ _).alloc _⟩
theorem Tryz.call_rState1 (args:Array Value) (w:World):(callFunc 221 args).run Tryz.prog w=.ok (.enter 221 args) w:=by kernel_rfl
set_option maxHeartbeats 1000000 in
theorem rState_any (v:Value) (r:RolD) (n:ByteArray) (w:World) (h:RlV w v r) (hl:r.sts.length≤1000):Calls Tryz.prog 207 #[v,.string n] w (Ret (.int .i64 (stIx r n)) (Frm [] w)):=by
 obtain⟨sv,cv,tv,rfl,h3⟩:=h
 have C1:Hid (∀ W,Frm [] w W→W.cell? ⟨w.heap.size + 1,0,none⟩=some (.string n)→Calls Tryz.prog 220 #[sv,.func (.func 221) #[] #[.pointer (some ⟨w.heap.size + 1,0,none⟩)]] W (Ret (.int .i64 (stIx r n)) (Frm [] W))):=by
  refine Lib.hid fun W hf hc=>?_
  have C2:=Lib.hid (ifState_any 221 #[.pointer (some ⟨w.heap.size + 1,0,none⟩)] (fun s=>decide (s.name=n)) sv r.sts W ((h3.frm hf).sts) hl Tryz.call_rState1 (fun V x hV _=>rState1_any _ n x V (hV.keep hc)))
  go_enter Tryz.func220,Tryz.ntmps220
  go_wp2_with (go_at_call 138;go_must (refine C2.out.mono ?_;rintro e w1 ⟨rfl,hf1⟩;have HF1:=Lib.hid hf1;clear hf1))
  go_ret
  exact⟨rfl,HF1.out⟩
 clear h3
 go_enter Tryz.func207,Tryz.ntmps207
 go_wp2_with (go_at_call 220;go_must (refine(C1.out _ (((Frm.refl [] w).alloc _).alloc _) (cell_of (alloc_top (by simp)) 0)).mono ?_;rintro e w1 ⟨rfl,hf1⟩;have HF1:=Lib.hid hf1;clear hf1))
 go_ret
 exact⟨rfl,(((Frm.refl [] w).alloc _).alloc _).trans HF1.out⟩
set_option maxHeartbeats 1000000 in
theorem rCounter1_any (c:Nat) (n:ByteArray) (x:CtrD) (w:World) (h:w.cell? ⟨c,0,none⟩=some (.string n)):Calls Tryz.prog 219 #[.agg #[.string x.name,.int .i64 x.lim],.pointer (some ⟨c,0,none⟩)] w (Ret (.bool (decide (x.name=n))) (Frm [] w)):=by
 rw[← str_beq]
 have hlt:=cell_lt h
 go_enter Tryz.func219,Tryz.ntmps219
 go_wp2
 go_ret
 exact⟨rfl,(Frm.refl _ _).alloc _⟩
theorem Tryz.call_rCounter1 (args:Array Value) (w:World):(callFunc 219 args).run Tryz.prog w=.ok (.enter 219 args) w:=by kernel_rfl
set_option maxHeartbeats 1000000 in
theorem rCounter_any (v:Value) (r:RolD) (n:ByteArray) (w:World) (h:RlV w v r) (hl:r.ctrs.length≤1000):Calls Tryz.prog 205 #[v,.string n] w (Ret (.int .i64 (ctrIx r.ctrs n)) (Frm [] w)):=by
 obtain⟨sv,cv,tv,rfl,h3⟩:=h
 have C1:Hid (∀ W,Frm [] w W→W.cell? ⟨w.heap.size + 1,0,none⟩=some (.string n)→Calls Tryz.prog 218 #[cv,.func (.func 219) #[] #[.pointer (some ⟨w.heap.size + 1,0,none⟩)]] W (Ret (.int .i64 (ctrIx r.ctrs n)) (Frm [] W))):=by
  refine Lib.hid fun W hf hc=>?_
  have C2:=Lib.hid (ifCtr_any 219 #[.pointer (some ⟨w.heap.size + 1,0,none⟩)] (fun s=>decide (s.name=n)) cv r.ctrs W ((h3.frm hf).ctrs) hl Tryz.call_rCounter1 (fun V x hV _=>rCounter1_any _ n x V (hV.keep hc)))
  go_enter Tryz.func218,Tryz.ntmps218
  go_wp2_with (go_at_call 224;go_must (refine C2.out.mono ?_;rintro e w1 ⟨rfl,hf1⟩;have HF1:=Lib.hid hf1;clear hf1))
  go_ret
  exact⟨rfl,HF1.out⟩
 clear h3
 go_enter Tryz.func205,Tryz.ntmps205
 go_wp2_with (go_at_call 218;go_must (refine(C1.out _ (((Frm.refl [] w).alloc _).alloc _) (cell_of (alloc_top (by simp)) 0)).mono ?_;rintro e w1 ⟨rfl,hf1⟩;have HF1:=Lib.hid hf1;clear hf1))
 go_ret
 exact⟨rfl,(((Frm.refl [] w).alloc _).alloc _).trans HF1.out⟩
set_option maxHeartbeats 1000000 in
theorem pPlace1_any (c:Nat) (n:ByteArray) (x:StD) (w:World) (h:w.cell? ⟨c,0,none⟩=some (.string n)):Calls Tryz.prog 139 #[.agg #[.string x.name,.bool x.fin,.int .i64 x.wait],.pointer (some ⟨c,0,none⟩)] w (Ret (.bool (decide (x.name=n))) (Frm [] w)):=by
 rw[← str_beq]
 have hlt:=cell_lt h
 go_enter Tryz.func139,Tryz.ntmps139
 go_wp2
 go_ret
 exact⟨rfl,(Frm.refl _ _).alloc _⟩
theorem Tryz.call_pPlace1 (args:Array Value) (w:World):(callFunc 139 args).run Tryz.prog w=.ok (.enter 139 args) w:=by kernel_rfl
set_option maxHeartbeats 1000000 in
theorem pPlace_any (v:Value) (r:RolD) (n:ByteArray) (w:World) (h:RlV w v r) (hl:r.sts.length≤1000):Calls Tryz.prog 71 #[v,.string n] w (Ret (.int .i64 (stIx r n)) (Frm [] w)):=by
 obtain⟨sv,cv,tv,rfl,h3⟩:=h
 have C1:Hid (∀ W,Frm [] w W→W.cell? ⟨w.heap.size + 1,0,none⟩=some (.string n)→Calls Tryz.prog 138 #[sv,.func (.func 139) #[] #[.pointer (some ⟨w.heap.size + 1,0,none⟩)]] W (Ret (.int .i64 (stIx r n)) (Frm [] W))):=
  Lib.hid fun W hf hc=>ifState_any 139 #[.pointer (some ⟨w.heap.size + 1,0,none⟩)] (fun s=>decide (s.name=n)) sv r.sts W ((h3.frm hf).sts) hl Tryz.call_pPlace1 (fun V x hV _=>pPlace1_any _ n x V (hV.keep hc))
 clear h3
 go_enter Tryz.func71,Tryz.ntmps71
 go_wp2_with (go_at_call 138;go_must (refine(C1.out _ (((Frm.refl [] w).alloc _).alloc _) (cell_of (alloc_top (by simp)) 0)).mono ?_;rintro e w1 ⟨rfl,hf1⟩;have HF1:=Lib.hid hf1;clear hf1))
 go_ret
 exact⟨rfl,(((Frm.refl [] w).alloc _).alloc _).trans HF1.out⟩
set_option maxHeartbeats 1000000 in
theorem rSes11_any (c:Nat) (n:ByteArray) (x:RolD) (sv cv tv:Value) (w:World) (h:w.cell? ⟨c,0,none⟩=some (.string n)):Calls Tryz.prog 164 #[.agg #[.string x.name,sv,cv,tv],.pointer (some ⟨c,0,none⟩)] w (Ret (.bool (decide (x.name=n))) (Frm [] w)):=by
 rw[← str_beq]
 have hlt:=cell_lt h
 go_enter Tryz.func164,Tryz.ntmps164
 go_wp2
 go_ret
 exact⟨rfl,(Frm.refl _ _).alloc _⟩
theorem Tryz.call_rSes11 (args:Array Value) (w:World):(callFunc 164 args).run Tryz.prog w=.ok (.enter 164 args) w:=by kernel_rfl
theorem rSes1_any (sb:Nat) (s:SesD) (rv:Value) (n:ByteArray) (w:World) (hb:w.cell? ⟨sb,1,none⟩=some rv) (h:Rls w rv s.roles) (hl:s.roles.length≤1000) :
  Calls Tryz.prog 162 #[.string n,.pointer (some ⟨sb,0,none⟩)] w (Ret (.int .i64 (rolIx s n)) (Frm [] w)):=by
 have hlt:=cell_lt hb
 have C1:Hid (∀ W,Frm [] w W→W.cell? ⟨w.heap.size,0,none⟩=some (.string n)→Calls Tryz.prog 163 #[rv,.func (.func 164) #[] #[.pointer (some ⟨w.heap.size,0,none⟩)]] W (Ret (.int .i64 (rolIx s n)) (Frm [] W))):=by
  refine Lib.hid fun W hf hc=>?_
  have C2:=Lib.hid (ifRole_any 164 #[.pointer (some ⟨w.heap.size,0,none⟩)] (fun s=>decide (s.name=n)) rv s.roles W (h.frm hf) hl Tryz.call_rSes11 (fun V x sv cv tv hV _ _=>rSes11_any _ n x sv cv tv V (hV.keep hc)))
  go_enter Tryz.func163,Tryz.ntmps163
  go_wp2_with (go_at_call 129;go_must (refine C2.out.mono ?_;rintro e w1 ⟨rfl,hf1⟩;have HF1:=Lib.hid hf1;clear hf1))
  go_ret
  exact⟨rfl,HF1.out⟩
 clear h
 go_enter Tryz.func162,Tryz.ntmps162
 go_wp2_with (go_at_call 163;go_must (refine(C1.out _ ((Frm.refl [] w).alloc _) (cell_of (alloc_top (by simp)) 0)).mono ?_;rintro e w1 ⟨rfl,hf1⟩;have HF1:=Lib.hid hf1;clear hf1))
 go_ret
 exact⟨rfl,((Frm.refl [] w).alloc _).trans HF1.out⟩
set_option maxHeartbeats 1000000 in
theorem pNumber1_any (c:Nat) (n:ByteArray) (x:RolD) (sv cv tv:Value) (w:World) (h:w.cell? ⟨c,0,none⟩=some (.string n)):Calls Tryz.prog 130 #[.agg #[.string x.name,sv,cv,tv],.pointer (some ⟨c,0,none⟩)] w (Ret (.bool (decide (x.name=n))) (Frm [] w)):=by
 rw[← str_beq]
 have hlt:=cell_lt h
 go_enter Tryz.func130,Tryz.ntmps130
 go_wp2
 go_ret
 exact⟨rfl,(Frm.refl _ _).alloc _⟩
theorem Tryz.call_pNumber1 (args:Array Value) (w:World):(callFunc 130 args).run Tryz.prog w=.ok (.enter 130 args) w:=by kernel_rfl
theorem pNumber_any (yb:Nat) (s:SesD) (rv:Value) (n:ByteArray) (w:World) (hb:w.cell? ⟨yb,1,none⟩=some rv) (h:Rls w rv s.roles) (hl:s.roles.length≤1000) :
  Calls Tryz.prog 66 #[.pointer (some ⟨yb,0,none⟩),.string n] w (Ret (.int .i64 (rolIx s n)) (Frm [] w)):=by
 have hlt:=cell_lt hb
 have C1:Hid (∀ W,Frm [] w W→W.cell? ⟨w.heap.size,0,none⟩=some (.string n)→Calls Tryz.prog 129 #[rv,.func (.func 130) #[] #[.pointer (some ⟨w.heap.size,0,none⟩)]] W (Ret (.int .i64 (rolIx s n)) (Frm [] W))):=
  Lib.hid fun W hf hc=>ifRole_any 130 #[.pointer (some ⟨w.heap.size,0,none⟩)] (fun s=>decide (s.name=n)) rv s.roles W (h.frm hf) hl Tryz.call_pNumber1 (fun V x sv cv tv hV _ _=>pNumber1_any _ n x sv cv tv V (hV.keep hc))
 clear h
 go_enter Tryz.func66,Tryz.ntmps66
 go_wp2_with (go_at_call 129;go_must (refine(C1.out _ ((Frm.refl [] w).alloc _) (cell_of (alloc_top (by simp)) 0)).mono ?_;rintro e w1 ⟨rfl,hf1⟩;have HF1:=Lib.hid hf1;clear hf1))
 go_ret
 exact⟨rfl,((Frm.refl [] w).alloc _).trans HF1.out⟩
end Go.Proofs.YtohfkhjlnlahdaaGreat
