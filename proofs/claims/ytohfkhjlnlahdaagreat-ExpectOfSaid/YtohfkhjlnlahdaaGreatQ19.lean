/- Part of the proof. -/
import Derived.Test.YtohfkhjlnlahdaaGreatQ04
import Derived.Test.YtohfkhjlnlahdaaGreatQ18
import Derived.Test.YtohfkhjlnlahdaaGreatQ08
set_option linter.all false
namespace Go.Proofs.YtohfkhjlnlahdaaGreat
open Go.RowKit Go.BigFrame
set_option maxHeartbeats 1000000 in
theorem mG (c:Nat) (n:ByteArray) (x:StD) (w:World) (a:w.cell? ⟨c,0,none⟩=some (.string n)):Calls Tryz.prog 221 #[.agg #[.string x.name,.bool x.fin,.int .i64 x.wait],.pointer (some ⟨c,0,none⟩)] w (Ret (.bool (decide (x.name=n))) (Frm [] w)):=by
 rw[← aK]
 have h:=aI a
 go_enter Tryz.func221,Tryz.ntmps221
 go_wp2
 go_ret
 exact⟨rfl,(Frm.refl _ _).alloc _⟩
theorem Tryz.call_rState1 (args:Array Value) (w:World):(callFunc 221 args).run Tryz.prog w=.ok (.enter 221 args) w:=by kernel_rfl
set_option maxHeartbeats 1000000 in
theorem gx (v:Value) (r:RolD) (n:ByteArray) (w:World) (K:RlV w v r) (S:r.sts.length≤1000):Calls Tryz.prog 207 #[v,.string n] w (Ret (.int .i64 (bK r n)) (Frm [] w)):=by
 obtain⟨G,V,W,rfl,E⟩:=K
 have H:Hid (∀ a,Frm [] w a→a.cell? ⟨w.heap.size+1,0,none⟩=some (.string n)→Calls Tryz.prog 220 #[G,.func (.func 221) #[] #[.pointer (some ⟨w.heap.size+1,0,none⟩)]] a (Ret (.int .i64 (bK r n)) (Frm [] a))):=by
  refine vi fun a R O=>?_
  have I:=vi (iq 221 #[.pointer (some ⟨w.heap.size+1,0,none⟩)] (fun s=>decide (s.name=n)) G r.sts a ((E.frm R).sts) S Tryz.call_rState1 (fun J x N _=>mG _ n x J (N.keep O)))
  go_enter Tryz.func220,Tryz.ntmps220
  go_wp2_with (go_at_call 138;go_must (refine I.out.mono ?_;rintro e U ⟨rfl,h⟩;have A:=vi h;clear h))
  go_ret
  exact⟨rfl,A.out⟩
 clear E
 go_enter Tryz.func207,Tryz.ntmps207
 go_wp2_with (go_at_call 220;go_must (refine(H.out _ (((Frm.refl [] w).alloc _).alloc _) (ae (aq (by simp)) 0)).mono ?_;rintro e U ⟨rfl,h⟩;have A:=vi h;clear h))
 go_ret
 exact⟨rfl,(((Frm.refl [] w).alloc _).alloc _).trans A.out⟩
set_option maxHeartbeats 1000000 in
theorem jY (c:Nat) (n:ByteArray) (x:CtrD) (w:World) (a:w.cell? ⟨c,0,none⟩=some (.string n)):Calls Tryz.prog 219 #[.agg #[.string x.name,.int .i64 x.lim],.pointer (some ⟨c,0,none⟩)] w (Ret (.bool (decide (x.name=n))) (Frm [] w)):=by
 rw[← aK]
 have h:=aI a
 go_enter Tryz.func219,Tryz.ntmps219
 go_wp2
 go_ret
 exact⟨rfl,(Frm.refl _ _).alloc _⟩
theorem Tryz.call_rCounter1 (args:Array Value) (w:World):(callFunc 219 args).run Tryz.prog w=.ok (.enter 219 args) w:=by kernel_rfl
set_option maxHeartbeats 1000000 in
theorem gM (v:Value) (r:RolD) (n:ByteArray) (w:World) (K:RlV w v r) (S:r.ctrs.length≤1000):Calls Tryz.prog 205 #[v,.string n] w (Ret (.int .i64 (bL r.ctrs n)) (Frm [] w)):=by
 obtain⟨V,E,W,rfl,G⟩:=K
 have H:Hid (∀ a,Frm [] w a→a.cell? ⟨w.heap.size+1,0,none⟩=some (.string n)→Calls Tryz.prog 218 #[E,.func (.func 219) #[] #[.pointer (some ⟨w.heap.size+1,0,none⟩)]] a (Ret (.int .i64 (bL r.ctrs n)) (Frm [] a))):=by
  refine vi fun a R O=>?_
  have I:=vi (pM 219 #[.pointer (some ⟨w.heap.size+1,0,none⟩)] (fun s=>decide (s.name=n)) E r.ctrs a ((G.frm R).ctrs) S Tryz.call_rCounter1 (fun J x N _=>jY _ n x J (N.keep O)))
  go_enter Tryz.func218,Tryz.ntmps218
  go_wp2_with (go_at_call 224;go_must (refine I.out.mono ?_;rintro e U ⟨rfl,h⟩;have A:=vi h;clear h))
  go_ret
  exact⟨rfl,A.out⟩
 clear G
 go_enter Tryz.func205,Tryz.ntmps205
 go_wp2_with (go_at_call 218;go_must (refine(H.out _ (((Frm.refl [] w).alloc _).alloc _) (ae (aq (by simp)) 0)).mono ?_;rintro e U ⟨rfl,h⟩;have A:=vi h;clear h))
 go_ret
 exact⟨rfl,(((Frm.refl [] w).alloc _).alloc _).trans A.out⟩
set_option maxHeartbeats 1000000 in
theorem mH (c:Nat) (n:ByteArray) (x:StD) (w:World) (a:w.cell? ⟨c,0,none⟩=some (.string n)):Calls Tryz.prog 139 #[.agg #[.string x.name,.bool x.fin,.int .i64 x.wait],.pointer (some ⟨c,0,none⟩)] w (Ret (.bool (decide (x.name=n))) (Frm [] w)):=by
 rw[← aK]
 have h:=aI a
 go_enter Tryz.func139,Tryz.ntmps139
 go_wp2
 go_ret
 exact⟨rfl,(Frm.refl _ _).alloc _⟩
theorem Tryz.call_pPlace1 (args:Array Value) (w:World):(callFunc 139 args).run Tryz.prog w=.ok (.enter 139 args) w:=by kernel_rfl
set_option maxHeartbeats 1000000 in
theorem ou (v:Value) (r:RolD) (n:ByteArray) (w:World) (J:RlV w v r) (R:r.sts.length≤1000):Calls Tryz.prog 71 #[v,.string n] w (Ret (.int .i64 (bK r n)) (Frm [] w)):=by
 obtain⟨E,S,U,rfl,h⟩:=J
 have G:Hid (∀ a,Frm [] w a→a.cell? ⟨w.heap.size+1,0,none⟩=some (.string n)→Calls Tryz.prog 138 #[E,.func (.func 139) #[] #[.pointer (some ⟨w.heap.size+1,0,none⟩)]] a (Ret (.int .i64 (bK r n)) (Frm [] a))):=
  vi fun a O N=>iq 139 #[.pointer (some ⟨w.heap.size+1,0,none⟩)] (fun s=>decide (s.name=n)) E r.sts a ((h.frm O).sts) R Tryz.call_pPlace1 (fun I x K _=>mH _ n x I (K.keep N))
 clear h
 go_enter Tryz.func71,Tryz.ntmps71
 go_wp2_with (go_at_call 138;go_must (refine(G.out _ (((Frm.refl [] w).alloc _).alloc _) (ae (aq (by simp)) 0)).mono ?_;rintro e V ⟨rfl,A⟩;have H:=vi A;clear A))
 go_ret
 exact⟨rfl,(((Frm.refl [] w).alloc _).alloc _).trans H.out⟩
set_option maxHeartbeats 1000000 in
theorem ov (c:Nat) (n:ByteArray) (x:RolD) (A a E:Value) (w:World) (h:w.cell? ⟨c,0,none⟩=some (.string n)):Calls Tryz.prog 164 #[.agg #[.string x.name,A,a,E],.pointer (some ⟨c,0,none⟩)] w (Ret (.bool (decide (x.name=n))) (Frm [] w)):=by
 rw[← aK]
 have G:=aI h
 go_enter Tryz.func164,Tryz.ntmps164
 go_wp2
 go_ret
 exact⟨rfl,(Frm.refl _ _).alloc _⟩
theorem Tryz.call_rSes11 (args:Array Value) (w:World):(callFunc 164 args).run Tryz.prog w=.ok (.enter 164 args) w:=by kernel_rfl
theorem j6 (sb:Nat) (s:SesD) (A:Value) (n:ByteArray) (w:World) (hb:w.cell? ⟨sb,1,none⟩=some A) (G:Rls w A s.roles) (S:s.roles.length≤1000) :
  Calls Tryz.prog 162 #[.string n,.pointer (some ⟨sb,0,none⟩)] w (Ret (.int .i64 (bT s n)) (Frm [] w)):=by
 have X:=aI hb
 have H:Hid (∀ a,Frm [] w a→a.cell? ⟨w.heap.size,0,none⟩=some (.string n)→Calls Tryz.prog 163 #[A,.func (.func 164) #[] #[.pointer (some ⟨w.heap.size,0,none⟩)]] a (Ret (.int .i64 (bT s n)) (Frm [] a))):=by
  refine vi fun a R O=>?_
  have I:=vi (jb 164 #[.pointer (some ⟨w.heap.size,0,none⟩)] (fun s=>decide (s.name=n)) A s.roles a (G.frm R) S Tryz.call_rSes11 (fun J x U K V N _ _=>ov _ n x U K V J (N.keep O)))
  go_enter Tryz.func163,Tryz.ntmps163
  go_wp2_with (go_at_call 129;go_must (refine I.out.mono ?_;rintro e W ⟨rfl,h⟩;have E:=vi h;clear h))
  go_ret
  exact⟨rfl,E.out⟩
 clear G
 go_enter Tryz.func162,Tryz.ntmps162
 go_wp2_with (go_at_call 163;go_must (refine(H.out _ ((Frm.refl [] w).alloc _) (ae (aq (by simp)) 0)).mono ?_;rintro e W ⟨rfl,h⟩;have E:=vi h;clear h))
 go_ret
 exact⟨rfl,((Frm.refl [] w).alloc _).trans E.out⟩
set_option maxHeartbeats 1000000 in
theorem li (c:Nat) (n:ByteArray) (x:RolD) (A a E:Value) (w:World) (h:w.cell? ⟨c,0,none⟩=some (.string n)):Calls Tryz.prog 130 #[.agg #[.string x.name,A,a,E],.pointer (some ⟨c,0,none⟩)] w (Ret (.bool (decide (x.name=n))) (Frm [] w)):=by
 rw[← aK]
 have G:=aI h
 go_enter Tryz.func130,Tryz.ntmps130
 go_wp2
 go_ret
 exact⟨rfl,(Frm.refl _ _).alloc _⟩
theorem Tryz.call_pNumber1 (args:Array Value) (w:World):(callFunc 130 args).run Tryz.prog w=.ok (.enter 130 args) w:=by kernel_rfl
theorem eU (G:Nat) (s:SesD) (h:Value) (n:ByteArray) (w:World) (hb:w.cell? ⟨G,1,none⟩=some h) (A:Rls w h s.roles) (S:s.roles.length≤1000) :
  Calls Tryz.prog 66 #[.pointer (some ⟨G,0,none⟩),.string n] w (Ret (.int .i64 (bT s n)) (Frm [] w)):=by
 have W:=aI hb
 have H:Hid (∀ a,Frm [] w a→a.cell? ⟨w.heap.size,0,none⟩=some (.string n)→Calls Tryz.prog 129 #[h,.func (.func 130) #[] #[.pointer (some ⟨w.heap.size,0,none⟩)]] a (Ret (.int .i64 (bT s n)) (Frm [] a))):=
  vi fun a R O=>jb 130 #[.pointer (some ⟨w.heap.size,0,none⟩)] (fun s=>decide (s.name=n)) h s.roles a (A.frm R) S Tryz.call_pNumber1 (fun J x U K V N _ _=>li _ n x U K V J (N.keep O))
 clear A
 go_enter Tryz.func66,Tryz.ntmps66
 go_wp2_with (go_at_call 129;go_must (refine(H.out _ ((Frm.refl [] w).alloc _) (ae (aq (by simp)) 0)).mono ?_;rintro e X ⟨rfl,E⟩;have I:=vi E;clear E))
 go_ret
 exact⟨rfl,((Frm.refl [] w).alloc _).trans I.out⟩
end Go.Proofs.YtohfkhjlnlahdaaGreat
