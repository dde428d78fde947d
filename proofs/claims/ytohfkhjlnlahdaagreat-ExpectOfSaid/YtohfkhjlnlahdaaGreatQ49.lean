/- Part of the proof. -/
import Derived.Test.YtohfkhjlnlahdaaGreatQ48
import Derived.Test.YtohfkhjlnlahdaaGreatQ45
set_option linter.all false
namespace Go.Proofs.YtohfkhjlnlahdaaGreat
open Go.RowKit Go.BigFrame
theorem rN (s:SesD) (a h:Value) (x:PS) (B:Nat) (w:World) (i k:Nat) (pl:Int) (H:SesV w a s) (I:RSt B w s h x) (G:SesOk s) (A:i<s.roles.length) (E:k<(s.rol i).steps.length) :
 Calls Tryz.prog 29 #[a,h,.agg #[.int .i64 1,.int .i64 (i:Nat),.int .i64 (k:Nat),.int .i64 pl]] w (aU (DoTo w s x ⟨1,(i:Nat),(k:Nat),pl⟩)):=doS.2 (doT.2 qe) s a h x B w i k pl H I G A E
theorem pd (s:SesD) (a h:Value) (x:PS) (B:Nat) (w:World) (m:Mv) (E:SesV w a s) (G:RSt B w s h x) (A:SesOk s):Calls Tryz.prog 29 #[a,h,.agg #[.int .i64 m.kind,.int .i64 m.role,.int .i64 m.step,.int .i64 m.place]] w (aU (DoTo w s x m)):=by
 obtain⟨H,J,K,pl⟩:=m
 dsimp only
 by_cases hb:J<0∨(s.roles.length:Int)≤J∨K<0
 ·exact sB s a h x B w E G A H J K pl hb
 ·obtain⟨i,rfl⟩:=Int.eq_ofNat_of_zero_le (show 0≤J by omega)
  obtain⟨k,rfl⟩:=Int.eq_ofNat_of_zero_le (show 0≤K by omega)
  have I:i<s.roles.length:=by omega
  by_cases h2:H=2
  ·subst h2
   by_cases h3:s.roles.length≤k∨k=i∨pl≠0
   ·exact qw s a h x B w E G A i k pl I h3
   ·obtain rfl:pl=0:=by omega
    exact qx s a h x B w E G A i k I (by omega) (by omega)
  ·by_cases h3:H≠1∨((s.rol i).steps.length:Int)≤(k:Int)
   ·exact qh s a h x B w E G A i H (k:Nat) pl I (by omega) h2 h3
   ·obtain rfl:H=1:=by omega
    exact rN s a h x B w i k pl E G A I (by omega)
end Go.Proofs.YtohfkhjlnlahdaaGreat
