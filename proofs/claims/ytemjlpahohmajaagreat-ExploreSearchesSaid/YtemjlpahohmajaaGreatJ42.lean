/- Part of the proof. -/
import Derived.Test.YtemjlpahohmajaaGreatJ41
import Derived.Test.YtemjlpahohmajaaGreatJ36
set_option linter.all false
namespace Go.Proofs.YtemjlpahohmajaaGreat
open Go.RowKit Go.BigFrame
theorem qDo_step (s:SesD) (sv xv:Value) (x:PS) (B:Nat) (w:World) (i k:Nat) (pl:Int) (hs:SesV w sv s) (hx:RSt B w s xv x) (hok:SesOk s) (hi:i < s.roles.length) (hk:k < (s.rol i).steps.length) :
 Calls Tryz.prog 49 #[sv,xv,.agg #[.int .i64 1,.int .i64 (i:Nat),.int .i64 (k:Nat),.int .i64 pl]] w (RetV (DoTo w s x ⟨1,(i:Nat),(k:Nat),pl⟩)):=doS.2 (doT.2 doT_holds) s sv xv x B w i k pl hs hx hok hi hk
theorem qDo_any (s:SesD) (sv xv:Value) (x:PS) (B:Nat) (w:World) (m:Mv) (hs:SesV w sv s) (hx:RSt B w s xv x) (hok:SesOk s):Calls Tryz.prog 49 #[sv,xv,.agg #[.int .i64 m.kind,.int .i64 m.role,.int .i64 m.step,.int .i64 m.place]] w (RetV (DoTo w s x m)):=by
 obtain⟨kd,ro,st,pl⟩:=m
 dsimp only
 by_cases hb:ro < 0∨(s.roles.length:Int)≤ro∨st < 0
 ·exact qDo_out s sv xv x B w hs hx hok kd ro st pl hb
 ·obtain⟨i,rfl⟩:=Int.eq_ofNat_of_zero_le (show 0≤ro by omega)
  obtain⟨k,rfl⟩:=Int.eq_ofNat_of_zero_le (show 0≤st by omega)
  have hi:i < s.roles.length:=by omega
  by_cases h2:kd=2
  ·subst h2
   by_cases h3:s.roles.length≤k∨k=i∨pl≠0
   ·exact qDo_lbad s sv xv x B w hs hx hok i k pl hi h3
   ·obtain rfl:pl=0:=by omega
    exact qDo_lose s sv xv x B w hs hx hok i k hi (by omega) (by omega)
  ·by_cases h3:kd≠1∨((s.rol i).steps.length:Int)≤(k:Int)
   ·exact qDo_nstep s sv xv x B w hs hx hok i kd (k:Nat) pl hi (by omega) h2 h3
   ·obtain rfl:kd=1:=by omega
    exact qDo_step s sv xv x B w i k pl hs hx hok hi (by omega)
end Go.Proofs.YtemjlpahohmajaaGreat
