/- Part of the proof. -/
import Derived.Test.YtemjlpahohmajaaGreatJ42
set_option linter.all false
namespace Go.Proofs.YtemjlpahohmajaaGreat
open Go.RowKit Go.BigFrame
theorem qDo_yes (s:SesD) (sv xv:Value) (x:PS) (B:Nat) (w:World) (m:Mv) (hs:SesV w sv s) (hx:RSt B w s xv x) (hok:SesOk s) (hm:m∈movesP s x) {n:Nat} (hn:s.roles.length=n):Calls Tryz.prog 49 #[sv,xv,.agg #[.int .i64 m.kind,.int .i64 m.role,.int .i64 m.step,.int .i64 m.place]] w
  (RetV fun u w'=>Frm [] w w'∧∃ p q r a b c,u=.tuple #[.agg #[.slice (some ⟨p,0,none⟩) n a,.slice (some ⟨q,0,none⟩) n b,.slice (some ⟨r,0,none⟩) n c],.bool true]∧RSt w.heap.size w' s (.agg #[.slice (some ⟨p,0,none⟩) n a,.slice (some ⟨q,0,none⟩) n b,.slice (some ⟨r,0,none⟩) n c]) (nextP s x m)):=
 (qDo_any s sv xv x B w m hs hx hok).mono fun e w' h=>by
  obtain⟨u,rfl,hf,⟨-,yv,rfl,hy⟩ | ⟨h0,-⟩⟩:=h
  ·obtain⟨p,q,r,-,a,b,c,rfl,-⟩:=id hy.out
   rw[hn] at hy ⊢
   exact⟨_,rfl,hf,p,q,r,a,b,c,rfl,hy⟩
  ·rw[(do_iff hok hx.ok m).2 hm] at h0;cases h0
end Go.Proofs.YtemjlpahohmajaaGreat
