/- Part of the proof. -/
import Derived.Test.YtemjlpahohmajaaGreatJ37
import Derived.Test.YtemjlpahohmajaaGreatJ46
import Derived.Sort.BigQuietIn
set_option linter.all false
namespace Go.Proofs.YtemjlpahohmajaaGreat
open Go.RowKit Go.BigFrame Go.Maps
theorem given_no {v:Value} {s:SesD} {w:World} (h:SesV w v s) (hs:WfS s) (hg:gvB s=false):Calls Tryz.prog 9 #[v] w (RetV fun u w'=>u=.tuple #[.pointer none,.bool false]∧Frm [] w w'):=
 (given_any v s w h hs).mono (by
  rintro e w' ⟨u,rfl,hf,⟨-,rfl⟩ | ⟨h1,-⟩⟩
  ·exact⟨_,rfl,rfl,hf⟩
  ·rw[hg] at h1;cases h1)
theorem given_yes {v:Value} {s:SesD} {w:World} (h:SesV w v s) (hs:WfS s) (hg:gvB s=true):Calls Tryz.prog 9 #[v] w (RetV fun u w'=>∃ yb fb,u=.tuple #[.pointer (some ⟨yb,0,none⟩),.bool true]∧SyR w' s yb fb∧Frm [] w w'):=
 (given_any v s w h hs).mono (by
  rintro e w' ⟨u,rfl,hf,⟨h1,-⟩ | ⟨-,yb,fb,rfl,hy⟩⟩
  ·rw[hg] at h1;cases h1
  ·exact⟨_,rfl,yb,fb,rfl,hy,hf⟩)
theorem gv_ok {s:SesD} (h:gvB s=true):SesOk s:=by
 unfold gvB at h
 rw[Bool.and_eq_true] at h
 exact ses_ok (of_decide_eq_true h.2)
theorem pKey_ret (s:SesD) (yb fb sb:Nat) (x:PS) (w:World) (h:SyR w s yb fb) (hx:StR w s yb sb x):Calls Tryz.prog 22 #[.pointer (some ⟨sb,0,none⟩)] w (Ret (.string (keyS s x)) (Frm [] w)):=
 (pKey_any s yb fb sb x w h hx).mono (by
  rintro e w' ⟨v,rfl,rfl,hf⟩
  exact⟨rfl,hf⟩)
theorem num34_f (e:Int) (W:World):Calls Tryz.prog 13 #[.int .i64 e] W (Ret (.int .i64 e) (Frm [] W)):=
 (num34_any e W).mono (by rintro e w' ⟨rfl,rfl⟩;exact⟨rfl,Frm.refl _ _⟩)
theorem find_hit {W:World} {s:SesD} {yb pb j:Nat} {whole:Bool} {N:List (Nd × Nat)} (h:SpO W s yb whole pb N) (x:PS) (hk:(keyS s x).size≤maxLen) (hj:findP s (N.map Prod.fst) (keyP s x)=some j) :
  Calls Tryz.prog 21 #[.pointer (some ⟨pb,0,none⟩),.string (keyS s x)] W (Ret (.tuple #[.int .i64 (j:Nat),.int .i64 0]) (Frm [] W)):=by
 have:=xFind_any h (keyS s x) hk
 unfold fndV at this
 rw[keyS_list,hj] at this
 exact this
theorem some_map {α β:Type} {f:α→β} {L:List α} {i:Nat} {y:β} (h:(L.map f)[i]?=some y):∃ x,L[i]?=some x∧f x=y:=by
 rw[List.getElem?_map] at h
 cases hz:L[i]? with
 | none=>rw[hz] at h;cases h
 | some z=>rw[hz] at h;exact⟨z,rfl,Option.some.inj h⟩
theorem trc_len {N:List Nd}:∀ (f n:Nat),(trc N f n).length≤f
 | 0,_=>Nat.le_refl _
 | f + 1,n=>by
   unfold trc
   split
   ·exact Nat.zero_le _
   ·split
    ·exact Nat.zero_le _
    ·rw[List.length_append,List.length_singleton]
     have:=trc_len (N:=N) f
     exact Nat.succ_le_succ (this _)
end Go.Proofs.YtemjlpahohmajaaGreat
