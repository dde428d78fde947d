/- ExpectNil returns true for every number, and what the arguments lead to reads behind the call as it did before: no condition. -/
import Derived.Test.YtemjlpahohmajaaGreatK52
import Derived.Test.YtemjlpahohmajaaGreatK38
import Derived.Lib.SmallJoins
import Derived.ChangeMaps5
set_option linter.all false
namespace Go.Proofs.YtemjlpahohmajaaGreat
open Go.ChangeShapes Go.WideShapes Go.ChangeAt Go.RowKit Go.Deep
set_option maxRecDepth 100000 in
theorem closedExpectNil:joinedFacts Tryz.pinned.checked.prog 7 Tryz.f7 Rows.expectNilSpec Rows.expectNilRow=true:=by kernel_rfl
theorem witExpectNil {H:Type} (enc:TypeId × Value→H) (os:Os):∃ (w:World) (tape:Tape) (i:Input),w.os=os∧(w.forCall tape i).Shaped Tryz.checked.prog∧i.vars=[]∧Input.okWide Tryz.checked.prog (w.forCall tape i) .any w.heap.size 7 i ∧
  Rows.expectNilSpec.pre6 enc Tryz.checked.prog Tryz.f7 [] false (w.forCall tape i).memory i.args∧({}:Assume).holds Tryz.checked.prog (lone (Frame.enter Tryz.checked.prog 7 i.args .normal) [] (w.forCall tape i)):=
 ChangeSpec.witness6 (enc:=enc) (C:=Tryz.checked) false ⟨#[],#[.int .i64 0],[]⟩ 8 (by kernel_rfl) (by kernel_rfl) (by kernel_rfl) (by kernel_rfl)
set_option maxRecDepth 100000 in
theorem expectNil_holds:Rows.ExpectNilSaid:=
 OpenClaim.holds_of_wide 7 Tryz.f7 rfl rfl rfl rfl rfl rfl rfl ⟨rfl,rfl,rfl,rfl,rfl⟩ rfl rfl rfl rfl rfl (by kernel_rfl) Tryz.func7 closedExpectNil
  (of_decide_eq_true (by kernel_rfl)) (by unfold Func.isWrapper;first | (rw[if_pos (by decide +kernel)];kernel_rfl) | (rw[if_neg (by decide +kernel)];exact⟨rfl,rfl⟩))
  (fun os started H enc _=>law_lifted (C:=Tryz.checked) Tryz.own Tryz.laidOut started enc 7 Tryz.f7 Rows.expectNilSpec 4 (by kernel_rfl) Tryz.func7
   (witExpectNil enc os)
   rfl rfl Tryz.underlying4 (by kernel_rfl)
   (fun ds hd=>by
    match ds,hd with
    | [d],_=>rfl)
   (fun W base args ds p hval hA hlt hsz=>by
    have hA':DataW.TrodAll enc Tryz.prog W 0 (fun _=>true) true Tryz.f7.params.toList args.toList ds p:=hA
    have hval':∀ (j:Nat) t v,Tryz.f7.params[j]?=some t→args[j]?=some v→Value.okWide Tryz.prog W .any base t v:=hval
    rw[Tryz.params7] at hA' hval'
    obtain⟨v0,d0,rfl,rfl,h0⟩:=trodAll_one hA'
    obtain⟨a,rfl,_⟩:=open_int Tryz.underlying3 (hval' 0 3 v0 rfl rfl) h0
    exact enil_any a W))
#print axioms expectNil_holds
end Go.Proofs.YtemjlpahohmajaaGreat
