/- ExpectNever returns true for every session, and what the arguments lead to reads behind the call as it did before: no condition. -/
import Derived.Test.YtohfkhjlnlahdaaGreatV52
import Derived.Test.YtohfkhjlnlahdaaGreatV23
set_option linter.all false
namespace Go.Proofs.YtohfkhjlnlahdaaGreat
open Go.ChangeShapes Go.WideShapes Go.ChangeAt Go.RowKit Go.Deep
set_option maxRecDepth 100000 in
theorem closedExpectNever:joinedFacts Tryz.pinned.checked.prog 4 Tryz.f4 Rows.expectNeverSpec Rows.expectNeverRow=true:=by kernel_rfl
theorem witExpectNever {H:Type} (enc:TypeId × Value→H) (os:Os):∃ (w:World) (tape:Tape) (i:Input),w.os=os∧(w.forCall tape i).Shaped Tryz.checked.prog∧i.vars=[]∧Input.okWide Tryz.checked.prog (w.forCall tape i) .any w.heap.size 4 i ∧
  Rows.expectNeverSpec.pre6 enc Tryz.checked.prog Tryz.f4 [] false (w.forCall tape i).memory i.args∧({}:Assume).holds Tryz.checked.prog (lone (Frame.enter Tryz.checked.prog 4 i.args .normal) [] (w.forCall tape i)):=
 ChangeSpec.witness6 (enc:=enc) (C:=Tryz.checked) false ⟨#[],#[.agg #[.string { data:=#[] },.slice none 0 0,.int .i64 0,.int .i64 0]],[]⟩ 8 (by kernel_rfl) (by kernel_rfl) (by kernel_rfl) (by kernel_rfl)
set_option maxRecDepth 100000 in
theorem expectNever_holds:Rows.ExpectNeverSaid:=
 OpenClaim.holds_of_wide 4 Tryz.f4 rfl rfl rfl rfl rfl rfl rfl ⟨rfl,rfl,rfl,rfl,rfl⟩ rfl rfl rfl rfl rfl (by kernel_rfl) Tryz.func4 closedExpectNever
  (of_decide_eq_true (by kernel_rfl)) (by unfold Func.isWrapper;first | (rw[if_pos (by decide +kernel)];kernel_rfl) | (rw[if_neg (by decide +kernel)];exact⟨rfl,rfl⟩))
  (fun os started H enc _=>law_lifted (C:=Tryz.checked) Tryz.own Tryz.laidOut started enc 4 Tryz.f4 Rows.expectNeverSpec 4 (by kernel_rfl) Tryz.func4
   (witExpectNever enc os)
   rfl rfl Tryz.underlying4 (by kernel_rfl)
   (fun ds hd=>by
    match ds,hd with
    | [d],_=>rfl)
   (fun W base args ds p hval hA hlt hsz=>by
    have hA':DataW.TrodAll enc Tryz.prog W 0 (fun _=>true) true Tryz.f4.params.toList args.toList ds p:=hA
    have hval':∀ (j:Nat) t v,Tryz.f4.params[j]?=some t→args[j]?=some v→Value.okWide Tryz.prog W .any base t v:=hval
    rw[Tryz.params4] at hA' hval'
    obtain⟨v0,d0,rfl,rfl,h0⟩:=trodAll_one hA'
    obtain⟨s,hs,hw⟩:=open_ses (hval' 0 25 v0 rfl rfl) h0
    exact enever_any v0 s W hs))
#print axioms expectNever_holds
end Go.Proofs.YtohfkhjlnlahdaaGreat
