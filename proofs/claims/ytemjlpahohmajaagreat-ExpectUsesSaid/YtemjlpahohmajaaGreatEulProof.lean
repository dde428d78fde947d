/- ExpectUses returns true for every session and every limit, and what the arguments lead to reads behind the call as it did before: no condition. -/
import Derived.Test.YtemjlpahohmajaaGreatU52
import Derived.Test.YtemjlpahohmajaaGreatU38
set_option linter.all false
namespace Go.Proofs.YtemjlpahohmajaaGreat
open Go.ChangeShapes Go.WideShapes Go.ChangeAt Go.RowKit Go.Deep
set_option maxRecDepth 100000 in
theorem closedExpectUses:joinedFacts Tryz.pinned.checked.prog 6 Tryz.f6 Rows.expectUsesSpec Rows.expectUsesRow=true:=by kernel_rfl
theorem witExpectUses {H:Type} (enc:TypeId × Value→H) (os:Os):∃ (w:World) (tape:Tape) (i:Input),w.os=os∧(w.forCall tape i).Shaped Tryz.checked.prog∧i.vars=[]∧Input.okWide Tryz.checked.prog (w.forCall tape i) .any w.heap.size 6 i ∧
  Rows.expectUsesSpec.pre6 enc Tryz.checked.prog Tryz.f6 [] false (w.forCall tape i).memory i.args∧({}:Assume).holds Tryz.checked.prog (lone (Frame.enter Tryz.checked.prog 6 i.args .normal) [] (w.forCall tape i)):=
 ChangeSpec.witness6 (enc:=enc) (C:=Tryz.checked) false ⟨#[],#[.agg #[.string { data:=#[] },.slice none 0 0,.int .i64 0,.int .i64 0],.int .i64 0],[]⟩ 8 (by kernel_rfl) (by kernel_rfl) (by kernel_rfl) (by kernel_rfl)
set_option maxRecDepth 100000 in
theorem expectUses_holds:Rows.ExpectUsesSaid:=
 OpenClaim.holds_of_wide 6 Tryz.f6 rfl rfl rfl rfl rfl rfl rfl ⟨rfl,rfl,rfl,rfl,rfl⟩ rfl rfl rfl rfl rfl (by kernel_rfl) Tryz.func6 closedExpectUses
  (of_decide_eq_true (by kernel_rfl)) (by unfold Func.isWrapper;first | (rw[if_pos (by decide +kernel)];kernel_rfl) | (rw[if_neg (by decide +kernel)];exact⟨rfl,rfl⟩))
  (fun os started H enc _=>law_lifted (C:=Tryz.checked) Tryz.own Tryz.laidOut started enc 6 Tryz.f6 Rows.expectUsesSpec 4 (by kernel_rfl) Tryz.func6
   (witExpectUses enc os)
   rfl rfl Tryz.underlying4 (by kernel_rfl)
   (fun ds hd=>by
    match ds,hd with
    | [d,d'],_=>rfl)
   (fun W base args ds p hval hA hlt hsz=>by
    have hA':DataW.TrodAll enc Tryz.prog W 0 (fun _=>true) true Tryz.f6.params.toList args.toList ds p:=hA
    have hval':∀ (j:Nat) t v,Tryz.f6.params[j]?=some t→args[j]?=some v→Value.okWide Tryz.prog W .any base t v:=hval
    rw[Tryz.params6] at hA' hval'
    obtain⟨v0,v1,d0,d1,p0,p1,rfl,rfl,rfl,h0,h1⟩:=trodAll_two hA'
    obtain⟨s,hs,hw⟩:=open_ses (hval' 0 25 v0 rfl rfl) h0
    obtain⟨lim,rfl,_⟩:=open_int Tryz.underlying3 (hval' 1 3 v1 rfl rfl) h1
    exact euses_any v0 s lim W hs hw))
#print axioms expectUses_holds
end Go.Proofs.YtemjlpahohmajaaGreat
