/- ProductRefuses returns true for every session, all choices and every move, and they read behind the call as they did before: no condition. -/
import Derived.Test.YtkphhjekfimmlaaGreatG56
import Derived.Test.YtkphhjekfimmlaaGreatG34
import Derived.Test.YtkphhjekfimmlaaGreatG30
set_option linter.all false
namespace Go.Proofs.YtkphhjekfimmlaaGreat
open Go.ChangeShapes Go.WideShapes Go.ChangeAt Go.RowKit Go.Deep
set_option maxRecDepth 100000 in
theorem closedProductRefuses:joinedFacts Tryz.pinned.checked.prog 5 Tryz.f5 Rows.productRefusesSpec Rows.productRefusesRow=true:=by kernel_rfl
theorem witProductRefuses {H:Type} (enc:TypeId × Value→H) (os:Os):∃ (w:World) (tape:Tape) (i:Input),w.os=os∧(w.forCall tape i).Shaped Tryz.checked.prog∧i.vars=[]∧Input.okWide Tryz.checked.prog (w.forCall tape i) .any w.heap.size 5 i ∧
  Rows.productRefusesSpec.pre6 enc Tryz.checked.prog Tryz.f5 [] false (w.forCall tape i).memory i.args∧({}:Assume).holds Tryz.checked.prog (lone (Frame.enter Tryz.checked.prog 5 i.args .normal) [] (w.forCall tape i)):=
 ChangeSpec.witness6 (enc:=enc) (C:=Tryz.checked) false ⟨#[],#[.agg #[.string { data:=#[] },.slice none 0 0,.int .i64 0,.int .i64 0],.slice none 0 0,.agg #[.int .i64 0,.int .i64 0,.int .i64 0,.int .i64 0]],[]⟩ 8 (by kernel_rfl) (by kernel_rfl) (by kernel_rfl) (by kernel_rfl)
set_option maxRecDepth 100000 in
theorem productRefuses_holds:Rows.ProductRefusesSaid:=
 OpenClaim.holds_of_wide 5 Tryz.f5 rfl rfl rfl rfl rfl rfl rfl ⟨rfl,rfl,rfl,rfl,rfl⟩ rfl rfl rfl rfl rfl (by kernel_rfl) Tryz.func5 closedProductRefuses
  (of_decide_eq_true (by kernel_rfl)) (by unfold Func.isWrapper;first | (rw[if_pos (by decide +kernel)];kernel_rfl) | (rw[if_neg (by decide +kernel)];exact⟨rfl,rfl⟩))
  (fun os started H enc _=>law_lifted (C:=Tryz.checked) Tryz.own Tryz.laidOut started enc 5 Tryz.f5 Rows.productRefusesSpec 4 (by kernel_rfl) Tryz.func5
   (witProductRefuses enc os)
   rfl rfl Tryz.underlying4 (by kernel_rfl)
   (fun ds hd=>by
    match ds,hd with
    | [d,d',d''],_=>rfl)
   (fun W base args ds p hval hA hlt hsz=>by
    have hA':DataW.TrodAll enc Tryz.prog W 0 (fun _=>true) true Tryz.f5.params.toList args.toList ds p:=hA
    have hval':∀ (j:Nat) t v,Tryz.f5.params[j]?=some t→args[j]?=some v→Value.okWide Tryz.prog W .any base t v:=hval
    rw[Tryz.params5] at hA' hval'
    obtain⟨v0,v1,v2,d0,d1,d2,p0,p1,p2,rfl,rfl,rfl,h0,h1,h2⟩:=trodAll_three hA'
    obtain⟨s,hs,hw⟩:=open_ses (hval' 0 25 v0 rfl rfl) h0
    obtain⟨bo,bc,b,rfl,hb⟩:=open_byts (hval' 1 26 v1 rfl rfl) h1
    obtain⟨m,rfl⟩:=open_move (hval' 2 45 v2 rfl rfl) h2
    exact refuses_any v0 _ s b m W hs hw hb))
#print axioms productRefuses_holds
end Go.Proofs.YtkphhjekfimmlaaGreat
