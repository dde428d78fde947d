/- ExpectOf returns true for every session and all choices, and what the arguments lead to reads behind the call as it did before: no condition. -/
import Derived.Test.YtohfkhjlnlahdaaGreatQ52
import Derived.Test.YtohfkhjlnlahdaaGreatQ26
set_option linter.all false
namespace Go.Proofs.YtohfkhjlnlahdaaGreat
open Go.ChangeShapes Go.WideShapes Go.ChangeAt Go.RowKit Go.Deep
set_option maxHeartbeats 0 in
set_option maxRecDepth 100000 in
theorem closedExpectOf:joinedFacts Tryz.pinned.checked.prog 5 Tryz.f5 Rows.expectOfSpec Rows.expectOfRow=true:=by
 unfold joinedFacts
 simp only[Bool.and_eq_true]
 and_intros
 all_goals (as_aux_lemma=>kernel_rfl)
theorem witExpectOf {H:Type} (enc:TypeId × Value→H) (os:Os):∃ (w:World) (tape:Tape) (i:Input),w.os=os∧(w.forCall tape i).Shaped Tryz.checked.prog∧i.vars=[]∧Input.okWide Tryz.checked.prog (w.forCall tape i) .any w.heap.size 5 i ∧
  Rows.expectOfSpec.pre6 enc Tryz.checked.prog Tryz.f5 [] false (w.forCall tape i).memory i.args∧({}:Assume).holds Tryz.checked.prog (lone (Frame.enter Tryz.checked.prog 5 i.args .normal) [] (w.forCall tape i)):=
 ChangeSpec.witness6 (enc:=enc) (C:=Tryz.checked) false ⟨#[],#[.agg #[.string { data:=#[] },.slice none 0 0,.int .i64 0,.int .i64 0],.slice none 0 0],[]⟩ 8 (by kernel_rfl) (by kernel_rfl) (by kernel_rfl) (by kernel_rfl)
set_option maxRecDepth 100000 in
theorem expectOf_holds:Rows.ExpectOfSaid:=
 OpenClaim.holds_of_wide 5 Tryz.f5 rfl rfl rfl rfl rfl rfl rfl ⟨rfl,rfl,rfl,rfl,rfl⟩ rfl rfl rfl rfl rfl (by kernel_rfl) Tryz.func5 closedExpectOf
  (of_decide_eq_true (by kernel_rfl)) (by unfold Func.isWrapper;first | (rw[if_pos (by decide +kernel)];kernel_rfl) | (rw[if_neg (by decide +kernel)];exact⟨rfl,rfl⟩))
  (fun os started H enc _=>nu (C:=Tryz.checked) Tryz.own Tryz.laidOut started enc 5 Tryz.f5 Rows.expectOfSpec 4 (by kernel_rfl) Tryz.func5
   (witExpectOf enc os)
   rfl rfl Tryz.underlying4 (by kernel_rfl)
   (fun ds hd=>by
    match ds,hd with
    | [d,d'],_=>rfl)
   (fun W base args ds p hval hA hlt hsz=>by
    have hA':DataW.TrodAll enc Tryz.prog W 0 (fun _=>true) true Tryz.f5.params.toList args.toList ds p:=hA
    have hval':∀ (j:Nat) t v,Tryz.f5.params[j]?=some t→args[j]?=some v→Value.okWide Tryz.prog W .any base t v:=hval
    rw[Tryz.params5] at hA' hval'
    obtain⟨v0,v1,d0,d1,p0,p1,rfl,rfl,rfl,h0,h1⟩:=lP hA'
    obtain⟨s,hs,hw⟩:=rp (hval' 0 25 v0 rfl rfl) h0
    obtain⟨bo,bc,b,rfl,hb⟩:=pR (hval' 1 26 v1 rfl rfl) h1
    exact sO v0 _ s W b hs hw hb))
#print axioms expectOf_holds
end Go.Proofs.YtohfkhjlnlahdaaGreat
