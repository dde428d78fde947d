/- ExpectCovers returns true for every session, every limit and all choices, and what the arguments lead to reads behind the call as it did before: no condition. -/
import Derived.Test.YtohfkhjlnlahdaaGreatW44
import Derived.Test.YtohfkhjlnlahdaaGreatW29
set_option linter.all false
namespace Go.Proofs.YtohfkhjlnlahdaaGreat
open Go.ChangeShapes Go.WideShapes Go.ChangeAt Go.RowKit Go.Deep
set_option maxHeartbeats 0 in
set_option maxRecDepth 100000 in
theorem closedExpectCovers:joinedFacts Tryz.pinned.checked.prog 3 Tryz.f3 Rows.expectCoversSpec Rows.expectCoversRow=true:=by
 unfold joinedFacts
 simp only[Bool.and_eq_true]
 and_intros
 all_goals (as_aux_lemma=>kernel_rfl)
theorem witExpectCovers {H:Type} (enc:TypeId × Value→H) (os:Os):∃ (w:World) (tape:Tape) (i:Input),w.os=os∧(w.forCall tape i).Shaped Tryz.checked.prog∧i.vars=[]∧Input.okWide Tryz.checked.prog (w.forCall tape i) .any w.heap.size 3 i ∧
  Rows.expectCoversSpec.pre6 enc Tryz.checked.prog Tryz.f3 [] false (w.forCall tape i).memory i.args∧({}:Assume).holds Tryz.checked.prog (lone (Frame.enter Tryz.checked.prog 3 i.args .normal) [] (w.forCall tape i)):=
 ChangeSpec.witness6 (enc:=enc) (C:=Tryz.checked) false ⟨#[],#[.agg #[.string { data:=#[] },.slice none 0 0,.int .i64 0,.int .i64 0],.int .i64 0,.slice none 0 0],[]⟩ 8 (by kernel_rfl) (by kernel_rfl) (by kernel_rfl) (by kernel_rfl)
set_option maxRecDepth 100000 in
theorem expectCovers_holds:Rows.ExpectCoversSaid:=
 OpenClaim.holds_of_wide 3 Tryz.f3 rfl rfl rfl rfl rfl rfl rfl ⟨rfl,rfl,rfl,rfl,rfl⟩ rfl rfl rfl rfl rfl (by kernel_rfl) Tryz.func3 closedExpectCovers
  (of_decide_eq_true (by kernel_rfl)) (by unfold Func.isWrapper;first | (rw[if_pos (by decide +kernel)];kernel_rfl) | (rw[if_neg (by decide +kernel)];exact⟨rfl,rfl⟩))
  (fun os started H enc _=>law_lifted (C:=Tryz.checked) Tryz.own Tryz.laidOut started enc 3 Tryz.f3 Rows.expectCoversSpec 4 (by kernel_rfl) Tryz.func3
   (witExpectCovers enc os)
   rfl rfl Tryz.underlying4 (by kernel_rfl)
   (fun ds hd=>by
    match ds,hd with
    | [d,d',d''],_=>rfl)
   (fun W base args ds p hval hA hlt hsz=>by
    have hA':DataW.TrodAll enc Tryz.prog W 0 (fun _=>true) true Tryz.f3.params.toList args.toList ds p:=hA
    have hval':∀ (j:Nat) t v,Tryz.f3.params[j]?=some t→args[j]?=some v→Value.okWide Tryz.prog W .any base t v:=hval
    rw[Tryz.params3] at hA' hval'
    obtain⟨v0,v1,v2,d0,d1,d2,p0,p1,p2,rfl,rfl,rfl,h0,h1,h2⟩:=trodAll_three hA'
    obtain⟨s,hs,hw⟩:=open_ses (hval' 0 25 v0 rfl rfl) h0
    obtain⟨lim,rfl,_⟩:=open_int Tryz.underlying3 (hval' 1 3 v1 rfl rfl) h1
    obtain⟨bo,bc,b,rfl,hb⟩:=open_byts (hval' 2 26 v2 rfl rfl) h2
    exact ecovers_any v0 _ s lim W b hs hw hb))
#print axioms expectCovers_holds
end Go.Proofs.YtohfkhjlnlahdaaGreat
