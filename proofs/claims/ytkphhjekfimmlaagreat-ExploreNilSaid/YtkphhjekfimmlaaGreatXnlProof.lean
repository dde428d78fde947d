/- ExploreNil returns true for every two numbers and every key, and what the arguments lead to reads behind the call as it did before: no condition. -/
import Derived.Test.YtkphhjekfimmlaaGreatH53
import Derived.Test.YtkphhjekfimmlaaGreatH37
import Derived.ChangeMaps5
set_option linter.all false
namespace Go.Proofs.YtkphhjekfimmlaaGreat
open Go.ChangeShapes Go.WideShapes Go.ChangeAt Go.RowKit Go.Deep
set_option maxRecDepth 100000 in
theorem closedExploreNil:joinedFacts Tryz.pinned.checked.prog 12 Tryz.f12 Rows.exploreNilSpec Rows.exploreNilRow=true:=by kernel_rfl
theorem witExploreNil {H:Type} (enc:TypeId × Value→H) (os:Os):∃ (w:World) (tape:Tape) (i:Input),w.os=os∧(w.forCall tape i).Shaped Tryz.checked.prog∧i.vars=[]∧Input.okWide Tryz.checked.prog (w.forCall tape i) .any w.heap.size 12 i ∧
  Rows.exploreNilSpec.pre6 enc Tryz.checked.prog Tryz.f12 [] false (w.forCall tape i).memory i.args∧({}:Assume).holds Tryz.checked.prog (lone (Frame.enter Tryz.checked.prog 12 i.args .normal) [] (w.forCall tape i)):=
 ChangeSpec.witness6 (enc:=enc) (C:=Tryz.checked) false ⟨#[],#[.int .i64 0,.int .i64 0,.string { data:=#[] }],[]⟩ 8 (by kernel_rfl) (by kernel_rfl) (by kernel_rfl) (by kernel_rfl)
set_option maxRecDepth 100000 in
theorem exploreNil_holds:Rows.ExploreNilSaid:=
 OpenClaim.holds_of_wide 12 Tryz.f12 rfl rfl rfl rfl rfl rfl rfl ⟨rfl,rfl,rfl,rfl,rfl⟩ rfl rfl rfl rfl rfl (by kernel_rfl) Tryz.func12 closedExploreNil
  (of_decide_eq_true (by kernel_rfl)) (by unfold Func.isWrapper;first | (rw[if_pos (by decide +kernel)];kernel_rfl) | (rw[if_neg (by decide +kernel)];exact⟨rfl,rfl⟩))
  (fun os started H enc _=>law_lifted (C:=Tryz.checked) Tryz.own Tryz.laidOut started enc 12 Tryz.f12 Rows.exploreNilSpec 4 (by kernel_rfl) Tryz.func12
   (witExploreNil enc os)
   rfl rfl Tryz.underlying4 (by kernel_rfl)
   (fun ds hd=>by
    match ds,hd with
    | [d,d',d''],_=>rfl)
   (fun W base args ds p hval hA hlt hsz=>by
    have hA':DataW.TrodAll enc Tryz.prog W 0 (fun _=>true) true Tryz.f12.params.toList args.toList ds p:=hA
    have hval':∀ (j:Nat) t v,Tryz.f12.params[j]?=some t→args[j]?=some v→Value.okWide Tryz.prog W .any base t v:=hval
    rw[Tryz.params12] at hA' hval'
    obtain⟨v0,v1,v2,d0,d1,d2,p0,p1,p2,rfl,rfl,rfl,h0,h1,h2⟩:=trodAll_three hA'
    obtain⟨a,rfl,_⟩:=open_int Tryz.underlying3 (hval' 0 3 v0 rfl rfl) h0
    obtain⟨b,rfl,_⟩:=open_int Tryz.underlying3 (hval' 1 3 v1 rfl rfl) h1
    obtain⟨key,rfl,_⟩:=Go.ChangeMaps.open_string Tryz.underlying9 (hval' 2 9 v2 rfl rfl) h2
    exact(Nat.lt_or_ge 60 key.size).elim (fun hl=>xnil_big a b key W hl) (fun hl=>xnil_any a b key W (by omega))))
#print axioms exploreNil_holds
end Go.Proofs.YtkphhjekfimmlaaGreat
