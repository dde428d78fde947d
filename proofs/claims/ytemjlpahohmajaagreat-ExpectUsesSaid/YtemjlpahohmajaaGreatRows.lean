/-
  No cell of these rows narrows 'for every input' (looked for: loops, veiled, ifaces, maps, wideKeys, modest, calm, conditions, laid).
  DERIVED. THE GIVEN ROWS OF THIS SEAT. 6 by the template 'for every input the law returns true; each argument reads behind the call as it read before'; 0 by the template 'total and deterministic' (their statements: YtemjlpahohmajaaGreatTotals.lean).
  GIVEN WITH THE SEED: the statements are not yours to turn. If you find one false, say at which input.
  Laid BY PROGRAM, IN A SANDBOX (cutbox-rows.mjs): the forced cells as the released guide's own fill.sh prints them over the translation 7336c55d00025209… (all of the seat's roots in one cut). By AI agents, Wed Nov 11 2026. No macro, syntax, notation, axiom, sorry.
-/
import Derived.Test.YtemjlpahohmajaaGreatChecked
import GoSem.Claim
import GoSem.ClaimJoined
import GoSem.ClaimMapViews
import Derived.JoinedTies
import Derived.KernelRfl
namespace Go.Proofs.YtemjlpahohmajaaGreat
/- THE CELL 'sum', in the pinned program and in every row, IS THE sha256 OF THE DUMP (.gsa) THAT YtemjlpahohmajaaGreatProg.lean LOADS. Nothing in Lean hashes anything: it is a label: what it is worth is what the hold of that sum in a sandbox is worth. -/
noncomputable def Tryz.pinned : Pinned := { name := "ytemjlpahohmajaagreat", sum := "7336c55d00025209c7c150f45050fb670b33cd8fc5c82e301410931e173b7490", checked := Tryz.checked }
namespace Rows
def none {H : Type} : Left H := { results := [], args := [] }

/-- 'phrasebooklaw34.ExploreSearches': WHATEVER THE INPUT: true; the input reads as it did. -/
def exploreSearchesSpec : ChangeSpec := { name := "exploreSearches", fn := fun _ => fun
  | [d1, d2] => { results := [.lit (.bool true)], args := [d1, d2] }
  | _ => none }
def exploreSearchesRow : OpenClaim := { program := "ytemjlpahohmajaagreat", sum := "7336c55d00025209c7c150f45050fb670b33cd8fc5c82e301410931e173b7490", func := "phrasebook/phrasebooklaw34.ExploreSearches", spec := "exploreSearches", unfollowed := true, recurses := true, apart := false }
def ExploreSearchesSaid : Prop := exploreSearchesRow.holds Tryz.pinned (OpenSpec.ofChange exploreSearchesSpec)

/-- ITS FALSE NEIGHBOUR: 'it returns false'. Refute it at one input. -/
def exploreSearchesWrong : ChangeSpec := { name := "exploreSearches", fn := fun _ => fun
  | [d1, d2] => { results := [.lit (.bool false)], args := [d1, d2] }
  | _ => none }
def ExploreSearchesWrongFalsely : Prop := exploreSearchesRow.holds Tryz.pinned (OpenSpec.ofChange exploreSearchesWrong)

/-- 'phrasebooklaw34.ExploreLoops': WHATEVER THE INPUT: true; the input reads as it did. -/
def exploreLoopsSpec : ChangeSpec := { name := "exploreLoops", fn := fun _ => fun
  | [d1, d2, d3] => { results := [.lit (.bool true)], args := [d1, d2, d3] }
  | _ => none }
def exploreLoopsRow : OpenClaim := { program := "ytemjlpahohmajaagreat", sum := "7336c55d00025209c7c150f45050fb670b33cd8fc5c82e301410931e173b7490", func := "phrasebook/phrasebooklaw34.ExploreLoops", spec := "exploreLoops", unfollowed := true, recurses := true, apart := false }
def ExploreLoopsSaid : Prop := exploreLoopsRow.holds Tryz.pinned (OpenSpec.ofChange exploreLoopsSpec)

/-- ITS FALSE NEIGHBOUR: 'it returns false'. Refute it at one input. -/
def exploreLoopsWrong : ChangeSpec := { name := "exploreLoops", fn := fun _ => fun
  | [d1, d2, d3] => { results := [.lit (.bool false)], args := [d1, d2, d3] }
  | _ => none }
def ExploreLoopsWrongFalsely : Prop := exploreLoopsRow.holds Tryz.pinned (OpenSpec.ofChange exploreLoopsWrong)

/-- 'phrasebooklaw36.ExpectCovers': WHATEVER THE INPUT: true; the input reads as it did. -/
def expectCoversSpec : ChangeSpec := { name := "expectCovers", fn := fun _ => fun
  | [d1, d2, d3] => { results := [.lit (.bool true)], args := [d1, d2, d3] }
  | _ => none }
def expectCoversRow : OpenClaim := { program := "ytemjlpahohmajaagreat", sum := "7336c55d00025209c7c150f45050fb670b33cd8fc5c82e301410931e173b7490", func := "phrasebook/phrasebooklaw36.ExpectCovers", spec := "expectCovers", unfollowed := true, recurses := true, apart := false }
def ExpectCoversSaid : Prop := expectCoversRow.holds Tryz.pinned (OpenSpec.ofChange expectCoversSpec)

/-- ITS FALSE NEIGHBOUR: 'it returns false'. Refute it at one input. -/
def expectCoversWrong : ChangeSpec := { name := "expectCovers", fn := fun _ => fun
  | [d1, d2, d3] => { results := [.lit (.bool false)], args := [d1, d2, d3] }
  | _ => none }
def ExpectCoversWrongFalsely : Prop := expectCoversRow.holds Tryz.pinned (OpenSpec.ofChange expectCoversWrong)

/-- 'phrasebooklaw36.ExpectUses': WHATEVER THE INPUT: true; the input reads as it did. -/
def expectUsesSpec : ChangeSpec := { name := "expectUses", fn := fun _ => fun
  | [d1, d2] => { results := [.lit (.bool true)], args := [d1, d2] }
  | _ => none }
def expectUsesRow : OpenClaim := { program := "ytemjlpahohmajaagreat", sum := "7336c55d00025209c7c150f45050fb670b33cd8fc5c82e301410931e173b7490", func := "phrasebook/phrasebooklaw36.ExpectUses", spec := "expectUses", unfollowed := true, recurses := true, apart := false }
def ExpectUsesSaid : Prop := expectUsesRow.holds Tryz.pinned (OpenSpec.ofChange expectUsesSpec)

/-- ITS FALSE NEIGHBOUR: 'it returns false'. Refute it at one input. -/
def expectUsesWrong : ChangeSpec := { name := "expectUses", fn := fun _ => fun
  | [d1, d2] => { results := [.lit (.bool false)], args := [d1, d2] }
  | _ => none }
def ExpectUsesWrongFalsely : Prop := expectUsesRow.holds Tryz.pinned (OpenSpec.ofChange expectUsesWrong)

/-- 'phrasebooklaw36.ExpectNil': WHATEVER THE INPUT: true; the input reads as it did. -/
def expectNilSpec : ChangeSpec := { name := "expectNil", fn := fun _ => fun
  | [d] => { results := [.lit (.bool true)], args := [d] }
  | _ => none }
def expectNilRow : OpenClaim := { program := "ytemjlpahohmajaagreat", sum := "7336c55d00025209c7c150f45050fb670b33cd8fc5c82e301410931e173b7490", func := "phrasebook/phrasebooklaw36.ExpectNil", spec := "expectNil", unfollowed := true, recurses := true, apart := false }
def ExpectNilSaid : Prop := expectNilRow.holds Tryz.pinned (OpenSpec.ofChange expectNilSpec)

/-- ITS FALSE NEIGHBOUR: 'it returns false'. Refute it at one input. -/
def expectNilWrong : ChangeSpec := { name := "expectNil", fn := fun _ => fun
  | [d] => { results := [.lit (.bool false)], args := [d] }
  | _ => none }
def ExpectNilWrongFalsely : Prop := expectNilRow.holds Tryz.pinned (OpenSpec.ofChange expectNilWrong)

/-- 'phrasebooklaw36.ExpectNever': WHATEVER THE INPUT: true; the input reads as it did. -/
def expectNeverSpec : ChangeSpec := { name := "expectNever", fn := fun _ => fun
  | [d] => { results := [.lit (.bool true)], args := [d] }
  | _ => none }
def expectNeverRow : OpenClaim := { program := "ytemjlpahohmajaagreat", sum := "7336c55d00025209c7c150f45050fb670b33cd8fc5c82e301410931e173b7490", func := "phrasebook/phrasebooklaw36.ExpectNever", spec := "expectNever", unfollowed := true, recurses := true, apart := false }
def ExpectNeverSaid : Prop := expectNeverRow.holds Tryz.pinned (OpenSpec.ofChange expectNeverSpec)

/-- ITS FALSE NEIGHBOUR: 'it returns false'. Refute it at one input. -/
def expectNeverWrong : ChangeSpec := { name := "expectNever", fn := fun _ => fun
  | [d] => { results := [.lit (.bool false)], args := [d] }
  | _ => none }
def ExpectNeverWrongFalsely : Prop := expectNeverRow.holds Tryz.pinned (OpenSpec.ofChange expectNeverWrong)

/- THE SECOND FORM. 'bulk': how many values and letters a reading holds, each counted each time it is reached (what is shared counts as often as it is met; a slice's spare places count too). A statement '..UptoSaid' is the law's where the arguments, and the package variables that the reading takes, are together of bulk at most 1048576: NARROWER than '..Said'. Prove '..Said' where nothing that the law and all that it calls make is longer than what came in: it says more and counts as full. Else prove '..UptoSaid'. A law counts once. -/
mutual
def uptoBulk {H : Type} : DataW H → Nat
  | .lit (.string bytes) => bytes.length + 1
  | .lit _ => 1
  | .nil => 1
  | .ptr d => uptoBulk d + 1
  | .slice elems spare => uptoBulkAll elems + uptoBulkAll spare + 1
  | .agg parts => uptoBulkAll parts + 1
  | .iface _ d => uptoBulk d + 1
  | .map entries => uptoBulkEntries entries + 1
  | .held _ => 1
def uptoBulkAll {H : Type} : List (DataW H) → Nat
  | [] => 0
  | d :: r => uptoBulk d + uptoBulkAll r
def uptoBulkEntries {H : Type} : List (Lit × DataW H) → Nat
  | [] => 0
  | x :: r => uptoBulkEntry x + uptoBulkEntries r
def uptoBulkEntry {H : Type} : Lit × DataW H → Nat
  | (.string bytes, d) => bytes.length + uptoBulk d + 1
  | (_, d) => uptoBulk d + 1
 end
def uptoSmall : (H : Type) → List (DataW H) → Bool := fun _ ds => decide (uptoBulkAll ds ≤ 1048576)
def OpenSpec.upto (s : _root_.Go.ChangeSpec) : _root_.Go.OpenSpec := { _root_.Go.OpenSpec.ofChange s with cond := some uptoSmall }

/-- 'phrasebooklaw34.ExploreSearches', WHERE WHAT IT READS IS OF BULK AT MOST 1048576: true; the input reads as it did. -/
def exploreSearchesUptoRow : OpenClaim := { program := "ytemjlpahohmajaagreat", sum := "7336c55d00025209c7c150f45050fb670b33cd8fc5c82e301410931e173b7490", func := "phrasebook/phrasebooklaw34.ExploreSearches", spec := "exploreSearches", unfollowed := true, recurses := true, apart := false, narrowed := true }
def ExploreSearchesUptoSaid : Prop := exploreSearchesUptoRow.holds Tryz.pinned (OpenSpec.upto exploreSearchesSpec)

/-- 'phrasebooklaw34.ExploreLoops', WHERE WHAT IT READS IS OF BULK AT MOST 1048576: true; the input reads as it did. -/
def exploreLoopsUptoRow : OpenClaim := { program := "ytemjlpahohmajaagreat", sum := "7336c55d00025209c7c150f45050fb670b33cd8fc5c82e301410931e173b7490", func := "phrasebook/phrasebooklaw34.ExploreLoops", spec := "exploreLoops", unfollowed := true, recurses := true, apart := false, narrowed := true }
def ExploreLoopsUptoSaid : Prop := exploreLoopsUptoRow.holds Tryz.pinned (OpenSpec.upto exploreLoopsSpec)

/-- 'phrasebooklaw36.ExpectCovers', WHERE WHAT IT READS IS OF BULK AT MOST 1048576: true; the input reads as it did. -/
def expectCoversUptoRow : OpenClaim := { program := "ytemjlpahohmajaagreat", sum := "7336c55d00025209c7c150f45050fb670b33cd8fc5c82e301410931e173b7490", func := "phrasebook/phrasebooklaw36.ExpectCovers", spec := "expectCovers", unfollowed := true, recurses := true, apart := false, narrowed := true }
def ExpectCoversUptoSaid : Prop := expectCoversUptoRow.holds Tryz.pinned (OpenSpec.upto expectCoversSpec)

/-- 'phrasebooklaw36.ExpectUses', WHERE WHAT IT READS IS OF BULK AT MOST 1048576: true; the input reads as it did. -/
def expectUsesUptoRow : OpenClaim := { program := "ytemjlpahohmajaagreat", sum := "7336c55d00025209c7c150f45050fb670b33cd8fc5c82e301410931e173b7490", func := "phrasebook/phrasebooklaw36.ExpectUses", spec := "expectUses", unfollowed := true, recurses := true, apart := false, narrowed := true }
def ExpectUsesUptoSaid : Prop := expectUsesUptoRow.holds Tryz.pinned (OpenSpec.upto expectUsesSpec)

/-- 'phrasebooklaw36.ExpectNil', WHERE WHAT IT READS IS OF BULK AT MOST 1048576: true; the input reads as it did. -/
def expectNilUptoRow : OpenClaim := { program := "ytemjlpahohmajaagreat", sum := "7336c55d00025209c7c150f45050fb670b33cd8fc5c82e301410931e173b7490", func := "phrasebook/phrasebooklaw36.ExpectNil", spec := "expectNil", unfollowed := true, recurses := true, apart := false, narrowed := true }
def ExpectNilUptoSaid : Prop := expectNilUptoRow.holds Tryz.pinned (OpenSpec.upto expectNilSpec)

/-- 'phrasebooklaw36.ExpectNever', WHERE WHAT IT READS IS OF BULK AT MOST 1048576: true; the input reads as it did. -/
def expectNeverUptoRow : OpenClaim := { program := "ytemjlpahohmajaagreat", sum := "7336c55d00025209c7c150f45050fb670b33cd8fc5c82e301410931e173b7490", func := "phrasebook/phrasebooklaw36.ExpectNever", spec := "expectNever", unfollowed := true, recurses := true, apart := false, narrowed := true }
def ExpectNeverUptoSaid : Prop := expectNeverUptoRow.holds Tryz.pinned (OpenSpec.upto expectNeverSpec)

end Rows
end Go.Proofs.YtemjlpahohmajaaGreat
