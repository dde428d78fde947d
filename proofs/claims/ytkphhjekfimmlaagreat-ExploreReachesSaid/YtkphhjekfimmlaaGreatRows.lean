/-
  No cell of these rows narrows 'for every input' (looked for: loops, veiled, ifaces, maps, wideKeys, modest, calm, conditions, laid).
  DERIVED. THE GIVEN ROWS OF THIS SEAT. 10 by the template 'for every input the law returns true; each argument reads behind the call as it read before'; 0 by the template 'total and deterministic' (their statements: YtkphhjekfimmlaaGreatTotals.lean).
  GIVEN WITH THE SEED: the statements are not yours to turn. If you find one false, say at which input.
  Laid BY PROGRAM, IN A SANDBOX (cutbox-rows.mjs): the forced cells as the released guide's own fill.sh prints them over the translation 6ff34ac34558be80… (all of the seat's roots in one cut). By AI agents, Wed Nov 11 2026. No macro, syntax, notation, axiom, sorry.
-/
import Derived.Test.YtkphhjekfimmlaaGreatChecked
import GoSem.Claim
import GoSem.ClaimJoined
import GoSem.ClaimMapViews
import Derived.JoinedTies
import Derived.KernelRfl
namespace Go.Proofs.YtkphhjekfimmlaaGreat
/- THE CELL 'sum', in the pinned program and in every row, IS THE sha256 OF THE DUMP (.gsa) THAT YtkphhjekfimmlaaGreatProg.lean LOADS. Nothing in Lean hashes anything: it is a label: what it is worth is what the hold of that sum in a sandbox is worth. -/
noncomputable def Tryz.pinned : Pinned := { name := "ytkphhjekfimmlaagreat", sum := "6ff34ac34558be80d4bec7dc92b9c84ea0439ef8522c063052030bf7caca9c49", checked := Tryz.checked }
namespace Rows
def none {H : Type} : Left H := { results := [], args := [] }

/-- 'phrasebooklaw33.ProductLoops': WHATEVER THE INPUT: true; the input reads as it did. -/
def productLoopsSpec : ChangeSpec := { name := "productLoops", fn := fun _ => fun
  | [d1, d2, d3] => { results := [.lit (.bool true)], args := [d1, d2, d3] }
  | _ => none }
def productLoopsRow : OpenClaim := { program := "ytkphhjekfimmlaagreat", sum := "6ff34ac34558be80d4bec7dc92b9c84ea0439ef8522c063052030bf7caca9c49", func := "phrasebook/phrasebooklaw33.ProductLoops", spec := "productLoops", unfollowed := true, recurses := true, apart := false }
def ProductLoopsSaid : Prop := productLoopsRow.holds Tryz.pinned (OpenSpec.ofChange productLoopsSpec)

/-- ITS FALSE NEIGHBOUR: 'it returns false'. Refute it at one input. -/
def productLoopsWrong : ChangeSpec := { name := "productLoops", fn := fun _ => fun
  | [d1, d2, d3] => { results := [.lit (.bool false)], args := [d1, d2, d3] }
  | _ => none }
def ProductLoopsWrongFalsely : Prop := productLoopsRow.holds Tryz.pinned (OpenSpec.ofChange productLoopsWrong)

/-- 'phrasebooklaw33.ProductBack': WHATEVER THE INPUT: true; the input reads as it did. -/
def productBackSpec : ChangeSpec := { name := "productBack", fn := fun _ => fun
  | [d1, d2] => { results := [.lit (.bool true)], args := [d1, d2] }
  | _ => none }
def productBackRow : OpenClaim := { program := "ytkphhjekfimmlaagreat", sum := "6ff34ac34558be80d4bec7dc92b9c84ea0439ef8522c063052030bf7caca9c49", func := "phrasebook/phrasebooklaw33.ProductBack", spec := "productBack", unfollowed := true, recurses := true, apart := false }
def ProductBackSaid : Prop := productBackRow.holds Tryz.pinned (OpenSpec.ofChange productBackSpec)

/-- ITS FALSE NEIGHBOUR: 'it returns false'. Refute it at one input. -/
def productBackWrong : ChangeSpec := { name := "productBack", fn := fun _ => fun
  | [d1, d2] => { results := [.lit (.bool false)], args := [d1, d2] }
  | _ => none }
def ProductBackWrongFalsely : Prop := productBackRow.holds Tryz.pinned (OpenSpec.ofChange productBackWrong)

/-- 'phrasebooklaw33.ProductRefuses': WHATEVER THE INPUT: true; the input reads as it did. -/
def productRefusesSpec : ChangeSpec := { name := "productRefuses", fn := fun _ => fun
  | [d1, d2, d3] => { results := [.lit (.bool true)], args := [d1, d2, d3] }
  | _ => none }
def productRefusesRow : OpenClaim := { program := "ytkphhjekfimmlaagreat", sum := "6ff34ac34558be80d4bec7dc92b9c84ea0439ef8522c063052030bf7caca9c49", func := "phrasebook/phrasebooklaw33.ProductRefuses", spec := "productRefuses", unfollowed := true, recurses := true, apart := false }
def ProductRefusesSaid : Prop := productRefusesRow.holds Tryz.pinned (OpenSpec.ofChange productRefusesSpec)

/-- ITS FALSE NEIGHBOUR: 'it returns false'. Refute it at one input. -/
def productRefusesWrong : ChangeSpec := { name := "productRefuses", fn := fun _ => fun
  | [d1, d2, d3] => { results := [.lit (.bool false)], args := [d1, d2, d3] }
  | _ => none }
def ProductRefusesWrongFalsely : Prop := productRefusesRow.holds Tryz.pinned (OpenSpec.ofChange productRefusesWrong)

/-- 'phrasebooklaw33.ProductDecodes': WHATEVER THE INPUT: true; the input reads as it did. -/
def productDecodesSpec : ChangeSpec := { name := "productDecodes", fn := fun _ => fun
  | [d1, d2] => { results := [.lit (.bool true)], args := [d1, d2] }
  | _ => none }
def productDecodesRow : OpenClaim := { program := "ytkphhjekfimmlaagreat", sum := "6ff34ac34558be80d4bec7dc92b9c84ea0439ef8522c063052030bf7caca9c49", func := "phrasebook/phrasebooklaw33.ProductDecodes", spec := "productDecodes", unfollowed := true, recurses := true, apart := false }
def ProductDecodesSaid : Prop := productDecodesRow.holds Tryz.pinned (OpenSpec.ofChange productDecodesSpec)

/-- ITS FALSE NEIGHBOUR: 'it returns false'. Refute it at one input. -/
def productDecodesWrong : ChangeSpec := { name := "productDecodes", fn := fun _ => fun
  | [d1, d2] => { results := [.lit (.bool false)], args := [d1, d2] }
  | _ => none }
def ProductDecodesWrongFalsely : Prop := productDecodesRow.holds Tryz.pinned (OpenSpec.ofChange productDecodesWrong)

/-- 'phrasebooklaw34.ExploreSearches': WHATEVER THE INPUT: true; the input reads as it did. -/
def exploreSearchesSpec : ChangeSpec := { name := "exploreSearches", fn := fun _ => fun
  | [d1, d2] => { results := [.lit (.bool true)], args := [d1, d2] }
  | _ => none }
def exploreSearchesRow : OpenClaim := { program := "ytkphhjekfimmlaagreat", sum := "6ff34ac34558be80d4bec7dc92b9c84ea0439ef8522c063052030bf7caca9c49", func := "phrasebook/phrasebooklaw34.ExploreSearches", spec := "exploreSearches", unfollowed := true, recurses := true, apart := false }
def ExploreSearchesSaid : Prop := exploreSearchesRow.holds Tryz.pinned (OpenSpec.ofChange exploreSearchesSpec)

/-- ITS FALSE NEIGHBOUR: 'it returns false'. Refute it at one input. -/
def exploreSearchesWrong : ChangeSpec := { name := "exploreSearches", fn := fun _ => fun
  | [d1, d2] => { results := [.lit (.bool false)], args := [d1, d2] }
  | _ => none }
def ExploreSearchesWrongFalsely : Prop := exploreSearchesRow.holds Tryz.pinned (OpenSpec.ofChange exploreSearchesWrong)

/-- 'phrasebooklaw34.ExploreLoops': WHATEVER THE INPUT: true; the input reads as it did. -/
def exploreLoopsSpec : ChangeSpec := { name := "exploreLoops", fn := fun _ => fun
  | [d1, d2, d3] => { results := [.lit (.bool true)], args := [d1, d2, d3] }
  | _ => none }
def exploreLoopsRow : OpenClaim := { program := "ytkphhjekfimmlaagreat", sum := "6ff34ac34558be80d4bec7dc92b9c84ea0439ef8522c063052030bf7caca9c49", func := "phrasebook/phrasebooklaw34.ExploreLoops", spec := "exploreLoops", unfollowed := true, recurses := true, apart := false }
def ExploreLoopsSaid : Prop := exploreLoopsRow.holds Tryz.pinned (OpenSpec.ofChange exploreLoopsSpec)

/-- ITS FALSE NEIGHBOUR: 'it returns false'. Refute it at one input. -/
def exploreLoopsWrong : ChangeSpec := { name := "exploreLoops", fn := fun _ => fun
  | [d1, d2, d3] => { results := [.lit (.bool false)], args := [d1, d2, d3] }
  | _ => none }
def ExploreLoopsWrongFalsely : Prop := exploreLoopsRow.holds Tryz.pinned (OpenSpec.ofChange exploreLoopsWrong)

/-- 'phrasebooklaw34.ExploreReaches': WHATEVER THE INPUT: true; the input reads as it did. -/
def exploreReachesSpec : ChangeSpec := { name := "exploreReaches", fn := fun _ => fun
  | [d1, d2] => { results := [.lit (.bool true)], args := [d1, d2] }
  | _ => none }
def exploreReachesRow : OpenClaim := { program := "ytkphhjekfimmlaagreat", sum := "6ff34ac34558be80d4bec7dc92b9c84ea0439ef8522c063052030bf7caca9c49", func := "phrasebook/phrasebooklaw34.ExploreReaches", spec := "exploreReaches", unfollowed := true, recurses := true, apart := false }
def ExploreReachesSaid : Prop := exploreReachesRow.holds Tryz.pinned (OpenSpec.ofChange exploreReachesSpec)

/-- ITS FALSE NEIGHBOUR: 'it returns false'. Refute it at one input. -/
def exploreReachesWrong : ChangeSpec := { name := "exploreReaches", fn := fun _ => fun
  | [d1, d2] => { results := [.lit (.bool false)], args := [d1, d2] }
  | _ => none }
def ExploreReachesWrongFalsely : Prop := exploreReachesRow.holds Tryz.pinned (OpenSpec.ofChange exploreReachesWrong)

/-- 'phrasebooklaw33.ProductPlays': WHATEVER THE INPUT: true; the input reads as it did. -/
def productPlaysSpec : ChangeSpec := { name := "productPlays", fn := fun _ => fun
  | [d1, d2] => { results := [.lit (.bool true)], args := [d1, d2] }
  | _ => none }
def productPlaysRow : OpenClaim := { program := "ytkphhjekfimmlaagreat", sum := "6ff34ac34558be80d4bec7dc92b9c84ea0439ef8522c063052030bf7caca9c49", func := "phrasebook/phrasebooklaw33.ProductPlays", spec := "productPlays", unfollowed := true, recurses := true, apart := false }
def ProductPlaysSaid : Prop := productPlaysRow.holds Tryz.pinned (OpenSpec.ofChange productPlaysSpec)

/-- ITS FALSE NEIGHBOUR: 'it returns false'. Refute it at one input. -/
def productPlaysWrong : ChangeSpec := { name := "productPlays", fn := fun _ => fun
  | [d1, d2] => { results := [.lit (.bool false)], args := [d1, d2] }
  | _ => none }
def ProductPlaysWrongFalsely : Prop := productPlaysRow.holds Tryz.pinned (OpenSpec.ofChange productPlaysWrong)

/-- 'phrasebooklaw33.ProductNil': WHATEVER THE INPUT: true; the input reads as it did. -/
def productNilSpec : ChangeSpec := { name := "productNil", fn := fun _ => fun
  | [d1, d2, d3, d4] => { results := [.lit (.bool true)], args := [d1, d2, d3, d4] }
  | _ => none }
def productNilRow : OpenClaim := { program := "ytkphhjekfimmlaagreat", sum := "6ff34ac34558be80d4bec7dc92b9c84ea0439ef8522c063052030bf7caca9c49", func := "phrasebook/phrasebooklaw33.ProductNil", spec := "productNil", unfollowed := true, recurses := true, apart := false }
def ProductNilSaid : Prop := productNilRow.holds Tryz.pinned (OpenSpec.ofChange productNilSpec)

/-- ITS FALSE NEIGHBOUR: 'it returns false'. Refute it at one input. -/
def productNilWrong : ChangeSpec := { name := "productNil", fn := fun _ => fun
  | [d1, d2, d3, d4] => { results := [.lit (.bool false)], args := [d1, d2, d3, d4] }
  | _ => none }
def ProductNilWrongFalsely : Prop := productNilRow.holds Tryz.pinned (OpenSpec.ofChange productNilWrong)

/-- 'phrasebooklaw34.ExploreNil': WHATEVER THE INPUT: true; the input reads as it did. -/
def exploreNilSpec : ChangeSpec := { name := "exploreNil", fn := fun _ => fun
  | [d1, d2, d3] => { results := [.lit (.bool true)], args := [d1, d2, d3] }
  | _ => none }
def exploreNilRow : OpenClaim := { program := "ytkphhjekfimmlaagreat", sum := "6ff34ac34558be80d4bec7dc92b9c84ea0439ef8522c063052030bf7caca9c49", func := "phrasebook/phrasebooklaw34.ExploreNil", spec := "exploreNil", unfollowed := true, recurses := true, apart := false }
def ExploreNilSaid : Prop := exploreNilRow.holds Tryz.pinned (OpenSpec.ofChange exploreNilSpec)

/-- ITS FALSE NEIGHBOUR: 'it returns false'. Refute it at one input. -/
def exploreNilWrong : ChangeSpec := { name := "exploreNil", fn := fun _ => fun
  | [d1, d2, d3] => { results := [.lit (.bool false)], args := [d1, d2, d3] }
  | _ => none }
def ExploreNilWrongFalsely : Prop := exploreNilRow.holds Tryz.pinned (OpenSpec.ofChange exploreNilWrong)

/- THE SECOND FORM. 'bulk': how many values and letters a reading holds, each counted each time it is reached (what is shared counts as often as it is met; a slice's spare places count too). A statement '..UptoSaid' is the law's where the arguments, and the package variables that the reading takes, are together of bulk at most 1048576: NARROWER than '..Said'. Prove '..Said' where nothing that the law and all that it calls make is longer than what came in: it says more and counts as full. Else prove '..UptoSaid'. A law counts once. -/
mutual
def uptoBulk {H : Type} : DataW H → Nat
  | .lit (.string bytes) => bytes.length + 1
  | .lit _ => 1
  | .nil => 1
  | .ptr d => uptoBulk d + 1
  | .slice elems spare => uptoBulkAll elems + uptoBulkAll spare + 1
  | .agg parts => uptoBulkAll parts + 1
  | .iface _ d => uptoBulk d + 1
  | .map entries => uptoBulkEntries entries + 1
  | .held _ => 1
def uptoBulkAll {H : Type} : List (DataW H) → Nat
  | [] => 0
  | d :: r => uptoBulk d + uptoBulkAll r
def uptoBulkEntries {H : Type} : List (Lit × DataW H) → Nat
  | [] => 0
  | x :: r => uptoBulkEntry x + uptoBulkEntries r
def uptoBulkEntry {H : Type} : Lit × DataW H → Nat
  | (.string bytes, d) => bytes.length + uptoBulk d + 1
  | (_, d) => uptoBulk d + 1
 end
def uptoSmall : (H : Type) → List (DataW H) → Bool := fun _ ds => decide (uptoBulkAll ds ≤ 1048576)
def OpenSpec.upto (s : _root_.Go.ChangeSpec) : _root_.Go.OpenSpec := { _root_.Go.OpenSpec.ofChange s with cond := some uptoSmall }

/-- 'phrasebooklaw33.ProductLoops', WHERE WHAT IT READS IS OF BULK AT MOST 1048576: true; the input reads as it did. -/
def productLoopsUptoRow : OpenClaim := { program := "ytkphhjekfimmlaagreat", sum := "6ff34ac34558be80d4bec7dc92b9c84ea0439ef8522c063052030bf7caca9c49", func := "phrasebook/phrasebooklaw33.ProductLoops", spec := "productLoops", unfollowed := true, recurses := true, apart := false, narrowed := true }
def ProductLoopsUptoSaid : Prop := productLoopsUptoRow.holds Tryz.pinned (OpenSpec.upto productLoopsSpec)

/-- 'phrasebooklaw33.ProductBack', WHERE WHAT IT READS IS OF BULK AT MOST 1048576: true; the input reads as it did. -/
def productBackUptoRow : OpenClaim := { program := "ytkphhjekfimmlaagreat", sum := "6ff34ac34558be80d4bec7dc92b9c84ea0439ef8522c063052030bf7caca9c49", func := "phrasebook/phrasebooklaw33.ProductBack", spec := "productBack", unfollowed := true, recurses := true, apart := false, narrowed := true }
def ProductBackUptoSaid : Prop := productBackUptoRow.holds Tryz.pinned (OpenSpec.upto productBackSpec)

/-- 'phrasebooklaw33.ProductRefuses', WHERE WHAT IT READS IS OF BULK AT MOST 1048576: true; the input reads as it did. -/
def productRefusesUptoRow : OpenClaim := { program := "ytkphhjekfimmlaagreat", sum := "6ff34ac34558be80d4bec7dc92b9c84ea0439ef8522c063052030bf7caca9c49", func := "phrasebook/phrasebooklaw33.ProductRefuses", spec := "productRefuses", unfollowed := true, recurses := true, apart := false, narrowed := true }
def ProductRefusesUptoSaid : Prop := productRefusesUptoRow.holds Tryz.pinned (OpenSpec.upto productRefusesSpec)

/-- 'phrasebooklaw33.ProductDecodes', WHERE WHAT IT READS IS OF BULK AT MOST 1048576: true; the input reads as it did. -/
def productDecodesUptoRow : OpenClaim := { program := "ytkphhjekfimmlaagreat", sum := "6ff34ac34558be80d4bec7dc92b9c84ea0439ef8522c063052030bf7caca9c49", func := "phrasebook/phrasebooklaw33.ProductDecodes", spec := "productDecodes", unfollowed := true, recurses := true, apart := false, narrowed := true }
def ProductDecodesUptoSaid : Prop := productDecodesUptoRow.holds Tryz.pinned (OpenSpec.upto productDecodesSpec)

/-- 'phrasebooklaw34.ExploreSearches', WHERE WHAT IT READS IS OF BULK AT MOST 1048576: true; the input reads as it did. -/
def exploreSearchesUptoRow : OpenClaim := { program := "ytkphhjekfimmlaagreat", sum := "6ff34ac34558be80d4bec7dc92b9c84ea0439ef8522c063052030bf7caca9c49", func := "phrasebook/phrasebooklaw34.ExploreSearches", spec := "exploreSearches", unfollowed := true, recurses := true, apart := false, narrowed := true }
def ExploreSearchesUptoSaid : Prop := exploreSearchesUptoRow.holds Tryz.pinned (OpenSpec.upto exploreSearchesSpec)

/-- 'phrasebooklaw34.ExploreLoops', WHERE WHAT IT READS IS OF BULK AT MOST 1048576: true; the input reads as it did. -/
def exploreLoopsUptoRow : OpenClaim := { program := "ytkphhjekfimmlaagreat", sum := "6ff34ac34558be80d4bec7dc92b9c84ea0439ef8522c063052030bf7caca9c49", func := "phrasebook/phrasebooklaw34.ExploreLoops", spec := "exploreLoops", unfollowed := true, recurses := true, apart := false, narrowed := true }
def ExploreLoopsUptoSaid : Prop := exploreLoopsUptoRow.holds Tryz.pinned (OpenSpec.upto exploreLoopsSpec)

/-- 'phrasebooklaw34.ExploreReaches', WHERE WHAT IT READS IS OF BULK AT MOST 1048576: true; the input reads as it did. -/
def exploreReachesUptoRow : OpenClaim := { program := "ytkphhjekfimmlaagreat", sum := "6ff34ac34558be80d4bec7dc92b9c84ea0439ef8522c063052030bf7caca9c49", func := "phrasebook/phrasebooklaw34.ExploreReaches", spec := "exploreReaches", unfollowed := true, recurses := true, apart := false, narrowed := true }
def ExploreReachesUptoSaid : Prop := exploreReachesUptoRow.holds Tryz.pinned (OpenSpec.upto exploreReachesSpec)

/-- 'phrasebooklaw33.ProductPlays', WHERE WHAT IT READS IS OF BULK AT MOST 1048576: true; the input reads as it did. -/
def productPlaysUptoRow : OpenClaim := { program := "ytkphhjekfimmlaagreat", sum := "6ff34ac34558be80d4bec7dc92b9c84ea0439ef8522c063052030bf7caca9c49", func := "phrasebook/phrasebooklaw33.ProductPlays", spec := "productPlays", unfollowed := true, recurses := true, apart := false, narrowed := true }
def ProductPlaysUptoSaid : Prop := productPlaysUptoRow.holds Tryz.pinned (OpenSpec.upto productPlaysSpec)

/-- 'phrasebooklaw33.ProductNil', WHERE WHAT IT READS IS OF BULK AT MOST 1048576: true; the input reads as it did. -/
def productNilUptoRow : OpenClaim := { program := "ytkphhjekfimmlaagreat", sum := "6ff34ac34558be80d4bec7dc92b9c84ea0439ef8522c063052030bf7caca9c49", func := "phrasebook/phrasebooklaw33.ProductNil", spec := "productNil", unfollowed := true, recurses := true, apart := false, narrowed := true }
def ProductNilUptoSaid : Prop := productNilUptoRow.holds Tryz.pinned (OpenSpec.upto productNilSpec)

/-- 'phrasebooklaw34.ExploreNil', WHERE WHAT IT READS IS OF BULK AT MOST 1048576: true; the input reads as it did. -/
def exploreNilUptoRow : OpenClaim := { program := "ytkphhjekfimmlaagreat", sum := "6ff34ac34558be80d4bec7dc92b9c84ea0439ef8522c063052030bf7caca9c49", func := "phrasebook/phrasebooklaw34.ExploreNil", spec := "exploreNil", unfollowed := true, recurses := true, apart := false, narrowed := true }
def ExploreNilUptoSaid : Prop := exploreNilUptoRow.holds Tryz.pinned (OpenSpec.upto exploreNilSpec)

end Rows
end Go.Proofs.YtkphhjekfimmlaaGreat
