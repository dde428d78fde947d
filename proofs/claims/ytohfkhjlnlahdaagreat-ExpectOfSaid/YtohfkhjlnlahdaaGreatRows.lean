/-
  No cell of these rows narrows 'for every input' (looked for: loops, veiled, ifaces, maps, wideKeys, modest, calm, conditions, laid).
  DERIVED. THE GIVEN ROWS OF THIS SEAT. 11 by the template 'for every input the law returns true; each argument reads behind the call as it read before'; 0 by the template 'total and deterministic' (their statements: YtohfkhjlnlahdaaGreatTotals.lean).
  GIVEN WITH THE SEED: the statements are not yours to turn. If you find one false, say at which input.
  Laid BY PROGRAM, IN A SANDBOX (cutbox-rows.mjs): the forced cells as the released guide's own fill.sh prints them over the translation bf555e2d79a3d129… (all of the seat's roots in one cut). By AI agents, Wed Nov 11 2026. No macro, syntax, notation, axiom, sorry.
-/
import Derived.Test.YtohfkhjlnlahdaaGreatChecked
import GoSem.Claim
import GoSem.ClaimJoined
import GoSem.ClaimMapViews
import Derived.JoinedTies
import Derived.KernelRfl
namespace Go.Proofs.YtohfkhjlnlahdaaGreat
/- THE CELL 'sum', in the pinned program and in every row, IS THE sha256 OF THE DUMP (.gsa) THAT YtohfkhjlnlahdaaGreatProg.lean LOADS. Nothing in Lean hashes anything: it is a label: what it is worth is what the hold of that sum in a sandbox is worth. -/
noncomputable def Tryz.pinned : Pinned := { name := "ytohfkhjlnlahdaagreat", sum := "bf555e2d79a3d129653c4cf95aa66de4e9af6a761095ad251d826b701eaa478f", checked := Tryz.checked }
namespace Rows
def none {H : Type} : Left H := { results := [], args := [] }

/-- 'phrasebooklaw36.ExpectCovers': WHATEVER THE INPUT: true; the input reads as it did. -/
def expectCoversSpec : ChangeSpec := { name := "expectCovers", fn := fun _ => fun
  | [d1, d2, d3] => { results := [.lit (.bool true)], args := [d1, d2, d3] }
  | _ => none }
def expectCoversRow : OpenClaim := { program := "ytohfkhjlnlahdaagreat", sum := "bf555e2d79a3d129653c4cf95aa66de4e9af6a761095ad251d826b701eaa478f", func := "phrasebook/phrasebooklaw36.ExpectCovers", spec := "expectCovers", unfollowed := true, recurses := true, apart := false }
def ExpectCoversSaid : Prop := expectCoversRow.holds Tryz.pinned (OpenSpec.ofChange expectCoversSpec)

/-- ITS FALSE NEIGHBOUR: 'it returns false'. Refute it at one input. -/
def expectCoversWrong : ChangeSpec := { name := "expectCovers", fn := fun _ => fun
  | [d1, d2, d3] => { results := [.lit (.bool false)], args := [d1, d2, d3] }
  | _ => none }
def ExpectCoversWrongFalsely : Prop := expectCoversRow.holds Tryz.pinned (OpenSpec.ofChange expectCoversWrong)

/-- 'phrasebooklaw36.ExpectNever': WHATEVER THE INPUT: true; the input reads as it did. -/
def expectNeverSpec : ChangeSpec := { name := "expectNever", fn := fun _ => fun
  | [d] => { results := [.lit (.bool true)], args := [d] }
  | _ => none }
def expectNeverRow : OpenClaim := { program := "ytohfkhjlnlahdaagreat", sum := "bf555e2d79a3d129653c4cf95aa66de4e9af6a761095ad251d826b701eaa478f", func := "phrasebook/phrasebooklaw36.ExpectNever", spec := "expectNever", unfollowed := true, recurses := true, apart := false }
def ExpectNeverSaid : Prop := expectNeverRow.holds Tryz.pinned (OpenSpec.ofChange expectNeverSpec)

/-- ITS FALSE NEIGHBOUR: 'it returns false'. Refute it at one input. -/
def expectNeverWrong : ChangeSpec := { name := "expectNever", fn := fun _ => fun
  | [d] => { results := [.lit (.bool false)], args := [d] }
  | _ => none }
def ExpectNeverWrongFalsely : Prop := expectNeverRow.holds Tryz.pinned (OpenSpec.ofChange expectNeverWrong)

/-- 'phrasebooklaw36.ExpectOf': WHATEVER THE INPUT: true; the input reads as it did. -/
def expectOfSpec : ChangeSpec := { name := "expectOf", fn := fun _ => fun
  | [d1, d2] => { results := [.lit (.bool true)], args := [d1, d2] }
  | _ => none }
def expectOfRow : OpenClaim := { program := "ytohfkhjlnlahdaagreat", sum := "bf555e2d79a3d129653c4cf95aa66de4e9af6a761095ad251d826b701eaa478f", func := "phrasebook/phrasebooklaw36.ExpectOf", spec := "expectOf", unfollowed := true, recurses := true, apart := false }
def ExpectOfSaid : Prop := expectOfRow.holds Tryz.pinned (OpenSpec.ofChange expectOfSpec)

/-- ITS FALSE NEIGHBOUR: 'it returns false'. Refute it at one input. -/
def expectOfWrong : ChangeSpec := { name := "expectOf", fn := fun _ => fun
  | [d1, d2] => { results := [.lit (.bool false)], args := [d1, d2] }
  | _ => none }
def ExpectOfWrongFalsely : Prop := expectOfRow.holds Tryz.pinned (OpenSpec.ofChange expectOfWrong)

/-- 'phrasebooklaw36.ExpectFirst': WHATEVER THE INPUT: true; the input reads as it did. -/
def expectFirstSpec : ChangeSpec := { name := "expectFirst", fn := fun _ => fun
  | [d1, d2] => { results := [.lit (.bool true)], args := [d1, d2] }
  | _ => none }
def expectFirstRow : OpenClaim := { program := "ytohfkhjlnlahdaagreat", sum := "bf555e2d79a3d129653c4cf95aa66de4e9af6a761095ad251d826b701eaa478f", func := "phrasebook/phrasebooklaw36.ExpectFirst", spec := "expectFirst", unfollowed := true, recurses := true, apart := false }
def ExpectFirstSaid : Prop := expectFirstRow.holds Tryz.pinned (OpenSpec.ofChange expectFirstSpec)

/-- ITS FALSE NEIGHBOUR: 'it returns false'. Refute it at one input. -/
def expectFirstWrong : ChangeSpec := { name := "expectFirst", fn := fun _ => fun
  | [d1, d2] => { results := [.lit (.bool false)], args := [d1, d2] }
  | _ => none }
def ExpectFirstWrongFalsely : Prop := expectFirstRow.holds Tryz.pinned (OpenSpec.ofChange expectFirstWrong)

/-- 'phrasebooklaw36.ExpectLoops': WHATEVER THE INPUT: true; the input reads as it did. -/
def expectLoopsSpec : ChangeSpec := { name := "expectLoops", fn := fun _ => fun
  | [d1, d2, d3] => { results := [.lit (.bool true)], args := [d1, d2, d3] }
  | _ => none }
def expectLoopsRow : OpenClaim := { program := "ytohfkhjlnlahdaagreat", sum := "bf555e2d79a3d129653c4cf95aa66de4e9af6a761095ad251d826b701eaa478f", func := "phrasebook/phrasebooklaw36.ExpectLoops", spec := "expectLoops", unfollowed := true, recurses := true, apart := false }
def ExpectLoopsSaid : Prop := expectLoopsRow.holds Tryz.pinned (OpenSpec.ofChange expectLoopsSpec)

/-- ITS FALSE NEIGHBOUR: 'it returns false'. Refute it at one input. -/
def expectLoopsWrong : ChangeSpec := { name := "expectLoops", fn := fun _ => fun
  | [d1, d2, d3] => { results := [.lit (.bool false)], args := [d1, d2, d3] }
  | _ => none }
def ExpectLoopsWrongFalsely : Prop := expectLoopsRow.holds Tryz.pinned (OpenSpec.ofChange expectLoopsWrong)

/-- 'phrasebooklaw35.WaitFinds': WHATEVER THE INPUT: true; the input reads as it did. -/
def waitFindsSpec : ChangeSpec := { name := "waitFinds", fn := fun _ => fun
  | [d1, d2] => { results := [.lit (.bool true)], args := [d1, d2] }
  | _ => none }
def waitFindsRow : OpenClaim := { program := "ytohfkhjlnlahdaagreat", sum := "bf555e2d79a3d129653c4cf95aa66de4e9af6a761095ad251d826b701eaa478f", func := "phrasebook/phrasebooklaw35.WaitFinds", spec := "waitFinds", unfollowed := true, recurses := true, apart := false }
def WaitFindsSaid : Prop := waitFindsRow.holds Tryz.pinned (OpenSpec.ofChange waitFindsSpec)

/-- ITS FALSE NEIGHBOUR: 'it returns false'. Refute it at one input. -/
def waitFindsWrong : ChangeSpec := { name := "waitFinds", fn := fun _ => fun
  | [d1, d2] => { results := [.lit (.bool false)], args := [d1, d2] }
  | _ => none }
def WaitFindsWrongFalsely : Prop := waitFindsRow.holds Tryz.pinned (OpenSpec.ofChange waitFindsWrong)

/-- 'phrasebooklaw35.WaitLoops': WHATEVER THE INPUT: true; the input reads as it did. -/
def waitLoopsSpec : ChangeSpec := { name := "waitLoops", fn := fun _ => fun
  | [d1, d2, d3] => { results := [.lit (.bool true)], args := [d1, d2, d3] }
  | _ => none }
def waitLoopsRow : OpenClaim := { program := "ytohfkhjlnlahdaagreat", sum := "bf555e2d79a3d129653c4cf95aa66de4e9af6a761095ad251d826b701eaa478f", func := "phrasebook/phrasebooklaw35.WaitLoops", spec := "waitLoops", unfollowed := true, recurses := true, apart := false }
def WaitLoopsSaid : Prop := waitLoopsRow.holds Tryz.pinned (OpenSpec.ofChange waitLoopsSpec)

/-- ITS FALSE NEIGHBOUR: 'it returns false'. Refute it at one input. -/
def waitLoopsWrong : ChangeSpec := { name := "waitLoops", fn := fun _ => fun
  | [d1, d2, d3] => { results := [.lit (.bool false)], args := [d1, d2, d3] }
  | _ => none }
def WaitLoopsWrongFalsely : Prop := waitLoopsRow.holds Tryz.pinned (OpenSpec.ofChange waitLoopsWrong)

/-- 'phrasebooklaw35.WaitProves': WHATEVER THE INPUT: true; the input reads as it did. -/
def waitProvesSpec : ChangeSpec := { name := "waitProves", fn := fun _ => fun
  | [d1, d2, d3, d4, d5] => { results := [.lit (.bool true)], args := [d1, d2, d3, d4, d5] }
  | _ => none }
def waitProvesRow : OpenClaim := { program := "ytohfkhjlnlahdaagreat", sum := "bf555e2d79a3d129653c4cf95aa66de4e9af6a761095ad251d826b701eaa478f", func := "phrasebook/phrasebooklaw35.WaitProves", spec := "waitProves", unfollowed := true, recurses := true, apart := false }
def WaitProvesSaid : Prop := waitProvesRow.holds Tryz.pinned (OpenSpec.ofChange waitProvesSpec)

/-- ITS FALSE NEIGHBOUR: 'it returns false'. Refute it at one input. -/
def waitProvesWrong : ChangeSpec := { name := "waitProves", fn := fun _ => fun
  | [d1, d2, d3, d4, d5] => { results := [.lit (.bool false)], args := [d1, d2, d3, d4, d5] }
  | _ => none }
def WaitProvesWrongFalsely : Prop := waitProvesRow.holds Tryz.pinned (OpenSpec.ofChange waitProvesWrong)

/-- 'phrasebooklaw35.WaitHolds': WHATEVER THE INPUT: true; the input reads as it did. -/
def waitHoldsSpec : ChangeSpec := { name := "waitHolds", fn := fun _ => fun
  | [d1, d2, d3, d4] => { results := [.lit (.bool true)], args := [d1, d2, d3, d4] }
  | _ => none }
def waitHoldsRow : OpenClaim := { program := "ytohfkhjlnlahdaagreat", sum := "bf555e2d79a3d129653c4cf95aa66de4e9af6a761095ad251d826b701eaa478f", func := "phrasebook/phrasebooklaw35.WaitHolds", spec := "waitHolds", unfollowed := true, recurses := true, apart := false }
def WaitHoldsSaid : Prop := waitHoldsRow.holds Tryz.pinned (OpenSpec.ofChange waitHoldsSpec)

/-- ITS FALSE NEIGHBOUR: 'it returns false'. Refute it at one input. -/
def waitHoldsWrong : ChangeSpec := { name := "waitHolds", fn := fun _ => fun
  | [d1, d2, d3, d4] => { results := [.lit (.bool false)], args := [d1, d2, d3, d4] }
  | _ => none }
def WaitHoldsWrongFalsely : Prop := waitHoldsRow.holds Tryz.pinned (OpenSpec.ofChange waitHoldsWrong)

/-- 'phrasebooklaw35.WaitLeads': WHATEVER THE INPUT: true; the input reads as it did. -/
def waitLeadsSpec : ChangeSpec := { name := "waitLeads", fn := fun _ => fun
  | [d1, d2, d3] => { results := [.lit (.bool true)], args := [d1, d2, d3] }
  | _ => none }
def waitLeadsRow : OpenClaim := { program := "ytohfkhjlnlahdaagreat", sum := "bf555e2d79a3d129653c4cf95aa66de4e9af6a761095ad251d826b701eaa478f", func := "phrasebook/phrasebooklaw35.WaitLeads", spec := "waitLeads", unfollowed := true, recurses := true, apart := false }
def WaitLeadsSaid : Prop := waitLeadsRow.holds Tryz.pinned (OpenSpec.ofChange waitLeadsSpec)

/-- ITS FALSE NEIGHBOUR: 'it returns false'. Refute it at one input. -/
def waitLeadsWrong : ChangeSpec := { name := "waitLeads", fn := fun _ => fun
  | [d1, d2, d3] => { results := [.lit (.bool false)], args := [d1, d2, d3] }
  | _ => none }
def WaitLeadsWrongFalsely : Prop := waitLeadsRow.holds Tryz.pinned (OpenSpec.ofChange waitLeadsWrong)

/-- 'phrasebooklaw35.WaitNil': WHATEVER THE INPUT: true; the input reads as it did. -/
def waitNilSpec : ChangeSpec := { name := "waitNil", fn := fun _ => fun
  | [d] => { results := [.lit (.bool true)], args := [d] }
  | _ => none }
def waitNilRow : OpenClaim := { program := "ytohfkhjlnlahdaagreat", sum := "bf555e2d79a3d129653c4cf95aa66de4e9af6a761095ad251d826b701eaa478f", func := "phrasebook/phrasebooklaw35.WaitNil", spec := "waitNil", unfollowed := true, recurses := true, apart := false }
def WaitNilSaid : Prop := waitNilRow.holds Tryz.pinned (OpenSpec.ofChange waitNilSpec)

/-- ITS FALSE NEIGHBOUR: 'it returns false'. Refute it at one input. -/
def waitNilWrong : ChangeSpec := { name := "waitNil", fn := fun _ => fun
  | [d] => { results := [.lit (.bool false)], args := [d] }
  | _ => none }
def WaitNilWrongFalsely : Prop := waitNilRow.holds Tryz.pinned (OpenSpec.ofChange waitNilWrong)

/- THE SECOND FORM. 'bulk': how many values and letters a reading holds, each counted each time it is reached (what is shared counts as often as it is met; a slice's spare places count too). A statement '..UptoSaid' is the law's where the arguments, and the package variables that the reading takes, are together of bulk at most 1048576: NARROWER than '..Said'. Prove '..Said' where nothing that the law and all that it calls make is longer than what came in: it says more and counts as full. Else prove '..UptoSaid'. A law counts once. -/
mutual
def uptoBulk {H : Type} : DataW H → Nat
  | .lit (.string bytes) => bytes.length + 1
  | .lit _ => 1
  | .nil => 1
  | .ptr d => uptoBulk d + 1
  | .slice elems spare => uptoBulkAll elems + uptoBulkAll spare + 1
  | .agg parts => uptoBulkAll parts + 1
  | .iface _ d => uptoBulk d + 1
  | .map entries => uptoBulkEntries entries + 1
  | .held _ => 1
def uptoBulkAll {H : Type} : List (DataW H) → Nat
  | [] => 0
  | d :: r => uptoBulk d + uptoBulkAll r
def uptoBulkEntries {H : Type} : List (Lit × DataW H) → Nat
  | [] => 0
  | x :: r => uptoBulkEntry x + uptoBulkEntries r
def uptoBulkEntry {H : Type} : Lit × DataW H → Nat
  | (.string bytes, d) => bytes.length + uptoBulk d + 1
  | (_, d) => uptoBulk d + 1
 end
def uptoSmall : (H : Type) → List (DataW H) → Bool := fun _ ds => decide (uptoBulkAll ds ≤ 1048576)
def OpenSpec.upto (s : _root_.Go.ChangeSpec) : _root_.Go.OpenSpec := { _root_.Go.OpenSpec.ofChange s with cond := some uptoSmall }

/-- 'phrasebooklaw36.ExpectCovers', WHERE WHAT IT READS IS OF BULK AT MOST 1048576: true; the input reads as it did. -/
def expectCoversUptoRow : OpenClaim := { program := "ytohfkhjlnlahdaagreat", sum := "bf555e2d79a3d129653c4cf95aa66de4e9af6a761095ad251d826b701eaa478f", func := "phrasebook/phrasebooklaw36.ExpectCovers", spec := "expectCovers", unfollowed := true, recurses := true, apart := false, narrowed := true }
def ExpectCoversUptoSaid : Prop := expectCoversUptoRow.holds Tryz.pinned (OpenSpec.upto expectCoversSpec)

/-- 'phrasebooklaw36.ExpectNever', WHERE WHAT IT READS IS OF BULK AT MOST 1048576: true; the input reads as it did. -/
def expectNeverUptoRow : OpenClaim := { program := "ytohfkhjlnlahdaagreat", sum := "bf555e2d79a3d129653c4cf95aa66de4e9af6a761095ad251d826b701eaa478f", func := "phrasebook/phrasebooklaw36.ExpectNever", spec := "expectNever", unfollowed := true, recurses := true, apart := false, narrowed := true }
def ExpectNeverUptoSaid : Prop := expectNeverUptoRow.holds Tryz.pinned (OpenSpec.upto expectNeverSpec)

/-- 'phrasebooklaw36.ExpectOf', WHERE WHAT IT READS IS OF BULK AT MOST 1048576: true; the input reads as it did. -/
def expectOfUptoRow : OpenClaim := { program := "ytohfkhjlnlahdaagreat", sum := "bf555e2d79a3d129653c4cf95aa66de4e9af6a761095ad251d826b701eaa478f", func := "phrasebook/phrasebooklaw36.ExpectOf", spec := "expectOf", unfollowed := true, recurses := true, apart := false, narrowed := true }
def ExpectOfUptoSaid : Prop := expectOfUptoRow.holds Tryz.pinned (OpenSpec.upto expectOfSpec)

/-- 'phrasebooklaw36.ExpectFirst', WHERE WHAT IT READS IS OF BULK AT MOST 1048576: true; the input reads as it did. -/
def expectFirstUptoRow : OpenClaim := { program := "ytohfkhjlnlahdaagreat", sum := "bf555e2d79a3d129653c4cf95aa66de4e9af6a761095ad251d826b701eaa478f", func := "phrasebook/phrasebooklaw36.ExpectFirst", spec := "expectFirst", unfollowed := true, recurses := true, apart := false, narrowed := true }
def ExpectFirstUptoSaid : Prop := expectFirstUptoRow.holds Tryz.pinned (OpenSpec.upto expectFirstSpec)

/-- 'phrasebooklaw36.ExpectLoops', WHERE WHAT IT READS IS OF BULK AT MOST 1048576: true; the input reads as it did. -/
def expectLoopsUptoRow : OpenClaim := { program := "ytohfkhjlnlahdaagreat", sum := "bf555e2d79a3d129653c4cf95aa66de4e9af6a761095ad251d826b701eaa478f", func := "phrasebook/phrasebooklaw36.ExpectLoops", spec := "expectLoops", unfollowed := true, recurses := true, apart := false, narrowed := true }
def ExpectLoopsUptoSaid : Prop := expectLoopsUptoRow.holds Tryz.pinned (OpenSpec.upto expectLoopsSpec)

/-- 'phrasebooklaw35.WaitFinds', WHERE WHAT IT READS IS OF BULK AT MOST 1048576: true; the input reads as it did. -/
def waitFindsUptoRow : OpenClaim := { program := "ytohfkhjlnlahdaagreat", sum := "bf555e2d79a3d129653c4cf95aa66de4e9af6a761095ad251d826b701eaa478f", func := "phrasebook/phrasebooklaw35.WaitFinds", spec := "waitFinds", unfollowed := true, recurses := true, apart := false, narrowed := true }
def WaitFindsUptoSaid : Prop := waitFindsUptoRow.holds Tryz.pinned (OpenSpec.upto waitFindsSpec)

/-- 'phrasebooklaw35.WaitLoops', WHERE WHAT IT READS IS OF BULK AT MOST 1048576: true; the input reads as it did. -/
def waitLoopsUptoRow : OpenClaim := { program := "ytohfkhjlnlahdaagreat", sum := "bf555e2d79a3d129653c4cf95aa66de4e9af6a761095ad251d826b701eaa478f", func := "phrasebook/phrasebooklaw35.WaitLoops", spec := "waitLoops", unfollowed := true, recurses := true, apart := false, narrowed := true }
def WaitLoopsUptoSaid : Prop := waitLoopsUptoRow.holds Tryz.pinned (OpenSpec.upto waitLoopsSpec)

/-- 'phrasebooklaw35.WaitProves', WHERE WHAT IT READS IS OF BULK AT MOST 1048576: true; the input reads as it did. -/
def waitProvesUptoRow : OpenClaim := { program := "ytohfkhjlnlahdaagreat", sum := "bf555e2d79a3d129653c4cf95aa66de4e9af6a761095ad251d826b701eaa478f", func := "phrasebook/phrasebooklaw35.WaitProves", spec := "waitProves", unfollowed := true, recurses := true, apart := false, narrowed := true }
def WaitProvesUptoSaid : Prop := waitProvesUptoRow.holds Tryz.pinned (OpenSpec.upto waitProvesSpec)

/-- 'phrasebooklaw35.WaitHolds', WHERE WHAT IT READS IS OF BULK AT MOST 1048576: true; the input reads as it did. -/
def waitHoldsUptoRow : OpenClaim := { program := "ytohfkhjlnlahdaagreat", sum := "bf555e2d79a3d129653c4cf95aa66de4e9af6a761095ad251d826b701eaa478f", func := "phrasebook/phrasebooklaw35.WaitHolds", spec := "waitHolds", unfollowed := true, recurses := true, apart := false, narrowed := true }
def WaitHoldsUptoSaid : Prop := waitHoldsUptoRow.holds Tryz.pinned (OpenSpec.upto waitHoldsSpec)

/-- 'phrasebooklaw35.WaitLeads', WHERE WHAT IT READS IS OF BULK AT MOST 1048576: true; the input reads as it did. -/
def waitLeadsUptoRow : OpenClaim := { program := "ytohfkhjlnlahdaagreat", sum := "bf555e2d79a3d129653c4cf95aa66de4e9af6a761095ad251d826b701eaa478f", func := "phrasebook/phrasebooklaw35.WaitLeads", spec := "waitLeads", unfollowed := true, recurses := true, apart := false, narrowed := true }
def WaitLeadsUptoSaid : Prop := waitLeadsUptoRow.holds Tryz.pinned (OpenSpec.upto waitLeadsSpec)

/-- 'phrasebooklaw35.WaitNil', WHERE WHAT IT READS IS OF BULK AT MOST 1048576: true; the input reads as it did. -/
def waitNilUptoRow : OpenClaim := { program := "ytohfkhjlnlahdaagreat", sum := "bf555e2d79a3d129653c4cf95aa66de4e9af6a761095ad251d826b701eaa478f", func := "phrasebook/phrasebooklaw35.WaitNil", spec := "waitNil", unfollowed := true, recurses := true, apart := false, narrowed := true }
def WaitNilUptoSaid : Prop := waitNilUptoRow.holds Tryz.pinned (OpenSpec.upto waitNilSpec)

end Rows
end Go.Proofs.YtohfkhjlnlahdaaGreat
