/-
  No cell of these rows narrows 'for every input' (looked for: loops, veiled, ifaces, maps, wideKeys, modest, calm, conditions, laid).
  DERIVED. THE GIVEN ROWS OF THIS SEAT. 5 by the template 'for every input the law returns true; each argument reads behind the call as it read before'; 0 by the template 'total and deterministic' (their statements: YtomjnbcaofebfaaTotals.lean).
  GIVEN WITH THE SEED: the statements are not yours to turn. If you find one false, say at which input.
  Laid BY PROGRAM, IN A SANDBOX (cutbox-rows.mjs): the forced cells as the released guide's own fill.sh prints them over the translation 1af1363167f8efb3… (all of the seat's roots in one cut). By AI agents, Wed Nov 11 2026. No macro, syntax, notation, axiom, sorry.
-/
import Derived.Test.YtomjnbcaofebfaaChecked
import GoSem.Claim
import GoSem.ClaimJoined
import GoSem.ClaimMapViews
import Derived.JoinedTies
import Derived.KernelRfl
namespace Go.Proofs.Ytomjnbcaofebfaa
/- THE CELL 'sum', in the pinned program and in every row, IS THE sha256 OF THE DUMP (.gsa) THAT YtomjnbcaofebfaaProg.lean LOADS. Nothing in Lean hashes anything: it is a label: what it is worth is what the hold of that sum in a sandbox is worth. -/
noncomputable def Try.pinned : Pinned := { name := "ytomjnbcaofebfaa", sum := "1af1363167f8efb3370fabb3c978d730c1f15d0979fef5d1d88b8e3136e1be80", checked := Try.checked }
namespace Rows
def none {H : Type} : Left H := { results := [], args := [] }

/-- 'phrasebooklaw24.FragmentSplits': WHATEVER THE INPUT: true; the input reads as it did. -/
def fragmentSplitsSpec : ChangeSpec := { name := "fragmentSplits", fn := fun _ => fun
  | [d1, d2, d3] => { results := [.lit (.bool true)], args := [d1, d2, d3] }
  | _ => none }
def fragmentSplitsRow : OpenClaim := { program := "ytomjnbcaofebfaa", sum := "1af1363167f8efb3370fabb3c978d730c1f15d0979fef5d1d88b8e3136e1be80", func := "phrasebook/phrasebooklaw24.FragmentSplits", spec := "fragmentSplits", unfollowed := true, recurses := true, apart := false }
def FragmentSplitsSaid : Prop := fragmentSplitsRow.holds Try.pinned (OpenSpec.ofChange fragmentSplitsSpec)

/-- ITS FALSE NEIGHBOUR: 'it returns false'. Refute it at one input. -/
def fragmentSplitsWrong : ChangeSpec := { name := "fragmentSplits", fn := fun _ => fun
  | [d1, d2, d3] => { results := [.lit (.bool false)], args := [d1, d2, d3] }
  | _ => none }
def FragmentSplitsWrongFalsely : Prop := fragmentSplitsRow.holds Try.pinned (OpenSpec.ofChange fragmentSplitsWrong)

/-- 'phrasebooklaw24.FragmentHolds': WHATEVER THE INPUT: true; the input reads as it did. -/
def fragmentHoldsSpec : ChangeSpec := { name := "fragmentHolds", fn := fun _ => fun
  | [d1, d2, d3, d4] => { results := [.lit (.bool true)], args := [d1, d2, d3, d4] }
  | _ => none }
def fragmentHoldsRow : OpenClaim := { program := "ytomjnbcaofebfaa", sum := "1af1363167f8efb3370fabb3c978d730c1f15d0979fef5d1d88b8e3136e1be80", func := "phrasebook/phrasebooklaw24.FragmentHolds", spec := "fragmentHolds", unfollowed := true, recurses := true, apart := false }
def FragmentHoldsSaid : Prop := fragmentHoldsRow.holds Try.pinned (OpenSpec.ofChange fragmentHoldsSpec)

/-- ITS FALSE NEIGHBOUR: 'it returns false'. Refute it at one input. -/
def fragmentHoldsWrong : ChangeSpec := { name := "fragmentHolds", fn := fun _ => fun
  | [d1, d2, d3, d4] => { results := [.lit (.bool false)], args := [d1, d2, d3, d4] }
  | _ => none }
def FragmentHoldsWrongFalsely : Prop := fragmentHoldsRow.holds Try.pinned (OpenSpec.ofChange fragmentHoldsWrong)

/-- 'phrasebooklaw24.FragmentPacks': WHATEVER THE INPUT: true; the input reads as it did. -/
def fragmentPacksSpec : ChangeSpec := { name := "fragmentPacks", fn := fun _ => fun
  | [d1, d2] => { results := [.lit (.bool true)], args := [d1, d2] }
  | _ => none }
def fragmentPacksRow : OpenClaim := { program := "ytomjnbcaofebfaa", sum := "1af1363167f8efb3370fabb3c978d730c1f15d0979fef5d1d88b8e3136e1be80", func := "phrasebook/phrasebooklaw24.FragmentPacks", spec := "fragmentPacks", unfollowed := true, recurses := true, apart := false }
def FragmentPacksSaid : Prop := fragmentPacksRow.holds Try.pinned (OpenSpec.ofChange fragmentPacksSpec)

/-- ITS FALSE NEIGHBOUR: 'it returns false'. Refute it at one input. -/
def fragmentPacksWrong : ChangeSpec := { name := "fragmentPacks", fn := fun _ => fun
  | [d1, d2] => { results := [.lit (.bool false)], args := [d1, d2] }
  | _ => none }
def FragmentPacksWrongFalsely : Prop := fragmentPacksRow.holds Try.pinned (OpenSpec.ofChange fragmentPacksWrong)

/-- 'phrasebooklaw24.FragmentCodes': WHATEVER THE INPUT: true; the input reads as it did. -/
def fragmentCodesSpec : ChangeSpec := { name := "fragmentCodes", fn := fun _ => fun
  | [d1, d2, d3, d4] => { results := [.lit (.bool true)], args := [d1, d2, d3, d4] }
  | _ => none }
def fragmentCodesRow : OpenClaim := { program := "ytomjnbcaofebfaa", sum := "1af1363167f8efb3370fabb3c978d730c1f15d0979fef5d1d88b8e3136e1be80", func := "phrasebook/phrasebooklaw24.FragmentCodes", spec := "fragmentCodes", unfollowed := true, recurses := true, apart := false }
def FragmentCodesSaid : Prop := fragmentCodesRow.holds Try.pinned (OpenSpec.ofChange fragmentCodesSpec)

/-- ITS FALSE NEIGHBOUR: 'it returns false'. Refute it at one input. -/
def fragmentCodesWrong : ChangeSpec := { name := "fragmentCodes", fn := fun _ => fun
  | [d1, d2, d3, d4] => { results := [.lit (.bool false)], args := [d1, d2, d3, d4] }
  | _ => none }
def FragmentCodesWrongFalsely : Prop := fragmentCodesRow.holds Try.pinned (OpenSpec.ofChange fragmentCodesWrong)

/-- 'phrasebooklaw24.FragmentNone': WHATEVER THE INPUT: true; the input reads as it did. -/
def fragmentNoneSpec : ChangeSpec := { name := "fragmentNone", fn := fun _ => fun
  | [d1, d2] => { results := [.lit (.bool true)], args := [d1, d2] }
  | _ => none }
def fragmentNoneRow : OpenClaim := { program := "ytomjnbcaofebfaa", sum := "1af1363167f8efb3370fabb3c978d730c1f15d0979fef5d1d88b8e3136e1be80", func := "phrasebook/phrasebooklaw24.FragmentNone", spec := "fragmentNone", inPlace := ["maps.clone"], unfollowed := true, recurses := true, apart := false }
def FragmentNoneSaid : Prop := fragmentNoneRow.holds Try.pinned (OpenSpec.ofChange fragmentNoneSpec)

/-- ITS FALSE NEIGHBOUR: 'it returns false'. Refute it at one input. -/
def fragmentNoneWrong : ChangeSpec := { name := "fragmentNone", fn := fun _ => fun
  | [d1, d2] => { results := [.lit (.bool false)], args := [d1, d2] }
  | _ => none }
def FragmentNoneWrongFalsely : Prop := fragmentNoneRow.holds Try.pinned (OpenSpec.ofChange fragmentNoneWrong)

/- THE SECOND FORM. 'bulk': how many values and letters a reading holds, each counted each time it is reached (what is shared counts as often as it is met; a slice's spare places count too). A statement '..UptoSaid' is the law's where the arguments, and the package variables that the reading takes, are together of bulk at most 1048576: NARROWER than '..Said'. Prove '..Said' where nothing that the law and all that it calls make is longer than what came in: it says more and counts as full. Else prove '..UptoSaid'. A law counts once. -/
mutual
def uptoBulk {H : Type} : DataW H → Nat
  | .lit (.string bytes) => bytes.length + 1
  | .lit _ => 1
  | .nil => 1
  | .ptr d => uptoBulk d + 1
  | .slice elems spare => uptoBulkAll elems + uptoBulkAll spare + 1
  | .agg parts => uptoBulkAll parts + 1
  | .iface _ d => uptoBulk d + 1
  | .map entries => uptoBulkEntries entries + 1
  | .held _ => 1
def uptoBulkAll {H : Type} : List (DataW H) → Nat
  | [] => 0
  | d :: r => uptoBulk d + uptoBulkAll r
def uptoBulkEntries {H : Type} : List (Lit × DataW H) → Nat
  | [] => 0
  | x :: r => uptoBulkEntry x + uptoBulkEntries r
def uptoBulkEntry {H : Type} : Lit × DataW H → Nat
  | (.string bytes, d) => bytes.length + uptoBulk d + 1
  | (_, d) => uptoBulk d + 1
 end
def uptoSmall : (H : Type) → List (DataW H) → Bool := fun _ ds => decide (uptoBulkAll ds ≤ 1048576)
def OpenSpec.upto (s : _root_.Go.ChangeSpec) : _root_.Go.OpenSpec := { _root_.Go.OpenSpec.ofChange s with cond := some uptoSmall }

/-- 'phrasebooklaw24.FragmentSplits', WHERE WHAT IT READS IS OF BULK AT MOST 1048576: true; the input reads as it did. -/
def fragmentSplitsUptoRow : OpenClaim := { program := "ytomjnbcaofebfaa", sum := "1af1363167f8efb3370fabb3c978d730c1f15d0979fef5d1d88b8e3136e1be80", func := "phrasebook/phrasebooklaw24.FragmentSplits", spec := "fragmentSplits", unfollowed := true, recurses := true, apart := false, narrowed := true }
def FragmentSplitsUptoSaid : Prop := fragmentSplitsUptoRow.holds Try.pinned (OpenSpec.upto fragmentSplitsSpec)

/-- 'phrasebooklaw24.FragmentHolds', WHERE WHAT IT READS IS OF BULK AT MOST 1048576: true; the input reads as it did. -/
def fragmentHoldsUptoRow : OpenClaim := { program := "ytomjnbcaofebfaa", sum := "1af1363167f8efb3370fabb3c978d730c1f15d0979fef5d1d88b8e3136e1be80", func := "phrasebook/phrasebooklaw24.FragmentHolds", spec := "fragmentHolds", unfollowed := true, recurses := true, apart := false, narrowed := true }
def FragmentHoldsUptoSaid : Prop := fragmentHoldsUptoRow.holds Try.pinned (OpenSpec.upto fragmentHoldsSpec)

/-- 'phrasebooklaw24.FragmentPacks', WHERE WHAT IT READS IS OF BULK AT MOST 1048576: true; the input reads as it did. -/
def fragmentPacksUptoRow : OpenClaim := { program := "ytomjnbcaofebfaa", sum := "1af1363167f8efb3370fabb3c978d730c1f15d0979fef5d1d88b8e3136e1be80", func := "phrasebook/phrasebooklaw24.FragmentPacks", spec := "fragmentPacks", unfollowed := true, recurses := true, apart := false, narrowed := true }
def FragmentPacksUptoSaid : Prop := fragmentPacksUptoRow.holds Try.pinned (OpenSpec.upto fragmentPacksSpec)

/-- 'phrasebooklaw24.FragmentCodes', WHERE WHAT IT READS IS OF BULK AT MOST 1048576: true; the input reads as it did. -/
def fragmentCodesUptoRow : OpenClaim := { program := "ytomjnbcaofebfaa", sum := "1af1363167f8efb3370fabb3c978d730c1f15d0979fef5d1d88b8e3136e1be80", func := "phrasebook/phrasebooklaw24.FragmentCodes", spec := "fragmentCodes", unfollowed := true, recurses := true, apart := false, narrowed := true }
def FragmentCodesUptoSaid : Prop := fragmentCodesUptoRow.holds Try.pinned (OpenSpec.upto fragmentCodesSpec)

/-- 'phrasebooklaw24.FragmentNone', WHERE WHAT IT READS IS OF BULK AT MOST 1048576: true; the input reads as it did. -/
def fragmentNoneUptoRow : OpenClaim := { program := "ytomjnbcaofebfaa", sum := "1af1363167f8efb3370fabb3c978d730c1f15d0979fef5d1d88b8e3136e1be80", func := "phrasebook/phrasebooklaw24.FragmentNone", spec := "fragmentNone", inPlace := ["maps.clone"], unfollowed := true, recurses := true, apart := false, narrowed := true }
def FragmentNoneUptoSaid : Prop := fragmentNoneUptoRow.holds Try.pinned (OpenSpec.upto fragmentNoneSpec)

end Rows
end Go.Proofs.Ytomjnbcaofebfaa
