/-
  No cell of these rows narrows 'for every input' (looked for: loops, veiled, ifaces, maps, wideKeys, modest, calm, conditions, laid).
  DERIVED. THE GIVEN ROWS OF THIS SEAT. 8 by the template 'for every input the law returns true; each argument reads behind the call as it read before'; 0 by the template 'total and deterministic' (their statements: YtefpfcheafbfdaaTotals.lean).
  GIVEN WITH THE SEED: the statements are not yours to turn. If you find one false, say at which input.
  Laid BY PROGRAM, IN A SANDBOX (cutbox-rows.mjs): the forced cells as the released guide's own fill.sh prints them over the translation a0e34699932a2460… (all of the seat's roots in one cut). By AI agents, Wed Nov 11 2026. No macro, syntax, notation, axiom, sorry.
-/
import Derived.Test.YtefpfcheafbfdaaChecked
import GoSem.Claim
import GoSem.ClaimJoined
import GoSem.ClaimMapViews
import Derived.JoinedTies
import Derived.KernelRfl
namespace Go.Proofs.Ytefpfcheafbfdaa
/- THE CELL 'sum', in the pinned program and in every row, IS THE sha256 OF THE DUMP (.gsa) THAT YtefpfcheafbfdaaProg.lean LOADS. Nothing in Lean hashes anything: it is a label: what it is worth is what the hold of that sum in a sandbox is worth. -/
noncomputable def Try.pinned : Pinned := { name := "ytefpfcheafbfdaa", sum := "a0e34699932a246036b2ae8c02325576246fcfacf788382bbc503581686b9d63", checked := Try.checked }
namespace Rows
def none {H : Type} : Left H := { results := [], args := [] }

/-- 'phrasebooklaw27.TrieNews': WHATEVER THE INPUT: true; the input reads as it did. -/
def trieNewsSpec : ChangeSpec := { name := "trieNews", fn := fun _ => fun
  | [d1, d2, d3] => { results := [.lit (.bool true)], args := [d1, d2, d3] }
  | _ => none }
def trieNewsRow : OpenClaim := { program := "ytefpfcheafbfdaa", sum := "a0e34699932a246036b2ae8c02325576246fcfacf788382bbc503581686b9d63", func := "phrasebook/phrasebooklaw27.TrieNews", spec := "trieNews", unfollowed := true, recurses := true, apart := false }
def TrieNewsSaid : Prop := trieNewsRow.holds Try.pinned (OpenSpec.ofChange trieNewsSpec)

/-- ITS FALSE NEIGHBOUR: 'it returns false'. Refute it at one input. -/
def trieNewsWrong : ChangeSpec := { name := "trieNews", fn := fun _ => fun
  | [d1, d2, d3] => { results := [.lit (.bool false)], args := [d1, d2, d3] }
  | _ => none }
def TrieNewsWrongFalsely : Prop := trieNewsRow.holds Try.pinned (OpenSpec.ofChange trieNewsWrong)

/-- 'phrasebooklaw27.TriePlays': WHATEVER THE INPUT: true; the input reads as it did. -/
def triePlaysSpec : ChangeSpec := { name := "triePlays", fn := fun _ => fun
  | [d1, d2, d3] => { results := [.lit (.bool true)], args := [d1, d2, d3] }
  | _ => none }
def triePlaysRow : OpenClaim := { program := "ytefpfcheafbfdaa", sum := "a0e34699932a246036b2ae8c02325576246fcfacf788382bbc503581686b9d63", func := "phrasebook/phrasebooklaw27.TriePlays", spec := "triePlays", unfollowed := true, recurses := true, apart := false }
def TriePlaysSaid : Prop := triePlaysRow.holds Try.pinned (OpenSpec.ofChange triePlaysSpec)

/-- ITS FALSE NEIGHBOUR: 'it returns false'. Refute it at one input. -/
def triePlaysWrong : ChangeSpec := { name := "triePlays", fn := fun _ => fun
  | [d1, d2, d3] => { results := [.lit (.bool false)], args := [d1, d2, d3] }
  | _ => none }
def TriePlaysWrongFalsely : Prop := triePlaysRow.holds Try.pinned (OpenSpec.ofChange triePlaysWrong)

/-- 'phrasebooklaw27.TrieWords': WHATEVER THE INPUT: true; the input reads as it did. -/
def trieWordsSpec : ChangeSpec := { name := "trieWords", fn := fun _ => fun
  | [d1, d2, d3] => { results := [.lit (.bool true)], args := [d1, d2, d3] }
  | _ => none }
def trieWordsRow : OpenClaim := { program := "ytefpfcheafbfdaa", sum := "a0e34699932a246036b2ae8c02325576246fcfacf788382bbc503581686b9d63", func := "phrasebook/phrasebooklaw27.TrieWords", spec := "trieWords", unfollowed := true, recurses := true, apart := false }
def TrieWordsSaid : Prop := trieWordsRow.holds Try.pinned (OpenSpec.ofChange trieWordsSpec)

/-- ITS FALSE NEIGHBOUR: 'it returns false'. Refute it at one input. -/
def trieWordsWrong : ChangeSpec := { name := "trieWords", fn := fun _ => fun
  | [d1, d2, d3] => { results := [.lit (.bool false)], args := [d1, d2, d3] }
  | _ => none }
def TrieWordsWrongFalsely : Prop := trieWordsRow.holds Try.pinned (OpenSpec.ofChange trieWordsWrong)

/-- 'phrasebooklaw27.TrieFull': WHATEVER THE INPUT: true; the input reads as it did. -/
def trieFullSpec : ChangeSpec := { name := "trieFull", fn := fun _ => fun
  | [d1, d2] => { results := [.lit (.bool true)], args := [d1, d2] }
  | _ => none }
def trieFullRow : OpenClaim := { program := "ytefpfcheafbfdaa", sum := "a0e34699932a246036b2ae8c02325576246fcfacf788382bbc503581686b9d63", func := "phrasebook/phrasebooklaw27.TrieFull", spec := "trieFull", unfollowed := true, recurses := true, apart := false }
def TrieFullSaid : Prop := trieFullRow.holds Try.pinned (OpenSpec.ofChange trieFullSpec)

/-- ITS FALSE NEIGHBOUR: 'it returns false'. Refute it at one input. -/
def trieFullWrong : ChangeSpec := { name := "trieFull", fn := fun _ => fun
  | [d1, d2] => { results := [.lit (.bool false)], args := [d1, d2] }
  | _ => none }
def TrieFullWrongFalsely : Prop := trieFullRow.holds Try.pinned (OpenSpec.ofChange trieFullWrong)

/-- 'phrasebooklaw27.TrieCopies': WHATEVER THE INPUT: true; the input reads as it did. -/
def trieCopiesSpec : ChangeSpec := { name := "trieCopies", fn := fun _ => fun
  | [d1, d2, d3] => { results := [.lit (.bool true)], args := [d1, d2, d3] }
  | _ => none }
def trieCopiesRow : OpenClaim := { program := "ytefpfcheafbfdaa", sum := "a0e34699932a246036b2ae8c02325576246fcfacf788382bbc503581686b9d63", func := "phrasebook/phrasebooklaw27.TrieCopies", spec := "trieCopies", unfollowed := true, recurses := true, apart := false }
def TrieCopiesSaid : Prop := trieCopiesRow.holds Try.pinned (OpenSpec.ofChange trieCopiesSpec)

/-- ITS FALSE NEIGHBOUR: 'it returns false'. Refute it at one input. -/
def trieCopiesWrong : ChangeSpec := { name := "trieCopies", fn := fun _ => fun
  | [d1, d2, d3] => { results := [.lit (.bool false)], args := [d1, d2, d3] }
  | _ => none }
def TrieCopiesWrongFalsely : Prop := trieCopiesRow.holds Try.pinned (OpenSpec.ofChange trieCopiesWrong)

/-- 'phrasebooklaw27.TrieNone': WHATEVER THE INPUT: true; the input reads as it did. -/
def trieNoneSpec : ChangeSpec := { name := "trieNone", fn := fun _ => fun
  | [d1, d2] => { results := [.lit (.bool true)], args := [d1, d2] }
  | _ => none }
def trieNoneRow : OpenClaim := { program := "ytefpfcheafbfdaa", sum := "a0e34699932a246036b2ae8c02325576246fcfacf788382bbc503581686b9d63", func := "phrasebook/phrasebooklaw27.TrieNone", spec := "trieNone", unfollowed := true, recurses := true, apart := false }
def TrieNoneSaid : Prop := trieNoneRow.holds Try.pinned (OpenSpec.ofChange trieNoneSpec)

/-- ITS FALSE NEIGHBOUR: 'it returns false'. Refute it at one input. -/
def trieNoneWrong : ChangeSpec := { name := "trieNone", fn := fun _ => fun
  | [d1, d2] => { results := [.lit (.bool false)], args := [d1, d2] }
  | _ => none }
def TrieNoneWrongFalsely : Prop := trieNoneRow.holds Try.pinned (OpenSpec.ofChange trieNoneWrong)

/-- 'phrasebooklaw27.TrieDecodes': WHATEVER THE INPUT: true; the input reads as it did. -/
def trieDecodesSpec : ChangeSpec := { name := "trieDecodes", fn := fun _ => fun
  | [d] => { results := [.lit (.bool true)], args := [d] }
  | _ => none }
def trieDecodesRow : OpenClaim := { program := "ytefpfcheafbfdaa", sum := "a0e34699932a246036b2ae8c02325576246fcfacf788382bbc503581686b9d63", func := "phrasebook/phrasebooklaw27.TrieDecodes", spec := "trieDecodes", unfollowed := true, recurses := true, apart := false }
def TrieDecodesSaid : Prop := trieDecodesRow.holds Try.pinned (OpenSpec.ofChange trieDecodesSpec)

/-- ITS FALSE NEIGHBOUR: 'it returns false'. Refute it at one input. -/
def trieDecodesWrong : ChangeSpec := { name := "trieDecodes", fn := fun _ => fun
  | [d] => { results := [.lit (.bool false)], args := [d] }
  | _ => none }
def TrieDecodesWrongFalsely : Prop := trieDecodesRow.holds Try.pinned (OpenSpec.ofChange trieDecodesWrong)

/-- 'phrasebooklaw27.TrieHolds': WHATEVER THE INPUT: true; the input reads as it did. -/
def trieHoldsSpec : ChangeSpec := { name := "trieHolds", fn := fun _ => fun
  | [d1, d2] => { results := [.lit (.bool true)], args := [d1, d2] }
  | _ => none }
def trieHoldsRow : OpenClaim := { program := "ytefpfcheafbfdaa", sum := "a0e34699932a246036b2ae8c02325576246fcfacf788382bbc503581686b9d63", func := "phrasebook/phrasebooklaw27.TrieHolds", spec := "trieHolds", unfollowed := true, recurses := true, apart := false }
def TrieHoldsSaid : Prop := trieHoldsRow.holds Try.pinned (OpenSpec.ofChange trieHoldsSpec)

/-- ITS FALSE NEIGHBOUR: 'it returns false'. Refute it at one input. -/
def trieHoldsWrong : ChangeSpec := { name := "trieHolds", fn := fun _ => fun
  | [d1, d2] => { results := [.lit (.bool false)], args := [d1, d2] }
  | _ => none }
def TrieHoldsWrongFalsely : Prop := trieHoldsRow.holds Try.pinned (OpenSpec.ofChange trieHoldsWrong)

/- THE SECOND FORM. 'bulk': how many values and letters a reading holds, each counted each time it is reached (what is shared counts as often as it is met; a slice's spare places count too). A statement '..UptoSaid' is the law's where the arguments, and the package variables that the reading takes, are together of bulk at most 1048576: NARROWER than '..Said'. Prove '..Said' where nothing that the law and all that it calls make is longer than what came in: it says more and counts as full. Else prove '..UptoSaid'. A law counts once. -/
mutual
def uptoBulk {H : Type} : DataW H → Nat
  | .lit (.string bytes) => bytes.length + 1
  | .lit _ => 1
  | .nil => 1
  | .ptr d => uptoBulk d + 1
  | .slice elems spare => uptoBulkAll elems + uptoBulkAll spare + 1
  | .agg parts => uptoBulkAll parts + 1
  | .iface _ d => uptoBulk d + 1
  | .map entries => uptoBulkEntries entries + 1
  | .held _ => 1
def uptoBulkAll {H : Type} : List (DataW H) → Nat
  | [] => 0
  | d :: r => uptoBulk d + uptoBulkAll r
def uptoBulkEntries {H : Type} : List (Lit × DataW H) → Nat
  | [] => 0
  | x :: r => uptoBulkEntry x + uptoBulkEntries r
def uptoBulkEntry {H : Type} : Lit × DataW H → Nat
  | (.string bytes, d) => bytes.length + uptoBulk d + 1
  | (_, d) => uptoBulk d + 1
 end
def uptoSmall : (H : Type) → List (DataW H) → Bool := fun _ ds => decide (uptoBulkAll ds ≤ 1048576)
def OpenSpec.upto (s : _root_.Go.ChangeSpec) : _root_.Go.OpenSpec := { _root_.Go.OpenSpec.ofChange s with cond := some uptoSmall }

/-- 'phrasebooklaw27.TrieNews', WHERE WHAT IT READS IS OF BULK AT MOST 1048576: true; the input reads as it did. -/
def trieNewsUptoRow : OpenClaim := { program := "ytefpfcheafbfdaa", sum := "a0e34699932a246036b2ae8c02325576246fcfacf788382bbc503581686b9d63", func := "phrasebook/phrasebooklaw27.TrieNews", spec := "trieNews", unfollowed := true, recurses := true, apart := false, narrowed := true }
def TrieNewsUptoSaid : Prop := trieNewsUptoRow.holds Try.pinned (OpenSpec.upto trieNewsSpec)

/-- 'phrasebooklaw27.TriePlays', WHERE WHAT IT READS IS OF BULK AT MOST 1048576: true; the input reads as it did. -/
def triePlaysUptoRow : OpenClaim := { program := "ytefpfcheafbfdaa", sum := "a0e34699932a246036b2ae8c02325576246fcfacf788382bbc503581686b9d63", func := "phrasebook/phrasebooklaw27.TriePlays", spec := "triePlays", unfollowed := true, recurses := true, apart := false, narrowed := true }
def TriePlaysUptoSaid : Prop := triePlaysUptoRow.holds Try.pinned (OpenSpec.upto triePlaysSpec)

/-- 'phrasebooklaw27.TrieWords', WHERE WHAT IT READS IS OF BULK AT MOST 1048576: true; the input reads as it did. -/
def trieWordsUptoRow : OpenClaim := { program := "ytefpfcheafbfdaa", sum := "a0e34699932a246036b2ae8c02325576246fcfacf788382bbc503581686b9d63", func := "phrasebook/phrasebooklaw27.TrieWords", spec := "trieWords", unfollowed := true, recurses := true, apart := false, narrowed := true }
def TrieWordsUptoSaid : Prop := trieWordsUptoRow.holds Try.pinned (OpenSpec.upto trieWordsSpec)

/-- 'phrasebooklaw27.TrieFull', WHERE WHAT IT READS IS OF BULK AT MOST 1048576: true; the input reads as it did. -/
def trieFullUptoRow : OpenClaim := { program := "ytefpfcheafbfdaa", sum := "a0e34699932a246036b2ae8c02325576246fcfacf788382bbc503581686b9d63", func := "phrasebook/phrasebooklaw27.TrieFull", spec := "trieFull", unfollowed := true, recurses := true, apart := false, narrowed := true }
def TrieFullUptoSaid : Prop := trieFullUptoRow.holds Try.pinned (OpenSpec.upto trieFullSpec)

/-- 'phrasebooklaw27.TrieCopies', WHERE WHAT IT READS IS OF BULK AT MOST 1048576: true; the input reads as it did. -/
def trieCopiesUptoRow : OpenClaim := { program := "ytefpfcheafbfdaa", sum := "a0e34699932a246036b2ae8c02325576246fcfacf788382bbc503581686b9d63", func := "phrasebook/phrasebooklaw27.TrieCopies", spec := "trieCopies", unfollowed := true, recurses := true, apart := false, narrowed := true }
def TrieCopiesUptoSaid : Prop := trieCopiesUptoRow.holds Try.pinned (OpenSpec.upto trieCopiesSpec)

/-- 'phrasebooklaw27.TrieNone', WHERE WHAT IT READS IS OF BULK AT MOST 1048576: true; the input reads as it did. -/
def trieNoneUptoRow : OpenClaim := { program := "ytefpfcheafbfdaa", sum := "a0e34699932a246036b2ae8c02325576246fcfacf788382bbc503581686b9d63", func := "phrasebook/phrasebooklaw27.TrieNone", spec := "trieNone", unfollowed := true, recurses := true, apart := false, narrowed := true }
def TrieNoneUptoSaid : Prop := trieNoneUptoRow.holds Try.pinned (OpenSpec.upto trieNoneSpec)

/-- 'phrasebooklaw27.TrieDecodes', WHERE WHAT IT READS IS OF BULK AT MOST 1048576: true; the input reads as it did. -/
def trieDecodesUptoRow : OpenClaim := { program := "ytefpfcheafbfdaa", sum := "a0e34699932a246036b2ae8c02325576246fcfacf788382bbc503581686b9d63", func := "phrasebook/phrasebooklaw27.TrieDecodes", spec := "trieDecodes", unfollowed := true, recurses := true, apart := false, narrowed := true }
def TrieDecodesUptoSaid : Prop := trieDecodesUptoRow.holds Try.pinned (OpenSpec.upto trieDecodesSpec)

/-- 'phrasebooklaw27.TrieHolds', WHERE WHAT IT READS IS OF BULK AT MOST 1048576: true; the input reads as it did. -/
def trieHoldsUptoRow : OpenClaim := { program := "ytefpfcheafbfdaa", sum := "a0e34699932a246036b2ae8c02325576246fcfacf788382bbc503581686b9d63", func := "phrasebook/phrasebooklaw27.TrieHolds", spec := "trieHolds", unfollowed := true, recurses := true, apart := false, narrowed := true }
def TrieHoldsUptoSaid : Prop := trieHoldsUptoRow.holds Try.pinned (OpenSpec.upto trieHoldsSpec)

end Rows
end Go.Proofs.Ytefpfcheafbfdaa
