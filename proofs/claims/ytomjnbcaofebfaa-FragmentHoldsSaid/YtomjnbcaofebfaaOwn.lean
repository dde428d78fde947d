/- Two facts about the program that every law wants. -/
import Derived.Test.YtomjnbcaofebfaaLawKit
import Derived.Test.YtomjnbcaofebfaaRows
namespace Go.Proofs.Ytomjnbcaofebfaa
open Go.ChangeShapes Go.WideShapes Go.ChangeAt Go.RowKit

theorem Try.own : ownKnob Try.prog.godebug = none := by kernel_rfl
theorem Try.laidOut : laidOutB Try.prog = true := by kernel_rfl
end Go.Proofs.Ytomjnbcaofebfaa
