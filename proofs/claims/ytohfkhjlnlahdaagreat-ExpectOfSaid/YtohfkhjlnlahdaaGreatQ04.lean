/- Part of the proof. -/
import Derived.Lib.Hide
set_option linter.all false
namespace Go.Proofs.YtohfkhjlnlahdaaGreat
theorem vi {p:Prop} (h:p):RowKit.Hid p:=Lib.hid h
end Go.Proofs.YtohfkhjlnlahdaaGreat
