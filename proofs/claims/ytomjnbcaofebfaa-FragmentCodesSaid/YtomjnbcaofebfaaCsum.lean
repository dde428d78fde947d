/- The reference's Sum of kind 2. -/
import Derived.Test.YtomjnbcaofebfaaCrc
namespace Go.Proofs.Ytomjnbcaofebfaa
open Go.RowKit Go.BigFrame

theorem csum_any (v : Value) (l : List UInt8) (w : World) (h : Byts w v l) (hn : l.length ≤ 1000000) : Calls Try.prog 38 #[.int .i64 2, v] w (Ret (.tuple #[.int .i64 (crcL l), .int .i64 0]) (w = ·)) := by
  have CC := Lib.hid (crc_any v l w h hn)
  clear h
  go_enter Try.func38, Try.ntmps38
  go_wp2_with (go_at_call 48; go_must (refine CC.out.mono ?_; rintro e w' ⟨rfl, rfl⟩))
  go_ret2
  exact ⟨rfl, rfl⟩
end Go.Proofs.Ytomjnbcaofebfaa
