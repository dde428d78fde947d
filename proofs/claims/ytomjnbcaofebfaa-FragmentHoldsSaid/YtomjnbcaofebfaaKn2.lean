/- What known's adds leave. -/
import Derived.Test.YtomjnbcaofebfaaKn1
namespace Go.Proofs.Ytomjnbcaofebfaa
open Go.RowKit Go.Maps Go.BigFrame

def S1 : St := [(7, ⟨3, [(2, [101])]⟩)]
def S2 : St := [(7, ⟨3, [(2, [101])]⟩), (8, ⟨2, [(0, [97, 98, 99])]⟩)]
def S3 : St := [(7, ⟨3, [(2, [101]), (0, [97, 98])]⟩), (8, ⟨2, [(0, [97, 98, 99])]⟩)]
def S4 : St := [(8, ⟨2, [(0, [97, 98, 99])]⟩)]
theorem a1 : addS 2 10 [] ⟨7, 2, 3, [101]⟩ = (S1, [], false, 0) := by rfl
theorem a2 : addS 2 10 S1 ⟨7, 2, 3, [101]⟩ = (S1, [], false, 0) := by rfl
theorem a3 : addS 2 10 S1 ⟨7, 2, 3, [102]⟩ = (S1, [], false, 8) := by rfl
theorem a4 : addS 2 10 S1 ⟨7, 0, 2, [97]⟩ = (S1, [], false, 8) := by rfl
theorem a5 : addS 2 10 S1 ⟨8, 0, 2, [97, 98, 99]⟩ = (S2, [], false, 0) := by rfl
theorem a6 : addS 2 10 S2 ⟨9, 0, 2, [97]⟩ = (S2, [], false, 7) := by rfl
theorem a7 : addS 2 10 S2 ⟨7, 0, 3, [97, 98, 99, 100, 101, 102, 103]⟩ = (S2, [], false, 7) := by rfl
theorem a8 : addS 2 10 S2 ⟨7, 0, 3, [97, 98]⟩ = (S3, [], false, 0) := by rfl
theorem wh : whole [(2, [101]), (0, [97, 98]), (1, [99, 100])] = [97, 98, 99, 100, 101] := by
  have : sortK [((2 : Int), ([101] : List UInt8)), (0, [97, 98]), (1, [99, 100])] = [0, 1, 2] := by
    unfold sortK keysI
    simp [List.mergeSort, List.MergeSort.Internal.splitInTwo]
  unfold whole vals
  rw [this]
  rfl
theorem a9 : addS 2 10 S3 ⟨7, 1, 3, [99, 100]⟩ = (S4, [97, 98, 99, 100, 101], true, 0) := by
  have : addS 2 10 S3 ⟨7, 1, 3, [99, 100]⟩ = (S4, whole [(2, [101]), (0, [97, 98]), (1, [99, 100])], true, 0) := by rfl
  rw [this, wh]
theorem m1 : misK [(2, [101])] (3 : Int).toNat = [0, 1] := by rfl
theorem h1' : (heldS S1 : Int) = 1 := by rfl
theorem o4 : sortK S4 = [8] := by
  unfold sortK keysI S4
  simp
end Go.Proofs.Ytomjnbcaofebfaa
