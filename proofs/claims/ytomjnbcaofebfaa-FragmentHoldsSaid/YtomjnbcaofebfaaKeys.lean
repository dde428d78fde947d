/- The keys of a map, in order. -/
import Derived.Test.YtomjnbcaofebfaaIMap
import Derived.Test.YtomjnbcaofebfaaLays
import Derived.Shelf.SortM.Plain
import Derived.Shelf.SortM.SortNone
namespace Go.Proofs.Ytomjnbcaofebfaa
open Go.RowKit Go.Maps Go.Sort Go.Shelf

/-- v reads as these whole numbers, in memory of its own -/
def IntsTo (w : World) (L : List Int) (v : Value) (w' : World) : Prop := w'.ownsRow w.heap.size 3 1 v L.length (L.map (Value.int .i64)) ∧ Frm [] w w'
def sortK {α : Type} (S : List (Int × α)) : List Int := (keysI S).mergeSort (fun x y => decide (x ≤ y))
theorem sortK_length {α : Type} (S : List (Int × α)) : (sortK S).length = S.length := by simp [sortK, keysI]
theorem Try.sortsA (m : Nat) : AnyZI.SortsIn Try.prog Try.sortedA_ren Fence.wide m :=
  ⟨fun blk off cap ss W hH hblk hsz => callsIn_wide.2 (AnyM.slices_Sort_int Try.sortA blk off cap ss W hH hblk hsz),
   fun p cap W => callsIn_wide.2 (AnyM.slices_Sort_int_none Try.sortA p cap W)⟩
theorem keysA_any (mb : Option Nat) (W : World) : Calls Try.prog 44 #[.map mb] W (Ret (.func (.func 53) #[] #[.pointer (some ⟨W.heap.size, 0, none⟩)]) (W.alloc (.cells #[.map mb] 56) = ·)) :=
  callsIn_wide.1 ((AnyZI.keys_in Try.keysA Fence.wide 5 trivial rfl mb W).mono fun _ _ ⟨h1, h2⟩ => ⟨h1, h2.symm⟩)
theorem keysB_any (mb : Option Nat) (W : World) : Calls Try.prog 54 #[.map mb] W (Ret (.func (.func 61) #[] #[.pointer (some ⟨W.heap.size, 0, none⟩)]) (W.alloc (.cells #[.map mb] 73) = ·)) :=
  callsIn_wide.1 ((AnyZI.keys_in Try.keysB Fence.wide 5 trivial rfl mb W).mono fun _ _ ⟨h1, h2⟩ => ⟨h1, h2.symm⟩)
section
variable {α : Type} {S : List (Int × α)} {F : Int → α → Value} {b N : Nat} {w : World}
set_option maxHeartbeats 1000000 in
theorem sortedA_any (hm : IM w b N S F) (hc : S.length ≤ 1000) : Calls Try.prog 43 #[.func (.func 53) #[] #[.pointer (some ⟨w.heap.size, 0, none⟩)]] (w.alloc (.cells #[.map (some b)] 56)) (RetV (IntsTo w (sortK S))) := by
  obtain ⟨D0, hown, hsz, hks⟩ := hm.keys
  have hbl := hown.lt
  have hseq : SeqGives Fence.wide 2 Try.prog 53 #[.pointer (some ⟨w.heap.size, 0, none⟩)] encZ (fun ss => ss.Perm (intKeys D0)) (Maps.size D0) (w.alloc (.cells #[.map (some b)] 56)) :=
    AnyZI.keys_gives (ρ := Try.keysA_ren) { Try.keysA with } Fence.wide _ trivial rfl (by omega) w.heap.size b N D0 _ (by simp) (by simp) (by
      obtain ⟨es, clock, hb, Ft, hs, hD⟩ := hown
      exact ⟨es, clock, (Below.heap_alloc _ _ b hbl).trans hb, Ft, hs, hD⟩)
  have cS := AnyZI.sorted_in Try.sortedA Fence.wide 5 trivial trivial trivial trivial rfl (by omega) (Try.sortsA _) (enters_of Try.func52 (by kernel_rfl) rfl) 53 #[.pointer (some ⟨w.heap.size, 0, none⟩)] trivial (enters_of Try.func53 (by kernel_rfl) rfl) _ _ (by unfold maxLen; omega) (by omega) _ hseq
  change CallsIn _ _ Try.prog 43 _ _ _ at cS
  refine (callsIn_wide.1 cS).mono ?_
  rintro e w' ⟨v, ss, rfl, hS, hrow, hnil, hb⟩
  obtain ⟨h1, h2⟩ := hks ss hS
  rw [h1, h2] at hrow
  refine ⟨v, rfl, ?_, ((Frm.refl [] w).alloc _).trans (Frm.of_below hb [])⟩
  have hr := own_low hrow (show w.heap.size ≤ _ by simp)
  rw [sortK_length]; exact hr
set_option maxHeartbeats 1000000 in
theorem sortedB_any (hm : IM w b N S F) (hc : S.length ≤ 1000) : Calls Try.prog 43 #[.func (.func 61) #[] #[.pointer (some ⟨w.heap.size, 0, none⟩)]] (w.alloc (.cells #[.map (some b)] 73)) (RetV (IntsTo w (sortK S))) := by
  obtain ⟨D0, hown, hsz, hks⟩ := hm.keys
  have hbl := hown.lt
  have hseq : SeqGives Fence.wide 2 Try.prog 61 #[.pointer (some ⟨w.heap.size, 0, none⟩)] encZ (fun ss => ss.Perm (intKeys D0)) (Maps.size D0) (w.alloc (.cells #[.map (some b)] 73)) :=
    AnyZI.keys_gives (ρ := Try.keysB_ren) { Try.keysB with } Fence.wide _ trivial rfl (by omega) w.heap.size b N D0 _ (by simp) (by simp) (by
      obtain ⟨es, clock, hb, Ft, hs, hD⟩ := hown
      exact ⟨es, clock, (Below.heap_alloc _ _ b hbl).trans hb, Ft, hs, hD⟩)
  have cS := AnyZI.sorted_in Try.sortedA Fence.wide 5 trivial trivial trivial trivial rfl (by omega) (Try.sortsA _) (enters_of Try.func52 (by kernel_rfl) rfl) 61 #[.pointer (some ⟨w.heap.size, 0, none⟩)] trivial (enters_of Try.func61 (by kernel_rfl) rfl) _ _ (by unfold maxLen; omega) (by omega) _ hseq
  change CallsIn _ _ Try.prog 43 _ _ _ at cS
  refine (callsIn_wide.1 cS).mono ?_
  rintro e w' ⟨v, ss, rfl, hS, hrow, hnil, hb⟩
  obtain ⟨h1, h2⟩ := hks ss hS
  rw [h1, h2] at hrow
  refine ⟨v, rfl, ?_, ((Frm.refl [] w).alloc _).trans (Frm.of_below hb [])⟩
  have hr := own_low hrow (show w.heap.size ≤ _ by simp)
  rw [sortK_length]; exact hr
theorem keys32_any (hm : IM w b N S F) (hc : S.length ≤ 1000) : Calls Try.prog 32 #[.map (some b)] w (RetV (IntsTo w (sortK S))) := by
  have CS := Lib.hid (sortedA_any hm hc)
  clear hm
  go_enter Try.func32, Try.ntmps32
  go_wp2_with (first
    | (go_at_call 44; go_must (refine (keysA_any _ _).mono ?_; rintro e w' ⟨rfl, rfl⟩))
    | (go_at_call 43; go_must (refine CS.out.mono ?_; rintro e w2 ⟨v, rfl, hv⟩; obtain ⟨ao, cp, rfl⟩ := own_shape hv.1; have HV := Lib.hid hv; clear hv)))
  go_ret
  exact ⟨_, rfl, HV.out⟩
theorem keys45_any (hm : IM w b N S F) (hc : S.length ≤ 1000) : Calls Try.prog 45 #[.map (some b)] w (RetV (IntsTo w (sortK S))) := by
  have CS := Lib.hid (sortedB_any hm hc)
  clear hm
  go_enter Try.func45, Try.ntmps45
  go_wp2_with (first
    | (go_at_call 54; go_must (refine (keysB_any _ _).mono ?_; rintro e w' ⟨rfl, rfl⟩))
    | (go_at_call 43; go_must (refine CS.out.mono ?_; rintro e w2 ⟨v, rfl, hv⟩; obtain ⟨ao, cp, rfl⟩ := own_shape hv.1; have HV := Lib.hid hv; clear hv)))
  go_ret
  exact ⟨_, rfl, HV.out⟩
end
end Go.Proofs.Ytomjnbcaofebfaa
